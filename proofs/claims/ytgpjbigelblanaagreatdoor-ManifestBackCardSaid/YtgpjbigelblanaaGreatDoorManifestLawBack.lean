/- ManifestBack: for every statement and place the law answers true. -/
import Derived.Test.YtgpjbigelblanaaGreatDoorManifestCame
import Derived.Test.YtgpjbigelblanaaGreatDoorManifestHeads
import Derived.IntWalk
namespace Go.Proofs.YtgpjbigelblanaaGreatDoor
open Go.RowKit Go.Maps Key Mon Mf Rw

theorem ext_take (T : List UInt8) (k : Nat) : ((⟨T.toArray⟩ : ByteArray).extract 0 k).data.toList = T.take k := by
  have h := extract_take ⟨T.toArray⟩ 0 k
  rw [Nat.zero_add] at h
  injection h with h
  rw [h]
  simp
theorem po_neT {s : List UInt8} (h : s ≠ []) : s.isEmpty = false := by cases s with | nil => exact absurd rfl h | cons x s => rfl
set_option linter.unusedSimpArgs false in
set_option linter.unusedVariables false in
set_option maxRecDepth 100000 in
set_option maxHeartbeats 4000000 in
theorem lawManifestBack_walk (p q : Int) (v : Value) (l : List R5) (cut : Int) (w : World) (hR : Rd w v l) (hc : 0 ≤ cut ∧ cut ≤ 65535) (hS : MfW w) : Calls Tryz.prog 9 #[.agg #[.int .i64 p, .int .i64 q, v], .int .u16 cut] w fun e w' => e = .returned (.bool true) ∧ Below w.heap.size w w' := by
  obtain ⟨A, cv, rfl, hcv, hcm⟩ := hR.shape
  obtain ⟨wa, hwa⟩ : ∃ wa, w.alloc (.cells #[.int .i64 p, .int .i64 q, .slice A l.length cv] tStat) = wa := ⟨_, rfl⟩
  have HA := Lib.hid (show Below w.heap.size w wa by rw [← hwa]; exact below_alloc _ _)
  have HX := Lib.hid (show wa.heap[w.heap.size]? = some (.cells #[.int .i64 p, .int .i64 q, .slice A l.length cv] tStat (0, 0)) by rw [← hwa]; exact heap_new _ _)
  have hWA := Lib.hid hwa
  have HR := Lib.hid (hR.keep HA.out); have HS := Lib.hid hS
  have HST := Lib.hid (fun W (hb : Below w.heap.size w W) => carried_any W (hS.below hb))
  clear hwa hR hS
  obtain ⟨m0, m1, m2⟩ := cell3c HX.out
  by_cases hl : (100 : Int) < l.length
  · go_enter Tryz.func9, Tryz.ntmps9
    go_upto_region 1 with (fail)
    rw [hWA.out]
    go_wp2_with fail
    refine (HST.out _ HA.out).mono ?_
    rintro e w1 ⟨rfl, hb⟩
    have HB := Lib.hid (bch HA.out hb HA.out.size)
    clear hb
    go_wp2_with fail
    go_ret
    exact ⟨rfl, HB.out⟩
  · have HPR := Lib.hid (mprint_any (.slice A l.length cv) p q l wa HR.out (HS.out.below HA.out))
    cases hv : okP p q l with
    | false =>
      have hpr : printS p q l = ([], 2) := by unfold printS; rw [hv]; simp
      rw [hpr] at HPR
      unfold printV at HPR
      by_cases hp : p = 2
      · have hpq := bneF hp
        have hvv : validB p q l = false := by unfold okP at hv; simpa [hp] using hv
        have HVV := Lib.hid (fun W (hb : Below wa.heap.size wa W) => rowsValid_any W p q (.slice A l.length cv) l (HR.out.keep hb) ((HS.out.below HA.out).below hb).pt)
        rw [hvv] at HVV
        clear hv hpr hp hvv
        go_enter Tryz.func9, Tryz.ntmps9
        go_upto_region 1 with (fail)
        rw [hWA.out]
        go_wp2_with fail
        refine HPR.out.mono ?_
        rintro e w1 ⟨rfl, hb⟩
        have HB := Lib.hid (bch HA.out hb HA.out.size)
        have HBa := Lib.hid hb
        clear m0 m1 m2
        obtain ⟨m0, m1, m2⟩ := cell3c (heap_keep HX.out hb)
        clear hb
        go_wp2_with fail
        refine (HVV.out _ HBa.out).mono ?_
        rintro e w2 ⟨rfl, hb2⟩
        have HB2 := Lib.hid (bch HB.out hb2 HB.out.size)
        clear hb2 m0 m1 m2
        go_wp2_with fail
        refine (HST.out _ HB2.out).mono ?_
        rintro e w3 ⟨rfl, hb3⟩
        have HB3 := Lib.hid (bch HB2.out hb3 HB2.out.size)
        clear hb3
        go_wp2_with fail
        go_ret
        exact ⟨rfl, HB3.out⟩
      · have hpq := bneT hp
        clear hv hpr hp
        go_enter Tryz.func9, Tryz.ntmps9
        go_upto_region 1 with (fail)
        rw [hWA.out]
        go_wp2_with fail
        refine HPR.out.mono ?_
        rintro e w1 ⟨rfl, hb⟩
        have HB := Lib.hid (bch HA.out hb HA.out.size)
        clear m0 m1 m2
        obtain ⟨m0, m1, m2⟩ := cell3c (heap_keep HX.out hb)
        clear hb
        go_wp2_with fail
        refine (HST.out _ HB.out).mono ?_
        rintro e w3 ⟨rfl, hb3⟩
        have HB3 := Lib.hid (bch HB.out hb3 HB.out.size)
        clear hb3
        go_wp2_with fail
        go_ret
        exact ⟨rfl, HB3.out⟩
    | true =>
      obtain ⟨hp, hvv⟩ : p = 2 ∧ validB p q l = true := by unfold okP at hv; simpa using hv
      subst hp
      have hpr : printS 2 q l = (Csv.printOf (table q l), 0) := by unfold printS; rw [hv]; simp
      rw [hpr] at HPR
      unfold printV at HPR
      have hlen := print_len hvv
      have hhd : (table q l).length = (ordTo l l.length).length + 2 := by have hvp := valid_parts hvv; unfold table; rw [table_len, ← refTo_all hvp.2.2.2.1 hvp.2.2.2.2, refTo_len]
      have hol := ordTo_len l l.length
      have hcsv : Csv.parse (Csv.printOf (table q l)) = (table q l, 0, 0, 0) := by rw [Csv.parse_print _ (by omega), Csv.fill_full _ (tab_full q l)]
      have HPA := Lib.hid (parse_table hvv)
      have HCUT := Lib.hid (fun k hk => parse_cut hvv k hk)
      have HVA := Lib.hid hvv
      have hne := print_ne (q := q) (l := l)
      obtain ⟨T, hT⟩ : ∃ T, Csv.printOf (table q l) = T := ⟨_, rfl⟩
      rw [hT] at HPR HPA HCUT hlen hcsv hne
      have hpos : 0 < T.length := List.length_pos_iff.2 hne
      have HCSV := Lib.hid hcsv
      have hTs : (⟨T.toArray⟩ : ByteArray).size = T.length := bytes_size T
      have HVV := Lib.hid (fun W (hb : Below wa.heap.size wa W) => rowsValid_any W 2 q (.slice A l.length cv) l (HR.out.keep hb) ((HS.out.below HA.out).below hb).pt)
      rw [hvv] at HVV
      have hTe := po_neT hne
      clear hv hpr hvv hcsv hne hT
      go_enter Tryz.func9, Tryz.ntmps9
      go_upto_region 1 with (fail)
      rw [hWA.out]
      go_wp2_with fail
      refine HPR.out.mono ?_
      rintro e w1 ⟨rfl, hb⟩
      have HBa := Lib.hid hb
      clear m0 m1 m2 HPR
      obtain ⟨m0, m1, m2⟩ := cell3c (heap_keep HX.out hb)
      clear hb
      go_wp2_with fail
      refine (HVV.out _ HBa.out).mono ?_
      rintro e w2 ⟨rfl, hb2⟩
      have HB2 := Lib.hid (bch HBa.out hb2 HBa.out.size)
      clear hb2 m0 m1 m2 HBa
      have HP1 := Lib.hid (mparse_is ⟨T.toArray⟩ T (bytes_list T) 2 q l 0 0 0 0 0 0 w2 HPA.out rfl rfl rfl ((HS.out.below HA.out).below HB2.out))
      go_wp2_with fail
      refine HP1.out.mono ?_
      rintro e w3 ⟨⟨v3, rfl, hr3⟩, hb3⟩
      obtain ⟨A3, c3, rfl, _⟩ := hr3.shape
      go_upto_region 7 with (fail)
      obtain ⟨w4, hw4⟩ : ∃ w4, w4 = (w3.alloc (.cells #[.int .i64 2, .int .i64 q, .slice A3 l.length c3] tStat)).alloc (.cells #[.int .i64 0, .int .i64 0, .int .i64 0] tRej) := ⟨_, rfl⟩
      rw [← hw4]
      have h4 := two_kept w2 w3 _ _ hb3 hw4.symm
      have HB4 := Lib.hid (bch HB2.out h4.1 HB2.out.size); have HX4 := Lib.hid h4.2.1; have HY4 := Lib.hid h4.2.2.1; have HR4 := Lib.hid (hr3.keep h4.2.2.2)
      clear hw4 h4 hb3 hr3 HP1 HB2
      generalize w3.heap.size = b3 at HX4 HY4 ⊢
      obtain ⟨m0, m1, m2⟩ := cell3c (heap_keep HX.out HB4.out)
      obtain ⟨n0, n1, n2⟩ := cell3c HX4.out
      obtain ⟨p0, p1, p2⟩ := cell3c HY4.out
      go_wp2_with fail
      refine (rowsSameT w4 (.slice A l.length cv) (.slice A3 l.length c3) l 2 q (HR.out.keep HB4.out) HR4.out (by omega)).mono ?_
      rintro e w5 ⟨rfl, hb5⟩
      have HB5 := Lib.hid (bch HB4.out hb5 HB4.out.size)
      clear hb5 m0 m1 m2 n0 n1 n2 p0 p1 p2 HB4 HX4 HY4 HR4
      go_wp2_with fail
      go_loopw [9, 10] (fun t9 t10 wr => ∃ k : Nat, t10 = .int .i64 k ∧ t9 = .int .i64 (((ordTo l k).length : Nat) : Int) ∧ k ≤ l.length ∧ Hid (Below wa.heap.size wa wr)) (fun _ t10 _ => l.length - (intOf t10).toNat)
      case atStart => exact ⟨0, rfl, rfl, by omega, HB5.out⟩
      case round =>
        obtain ⟨k, rfl, rfl, hk, HBr⟩ := hrel
        obtain ⟨m0, m1, m2⟩ := cell3c (heap_keep HX.out HBr.out)
        by_cases hkl : k < l.length
        · obtain ⟨x, hx⟩ : ∃ x, l[k]? = some x := ⟨_, List.getElem?_eq_getElem hkl⟩
          obtain ⟨g, off, n', c', e, d0, d1, d2, d3, d4⟩ := HR.out.cells HBr.out hx
          injection e with e1 e2 e3
          subst e1
          have hkI : (k : Int) < l.length := by omega
          have hkI0 : (0 : Int) ≤ k := by omega
          have hok := ordTo_len l k
          have hprev : k = 0 ∨ ∃ (j : Nat) (y : R5), k = j + 1 ∧ l[j]? = some y := by
            cases k with
            | zero => exact .inl rfl
            | succ j => exact .inr ⟨j, _, rfl, List.getElem?_eq_getElem (by omega)⟩
          clear e2 e3
          rcases hprev with rfl | ⟨j, y, rfl, hy⟩
          · have HHD := Lib.hid (show (ordTo l (0 + 1)).length = (ordTo l 0).length + 1 by rw [ordTo_succ, ordAt_yes hx rfl, List.length_append]; rfl)
            obtain ⟨n, hn⟩ : ∃ n, (ordTo l 0).length = n := ⟨_, rfl⟩
            rw [hn] at HHD hok ⊢
            have hwrap : IntKind.i64.wrap ((n : Int) + 1) = (n : Int) + 1 := IntWalk.i64_in _ (by omega)
            clear hx hn d1 d2 d3 d4
            go_wp2_with fail
            go_quiet (fail)
            go_wp2_with fail
            go_roundw
            case rel => exact ⟨0 + 1, by go_num, by rw [HHD.out]; rfl, by omega, below_dq HBr.out nq⟩
            case measure => simp [intOf]; omega
          · obtain ⟨g2, off2, n2', c2', e, y0, y1, y2, y3, y4⟩ := HR.out.cells HBr.out hy
            injection e with e1 e2 e3
            have hg2 : g2 = g ∧ off2 = off := by cases e1; exact ⟨rfl, rfl⟩
            rw [hg2.1, hg2.2] at y0 y1 y2 y3 y4
            have hj0 : (0 : Int) ≤ (j : Int) := by omega
            have hsub : IntKind.i64.wrap ((j : Int) + 1 - 1) = (j : Int) := (IntWalk.i64_in _ (by omega)).trans (by omega)
            have hj1 : (j : Int) < l.length := by omega
            have hj2 : (j : Int) + 1 < l.length := by omega
            have hjz := beqF (show ¬ (j : Int) + 1 = 0 by omega)
            obtain ⟨n, hn⟩ : ∃ n, (ordTo l (j + 1)).length = n := ⟨_, rfl⟩
            rw [hn] at hok ⊢
            have hwrap : IntKind.i64.wrap ((n : Int) + 1) = (n : Int) + 1 := IntWalk.i64_in _ (by omega)
            by_cases hh : y.1.1 = x.1.1
            · have hqh := bneF hh
              have HHD := Lib.hid (show (ordTo l (j + 1 + 1)).length = n by rw [ordTo_succ, ordAt_no hx (by rw [headAt_succ hy]; simp [hh]), List.append_nil, hn])
              clear hx hy hh hn e1 e2 e3 d1 d2 d3 d4 y1 y2 y3 y4
              go_wp2_with fail
              go_quiet (fail)
              go_wp2_with fail
              go_roundw
              case rel => exact ⟨j + 1 + 1, by go_num, by rw [HHD.out], by omega, below_dq HBr.out nq⟩
              case measure => simp [intOf]; omega
            · have hqh := bneT hh
              have HHD := Lib.hid (show (ordTo l (j + 1 + 1)).length = n + 1 by rw [ordTo_succ, ordAt_yes hx (by rw [headAt_succ hy]; simp [hh]), List.length_append, hn]; rfl)
              clear hx hy hh hn e1 e2 e3 d1 d2 d3 d4 y1 y2 y3 y4
              go_wp2_with fail
              go_quiet (fail)
              go_wp2_with fail
              go_roundw
              case rel => exact ⟨j + 1 + 1, by go_num, by rw [HHD.out]; rfl, by omega, below_dq HBr.out nq⟩
              case measure => simp [intOf]; omega
        · obtain rfl : k = l.length := by omega
          obtain ⟨N, hN⟩ : ∃ N, (ordTo l l.length).length = N := ⟨_, rfl⟩
          rw [hN] at hhd hol ⊢
          have HC := Lib.hid (fun W => (parse_any ⟨T.toArray⟩ W (by rw [hTs]; omega)).mono fun e w' h => (show (∃ v, e = .returned (.tuple #[v, .agg #[.int .i64 0, .int .i64 0, .int .i64 0]]) ∧ Rowz w' w'.heap.size v (table q l)) ∧ Below W.heap.size W w' from ⟨by
            obtain ⟨⟨v, he, hv⟩, _⟩ := h
            rw [bytes_list, HCSV.out] at he hv
            exact ⟨v, he, hv⟩, h.2⟩))
          have hwr : IntKind.i64.wrap ((N : Int) + 2) = ((N + 2 : Nat) : Int) := (IntWalk.i64_in _ (by omega)).trans (by omega)
          have hNq := beqT (rfl : ((N + 2 : Nat) : Int) = ((N + 2 : Nat) : Int))
          obtain ⟨L, hL⟩ : ∃ L, table q l = L := ⟨_, rfl⟩
          rw [hL] at HC hhd
          clear hL hN hTe
          go_wp2_with fail
          refine (HC.out _).mono ?_
          rintro e w6 ⟨⟨v6, rfl, hv6⟩, hb6⟩
          obtain ⟨Av, cv6, rfl⟩ := hv6.shape
          rw [hhd]
          go_upto_region 16 with (fail)
          obtain ⟨w7, hw7⟩ : ∃ w7, w7 = w6.alloc (.cells #[.int .i64 0, .int .i64 0, .int .i64 0] tRej) := ⟨_, rfl⟩
          rw [← hw7]
          have hb7 : Below w6.heap.size w6 w7 := by rw [hw7]; exact below_alloc _ _
          have HB7 := Lib.hid (bch (bch HBr.out hb6 HBr.out.size) hb7 (bch HBr.out hb6 HBr.out.size).size)
          have HX7 := Lib.hid (show w7.heap[w6.heap.size]? = some (.cells #[.int .i64 0, .int .i64 0, .int .i64 0] tRej (0, 0)) by rw [hw7]; exact heap_new _ _)
          clear hw7 hb6 hb7 hv6 HC
          generalize w6.heap.size = b6 at HX7 ⊢
          obtain ⟨cn, rfl⟩ : ∃ cn : Nat, cut = (cn : Int) := ⟨cut.toNat, by omega⟩
          have hmod : cn % T.length < T.length := Nat.mod_lt _ hpos
          have hm2 : ((cn : Int) % (T.length : Int)) = ((cn % T.length : Nat) : Int) := by simp
          obtain ⟨ck, hck⟩ : ∃ ck, cn % T.length = ck := ⟨_, rfl⟩
          rw [hck] at hmod hm2
          have hposI : (1 : Int) ≤ T.length := by omega
          have hckI : (ck : Int) ≤ T.length := by omega
          have hcn0 : (0 : Int) ≤ cn := by omega
          clear hck
          go_wp2_with fail
          obtain ⟨a, b, c, hpc, hc0, ha1, hb1⟩ := HCUT.out ck hmod
          obtain ⟨ai, hai⟩ : ∃ ai : Int, ai = a := ⟨_, rfl⟩
          obtain ⟨bi, hbi⟩ : ∃ bi : Int, bi = b := ⟨_, rfl⟩
          obtain ⟨ci, hci⟩ : ∃ ci : Int, ci = c := ⟨_, rfl⟩
          have HP3 := Lib.hid (mparse_is ((⟨T.toArray⟩ : ByteArray).extract 0 ck) (T.take ck) (ext_take T ck) 0 0 [] a b c ai bi ci w7 hpc hai hbi hci ((HS.out.below HA.out).below HB7.out))
          have q1 := bneT (show ¬ ci = 0 by omega)
          have q2 := decide_eq_true (show 1 ≤ ai by omega)
          have q3 := decide_eq_true (show 1 ≤ bi by omega)
          clear hpc hc0 ha1 hb1 hai hbi hci hm2
          refine HP3.out.mono ?_
          rintro e w10 ⟨⟨v10, rfl, hr10⟩, hb10⟩
          obtain ⟨A10, c10, rfl, _⟩ := hr10.shape
          go_upto_region 17 with (fail)
          obtain ⟨w11, hw11⟩ : ∃ w11, w11 = (w10.alloc (.cells #[.int .i64 0, .int .i64 0, .slice A10 0 c10] tStat)).alloc (.cells #[.int .i64 ai, .int .i64 bi, .int .i64 ci] tRej) := ⟨_, rfl⟩
          rw [← hw11]
          have h11 := two_kept w7 w10 _ _ hb10 hw11.symm
          have HB11 := Lib.hid (bch HB7.out h11.1 HB7.out.size); have HX11 := Lib.hid h11.2.1; have HY11 := Lib.hid h11.2.2.1; have HR11 := Lib.hid (hr10.keep h11.2.2.2); have HX7' := Lib.hid (heap_keep HX7.out h11.1)
          clear hw11 h11 hb10 hr10 HP3 HX7
          generalize w10.heap.size = b10 at HX11 HY11 ⊢
          obtain ⟨x0, x1, x2⟩ := cell3c HX7'.out
          obtain ⟨n0, n1, n2⟩ := cell3c HX11.out
          obtain ⟨p0, p1, p2⟩ := cell3c HY11.out
          go_wp2_with fail
          refine (rowsSameT w11 (.slice A10 0 c10) (.slice none 0 0) [] 0 0 HR11.out (Rd.nil _) (by simp)).mono ?_
          rintro e w13 ⟨rfl, hb13⟩
          have HB13 := Lib.hid (bch HB11.out hb13 HB11.out.size); have HY13 := Lib.hid (heap_keep HY11.out hb13)
          clear hb13 n0 n1 n2 x0 x1 x2 p0 p1 p2
          obtain ⟨p0, p1, p2⟩ := cell3c HY13.out
          go_wp2_with fail
          refine (HST.out _ (bch HA.out HB13.out HA.out.size)).mono ?_
          rintro e w14 ⟨rfl, hb14⟩
          have HB14 := Lib.hid (bch HA.out (bch HB13.out hb14 HB13.out.size) HA.out.size)
          clear hb14 p0 p1 p2
          go_wp2_with fail
          go_ret
          exact ⟨rfl, HB14.out⟩
end Go.Proofs.YtgpjbigelblanaaGreatDoor

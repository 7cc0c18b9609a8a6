/- StockCount: for every statement, count and row behind the law answers true. -/
import Derived.Test.YtgpjbigelblanaaDoorStockCount3
import Derived.IntWalk
namespace Go.Proofs.YtgpjbigelblanaaDoor
open Go.RowKit Go.Maps Key Mon Sk Rw

theorem own_lit2 {B : Nat} {w : World} {g : Nat} {a b : List UInt8} (hg : w.heap[g]? = some (.cells #[.string ⟨a.toArray⟩, .string ⟨b.toArray⟩] tFld (0, 0))) (hB : B ≤ g) : w.ownsRow B tFld 1 (.slice (some ⟨g, 0, none⟩) 2 2) [a, b].length ([a, b].map strV) :=
  ⟨by simp, .inr ⟨g, 2, #[.string ⟨a.toArray⟩, .string ⟨b.toArray⟩], rfl, hB, hg, Nat.le_refl _, by unfold maxLen; omega, rfl, rfl⟩⟩
theorem TabI.spot {B : Nat} {w : World} {g n c : Nat} {L : List Line} {vs : List Value} (h : TabI B w (.slice (some ⟨g, 0, none⟩) n c) L vs) {k : Nat} (hk : k < L.length) : ∃ u, w.cell? ⟨g, k, none⟩ = some u ∧ w.frozen? ⟨g, k, none⟩ = false := by
  have hlen := h.len
  rcases h.own.2 with ⟨e, _⟩ | ⟨g', cap, cur, e, hB, hg, hc, hmx, hs, hx⟩
  · cases e
  · injection e with e1 e2 e3
    injection e1 with e1
    injection e1 with e1 _ _
    subst e1
    exact ⟨_, cell_at hg k (Array.getElem?_eq_getElem (show k < cur.size by omega)), frozen_at hg k⟩
theorem rowz_snoc {B B2 : Nat} {w : World} {v v5 vb : Value} {L : List Line} {vs : List Value} {b : Line} (h : TabI B w v L vs) (ho : w.ownsRow B2 tLine 1 v5 (L.length + 1) (vs ++ [vb])) (hb : Strs w w.heap.size vb b) : Rowz w w.heap.size v5 (L ++ [b]) :=
  own_sl ho (by simp) fun k u x hu hx => by
    have hlen := h.len
    by_cases hk : k < L.length
    · rw [List.getElem?_append_left (by omega)] at hu
      rw [List.getElem?_append_left hk] at hx
      exact own_strs (h.each k u x hu hx)
    · rw [List.getElem?_append_right (by omega)] at hu
      rw [List.getElem?_append_right (by omega)] at hx
      have h0 : k - L.length = 0 := by
        have := (List.getElem?_eq_some_iff.1 hx).1
        simpa using this
      rw [hlen, h0] at hu
      rw [h0] at hx
      simp only [List.getElem?_cons_zero, Option.some.injEq] at hu hx
      subst hu; subst hx
      exact hb
set_option linter.unusedSimpArgs false in
set_option linter.unusedVariables false in
set_option maxRecDepth 100000 in
set_option maxHeartbeats 4000000 in
theorem lawStockCount_walk (p q : Int) (v : Value) (l : List R5) (cnt : Nat) (vb : Value) (b : Line) (w : World) (hR : Rd w v l) (hc : cnt < 256) (hb : Strs w w.heap.size vb b) (hS : SkW w) : Calls Tryd.prog 3 #[.agg #[.int .i64 p, .int .i64 q, v], .int .u8 (cnt : Int), vb] w fun e w' => e = .returned (.bool true) ∧ Below w.heap.size w w' := by
  obtain ⟨j0, hj, hy0, hy1, hy2⟩ := info_parts line_info
  obtain ⟨A, cv, rfl, hcv, hcm⟩ := hR.shape
  obtain ⟨Ab, cb, rfl⟩ := hb.shape
  obtain ⟨wa, hwa⟩ : ∃ wa, w.alloc (.cells #[.int .i64 p, .int .i64 q, .slice A l.length cv] tStat) = wa := ⟨_, rfl⟩
  have HA := Lib.hid (show Below w.heap.size w wa by rw [← hwa]; exact below_alloc _ _)
  have HX := Lib.hid (show wa.heap[w.heap.size]? = some (.cells #[.int .i64 p, .int .i64 q, .slice A l.length cv] tStat (0, 0)) by rw [← hwa]; exact heap_new _ _)
  have hWA := Lib.hid hwa
  have HR := Lib.hid (hR.keep HA.out); have HS := Lib.hid hS; have HBB := Lib.hid hb
  have HST := Lib.hid (fun W (hb : Below w.heap.size w W) => stocked_any W (hS.below hb))
  clear hwa hR hS hb
  obtain ⟨m0, m1, m2⟩ := cell3c HX.out
  by_cases hl : (60 : Int) < l.length
  · go_enter Tryd.func3, Tryd.ntmps3
    go_upto_region 1 with (fail)
    rw [hWA.out]
    go_wp2_with fail
    refine (HST.out _ HA.out).mono ?_
    rintro e w1 ⟨rfl, hb⟩
    have HB := Lib.hid (bch HA.out hb HA.out.size)
    clear hb
    go_wp2_with fail
    go_ret
    exact ⟨rfl, HB.out⟩
  by_cases hbl : (5 : Int) < b.length
  · go_enter Tryd.func3, Tryd.ntmps3
    go_upto_region 1 with (fail)
    rw [hWA.out]
    go_wp2_with fail
    refine (HST.out _ HA.out).mono ?_
    rintro e w1 ⟨rfl, hb⟩
    have HB := Lib.hid (bch HA.out hb HA.out.size)
    clear hb
    go_wp2_with fail
    go_ret
    exact ⟨rfl, HB.out⟩
  have hb5 : b.length ≤ 5 := by omega
  have HPR := Lib.hid (sprint_any (.slice A l.length cv) p q l wa HR.out (HS.out.below HA.out))
  go_enter Tryd.func3, Tryd.ntmps3
  go_upto_region 1 with (fail)
  rw [hWA.out]
  go_wp2_with fail
  go_loopw [7] (fun i wr => ∃ k : Nat, i = .int .i64 k ∧ k ≤ b.length ∧ wr = wa ∧ Hid (∀ j f, j < k → b[j]? = some f → f.length ≤ 20)) (fun i _ => b.length - (intOf i).toNat)
  case atStart => exact ⟨0, rfl, by omega, rfl, fun j f hj => by omega⟩
  case round =>
    obtain ⟨k, rfl, hk, rfl, HALL⟩ := hrel
    by_cases hkl : k < b.length
    · obtain ⟨f, hf⟩ : ∃ f, b[k]? = some f := ⟨_, List.getElem?_eq_getElem hkl⟩
      obtain ⟨gb, ob, e, _, hcell⟩ := HBB.out.at HA.out hf
      subst e
      have hkI : (k : Int) < b.length := by omega
      have hfs : (⟨f.toArray⟩ : ByteArray).size = f.length := bytes_size f
      have HF := Lib.hid hf
      clear hf
      by_cases hf20 : (20 : Int) < f.length
      · go_wp2_with fail
        refine (HST.out _ HA.out).mono ?_
        rintro e w1 ⟨rfl, hb⟩
        have HB := Lib.hid (bch HA.out hb HA.out.size)
        clear hb
        go_wp2_with fail
        go_ret
        exact ⟨rfl, HB.out⟩
      · go_wp2_with fail
        go_roundw
        case rel => exact ⟨k + 1, by go_num, by omega, trivial, fun j f' hj hf' => by
          by_cases hjk : j < k
          · exact HALL.out j f' hjk hf'
          · obtain rfl : j = k := by omega
            rw [HF.out] at hf'
            injection hf' with hf'
            subst hf'
            omega⟩
        case measure => simp [intOf]; omega
    · obtain rfl : k = b.length := by omega
      have HF20 := Lib.hid (show ∀ f ∈ b, f.length ≤ 20 from fun f hf => by
        obtain ⟨j, hj, e⟩ := List.getElem_of_mem hf
        exact HALL.out j f hj (by rw [List.getElem?_eq_getElem hj, e]))
      clear HALL hkl hk
      go_upto_region 8 with (fail)
      cases hv : okP p q l with
      | false =>
        have hpr : printS p q l = ([], 2) := by unfold printS; rw [hv]; simp
        rw [hpr] at HPR
        unfold printV at HPR
        clear hv hpr
        go_wp2_with fail
        refine HPR.out.mono ?_
        rintro e w1 ⟨rfl, hb⟩
        have HB := Lib.hid (bch HA.out hb HA.out.size)
        clear hb
        go_wp2_with fail
        refine (HST.out _ HB.out).mono ?_
        rintro e w2 ⟨rfl, hb2⟩
        have HB2 := Lib.hid (bch HB.out hb2 HB.out.size)
        clear hb2
        go_wp2_with fail
        go_ret
        exact ⟨rfl, HB2.out⟩
      | true =>
        obtain ⟨hp, hvv⟩ : p = 1 ∧ validB p q l = true := by unfold okP at hv; simpa using hv
        subst hp
        have hpr : printS 1 q l = (Csv.printOf (table q l), 0) := by unfold printS; rw [hv]; simp
        rw [hpr] at HPR
        unfold printV at HPR
        have hlen := print_len hvv
        have hcsv : Csv.parse (Csv.printOf (table q l)) = (table q l, 0, 0, 0) := by rw [Csv.parse_print _ (by omega), Csv.fill_full _ (table_full q l)]
        have HVA := Lib.hid hvv
        obtain ⟨T, hT⟩ : ∃ T, Csv.printOf (table q l) = T := ⟨_, rfl⟩
        rw [hT] at HPR hlen hcsv
        have HCSV := Lib.hid hcsv
        have hTs : (⟨T.toArray⟩ : ByteArray).size = T.length := bytes_size T
        have hTL := table_len q l
        clear hv hpr hvv hcsv hT
        obtain ⟨L, hL⟩ : ∃ L, table q l = L := ⟨_, rfl⟩
        have HL := Lib.hid hL
        rw [hL] at HCSV hTL
        have hL1 : 2 ≤ L.length := by omega
        have hL2 : L.length ≤ 62 := by omega
        have HTL := Lib.hid hTL
        have hne := bneF (show (L.length : Int) = (l.length : Int) + 2 by omega)
        clear hL hTL
        go_wp2_with fail
        refine HPR.out.mono ?_
        rintro e w1 ⟨rfl, hb⟩
        have HB1 := Lib.hid (bch HA.out hb HA.out.size); have HX1 := Lib.hid (heap_keep HX.out hb)
        have hww1 : w.heap.size < w1.heap.size := heap_lt HX1.out
        clear hb m0 m1 m2 HPR
        go_wp2_with fail
        refine (parse_owned ⟨T.toArray⟩ w1 (by omega)).mono ?_
        rintro e w2 ⟨hto, hb2⟩
        obtain ⟨vt, vs, he, htab⟩ := hto
        obtain rfl : e = .returned (.tuple #[vt, .agg #[.int .i64 0, .int .i64 0, .int .i64 0]]) := by rw [bytes_list, HCSV.out] at he; exact he
        have htab : TabI w1.heap.size w2 vt L vs := by rw [bytes_list, HCSV.out] at htab; exact htab
        obtain ⟨At, ct, rfl, hgt⟩ := own_slice htab.own
        obtain ⟨gt, rfl, hgt1, hgt2⟩ := hgt (by omega)
        have HTAB := Lib.hid htab
        clear htab hgt HCSV he
        go_upto_region 13 with (fail)
        obtain ⟨w3, hw3⟩ : ∃ w3, w3 = w2.alloc (.cells #[.int .i64 0, .int .i64 0, .int .i64 0] tRej) := ⟨_, rfl⟩
        rw [← hw3]
        have hb3 : Below w2.heap.size w2 w3 := by rw [hw3]; exact below_alloc _ _
        have HB3 := Lib.hid (bch HB1.out (bch hb2 hb3 hb2.size) HB1.out.size)
        have HX3 := Lib.hid (heap_keep (heap_keep HX1.out hb2) hb3); have HT3 := Lib.hid (HTAB.out.below hb3)
        have hgt3 : gt < w3.heap.size := by have := hb3.size; omega
        clear hw3 hb3 hb2 hgt2 HX1 HTAB
        obtain ⟨m0, m1, m2⟩ := cell3c HX3.out
        go_upto_region 15 with (fail)
        obtain ⟨T2, hT2⟩ : ∃ T2, Csv.printOf (L ++ [b]) = T2 := ⟨_, rfl⟩
        have HT2 := Lib.hid hT2
        have HFB := Lib.hid (show Fits (L ++ [b]) by rw [← HL.out]; exact fits_behind HVA.out hb5 HF20.out)
        have HPB := Lib.hid (show parseS T2 = ((0, 0, []), l.length + 3, 1, 7) by rw [← HT2.out, ← HL.out]; exact parse_behind HVA.out hb5 HF20.out)
        clear hT2 hne
        have hwn : IntKind.i64.wrap ((L.length : Int) + 1) = (L.length : Int) + 1 := IntWalk.i64_in _ (by omega)
        go_wp2_with (first
          | (at_builtin; refine wpList_append_any _ rfl (.const (.slice none 0 0)) (.tmp 61) 30 rfl w3.heap.size tLine j0 (.slice none 0 0) 1 24 Tryd.underlying30 hj hy0 hy1 hy2 rfl (by decide) (.slice none 0 0) 0 [] rfl (World.ownsRow_nil _ _ _ _) L.length vs HT3.out.src (by unfold maxLen; omega) (by omega) (Nat.le_refl _) ?_; intro v4 w4 ho4 hg4 hat4; rw [Nat.zero_add, List.nil_append] at ho4; obtain ⟨A4, c4, rfl, _⟩ := own_slice ho4; have HO4 := Lib.hid ho4; have HB4 := Lib.hid (show Below w3.heap.size w3 w4 from (Below.refl w3.heap.size w3).grown hg4 (Nat.le_refl _) (fun j hj => by cases hj)); clear ho4 hg4 hat4)
          | (at_builtin; refine wpList_append_any _ rfl (.tmp 62) (.tmp 64) 30 rfl w3.heap.size tLine j0 (.slice none 0 0) 1 24 Tryd.underlying30 hj hy0 hy1 hy2 rfl (by decide) (.slice A4 L.length c4) L.length vs rfl (HO4.out.alloc _) 1 [.slice Ab b.length cb] (src_blk (xs := [.slice Ab b.length cb]) (heap_new _ _) (by intro u hu; simp at hu; subst hu; rfl)) (by unfold maxLen; omega) (by omega) (by have := HB4.out.size; simp; omega) ?_; intro v5 w5 ho5 hg5 hat5; obtain ⟨A5, c5, rfl, _⟩ := own_slice ho5; have HO5 := Lib.hid ho5; have HB5 := Lib.hid (show Below w3.heap.size w3 w5 from (HB4.out.alloc HB4.out.size _).grown hg5 (by have := HB4.out.size; simp; omega) (fun j hj => (HO4.out.lt j hj).1)); clear ho5 hg5 hat5))
        have HZ5 := Lib.hid (rowz_snoc (HT3.out.below HB5.out) HO5.out (HBB.out.below (bch HB3.out HB5.out HB3.out.size) (by have := (bch HB3.out HB5.out HB3.out.size).size; omega)))
        refine (print_any _ (L ++ [b]) w5.heap.size w5 HZ5.out (Nat.le_refl _) HFB.out ((HS.out.below HB3.out).below HB5.out).mx).mono ?_
        rw [HT2.out]
        rintro e w6 ⟨rfl, hb6⟩
        have HB6 := Lib.hid (bch HB5.out hb6 HB5.out.size)
        clear hb6 HO4 HB4 HO5 HB5 HZ5
        go_wp2_with fail
        refine (sbad_any ⟨T2.toArray⟩ T2 (bytes_list T2) (l.length + 3) 1 7 ((L.length : Int) + 1) 1 7 w6 HPB.out (by have := HTL.out; omega) rfl rfl ((HS.out.below HB3.out).below HB6.out)).mono ?_
        rintro e w7 ⟨rfl, hb7⟩
        have HB7 := Lib.hid (bch HB6.out hb7 HB6.out.size)
        clear hb7 hwn m0 m1 m2
        go_wp2_with fail
        refine (count3_any cnt hc w7).mono ?_
        rintro e w8 ⟨rfl, hb8⟩
        have HB8 := Lib.hid (bch HB7.out hb8 HB7.out.size)
        clear hb8
        have HT8 := Lib.hid (HT3.out.below HB8.out)
        obtain ⟨D, hD⟩ : ∃ D, Lib.itoa (cnt : Int) = D := ⟨_, rfl⟩
        rw [hD]
        have HD := Lib.hid hD
        obtain ⟨u0, hc0, hf0⟩ := HT8.out.spot (k := L.length - 1) (by omega)
        have hgt8 : gt < w8.heap.size := by have := HB8.out.size; omega
        have hi2 : ((L.length : Int) - 1).toNat = L.length - 1 := by omega
        have HX8 := Lib.hid (heap_keep HX3.out HB8.out)
        clear hD
        go_upto_region 18 with (fail)
        obtain ⟨w9, hw9⟩ : ∃ w9, w9 = (w8.setCell ⟨gt, L.length - 1, none⟩ (.slice (some ⟨w8.heap.size, 0, none⟩) 2 2)).alloc (.cells #[.string ⟨#[101, 110, 100]⟩, .string ⟨D.toArray⟩] tFld) := ⟨_, rfl⟩
        rw [← hw9]
        have hw9' : w9 = (w8.alloc (.cells #[.string ⟨#[101, 110, 100]⟩, .string ⟨D.toArray⟩] tFld)).setCell ⟨gt, L.length - 1, none⟩ (.slice (some ⟨w8.heap.size, 0, none⟩) 2 2) := by rw [hw9, World.setCell_alloc_past _ _ _ _ hgt8]
        have HZ9 := Lib.hid (show Rowz w9 w9.heap.size (.slice (some ⟨gt, 0, none⟩) L.length ct) (tableN q cnt l) by
          have h := (HT8.out.below (below_alloc w8 (.cells #[.string ⟨#[101, 110, 100]⟩, .string ⟨D.toArray⟩] tFld))).put (k := L.length - 1) (by omega) (own_lit2 (a := wEnd) (b := D) (heap_new w8 _) (by omega))
          rw [show L.set (L.length - 1) [wEnd, D] = tableN q cnt l by rw [HTL.out, ← HL.out, ← HD.out]; exact table_set q cnt l] at h
          rw [hw9']
          have hs : ((w8.alloc (.cells #[.string ⟨#[101, 110, 100]⟩, .string ⟨D.toArray⟩] tFld)).setCell ⟨gt, L.length - 1, none⟩ (.slice (some ⟨w8.heap.size, 0, none⟩) 2 2)).heap.size = (w8.alloc (.cells #[.string ⟨#[101, 110, 100]⟩, .string ⟨D.toArray⟩] tFld)).heap.size := by simp [World.setCell]
          rw [hs]
          exact h)
        have HB9 := Lib.hid (show Below w.heap.size w w9 by
          have h8 := bch HB3.out HB8.out HB3.out.size
          rw [hw9']
          exact (h8.alloc h8.size _).setCell (p := ⟨gt, L.length - 1, none⟩) (by show w.heap.size ≤ gt; omega) _)
        have HX9 := Lib.hid (show w9.heap[w.heap.size]? = some (.cells #[.int .i64 1, .int .i64 q, .slice A l.length cv] tStat (0, 0)) by
          rw [hw9']
          exact set_other (heap_keep HX8.out (below_alloc _ _)) (by omega) _)
        clear hw9 hw9' hi2 hc0 hf0 HT8 HX8
        obtain ⟨m0, m1, m2⟩ := cell3c HX9.out
        by_cases hcl : cnt = l.length
        · have hce := beqT (show (cnt : Int) = (l.length : Int) by omega)
          go_wp2_with fail
          refine (HST.out _ HB9.out).mono ?_
          rintro e w10 ⟨rfl, hb10⟩
          have HB10 := Lib.hid (bch HB9.out hb10 HB9.out.size)
          clear hb10
          go_wp2_with fail
          go_ret
          exact ⟨rfl, HB10.out⟩
        · have hce := beqF (show ¬ (cnt : Int) = (l.length : Int) by omega)
          obtain ⟨T3, hT3⟩ : ∃ T3, Csv.printOf (tableN q cnt l) = T3 := ⟨_, rfl⟩
          have HT3' := Lib.hid hT3
          have HPC := Lib.hid (show parseS T3 = ((0, 0, []), l.length + 2, 2, 4) by rw [← HT3'.out]; exact parse_count HVA.out ⟨by omega, by omega⟩ (by omega))
          have HFC := Lib.hid (fits_count (n := (cnt : Int)) HVA.out ⟨by omega, by omega⟩)
          clear hT3 hcl
          go_wp2_with fail
          refine (print_any _ (tableN q cnt l) w9.heap.size w9 HZ9.out (Nat.le_refl _) HFC.out (HS.out.below HB9.out).mx).mono ?_
          rw [HT3'.out]
          rintro e w10 ⟨rfl, hb10⟩
          have HB10 := Lib.hid (bch HB9.out hb10 HB9.out.size)
          clear hb10 m0 m1 m2
          go_wp2_with fail
          refine (sbad_any ⟨T3.toArray⟩ T3 (bytes_list T3) (l.length + 2) 2 4 (L.length : Int) 2 4 w10 HPC.out (by have := HTL.out; omega) rfl rfl (HS.out.below HB10.out)).mono ?_
          rintro e w11 ⟨rfl, hb11⟩
          have HB11 := Lib.hid (bch HB10.out hb11 HB10.out.size)
          clear hb11
          go_wp2_with fail
          refine (HST.out _ HB11.out).mono ?_
          rintro e w12 ⟨rfl, hb12⟩
          have HB12 := Lib.hid (bch HB11.out hb12 HB11.out.size)
          clear hb12
          go_wp2_with fail
          go_ret
          exact ⟨rfl, HB12.out⟩
end Go.Proofs.YtgpjbigelblanaaDoor

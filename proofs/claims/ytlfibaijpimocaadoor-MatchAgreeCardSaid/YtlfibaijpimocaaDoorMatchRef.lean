/- The document's Find: the differences in order. -/
import Derived.Test.YtlfibaijpimocaaDoorMatchFind2
namespace Go.Proofs.YtlfibaijpimocaaDoor
open Go.RowKit Go.Maps Key Rw Sa Ma

theorem fold_snoc (C : List D3) (x : D3) : (C ++ [x]).foldl layD [] = layD (C.foldl layD []) x := by rw [List.foldl_append]; rfl
theorem fold_len (C : List D3) : (C.foldl layD []).length = C.length := by have := (fold_perm C []).length_eq; rwa [List.nil_append] at this
theorem refKind_at (I : In.Inn) (s : Sg) (d : Nat) (hd : d < 6) (W : World) : Calls Tryd.prog 42 #[sgV s, .int .i64 d, .agg #[.int .i64 (rowOr I s.id d).1.1, .int .i64 (rowOr I s.id d).1.2, .int .i64 (rowOr I s.id d).2.1, .int .i64 (rowOr I s.id d).2.2.1, .int .i64 (rowOr I s.id d).2.2.2], .bool (In.rowOf I (s.id, (d : Int))).isSome] W fun e w' => e = .returned (.int .i64 (kindOf I s d)) ∧ Below W.heap.size W w' := by
  rw [← kind_row]
  exact refKind_any s d _ _ _ _ _ _ W (by omega) (by omega)
theorem lay_at {w : World} {B : Nat} {v : Value} {C : List D3} (x : D3) (h : RDs w B v (C.foldl layD [])) (hl : C.length < 10000) (hB : B ≤ w.heap.size) :
    Calls Tryd.prog 43 #[v, .agg #[.int .i64 x.1.1, .int .i64 x.1.2, .int .i64 x.2]] w fun e w' => ∃ v', e = .returned v' ∧ RDs w' B v' ((C ++ [x]).foldl layD []) ∧ Below w.heap.size w w' := by
  rw [fold_snoc]
  exact lay_any w B v _ x.1.1 x.1.2 x.2 h (by rw [fold_len]; exact hl) hB

set_option linter.unusedSimpArgs false in
set_option linter.unusedVariables false in
set_option maxRecDepth 100000 in
set_option maxHeartbeats 16000000 in
theorem refFind_any (w : World) (v u : Value) (l : List Sg) (I : In.Inn) (hl : l.length ≤ 60) (hS : Sgs w v l) (hI : InR w u I) (hg : In.Fine I) :
    Calls Tryd.prog 15 #[v, u] w fun e w' => ∃ v', e = .returned v' ∧ RDs w' w.heap.size v' (findD l I) ∧ Below w.heap.size w w' := by
  have HII := Lib.hid hI
  obtain ⟨A0, n0, c0, A1, n1, c1, A2, n2, c2, rfl, h0, h1, h2⟩ := hI
  have H0 := Lib.hid h0; have H1 := Lib.hid h1; have H2 := Lib.hid h2
  obtain ⟨A, c, rfl, hlc, hcm⟩ := hS.shape
  have HS := Lib.hid hS
  have HG := Lib.hid hg
  obtain ⟨wa, hA⟩ : ∃ wa, wa = w.alloc (.cells #[.int .i64 I.a.1, .int .i64 I.a.2.1, .slice A0 n0 c0, .int .i64 I.b.1, .int .i64 I.b.2.1, .slice A1 n1 c1, .int .i64 I.c.1, .int .i64 I.c.2.1, .slice A2 n2 c2] tInR) := ⟨_, rfl⟩
  have hB : Below w.heap.size w wa := by rw [hA]; exact below_alloc _ _
  have hX : wa.heap[w.heap.size]? = some (.cells #[.int .i64 I.a.1, .int .i64 I.a.2.1, .slice A0 n0 c0, .int .i64 I.b.1, .int .i64 I.b.2.1, .slice A1 n1 c1, .int .i64 I.c.1, .int .i64 I.c.2.1, .slice A2 n2 c2] tInR (0, 0)) := by rw [hA]; exact heap_new _ _
  have hws : w.heap.size < wa.heap.size := heap_lt hX
  have HA := Lib.hid hA; have HB := Lib.hid hB; have HX := Lib.hid hX
  clear hA hB hX h0 h1 h2 hS hg
  go_enter Tryd.func15, Tryd.ntmps15
  go_wp2_with fail
  rw [← HA.out]
  go_loopw [5, 6] (fun v i wr => ∃ k : Nat, i = .int .i64 k ∧ k ≤ l.length ∧ Hid (RDs wr wa.heap.size v ((sagasD I l k).foldl layD [])) ∧ Hid (Below wa.heap.size wa wr)) (fun _ i _ => l.length - (intOf i).toNat)
  case atStart => exact ⟨0, rfl, Nat.zero_le _, RDs.nil _ _, Below.refl _ _⟩
  case round =>
    obtain ⟨k, rfl, hk, HOr, HBr⟩ := hrel
    have hszr := HBr.out.size
    have HBw := Lib.hid (bch HB.out HBr.out HB.out.size)
    by_cases hkl : k < l.length
    · obtain ⟨s, hs⟩ : ∃ s, l[k]? = some s := ⟨_, List.getElem?_eq_getElem hkl⟩
      have HSK := Lib.hid hs
      obtain ⟨g, off, n', c', e, d0, d1, d2, d3, d4, d5, d6, d7, d8, d9, d10, d11⟩ := (HS.out.keep HBw.out).cells (Below.refl _ _) hs
      injection e with e1 e2 e3; subst e1; subst e2; subst e3
      have HCK := Lib.hid (fun W (hb : Below w.heap.size w W) => (show W.cell? ⟨g, off + k * 12, none⟩ = some (.int .i64 s.id) by
        obtain ⟨g', off', n'', c'', e, d0, _⟩ := HS.out.cells hb hs
        injection e with e1 e2 e3; injection e1 with e1; injection e1 with e1 e4 _; subst e1; subst e4
        exact d0))
      have hlt : (k : Int) < l.length := by omega
      have hk0 : (0 : Int) ≤ k := by omega
      clear hs d0 d1 d2 d3 d4 d5 d6 d7 d8 d9 d10 d11
      go_wp2_with fail
      go_loopw [7, 8] (fun b i wq => ∃ j : Nat, i = .int .i64 j ∧ j ≤ k ∧ b = .bool (firstB l j s.id) ∧ Hid (Below wr.heap.size wr wq)) (fun _ i _ => k - (intOf i).toNat)
      case atStart => exact ⟨0, rfl, Nat.zero_le _, rfl, Below.refl _ _⟩
      case round =>
        obtain ⟨j, rfl, hj, rfl, HBq⟩ := hrel
        have HBv := Lib.hid (bch HBw.out HBq.out HBw.out.size)
        by_cases hjk : j < k
        · obtain ⟨t, ht⟩ : ∃ t, l[j]? = some t := ⟨_, List.getElem?_eq_getElem (by omega)⟩
          have HFS := Lib.hid (first_succ ht s.id)
          have dk := HCK.out _ HBv.out
          have dt : wr.cell? ⟨g, off + j * 12, none⟩ = some (.int .i64 t.id) := by
            obtain ⟨g', off', n'', c'', e, d0, _⟩ := HS.out.cells HBv.out ht
            injection e with e1 e2 e3; injection e1 with e1; injection e1 with e1 e4 _; subst e1; subst e4
            exact d0
          have hj0 : (0 : Int) ≤ j := by omega
          have hjl : (j : Int) < l.length := by omega
          have hjk' : (j : Int) < k := by omega
          clear ht
          cases hf : firstB l j s.id with
          | false =>
            have HF := Lib.hid (show firstB l (j + 1) s.id = false by rw [HFS.out, hf]; rfl)
            clear hf
            go_wp2_with fail
            go_quiet (fail)
            go_wp2_with fail
            go_roundw
            case rel => exact ⟨j + 1, by go_num, by omega, by rw [HF.out], below_drewN HBq.out _⟩
            case measure => simp [intOf]; omega
          | true =>
            by_cases hi : t.id = s.id
            · have hi1 := bneF hi
              have HF := Lib.hid (show firstB l (j + 1) s.id = false by rw [HFS.out, hf]; simp [hi])
              clear hf hi
              go_wp2_with fail
              go_quiet (fail)
              go_wp2_with fail
              go_roundw
              case rel => exact ⟨j + 1, by go_num, by omega, by rw [HF.out], below_drewN HBq.out _⟩
              case measure => simp [intOf]; omega
            · have hi1 := bneT hi
              have HF := Lib.hid (show firstB l (j + 1) s.id = true by rw [HFS.out, hf]; simp [hi])
              clear hf hi
              go_wp2_with fail
              go_quiet (fail)
              go_wp2_with fail
              go_roundw
              case rel => exact ⟨j + 1, by go_num, by omega, by rw [HF.out], below_drewN HBq.out _⟩
              case measure => simp [intOf]; omega
        · obtain rfl : j = k := by omega
          have hjk' : ¬ (j : Int) < j := by omega
          have HOv := Lib.hid (HOr.out.below HBq.out)
          have HBu := Lib.hid (bch HBr.out HBq.out HBr.out.size)
          generalize wr = wv at HBv HBq HOv HBu ⊢
          clear HBq HOr HBr HBw
          cases hf : firstB l j s.id with
          | false =>
            have HN := Lib.hid (show sagasD I l (j + 1) = sagasD I l j by rw [sagasD_succ, saga_not HSK.out hf, List.append_nil])
            clear hf
            go_wp2_with fail
            go_loopw [5, 9] (fun v i wq => i = .int .i64 0 ∧ Hid (RDs wq wa.heap.size v ((sagasD I l (j + 1)).foldl layD [])) ∧ Hid (Below wa.heap.size wa wq)) (fun _ _ _ => 0)
            case atStart => exact ⟨rfl, by rw [HN.out]; exact HOv.out, HBu.out⟩
            case round =>
              obtain ⟨rfl, HO', HB'⟩ := hrel
              go_wp2_with fail
              go_roundw
              case rel => exact ⟨j + 1, by go_num, by omega, HO'.out, HB'.out⟩
              case measure => simp [intOf]; omega
          | true =>
            have HN := Lib.hid (show sagasD I l (j + 1) = sagasD I l j ++ deedsD I s 6 by rw [sagasD_succ, saga_first HSK.out hf])
            clear hf
            go_wp2_with fail
            go_loopw [5, 9] (fun v i wr => ∃ d : Nat, i = .int .i64 d ∧ d ≤ 6 ∧ Hid (RDs wr wa.heap.size v ((sagasD I l j ++ deedsD I s d).foldl layD [])) ∧ Hid (Below wa.heap.size wa wr)) (fun _ i _ => 6 - (intOf i).toNat)
            case atStart => exact ⟨0, rfl, by omega, by rw [show deedsD I s 0 = [] from rfl, List.append_nil]; exact HOv.out, HBu.out⟩
            case round =>
              obtain ⟨d, rfl, hd, HOd, HBd⟩ := hrel
              have hszd := HBd.out.size
              have HBw := Lib.hid (bch HB.out HBd.out HB.out.size)
              by_cases hd6 : d < 6
              · have hd6' : (d : Int) < 6 := by omega
                have hd0 : (0 : Int) ≤ d := by omega
                have dk := HCK.out _ HBw.out
                go_upto_region 14 with (fail)
                obtain ⟨wk, hwk⟩ : ∃ wk, wk = wr.alloc (.cells #[.int .i64 s.id, .int .i64 d] tKey) := ⟨_, rfl⟩
                rw [← hwk]
                have HBk := Lib.hid (show Below wr.heap.size wr wk by rw [hwk]; exact below_alloc _ _)
                have HKk := Lib.hid (show wk.heap[wr.heap.size]? = some (.cells #[.int .i64 s.id, .int .i64 d] tKey (0, 0)) by rw [hwk]; exact heap_new _ _)
                have HIk := Lib.hid (heap_keep HX.out (bch HBd.out HBk.out HBd.out.size))
                clear hwk dk
                obtain ⟨i0, i1, i2, i3, i4, i5, i6, i7, i8⟩ := cell9 HIk.out
                obtain ⟨k0, k1, _, _⟩ := cell2 HKk.out
                obtain ⟨pd, hpd⟩ : ∃ p, partyI (d : Int) = p := ⟨_, rfl⟩
                have hpb := party_bd hd0 hd6'
                have HP := Lib.hid (refParty_at hpd ⟨by omega, by omega⟩)
                rw [hpd] at hpb
                rcases (show pd = 0 ∨ pd = 1 ∨ pd = 2 by omega) with rfl | rfl | rfl
                · have HQA := Lib.hid (show (I.at (partyI (d : Int))).2.1 = I.a.2.1 by rw [hpd]; rfl)
                  clear hpd hpb
                  by_cases hq : I.a.2.1 = 0
                  · have hq1 := beqT hq
                    have HD := Lib.hid (show deedsD I s (d + 1) = deedsD I s d by rw [deedsD_succ, show deedD I s d = [] by unfold deedD; rw [if_pos (HQA.out.trans hq)], List.append_nil])
                    clear hq
                    go_wp2_with fail
                    refine (HP.out _).mono ?_
                    rintro e w2 ⟨rfl, hw⟩; subst hw
                    go_wp2_with fail
                    go_roundw
                    case rel => exact ⟨d + 1, by go_num, by omega, by rw [HD.out]; exact HOd.out.below HBk.out, bch HBd.out HBk.out HBd.out.size⟩
                    case measure => simp [intOf]; omega
                  · have hq1 := beqF hq
                    have HQ := Lib.hid (show ¬ (I.at (partyI (d : Int))).2.1 = 0 by rw [HQA.out]; exact hq)
                    clear hq
                    go_wp2_with fail
                    refine (HP.out _).mono ?_
                    rintro e w2 ⟨rfl, hw⟩; subst hw
                    go_wp2_with fail
                    refine (refRow_any _ _ I s.id d (HII.out.below (bch HBw.out HBk.out HBw.out.size)) HG.out).mono ?_
                    rintro e wm ⟨rfl, hbm⟩
                    have HBm := Lib.hid (bch HBk.out hbm HBk.out.size)
                    have HKm := Lib.hid (heap_keep HKk.out hbm)
                    clear hbm i0 i1 i2 i3 i4 i5 i6 i7 i8 k0 k1
                    go_upto_region 16 with (fail)
                    obtain ⟨wn, hwn⟩ : ∃ wn, wn = wm.alloc (.cells #[.int .i64 (rowOr I s.id d).1.1, .int .i64 (rowOr I s.id d).1.2, .int .i64 (rowOr I s.id d).2.1, .int .i64 (rowOr I s.id d).2.2.1, .int .i64 (rowOr I s.id d).2.2.2] tRow) := ⟨_, rfl⟩
                    rw [← hwn]
                    have HBn := Lib.hid (show Below wr.heap.size wr wn by rw [hwn]; exact HBm.out.alloc HBm.out.size _)
                    have HRn := Lib.hid (show wn.heap[wm.heap.size]? = some (.cells #[.int .i64 (rowOr I s.id d).1.1, .int .i64 (rowOr I s.id d).1.2, .int .i64 (rowOr I s.id d).2.1, .int .i64 (rowOr I s.id d).2.2.1, .int .i64 (rowOr I s.id d).2.2.2] tRow (0, 0)) by rw [hwn]; exact heap_new _ _)
                    have HKn := Lib.hid (show wn.heap[wr.heap.size]? = some (.cells #[.int .i64 s.id, .int .i64 d] tKey (0, 0)) by rw [hwn]; exact heap_keep HKm.out (below_alloc _ _))
                    clear hwn HBm HKm
                    obtain ⟨g', off', n'', c'', e, d0, d1, d2, d3, d4, d5, d6, d7, d8, d9, d10, d11⟩ := HS.out.cells (bch HBw.out HBn.out HBw.out.size) HSK.out
                    injection e with e1 e2 e3; injection e1 with e1; injection e1 with e1 e4 _; subst e1; subst e4; clear e2 e3
                    obtain ⟨r0, r1, r2, r3, r4⟩ := cell5 HRn.out
                    refine wp_region_still_tail 7 (by kernel_rfl) (by kernel_rfl) ?_
                    simp only [List.take_succ_cons, List.take_zero, List.drop_succ_cons, List.drop_zero]
                    iterate 7 still_step
                    refine wpStill_nil ?_
                    change wpList _ _ _ _ _ wn.drew
                    go_wp2_with fail
                    refine (refKind_at I s d hd6 _).mono ?_
                    rintro e wo ⟨rfl, hbo⟩
                    have HBo := Lib.hid (bch (below_drew1 HBn.out) hbo HBn.out.size)
                    have HKo := Lib.hid (heap_keep (w := wn.drew) HKn.out hbo)
                    clear hbo d0 d1 d2 d3 d4 d5 d6 d7 d8 d9 d10 d11 r0 r1 r2 r3 r4 HBn HRn HKn
                    have HOo := Lib.hid (HOd.out.below HBo.out)
                    have HBx := Lib.hid (bch HBd.out HBo.out HBd.out.size)
                    have hszo := HBx.out.size
                    obtain ⟨k0, k1, _, _⟩ := cell2 HKo.out
                    by_cases hkd : 0 < kindOf I s d
                    · have HD := Lib.hid (show sagasD I l j ++ deedsD I s (d + 1) = (sagasD I l j ++ deedsD I s d) ++ [((s.id, (d : Int)), kindOf I s d)] by rw [deedsD_succ, show deedD I s d = [((s.id, (d : Int)), kindOf I s d)] by unfold deedD; rw [if_neg HQ.out, if_pos hkd], List.append_assoc])
                      have hln : (sagasD I l j ++ deedsD I s d).length < 10000 := by rw [List.length_append]; have := sagas_len I l j; have := deeds_len I s d; omega
                      go_wp2_with fail
                      refine (lay_at ((s.id, (d : Int)), kindOf I s d) HOo.out hln hszo).mono ?_
                      rintro e wp ⟨vp, rfl, hop, hbp⟩
                      have HO' := Lib.hid (show RDs wp wa.heap.size vp ((sagasD I l j ++ deedsD I s (d + 1)).foldl layD []) by rw [HD.out]; exact hop)
                      have HB' := Lib.hid (bch HBx.out hbp HBx.out.size)
                      clear hop hbp
                      go_wp2_with fail
                      go_roundw
                      case rel => exact ⟨d + 1, by go_num, by omega, HO'.out, HB'.out⟩
                      case measure => simp [intOf]; omega
                    · have HD := Lib.hid (show deedsD I s (d + 1) = deedsD I s d by rw [deedsD_succ, show deedD I s d = [] by unfold deedD; rw [if_neg HQ.out, if_neg hkd], List.append_nil])
                      go_wp2_with fail
                      go_roundw
                      case rel => exact ⟨d + 1, by go_num, by omega, by rw [HD.out]; exact HOo.out, HBx.out⟩
                      case measure => simp [intOf]; omega
                · have HQA := Lib.hid (show (I.at (partyI (d : Int))).2.1 = I.b.2.1 by rw [hpd]; rfl)
                  clear hpd hpb
                  by_cases hq : I.b.2.1 = 0
                  · have hq1 := beqT hq
                    have HD := Lib.hid (show deedsD I s (d + 1) = deedsD I s d by rw [deedsD_succ, show deedD I s d = [] by unfold deedD; rw [if_pos (HQA.out.trans hq)], List.append_nil])
                    clear hq
                    go_wp2_with fail
                    refine (HP.out _).mono ?_
                    rintro e w2 ⟨rfl, hw⟩; subst hw
                    go_wp2_with fail
                    go_roundw
                    case rel => exact ⟨d + 1, by go_num, by omega, by rw [HD.out]; exact HOd.out.below HBk.out, bch HBd.out HBk.out HBd.out.size⟩
                    case measure => simp [intOf]; omega
                  · have hq1 := beqF hq
                    have HQ := Lib.hid (show ¬ (I.at (partyI (d : Int))).2.1 = 0 by rw [HQA.out]; exact hq)
                    clear hq
                    go_wp2_with fail
                    refine (HP.out _).mono ?_
                    rintro e w2 ⟨rfl, hw⟩; subst hw
                    go_wp2_with fail
                    refine (refRow_any _ _ I s.id d (HII.out.below (bch HBw.out HBk.out HBw.out.size)) HG.out).mono ?_
                    rintro e wm ⟨rfl, hbm⟩
                    have HBm := Lib.hid (bch HBk.out hbm HBk.out.size)
                    have HKm := Lib.hid (heap_keep HKk.out hbm)
                    clear hbm i0 i1 i2 i3 i4 i5 i6 i7 i8 k0 k1
                    go_upto_region 16 with (fail)
                    obtain ⟨wn, hwn⟩ : ∃ wn, wn = wm.alloc (.cells #[.int .i64 (rowOr I s.id d).1.1, .int .i64 (rowOr I s.id d).1.2, .int .i64 (rowOr I s.id d).2.1, .int .i64 (rowOr I s.id d).2.2.1, .int .i64 (rowOr I s.id d).2.2.2] tRow) := ⟨_, rfl⟩
                    rw [← hwn]
                    have HBn := Lib.hid (show Below wr.heap.size wr wn by rw [hwn]; exact HBm.out.alloc HBm.out.size _)
                    have HRn := Lib.hid (show wn.heap[wm.heap.size]? = some (.cells #[.int .i64 (rowOr I s.id d).1.1, .int .i64 (rowOr I s.id d).1.2, .int .i64 (rowOr I s.id d).2.1, .int .i64 (rowOr I s.id d).2.2.1, .int .i64 (rowOr I s.id d).2.2.2] tRow (0, 0)) by rw [hwn]; exact heap_new _ _)
                    have HKn := Lib.hid (show wn.heap[wr.heap.size]? = some (.cells #[.int .i64 s.id, .int .i64 d] tKey (0, 0)) by rw [hwn]; exact heap_keep HKm.out (below_alloc _ _))
                    clear hwn HBm HKm
                    obtain ⟨g', off', n'', c'', e, d0, d1, d2, d3, d4, d5, d6, d7, d8, d9, d10, d11⟩ := HS.out.cells (bch HBw.out HBn.out HBw.out.size) HSK.out
                    injection e with e1 e2 e3; injection e1 with e1; injection e1 with e1 e4 _; subst e1; subst e4; clear e2 e3
                    obtain ⟨r0, r1, r2, r3, r4⟩ := cell5 HRn.out
                    refine wp_region_still_tail 7 (by kernel_rfl) (by kernel_rfl) ?_
                    simp only [List.take_succ_cons, List.take_zero, List.drop_succ_cons, List.drop_zero]
                    iterate 7 still_step
                    refine wpStill_nil ?_
                    change wpList _ _ _ _ _ wn.drew
                    go_wp2_with fail
                    refine (refKind_at I s d hd6 _).mono ?_
                    rintro e wo ⟨rfl, hbo⟩
                    have HBo := Lib.hid (bch (below_drew1 HBn.out) hbo HBn.out.size)
                    have HKo := Lib.hid (heap_keep (w := wn.drew) HKn.out hbo)
                    clear hbo d0 d1 d2 d3 d4 d5 d6 d7 d8 d9 d10 d11 r0 r1 r2 r3 r4 HBn HRn HKn
                    have HOo := Lib.hid (HOd.out.below HBo.out)
                    have HBx := Lib.hid (bch HBd.out HBo.out HBd.out.size)
                    have hszo := HBx.out.size
                    obtain ⟨k0, k1, _, _⟩ := cell2 HKo.out
                    by_cases hkd : 0 < kindOf I s d
                    · have HD := Lib.hid (show sagasD I l j ++ deedsD I s (d + 1) = (sagasD I l j ++ deedsD I s d) ++ [((s.id, (d : Int)), kindOf I s d)] by rw [deedsD_succ, show deedD I s d = [((s.id, (d : Int)), kindOf I s d)] by unfold deedD; rw [if_neg HQ.out, if_pos hkd], List.append_assoc])
                      have hln : (sagasD I l j ++ deedsD I s d).length < 10000 := by rw [List.length_append]; have := sagas_len I l j; have := deeds_len I s d; omega
                      go_wp2_with fail
                      refine (lay_at ((s.id, (d : Int)), kindOf I s d) HOo.out hln hszo).mono ?_
                      rintro e wp ⟨vp, rfl, hop, hbp⟩
                      have HO' := Lib.hid (show RDs wp wa.heap.size vp ((sagasD I l j ++ deedsD I s (d + 1)).foldl layD []) by rw [HD.out]; exact hop)
                      have HB' := Lib.hid (bch HBx.out hbp HBx.out.size)
                      clear hop hbp
                      go_wp2_with fail
                      go_roundw
                      case rel => exact ⟨d + 1, by go_num, by omega, HO'.out, HB'.out⟩
                      case measure => simp [intOf]; omega
                    · have HD := Lib.hid (show deedsD I s (d + 1) = deedsD I s d by rw [deedsD_succ, show deedD I s d = [] by unfold deedD; rw [if_neg HQ.out, if_neg hkd], List.append_nil])
                      go_wp2_with fail
                      go_roundw
                      case rel => exact ⟨d + 1, by go_num, by omega, by rw [HD.out]; exact HOo.out, HBx.out⟩
                      case measure => simp [intOf]; omega
                · have HQA := Lib.hid (show (I.at (partyI (d : Int))).2.1 = I.c.2.1 by rw [hpd]; rfl)
                  clear hpd hpb
                  by_cases hq : I.c.2.1 = 0
                  · have hq1 := beqT hq
                    have HD := Lib.hid (show deedsD I s (d + 1) = deedsD I s d by rw [deedsD_succ, show deedD I s d = [] by unfold deedD; rw [if_pos (HQA.out.trans hq)], List.append_nil])
                    clear hq
                    go_wp2_with fail
                    refine (HP.out _).mono ?_
                    rintro e w2 ⟨rfl, hw⟩; subst hw
                    go_wp2_with fail
                    go_roundw
                    case rel => exact ⟨d + 1, by go_num, by omega, by rw [HD.out]; exact HOd.out.below HBk.out, bch HBd.out HBk.out HBd.out.size⟩
                    case measure => simp [intOf]; omega
                  · have hq1 := beqF hq
                    have HQ := Lib.hid (show ¬ (I.at (partyI (d : Int))).2.1 = 0 by rw [HQA.out]; exact hq)
                    clear hq
                    go_wp2_with fail
                    refine (HP.out _).mono ?_
                    rintro e w2 ⟨rfl, hw⟩; subst hw
                    go_wp2_with fail
                    refine (refRow_any _ _ I s.id d (HII.out.below (bch HBw.out HBk.out HBw.out.size)) HG.out).mono ?_
                    rintro e wm ⟨rfl, hbm⟩
                    have HBm := Lib.hid (bch HBk.out hbm HBk.out.size)
                    have HKm := Lib.hid (heap_keep HKk.out hbm)
                    clear hbm i0 i1 i2 i3 i4 i5 i6 i7 i8 k0 k1
                    go_upto_region 16 with (fail)
                    obtain ⟨wn, hwn⟩ : ∃ wn, wn = wm.alloc (.cells #[.int .i64 (rowOr I s.id d).1.1, .int .i64 (rowOr I s.id d).1.2, .int .i64 (rowOr I s.id d).2.1, .int .i64 (rowOr I s.id d).2.2.1, .int .i64 (rowOr I s.id d).2.2.2] tRow) := ⟨_, rfl⟩
                    rw [← hwn]
                    have HBn := Lib.hid (show Below wr.heap.size wr wn by rw [hwn]; exact HBm.out.alloc HBm.out.size _)
                    have HRn := Lib.hid (show wn.heap[wm.heap.size]? = some (.cells #[.int .i64 (rowOr I s.id d).1.1, .int .i64 (rowOr I s.id d).1.2, .int .i64 (rowOr I s.id d).2.1, .int .i64 (rowOr I s.id d).2.2.1, .int .i64 (rowOr I s.id d).2.2.2] tRow (0, 0)) by rw [hwn]; exact heap_new _ _)
                    have HKn := Lib.hid (show wn.heap[wr.heap.size]? = some (.cells #[.int .i64 s.id, .int .i64 d] tKey (0, 0)) by rw [hwn]; exact heap_keep HKm.out (below_alloc _ _))
                    clear hwn HBm HKm
                    obtain ⟨g', off', n'', c'', e, d0, d1, d2, d3, d4, d5, d6, d7, d8, d9, d10, d11⟩ := HS.out.cells (bch HBw.out HBn.out HBw.out.size) HSK.out
                    injection e with e1 e2 e3; injection e1 with e1; injection e1 with e1 e4 _; subst e1; subst e4; clear e2 e3
                    obtain ⟨r0, r1, r2, r3, r4⟩ := cell5 HRn.out
                    refine wp_region_still_tail 7 (by kernel_rfl) (by kernel_rfl) ?_
                    simp only [List.take_succ_cons, List.take_zero, List.drop_succ_cons, List.drop_zero]
                    iterate 7 still_step
                    refine wpStill_nil ?_
                    change wpList _ _ _ _ _ wn.drew
                    go_wp2_with fail
                    refine (refKind_at I s d hd6 _).mono ?_
                    rintro e wo ⟨rfl, hbo⟩
                    have HBo := Lib.hid (bch (below_drew1 HBn.out) hbo HBn.out.size)
                    have HKo := Lib.hid (heap_keep (w := wn.drew) HKn.out hbo)
                    clear hbo d0 d1 d2 d3 d4 d5 d6 d7 d8 d9 d10 d11 r0 r1 r2 r3 r4 HBn HRn HKn
                    have HOo := Lib.hid (HOd.out.below HBo.out)
                    have HBx := Lib.hid (bch HBd.out HBo.out HBd.out.size)
                    have hszo := HBx.out.size
                    obtain ⟨k0, k1, _, _⟩ := cell2 HKo.out
                    by_cases hkd : 0 < kindOf I s d
                    · have HD := Lib.hid (show sagasD I l j ++ deedsD I s (d + 1) = (sagasD I l j ++ deedsD I s d) ++ [((s.id, (d : Int)), kindOf I s d)] by rw [deedsD_succ, show deedD I s d = [((s.id, (d : Int)), kindOf I s d)] by unfold deedD; rw [if_neg HQ.out, if_pos hkd], List.append_assoc])
                      have hln : (sagasD I l j ++ deedsD I s d).length < 10000 := by rw [List.length_append]; have := sagas_len I l j; have := deeds_len I s d; omega
                      go_wp2_with fail
                      refine (lay_at ((s.id, (d : Int)), kindOf I s d) HOo.out hln hszo).mono ?_
                      rintro e wp ⟨vp, rfl, hop, hbp⟩
                      have HO' := Lib.hid (show RDs wp wa.heap.size vp ((sagasD I l j ++ deedsD I s (d + 1)).foldl layD []) by rw [HD.out]; exact hop)
                      have HB' := Lib.hid (bch HBx.out hbp HBx.out.size)
                      clear hop hbp
                      go_wp2_with fail
                      go_roundw
                      case rel => exact ⟨d + 1, by go_num, by omega, HO'.out, HB'.out⟩
                      case measure => simp [intOf]; omega
                    · have HD := Lib.hid (show deedsD I s (d + 1) = deedsD I s d by rw [deedsD_succ, show deedD I s d = [] by unfold deedD; rw [if_neg HQ.out, if_neg hkd], List.append_nil])
                      go_wp2_with fail
                      go_roundw
                      case rel => exact ⟨d + 1, by go_num, by omega, by rw [HD.out]; exact HOo.out, HBx.out⟩
                      case measure => simp [intOf]; omega
              · have hd6' : (6 : Int) ≤ d := by omega
                obtain rfl : d = 6 := by omega
                have HO' := Lib.hid (show RDs wr wa.heap.size u5 ((sagasD I l (j + 1)).foldl layD []) by rw [HN.out]; exact HOd.out)
                go_wp2_with fail
                go_roundw
                case rel => exact ⟨j + 1, by go_num, by omega, HO'.out, HBd.out⟩
                case measure => simp [intOf]; omega
    · have hkl' : (l.length : Int) ≤ k := by omega
      obtain rfl : k = l.length := by omega
      have HAL := Lib.hid (show sagasD I l l.length ++ rowsD l (preK I (0 : Int).toNat) = sagasD I l l.length by rw [show rowsD l (preK I (0 : Int).toNat) = [] from rfl, List.append_nil])
      go_wp2_with fail
      go_loopw [5, 14] (fun v i wr => ∃ p : Int, i = .int .i64 p ∧ 0 ≤ p ∧ p ≤ 3 ∧ Hid (RDs wr wa.heap.size v ((sagasD I l l.length ++ rowsD l (preK I p.toNat)).foldl layD [])) ∧ Hid (Below wa.heap.size wa wr)) (fun _ i _ => 3 - (intOf i).toNat)
      case atStart => exact ⟨0, rfl, by omega, by omega, by rw [HAL.out]; exact HOr.out, HBr.out⟩
      case round =>
        obtain ⟨p, rfl, hp0, hp3, HOp, HBp⟩ := hrel
        rcases (show p = 0 ∨ p = 1 ∨ p = 2 ∨ p = 3 by omega) with rfl | rfl | rfl | rfl
        · have HPS := Lib.hid (show preK I (1 : Int).toNat = preK I (0 : Int).toNat ++ I.a.2.2 from preK_succ I (p := 0) (by omega))
          have hRl := In.ok_len HG.out.a
          have HP4 := preK_len HG.out (0 : Int).toNat
          obtain ⟨_, _, e, _⟩ := H0.out.shape
          injection e with e1 e2 e3; subst e2; clear e1 e3
          have HCKR := Lib.hid (show ∀ y ∈ I.a.2.2, chkB y.1 = true from fun y hy => (In.okRow_party (In.ok_rows HG.out.a y hy)).2)
          generalize preK I (0 : Int).toNat = PK at HOp HPS HP4
          go_wp2_with fail
          go_loopw [5, 15] (fun v i wr => ∃ j : Nat, i = .int .i64 j ∧ j ≤ I.a.2.2.length ∧ Hid (RDs wr wa.heap.size v ((sagasD I l l.length ++ rowsD l (PK ++ I.a.2.2.take j)).foldl layD [])) ∧ Hid (Below wa.heap.size wa wr)) (fun _ i _ => I.a.2.2.length - (intOf i).toNat)
          case atStart => exact ⟨0, rfl, Nat.zero_le _, by rw [List.take_zero, List.append_nil]; exact HOp.out, HBp.out⟩
          case round =>
            obtain ⟨j, rfl, hj, HOj, HBj⟩ := hrel
            have hszj := HBj.out.size
            have HBw := Lib.hid (bch HB.out HBj.out HB.out.size)
            have HIj := Lib.hid (heap_keep HX.out HBj.out)
            obtain ⟨i0, i1, i2, i3, i4, i5, i6, i7, i8⟩ := cell9 HIj.out
            by_cases hjl : j < I.a.2.2.length
            · obtain ⟨y, hy⟩ : ∃ y, I.a.2.2[j]? = some y := ⟨_, List.getElem?_eq_getElem hjl⟩
              have HSN := Lib.hid (rowsD_snoc (l := l) hy PK)
              have HYY := Lib.hid hy
              obtain ⟨g, off, n', c', e, d0, d1, d2, d3, d4⟩ := (H0.out.keep HBw.out).cells (Below.refl _ _) hy
              injection e with e1 e2 e3
              subst e1; clear e2 e3
              have HDD := Lib.hid (fun W (hb : Below w.heap.size w W) => (show W.cell? ⟨g, off + j * 5, none⟩ = some (.int .i64 y.1.1) ∧ W.cell? ⟨g, off + j * 5 + 1, none⟩ = some (.int .i64 y.1.2) by
                obtain ⟨g', off', n'', c'', e, d0, d1, _⟩ := H0.out.cells hb HYY.out
                injection e with e1 e2 e3; injection e1 with e1; injection e1 with e1 e4 _; subst e1; subst e4
                exact ⟨d0, d1⟩))
              have hjl' : (j : Int) < I.a.2.2.length := by omega
              have hj0 : (0 : Int) ≤ j := by omega
              clear hy
              obtain ⟨⟨o, d⟩, t, a, q'⟩ := y
              simp only [] at d0 d1 HDD
              clear d2 d3 d4
              go_wp2_with fail
              go_loopw [16, 17] (fun b i wq => ∃ k : Nat, i = .int .i64 k ∧ k ≤ l.length ∧ b = .bool (knownTo l k o) ∧ Hid (Below wr.heap.size wr wq)) (fun _ i _ => l.length - (intOf i).toNat)
              case atStart => exact ⟨0, rfl, Nat.zero_le _, rfl, Below.refl _ _⟩
              case round =>
                obtain ⟨k, rfl, hk, rfl, HBq⟩ := hrel
                have HBv := Lib.hid (bch HBw.out HBq.out HBw.out.size)
                have HIq := Lib.hid (heap_keep HIj.out HBq.out)
                clear i0 i1 i2 i3 i4 i5 i6 i7 i8 d0 d1
                obtain ⟨i0, i1, i2, i3, i4, i5, i6, i7, i8⟩ := cell9 HIq.out
                obtain ⟨d0, d1⟩ := HDD.out _ HBv.out
                by_cases hkl : k < l.length
                · obtain ⟨s, hs⟩ : ∃ s, l[k]? = some s := ⟨_, List.getElem?_eq_getElem hkl⟩
                  have HKS := Lib.hid (known_succ hs o)
                  obtain ⟨gs, offs, n', c', e, t0, _⟩ := (HS.out.keep HBv.out).cells (Below.refl _ _) hs
                  injection e with e1 e2 e3
                  subst e1; clear e2 e3
                  have hk0 : (0 : Int) ≤ k := by omega
                  have hkl' : (k : Int) < l.length := by omega
                  clear hs
                  cases hf : knownTo l k o with
                  | true =>
                    have HF := Lib.hid (show knownTo l (k + 1) o = true by rw [HKS.out, hf]; rfl)
                    clear hf
                    go_wp2_with fail
                    go_quiet (fail)
                    go_wp2_with fail
                    go_roundw
                    case rel => exact ⟨k + 1, by go_num, by omega, by rw [HF.out], below_drewN HBq.out _⟩
                    case measure => simp [intOf]; omega
                  | false =>
                    by_cases hi : s.id = o
                    · have hi1 := beqT hi
                      have HF := Lib.hid (show knownTo l (k + 1) o = true by rw [HKS.out, hf]; simp [hi])
                      clear hf hi
                      go_wp2_with fail
                      go_quiet (fail)
                      go_wp2_with fail
                      go_roundw
                      case rel => exact ⟨k + 1, by go_num, by omega, by rw [HF.out], below_drewN HBq.out _⟩
                      case measure => simp [intOf]; omega
                    · have hi1 := beqF hi
                      have HF := Lib.hid (show knownTo l (k + 1) o = false by rw [HKS.out, hf]; simp [hi])
                      clear hf hi
                      go_wp2_with fail
                      go_quiet (fail)
                      go_wp2_with fail
                      go_roundw
                      case rel => exact ⟨k + 1, by go_num, by omega, by rw [HF.out], below_drewN HBq.out _⟩
                      case measure => simp [intOf]; omega
                · have hkl' : ¬ (k : Int) < l.length := by omega
                  obtain rfl : k = l.length := by omega
                  have HOq := Lib.hid (HOj.out.below HBq.out)
                  have HBz := Lib.hid (bch HBj.out HBq.out HBj.out.size)
                  have hszz := HBz.out.size
                  cases hf : knownTo l l.length o with
                  | true =>
                    have HN2 := Lib.hid (show Ma.rowD l ((o, d), t, a, q') = [] by unfold Ma.rowD; rw [← known_all, hf]; rfl)
                    clear hf
                    go_wp2_with fail
                    go_roundw
                    case rel => exact ⟨j + 1, by go_num, by omega, by rw [HSN.out, HN2.out, List.append_nil]; exact HOq.out, HBz.out⟩
                    case measure => simp [intOf]; omega
                  | false =>
                    have HN2 := Lib.hid (show Ma.rowD l ((o, d), t, a, q') = [((o, d), 5)] by unfold Ma.rowD; rw [← known_all, hf]; rfl)
                    clear hf
                    have hln : (sagasD I l l.length ++ rowsD l (PK ++ I.a.2.2.take j)).length < 10000 := by rw [List.length_append]; have := sagas_len I l l.length; have := rowsD_len l (PK ++ I.a.2.2.take j); simp at this; omega
                    go_wp2_with fail
                    refine (lay_at ((o, d), 5) HOq.out hln hszz).mono ?_
                    rintro e wp ⟨vp, rfl, hop, hbp⟩
                    have HO' := Lib.hid (show RDs wp wa.heap.size vp ((sagasD I l l.length ++ rowsD l (PK ++ I.a.2.2.take (j + 1))).foldl layD []) by rw [HSN.out, HN2.out, ← List.append_assoc]; exact hop)
                    have HB' := Lib.hid (bch HBz.out hbp HBz.out.size)
                    clear hop hbp
                    go_wp2_with fail
                    go_roundw
                    case rel => exact ⟨j + 1, by go_num, by omega, HO'.out, HB'.out⟩
                    case measure => simp [intOf]; omega
            · have hjl' : (I.a.2.2.length : Int) ≤ j := by omega
              have HO' := Lib.hid (show RDs wr wa.heap.size u5 ((sagasD I l l.length ++ rowsD l (preK I (1 : Int).toNat)).foldl layD []) by rw [HPS.out]; have := HOj.out; rwa [List.take_of_length_le (by omega)] at this)
              go_wp2_with fail
              go_roundw
              case rel => exact ⟨1, rfl, by omega, by omega, HO'.out, HBj.out⟩
              case measure => simp [intOf]
        · have HPS := Lib.hid (show preK I (2 : Int).toNat = preK I (1 : Int).toNat ++ I.b.2.2 from preK_succ I (p := 1) (by omega))
          have hRl := In.ok_len HG.out.b
          have HP4 := preK_len HG.out (1 : Int).toNat
          obtain ⟨_, _, e, _⟩ := H1.out.shape
          injection e with e1 e2 e3; subst e2; clear e1 e3
          have HCKR := Lib.hid (show ∀ y ∈ I.b.2.2, chkB y.1 = true from fun y hy => (In.okRow_party (In.ok_rows HG.out.b y hy)).2)
          generalize preK I (1 : Int).toNat = PK at HOp HPS HP4
          go_wp2_with fail
          go_loopw [5, 15] (fun v i wr => ∃ j : Nat, i = .int .i64 j ∧ j ≤ I.b.2.2.length ∧ Hid (RDs wr wa.heap.size v ((sagasD I l l.length ++ rowsD l (PK ++ I.b.2.2.take j)).foldl layD [])) ∧ Hid (Below wa.heap.size wa wr)) (fun _ i _ => I.b.2.2.length - (intOf i).toNat)
          case atStart => exact ⟨0, rfl, Nat.zero_le _, by rw [List.take_zero, List.append_nil]; exact HOp.out, HBp.out⟩
          case round =>
            obtain ⟨j, rfl, hj, HOj, HBj⟩ := hrel
            have hszj := HBj.out.size
            have HBw := Lib.hid (bch HB.out HBj.out HB.out.size)
            have HIj := Lib.hid (heap_keep HX.out HBj.out)
            obtain ⟨i0, i1, i2, i3, i4, i5, i6, i7, i8⟩ := cell9 HIj.out
            by_cases hjl : j < I.b.2.2.length
            · obtain ⟨y, hy⟩ : ∃ y, I.b.2.2[j]? = some y := ⟨_, List.getElem?_eq_getElem hjl⟩
              have HSN := Lib.hid (rowsD_snoc (l := l) hy PK)
              have HYY := Lib.hid hy
              obtain ⟨g, off, n', c', e, d0, d1, d2, d3, d4⟩ := (H1.out.keep HBw.out).cells (Below.refl _ _) hy
              injection e with e1 e2 e3
              subst e1; clear e2 e3
              have HDD := Lib.hid (fun W (hb : Below w.heap.size w W) => (show W.cell? ⟨g, off + j * 5, none⟩ = some (.int .i64 y.1.1) ∧ W.cell? ⟨g, off + j * 5 + 1, none⟩ = some (.int .i64 y.1.2) by
                obtain ⟨g', off', n'', c'', e, d0, d1, _⟩ := H1.out.cells hb HYY.out
                injection e with e1 e2 e3; injection e1 with e1; injection e1 with e1 e4 _; subst e1; subst e4
                exact ⟨d0, d1⟩))
              have hjl' : (j : Int) < I.b.2.2.length := by omega
              have hj0 : (0 : Int) ≤ j := by omega
              clear hy
              obtain ⟨⟨o, d⟩, t, a, q'⟩ := y
              simp only [] at d0 d1 HDD
              clear d2 d3 d4
              go_wp2_with fail
              go_loopw [16, 17] (fun b i wq => ∃ k : Nat, i = .int .i64 k ∧ k ≤ l.length ∧ b = .bool (knownTo l k o) ∧ Hid (Below wr.heap.size wr wq)) (fun _ i _ => l.length - (intOf i).toNat)
              case atStart => exact ⟨0, rfl, Nat.zero_le _, rfl, Below.refl _ _⟩
              case round =>
                obtain ⟨k, rfl, hk, rfl, HBq⟩ := hrel
                have HBv := Lib.hid (bch HBw.out HBq.out HBw.out.size)
                have HIq := Lib.hid (heap_keep HIj.out HBq.out)
                clear i0 i1 i2 i3 i4 i5 i6 i7 i8 d0 d1
                obtain ⟨i0, i1, i2, i3, i4, i5, i6, i7, i8⟩ := cell9 HIq.out
                obtain ⟨d0, d1⟩ := HDD.out _ HBv.out
                by_cases hkl : k < l.length
                · obtain ⟨s, hs⟩ : ∃ s, l[k]? = some s := ⟨_, List.getElem?_eq_getElem hkl⟩
                  have HKS := Lib.hid (known_succ hs o)
                  obtain ⟨gs, offs, n', c', e, t0, _⟩ := (HS.out.keep HBv.out).cells (Below.refl _ _) hs
                  injection e with e1 e2 e3
                  subst e1; clear e2 e3
                  have hk0 : (0 : Int) ≤ k := by omega
                  have hkl' : (k : Int) < l.length := by omega
                  clear hs
                  cases hf : knownTo l k o with
                  | true =>
                    have HF := Lib.hid (show knownTo l (k + 1) o = true by rw [HKS.out, hf]; rfl)
                    clear hf
                    go_wp2_with fail
                    go_quiet (fail)
                    go_wp2_with fail
                    go_roundw
                    case rel => exact ⟨k + 1, by go_num, by omega, by rw [HF.out], below_drewN HBq.out _⟩
                    case measure => simp [intOf]; omega
                  | false =>
                    by_cases hi : s.id = o
                    · have hi1 := beqT hi
                      have HF := Lib.hid (show knownTo l (k + 1) o = true by rw [HKS.out, hf]; simp [hi])
                      clear hf hi
                      go_wp2_with fail
                      go_quiet (fail)
                      go_wp2_with fail
                      go_roundw
                      case rel => exact ⟨k + 1, by go_num, by omega, by rw [HF.out], below_drewN HBq.out _⟩
                      case measure => simp [intOf]; omega
                    · have hi1 := beqF hi
                      have HF := Lib.hid (show knownTo l (k + 1) o = false by rw [HKS.out, hf]; simp [hi])
                      clear hf hi
                      go_wp2_with fail
                      go_quiet (fail)
                      go_wp2_with fail
                      go_roundw
                      case rel => exact ⟨k + 1, by go_num, by omega, by rw [HF.out], below_drewN HBq.out _⟩
                      case measure => simp [intOf]; omega
                · have hkl' : ¬ (k : Int) < l.length := by omega
                  obtain rfl : k = l.length := by omega
                  have HOq := Lib.hid (HOj.out.below HBq.out)
                  have HBz := Lib.hid (bch HBj.out HBq.out HBj.out.size)
                  have hszz := HBz.out.size
                  cases hf : knownTo l l.length o with
                  | true =>
                    have HN2 := Lib.hid (show Ma.rowD l ((o, d), t, a, q') = [] by unfold Ma.rowD; rw [← known_all, hf]; rfl)
                    clear hf
                    go_wp2_with fail
                    go_roundw
                    case rel => exact ⟨j + 1, by go_num, by omega, by rw [HSN.out, HN2.out, List.append_nil]; exact HOq.out, HBz.out⟩
                    case measure => simp [intOf]; omega
                  | false =>
                    have HN2 := Lib.hid (show Ma.rowD l ((o, d), t, a, q') = [((o, d), 5)] by unfold Ma.rowD; rw [← known_all, hf]; rfl)
                    clear hf
                    have hln : (sagasD I l l.length ++ rowsD l (PK ++ I.b.2.2.take j)).length < 10000 := by rw [List.length_append]; have := sagas_len I l l.length; have := rowsD_len l (PK ++ I.b.2.2.take j); simp at this; omega
                    go_wp2_with fail
                    refine (lay_at ((o, d), 5) HOq.out hln hszz).mono ?_
                    rintro e wp ⟨vp, rfl, hop, hbp⟩
                    have HO' := Lib.hid (show RDs wp wa.heap.size vp ((sagasD I l l.length ++ rowsD l (PK ++ I.b.2.2.take (j + 1))).foldl layD []) by rw [HSN.out, HN2.out, ← List.append_assoc]; exact hop)
                    have HB' := Lib.hid (bch HBz.out hbp HBz.out.size)
                    clear hop hbp
                    go_wp2_with fail
                    go_roundw
                    case rel => exact ⟨j + 1, by go_num, by omega, HO'.out, HB'.out⟩
                    case measure => simp [intOf]; omega
            · have hjl' : (I.b.2.2.length : Int) ≤ j := by omega
              have HO' := Lib.hid (show RDs wr wa.heap.size u5 ((sagasD I l l.length ++ rowsD l (preK I (2 : Int).toNat)).foldl layD []) by rw [HPS.out]; have := HOj.out; rwa [List.take_of_length_le (by omega)] at this)
              go_wp2_with fail
              go_roundw
              case rel => exact ⟨2, rfl, by omega, by omega, HO'.out, HBj.out⟩
              case measure => simp [intOf]
        · have HPS := Lib.hid (show preK I (3 : Int).toNat = preK I (2 : Int).toNat ++ I.c.2.2 from preK_succ I (p := 2) (by omega))
          have hRl := In.ok_len HG.out.c
          have HP4 := preK_len HG.out (2 : Int).toNat
          obtain ⟨_, _, e, _⟩ := H2.out.shape
          injection e with e1 e2 e3; subst e2; clear e1 e3
          have HCKR := Lib.hid (show ∀ y ∈ I.c.2.2, chkB y.1 = true from fun y hy => (In.okRow_party (In.ok_rows HG.out.c y hy)).2)
          generalize preK I (2 : Int).toNat = PK at HOp HPS HP4
          go_wp2_with fail
          go_loopw [5, 15] (fun v i wr => ∃ j : Nat, i = .int .i64 j ∧ j ≤ I.c.2.2.length ∧ Hid (RDs wr wa.heap.size v ((sagasD I l l.length ++ rowsD l (PK ++ I.c.2.2.take j)).foldl layD [])) ∧ Hid (Below wa.heap.size wa wr)) (fun _ i _ => I.c.2.2.length - (intOf i).toNat)
          case atStart => exact ⟨0, rfl, Nat.zero_le _, by rw [List.take_zero, List.append_nil]; exact HOp.out, HBp.out⟩
          case round =>
            obtain ⟨j, rfl, hj, HOj, HBj⟩ := hrel
            have hszj := HBj.out.size
            have HBw := Lib.hid (bch HB.out HBj.out HB.out.size)
            have HIj := Lib.hid (heap_keep HX.out HBj.out)
            obtain ⟨i0, i1, i2, i3, i4, i5, i6, i7, i8⟩ := cell9 HIj.out
            by_cases hjl : j < I.c.2.2.length
            · obtain ⟨y, hy⟩ : ∃ y, I.c.2.2[j]? = some y := ⟨_, List.getElem?_eq_getElem hjl⟩
              have HSN := Lib.hid (rowsD_snoc (l := l) hy PK)
              have HYY := Lib.hid hy
              obtain ⟨g, off, n', c', e, d0, d1, d2, d3, d4⟩ := (H2.out.keep HBw.out).cells (Below.refl _ _) hy
              injection e with e1 e2 e3
              subst e1; clear e2 e3
              have HDD := Lib.hid (fun W (hb : Below w.heap.size w W) => (show W.cell? ⟨g, off + j * 5, none⟩ = some (.int .i64 y.1.1) ∧ W.cell? ⟨g, off + j * 5 + 1, none⟩ = some (.int .i64 y.1.2) by
                obtain ⟨g', off', n'', c'', e, d0, d1, _⟩ := H2.out.cells hb HYY.out
                injection e with e1 e2 e3; injection e1 with e1; injection e1 with e1 e4 _; subst e1; subst e4
                exact ⟨d0, d1⟩))
              have hjl' : (j : Int) < I.c.2.2.length := by omega
              have hj0 : (0 : Int) ≤ j := by omega
              clear hy
              obtain ⟨⟨o, d⟩, t, a, q'⟩ := y
              simp only [] at d0 d1 HDD
              clear d2 d3 d4
              go_wp2_with fail
              go_loopw [16, 17] (fun b i wq => ∃ k : Nat, i = .int .i64 k ∧ k ≤ l.length ∧ b = .bool (knownTo l k o) ∧ Hid (Below wr.heap.size wr wq)) (fun _ i _ => l.length - (intOf i).toNat)
              case atStart => exact ⟨0, rfl, Nat.zero_le _, rfl, Below.refl _ _⟩
              case round =>
                obtain ⟨k, rfl, hk, rfl, HBq⟩ := hrel
                have HBv := Lib.hid (bch HBw.out HBq.out HBw.out.size)
                have HIq := Lib.hid (heap_keep HIj.out HBq.out)
                clear i0 i1 i2 i3 i4 i5 i6 i7 i8 d0 d1
                obtain ⟨i0, i1, i2, i3, i4, i5, i6, i7, i8⟩ := cell9 HIq.out
                obtain ⟨d0, d1⟩ := HDD.out _ HBv.out
                by_cases hkl : k < l.length
                · obtain ⟨s, hs⟩ : ∃ s, l[k]? = some s := ⟨_, List.getElem?_eq_getElem hkl⟩
                  have HKS := Lib.hid (known_succ hs o)
                  obtain ⟨gs, offs, n', c', e, t0, _⟩ := (HS.out.keep HBv.out).cells (Below.refl _ _) hs
                  injection e with e1 e2 e3
                  subst e1; clear e2 e3
                  have hk0 : (0 : Int) ≤ k := by omega
                  have hkl' : (k : Int) < l.length := by omega
                  clear hs
                  cases hf : knownTo l k o with
                  | true =>
                    have HF := Lib.hid (show knownTo l (k + 1) o = true by rw [HKS.out, hf]; rfl)
                    clear hf
                    go_wp2_with fail
                    go_quiet (fail)
                    go_wp2_with fail
                    go_roundw
                    case rel => exact ⟨k + 1, by go_num, by omega, by rw [HF.out], below_drewN HBq.out _⟩
                    case measure => simp [intOf]; omega
                  | false =>
                    by_cases hi : s.id = o
                    · have hi1 := beqT hi
                      have HF := Lib.hid (show knownTo l (k + 1) o = true by rw [HKS.out, hf]; simp [hi])
                      clear hf hi
                      go_wp2_with fail
                      go_quiet (fail)
                      go_wp2_with fail
                      go_roundw
                      case rel => exact ⟨k + 1, by go_num, by omega, by rw [HF.out], below_drewN HBq.out _⟩
                      case measure => simp [intOf]; omega
                    · have hi1 := beqF hi
                      have HF := Lib.hid (show knownTo l (k + 1) o = false by rw [HKS.out, hf]; simp [hi])
                      clear hf hi
                      go_wp2_with fail
                      go_quiet (fail)
                      go_wp2_with fail
                      go_roundw
                      case rel => exact ⟨k + 1, by go_num, by omega, by rw [HF.out], below_drewN HBq.out _⟩
                      case measure => simp [intOf]; omega
                · have hkl' : ¬ (k : Int) < l.length := by omega
                  obtain rfl : k = l.length := by omega
                  have HOq := Lib.hid (HOj.out.below HBq.out)
                  have HBz := Lib.hid (bch HBj.out HBq.out HBj.out.size)
                  have hszz := HBz.out.size
                  cases hf : knownTo l l.length o with
                  | true =>
                    have HN2 := Lib.hid (show Ma.rowD l ((o, d), t, a, q') = [] by unfold Ma.rowD; rw [← known_all, hf]; rfl)
                    clear hf
                    go_wp2_with fail
                    go_roundw
                    case rel => exact ⟨j + 1, by go_num, by omega, by rw [HSN.out, HN2.out, List.append_nil]; exact HOq.out, HBz.out⟩
                    case measure => simp [intOf]; omega
                  | false =>
                    have HN2 := Lib.hid (show Ma.rowD l ((o, d), t, a, q') = [((o, d), 5)] by unfold Ma.rowD; rw [← known_all, hf]; rfl)
                    clear hf
                    have hln : (sagasD I l l.length ++ rowsD l (PK ++ I.c.2.2.take j)).length < 10000 := by rw [List.length_append]; have := sagas_len I l l.length; have := rowsD_len l (PK ++ I.c.2.2.take j); simp at this; omega
                    go_wp2_with fail
                    refine (lay_at ((o, d), 5) HOq.out hln hszz).mono ?_
                    rintro e wp ⟨vp, rfl, hop, hbp⟩
                    have HO' := Lib.hid (show RDs wp wa.heap.size vp ((sagasD I l l.length ++ rowsD l (PK ++ I.c.2.2.take (j + 1))).foldl layD []) by rw [HSN.out, HN2.out, ← List.append_assoc]; exact hop)
                    have HB' := Lib.hid (bch HBz.out hbp HBz.out.size)
                    clear hop hbp
                    go_wp2_with fail
                    go_roundw
                    case rel => exact ⟨j + 1, by go_num, by omega, HO'.out, HB'.out⟩
                    case measure => simp [intOf]; omega
            · have hjl' : (I.c.2.2.length : Int) ≤ j := by omega
              have HO' := Lib.hid (show RDs wr wa.heap.size u5 ((sagasD I l l.length ++ rowsD l (preK I (3 : Int).toNat)).foldl layD []) by rw [HPS.out]; have := HOj.out; rwa [List.take_of_length_le (by omega)] at this)
              go_wp2_with fail
              go_roundw
              case rel => exact ⟨3, rfl, by omega, by omega, HO'.out, HBj.out⟩
              case measure => simp [intOf]
        · have HO' := Lib.hid (show RDs wr wa.heap.size u5 (findD l I) from HOp.out)
          have HBf := Lib.hid (bch HB.out HBp.out HB.out.size)
          clear HOp
          go_wp2_with fail
          go_ret
          exact ⟨_, rfl, own_weak HO'.out (by omega), HBf.out⟩
end Go.Proofs.YtlfibaijpimocaaDoor

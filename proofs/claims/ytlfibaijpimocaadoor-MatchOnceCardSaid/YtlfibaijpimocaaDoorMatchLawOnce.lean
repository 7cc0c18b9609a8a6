/- The law MatchOnce: each key is told once at most, rising; without statements there are no differences. -/
import Derived.Test.YtlfibaijpimocaaDoorMatched
import Derived.Test.YtlfibaijpimocaaDoorMatchOpen
import Derived.IntWalk
namespace Go.Proofs.YtlfibaijpimocaaDoor
open Go.RowKit Go.Maps Key Rw Sa Ma

theorem kind_bd (I : In.Inn) (s : Sg) (d : Nat) : kindOf I s d ≤ 5 := by
  have h : ∀ c a q ok, kindI s d c a q ok ≤ 5 := fun c a q ok => by unfold kindI; repeat' split <;> omega
  unfold kindOf
  split
  · exact h _ _ _ _
  · exact h _ _ _ _
theorem find_kinds {l : List Sg} {I : In.Inn} {x : D3} (h : x ∈ findD l I) : 1 ≤ x.2 ∧ x.2 ≤ 5 := by
  have hx := (find_perm l I).mem_iff.1 h
  unfold allD at hx
  rcases List.mem_append.1 hx with hx | hx
  · obtain ⟨j, s, _, _, _, hd⟩ := mem_sagas hx
    obtain ⟨d, _, _, hd⟩ := mem_deeds hd
    unfold deedD at hd
    split at hd
    · cases hd
    · split at hd
      · rw [List.mem_singleton] at hd
        have := kind_bd I s d
        subst hd
        simp only []
        omega
      · cases hd
  · obtain ⟨r, _, _, rfl⟩ := mem_rows hx
    simp
theorem nil_at (q : Int) : In.nil.at q = In.noS := by
  unfold In.Inn.at
  split
  · rfl
  · split <;> rfl
theorem find_nil (l : List Sg) : findD l In.nil = [] := by
  have h : allD l In.nil = [] := by
    apply List.eq_nil_iff_forall_not_mem.2
    intro x hx
    unfold allD at hx
    rcases List.mem_append.1 hx with hx | hx
    · obtain ⟨j, s, _, _, _, hd⟩ := mem_sagas hx
      obtain ⟨d, _, _, hd⟩ := mem_deeds hd
      unfold deedD at hd
      rw [if_pos (by rw [nil_at]; rfl)] at hd
      cases hd
    · obtain ⟨r, hr, _, _⟩ := mem_rows hx
      cases hr
  unfold findD
  rw [h]
  rfl
theorem acc_at {x : In.Stm} (he : In.accE In.nil x = 0) : validB x.1 x.2.1 x.2.2 = true ∧ In.accI In.nil x = In.nil.put x.1 x := by
  refine ⟨?_, by unfold In.accI; rw [if_pos he]⟩
  unfold In.accE at he
  cases hv : validB x.1 x.2.1 x.2.2
  · simp [hv] at he
  · rfl
theorem find_party {l : List Sg} {x : In.Stm} (he : In.accE In.nil x = 0) {y : D3} (hy : y ∈ findD l (In.accI In.nil x)) : partyI y.1.2 = x.1 := by
  obtain ⟨hv, e⟩ := acc_at he
  have hp := In.valid_party hv
  rw [e] at hy
  have hx := (find_perm l _).mem_iff.1 hy
  unfold allD at hx
  rcases List.mem_append.1 hx with hx | hx
  · obtain ⟨j, s, _, _, _, hd⟩ := mem_sagas hx
    obtain ⟨d, hd6, hk, hd⟩ := mem_deeds hd
    rw [hk]
    unfold deedD at hd
    split at hd
    · cases hd
    · rename_i hq
      have hpd := party_bd (d := (d : Int)) (by omega) (by omega)
      generalize partyI (d : Int) = q at hq hpd ⊢
      apply Classical.byContradiction
      intro hne
      apply hq
      rcases hp with h | h | h <;> (rw [h] at hne ⊢; rcases (show q = 0 ∨ q = 1 ∨ q = 2 by omega) with rfl | rfl | rfl <;> first | rfl | exact absurd rfl hne)
  · obtain ⟨r, hr, _, rfl⟩ := mem_rows hx
    have hr' : r ∈ x.2.2 := by rcases hp with h | h | h <;> (rw [h] at hr; simpa [In.rowsAll, In.Inn.put, In.nil, In.noS] using hr)
    exact (In.okRow_party (In.valid_rows hv r hr')).1

set_option linter.unusedSimpArgs false in
set_option linter.unusedVariables false in
set_option maxRecDepth 100000 in
set_option maxHeartbeats 8000000 in
theorem lawMatchOnce_walk (w : World) (hT : PT w) (v : Value) (l : List Sg) (hS : Sgs w v l) (hids : ∀ s ∈ l, -9223372036854775808 ≤ s.id ∧ s.id ≤ 9223372036854775807) (x : In.Stm) (u : Value) (hu : Rd w u x.2.2) :
    Calls Tryd.prog 4 #[v, .agg #[.int .i64 x.1, .int .i64 x.2.1, u]] w fun e w' => e = .returned (.bool true) ∧ Below w.heap.size w w' := by
  have HT := Lib.hid hT
  have HS := Lib.hid hS
  have HU := Lib.hid hu
  have HID := Lib.hid hids
  obtain ⟨A0, c0', rfl, _, hcm0⟩ := hS.shape
  obtain ⟨A, c, rfl, _, hcm⟩ := hu.shape
  clear hT hS hu hids
  have hl63 : (l.length : Int) ≤ 9223372036854775807 := by unfold maxLen at hcm0; omega
  have hr63 : (x.2.2.length : Int) ≤ 9223372036854775807 := by unfold maxLen at hcm; omega
  by_cases hl : 20 < l.length
  · have hl' : (20 : Int) < l.length := by omega
    have HB0 := Lib.hid (below_alloc w (.cells #[.int .i64 x.1, .int .i64 x.2.1, .slice A x.2.2.length c] tStat))
    go_enter Tryd.func4, Tryd.ntmps4
    go_wp2_with fail
    refine (matched_any _ (HT.out.below HB0.out)).mono ?_
    rintro e w9 ⟨rfl, hb⟩
    have HB9 := Lib.hid (bch HB0.out hb HB0.out.size)
    clear hb
    go_wp2_with fail
    go_ret
    exact ⟨rfl, HB9.out⟩
  · have hl' : ¬ (20 : Int) < l.length := by omega
    by_cases hr : 60 < x.2.2.length
    · have hr' : (60 : Int) < x.2.2.length := by omega
      have HB0 := Lib.hid (below_alloc w (.cells #[.int .i64 x.1, .int .i64 x.2.1, .slice A x.2.2.length c] tStat))
      go_enter Tryd.func4, Tryd.ntmps4
      go_wp2_with fail
      refine (matched_any _ (HT.out.below HB0.out)).mono ?_
      rintro e w9 ⟨rfl, hb⟩
      have HB9 := Lib.hid (bch HB0.out hb HB0.out.size)
      clear hb
      go_wp2_with fail
      go_ret
      exact ⟨rfl, HB9.out⟩
    · have hr' : ¬ (60 : Int) < x.2.2.length := by omega
      obtain ⟨wa, hA⟩ : ∃ wa, wa = (w.alloc (.cells #[.int .i64 x.1, .int .i64 x.2.1, .slice A x.2.2.length c] tStat)).alloc (.cells zIn tIn) := ⟨_, rfl⟩
      obtain ⟨hB, hX, hI⟩ := two_new w _ _ tStat tIn hA
      have HB := Lib.hid hB; have HX := Lib.hid hX; have HI := Lib.hid hI; have HA := Lib.hid hA
      clear hA hB hX hI
      go_enter Tryd.func4, Tryd.ntmps4
      go_upto_region 4 with (fail)
      rw [← HA.out]
      obtain ⟨i0, i1, i2, i3, i4, i5, i6, i7, i8, i9⟩ := cell10 HI.out
      go_wp2_with fail
      refine (find_any _ _ _ l In.nil (by omega) HID.out (HS.out.keep HB.out) (InP.nil _) In.Fine.nil (HT.out.below HB.out)).mono ?_
      rintro e w1 ⟨v1, rfl, ho, hb⟩
      rw [find_nil] at ho
      obtain ⟨A1, c1, rfl⟩ := row_none ho
      have HB1 := Lib.hid (bch HB.out hb HB.out.size)
      have HX1 := Lib.hid (heap_keep HX.out hb)
      have HI1 := Lib.hid (heap_keep HI.out hb)
      clear ho hb i0 i1 i2 i3 i4 i5 i6 i7 i8 i9 HA HB HX HI
      obtain ⟨i0, i1, i2, i3, i4, i5, i6, i7, i8, i9⟩ := cell10 HI1.out
      obtain ⟨k0, k1, k2⟩ := cell3c HX1.out
      go_wp2_with fail
      by_cases he : In.accE In.nil x = 0
      · refine (accept_ok w1 _ In.nil x _ (InP.nil w1) (HU.out.keep HB1.out) (HT.out.below HB1.out) In.Fine.nil he).mono ?_
        rintro e w2 ⟨v2, rfl, hv, _, hb⟩
        have HB2 := Lib.hid (bch HB1.out hb HB1.out.size)
        have HX2 := Lib.hid (heap_keep HX1.out hb)
        have HV2 := Lib.hid hv
        have HE := Lib.hid he
        obtain ⟨B0, p0, q0, B1, p1, q1, B2, p2, q2, m', rfl, _⟩ := hv
        clear hb he i0 i1 i2 i3 i4 i5 i6 i7 i8 i9 k0 k1 k2 HB1 HX1 HI1
        generalize hJ : In.accI In.nil x = J at HV2 ⊢
        have HJ := Lib.hid hJ
        have HFJ := Lib.hid (hJ ▸ In.Fine.acc In.Fine.nil x)
        clear hJ
        go_upto_region 7 with (fail)
        obtain ⟨w3, hw3⟩ : ∃ w3, w3 = w2.alloc (.cells #[.int .i64 J.a.1, .int .i64 J.a.2.1, .slice B0 p0 q0, .int .i64 J.b.1, .int .i64 J.b.2.1, .slice B1 p1 q1, .int .i64 J.c.1, .int .i64 J.c.2.1, .slice B2 p2 q2, .map m'] tIn) := ⟨_, rfl⟩
        rw [← hw3]
        have hB3 : Below w2.heap.size w2 w3 := by rw [hw3]; exact below_alloc _ _
        have HI3 := Lib.hid (show w3.heap[w2.heap.size]? = some (.cells #[.int .i64 J.a.1, .int .i64 J.a.2.1, .slice B0 p0 q0, .int .i64 J.b.1, .int .i64 J.b.2.1, .slice B1 p1 q1, .int .i64 J.c.1, .int .i64 J.c.2.1, .slice B2 p2 q2, .map m'] tIn (0, 0)) by rw [hw3]; exact heap_new _ _)
        have HB3 := Lib.hid (bch HB2.out hB3 HB2.out.size)
        have HX3 := Lib.hid (heap_keep HX2.out hB3)
        have HV3 := Lib.hid (HV2.out.below hB3)
        clear hw3 hB3 HB2 HX2 HV2
        obtain ⟨i0, i1, i2, i3, i4, i5, i6, i7, i8, i9⟩ := cell10 HI3.out
        go_wp2_with fail
        refine (find_any _ _ _ l J (by omega) HID.out (HS.out.keep HB3.out) HV3.out HFJ.out (HT.out.below HB3.out)).mono ?_
        rintro e w4 ⟨v4, rfl, ho, hb⟩
        have hfl : (findD l J).length < 2000 := by rw [(find_perm l J).length_eq]; unfold allD; rw [List.length_append]; have := sagas_len J l l.length; have := rowsD_len l (In.rowsAll J); have := preK_len HFJ.out 3; unfold preK at this; simp at this; omega
        have HB4 := Lib.hid (bch HB3.out hb HB3.out.size)
        have HX4 := Lib.hid (heap_keep HX3.out hb)
        have HO4 := Lib.hid ho
        have HRS := Lib.hid (find_rise l HFJ.out)
        have HKD := Lib.hid (fun y (hy : y ∈ findD l J) => find_kinds hy)
        have HPY := Lib.hid (fun y (hy : y ∈ findD l J) => find_party HE.out (HJ.out ▸ hy))
        generalize findD l J = R at HO4 HRS HKD HPY hfl
        clear ho hb i0 i1 i2 i3 i4 i5 i6 i7 i8 i9 HB3 HX3 HI3 HV3
        obtain ⟨A4, c4, rfl, _⟩ := own_slice HO4.out
        go_wp2_with fail
        go_loopw [9] (fun i wr => ∃ k : Nat, i = .int .i64 k ∧ k ≤ R.length ∧ Hid (Below w4.heap.size w4 wr)) (fun i _ => R.length - (intOf i).toNat)
        case atStart => exact ⟨0, rfl, Nat.zero_le _, Below.refl _ _⟩
        case round =>
          obtain ⟨k, rfl, hk, HBr⟩ := hrel
          have HBw := Lib.hid (bch HB4.out HBr.out HB4.out.size)
          have HXr := Lib.hid (heap_keep HX4.out HBr.out)
          obtain ⟨k0, k1, k2⟩ := cell3c HXr.out
          by_cases hkl : k < R.length
          · obtain ⟨y, hy⟩ : ∃ y, R[k]? = some y := ⟨_, List.getElem?_eq_getElem hkl⟩
            have HOr := Lib.hid (own_keep HO4.out HBr.out)
            obtain ⟨_, h0⟩ | ⟨g, c2, e2, hg, hgl, hgc⟩ := own_ptr HOr.out
            · omega
            injection e2 with e2 e3 e4; subst e2; subst e4
            have d0 := own_cellK encD_len (by decide) HOr.out hy 0 (by decide)
            have d1 := own_cellK encD_len (by decide) HOr.out hy 1 (by decide)
            have d2 := own_cellK encD_len (by decide) HOr.out hy 2 (by decide)
            have hkd := HKD.out y (List.mem_of_getElem? hy)
            have hpy := HPY.out y (List.mem_of_getElem? hy)
            have HY := Lib.hid hy
            obtain ⟨⟨o, d⟩, t⟩ := y
            simp only [encD, List.getElem?_cons_zero, List.getElem?_cons_succ] at d0 d1 d2 hkd hpy
            rw [Nat.add_zero] at d0
            obtain ⟨hk1, hk5⟩ := hkd
            have hk1' : decide (t < 1) = false := by simp; omega
            have hk5' : decide (5 < t) = false := by simp; omega
            have HP := Lib.hid (fun W (hb : Below w.heap.size w W) => (show Calls Tryd.prog 18 #[.int .i64 d] W fun e w' => e = .returned (.int .i64 x.1) ∧ W = w' by have := party_any d W (HT.out.below hb); rw [hpy] at this; exact this))
            have hlt : (k : Int) < R.length := by omega
            have hk0 : (0 : Int) ≤ k := by omega
            have heq := bneF (rfl : x.1 = x.1)
            clear hy hpy
            cases k with
            | zero =>
              rw [show ((0 : Nat) : Int) = 0 from rfl] at hlt hk0 ⊢
              simp only [Nat.zero_mul, Nat.zero_add] at d0 d1 d2
              go_wp2_with fail
              refine wp_region_noPanic ?_
              refine wp_region_held_drew (S := (fun w' => Hid (Below wr.heap.size wr w') ∧ w'.cell? ⟨g, 0, none⟩ = some (.int .i64 o) ∧ w'.cell? ⟨g, 1, none⟩ = some (.int .i64 d) ∧ w'.cell? ⟨g, 2, none⟩ = some (.int .i64 t) ∧ w'.cell? ⟨w.heap.size, 0, none⟩ = some (.int .i64 x.1))) (by kernel_rfl) ⟨(below_drew1 (Below.refl _ wr)), (((below_drew1 (Below.refl _ wr))).cell (World.block_lt_of_cell? _ _ d0)).trans d0, (((below_drew1 (Below.refl _ wr))).cell (World.block_lt_of_cell? _ _ d1)).trans d1, (((below_drew1 (Below.refl _ wr))).cell (World.block_lt_of_cell? _ _ d2)).trans d2, (((below_drew1 (Below.refl _ wr))).cell (World.block_lt_of_cell? _ _ k0)).trans k0⟩ (fun hHeld => ?_)
              refine wpAnyH_take (i := 0) (v := ?va0) rfl (by kernel_rfl) (by kernel_rfl) (by kernel_rfl) (fun _ _ _ h => h) (Or.inl ⟨by rfl, ?hya0⟩) (by assumption) ?resta0
              case hya0 => (intro w0 hSw; (try dsimp only at hSw); go_simp; try with_reducible rfl)
              case' resta0 => try simp only [Act.put, List.getElem_toArray, List.getElem_cons_zero, List.getElem_cons_succ, List.setIfInBounds_toArray, List.set_cons_zero, List.set_cons_succ]
              refine wpAnyH_take (i := 1) (v := ?va1) rfl (by kernel_rfl) (by kernel_rfl) (by kernel_rfl) (fun _ _ _ h => h) (Or.inl ⟨by rfl, ?hya1⟩) (by assumption) ?resta1
              case hya1 => (intro w0 hSw; (try dsimp only at hSw); go_simp; try with_reducible rfl)
              case' resta1 => try simp only [Act.put, List.getElem_toArray, List.getElem_cons_zero, List.getElem_cons_succ, List.setIfInBounds_toArray, List.set_cons_zero, List.set_cons_succ]
              refine wpAnyH_take (i := 2) (v := ?va2) rfl (by kernel_rfl) (by kernel_rfl) (by kernel_rfl) (fun _ _ _ h => h) (Or.inl ⟨by rfl, ?hya2⟩) (by assumption) ?resta2
              case hya2 => (intro w0 hSw; (try dsimp only at hSw); go_simp; try with_reducible rfl)
              case' resta2 => try simp only [Act.put, List.getElem_toArray, List.getElem_cons_zero, List.getElem_cons_succ, List.setIfInBounds_toArray, List.set_cons_zero, List.set_cons_succ]
              refine wpAnyH_take (i := 3) (v := undef) rfl (by kernel_rfl) (by kernel_rfl) (by kernel_rfl) (fun _ _ _ h => h) (Or.inr ⟨by rfl, rfl⟩) (by assumption) ?_
              try simp only [Act.put, List.getElem_toArray, List.getElem_cons_zero, List.getElem_cons_succ, List.setIfInBounds_toArray, List.set_cons_zero, List.set_cons_succ]
              refine wpAnyH_take (i := 4) (v := undef) rfl (by kernel_rfl) (by kernel_rfl) (by kernel_rfl) (fun _ _ _ h => h) (Or.inr ⟨by rfl, rfl⟩) (by assumption) ?_
              try simp only [Act.put, List.getElem_toArray, List.getElem_cons_zero, List.getElem_cons_succ, List.setIfInBounds_toArray, List.set_cons_zero, List.set_cons_succ]
              refine wpAnyH_take (i := 5) (v := undef) rfl (by kernel_rfl) (by kernel_rfl) (by kernel_rfl) (fun _ _ _ h => h) (Or.inr ⟨by rfl, rfl⟩) (by assumption) ?_
              try simp only [Act.put, List.getElem_toArray, List.getElem_cons_zero, List.getElem_cons_succ, List.setIfInBounds_toArray, List.set_cons_zero, List.set_cons_succ]
              refine wpAnyH_take (i := 6) (v := undef) rfl (by kernel_rfl) (by kernel_rfl) (by kernel_rfl) (fun _ _ _ h => h) (Or.inr ⟨by rfl, rfl⟩) (by assumption) ?_
              try simp only [Act.put, List.getElem_toArray, List.getElem_cons_zero, List.getElem_cons_succ, List.setIfInBounds_toArray, List.set_cons_zero, List.set_cons_succ]
              refine wpAnyH_take (i := 7) (v := undef) rfl (by kernel_rfl) (by kernel_rfl) (by kernel_rfl) (fun _ _ _ h => h) (Or.inr ⟨by rfl, rfl⟩) (by assumption) ?_
              try simp only [Act.put, List.getElem_toArray, List.getElem_cons_zero, List.getElem_cons_succ, List.setIfInBounds_toArray, List.set_cons_zero, List.set_cons_succ]
              refine wpAnyH_take (i := 8) (v := undef) rfl (by kernel_rfl) (by kernel_rfl) (by kernel_rfl) (fun _ _ _ h => h) (Or.inr ⟨by rfl, rfl⟩) (by assumption) ?_
              try simp only [Act.put, List.getElem_toArray, List.getElem_cons_zero, List.getElem_cons_succ, List.setIfInBounds_toArray, List.set_cons_zero, List.set_cons_succ]
              refine wpAnyH_take (i := 9) (v := undef) rfl (by kernel_rfl) (by kernel_rfl) (by kernel_rfl) (fun _ _ _ h => h) (Or.inr ⟨by rfl, rfl⟩) (by assumption) ?_
              try simp only [Act.put, List.getElem_toArray, List.getElem_cons_zero, List.getElem_cons_succ, List.setIfInBounds_toArray, List.set_cons_zero, List.set_cons_succ]
              refine wpAnyH_take (i := 10) (v := undef) rfl (by kernel_rfl) (by kernel_rfl) (by kernel_rfl) (fun _ _ _ h => h) (Or.inr ⟨by rfl, rfl⟩) (by assumption) ?_
              try simp only [Act.put, List.getElem_toArray, List.getElem_cons_zero, List.getElem_cons_succ, List.setIfInBounds_toArray, List.set_cons_zero, List.set_cons_succ]
              refine wpAnyH_take (i := 11) (v := undef) rfl (by kernel_rfl) (by kernel_rfl) (by kernel_rfl) (fun _ _ _ h => h) (Or.inr ⟨by rfl, rfl⟩) (by assumption) ?_
              try simp only [Act.put, List.getElem_toArray, List.getElem_cons_zero, List.getElem_cons_succ, List.setIfInBounds_toArray, List.set_cons_zero, List.set_cons_succ]
              refine wpAnyH_take (i := 12) (v := undef) rfl (by kernel_rfl) (by kernel_rfl) (by kernel_rfl) (fun _ _ _ h => h) (Or.inr ⟨by rfl, rfl⟩) (by assumption) ?_
              try simp only [Act.put, List.getElem_toArray, List.getElem_cons_zero, List.getElem_cons_succ, List.setIfInBounds_toArray, List.set_cons_zero, List.set_cons_succ]
              refine wpAnyH_take (i := 13) (v := undef) rfl (by kernel_rfl) (by kernel_rfl) (by kernel_rfl) (fun _ _ _ h => h) (Or.inr ⟨by rfl, rfl⟩) (by assumption) ?_
              try simp only [Act.put, List.getElem_toArray, List.getElem_cons_zero, List.getElem_cons_succ, List.setIfInBounds_toArray, List.set_cons_zero, List.set_cons_succ]
              refine wpAnyH_take (i := 14) (v := undef) rfl (by kernel_rfl) (by kernel_rfl) (by kernel_rfl) (fun _ _ _ h => h) (Or.inr ⟨by rfl, rfl⟩) (by assumption) ?_
              try simp only [Act.put, List.getElem_toArray, List.getElem_cons_zero, List.getElem_cons_succ, List.setIfInBounds_toArray, List.set_cons_zero, List.set_cons_succ]
              refine wpAnyH_take (i := 15) (v := undef) rfl (by kernel_rfl) (by kernel_rfl) (by kernel_rfl) (fun _ _ _ h => h) (Or.inr ⟨by rfl, rfl⟩) (by assumption) ?_
              try simp only [Act.put, List.getElem_toArray, List.getElem_cons_zero, List.getElem_cons_succ, List.setIfInBounds_toArray, List.set_cons_zero, List.set_cons_succ]
              refine wpAnyH_take (i := 16) (v := ?va16) rfl (by kernel_rfl) (by kernel_rfl) (by kernel_rfl) (fun _ _ _ h => h) (Or.inl ⟨by rfl, ?hya16⟩) (by assumption) ?resta16
              case hya16 => (intro w0 hSw; (try dsimp only at hSw); go_simp; try with_reducible rfl)
              case' resta16 => try simp only [Act.put, List.getElem_toArray, List.getElem_cons_zero, List.getElem_cons_succ, List.setIfInBounds_toArray, List.set_cons_zero, List.set_cons_succ]
              refine wpAnyH_take (i := 17) (v := ?va17) rfl (by kernel_rfl) (by kernel_rfl) (by kernel_rfl) (fun _ _ _ h => h) (Or.inl ⟨by rfl, ?hya17⟩) (by assumption) ?resta17
              case hya17 => (intro w0 hSw; (try dsimp only at hSw); go_simp; try with_reducible rfl)
              case' resta17 => try simp only [Act.put, List.getElem_toArray, List.getElem_cons_zero, List.getElem_cons_succ, List.setIfInBounds_toArray, List.set_cons_zero, List.set_cons_succ]
              refine wpAnyH_take (i := 18) (v := ?va18) rfl (by kernel_rfl) (by kernel_rfl) (by kernel_rfl) (fun _ _ _ h => h) (Or.inl ⟨by rfl, ?hya18⟩) (by assumption) ?resta18
              case hya18 => (intro w0 hSw; (try dsimp only at hSw); go_simp; try with_reducible rfl)
              case' resta18 => try simp only [Act.put, List.getElem_toArray, List.getElem_cons_zero, List.getElem_cons_succ, List.setIfInBounds_toArray, List.set_cons_zero, List.set_cons_succ]
              refine wpAnyH_take (i := 19) (v := ?va19) rfl (by kernel_rfl) (by kernel_rfl) (by kernel_rfl) (fun _ _ _ h => h) (Or.inl ⟨by rfl, ?hya19⟩) (by assumption) ?resta19
              case hya19 => (intro w0 hSw; (try dsimp only at hSw); go_simp; try with_reducible rfl)
              case' resta19 => try simp only [Act.put, List.getElem_toArray, List.getElem_cons_zero, List.getElem_cons_succ, List.setIfInBounds_toArray, List.set_cons_zero, List.set_cons_succ]
              refine wpAnyH_take (i := 20) (v := ?va20) rfl (by kernel_rfl) (by kernel_rfl) (by kernel_rfl) (fun _ _ _ h => h) (Or.inl ⟨by rfl, ?hya20⟩) (by assumption) ?resta20
              case hya20 => (intro w0 hSw; (try dsimp only at hSw); go_simp; try with_reducible rfl)
              case' resta20 => try simp only [Act.put, List.getElem_toArray, List.getElem_cons_zero, List.getElem_cons_succ, List.setIfInBounds_toArray, List.set_cons_zero, List.set_cons_succ]
              refine wpAnyH_take (i := 21) (v := ?va21) rfl (by kernel_rfl) (by kernel_rfl) (by kernel_rfl) (fun _ _ _ h => h) (Or.inl ⟨by rfl, ?hya21⟩) (by assumption) ?resta21
              case hya21 => (intro w0 hSw; (try dsimp only at hSw); go_simp; try with_reducible rfl)
              case' resta21 => try simp only [Act.put, List.getElem_toArray, List.getElem_cons_zero, List.getElem_cons_succ, List.setIfInBounds_toArray, List.set_cons_zero, List.set_cons_succ]
              refine wpAnyH_take (i := 22) (v := ?va22) rfl (by kernel_rfl) (by kernel_rfl) (by kernel_rfl) (fun _ _ _ h => h) (Or.inl ⟨by rfl, ?hya22⟩) (by assumption) ?resta22
              case hya22 => (intro w0 hSw; (try dsimp only at hSw); go_simp; try with_reducible rfl)
              case' resta22 => try simp only [Act.put, List.getElem_toArray, List.getElem_cons_zero, List.getElem_cons_succ, List.setIfInBounds_toArray, List.set_cons_zero, List.set_cons_succ]
              refine wpAnyH_take (i := 23) (v := ?va23) rfl (by kernel_rfl) (by kernel_rfl) (by kernel_rfl) (fun _ _ _ h => h) (Or.inl ⟨by rfl, ?hya23⟩) (by assumption) ?resta23
              case hya23 => (intro w0 hSw; (try dsimp only at hSw); go_simp; try with_reducible rfl)
              case' resta23 => try simp only [Act.put, List.getElem_toArray, List.getElem_cons_zero, List.getElem_cons_succ, List.setIfInBounds_toArray, List.set_cons_zero, List.set_cons_succ]
              refine wpAnyH_take (i := 24) (v := ?va24) rfl (by kernel_rfl) (by kernel_rfl) (by kernel_rfl) (fun _ _ _ h => h) (Or.inl ⟨by rfl, ?hya24⟩) (by assumption) ?resta24
              case hya24 => (intro w0 hSw; (try dsimp only at hSw); go_simp; try with_reducible rfl)
              case' resta24 => try simp only [Act.put, List.getElem_toArray, List.getElem_cons_zero, List.getElem_cons_succ, List.setIfInBounds_toArray, List.set_cons_zero, List.set_cons_succ]
              refine wpAnyH_take (i := 25) (v := ?va25) rfl (by kernel_rfl) (by kernel_rfl) (by kernel_rfl) (fun _ _ _ h => h) (Or.inl ⟨by rfl, ?hya25⟩) (by assumption) ?resta25
              case hya25 => (intro w0 hSw; (try dsimp only at hSw); go_simp; try with_reducible rfl)
              case' resta25 => try simp only [Act.put, List.getElem_toArray, List.getElem_cons_zero, List.getElem_cons_succ, List.setIfInBounds_toArray, List.set_cons_zero, List.set_cons_succ]
              refine wpAnyH_take (i := 26) (v := ?va26) rfl (by kernel_rfl) (by kernel_rfl) (by kernel_rfl) (fun _ _ _ h => h) (Or.inl ⟨by rfl, ?hya26⟩) (by assumption) ?resta26
              case hya26 => (intro w0 hSw; (try dsimp only at hSw); go_simp; try with_reducible rfl)
              case' resta26 => try simp only [Act.put, List.getElem_toArray, List.getElem_cons_zero, List.getElem_cons_succ, List.setIfInBounds_toArray, List.set_cons_zero, List.set_cons_succ]
              refine wpAnyH_take (i := 27) (v := ?va27) rfl (by kernel_rfl) (by kernel_rfl) (by kernel_rfl) (fun _ _ _ h => h) (Or.inl ⟨by rfl, ?hya27⟩) (by assumption) ?resta27
              case hya27 => (intro w0 hSw; (try dsimp only at hSw); go_simp; try with_reducible rfl)
              case' resta27 => try simp only [Act.put, List.getElem_toArray, List.getElem_cons_zero, List.getElem_cons_succ, List.setIfInBounds_toArray, List.set_cons_zero, List.set_cons_succ]
              refine wpAnyH_take (i := 28) (v := ?va28) rfl (by kernel_rfl) (by kernel_rfl) (by kernel_rfl) (fun _ _ _ h => h) (Or.inl ⟨by rfl, ?hya28⟩) (by assumption) ?resta28
              case hya28 => (intro w0 hSw; (try dsimp only at hSw); go_simp; try with_reducible rfl)
              case' resta28 => try simp only [Act.put, List.getElem_toArray, List.getElem_cons_zero, List.getElem_cons_succ, List.setIfInBounds_toArray, List.set_cons_zero, List.set_cons_succ]
              refine wpAnyH_take (i := 29) (v := ?va29) rfl (by kernel_rfl) (by kernel_rfl) (by kernel_rfl) (fun _ _ _ h => h) (Or.inl ⟨by rfl, ?hya29⟩) (by assumption) ?resta29
              case hya29 => (intro w0 hSw; (try dsimp only at hSw); go_simp; try with_reducible rfl)
              case' resta29 => try simp only [Act.put, List.getElem_toArray, List.getElem_cons_zero, List.getElem_cons_succ, List.setIfInBounds_toArray, List.set_cons_zero, List.set_cons_succ]
              refine wpAnyH_take (i := 30) (v := ?va30) rfl (by kernel_rfl) (by kernel_rfl) (by kernel_rfl) (fun _ _ _ h => h) (Or.inl ⟨by rfl, ?hya30⟩) (by assumption) ?resta30
              case hya30 => (intro w0 hSw; (try dsimp only at hSw); go_simp; try with_reducible rfl)
              case' resta30 => try simp only [Act.put, List.getElem_toArray, List.getElem_cons_zero, List.getElem_cons_succ, List.setIfInBounds_toArray, List.set_cons_zero, List.set_cons_succ]
              refine wpAnyH_take (i := 31) (v := ?va31) rfl (by kernel_rfl) (by kernel_rfl) (by kernel_rfl) (fun _ _ _ h => h) (Or.inl ⟨by rfl, ?hya31⟩) (by assumption) ?resta31
              case hya31 => (intro w0 hSw; (try dsimp only at hSw); go_simp; try with_reducible rfl)
              case' resta31 => try simp only [Act.put, List.getElem_toArray, List.getElem_cons_zero, List.getElem_cons_succ, List.setIfInBounds_toArray, List.set_cons_zero, List.set_cons_succ]
              refine wpAnyH_take (i := 32) (v := ?va32) rfl (by kernel_rfl) (by kernel_rfl) (by kernel_rfl) (fun _ _ _ h => h) (Or.inl ⟨by rfl, ?hya32⟩) (by assumption) ?resta32
              case hya32 => (intro w0 hSw; (try dsimp only at hSw); go_simp; try with_reducible rfl)
              case' resta32 => try simp only [Act.put, List.getElem_toArray, List.getElem_cons_zero, List.getElem_cons_succ, List.setIfInBounds_toArray, List.set_cons_zero, List.set_cons_succ]
              refine wpAnyH_take (i := 33) (v := ?va33) rfl (by kernel_rfl) (by kernel_rfl) (by kernel_rfl) (fun _ _ _ h => h) (Or.inl ⟨by rfl, ?hya33⟩) (by assumption) ?resta33
              case hya33 => (intro w0 hSw; (try dsimp only at hSw); go_simp; try with_reducible rfl)
              case' resta33 => try simp only [Act.put, List.getElem_toArray, List.getElem_cons_zero, List.getElem_cons_succ, List.setIfInBounds_toArray, List.set_cons_zero, List.set_cons_succ]
              refine wpAnyH_take (i := 34) (v := ?va34) rfl (by kernel_rfl) (by kernel_rfl) (by kernel_rfl) (fun _ _ _ h => h) (Or.inl ⟨by rfl, ?hya34⟩) (by assumption) ?resta34
              case hya34 => (intro w0 hSw; (try dsimp only at hSw); go_simp; try with_reducible rfl)
              case' resta34 => try simp only [Act.put, List.getElem_toArray, List.getElem_cons_zero, List.getElem_cons_succ, List.setIfInBounds_toArray, List.set_cons_zero, List.set_cons_succ]
              refine wpAnyH_take (i := 35) (v := ?va35) rfl (by kernel_rfl) (by kernel_rfl) (by kernel_rfl) (fun _ _ _ h => h) (Or.inl ⟨by rfl, ?hya35⟩) (by assumption) ?resta35
              case hya35 => (intro w0 hSw; (try dsimp only at hSw); go_simp; try with_reducible rfl)
              case' resta35 => try simp only [Act.put, List.getElem_toArray, List.getElem_cons_zero, List.getElem_cons_succ, List.setIfInBounds_toArray, List.set_cons_zero, List.set_cons_succ]
              refine wpAnyH_take (i := 36) (v := ?va36) rfl (by kernel_rfl) (by kernel_rfl) (by kernel_rfl) (fun _ _ _ h => h) (Or.inl ⟨by rfl, ?hya36⟩) (by assumption) ?resta36
              case hya36 => (intro w0 hSw; (try dsimp only at hSw); go_simp; try with_reducible rfl)
              case' resta36 => try simp only [Act.put, List.getElem_toArray, List.getElem_cons_zero, List.getElem_cons_succ, List.setIfInBounds_toArray, List.set_cons_zero, List.set_cons_succ]
              refine wpAnyH_take (i := 37) (v := ?va37) rfl (by kernel_rfl) (by kernel_rfl) (by kernel_rfl) (fun _ _ _ h => h) (Or.inl ⟨by rfl, ?hya37⟩) (by assumption) ?resta37
              case hya37 => (intro w0 hSw; (try dsimp only at hSw); go_simp; try with_reducible rfl)
              case' resta37 => try simp only [Act.put, List.getElem_toArray, List.getElem_cons_zero, List.getElem_cons_succ, List.setIfInBounds_toArray, List.set_cons_zero, List.set_cons_succ]
              refine wpAnyH_take (i := 38) (v := ?va38) rfl (by kernel_rfl) (by kernel_rfl) (by kernel_rfl) (fun _ _ _ h => h) (Or.inl ⟨by rfl, ?hya38⟩) (by assumption) ?resta38
              case hya38 => (intro w0 hSw; (try dsimp only at hSw); go_simp; try with_reducible rfl)
              case' resta38 => try simp only [Act.put, List.getElem_toArray, List.getElem_cons_zero, List.getElem_cons_succ, List.setIfInBounds_toArray, List.set_cons_zero, List.set_cons_succ]
              refine wpAnyH_take (i := 39) (v := ?va39) rfl (by kernel_rfl) (by kernel_rfl) (by kernel_rfl) (fun _ _ _ h => h) (Or.inl ⟨by rfl, ?hya39⟩) (by assumption) ?resta39
              case hya39 => (intro w0 hSw; (try dsimp only at hSw); go_simp; try with_reducible rfl)
              case' resta39 => try simp only [Act.put, List.getElem_toArray, List.getElem_cons_zero, List.getElem_cons_succ, List.setIfInBounds_toArray, List.set_cons_zero, List.set_cons_succ]
              refine wpAnyH_take (i := 41) (v := ?va41) rfl (by kernel_rfl) (by kernel_rfl) (by kernel_rfl) (fun _ _ _ h => h) (Or.inl ⟨by rfl, ?hya41⟩) (by assumption) ?resta41
              case hya41 => (intro w0 hSw; (try dsimp only at hSw); go_simp; try with_reducible rfl)
              case' resta41 => try simp only [Act.put, List.getElem_toArray, List.getElem_cons_zero, List.getElem_cons_succ, List.setIfInBounds_toArray, List.set_cons_zero, List.set_cons_succ]
              refine wpAnyH_take (i := 42) (v := ?va42) rfl (by kernel_rfl) (by kernel_rfl) (by kernel_rfl) (fun _ _ _ h => h) (Or.inl ⟨by rfl, ?hya42⟩) (by assumption) ?resta42
              case hya42 => (intro w0 hSw; (try dsimp only at hSw); go_simp; try with_reducible rfl)
              case' resta42 => try simp only [Act.put, List.getElem_toArray, List.getElem_cons_zero, List.getElem_cons_succ, List.setIfInBounds_toArray, List.set_cons_zero, List.set_cons_succ]
              refine wpAnyH_ready (rs := [40]) (by kernel_rfl) (by simp) ?_
              refine AllReadyH.cons rfl (fun K hK => ?_) AllReadyH.nil
              go_simp
              refine (HP.out _ (bch HBw.out (Hid.out (And.left (by assumption))) HBw.out.size)).mono ?_; rintro e w1 ⟨rfl, hb⟩; subst hb
              refine hK.out _ _ (by assumption) (fun hHeld => ?_)
              clear hK K
              try simp only [Act.put, List.getElem_toArray, List.getElem_cons_zero, List.getElem_cons_succ, List.setIfInBounds_toArray, List.set_cons_zero, List.set_cons_succ]
              refine wpAnyH_take (i := 43) (v := ?va43) rfl (by kernel_rfl) (by kernel_rfl) (by kernel_rfl) (fun _ _ _ h => h) (Or.inl ⟨by rfl, ?hya43⟩) (by assumption) ?resta43
              case hya43 => (intro w0 hSw; (try dsimp only at hSw); go_simp; try with_reducible rfl)
              case' resta43 => try simp only [Act.put, List.getElem_toArray, List.getElem_cons_zero, List.getElem_cons_succ, List.setIfInBounds_toArray, List.set_cons_zero, List.set_cons_succ]
              refine wpAnyH_take (i := 44) (v := ?va44) rfl (by kernel_rfl) (by kernel_rfl) (by kernel_rfl) (fun _ _ _ h => h) (Or.inl ⟨by rfl, ?hya44⟩) (by assumption) ?resta44
              case hya44 => (intro w0 hSw; (try dsimp only at hSw); go_simp; try with_reducible rfl)
              case' resta44 => try simp only [Act.put, List.getElem_toArray, List.getElem_cons_zero, List.getElem_cons_succ, List.setIfInBounds_toArray, List.set_cons_zero, List.set_cons_succ]
              refine wpAnyH_done (by kernel_rfl) ?_ _
              refine NoPanic.normal ?_
              have HX' : Hid (Below wr.heap.size wr _) := And.left (by assumption)
              have HB' := Lib.hid (bch HBr.out HX'.out HBr.out.size)
              go_wp2_with fail
              go_roundw
              case rel => exact ⟨1, rfl, by omega, HB'.out⟩
              case measure => simp [intOf]; omega
            | succ j =>
              obtain ⟨y, hy⟩ : ∃ y, R[j]? = some y := ⟨_, List.getElem?_eq_getElem (by omega)⟩
              have b0 := own_cellK encD_len (by decide) HOr.out hy 0 (by decide)
              have b1 := own_cellK encD_len (by decide) HOr.out hy 1 (by decide)
              have hls : lessD y ((o, d), t) = true := by
                obtain ⟨h1, rfl⟩ := List.getElem?_eq_some_iff.1 hy
                obtain ⟨h2, h3⟩ := List.getElem?_eq_some_iff.1 HY.out
                rw [← h3]
                exact List.pairwise_iff_getElem.1 HRS.out j (j + 1) h1 h2 (by omega)
              obtain ⟨⟨o', d'⟩, t'⟩ := y
              simp only [encD, List.getElem?_cons_zero, List.getElem?_cons_succ] at b0 b1
              rw [Nat.add_zero] at b0
              have HL := Lib.hid (fun W => (show Calls Tryd.prog 17 #[.agg #[.int .i64 o', .int .i64 d'], .agg #[.int .i64 o, .int .i64 d]] W fun e w' => e = .returned (.bool true) ∧ Below W.heap.size W w' by have := less_any o' d' o d W; rw [show lessB o' d' o d = true from hls] at this; exact this))
              clear hy hls
              have hj0 : (0 : Int) ≤ j := by omega
              have hj1 : (j : Int) < R.length := by omega
              have hj2 : (0 : Int) ≤ (j : Int) + 1 := by omega
              have hj3 : (j : Int) + 1 < R.length := by omega
              have hj63 : (R.length : Int) < 9223372036854775807 := by omega
              go_wp2_with fail
              have hw1 : IntKind.i64.wrap (j : Int) = j := IntWalk.i64_in _ (by omega)
              have ht1 : ((j : Int) + 1).toNat = j + 1 := by omega
              refine wp_region_noPanic ?_
              refine wp_region_held_drew (S := (fun w' => Hid (Below wr.heap.size wr w') ∧ w'.cell? ⟨g, (j + 1) * 3, none⟩ = some (.int .i64 o) ∧ w'.cell? ⟨g, (j + 1) * 3 + 1, none⟩ = some (.int .i64 d) ∧ w'.cell? ⟨g, (j + 1) * 3 + 2, none⟩ = some (.int .i64 t) ∧ w'.cell? ⟨w.heap.size, 0, none⟩ = some (.int .i64 x.1) ∧ w'.cell? ⟨g, j * 3, none⟩ = some (.int .i64 o') ∧ w'.cell? ⟨g, j * 3 + 1, none⟩ = some (.int .i64 d'))) (by kernel_rfl) ⟨(below_drew1 (Below.refl _ wr)), (((below_drew1 (Below.refl _ wr))).cell (World.block_lt_of_cell? _ _ d0)).trans d0, (((below_drew1 (Below.refl _ wr))).cell (World.block_lt_of_cell? _ _ d1)).trans d1, (((below_drew1 (Below.refl _ wr))).cell (World.block_lt_of_cell? _ _ d2)).trans d2, (((below_drew1 (Below.refl _ wr))).cell (World.block_lt_of_cell? _ _ k0)).trans k0, (((below_drew1 (Below.refl _ wr))).cell (World.block_lt_of_cell? _ _ b0)).trans b0, (((below_drew1 (Below.refl _ wr))).cell (World.block_lt_of_cell? _ _ b1)).trans b1⟩ (fun hHeld => ?_)
              refine wpAnyH_take (i := 0) (v := ?vb0) rfl (by kernel_rfl) (by kernel_rfl) (by kernel_rfl) (fun _ _ _ h => h) (Or.inl ⟨by rfl, ?hyb0⟩) (by assumption) ?restb0
              case hyb0 => (intro w0 hSw; (try dsimp only at hSw); go_simp; try with_reducible rfl)
              case' restb0 => try simp only [Act.put, List.getElem_toArray, List.getElem_cons_zero, List.getElem_cons_succ, List.setIfInBounds_toArray, List.set_cons_zero, List.set_cons_succ]
              refine wpAnyH_take (i := 1) (v := ?vb1) rfl (by kernel_rfl) (by kernel_rfl) (by kernel_rfl) (fun _ _ _ h => h) (Or.inl ⟨by rfl, ?hyb1⟩) (by assumption) ?restb1
              case hyb1 => (intro w0 hSw; (try dsimp only at hSw); go_simp; try with_reducible rfl)
              case' restb1 => try simp only [Act.put, List.getElem_toArray, List.getElem_cons_zero, List.getElem_cons_succ, List.setIfInBounds_toArray, List.set_cons_zero, List.set_cons_succ]
              refine wpAnyH_take (i := 2) (v := ?vb2) rfl (by kernel_rfl) (by kernel_rfl) (by kernel_rfl) (fun _ _ _ h => h) (Or.inl ⟨by rfl, ?hyb2⟩) (by assumption) ?restb2
              case hyb2 => (intro w0 hSw; (try dsimp only at hSw); go_simp; try with_reducible rfl)
              case' restb2 => try simp only [Act.put, List.getElem_toArray, List.getElem_cons_zero, List.getElem_cons_succ, List.setIfInBounds_toArray, List.set_cons_zero, List.set_cons_succ]
              refine wpAnyH_take (i := 3) (v := ?vb3) rfl (by kernel_rfl) (by kernel_rfl) (by kernel_rfl) (fun _ _ _ h => h) (Or.inl ⟨by rfl, ?hyb3⟩) (by assumption) ?restb3
              case hyb3 => (intro w0 hSw; (try dsimp only at hSw); go_simp; try with_reducible rfl)
              case' restb3 => try simp only [Act.put, List.getElem_toArray, List.getElem_cons_zero, List.getElem_cons_succ, List.setIfInBounds_toArray, List.set_cons_zero, List.set_cons_succ]
              refine wpAnyH_take (i := 4) (v := ?vb4) rfl (by kernel_rfl) (by kernel_rfl) (by kernel_rfl) (fun _ _ _ h => h) (Or.inl ⟨by rfl, ?hyb4⟩) (by assumption) ?restb4
              case hyb4 => (intro w0 hSw; (try dsimp only at hSw); go_simp; try with_reducible rfl)
              case' restb4 => try simp only [Act.put, List.getElem_toArray, List.getElem_cons_zero, List.getElem_cons_succ, List.setIfInBounds_toArray, List.set_cons_zero, List.set_cons_succ]
              refine wpAnyH_take (i := 5) (v := ?vb5) rfl (by kernel_rfl) (by kernel_rfl) (by kernel_rfl) (fun _ _ _ h => h) (Or.inl ⟨by rfl, ?hyb5⟩) (by assumption) ?restb5
              case hyb5 => (intro w0 hSw; (try dsimp only at hSw); go_simp; try with_reducible rfl)
              case' restb5 => try simp only [Act.put, List.getElem_toArray, List.getElem_cons_zero, List.getElem_cons_succ, List.setIfInBounds_toArray, List.set_cons_zero, List.set_cons_succ]
              refine wpAnyH_take (i := 6) (v := ?vb6) rfl (by kernel_rfl) (by kernel_rfl) (by kernel_rfl) (fun _ _ _ h => h) (Or.inl ⟨by rfl, ?hyb6⟩) (by assumption) ?restb6
              case hyb6 => (intro w0 hSw; (try dsimp only at hSw); go_simp; try with_reducible rfl)
              case' restb6 => try simp only [Act.put, List.getElem_toArray, List.getElem_cons_zero, List.getElem_cons_succ, List.setIfInBounds_toArray, List.set_cons_zero, List.set_cons_succ]
              refine wpAnyH_take (i := 7) (v := ?vb7) rfl (by kernel_rfl) (by kernel_rfl) (by kernel_rfl) (fun _ _ _ h => h) (Or.inl ⟨by rfl, ?hyb7⟩) (by assumption) ?restb7
              case hyb7 => (intro w0 hSw; (try dsimp only at hSw); go_simp; try with_reducible rfl)
              case' restb7 => try simp only [Act.put, List.getElem_toArray, List.getElem_cons_zero, List.getElem_cons_succ, List.setIfInBounds_toArray, List.set_cons_zero, List.set_cons_succ]
              refine wpAnyH_take (i := 8) (v := ?vb8) rfl (by kernel_rfl) (by kernel_rfl) (by kernel_rfl) (fun _ _ _ h => h) (Or.inl ⟨by rfl, ?hyb8⟩) (by assumption) ?restb8
              case hyb8 => (intro w0 hSw; (try dsimp only at hSw); go_simp; try with_reducible rfl)
              case' restb8 => try simp only [Act.put, List.getElem_toArray, List.getElem_cons_zero, List.getElem_cons_succ, List.setIfInBounds_toArray, List.set_cons_zero, List.set_cons_succ]
              refine wpAnyH_take (i := 9) (v := ?vb9) rfl (by kernel_rfl) (by kernel_rfl) (by kernel_rfl) (fun _ _ _ h => h) (Or.inl ⟨by rfl, ?hyb9⟩) (by assumption) ?restb9
              case hyb9 => (intro w0 hSw; (try dsimp only at hSw); go_simp; try with_reducible rfl)
              case' restb9 => try simp only [Act.put, List.getElem_toArray, List.getElem_cons_zero, List.getElem_cons_succ, List.setIfInBounds_toArray, List.set_cons_zero, List.set_cons_succ]
              refine wpAnyH_take (i := 10) (v := ?vb10) rfl (by kernel_rfl) (by kernel_rfl) (by kernel_rfl) (fun _ _ _ h => h) (Or.inl ⟨by rfl, ?hyb10⟩) (by assumption) ?restb10
              case hyb10 => (intro w0 hSw; (try dsimp only at hSw); go_simp; try with_reducible rfl)
              case' restb10 => try simp only [Act.put, List.getElem_toArray, List.getElem_cons_zero, List.getElem_cons_succ, List.setIfInBounds_toArray, List.set_cons_zero, List.set_cons_succ]
              refine wpAnyH_take (i := 11) (v := ?vb11) rfl (by kernel_rfl) (by kernel_rfl) (by kernel_rfl) (fun _ _ _ h => h) (Or.inl ⟨by rfl, ?hyb11⟩) (by assumption) ?restb11
              case hyb11 => (intro w0 hSw; (try dsimp only at hSw); go_simp; try with_reducible rfl)
              case' restb11 => try simp only [Act.put, List.getElem_toArray, List.getElem_cons_zero, List.getElem_cons_succ, List.setIfInBounds_toArray, List.set_cons_zero, List.set_cons_succ]
              refine wpAnyH_take (i := 12) (v := ?vb12) rfl (by kernel_rfl) (by kernel_rfl) (by kernel_rfl) (fun _ _ _ h => h) (Or.inl ⟨by rfl, ?hyb12⟩) (by assumption) ?restb12
              case hyb12 => (intro w0 hSw; (try dsimp only at hSw); go_simp; try with_reducible rfl)
              case' restb12 => try simp only [Act.put, List.getElem_toArray, List.getElem_cons_zero, List.getElem_cons_succ, List.setIfInBounds_toArray, List.set_cons_zero, List.set_cons_succ]
              refine wpAnyH_take (i := 13) (v := ?vb13) rfl (by kernel_rfl) (by kernel_rfl) (by kernel_rfl) (fun _ _ _ h => h) (Or.inl ⟨by rfl, ?hyb13⟩) (by assumption) ?restb13
              case hyb13 => (intro w0 hSw; (try dsimp only at hSw); go_simp; try with_reducible rfl)
              case' restb13 => try simp only [Act.put, List.getElem_toArray, List.getElem_cons_zero, List.getElem_cons_succ, List.setIfInBounds_toArray, List.set_cons_zero, List.set_cons_succ]
              refine wpAnyH_ready (rs := [14]) (by kernel_rfl) (by simp) ?_
              refine AllReadyH.cons rfl (fun K hK => ?_) AllReadyH.nil
              go_simp
              refine (HL.out _).mono ?_; rintro e w1 ⟨rfl, hb⟩
              have hbk := bch (Hid.out (And.left (by assumption))) hb (Below.size (Hid.out (And.left (by assumption))))
              refine hK.out _ _ ⟨hbk, ((hbk).cell (World.block_lt_of_cell? _ _ d0)).trans d0, ((hbk).cell (World.block_lt_of_cell? _ _ d1)).trans d1, ((hbk).cell (World.block_lt_of_cell? _ _ d2)).trans d2, ((hbk).cell (World.block_lt_of_cell? _ _ k0)).trans k0, ((hbk).cell (World.block_lt_of_cell? _ _ b0)).trans b0, ((hbk).cell (World.block_lt_of_cell? _ _ b1)).trans b1⟩ (fun hHeld => ?_)
              clear hK K hb hbk
              try simp only [Act.put, List.getElem_toArray, List.getElem_cons_zero, List.getElem_cons_succ, List.setIfInBounds_toArray, List.set_cons_zero, List.set_cons_succ]
              refine wpAnyH_take (i := 15) (v := ?vb15) rfl (by kernel_rfl) (by kernel_rfl) (by kernel_rfl) (fun _ _ _ h => h) (Or.inl ⟨by rfl, ?hyb15⟩) (by assumption) ?restb15
              case hyb15 => (intro w0 hSw; (try dsimp only at hSw); go_simp; try with_reducible rfl)
              case' restb15 => try simp only [Act.put, List.getElem_toArray, List.getElem_cons_zero, List.getElem_cons_succ, List.setIfInBounds_toArray, List.set_cons_zero, List.set_cons_succ]
              refine wpAnyH_take (i := 16) (v := ?vb16) rfl (by kernel_rfl) (by kernel_rfl) (by kernel_rfl) (fun _ _ _ h => h) (Or.inl ⟨by rfl, ?hyb16⟩) (by assumption) ?restb16
              case hyb16 => (intro w0 hSw; (try dsimp only at hSw); go_simp; try with_reducible rfl)
              case' restb16 => try simp only [Act.put, List.getElem_toArray, List.getElem_cons_zero, List.getElem_cons_succ, List.setIfInBounds_toArray, List.set_cons_zero, List.set_cons_succ]
              refine wpAnyH_take (i := 17) (v := ?vb17) rfl (by kernel_rfl) (by kernel_rfl) (by kernel_rfl) (fun _ _ _ h => h) (Or.inl ⟨by rfl, ?hyb17⟩) (by assumption) ?restb17
              case hyb17 => (intro w0 hSw; (try dsimp only at hSw); go_simp; try with_reducible rfl)
              case' restb17 => try simp only [Act.put, List.getElem_toArray, List.getElem_cons_zero, List.getElem_cons_succ, List.setIfInBounds_toArray, List.set_cons_zero, List.set_cons_succ]
              refine wpAnyH_take (i := 18) (v := ?vb18) rfl (by kernel_rfl) (by kernel_rfl) (by kernel_rfl) (fun _ _ _ h => h) (Or.inl ⟨by rfl, ?hyb18⟩) (by assumption) ?restb18
              case hyb18 => (intro w0 hSw; (try dsimp only at hSw); go_simp; try with_reducible rfl)
              case' restb18 => try simp only [Act.put, List.getElem_toArray, List.getElem_cons_zero, List.getElem_cons_succ, List.setIfInBounds_toArray, List.set_cons_zero, List.set_cons_succ]
              refine wpAnyH_take (i := 19) (v := ?vb19) rfl (by kernel_rfl) (by kernel_rfl) (by kernel_rfl) (fun _ _ _ h => h) (Or.inl ⟨by rfl, ?hyb19⟩) (by assumption) ?restb19
              case hyb19 => (intro w0 hSw; (try dsimp only at hSw); go_simp; try with_reducible rfl)
              case' restb19 => try simp only [Act.put, List.getElem_toArray, List.getElem_cons_zero, List.getElem_cons_succ, List.setIfInBounds_toArray, List.set_cons_zero, List.set_cons_succ]
              refine wpAnyH_take (i := 20) (v := ?vb20) rfl (by kernel_rfl) (by kernel_rfl) (by kernel_rfl) (fun _ _ _ h => h) (Or.inl ⟨by rfl, ?hyb20⟩) (by assumption) ?restb20
              case hyb20 => (intro w0 hSw; (try dsimp only at hSw); go_simp; try with_reducible rfl)
              case' restb20 => try simp only [Act.put, List.getElem_toArray, List.getElem_cons_zero, List.getElem_cons_succ, List.setIfInBounds_toArray, List.set_cons_zero, List.set_cons_succ]
              refine wpAnyH_take (i := 21) (v := ?vb21) rfl (by kernel_rfl) (by kernel_rfl) (by kernel_rfl) (fun _ _ _ h => h) (Or.inl ⟨by rfl, ?hyb21⟩) (by assumption) ?restb21
              case hyb21 => (intro w0 hSw; (try dsimp only at hSw); go_simp; try with_reducible rfl)
              case' restb21 => try simp only [Act.put, List.getElem_toArray, List.getElem_cons_zero, List.getElem_cons_succ, List.setIfInBounds_toArray, List.set_cons_zero, List.set_cons_succ]
              refine wpAnyH_take (i := 22) (v := ?vb22) rfl (by kernel_rfl) (by kernel_rfl) (by kernel_rfl) (fun _ _ _ h => h) (Or.inl ⟨by rfl, ?hyb22⟩) (by assumption) ?restb22
              case hyb22 => (intro w0 hSw; (try dsimp only at hSw); go_simp; try with_reducible rfl)
              case' restb22 => try simp only [Act.put, List.getElem_toArray, List.getElem_cons_zero, List.getElem_cons_succ, List.setIfInBounds_toArray, List.set_cons_zero, List.set_cons_succ]
              refine wpAnyH_take (i := 23) (v := ?vb23) rfl (by kernel_rfl) (by kernel_rfl) (by kernel_rfl) (fun _ _ _ h => h) (Or.inl ⟨by rfl, ?hyb23⟩) (by assumption) ?restb23
              case hyb23 => (intro w0 hSw; (try dsimp only at hSw); go_simp; try with_reducible rfl)
              case' restb23 => try simp only [Act.put, List.getElem_toArray, List.getElem_cons_zero, List.getElem_cons_succ, List.setIfInBounds_toArray, List.set_cons_zero, List.set_cons_succ]
              refine wpAnyH_take (i := 24) (v := ?vb24) rfl (by kernel_rfl) (by kernel_rfl) (by kernel_rfl) (fun _ _ _ h => h) (Or.inl ⟨by rfl, ?hyb24⟩) (by assumption) ?restb24
              case hyb24 => (intro w0 hSw; (try dsimp only at hSw); go_simp; try with_reducible rfl)
              case' restb24 => try simp only [Act.put, List.getElem_toArray, List.getElem_cons_zero, List.getElem_cons_succ, List.setIfInBounds_toArray, List.set_cons_zero, List.set_cons_succ]
              refine wpAnyH_take (i := 25) (v := ?vb25) rfl (by kernel_rfl) (by kernel_rfl) (by kernel_rfl) (fun _ _ _ h => h) (Or.inl ⟨by rfl, ?hyb25⟩) (by assumption) ?restb25
              case hyb25 => (intro w0 hSw; (try dsimp only at hSw); go_simp; try with_reducible rfl)
              case' restb25 => try simp only [Act.put, List.getElem_toArray, List.getElem_cons_zero, List.getElem_cons_succ, List.setIfInBounds_toArray, List.set_cons_zero, List.set_cons_succ]
              refine wpAnyH_take (i := 26) (v := ?vb26) rfl (by kernel_rfl) (by kernel_rfl) (by kernel_rfl) (fun _ _ _ h => h) (Or.inl ⟨by rfl, ?hyb26⟩) (by assumption) ?restb26
              case hyb26 => (intro w0 hSw; (try dsimp only at hSw); go_simp; try with_reducible rfl)
              case' restb26 => try simp only [Act.put, List.getElem_toArray, List.getElem_cons_zero, List.getElem_cons_succ, List.setIfInBounds_toArray, List.set_cons_zero, List.set_cons_succ]
              refine wpAnyH_take (i := 27) (v := ?vb27) rfl (by kernel_rfl) (by kernel_rfl) (by kernel_rfl) (fun _ _ _ h => h) (Or.inl ⟨by rfl, ?hyb27⟩) (by assumption) ?restb27
              case hyb27 => (intro w0 hSw; (try dsimp only at hSw); go_simp; try with_reducible rfl)
              case' restb27 => try simp only [Act.put, List.getElem_toArray, List.getElem_cons_zero, List.getElem_cons_succ, List.setIfInBounds_toArray, List.set_cons_zero, List.set_cons_succ]
              refine wpAnyH_take (i := 28) (v := ?vb28) rfl (by kernel_rfl) (by kernel_rfl) (by kernel_rfl) (fun _ _ _ h => h) (Or.inl ⟨by rfl, ?hyb28⟩) (by assumption) ?restb28
              case hyb28 => (intro w0 hSw; (try dsimp only at hSw); go_simp; try with_reducible rfl)
              case' restb28 => try simp only [Act.put, List.getElem_toArray, List.getElem_cons_zero, List.getElem_cons_succ, List.setIfInBounds_toArray, List.set_cons_zero, List.set_cons_succ]
              refine wpAnyH_take (i := 29) (v := ?vb29) rfl (by kernel_rfl) (by kernel_rfl) (by kernel_rfl) (fun _ _ _ h => h) (Or.inl ⟨by rfl, ?hyb29⟩) (by assumption) ?restb29
              case hyb29 => (intro w0 hSw; (try dsimp only at hSw); go_simp; try with_reducible rfl)
              case' restb29 => try simp only [Act.put, List.getElem_toArray, List.getElem_cons_zero, List.getElem_cons_succ, List.setIfInBounds_toArray, List.set_cons_zero, List.set_cons_succ]
              refine wpAnyH_take (i := 30) (v := ?vb30) rfl (by kernel_rfl) (by kernel_rfl) (by kernel_rfl) (fun _ _ _ h => h) (Or.inl ⟨by rfl, ?hyb30⟩) (by assumption) ?restb30
              case hyb30 => (intro w0 hSw; (try dsimp only at hSw); go_simp; try with_reducible rfl)
              case' restb30 => try simp only [Act.put, List.getElem_toArray, List.getElem_cons_zero, List.getElem_cons_succ, List.setIfInBounds_toArray, List.set_cons_zero, List.set_cons_succ]
              refine wpAnyH_take (i := 31) (v := ?vb31) rfl (by kernel_rfl) (by kernel_rfl) (by kernel_rfl) (fun _ _ _ h => h) (Or.inl ⟨by rfl, ?hyb31⟩) (by assumption) ?restb31
              case hyb31 => (intro w0 hSw; (try dsimp only at hSw); go_simp; try with_reducible rfl)
              case' restb31 => try simp only [Act.put, List.getElem_toArray, List.getElem_cons_zero, List.getElem_cons_succ, List.setIfInBounds_toArray, List.set_cons_zero, List.set_cons_succ]
              refine wpAnyH_take (i := 32) (v := ?vb32) rfl (by kernel_rfl) (by kernel_rfl) (by kernel_rfl) (fun _ _ _ h => h) (Or.inl ⟨by rfl, ?hyb32⟩) (by assumption) ?restb32
              case hyb32 => (intro w0 hSw; (try dsimp only at hSw); go_simp; try with_reducible rfl)
              case' restb32 => try simp only [Act.put, List.getElem_toArray, List.getElem_cons_zero, List.getElem_cons_succ, List.setIfInBounds_toArray, List.set_cons_zero, List.set_cons_succ]
              refine wpAnyH_take (i := 33) (v := ?vb33) rfl (by kernel_rfl) (by kernel_rfl) (by kernel_rfl) (fun _ _ _ h => h) (Or.inl ⟨by rfl, ?hyb33⟩) (by assumption) ?restb33
              case hyb33 => (intro w0 hSw; (try dsimp only at hSw); go_simp; try with_reducible rfl)
              case' restb33 => try simp only [Act.put, List.getElem_toArray, List.getElem_cons_zero, List.getElem_cons_succ, List.setIfInBounds_toArray, List.set_cons_zero, List.set_cons_succ]
              refine wpAnyH_take (i := 34) (v := ?vb34) rfl (by kernel_rfl) (by kernel_rfl) (by kernel_rfl) (fun _ _ _ h => h) (Or.inl ⟨by rfl, ?hyb34⟩) (by assumption) ?restb34
              case hyb34 => (intro w0 hSw; (try dsimp only at hSw); go_simp; try with_reducible rfl)
              case' restb34 => try simp only [Act.put, List.getElem_toArray, List.getElem_cons_zero, List.getElem_cons_succ, List.setIfInBounds_toArray, List.set_cons_zero, List.set_cons_succ]
              refine wpAnyH_take (i := 35) (v := ?vb35) rfl (by kernel_rfl) (by kernel_rfl) (by kernel_rfl) (fun _ _ _ h => h) (Or.inl ⟨by rfl, ?hyb35⟩) (by assumption) ?restb35
              case hyb35 => (intro w0 hSw; (try dsimp only at hSw); go_simp; try with_reducible rfl)
              case' restb35 => try simp only [Act.put, List.getElem_toArray, List.getElem_cons_zero, List.getElem_cons_succ, List.setIfInBounds_toArray, List.set_cons_zero, List.set_cons_succ]
              refine wpAnyH_take (i := 36) (v := ?vb36) rfl (by kernel_rfl) (by kernel_rfl) (by kernel_rfl) (fun _ _ _ h => h) (Or.inl ⟨by rfl, ?hyb36⟩) (by assumption) ?restb36
              case hyb36 => (intro w0 hSw; (try dsimp only at hSw); go_simp; try with_reducible rfl)
              case' restb36 => try simp only [Act.put, List.getElem_toArray, List.getElem_cons_zero, List.getElem_cons_succ, List.setIfInBounds_toArray, List.set_cons_zero, List.set_cons_succ]
              refine wpAnyH_take (i := 37) (v := ?vb37) rfl (by kernel_rfl) (by kernel_rfl) (by kernel_rfl) (fun _ _ _ h => h) (Or.inl ⟨by rfl, ?hyb37⟩) (by assumption) ?restb37
              case hyb37 => (intro w0 hSw; (try dsimp only at hSw); go_simp; try with_reducible rfl)
              case' restb37 => try simp only [Act.put, List.getElem_toArray, List.getElem_cons_zero, List.getElem_cons_succ, List.setIfInBounds_toArray, List.set_cons_zero, List.set_cons_succ]
              refine wpAnyH_take (i := 38) (v := ?vb38) rfl (by kernel_rfl) (by kernel_rfl) (by kernel_rfl) (fun _ _ _ h => h) (Or.inl ⟨by rfl, ?hyb38⟩) (by assumption) ?restb38
              case hyb38 => (intro w0 hSw; (try dsimp only at hSw); go_simp; try with_reducible rfl)
              case' restb38 => try simp only [Act.put, List.getElem_toArray, List.getElem_cons_zero, List.getElem_cons_succ, List.setIfInBounds_toArray, List.set_cons_zero, List.set_cons_succ]
              refine wpAnyH_take (i := 39) (v := ?vb39) rfl (by kernel_rfl) (by kernel_rfl) (by kernel_rfl) (fun _ _ _ h => h) (Or.inl ⟨by rfl, ?hyb39⟩) (by assumption) ?restb39
              case hyb39 => (intro w0 hSw; (try dsimp only at hSw); go_simp; try with_reducible rfl)
              case' restb39 => try simp only [Act.put, List.getElem_toArray, List.getElem_cons_zero, List.getElem_cons_succ, List.setIfInBounds_toArray, List.set_cons_zero, List.set_cons_succ]
              refine wpAnyH_take (i := 41) (v := ?vb41) rfl (by kernel_rfl) (by kernel_rfl) (by kernel_rfl) (fun _ _ _ h => h) (Or.inl ⟨by rfl, ?hyb41⟩) (by assumption) ?restb41
              case hyb41 => (intro w0 hSw; (try dsimp only at hSw); go_simp; try with_reducible rfl)
              case' restb41 => try simp only [Act.put, List.getElem_toArray, List.getElem_cons_zero, List.getElem_cons_succ, List.setIfInBounds_toArray, List.set_cons_zero, List.set_cons_succ]
              refine wpAnyH_take (i := 42) (v := ?vb42) rfl (by kernel_rfl) (by kernel_rfl) (by kernel_rfl) (fun _ _ _ h => h) (Or.inl ⟨by rfl, ?hyb42⟩) (by assumption) ?restb42
              case hyb42 => (intro w0 hSw; (try dsimp only at hSw); go_simp; try with_reducible rfl)
              case' restb42 => try simp only [Act.put, List.getElem_toArray, List.getElem_cons_zero, List.getElem_cons_succ, List.setIfInBounds_toArray, List.set_cons_zero, List.set_cons_succ]
              refine wpAnyH_ready (rs := [40]) (by kernel_rfl) (by simp) ?_
              refine AllReadyH.cons rfl (fun K hK => ?_) AllReadyH.nil
              go_simp
              refine (HP.out _ (bch HBw.out (Hid.out (And.left (by assumption))) HBw.out.size)).mono ?_; rintro e w1 ⟨rfl, hb⟩; subst hb
              refine hK.out _ _ (by assumption) (fun hHeld => ?_)
              clear hK K
              try simp only [Act.put, List.getElem_toArray, List.getElem_cons_zero, List.getElem_cons_succ, List.setIfInBounds_toArray, List.set_cons_zero, List.set_cons_succ]
              refine wpAnyH_take (i := 43) (v := ?vb43) rfl (by kernel_rfl) (by kernel_rfl) (by kernel_rfl) (fun _ _ _ h => h) (Or.inl ⟨by rfl, ?hyb43⟩) (by assumption) ?restb43
              case hyb43 => (intro w0 hSw; (try dsimp only at hSw); go_simp; try with_reducible rfl)
              case' restb43 => try simp only [Act.put, List.getElem_toArray, List.getElem_cons_zero, List.getElem_cons_succ, List.setIfInBounds_toArray, List.set_cons_zero, List.set_cons_succ]
              refine wpAnyH_take (i := 44) (v := ?vb44) rfl (by kernel_rfl) (by kernel_rfl) (by kernel_rfl) (fun _ _ _ h => h) (Or.inl ⟨by rfl, ?hyb44⟩) (by assumption) ?restb44
              case hyb44 => (intro w0 hSw; (try dsimp only at hSw); go_simp; try with_reducible rfl)
              case' restb44 => try simp only [Act.put, List.getElem_toArray, List.getElem_cons_zero, List.getElem_cons_succ, List.setIfInBounds_toArray, List.set_cons_zero, List.set_cons_succ]
              refine wpAnyH_done (by kernel_rfl) ?_ _
              refine NoPanic.normal ?_
              have HX' : Hid (Below wr.heap.size wr _) := And.left (by assumption)
              have HB' := Lib.hid (bch HBr.out HX'.out HBr.out.size)
              go_wp2_with fail
              go_roundw
              case rel => exact ⟨j + 1 + 1, by go_num, by omega, HB'.out⟩
              case measure => simp [intOf]; omega
          · have hkl' : (R.length : Int) ≤ k := by omega
            go_wp2_with fail
            refine (matched_any _ (HT.out.below HBw.out)).mono ?_
            rintro e w9 ⟨rfl, hb⟩
            have HB9 := Lib.hid (bch HBw.out hb HBw.out.size)
            clear hb
            go_wp2_with fail
            go_ret
            exact ⟨rfl, HB9.out⟩
      · refine (accept_no w1 _ In.nil x _ (InP.nil w1) (HU.out.keep HB1.out) (HT.out.below HB1.out) he).mono ?_
        rintro e w2 ⟨rfl, hb⟩
        have HB2 := Lib.hid (bch HB1.out hb HB1.out.size)
        have HB3 := Lib.hid (HB2.out.alloc HB2.out.size (.cells zIn tIn))
        have hn1 := bneT he
        have hn2 := beqF he
        clear hb i0 i1 i2 i3 i4 i5 i6 i7 i8 i9 k0 k1 k2 he
        generalize In.accE In.nil x = ee at hn1 hn2 ⊢
        go_wp2_with fail
        refine (matched_any _ (HT.out.below HB3.out)).mono ?_
        rintro e w9 ⟨rfl, hb⟩
        have HB9 := Lib.hid (bch HB3.out hb HB3.out.size)
        clear hb
        go_wp2_with fail
        go_ret
        exact ⟨rfl, HB9.out⟩
end Go.Proofs.YtlfibaijpimocaaDoor

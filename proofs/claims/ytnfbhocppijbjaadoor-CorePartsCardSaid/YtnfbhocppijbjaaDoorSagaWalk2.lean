/- Sagas on their way: what saga.State, Net, Begin, Reply, Stop compute. -/
import Derived.Test.YtnfbhocppijbjaaDoorSagaWalk
namespace Go.Proofs.YtnfbhocppijbjaaDoor
open Go.RowKit Key Sa

def stateI (s : Sg) : Int := if backB s = true then (if waitsB s = true then 1 else if s.can = true then 4 else 3) else if waitsB s = true then 0 else 2
theorem state_going {s : Sg} (h : goingB s = true) : stateI s = 0 := by
  unfold goingB at h; simp only [Bool.and_eq_true, Bool.not_eq_true', decide_eq_true_eq] at h
  unfold stateI waitsB; simp [h.2, h.1]
theorem state_not {s : Sg} (h : goingB s = false) : stateI s ≠ 0 := by
  unfold goingB at h; unfold stateI waitsB
  cases hb : backB s
  · rw [hb] at h; simp at h; simp [h]
  · simp only [if_true]
    by_cases h6 : waitsI s = 6
    · simp [h6]; split <;> decide
    · simp [h6]
theorem back_at {s : Sg} {b : Bool} (h : backB s = b) (W : World) : Calls Tryd.prog 59 #[sgV s] W fun e w' => e = .returned (.bool b) ∧ Below W.heap.size W w' := by rw [← h]; exact back_any s W
theorem waits_of {s : Sg} {n : Int} {b : Bool} (h : waitsN s = n) (h2 : waitsB s = b) (W : World) : Calls Tryd.prog 35 #[sgV s] W fun e w' => e = .returned (.tuple #[.int .i64 n, .bool b]) ∧ Below W.heap.size W w' := by rw [← h, ← h2]; exact waits_any s W
set_option linter.unusedSimpArgs false in
set_option linter.unusedVariables false in
set_option maxRecDepth 100000 in
set_option maxHeartbeats 4000000 in
theorem state_any (s : Sg) (w : World) : Calls Tryd.prog 49 #[sgV s] w fun e w' => e = .returned (.int .i64 (stateI s)) ∧ Below w.heap.size w w' := by
  cases hb : backB s with
  | false =>
    cases hw : waitsB s with
    | false =>
      have HBK := Lib.hid (back_at hb)
      have HW := Lib.hid (waits_of rfl hw)
      have HF := Lib.hid (show stateI s = 2 by unfold stateI; simp [hb, hw])
      have HB := Lib.hid (below_alloc w (.cells (sgA s) tSaga))
      have HX := Lib.hid (heap_new w (.cells (sgA s) tSaga))
      clear hb hw
      obtain ⟨c0, c1, c2, c3, c4, c5, c6, c7, c8, c9, c10, c11⟩ := sg_box HX.out
      go_enter Tryd.func49, Tryd.ntmps49
      go_wp2_with fail
      refine (HW.out _).mono ?_
      rintro e w1 ⟨rfl, hb1⟩
      have HB1 := Lib.hid (bch HB.out hb1 HB.out.size)
      have HX1 := Lib.hid (heap_keep HX.out hb1)
      clear hb1 c0 c1 c2 c3 c4 c5 c6 c7 c8 c9 c10 c11
      obtain ⟨c0, c1, c2, c3, c4, c5, c6, c7, c8, c9, c10, c11⟩ := sg_box HX1.out
      go_wp2_with fail
      refine (HBK.out _).mono ?_
      rintro e w2 ⟨rfl, hb2⟩
      have HB2 := Lib.hid (bch HB1.out hb2 HB1.out.size)
      have HX2 := Lib.hid (heap_keep HX1.out hb2)
      clear hb2 c0 c1 c2 c3 c4 c5 c6 c7 c8 c9 c10 c11
      obtain ⟨c0, c1, c2, c3, c4, c5, c6, c7, c8, c9, c10, c11⟩ := sg_box HX2.out
      go_wp2_with fail
      refine (HBK.out _).mono ?_
      rintro e w3 ⟨rfl, hb3⟩
      have HB3 := Lib.hid (bch HB2.out hb3 HB2.out.size)
      have HX3 := Lib.hid (heap_keep HX2.out hb3)
      clear hb3 c0 c1 c2 c3 c4 c5 c6 c7 c8 c9 c10 c11
      obtain ⟨c0, c1, c2, c3, c4, c5, c6, c7, c8, c9, c10, c11⟩ := sg_box HX3.out
      go_wp2_with fail
      refine (HBK.out _).mono ?_
      rintro e w4 ⟨rfl, hb4⟩
      have HB4 := Lib.hid (bch HB3.out hb4 HB3.out.size)
      have HX4 := Lib.hid (heap_keep HX3.out hb4)
      clear hb4 c0 c1 c2 c3 c4 c5 c6 c7 c8 c9 c10 c11
      obtain ⟨c0, c1, c2, c3, c4, c5, c6, c7, c8, c9, c10, c11⟩ := sg_box HX4.out
      go_wp2_with fail
      go_ret
      exact ⟨ret_int HF.out.symm, HB4.out⟩
    | true =>
      have HBK := Lib.hid (back_at hb)
      have HW := Lib.hid (waits_of rfl hw)
      have HF := Lib.hid (show stateI s = 0 by unfold stateI; simp [hb, hw])
      have HB := Lib.hid (below_alloc w (.cells (sgA s) tSaga))
      have HX := Lib.hid (heap_new w (.cells (sgA s) tSaga))
      clear hb hw
      obtain ⟨c0, c1, c2, c3, c4, c5, c6, c7, c8, c9, c10, c11⟩ := sg_box HX.out
      go_enter Tryd.func49, Tryd.ntmps49
      go_wp2_with fail
      refine (HW.out _).mono ?_
      rintro e w1 ⟨rfl, hb1⟩
      have HB1 := Lib.hid (bch HB.out hb1 HB.out.size)
      have HX1 := Lib.hid (heap_keep HX.out hb1)
      clear hb1 c0 c1 c2 c3 c4 c5 c6 c7 c8 c9 c10 c11
      obtain ⟨c0, c1, c2, c3, c4, c5, c6, c7, c8, c9, c10, c11⟩ := sg_box HX1.out
      go_wp2_with fail
      refine (HBK.out _).mono ?_
      rintro e w2 ⟨rfl, hb2⟩
      have HB2 := Lib.hid (bch HB1.out hb2 HB1.out.size)
      have HX2 := Lib.hid (heap_keep HX1.out hb2)
      clear hb2 c0 c1 c2 c3 c4 c5 c6 c7 c8 c9 c10 c11
      obtain ⟨c0, c1, c2, c3, c4, c5, c6, c7, c8, c9, c10, c11⟩ := sg_box HX2.out
      go_wp2_with fail
      refine (HBK.out _).mono ?_
      rintro e w3 ⟨rfl, hb3⟩
      have HB3 := Lib.hid (bch HB2.out hb3 HB2.out.size)
      have HX3 := Lib.hid (heap_keep HX2.out hb3)
      clear hb3 c0 c1 c2 c3 c4 c5 c6 c7 c8 c9 c10 c11
      obtain ⟨c0, c1, c2, c3, c4, c5, c6, c7, c8, c9, c10, c11⟩ := sg_box HX3.out
      go_wp2_with fail
      refine (HBK.out _).mono ?_
      rintro e w4 ⟨rfl, hb4⟩
      have HB4 := Lib.hid (bch HB3.out hb4 HB3.out.size)
      have HX4 := Lib.hid (heap_keep HX3.out hb4)
      clear hb4 c0 c1 c2 c3 c4 c5 c6 c7 c8 c9 c10 c11
      obtain ⟨c0, c1, c2, c3, c4, c5, c6, c7, c8, c9, c10, c11⟩ := sg_box HX4.out
      go_wp2_with fail
      go_ret
      exact ⟨ret_int HF.out.symm, HB4.out⟩
  | true =>
    cases hw : waitsB s with
    | false =>
      obtain ⟨i, r, k, q, a, d0, d1, d2, d3, d4, d5, can⟩ := s
      cases can with
      | false =>
        have HBK := Lib.hid (back_at hb)
        have HW := Lib.hid (waits_of rfl hw)
        have HF := Lib.hid (show stateI (⟨i, r, k, q, a, d0, d1, d2, d3, d4, d5, false⟩ : Sg) = 3 by unfold stateI; simp [hb, hw])
        have HB := Lib.hid (below_alloc w (.cells (sgA (⟨i, r, k, q, a, d0, d1, d2, d3, d4, d5, false⟩ : Sg)) tSaga))
        have HX := Lib.hid (heap_new w (.cells (sgA (⟨i, r, k, q, a, d0, d1, d2, d3, d4, d5, false⟩ : Sg)) tSaga))
        clear hb hw
        obtain ⟨c0, c1, c2, c3, c4, c5, c6, c7, c8, c9, c10, c11⟩ := sg_box HX.out
        go_enter Tryd.func49, Tryd.ntmps49
        go_wp2_with fail
        refine (HW.out _).mono ?_
        rintro e w1 ⟨rfl, hb1⟩
        have HB1 := Lib.hid (bch HB.out hb1 HB.out.size)
        have HX1 := Lib.hid (heap_keep HX.out hb1)
        clear hb1 c0 c1 c2 c3 c4 c5 c6 c7 c8 c9 c10 c11
        obtain ⟨c0, c1, c2, c3, c4, c5, c6, c7, c8, c9, c10, c11⟩ := sg_box HX1.out
        go_wp2_with fail
        refine (HBK.out _).mono ?_
        rintro e w2 ⟨rfl, hb2⟩
        have HB2 := Lib.hid (bch HB1.out hb2 HB1.out.size)
        have HX2 := Lib.hid (heap_keep HX1.out hb2)
        clear hb2 c0 c1 c2 c3 c4 c5 c6 c7 c8 c9 c10 c11
        obtain ⟨c0, c1, c2, c3, c4, c5, c6, c7, c8, c9, c10, c11⟩ := sg_box HX2.out
        go_wp2_with fail
        refine (HBK.out _).mono ?_
        rintro e w3 ⟨rfl, hb3⟩
        have HB3 := Lib.hid (bch HB2.out hb3 HB2.out.size)
        have HX3 := Lib.hid (heap_keep HX2.out hb3)
        clear hb3 c0 c1 c2 c3 c4 c5 c6 c7 c8 c9 c10 c11
        obtain ⟨c0, c1, c2, c3, c4, c5, c6, c7, c8, c9, c10, c11⟩ := sg_box HX3.out
        go_wp2_with fail
        refine (HBK.out _).mono ?_
        rintro e w4 ⟨rfl, hb4⟩
        have HB4 := Lib.hid (bch HB3.out hb4 HB3.out.size)
        have HX4 := Lib.hid (heap_keep HX3.out hb4)
        clear hb4 c0 c1 c2 c3 c4 c5 c6 c7 c8 c9 c10 c11
        obtain ⟨c0, c1, c2, c3, c4, c5, c6, c7, c8, c9, c10, c11⟩ := sg_box HX4.out
        go_wp2_with fail
        go_ret
        exact ⟨ret_int HF.out.symm, HB4.out⟩
      | true =>
        have HBK := Lib.hid (back_at hb)
        have HW := Lib.hid (waits_of rfl hw)
        have HF := Lib.hid (show stateI (⟨i, r, k, q, a, d0, d1, d2, d3, d4, d5, true⟩ : Sg) = 4 by unfold stateI; simp [hb, hw])
        have HB := Lib.hid (below_alloc w (.cells (sgA (⟨i, r, k, q, a, d0, d1, d2, d3, d4, d5, true⟩ : Sg)) tSaga))
        have HX := Lib.hid (heap_new w (.cells (sgA (⟨i, r, k, q, a, d0, d1, d2, d3, d4, d5, true⟩ : Sg)) tSaga))
        clear hb hw
        obtain ⟨c0, c1, c2, c3, c4, c5, c6, c7, c8, c9, c10, c11⟩ := sg_box HX.out
        go_enter Tryd.func49, Tryd.ntmps49
        go_wp2_with fail
        refine (HW.out _).mono ?_
        rintro e w1 ⟨rfl, hb1⟩
        have HB1 := Lib.hid (bch HB.out hb1 HB.out.size)
        have HX1 := Lib.hid (heap_keep HX.out hb1)
        clear hb1 c0 c1 c2 c3 c4 c5 c6 c7 c8 c9 c10 c11
        obtain ⟨c0, c1, c2, c3, c4, c5, c6, c7, c8, c9, c10, c11⟩ := sg_box HX1.out
        go_wp2_with fail
        refine (HBK.out _).mono ?_
        rintro e w2 ⟨rfl, hb2⟩
        have HB2 := Lib.hid (bch HB1.out hb2 HB1.out.size)
        have HX2 := Lib.hid (heap_keep HX1.out hb2)
        clear hb2 c0 c1 c2 c3 c4 c5 c6 c7 c8 c9 c10 c11
        obtain ⟨c0, c1, c2, c3, c4, c5, c6, c7, c8, c9, c10, c11⟩ := sg_box HX2.out
        go_wp2_with fail
        refine (HBK.out _).mono ?_
        rintro e w3 ⟨rfl, hb3⟩
        have HB3 := Lib.hid (bch HB2.out hb3 HB2.out.size)
        have HX3 := Lib.hid (heap_keep HX2.out hb3)
        clear hb3 c0 c1 c2 c3 c4 c5 c6 c7 c8 c9 c10 c11
        obtain ⟨c0, c1, c2, c3, c4, c5, c6, c7, c8, c9, c10, c11⟩ := sg_box HX3.out
        go_wp2_with fail
        go_ret
        exact ⟨ret_int HF.out.symm, HB3.out⟩
    | true =>
      have HBK := Lib.hid (back_at hb)
      have HW := Lib.hid (waits_of rfl hw)
      have HF := Lib.hid (show stateI s = 1 by unfold stateI; simp [hb, hw])
      have HB := Lib.hid (below_alloc w (.cells (sgA s) tSaga))
      have HX := Lib.hid (heap_new w (.cells (sgA s) tSaga))
      clear hb hw
      obtain ⟨c0, c1, c2, c3, c4, c5, c6, c7, c8, c9, c10, c11⟩ := sg_box HX.out
      go_enter Tryd.func49, Tryd.ntmps49
      go_wp2_with fail
      refine (HW.out _).mono ?_
      rintro e w1 ⟨rfl, hb1⟩
      have HB1 := Lib.hid (bch HB.out hb1 HB.out.size)
      have HX1 := Lib.hid (heap_keep HX.out hb1)
      clear hb1 c0 c1 c2 c3 c4 c5 c6 c7 c8 c9 c10 c11
      obtain ⟨c0, c1, c2, c3, c4, c5, c6, c7, c8, c9, c10, c11⟩ := sg_box HX1.out
      go_wp2_with fail
      refine (HBK.out _).mono ?_
      rintro e w2 ⟨rfl, hb2⟩
      have HB2 := Lib.hid (bch HB1.out hb2 HB1.out.size)
      have HX2 := Lib.hid (heap_keep HX1.out hb2)
      clear hb2 c0 c1 c2 c3 c4 c5 c6 c7 c8 c9 c10 c11
      obtain ⟨c0, c1, c2, c3, c4, c5, c6, c7, c8, c9, c10, c11⟩ := sg_box HX2.out
      go_wp2_with fail
      go_ret
      exact ⟨ret_int HF.out.symm, HB2.out⟩
set_option linter.unusedSimpArgs false in
set_option linter.unusedVariables false in
set_option maxRecDepth 100000 in
set_option maxHeartbeats 4000000 in
theorem net_any (s : Sg) (w : World) : Calls Tryd.prog 22 #[sgV s] w fun e w' => e = .returned (.int .i64 (Sa.netI s)) ∧ Below w.heap.size w w' := by
  by_cases h : s.d1 = 2
  · have h1 := bneF h
    by_cases h2 : s.d4 = 2
    · have h3 := beqT h2
      have HF := Lib.hid (show Sa.netI s = 0 by unfold Sa.netI; simp [h, h2])
      clear h h2
      obtain ⟨c0, c1, c2, c3, c4, c5, c6, c7, c8, c9, c10, c11⟩ := sg_box (heap_new w (.cells (sgA s) tSaga))
      go_enter Tryd.func22, Tryd.ntmps22
      go_wp2_with fail
      go_ret
      exact ⟨ret_int HF.out.symm, below_alloc _ _⟩
    · have h3 := beqF h2
      have HF := Lib.hid (show Sa.netI s = s.amt by unfold Sa.netI; simp [h, h2])
      clear h h2
      obtain ⟨c0, c1, c2, c3, c4, c5, c6, c7, c8, c9, c10, c11⟩ := sg_box (heap_new w (.cells (sgA s) tSaga))
      go_enter Tryd.func22, Tryd.ntmps22
      go_wp2_with fail
      go_ret
      exact ⟨ret_int HF.out.symm, below_alloc _ _⟩
  · have h1 := bneT h
    have HF := Lib.hid (show Sa.netI s = 0 by unfold Sa.netI; simp [h])
    clear h
    obtain ⟨c0, c1, c2, c3, c4, c5, c6, c7, c8, c9, c10, c11⟩ := sg_box (heap_new w (.cells (sgA s) tSaga))
    go_enter Tryd.func22, Tryd.ntmps22
    go_wp2_with fail
    go_ret
    exact ⟨ret_int HF.out.symm, below_alloc _ _⟩
end Go.Proofs.YtnfbhocppijbjaaDoor

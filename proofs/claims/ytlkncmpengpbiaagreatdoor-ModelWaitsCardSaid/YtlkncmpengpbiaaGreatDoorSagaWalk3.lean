/- Sagas on their way: what saga.State, Net, Begin, Reply, Stop compute. -/
import Derived.Test.YtlkncmpengpbiaaGreatDoorSagaWalk
import Derived.Test.YtlkncmpengpbiaaGreatDoorShort
namespace Go.Proofs.YtlkncmpengpbiaaGreatDoor
open Go.RowKit Key Sa
set_option linter.unusedSimpArgs false
set_option linter.unusedVariables false
set_option maxRecDepth 100000
set_option maxHeartbeats 4000000

def stateI (s : Sg) : Int := if backB s = true then (if waitsB s = true then 1 else if s.can = true then 4 else 3) else if waitsB s = true then 0 else 2
theorem state_going {s : Sg} (h : goingB s = true) : stateI s = 0 := by
 unfold goingB at h; simp only [Bool.and_eq_true, Bool.not_eq_true', decide_eq_true_eq] at h
 unfold stateI waitsB; simp [h.2, h.1]
theorem state_not {s : Sg} (h : goingB s = false) : stateI s ≠ 0 := by
 unfold goingB at h; unfold stateI waitsB
 cases hb : backB s
 ·rw [hb] at h; simp at h; simp [h]
 ·simp only [if_true]
  by_cases h6 : waitsI s = 6
  ·simp [h6]; split <;> decide
  ·simp [h6]
theorem back_at {s : Sg} {b : Bool} (h : backB s = b) (W : World) : Calls Tryz.prog 159 #[sgV s] W fun e w' => e = .returned (.bool b) ∧ Below W.heap.size W w' := by rw [← h]; exact back_any s W
theorem waits_of {s : Sg} {n : Int} {b : Bool} (h : waitsN s = n) (h2 : waitsB s = b) (W : World) : Calls Tryz.prog 40 #[sgV s] W fun e w' => e = .returned (.tuple #[.int .i64 n, .bool b]) ∧ Below W.heap.size W w' := by rw [← h, ← h2]; exact waits_any s W
theorem state_any (s : Sg) (w : World) : Calls Tryz.prog 128 #[sgV s] w fun e w' => e = .returned (.int .i64 (stateI s)) ∧ Below w.heap.size w w' := by
 cases hb : backB s with
 | false =>
  cases hw : waitsB s with
  | false =>
   have HBK := Hd (back_at hb)
   have HW := Hd (waits_of rfl hw)
   have HF := Hd (show stateI s = 2 by unfold stateI; simp [hb, hw])
   have HB := Hd (below_alloc w (.cells (sgA s) tSaga))
   have HX := Hd (heap_new w (.cells (sgA s) tSaga))
   clear hb hw
   obtain ⟨c0, c1, c2, c3, c4, c5, c6, c7, c8, c9, c10, c11⟩ := sg_box HX.out
   go_enter Tryz.func128, Tryz.ntmps128
   go_wp2_with fail
   refine (HW.out _).mono ?_
   rintro e w1 ⟨rfl, hb1⟩
   have HB1 := Hd (bch HB.out hb1 HB.out.size)
   have HX1 := Hd (heap_keep HX.out hb1)
   clear hb1 c0 c1 c2 c3 c4 c5 c6 c7 c8 c9 c10 c11
   obtain ⟨c0, c1, c2, c3, c4, c5, c6, c7, c8, c9, c10, c11⟩ := sg_box HX1.out
   go_wp2_with fail
   refine (HBK.out _).mono ?_
   rintro e w2 ⟨rfl, hb2⟩
   have HB2 := Hd (bch HB1.out hb2 HB1.out.size)
   have HX2 := Hd (heap_keep HX1.out hb2)
   clear hb2 c0 c1 c2 c3 c4 c5 c6 c7 c8 c9 c10 c11
   obtain ⟨c0, c1, c2, c3, c4, c5, c6, c7, c8, c9, c10, c11⟩ := sg_box HX2.out
   go_wp2_with fail
   refine (HBK.out _).mono ?_
   rintro e w3 ⟨rfl, hb3⟩
   have HB3 := Hd (bch HB2.out hb3 HB2.out.size)
   have HX3 := Hd (heap_keep HX2.out hb3)
   clear hb3 c0 c1 c2 c3 c4 c5 c6 c7 c8 c9 c10 c11
   obtain ⟨c0, c1, c2, c3, c4, c5, c6, c7, c8, c9, c10, c11⟩ := sg_box HX3.out
   go_wp2_with fail
   refine (HBK.out _).mono ?_
   rintro e w4 ⟨rfl, hb4⟩
   have HB4 := Hd (bch HB3.out hb4 HB3.out.size)
   have HX4 := Hd (heap_keep HX3.out hb4)
   clear hb4 c0 c1 c2 c3 c4 c5 c6 c7 c8 c9 c10 c11
   obtain ⟨c0, c1, c2, c3, c4, c5, c6, c7, c8, c9, c10, c11⟩ := sg_box HX4.out
   go_wp2_with fail
   go_ret
   exact ⟨ret_int HF.out.symm, HB4.out⟩
  | true =>
   have HBK := Hd (back_at hb)
   have HW := Hd (waits_of rfl hw)
   have HF := Hd (show stateI s = 0 by unfold stateI; simp [hb, hw])
   have HB := Hd (below_alloc w (.cells (sgA s) tSaga))
   have HX := Hd (heap_new w (.cells (sgA s) tSaga))
   clear hb hw
   obtain ⟨c0, c1, c2, c3, c4, c5, c6, c7, c8, c9, c10, c11⟩ := sg_box HX.out
   go_enter Tryz.func128, Tryz.ntmps128
   go_wp2_with fail
   refine (HW.out _).mono ?_
   rintro e w1 ⟨rfl, hb1⟩
   have HB1 := Hd (bch HB.out hb1 HB.out.size)
   have HX1 := Hd (heap_keep HX.out hb1)
   clear hb1 c0 c1 c2 c3 c4 c5 c6 c7 c8 c9 c10 c11
   obtain ⟨c0, c1, c2, c3, c4, c5, c6, c7, c8, c9, c10, c11⟩ := sg_box HX1.out
   go_wp2_with fail
   refine (HBK.out _).mono ?_
   rintro e w2 ⟨rfl, hb2⟩
   have HB2 := Hd (bch HB1.out hb2 HB1.out.size)
   have HX2 := Hd (heap_keep HX1.out hb2)
   clear hb2 c0 c1 c2 c3 c4 c5 c6 c7 c8 c9 c10 c11
   obtain ⟨c0, c1, c2, c3, c4, c5, c6, c7, c8, c9, c10, c11⟩ := sg_box HX2.out
   go_wp2_with fail
   refine (HBK.out _).mono ?_
   rintro e w3 ⟨rfl, hb3⟩
   have HB3 := Hd (bch HB2.out hb3 HB2.out.size)
   have HX3 := Hd (heap_keep HX2.out hb3)
   clear hb3 c0 c1 c2 c3 c4 c5 c6 c7 c8 c9 c10 c11
   obtain ⟨c0, c1, c2, c3, c4, c5, c6, c7, c8, c9, c10, c11⟩ := sg_box HX3.out
   go_wp2_with fail
   refine (HBK.out _).mono ?_
   rintro e w4 ⟨rfl, hb4⟩
   have HB4 := Hd (bch HB3.out hb4 HB3.out.size)
   have HX4 := Hd (heap_keep HX3.out hb4)
   clear hb4 c0 c1 c2 c3 c4 c5 c6 c7 c8 c9 c10 c11
   obtain ⟨c0, c1, c2, c3, c4, c5, c6, c7, c8, c9, c10, c11⟩ := sg_box HX4.out
   go_wp2_with fail
   go_ret
   exact ⟨ret_int HF.out.symm, HB4.out⟩
 | true =>
  cases hw : waitsB s with
  | false =>
   obtain ⟨i, r, k, q, a, d0, d1, d2, d3, d4, d5, can⟩ := s
   cases can with
   | false =>
    have HBK := Hd (back_at hb)
    have HW := Hd (waits_of rfl hw)
    have HF := Hd (show stateI (⟨i, r, k, q, a, d0, d1, d2, d3, d4, d5, false⟩ : Sg) = 3 by unfold stateI; simp [hb, hw])
    have HB := Hd (below_alloc w (.cells (sgA (⟨i, r, k, q, a, d0, d1, d2, d3, d4, d5, false⟩ : Sg)) tSaga))
    have HX := Hd (heap_new w (.cells (sgA (⟨i, r, k, q, a, d0, d1, d2, d3, d4, d5, false⟩ : Sg)) tSaga))
    clear hb hw
    obtain ⟨c0, c1, c2, c3, c4, c5, c6, c7, c8, c9, c10, c11⟩ := sg_box HX.out
    go_enter Tryz.func128, Tryz.ntmps128
    go_wp2_with fail
    refine (HW.out _).mono ?_
    rintro e w1 ⟨rfl, hb1⟩
    have HB1 := Hd (bch HB.out hb1 HB.out.size)
    have HX1 := Hd (heap_keep HX.out hb1)
    clear hb1 c0 c1 c2 c3 c4 c5 c6 c7 c8 c9 c10 c11
    obtain ⟨c0, c1, c2, c3, c4, c5, c6, c7, c8, c9, c10, c11⟩ := sg_box HX1.out
    go_wp2_with fail
    refine (HBK.out _).mono ?_
    rintro e w2 ⟨rfl, hb2⟩
    have HB2 := Hd (bch HB1.out hb2 HB1.out.size)
    have HX2 := Hd (heap_keep HX1.out hb2)
    clear hb2 c0 c1 c2 c3 c4 c5 c6 c7 c8 c9 c10 c11
    obtain ⟨c0, c1, c2, c3, c4, c5, c6, c7, c8, c9, c10, c11⟩ := sg_box HX2.out
    go_wp2_with fail
    refine (HBK.out _).mono ?_
    rintro e w3 ⟨rfl, hb3⟩
    have HB3 := Hd (bch HB2.out hb3 HB2.out.size)
    have HX3 := Hd (heap_keep HX2.out hb3)
    clear hb3 c0 c1 c2 c3 c4 c5 c6 c7 c8 c9 c10 c11
    obtain ⟨c0, c1, c2, c3, c4, c5, c6, c7, c8, c9, c10, c11⟩ := sg_box HX3.out
    go_wp2_with fail
    refine (HBK.out _).mono ?_
    rintro e w4 ⟨rfl, hb4⟩
    have HB4 := Hd (bch HB3.out hb4 HB3.out.size)
    have HX4 := Hd (heap_keep HX3.out hb4)
    clear hb4 c0 c1 c2 c3 c4 c5 c6 c7 c8 c9 c10 c11
    obtain ⟨c0, c1, c2, c3, c4, c5, c6, c7, c8, c9, c10, c11⟩ := sg_box HX4.out
    go_wp2_with fail
    go_ret
    exact ⟨ret_int HF.out.symm, HB4.out⟩
   | true =>
    have HBK := Hd (back_at hb)
    have HW := Hd (waits_of rfl hw)
    have HF := Hd (show stateI (⟨i, r, k, q, a, d0, d1, d2, d3, d4, d5, true⟩ : Sg) = 4 by unfold stateI; simp [hb, hw])
    have HB := Hd (below_alloc w (.cells (sgA (⟨i, r, k, q, a, d0, d1, d2, d3, d4, d5, true⟩ : Sg)) tSaga))
    have HX := Hd (heap_new w (.cells (sgA (⟨i, r, k, q, a, d0, d1, d2, d3, d4, d5, true⟩ : Sg)) tSaga))
    clear hb hw
    obtain ⟨c0, c1, c2, c3, c4, c5, c6, c7, c8, c9, c10, c11⟩ := sg_box HX.out
    go_enter Tryz.func128, Tryz.ntmps128
    go_wp2_with fail
    refine (HW.out _).mono ?_
    rintro e w1 ⟨rfl, hb1⟩
    have HB1 := Hd (bch HB.out hb1 HB.out.size)
    have HX1 := Hd (heap_keep HX.out hb1)
    clear hb1 c0 c1 c2 c3 c4 c5 c6 c7 c8 c9 c10 c11
    obtain ⟨c0, c1, c2, c3, c4, c5, c6, c7, c8, c9, c10, c11⟩ := sg_box HX1.out
    go_wp2_with fail
    refine (HBK.out _).mono ?_
    rintro e w2 ⟨rfl, hb2⟩
    have HB2 := Hd (bch HB1.out hb2 HB1.out.size)
    have HX2 := Hd (heap_keep HX1.out hb2)
    clear hb2 c0 c1 c2 c3 c4 c5 c6 c7 c8 c9 c10 c11
    obtain ⟨c0, c1, c2, c3, c4, c5, c6, c7, c8, c9, c10, c11⟩ := sg_box HX2.out
    go_wp2_with fail
    refine (HBK.out _).mono ?_
    rintro e w3 ⟨rfl, hb3⟩
    have HB3 := Hd (bch HB2.out hb3 HB2.out.size)
    have HX3 := Hd (heap_keep HX2.out hb3)
    clear hb3 c0 c1 c2 c3 c4 c5 c6 c7 c8 c9 c10 c11
    obtain ⟨c0, c1, c2, c3, c4, c5, c6, c7, c8, c9, c10, c11⟩ := sg_box HX3.out
    go_wp2_with fail
    go_ret
    exact ⟨ret_int HF.out.symm, HB3.out⟩
  | true =>
   have HBK := Hd (back_at hb)
   have HW := Hd (waits_of rfl hw)
   have HF := Hd (show stateI s = 1 by unfold stateI; simp [hb, hw])
   have HB := Hd (below_alloc w (.cells (sgA s) tSaga))
   have HX := Hd (heap_new w (.cells (sgA s) tSaga))
   clear hb hw
   obtain ⟨c0, c1, c2, c3, c4, c5, c6, c7, c8, c9, c10, c11⟩ := sg_box HX.out
   go_enter Tryz.func128, Tryz.ntmps128
   go_wp2_with fail
   refine (HW.out _).mono ?_
   rintro e w1 ⟨rfl, hb1⟩
   have HB1 := Hd (bch HB.out hb1 HB.out.size)
   have HX1 := Hd (heap_keep HX.out hb1)
   clear hb1 c0 c1 c2 c3 c4 c5 c6 c7 c8 c9 c10 c11
   obtain ⟨c0, c1, c2, c3, c4, c5, c6, c7, c8, c9, c10, c11⟩ := sg_box HX1.out
   go_wp2_with fail
   refine (HBK.out _).mono ?_
   rintro e w2 ⟨rfl, hb2⟩
   have HB2 := Hd (bch HB1.out hb2 HB1.out.size)
   have HX2 := Hd (heap_keep HX1.out hb2)
   clear hb2 c0 c1 c2 c3 c4 c5 c6 c7 c8 c9 c10 c11
   obtain ⟨c0, c1, c2, c3, c4, c5, c6, c7, c8, c9, c10, c11⟩ := sg_box HX2.out
   go_wp2_with fail
   go_ret
   exact ⟨ret_int HF.out.symm, HB2.out⟩
theorem net_any (s : Sg) (w : World) : Calls Tryz.prog 100 #[sgV s] w fun e w' => e = .returned (.int .i64 (Sa.netI s)) ∧ Below w.heap.size w w' := by
 by_cases h : s.d1 = 2
 ·have h1 := bneF h
  by_cases h2 : s.d4 = 2
  ·have h3 := beqT h2
   have HF := Hd (show Sa.netI s = 0 by unfold Sa.netI; simp [h, h2])
   clear h h2
   obtain ⟨c0, c1, c2, c3, c4, c5, c6, c7, c8, c9, c10, c11⟩ := sg_box (heap_new w (.cells (sgA s) tSaga))
   go_enter Tryz.func100, Tryz.ntmps100
   go_wp2_with fail
   go_ret
   exact ⟨ret_int HF.out.symm, below_alloc _ _⟩
  ·have h3 := beqF h2
   have HF := Hd (show Sa.netI s = s.amt by unfold Sa.netI; simp [h, h2])
   clear h h2
   obtain ⟨c0, c1, c2, c3, c4, c5, c6, c7, c8, c9, c10, c11⟩ := sg_box (heap_new w (.cells (sgA s) tSaga))
   go_enter Tryz.func100, Tryz.ntmps100
   go_wp2_with fail
   go_ret
   exact ⟨ret_int HF.out.symm, below_alloc _ _⟩
 ·have h1 := bneT h
  have HF := Hd (show Sa.netI s = 0 by unfold Sa.netI; simp [h])
  clear h
  obtain ⟨c0, c1, c2, c3, c4, c5, c6, c7, c8, c9, c10, c11⟩ := sg_box (heap_new w (.cells (sgA s) tSaga))
  go_enter Tryz.func100, Tryz.ntmps100
  go_wp2_with fail
  go_ret
  exact ⟨ret_int HF.out.symm, below_alloc _ _⟩
end Go.Proofs.YtlkncmpengpbiaaGreatDoor
/- Sagas on their way: what saga.Begin, Reply, Stop compute. -/
namespace Go.Proofs.YtlkncmpengpbiaaGreatDoor
open Go.RowKit Key Sa
set_option linter.unusedSimpArgs false
set_option linter.unusedVariables false
set_option maxRecDepth 100000
set_option maxHeartbeats 4000000

theorem state_at {s : Sg} {n : Int} (h : stateI s = n) (W : World) : Calls Tryz.prog 128 #[sgV s] W fun e w' => e = .returned (.int .i64 n) ∧ Below W.heap.size W w' := by rw [← h]; exact state_any s W
theorem waits_cases (s : Sg) : waitsI s = 0 ∨ waitsI s = 1 ∨ waitsI s = 2 ∨ waitsI s = 3 ∨ waitsI s = 4 ∨ waitsI s = 5 ∨ waitsI s = 6 := by unfold waitsI; repeat' split <;> simp_all
abbrev tOrder : TypeId := 29
theorem begin_any (i : Int) (r k : List UInt8) (q a : Int) (w : World) : Calls Tryz.prog 97 #[.agg #[.int .i64 i, .string ⟨r.toArray⟩, .string ⟨k.toArray⟩, .int .i64 q, .int .i64 a]] w fun e w' => e = .returned (sgV (beginI i r k q a)) ∧ Below w.heap.size w w' := by
 obtain ⟨wa, hA⟩ : ∃ wa, wa = ((w.alloc (.cells #[.int .i64 i, .string ⟨r.toArray⟩, .string ⟨k.toArray⟩, .int .i64 q, .int .i64 a] tOrder)).alloc (.cells (sgA sg0) tSaga)).alloc (.cells (sgA (⟨i, r, k, q, a, 0, 0, 0, 0, 0, 0, false⟩ : Sg)) tSaga) := ⟨_, rfl⟩
 have hB : Below w.heap.size w wa := by rw [hA]; exact ((below_alloc w _).alloc (by simp) _).alloc (by simp; omega) _
 have hZ : wa.heap[w.heap.size + 1]? = some (.cells (sgA sg0) tSaga (0, 0)) := by
  rw [hA]
  have := heap_keep (heap_new (w.alloc (.cells #[.int .i64 i, .string ⟨r.toArray⟩, .string ⟨k.toArray⟩, .int .i64 q, .int .i64 a] tOrder)) (.cells (sgA sg0) tSaga)) (below_alloc _ (.cells (sgA (⟨i, r, k, q, a, 0, 0, 0, 0, 0, 0, false⟩ : Sg)) tSaga))
  rwa [show (w.alloc (.cells #[.int .i64 i, .string ⟨r.toArray⟩, .string ⟨k.toArray⟩, .int .i64 q, .int .i64 a] tOrder)).heap.size = w.heap.size + 1 by simp] at this
 have hX : wa.heap[w.heap.size + 2]? = some (.cells (sgA (⟨i, r, k, q, a, 0, 0, 0, 0, 0, 0, false⟩ : Sg)) tSaga (0, 0)) := by
  rw [hA]
  have := heap_new ((w.alloc (.cells #[.int .i64 i, .string ⟨r.toArray⟩, .string ⟨k.toArray⟩, .int .i64 q, .int .i64 a] tOrder)).alloc (.cells (sgA sg0) tSaga)) (.cells (sgA (⟨i, r, k, q, a, 0, 0, 0, 0, 0, 0, false⟩ : Sg)) tSaga)
  rwa [show ((w.alloc (.cells #[.int .i64 i, .string ⟨r.toArray⟩, .string ⟨k.toArray⟩, .int .i64 q, .int .i64 a] tOrder)).alloc (.cells (sgA sg0) tSaga)).heap.size = w.heap.size + 2 by simp] at this
 have HB := Hd hB; have HX := Hd hX; have HZ := Hd hZ; have HA := Hd hA
 clear hA hB hX hZ
 go_enter Tryz.func97, Tryz.ntmps97
 go_upto_region 2 with (fail)
 rw [← HA.out]
 obtain ⟨g0, g1, g2, g3, g4, g5, g6, g7, g8, g9, g10, g11⟩ := froz12 HX.out
 obtain ⟨c0, c1, c2, c3, c4, c5, c6, c7, c8, c9, c10, c11⟩ := sg_box HX.out
 go_upto_region 3 with (fail)
 obtain ⟨W2, hW2⟩ : ∃ W2, W2 = wa.setCell ⟨w.heap.size + 2, 5, none⟩ (.int .i64 1) := ⟨_, rfl⟩
 rw [show wa.setCell ⟨w.heap.size + 1 + 1, 5, none⟩ (.int .i64 1) = W2 from hW2.symm]
 have HX2 := Hd (show W2.heap[w.heap.size + 2]? = some (.cells (sgA (beginI i r k q a)) tSaga (0, 0)) by rw [hW2]; exact sg_set0 HX.out 1)
 have ht2 : Turned (fun j => j = w.heap.size + 2) wa W2 := by rw [hW2]; exact turned_set _ _ _ _
 have HB2 := Hd (Below.turned HB.out ht2 (fun i h => by omega) HB.out.size)
 have HZ2 := Hd (heap_turned' HZ.out ht2 (by omega))
 clear hW2 ht2 c0 c1 c2 c3 c4 c5 c6 c7 c8 c9 c10 c11 g0 g1 g2 g3 g4 g5 g6 g7 g8 g9 g10 g11 HB HX HZ HA
 have hz := heap_lt HX2.out
 obtain ⟨c0, c1, c2, c3, c4, c5, c6, c7, c8, c9, c10, c11⟩ := sg_box HX2.out
 obtain ⟨m0, m1, m2, m3, m4, m5, m6, m7, m8, m9, m10, m11⟩ := cell12 HZ2.out
 obtain ⟨f0, f1, f2, f3, f4, f5, f6, f7, f8, f9, f10, f11⟩ := froz12 HZ2.out
 go_wp2_with fail
 refine bodyPost_ret (v := sgV (beginI i r k q a)) (by simp [results, Tryz.results97, go_sem, m0, m1, m2, m3, m4, m5, m6, m7, m8, m9, m10, m11]) rfl ⟨rfl, ?_⟩
 exact Below.turned HB2.out (turned_set12 W2 (w.heap.size + 1) _ _ _ _ _ _ _ _ _ _ _ _) (fun i h => by omega) HB2.out.size
theorem reply_yes (s : Sg) (deed code : Int) (w : World) (hr : replyB s deed code = true) : Calls Tryz.prog 99 #[sgV s, .int .i64 deed, .int .i64 code] w fun e w' => e = .returned (.tuple #[sgV (replyI s deed code), .bool true]) ∧ Below w.heap.size w w' := by
 have hr' := hr
 unfold replyB at hr'; simp only [Bool.and_eq_true, Bool.or_eq_true, decide_eq_true_eq] at hr'
 obtain ⟨⟨h6, hd⟩, hc⟩ := hr'
 clear hr
 subst hd
 rcases waits_cases s with hd | hd | hd | hd | hd | hd | hd
 all_goals rw [hd] at hc ⊢
 ·rcases hc with rfl | ⟨rfl, _⟩
  all_goals clear h6
  ·have HW := Hd (waits_of (show waitsN s = 0 by unfold waitsN; rw [hd]; rfl) (show waitsB s = true by unfold waitsB; rw [hd]; rfl))
   have HON := Hd (fun W => on_any { s with d0 := 2 } W)
   have HF := Hd (show replyI s 0 1 = onI { s with d0 := 2 } from rfl)
   clear hd
   obtain ⟨wa, HA, HB, HX, HZ⟩ := two_hid w (sgA s) (sgA sg0) tSaga tSaga
   go_enter Tryz.func99, Tryz.ntmps99
   go_wp2_with fail
   rw [← HA.out]
   refine (HW.out _).mono ?_
   rintro e w1 ⟨rfl, hb⟩
   have HB1 := Hd (bch HB.out hb HB.out.size)
   have HX1 := Hd (heap_keep HX.out hb)
   have HZ1 := Hd (heap_keep HZ.out hb)
   clear hb HA HB HX HZ HW
   obtain ⟨c0, c1, c2, c3, c4, c5, c6, c7, c8, c9, c10, c11⟩ := sg_box HX1.out
   obtain ⟨g0, g1, g2, g3, g4, g5, g6, g7, g8, g9, g10, g11⟩ := froz12 HX1.out
   go_upto_region 9 with (fail)
   obtain ⟨W2, hW2, HX2, HB2, HZ2⟩ := sg_st HB1.out HZ1.out (T := tSaga) (sg_set0 HX1.out 2)
   rw [hW2]
   clear hW2 c0 c1 c2 c3 c4 c5 c6 c7 c8 c9 c10 c11 g0 g1 g2 g3 g4 g5 g6 g7 g8 g9 g10 g11 HB1 HX1 HZ1
   obtain ⟨c0, c1, c2, c3, c4, c5, c6, c7, c8, c9, c10, c11⟩ := sg_box HX2.out
   go_wp2_with fail
   refine (HON.out _).mono ?_
   rintro e w3 ⟨rfl, hb⟩
   have HB3 := Hd (bch HB2.out hb HB2.out.size)
   have HZ3 := Hd (heap_keep HZ2.out hb)
   clear hb c0 c1 c2 c3 c4 c5 c6 c7 c8 c9 c10 c11 HB2 HX2 HZ2
   have hz := heap_lt HZ3.out
   obtain ⟨m0, m1, m2, m3, m4, m5, m6, m7, m8, m9, m10, m11⟩ := cell12 HZ3.out
   obtain ⟨f0, f1, f2, f3, f4, f5, f6, f7, f8, f9, f10, f11⟩ := froz12 HZ3.out
   go_wp2_with fail
   refine bodyPost_ret (v := .tuple #[sgV (onI { s with d0 := 2 }), .bool true]) (by simp [results, Tryz.results99, go_sem, m0, m1, m2, m3, m4, m5, m6, m7, m8, m9, m10, m11]) rfl ⟨by rw [HF.out], ?_⟩
   exact Below.turned HB3.out (turned_set12 w3 (w.heap.size + 1) _ _ _ _ _ _ _ _ _ _ _ _) (fun i h => by omega) HB3.out.size
  ·have HW := Hd (waits_of (show waitsN s = 0 by unfold waitsN; rw [hd]; rfl) (show waitsB s = true by unfold waitsB; rw [hd]; rfl))
   have HON := Hd (fun W => on_any { s with d0 := 3 } W)
   have HF := Hd (show replyI s 0 2 = onI { s with d0 := 3 } from rfl)
   clear hd
   obtain ⟨wa, HA, HB, HX, HZ⟩ := two_hid w (sgA s) (sgA sg0) tSaga tSaga
   go_enter Tryz.func99, Tryz.ntmps99
   go_wp2_with fail
   rw [← HA.out]
   refine (HW.out _).mono ?_
   rintro e w1 ⟨rfl, hb⟩
   have HB1 := Hd (bch HB.out hb HB.out.size)
   have HX1 := Hd (heap_keep HX.out hb)
   have HZ1 := Hd (heap_keep HZ.out hb)
   clear hb HA HB HX HZ HW
   obtain ⟨c0, c1, c2, c3, c4, c5, c6, c7, c8, c9, c10, c11⟩ := sg_box HX1.out
   obtain ⟨g0, g1, g2, g3, g4, g5, g6, g7, g8, g9, g10, g11⟩ := froz12 HX1.out
   go_upto_region 9 with (fail)
   obtain ⟨W2, hW2, HX2, HB2, HZ2⟩ := sg_st HB1.out HZ1.out (T := tSaga) (sg_set0 HX1.out 3)
   rw [hW2]
   clear hW2 c0 c1 c2 c3 c4 c5 c6 c7 c8 c9 c10 c11 g0 g1 g2 g3 g4 g5 g6 g7 g8 g9 g10 g11 HB1 HX1 HZ1
   obtain ⟨c0, c1, c2, c3, c4, c5, c6, c7, c8, c9, c10, c11⟩ := sg_box HX2.out
   go_wp2_with fail
   refine (HON.out _).mono ?_
   rintro e w3 ⟨rfl, hb⟩
   have HB3 := Hd (bch HB2.out hb HB2.out.size)
   have HZ3 := Hd (heap_keep HZ2.out hb)
   clear hb c0 c1 c2 c3 c4 c5 c6 c7 c8 c9 c10 c11 HB2 HX2 HZ2
   have hz := heap_lt HZ3.out
   obtain ⟨m0, m1, m2, m3, m4, m5, m6, m7, m8, m9, m10, m11⟩ := cell12 HZ3.out
   obtain ⟨f0, f1, f2, f3, f4, f5, f6, f7, f8, f9, f10, f11⟩ := froz12 HZ3.out
   go_wp2_with fail
   refine bodyPost_ret (v := .tuple #[sgV (onI { s with d0 := 3 }), .bool true]) (by simp [results, Tryz.results99, go_sem, m0, m1, m2, m3, m4, m5, m6, m7, m8, m9, m10, m11]) rfl ⟨by rw [HF.out], ?_⟩
   exact Below.turned HB3.out (turned_set12 w3 (w.heap.size + 1) _ _ _ _ _ _ _ _ _ _ _ _) (fun i h => by omega) HB3.out.size
 ·rcases hc with rfl | ⟨rfl, _⟩
  all_goals clear h6
  ·have HW := Hd (waits_of (show waitsN s = 1 by unfold waitsN; rw [hd]; rfl) (show waitsB s = true by unfold waitsB; rw [hd]; rfl))
   have HON := Hd (fun W => on_any { s with d1 := 2 } W)
   have HF := Hd (show replyI s 1 1 = onI { s with d1 := 2 } from rfl)
   clear hd
   obtain ⟨wa, HA, HB, HX, HZ⟩ := two_hid w (sgA s) (sgA sg0) tSaga tSaga
   go_enter Tryz.func99, Tryz.ntmps99
   go_wp2_with fail
   rw [← HA.out]
   refine (HW.out _).mono ?_
   rintro e w1 ⟨rfl, hb⟩
   have HB1 := Hd (bch HB.out hb HB.out.size)
   have HX1 := Hd (heap_keep HX.out hb)
   have HZ1 := Hd (heap_keep HZ.out hb)
   clear hb HA HB HX HZ HW
   obtain ⟨c0, c1, c2, c3, c4, c5, c6, c7, c8, c9, c10, c11⟩ := sg_box HX1.out
   obtain ⟨g0, g1, g2, g3, g4, g5, g6, g7, g8, g9, g10, g11⟩ := froz12 HX1.out
   go_upto_region 9 with (fail)
   obtain ⟨W2, hW2, HX2, HB2, HZ2⟩ := sg_st HB1.out HZ1.out (T := tSaga) (sg_set1 HX1.out 2)
   rw [hW2]
   clear hW2 c0 c1 c2 c3 c4 c5 c6 c7 c8 c9 c10 c11 g0 g1 g2 g3 g4 g5 g6 g7 g8 g9 g10 g11 HB1 HX1 HZ1
   obtain ⟨c0, c1, c2, c3, c4, c5, c6, c7, c8, c9, c10, c11⟩ := sg_box HX2.out
   go_wp2_with fail
   refine (HON.out _).mono ?_
   rintro e w3 ⟨rfl, hb⟩
   have HB3 := Hd (bch HB2.out hb HB2.out.size)
   have HZ3 := Hd (heap_keep HZ2.out hb)
   clear hb c0 c1 c2 c3 c4 c5 c6 c7 c8 c9 c10 c11 HB2 HX2 HZ2
   have hz := heap_lt HZ3.out
   obtain ⟨m0, m1, m2, m3, m4, m5, m6, m7, m8, m9, m10, m11⟩ := cell12 HZ3.out
   obtain ⟨f0, f1, f2, f3, f4, f5, f6, f7, f8, f9, f10, f11⟩ := froz12 HZ3.out
   go_wp2_with fail
   refine bodyPost_ret (v := .tuple #[sgV (onI { s with d1 := 2 }), .bool true]) (by simp [results, Tryz.results99, go_sem, m0, m1, m2, m3, m4, m5, m6, m7, m8, m9, m10, m11]) rfl ⟨by rw [HF.out], ?_⟩
   exact Below.turned HB3.out (turned_set12 w3 (w.heap.size + 1) _ _ _ _ _ _ _ _ _ _ _ _) (fun i h => by omega) HB3.out.size
  ·have HW := Hd (waits_of (show waitsN s = 1 by unfold waitsN; rw [hd]; rfl) (show waitsB s = true by unfold waitsB; rw [hd]; rfl))
   have HON := Hd (fun W => on_any { s with d1 := 3 } W)
   have HF := Hd (show replyI s 1 2 = onI { s with d1 := 3 } from rfl)
   clear hd
   obtain ⟨wa, HA, HB, HX, HZ⟩ := two_hid w (sgA s) (sgA sg0) tSaga tSaga
   go_enter Tryz.func99, Tryz.ntmps99
   go_wp2_with fail
   rw [← HA.out]
   refine (HW.out _).mono ?_
   rintro e w1 ⟨rfl, hb⟩
   have HB1 := Hd (bch HB.out hb HB.out.size)
   have HX1 := Hd (heap_keep HX.out hb)
   have HZ1 := Hd (heap_keep HZ.out hb)
   clear hb HA HB HX HZ HW
   obtain ⟨c0, c1, c2, c3, c4, c5, c6, c7, c8, c9, c10, c11⟩ := sg_box HX1.out
   obtain ⟨g0, g1, g2, g3, g4, g5, g6, g7, g8, g9, g10, g11⟩ := froz12 HX1.out
   go_upto_region 9 with (fail)
   obtain ⟨W2, hW2, HX2, HB2, HZ2⟩ := sg_st HB1.out HZ1.out (T := tSaga) (sg_set1 HX1.out 3)
   rw [hW2]
   clear hW2 c0 c1 c2 c3 c4 c5 c6 c7 c8 c9 c10 c11 g0 g1 g2 g3 g4 g5 g6 g7 g8 g9 g10 g11 HB1 HX1 HZ1
   obtain ⟨c0, c1, c2, c3, c4, c5, c6, c7, c8, c9, c10, c11⟩ := sg_box HX2.out
   go_wp2_with fail
   refine (HON.out _).mono ?_
   rintro e w3 ⟨rfl, hb⟩
   have HB3 := Hd (bch HB2.out hb HB2.out.size)
   have HZ3 := Hd (heap_keep HZ2.out hb)
   clear hb c0 c1 c2 c3 c4 c5 c6 c7 c8 c9 c10 c11 HB2 HX2 HZ2
   have hz := heap_lt HZ3.out
   obtain ⟨m0, m1, m2, m3, m4, m5, m6, m7, m8, m9, m10, m11⟩ := cell12 HZ3.out
   obtain ⟨f0, f1, f2, f3, f4, f5, f6, f7, f8, f9, f10, f11⟩ := froz12 HZ3.out
   go_wp2_with fail
   refine bodyPost_ret (v := .tuple #[sgV (onI { s with d1 := 3 }), .bool true]) (by simp [results, Tryz.results99, go_sem, m0, m1, m2, m3, m4, m5, m6, m7, m8, m9, m10, m11]) rfl ⟨by rw [HF.out], ?_⟩
   exact Below.turned HB3.out (turned_set12 w3 (w.heap.size + 1) _ _ _ _ _ _ _ _ _ _ _ _) (fun i h => by omega) HB3.out.size
 ·rcases hc with rfl | ⟨rfl, _⟩
  all_goals clear h6
  ·have HW := Hd (waits_of (show waitsN s = 2 by unfold waitsN; rw [hd]; rfl) (show waitsB s = true by unfold waitsB; rw [hd]; rfl))
   have HON := Hd (fun W => on_any { s with d2 := 2 } W)
   have HF := Hd (show replyI s 2 1 = onI { s with d2 := 2 } from rfl)
   clear hd
   obtain ⟨wa, HA, HB, HX, HZ⟩ := two_hid w (sgA s) (sgA sg0) tSaga tSaga
   go_enter Tryz.func99, Tryz.ntmps99
   go_wp2_with fail
   rw [← HA.out]
   refine (HW.out _).mono ?_
   rintro e w1 ⟨rfl, hb⟩
   have HB1 := Hd (bch HB.out hb HB.out.size)
   have HX1 := Hd (heap_keep HX.out hb)
   have HZ1 := Hd (heap_keep HZ.out hb)
   clear hb HA HB HX HZ HW
   obtain ⟨c0, c1, c2, c3, c4, c5, c6, c7, c8, c9, c10, c11⟩ := sg_box HX1.out
   obtain ⟨g0, g1, g2, g3, g4, g5, g6, g7, g8, g9, g10, g11⟩ := froz12 HX1.out
   go_upto_region 9 with (fail)
   obtain ⟨W2, hW2, HX2, HB2, HZ2⟩ := sg_st HB1.out HZ1.out (T := tSaga) (sg_set2 HX1.out 2)
   rw [hW2]
   clear hW2 c0 c1 c2 c3 c4 c5 c6 c7 c8 c9 c10 c11 g0 g1 g2 g3 g4 g5 g6 g7 g8 g9 g10 g11 HB1 HX1 HZ1
   obtain ⟨c0, c1, c2, c3, c4, c5, c6, c7, c8, c9, c10, c11⟩ := sg_box HX2.out
   go_wp2_with fail
   refine (HON.out _).mono ?_
   rintro e w3 ⟨rfl, hb⟩
   have HB3 := Hd (bch HB2.out hb HB2.out.size)
   have HZ3 := Hd (heap_keep HZ2.out hb)
   clear hb c0 c1 c2 c3 c4 c5 c6 c7 c8 c9 c10 c11 HB2 HX2 HZ2
   have hz := heap_lt HZ3.out
   obtain ⟨m0, m1, m2, m3, m4, m5, m6, m7, m8, m9, m10, m11⟩ := cell12 HZ3.out
   obtain ⟨f0, f1, f2, f3, f4, f5, f6, f7, f8, f9, f10, f11⟩ := froz12 HZ3.out
   go_wp2_with fail
   refine bodyPost_ret (v := .tuple #[sgV (onI { s with d2 := 2 }), .bool true]) (by simp [results, Tryz.results99, go_sem, m0, m1, m2, m3, m4, m5, m6, m7, m8, m9, m10, m11]) rfl ⟨by rw [HF.out], ?_⟩
   exact Below.turned HB3.out (turned_set12 w3 (w.heap.size + 1) _ _ _ _ _ _ _ _ _ _ _ _) (fun i h => by omega) HB3.out.size
  ·have HW := Hd (waits_of (show waitsN s = 2 by unfold waitsN; rw [hd]; rfl) (show waitsB s = true by unfold waitsB; rw [hd]; rfl))
   have HON := Hd (fun W => on_any { s with d2 := 3 } W)
   have HF := Hd (show replyI s 2 2 = onI { s with d2 := 3 } from rfl)
   clear hd
   obtain ⟨wa, HA, HB, HX, HZ⟩ := two_hid w (sgA s) (sgA sg0) tSaga tSaga
   go_enter Tryz.func99, Tryz.ntmps99
   go_wp2_with fail
   rw [← HA.out]
   refine (HW.out _).mono ?_
   rintro e w1 ⟨rfl, hb⟩
   have HB1 := Hd (bch HB.out hb HB.out.size)
   have HX1 := Hd (heap_keep HX.out hb)
   have HZ1 := Hd (heap_keep HZ.out hb)
   clear hb HA HB HX HZ HW
   obtain ⟨c0, c1, c2, c3, c4, c5, c6, c7, c8, c9, c10, c11⟩ := sg_box HX1.out
   obtain ⟨g0, g1, g2, g3, g4, g5, g6, g7, g8, g9, g10, g11⟩ := froz12 HX1.out
   go_upto_region 9 with (fail)
   obtain ⟨W2, hW2, HX2, HB2, HZ2⟩ := sg_st HB1.out HZ1.out (T := tSaga) (sg_set2 HX1.out 3)
   rw [hW2]
   clear hW2 c0 c1 c2 c3 c4 c5 c6 c7 c8 c9 c10 c11 g0 g1 g2 g3 g4 g5 g6 g7 g8 g9 g10 g11 HB1 HX1 HZ1
   obtain ⟨c0, c1, c2, c3, c4, c5, c6, c7, c8, c9, c10, c11⟩ := sg_box HX2.out
   go_wp2_with fail
   refine (HON.out _).mono ?_
   rintro e w3 ⟨rfl, hb⟩
   have HB3 := Hd (bch HB2.out hb HB2.out.size)
   have HZ3 := Hd (heap_keep HZ2.out hb)
   clear hb c0 c1 c2 c3 c4 c5 c6 c7 c8 c9 c10 c11 HB2 HX2 HZ2
   have hz := heap_lt HZ3.out
   obtain ⟨m0, m1, m2, m3, m4, m5, m6, m7, m8, m9, m10, m11⟩ := cell12 HZ3.out
   obtain ⟨f0, f1, f2, f3, f4, f5, f6, f7, f8, f9, f10, f11⟩ := froz12 HZ3.out
   go_wp2_with fail
   refine bodyPost_ret (v := .tuple #[sgV (onI { s with d2 := 3 }), .bool true]) (by simp [results, Tryz.results99, go_sem, m0, m1, m2, m3, m4, m5, m6, m7, m8, m9, m10, m11]) rfl ⟨by rw [HF.out], ?_⟩
   exact Below.turned HB3.out (turned_set12 w3 (w.heap.size + 1) _ _ _ _ _ _ _ _ _ _ _ _) (fun i h => by omega) HB3.out.size
 ·obtain rfl : code = 1 := by omega
  clear h6 hc
  have HW := Hd (waits_of (show waitsN s = 3 by unfold waitsN; rw [hd]; rfl) (show waitsB s = true by unfold waitsB; rw [hd]; rfl))
  have HON := Hd (fun W => on_any { s with d3 := 2 } W)
  have HF := Hd (show replyI s 3 1 = onI { s with d3 := 2 } from rfl)
  clear hd
  obtain ⟨wa, HA, HB, HX, HZ⟩ := two_hid w (sgA s) (sgA sg0) tSaga tSaga
  go_enter Tryz.func99, Tryz.ntmps99
  go_wp2_with fail
  rw [← HA.out]
  refine (HW.out _).mono ?_
  rintro e w1 ⟨rfl, hb⟩
  have HB1 := Hd (bch HB.out hb HB.out.size)
  have HX1 := Hd (heap_keep HX.out hb)
  have HZ1 := Hd (heap_keep HZ.out hb)
  clear hb HA HB HX HZ HW
  obtain ⟨c0, c1, c2, c3, c4, c5, c6, c7, c8, c9, c10, c11⟩ := sg_box HX1.out
  obtain ⟨g0, g1, g2, g3, g4, g5, g6, g7, g8, g9, g10, g11⟩ := froz12 HX1.out
  go_upto_region 9 with (fail)
  obtain ⟨W2, hW2, HX2, HB2, HZ2⟩ := sg_st HB1.out HZ1.out (T := tSaga) (sg_set3 HX1.out 2)
  rw [hW2]
  clear hW2 c0 c1 c2 c3 c4 c5 c6 c7 c8 c9 c10 c11 g0 g1 g2 g3 g4 g5 g6 g7 g8 g9 g10 g11 HB1 HX1 HZ1
  obtain ⟨c0, c1, c2, c3, c4, c5, c6, c7, c8, c9, c10, c11⟩ := sg_box HX2.out
  go_wp2_with fail
  refine (HON.out _).mono ?_
  rintro e w3 ⟨rfl, hb⟩
  have HB3 := Hd (bch HB2.out hb HB2.out.size)
  have HZ3 := Hd (heap_keep HZ2.out hb)
  clear hb c0 c1 c2 c3 c4 c5 c6 c7 c8 c9 c10 c11 HB2 HX2 HZ2
  have hz := heap_lt HZ3.out
  obtain ⟨m0, m1, m2, m3, m4, m5, m6, m7, m8, m9, m10, m11⟩ := cell12 HZ3.out
  obtain ⟨f0, f1, f2, f3, f4, f5, f6, f7, f8, f9, f10, f11⟩ := froz12 HZ3.out
  go_wp2_with fail
  refine bodyPost_ret (v := .tuple #[sgV (onI { s with d3 := 2 }), .bool true]) (by simp [results, Tryz.results99, go_sem, m0, m1, m2, m3, m4, m5, m6, m7, m8, m9, m10, m11]) rfl ⟨by rw [HF.out], ?_⟩
  exact Below.turned HB3.out (turned_set12 w3 (w.heap.size + 1) _ _ _ _ _ _ _ _ _ _ _ _) (fun i h => by omega) HB3.out.size
 ·obtain rfl : code = 1 := by omega
  clear h6 hc
  have HW := Hd (waits_of (show waitsN s = 4 by unfold waitsN; rw [hd]; rfl) (show waitsB s = true by unfold waitsB; rw [hd]; rfl))
  have HON := Hd (fun W => on_any { s with d4 := 2 } W)
  have HF := Hd (show replyI s 4 1 = onI { s with d4 := 2 } from rfl)
  clear hd
  obtain ⟨wa, HA, HB, HX, HZ⟩ := two_hid w (sgA s) (sgA sg0) tSaga tSaga
  go_enter Tryz.func99, Tryz.ntmps99
  go_wp2_with fail
  rw [← HA.out]
  refine (HW.out _).mono ?_
  rintro e w1 ⟨rfl, hb⟩
  have HB1 := Hd (bch HB.out hb HB.out.size)
  have HX1 := Hd (heap_keep HX.out hb)
  have HZ1 := Hd (heap_keep HZ.out hb)
  clear hb HA HB HX HZ HW
  obtain ⟨c0, c1, c2, c3, c4, c5, c6, c7, c8, c9, c10, c11⟩ := sg_box HX1.out
  obtain ⟨g0, g1, g2, g3, g4, g5, g6, g7, g8, g9, g10, g11⟩ := froz12 HX1.out
  go_upto_region 9 with (fail)
  obtain ⟨W2, hW2, HX2, HB2, HZ2⟩ := sg_st HB1.out HZ1.out (T := tSaga) (sg_set4 HX1.out 2)
  rw [hW2]
  clear hW2 c0 c1 c2 c3 c4 c5 c6 c7 c8 c9 c10 c11 g0 g1 g2 g3 g4 g5 g6 g7 g8 g9 g10 g11 HB1 HX1 HZ1
  obtain ⟨c0, c1, c2, c3, c4, c5, c6, c7, c8, c9, c10, c11⟩ := sg_box HX2.out
  go_wp2_with fail
  refine (HON.out _).mono ?_
  rintro e w3 ⟨rfl, hb⟩
  have HB3 := Hd (bch HB2.out hb HB2.out.size)
  have HZ3 := Hd (heap_keep HZ2.out hb)
  clear hb c0 c1 c2 c3 c4 c5 c6 c7 c8 c9 c10 c11 HB2 HX2 HZ2
  have hz := heap_lt HZ3.out
  obtain ⟨m0, m1, m2, m3, m4, m5, m6, m7, m8, m9, m10, m11⟩ := cell12 HZ3.out
  obtain ⟨f0, f1, f2, f3, f4, f5, f6, f7, f8, f9, f10, f11⟩ := froz12 HZ3.out
  go_wp2_with fail
  refine bodyPost_ret (v := .tuple #[sgV (onI { s with d4 := 2 }), .bool true]) (by simp [results, Tryz.results99, go_sem, m0, m1, m2, m3, m4, m5, m6, m7, m8, m9, m10, m11]) rfl ⟨by rw [HF.out], ?_⟩
  exact Below.turned HB3.out (turned_set12 w3 (w.heap.size + 1) _ _ _ _ _ _ _ _ _ _ _ _) (fun i h => by omega) HB3.out.size
 ·obtain rfl : code = 1 := by omega
  clear h6 hc
  have HW := Hd (waits_of (show waitsN s = 5 by unfold waitsN; rw [hd]; rfl) (show waitsB s = true by unfold waitsB; rw [hd]; rfl))
  have HON := Hd (fun W => on_any { s with d5 := 2 } W)
  have HF := Hd (show replyI s 5 1 = onI { s with d5 := 2 } from rfl)
  clear hd
  obtain ⟨wa, HA, HB, HX, HZ⟩ := two_hid w (sgA s) (sgA sg0) tSaga tSaga
  go_enter Tryz.func99, Tryz.ntmps99
  go_wp2_with fail
  rw [← HA.out]
  refine (HW.out _).mono ?_
  rintro e w1 ⟨rfl, hb⟩
  have HB1 := Hd (bch HB.out hb HB.out.size)
  have HX1 := Hd (heap_keep HX.out hb)
  have HZ1 := Hd (heap_keep HZ.out hb)
  clear hb HA HB HX HZ HW
  obtain ⟨c0, c1, c2, c3, c4, c5, c6, c7, c8, c9, c10, c11⟩ := sg_box HX1.out
  obtain ⟨g0, g1, g2, g3, g4, g5, g6, g7, g8, g9, g10, g11⟩ := froz12 HX1.out
  go_upto_region 9 with (fail)
  obtain ⟨W2, hW2, HX2, HB2, HZ2⟩ := sg_st HB1.out HZ1.out (T := tSaga) (sg_set5 HX1.out 2)
  rw [hW2]
  clear hW2 c0 c1 c2 c3 c4 c5 c6 c7 c8 c9 c10 c11 g0 g1 g2 g3 g4 g5 g6 g7 g8 g9 g10 g11 HB1 HX1 HZ1
  obtain ⟨c0, c1, c2, c3, c4, c5, c6, c7, c8, c9, c10, c11⟩ := sg_box HX2.out
  go_wp2_with fail
  refine (HON.out _).mono ?_
  rintro e w3 ⟨rfl, hb⟩
  have HB3 := Hd (bch HB2.out hb HB2.out.size)
  have HZ3 := Hd (heap_keep HZ2.out hb)
  clear hb c0 c1 c2 c3 c4 c5 c6 c7 c8 c9 c10 c11 HB2 HX2 HZ2
  have hz := heap_lt HZ3.out
  obtain ⟨m0, m1, m2, m3, m4, m5, m6, m7, m8, m9, m10, m11⟩ := cell12 HZ3.out
  obtain ⟨f0, f1, f2, f3, f4, f5, f6, f7, f8, f9, f10, f11⟩ := froz12 HZ3.out
  go_wp2_with fail
  refine bodyPost_ret (v := .tuple #[sgV (onI { s with d5 := 2 }), .bool true]) (by simp [results, Tryz.results99, go_sem, m0, m1, m2, m3, m4, m5, m6, m7, m8, m9, m10, m11]) rfl ⟨by rw [HF.out], ?_⟩
  exact Below.turned HB3.out (turned_set12 w3 (w.heap.size + 1) _ _ _ _ _ _ _ _ _ _ _ _) (fun i h => by omega) HB3.out.size
 ·exact absurd hd h6
theorem reply_no (s : Sg) (deed code : Int) (w : World) (hr : replyB s deed code = false) : Calls Tryz.prog 99 #[sgV s, .int .i64 deed, .int .i64 code] w fun e w' => e = .returned (.tuple #[sgV sg0, .bool false]) ∧ Below w.heap.size w w' := by
 by_cases h6 : waitsI s = 6
 ·have HW := Hd (waits_of (show waitsN s = 0 by unfold waitsN; simp [h6]) (show waitsB s = false by unfold waitsB; simp [h6]))
  clear h6 hr
  obtain ⟨wa, HA, HB, HX, HZ⟩ := two_hid w (sgA s) (sgA sg0) tSaga tSaga
  go_enter Tryz.func99, Tryz.ntmps99
  go_wp2_with fail
  rw [← HA.out]
  refine (HW.out _).mono ?_
  rintro e w1 ⟨rfl, hb⟩
  have HB1 := Hd (bch HB.out hb HB.out.size)
  have HZ1 := Hd (heap_keep HZ.out hb)
  clear hb HA HB HX HZ HW
  have hz := heap_lt HZ1.out
  obtain ⟨m0, m1, m2, m3, m4, m5, m6, m7, m8, m9, m10, m11⟩ := cell12 HZ1.out
  obtain ⟨f0, f1, f2, f3, f4, f5, f6, f7, f8, f9, f10, f11⟩ := froz12 HZ1.out
  go_wp2_with fail
  refine bodyPost_ret (v := .tuple #[sgV sg0, .bool false]) (by simp [results, Tryz.results99, go_sem, m0, m1, m2, m3, m4, m5, m6, m7, m8, m9, m10, m11]) rfl ⟨rfl, ?_⟩
  exact Below.turned HB1.out (turned_set12 w1 (w.heap.size + 1) _ _ _ _ _ _ _ _ _ _ _ _) (fun i h => by omega) HB1.out.size
 ·have hwc := waits_cases s
  by_cases hd : waitsI s = deed
  ·have h1 := bneF hd
   have hq : 0 ≤ waitsI s ∧ waitsI s ≤ 5 := by omega
   obtain ⟨hq0, hq5⟩ := hq
   have hc : code ≠ 1 ∧ (code = 2 → ¬ waitsI s ≤ 2) := by
    unfold replyB at hr; simp [h6, hd] at hr
    have hr := hr (hd ▸ h6)
    refine ⟨hr.1, fun h => ?_⟩
    have := hr.2 h; omega
   by_cases hc2 : code = 2
   ·have h2 : ¬ waitsI s ≤ 2 := hc.2 hc2
    subst hc2
    have HW := Hd (waits_of (show waitsN s = waitsI s by unfold waitsN; rw [if_neg h6]) (show waitsB s = true by unfold waitsB; simp [h6]))
    have hc1 := beqF (show ¬ (2 : Int) = 1 by decide)
    clear h6 hd hr hc hwc
    obtain ⟨wa, HA, HB, HX, HZ⟩ := two_hid w (sgA s) (sgA sg0) tSaga tSaga
    go_enter Tryz.func99, Tryz.ntmps99
    go_wp2_with fail
    rw [← HA.out]
    refine (HW.out _).mono ?_
    rintro e w1 ⟨rfl, hb⟩
    have HB1 := Hd (bch HB.out hb HB.out.size)
    have HZ1 := Hd (heap_keep HZ.out hb)
    clear hb HA HB HX HZ HW
    have hz := heap_lt HZ1.out
    obtain ⟨m0, m1, m2, m3, m4, m5, m6, m7, m8, m9, m10, m11⟩ := cell12 HZ1.out
    obtain ⟨f0, f1, f2, f3, f4, f5, f6, f7, f8, f9, f10, f11⟩ := froz12 HZ1.out
    go_wp2_with fail
    refine bodyPost_ret (v := .tuple #[sgV sg0, .bool false]) (by simp [results, Tryz.results99, go_sem, m0, m1, m2, m3, m4, m5, m6, m7, m8, m9, m10, m11]) rfl ⟨rfl, ?_⟩
    exact Below.turned HB1.out (turned_set12 w1 (w.heap.size + 1) _ _ _ _ _ _ _ _ _ _ _ _) (fun i h => by omega) HB1.out.size
   ·have h21 := beqF hc2
    have h11 := beqF hc.1
    have HW := Hd (waits_of (show waitsN s = waitsI s by unfold waitsN; rw [if_neg h6]) (show waitsB s = true by unfold waitsB; simp [h6]))
    clear h6 hd hr hc hwc hc2
    obtain ⟨wa, HA, HB, HX, HZ⟩ := two_hid w (sgA s) (sgA sg0) tSaga tSaga
    go_enter Tryz.func99, Tryz.ntmps99
    go_wp2_with fail
    rw [← HA.out]
    refine (HW.out _).mono ?_
    rintro e w1 ⟨rfl, hb⟩
    have HB1 := Hd (bch HB.out hb HB.out.size)
    have HZ1 := Hd (heap_keep HZ.out hb)
    clear hb HA HB HX HZ HW
    have hz := heap_lt HZ1.out
    obtain ⟨m0, m1, m2, m3, m4, m5, m6, m7, m8, m9, m10, m11⟩ := cell12 HZ1.out
    obtain ⟨f0, f1, f2, f3, f4, f5, f6, f7, f8, f9, f10, f11⟩ := froz12 HZ1.out
    go_wp2_with fail
    refine bodyPost_ret (v := .tuple #[sgV sg0, .bool false]) (by simp [results, Tryz.results99, go_sem, m0, m1, m2, m3, m4, m5, m6, m7, m8, m9, m10, m11]) rfl ⟨rfl, ?_⟩
    exact Below.turned HB1.out (turned_set12 w1 (w.heap.size + 1) _ _ _ _ _ _ _ _ _ _ _ _) (fun i h => by omega) HB1.out.size
  ·have h1 := bneT hd
   have HW := Hd (waits_of (show waitsN s = waitsI s by unfold waitsN; rw [if_neg h6]) (show waitsB s = true by unfold waitsB; simp [h6]))
   clear h6 hd hr hwc
   obtain ⟨wa, HA, HB, HX, HZ⟩ := two_hid w (sgA s) (sgA sg0) tSaga tSaga
   go_enter Tryz.func99, Tryz.ntmps99
   go_wp2_with fail
   rw [← HA.out]
   refine (HW.out _).mono ?_
   rintro e w1 ⟨rfl, hb⟩
   have HB1 := Hd (bch HB.out hb HB.out.size)
   have HZ1 := Hd (heap_keep HZ.out hb)
   clear hb HA HB HX HZ HW
   have hz := heap_lt HZ1.out
   obtain ⟨m0, m1, m2, m3, m4, m5, m6, m7, m8, m9, m10, m11⟩ := cell12 HZ1.out
   obtain ⟨f0, f1, f2, f3, f4, f5, f6, f7, f8, f9, f10, f11⟩ := froz12 HZ1.out
   go_wp2_with fail
   refine bodyPost_ret (v := .tuple #[sgV sg0, .bool false]) (by simp [results, Tryz.results99, go_sem, m0, m1, m2, m3, m4, m5, m6, m7, m8, m9, m10, m11]) rfl ⟨rfl, ?_⟩
   exact Below.turned HB1.out (turned_set12 w1 (w.heap.size + 1) _ _ _ _ _ _ _ _ _ _ _ _) (fun i h => by omega) HB1.out.size
theorem stop_yes (s : Sg) (w : World) (hg : goingB s = true) : Calls Tryz.prog 98 #[sgV s] w fun e w' => e = .returned (.tuple #[sgV (Sa.stopI s), .int .i64 0]) ∧ Below w.heap.size w w' := by
 have HST := Hd (state_at (state_going hg))
 have h6 : waitsI s ≠ 6 := by unfold goingB at hg; simp at hg; exact hg.1
 clear hg
 rcases waits_cases s with hd | hd | hd | hd | hd | hd | hd
 ·clear h6
  have HW := Hd (waits_of (show waitsN s = 0 by unfold waitsN; rw [hd]; rfl) (show waitsB s = true by unfold waitsB; rw [hd]; rfl))
  have HON := Hd (fun W => on_any { { s with d0 := 4 } with can := true } W)
  have HF := Hd (show Sa.stopI s = onI { { s with d0 := 4 } with can := true } by unfold Sa.stopI; rw [hd]; rfl)
  clear hd
  obtain ⟨wa, HA, HB, HX, HZ⟩ := two_hid w (sgA s) (sgA sg0) tSaga tSaga
  go_enter Tryz.func98, Tryz.ntmps98
  go_wp2_with fail
  rw [← HA.out]
  refine (HST.out _).mono ?_
  rintro e w0 ⟨rfl, hb⟩
  have HB0 := Hd (bch HB.out hb HB.out.size)
  have HX0 := Hd (heap_keep HX.out hb)
  have HZ0 := Hd (heap_keep HZ.out hb)
  clear hb HA HB HX HZ HST
  obtain ⟨c0, c1, c2, c3, c4, c5, c6, c7, c8, c9, c10, c11⟩ := sg_box HX0.out
  go_wp2_with fail
  refine (HW.out _).mono ?_
  rintro e w1 ⟨rfl, hb⟩
  have HB1 := Hd (bch HB0.out hb HB0.out.size)
  have HX1 := Hd (heap_keep HX0.out hb)
  have HZ1 := Hd (heap_keep HZ0.out hb)
  clear hb HB0 HX0 HZ0 HW c0 c1 c2 c3 c4 c5 c6 c7 c8 c9 c10 c11
  obtain ⟨c0, c1, c2, c3, c4, c5, c6, c7, c8, c9, c10, c11⟩ := sg_box HX1.out
  obtain ⟨g0, g1, g2, g3, g4, g5, g6, g7, g8, g9, g10, g11⟩ := froz12 HX1.out
  go_upto_region 6 with (fail)
  obtain ⟨W2, hW2⟩ : ∃ W2, W2 = (w1.setCell ⟨w.heap.size, 5, none⟩ (.int .i64 4)).setCell ⟨w.heap.size, 11, none⟩ (.bool true) := ⟨_, rfl⟩
  rw [← hW2]
  have HX2 := Hd (show W2.heap[w.heap.size]? = some (.cells (sgA { { s with d0 := 4 } with can := true }) tSaga (0, 0)) by rw [hW2]; exact sg_setc (sg_set0 HX1.out 4) true)
  have ht2 : Turned (fun j => j = w.heap.size) w1 W2 := by rw [hW2]; exact (turned_set _ _ _ _).trans (turned_set _ _ _ _)
  have HB2 := Hd (Below.turned HB1.out ht2 (fun i h => by omega) HB1.out.size)
  have HZ2 := Hd (heap_turned' HZ1.out ht2 (by omega))
  clear hW2 ht2 c0 c1 c2 c3 c4 c5 c6 c7 c8 c9 c10 c11 g0 g1 g2 g3 g4 g5 g6 g7 g8 g9 g10 g11 HB1 HX1 HZ1
  obtain ⟨c0, c1, c2, c3, c4, c5, c6, c7, c8, c9, c10, c11⟩ := sg_box HX2.out
  go_wp2_with fail
  refine (HON.out _).mono ?_
  rintro e w3 ⟨rfl, hb⟩
  have HB3 := Hd (bch HB2.out hb HB2.out.size)
  have HZ3 := Hd (heap_keep HZ2.out hb)
  clear hb c0 c1 c2 c3 c4 c5 c6 c7 c8 c9 c10 c11 HB2 HX2 HZ2
  have hz := heap_lt HZ3.out
  obtain ⟨m0, m1, m2, m3, m4, m5, m6, m7, m8, m9, m10, m11⟩ := cell12 HZ3.out
  obtain ⟨f0, f1, f2, f3, f4, f5, f6, f7, f8, f9, f10, f11⟩ := froz12 HZ3.out
  go_wp2_with fail
  refine bodyPost_ret (v := .tuple #[sgV (onI { { s with d0 := 4 } with can := true }), .int .i64 0]) (by simp [results, Tryz.results98, go_sem, m0, m1, m2, m3, m4, m5, m6, m7, m8, m9, m10, m11]) rfl ⟨by rw [HF.out], ?_⟩
  exact Below.turned HB3.out (turned_set12 w3 (w.heap.size + 1) _ _ _ _ _ _ _ _ _ _ _ _) (fun i h => by omega) HB3.out.size
 ·clear h6
  have HW := Hd (waits_of (show waitsN s = 1 by unfold waitsN; rw [hd]; rfl) (show waitsB s = true by unfold waitsB; rw [hd]; rfl))
  have HON := Hd (fun W => on_any { { s with d1 := 4 } with can := true } W)
  have HF := Hd (show Sa.stopI s = onI { { s with d1 := 4 } with can := true } by unfold Sa.stopI; rw [hd]; rfl)
  clear hd
  obtain ⟨wa, HA, HB, HX, HZ⟩ := two_hid w (sgA s) (sgA sg0) tSaga tSaga
  go_enter Tryz.func98, Tryz.ntmps98
  go_wp2_with fail
  rw [← HA.out]
  refine (HST.out _).mono ?_
  rintro e w0 ⟨rfl, hb⟩
  have HB0 := Hd (bch HB.out hb HB.out.size)
  have HX0 := Hd (heap_keep HX.out hb)
  have HZ0 := Hd (heap_keep HZ.out hb)
  clear hb HA HB HX HZ HST
  obtain ⟨c0, c1, c2, c3, c4, c5, c6, c7, c8, c9, c10, c11⟩ := sg_box HX0.out
  go_wp2_with fail
  refine (HW.out _).mono ?_
  rintro e w1 ⟨rfl, hb⟩
  have HB1 := Hd (bch HB0.out hb HB0.out.size)
  have HX1 := Hd (heap_keep HX0.out hb)
  have HZ1 := Hd (heap_keep HZ0.out hb)
  clear hb HB0 HX0 HZ0 HW c0 c1 c2 c3 c4 c5 c6 c7 c8 c9 c10 c11
  obtain ⟨c0, c1, c2, c3, c4, c5, c6, c7, c8, c9, c10, c11⟩ := sg_box HX1.out
  obtain ⟨g0, g1, g2, g3, g4, g5, g6, g7, g8, g9, g10, g11⟩ := froz12 HX1.out
  go_upto_region 6 with (fail)
  obtain ⟨W2, hW2⟩ : ∃ W2, W2 = (w1.setCell ⟨w.heap.size, 6, none⟩ (.int .i64 4)).setCell ⟨w.heap.size, 11, none⟩ (.bool true) := ⟨_, rfl⟩
  rw [← hW2]
  have HX2 := Hd (show W2.heap[w.heap.size]? = some (.cells (sgA { { s with d1 := 4 } with can := true }) tSaga (0, 0)) by rw [hW2]; exact sg_setc (sg_set1 HX1.out 4) true)
  have ht2 : Turned (fun j => j = w.heap.size) w1 W2 := by rw [hW2]; exact (turned_set _ _ _ _).trans (turned_set _ _ _ _)
  have HB2 := Hd (Below.turned HB1.out ht2 (fun i h => by omega) HB1.out.size)
  have HZ2 := Hd (heap_turned' HZ1.out ht2 (by omega))
  clear hW2 ht2 c0 c1 c2 c3 c4 c5 c6 c7 c8 c9 c10 c11 g0 g1 g2 g3 g4 g5 g6 g7 g8 g9 g10 g11 HB1 HX1 HZ1
  obtain ⟨c0, c1, c2, c3, c4, c5, c6, c7, c8, c9, c10, c11⟩ := sg_box HX2.out
  go_wp2_with fail
  refine (HON.out _).mono ?_
  rintro e w3 ⟨rfl, hb⟩
  have HB3 := Hd (bch HB2.out hb HB2.out.size)
  have HZ3 := Hd (heap_keep HZ2.out hb)
  clear hb c0 c1 c2 c3 c4 c5 c6 c7 c8 c9 c10 c11 HB2 HX2 HZ2
  have hz := heap_lt HZ3.out
  obtain ⟨m0, m1, m2, m3, m4, m5, m6, m7, m8, m9, m10, m11⟩ := cell12 HZ3.out
  obtain ⟨f0, f1, f2, f3, f4, f5, f6, f7, f8, f9, f10, f11⟩ := froz12 HZ3.out
  go_wp2_with fail
  refine bodyPost_ret (v := .tuple #[sgV (onI { { s with d1 := 4 } with can := true }), .int .i64 0]) (by simp [results, Tryz.results98, go_sem, m0, m1, m2, m3, m4, m5, m6, m7, m8, m9, m10, m11]) rfl ⟨by rw [HF.out], ?_⟩
  exact Below.turned HB3.out (turned_set12 w3 (w.heap.size + 1) _ _ _ _ _ _ _ _ _ _ _ _) (fun i h => by omega) HB3.out.size
 ·clear h6
  have HW := Hd (waits_of (show waitsN s = 2 by unfold waitsN; rw [hd]; rfl) (show waitsB s = true by unfold waitsB; rw [hd]; rfl))
  have HON := Hd (fun W => on_any { { s with d2 := 4 } with can := true } W)
  have HF := Hd (show Sa.stopI s = onI { { s with d2 := 4 } with can := true } by unfold Sa.stopI; rw [hd]; rfl)
  clear hd
  obtain ⟨wa, HA, HB, HX, HZ⟩ := two_hid w (sgA s) (sgA sg0) tSaga tSaga
  go_enter Tryz.func98, Tryz.ntmps98
  go_wp2_with fail
  rw [← HA.out]
  refine (HST.out _).mono ?_
  rintro e w0 ⟨rfl, hb⟩
  have HB0 := Hd (bch HB.out hb HB.out.size)
  have HX0 := Hd (heap_keep HX.out hb)
  have HZ0 := Hd (heap_keep HZ.out hb)
  clear hb HA HB HX HZ HST
  obtain ⟨c0, c1, c2, c3, c4, c5, c6, c7, c8, c9, c10, c11⟩ := sg_box HX0.out
  go_wp2_with fail
  refine (HW.out _).mono ?_
  rintro e w1 ⟨rfl, hb⟩
  have HB1 := Hd (bch HB0.out hb HB0.out.size)
  have HX1 := Hd (heap_keep HX0.out hb)
  have HZ1 := Hd (heap_keep HZ0.out hb)
  clear hb HB0 HX0 HZ0 HW c0 c1 c2 c3 c4 c5 c6 c7 c8 c9 c10 c11
  obtain ⟨c0, c1, c2, c3, c4, c5, c6, c7, c8, c9, c10, c11⟩ := sg_box HX1.out
  obtain ⟨g0, g1, g2, g3, g4, g5, g6, g7, g8, g9, g10, g11⟩ := froz12 HX1.out
  go_upto_region 6 with (fail)
  obtain ⟨W2, hW2⟩ : ∃ W2, W2 = (w1.setCell ⟨w.heap.size, 7, none⟩ (.int .i64 4)).setCell ⟨w.heap.size, 11, none⟩ (.bool true) := ⟨_, rfl⟩
  rw [← hW2]
  have HX2 := Hd (show W2.heap[w.heap.size]? = some (.cells (sgA { { s with d2 := 4 } with can := true }) tSaga (0, 0)) by rw [hW2]; exact sg_setc (sg_set2 HX1.out 4) true)
  have ht2 : Turned (fun j => j = w.heap.size) w1 W2 := by rw [hW2]; exact (turned_set _ _ _ _).trans (turned_set _ _ _ _)
  have HB2 := Hd (Below.turned HB1.out ht2 (fun i h => by omega) HB1.out.size)
  have HZ2 := Hd (heap_turned' HZ1.out ht2 (by omega))
  clear hW2 ht2 c0 c1 c2 c3 c4 c5 c6 c7 c8 c9 c10 c11 g0 g1 g2 g3 g4 g5 g6 g7 g8 g9 g10 g11 HB1 HX1 HZ1
  obtain ⟨c0, c1, c2, c3, c4, c5, c6, c7, c8, c9, c10, c11⟩ := sg_box HX2.out
  go_wp2_with fail
  refine (HON.out _).mono ?_
  rintro e w3 ⟨rfl, hb⟩
  have HB3 := Hd (bch HB2.out hb HB2.out.size)
  have HZ3 := Hd (heap_keep HZ2.out hb)
  clear hb c0 c1 c2 c3 c4 c5 c6 c7 c8 c9 c10 c11 HB2 HX2 HZ2
  have hz := heap_lt HZ3.out
  obtain ⟨m0, m1, m2, m3, m4, m5, m6, m7, m8, m9, m10, m11⟩ := cell12 HZ3.out
  obtain ⟨f0, f1, f2, f3, f4, f5, f6, f7, f8, f9, f10, f11⟩ := froz12 HZ3.out
  go_wp2_with fail
  refine bodyPost_ret (v := .tuple #[sgV (onI { { s with d2 := 4 } with can := true }), .int .i64 0]) (by simp [results, Tryz.results98, go_sem, m0, m1, m2, m3, m4, m5, m6, m7, m8, m9, m10, m11]) rfl ⟨by rw [HF.out], ?_⟩
  exact Below.turned HB3.out (turned_set12 w3 (w.heap.size + 1) _ _ _ _ _ _ _ _ _ _ _ _) (fun i h => by omega) HB3.out.size
 ·clear h6
  have HW := Hd (waits_of (show waitsN s = 3 by unfold waitsN; rw [hd]; rfl) (show waitsB s = true by unfold waitsB; rw [hd]; rfl))
  have HON := Hd (fun W => on_any { { s with d3 := 4 } with can := true } W)
  have HF := Hd (show Sa.stopI s = onI { { s with d3 := 4 } with can := true } by unfold Sa.stopI; rw [hd]; rfl)
  clear hd
  obtain ⟨wa, HA, HB, HX, HZ⟩ := two_hid w (sgA s) (sgA sg0) tSaga tSaga
  go_enter Tryz.func98, Tryz.ntmps98
  go_wp2_with fail
  rw [← HA.out]
  refine (HST.out _).mono ?_
  rintro e w0 ⟨rfl, hb⟩
  have HB0 := Hd (bch HB.out hb HB.out.size)
  have HX0 := Hd (heap_keep HX.out hb)
  have HZ0 := Hd (heap_keep HZ.out hb)
  clear hb HA HB HX HZ HST
  obtain ⟨c0, c1, c2, c3, c4, c5, c6, c7, c8, c9, c10, c11⟩ := sg_box HX0.out
  go_wp2_with fail
  refine (HW.out _).mono ?_
  rintro e w1 ⟨rfl, hb⟩
  have HB1 := Hd (bch HB0.out hb HB0.out.size)
  have HX1 := Hd (heap_keep HX0.out hb)
  have HZ1 := Hd (heap_keep HZ0.out hb)
  clear hb HB0 HX0 HZ0 HW c0 c1 c2 c3 c4 c5 c6 c7 c8 c9 c10 c11
  obtain ⟨c0, c1, c2, c3, c4, c5, c6, c7, c8, c9, c10, c11⟩ := sg_box HX1.out
  obtain ⟨g0, g1, g2, g3, g4, g5, g6, g7, g8, g9, g10, g11⟩ := froz12 HX1.out
  go_upto_region 6 with (fail)
  obtain ⟨W2, hW2⟩ : ∃ W2, W2 = (w1.setCell ⟨w.heap.size, 8, none⟩ (.int .i64 4)).setCell ⟨w.heap.size, 11, none⟩ (.bool true) := ⟨_, rfl⟩
  rw [← hW2]
  have HX2 := Hd (show W2.heap[w.heap.size]? = some (.cells (sgA { { s with d3 := 4 } with can := true }) tSaga (0, 0)) by rw [hW2]; exact sg_setc (sg_set3 HX1.out 4) true)
  have ht2 : Turned (fun j => j = w.heap.size) w1 W2 := by rw [hW2]; exact (turned_set _ _ _ _).trans (turned_set _ _ _ _)
  have HB2 := Hd (Below.turned HB1.out ht2 (fun i h => by omega) HB1.out.size)
  have HZ2 := Hd (heap_turned' HZ1.out ht2 (by omega))
  clear hW2 ht2 c0 c1 c2 c3 c4 c5 c6 c7 c8 c9 c10 c11 g0 g1 g2 g3 g4 g5 g6 g7 g8 g9 g10 g11 HB1 HX1 HZ1
  obtain ⟨c0, c1, c2, c3, c4, c5, c6, c7, c8, c9, c10, c11⟩ := sg_box HX2.out
  go_wp2_with fail
  refine (HON.out _).mono ?_
  rintro e w3 ⟨rfl, hb⟩
  have HB3 := Hd (bch HB2.out hb HB2.out.size)
  have HZ3 := Hd (heap_keep HZ2.out hb)
  clear hb c0 c1 c2 c3 c4 c5 c6 c7 c8 c9 c10 c11 HB2 HX2 HZ2
  have hz := heap_lt HZ3.out
  obtain ⟨m0, m1, m2, m3, m4, m5, m6, m7, m8, m9, m10, m11⟩ := cell12 HZ3.out
  obtain ⟨f0, f1, f2, f3, f4, f5, f6, f7, f8, f9, f10, f11⟩ := froz12 HZ3.out
  go_wp2_with fail
  refine bodyPost_ret (v := .tuple #[sgV (onI { { s with d3 := 4 } with can := true }), .int .i64 0]) (by simp [results, Tryz.results98, go_sem, m0, m1, m2, m3, m4, m5, m6, m7, m8, m9, m10, m11]) rfl ⟨by rw [HF.out], ?_⟩
  exact Below.turned HB3.out (turned_set12 w3 (w.heap.size + 1) _ _ _ _ _ _ _ _ _ _ _ _) (fun i h => by omega) HB3.out.size
 ·clear h6
  have HW := Hd (waits_of (show waitsN s = 4 by unfold waitsN; rw [hd]; rfl) (show waitsB s = true by unfold waitsB; rw [hd]; rfl))
  have HON := Hd (fun W => on_any { { s with d4 := 4 } with can := true } W)
  have HF := Hd (show Sa.stopI s = onI { { s with d4 := 4 } with can := true } by unfold Sa.stopI; rw [hd]; rfl)
  clear hd
  obtain ⟨wa, HA, HB, HX, HZ⟩ := two_hid w (sgA s) (sgA sg0) tSaga tSaga
  go_enter Tryz.func98, Tryz.ntmps98
  go_wp2_with fail
  rw [← HA.out]
  refine (HST.out _).mono ?_
  rintro e w0 ⟨rfl, hb⟩
  have HB0 := Hd (bch HB.out hb HB.out.size)
  have HX0 := Hd (heap_keep HX.out hb)
  have HZ0 := Hd (heap_keep HZ.out hb)
  clear hb HA HB HX HZ HST
  obtain ⟨c0, c1, c2, c3, c4, c5, c6, c7, c8, c9, c10, c11⟩ := sg_box HX0.out
  go_wp2_with fail
  refine (HW.out _).mono ?_
  rintro e w1 ⟨rfl, hb⟩
  have HB1 := Hd (bch HB0.out hb HB0.out.size)
  have HX1 := Hd (heap_keep HX0.out hb)
  have HZ1 := Hd (heap_keep HZ0.out hb)
  clear hb HB0 HX0 HZ0 HW c0 c1 c2 c3 c4 c5 c6 c7 c8 c9 c10 c11
  obtain ⟨c0, c1, c2, c3, c4, c5, c6, c7, c8, c9, c10, c11⟩ := sg_box HX1.out
  obtain ⟨g0, g1, g2, g3, g4, g5, g6, g7, g8, g9, g10, g11⟩ := froz12 HX1.out
  go_upto_region 6 with (fail)
  obtain ⟨W2, hW2⟩ : ∃ W2, W2 = (w1.setCell ⟨w.heap.size, 9, none⟩ (.int .i64 4)).setCell ⟨w.heap.size, 11, none⟩ (.bool true) := ⟨_, rfl⟩
  rw [← hW2]
  have HX2 := Hd (show W2.heap[w.heap.size]? = some (.cells (sgA { { s with d4 := 4 } with can := true }) tSaga (0, 0)) by rw [hW2]; exact sg_setc (sg_set4 HX1.out 4) true)
  have ht2 : Turned (fun j => j = w.heap.size) w1 W2 := by rw [hW2]; exact (turned_set _ _ _ _).trans (turned_set _ _ _ _)
  have HB2 := Hd (Below.turned HB1.out ht2 (fun i h => by omega) HB1.out.size)
  have HZ2 := Hd (heap_turned' HZ1.out ht2 (by omega))
  clear hW2 ht2 c0 c1 c2 c3 c4 c5 c6 c7 c8 c9 c10 c11 g0 g1 g2 g3 g4 g5 g6 g7 g8 g9 g10 g11 HB1 HX1 HZ1
  obtain ⟨c0, c1, c2, c3, c4, c5, c6, c7, c8, c9, c10, c11⟩ := sg_box HX2.out
  go_wp2_with fail
  refine (HON.out _).mono ?_
  rintro e w3 ⟨rfl, hb⟩
  have HB3 := Hd (bch HB2.out hb HB2.out.size)
  have HZ3 := Hd (heap_keep HZ2.out hb)
  clear hb c0 c1 c2 c3 c4 c5 c6 c7 c8 c9 c10 c11 HB2 HX2 HZ2
  have hz := heap_lt HZ3.out
  obtain ⟨m0, m1, m2, m3, m4, m5, m6, m7, m8, m9, m10, m11⟩ := cell12 HZ3.out
  obtain ⟨f0, f1, f2, f3, f4, f5, f6, f7, f8, f9, f10, f11⟩ := froz12 HZ3.out
  go_wp2_with fail
  refine bodyPost_ret (v := .tuple #[sgV (onI { { s with d4 := 4 } with can := true }), .int .i64 0]) (by simp [results, Tryz.results98, go_sem, m0, m1, m2, m3, m4, m5, m6, m7, m8, m9, m10, m11]) rfl ⟨by rw [HF.out], ?_⟩
  exact Below.turned HB3.out (turned_set12 w3 (w.heap.size + 1) _ _ _ _ _ _ _ _ _ _ _ _) (fun i h => by omega) HB3.out.size
 ·clear h6
  have HW := Hd (waits_of (show waitsN s = 5 by unfold waitsN; rw [hd]; rfl) (show waitsB s = true by unfold waitsB; rw [hd]; rfl))
  have HON := Hd (fun W => on_any { { s with d5 := 4 } with can := true } W)
  have HF := Hd (show Sa.stopI s = onI { { s with d5 := 4 } with can := true } by unfold Sa.stopI; rw [hd]; rfl)
  clear hd
  obtain ⟨wa, HA, HB, HX, HZ⟩ := two_hid w (sgA s) (sgA sg0) tSaga tSaga
  go_enter Tryz.func98, Tryz.ntmps98
  go_wp2_with fail
  rw [← HA.out]
  refine (HST.out _).mono ?_
  rintro e w0 ⟨rfl, hb⟩
  have HB0 := Hd (bch HB.out hb HB.out.size)
  have HX0 := Hd (heap_keep HX.out hb)
  have HZ0 := Hd (heap_keep HZ.out hb)
  clear hb HA HB HX HZ HST
  obtain ⟨c0, c1, c2, c3, c4, c5, c6, c7, c8, c9, c10, c11⟩ := sg_box HX0.out
  go_wp2_with fail
  refine (HW.out _).mono ?_
  rintro e w1 ⟨rfl, hb⟩
  have HB1 := Hd (bch HB0.out hb HB0.out.size)
  have HX1 := Hd (heap_keep HX0.out hb)
  have HZ1 := Hd (heap_keep HZ0.out hb)
  clear hb HB0 HX0 HZ0 HW c0 c1 c2 c3 c4 c5 c6 c7 c8 c9 c10 c11
  obtain ⟨c0, c1, c2, c3, c4, c5, c6, c7, c8, c9, c10, c11⟩ := sg_box HX1.out
  obtain ⟨g0, g1, g2, g3, g4, g5, g6, g7, g8, g9, g10, g11⟩ := froz12 HX1.out
  go_upto_region 6 with (fail)
  obtain ⟨W2, hW2⟩ : ∃ W2, W2 = (w1.setCell ⟨w.heap.size, 10, none⟩ (.int .i64 4)).setCell ⟨w.heap.size, 11, none⟩ (.bool true) := ⟨_, rfl⟩
  rw [← hW2]
  have HX2 := Hd (show W2.heap[w.heap.size]? = some (.cells (sgA { { s with d5 := 4 } with can := true }) tSaga (0, 0)) by rw [hW2]; exact sg_setc (sg_set5 HX1.out 4) true)
  have ht2 : Turned (fun j => j = w.heap.size) w1 W2 := by rw [hW2]; exact (turned_set _ _ _ _).trans (turned_set _ _ _ _)
  have HB2 := Hd (Below.turned HB1.out ht2 (fun i h => by omega) HB1.out.size)
  have HZ2 := Hd (heap_turned' HZ1.out ht2 (by omega))
  clear hW2 ht2 c0 c1 c2 c3 c4 c5 c6 c7 c8 c9 c10 c11 g0 g1 g2 g3 g4 g5 g6 g7 g8 g9 g10 g11 HB1 HX1 HZ1
  obtain ⟨c0, c1, c2, c3, c4, c5, c6, c7, c8, c9, c10, c11⟩ := sg_box HX2.out
  go_wp2_with fail
  refine (HON.out _).mono ?_
  rintro e w3 ⟨rfl, hb⟩
  have HB3 := Hd (bch HB2.out hb HB2.out.size)
  have HZ3 := Hd (heap_keep HZ2.out hb)
  clear hb c0 c1 c2 c3 c4 c5 c6 c7 c8 c9 c10 c11 HB2 HX2 HZ2
  have hz := heap_lt HZ3.out
  obtain ⟨m0, m1, m2, m3, m4, m5, m6, m7, m8, m9, m10, m11⟩ := cell12 HZ3.out
  obtain ⟨f0, f1, f2, f3, f4, f5, f6, f7, f8, f9, f10, f11⟩ := froz12 HZ3.out
  go_wp2_with fail
  refine bodyPost_ret (v := .tuple #[sgV (onI { { s with d5 := 4 } with can := true }), .int .i64 0]) (by simp [results, Tryz.results98, go_sem, m0, m1, m2, m3, m4, m5, m6, m7, m8, m9, m10, m11]) rfl ⟨by rw [HF.out], ?_⟩
  exact Below.turned HB3.out (turned_set12 w3 (w.heap.size + 1) _ _ _ _ _ _ _ _ _ _ _ _) (fun i h => by omega) HB3.out.size
 ·exact absurd hd h6
theorem stop_no (s : Sg) (w : World) (hg : goingB s = false) : Calls Tryz.prog 98 #[sgV s] w fun e w' => e = .returned (.tuple #[sgV sg0, .int .i64 92]) ∧ Below w.heap.size w w' := by
 obtain ⟨n, hn⟩ : ∃ n, stateI s = n := ⟨_, rfl⟩
 have HST := Hd (state_at hn)
 have h1 := bneT (hn ▸ state_not hg)
 clear hn hg
 obtain ⟨wa, HA, HB, HX, HZ⟩ := two_hid w (sgA s) (sgA sg0) tSaga tSaga
 go_enter Tryz.func98, Tryz.ntmps98
 go_wp2_with fail
 rw [← HA.out]
 refine (HST.out _).mono ?_
 rintro e w1 ⟨rfl, hb⟩
 have HB1 := Hd (bch HB.out hb HB.out.size)
 have HZ1 := Hd (heap_keep HZ.out hb)
 clear hb HA HB HX HZ HST
 have hz := heap_lt HZ1.out
 obtain ⟨m0, m1, m2, m3, m4, m5, m6, m7, m8, m9, m10, m11⟩ := cell12 HZ1.out
 obtain ⟨f0, f1, f2, f3, f4, f5, f6, f7, f8, f9, f10, f11⟩ := froz12 HZ1.out
 go_wp2_with fail
 refine bodyPost_ret (v := .tuple #[sgV sg0, .int .i64 92]) (by simp [results, Tryz.results98, go_sem, m0, m1, m2, m3, m4, m5, m6, m7, m8, m9, m10, m11]) rfl ⟨rfl, ?_⟩
 exact Below.turned HB1.out (turned_set12 w1 (w.heap.size + 1) _ _ _ _ _ _ _ _ _ _ _ _) (fun i h => by omega) HB1.out.size
end Go.Proofs.YtlkncmpengpbiaaGreatDoor

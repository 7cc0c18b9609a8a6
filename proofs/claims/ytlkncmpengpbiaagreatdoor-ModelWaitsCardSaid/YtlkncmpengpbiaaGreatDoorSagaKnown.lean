/- What a deed of a saga comes to: the program's Want and the document's. -/
import Derived.Test.YtlkncmpengpbiaaGreatDoorSagaMem
import Derived.Test.YtlkncmpengpbiaaGreatDoorShort
namespace Go.Proofs.YtlkncmpengpbiaaGreatDoor
open Go.RowKit Key Sa
set_option linter.unusedSimpArgs false
set_option linter.unusedVariables false
set_option maxRecDepth 100000
set_option maxHeartbeats 4000000

theorem want_eq {s : Sg} {k a q : Int} (h : wantI s k = (a, q)) : Value.tuple #[.int .i64 a, .int .i64 q] = .tuple #[.int .i64 (wantI s k).1, .int .i64 (wantI s k).2] := by rw [h]
theorem want_any (s : Sg) (k : Int) (w : World) (hk : Mon.InR k) : Calls Tryz.prog 173 #[sgV s, .int .i64 k] w fun e w' => e = .returned (.tuple #[.int .i64 (wantI s k).1, .int .i64 (wantI s k).2]) ∧ Below w.heap.size w w' := by
 obtain ⟨hk1, hk2⟩ := hk
 rcases (show k = 0 ∨ k = 1 ∨ k = 2 ∨ k = 3 ∨ k = 4 ∨ k = 5 ∨ k < 0 ∨ 5 < k by omega) with rfl | rfl | rfl | rfl | rfl | rfl | hn | hn
 ·have HF := Hd (show wantI s 0 = (0, s.qty) by unfold wantI; simp)
  have HU := Hd (fun W => undoes_any 0 W ⟨by omega, by omega⟩)
  rw [show undoI 0 = (0, false) by rfl] at HU
  obtain ⟨c0, c1, c2, c3, c4, c5, c6, c7, c8, c9, c10, c11⟩ := sg_box (heap_new w (.cells (sgA s) tSaga))
  go_enter Tryz.func173, Tryz.ntmps173
  go_wp2_with fail
  refine (HU.out _).mono ?_
  rintro e w1 ⟨rfl, hw⟩; subst hw
  go_wp2_with fail
  go_quiet (fail)
  go_wp2_with fail
  go_ret2
  exact ⟨congrArg Ending.returned (want_eq HF.out), by first | exact below_alloc _ _ | exact below_drew1' (below_alloc _ _) | exact below_drewN' (below_alloc _ _) _⟩
 ·have HF := Hd (show wantI s 1 = (s.amt, 0) by unfold wantI; simp)
  have HU := Hd (fun W => undoes_any 1 W ⟨by omega, by omega⟩)
  rw [show undoI 1 = (0, false) by rfl] at HU
  obtain ⟨c0, c1, c2, c3, c4, c5, c6, c7, c8, c9, c10, c11⟩ := sg_box (heap_new w (.cells (sgA s) tSaga))
  go_enter Tryz.func173, Tryz.ntmps173
  go_wp2_with fail
  refine (HU.out _).mono ?_
  rintro e w1 ⟨rfl, hw⟩; subst hw
  go_wp2_with fail
  go_ret2
  exact ⟨congrArg Ending.returned (want_eq HF.out), by first | exact below_alloc _ _ | exact below_drew1' (below_alloc _ _) | exact below_drewN' (below_alloc _ _) _⟩
 ·have HF := Hd (show wantI s 2 = (0, s.qty) by unfold wantI; simp)
  have HU := Hd (fun W => undoes_any 2 W ⟨by omega, by omega⟩)
  rw [show undoI 2 = (0, false) by rfl] at HU
  obtain ⟨c0, c1, c2, c3, c4, c5, c6, c7, c8, c9, c10, c11⟩ := sg_box (heap_new w (.cells (sgA s) tSaga))
  go_enter Tryz.func173, Tryz.ntmps173
  go_wp2_with fail
  refine (HU.out _).mono ?_
  rintro e w1 ⟨rfl, hw⟩; subst hw
  go_wp2_with fail
  go_quiet (fail)
  go_wp2_with fail
  go_ret2
  exact ⟨congrArg Ending.returned (want_eq HF.out), by first | exact below_alloc _ _ | exact below_drew1' (below_alloc _ _) | exact below_drewN' (below_alloc _ _) _⟩
 ·by_cases h : s.d0 = 2
  ·have h1 := beqT h
   have h2 := bneF h
   have HF := Hd (show wantI s 3 = (0, s.qty) by unfold wantI; simp [h])
   have HU := Hd (fun W => undoes_any 3 W ⟨by omega, by omega⟩)
   rw [show undoI 3 = (0, true) by rfl] at HU
   clear h
   obtain ⟨c0, c1, c2, c3, c4, c5, c6, c7, c8, c9, c10, c11⟩ := sg_box (heap_new w (.cells (sgA s) tSaga))
   go_enter Tryz.func173, Tryz.ntmps173
   go_wp2_with fail
   refine (HU.out _).mono ?_
   rintro e w1 ⟨rfl, hw⟩; subst hw
   go_wp2_with fail
   go_quiet (fail)
   go_wp2_with fail
   go_ret2
   exact ⟨congrArg Ending.returned (want_eq HF.out), by first | exact below_alloc _ _ | exact below_drew1' (below_alloc _ _) | exact below_drewN' (below_alloc _ _) _⟩
  ·have h1 := beqF h
   have h2 := bneT h
   have HF := Hd (show wantI s 3 = (0, 0) by unfold wantI; simp [h])
   have HU := Hd (fun W => undoes_any 3 W ⟨by omega, by omega⟩)
   rw [show undoI 3 = (0, true) by rfl] at HU
   clear h
   obtain ⟨c0, c1, c2, c3, c4, c5, c6, c7, c8, c9, c10, c11⟩ := sg_box (heap_new w (.cells (sgA s) tSaga))
   go_enter Tryz.func173, Tryz.ntmps173
   go_wp2_with fail
   refine (HU.out _).mono ?_
   rintro e w1 ⟨rfl, hw⟩; subst hw
   go_wp2_with fail
   go_ret2
   exact ⟨congrArg Ending.returned (want_eq HF.out), by first | exact below_alloc _ _ | exact below_drew1' (below_alloc _ _) | exact below_drewN' (below_alloc _ _) _⟩
 ·by_cases h : s.d1 = 2
  ·have h1 := beqT h
   have h2 := bneF h
   have HF := Hd (show wantI s 4 = (s.amt, 0) by unfold wantI; simp [h])
   have HU := Hd (fun W => undoes_any 4 W ⟨by omega, by omega⟩)
   rw [show undoI 4 = (1, true) by rfl] at HU
   clear h
   obtain ⟨c0, c1, c2, c3, c4, c5, c6, c7, c8, c9, c10, c11⟩ := sg_box (heap_new w (.cells (sgA s) tSaga))
   go_enter Tryz.func173, Tryz.ntmps173
   go_wp2_with fail
   refine (HU.out _).mono ?_
   rintro e w1 ⟨rfl, hw⟩; subst hw
   go_wp2_with fail
   go_ret2
   exact ⟨congrArg Ending.returned (want_eq HF.out), by first | exact below_alloc _ _ | exact below_drew1' (below_alloc _ _) | exact below_drewN' (below_alloc _ _) _⟩
  ·have h1 := beqF h
   have h2 := bneT h
   have HF := Hd (show wantI s 4 = (0, 0) by unfold wantI; simp [h])
   have HU := Hd (fun W => undoes_any 4 W ⟨by omega, by omega⟩)
   rw [show undoI 4 = (1, true) by rfl] at HU
   clear h
   obtain ⟨c0, c1, c2, c3, c4, c5, c6, c7, c8, c9, c10, c11⟩ := sg_box (heap_new w (.cells (sgA s) tSaga))
   go_enter Tryz.func173, Tryz.ntmps173
   go_wp2_with fail
   refine (HU.out _).mono ?_
   rintro e w1 ⟨rfl, hw⟩; subst hw
   go_wp2_with fail
   go_ret2
   exact ⟨congrArg Ending.returned (want_eq HF.out), by first | exact below_alloc _ _ | exact below_drew1' (below_alloc _ _) | exact below_drewN' (below_alloc _ _) _⟩
 ·by_cases h : s.d2 = 2
  ·have h1 := beqT h
   have h2 := bneF h
   have HF := Hd (show wantI s 5 = (0, s.qty) by unfold wantI; simp [h])
   have HU := Hd (fun W => undoes_any 5 W ⟨by omega, by omega⟩)
   rw [show undoI 5 = (2, true) by rfl] at HU
   clear h
   obtain ⟨c0, c1, c2, c3, c4, c5, c6, c7, c8, c9, c10, c11⟩ := sg_box (heap_new w (.cells (sgA s) tSaga))
   go_enter Tryz.func173, Tryz.ntmps173
   go_wp2_with fail
   refine (HU.out _).mono ?_
   rintro e w1 ⟨rfl, hw⟩; subst hw
   go_wp2_with fail
   go_quiet (fail)
   go_wp2_with fail
   go_ret2
   exact ⟨congrArg Ending.returned (want_eq HF.out), by first | exact below_alloc _ _ | exact below_drew1' (below_alloc _ _) | exact below_drewN' (below_alloc _ _) _⟩
  ·have h1 := beqF h
   have h2 := bneT h
   have HF := Hd (show wantI s 5 = (0, 0) by unfold wantI; simp [h])
   have HU := Hd (fun W => undoes_any 5 W ⟨by omega, by omega⟩)
   rw [show undoI 5 = (2, true) by rfl] at HU
   clear h
   obtain ⟨c0, c1, c2, c3, c4, c5, c6, c7, c8, c9, c10, c11⟩ := sg_box (heap_new w (.cells (sgA s) tSaga))
   go_enter Tryz.func173, Tryz.ntmps173
   go_wp2_with fail
   refine (HU.out _).mono ?_
   rintro e w1 ⟨rfl, hw⟩; subst hw
   go_wp2_with fail
   go_ret2
   exact ⟨congrArg Ending.returned (want_eq HF.out), by first | exact below_alloc _ _ | exact below_drew1' (below_alloc _ _) | exact below_drewN' (below_alloc _ _) _⟩
 ·have e0 := beqF (show ¬ k = 0 by omega)
  have e1 := beqF (show ¬ k = 1 by omega)
  have e2 := beqF (show ¬ k = 2 by omega)
  have e3 := beqF (show ¬ k = 3 by omega)
  have e4 := beqF (show ¬ k = 4 by omega)
  have e5 := beqF (show ¬ k = 5 by omega)
  have HF := Hd (show wantI s k = (0, 0) by unfold wantI; rw [if_neg (by omega), if_neg (by omega)])
  have HU := Hd (fun W => undoes_any k W ⟨by omega, by omega⟩)
  rw [show undoI k = (0, false) by unfold undoI; rw [if_neg (by omega)]] at HU
  obtain ⟨c0, c1, c2, c3, c4, c5, c6, c7, c8, c9, c10, c11⟩ := sg_box (heap_new w (.cells (sgA s) tSaga))
  go_enter Tryz.func173, Tryz.ntmps173
  go_wp2_with fail
  refine (HU.out _).mono ?_
  rintro e w1 ⟨rfl, hw⟩; subst hw
  go_wp2_with fail
  go_ret2
  exact ⟨congrArg Ending.returned (want_eq HF.out), by first | exact below_alloc _ _ | exact below_drew1' (below_alloc _ _) | exact below_drewN' (below_alloc _ _) _⟩
 ·have e0 := beqF (show ¬ k = 0 by omega)
  have e1 := beqF (show ¬ k = 1 by omega)
  have e2 := beqF (show ¬ k = 2 by omega)
  have e3 := beqF (show ¬ k = 3 by omega)
  have e4 := beqF (show ¬ k = 4 by omega)
  have e5 := beqF (show ¬ k = 5 by omega)
  have HF := Hd (show wantI s k = (0, 0) by unfold wantI; rw [if_neg (by omega), if_neg (by omega)])
  have HU := Hd (fun W => undoes_any k W ⟨by omega, by omega⟩)
  rw [show undoI k = (0, false) by unfold undoI; rw [if_neg (by omega)]] at HU
  obtain ⟨c0, c1, c2, c3, c4, c5, c6, c7, c8, c9, c10, c11⟩ := sg_box (heap_new w (.cells (sgA s) tSaga))
  go_enter Tryz.func173, Tryz.ntmps173
  go_wp2_with fail
  refine (HU.out _).mono ?_
  rintro e w1 ⟨rfl, hw⟩; subst hw
  go_wp2_with fail
  go_ret2
  exact ⟨congrArg Ending.returned (want_eq HF.out), by first | exact below_alloc _ _ | exact below_drew1' (below_alloc _ _) | exact below_drewN' (below_alloc _ _) _⟩
theorem refWant_any (s : Sg) (k : Int) (w : World) (hk : Mon.InR k) : Calls Tryz.prog 176 #[sgV s, .int .i64 k] w fun e w' => e = .returned (.tuple #[.int .i64 (wantI s k).1, .int .i64 (wantI s k).2]) ∧ Below w.heap.size w w' := by
 obtain ⟨hk1, hk2⟩ := hk
 rcases (show k = 0 ∨ k = 1 ∨ k = 2 ∨ k = 3 ∨ k = 4 ∨ k = 5 ∨ k < 0 ∨ 5 < k by omega) with rfl | rfl | rfl | rfl | rfl | rfl | hn | hn
 ·have HF := Hd (show wantI s 0 = (0, s.qty) by unfold wantI; simp)
  obtain ⟨c0, c1, c2, c3, c4, c5, c6, c7, c8, c9, c10, c11⟩ := sg_box (heap_new w (.cells (sgA s) tSagaR))
  go_enter Tryz.func176, Tryz.ntmps176
  go_wp2_with fail
  go_quiet (fail)
  go_wp2_with fail
  go_ret2
  exact ⟨congrArg Ending.returned (want_eq HF.out), by first | exact below_alloc _ _ | exact below_drew1' (below_alloc _ _) | exact below_drewN' (below_alloc _ _) _⟩
 ·have HF := Hd (show wantI s 1 = (s.amt, 0) by unfold wantI; simp)
  obtain ⟨c0, c1, c2, c3, c4, c5, c6, c7, c8, c9, c10, c11⟩ := sg_box (heap_new w (.cells (sgA s) tSagaR))
  go_enter Tryz.func176, Tryz.ntmps176
  go_wp2_with fail
  go_ret2
  exact ⟨congrArg Ending.returned (want_eq HF.out), by first | exact below_alloc _ _ | exact below_drew1' (below_alloc _ _) | exact below_drewN' (below_alloc _ _) _⟩
 ·have HF := Hd (show wantI s 2 = (0, s.qty) by unfold wantI; simp)
  obtain ⟨c0, c1, c2, c3, c4, c5, c6, c7, c8, c9, c10, c11⟩ := sg_box (heap_new w (.cells (sgA s) tSagaR))
  go_enter Tryz.func176, Tryz.ntmps176
  go_wp2_with fail
  go_quiet (fail)
  go_wp2_with fail
  go_ret2
  exact ⟨congrArg Ending.returned (want_eq HF.out), by first | exact below_alloc _ _ | exact below_drew1' (below_alloc _ _) | exact below_drewN' (below_alloc _ _) _⟩
 ·by_cases h : s.d0 = 2
  ·have h1 := beqT h
   have h2 := bneF h
   have HF := Hd (show wantI s 3 = (0, s.qty) by unfold wantI; simp [h])
   clear h
   obtain ⟨c0, c1, c2, c3, c4, c5, c6, c7, c8, c9, c10, c11⟩ := sg_box (heap_new w (.cells (sgA s) tSagaR))
   go_enter Tryz.func176, Tryz.ntmps176
   go_wp2_with fail
   go_quiet (fail)
   go_wp2_with fail
   go_ret2
   exact ⟨congrArg Ending.returned (want_eq HF.out), by first | exact below_alloc _ _ | exact below_drew1' (below_alloc _ _) | exact below_drewN' (below_alloc _ _) _⟩
  ·have h1 := beqF h
   have h2 := bneT h
   have HF := Hd (show wantI s 3 = (0, 0) by unfold wantI; simp [h])
   clear h
   obtain ⟨c0, c1, c2, c3, c4, c5, c6, c7, c8, c9, c10, c11⟩ := sg_box (heap_new w (.cells (sgA s) tSagaR))
   go_enter Tryz.func176, Tryz.ntmps176
   go_wp2_with fail
   go_ret2
   exact ⟨congrArg Ending.returned (want_eq HF.out), by first | exact below_alloc _ _ | exact below_drew1' (below_alloc _ _) | exact below_drewN' (below_alloc _ _) _⟩
 ·by_cases h : s.d1 = 2
  ·have h1 := beqT h
   have h2 := bneF h
   have HF := Hd (show wantI s 4 = (s.amt, 0) by unfold wantI; simp [h])
   clear h
   obtain ⟨c0, c1, c2, c3, c4, c5, c6, c7, c8, c9, c10, c11⟩ := sg_box (heap_new w (.cells (sgA s) tSagaR))
   go_enter Tryz.func176, Tryz.ntmps176
   go_wp2_with fail
   go_ret2
   exact ⟨congrArg Ending.returned (want_eq HF.out), by first | exact below_alloc _ _ | exact below_drew1' (below_alloc _ _) | exact below_drewN' (below_alloc _ _) _⟩
  ·have h1 := beqF h
   have h2 := bneT h
   have HF := Hd (show wantI s 4 = (0, 0) by unfold wantI; simp [h])
   clear h
   obtain ⟨c0, c1, c2, c3, c4, c5, c6, c7, c8, c9, c10, c11⟩ := sg_box (heap_new w (.cells (sgA s) tSagaR))
   go_enter Tryz.func176, Tryz.ntmps176
   go_wp2_with fail
   go_ret2
   exact ⟨congrArg Ending.returned (want_eq HF.out), by first | exact below_alloc _ _ | exact below_drew1' (below_alloc _ _) | exact below_drewN' (below_alloc _ _) _⟩
 ·by_cases h : s.d2 = 2
  ·have h1 := beqT h
   have h2 := bneF h
   have HF := Hd (show wantI s 5 = (0, s.qty) by unfold wantI; simp [h])
   clear h
   obtain ⟨c0, c1, c2, c3, c4, c5, c6, c7, c8, c9, c10, c11⟩ := sg_box (heap_new w (.cells (sgA s) tSagaR))
   go_enter Tryz.func176, Tryz.ntmps176
   go_wp2_with fail
   go_quiet (fail)
   go_wp2_with fail
   go_ret2
   exact ⟨congrArg Ending.returned (want_eq HF.out), by first | exact below_alloc _ _ | exact below_drew1' (below_alloc _ _) | exact below_drewN' (below_alloc _ _) _⟩
  ·have h1 := beqF h
   have h2 := bneT h
   have HF := Hd (show wantI s 5 = (0, 0) by unfold wantI; simp [h])
   clear h
   obtain ⟨c0, c1, c2, c3, c4, c5, c6, c7, c8, c9, c10, c11⟩ := sg_box (heap_new w (.cells (sgA s) tSagaR))
   go_enter Tryz.func176, Tryz.ntmps176
   go_wp2_with fail
   go_ret2
   exact ⟨congrArg Ending.returned (want_eq HF.out), by first | exact below_alloc _ _ | exact below_drew1' (below_alloc _ _) | exact below_drewN' (below_alloc _ _) _⟩
 ·have e0 := beqF (show ¬ k = 0 by omega)
  have e1 := beqF (show ¬ k = 1 by omega)
  have e2 := beqF (show ¬ k = 2 by omega)
  have e3 := beqF (show ¬ k = 3 by omega)
  have e4 := beqF (show ¬ k = 4 by omega)
  have e5 := beqF (show ¬ k = 5 by omega)
  have HF := Hd (show wantI s k = (0, 0) by unfold wantI; rw [if_neg (by omega), if_neg (by omega)])
  obtain ⟨c0, c1, c2, c3, c4, c5, c6, c7, c8, c9, c10, c11⟩ := sg_box (heap_new w (.cells (sgA s) tSagaR))
  go_enter Tryz.func176, Tryz.ntmps176
  go_wp2_with fail
  go_ret2
  exact ⟨congrArg Ending.returned (want_eq HF.out), by first | exact below_alloc _ _ | exact below_drew1' (below_alloc _ _) | exact below_drewN' (below_alloc _ _) _⟩
 ·have e0 := beqF (show ¬ k = 0 by omega)
  have e1 := beqF (show ¬ k = 1 by omega)
  have e2 := beqF (show ¬ k = 2 by omega)
  have e3 := beqF (show ¬ k = 3 by omega)
  have e4 := beqF (show ¬ k = 4 by omega)
  have e5 := beqF (show ¬ k = 5 by omega)
  have HF := Hd (show wantI s k = (0, 0) by unfold wantI; rw [if_neg (by omega), if_neg (by omega)])
  obtain ⟨c0, c1, c2, c3, c4, c5, c6, c7, c8, c9, c10, c11⟩ := sg_box (heap_new w (.cells (sgA s) tSagaR))
  go_enter Tryz.func176, Tryz.ntmps176
  go_wp2_with fail
  go_ret2
  exact ⟨congrArg Ending.returned (want_eq HF.out), by first | exact below_alloc _ _ | exact below_drew1' (below_alloc _ _) | exact below_drewN' (below_alloc _ _) _⟩
end Go.Proofs.YtlkncmpengpbiaaGreatDoor
/- How a saga's deed differs from a row: the program's known and the document's kind. -/
namespace Go.Proofs.YtlkncmpengpbiaaGreatDoor
open Go.RowKit Key Sa
set_option linter.unusedSimpArgs false
set_option linter.unusedVariables false
set_option maxRecDepth 100000
set_option maxHeartbeats 16000000
abbrev tRow0 : TypeId := 181
theorem below_alloc2 (w : World) (o o' : Obj) : Below w.heap.size w ((w.alloc o).alloc o') := (below_alloc w o).alloc (by simp) o'

/-- A saga's box, a row's box. -/
theorem kbox (w : World) (s : Sg) (T : TypeId) (o d c a q : Int) : Hid (Below w.heap.size w ((w.alloc (.cells (sgA s) T)).alloc (.cells #[.int .i64 o, .int .i64 d, .int .i64 c, .int .i64 a, .int .i64 q] tRow0))) ∧ Hid (((w.alloc (.cells (sgA s) T)).alloc (.cells #[.int .i64 o, .int .i64 d, .int .i64 c, .int .i64 a, .int .i64 q] tRow0)).heap[w.heap.size]? = some (.cells (sgA s) T (0, 0))) ∧ Hid (((w.alloc (.cells (sgA s) T)).alloc (.cells #[.int .i64 o, .int .i64 d, .int .i64 c, .int .i64 a, .int .i64 q] tRow0)).heap[w.heap.size + 1]? = some (.cells #[.int .i64 o, .int .i64 d, .int .i64 c, .int .i64 a, .int .i64 q] tRow0 (0, 0))) := by
 refine ⟨below_alloc2 w _ _, heap_keep (heap_new w _) (below_alloc _ _), ?_⟩
 have h := heap_new (w.alloc (.cells (sgA s) T)) (.cells #[.int .i64 o, .int .i64 d, .int .i64 c, .int .i64 a, .int .i64 q] tRow0)
 rwa [show (w.alloc (.cells (sgA s) T)).heap.size = w.heap.size + 1 by simp] at h
theorem known_lo (s : Sg) (k o d c a q : Int) (ok : Bool) (w : World) (h0 : 0 ≤ k) (h3 : k < 3) :
  Calls Tryz.prog 154 #[sgV s, .int .i64 k, .agg #[.int .i64 o, .int .i64 d, .int .i64 c, .int .i64 a, .int .i64 q], .bool ok] w fun e w' => e = .returned (.int .i64 (kindI s k c a q ok)) ∧ Below w.heap.size w w' := by
 have h6 : k < 6 := by omega
 by_cases hl : s.deed k < 0
 ·have HF := Hd (show kindI s k c a q ok = 0 by unfold kindI; simp [hl])
  obtain ⟨HB, HM, HR⟩ := kbox w s tSaga o d c a q
  have HW := Hd (fun W => want_any s k W ⟨by omega, by omega⟩)
  have HU := Hd (fun W => undoes_any k W ⟨by omega, by omega⟩)
  rw [show undoI k = (0, false) by unfold undoI; rw [if_neg (by omega)]] at HU
  have cd := sg_deed HM.out h0 h6
  have ce := sg_deed HM.out (k := k + 3) (by omega) (by omega)
  go_enter Tryz.func154, Tryz.ntmps154
  go_wp2_with fail
  refine (HW.out _).mono ?_
  rintro e w1 ⟨rfl, hb⟩
  have HB1 := Hd (bch HB.out hb HB.out.size)
  have HM1 := Hd (heap_keep HM.out hb)
  have HR1 := Hd (heap_keep HR.out hb)
  clear hb cd ce
  have ce := sg_deed HM1.out (k := k + 3) (by omega) (by omega)
  have cc := cell_at HR1.out 2 rfl
  have ca := cell_at HR1.out 3 rfl
  have cq := cell_at HR1.out 4 rfl
  go_wp2_with fail
  refine (HU.out _).mono ?_
  rintro e w2 ⟨rfl, hw⟩; subst hw
  go_wp2_with fail
  go_ret
  exact ⟨ret_int HF.out.symm, HB1.out⟩
 by_cases hg : 4 < s.deed k
 ·have HF := Hd (show kindI s k c a q ok = 0 by unfold kindI; simp [hg])
  obtain ⟨HB, HM, HR⟩ := kbox w s tSaga o d c a q
  have HW := Hd (fun W => want_any s k W ⟨by omega, by omega⟩)
  have HU := Hd (fun W => undoes_any k W ⟨by omega, by omega⟩)
  rw [show undoI k = (0, false) by unfold undoI; rw [if_neg (by omega)]] at HU
  have cd := sg_deed HM.out h0 h6
  have ce := sg_deed HM.out (k := k + 3) (by omega) (by omega)
  go_enter Tryz.func154, Tryz.ntmps154
  go_wp2_with fail
  refine (HW.out _).mono ?_
  rintro e w1 ⟨rfl, hb⟩
  have HB1 := Hd (bch HB.out hb HB.out.size)
  have HM1 := Hd (heap_keep HM.out hb)
  have HR1 := Hd (heap_keep HR.out hb)
  clear hb cd ce
  have ce := sg_deed HM1.out (k := k + 3) (by omega) (by omega)
  have cc := cell_at HR1.out 2 rfl
  have ca := cell_at HR1.out 3 rfl
  have cq := cell_at HR1.out 4 rfl
  go_wp2_with fail
  refine (HU.out _).mono ?_
  rintro e w2 ⟨rfl, hw⟩; subst hw
  go_wp2_with fail
  go_ret
  exact ⟨ret_int HF.out.symm, HB1.out⟩
 rcases (show s.deed k = 0 ∨ s.deed k = 1 ∨ s.deed k = 2 ∨ s.deed k = 3 ∨ s.deed k = 4 by omega) with hh | hh | hh | hh | hh
 all_goals clear hl hg
 ·cases ok with
  | false =>
   have HF := Hd (show kindI s k c a q false = 0 by unfold kindI; simp [hh])
   obtain ⟨HB, HM, HR⟩ := kbox w s tSaga o d c a q
   have HW := Hd (fun W => want_any s k W ⟨by omega, by omega⟩)
   have HU := Hd (fun W => undoes_any k W ⟨by omega, by omega⟩)
   rw [show undoI k = (0, false) by unfold undoI; rw [if_neg (by omega)]] at HU
   have cd := sg_deed HM.out h0 h6
   rw [hh] at cd
   have ce := sg_deed HM.out (k := k + 3) (by omega) (by omega)
   clear hh
   go_enter Tryz.func154, Tryz.ntmps154
   go_wp2_with fail
   refine (HW.out _).mono ?_
   rintro e w1 ⟨rfl, hb⟩
   have HB1 := Hd (bch HB.out hb HB.out.size)
   have HM1 := Hd (heap_keep HM.out hb)
   have HR1 := Hd (heap_keep HR.out hb)
   clear hb cd ce
   have ce := sg_deed HM1.out (k := k + 3) (by omega) (by omega)
   have cc := cell_at HR1.out 2 rfl
   have ca := cell_at HR1.out 3 rfl
   have cq := cell_at HR1.out 4 rfl
   go_wp2_with fail
   refine (HU.out _).mono ?_
   rintro e w2 ⟨rfl, hw⟩; subst hw
   go_wp2_with fail
   go_ret
   exact ⟨ret_int HF.out.symm, HB1.out⟩
  | true =>
   have HF := Hd (show kindI s k c a q true = 5 by unfold kindI; simp [hh])
   obtain ⟨HB, HM, HR⟩ := kbox w s tSaga o d c a q
   have HW := Hd (fun W => want_any s k W ⟨by omega, by omega⟩)
   have HU := Hd (fun W => undoes_any k W ⟨by omega, by omega⟩)
   rw [show undoI k = (0, false) by unfold undoI; rw [if_neg (by omega)]] at HU
   have cd := sg_deed HM.out h0 h6
   rw [hh] at cd
   have ce := sg_deed HM.out (k := k + 3) (by omega) (by omega)
   clear hh
   go_enter Tryz.func154, Tryz.ntmps154
   go_wp2_with fail
   refine (HW.out _).mono ?_
   rintro e w1 ⟨rfl, hb⟩
   have HB1 := Hd (bch HB.out hb HB.out.size)
   have HM1 := Hd (heap_keep HM.out hb)
   have HR1 := Hd (heap_keep HR.out hb)
   clear hb cd ce
   have ce := sg_deed HM1.out (k := k + 3) (by omega) (by omega)
   have cc := cell_at HR1.out 2 rfl
   have ca := cell_at HR1.out 3 rfl
   have cq := cell_at HR1.out 4 rfl
   go_wp2_with fail
   refine (HU.out _).mono ?_
   rintro e w2 ⟨rfl, hw⟩; subst hw
   go_wp2_with fail
   go_ret
   exact ⟨ret_int HF.out.symm, HB1.out⟩
 ·cases ok with
  | false =>
   have HF := Hd (show kindI s k c a q false = 0 by unfold kindI; simp [hh])
   obtain ⟨HB, HM, HR⟩ := kbox w s tSaga o d c a q
   have HW := Hd (fun W => want_any s k W ⟨by omega, by omega⟩)
   have HU := Hd (fun W => undoes_any k W ⟨by omega, by omega⟩)
   rw [show undoI k = (0, false) by unfold undoI; rw [if_neg (by omega)]] at HU
   have cd := sg_deed HM.out h0 h6
   rw [hh] at cd
   have ce := sg_deed HM.out (k := k + 3) (by omega) (by omega)
   clear hh
   go_enter Tryz.func154, Tryz.ntmps154
   go_wp2_with fail
   refine (HW.out _).mono ?_
   rintro e w1 ⟨rfl, hb⟩
   have HB1 := Hd (bch HB.out hb HB.out.size)
   have HM1 := Hd (heap_keep HM.out hb)
   have HR1 := Hd (heap_keep HR.out hb)
   clear hb cd ce
   have ce := sg_deed HM1.out (k := k + 3) (by omega) (by omega)
   have cc := cell_at HR1.out 2 rfl
   have ca := cell_at HR1.out 3 rfl
   have cq := cell_at HR1.out 4 rfl
   go_wp2_with fail
   refine (HU.out _).mono ?_
   rintro e w2 ⟨rfl, hw⟩; subst hw
   go_wp2_with fail
   go_ret
   exact ⟨ret_int HF.out.symm, HB1.out⟩
  | true =>
   by_cases hc : c = 1
   ·subst hc
    have HF := Hd (show kindI s k 1 a q true = 1 by unfold kindI; simp [hh])
    obtain ⟨HB, HM, HR⟩ := kbox w s tSaga o d 1 a q
    have HW := Hd (fun W => want_any s k W ⟨by omega, by omega⟩)
    have HU := Hd (fun W => undoes_any k W ⟨by omega, by omega⟩)
    rw [show undoI k = (0, false) by unfold undoI; rw [if_neg (by omega)]] at HU
    have cd := sg_deed HM.out h0 h6
    rw [hh] at cd
    have ce := sg_deed HM.out (k := k + 3) (by omega) (by omega)
    clear hh
    go_enter Tryz.func154, Tryz.ntmps154
    go_wp2_with fail
    refine (HW.out _).mono ?_
    rintro e w1 ⟨rfl, hb⟩
    have HB1 := Hd (bch HB.out hb HB.out.size)
    have HM1 := Hd (heap_keep HM.out hb)
    have HR1 := Hd (heap_keep HR.out hb)
    clear hb cd ce
    have ce := sg_deed HM1.out (k := k + 3) (by omega) (by omega)
    have cc := cell_at HR1.out 2 rfl
    have ca := cell_at HR1.out 3 rfl
    have cq := cell_at HR1.out 4 rfl
    go_wp2_with fail
    refine (HU.out _).mono ?_
    rintro e w2 ⟨rfl, hw⟩; subst hw
    go_wp2_with fail
    go_ret
    exact ⟨ret_int HF.out.symm, HB1.out⟩
   ·have hc1 := beqF hc
    have HF := Hd (show kindI s k c a q true = 0 by unfold kindI; simp [hh, hc])
    clear hc
    obtain ⟨HB, HM, HR⟩ := kbox w s tSaga o d c a q
    have HW := Hd (fun W => want_any s k W ⟨by omega, by omega⟩)
    have HU := Hd (fun W => undoes_any k W ⟨by omega, by omega⟩)
    rw [show undoI k = (0, false) by unfold undoI; rw [if_neg (by omega)]] at HU
    have cd := sg_deed HM.out h0 h6
    rw [hh] at cd
    have ce := sg_deed HM.out (k := k + 3) (by omega) (by omega)
    clear hh
    go_enter Tryz.func154, Tryz.ntmps154
    go_wp2_with fail
    refine (HW.out _).mono ?_
    rintro e w1 ⟨rfl, hb⟩
    have HB1 := Hd (bch HB.out hb HB.out.size)
    have HM1 := Hd (heap_keep HM.out hb)
    have HR1 := Hd (heap_keep HR.out hb)
    clear hb cd ce
    have ce := sg_deed HM1.out (k := k + 3) (by omega) (by omega)
    have cc := cell_at HR1.out 2 rfl
    have ca := cell_at HR1.out 3 rfl
    have cq := cell_at HR1.out 4 rfl
    go_wp2_with fail
    refine (HU.out _).mono ?_
    rintro e w2 ⟨rfl, hw⟩; subst hw
    go_wp2_with fail
    go_ret
    exact ⟨ret_int HF.out.symm, HB1.out⟩
 ·cases ok with
  | false =>
   have HF := Hd (show kindI s k c a q false = 2 by unfold kindI; simp [hh])
   obtain ⟨HB, HM, HR⟩ := kbox w s tSaga o d c a q
   have HW := Hd (fun W => want_any s k W ⟨by omega, by omega⟩)
   have HU := Hd (fun W => undoes_any k W ⟨by omega, by omega⟩)
   rw [show undoI k = (0, false) by unfold undoI; rw [if_neg (by omega)]] at HU
   have cd := sg_deed HM.out h0 h6
   rw [hh] at cd
   have ce := sg_deed HM.out (k := k + 3) (by omega) (by omega)
   clear hh
   go_enter Tryz.func154, Tryz.ntmps154
   go_wp2_with fail
   refine (HW.out _).mono ?_
   rintro e w1 ⟨rfl, hb⟩
   have HB1 := Hd (bch HB.out hb HB.out.size)
   have HM1 := Hd (heap_keep HM.out hb)
   have HR1 := Hd (heap_keep HR.out hb)
   clear hb cd ce
   have ce := sg_deed HM1.out (k := k + 3) (by omega) (by omega)
   have cc := cell_at HR1.out 2 rfl
   have ca := cell_at HR1.out 3 rfl
   have cq := cell_at HR1.out 4 rfl
   go_wp2_with fail
   refine (HU.out _).mono ?_
   rintro e w2 ⟨rfl, hw⟩; subst hw
   go_wp2_with fail
   go_ret
   exact ⟨ret_int HF.out.symm, HB1.out⟩
  | true =>
   by_cases hc : c = 1
   ·subst hc
    by_cases ha : a = (wantI s k).1
    ·have ha1 := bneF ha
     have ha2 := beqT ha
     by_cases hq : q = (wantI s k).2
     ·have hq1 := bneF hq
      have hq2 := beqT hq
      have HF := Hd (show kindI s k 1 a q true = 0 by unfold kindI; simp [hh, ← ha, ← hq])
      clear ha hq
      obtain ⟨HB, HM, HR⟩ := kbox w s tSaga o d 1 a q
      have HW := Hd (fun W => want_any s k W ⟨by omega, by omega⟩)
      have HU := Hd (fun W => undoes_any k W ⟨by omega, by omega⟩)
      rw [show undoI k = (0, false) by unfold undoI; rw [if_neg (by omega)]] at HU
      have cd := sg_deed HM.out h0 h6
      rw [hh] at cd
      have ce := sg_deed HM.out (k := k + 3) (by omega) (by omega)
      clear hh
      go_enter Tryz.func154, Tryz.ntmps154
      go_wp2_with fail
      refine (HW.out _).mono ?_
      rintro e w1 ⟨rfl, hb⟩
      have HB1 := Hd (bch HB.out hb HB.out.size)
      have HM1 := Hd (heap_keep HM.out hb)
      have HR1 := Hd (heap_keep HR.out hb)
      clear hb cd ce
      have ce := sg_deed HM1.out (k := k + 3) (by omega) (by omega)
      have cc := cell_at HR1.out 2 rfl
      have ca := cell_at HR1.out 3 rfl
      have cq := cell_at HR1.out 4 rfl
      go_wp2_with fail
      refine (HU.out _).mono ?_
      rintro e w2 ⟨rfl, hw⟩; subst hw
      go_wp2_with fail
      go_ret
      exact ⟨ret_int HF.out.symm, HB1.out⟩
     ·have hq1 := bneT hq
      have hq2 := beqF hq
      have HF := Hd (show kindI s k 1 a q true = 4 by unfold kindI; simp [hh, ← ha, hq, show k < 3 by omega])
      clear ha hq
      obtain ⟨HB, HM, HR⟩ := kbox w s tSaga o d 1 a q
      have HW := Hd (fun W => want_any s k W ⟨by omega, by omega⟩)
      have HU := Hd (fun W => undoes_any k W ⟨by omega, by omega⟩)
      rw [show undoI k = (0, false) by unfold undoI; rw [if_neg (by omega)]] at HU
      have cd := sg_deed HM.out h0 h6
      rw [hh] at cd
      have ce := sg_deed HM.out (k := k + 3) (by omega) (by omega)
      clear hh
      go_enter Tryz.func154, Tryz.ntmps154
      go_wp2_with fail
      refine (HW.out _).mono ?_
      rintro e w1 ⟨rfl, hb⟩
      have HB1 := Hd (bch HB.out hb HB.out.size)
      have HM1 := Hd (heap_keep HM.out hb)
      have HR1 := Hd (heap_keep HR.out hb)
      clear hb cd ce
      have ce := sg_deed HM1.out (k := k + 3) (by omega) (by omega)
      have cc := cell_at HR1.out 2 rfl
      have ca := cell_at HR1.out 3 rfl
      have cq := cell_at HR1.out 4 rfl
      go_wp2_with fail
      refine (HU.out _).mono ?_
      rintro e w2 ⟨rfl, hw⟩; subst hw
      go_wp2_with fail
      go_ret
      exact ⟨ret_int HF.out.symm, HB1.out⟩
    ·have ha1 := bneT ha
     have ha2 := beqF ha
     have HF := Hd (show kindI s k 1 a q true = 4 by unfold kindI; simp [hh, ha, show k < 3 by omega])
     clear ha
     obtain ⟨HB, HM, HR⟩ := kbox w s tSaga o d 1 a q
     have HW := Hd (fun W => want_any s k W ⟨by omega, by omega⟩)
     have HU := Hd (fun W => undoes_any k W ⟨by omega, by omega⟩)
     rw [show undoI k = (0, false) by unfold undoI; rw [if_neg (by omega)]] at HU
     have cd := sg_deed HM.out h0 h6
     rw [hh] at cd
     have ce := sg_deed HM.out (k := k + 3) (by omega) (by omega)
     clear hh
     go_enter Tryz.func154, Tryz.ntmps154
     go_wp2_with fail
     refine (HW.out _).mono ?_
     rintro e w1 ⟨rfl, hb⟩
     have HB1 := Hd (bch HB.out hb HB.out.size)
     have HM1 := Hd (heap_keep HM.out hb)
     have HR1 := Hd (heap_keep HR.out hb)
     clear hb cd ce
     have ce := sg_deed HM1.out (k := k + 3) (by omega) (by omega)
     have cc := cell_at HR1.out 2 rfl
     have ca := cell_at HR1.out 3 rfl
     have cq := cell_at HR1.out 4 rfl
     go_wp2_with fail
     refine (HU.out _).mono ?_
     rintro e w2 ⟨rfl, hw⟩; subst hw
     go_wp2_with fail
     go_ret
     exact ⟨ret_int HF.out.symm, HB1.out⟩
   ·have hc1 := beqF hc
    have HF := Hd (show kindI s k c a q true = 3 by unfold kindI; simp [hh, hc])
    clear hc
    obtain ⟨HB, HM, HR⟩ := kbox w s tSaga o d c a q
    have HW := Hd (fun W => want_any s k W ⟨by omega, by omega⟩)
    have HU := Hd (fun W => undoes_any k W ⟨by omega, by omega⟩)
    rw [show undoI k = (0, false) by unfold undoI; rw [if_neg (by omega)]] at HU
    have cd := sg_deed HM.out h0 h6
    rw [hh] at cd
    have ce := sg_deed HM.out (k := k + 3) (by omega) (by omega)
    clear hh
    go_enter Tryz.func154, Tryz.ntmps154
    go_wp2_with fail
    refine (HW.out _).mono ?_
    rintro e w1 ⟨rfl, hb⟩
    have HB1 := Hd (bch HB.out hb HB.out.size)
    have HM1 := Hd (heap_keep HM.out hb)
    have HR1 := Hd (heap_keep HR.out hb)
    clear hb cd ce
    have ce := sg_deed HM1.out (k := k + 3) (by omega) (by omega)
    have cc := cell_at HR1.out 2 rfl
    have ca := cell_at HR1.out 3 rfl
    have cq := cell_at HR1.out 4 rfl
    go_wp2_with fail
    refine (HU.out _).mono ?_
    rintro e w2 ⟨rfl, hw⟩; subst hw
    go_wp2_with fail
    go_ret
    exact ⟨ret_int HF.out.symm, HB1.out⟩
 ·cases ok with
  | false =>
   have HF := Hd (show kindI s k c a q false = 2 by unfold kindI; simp [hh])
   obtain ⟨HB, HM, HR⟩ := kbox w s tSaga o d c a q
   have HW := Hd (fun W => want_any s k W ⟨by omega, by omega⟩)
   have HU := Hd (fun W => undoes_any k W ⟨by omega, by omega⟩)
   rw [show undoI k = (0, false) by unfold undoI; rw [if_neg (by omega)]] at HU
   have cd := sg_deed HM.out h0 h6
   rw [hh] at cd
   have ce := sg_deed HM.out (k := k + 3) (by omega) (by omega)
   clear hh
   go_enter Tryz.func154, Tryz.ntmps154
   go_wp2_with fail
   refine (HW.out _).mono ?_
   rintro e w1 ⟨rfl, hb⟩
   have HB1 := Hd (bch HB.out hb HB.out.size)
   have HM1 := Hd (heap_keep HM.out hb)
   have HR1 := Hd (heap_keep HR.out hb)
   clear hb cd ce
   have ce := sg_deed HM1.out (k := k + 3) (by omega) (by omega)
   have cc := cell_at HR1.out 2 rfl
   have ca := cell_at HR1.out 3 rfl
   have cq := cell_at HR1.out 4 rfl
   go_wp2_with fail
   refine (HU.out _).mono ?_
   rintro e w2 ⟨rfl, hw⟩; subst hw
   go_wp2_with fail
   go_ret
   exact ⟨ret_int HF.out.symm, HB1.out⟩
  | true =>
   by_cases hc : c = 1
   ·subst hc
    have HF := Hd (show kindI s k 1 a q true = 3 by unfold kindI; simp [hh])
    obtain ⟨HB, HM, HR⟩ := kbox w s tSaga o d 1 a q
    have HW := Hd (fun W => want_any s k W ⟨by omega, by omega⟩)
    have HU := Hd (fun W => undoes_any k W ⟨by omega, by omega⟩)
    rw [show undoI k = (0, false) by unfold undoI; rw [if_neg (by omega)]] at HU
    have cd := sg_deed HM.out h0 h6
    rw [hh] at cd
    have ce := sg_deed HM.out (k := k + 3) (by omega) (by omega)
    clear hh
    go_enter Tryz.func154, Tryz.ntmps154
    go_wp2_with fail
    refine (HW.out _).mono ?_
    rintro e w1 ⟨rfl, hb⟩
    have HB1 := Hd (bch HB.out hb HB.out.size)
    have HM1 := Hd (heap_keep HM.out hb)
    have HR1 := Hd (heap_keep HR.out hb)
    clear hb cd ce
    have ce := sg_deed HM1.out (k := k + 3) (by omega) (by omega)
    have cc := cell_at HR1.out 2 rfl
    have ca := cell_at HR1.out 3 rfl
    have cq := cell_at HR1.out 4 rfl
    go_wp2_with fail
    refine (HU.out _).mono ?_
    rintro e w2 ⟨rfl, hw⟩; subst hw
    go_wp2_with fail
    go_ret
    exact ⟨ret_int HF.out.symm, HB1.out⟩
   ·have hc1 := beqF hc
    have HF := Hd (show kindI s k c a q true = 0 by unfold kindI; simp [hh, hc])
    clear hc
    obtain ⟨HB, HM, HR⟩ := kbox w s tSaga o d c a q
    have HW := Hd (fun W => want_any s k W ⟨by omega, by omega⟩)
    have HU := Hd (fun W => undoes_any k W ⟨by omega, by omega⟩)
    rw [show undoI k = (0, false) by unfold undoI; rw [if_neg (by omega)]] at HU
    have cd := sg_deed HM.out h0 h6
    rw [hh] at cd
    have ce := sg_deed HM.out (k := k + 3) (by omega) (by omega)
    clear hh
    go_enter Tryz.func154, Tryz.ntmps154
    go_wp2_with fail
    refine (HW.out _).mono ?_
    rintro e w1 ⟨rfl, hb⟩
    have HB1 := Hd (bch HB.out hb HB.out.size)
    have HM1 := Hd (heap_keep HM.out hb)
    have HR1 := Hd (heap_keep HR.out hb)
    clear hb cd ce
    have ce := sg_deed HM1.out (k := k + 3) (by omega) (by omega)
    have cc := cell_at HR1.out 2 rfl
    have ca := cell_at HR1.out 3 rfl
    have cq := cell_at HR1.out 4 rfl
    go_wp2_with fail
    refine (HU.out _).mono ?_
    rintro e w2 ⟨rfl, hw⟩; subst hw
    go_wp2_with fail
    go_ret
    exact ⟨ret_int HF.out.symm, HB1.out⟩
 ·by_cases hs : s.deed (k + 3) = 2
  ·have hs1 := beqT hs
   have HF := Hd (show kindI s k c a q ok = 0 by unfold kindI; simp [hh, hs, show k < 3 by omega])
   clear hs
   obtain ⟨HB, HM, HR⟩ := kbox w s tSaga o d c a q
   have HW := Hd (fun W => want_any s k W ⟨by omega, by omega⟩)
   have HU := Hd (fun W => undoes_any k W ⟨by omega, by omega⟩)
   rw [show undoI k = (0, false) by unfold undoI; rw [if_neg (by omega)]] at HU
   have cd := sg_deed HM.out h0 h6
   rw [hh] at cd
   have ce := sg_deed HM.out (k := k + 3) (by omega) (by omega)
   clear hh
   go_enter Tryz.func154, Tryz.ntmps154
   go_wp2_with fail
   refine (HW.out _).mono ?_
   rintro e w1 ⟨rfl, hb⟩
   have HB1 := Hd (bch HB.out hb HB.out.size)
   have HM1 := Hd (heap_keep HM.out hb)
   have HR1 := Hd (heap_keep HR.out hb)
   clear hb cd ce
   have ce := sg_deed HM1.out (k := k + 3) (by omega) (by omega)
   have cc := cell_at HR1.out 2 rfl
   have ca := cell_at HR1.out 3 rfl
   have cq := cell_at HR1.out 4 rfl
   go_wp2_with fail
   refine (HU.out _).mono ?_
   rintro e w2 ⟨rfl, hw⟩; subst hw
   go_wp2_with fail
   go_ret
   exact ⟨ret_int HF.out.symm, HB1.out⟩
  ·have hs1 := beqF hs
   cases ok with
   | false =>
    have HF := Hd (show kindI s k c a q false = 0 by unfold kindI; simp [hh, hs, show k < 3 by omega])
    clear hs
    obtain ⟨HB, HM, HR⟩ := kbox w s tSaga o d c a q
    have HW := Hd (fun W => want_any s k W ⟨by omega, by omega⟩)
    have HU := Hd (fun W => undoes_any k W ⟨by omega, by omega⟩)
    rw [show undoI k = (0, false) by unfold undoI; rw [if_neg (by omega)]] at HU
    have cd := sg_deed HM.out h0 h6
    rw [hh] at cd
    have ce := sg_deed HM.out (k := k + 3) (by omega) (by omega)
    clear hh
    go_enter Tryz.func154, Tryz.ntmps154
    go_wp2_with fail
    refine (HW.out _).mono ?_
    rintro e w1 ⟨rfl, hb⟩
    have HB1 := Hd (bch HB.out hb HB.out.size)
    have HM1 := Hd (heap_keep HM.out hb)
    have HR1 := Hd (heap_keep HR.out hb)
    clear hb cd ce
    have ce := sg_deed HM1.out (k := k + 3) (by omega) (by omega)
    have cc := cell_at HR1.out 2 rfl
    have ca := cell_at HR1.out 3 rfl
    have cq := cell_at HR1.out 4 rfl
    go_wp2_with fail
    refine (HU.out _).mono ?_
    rintro e w2 ⟨rfl, hw⟩; subst hw
    go_wp2_with fail
    go_ret
    exact ⟨ret_int HF.out.symm, HB1.out⟩
   | true =>
    by_cases hc : c = 1
    ·subst hc
     have HF := Hd (show kindI s k 1 a q true = 1 by unfold kindI; simp [hh, hs, show k < 3 by omega])
     clear hs
     obtain ⟨HB, HM, HR⟩ := kbox w s tSaga o d 1 a q
     have HW := Hd (fun W => want_any s k W ⟨by omega, by omega⟩)
     have HU := Hd (fun W => undoes_any k W ⟨by omega, by omega⟩)
     rw [show undoI k = (0, false) by unfold undoI; rw [if_neg (by omega)]] at HU
     have cd := sg_deed HM.out h0 h6
     rw [hh] at cd
     have ce := sg_deed HM.out (k := k + 3) (by omega) (by omega)
     clear hh
     go_enter Tryz.func154, Tryz.ntmps154
     go_wp2_with fail
     refine (HW.out _).mono ?_
     rintro e w1 ⟨rfl, hb⟩
     have HB1 := Hd (bch HB.out hb HB.out.size)
     have HM1 := Hd (heap_keep HM.out hb)
     have HR1 := Hd (heap_keep HR.out hb)
     clear hb cd ce
     have ce := sg_deed HM1.out (k := k + 3) (by omega) (by omega)
     have cc := cell_at HR1.out 2 rfl
     have ca := cell_at HR1.out 3 rfl
     have cq := cell_at HR1.out 4 rfl
     go_wp2_with fail
     refine (HU.out _).mono ?_
     rintro e w2 ⟨rfl, hw⟩; subst hw
     go_wp2_with fail
     go_ret
     exact ⟨ret_int HF.out.symm, HB1.out⟩
    ·have hc1 := beqF hc
     have HF := Hd (show kindI s k c a q true = 0 by unfold kindI; simp [hh, hc, hs, show k < 3 by omega])
     clear hs
     clear hc
     obtain ⟨HB, HM, HR⟩ := kbox w s tSaga o d c a q
     have HW := Hd (fun W => want_any s k W ⟨by omega, by omega⟩)
     have HU := Hd (fun W => undoes_any k W ⟨by omega, by omega⟩)
     rw [show undoI k = (0, false) by unfold undoI; rw [if_neg (by omega)]] at HU
     have cd := sg_deed HM.out h0 h6
     rw [hh] at cd
     have ce := sg_deed HM.out (k := k + 3) (by omega) (by omega)
     clear hh
     go_enter Tryz.func154, Tryz.ntmps154
     go_wp2_with fail
     refine (HW.out _).mono ?_
     rintro e w1 ⟨rfl, hb⟩
     have HB1 := Hd (bch HB.out hb HB.out.size)
     have HM1 := Hd (heap_keep HM.out hb)
     have HR1 := Hd (heap_keep HR.out hb)
     clear hb cd ce
     have ce := sg_deed HM1.out (k := k + 3) (by omega) (by omega)
     have cc := cell_at HR1.out 2 rfl
     have ca := cell_at HR1.out 3 rfl
     have cq := cell_at HR1.out 4 rfl
     go_wp2_with fail
     refine (HU.out _).mono ?_
     rintro e w2 ⟨rfl, hw⟩; subst hw
     go_wp2_with fail
     go_ret
     exact ⟨ret_int HF.out.symm, HB1.out⟩
theorem known_hi (s : Sg) (k o d c a q : Int) (ok : Bool) (w : World) (h3 : 3 ≤ k) (h6 : k < 6) :
  Calls Tryz.prog 154 #[sgV s, .int .i64 k, .agg #[.int .i64 o, .int .i64 d, .int .i64 c, .int .i64 a, .int .i64 q], .bool ok] w fun e w' => e = .returned (.int .i64 (kindI s k c a q ok)) ∧ Below w.heap.size w w' := by
 have h0 : 0 ≤ k := by omega
 by_cases hl : s.deed k < 0
 ·have HF := Hd (show kindI s k c a q ok = 0 by unfold kindI; simp [hl])
  obtain ⟨HB, HM, HR⟩ := kbox w s tSaga o d c a q
  have HW := Hd (fun W => want_any s k W ⟨by omega, by omega⟩)
  have HU := Hd (fun W => undoes_any k W ⟨by omega, by omega⟩)
  rw [show undoI k = (k - 3, true) by unfold undoI; rw [if_pos (by omega)]] at HU
  have cd := sg_deed HM.out h0 h6
  have ce := sg_deed HM.out (k := k - 3) (by omega) (by omega)
  go_enter Tryz.func154, Tryz.ntmps154
  go_wp2_with fail
  refine (HW.out _).mono ?_
  rintro e w1 ⟨rfl, hb⟩
  have HB1 := Hd (bch HB.out hb HB.out.size)
  have HM1 := Hd (heap_keep HM.out hb)
  have HR1 := Hd (heap_keep HR.out hb)
  clear hb cd ce
  have ce := sg_deed HM1.out (k := k - 3) (by omega) (by omega)
  have cc := cell_at HR1.out 2 rfl
  have ca := cell_at HR1.out 3 rfl
  have cq := cell_at HR1.out 4 rfl
  go_wp2_with fail
  refine (HU.out _).mono ?_
  rintro e w2 ⟨rfl, hw⟩; subst hw
  go_wp2_with fail
  go_ret
  exact ⟨ret_int HF.out.symm, HB1.out⟩
 by_cases hg : 4 < s.deed k
 ·have HF := Hd (show kindI s k c a q ok = 0 by unfold kindI; simp [hg])
  obtain ⟨HB, HM, HR⟩ := kbox w s tSaga o d c a q
  have HW := Hd (fun W => want_any s k W ⟨by omega, by omega⟩)
  have HU := Hd (fun W => undoes_any k W ⟨by omega, by omega⟩)
  rw [show undoI k = (k - 3, true) by unfold undoI; rw [if_pos (by omega)]] at HU
  have cd := sg_deed HM.out h0 h6
  have ce := sg_deed HM.out (k := k - 3) (by omega) (by omega)
  go_enter Tryz.func154, Tryz.ntmps154
  go_wp2_with fail
  refine (HW.out _).mono ?_
  rintro e w1 ⟨rfl, hb⟩
  have HB1 := Hd (bch HB.out hb HB.out.size)
  have HM1 := Hd (heap_keep HM.out hb)
  have HR1 := Hd (heap_keep HR.out hb)
  clear hb cd ce
  have ce := sg_deed HM1.out (k := k - 3) (by omega) (by omega)
  have cc := cell_at HR1.out 2 rfl
  have ca := cell_at HR1.out 3 rfl
  have cq := cell_at HR1.out 4 rfl
  go_wp2_with fail
  refine (HU.out _).mono ?_
  rintro e w2 ⟨rfl, hw⟩; subst hw
  go_wp2_with fail
  go_ret
  exact ⟨ret_int HF.out.symm, HB1.out⟩
 rcases (show s.deed k = 0 ∨ s.deed k = 1 ∨ s.deed k = 2 ∨ s.deed k = 3 ∨ s.deed k = 4 by omega) with hh | hh | hh | hh | hh
 all_goals clear hl hg
 ·cases ok with
  | false =>
   have HF := Hd (show kindI s k c a q false = 0 by unfold kindI; simp [hh])
   obtain ⟨HB, HM, HR⟩ := kbox w s tSaga o d c a q
   have HW := Hd (fun W => want_any s k W ⟨by omega, by omega⟩)
   have HU := Hd (fun W => undoes_any k W ⟨by omega, by omega⟩)
   rw [show undoI k = (k - 3, true) by unfold undoI; rw [if_pos (by omega)]] at HU
   have cd := sg_deed HM.out h0 h6
   rw [hh] at cd
   have ce := sg_deed HM.out (k := k - 3) (by omega) (by omega)
   clear hh
   go_enter Tryz.func154, Tryz.ntmps154
   go_wp2_with fail
   refine (HW.out _).mono ?_
   rintro e w1 ⟨rfl, hb⟩
   have HB1 := Hd (bch HB.out hb HB.out.size)
   have HM1 := Hd (heap_keep HM.out hb)
   have HR1 := Hd (heap_keep HR.out hb)
   clear hb cd ce
   have ce := sg_deed HM1.out (k := k - 3) (by omega) (by omega)
   have cc := cell_at HR1.out 2 rfl
   have ca := cell_at HR1.out 3 rfl
   have cq := cell_at HR1.out 4 rfl
   go_wp2_with fail
   refine (HU.out _).mono ?_
   rintro e w2 ⟨rfl, hw⟩; subst hw
   go_wp2_with fail
   go_ret
   exact ⟨ret_int HF.out.symm, HB1.out⟩
  | true =>
   have HF := Hd (show kindI s k c a q true = 5 by unfold kindI; simp [hh])
   obtain ⟨HB, HM, HR⟩ := kbox w s tSaga o d c a q
   have HW := Hd (fun W => want_any s k W ⟨by omega, by omega⟩)
   have HU := Hd (fun W => undoes_any k W ⟨by omega, by omega⟩)
   rw [show undoI k = (k - 3, true) by unfold undoI; rw [if_pos (by omega)]] at HU
   have cd := sg_deed HM.out h0 h6
   rw [hh] at cd
   have ce := sg_deed HM.out (k := k - 3) (by omega) (by omega)
   clear hh
   go_enter Tryz.func154, Tryz.ntmps154
   go_wp2_with fail
   refine (HW.out _).mono ?_
   rintro e w1 ⟨rfl, hb⟩
   have HB1 := Hd (bch HB.out hb HB.out.size)
   have HM1 := Hd (heap_keep HM.out hb)
   have HR1 := Hd (heap_keep HR.out hb)
   clear hb cd ce
   have ce := sg_deed HM1.out (k := k - 3) (by omega) (by omega)
   have cc := cell_at HR1.out 2 rfl
   have ca := cell_at HR1.out 3 rfl
   have cq := cell_at HR1.out 4 rfl
   go_wp2_with fail
   refine (HU.out _).mono ?_
   rintro e w2 ⟨rfl, hw⟩; subst hw
   go_wp2_with fail
   go_ret
   exact ⟨ret_int HF.out.symm, HB1.out⟩
 ·cases ok with
  | false =>
   have HF := Hd (show kindI s k c a q false = 0 by unfold kindI; simp [hh])
   obtain ⟨HB, HM, HR⟩ := kbox w s tSaga o d c a q
   have HW := Hd (fun W => want_any s k W ⟨by omega, by omega⟩)
   have HU := Hd (fun W => undoes_any k W ⟨by omega, by omega⟩)
   rw [show undoI k = (k - 3, true) by unfold undoI; rw [if_pos (by omega)]] at HU
   have cd := sg_deed HM.out h0 h6
   rw [hh] at cd
   have ce := sg_deed HM.out (k := k - 3) (by omega) (by omega)
   clear hh
   go_enter Tryz.func154, Tryz.ntmps154
   go_wp2_with fail
   refine (HW.out _).mono ?_
   rintro e w1 ⟨rfl, hb⟩
   have HB1 := Hd (bch HB.out hb HB.out.size)
   have HM1 := Hd (heap_keep HM.out hb)
   have HR1 := Hd (heap_keep HR.out hb)
   clear hb cd ce
   have ce := sg_deed HM1.out (k := k - 3) (by omega) (by omega)
   have cc := cell_at HR1.out 2 rfl
   have ca := cell_at HR1.out 3 rfl
   have cq := cell_at HR1.out 4 rfl
   go_wp2_with fail
   refine (HU.out _).mono ?_
   rintro e w2 ⟨rfl, hw⟩; subst hw
   go_wp2_with fail
   go_ret
   exact ⟨ret_int HF.out.symm, HB1.out⟩
  | true =>
   by_cases hc : c = 1
   ·subst hc
    have HF := Hd (show kindI s k 1 a q true = 1 by unfold kindI; simp [hh])
    obtain ⟨HB, HM, HR⟩ := kbox w s tSaga o d 1 a q
    have HW := Hd (fun W => want_any s k W ⟨by omega, by omega⟩)
    have HU := Hd (fun W => undoes_any k W ⟨by omega, by omega⟩)
    rw [show undoI k = (k - 3, true) by unfold undoI; rw [if_pos (by omega)]] at HU
    have cd := sg_deed HM.out h0 h6
    rw [hh] at cd
    have ce := sg_deed HM.out (k := k - 3) (by omega) (by omega)
    clear hh
    go_enter Tryz.func154, Tryz.ntmps154
    go_wp2_with fail
    refine (HW.out _).mono ?_
    rintro e w1 ⟨rfl, hb⟩
    have HB1 := Hd (bch HB.out hb HB.out.size)
    have HM1 := Hd (heap_keep HM.out hb)
    have HR1 := Hd (heap_keep HR.out hb)
    clear hb cd ce
    have ce := sg_deed HM1.out (k := k - 3) (by omega) (by omega)
    have cc := cell_at HR1.out 2 rfl
    have ca := cell_at HR1.out 3 rfl
    have cq := cell_at HR1.out 4 rfl
    go_wp2_with fail
    refine (HU.out _).mono ?_
    rintro e w2 ⟨rfl, hw⟩; subst hw
    go_wp2_with fail
    go_ret
    exact ⟨ret_int HF.out.symm, HB1.out⟩
   ·have hc1 := beqF hc
    have HF := Hd (show kindI s k c a q true = 0 by unfold kindI; simp [hh, hc])
    clear hc
    obtain ⟨HB, HM, HR⟩ := kbox w s tSaga o d c a q
    have HW := Hd (fun W => want_any s k W ⟨by omega, by omega⟩)
    have HU := Hd (fun W => undoes_any k W ⟨by omega, by omega⟩)
    rw [show undoI k = (k - 3, true) by unfold undoI; rw [if_pos (by omega)]] at HU
    have cd := sg_deed HM.out h0 h6
    rw [hh] at cd
    have ce := sg_deed HM.out (k := k - 3) (by omega) (by omega)
    clear hh
    go_enter Tryz.func154, Tryz.ntmps154
    go_wp2_with fail
    refine (HW.out _).mono ?_
    rintro e w1 ⟨rfl, hb⟩
    have HB1 := Hd (bch HB.out hb HB.out.size)
    have HM1 := Hd (heap_keep HM.out hb)
    have HR1 := Hd (heap_keep HR.out hb)
    clear hb cd ce
    have ce := sg_deed HM1.out (k := k - 3) (by omega) (by omega)
    have cc := cell_at HR1.out 2 rfl
    have ca := cell_at HR1.out 3 rfl
    have cq := cell_at HR1.out 4 rfl
    go_wp2_with fail
    refine (HU.out _).mono ?_
    rintro e w2 ⟨rfl, hw⟩; subst hw
    go_wp2_with fail
    go_ret
    exact ⟨ret_int HF.out.symm, HB1.out⟩
 ·cases ok with
  | false =>
   have HF := Hd (show kindI s k c a q false = 2 by unfold kindI; simp [hh])
   obtain ⟨HB, HM, HR⟩ := kbox w s tSaga o d c a q
   have HW := Hd (fun W => want_any s k W ⟨by omega, by omega⟩)
   have HU := Hd (fun W => undoes_any k W ⟨by omega, by omega⟩)
   rw [show undoI k = (k - 3, true) by unfold undoI; rw [if_pos (by omega)]] at HU
   have cd := sg_deed HM.out h0 h6
   rw [hh] at cd
   have ce := sg_deed HM.out (k := k - 3) (by omega) (by omega)
   clear hh
   go_enter Tryz.func154, Tryz.ntmps154
   go_wp2_with fail
   refine (HW.out _).mono ?_
   rintro e w1 ⟨rfl, hb⟩
   have HB1 := Hd (bch HB.out hb HB.out.size)
   have HM1 := Hd (heap_keep HM.out hb)
   have HR1 := Hd (heap_keep HR.out hb)
   clear hb cd ce
   have ce := sg_deed HM1.out (k := k - 3) (by omega) (by omega)
   have cc := cell_at HR1.out 2 rfl
   have ca := cell_at HR1.out 3 rfl
   have cq := cell_at HR1.out 4 rfl
   go_wp2_with fail
   refine (HU.out _).mono ?_
   rintro e w2 ⟨rfl, hw⟩; subst hw
   go_wp2_with fail
   go_ret
   exact ⟨ret_int HF.out.symm, HB1.out⟩
  | true =>
   by_cases hc : c = 1
   ·subst hc
    by_cases hs : s.deed (k - 3) = 2
    ·have hs1 := beqT hs
     by_cases ha : a = (wantI s k).1
     ·have ha1 := bneF ha
      have ha2 := beqT ha
      by_cases hq : q = (wantI s k).2
      ·have hq1 := bneF hq
       have hq2 := beqT hq
       have HF := Hd (show kindI s k 1 a q true = 0 by unfold kindI; simp [hh, ← ha, ← hq])
       clear ha hq hs
       obtain ⟨HB, HM, HR⟩ := kbox w s tSaga o d 1 a q
       have HW := Hd (fun W => want_any s k W ⟨by omega, by omega⟩)
       have HU := Hd (fun W => undoes_any k W ⟨by omega, by omega⟩)
       rw [show undoI k = (k - 3, true) by unfold undoI; rw [if_pos (by omega)]] at HU
       have cd := sg_deed HM.out h0 h6
       rw [hh] at cd
       have ce := sg_deed HM.out (k := k - 3) (by omega) (by omega)
       clear hh
       go_enter Tryz.func154, Tryz.ntmps154
       go_wp2_with fail
       refine (HW.out _).mono ?_
       rintro e w1 ⟨rfl, hb⟩
       have HB1 := Hd (bch HB.out hb HB.out.size)
       have HM1 := Hd (heap_keep HM.out hb)
       have HR1 := Hd (heap_keep HR.out hb)
       clear hb cd ce
       have ce := sg_deed HM1.out (k := k - 3) (by omega) (by omega)
       have cc := cell_at HR1.out 2 rfl
       have ca := cell_at HR1.out 3 rfl
       have cq := cell_at HR1.out 4 rfl
       go_wp2_with fail
       refine (HU.out _).mono ?_
       rintro e w2 ⟨rfl, hw⟩; subst hw
       go_wp2_with fail
       go_ret
       exact ⟨ret_int HF.out.symm, HB1.out⟩
      ·have hq1 := bneT hq
       have hq2 := beqF hq
       have HF := Hd (show kindI s k 1 a q true = 4 by unfold kindI; simp [hh, ← ha, hq, hs])
       clear ha hq hs
       obtain ⟨HB, HM, HR⟩ := kbox w s tSaga o d 1 a q
       have HW := Hd (fun W => want_any s k W ⟨by omega, by omega⟩)
       have HU := Hd (fun W => undoes_any k W ⟨by omega, by omega⟩)
       rw [show undoI k = (k - 3, true) by unfold undoI; rw [if_pos (by omega)]] at HU
       have cd := sg_deed HM.out h0 h6
       rw [hh] at cd
       have ce := sg_deed HM.out (k := k - 3) (by omega) (by omega)
       clear hh
       go_enter Tryz.func154, Tryz.ntmps154
       go_wp2_with fail
       refine (HW.out _).mono ?_
       rintro e w1 ⟨rfl, hb⟩
       have HB1 := Hd (bch HB.out hb HB.out.size)
       have HM1 := Hd (heap_keep HM.out hb)
       have HR1 := Hd (heap_keep HR.out hb)
       clear hb cd ce
       have ce := sg_deed HM1.out (k := k - 3) (by omega) (by omega)
       have cc := cell_at HR1.out 2 rfl
       have ca := cell_at HR1.out 3 rfl
       have cq := cell_at HR1.out 4 rfl
       go_wp2_with fail
       refine (HU.out _).mono ?_
       rintro e w2 ⟨rfl, hw⟩; subst hw
       go_wp2_with fail
       go_ret
       exact ⟨ret_int HF.out.symm, HB1.out⟩
     ·have ha1 := bneT ha
      have ha2 := beqF ha
      have HF := Hd (show kindI s k 1 a q true = 4 by unfold kindI; simp [hh, ha, hs])
      clear ha hs
      obtain ⟨HB, HM, HR⟩ := kbox w s tSaga o d 1 a q
      have HW := Hd (fun W => want_any s k W ⟨by omega, by omega⟩)
      have HU := Hd (fun W => undoes_any k W ⟨by omega, by omega⟩)
      rw [show undoI k = (k - 3, true) by unfold undoI; rw [if_pos (by omega)]] at HU
      have cd := sg_deed HM.out h0 h6
      rw [hh] at cd
      have ce := sg_deed HM.out (k := k - 3) (by omega) (by omega)
      clear hh
      go_enter Tryz.func154, Tryz.ntmps154
      go_wp2_with fail
      refine (HW.out _).mono ?_
      rintro e w1 ⟨rfl, hb⟩
      have HB1 := Hd (bch HB.out hb HB.out.size)
      have HM1 := Hd (heap_keep HM.out hb)
      have HR1 := Hd (heap_keep HR.out hb)
      clear hb cd ce
      have ce := sg_deed HM1.out (k := k - 3) (by omega) (by omega)
      have cc := cell_at HR1.out 2 rfl
      have ca := cell_at HR1.out 3 rfl
      have cq := cell_at HR1.out 4 rfl
      go_wp2_with fail
      refine (HU.out _).mono ?_
      rintro e w2 ⟨rfl, hw⟩; subst hw
      go_wp2_with fail
      go_ret
      exact ⟨ret_int HF.out.symm, HB1.out⟩
    ·have hs1 := beqF hs
     have HF := Hd (show kindI s k 1 a q true = 0 by unfold kindI; simp [hh, hs, show ¬ k < 3 by omega])
     clear hs
     obtain ⟨HB, HM, HR⟩ := kbox w s tSaga o d 1 a q
     have HW := Hd (fun W => want_any s k W ⟨by omega, by omega⟩)
     have HU := Hd (fun W => undoes_any k W ⟨by omega, by omega⟩)
     rw [show undoI k = (k - 3, true) by unfold undoI; rw [if_pos (by omega)]] at HU
     have cd := sg_deed HM.out h0 h6
     rw [hh] at cd
     have ce := sg_deed HM.out (k := k - 3) (by omega) (by omega)
     clear hh
     go_enter Tryz.func154, Tryz.ntmps154
     go_wp2_with fail
     refine (HW.out _).mono ?_
     rintro e w1 ⟨rfl, hb⟩
     have HB1 := Hd (bch HB.out hb HB.out.size)
     have HM1 := Hd (heap_keep HM.out hb)
     have HR1 := Hd (heap_keep HR.out hb)
     clear hb cd ce
     have ce := sg_deed HM1.out (k := k - 3) (by omega) (by omega)
     have cc := cell_at HR1.out 2 rfl
     have ca := cell_at HR1.out 3 rfl
     have cq := cell_at HR1.out 4 rfl
     go_wp2_with fail
     refine (HU.out _).mono ?_
     rintro e w2 ⟨rfl, hw⟩; subst hw
     go_wp2_with fail
     go_ret
     exact ⟨ret_int HF.out.symm, HB1.out⟩
   ·have hc1 := beqF hc
    have HF := Hd (show kindI s k c a q true = 3 by unfold kindI; simp [hh, hc])
    clear hc
    obtain ⟨HB, HM, HR⟩ := kbox w s tSaga o d c a q
    have HW := Hd (fun W => want_any s k W ⟨by omega, by omega⟩)
    have HU := Hd (fun W => undoes_any k W ⟨by omega, by omega⟩)
    rw [show undoI k = (k - 3, true) by unfold undoI; rw [if_pos (by omega)]] at HU
    have cd := sg_deed HM.out h0 h6
    rw [hh] at cd
    have ce := sg_deed HM.out (k := k - 3) (by omega) (by omega)
    clear hh
    go_enter Tryz.func154, Tryz.ntmps154
    go_wp2_with fail
    refine (HW.out _).mono ?_
    rintro e w1 ⟨rfl, hb⟩
    have HB1 := Hd (bch HB.out hb HB.out.size)
    have HM1 := Hd (heap_keep HM.out hb)
    have HR1 := Hd (heap_keep HR.out hb)
    clear hb cd ce
    have ce := sg_deed HM1.out (k := k - 3) (by omega) (by omega)
    have cc := cell_at HR1.out 2 rfl
    have ca := cell_at HR1.out 3 rfl
    have cq := cell_at HR1.out 4 rfl
    go_wp2_with fail
    refine (HU.out _).mono ?_
    rintro e w2 ⟨rfl, hw⟩; subst hw
    go_wp2_with fail
    go_ret
    exact ⟨ret_int HF.out.symm, HB1.out⟩
 ·cases ok with
  | false =>
   have HF := Hd (show kindI s k c a q false = 2 by unfold kindI; simp [hh])
   obtain ⟨HB, HM, HR⟩ := kbox w s tSaga o d c a q
   have HW := Hd (fun W => want_any s k W ⟨by omega, by omega⟩)
   have HU := Hd (fun W => undoes_any k W ⟨by omega, by omega⟩)
   rw [show undoI k = (k - 3, true) by unfold undoI; rw [if_pos (by omega)]] at HU
   have cd := sg_deed HM.out h0 h6
   rw [hh] at cd
   have ce := sg_deed HM.out (k := k - 3) (by omega) (by omega)
   clear hh
   go_enter Tryz.func154, Tryz.ntmps154
   go_wp2_with fail
   refine (HW.out _).mono ?_
   rintro e w1 ⟨rfl, hb⟩
   have HB1 := Hd (bch HB.out hb HB.out.size)
   have HM1 := Hd (heap_keep HM.out hb)
   have HR1 := Hd (heap_keep HR.out hb)
   clear hb cd ce
   have ce := sg_deed HM1.out (k := k - 3) (by omega) (by omega)
   have cc := cell_at HR1.out 2 rfl
   have ca := cell_at HR1.out 3 rfl
   have cq := cell_at HR1.out 4 rfl
   go_wp2_with fail
   refine (HU.out _).mono ?_
   rintro e w2 ⟨rfl, hw⟩; subst hw
   go_wp2_with fail
   go_ret
   exact ⟨ret_int HF.out.symm, HB1.out⟩
  | true =>
   by_cases hc : c = 1
   ·subst hc
    have HF := Hd (show kindI s k 1 a q true = 3 by unfold kindI; simp [hh])
    obtain ⟨HB, HM, HR⟩ := kbox w s tSaga o d 1 a q
    have HW := Hd (fun W => want_any s k W ⟨by omega, by omega⟩)
    have HU := Hd (fun W => undoes_any k W ⟨by omega, by omega⟩)
    rw [show undoI k = (k - 3, true) by unfold undoI; rw [if_pos (by omega)]] at HU
    have cd := sg_deed HM.out h0 h6
    rw [hh] at cd
    have ce := sg_deed HM.out (k := k - 3) (by omega) (by omega)
    clear hh
    go_enter Tryz.func154, Tryz.ntmps154
    go_wp2_with fail
    refine (HW.out _).mono ?_
    rintro e w1 ⟨rfl, hb⟩
    have HB1 := Hd (bch HB.out hb HB.out.size)
    have HM1 := Hd (heap_keep HM.out hb)
    have HR1 := Hd (heap_keep HR.out hb)
    clear hb cd ce
    have ce := sg_deed HM1.out (k := k - 3) (by omega) (by omega)
    have cc := cell_at HR1.out 2 rfl
    have ca := cell_at HR1.out 3 rfl
    have cq := cell_at HR1.out 4 rfl
    go_wp2_with fail
    refine (HU.out _).mono ?_
    rintro e w2 ⟨rfl, hw⟩; subst hw
    go_wp2_with fail
    go_ret
    exact ⟨ret_int HF.out.symm, HB1.out⟩
   ·have hc1 := beqF hc
    have HF := Hd (show kindI s k c a q true = 0 by unfold kindI; simp [hh, hc])
    clear hc
    obtain ⟨HB, HM, HR⟩ := kbox w s tSaga o d c a q
    have HW := Hd (fun W => want_any s k W ⟨by omega, by omega⟩)
    have HU := Hd (fun W => undoes_any k W ⟨by omega, by omega⟩)
    rw [show undoI k = (k - 3, true) by unfold undoI; rw [if_pos (by omega)]] at HU
    have cd := sg_deed HM.out h0 h6
    rw [hh] at cd
    have ce := sg_deed HM.out (k := k - 3) (by omega) (by omega)
    clear hh
    go_enter Tryz.func154, Tryz.ntmps154
    go_wp2_with fail
    refine (HW.out _).mono ?_
    rintro e w1 ⟨rfl, hb⟩
    have HB1 := Hd (bch HB.out hb HB.out.size)
    have HM1 := Hd (heap_keep HM.out hb)
    have HR1 := Hd (heap_keep HR.out hb)
    clear hb cd ce
    have ce := sg_deed HM1.out (k := k - 3) (by omega) (by omega)
    have cc := cell_at HR1.out 2 rfl
    have ca := cell_at HR1.out 3 rfl
    have cq := cell_at HR1.out 4 rfl
    go_wp2_with fail
    refine (HU.out _).mono ?_
    rintro e w2 ⟨rfl, hw⟩; subst hw
    go_wp2_with fail
    go_ret
    exact ⟨ret_int HF.out.symm, HB1.out⟩
 ·cases ok with
  | false =>
   have HF := Hd (show kindI s k c a q false = 0 by unfold kindI; simp [hh, show ¬ k < 3 by omega])
   obtain ⟨HB, HM, HR⟩ := kbox w s tSaga o d c a q
   have HW := Hd (fun W => want_any s k W ⟨by omega, by omega⟩)
   have HU := Hd (fun W => undoes_any k W ⟨by omega, by omega⟩)
   rw [show undoI k = (k - 3, true) by unfold undoI; rw [if_pos (by omega)]] at HU
   have cd := sg_deed HM.out h0 h6
   rw [hh] at cd
   have ce := sg_deed HM.out (k := k - 3) (by omega) (by omega)
   clear hh
   go_enter Tryz.func154, Tryz.ntmps154
   go_wp2_with fail
   refine (HW.out _).mono ?_
   rintro e w1 ⟨rfl, hb⟩
   have HB1 := Hd (bch HB.out hb HB.out.size)
   have HM1 := Hd (heap_keep HM.out hb)
   have HR1 := Hd (heap_keep HR.out hb)
   clear hb cd ce
   have ce := sg_deed HM1.out (k := k - 3) (by omega) (by omega)
   have cc := cell_at HR1.out 2 rfl
   have ca := cell_at HR1.out 3 rfl
   have cq := cell_at HR1.out 4 rfl
   go_wp2_with fail
   refine (HU.out _).mono ?_
   rintro e w2 ⟨rfl, hw⟩; subst hw
   go_wp2_with fail
   go_ret
   exact ⟨ret_int HF.out.symm, HB1.out⟩
  | true =>
   by_cases hc : c = 1
   ·subst hc
    have HF := Hd (show kindI s k 1 a q true = 1 by unfold kindI; simp [hh, show ¬ k < 3 by omega])
    obtain ⟨HB, HM, HR⟩ := kbox w s tSaga o d 1 a q
    have HW := Hd (fun W => want_any s k W ⟨by omega, by omega⟩)
    have HU := Hd (fun W => undoes_any k W ⟨by omega, by omega⟩)
    rw [show undoI k = (k - 3, true) by unfold undoI; rw [if_pos (by omega)]] at HU
    have cd := sg_deed HM.out h0 h6
    rw [hh] at cd
    have ce := sg_deed HM.out (k := k - 3) (by omega) (by omega)
    clear hh
    go_enter Tryz.func154, Tryz.ntmps154
    go_wp2_with fail
    refine (HW.out _).mono ?_
    rintro e w1 ⟨rfl, hb⟩
    have HB1 := Hd (bch HB.out hb HB.out.size)
    have HM1 := Hd (heap_keep HM.out hb)
    have HR1 := Hd (heap_keep HR.out hb)
    clear hb cd ce
    have ce := sg_deed HM1.out (k := k - 3) (by omega) (by omega)
    have cc := cell_at HR1.out 2 rfl
    have ca := cell_at HR1.out 3 rfl
    have cq := cell_at HR1.out 4 rfl
    go_wp2_with fail
    refine (HU.out _).mono ?_
    rintro e w2 ⟨rfl, hw⟩; subst hw
    go_wp2_with fail
    go_ret
    exact ⟨ret_int HF.out.symm, HB1.out⟩
   ·have hc1 := beqF hc
    have HF := Hd (show kindI s k c a q true = 0 by unfold kindI; simp [hh, hc, show ¬ k < 3 by omega])
    clear hc
    obtain ⟨HB, HM, HR⟩ := kbox w s tSaga o d c a q
    have HW := Hd (fun W => want_any s k W ⟨by omega, by omega⟩)
    have HU := Hd (fun W => undoes_any k W ⟨by omega, by omega⟩)
    rw [show undoI k = (k - 3, true) by unfold undoI; rw [if_pos (by omega)]] at HU
    have cd := sg_deed HM.out h0 h6
    rw [hh] at cd
    have ce := sg_deed HM.out (k := k - 3) (by omega) (by omega)
    clear hh
    go_enter Tryz.func154, Tryz.ntmps154
    go_wp2_with fail
    refine (HW.out _).mono ?_
    rintro e w1 ⟨rfl, hb⟩
    have HB1 := Hd (bch HB.out hb HB.out.size)
    have HM1 := Hd (heap_keep HM.out hb)
    have HR1 := Hd (heap_keep HR.out hb)
    clear hb cd ce
    have ce := sg_deed HM1.out (k := k - 3) (by omega) (by omega)
    have cc := cell_at HR1.out 2 rfl
    have ca := cell_at HR1.out 3 rfl
    have cq := cell_at HR1.out 4 rfl
    go_wp2_with fail
    refine (HU.out _).mono ?_
    rintro e w2 ⟨rfl, hw⟩; subst hw
    go_wp2_with fail
    go_ret
    exact ⟨ret_int HF.out.symm, HB1.out⟩
theorem known_any (s : Sg) (k o d c a q : Int) (ok : Bool) (w : World) (h0 : 0 ≤ k) (h6 : k < 6) :
  Calls Tryz.prog 154 #[sgV s, .int .i64 k, .agg #[.int .i64 o, .int .i64 d, .int .i64 c, .int .i64 a, .int .i64 q], .bool ok] w fun e w' => e = .returned (.int .i64 (kindI s k c a q ok)) ∧ Below w.heap.size w w' := by
 by_cases h : k < 3
 ·exact known_lo s k o d c a q ok w h0 h
 ·exact known_hi s k o d c a q ok w (by omega) h6
theorem refKind_lo (s : Sg) (k o d c a q : Int) (ok : Bool) (w : World) (h0 : 0 ≤ k) (h3 : k < 3) :
  Calls Tryz.prog 157 #[sgV s, .int .i64 k, .agg #[.int .i64 o, .int .i64 d, .int .i64 c, .int .i64 a, .int .i64 q], .bool ok] w fun e w' => e = .returned (.int .i64 (kindI s k c a q ok)) ∧ Below w.heap.size w w' := by
 have h6 : k < 6 := by omega
 by_cases hl : s.deed k < 0
 ·have HF := Hd (show kindI s k c a q ok = 0 by unfold kindI; simp [hl])
  obtain ⟨HB, HM, HR⟩ := kbox w s tSagaR o d c a q
  have HW := Hd (fun W => refWant_any s k W ⟨by omega, by omega⟩)
  have cd := sg_deed HM.out h0 h6
  have ce := sg_deed HM.out (k := k + 3) (by omega) (by omega)
  go_enter Tryz.func157, Tryz.ntmps157
  go_wp2_with fail
  have cc := cell_at HR.out 2 rfl
  go_quiet (fail)
  go_wp2_with fail
  go_ret
  exact ⟨ret_int HF.out.symm, below_drewN' HB.out _⟩
 by_cases hg : 4 < s.deed k
 ·have HF := Hd (show kindI s k c a q ok = 0 by unfold kindI; simp [hg])
  obtain ⟨HB, HM, HR⟩ := kbox w s tSagaR o d c a q
  have HW := Hd (fun W => refWant_any s k W ⟨by omega, by omega⟩)
  have cd := sg_deed HM.out h0 h6
  have ce := sg_deed HM.out (k := k + 3) (by omega) (by omega)
  go_enter Tryz.func157, Tryz.ntmps157
  go_wp2_with fail
  have cc := cell_at HR.out 2 rfl
  go_quiet (fail)
  go_wp2_with fail
  go_ret
  exact ⟨ret_int HF.out.symm, below_drewN' HB.out _⟩
 rcases (show s.deed k = 0 ∨ s.deed k = 1 ∨ s.deed k = 2 ∨ s.deed k = 3 ∨ s.deed k = 4 by omega) with hh | hh | hh | hh | hh
 all_goals clear hl hg
 ·cases ok with
  | false =>
   have HF := Hd (show kindI s k c a q false = 0 by unfold kindI; simp [hh])
   obtain ⟨HB, HM, HR⟩ := kbox w s tSagaR o d c a q
   have HW := Hd (fun W => refWant_any s k W ⟨by omega, by omega⟩)
   have cd := sg_deed HM.out h0 h6
   rw [hh] at cd
   have ce := sg_deed HM.out (k := k + 3) (by omega) (by omega)
   clear hh
   go_enter Tryz.func157, Tryz.ntmps157
   go_wp2_with fail
   have cc := cell_at HR.out 2 rfl
   go_quiet (fail)
   go_wp2_with fail
   go_ret
   exact ⟨ret_int HF.out.symm, below_drewN' HB.out _⟩
  | true =>
   have HF := Hd (show kindI s k c a q true = 5 by unfold kindI; simp [hh])
   obtain ⟨HB, HM, HR⟩ := kbox w s tSagaR o d c a q
   have HW := Hd (fun W => refWant_any s k W ⟨by omega, by omega⟩)
   have cd := sg_deed HM.out h0 h6
   rw [hh] at cd
   have ce := sg_deed HM.out (k := k + 3) (by omega) (by omega)
   clear hh
   go_enter Tryz.func157, Tryz.ntmps157
   go_wp2_with fail
   have cc := cell_at HR.out 2 rfl
   go_quiet (fail)
   go_wp2_with fail
   go_ret
   exact ⟨ret_int HF.out.symm, below_drewN' HB.out _⟩
 ·cases ok with
  | false =>
   have HF := Hd (show kindI s k c a q false = 0 by unfold kindI; simp [hh])
   obtain ⟨HB, HM, HR⟩ := kbox w s tSagaR o d c a q
   have HW := Hd (fun W => refWant_any s k W ⟨by omega, by omega⟩)
   have cd := sg_deed HM.out h0 h6
   rw [hh] at cd
   have ce := sg_deed HM.out (k := k + 3) (by omega) (by omega)
   clear hh
   go_enter Tryz.func157, Tryz.ntmps157
   go_wp2_with fail
   have cc := cell_at HR.out 2 rfl
   go_quiet (fail)
   go_wp2_with fail
   go_ret
   exact ⟨ret_int HF.out.symm, below_drewN' HB.out _⟩
  | true =>
   by_cases hc : c = 1
   ·subst hc
    have HF := Hd (show kindI s k 1 a q true = 1 by unfold kindI; simp [hh])
    obtain ⟨HB, HM, HR⟩ := kbox w s tSagaR o d 1 a q
    have HW := Hd (fun W => refWant_any s k W ⟨by omega, by omega⟩)
    have cd := sg_deed HM.out h0 h6
    rw [hh] at cd
    have ce := sg_deed HM.out (k := k + 3) (by omega) (by omega)
    clear hh
    go_enter Tryz.func157, Tryz.ntmps157
    go_wp2_with fail
    have cc := cell_at HR.out 2 rfl
    go_quiet (fail)
    go_wp2_with fail
    go_ret
    exact ⟨ret_int HF.out.symm, below_drewN' HB.out _⟩
   ·have hc1 := beqF hc
    have HF := Hd (show kindI s k c a q true = 0 by unfold kindI; simp [hh, hc])
    clear hc
    obtain ⟨HB, HM, HR⟩ := kbox w s tSagaR o d c a q
    have HW := Hd (fun W => refWant_any s k W ⟨by omega, by omega⟩)
    have cd := sg_deed HM.out h0 h6
    rw [hh] at cd
    have ce := sg_deed HM.out (k := k + 3) (by omega) (by omega)
    clear hh
    go_enter Tryz.func157, Tryz.ntmps157
    go_wp2_with fail
    have cc := cell_at HR.out 2 rfl
    go_quiet (fail)
    go_wp2_with fail
    go_ret
    exact ⟨ret_int HF.out.symm, below_drewN' HB.out _⟩
 ·cases ok with
  | false =>
   have HF := Hd (show kindI s k c a q false = 2 by unfold kindI; simp [hh])
   obtain ⟨HB, HM, HR⟩ := kbox w s tSagaR o d c a q
   have HW := Hd (fun W => refWant_any s k W ⟨by omega, by omega⟩)
   have cd := sg_deed HM.out h0 h6
   rw [hh] at cd
   have ce := sg_deed HM.out (k := k + 3) (by omega) (by omega)
   clear hh
   go_enter Tryz.func157, Tryz.ntmps157
   go_wp2_with fail
   have cc := cell_at HR.out 2 rfl
   go_quiet (fail)
   go_wp2_with fail
   go_ret
   exact ⟨ret_int HF.out.symm, below_drewN' HB.out _⟩
  | true =>
   by_cases hc : c = 1
   ·subst hc
    by_cases ha : a = (wantI s k).1
    ·have ha1 := bneF ha
     have ha2 := beqT ha
     by_cases hq : q = (wantI s k).2
     ·have hq1 := bneF hq
      have hq2 := beqT hq
      have HF := Hd (show kindI s k 1 a q true = 0 by unfold kindI; simp [hh, ← ha, ← hq])
      clear ha hq
      obtain ⟨HB, HM, HR⟩ := kbox w s tSagaR o d 1 a q
      have HW := Hd (fun W => refWant_any s k W ⟨by omega, by omega⟩)
      have cd := sg_deed HM.out h0 h6
      rw [hh] at cd
      have ce := sg_deed HM.out (k := k + 3) (by omega) (by omega)
      clear hh
      go_enter Tryz.func157, Tryz.ntmps157
      go_wp2_with fail
      have cc := cell_at HR.out 2 rfl
      go_quiet (fail)
      go_wp2_with fail
      refine (HW.out _).mono ?_
      rintro e w1 ⟨rfl, hb⟩
      have HB1 := Hd (bch (below_drewN' HB.out _) hb (below_drewN' HB.out _).size)
      have HR1 := Hd (heap_keep (w := World.drewN _ _) HR.out hb)
      clear hb cd ce cc
      have ca := cell_at HR1.out 3 rfl
      have cq := cell_at HR1.out 4 rfl
      go_wp2_with fail
      go_ret
      exact ⟨ret_int HF.out.symm, HB1.out⟩
     ·have hq1 := bneT hq
      have hq2 := beqF hq
      have HF := Hd (show kindI s k 1 a q true = 4 by unfold kindI; simp [hh, ← ha, hq, show k < 3 by omega])
      clear ha hq
      obtain ⟨HB, HM, HR⟩ := kbox w s tSagaR o d 1 a q
      have HW := Hd (fun W => refWant_any s k W ⟨by omega, by omega⟩)
      have cd := sg_deed HM.out h0 h6
      rw [hh] at cd
      have ce := sg_deed HM.out (k := k + 3) (by omega) (by omega)
      clear hh
      go_enter Tryz.func157, Tryz.ntmps157
      go_wp2_with fail
      have cc := cell_at HR.out 2 rfl
      go_quiet (fail)
      go_wp2_with fail
      refine (HW.out _).mono ?_
      rintro e w1 ⟨rfl, hb⟩
      have HB1 := Hd (bch (below_drewN' HB.out _) hb (below_drewN' HB.out _).size)
      have HR1 := Hd (heap_keep (w := World.drewN _ _) HR.out hb)
      clear hb cd ce cc
      have ca := cell_at HR1.out 3 rfl
      have cq := cell_at HR1.out 4 rfl
      go_wp2_with fail
      go_ret
      exact ⟨ret_int HF.out.symm, HB1.out⟩
    ·have ha1 := bneT ha
     have ha2 := beqF ha
     have HF := Hd (show kindI s k 1 a q true = 4 by unfold kindI; simp [hh, ha, show k < 3 by omega])
     clear ha
     obtain ⟨HB, HM, HR⟩ := kbox w s tSagaR o d 1 a q
     have HW := Hd (fun W => refWant_any s k W ⟨by omega, by omega⟩)
     have cd := sg_deed HM.out h0 h6
     rw [hh] at cd
     have ce := sg_deed HM.out (k := k + 3) (by omega) (by omega)
     clear hh
     go_enter Tryz.func157, Tryz.ntmps157
     go_wp2_with fail
     have cc := cell_at HR.out 2 rfl
     go_quiet (fail)
     go_wp2_with fail
     refine (HW.out _).mono ?_
     rintro e w1 ⟨rfl, hb⟩
     have HB1 := Hd (bch (below_drewN' HB.out _) hb (below_drewN' HB.out _).size)
     have HR1 := Hd (heap_keep (w := World.drewN _ _) HR.out hb)
     clear hb cd ce cc
     have ca := cell_at HR1.out 3 rfl
     have cq := cell_at HR1.out 4 rfl
     go_wp2_with fail
     go_ret
     exact ⟨ret_int HF.out.symm, HB1.out⟩
   ·have hc1 := beqF hc
    have HF := Hd (show kindI s k c a q true = 3 by unfold kindI; simp [hh, hc])
    clear hc
    obtain ⟨HB, HM, HR⟩ := kbox w s tSagaR o d c a q
    have HW := Hd (fun W => refWant_any s k W ⟨by omega, by omega⟩)
    have cd := sg_deed HM.out h0 h6
    rw [hh] at cd
    have ce := sg_deed HM.out (k := k + 3) (by omega) (by omega)
    clear hh
    go_enter Tryz.func157, Tryz.ntmps157
    go_wp2_with fail
    have cc := cell_at HR.out 2 rfl
    go_quiet (fail)
    go_wp2_with fail
    go_ret
    exact ⟨ret_int HF.out.symm, below_drewN' HB.out _⟩
 ·cases ok with
  | false =>
   have HF := Hd (show kindI s k c a q false = 2 by unfold kindI; simp [hh])
   obtain ⟨HB, HM, HR⟩ := kbox w s tSagaR o d c a q
   have HW := Hd (fun W => refWant_any s k W ⟨by omega, by omega⟩)
   have cd := sg_deed HM.out h0 h6
   rw [hh] at cd
   have ce := sg_deed HM.out (k := k + 3) (by omega) (by omega)
   clear hh
   go_enter Tryz.func157, Tryz.ntmps157
   go_wp2_with fail
   have cc := cell_at HR.out 2 rfl
   go_quiet (fail)
   go_wp2_with fail
   go_ret
   exact ⟨ret_int HF.out.symm, below_drewN' HB.out _⟩
  | true =>
   by_cases hc : c = 1
   ·subst hc
    have HF := Hd (show kindI s k 1 a q true = 3 by unfold kindI; simp [hh])
    obtain ⟨HB, HM, HR⟩ := kbox w s tSagaR o d 1 a q
    have HW := Hd (fun W => refWant_any s k W ⟨by omega, by omega⟩)
    have cd := sg_deed HM.out h0 h6
    rw [hh] at cd
    have ce := sg_deed HM.out (k := k + 3) (by omega) (by omega)
    clear hh
    go_enter Tryz.func157, Tryz.ntmps157
    go_wp2_with fail
    have cc := cell_at HR.out 2 rfl
    go_quiet (fail)
    go_wp2_with fail
    go_ret
    exact ⟨ret_int HF.out.symm, below_drewN' HB.out _⟩
   ·have hc1 := beqF hc
    have HF := Hd (show kindI s k c a q true = 0 by unfold kindI; simp [hh, hc])
    clear hc
    obtain ⟨HB, HM, HR⟩ := kbox w s tSagaR o d c a q
    have HW := Hd (fun W => refWant_any s k W ⟨by omega, by omega⟩)
    have cd := sg_deed HM.out h0 h6
    rw [hh] at cd
    have ce := sg_deed HM.out (k := k + 3) (by omega) (by omega)
    clear hh
    go_enter Tryz.func157, Tryz.ntmps157
    go_wp2_with fail
    have cc := cell_at HR.out 2 rfl
    go_quiet (fail)
    go_wp2_with fail
    go_ret
    exact ⟨ret_int HF.out.symm, below_drewN' HB.out _⟩
 ·by_cases hs : s.deed (k + 3) = 2
  ·have hs1 := beqT hs
   have HF := Hd (show kindI s k c a q ok = 0 by unfold kindI; simp [hh, hs, show k < 3 by omega])
   clear hs
   obtain ⟨HB, HM, HR⟩ := kbox w s tSagaR o d c a q
   have HW := Hd (fun W => refWant_any s k W ⟨by omega, by omega⟩)
   have cd := sg_deed HM.out h0 h6
   rw [hh] at cd
   have ce := sg_deed HM.out (k := k + 3) (by omega) (by omega)
   clear hh
   go_enter Tryz.func157, Tryz.ntmps157
   go_wp2_with fail
   have cc := cell_at HR.out 2 rfl
   go_quiet (fail)
   go_wp2_with fail
   go_ret
   exact ⟨ret_int HF.out.symm, below_drewN' HB.out _⟩
  ·have hs1 := beqF hs
   cases ok with
   | false =>
    have HF := Hd (show kindI s k c a q false = 0 by unfold kindI; simp [hh, hs, show k < 3 by omega])
    clear hs
    obtain ⟨HB, HM, HR⟩ := kbox w s tSagaR o d c a q
    have HW := Hd (fun W => refWant_any s k W ⟨by omega, by omega⟩)
    have cd := sg_deed HM.out h0 h6
    rw [hh] at cd
    have ce := sg_deed HM.out (k := k + 3) (by omega) (by omega)
    clear hh
    go_enter Tryz.func157, Tryz.ntmps157
    go_wp2_with fail
    have cc := cell_at HR.out 2 rfl
    go_quiet (fail)
    go_wp2_with fail
    go_ret
    exact ⟨ret_int HF.out.symm, below_drewN' HB.out _⟩
   | true =>
    by_cases hc : c = 1
    ·subst hc
     have HF := Hd (show kindI s k 1 a q true = 1 by unfold kindI; simp [hh, hs, show k < 3 by omega])
     clear hs
     obtain ⟨HB, HM, HR⟩ := kbox w s tSagaR o d 1 a q
     have HW := Hd (fun W => refWant_any s k W ⟨by omega, by omega⟩)
     have cd := sg_deed HM.out h0 h6
     rw [hh] at cd
     have ce := sg_deed HM.out (k := k + 3) (by omega) (by omega)
     clear hh
     go_enter Tryz.func157, Tryz.ntmps157
     go_wp2_with fail
     have cc := cell_at HR.out 2 rfl
     go_quiet (fail)
     go_wp2_with fail
     go_ret
     exact ⟨ret_int HF.out.symm, below_drewN' HB.out _⟩
    ·have hc1 := beqF hc
     have HF := Hd (show kindI s k c a q true = 0 by unfold kindI; simp [hh, hc, hs, show k < 3 by omega])
     clear hs
     clear hc
     obtain ⟨HB, HM, HR⟩ := kbox w s tSagaR o d c a q
     have HW := Hd (fun W => refWant_any s k W ⟨by omega, by omega⟩)
     have cd := sg_deed HM.out h0 h6
     rw [hh] at cd
     have ce := sg_deed HM.out (k := k + 3) (by omega) (by omega)
     clear hh
     go_enter Tryz.func157, Tryz.ntmps157
     go_wp2_with fail
     have cc := cell_at HR.out 2 rfl
     go_quiet (fail)
     go_wp2_with fail
     go_ret
     exact ⟨ret_int HF.out.symm, below_drewN' HB.out _⟩
theorem refKind_hi (s : Sg) (k o d c a q : Int) (ok : Bool) (w : World) (h3 : 3 ≤ k) (h6 : k < 6) :
  Calls Tryz.prog 157 #[sgV s, .int .i64 k, .agg #[.int .i64 o, .int .i64 d, .int .i64 c, .int .i64 a, .int .i64 q], .bool ok] w fun e w' => e = .returned (.int .i64 (kindI s k c a q ok)) ∧ Below w.heap.size w w' := by
 have h0 : 0 ≤ k := by omega
 by_cases hl : s.deed k < 0
 ·have HF := Hd (show kindI s k c a q ok = 0 by unfold kindI; simp [hl])
  obtain ⟨HB, HM, HR⟩ := kbox w s tSagaR o d c a q
  have HW := Hd (fun W => refWant_any s k W ⟨by omega, by omega⟩)
  have cd := sg_deed HM.out h0 h6
  have ce := sg_deed HM.out (k := k - 3) (by omega) (by omega)
  go_enter Tryz.func157, Tryz.ntmps157
  go_wp2_with fail
  have cc := cell_at HR.out 2 rfl
  go_quiet (fail)
  go_wp2_with fail
  go_ret
  exact ⟨ret_int HF.out.symm, below_drewN' HB.out _⟩
 by_cases hg : 4 < s.deed k
 ·have HF := Hd (show kindI s k c a q ok = 0 by unfold kindI; simp [hg])
  obtain ⟨HB, HM, HR⟩ := kbox w s tSagaR o d c a q
  have HW := Hd (fun W => refWant_any s k W ⟨by omega, by omega⟩)
  have cd := sg_deed HM.out h0 h6
  have ce := sg_deed HM.out (k := k - 3) (by omega) (by omega)
  go_enter Tryz.func157, Tryz.ntmps157
  go_wp2_with fail
  have cc := cell_at HR.out 2 rfl
  go_quiet (fail)
  go_wp2_with fail
  go_ret
  exact ⟨ret_int HF.out.symm, below_drewN' HB.out _⟩
 rcases (show s.deed k = 0 ∨ s.deed k = 1 ∨ s.deed k = 2 ∨ s.deed k = 3 ∨ s.deed k = 4 by omega) with hh | hh | hh | hh | hh
 all_goals clear hl hg
 ·cases ok with
  | false =>
   have HF := Hd (show kindI s k c a q false = 0 by unfold kindI; simp [hh])
   obtain ⟨HB, HM, HR⟩ := kbox w s tSagaR o d c a q
   have HW := Hd (fun W => refWant_any s k W ⟨by omega, by omega⟩)
   have cd := sg_deed HM.out h0 h6
   rw [hh] at cd
   have ce := sg_deed HM.out (k := k - 3) (by omega) (by omega)
   clear hh
   go_enter Tryz.func157, Tryz.ntmps157
   go_wp2_with fail
   have cc := cell_at HR.out 2 rfl
   go_quiet (fail)
   go_wp2_with fail
   go_ret
   exact ⟨ret_int HF.out.symm, below_drewN' HB.out _⟩
  | true =>
   have HF := Hd (show kindI s k c a q true = 5 by unfold kindI; simp [hh])
   obtain ⟨HB, HM, HR⟩ := kbox w s tSagaR o d c a q
   have HW := Hd (fun W => refWant_any s k W ⟨by omega, by omega⟩)
   have cd := sg_deed HM.out h0 h6
   rw [hh] at cd
   have ce := sg_deed HM.out (k := k - 3) (by omega) (by omega)
   clear hh
   go_enter Tryz.func157, Tryz.ntmps157
   go_wp2_with fail
   have cc := cell_at HR.out 2 rfl
   go_quiet (fail)
   go_wp2_with fail
   go_ret
   exact ⟨ret_int HF.out.symm, below_drewN' HB.out _⟩
 ·cases ok with
  | false =>
   have HF := Hd (show kindI s k c a q false = 0 by unfold kindI; simp [hh])
   obtain ⟨HB, HM, HR⟩ := kbox w s tSagaR o d c a q
   have HW := Hd (fun W => refWant_any s k W ⟨by omega, by omega⟩)
   have cd := sg_deed HM.out h0 h6
   rw [hh] at cd
   have ce := sg_deed HM.out (k := k - 3) (by omega) (by omega)
   clear hh
   go_enter Tryz.func157, Tryz.ntmps157
   go_wp2_with fail
   have cc := cell_at HR.out 2 rfl
   go_quiet (fail)
   go_wp2_with fail
   go_ret
   exact ⟨ret_int HF.out.symm, below_drewN' HB.out _⟩
  | true =>
   by_cases hc : c = 1
   ·subst hc
    have HF := Hd (show kindI s k 1 a q true = 1 by unfold kindI; simp [hh])
    obtain ⟨HB, HM, HR⟩ := kbox w s tSagaR o d 1 a q
    have HW := Hd (fun W => refWant_any s k W ⟨by omega, by omega⟩)
    have cd := sg_deed HM.out h0 h6
    rw [hh] at cd
    have ce := sg_deed HM.out (k := k - 3) (by omega) (by omega)
    clear hh
    go_enter Tryz.func157, Tryz.ntmps157
    go_wp2_with fail
    have cc := cell_at HR.out 2 rfl
    go_quiet (fail)
    go_wp2_with fail
    go_ret
    exact ⟨ret_int HF.out.symm, below_drewN' HB.out _⟩
   ·have hc1 := beqF hc
    have HF := Hd (show kindI s k c a q true = 0 by unfold kindI; simp [hh, hc])
    clear hc
    obtain ⟨HB, HM, HR⟩ := kbox w s tSagaR o d c a q
    have HW := Hd (fun W => refWant_any s k W ⟨by omega, by omega⟩)
    have cd := sg_deed HM.out h0 h6
    rw [hh] at cd
    have ce := sg_deed HM.out (k := k - 3) (by omega) (by omega)
    clear hh
    go_enter Tryz.func157, Tryz.ntmps157
    go_wp2_with fail
    have cc := cell_at HR.out 2 rfl
    go_quiet (fail)
    go_wp2_with fail
    go_ret
    exact ⟨ret_int HF.out.symm, below_drewN' HB.out _⟩
 ·cases ok with
  | false =>
   have HF := Hd (show kindI s k c a q false = 2 by unfold kindI; simp [hh])
   obtain ⟨HB, HM, HR⟩ := kbox w s tSagaR o d c a q
   have HW := Hd (fun W => refWant_any s k W ⟨by omega, by omega⟩)
   have cd := sg_deed HM.out h0 h6
   rw [hh] at cd
   have ce := sg_deed HM.out (k := k - 3) (by omega) (by omega)
   clear hh
   go_enter Tryz.func157, Tryz.ntmps157
   go_wp2_with fail
   have cc := cell_at HR.out 2 rfl
   go_quiet (fail)
   go_wp2_with fail
   go_ret
   exact ⟨ret_int HF.out.symm, below_drewN' HB.out _⟩
  | true =>
   by_cases hc : c = 1
   ·subst hc
    by_cases hs : s.deed (k - 3) = 2
    ·have hs1 := beqT hs
     by_cases ha : a = (wantI s k).1
     ·have ha1 := bneF ha
      have ha2 := beqT ha
      by_cases hq : q = (wantI s k).2
      ·have hq1 := bneF hq
       have hq2 := beqT hq
       have HF := Hd (show kindI s k 1 a q true = 0 by unfold kindI; simp [hh, ← ha, ← hq])
       clear ha hq hs
       obtain ⟨HB, HM, HR⟩ := kbox w s tSagaR o d 1 a q
       have HW := Hd (fun W => refWant_any s k W ⟨by omega, by omega⟩)
       have cd := sg_deed HM.out h0 h6
       rw [hh] at cd
       have ce := sg_deed HM.out (k := k - 3) (by omega) (by omega)
       clear hh
       go_enter Tryz.func157, Tryz.ntmps157
       go_wp2_with fail
       have cc := cell_at HR.out 2 rfl
       go_quiet (fail)
       go_wp2_with fail
       refine (HW.out _).mono ?_
       rintro e w1 ⟨rfl, hb⟩
       have HB1 := Hd (bch (below_drewN' HB.out _) hb (below_drewN' HB.out _).size)
       have HR1 := Hd (heap_keep (w := World.drewN _ _) HR.out hb)
       clear hb cd ce cc
       have ca := cell_at HR1.out 3 rfl
       have cq := cell_at HR1.out 4 rfl
       go_wp2_with fail
       go_ret
       exact ⟨ret_int HF.out.symm, HB1.out⟩
      ·have hq1 := bneT hq
       have hq2 := beqF hq
       have HF := Hd (show kindI s k 1 a q true = 4 by unfold kindI; simp [hh, ← ha, hq, hs])
       clear ha hq hs
       obtain ⟨HB, HM, HR⟩ := kbox w s tSagaR o d 1 a q
       have HW := Hd (fun W => refWant_any s k W ⟨by omega, by omega⟩)
       have cd := sg_deed HM.out h0 h6
       rw [hh] at cd
       have ce := sg_deed HM.out (k := k - 3) (by omega) (by omega)
       clear hh
       go_enter Tryz.func157, Tryz.ntmps157
       go_wp2_with fail
       have cc := cell_at HR.out 2 rfl
       go_quiet (fail)
       go_wp2_with fail
       refine (HW.out _).mono ?_
       rintro e w1 ⟨rfl, hb⟩
       have HB1 := Hd (bch (below_drewN' HB.out _) hb (below_drewN' HB.out _).size)
       have HR1 := Hd (heap_keep (w := World.drewN _ _) HR.out hb)
       clear hb cd ce cc
       have ca := cell_at HR1.out 3 rfl
       have cq := cell_at HR1.out 4 rfl
       go_wp2_with fail
       go_ret
       exact ⟨ret_int HF.out.symm, HB1.out⟩
     ·have ha1 := bneT ha
      have ha2 := beqF ha
      have HF := Hd (show kindI s k 1 a q true = 4 by unfold kindI; simp [hh, ha, hs])
      clear ha hs
      obtain ⟨HB, HM, HR⟩ := kbox w s tSagaR o d 1 a q
      have HW := Hd (fun W => refWant_any s k W ⟨by omega, by omega⟩)
      have cd := sg_deed HM.out h0 h6
      rw [hh] at cd
      have ce := sg_deed HM.out (k := k - 3) (by omega) (by omega)
      clear hh
      go_enter Tryz.func157, Tryz.ntmps157
      go_wp2_with fail
      have cc := cell_at HR.out 2 rfl
      go_quiet (fail)
      go_wp2_with fail
      refine (HW.out _).mono ?_
      rintro e w1 ⟨rfl, hb⟩
      have HB1 := Hd (bch (below_drewN' HB.out _) hb (below_drewN' HB.out _).size)
      have HR1 := Hd (heap_keep (w := World.drewN _ _) HR.out hb)
      clear hb cd ce cc
      have ca := cell_at HR1.out 3 rfl
      have cq := cell_at HR1.out 4 rfl
      go_wp2_with fail
      go_ret
      exact ⟨ret_int HF.out.symm, HB1.out⟩
    ·have hs1 := beqF hs
     have HF := Hd (show kindI s k 1 a q true = 0 by unfold kindI; simp [hh, hs, show ¬ k < 3 by omega])
     clear hs
     obtain ⟨HB, HM, HR⟩ := kbox w s tSagaR o d 1 a q
     have HW := Hd (fun W => refWant_any s k W ⟨by omega, by omega⟩)
     have cd := sg_deed HM.out h0 h6
     rw [hh] at cd
     have ce := sg_deed HM.out (k := k - 3) (by omega) (by omega)
     clear hh
     go_enter Tryz.func157, Tryz.ntmps157
     go_wp2_with fail
     have cc := cell_at HR.out 2 rfl
     go_quiet (fail)
     go_wp2_with fail
     go_ret
     exact ⟨ret_int HF.out.symm, below_drewN' HB.out _⟩
   ·have hc1 := beqF hc
    have HF := Hd (show kindI s k c a q true = 3 by unfold kindI; simp [hh, hc])
    clear hc
    obtain ⟨HB, HM, HR⟩ := kbox w s tSagaR o d c a q
    have HW := Hd (fun W => refWant_any s k W ⟨by omega, by omega⟩)
    have cd := sg_deed HM.out h0 h6
    rw [hh] at cd
    have ce := sg_deed HM.out (k := k - 3) (by omega) (by omega)
    clear hh
    go_enter Tryz.func157, Tryz.ntmps157
    go_wp2_with fail
    have cc := cell_at HR.out 2 rfl
    go_quiet (fail)
    go_wp2_with fail
    go_ret
    exact ⟨ret_int HF.out.symm, below_drewN' HB.out _⟩
 ·cases ok with
  | false =>
   have HF := Hd (show kindI s k c a q false = 2 by unfold kindI; simp [hh])
   obtain ⟨HB, HM, HR⟩ := kbox w s tSagaR o d c a q
   have HW := Hd (fun W => refWant_any s k W ⟨by omega, by omega⟩)
   have cd := sg_deed HM.out h0 h6
   rw [hh] at cd
   have ce := sg_deed HM.out (k := k - 3) (by omega) (by omega)
   clear hh
   go_enter Tryz.func157, Tryz.ntmps157
   go_wp2_with fail
   have cc := cell_at HR.out 2 rfl
   go_quiet (fail)
   go_wp2_with fail
   go_ret
   exact ⟨ret_int HF.out.symm, below_drewN' HB.out _⟩
  | true =>
   by_cases hc : c = 1
   ·subst hc
    have HF := Hd (show kindI s k 1 a q true = 3 by unfold kindI; simp [hh])
    obtain ⟨HB, HM, HR⟩ := kbox w s tSagaR o d 1 a q
    have HW := Hd (fun W => refWant_any s k W ⟨by omega, by omega⟩)
    have cd := sg_deed HM.out h0 h6
    rw [hh] at cd
    have ce := sg_deed HM.out (k := k - 3) (by omega) (by omega)
    clear hh
    go_enter Tryz.func157, Tryz.ntmps157
    go_wp2_with fail
    have cc := cell_at HR.out 2 rfl
    go_quiet (fail)
    go_wp2_with fail
    go_ret
    exact ⟨ret_int HF.out.symm, below_drewN' HB.out _⟩
   ·have hc1 := beqF hc
    have HF := Hd (show kindI s k c a q true = 0 by unfold kindI; simp [hh, hc])
    clear hc
    obtain ⟨HB, HM, HR⟩ := kbox w s tSagaR o d c a q
    have HW := Hd (fun W => refWant_any s k W ⟨by omega, by omega⟩)
    have cd := sg_deed HM.out h0 h6
    rw [hh] at cd
    have ce := sg_deed HM.out (k := k - 3) (by omega) (by omega)
    clear hh
    go_enter Tryz.func157, Tryz.ntmps157
    go_wp2_with fail
    have cc := cell_at HR.out 2 rfl
    go_quiet (fail)
    go_wp2_with fail
    go_ret
    exact ⟨ret_int HF.out.symm, below_drewN' HB.out _⟩
 ·cases ok with
  | false =>
   have HF := Hd (show kindI s k c a q false = 0 by unfold kindI; simp [hh, show ¬ k < 3 by omega])
   obtain ⟨HB, HM, HR⟩ := kbox w s tSagaR o d c a q
   have HW := Hd (fun W => refWant_any s k W ⟨by omega, by omega⟩)
   have cd := sg_deed HM.out h0 h6
   rw [hh] at cd
   have ce := sg_deed HM.out (k := k - 3) (by omega) (by omega)
   clear hh
   go_enter Tryz.func157, Tryz.ntmps157
   go_wp2_with fail
   have cc := cell_at HR.out 2 rfl
   go_quiet (fail)
   go_wp2_with fail
   go_ret
   exact ⟨ret_int HF.out.symm, below_drewN' HB.out _⟩
  | true =>
   by_cases hc : c = 1
   ·subst hc
    have HF := Hd (show kindI s k 1 a q true = 1 by unfold kindI; simp [hh, show ¬ k < 3 by omega])
    obtain ⟨HB, HM, HR⟩ := kbox w s tSagaR o d 1 a q
    have HW := Hd (fun W => refWant_any s k W ⟨by omega, by omega⟩)
    have cd := sg_deed HM.out h0 h6
    rw [hh] at cd
    have ce := sg_deed HM.out (k := k - 3) (by omega) (by omega)
    clear hh
    go_enter Tryz.func157, Tryz.ntmps157
    go_wp2_with fail
    have cc := cell_at HR.out 2 rfl
    go_quiet (fail)
    go_wp2_with fail
    go_ret
    exact ⟨ret_int HF.out.symm, below_drewN' HB.out _⟩
   ·have hc1 := beqF hc
    have HF := Hd (show kindI s k c a q true = 0 by unfold kindI; simp [hh, hc, show ¬ k < 3 by omega])
    clear hc
    obtain ⟨HB, HM, HR⟩ := kbox w s tSagaR o d c a q
    have HW := Hd (fun W => refWant_any s k W ⟨by omega, by omega⟩)
    have cd := sg_deed HM.out h0 h6
    rw [hh] at cd
    have ce := sg_deed HM.out (k := k - 3) (by omega) (by omega)
    clear hh
    go_enter Tryz.func157, Tryz.ntmps157
    go_wp2_with fail
    have cc := cell_at HR.out 2 rfl
    go_quiet (fail)
    go_wp2_with fail
    go_ret
    exact ⟨ret_int HF.out.symm, below_drewN' HB.out _⟩
theorem refKind_any (s : Sg) (k o d c a q : Int) (ok : Bool) (w : World) (h0 : 0 ≤ k) (h6 : k < 6) :
  Calls Tryz.prog 157 #[sgV s, .int .i64 k, .agg #[.int .i64 o, .int .i64 d, .int .i64 c, .int .i64 a, .int .i64 q], .bool ok] w fun e w' => e = .returned (.int .i64 (kindI s k c a q ok)) ∧ Below w.heap.size w w' := by
 by_cases h : k < 3
 ·exact refKind_lo s k o d c a q ok w h0 h
 ·exact refKind_hi s k o d c a q ok w (by omega) h6
end Go.Proofs.YtlkncmpengpbiaaGreatDoor

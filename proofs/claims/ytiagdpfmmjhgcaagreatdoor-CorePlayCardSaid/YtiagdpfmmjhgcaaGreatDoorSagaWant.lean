/- What a deed of a saga comes to: the program's Want and the document's. -/
import Derived.Test.YtiagdpfmmjhgcaaGreatDoorSagaMem
import Derived.Test.YtiagdpfmmjhgcaaGreatDoorShort
namespace Go.Proofs.YtiagdpfmmjhgcaaGreatDoor
open Go.RowKit Key Sa
set_option linter.unusedSimpArgs false
set_option linter.unusedVariables false
set_option maxRecDepth 100000
set_option maxHeartbeats 4000000

theorem want_eq {s : Sg} {k a q : Int} (h : wantI s k = (a, q)) : Value.tuple #[.int .i64 a, .int .i64 q] = .tuple #[.int .i64 (wantI s k).1, .int .i64 (wantI s k).2] := by rw [h]
theorem want_any (s : Sg) (k : Int) (w : World) (hk : Mon.InR k) : Calls Tryz.prog 114 #[sgV s, .int .i64 k] w fun e w' => e = .returned (.tuple #[.int .i64 (wantI s k).1, .int .i64 (wantI s k).2]) ∧ Below w.heap.size w w' := by
 obtain ⟨hk1, hk2⟩ := hk
 rcases (show k = 0 ∨ k = 1 ∨ k = 2 ∨ k = 3 ∨ k = 4 ∨ k = 5 ∨ k < 0 ∨ 5 < k by omega) with rfl | rfl | rfl | rfl | rfl | rfl | hn | hn
 ·have HF := Hd (show wantI s 0 = (0, s.qty) by unfold wantI; simp)
  have HU := Hd (fun W => undoes_any 0 W ⟨by omega, by omega⟩)
  rw [show undoI 0 = (0, false) by rfl] at HU
  obtain ⟨c0, c1, c2, c3, c4, c5, c6, c7, c8, c9, c10, c11⟩ := sg_box (heap_new w (.cells (sgA s) tSaga))
  go_enter Tryz.func114, Tryz.ntmps114
  go_wp2_with fail
  refine (HU.out _).mono ?_
  rintro e w1 ⟨rfl, hw⟩; subst hw
  go_wp2_with fail
  go_quiet (fail)
  go_wp2_with fail
  go_ret2
  exact ⟨congrArg Ending.returned (want_eq HF.out), by first | exact below_alloc _ _ | exact below_drew1' (below_alloc _ _) | exact below_drewN' (below_alloc _ _) _⟩
 ·have HF := Hd (show wantI s 1 = (s.amt, 0) by unfold wantI; simp)
  have HU := Hd (fun W => undoes_any 1 W ⟨by omega, by omega⟩)
  rw [show undoI 1 = (0, false) by rfl] at HU
  obtain ⟨c0, c1, c2, c3, c4, c5, c6, c7, c8, c9, c10, c11⟩ := sg_box (heap_new w (.cells (sgA s) tSaga))
  go_enter Tryz.func114, Tryz.ntmps114
  go_wp2_with fail
  refine (HU.out _).mono ?_
  rintro e w1 ⟨rfl, hw⟩; subst hw
  go_wp2_with fail
  go_ret2
  exact ⟨congrArg Ending.returned (want_eq HF.out), by first | exact below_alloc _ _ | exact below_drew1' (below_alloc _ _) | exact below_drewN' (below_alloc _ _) _⟩
 ·have HF := Hd (show wantI s 2 = (0, s.qty) by unfold wantI; simp)
  have HU := Hd (fun W => undoes_any 2 W ⟨by omega, by omega⟩)
  rw [show undoI 2 = (0, false) by rfl] at HU
  obtain ⟨c0, c1, c2, c3, c4, c5, c6, c7, c8, c9, c10, c11⟩ := sg_box (heap_new w (.cells (sgA s) tSaga))
  go_enter Tryz.func114, Tryz.ntmps114
  go_wp2_with fail
  refine (HU.out _).mono ?_
  rintro e w1 ⟨rfl, hw⟩; subst hw
  go_wp2_with fail
  go_quiet (fail)
  go_wp2_with fail
  go_ret2
  exact ⟨congrArg Ending.returned (want_eq HF.out), by first | exact below_alloc _ _ | exact below_drew1' (below_alloc _ _) | exact below_drewN' (below_alloc _ _) _⟩
 ·by_cases h : s.d0 = 2
  ·have h1 := beqT h
   have h2 := bneF h
   have HF := Hd (show wantI s 3 = (0, s.qty) by unfold wantI; simp [h])
   have HU := Hd (fun W => undoes_any 3 W ⟨by omega, by omega⟩)
   rw [show undoI 3 = (0, true) by rfl] at HU
   clear h
   obtain ⟨c0, c1, c2, c3, c4, c5, c6, c7, c8, c9, c10, c11⟩ := sg_box (heap_new w (.cells (sgA s) tSaga))
   go_enter Tryz.func114, Tryz.ntmps114
   go_wp2_with fail
   refine (HU.out _).mono ?_
   rintro e w1 ⟨rfl, hw⟩; subst hw
   go_wp2_with fail
   go_quiet (fail)
   go_wp2_with fail
   go_ret2
   exact ⟨congrArg Ending.returned (want_eq HF.out), by first | exact below_alloc _ _ | exact below_drew1' (below_alloc _ _) | exact below_drewN' (below_alloc _ _) _⟩
  ·have h1 := beqF h
   have h2 := bneT h
   have HF := Hd (show wantI s 3 = (0, 0) by unfold wantI; simp [h])
   have HU := Hd (fun W => undoes_any 3 W ⟨by omega, by omega⟩)
   rw [show undoI 3 = (0, true) by rfl] at HU
   clear h
   obtain ⟨c0, c1, c2, c3, c4, c5, c6, c7, c8, c9, c10, c11⟩ := sg_box (heap_new w (.cells (sgA s) tSaga))
   go_enter Tryz.func114, Tryz.ntmps114
   go_wp2_with fail
   refine (HU.out _).mono ?_
   rintro e w1 ⟨rfl, hw⟩; subst hw
   go_wp2_with fail
   go_ret2
   exact ⟨congrArg Ending.returned (want_eq HF.out), by first | exact below_alloc _ _ | exact below_drew1' (below_alloc _ _) | exact below_drewN' (below_alloc _ _) _⟩
 ·by_cases h : s.d1 = 2
  ·have h1 := beqT h
   have h2 := bneF h
   have HF := Hd (show wantI s 4 = (s.amt, 0) by unfold wantI; simp [h])
   have HU := Hd (fun W => undoes_any 4 W ⟨by omega, by omega⟩)
   rw [show undoI 4 = (1, true) by rfl] at HU
   clear h
   obtain ⟨c0, c1, c2, c3, c4, c5, c6, c7, c8, c9, c10, c11⟩ := sg_box (heap_new w (.cells (sgA s) tSaga))
   go_enter Tryz.func114, Tryz.ntmps114
   go_wp2_with fail
   refine (HU.out _).mono ?_
   rintro e w1 ⟨rfl, hw⟩; subst hw
   go_wp2_with fail
   go_ret2
   exact ⟨congrArg Ending.returned (want_eq HF.out), by first | exact below_alloc _ _ | exact below_drew1' (below_alloc _ _) | exact below_drewN' (below_alloc _ _) _⟩
  ·have h1 := beqF h
   have h2 := bneT h
   have HF := Hd (show wantI s 4 = (0, 0) by unfold wantI; simp [h])
   have HU := Hd (fun W => undoes_any 4 W ⟨by omega, by omega⟩)
   rw [show undoI 4 = (1, true) by rfl] at HU
   clear h
   obtain ⟨c0, c1, c2, c3, c4, c5, c6, c7, c8, c9, c10, c11⟩ := sg_box (heap_new w (.cells (sgA s) tSaga))
   go_enter Tryz.func114, Tryz.ntmps114
   go_wp2_with fail
   refine (HU.out _).mono ?_
   rintro e w1 ⟨rfl, hw⟩; subst hw
   go_wp2_with fail
   go_ret2
   exact ⟨congrArg Ending.returned (want_eq HF.out), by first | exact below_alloc _ _ | exact below_drew1' (below_alloc _ _) | exact below_drewN' (below_alloc _ _) _⟩
 ·by_cases h : s.d2 = 2
  ·have h1 := beqT h
   have h2 := bneF h
   have HF := Hd (show wantI s 5 = (0, s.qty) by unfold wantI; simp [h])
   have HU := Hd (fun W => undoes_any 5 W ⟨by omega, by omega⟩)
   rw [show undoI 5 = (2, true) by rfl] at HU
   clear h
   obtain ⟨c0, c1, c2, c3, c4, c5, c6, c7, c8, c9, c10, c11⟩ := sg_box (heap_new w (.cells (sgA s) tSaga))
   go_enter Tryz.func114, Tryz.ntmps114
   go_wp2_with fail
   refine (HU.out _).mono ?_
   rintro e w1 ⟨rfl, hw⟩; subst hw
   go_wp2_with fail
   go_quiet (fail)
   go_wp2_with fail
   go_ret2
   exact ⟨congrArg Ending.returned (want_eq HF.out), by first | exact below_alloc _ _ | exact below_drew1' (below_alloc _ _) | exact below_drewN' (below_alloc _ _) _⟩
  ·have h1 := beqF h
   have h2 := bneT h
   have HF := Hd (show wantI s 5 = (0, 0) by unfold wantI; simp [h])
   have HU := Hd (fun W => undoes_any 5 W ⟨by omega, by omega⟩)
   rw [show undoI 5 = (2, true) by rfl] at HU
   clear h
   obtain ⟨c0, c1, c2, c3, c4, c5, c6, c7, c8, c9, c10, c11⟩ := sg_box (heap_new w (.cells (sgA s) tSaga))
   go_enter Tryz.func114, Tryz.ntmps114
   go_wp2_with fail
   refine (HU.out _).mono ?_
   rintro e w1 ⟨rfl, hw⟩; subst hw
   go_wp2_with fail
   go_ret2
   exact ⟨congrArg Ending.returned (want_eq HF.out), by first | exact below_alloc _ _ | exact below_drew1' (below_alloc _ _) | exact below_drewN' (below_alloc _ _) _⟩
 ·have e0 := beqF (show ¬ k = 0 by omega)
  have e1 := beqF (show ¬ k = 1 by omega)
  have e2 := beqF (show ¬ k = 2 by omega)
  have e3 := beqF (show ¬ k = 3 by omega)
  have e4 := beqF (show ¬ k = 4 by omega)
  have e5 := beqF (show ¬ k = 5 by omega)
  have HF := Hd (show wantI s k = (0, 0) by unfold wantI; rw [if_neg (by omega), if_neg (by omega)])
  have HU := Hd (fun W => undoes_any k W ⟨by omega, by omega⟩)
  rw [show undoI k = (0, false) by unfold undoI; rw [if_neg (by omega)]] at HU
  obtain ⟨c0, c1, c2, c3, c4, c5, c6, c7, c8, c9, c10, c11⟩ := sg_box (heap_new w (.cells (sgA s) tSaga))
  go_enter Tryz.func114, Tryz.ntmps114
  go_wp2_with fail
  refine (HU.out _).mono ?_
  rintro e w1 ⟨rfl, hw⟩; subst hw
  go_wp2_with fail
  go_ret2
  exact ⟨congrArg Ending.returned (want_eq HF.out), by first | exact below_alloc _ _ | exact below_drew1' (below_alloc _ _) | exact below_drewN' (below_alloc _ _) _⟩
 ·have e0 := beqF (show ¬ k = 0 by omega)
  have e1 := beqF (show ¬ k = 1 by omega)
  have e2 := beqF (show ¬ k = 2 by omega)
  have e3 := beqF (show ¬ k = 3 by omega)
  have e4 := beqF (show ¬ k = 4 by omega)
  have e5 := beqF (show ¬ k = 5 by omega)
  have HF := Hd (show wantI s k = (0, 0) by unfold wantI; rw [if_neg (by omega), if_neg (by omega)])
  have HU := Hd (fun W => undoes_any k W ⟨by omega, by omega⟩)
  rw [show undoI k = (0, false) by unfold undoI; rw [if_neg (by omega)]] at HU
  obtain ⟨c0, c1, c2, c3, c4, c5, c6, c7, c8, c9, c10, c11⟩ := sg_box (heap_new w (.cells (sgA s) tSaga))
  go_enter Tryz.func114, Tryz.ntmps114
  go_wp2_with fail
  refine (HU.out _).mono ?_
  rintro e w1 ⟨rfl, hw⟩; subst hw
  go_wp2_with fail
  go_ret2
  exact ⟨congrArg Ending.returned (want_eq HF.out), by first | exact below_alloc _ _ | exact below_drew1' (below_alloc _ _) | exact below_drewN' (below_alloc _ _) _⟩
theorem refWant_any (s : Sg) (k : Int) (w : World) (hk : Mon.InR k) : Calls Tryz.prog 118 #[sgV s, .int .i64 k] w fun e w' => e = .returned (.tuple #[.int .i64 (wantI s k).1, .int .i64 (wantI s k).2]) ∧ Below w.heap.size w w' := by
 obtain ⟨hk1, hk2⟩ := hk
 rcases (show k = 0 ∨ k = 1 ∨ k = 2 ∨ k = 3 ∨ k = 4 ∨ k = 5 ∨ k < 0 ∨ 5 < k by omega) with rfl | rfl | rfl | rfl | rfl | rfl | hn | hn
 ·have HF := Hd (show wantI s 0 = (0, s.qty) by unfold wantI; simp)
  obtain ⟨c0, c1, c2, c3, c4, c5, c6, c7, c8, c9, c10, c11⟩ := sg_box (heap_new w (.cells (sgA s) tSagaR))
  go_enter Tryz.func118, Tryz.ntmps118
  go_wp2_with fail
  go_quiet (fail)
  go_wp2_with fail
  go_ret2
  exact ⟨congrArg Ending.returned (want_eq HF.out), by first | exact below_alloc _ _ | exact below_drew1' (below_alloc _ _) | exact below_drewN' (below_alloc _ _) _⟩
 ·have HF := Hd (show wantI s 1 = (s.amt, 0) by unfold wantI; simp)
  obtain ⟨c0, c1, c2, c3, c4, c5, c6, c7, c8, c9, c10, c11⟩ := sg_box (heap_new w (.cells (sgA s) tSagaR))
  go_enter Tryz.func118, Tryz.ntmps118
  go_wp2_with fail
  go_ret2
  exact ⟨congrArg Ending.returned (want_eq HF.out), by first | exact below_alloc _ _ | exact below_drew1' (below_alloc _ _) | exact below_drewN' (below_alloc _ _) _⟩
 ·have HF := Hd (show wantI s 2 = (0, s.qty) by unfold wantI; simp)
  obtain ⟨c0, c1, c2, c3, c4, c5, c6, c7, c8, c9, c10, c11⟩ := sg_box (heap_new w (.cells (sgA s) tSagaR))
  go_enter Tryz.func118, Tryz.ntmps118
  go_wp2_with fail
  go_quiet (fail)
  go_wp2_with fail
  go_ret2
  exact ⟨congrArg Ending.returned (want_eq HF.out), by first | exact below_alloc _ _ | exact below_drew1' (below_alloc _ _) | exact below_drewN' (below_alloc _ _) _⟩
 ·by_cases h : s.d0 = 2
  ·have h1 := beqT h
   have h2 := bneF h
   have HF := Hd (show wantI s 3 = (0, s.qty) by unfold wantI; simp [h])
   clear h
   obtain ⟨c0, c1, c2, c3, c4, c5, c6, c7, c8, c9, c10, c11⟩ := sg_box (heap_new w (.cells (sgA s) tSagaR))
   go_enter Tryz.func118, Tryz.ntmps118
   go_wp2_with fail
   go_quiet (fail)
   go_wp2_with fail
   go_ret2
   exact ⟨congrArg Ending.returned (want_eq HF.out), by first | exact below_alloc _ _ | exact below_drew1' (below_alloc _ _) | exact below_drewN' (below_alloc _ _) _⟩
  ·have h1 := beqF h
   have h2 := bneT h
   have HF := Hd (show wantI s 3 = (0, 0) by unfold wantI; simp [h])
   clear h
   obtain ⟨c0, c1, c2, c3, c4, c5, c6, c7, c8, c9, c10, c11⟩ := sg_box (heap_new w (.cells (sgA s) tSagaR))
   go_enter Tryz.func118, Tryz.ntmps118
   go_wp2_with fail
   go_ret2
   exact ⟨congrArg Ending.returned (want_eq HF.out), by first | exact below_alloc _ _ | exact below_drew1' (below_alloc _ _) | exact below_drewN' (below_alloc _ _) _⟩
 ·by_cases h : s.d1 = 2
  ·have h1 := beqT h
   have h2 := bneF h
   have HF := Hd (show wantI s 4 = (s.amt, 0) by unfold wantI; simp [h])
   clear h
   obtain ⟨c0, c1, c2, c3, c4, c5, c6, c7, c8, c9, c10, c11⟩ := sg_box (heap_new w (.cells (sgA s) tSagaR))
   go_enter Tryz.func118, Tryz.ntmps118
   go_wp2_with fail
   go_ret2
   exact ⟨congrArg Ending.returned (want_eq HF.out), by first | exact below_alloc _ _ | exact below_drew1' (below_alloc _ _) | exact below_drewN' (below_alloc _ _) _⟩
  ·have h1 := beqF h
   have h2 := bneT h
   have HF := Hd (show wantI s 4 = (0, 0) by unfold wantI; simp [h])
   clear h
   obtain ⟨c0, c1, c2, c3, c4, c5, c6, c7, c8, c9, c10, c11⟩ := sg_box (heap_new w (.cells (sgA s) tSagaR))
   go_enter Tryz.func118, Tryz.ntmps118
   go_wp2_with fail
   go_ret2
   exact ⟨congrArg Ending.returned (want_eq HF.out), by first | exact below_alloc _ _ | exact below_drew1' (below_alloc _ _) | exact below_drewN' (below_alloc _ _) _⟩
 ·by_cases h : s.d2 = 2
  ·have h1 := beqT h
   have h2 := bneF h
   have HF := Hd (show wantI s 5 = (0, s.qty) by unfold wantI; simp [h])
   clear h
   obtain ⟨c0, c1, c2, c3, c4, c5, c6, c7, c8, c9, c10, c11⟩ := sg_box (heap_new w (.cells (sgA s) tSagaR))
   go_enter Tryz.func118, Tryz.ntmps118
   go_wp2_with fail
   go_quiet (fail)
   go_wp2_with fail
   go_ret2
   exact ⟨congrArg Ending.returned (want_eq HF.out), by first | exact below_alloc _ _ | exact below_drew1' (below_alloc _ _) | exact below_drewN' (below_alloc _ _) _⟩
  ·have h1 := beqF h
   have h2 := bneT h
   have HF := Hd (show wantI s 5 = (0, 0) by unfold wantI; simp [h])
   clear h
   obtain ⟨c0, c1, c2, c3, c4, c5, c6, c7, c8, c9, c10, c11⟩ := sg_box (heap_new w (.cells (sgA s) tSagaR))
   go_enter Tryz.func118, Tryz.ntmps118
   go_wp2_with fail
   go_ret2
   exact ⟨congrArg Ending.returned (want_eq HF.out), by first | exact below_alloc _ _ | exact below_drew1' (below_alloc _ _) | exact below_drewN' (below_alloc _ _) _⟩
 ·have e0 := beqF (show ¬ k = 0 by omega)
  have e1 := beqF (show ¬ k = 1 by omega)
  have e2 := beqF (show ¬ k = 2 by omega)
  have e3 := beqF (show ¬ k = 3 by omega)
  have e4 := beqF (show ¬ k = 4 by omega)
  have e5 := beqF (show ¬ k = 5 by omega)
  have HF := Hd (show wantI s k = (0, 0) by unfold wantI; rw [if_neg (by omega), if_neg (by omega)])
  obtain ⟨c0, c1, c2, c3, c4, c5, c6, c7, c8, c9, c10, c11⟩ := sg_box (heap_new w (.cells (sgA s) tSagaR))
  go_enter Tryz.func118, Tryz.ntmps118
  go_wp2_with fail
  go_ret2
  exact ⟨congrArg Ending.returned (want_eq HF.out), by first | exact below_alloc _ _ | exact below_drew1' (below_alloc _ _) | exact below_drewN' (below_alloc _ _) _⟩
 ·have e0 := beqF (show ¬ k = 0 by omega)
  have e1 := beqF (show ¬ k = 1 by omega)
  have e2 := beqF (show ¬ k = 2 by omega)
  have e3 := beqF (show ¬ k = 3 by omega)
  have e4 := beqF (show ¬ k = 4 by omega)
  have e5 := beqF (show ¬ k = 5 by omega)
  have HF := Hd (show wantI s k = (0, 0) by unfold wantI; rw [if_neg (by omega), if_neg (by omega)])
  obtain ⟨c0, c1, c2, c3, c4, c5, c6, c7, c8, c9, c10, c11⟩ := sg_box (heap_new w (.cells (sgA s) tSagaR))
  go_enter Tryz.func118, Tryz.ntmps118
  go_wp2_with fail
  go_ret2
  exact ⟨congrArg Ending.returned (want_eq HF.out), by first | exact below_alloc _ _ | exact below_drew1' (below_alloc _ _) | exact below_drewN' (below_alloc _ _) _⟩
end Go.Proofs.YtiagdpfmmjhgcaaGreatDoor

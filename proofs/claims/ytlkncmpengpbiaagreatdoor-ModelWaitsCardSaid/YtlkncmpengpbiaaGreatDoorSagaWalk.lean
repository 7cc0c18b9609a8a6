/- Sagas on their way: what saga.back, Waits, onward, State, Net, Begin, Reply, Stop compute. -/
import Derived.Test.YtlkncmpengpbiaaGreatDoorSagaMem
import Derived.Test.YtlkncmpengpbiaaGreatDoorIntake
import Derived.Test.YtlkncmpengpbiaaGreatDoorShort
namespace Go.Proofs.YtlkncmpengpbiaaGreatDoor
open Go.RowKit Key Sa
set_option linter.unusedSimpArgs false
set_option linter.unusedVariables false
set_option maxRecDepth 100000
set_option maxHeartbeats 4000000

def backTo (s : Sg) (k : Int) : Bool := s.can || (decide (0 < k) && decide (s.d0 = 3)) || (decide (1 < k) && decide (s.d1 = 3)) || (decide (2 < k) && decide (s.d2 = 3))
theorem waits_at {s : Sg} {k : Int} (h0 : 0 ≤ k) (h6 : k < 6) (hp : ∀ j, 0 ≤ j → j < k → s.deed j ≠ 1) (h : s.deed k = 1) : waitsI s = k := by
 rcases (show k = 0 ∨ k = 1 ∨ k = 2 ∨ k = 3 ∨ k = 4 ∨ k = 5 by omega) with rfl | rfl | rfl | rfl | rfl | rfl
 ·unfold waitsI; simp [Sg.deed] at *; simp [h]
 ·have := hp 0 (by decide) (by decide); unfold waitsI; simp [Sg.deed] at *; simp [*]
 ·have := hp 0 (by decide) (by decide); have := hp 1 (by decide) (by decide); unfold waitsI; simp [Sg.deed] at *; simp [*]
 ·have := hp 0 (by decide) (by decide); have := hp 1 (by decide) (by decide); have := hp 2 (by decide) (by decide); unfold waitsI; simp [Sg.deed] at *; simp [*]
 ·have := hp 0 (by decide) (by decide); have := hp 1 (by decide) (by decide); have := hp 2 (by decide) (by decide); have := hp 3 (by decide) (by decide); unfold waitsI; simp [Sg.deed] at *; simp [*]
 ·have := hp 0 (by decide) (by decide); have := hp 1 (by decide) (by decide); have := hp 2 (by decide) (by decide); have := hp 3 (by decide) (by decide); have := hp 4 (by decide) (by decide); unfold waitsI; simp [Sg.deed] at *; simp [*]
theorem waits_none {s : Sg} (hp : ∀ j, 0 ≤ j → j < 6 → s.deed j ≠ 1) : waitsI s = 6 := by
 have h0 := hp 0 (by decide) (by decide); have h1 := hp 1 (by decide) (by decide); have h2 := hp 2 (by decide) (by decide); have h3 := hp 3 (by decide) (by decide); have h4 := hp 4 (by decide) (by decide); have h5 := hp 5 (by decide) (by decide)
 unfold waitsI; simp [Sg.deed] at *; simp [*]
theorem idx6_0 (d0 d1 d2 d3 d4 d5 : Int) (W : World) : (Instr.index 88 (.agg #[.int .i64 d0, .int .i64 d1, .int .i64 d2, .int .i64 d3, .int .i64 d4, .int .i64 d5]) (.int .i64 0)).run Tryz.prog W = .ok (.int .i64 d0) W := by kernel_rfl
theorem idx6_1 (d0 d1 d2 d3 d4 d5 : Int) (W : World) : (Instr.index 88 (.agg #[.int .i64 d0, .int .i64 d1, .int .i64 d2, .int .i64 d3, .int .i64 d4, .int .i64 d5]) (.int .i64 1)).run Tryz.prog W = .ok (.int .i64 d1) W := by kernel_rfl
theorem idx6_2 (d0 d1 d2 d3 d4 d5 : Int) (W : World) : (Instr.index 88 (.agg #[.int .i64 d0, .int .i64 d1, .int .i64 d2, .int .i64 d3, .int .i64 d4, .int .i64 d5]) (.int .i64 2)).run Tryz.prog W = .ok (.int .i64 d2) W := by kernel_rfl
theorem idx6_3 (d0 d1 d2 d3 d4 d5 : Int) (W : World) : (Instr.index 88 (.agg #[.int .i64 d0, .int .i64 d1, .int .i64 d2, .int .i64 d3, .int .i64 d4, .int .i64 d5]) (.int .i64 3)).run Tryz.prog W = .ok (.int .i64 d3) W := by kernel_rfl
theorem idx6_4 (d0 d1 d2 d3 d4 d5 : Int) (W : World) : (Instr.index 88 (.agg #[.int .i64 d0, .int .i64 d1, .int .i64 d2, .int .i64 d3, .int .i64 d4, .int .i64 d5]) (.int .i64 4)).run Tryz.prog W = .ok (.int .i64 d4) W := by kernel_rfl
theorem idx6_5 (d0 d1 d2 d3 d4 d5 : Int) (W : World) : (Instr.index 88 (.agg #[.int .i64 d0, .int .i64 d1, .int .i64 d2, .int .i64 d3, .int .i64 d4, .int .i64 d5]) (.int .i64 5)).run Tryz.prog W = .ok (.int .i64 d5) W := by kernel_rfl
theorem sg_set0 {w : World} {b : Nat} {s : Sg} {T : TypeId} (h : w.heap[b]? = some (.cells (sgA s) T (0, 0))) (v : Int) : (w.setCell ⟨b, 5, none⟩ (.int .i64 v)).heap[b]? = some (.cells (sgA { s with d0 := v }) T (0, 0)) := by simp [World.setCell, Array.getElem?_modify, h]
theorem sg_set1 {w : World} {b : Nat} {s : Sg} {T : TypeId} (h : w.heap[b]? = some (.cells (sgA s) T (0, 0))) (v : Int) : (w.setCell ⟨b, 6, none⟩ (.int .i64 v)).heap[b]? = some (.cells (sgA { s with d1 := v }) T (0, 0)) := by simp [World.setCell, Array.getElem?_modify, h]
theorem sg_set2 {w : World} {b : Nat} {s : Sg} {T : TypeId} (h : w.heap[b]? = some (.cells (sgA s) T (0, 0))) (v : Int) : (w.setCell ⟨b, 7, none⟩ (.int .i64 v)).heap[b]? = some (.cells (sgA { s with d2 := v }) T (0, 0)) := by simp [World.setCell, Array.getElem?_modify, h]
theorem sg_set3 {w : World} {b : Nat} {s : Sg} {T : TypeId} (h : w.heap[b]? = some (.cells (sgA s) T (0, 0))) (v : Int) : (w.setCell ⟨b, 8, none⟩ (.int .i64 v)).heap[b]? = some (.cells (sgA { s with d3 := v }) T (0, 0)) := by simp [World.setCell, Array.getElem?_modify, h]
theorem sg_set4 {w : World} {b : Nat} {s : Sg} {T : TypeId} (h : w.heap[b]? = some (.cells (sgA s) T (0, 0))) (v : Int) : (w.setCell ⟨b, 9, none⟩ (.int .i64 v)).heap[b]? = some (.cells (sgA { s with d4 := v }) T (0, 0)) := by simp [World.setCell, Array.getElem?_modify, h]
theorem sg_set5 {w : World} {b : Nat} {s : Sg} {T : TypeId} (h : w.heap[b]? = some (.cells (sgA s) T (0, 0))) (v : Int) : (w.setCell ⟨b, 10, none⟩ (.int .i64 v)).heap[b]? = some (.cells (sgA { s with d5 := v }) T (0, 0)) := by simp [World.setCell, Array.getElem?_modify, h]
theorem sg_setc {w : World} {b : Nat} {s : Sg} {T : TypeId} (h : w.heap[b]? = some (.cells (sgA s) T (0, 0))) (v : Bool) : (w.setCell ⟨b, 11, none⟩ (.bool v)).heap[b]? = some (.cells (sgA { s with can := v }) T (0, 0)) := by simp [World.setCell, Array.getElem?_modify, h]
theorem sg_froz {w : World} {b : Nat} {s : Sg} {T : TypeId} (h : w.heap[b]? = some (.cells (sgA s) T (0, 0))) (i : Nat) : w.frozen? ⟨b, i, none⟩ = false := frozen_at h _
/-- Two blocks that have just been made. -/
theorem two_new (w : World) (o0 o1 : Array Value) (t0 t1 : TypeId) {wa : World} (h : wa = (w.alloc (.cells o0 t0)).alloc (.cells o1 t1)) :
  Below w.heap.size w wa ∧ wa.heap[w.heap.size]? = some (.cells o0 t0 (0, 0)) ∧ wa.heap[w.heap.size + 1]? = some (.cells o1 t1 (0, 0)) := by
 subst h
 refine ⟨(below_alloc w _).alloc (by simp) _, heap_keep (heap_new w _) (below_alloc _ _), ?_⟩
 have := heap_new (w.alloc (.cells o0 t0)) (.cells o1 t1)
 rwa [show (w.alloc (.cells o0 t0)).heap.size = w.heap.size + 1 by simp] at this
abbrev sg0 : Sg := ⟨0, [], [], 0, 0, 0, 0, 0, 0, 0, 0, false⟩
theorem two_hid (w : World) (o0 o1 : Array Value) (t0 t1 : TypeId) : ∃ wa, Hid (wa = (w.alloc (.cells o0 t0)).alloc (.cells o1 t1)) ∧ Hid (Below w.heap.size w wa) ∧ Hid (wa.heap[w.heap.size]? = some (.cells o0 t0 (0, 0))) ∧ Hid (wa.heap[w.heap.size + 1]? = some (.cells o1 t1 (0, 0))) :=
 ⟨_, rfl, two_new w o0 o1 t0 t1 rfl⟩
theorem sg_st {w w1 : World} {i : Nat} {v : Value} {cs cz : Array Value} {T T' : TypeId} (hb : Below w.heap.size w w1) (hz : w1.heap[w.heap.size + 1]? = some (.cells cz T' (0, 0))) (hx : (w1.setCell ⟨w.heap.size, i, none⟩ v).heap[w.heap.size]? = some (.cells cs T (0, 0))) :
  ∃ W2, w1.setCell ⟨w.heap.size, i, none⟩ v = W2 ∧ Hid (W2.heap[w.heap.size]? = some (.cells cs T (0, 0))) ∧ Hid (Below w.heap.size w W2) ∧ Hid (W2.heap[w.heap.size + 1]? = some (.cells cz T' (0, 0))) := by
 have ht := turned_set w1 w.heap.size i v
 exact ⟨_, rfl, hx, Below.turned hb ht (fun j h => by omega) hb.size, (ht.block _ (heap_lt hz) (by omega)).trans hz⟩
theorem back_any (s : Sg) (w : World) : Calls Tryz.prog 159 #[sgV s] w fun e w' => e = .returned (.bool (backB s)) ∧ Below w.heap.size w w' := by
 obtain ⟨c0, c1, c2, c3, c4, c5, c6, c7, c8, c9, c10, c11⟩ := sg_box (heap_new w (.cells (sgA s) tSaga))
 go_enter Tryz.func159, Tryz.ntmps159
 go_wp2_with fail
 go_loop [3, 4] (fun b i => ∃ k : Int, i = .int .i64 k ∧ 0 ≤ k ∧ k ≤ 3 ∧ b = .bool (backTo s k)) (fun _ i => 3 - (intOf i).toNat)
 case atStart => exact ⟨0, rfl, by omega, by omega, by unfold backTo; simp⟩
 case round =>
  obtain ⟨k, rfl, hk0, hk3, rfl⟩ := hrel
  rcases (show k = 0 ∨ k = 1 ∨ k = 2 ∨ k = 3 by omega) with rfl | rfl | rfl | rfl
  ·cases hb : backTo s 0 with
   | true =>
    have HF := Hd (show backTo s 1 = true by unfold backTo at hb ⊢; revert hb; cases s.can <;> simp <;> intros <;> simp [*])
    clear hb
    go_wp2_with fail
    go_round
    case rel => exact ⟨1, rfl, by omega, by omega, by rw [HF.out]⟩
    case measure => simp [intOf]
   | false =>
    by_cases h : s.d0 = 3
    ·have h1 := beqT h
     have HF := Hd (show backTo s 1 = true by unfold backTo; simp [h])
     clear hb h
     go_wp2_with fail
     go_round
     case rel => exact ⟨1, rfl, by omega, by omega, by rw [HF.out]⟩
     case measure => simp [intOf]
    ·have h1 := beqF h
     have HF := Hd (show backTo s 1 = false by unfold backTo at hb ⊢; revert hb; cases s.can <;> simp <;> intros <;> simp [*])
     clear hb h
     go_wp2_with fail
     go_round
     case rel => exact ⟨1, rfl, by omega, by omega, by rw [HF.out]⟩
     case measure => simp [intOf]
  ·cases hb : backTo s 1 with
   | true =>
    have HF := Hd (show backTo s 2 = true by unfold backTo at hb ⊢; revert hb; cases s.can <;> simp <;> intros <;> simp [*])
    clear hb
    go_wp2_with fail
    go_round
    case rel => exact ⟨2, rfl, by omega, by omega, by rw [HF.out]⟩
    case measure => simp [intOf]
   | false =>
    by_cases h : s.d1 = 3
    ·have h1 := beqT h
     have HF := Hd (show backTo s 2 = true by unfold backTo; simp [h])
     clear hb h
     go_wp2_with fail
     go_round
     case rel => exact ⟨2, rfl, by omega, by omega, by rw [HF.out]⟩
     case measure => simp [intOf]
    ·have h1 := beqF h
     have HF := Hd (show backTo s 2 = false by unfold backTo at hb ⊢; revert hb; cases s.can <;> simp <;> intros <;> simp [*])
     clear hb h
     go_wp2_with fail
     go_round
     case rel => exact ⟨2, rfl, by omega, by omega, by rw [HF.out]⟩
     case measure => simp [intOf]
  ·cases hb : backTo s 2 with
   | true =>
    have HF := Hd (show backTo s 3 = true by unfold backTo at hb ⊢; revert hb; cases s.can <;> simp <;> intros <;> simp [*])
    clear hb
    go_wp2_with fail
    go_round
    case rel => exact ⟨3, rfl, by omega, by omega, by rw [HF.out]⟩
    case measure => simp [intOf]
   | false =>
    by_cases h : s.d2 = 3
    ·have h1 := beqT h
     have HF := Hd (show backTo s 3 = true by unfold backTo; simp [h])
     clear hb h
     go_wp2_with fail
     go_round
     case rel => exact ⟨3, rfl, by omega, by omega, by rw [HF.out]⟩
     case measure => simp [intOf]
    ·have h1 := beqF h
     have HF := Hd (show backTo s 3 = false by unfold backTo at hb ⊢; revert hb; cases s.can <;> simp <;> intros <;> simp [*])
     clear hb h
     go_wp2_with fail
     go_round
     case rel => exact ⟨3, rfl, by omega, by omega, by rw [HF.out]⟩
     case measure => simp [intOf]
  ·have HF := Hd (show backTo s 3 = backB s by unfold backTo backB; simp)
   go_wp2_with fail
   go_ret
   exact ⟨by rw [HF.out]; rfl, below_alloc _ _⟩
theorem waits_any (s : Sg) (w : World) : Calls Tryz.prog 40 #[sgV s] w fun e w' => e = .returned (.tuple #[.int .i64 (waitsN s), .bool (waitsB s)]) ∧ Below w.heap.size w w' := by
 obtain ⟨c0, c1, c2, c3, c4, c5, c6, c7, c8, c9, c10, c11⟩ := sg_box (heap_new w (.cells (sgA s) tSaga))
 have ix0 := idx6_0 s.d0 s.d1 s.d2 s.d3 s.d4 s.d5
 have ix1 := idx6_1 s.d0 s.d1 s.d2 s.d3 s.d4 s.d5
 have ix2 := idx6_2 s.d0 s.d1 s.d2 s.d3 s.d4 s.d5
 have ix3 := idx6_3 s.d0 s.d1 s.d2 s.d3 s.d4 s.d5
 have ix4 := idx6_4 s.d0 s.d1 s.d2 s.d3 s.d4 s.d5
 have ix5 := idx6_5 s.d0 s.d1 s.d2 s.d3 s.d4 s.d5
 go_enter Tryz.func40, Tryz.ntmps40
 go_wp2_with fail
 go_loop [8] (fun i => ∃ k : Int, i = .int .i64 k ∧ 0 ≤ k ∧ k ≤ 6 ∧ Hid (∀ j, 0 ≤ j → j < k → s.deed j ≠ 1)) (fun i => 6 - (intOf i).toNat)
 case atStart => exact ⟨0, rfl, by omega, by omega, fun j h1 h2 => by omega⟩
 case round =>
  obtain ⟨k, rfl, hk0, hk6, HP⟩ := hrel
  rcases (show k = 0 ∨ k = 1 ∨ k = 2 ∨ k = 3 ∨ k = 4 ∨ k = 5 ∨ k = 6 by omega) with rfl | rfl | rfl | rfl | rfl | rfl | rfl
  ·by_cases h : s.d0 = 1
   ·have h1 := beqT h
    have HW := Hd (waits_at (s := s) (k := 0) (by omega) (by omega) HP.out h)
    clear h
    go_wp2_with fail
    go_ret2
    exact ⟨by unfold waitsN waitsB; rw [HW.out]; rfl, below_alloc _ _⟩
   ·have h1 := beqF h
    have HP' := Hd (show ∀ j, 0 ≤ j → j < 1 → s.deed j ≠ 1 from fun j a b => by rcases (show j < 0 ∨ j = 0 by omega) with h2 | h2; exact HP.out j a h2; (rw [h2]; exact h))
    clear h
    go_wp2_with fail
    go_round
    case rel => exact ⟨1, rfl, by omega, by omega, HP'.out⟩
    case measure => simp [intOf]
  ·by_cases h : s.d1 = 1
   ·have h1 := beqT h
    have HW := Hd (waits_at (s := s) (k := 1) (by omega) (by omega) HP.out h)
    clear h
    go_wp2_with fail
    go_ret2
    exact ⟨by unfold waitsN waitsB; rw [HW.out]; rfl, below_alloc _ _⟩
   ·have h1 := beqF h
    have HP' := Hd (show ∀ j, 0 ≤ j → j < 2 → s.deed j ≠ 1 from fun j a b => by rcases (show j < 1 ∨ j = 1 by omega) with h2 | h2; exact HP.out j a h2; (rw [h2]; exact h))
    clear h
    go_wp2_with fail
    go_round
    case rel => exact ⟨2, rfl, by omega, by omega, HP'.out⟩
    case measure => simp [intOf]
  ·by_cases h : s.d2 = 1
   ·have h1 := beqT h
    have HW := Hd (waits_at (s := s) (k := 2) (by omega) (by omega) HP.out h)
    clear h
    go_wp2_with fail
    go_ret2
    exact ⟨by unfold waitsN waitsB; rw [HW.out]; rfl, below_alloc _ _⟩
   ·have h1 := beqF h
    have HP' := Hd (show ∀ j, 0 ≤ j → j < 3 → s.deed j ≠ 1 from fun j a b => by rcases (show j < 2 ∨ j = 2 by omega) with h2 | h2; exact HP.out j a h2; (rw [h2]; exact h))
    clear h
    go_wp2_with fail
    go_round
    case rel => exact ⟨3, rfl, by omega, by omega, HP'.out⟩
    case measure => simp [intOf]
  ·by_cases h : s.d3 = 1
   ·have h1 := beqT h
    have HW := Hd (waits_at (s := s) (k := 3) (by omega) (by omega) HP.out h)
    clear h
    go_wp2_with fail
    go_ret2
    exact ⟨by unfold waitsN waitsB; rw [HW.out]; rfl, below_alloc _ _⟩
   ·have h1 := beqF h
    have HP' := Hd (show ∀ j, 0 ≤ j → j < 4 → s.deed j ≠ 1 from fun j a b => by rcases (show j < 3 ∨ j = 3 by omega) with h2 | h2; exact HP.out j a h2; (rw [h2]; exact h))
    clear h
    go_wp2_with fail
    go_round
    case rel => exact ⟨4, rfl, by omega, by omega, HP'.out⟩
    case measure => simp [intOf]
  ·by_cases h : s.d4 = 1
   ·have h1 := beqT h
    have HW := Hd (waits_at (s := s) (k := 4) (by omega) (by omega) HP.out h)
    clear h
    go_wp2_with fail
    go_ret2
    exact ⟨by unfold waitsN waitsB; rw [HW.out]; rfl, below_alloc _ _⟩
   ·have h1 := beqF h
    have HP' := Hd (show ∀ j, 0 ≤ j → j < 5 → s.deed j ≠ 1 from fun j a b => by rcases (show j < 4 ∨ j = 4 by omega) with h2 | h2; exact HP.out j a h2; (rw [h2]; exact h))
    clear h
    go_wp2_with fail
    go_round
    case rel => exact ⟨5, rfl, by omega, by omega, HP'.out⟩
    case measure => simp [intOf]
  ·by_cases h : s.d5 = 1
   ·have h1 := beqT h
    have HW := Hd (waits_at (s := s) (k := 5) (by omega) (by omega) HP.out h)
    clear h
    go_wp2_with fail
    go_ret2
    exact ⟨by unfold waitsN waitsB; rw [HW.out]; rfl, below_alloc _ _⟩
   ·have h1 := beqF h
    have HP' := Hd (show ∀ j, 0 ≤ j → j < 6 → s.deed j ≠ 1 from fun j a b => by rcases (show j < 5 ∨ j = 5 by omega) with h2 | h2; exact HP.out j a h2; (rw [h2]; exact h))
    clear h
    go_wp2_with fail
    go_round
    case rel => exact ⟨6, rfl, by omega, by omega, HP'.out⟩
    case measure => simp [intOf]
  ·have HW := Hd (waits_none HP.out)
   go_wp2_with fail
   go_ret2
   exact ⟨by unfold waitsN waitsB; rw [HW.out]; rfl, below_alloc _ _⟩
theorem onB_2 {s : Sg} (hb : backB s = true) (h : ((s.d2 = 2 ∨ s.d2 = 4) ∧ s.d5 = 0)) : onI s = { s with d5 := 1 } := by unfold onI; rw [if_neg (by simp [hb]), if_pos h]
theorem onB_1 {s : Sg} (hb : backB s = true) (n2 : ¬ ((s.d2 = 2 ∨ s.d2 = 4) ∧ s.d5 = 0)) (h : ((s.d1 = 2 ∨ s.d1 = 4) ∧ s.d4 = 0)) : onI s = { s with d4 := 1 } := by unfold onI; rw [if_neg (by simp [hb]), if_neg n2, if_pos h]
theorem onB_0 {s : Sg} (hb : backB s = true) (n2 : ¬ ((s.d2 = 2 ∨ s.d2 = 4) ∧ s.d5 = 0)) (n1 : ¬ ((s.d1 = 2 ∨ s.d1 = 4) ∧ s.d4 = 0)) (h : ((s.d0 = 2 ∨ s.d0 = 4) ∧ s.d3 = 0)) : onI s = { s with d3 := 1 } := by unfold onI; rw [if_neg (by simp [hb]), if_neg n2, if_neg n1, if_pos h]
theorem onB_n {s : Sg} (hb : backB s = true) (n2 : ¬ ((s.d2 = 2 ∨ s.d2 = 4) ∧ s.d5 = 0)) (n1 : ¬ ((s.d1 = 2 ∨ s.d1 = 4) ∧ s.d4 = 0)) (n0 : ¬ ((s.d0 = 2 ∨ s.d0 = 4) ∧ s.d3 = 0)) : onI s = s := by unfold onI; rw [if_neg (by simp [hb]), if_neg n2, if_neg n1, if_neg n0]
theorem heap_turned' {w w' : World} {b : Nat} {o : Obj} (h : w.heap[b]? = some o) {S : Nat → Prop} (ht : Turned S w w') (hS : ¬ S b) : w'.heap[b]? = some o := (ht.block b (heap_lt h) hS).trans h
theorem on_go (s : Sg) (w : World) (hb : backB s = false) : Calls Tryz.prog 129 #[sgV s] w fun e w' => e = .returned (sgV (onI s)) ∧ Below w.heap.size w w' := by
 have HBK := Hd (show ∀ W, Calls Tryz.prog 159 #[sgV s] W fun e w' => e = .returned (.bool false) ∧ Below W.heap.size W w' from fun W => by have := back_any s W; rw [hb] at this; exact this)
 obtain ⟨wa, HA, HB, HX, HZ⟩ := two_hid w (sgA s) (sgA sg0) tSaga tSaga
 go_enter Tryz.func129, Tryz.ntmps129
 go_wp2_with fail
 rw [← HA.out]
 refine (HBK.out _).mono ?_
 rintro e w1 ⟨rfl, hbw⟩
 have HB1 := Hd (bch HB.out hbw HB.out.size)
 have HX1 := Hd (heap_keep HX.out hbw)
 have HZ1 := Hd (heap_keep HZ.out hbw)
 clear hbw HA HB HX HZ HBK
 have hz := heap_lt HZ1.out
 obtain ⟨c0, c1, c2, c3, c4, c5, c6, c7, c8, c9, c10, c11⟩ := sg_box HX1.out
 go_wp2_with fail
 go_loop [3] (fun i => ∃ k : Int, i = .int .i64 k ∧ 0 ≤ k ∧ k ≤ 3 ∧ Hid (∀ j, 0 ≤ j → j < k → s.deed j ≠ 0)) (fun i => 3 - (intOf i).toNat)
 case atStart => exact ⟨0, rfl, by omega, by omega, fun j h1 h2 => by omega⟩
 case round =>
  obtain ⟨k, rfl, hk0, hk3, HP⟩ := hrel
  rcases (show k = 0 ∨ k = 1 ∨ k = 2 ∨ k = 3 by omega) with rfl | rfl | rfl | rfl
  ·by_cases h : s.d0 = 0
   ·have h1 := beqT h
    have HF := Hd (show onI s = { s with d0 := 1 } by unfold onI; simp [Sg.deed] at *; simp [hb, h, *])
    clear h hb
    obtain ⟨g0, g1, g2, g3, g4, g5, g6, g7, g8, g9, g10, g11⟩ := froz12 HX1.out
    go_upto_region 7 with (fail)
    obtain ⟨W2, hW2, HX2, HB2, HZ2⟩ := sg_st HB1.out HZ1.out (T := tSaga) (sg_set0 HX1.out 1)
    rw [hW2]
    clear hW2 c0 c1 c2 c3 c4 c5 c6 c7 c8 c9 c10 c11 g0 g1 g2 g3 g4 g5 g6 g7 g8 g9 g10 g11 HB1 HX1 HZ1
    obtain ⟨c0, c1, c2, c3, c4, c5, c6, c7, c8, c9, c10, c11⟩ := sg_box HX2.out
    obtain ⟨m0, m1, m2, m3, m4, m5, m6, m7, m8, m9, m10, m11⟩ := cell12 HZ2.out
    obtain ⟨f0, f1, f2, f3, f4, f5, f6, f7, f8, f9, f10, f11⟩ := froz12 HZ2.out
    go_wp2_with fail
    refine bodyPost_ret (v := sgV { s with d0 := 1 }) (by simp [results, Tryz.results129, go_sem, m0, m1, m2, m3, m4, m5, m6, m7, m8, m9, m10, m11]) rfl ⟨by rw [HF.out], ?_⟩
    exact Below.turned HB2.out (turned_set12 W2 (w.heap.size + 1) _ _ _ _ _ _ _ _ _ _ _ _) (fun i h => by omega) HB2.out.size
   ·have h1 := beqF h
    have HP' := Hd (show ∀ j, 0 ≤ j → j < 1 → s.deed j ≠ 0 from fun j a b => by rcases (show j < 0 ∨ j = 0 by omega) with h2 | h2; exact HP.out j a h2; (rw [h2]; exact h))
    clear h hb
    go_wp2_with fail
    go_round
    case rel => exact ⟨1, rfl, by omega, by omega, HP'.out⟩
    case measure => simp [intOf]
  ·by_cases h : s.d1 = 0
   ·have h1 := beqT h
    have HF := Hd (show onI s = { s with d1 := 1 } by have n0 := HP.out 0 (by decide) (by decide); unfold onI; simp [Sg.deed] at *; simp [hb, h, *])
    clear h hb
    obtain ⟨g0, g1, g2, g3, g4, g5, g6, g7, g8, g9, g10, g11⟩ := froz12 HX1.out
    go_upto_region 7 with (fail)
    obtain ⟨W2, hW2, HX2, HB2, HZ2⟩ := sg_st HB1.out HZ1.out (T := tSaga) (sg_set1 HX1.out 1)
    rw [hW2]
    clear hW2 c0 c1 c2 c3 c4 c5 c6 c7 c8 c9 c10 c11 g0 g1 g2 g3 g4 g5 g6 g7 g8 g9 g10 g11 HB1 HX1 HZ1
    obtain ⟨c0, c1, c2, c3, c4, c5, c6, c7, c8, c9, c10, c11⟩ := sg_box HX2.out
    obtain ⟨m0, m1, m2, m3, m4, m5, m6, m7, m8, m9, m10, m11⟩ := cell12 HZ2.out
    obtain ⟨f0, f1, f2, f3, f4, f5, f6, f7, f8, f9, f10, f11⟩ := froz12 HZ2.out
    go_wp2_with fail
    refine bodyPost_ret (v := sgV { s with d1 := 1 }) (by simp [results, Tryz.results129, go_sem, m0, m1, m2, m3, m4, m5, m6, m7, m8, m9, m10, m11]) rfl ⟨by rw [HF.out], ?_⟩
    exact Below.turned HB2.out (turned_set12 W2 (w.heap.size + 1) _ _ _ _ _ _ _ _ _ _ _ _) (fun i h => by omega) HB2.out.size
   ·have h1 := beqF h
    have HP' := Hd (show ∀ j, 0 ≤ j → j < 2 → s.deed j ≠ 0 from fun j a b => by rcases (show j < 1 ∨ j = 1 by omega) with h2 | h2; exact HP.out j a h2; (rw [h2]; exact h))
    clear h hb
    go_wp2_with fail
    go_round
    case rel => exact ⟨2, rfl, by omega, by omega, HP'.out⟩
    case measure => simp [intOf]
  ·by_cases h : s.d2 = 0
   ·have h1 := beqT h
    have HF := Hd (show onI s = { s with d2 := 1 } by have n0 := HP.out 0 (by decide) (by decide); have n1 := HP.out 1 (by decide) (by decide); unfold onI; simp [Sg.deed] at *; simp [hb, h, *])
    clear h hb
    obtain ⟨g0, g1, g2, g3, g4, g5, g6, g7, g8, g9, g10, g11⟩ := froz12 HX1.out
    go_upto_region 7 with (fail)
    obtain ⟨W2, hW2, HX2, HB2, HZ2⟩ := sg_st HB1.out HZ1.out (T := tSaga) (sg_set2 HX1.out 1)
    rw [hW2]
    clear hW2 c0 c1 c2 c3 c4 c5 c6 c7 c8 c9 c10 c11 g0 g1 g2 g3 g4 g5 g6 g7 g8 g9 g10 g11 HB1 HX1 HZ1
    obtain ⟨c0, c1, c2, c3, c4, c5, c6, c7, c8, c9, c10, c11⟩ := sg_box HX2.out
    obtain ⟨m0, m1, m2, m3, m4, m5, m6, m7, m8, m9, m10, m11⟩ := cell12 HZ2.out
    obtain ⟨f0, f1, f2, f3, f4, f5, f6, f7, f8, f9, f10, f11⟩ := froz12 HZ2.out
    go_wp2_with fail
    refine bodyPost_ret (v := sgV { s with d2 := 1 }) (by simp [results, Tryz.results129, go_sem, m0, m1, m2, m3, m4, m5, m6, m7, m8, m9, m10, m11]) rfl ⟨by rw [HF.out], ?_⟩
    exact Below.turned HB2.out (turned_set12 W2 (w.heap.size + 1) _ _ _ _ _ _ _ _ _ _ _ _) (fun i h => by omega) HB2.out.size
   ·have h1 := beqF h
    have HP' := Hd (show ∀ j, 0 ≤ j → j < 3 → s.deed j ≠ 0 from fun j a b => by rcases (show j < 2 ∨ j = 2 by omega) with h2 | h2; exact HP.out j a h2; (rw [h2]; exact h))
    clear h hb
    go_wp2_with fail
    go_round
    case rel => exact ⟨3, rfl, by omega, by omega, HP'.out⟩
    case measure => simp [intOf]
  ·have HF := Hd (show onI s = s by have n0 := HP.out 0 (by decide) (by decide); have n1 := HP.out 1 (by decide) (by decide); have n2 := HP.out 2 (by decide) (by decide); unfold onI; simp [Sg.deed] at *; simp [hb, *])
   clear hb
   clear c0 c1 c2 c3 c4 c5 c6 c7 c8 c9 c10 c11
   obtain ⟨c0, c1, c2, c3, c4, c5, c6, c7, c8, c9, c10, c11⟩ := sg_box HX1.out
   obtain ⟨m0, m1, m2, m3, m4, m5, m6, m7, m8, m9, m10, m11⟩ := cell12 HZ1.out
   obtain ⟨f0, f1, f2, f3, f4, f5, f6, f7, f8, f9, f10, f11⟩ := froz12 HZ1.out
   go_wp2_with fail
   refine bodyPost_ret (v := sgV s) (by simp [results, Tryz.results129, go_sem, m0, m1, m2, m3, m4, m5, m6, m7, m8, m9, m10, m11]) rfl ⟨by rw [HF.out], ?_⟩
   exact Below.turned HB1.out (turned_set12 w1 (w.heap.size + 1) _ _ _ _ _ _ _ _ _ _ _ _) (fun i h => by omega) HB1.out.size
theorem on_back (s : Sg) (w : World) (hb : backB s = true) : Calls Tryz.prog 129 #[sgV s] w fun e w' => e = .returned (sgV (onI s)) ∧ Below w.heap.size w w' := by
 have HBK := Hd (show ∀ W, Calls Tryz.prog 159 #[sgV s] W fun e w' => e = .returned (.bool true) ∧ Below W.heap.size W w' from fun W => by have := back_any s W; rw [hb] at this; exact this)
 obtain ⟨wa, HA, HB, HX, HZ⟩ := two_hid w (sgA s) (sgA sg0) tSaga tSaga
 go_enter Tryz.func129, Tryz.ntmps129
 go_wp2_with fail
 rw [← HA.out]
 refine (HBK.out _).mono ?_
 rintro e w1 ⟨rfl, hbw⟩
 have HB1 := Hd (bch HB.out hbw HB.out.size)
 have HX1 := Hd (heap_keep HX.out hbw)
 have HZ1 := Hd (heap_keep HZ.out hbw)
 clear hbw HA HB HX HZ HBK
 have hz := heap_lt HZ1.out
 obtain ⟨c0, c1, c2, c3, c4, c5, c6, c7, c8, c9, c10, c11⟩ := sg_box HX1.out
 go_wp2_with fail
 go_loop [4] (fun i => ∃ k : Int, i = .int .i64 k ∧ -1 ≤ k ∧ k ≤ 2 ∧ Hid (∀ j, k < j → j ≤ 2 → ¬ ((s.deed j = 2 ∨ s.deed j = 4) ∧ s.deed (j + 3) = 0))) (fun i => ((intOf i) + 1).toNat)
 case atStart => exact ⟨2, rfl, by omega, by omega, fun j h1 h2 => by omega⟩
 case round =>
  obtain ⟨k, rfl, hk0, hk3, HP⟩ := hrel
  rcases (show k = 2 ∨ k = 1 ∨ k = 0 ∨ k = -1 by omega) with rfl | rfl | rfl | rfl
  ·by_cases h : s.d2 = 2
   ·have h1 := beqT h
    by_cases h3 : s.d5 = 0
    ·have h31 := beqT h3
     have HF := Hd (onB_2 hb ⟨.inl h, h3⟩)
     clear h h3 hb
     obtain ⟨g0, g1, g2, g3, g4, g5, g6, g7, g8, g9, g10, g11⟩ := froz12 HX1.out
     go_upto_region 14 with (fail)
     obtain ⟨W2, hW2, HX2, HB2, HZ2⟩ := sg_st HB1.out HZ1.out (T := tSaga) (sg_set5 HX1.out 1)
     rw [hW2]
     clear hW2 c0 c1 c2 c3 c4 c5 c6 c7 c8 c9 c10 c11 g0 g1 g2 g3 g4 g5 g6 g7 g8 g9 g10 g11 HB1 HX1 HZ1
     obtain ⟨c0, c1, c2, c3, c4, c5, c6, c7, c8, c9, c10, c11⟩ := sg_box HX2.out
     obtain ⟨m0, m1, m2, m3, m4, m5, m6, m7, m8, m9, m10, m11⟩ := cell12 HZ2.out
     obtain ⟨f0, f1, f2, f3, f4, f5, f6, f7, f8, f9, f10, f11⟩ := froz12 HZ2.out
     go_wp2_with fail
     refine bodyPost_ret (v := sgV { s with d5 := 1 }) (by simp [results, Tryz.results129, go_sem, m0, m1, m2, m3, m4, m5, m6, m7, m8, m9, m10, m11]) rfl ⟨by rw [HF.out], ?_⟩
     exact Below.turned HB2.out (turned_set12 W2 (w.heap.size + 1) _ _ _ _ _ _ _ _ _ _ _ _) (fun i h => by omega) HB2.out.size
    ·have h31 := beqF h3
     have HP' := Hd (show ∀ j, 1 < j → j ≤ 2 → ¬ ((s.deed j = 2 ∨ s.deed j = 4) ∧ s.deed (j + 3) = 0) from fun j a b => by rcases (show 2 < j ∨ j = 2 by omega) with h9 | h9; exact HP.out j h9 b; (rw [h9]; show ¬ ((s.d2 = 2 ∨ s.d2 = 4) ∧ s.d5 = 0); simp [*]))
     clear hb h h3
     go_wp2_with fail
     go_round
     case rel => exact ⟨1, rfl, by omega, by omega, HP'.out⟩
     case measure => simp [intOf]
   ·have h1 := beqF h
    by_cases h' : s.d2 = 4
    ·have h1' := beqT h'
     by_cases h3 : s.d5 = 0
     ·have h31 := beqT h3
      have HF := Hd (onB_2 hb ⟨.inr h', h3⟩)
      clear h h' h3 hb
      obtain ⟨g0, g1, g2, g3, g4, g5, g6, g7, g8, g9, g10, g11⟩ := froz12 HX1.out
      go_upto_region 14 with (fail)
      obtain ⟨W2, hW2, HX2, HB2, HZ2⟩ := sg_st HB1.out HZ1.out (T := tSaga) (sg_set5 HX1.out 1)
      rw [hW2]
      clear hW2 c0 c1 c2 c3 c4 c5 c6 c7 c8 c9 c10 c11 g0 g1 g2 g3 g4 g5 g6 g7 g8 g9 g10 g11 HB1 HX1 HZ1
      obtain ⟨c0, c1, c2, c3, c4, c5, c6, c7, c8, c9, c10, c11⟩ := sg_box HX2.out
      obtain ⟨m0, m1, m2, m3, m4, m5, m6, m7, m8, m9, m10, m11⟩ := cell12 HZ2.out
      obtain ⟨f0, f1, f2, f3, f4, f5, f6, f7, f8, f9, f10, f11⟩ := froz12 HZ2.out
      go_wp2_with fail
      refine bodyPost_ret (v := sgV { s with d5 := 1 }) (by simp [results, Tryz.results129, go_sem, m0, m1, m2, m3, m4, m5, m6, m7, m8, m9, m10, m11]) rfl ⟨by rw [HF.out], ?_⟩
      exact Below.turned HB2.out (turned_set12 W2 (w.heap.size + 1) _ _ _ _ _ _ _ _ _ _ _ _) (fun i h => by omega) HB2.out.size
     ·have h31 := beqF h3
      have HP' := Hd (show ∀ j, 1 < j → j ≤ 2 → ¬ ((s.deed j = 2 ∨ s.deed j = 4) ∧ s.deed (j + 3) = 0) from fun j a b => by rcases (show 2 < j ∨ j = 2 by omega) with h9 | h9; exact HP.out j h9 b; (rw [h9]; show ¬ ((s.d2 = 2 ∨ s.d2 = 4) ∧ s.d5 = 0); simp [*]))
      clear hb h h' h3
      go_wp2_with fail
      go_round
      case rel => exact ⟨1, rfl, by omega, by omega, HP'.out⟩
      case measure => simp [intOf]
    ·have h1' := beqF h'
     have HP' := Hd (show ∀ j, 1 < j → j ≤ 2 → ¬ ((s.deed j = 2 ∨ s.deed j = 4) ∧ s.deed (j + 3) = 0) from fun j a b => by rcases (show 2 < j ∨ j = 2 by omega) with h9 | h9; exact HP.out j h9 b; (rw [h9]; show ¬ ((s.d2 = 2 ∨ s.d2 = 4) ∧ s.d5 = 0); simp [*]))
     clear hb h h'
     go_wp2_with fail
     go_round
     case rel => exact ⟨1, rfl, by omega, by omega, HP'.out⟩
     case measure => simp [intOf]
  ·by_cases h : s.d1 = 2
   ·have h1 := beqT h
    by_cases h3 : s.d4 = 0
    ·have h31 := beqT h3
     have HF := Hd (onB_1 hb (show ¬ ((s.d2 = 2 ∨ s.d2 = 4) ∧ s.d5 = 0) from HP.out 2 (by decide) (by decide)) ⟨.inl h, h3⟩)
     clear h h3 hb
     obtain ⟨g0, g1, g2, g3, g4, g5, g6, g7, g8, g9, g10, g11⟩ := froz12 HX1.out
     go_upto_region 14 with (fail)
     obtain ⟨W2, hW2, HX2, HB2, HZ2⟩ := sg_st HB1.out HZ1.out (T := tSaga) (sg_set4 HX1.out 1)
     rw [hW2]
     clear hW2 c0 c1 c2 c3 c4 c5 c6 c7 c8 c9 c10 c11 g0 g1 g2 g3 g4 g5 g6 g7 g8 g9 g10 g11 HB1 HX1 HZ1
     obtain ⟨c0, c1, c2, c3, c4, c5, c6, c7, c8, c9, c10, c11⟩ := sg_box HX2.out
     obtain ⟨m0, m1, m2, m3, m4, m5, m6, m7, m8, m9, m10, m11⟩ := cell12 HZ2.out
     obtain ⟨f0, f1, f2, f3, f4, f5, f6, f7, f8, f9, f10, f11⟩ := froz12 HZ2.out
     go_wp2_with fail
     refine bodyPost_ret (v := sgV { s with d4 := 1 }) (by simp [results, Tryz.results129, go_sem, m0, m1, m2, m3, m4, m5, m6, m7, m8, m9, m10, m11]) rfl ⟨by rw [HF.out], ?_⟩
     exact Below.turned HB2.out (turned_set12 W2 (w.heap.size + 1) _ _ _ _ _ _ _ _ _ _ _ _) (fun i h => by omega) HB2.out.size
    ·have h31 := beqF h3
     have HP' := Hd (show ∀ j, 0 < j → j ≤ 2 → ¬ ((s.deed j = 2 ∨ s.deed j = 4) ∧ s.deed (j + 3) = 0) from fun j a b => by rcases (show 1 < j ∨ j = 1 by omega) with h9 | h9; exact HP.out j h9 b; (rw [h9]; show ¬ ((s.d1 = 2 ∨ s.d1 = 4) ∧ s.d4 = 0); simp [*]))
     clear hb h h3
     go_wp2_with fail
     go_round
     case rel => exact ⟨0, rfl, by omega, by omega, HP'.out⟩
     case measure => simp [intOf]
   ·have h1 := beqF h
    by_cases h' : s.d1 = 4
    ·have h1' := beqT h'
     by_cases h3 : s.d4 = 0
     ·have h31 := beqT h3
      have HF := Hd (onB_1 hb (show ¬ ((s.d2 = 2 ∨ s.d2 = 4) ∧ s.d5 = 0) from HP.out 2 (by decide) (by decide)) ⟨.inr h', h3⟩)
      clear h h' h3 hb
      obtain ⟨g0, g1, g2, g3, g4, g5, g6, g7, g8, g9, g10, g11⟩ := froz12 HX1.out
      go_upto_region 14 with (fail)
      obtain ⟨W2, hW2, HX2, HB2, HZ2⟩ := sg_st HB1.out HZ1.out (T := tSaga) (sg_set4 HX1.out 1)
      rw [hW2]
      clear hW2 c0 c1 c2 c3 c4 c5 c6 c7 c8 c9 c10 c11 g0 g1 g2 g3 g4 g5 g6 g7 g8 g9 g10 g11 HB1 HX1 HZ1
      obtain ⟨c0, c1, c2, c3, c4, c5, c6, c7, c8, c9, c10, c11⟩ := sg_box HX2.out
      obtain ⟨m0, m1, m2, m3, m4, m5, m6, m7, m8, m9, m10, m11⟩ := cell12 HZ2.out
      obtain ⟨f0, f1, f2, f3, f4, f5, f6, f7, f8, f9, f10, f11⟩ := froz12 HZ2.out
      go_wp2_with fail
      refine bodyPost_ret (v := sgV { s with d4 := 1 }) (by simp [results, Tryz.results129, go_sem, m0, m1, m2, m3, m4, m5, m6, m7, m8, m9, m10, m11]) rfl ⟨by rw [HF.out], ?_⟩
      exact Below.turned HB2.out (turned_set12 W2 (w.heap.size + 1) _ _ _ _ _ _ _ _ _ _ _ _) (fun i h => by omega) HB2.out.size
     ·have h31 := beqF h3
      have HP' := Hd (show ∀ j, 0 < j → j ≤ 2 → ¬ ((s.deed j = 2 ∨ s.deed j = 4) ∧ s.deed (j + 3) = 0) from fun j a b => by rcases (show 1 < j ∨ j = 1 by omega) with h9 | h9; exact HP.out j h9 b; (rw [h9]; show ¬ ((s.d1 = 2 ∨ s.d1 = 4) ∧ s.d4 = 0); simp [*]))
      clear hb h h' h3
      go_wp2_with fail
      go_round
      case rel => exact ⟨0, rfl, by omega, by omega, HP'.out⟩
      case measure => simp [intOf]
    ·have h1' := beqF h'
     have HP' := Hd (show ∀ j, 0 < j → j ≤ 2 → ¬ ((s.deed j = 2 ∨ s.deed j = 4) ∧ s.deed (j + 3) = 0) from fun j a b => by rcases (show 1 < j ∨ j = 1 by omega) with h9 | h9; exact HP.out j h9 b; (rw [h9]; show ¬ ((s.d1 = 2 ∨ s.d1 = 4) ∧ s.d4 = 0); simp [*]))
     clear hb h h'
     go_wp2_with fail
     go_round
     case rel => exact ⟨0, rfl, by omega, by omega, HP'.out⟩
     case measure => simp [intOf]
  ·by_cases h : s.d0 = 2
   ·have h1 := beqT h
    by_cases h3 : s.d3 = 0
    ·have h31 := beqT h3
     have HF := Hd (onB_0 hb (show ¬ ((s.d2 = 2 ∨ s.d2 = 4) ∧ s.d5 = 0) from HP.out 2 (by decide) (by decide)) (show ¬ ((s.d1 = 2 ∨ s.d1 = 4) ∧ s.d4 = 0) from HP.out 1 (by decide) (by decide)) ⟨.inl h, h3⟩)
     clear h h3 hb
     obtain ⟨g0, g1, g2, g3, g4, g5, g6, g7, g8, g9, g10, g11⟩ := froz12 HX1.out
     go_upto_region 14 with (fail)
     obtain ⟨W2, hW2, HX2, HB2, HZ2⟩ := sg_st HB1.out HZ1.out (T := tSaga) (sg_set3 HX1.out 1)
     rw [hW2]
     clear hW2 c0 c1 c2 c3 c4 c5 c6 c7 c8 c9 c10 c11 g0 g1 g2 g3 g4 g5 g6 g7 g8 g9 g10 g11 HB1 HX1 HZ1
     obtain ⟨c0, c1, c2, c3, c4, c5, c6, c7, c8, c9, c10, c11⟩ := sg_box HX2.out
     obtain ⟨m0, m1, m2, m3, m4, m5, m6, m7, m8, m9, m10, m11⟩ := cell12 HZ2.out
     obtain ⟨f0, f1, f2, f3, f4, f5, f6, f7, f8, f9, f10, f11⟩ := froz12 HZ2.out
     go_wp2_with fail
     refine bodyPost_ret (v := sgV { s with d3 := 1 }) (by simp [results, Tryz.results129, go_sem, m0, m1, m2, m3, m4, m5, m6, m7, m8, m9, m10, m11]) rfl ⟨by rw [HF.out], ?_⟩
     exact Below.turned HB2.out (turned_set12 W2 (w.heap.size + 1) _ _ _ _ _ _ _ _ _ _ _ _) (fun i h => by omega) HB2.out.size
    ·have h31 := beqF h3
     have HP' := Hd (show ∀ j, -1 < j → j ≤ 2 → ¬ ((s.deed j = 2 ∨ s.deed j = 4) ∧ s.deed (j + 3) = 0) from fun j a b => by rcases (show 0 < j ∨ j = 0 by omega) with h9 | h9; exact HP.out j h9 b; (rw [h9]; show ¬ ((s.d0 = 2 ∨ s.d0 = 4) ∧ s.d3 = 0); simp [*]))
     clear hb h h3
     go_wp2_with fail
     go_round
     case rel => exact ⟨-1, rfl, by omega, by omega, HP'.out⟩
     case measure => simp [intOf]
   ·have h1 := beqF h
    by_cases h' : s.d0 = 4
    ·have h1' := beqT h'
     by_cases h3 : s.d3 = 0
     ·have h31 := beqT h3
      have HF := Hd (onB_0 hb (show ¬ ((s.d2 = 2 ∨ s.d2 = 4) ∧ s.d5 = 0) from HP.out 2 (by decide) (by decide)) (show ¬ ((s.d1 = 2 ∨ s.d1 = 4) ∧ s.d4 = 0) from HP.out 1 (by decide) (by decide)) ⟨.inr h', h3⟩)
      clear h h' h3 hb
      obtain ⟨g0, g1, g2, g3, g4, g5, g6, g7, g8, g9, g10, g11⟩ := froz12 HX1.out
      go_upto_region 14 with (fail)
      obtain ⟨W2, hW2, HX2, HB2, HZ2⟩ := sg_st HB1.out HZ1.out (T := tSaga) (sg_set3 HX1.out 1)
      rw [hW2]
      clear hW2 c0 c1 c2 c3 c4 c5 c6 c7 c8 c9 c10 c11 g0 g1 g2 g3 g4 g5 g6 g7 g8 g9 g10 g11 HB1 HX1 HZ1
      obtain ⟨c0, c1, c2, c3, c4, c5, c6, c7, c8, c9, c10, c11⟩ := sg_box HX2.out
      obtain ⟨m0, m1, m2, m3, m4, m5, m6, m7, m8, m9, m10, m11⟩ := cell12 HZ2.out
      obtain ⟨f0, f1, f2, f3, f4, f5, f6, f7, f8, f9, f10, f11⟩ := froz12 HZ2.out
      go_wp2_with fail
      refine bodyPost_ret (v := sgV { s with d3 := 1 }) (by simp [results, Tryz.results129, go_sem, m0, m1, m2, m3, m4, m5, m6, m7, m8, m9, m10, m11]) rfl ⟨by rw [HF.out], ?_⟩
      exact Below.turned HB2.out (turned_set12 W2 (w.heap.size + 1) _ _ _ _ _ _ _ _ _ _ _ _) (fun i h => by omega) HB2.out.size
     ·have h31 := beqF h3
      have HP' := Hd (show ∀ j, -1 < j → j ≤ 2 → ¬ ((s.deed j = 2 ∨ s.deed j = 4) ∧ s.deed (j + 3) = 0) from fun j a b => by rcases (show 0 < j ∨ j = 0 by omega) with h9 | h9; exact HP.out j h9 b; (rw [h9]; show ¬ ((s.d0 = 2 ∨ s.d0 = 4) ∧ s.d3 = 0); simp [*]))
      clear hb h h' h3
      go_wp2_with fail
      go_round
      case rel => exact ⟨-1, rfl, by omega, by omega, HP'.out⟩
      case measure => simp [intOf]
    ·have h1' := beqF h'
     have HP' := Hd (show ∀ j, -1 < j → j ≤ 2 → ¬ ((s.deed j = 2 ∨ s.deed j = 4) ∧ s.deed (j + 3) = 0) from fun j a b => by rcases (show 0 < j ∨ j = 0 by omega) with h9 | h9; exact HP.out j h9 b; (rw [h9]; show ¬ ((s.d0 = 2 ∨ s.d0 = 4) ∧ s.d3 = 0); simp [*]))
     clear hb h h'
     go_wp2_with fail
     go_round
     case rel => exact ⟨-1, rfl, by omega, by omega, HP'.out⟩
     case measure => simp [intOf]
  ·have HF := Hd (onB_n hb (show ¬ ((s.d2 = 2 ∨ s.d2 = 4) ∧ s.d5 = 0) from HP.out 2 (by decide) (by decide)) (show ¬ ((s.d1 = 2 ∨ s.d1 = 4) ∧ s.d4 = 0) from HP.out 1 (by decide) (by decide)) (show ¬ ((s.d0 = 2 ∨ s.d0 = 4) ∧ s.d3 = 0) from HP.out 0 (by decide) (by decide)))
   clear hb
   clear c0 c1 c2 c3 c4 c5 c6 c7 c8 c9 c10 c11
   obtain ⟨c0, c1, c2, c3, c4, c5, c6, c7, c8, c9, c10, c11⟩ := sg_box HX1.out
   obtain ⟨m0, m1, m2, m3, m4, m5, m6, m7, m8, m9, m10, m11⟩ := cell12 HZ1.out
   obtain ⟨f0, f1, f2, f3, f4, f5, f6, f7, f8, f9, f10, f11⟩ := froz12 HZ1.out
   go_wp2_with fail
   refine bodyPost_ret (v := sgV s) (by simp [results, Tryz.results129, go_sem, m0, m1, m2, m3, m4, m5, m6, m7, m8, m9, m10, m11]) rfl ⟨by rw [HF.out], ?_⟩
   exact Below.turned HB1.out (turned_set12 w1 (w.heap.size + 1) _ _ _ _ _ _ _ _ _ _ _ _) (fun i h => by omega) HB1.out.size
theorem on_any (s : Sg) (w : World) : Calls Tryz.prog 129 #[sgV s] w fun e w' => e = .returned (sgV (onI s)) ∧ Below w.heap.size w w' := by
 cases hb : backB s with
 | false => exact on_go s w hb
 | true => exact on_back s w hb
end Go.Proofs.YtlkncmpengpbiaaGreatDoor

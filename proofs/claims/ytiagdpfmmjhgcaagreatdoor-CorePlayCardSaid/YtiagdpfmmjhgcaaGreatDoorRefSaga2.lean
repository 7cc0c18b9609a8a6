/- The document's sagas: what back, Net, Waits, State, on compute. -/
import Derived.Test.YtiagdpfmmjhgcaaGreatDoorSagaWalk3
import Derived.Test.YtiagdpfmmjhgcaaGreatDoorShort
namespace Go.Proofs.YtiagdpfmmjhgcaaGreatDoor
open Go.RowKit Key Sa
set_option linter.unusedSimpArgs false
set_option linter.unusedVariables false
set_option maxRecDepth 100000
set_option maxHeartbeats 4000000

theorem rback_any (s : Sg) (w : World) : Calls Tryz.prog 89 #[sgV s] w fun e w' => e = .returned (.bool (backB s)) ∧ Below w.heap.size w w' := by
 obtain ⟨hc, hcan⟩ : ∃ b, s.can = b := ⟨_, rfl⟩
 obtain ⟨c0, c1, c2, c3, c4, c5, c6, c7, c8, c9, c10, c11⟩ := sg_box (heap_new w (.cells (sgA s) tSagaR))
 rw [hcan] at c11
 cases hc with
 | true =>
  have HF := Hd (show backB s = true by unfold backB; simp [*])
  go_enter Tryz.func89, Tryz.ntmps89
  go_wp2_with fail
  go_ret
  exact ⟨by rw [HF.out]; rfl, below_alloc _ _⟩
 | false =>
  by_cases h0 : s.d0 = 3
  ·have q0 := beqT h0
   have HF := Hd (show backB s = true by unfold backB; simp [*])
   go_enter Tryz.func89, Tryz.ntmps89
   go_wp2_with fail
   go_ret
   exact ⟨by rw [HF.out]; rfl, below_alloc _ _⟩
  ·have q0 := beqF h0
   by_cases h1 : s.d1 = 3
   ·have q1 := beqT h1
    have HF := Hd (show backB s = true by unfold backB; simp [*])
    go_enter Tryz.func89, Tryz.ntmps89
    go_wp2_with fail
    go_ret
    exact ⟨by rw [HF.out]; rfl, below_alloc _ _⟩
   ·have q1 := beqF h1
    by_cases h2 : s.d2 = 3
    ·have q2 := beqT h2
     have HF := Hd (show backB s = true by unfold backB; simp [*])
     go_enter Tryz.func89, Tryz.ntmps89
     go_wp2_with fail
     go_ret
     exact ⟨by rw [HF.out]; rfl, below_alloc _ _⟩
    ·have q2 := beqF h2
     have HF := Hd (show backB s = false by unfold backB; simp [*])
     go_enter Tryz.func89, Tryz.ntmps89
     go_wp2_with fail
     go_ret
     exact ⟨by rw [HF.out]; rfl, below_alloc _ _⟩
theorem rnet_any (s : Sg) (w : World) : Calls Tryz.prog 65 #[sgV s] w fun e w' => e = .returned (.int .i64 (Sa.netI s)) ∧ Below w.heap.size w w' := by
 by_cases h : s.d1 = 2
 ·have h1 := beqT h
  by_cases h2 : s.d4 = 2
  ·have h3 := bneF h2
   have HF := Hd (show Sa.netI s = 0 by unfold Sa.netI; simp [h, h2])
   clear h h2
   obtain ⟨c0, c1, c2, c3, c4, c5, c6, c7, c8, c9, c10, c11⟩ := sg_box (heap_new w (.cells (sgA s) tSagaR))
   go_enter Tryz.func65, Tryz.ntmps65
   go_wp2_with fail
   go_ret
   exact ⟨ret_int HF.out.symm, below_alloc _ _⟩
  ·have h3 := bneT h2
   have HF := Hd (show Sa.netI s = s.amt by unfold Sa.netI; simp [h, h2])
   clear h h2
   obtain ⟨c0, c1, c2, c3, c4, c5, c6, c7, c8, c9, c10, c11⟩ := sg_box (heap_new w (.cells (sgA s) tSagaR))
   go_enter Tryz.func65, Tryz.ntmps65
   go_wp2_with fail
   go_ret
   exact ⟨ret_int HF.out.symm, below_alloc _ _⟩
 ·have h1 := beqF h
  have HF := Hd (show Sa.netI s = 0 by unfold Sa.netI; simp [h])
  clear h
  obtain ⟨c0, c1, c2, c3, c4, c5, c6, c7, c8, c9, c10, c11⟩ := sg_box (heap_new w (.cells (sgA s) tSagaR))
  go_enter Tryz.func65, Tryz.ntmps65
  go_wp2_with fail
  go_ret
  exact ⟨ret_int HF.out.symm, below_alloc _ _⟩
theorem rwaits_any (s : Sg) (w : World) : Calls Tryz.prog 62 #[sgV s] w fun e w' => e = .returned (.tuple #[.int .i64 (waitsN s), .bool (waitsB s)]) ∧ Below w.heap.size w w' := by
 obtain ⟨c0, c1, c2, c3, c4, c5, c6, c7, c8, c9, c10, c11⟩ := sg_box (heap_new w (.cells (sgA s) tSagaR))
 go_enter Tryz.func62, Tryz.ntmps62
 go_wp2_with fail
 go_loop [4] (fun i => ∃ k : Int, i = .int .i64 k ∧ 0 ≤ k ∧ k ≤ 6 ∧ Hid (∀ j, 0 ≤ j → j < k → s.deed j ≠ 1)) (fun i => 6 - (intOf i).toNat)
 case atStart => exact ⟨0, rfl, by omega, by omega, fun j h1 h2 => by omega⟩
 case round =>
  obtain ⟨k, rfl, hk0, hk6, HP⟩ := hrel
  rcases (show k = 0 ∨ k = 1 ∨ k = 2 ∨ k = 3 ∨ k = 4 ∨ k = 5 ∨ k = 6 by omega) with rfl | rfl | rfl | rfl | rfl | rfl | rfl
  ·by_cases h : s.d0 = 1
   ·have h1 := beqT h
    have HW := Hd (waits_at (s := s) (k := 0) (by omega) (by omega) HP.out h)
    clear h
    go_wp2_with fail
    go_ret2
    exact ⟨by unfold waitsN waitsB; rw [HW.out]; rfl, below_alloc _ _⟩
   ·have h1 := beqF h
    have HP' := Hd (show ∀ j, 0 ≤ j → j < 1 → s.deed j ≠ 1 from fun j a b => by rcases (show j < 0 ∨ j = 0 by omega) with h2 | h2; exact HP.out j a h2; (rw [h2]; exact h))
    clear h
    go_wp2_with fail
    go_round
    case rel => exact ⟨1, rfl, by omega, by omega, HP'.out⟩
    case measure => simp [intOf]
  ·by_cases h : s.d1 = 1
   ·have h1 := beqT h
    have HW := Hd (waits_at (s := s) (k := 1) (by omega) (by omega) HP.out h)
    clear h
    go_wp2_with fail
    go_ret2
    exact ⟨by unfold waitsN waitsB; rw [HW.out]; rfl, below_alloc _ _⟩
   ·have h1 := beqF h
    have HP' := Hd (show ∀ j, 0 ≤ j → j < 2 → s.deed j ≠ 1 from fun j a b => by rcases (show j < 1 ∨ j = 1 by omega) with h2 | h2; exact HP.out j a h2; (rw [h2]; exact h))
    clear h
    go_wp2_with fail
    go_round
    case rel => exact ⟨2, rfl, by omega, by omega, HP'.out⟩
    case measure => simp [intOf]
  ·by_cases h : s.d2 = 1
   ·have h1 := beqT h
    have HW := Hd (waits_at (s := s) (k := 2) (by omega) (by omega) HP.out h)
    clear h
    go_wp2_with fail
    go_ret2
    exact ⟨by unfold waitsN waitsB; rw [HW.out]; rfl, below_alloc _ _⟩
   ·have h1 := beqF h
    have HP' := Hd (show ∀ j, 0 ≤ j → j < 3 → s.deed j ≠ 1 from fun j a b => by rcases (show j < 2 ∨ j = 2 by omega) with h2 | h2; exact HP.out j a h2; (rw [h2]; exact h))
    clear h
    go_wp2_with fail
    go_round
    case rel => exact ⟨3, rfl, by omega, by omega, HP'.out⟩
    case measure => simp [intOf]
  ·by_cases h : s.d3 = 1
   ·have h1 := beqT h
    have HW := Hd (waits_at (s := s) (k := 3) (by omega) (by omega) HP.out h)
    clear h
    go_wp2_with fail
    go_ret2
    exact ⟨by unfold waitsN waitsB; rw [HW.out]; rfl, below_alloc _ _⟩
   ·have h1 := beqF h
    have HP' := Hd (show ∀ j, 0 ≤ j → j < 4 → s.deed j ≠ 1 from fun j a b => by rcases (show j < 3 ∨ j = 3 by omega) with h2 | h2; exact HP.out j a h2; (rw [h2]; exact h))
    clear h
    go_wp2_with fail
    go_round
    case rel => exact ⟨4, rfl, by omega, by omega, HP'.out⟩
    case measure => simp [intOf]
  ·by_cases h : s.d4 = 1
   ·have h1 := beqT h
    have HW := Hd (waits_at (s := s) (k := 4) (by omega) (by omega) HP.out h)
    clear h
    go_wp2_with fail
    go_ret2
    exact ⟨by unfold waitsN waitsB; rw [HW.out]; rfl, below_alloc _ _⟩
   ·have h1 := beqF h
    have HP' := Hd (show ∀ j, 0 ≤ j → j < 5 → s.deed j ≠ 1 from fun j a b => by rcases (show j < 4 ∨ j = 4 by omega) with h2 | h2; exact HP.out j a h2; (rw [h2]; exact h))
    clear h
    go_wp2_with fail
    go_round
    case rel => exact ⟨5, rfl, by omega, by omega, HP'.out⟩
    case measure => simp [intOf]
  ·by_cases h : s.d5 = 1
   ·have h1 := beqT h
    have HW := Hd (waits_at (s := s) (k := 5) (by omega) (by omega) HP.out h)
    clear h
    go_wp2_with fail
    go_ret2
    exact ⟨by unfold waitsN waitsB; rw [HW.out]; rfl, below_alloc _ _⟩
   ·have h1 := beqF h
    have HP' := Hd (show ∀ j, 0 ≤ j → j < 6 → s.deed j ≠ 1 from fun j a b => by rcases (show j < 5 ∨ j = 5 by omega) with h2 | h2; exact HP.out j a h2; (rw [h2]; exact h))
    clear h
    go_wp2_with fail
    go_round
    case rel => exact ⟨6, rfl, by omega, by omega, HP'.out⟩
    case measure => simp [intOf]
  ·have HW := Hd (waits_none HP.out)
   go_wp2_with fail
   go_ret2
   exact ⟨by unfold waitsN waitsB; rw [HW.out]; rfl, below_alloc _ _⟩
theorem rback_at {s : Sg} {b : Bool} (h : backB s = b) (W : World) : Calls Tryz.prog 89 #[sgV s] W fun e w' => e = .returned (.bool b) ∧ Below W.heap.size W w' := by rw [← h]; exact rback_any s W
theorem rwaits_of {s : Sg} {n : Int} {b : Bool} (h : waitsN s = n) (h2 : waitsB s = b) (W : World) : Calls Tryz.prog 62 #[sgV s] W fun e w' => e = .returned (.tuple #[.int .i64 n, .bool b]) ∧ Below W.heap.size W w' := by rw [← h, ← h2]; exact rwaits_any s W
theorem rstate_any (s : Sg) (w : World) : Calls Tryz.prog 61 #[sgV s] w fun e w' => e = .returned (.int .i64 (stateI s)) ∧ Below w.heap.size w w' := by
 cases hb : backB s with
 | false =>
  cases hw : waitsB s with
  | false =>
   have HBK := Hd (rback_at hb)
   have HW := Hd (rwaits_of rfl hw)
   have HF := Hd (show stateI s = 2 by unfold stateI; simp [hb, hw])
   have HB := Hd (below_alloc w (.cells (sgA s) tSagaR))
   have HX := Hd (heap_new w (.cells (sgA s) tSagaR))
   clear hb hw
   obtain ⟨c0, c1, c2, c3, c4, c5, c6, c7, c8, c9, c10, c11⟩ := sg_box HX.out
   go_enter Tryz.func61, Tryz.ntmps61
   go_wp2_with fail
   refine (HW.out _).mono ?_
   rintro e w1 ⟨rfl, hb1⟩
   have HB1 := Hd (bch HB.out hb1 HB.out.size)
   have HX1 := Hd (heap_keep HX.out hb1)
   clear hb1 c0 c1 c2 c3 c4 c5 c6 c7 c8 c9 c10 c11
   obtain ⟨c0, c1, c2, c3, c4, c5, c6, c7, c8, c9, c10, c11⟩ := sg_box HX1.out
   go_wp2_with fail
   refine (HBK.out _).mono ?_
   rintro e w2 ⟨rfl, hb2⟩
   have HB2 := Hd (bch HB1.out hb2 HB1.out.size)
   have HX2 := Hd (heap_keep HX1.out hb2)
   clear hb2 c0 c1 c2 c3 c4 c5 c6 c7 c8 c9 c10 c11
   obtain ⟨c0, c1, c2, c3, c4, c5, c6, c7, c8, c9, c10, c11⟩ := sg_box HX2.out
   go_wp2_with fail
   go_ret
   exact ⟨ret_int HF.out.symm, HB2.out⟩
  | true =>
   have HBK := Hd (rback_at hb)
   have HW := Hd (rwaits_of rfl hw)
   have HF := Hd (show stateI s = 0 by unfold stateI; simp [hb, hw])
   have HB := Hd (below_alloc w (.cells (sgA s) tSagaR))
   have HX := Hd (heap_new w (.cells (sgA s) tSagaR))
   clear hb hw
   obtain ⟨c0, c1, c2, c3, c4, c5, c6, c7, c8, c9, c10, c11⟩ := sg_box HX.out
   go_enter Tryz.func61, Tryz.ntmps61
   go_wp2_with fail
   refine (HW.out _).mono ?_
   rintro e w1 ⟨rfl, hb1⟩
   have HB1 := Hd (bch HB.out hb1 HB.out.size)
   have HX1 := Hd (heap_keep HX.out hb1)
   clear hb1 c0 c1 c2 c3 c4 c5 c6 c7 c8 c9 c10 c11
   obtain ⟨c0, c1, c2, c3, c4, c5, c6, c7, c8, c9, c10, c11⟩ := sg_box HX1.out
   go_wp2_with fail
   refine (HBK.out _).mono ?_
   rintro e w2 ⟨rfl, hb2⟩
   have HB2 := Hd (bch HB1.out hb2 HB1.out.size)
   have HX2 := Hd (heap_keep HX1.out hb2)
   clear hb2 c0 c1 c2 c3 c4 c5 c6 c7 c8 c9 c10 c11
   obtain ⟨c0, c1, c2, c3, c4, c5, c6, c7, c8, c9, c10, c11⟩ := sg_box HX2.out
   go_wp2_with fail
   go_ret
   exact ⟨ret_int HF.out.symm, HB2.out⟩
 | true =>
  cases hw : waitsB s with
  | false =>
   obtain ⟨i, r, k, q, a, d0, d1, d2, d3, d4, d5, can⟩ := s
   cases can with
   | false =>
    have HBK := Hd (rback_at hb)
    have HW := Hd (rwaits_of rfl hw)
    have HF := Hd (show stateI (⟨i, r, k, q, a, d0, d1, d2, d3, d4, d5, false⟩ : Sg) = 3 by unfold stateI; simp [hb, hw])
    have HB := Hd (below_alloc w (.cells (sgA (⟨i, r, k, q, a, d0, d1, d2, d3, d4, d5, false⟩ : Sg)) tSagaR))
    have HX := Hd (heap_new w (.cells (sgA (⟨i, r, k, q, a, d0, d1, d2, d3, d4, d5, false⟩ : Sg)) tSagaR))
    clear hb hw
    obtain ⟨c0, c1, c2, c3, c4, c5, c6, c7, c8, c9, c10, c11⟩ := sg_box HX.out
    go_enter Tryz.func61, Tryz.ntmps61
    go_wp2_with fail
    refine (HW.out _).mono ?_
    rintro e w1 ⟨rfl, hb1⟩
    have HB1 := Hd (bch HB.out hb1 HB.out.size)
    have HX1 := Hd (heap_keep HX.out hb1)
    clear hb1 c0 c1 c2 c3 c4 c5 c6 c7 c8 c9 c10 c11
    obtain ⟨c0, c1, c2, c3, c4, c5, c6, c7, c8, c9, c10, c11⟩ := sg_box HX1.out
    go_wp2_with fail
    refine (HBK.out _).mono ?_
    rintro e w2 ⟨rfl, hb2⟩
    have HB2 := Hd (bch HB1.out hb2 HB1.out.size)
    have HX2 := Hd (heap_keep HX1.out hb2)
    clear hb2 c0 c1 c2 c3 c4 c5 c6 c7 c8 c9 c10 c11
    obtain ⟨c0, c1, c2, c3, c4, c5, c6, c7, c8, c9, c10, c11⟩ := sg_box HX2.out
    go_wp2_with fail
    go_ret
    exact ⟨ret_int HF.out.symm, HB2.out⟩
   | true =>
    have HBK := Hd (rback_at hb)
    have HW := Hd (rwaits_of rfl hw)
    have HF := Hd (show stateI (⟨i, r, k, q, a, d0, d1, d2, d3, d4, d5, true⟩ : Sg) = 4 by unfold stateI; simp [hb, hw])
    have HB := Hd (below_alloc w (.cells (sgA (⟨i, r, k, q, a, d0, d1, d2, d3, d4, d5, true⟩ : Sg)) tSagaR))
    have HX := Hd (heap_new w (.cells (sgA (⟨i, r, k, q, a, d0, d1, d2, d3, d4, d5, true⟩ : Sg)) tSagaR))
    clear hb hw
    obtain ⟨c0, c1, c2, c3, c4, c5, c6, c7, c8, c9, c10, c11⟩ := sg_box HX.out
    go_enter Tryz.func61, Tryz.ntmps61
    go_wp2_with fail
    refine (HW.out _).mono ?_
    rintro e w1 ⟨rfl, hb1⟩
    have HB1 := Hd (bch HB.out hb1 HB.out.size)
    have HX1 := Hd (heap_keep HX.out hb1)
    clear hb1 c0 c1 c2 c3 c4 c5 c6 c7 c8 c9 c10 c11
    obtain ⟨c0, c1, c2, c3, c4, c5, c6, c7, c8, c9, c10, c11⟩ := sg_box HX1.out
    go_wp2_with fail
    refine (HBK.out _).mono ?_
    rintro e w2 ⟨rfl, hb2⟩
    have HB2 := Hd (bch HB1.out hb2 HB1.out.size)
    have HX2 := Hd (heap_keep HX1.out hb2)
    clear hb2 c0 c1 c2 c3 c4 c5 c6 c7 c8 c9 c10 c11
    obtain ⟨c0, c1, c2, c3, c4, c5, c6, c7, c8, c9, c10, c11⟩ := sg_box HX2.out
    go_wp2_with fail
    go_ret
    exact ⟨ret_int HF.out.symm, HB2.out⟩
  | true =>
   have HBK := Hd (rback_at hb)
   have HW := Hd (rwaits_of rfl hw)
   have HF := Hd (show stateI s = 1 by unfold stateI; simp [hb, hw])
   have HB := Hd (below_alloc w (.cells (sgA s) tSagaR))
   have HX := Hd (heap_new w (.cells (sgA s) tSagaR))
   clear hb hw
   obtain ⟨c0, c1, c2, c3, c4, c5, c6, c7, c8, c9, c10, c11⟩ := sg_box HX.out
   go_enter Tryz.func61, Tryz.ntmps61
   go_wp2_with fail
   refine (HW.out _).mono ?_
   rintro e w1 ⟨rfl, hb1⟩
   have HB1 := Hd (bch HB.out hb1 HB.out.size)
   have HX1 := Hd (heap_keep HX.out hb1)
   clear hb1 c0 c1 c2 c3 c4 c5 c6 c7 c8 c9 c10 c11
   obtain ⟨c0, c1, c2, c3, c4, c5, c6, c7, c8, c9, c10, c11⟩ := sg_box HX1.out
   go_wp2_with fail
   refine (HBK.out _).mono ?_
   rintro e w2 ⟨rfl, hb2⟩
   have HB2 := Hd (bch HB1.out hb2 HB1.out.size)
   have HX2 := Hd (heap_keep HX1.out hb2)
   clear hb2 c0 c1 c2 c3 c4 c5 c6 c7 c8 c9 c10 c11
   obtain ⟨c0, c1, c2, c3, c4, c5, c6, c7, c8, c9, c10, c11⟩ := sg_box HX2.out
   go_wp2_with fail
   go_ret
   exact ⟨ret_int HF.out.symm, HB2.out⟩
theorem rstate_at {s : Sg} {n : Int} (h : stateI s = n) (W : World) : Calls Tryz.prog 61 #[sgV s] W fun e w' => e = .returned (.int .i64 n) ∧ Below W.heap.size W w' := by rw [← h]; exact rstate_any s W
theorem ron_go (s : Sg) (w : World) (hb : backB s = false) : Calls Tryz.prog 63 #[sgV s] w fun e w' => e = .returned (sgV (onI s)) ∧ Below w.heap.size w w' := by
 have HBK := Hd (show ∀ W, Calls Tryz.prog 89 #[sgV s] W fun e w' => e = .returned (.bool false) ∧ Below W.heap.size W w' from fun W => by have := rback_any s W; rw [hb] at this; exact this)
 obtain ⟨wa, HA, HB, HX, HZ⟩ := two_hid w (sgA s) (sgA sg0) tSagaR tSagaR
 go_enter Tryz.func63, Tryz.ntmps63
 go_wp2_with fail
 rw [← HA.out]
 refine (HBK.out _).mono ?_
 rintro e w1 ⟨rfl, hbw⟩
 have HB1 := Hd (bch HB.out hbw HB.out.size)
 have HX1 := Hd (heap_keep HX.out hbw)
 have HZ1 := Hd (heap_keep HZ.out hbw)
 clear hbw HA HB HX HZ HBK
 have hz := heap_lt HZ1.out
 obtain ⟨c0, c1, c2, c3, c4, c5, c6, c7, c8, c9, c10, c11⟩ := sg_box HX1.out
 go_wp2_with fail
 go_loop [3] (fun i => ∃ k : Int, i = .int .i64 k ∧ 0 ≤ k ∧ k ≤ 3 ∧ Hid (∀ j, 0 ≤ j → j < k → s.deed j ≠ 0)) (fun i => 3 - (intOf i).toNat)
 case atStart => exact ⟨0, rfl, by omega, by omega, fun j h1 h2 => by omega⟩
 case round =>
  obtain ⟨k, rfl, hk0, hk3, HP⟩ := hrel
  rcases (show k = 0 ∨ k = 1 ∨ k = 2 ∨ k = 3 by omega) with rfl | rfl | rfl | rfl
  ·by_cases h : s.d0 = 0
   ·have h1 := beqT h
    have HF := Hd (show onI s = { s with d0 := 1 } by unfold onI; simp [Sg.deed] at *; simp [hb, h, *])
    clear h hb
    obtain ⟨g0, g1, g2, g3, g4, g5, g6, g7, g8, g9, g10, g11⟩ := froz12 HX1.out
    go_upto_region 7 with (fail)
    obtain ⟨W2, hW2, HX2, HB2, HZ2⟩ := sg_st HB1.out HZ1.out (T := tSagaR) (sg_set0 HX1.out 1)
    rw [hW2]
    clear hW2 c0 c1 c2 c3 c4 c5 c6 c7 c8 c9 c10 c11 g0 g1 g2 g3 g4 g5 g6 g7 g8 g9 g10 g11 HB1 HX1 HZ1
    obtain ⟨c0, c1, c2, c3, c4, c5, c6, c7, c8, c9, c10, c11⟩ := sg_box HX2.out
    obtain ⟨m0, m1, m2, m3, m4, m5, m6, m7, m8, m9, m10, m11⟩ := cell12 HZ2.out
    obtain ⟨f0, f1, f2, f3, f4, f5, f6, f7, f8, f9, f10, f11⟩ := froz12 HZ2.out
    go_wp2_with fail
    refine bodyPost_ret (v := sgV { s with d0 := 1 }) (by simp [results, Tryz.results63, go_sem, m0, m1, m2, m3, m4, m5, m6, m7, m8, m9, m10, m11]) rfl ⟨by rw [HF.out], ?_⟩
    exact Below.turned HB2.out (turned_set12 W2 (w.heap.size + 1) _ _ _ _ _ _ _ _ _ _ _ _) (fun i h => by omega) HB2.out.size
   ·have h1 := beqF h
    have HP' := Hd (show ∀ j, 0 ≤ j → j < 1 → s.deed j ≠ 0 from fun j a b => by rcases (show j < 0 ∨ j = 0 by omega) with h2 | h2; exact HP.out j a h2; (rw [h2]; exact h))
    clear h hb
    go_wp2_with fail
    go_round
    case rel => exact ⟨1, rfl, by omega, by omega, HP'.out⟩
    case measure => simp [intOf]
  ·by_cases h : s.d1 = 0
   ·have h1 := beqT h
    have HF := Hd (show onI s = { s with d1 := 1 } by have n0 := HP.out 0 (by decide) (by decide); unfold onI; simp [Sg.deed] at *; simp [hb, h, *])
    clear h hb
    obtain ⟨g0, g1, g2, g3, g4, g5, g6, g7, g8, g9, g10, g11⟩ := froz12 HX1.out
    go_upto_region 7 with (fail)
    obtain ⟨W2, hW2, HX2, HB2, HZ2⟩ := sg_st HB1.out HZ1.out (T := tSagaR) (sg_set1 HX1.out 1)
    rw [hW2]
    clear hW2 c0 c1 c2 c3 c4 c5 c6 c7 c8 c9 c10 c11 g0 g1 g2 g3 g4 g5 g6 g7 g8 g9 g10 g11 HB1 HX1 HZ1
    obtain ⟨c0, c1, c2, c3, c4, c5, c6, c7, c8, c9, c10, c11⟩ := sg_box HX2.out
    obtain ⟨m0, m1, m2, m3, m4, m5, m6, m7, m8, m9, m10, m11⟩ := cell12 HZ2.out
    obtain ⟨f0, f1, f2, f3, f4, f5, f6, f7, f8, f9, f10, f11⟩ := froz12 HZ2.out
    go_wp2_with fail
    refine bodyPost_ret (v := sgV { s with d1 := 1 }) (by simp [results, Tryz.results63, go_sem, m0, m1, m2, m3, m4, m5, m6, m7, m8, m9, m10, m11]) rfl ⟨by rw [HF.out], ?_⟩
    exact Below.turned HB2.out (turned_set12 W2 (w.heap.size + 1) _ _ _ _ _ _ _ _ _ _ _ _) (fun i h => by omega) HB2.out.size
   ·have h1 := beqF h
    have HP' := Hd (show ∀ j, 0 ≤ j → j < 2 → s.deed j ≠ 0 from fun j a b => by rcases (show j < 1 ∨ j = 1 by omega) with h2 | h2; exact HP.out j a h2; (rw [h2]; exact h))
    clear h hb
    go_wp2_with fail
    go_round
    case rel => exact ⟨2, rfl, by omega, by omega, HP'.out⟩
    case measure => simp [intOf]
  ·by_cases h : s.d2 = 0
   ·have h1 := beqT h
    have HF := Hd (show onI s = { s with d2 := 1 } by have n0 := HP.out 0 (by decide) (by decide); have n1 := HP.out 1 (by decide) (by decide); unfold onI; simp [Sg.deed] at *; simp [hb, h, *])
    clear h hb
    obtain ⟨g0, g1, g2, g3, g4, g5, g6, g7, g8, g9, g10, g11⟩ := froz12 HX1.out
    go_upto_region 7 with (fail)
    obtain ⟨W2, hW2, HX2, HB2, HZ2⟩ := sg_st HB1.out HZ1.out (T := tSagaR) (sg_set2 HX1.out 1)
    rw [hW2]
    clear hW2 c0 c1 c2 c3 c4 c5 c6 c7 c8 c9 c10 c11 g0 g1 g2 g3 g4 g5 g6 g7 g8 g9 g10 g11 HB1 HX1 HZ1
    obtain ⟨c0, c1, c2, c3, c4, c5, c6, c7, c8, c9, c10, c11⟩ := sg_box HX2.out
    obtain ⟨m0, m1, m2, m3, m4, m5, m6, m7, m8, m9, m10, m11⟩ := cell12 HZ2.out
    obtain ⟨f0, f1, f2, f3, f4, f5, f6, f7, f8, f9, f10, f11⟩ := froz12 HZ2.out
    go_wp2_with fail
    refine bodyPost_ret (v := sgV { s with d2 := 1 }) (by simp [results, Tryz.results63, go_sem, m0, m1, m2, m3, m4, m5, m6, m7, m8, m9, m10, m11]) rfl ⟨by rw [HF.out], ?_⟩
    exact Below.turned HB2.out (turned_set12 W2 (w.heap.size + 1) _ _ _ _ _ _ _ _ _ _ _ _) (fun i h => by omega) HB2.out.size
   ·have h1 := beqF h
    have HP' := Hd (show ∀ j, 0 ≤ j → j < 3 → s.deed j ≠ 0 from fun j a b => by rcases (show j < 2 ∨ j = 2 by omega) with h2 | h2; exact HP.out j a h2; (rw [h2]; exact h))
    clear h hb
    go_wp2_with fail
    go_round
    case rel => exact ⟨3, rfl, by omega, by omega, HP'.out⟩
    case measure => simp [intOf]
  ·have HF := Hd (show onI s = s by have n0 := HP.out 0 (by decide) (by decide); have n1 := HP.out 1 (by decide) (by decide); have n2 := HP.out 2 (by decide) (by decide); unfold onI; simp [Sg.deed] at *; simp [hb, *])
   clear hb
   clear c0 c1 c2 c3 c4 c5 c6 c7 c8 c9 c10 c11
   obtain ⟨c0, c1, c2, c3, c4, c5, c6, c7, c8, c9, c10, c11⟩ := sg_box HX1.out
   obtain ⟨m0, m1, m2, m3, m4, m5, m6, m7, m8, m9, m10, m11⟩ := cell12 HZ1.out
   obtain ⟨f0, f1, f2, f3, f4, f5, f6, f7, f8, f9, f10, f11⟩ := froz12 HZ1.out
   go_wp2_with fail
   refine bodyPost_ret (v := sgV s) (by simp [results, Tryz.results63, go_sem, m0, m1, m2, m3, m4, m5, m6, m7, m8, m9, m10, m11]) rfl ⟨by rw [HF.out], ?_⟩
   exact Below.turned HB1.out (turned_set12 w1 (w.heap.size + 1) _ _ _ _ _ _ _ _ _ _ _ _) (fun i h => by omega) HB1.out.size
theorem ron_back (s : Sg) (w : World) (hb : backB s = true) : Calls Tryz.prog 63 #[sgV s] w fun e w' => e = .returned (sgV (onI s)) ∧ Below w.heap.size w w' := by
 have HBK := Hd (show ∀ W, Calls Tryz.prog 89 #[sgV s] W fun e w' => e = .returned (.bool true) ∧ Below W.heap.size W w' from fun W => by have := rback_any s W; rw [hb] at this; exact this)
 obtain ⟨wa, HA, HB, HX, HZ⟩ := two_hid w (sgA s) (sgA sg0) tSagaR tSagaR
 go_enter Tryz.func63, Tryz.ntmps63
 go_wp2_with fail
 rw [← HA.out]
 refine (HBK.out _).mono ?_
 rintro e w1 ⟨rfl, hbw⟩
 have HB1 := Hd (bch HB.out hbw HB.out.size)
 have HX1 := Hd (heap_keep HX.out hbw)
 have HZ1 := Hd (heap_keep HZ.out hbw)
 clear hbw HA HB HX HZ HBK
 have hz := heap_lt HZ1.out
 obtain ⟨c0, c1, c2, c3, c4, c5, c6, c7, c8, c9, c10, c11⟩ := sg_box HX1.out
 go_wp2_with fail
 go_loop [4] (fun i => ∃ k : Int, i = .int .i64 k ∧ -1 ≤ k ∧ k ≤ 2 ∧ Hid (∀ j, k < j → j ≤ 2 → ¬ ((s.deed j = 2 ∨ s.deed j = 4) ∧ s.deed (j + 3) = 0))) (fun i => ((intOf i) + 1).toNat)
 case atStart => exact ⟨2, rfl, by omega, by omega, fun j h1 h2 => by omega⟩
 case round =>
  obtain ⟨k, rfl, hk0, hk3, HP⟩ := hrel
  rcases (show k = 2 ∨ k = 1 ∨ k = 0 ∨ k = -1 by omega) with rfl | rfl | rfl | rfl
  ·by_cases h : s.d2 = 2
   ·have h1 := beqT h
    by_cases h3 : s.d5 = 0
    ·have h31 := beqT h3
     have HF := Hd (onB_2 hb ⟨.inl h, h3⟩)
     clear h h3 hb
     obtain ⟨g0, g1, g2, g3, g4, g5, g6, g7, g8, g9, g10, g11⟩ := froz12 HX1.out
     go_upto_region 14 with (fail)
     obtain ⟨W2, hW2, HX2, HB2, HZ2⟩ := sg_st HB1.out HZ1.out (T := tSagaR) (sg_set5 HX1.out 1)
     rw [hW2]
     clear hW2 c0 c1 c2 c3 c4 c5 c6 c7 c8 c9 c10 c11 g0 g1 g2 g3 g4 g5 g6 g7 g8 g9 g10 g11 HB1 HX1 HZ1
     obtain ⟨c0, c1, c2, c3, c4, c5, c6, c7, c8, c9, c10, c11⟩ := sg_box HX2.out
     obtain ⟨m0, m1, m2, m3, m4, m5, m6, m7, m8, m9, m10, m11⟩ := cell12 HZ2.out
     obtain ⟨f0, f1, f2, f3, f4, f5, f6, f7, f8, f9, f10, f11⟩ := froz12 HZ2.out
     go_wp2_with fail
     refine bodyPost_ret (v := sgV { s with d5 := 1 }) (by simp [results, Tryz.results63, go_sem, m0, m1, m2, m3, m4, m5, m6, m7, m8, m9, m10, m11]) rfl ⟨by rw [HF.out], ?_⟩
     exact Below.turned HB2.out (turned_set12 W2 (w.heap.size + 1) _ _ _ _ _ _ _ _ _ _ _ _) (fun i h => by omega) HB2.out.size
    ·have h31 := beqF h3
     have HP' := Hd (show ∀ j, 1 < j → j ≤ 2 → ¬ ((s.deed j = 2 ∨ s.deed j = 4) ∧ s.deed (j + 3) = 0) from fun j a b => by rcases (show 2 < j ∨ j = 2 by omega) with h9 | h9; exact HP.out j h9 b; (rw [h9]; show ¬ ((s.d2 = 2 ∨ s.d2 = 4) ∧ s.d5 = 0); simp [*]))
     clear hb h h3
     go_wp2_with fail
     go_round
     case rel => exact ⟨1, rfl, by omega, by omega, HP'.out⟩
     case measure => simp [intOf]
   ·have h1 := beqF h
    by_cases h' : s.d2 = 4
    ·have h1' := beqT h'
     by_cases h3 : s.d5 = 0
     ·have h31 := beqT h3
      have HF := Hd (onB_2 hb ⟨.inr h', h3⟩)
      clear h h' h3 hb
      obtain ⟨g0, g1, g2, g3, g4, g5, g6, g7, g8, g9, g10, g11⟩ := froz12 HX1.out
      go_upto_region 14 with (fail)
      obtain ⟨W2, hW2, HX2, HB2, HZ2⟩ := sg_st HB1.out HZ1.out (T := tSagaR) (sg_set5 HX1.out 1)
      rw [hW2]
      clear hW2 c0 c1 c2 c3 c4 c5 c6 c7 c8 c9 c10 c11 g0 g1 g2 g3 g4 g5 g6 g7 g8 g9 g10 g11 HB1 HX1 HZ1
      obtain ⟨c0, c1, c2, c3, c4, c5, c6, c7, c8, c9, c10, c11⟩ := sg_box HX2.out
      obtain ⟨m0, m1, m2, m3, m4, m5, m6, m7, m8, m9, m10, m11⟩ := cell12 HZ2.out
      obtain ⟨f0, f1, f2, f3, f4, f5, f6, f7, f8, f9, f10, f11⟩ := froz12 HZ2.out
      go_wp2_with fail
      refine bodyPost_ret (v := sgV { s with d5 := 1 }) (by simp [results, Tryz.results63, go_sem, m0, m1, m2, m3, m4, m5, m6, m7, m8, m9, m10, m11]) rfl ⟨by rw [HF.out], ?_⟩
      exact Below.turned HB2.out (turned_set12 W2 (w.heap.size + 1) _ _ _ _ _ _ _ _ _ _ _ _) (fun i h => by omega) HB2.out.size
     ·have h31 := beqF h3
      have HP' := Hd (show ∀ j, 1 < j → j ≤ 2 → ¬ ((s.deed j = 2 ∨ s.deed j = 4) ∧ s.deed (j + 3) = 0) from fun j a b => by rcases (show 2 < j ∨ j = 2 by omega) with h9 | h9; exact HP.out j h9 b; (rw [h9]; show ¬ ((s.d2 = 2 ∨ s.d2 = 4) ∧ s.d5 = 0); simp [*]))
      clear hb h h' h3
      go_wp2_with fail
      go_round
      case rel => exact ⟨1, rfl, by omega, by omega, HP'.out⟩
      case measure => simp [intOf]
    ·have h1' := beqF h'
     have HP' := Hd (show ∀ j, 1 < j → j ≤ 2 → ¬ ((s.deed j = 2 ∨ s.deed j = 4) ∧ s.deed (j + 3) = 0) from fun j a b => by rcases (show 2 < j ∨ j = 2 by omega) with h9 | h9; exact HP.out j h9 b; (rw [h9]; show ¬ ((s.d2 = 2 ∨ s.d2 = 4) ∧ s.d5 = 0); simp [*]))
     clear hb h h'
     go_wp2_with fail
     go_round
     case rel => exact ⟨1, rfl, by omega, by omega, HP'.out⟩
     case measure => simp [intOf]
  ·by_cases h : s.d1 = 2
   ·have h1 := beqT h
    by_cases h3 : s.d4 = 0
    ·have h31 := beqT h3
     have HF := Hd (onB_1 hb (show ¬ ((s.d2 = 2 ∨ s.d2 = 4) ∧ s.d5 = 0) from HP.out 2 (by decide) (by decide)) ⟨.inl h, h3⟩)
     clear h h3 hb
     obtain ⟨g0, g1, g2, g3, g4, g5, g6, g7, g8, g9, g10, g11⟩ := froz12 HX1.out
     go_upto_region 14 with (fail)
     obtain ⟨W2, hW2, HX2, HB2, HZ2⟩ := sg_st HB1.out HZ1.out (T := tSagaR) (sg_set4 HX1.out 1)
     rw [hW2]
     clear hW2 c0 c1 c2 c3 c4 c5 c6 c7 c8 c9 c10 c11 g0 g1 g2 g3 g4 g5 g6 g7 g8 g9 g10 g11 HB1 HX1 HZ1
     obtain ⟨c0, c1, c2, c3, c4, c5, c6, c7, c8, c9, c10, c11⟩ := sg_box HX2.out
     obtain ⟨m0, m1, m2, m3, m4, m5, m6, m7, m8, m9, m10, m11⟩ := cell12 HZ2.out
     obtain ⟨f0, f1, f2, f3, f4, f5, f6, f7, f8, f9, f10, f11⟩ := froz12 HZ2.out
     go_wp2_with fail
     refine bodyPost_ret (v := sgV { s with d4 := 1 }) (by simp [results, Tryz.results63, go_sem, m0, m1, m2, m3, m4, m5, m6, m7, m8, m9, m10, m11]) rfl ⟨by rw [HF.out], ?_⟩
     exact Below.turned HB2.out (turned_set12 W2 (w.heap.size + 1) _ _ _ _ _ _ _ _ _ _ _ _) (fun i h => by omega) HB2.out.size
    ·have h31 := beqF h3
     have HP' := Hd (show ∀ j, 0 < j → j ≤ 2 → ¬ ((s.deed j = 2 ∨ s.deed j = 4) ∧ s.deed (j + 3) = 0) from fun j a b => by rcases (show 1 < j ∨ j = 1 by omega) with h9 | h9; exact HP.out j h9 b; (rw [h9]; show ¬ ((s.d1 = 2 ∨ s.d1 = 4) ∧ s.d4 = 0); simp [*]))
     clear hb h h3
     go_wp2_with fail
     go_round
     case rel => exact ⟨0, rfl, by omega, by omega, HP'.out⟩
     case measure => simp [intOf]
   ·have h1 := beqF h
    by_cases h' : s.d1 = 4
    ·have h1' := beqT h'
     by_cases h3 : s.d4 = 0
     ·have h31 := beqT h3
      have HF := Hd (onB_1 hb (show ¬ ((s.d2 = 2 ∨ s.d2 = 4) ∧ s.d5 = 0) from HP.out 2 (by decide) (by decide)) ⟨.inr h', h3⟩)
      clear h h' h3 hb
      obtain ⟨g0, g1, g2, g3, g4, g5, g6, g7, g8, g9, g10, g11⟩ := froz12 HX1.out
      go_upto_region 14 with (fail)
      obtain ⟨W2, hW2, HX2, HB2, HZ2⟩ := sg_st HB1.out HZ1.out (T := tSagaR) (sg_set4 HX1.out 1)
      rw [hW2]
      clear hW2 c0 c1 c2 c3 c4 c5 c6 c7 c8 c9 c10 c11 g0 g1 g2 g3 g4 g5 g6 g7 g8 g9 g10 g11 HB1 HX1 HZ1
      obtain ⟨c0, c1, c2, c3, c4, c5, c6, c7, c8, c9, c10, c11⟩ := sg_box HX2.out
      obtain ⟨m0, m1, m2, m3, m4, m5, m6, m7, m8, m9, m10, m11⟩ := cell12 HZ2.out
      obtain ⟨f0, f1, f2, f3, f4, f5, f6, f7, f8, f9, f10, f11⟩ := froz12 HZ2.out
      go_wp2_with fail
      refine bodyPost_ret (v := sgV { s with d4 := 1 }) (by simp [results, Tryz.results63, go_sem, m0, m1, m2, m3, m4, m5, m6, m7, m8, m9, m10, m11]) rfl ⟨by rw [HF.out], ?_⟩
      exact Below.turned HB2.out (turned_set12 W2 (w.heap.size + 1) _ _ _ _ _ _ _ _ _ _ _ _) (fun i h => by omega) HB2.out.size
     ·have h31 := beqF h3
      have HP' := Hd (show ∀ j, 0 < j → j ≤ 2 → ¬ ((s.deed j = 2 ∨ s.deed j = 4) ∧ s.deed (j + 3) = 0) from fun j a b => by rcases (show 1 < j ∨ j = 1 by omega) with h9 | h9; exact HP.out j h9 b; (rw [h9]; show ¬ ((s.d1 = 2 ∨ s.d1 = 4) ∧ s.d4 = 0); simp [*]))
      clear hb h h' h3
      go_wp2_with fail
      go_round
      case rel => exact ⟨0, rfl, by omega, by omega, HP'.out⟩
      case measure => simp [intOf]
    ·have h1' := beqF h'
     have HP' := Hd (show ∀ j, 0 < j → j ≤ 2 → ¬ ((s.deed j = 2 ∨ s.deed j = 4) ∧ s.deed (j + 3) = 0) from fun j a b => by rcases (show 1 < j ∨ j = 1 by omega) with h9 | h9; exact HP.out j h9 b; (rw [h9]; show ¬ ((s.d1 = 2 ∨ s.d1 = 4) ∧ s.d4 = 0); simp [*]))
     clear hb h h'
     go_wp2_with fail
     go_round
     case rel => exact ⟨0, rfl, by omega, by omega, HP'.out⟩
     case measure => simp [intOf]
  ·by_cases h : s.d0 = 2
   ·have h1 := beqT h
    by_cases h3 : s.d3 = 0
    ·have h31 := beqT h3
     have HF := Hd (onB_0 hb (show ¬ ((s.d2 = 2 ∨ s.d2 = 4) ∧ s.d5 = 0) from HP.out 2 (by decide) (by decide)) (show ¬ ((s.d1 = 2 ∨ s.d1 = 4) ∧ s.d4 = 0) from HP.out 1 (by decide) (by decide)) ⟨.inl h, h3⟩)
     clear h h3 hb
     obtain ⟨g0, g1, g2, g3, g4, g5, g6, g7, g8, g9, g10, g11⟩ := froz12 HX1.out
     go_upto_region 14 with (fail)
     obtain ⟨W2, hW2, HX2, HB2, HZ2⟩ := sg_st HB1.out HZ1.out (T := tSagaR) (sg_set3 HX1.out 1)
     rw [hW2]
     clear hW2 c0 c1 c2 c3 c4 c5 c6 c7 c8 c9 c10 c11 g0 g1 g2 g3 g4 g5 g6 g7 g8 g9 g10 g11 HB1 HX1 HZ1
     obtain ⟨c0, c1, c2, c3, c4, c5, c6, c7, c8, c9, c10, c11⟩ := sg_box HX2.out
     obtain ⟨m0, m1, m2, m3, m4, m5, m6, m7, m8, m9, m10, m11⟩ := cell12 HZ2.out
     obtain ⟨f0, f1, f2, f3, f4, f5, f6, f7, f8, f9, f10, f11⟩ := froz12 HZ2.out
     go_wp2_with fail
     refine bodyPost_ret (v := sgV { s with d3 := 1 }) (by simp [results, Tryz.results63, go_sem, m0, m1, m2, m3, m4, m5, m6, m7, m8, m9, m10, m11]) rfl ⟨by rw [HF.out], ?_⟩
     exact Below.turned HB2.out (turned_set12 W2 (w.heap.size + 1) _ _ _ _ _ _ _ _ _ _ _ _) (fun i h => by omega) HB2.out.size
    ·have h31 := beqF h3
     have HP' := Hd (show ∀ j, -1 < j → j ≤ 2 → ¬ ((s.deed j = 2 ∨ s.deed j = 4) ∧ s.deed (j + 3) = 0) from fun j a b => by rcases (show 0 < j ∨ j = 0 by omega) with h9 | h9; exact HP.out j h9 b; (rw [h9]; show ¬ ((s.d0 = 2 ∨ s.d0 = 4) ∧ s.d3 = 0); simp [*]))
     clear hb h h3
     go_wp2_with fail
     go_round
     case rel => exact ⟨-1, rfl, by omega, by omega, HP'.out⟩
     case measure => simp [intOf]
   ·have h1 := beqF h
    by_cases h' : s.d0 = 4
    ·have h1' := beqT h'
     by_cases h3 : s.d3 = 0
     ·have h31 := beqT h3
      have HF := Hd (onB_0 hb (show ¬ ((s.d2 = 2 ∨ s.d2 = 4) ∧ s.d5 = 0) from HP.out 2 (by decide) (by decide)) (show ¬ ((s.d1 = 2 ∨ s.d1 = 4) ∧ s.d4 = 0) from HP.out 1 (by decide) (by decide)) ⟨.inr h', h3⟩)
      clear h h' h3 hb
      obtain ⟨g0, g1, g2, g3, g4, g5, g6, g7, g8, g9, g10, g11⟩ := froz12 HX1.out
      go_upto_region 14 with (fail)
      obtain ⟨W2, hW2, HX2, HB2, HZ2⟩ := sg_st HB1.out HZ1.out (T := tSagaR) (sg_set3 HX1.out 1)
      rw [hW2]
      clear hW2 c0 c1 c2 c3 c4 c5 c6 c7 c8 c9 c10 c11 g0 g1 g2 g3 g4 g5 g6 g7 g8 g9 g10 g11 HB1 HX1 HZ1
      obtain ⟨c0, c1, c2, c3, c4, c5, c6, c7, c8, c9, c10, c11⟩ := sg_box HX2.out
      obtain ⟨m0, m1, m2, m3, m4, m5, m6, m7, m8, m9, m10, m11⟩ := cell12 HZ2.out
      obtain ⟨f0, f1, f2, f3, f4, f5, f6, f7, f8, f9, f10, f11⟩ := froz12 HZ2.out
      go_wp2_with fail
      refine bodyPost_ret (v := sgV { s with d3 := 1 }) (by simp [results, Tryz.results63, go_sem, m0, m1, m2, m3, m4, m5, m6, m7, m8, m9, m10, m11]) rfl ⟨by rw [HF.out], ?_⟩
      exact Below.turned HB2.out (turned_set12 W2 (w.heap.size + 1) _ _ _ _ _ _ _ _ _ _ _ _) (fun i h => by omega) HB2.out.size
     ·have h31 := beqF h3
      have HP' := Hd (show ∀ j, -1 < j → j ≤ 2 → ¬ ((s.deed j = 2 ∨ s.deed j = 4) ∧ s.deed (j + 3) = 0) from fun j a b => by rcases (show 0 < j ∨ j = 0 by omega) with h9 | h9; exact HP.out j h9 b; (rw [h9]; show ¬ ((s.d0 = 2 ∨ s.d0 = 4) ∧ s.d3 = 0); simp [*]))
      clear hb h h' h3
      go_wp2_with fail
      go_round
      case rel => exact ⟨-1, rfl, by omega, by omega, HP'.out⟩
      case measure => simp [intOf]
    ·have h1' := beqF h'
     have HP' := Hd (show ∀ j, -1 < j → j ≤ 2 → ¬ ((s.deed j = 2 ∨ s.deed j = 4) ∧ s.deed (j + 3) = 0) from fun j a b => by rcases (show 0 < j ∨ j = 0 by omega) with h9 | h9; exact HP.out j h9 b; (rw [h9]; show ¬ ((s.d0 = 2 ∨ s.d0 = 4) ∧ s.d3 = 0); simp [*]))
     clear hb h h'
     go_wp2_with fail
     go_round
     case rel => exact ⟨-1, rfl, by omega, by omega, HP'.out⟩
     case measure => simp [intOf]
  ·have HF := Hd (onB_n hb (show ¬ ((s.d2 = 2 ∨ s.d2 = 4) ∧ s.d5 = 0) from HP.out 2 (by decide) (by decide)) (show ¬ ((s.d1 = 2 ∨ s.d1 = 4) ∧ s.d4 = 0) from HP.out 1 (by decide) (by decide)) (show ¬ ((s.d0 = 2 ∨ s.d0 = 4) ∧ s.d3 = 0) from HP.out 0 (by decide) (by decide)))
   clear hb
   clear c0 c1 c2 c3 c4 c5 c6 c7 c8 c9 c10 c11
   obtain ⟨c0, c1, c2, c3, c4, c5, c6, c7, c8, c9, c10, c11⟩ := sg_box HX1.out
   obtain ⟨m0, m1, m2, m3, m4, m5, m6, m7, m8, m9, m10, m11⟩ := cell12 HZ1.out
   obtain ⟨f0, f1, f2, f3, f4, f5, f6, f7, f8, f9, f10, f11⟩ := froz12 HZ1.out
   go_wp2_with fail
   refine bodyPost_ret (v := sgV s) (by simp [results, Tryz.results63, go_sem, m0, m1, m2, m3, m4, m5, m6, m7, m8, m9, m10, m11]) rfl ⟨by rw [HF.out], ?_⟩
   exact Below.turned HB1.out (turned_set12 w1 (w.heap.size + 1) _ _ _ _ _ _ _ _ _ _ _ _) (fun i h => by omega) HB1.out.size
theorem ron_any (s : Sg) (w : World) : Calls Tryz.prog 63 #[sgV s] w fun e w' => e = .returned (sgV (onI s)) ∧ Below w.heap.size w w' := by
 cases hb : backB s with
 | false => exact ron_go s w hb
 | true => exact ron_back s w hb
end Go.Proofs.YtiagdpfmmjhgcaaGreatDoor
/- The document's sagas: what Begin, Reply, Stop compute. -/
namespace Go.Proofs.YtiagdpfmmjhgcaaGreatDoor
open Go.RowKit Key Sa
set_option linter.unusedSimpArgs false
set_option linter.unusedVariables false
set_option maxRecDepth 100000
set_option maxHeartbeats 4000000

theorem rbegin_any (i : Int) (r k : List UInt8) (q a : Int) (w : World) : Calls Tryz.prog 26 #[.agg #[.int .i64 i, .string ⟨r.toArray⟩, .string ⟨k.toArray⟩, .int .i64 q, .int .i64 a]] w fun e w' => e = .returned (sgV (beginI i r k q a)) ∧ Below w.heap.size w w' := by
 obtain ⟨wa, HA, HB, HX, HZ⟩ := two_hid w #[.int .i64 i, .string ⟨r.toArray⟩, .string ⟨k.toArray⟩, .int .i64 q, .int .i64 a] (sgA sg0) tOrder tSagaR
 go_enter Tryz.func26, Tryz.ntmps26
 go_upto_region 1 with (fail)
 rw [← HA.out]
 obtain ⟨k0, k1, k2, k3, k4⟩ := cell5 HX.out
 have hz := heap_lt HZ.out
 obtain ⟨m0, m1, m2, m3, m4, m5, m6, m7, m8, m9, m10, m11⟩ := cell12 HZ.out
 obtain ⟨f0, f1, f2, f3, f4, f5, f6, f7, f8, f9, f10, f11⟩ := froz12 HZ.out
 go_wp2_with fail
 refine bodyPost_ret (v := sgV (⟨i, r, k, q, a, 1, 0, 0, 0, 0, 0, false⟩ : Sg)) (by simp [results, Tryz.results26, go_sem, m0, m1, m2, m3, m4, m5, m6, m7, m8, m9, m10, m11]) rfl ⟨rfl, ?_⟩
 exact Below.turned HB.out (turned_set12 wa (w.heap.size + 1) _ _ _ _ _ _ _ _ _ _ _ _) (fun i h => by omega) HB.out.size
theorem rreply_yes (s : Sg) (deed code : Int) (w : World) (hr : replyB s deed code = true) : Calls Tryz.prog 64 #[sgV s, .int .i64 deed, .int .i64 code] w fun e w' => e = .returned (.tuple #[sgV (replyI s deed code), .bool true]) ∧ Below w.heap.size w w' := by
 have hr' := hr
 unfold replyB at hr'; simp only [Bool.and_eq_true, Bool.or_eq_true, decide_eq_true_eq] at hr'
 obtain ⟨⟨h6, hd⟩, hc⟩ := hr'
 clear hr
 subst hd
 rcases waits_cases s with hd | hd | hd | hd | hd | hd | hd
 all_goals rw [hd] at hc ⊢
 ·rcases hc with rfl | ⟨rfl, _⟩
  all_goals clear h6
  ·have HW := Hd (rwaits_of (show waitsN s = 0 by unfold waitsN; rw [hd]; rfl) (show waitsB s = true by unfold waitsB; rw [hd]; rfl))
   have HON := Hd (fun W => ron_any { s with d0 := 2 } W)
   have HF := Hd (show replyI s 0 1 = onI { s with d0 := 2 } from rfl)
   clear hd
   obtain ⟨wa, HA, HB, HX, HZ⟩ := two_hid w (sgA s) (sgA sg0) tSagaR tSagaR
   go_enter Tryz.func64, Tryz.ntmps64
   go_wp2_with fail
   rw [← HA.out]
   refine (HW.out _).mono ?_
   rintro e w1 ⟨rfl, hb⟩
   have HB1 := Hd (bch HB.out hb HB.out.size)
   have HX1 := Hd (heap_keep HX.out hb)
   have HZ1 := Hd (heap_keep HZ.out hb)
   clear hb HA HB HX HZ HW
   obtain ⟨c0, c1, c2, c3, c4, c5, c6, c7, c8, c9, c10, c11⟩ := sg_box HX1.out
   obtain ⟨g0, g1, g2, g3, g4, g5, g6, g7, g8, g9, g10, g11⟩ := froz12 HX1.out
   go_upto_region 5 with (fail)
   obtain ⟨W2, hW2, HX2, HB2, HZ2⟩ := sg_st HB1.out HZ1.out (T := tSagaR) (sg_set0 HX1.out 2)
   rw [hW2]
   clear hW2 c0 c1 c2 c3 c4 c5 c6 c7 c8 c9 c10 c11 g0 g1 g2 g3 g4 g5 g6 g7 g8 g9 g10 g11 HB1 HX1 HZ1
   obtain ⟨c0, c1, c2, c3, c4, c5, c6, c7, c8, c9, c10, c11⟩ := sg_box HX2.out
   go_wp2_with fail
   refine (HON.out _).mono ?_
   rintro e w3 ⟨rfl, hb⟩
   have HB3 := Hd (bch HB2.out hb HB2.out.size)
   have HZ3 := Hd (heap_keep HZ2.out hb)
   clear hb c0 c1 c2 c3 c4 c5 c6 c7 c8 c9 c10 c11 HB2 HX2 HZ2
   have hz := heap_lt HZ3.out
   obtain ⟨m0, m1, m2, m3, m4, m5, m6, m7, m8, m9, m10, m11⟩ := cell12 HZ3.out
   obtain ⟨f0, f1, f2, f3, f4, f5, f6, f7, f8, f9, f10, f11⟩ := froz12 HZ3.out
   go_wp2_with fail
   refine bodyPost_ret (v := .tuple #[sgV (onI { s with d0 := 2 }), .bool true]) (by simp [results, Tryz.results64, go_sem, m0, m1, m2, m3, m4, m5, m6, m7, m8, m9, m10, m11]) rfl ⟨by rw [HF.out], ?_⟩
   exact Below.turned HB3.out (turned_set12 w3 (w.heap.size + 1) _ _ _ _ _ _ _ _ _ _ _ _) (fun i h => by omega) HB3.out.size
  ·have HW := Hd (rwaits_of (show waitsN s = 0 by unfold waitsN; rw [hd]; rfl) (show waitsB s = true by unfold waitsB; rw [hd]; rfl))
   have HON := Hd (fun W => ron_any { s with d0 := 3 } W)
   have HF := Hd (show replyI s 0 2 = onI { s with d0 := 3 } from rfl)
   clear hd
   obtain ⟨wa, HA, HB, HX, HZ⟩ := two_hid w (sgA s) (sgA sg0) tSagaR tSagaR
   go_enter Tryz.func64, Tryz.ntmps64
   go_wp2_with fail
   rw [← HA.out]
   refine (HW.out _).mono ?_
   rintro e w1 ⟨rfl, hb⟩
   have HB1 := Hd (bch HB.out hb HB.out.size)
   have HX1 := Hd (heap_keep HX.out hb)
   have HZ1 := Hd (heap_keep HZ.out hb)
   clear hb HA HB HX HZ HW
   obtain ⟨c0, c1, c2, c3, c4, c5, c6, c7, c8, c9, c10, c11⟩ := sg_box HX1.out
   obtain ⟨g0, g1, g2, g3, g4, g5, g6, g7, g8, g9, g10, g11⟩ := froz12 HX1.out
   go_upto_region 5 with (fail)
   obtain ⟨W2, hW2, HX2, HB2, HZ2⟩ := sg_st HB1.out HZ1.out (T := tSagaR) (sg_set0 HX1.out 3)
   rw [hW2]
   clear hW2 c0 c1 c2 c3 c4 c5 c6 c7 c8 c9 c10 c11 g0 g1 g2 g3 g4 g5 g6 g7 g8 g9 g10 g11 HB1 HX1 HZ1
   obtain ⟨c0, c1, c2, c3, c4, c5, c6, c7, c8, c9, c10, c11⟩ := sg_box HX2.out
   go_wp2_with fail
   refine (HON.out _).mono ?_
   rintro e w3 ⟨rfl, hb⟩
   have HB3 := Hd (bch HB2.out hb HB2.out.size)
   have HZ3 := Hd (heap_keep HZ2.out hb)
   clear hb c0 c1 c2 c3 c4 c5 c6 c7 c8 c9 c10 c11 HB2 HX2 HZ2
   have hz := heap_lt HZ3.out
   obtain ⟨m0, m1, m2, m3, m4, m5, m6, m7, m8, m9, m10, m11⟩ := cell12 HZ3.out
   obtain ⟨f0, f1, f2, f3, f4, f5, f6, f7, f8, f9, f10, f11⟩ := froz12 HZ3.out
   go_wp2_with fail
   refine bodyPost_ret (v := .tuple #[sgV (onI { s with d0 := 3 }), .bool true]) (by simp [results, Tryz.results64, go_sem, m0, m1, m2, m3, m4, m5, m6, m7, m8, m9, m10, m11]) rfl ⟨by rw [HF.out], ?_⟩
   exact Below.turned HB3.out (turned_set12 w3 (w.heap.size + 1) _ _ _ _ _ _ _ _ _ _ _ _) (fun i h => by omega) HB3.out.size
 ·rcases hc with rfl | ⟨rfl, _⟩
  all_goals clear h6
  ·have HW := Hd (rwaits_of (show waitsN s = 1 by unfold waitsN; rw [hd]; rfl) (show waitsB s = true by unfold waitsB; rw [hd]; rfl))
   have HON := Hd (fun W => ron_any { s with d1 := 2 } W)
   have HF := Hd (show replyI s 1 1 = onI { s with d1 := 2 } from rfl)
   clear hd
   obtain ⟨wa, HA, HB, HX, HZ⟩ := two_hid w (sgA s) (sgA sg0) tSagaR tSagaR
   go_enter Tryz.func64, Tryz.ntmps64
   go_wp2_with fail
   rw [← HA.out]
   refine (HW.out _).mono ?_
   rintro e w1 ⟨rfl, hb⟩
   have HB1 := Hd (bch HB.out hb HB.out.size)
   have HX1 := Hd (heap_keep HX.out hb)
   have HZ1 := Hd (heap_keep HZ.out hb)
   clear hb HA HB HX HZ HW
   obtain ⟨c0, c1, c2, c3, c4, c5, c6, c7, c8, c9, c10, c11⟩ := sg_box HX1.out
   obtain ⟨g0, g1, g2, g3, g4, g5, g6, g7, g8, g9, g10, g11⟩ := froz12 HX1.out
   go_upto_region 5 with (fail)
   obtain ⟨W2, hW2, HX2, HB2, HZ2⟩ := sg_st HB1.out HZ1.out (T := tSagaR) (sg_set1 HX1.out 2)
   rw [hW2]
   clear hW2 c0 c1 c2 c3 c4 c5 c6 c7 c8 c9 c10 c11 g0 g1 g2 g3 g4 g5 g6 g7 g8 g9 g10 g11 HB1 HX1 HZ1
   obtain ⟨c0, c1, c2, c3, c4, c5, c6, c7, c8, c9, c10, c11⟩ := sg_box HX2.out
   go_wp2_with fail
   refine (HON.out _).mono ?_
   rintro e w3 ⟨rfl, hb⟩
   have HB3 := Hd (bch HB2.out hb HB2.out.size)
   have HZ3 := Hd (heap_keep HZ2.out hb)
   clear hb c0 c1 c2 c3 c4 c5 c6 c7 c8 c9 c10 c11 HB2 HX2 HZ2
   have hz := heap_lt HZ3.out
   obtain ⟨m0, m1, m2, m3, m4, m5, m6, m7, m8, m9, m10, m11⟩ := cell12 HZ3.out
   obtain ⟨f0, f1, f2, f3, f4, f5, f6, f7, f8, f9, f10, f11⟩ := froz12 HZ3.out
   go_wp2_with fail
   refine bodyPost_ret (v := .tuple #[sgV (onI { s with d1 := 2 }), .bool true]) (by simp [results, Tryz.results64, go_sem, m0, m1, m2, m3, m4, m5, m6, m7, m8, m9, m10, m11]) rfl ⟨by rw [HF.out], ?_⟩
   exact Below.turned HB3.out (turned_set12 w3 (w.heap.size + 1) _ _ _ _ _ _ _ _ _ _ _ _) (fun i h => by omega) HB3.out.size
  ·have HW := Hd (rwaits_of (show waitsN s = 1 by unfold waitsN; rw [hd]; rfl) (show waitsB s = true by unfold waitsB; rw [hd]; rfl))
   have HON := Hd (fun W => ron_any { s with d1 := 3 } W)
   have HF := Hd (show replyI s 1 2 = onI { s with d1 := 3 } from rfl)
   clear hd
   obtain ⟨wa, HA, HB, HX, HZ⟩ := two_hid w (sgA s) (sgA sg0) tSagaR tSagaR
   go_enter Tryz.func64, Tryz.ntmps64
   go_wp2_with fail
   rw [← HA.out]
   refine (HW.out _).mono ?_
   rintro e w1 ⟨rfl, hb⟩
   have HB1 := Hd (bch HB.out hb HB.out.size)
   have HX1 := Hd (heap_keep HX.out hb)
   have HZ1 := Hd (heap_keep HZ.out hb)
   clear hb HA HB HX HZ HW
   obtain ⟨c0, c1, c2, c3, c4, c5, c6, c7, c8, c9, c10, c11⟩ := sg_box HX1.out
   obtain ⟨g0, g1, g2, g3, g4, g5, g6, g7, g8, g9, g10, g11⟩ := froz12 HX1.out
   go_upto_region 5 with (fail)
   obtain ⟨W2, hW2, HX2, HB2, HZ2⟩ := sg_st HB1.out HZ1.out (T := tSagaR) (sg_set1 HX1.out 3)
   rw [hW2]
   clear hW2 c0 c1 c2 c3 c4 c5 c6 c7 c8 c9 c10 c11 g0 g1 g2 g3 g4 g5 g6 g7 g8 g9 g10 g11 HB1 HX1 HZ1
   obtain ⟨c0, c1, c2, c3, c4, c5, c6, c7, c8, c9, c10, c11⟩ := sg_box HX2.out
   go_wp2_with fail
   refine (HON.out _).mono ?_
   rintro e w3 ⟨rfl, hb⟩
   have HB3 := Hd (bch HB2.out hb HB2.out.size)
   have HZ3 := Hd (heap_keep HZ2.out hb)
   clear hb c0 c1 c2 c3 c4 c5 c6 c7 c8 c9 c10 c11 HB2 HX2 HZ2
   have hz := heap_lt HZ3.out
   obtain ⟨m0, m1, m2, m3, m4, m5, m6, m7, m8, m9, m10, m11⟩ := cell12 HZ3.out
   obtain ⟨f0, f1, f2, f3, f4, f5, f6, f7, f8, f9, f10, f11⟩ := froz12 HZ3.out
   go_wp2_with fail
   refine bodyPost_ret (v := .tuple #[sgV (onI { s with d1 := 3 }), .bool true]) (by simp [results, Tryz.results64, go_sem, m0, m1, m2, m3, m4, m5, m6, m7, m8, m9, m10, m11]) rfl ⟨by rw [HF.out], ?_⟩
   exact Below.turned HB3.out (turned_set12 w3 (w.heap.size + 1) _ _ _ _ _ _ _ _ _ _ _ _) (fun i h => by omega) HB3.out.size
 ·rcases hc with rfl | ⟨rfl, _⟩
  all_goals clear h6
  ·have HW := Hd (rwaits_of (show waitsN s = 2 by unfold waitsN; rw [hd]; rfl) (show waitsB s = true by unfold waitsB; rw [hd]; rfl))
   have HON := Hd (fun W => ron_any { s with d2 := 2 } W)
   have HF := Hd (show replyI s 2 1 = onI { s with d2 := 2 } from rfl)
   clear hd
   obtain ⟨wa, HA, HB, HX, HZ⟩ := two_hid w (sgA s) (sgA sg0) tSagaR tSagaR
   go_enter Tryz.func64, Tryz.ntmps64
   go_wp2_with fail
   rw [← HA.out]
   refine (HW.out _).mono ?_
   rintro e w1 ⟨rfl, hb⟩
   have HB1 := Hd (bch HB.out hb HB.out.size)
   have HX1 := Hd (heap_keep HX.out hb)
   have HZ1 := Hd (heap_keep HZ.out hb)
   clear hb HA HB HX HZ HW
   obtain ⟨c0, c1, c2, c3, c4, c5, c6, c7, c8, c9, c10, c11⟩ := sg_box HX1.out
   obtain ⟨g0, g1, g2, g3, g4, g5, g6, g7, g8, g9, g10, g11⟩ := froz12 HX1.out
   go_upto_region 5 with (fail)
   obtain ⟨W2, hW2, HX2, HB2, HZ2⟩ := sg_st HB1.out HZ1.out (T := tSagaR) (sg_set2 HX1.out 2)
   rw [hW2]
   clear hW2 c0 c1 c2 c3 c4 c5 c6 c7 c8 c9 c10 c11 g0 g1 g2 g3 g4 g5 g6 g7 g8 g9 g10 g11 HB1 HX1 HZ1
   obtain ⟨c0, c1, c2, c3, c4, c5, c6, c7, c8, c9, c10, c11⟩ := sg_box HX2.out
   go_wp2_with fail
   refine (HON.out _).mono ?_
   rintro e w3 ⟨rfl, hb⟩
   have HB3 := Hd (bch HB2.out hb HB2.out.size)
   have HZ3 := Hd (heap_keep HZ2.out hb)
   clear hb c0 c1 c2 c3 c4 c5 c6 c7 c8 c9 c10 c11 HB2 HX2 HZ2
   have hz := heap_lt HZ3.out
   obtain ⟨m0, m1, m2, m3, m4, m5, m6, m7, m8, m9, m10, m11⟩ := cell12 HZ3.out
   obtain ⟨f0, f1, f2, f3, f4, f5, f6, f7, f8, f9, f10, f11⟩ := froz12 HZ3.out
   go_wp2_with fail
   refine bodyPost_ret (v := .tuple #[sgV (onI { s with d2 := 2 }), .bool true]) (by simp [results, Tryz.results64, go_sem, m0, m1, m2, m3, m4, m5, m6, m7, m8, m9, m10, m11]) rfl ⟨by rw [HF.out], ?_⟩
   exact Below.turned HB3.out (turned_set12 w3 (w.heap.size + 1) _ _ _ _ _ _ _ _ _ _ _ _) (fun i h => by omega) HB3.out.size
  ·have HW := Hd (rwaits_of (show waitsN s = 2 by unfold waitsN; rw [hd]; rfl) (show waitsB s = true by unfold waitsB; rw [hd]; rfl))
   have HON := Hd (fun W => ron_any { s with d2 := 3 } W)
   have HF := Hd (show replyI s 2 2 = onI { s with d2 := 3 } from rfl)
   clear hd
   obtain ⟨wa, HA, HB, HX, HZ⟩ := two_hid w (sgA s) (sgA sg0) tSagaR tSagaR
   go_enter Tryz.func64, Tryz.ntmps64
   go_wp2_with fail
   rw [← HA.out]
   refine (HW.out _).mono ?_
   rintro e w1 ⟨rfl, hb⟩
   have HB1 := Hd (bch HB.out hb HB.out.size)
   have HX1 := Hd (heap_keep HX.out hb)
   have HZ1 := Hd (heap_keep HZ.out hb)
   clear hb HA HB HX HZ HW
   obtain ⟨c0, c1, c2, c3, c4, c5, c6, c7, c8, c9, c10, c11⟩ := sg_box HX1.out
   obtain ⟨g0, g1, g2, g3, g4, g5, g6, g7, g8, g9, g10, g11⟩ := froz12 HX1.out
   go_upto_region 5 with (fail)
   obtain ⟨W2, hW2, HX2, HB2, HZ2⟩ := sg_st HB1.out HZ1.out (T := tSagaR) (sg_set2 HX1.out 3)
   rw [hW2]
   clear hW2 c0 c1 c2 c3 c4 c5 c6 c7 c8 c9 c10 c11 g0 g1 g2 g3 g4 g5 g6 g7 g8 g9 g10 g11 HB1 HX1 HZ1
   obtain ⟨c0, c1, c2, c3, c4, c5, c6, c7, c8, c9, c10, c11⟩ := sg_box HX2.out
   go_wp2_with fail
   refine (HON.out _).mono ?_
   rintro e w3 ⟨rfl, hb⟩
   have HB3 := Hd (bch HB2.out hb HB2.out.size)
   have HZ3 := Hd (heap_keep HZ2.out hb)
   clear hb c0 c1 c2 c3 c4 c5 c6 c7 c8 c9 c10 c11 HB2 HX2 HZ2
   have hz := heap_lt HZ3.out
   obtain ⟨m0, m1, m2, m3, m4, m5, m6, m7, m8, m9, m10, m11⟩ := cell12 HZ3.out
   obtain ⟨f0, f1, f2, f3, f4, f5, f6, f7, f8, f9, f10, f11⟩ := froz12 HZ3.out
   go_wp2_with fail
   refine bodyPost_ret (v := .tuple #[sgV (onI { s with d2 := 3 }), .bool true]) (by simp [results, Tryz.results64, go_sem, m0, m1, m2, m3, m4, m5, m6, m7, m8, m9, m10, m11]) rfl ⟨by rw [HF.out], ?_⟩
   exact Below.turned HB3.out (turned_set12 w3 (w.heap.size + 1) _ _ _ _ _ _ _ _ _ _ _ _) (fun i h => by omega) HB3.out.size
 ·obtain rfl : code = 1 := by omega
  clear h6 hc
  have HW := Hd (rwaits_of (show waitsN s = 3 by unfold waitsN; rw [hd]; rfl) (show waitsB s = true by unfold waitsB; rw [hd]; rfl))
  have HON := Hd (fun W => ron_any { s with d3 := 2 } W)
  have HF := Hd (show replyI s 3 1 = onI { s with d3 := 2 } from rfl)
  clear hd
  obtain ⟨wa, HA, HB, HX, HZ⟩ := two_hid w (sgA s) (sgA sg0) tSagaR tSagaR
  go_enter Tryz.func64, Tryz.ntmps64
  go_wp2_with fail
  rw [← HA.out]
  refine (HW.out _).mono ?_
  rintro e w1 ⟨rfl, hb⟩
  have HB1 := Hd (bch HB.out hb HB.out.size)
  have HX1 := Hd (heap_keep HX.out hb)
  have HZ1 := Hd (heap_keep HZ.out hb)
  clear hb HA HB HX HZ HW
  obtain ⟨c0, c1, c2, c3, c4, c5, c6, c7, c8, c9, c10, c11⟩ := sg_box HX1.out
  obtain ⟨g0, g1, g2, g3, g4, g5, g6, g7, g8, g9, g10, g11⟩ := froz12 HX1.out
  go_upto_region 5 with (fail)
  obtain ⟨W2, hW2, HX2, HB2, HZ2⟩ := sg_st HB1.out HZ1.out (T := tSagaR) (sg_set3 HX1.out 2)
  rw [hW2]
  clear hW2 c0 c1 c2 c3 c4 c5 c6 c7 c8 c9 c10 c11 g0 g1 g2 g3 g4 g5 g6 g7 g8 g9 g10 g11 HB1 HX1 HZ1
  obtain ⟨c0, c1, c2, c3, c4, c5, c6, c7, c8, c9, c10, c11⟩ := sg_box HX2.out
  go_wp2_with fail
  refine (HON.out _).mono ?_
  rintro e w3 ⟨rfl, hb⟩
  have HB3 := Hd (bch HB2.out hb HB2.out.size)
  have HZ3 := Hd (heap_keep HZ2.out hb)
  clear hb c0 c1 c2 c3 c4 c5 c6 c7 c8 c9 c10 c11 HB2 HX2 HZ2
  have hz := heap_lt HZ3.out
  obtain ⟨m0, m1, m2, m3, m4, m5, m6, m7, m8, m9, m10, m11⟩ := cell12 HZ3.out
  obtain ⟨f0, f1, f2, f3, f4, f5, f6, f7, f8, f9, f10, f11⟩ := froz12 HZ3.out
  go_wp2_with fail
  refine bodyPost_ret (v := .tuple #[sgV (onI { s with d3 := 2 }), .bool true]) (by simp [results, Tryz.results64, go_sem, m0, m1, m2, m3, m4, m5, m6, m7, m8, m9, m10, m11]) rfl ⟨by rw [HF.out], ?_⟩
  exact Below.turned HB3.out (turned_set12 w3 (w.heap.size + 1) _ _ _ _ _ _ _ _ _ _ _ _) (fun i h => by omega) HB3.out.size
 ·obtain rfl : code = 1 := by omega
  clear h6 hc
  have HW := Hd (rwaits_of (show waitsN s = 4 by unfold waitsN; rw [hd]; rfl) (show waitsB s = true by unfold waitsB; rw [hd]; rfl))
  have HON := Hd (fun W => ron_any { s with d4 := 2 } W)
  have HF := Hd (show replyI s 4 1 = onI { s with d4 := 2 } from rfl)
  clear hd
  obtain ⟨wa, HA, HB, HX, HZ⟩ := two_hid w (sgA s) (sgA sg0) tSagaR tSagaR
  go_enter Tryz.func64, Tryz.ntmps64
  go_wp2_with fail
  rw [← HA.out]
  refine (HW.out _).mono ?_
  rintro e w1 ⟨rfl, hb⟩
  have HB1 := Hd (bch HB.out hb HB.out.size)
  have HX1 := Hd (heap_keep HX.out hb)
  have HZ1 := Hd (heap_keep HZ.out hb)
  clear hb HA HB HX HZ HW
  obtain ⟨c0, c1, c2, c3, c4, c5, c6, c7, c8, c9, c10, c11⟩ := sg_box HX1.out
  obtain ⟨g0, g1, g2, g3, g4, g5, g6, g7, g8, g9, g10, g11⟩ := froz12 HX1.out
  go_upto_region 5 with (fail)
  obtain ⟨W2, hW2, HX2, HB2, HZ2⟩ := sg_st HB1.out HZ1.out (T := tSagaR) (sg_set4 HX1.out 2)
  rw [hW2]
  clear hW2 c0 c1 c2 c3 c4 c5 c6 c7 c8 c9 c10 c11 g0 g1 g2 g3 g4 g5 g6 g7 g8 g9 g10 g11 HB1 HX1 HZ1
  obtain ⟨c0, c1, c2, c3, c4, c5, c6, c7, c8, c9, c10, c11⟩ := sg_box HX2.out
  go_wp2_with fail
  refine (HON.out _).mono ?_
  rintro e w3 ⟨rfl, hb⟩
  have HB3 := Hd (bch HB2.out hb HB2.out.size)
  have HZ3 := Hd (heap_keep HZ2.out hb)
  clear hb c0 c1 c2 c3 c4 c5 c6 c7 c8 c9 c10 c11 HB2 HX2 HZ2
  have hz := heap_lt HZ3.out
  obtain ⟨m0, m1, m2, m3, m4, m5, m6, m7, m8, m9, m10, m11⟩ := cell12 HZ3.out
  obtain ⟨f0, f1, f2, f3, f4, f5, f6, f7, f8, f9, f10, f11⟩ := froz12 HZ3.out
  go_wp2_with fail
  refine bodyPost_ret (v := .tuple #[sgV (onI { s with d4 := 2 }), .bool true]) (by simp [results, Tryz.results64, go_sem, m0, m1, m2, m3, m4, m5, m6, m7, m8, m9, m10, m11]) rfl ⟨by rw [HF.out], ?_⟩
  exact Below.turned HB3.out (turned_set12 w3 (w.heap.size + 1) _ _ _ _ _ _ _ _ _ _ _ _) (fun i h => by omega) HB3.out.size
 ·obtain rfl : code = 1 := by omega
  clear h6 hc
  have HW := Hd (rwaits_of (show waitsN s = 5 by unfold waitsN; rw [hd]; rfl) (show waitsB s = true by unfold waitsB; rw [hd]; rfl))
  have HON := Hd (fun W => ron_any { s with d5 := 2 } W)
  have HF := Hd (show replyI s 5 1 = onI { s with d5 := 2 } from rfl)
  clear hd
  obtain ⟨wa, HA, HB, HX, HZ⟩ := two_hid w (sgA s) (sgA sg0) tSagaR tSagaR
  go_enter Tryz.func64, Tryz.ntmps64
  go_wp2_with fail
  rw [← HA.out]
  refine (HW.out _).mono ?_
  rintro e w1 ⟨rfl, hb⟩
  have HB1 := Hd (bch HB.out hb HB.out.size)
  have HX1 := Hd (heap_keep HX.out hb)
  have HZ1 := Hd (heap_keep HZ.out hb)
  clear hb HA HB HX HZ HW
  obtain ⟨c0, c1, c2, c3, c4, c5, c6, c7, c8, c9, c10, c11⟩ := sg_box HX1.out
  obtain ⟨g0, g1, g2, g3, g4, g5, g6, g7, g8, g9, g10, g11⟩ := froz12 HX1.out
  go_upto_region 5 with (fail)
  obtain ⟨W2, hW2, HX2, HB2, HZ2⟩ := sg_st HB1.out HZ1.out (T := tSagaR) (sg_set5 HX1.out 2)
  rw [hW2]
  clear hW2 c0 c1 c2 c3 c4 c5 c6 c7 c8 c9 c10 c11 g0 g1 g2 g3 g4 g5 g6 g7 g8 g9 g10 g11 HB1 HX1 HZ1
  obtain ⟨c0, c1, c2, c3, c4, c5, c6, c7, c8, c9, c10, c11⟩ := sg_box HX2.out
  go_wp2_with fail
  refine (HON.out _).mono ?_
  rintro e w3 ⟨rfl, hb⟩
  have HB3 := Hd (bch HB2.out hb HB2.out.size)
  have HZ3 := Hd (heap_keep HZ2.out hb)
  clear hb c0 c1 c2 c3 c4 c5 c6 c7 c8 c9 c10 c11 HB2 HX2 HZ2
  have hz := heap_lt HZ3.out
  obtain ⟨m0, m1, m2, m3, m4, m5, m6, m7, m8, m9, m10, m11⟩ := cell12 HZ3.out
  obtain ⟨f0, f1, f2, f3, f4, f5, f6, f7, f8, f9, f10, f11⟩ := froz12 HZ3.out
  go_wp2_with fail
  refine bodyPost_ret (v := .tuple #[sgV (onI { s with d5 := 2 }), .bool true]) (by simp [results, Tryz.results64, go_sem, m0, m1, m2, m3, m4, m5, m6, m7, m8, m9, m10, m11]) rfl ⟨by rw [HF.out], ?_⟩
  exact Below.turned HB3.out (turned_set12 w3 (w.heap.size + 1) _ _ _ _ _ _ _ _ _ _ _ _) (fun i h => by omega) HB3.out.size
 ·exact absurd hd h6
theorem rreply_no (s : Sg) (deed code : Int) (w : World) (hr : replyB s deed code = false) : Calls Tryz.prog 64 #[sgV s, .int .i64 deed, .int .i64 code] w fun e w' => e = .returned (.tuple #[sgV sg0, .bool false]) ∧ Below w.heap.size w w' := by
 by_cases h6 : waitsI s = 6
 ·have HW := Hd (rwaits_of (show waitsN s = 0 by unfold waitsN; simp [h6]) (show waitsB s = false by unfold waitsB; simp [h6]))
  clear h6 hr
  obtain ⟨wa, HA, HB, HX, HZ⟩ := two_hid w (sgA s) (sgA sg0) tSagaR tSagaR
  go_enter Tryz.func64, Tryz.ntmps64
  go_wp2_with fail
  rw [← HA.out]
  refine (HW.out _).mono ?_
  rintro e w1 ⟨rfl, hb⟩
  have HB1 := Hd (bch HB.out hb HB.out.size)
  have HZ1 := Hd (heap_keep HZ.out hb)
  clear hb HA HB HX HZ HW
  have hz := heap_lt HZ1.out
  obtain ⟨m0, m1, m2, m3, m4, m5, m6, m7, m8, m9, m10, m11⟩ := cell12 HZ1.out
  obtain ⟨f0, f1, f2, f3, f4, f5, f6, f7, f8, f9, f10, f11⟩ := froz12 HZ1.out
  go_wp2_with fail
  refine bodyPost_ret (v := .tuple #[sgV sg0, .bool false]) (by simp [results, Tryz.results64, go_sem, m0, m1, m2, m3, m4, m5, m6, m7, m8, m9, m10, m11]) rfl ⟨rfl, ?_⟩
  exact Below.turned HB1.out (turned_set12 w1 (w.heap.size + 1) _ _ _ _ _ _ _ _ _ _ _ _) (fun i h => by omega) HB1.out.size
 ·have hwc := waits_cases s
  by_cases hd : waitsI s = deed
  ·have h1 := bneF hd
   have hq : 0 ≤ waitsI s ∧ waitsI s ≤ 5 := by omega
   obtain ⟨hq0, hq5⟩ := hq
   have hc : code ≠ 1 ∧ (code = 2 → ¬ waitsI s ≤ 2) := by
    unfold replyB at hr; simp [h6, hd] at hr
    have hr := hr (hd ▸ h6)
    refine ⟨hr.1, fun h => ?_⟩
    have := hr.2 h; omega
   by_cases hc2 : code = 2
   ·have h2 : 2 < waitsI s := by have := hc.2 hc2; omega
    have h2' : ¬ waitsI s ≤ 2 := by omega
    subst hc2
    have HW := Hd (rwaits_of (show waitsN s = waitsI s by unfold waitsN; rw [if_neg h6]) (show waitsB s = true by unfold waitsB; simp [h6]))
    clear h6 hd hr hc hwc
    obtain ⟨wa, HA, HB, HX, HZ⟩ := two_hid w (sgA s) (sgA sg0) tSagaR tSagaR
    go_enter Tryz.func64, Tryz.ntmps64
    go_wp2_with fail
    rw [← HA.out]
    refine (HW.out _).mono ?_
    rintro e w1 ⟨rfl, hb⟩
    have HB1 := Hd (bch HB.out hb HB.out.size)
    have HZ1 := Hd (heap_keep HZ.out hb)
    clear hb HA HB HX HZ HW
    have hz := heap_lt HZ1.out
    obtain ⟨m0, m1, m2, m3, m4, m5, m6, m7, m8, m9, m10, m11⟩ := cell12 HZ1.out
    obtain ⟨f0, f1, f2, f3, f4, f5, f6, f7, f8, f9, f10, f11⟩ := froz12 HZ1.out
    go_wp2_with fail
    refine bodyPost_ret (v := .tuple #[sgV sg0, .bool false]) (by simp [results, Tryz.results64, go_sem, m0, m1, m2, m3, m4, m5, m6, m7, m8, m9, m10, m11]) rfl ⟨rfl, ?_⟩
    exact Below.turned HB1.out (turned_set12 w1 (w.heap.size + 1) _ _ _ _ _ _ _ _ _ _ _ _) (fun i h => by omega) HB1.out.size
   ·have h21 := bneT hc2
    have h11 := bneT hc.1
    have HW := Hd (rwaits_of (show waitsN s = waitsI s by unfold waitsN; rw [if_neg h6]) (show waitsB s = true by unfold waitsB; simp [h6]))
    clear h6 hd hr hc hwc hc2
    obtain ⟨wa, HA, HB, HX, HZ⟩ := two_hid w (sgA s) (sgA sg0) tSagaR tSagaR
    go_enter Tryz.func64, Tryz.ntmps64
    go_wp2_with fail
    rw [← HA.out]
    refine (HW.out _).mono ?_
    rintro e w1 ⟨rfl, hb⟩
    have HB1 := Hd (bch HB.out hb HB.out.size)
    have HZ1 := Hd (heap_keep HZ.out hb)
    clear hb HA HB HX HZ HW
    have hz := heap_lt HZ1.out
    obtain ⟨m0, m1, m2, m3, m4, m5, m6, m7, m8, m9, m10, m11⟩ := cell12 HZ1.out
    obtain ⟨f0, f1, f2, f3, f4, f5, f6, f7, f8, f9, f10, f11⟩ := froz12 HZ1.out
    go_wp2_with fail
    refine bodyPost_ret (v := .tuple #[sgV sg0, .bool false]) (by simp [results, Tryz.results64, go_sem, m0, m1, m2, m3, m4, m5, m6, m7, m8, m9, m10, m11]) rfl ⟨rfl, ?_⟩
    exact Below.turned HB1.out (turned_set12 w1 (w.heap.size + 1) _ _ _ _ _ _ _ _ _ _ _ _) (fun i h => by omega) HB1.out.size
  ·have h1 := bneT hd
   have HW := Hd (rwaits_of (show waitsN s = waitsI s by unfold waitsN; rw [if_neg h6]) (show waitsB s = true by unfold waitsB; simp [h6]))
   clear h6 hd hr hwc
   obtain ⟨wa, HA, HB, HX, HZ⟩ := two_hid w (sgA s) (sgA sg0) tSagaR tSagaR
   go_enter Tryz.func64, Tryz.ntmps64
   go_wp2_with fail
   rw [← HA.out]
   refine (HW.out _).mono ?_
   rintro e w1 ⟨rfl, hb⟩
   have HB1 := Hd (bch HB.out hb HB.out.size)
   have HZ1 := Hd (heap_keep HZ.out hb)
   clear hb HA HB HX HZ HW
   have hz := heap_lt HZ1.out
   obtain ⟨m0, m1, m2, m3, m4, m5, m6, m7, m8, m9, m10, m11⟩ := cell12 HZ1.out
   obtain ⟨f0, f1, f2, f3, f4, f5, f6, f7, f8, f9, f10, f11⟩ := froz12 HZ1.out
   go_wp2_with fail
   refine bodyPost_ret (v := .tuple #[sgV sg0, .bool false]) (by simp [results, Tryz.results64, go_sem, m0, m1, m2, m3, m4, m5, m6, m7, m8, m9, m10, m11]) rfl ⟨rfl, ?_⟩
   exact Below.turned HB1.out (turned_set12 w1 (w.heap.size + 1) _ _ _ _ _ _ _ _ _ _ _ _) (fun i h => by omega) HB1.out.size
theorem rstop_yes (s : Sg) (w : World) (hg : goingB s = true) : Calls Tryz.prog 27 #[sgV s] w fun e w' => e = .returned (.tuple #[sgV (Sa.stopI s), .int .i64 0]) ∧ Below w.heap.size w w' := by
 have HST := Hd (rstate_at (state_going hg))
 have h6 : waitsI s ≠ 6 := by unfold goingB at hg; simp at hg; exact hg.1
 clear hg
 rcases waits_cases s with hd | hd | hd | hd | hd | hd | hd
 ·clear h6
  have HW := Hd (rwaits_of (show waitsN s = 0 by unfold waitsN; rw [hd]; rfl) (show waitsB s = true by unfold waitsB; rw [hd]; rfl))
  have HON := Hd (fun W => ron_any { { s with d0 := 4 } with can := true } W)
  have HF := Hd (show Sa.stopI s = onI { { s with d0 := 4 } with can := true } by unfold Sa.stopI; rw [hd]; rfl)
  clear hd
  obtain ⟨wa, HA, HB, HX, HZ⟩ := two_hid w (sgA s) (sgA sg0) tSagaR tSagaR
  go_enter Tryz.func27, Tryz.ntmps27
  go_wp2_with fail
  rw [← HA.out]
  refine (HST.out _).mono ?_
  rintro e w0 ⟨rfl, hb⟩
  have HB0 := Hd (bch HB.out hb HB.out.size)
  have HX0 := Hd (heap_keep HX.out hb)
  have HZ0 := Hd (heap_keep HZ.out hb)
  clear hb HA HB HX HZ HST
  obtain ⟨c0, c1, c2, c3, c4, c5, c6, c7, c8, c9, c10, c11⟩ := sg_box HX0.out
  go_wp2_with fail
  refine (HW.out _).mono ?_
  rintro e w1 ⟨rfl, hb⟩
  have HB1 := Hd (bch HB0.out hb HB0.out.size)
  have HX1 := Hd (heap_keep HX0.out hb)
  have HZ1 := Hd (heap_keep HZ0.out hb)
  clear hb HB0 HX0 HZ0 HW c0 c1 c2 c3 c4 c5 c6 c7 c8 c9 c10 c11
  obtain ⟨c0, c1, c2, c3, c4, c5, c6, c7, c8, c9, c10, c11⟩ := sg_box HX1.out
  obtain ⟨g0, g1, g2, g3, g4, g5, g6, g7, g8, g9, g10, g11⟩ := froz12 HX1.out
  go_upto_region 6 with (fail)
  obtain ⟨W2, hW2⟩ : ∃ W2, W2 = (w1.setCell ⟨w.heap.size, 5, none⟩ (.int .i64 4)).setCell ⟨w.heap.size, 11, none⟩ (.bool true) := ⟨_, rfl⟩
  rw [← hW2]
  have HX2 := Hd (show W2.heap[w.heap.size]? = some (.cells (sgA { { s with d0 := 4 } with can := true }) tSagaR (0, 0)) by rw [hW2]; exact sg_setc (sg_set0 HX1.out 4) true)
  have ht2 : Turned (fun j => j = w.heap.size) w1 W2 := by rw [hW2]; exact (turned_set _ _ _ _).trans (turned_set _ _ _ _)
  have HB2 := Hd (Below.turned HB1.out ht2 (fun i h => by omega) HB1.out.size)
  have HZ2 := Hd (heap_turned' HZ1.out ht2 (by omega))
  clear hW2 ht2 c0 c1 c2 c3 c4 c5 c6 c7 c8 c9 c10 c11 g0 g1 g2 g3 g4 g5 g6 g7 g8 g9 g10 g11 HB1 HX1 HZ1
  obtain ⟨c0, c1, c2, c3, c4, c5, c6, c7, c8, c9, c10, c11⟩ := sg_box HX2.out
  go_wp2_with fail
  refine (HON.out _).mono ?_
  rintro e w3 ⟨rfl, hb⟩
  have HB3 := Hd (bch HB2.out hb HB2.out.size)
  have HZ3 := Hd (heap_keep HZ2.out hb)
  clear hb c0 c1 c2 c3 c4 c5 c6 c7 c8 c9 c10 c11 HB2 HX2 HZ2
  have hz := heap_lt HZ3.out
  obtain ⟨m0, m1, m2, m3, m4, m5, m6, m7, m8, m9, m10, m11⟩ := cell12 HZ3.out
  obtain ⟨f0, f1, f2, f3, f4, f5, f6, f7, f8, f9, f10, f11⟩ := froz12 HZ3.out
  go_wp2_with fail
  refine bodyPost_ret (v := .tuple #[sgV (onI { { s with d0 := 4 } with can := true }), .int .i64 0]) (by simp [results, Tryz.results27, go_sem, m0, m1, m2, m3, m4, m5, m6, m7, m8, m9, m10, m11]) rfl ⟨by rw [HF.out], ?_⟩
  exact Below.turned HB3.out (turned_set12 w3 (w.heap.size + 1) _ _ _ _ _ _ _ _ _ _ _ _) (fun i h => by omega) HB3.out.size
 ·clear h6
  have HW := Hd (rwaits_of (show waitsN s = 1 by unfold waitsN; rw [hd]; rfl) (show waitsB s = true by unfold waitsB; rw [hd]; rfl))
  have HON := Hd (fun W => ron_any { { s with d1 := 4 } with can := true } W)
  have HF := Hd (show Sa.stopI s = onI { { s with d1 := 4 } with can := true } by unfold Sa.stopI; rw [hd]; rfl)
  clear hd
  obtain ⟨wa, HA, HB, HX, HZ⟩ := two_hid w (sgA s) (sgA sg0) tSagaR tSagaR
  go_enter Tryz.func27, Tryz.ntmps27
  go_wp2_with fail
  rw [← HA.out]
  refine (HST.out _).mono ?_
  rintro e w0 ⟨rfl, hb⟩
  have HB0 := Hd (bch HB.out hb HB.out.size)
  have HX0 := Hd (heap_keep HX.out hb)
  have HZ0 := Hd (heap_keep HZ.out hb)
  clear hb HA HB HX HZ HST
  obtain ⟨c0, c1, c2, c3, c4, c5, c6, c7, c8, c9, c10, c11⟩ := sg_box HX0.out
  go_wp2_with fail
  refine (HW.out _).mono ?_
  rintro e w1 ⟨rfl, hb⟩
  have HB1 := Hd (bch HB0.out hb HB0.out.size)
  have HX1 := Hd (heap_keep HX0.out hb)
  have HZ1 := Hd (heap_keep HZ0.out hb)
  clear hb HB0 HX0 HZ0 HW c0 c1 c2 c3 c4 c5 c6 c7 c8 c9 c10 c11
  obtain ⟨c0, c1, c2, c3, c4, c5, c6, c7, c8, c9, c10, c11⟩ := sg_box HX1.out
  obtain ⟨g0, g1, g2, g3, g4, g5, g6, g7, g8, g9, g10, g11⟩ := froz12 HX1.out
  go_upto_region 6 with (fail)
  obtain ⟨W2, hW2⟩ : ∃ W2, W2 = (w1.setCell ⟨w.heap.size, 6, none⟩ (.int .i64 4)).setCell ⟨w.heap.size, 11, none⟩ (.bool true) := ⟨_, rfl⟩
  rw [← hW2]
  have HX2 := Hd (show W2.heap[w.heap.size]? = some (.cells (sgA { { s with d1 := 4 } with can := true }) tSagaR (0, 0)) by rw [hW2]; exact sg_setc (sg_set1 HX1.out 4) true)
  have ht2 : Turned (fun j => j = w.heap.size) w1 W2 := by rw [hW2]; exact (turned_set _ _ _ _).trans (turned_set _ _ _ _)
  have HB2 := Hd (Below.turned HB1.out ht2 (fun i h => by omega) HB1.out.size)
  have HZ2 := Hd (heap_turned' HZ1.out ht2 (by omega))
  clear hW2 ht2 c0 c1 c2 c3 c4 c5 c6 c7 c8 c9 c10 c11 g0 g1 g2 g3 g4 g5 g6 g7 g8 g9 g10 g11 HB1 HX1 HZ1
  obtain ⟨c0, c1, c2, c3, c4, c5, c6, c7, c8, c9, c10, c11⟩ := sg_box HX2.out
  go_wp2_with fail
  refine (HON.out _).mono ?_
  rintro e w3 ⟨rfl, hb⟩
  have HB3 := Hd (bch HB2.out hb HB2.out.size)
  have HZ3 := Hd (heap_keep HZ2.out hb)
  clear hb c0 c1 c2 c3 c4 c5 c6 c7 c8 c9 c10 c11 HB2 HX2 HZ2
  have hz := heap_lt HZ3.out
  obtain ⟨m0, m1, m2, m3, m4, m5, m6, m7, m8, m9, m10, m11⟩ := cell12 HZ3.out
  obtain ⟨f0, f1, f2, f3, f4, f5, f6, f7, f8, f9, f10, f11⟩ := froz12 HZ3.out
  go_wp2_with fail
  refine bodyPost_ret (v := .tuple #[sgV (onI { { s with d1 := 4 } with can := true }), .int .i64 0]) (by simp [results, Tryz.results27, go_sem, m0, m1, m2, m3, m4, m5, m6, m7, m8, m9, m10, m11]) rfl ⟨by rw [HF.out], ?_⟩
  exact Below.turned HB3.out (turned_set12 w3 (w.heap.size + 1) _ _ _ _ _ _ _ _ _ _ _ _) (fun i h => by omega) HB3.out.size
 ·clear h6
  have HW := Hd (rwaits_of (show waitsN s = 2 by unfold waitsN; rw [hd]; rfl) (show waitsB s = true by unfold waitsB; rw [hd]; rfl))
  have HON := Hd (fun W => ron_any { { s with d2 := 4 } with can := true } W)
  have HF := Hd (show Sa.stopI s = onI { { s with d2 := 4 } with can := true } by unfold Sa.stopI; rw [hd]; rfl)
  clear hd
  obtain ⟨wa, HA, HB, HX, HZ⟩ := two_hid w (sgA s) (sgA sg0) tSagaR tSagaR
  go_enter Tryz.func27, Tryz.ntmps27
  go_wp2_with fail
  rw [← HA.out]
  refine (HST.out _).mono ?_
  rintro e w0 ⟨rfl, hb⟩
  have HB0 := Hd (bch HB.out hb HB.out.size)
  have HX0 := Hd (heap_keep HX.out hb)
  have HZ0 := Hd (heap_keep HZ.out hb)
  clear hb HA HB HX HZ HST
  obtain ⟨c0, c1, c2, c3, c4, c5, c6, c7, c8, c9, c10, c11⟩ := sg_box HX0.out
  go_wp2_with fail
  refine (HW.out _).mono ?_
  rintro e w1 ⟨rfl, hb⟩
  have HB1 := Hd (bch HB0.out hb HB0.out.size)
  have HX1 := Hd (heap_keep HX0.out hb)
  have HZ1 := Hd (heap_keep HZ0.out hb)
  clear hb HB0 HX0 HZ0 HW c0 c1 c2 c3 c4 c5 c6 c7 c8 c9 c10 c11
  obtain ⟨c0, c1, c2, c3, c4, c5, c6, c7, c8, c9, c10, c11⟩ := sg_box HX1.out
  obtain ⟨g0, g1, g2, g3, g4, g5, g6, g7, g8, g9, g10, g11⟩ := froz12 HX1.out
  go_upto_region 6 with (fail)
  obtain ⟨W2, hW2⟩ : ∃ W2, W2 = (w1.setCell ⟨w.heap.size, 7, none⟩ (.int .i64 4)).setCell ⟨w.heap.size, 11, none⟩ (.bool true) := ⟨_, rfl⟩
  rw [← hW2]
  have HX2 := Hd (show W2.heap[w.heap.size]? = some (.cells (sgA { { s with d2 := 4 } with can := true }) tSagaR (0, 0)) by rw [hW2]; exact sg_setc (sg_set2 HX1.out 4) true)
  have ht2 : Turned (fun j => j = w.heap.size) w1 W2 := by rw [hW2]; exact (turned_set _ _ _ _).trans (turned_set _ _ _ _)
  have HB2 := Hd (Below.turned HB1.out ht2 (fun i h => by omega) HB1.out.size)
  have HZ2 := Hd (heap_turned' HZ1.out ht2 (by omega))
  clear hW2 ht2 c0 c1 c2 c3 c4 c5 c6 c7 c8 c9 c10 c11 g0 g1 g2 g3 g4 g5 g6 g7 g8 g9 g10 g11 HB1 HX1 HZ1
  obtain ⟨c0, c1, c2, c3, c4, c5, c6, c7, c8, c9, c10, c11⟩ := sg_box HX2.out
  go_wp2_with fail
  refine (HON.out _).mono ?_
  rintro e w3 ⟨rfl, hb⟩
  have HB3 := Hd (bch HB2.out hb HB2.out.size)
  have HZ3 := Hd (heap_keep HZ2.out hb)
  clear hb c0 c1 c2 c3 c4 c5 c6 c7 c8 c9 c10 c11 HB2 HX2 HZ2
  have hz := heap_lt HZ3.out
  obtain ⟨m0, m1, m2, m3, m4, m5, m6, m7, m8, m9, m10, m11⟩ := cell12 HZ3.out
  obtain ⟨f0, f1, f2, f3, f4, f5, f6, f7, f8, f9, f10, f11⟩ := froz12 HZ3.out
  go_wp2_with fail
  refine bodyPost_ret (v := .tuple #[sgV (onI { { s with d2 := 4 } with can := true }), .int .i64 0]) (by simp [results, Tryz.results27, go_sem, m0, m1, m2, m3, m4, m5, m6, m7, m8, m9, m10, m11]) rfl ⟨by rw [HF.out], ?_⟩
  exact Below.turned HB3.out (turned_set12 w3 (w.heap.size + 1) _ _ _ _ _ _ _ _ _ _ _ _) (fun i h => by omega) HB3.out.size
 ·clear h6
  have HW := Hd (rwaits_of (show waitsN s = 3 by unfold waitsN; rw [hd]; rfl) (show waitsB s = true by unfold waitsB; rw [hd]; rfl))
  have HON := Hd (fun W => ron_any { { s with d3 := 4 } with can := true } W)
  have HF := Hd (show Sa.stopI s = onI { { s with d3 := 4 } with can := true } by unfold Sa.stopI; rw [hd]; rfl)
  clear hd
  obtain ⟨wa, HA, HB, HX, HZ⟩ := two_hid w (sgA s) (sgA sg0) tSagaR tSagaR
  go_enter Tryz.func27, Tryz.ntmps27
  go_wp2_with fail
  rw [← HA.out]
  refine (HST.out _).mono ?_
  rintro e w0 ⟨rfl, hb⟩
  have HB0 := Hd (bch HB.out hb HB.out.size)
  have HX0 := Hd (heap_keep HX.out hb)
  have HZ0 := Hd (heap_keep HZ.out hb)
  clear hb HA HB HX HZ HST
  obtain ⟨c0, c1, c2, c3, c4, c5, c6, c7, c8, c9, c10, c11⟩ := sg_box HX0.out
  go_wp2_with fail
  refine (HW.out _).mono ?_
  rintro e w1 ⟨rfl, hb⟩
  have HB1 := Hd (bch HB0.out hb HB0.out.size)
  have HX1 := Hd (heap_keep HX0.out hb)
  have HZ1 := Hd (heap_keep HZ0.out hb)
  clear hb HB0 HX0 HZ0 HW c0 c1 c2 c3 c4 c5 c6 c7 c8 c9 c10 c11
  obtain ⟨c0, c1, c2, c3, c4, c5, c6, c7, c8, c9, c10, c11⟩ := sg_box HX1.out
  obtain ⟨g0, g1, g2, g3, g4, g5, g6, g7, g8, g9, g10, g11⟩ := froz12 HX1.out
  go_upto_region 6 with (fail)
  obtain ⟨W2, hW2⟩ : ∃ W2, W2 = (w1.setCell ⟨w.heap.size, 8, none⟩ (.int .i64 4)).setCell ⟨w.heap.size, 11, none⟩ (.bool true) := ⟨_, rfl⟩
  rw [← hW2]
  have HX2 := Hd (show W2.heap[w.heap.size]? = some (.cells (sgA { { s with d3 := 4 } with can := true }) tSagaR (0, 0)) by rw [hW2]; exact sg_setc (sg_set3 HX1.out 4) true)
  have ht2 : Turned (fun j => j = w.heap.size) w1 W2 := by rw [hW2]; exact (turned_set _ _ _ _).trans (turned_set _ _ _ _)
  have HB2 := Hd (Below.turned HB1.out ht2 (fun i h => by omega) HB1.out.size)
  have HZ2 := Hd (heap_turned' HZ1.out ht2 (by omega))
  clear hW2 ht2 c0 c1 c2 c3 c4 c5 c6 c7 c8 c9 c10 c11 g0 g1 g2 g3 g4 g5 g6 g7 g8 g9 g10 g11 HB1 HX1 HZ1
  obtain ⟨c0, c1, c2, c3, c4, c5, c6, c7, c8, c9, c10, c11⟩ := sg_box HX2.out
  go_wp2_with fail
  refine (HON.out _).mono ?_
  rintro e w3 ⟨rfl, hb⟩
  have HB3 := Hd (bch HB2.out hb HB2.out.size)
  have HZ3 := Hd (heap_keep HZ2.out hb)
  clear hb c0 c1 c2 c3 c4 c5 c6 c7 c8 c9 c10 c11 HB2 HX2 HZ2
  have hz := heap_lt HZ3.out
  obtain ⟨m0, m1, m2, m3, m4, m5, m6, m7, m8, m9, m10, m11⟩ := cell12 HZ3.out
  obtain ⟨f0, f1, f2, f3, f4, f5, f6, f7, f8, f9, f10, f11⟩ := froz12 HZ3.out
  go_wp2_with fail
  refine bodyPost_ret (v := .tuple #[sgV (onI { { s with d3 := 4 } with can := true }), .int .i64 0]) (by simp [results, Tryz.results27, go_sem, m0, m1, m2, m3, m4, m5, m6, m7, m8, m9, m10, m11]) rfl ⟨by rw [HF.out], ?_⟩
  exact Below.turned HB3.out (turned_set12 w3 (w.heap.size + 1) _ _ _ _ _ _ _ _ _ _ _ _) (fun i h => by omega) HB3.out.size
 ·clear h6
  have HW := Hd (rwaits_of (show waitsN s = 4 by unfold waitsN; rw [hd]; rfl) (show waitsB s = true by unfold waitsB; rw [hd]; rfl))
  have HON := Hd (fun W => ron_any { { s with d4 := 4 } with can := true } W)
  have HF := Hd (show Sa.stopI s = onI { { s with d4 := 4 } with can := true } by unfold Sa.stopI; rw [hd]; rfl)
  clear hd
  obtain ⟨wa, HA, HB, HX, HZ⟩ := two_hid w (sgA s) (sgA sg0) tSagaR tSagaR
  go_enter Tryz.func27, Tryz.ntmps27
  go_wp2_with fail
  rw [← HA.out]
  refine (HST.out _).mono ?_
  rintro e w0 ⟨rfl, hb⟩
  have HB0 := Hd (bch HB.out hb HB.out.size)
  have HX0 := Hd (heap_keep HX.out hb)
  have HZ0 := Hd (heap_keep HZ.out hb)
  clear hb HA HB HX HZ HST
  obtain ⟨c0, c1, c2, c3, c4, c5, c6, c7, c8, c9, c10, c11⟩ := sg_box HX0.out
  go_wp2_with fail
  refine (HW.out _).mono ?_
  rintro e w1 ⟨rfl, hb⟩
  have HB1 := Hd (bch HB0.out hb HB0.out.size)
  have HX1 := Hd (heap_keep HX0.out hb)
  have HZ1 := Hd (heap_keep HZ0.out hb)
  clear hb HB0 HX0 HZ0 HW c0 c1 c2 c3 c4 c5 c6 c7 c8 c9 c10 c11
  obtain ⟨c0, c1, c2, c3, c4, c5, c6, c7, c8, c9, c10, c11⟩ := sg_box HX1.out
  obtain ⟨g0, g1, g2, g3, g4, g5, g6, g7, g8, g9, g10, g11⟩ := froz12 HX1.out
  go_upto_region 6 with (fail)
  obtain ⟨W2, hW2⟩ : ∃ W2, W2 = (w1.setCell ⟨w.heap.size, 9, none⟩ (.int .i64 4)).setCell ⟨w.heap.size, 11, none⟩ (.bool true) := ⟨_, rfl⟩
  rw [← hW2]
  have HX2 := Hd (show W2.heap[w.heap.size]? = some (.cells (sgA { { s with d4 := 4 } with can := true }) tSagaR (0, 0)) by rw [hW2]; exact sg_setc (sg_set4 HX1.out 4) true)
  have ht2 : Turned (fun j => j = w.heap.size) w1 W2 := by rw [hW2]; exact (turned_set _ _ _ _).trans (turned_set _ _ _ _)
  have HB2 := Hd (Below.turned HB1.out ht2 (fun i h => by omega) HB1.out.size)
  have HZ2 := Hd (heap_turned' HZ1.out ht2 (by omega))
  clear hW2 ht2 c0 c1 c2 c3 c4 c5 c6 c7 c8 c9 c10 c11 g0 g1 g2 g3 g4 g5 g6 g7 g8 g9 g10 g11 HB1 HX1 HZ1
  obtain ⟨c0, c1, c2, c3, c4, c5, c6, c7, c8, c9, c10, c11⟩ := sg_box HX2.out
  go_wp2_with fail
  refine (HON.out _).mono ?_
  rintro e w3 ⟨rfl, hb⟩
  have HB3 := Hd (bch HB2.out hb HB2.out.size)
  have HZ3 := Hd (heap_keep HZ2.out hb)
  clear hb c0 c1 c2 c3 c4 c5 c6 c7 c8 c9 c10 c11 HB2 HX2 HZ2
  have hz := heap_lt HZ3.out
  obtain ⟨m0, m1, m2, m3, m4, m5, m6, m7, m8, m9, m10, m11⟩ := cell12 HZ3.out
  obtain ⟨f0, f1, f2, f3, f4, f5, f6, f7, f8, f9, f10, f11⟩ := froz12 HZ3.out
  go_wp2_with fail
  refine bodyPost_ret (v := .tuple #[sgV (onI { { s with d4 := 4 } with can := true }), .int .i64 0]) (by simp [results, Tryz.results27, go_sem, m0, m1, m2, m3, m4, m5, m6, m7, m8, m9, m10, m11]) rfl ⟨by rw [HF.out], ?_⟩
  exact Below.turned HB3.out (turned_set12 w3 (w.heap.size + 1) _ _ _ _ _ _ _ _ _ _ _ _) (fun i h => by omega) HB3.out.size
 ·clear h6
  have HW := Hd (rwaits_of (show waitsN s = 5 by unfold waitsN; rw [hd]; rfl) (show waitsB s = true by unfold waitsB; rw [hd]; rfl))
  have HON := Hd (fun W => ron_any { { s with d5 := 4 } with can := true } W)
  have HF := Hd (show Sa.stopI s = onI { { s with d5 := 4 } with can := true } by unfold Sa.stopI; rw [hd]; rfl)
  clear hd
  obtain ⟨wa, HA, HB, HX, HZ⟩ := two_hid w (sgA s) (sgA sg0) tSagaR tSagaR
  go_enter Tryz.func27, Tryz.ntmps27
  go_wp2_with fail
  rw [← HA.out]
  refine (HST.out _).mono ?_
  rintro e w0 ⟨rfl, hb⟩
  have HB0 := Hd (bch HB.out hb HB.out.size)
  have HX0 := Hd (heap_keep HX.out hb)
  have HZ0 := Hd (heap_keep HZ.out hb)
  clear hb HA HB HX HZ HST
  obtain ⟨c0, c1, c2, c3, c4, c5, c6, c7, c8, c9, c10, c11⟩ := sg_box HX0.out
  go_wp2_with fail
  refine (HW.out _).mono ?_
  rintro e w1 ⟨rfl, hb⟩
  have HB1 := Hd (bch HB0.out hb HB0.out.size)
  have HX1 := Hd (heap_keep HX0.out hb)
  have HZ1 := Hd (heap_keep HZ0.out hb)
  clear hb HB0 HX0 HZ0 HW c0 c1 c2 c3 c4 c5 c6 c7 c8 c9 c10 c11
  obtain ⟨c0, c1, c2, c3, c4, c5, c6, c7, c8, c9, c10, c11⟩ := sg_box HX1.out
  obtain ⟨g0, g1, g2, g3, g4, g5, g6, g7, g8, g9, g10, g11⟩ := froz12 HX1.out
  go_upto_region 6 with (fail)
  obtain ⟨W2, hW2⟩ : ∃ W2, W2 = (w1.setCell ⟨w.heap.size, 10, none⟩ (.int .i64 4)).setCell ⟨w.heap.size, 11, none⟩ (.bool true) := ⟨_, rfl⟩
  rw [← hW2]
  have HX2 := Hd (show W2.heap[w.heap.size]? = some (.cells (sgA { { s with d5 := 4 } with can := true }) tSagaR (0, 0)) by rw [hW2]; exact sg_setc (sg_set5 HX1.out 4) true)
  have ht2 : Turned (fun j => j = w.heap.size) w1 W2 := by rw [hW2]; exact (turned_set _ _ _ _).trans (turned_set _ _ _ _)
  have HB2 := Hd (Below.turned HB1.out ht2 (fun i h => by omega) HB1.out.size)
  have HZ2 := Hd (heap_turned' HZ1.out ht2 (by omega))
  clear hW2 ht2 c0 c1 c2 c3 c4 c5 c6 c7 c8 c9 c10 c11 g0 g1 g2 g3 g4 g5 g6 g7 g8 g9 g10 g11 HB1 HX1 HZ1
  obtain ⟨c0, c1, c2, c3, c4, c5, c6, c7, c8, c9, c10, c11⟩ := sg_box HX2.out
  go_wp2_with fail
  refine (HON.out _).mono ?_
  rintro e w3 ⟨rfl, hb⟩
  have HB3 := Hd (bch HB2.out hb HB2.out.size)
  have HZ3 := Hd (heap_keep HZ2.out hb)
  clear hb c0 c1 c2 c3 c4 c5 c6 c7 c8 c9 c10 c11 HB2 HX2 HZ2
  have hz := heap_lt HZ3.out
  obtain ⟨m0, m1, m2, m3, m4, m5, m6, m7, m8, m9, m10, m11⟩ := cell12 HZ3.out
  obtain ⟨f0, f1, f2, f3, f4, f5, f6, f7, f8, f9, f10, f11⟩ := froz12 HZ3.out
  go_wp2_with fail
  refine bodyPost_ret (v := .tuple #[sgV (onI { { s with d5 := 4 } with can := true }), .int .i64 0]) (by simp [results, Tryz.results27, go_sem, m0, m1, m2, m3, m4, m5, m6, m7, m8, m9, m10, m11]) rfl ⟨by rw [HF.out], ?_⟩
  exact Below.turned HB3.out (turned_set12 w3 (w.heap.size + 1) _ _ _ _ _ _ _ _ _ _ _ _) (fun i h => by omega) HB3.out.size
 ·exact absurd hd h6
theorem rstop_no (s : Sg) (w : World) (hg : goingB s = false) : Calls Tryz.prog 27 #[sgV s] w fun e w' => e = .returned (.tuple #[sgV sg0, .int .i64 92]) ∧ Below w.heap.size w w' := by
 obtain ⟨n, hn⟩ : ∃ n, stateI s = n := ⟨_, rfl⟩
 have HST := Hd (rstate_at hn)
 have h1 := bneT (hn ▸ state_not hg)
 clear hn hg
 obtain ⟨wa, HA, HB, HX, HZ⟩ := two_hid w (sgA s) (sgA sg0) tSagaR tSagaR
 go_enter Tryz.func27, Tryz.ntmps27
 go_wp2_with fail
 rw [← HA.out]
 refine (HST.out _).mono ?_
 rintro e w1 ⟨rfl, hb⟩
 have HB1 := Hd (bch HB.out hb HB.out.size)
 have HZ1 := Hd (heap_keep HZ.out hb)
 clear hb HA HB HX HZ HST
 have hz := heap_lt HZ1.out
 obtain ⟨m0, m1, m2, m3, m4, m5, m6, m7, m8, m9, m10, m11⟩ := cell12 HZ1.out
 obtain ⟨f0, f1, f2, f3, f4, f5, f6, f7, f8, f9, f10, f11⟩ := froz12 HZ1.out
 go_wp2_with fail
 refine bodyPost_ret (v := .tuple #[sgV sg0, .int .i64 92]) (by simp [results, Tryz.results27, go_sem, m0, m1, m2, m3, m4, m5, m6, m7, m8, m9, m10, m11]) rfl ⟨rfl, ?_⟩
 exact Below.turned HB1.out (turned_set12 w1 (w.heap.size + 1) _ _ _ _ _ _ _ _ _ _ _ _) (fun i h => by omega) HB1.out.size
end Go.Proofs.YtiagdpfmmjhgcaaGreatDoor

/- money.Add, Sub, Neg; the document's Add, Sub: what they compute. -/
import Derived.Test.YtpeponjggbbjpaaDoorMem
import Derived.Test.YtpeponjggbbjpaaDoorMoneySpec
import Derived.Deep.QuietTactic
import Derived.BigQuiet
namespace Go.Proofs.YtpeponjggbbjpaaDoor
open Go.RowKit Mon

def pairV (r : Int × Bool) : Value := .tuple #[.int .i64 r.1, .bool r.2]
theorem addM_ok {a b : Int} (h : InR (a + b)) : addM a b = (a + b, true) := by unfold addM; rw [if_pos h]
theorem addM_no {a b : Int} (h : ¬ InR (a + b)) : addM a b = (0, false) := by unfold addM; rw [if_neg h]
theorem subM_ok {a b : Int} (h : InR (a - b)) : subM a b = (a - b, true) := by unfold subM; rw [if_pos h]
theorem subM_no {a b : Int} (h : ¬ InR (a - b)) : subM a b = (0, false) := by unfold subM; rw [if_neg h]

theorem zero_in : InR 0 := by unfold InR; omega
theorem wrap_cases (x : Int) (h : -18446744073709551616 ≤ x ∧ x ≤ 18446744073709551615) : (-9223372036854775808 ≤ x ∧ x ≤ 9223372036854775807 ∧ wrap64 x = x) ∨ (9223372036854775807 < x ∧ wrap64 x = x - 18446744073709551616) ∨ (x < -9223372036854775808 ∧ wrap64 x = x + 18446744073709551616) := by
  unfold wrap64
  omega
theorem ret2 {r r' : Int × Bool} {c : Int} {d : Bool} (h : r = r') (hc : c = r'.1) (hd : d = r'.2) : Ending.returned (.tuple #[.int .i64 c, .bool d]) = .returned (pairV r) := by subst h; subst hc; subst hd; rfl
set_option maxHeartbeats 1000000 in
theorem add_any (a b : Int) (w : World) (ha : InR a) (hb : InR b) :
    Calls Tryd.prog 7 #[.int .i64 a, .int .i64 b] w fun e w' => e = .returned (pairV (addM a b)) ∧ w = w' := by
  obtain ⟨a1, a2⟩ := ha; obtain ⟨b1, b2⟩ := hb
  go_enter Tryd.func7, Tryd.ntmps7
  go_wp2
  all_goals go_ret2
  all_goals first
    | exact ⟨by rw [addM_ok ⟨by omega, by omega⟩]; rfl, rfl⟩
    | exact ⟨by rw [addM_no (fun h => by obtain ⟨h1, h2⟩ := h; omega)]; rfl, rfl⟩
set_option maxHeartbeats 1000000 in
theorem sub_any (a b : Int) (w : World) (ha : InR a) (hb : InR b) :
    Calls Tryd.prog 9 #[.int .i64 a, .int .i64 b] w fun e w' => e = .returned (pairV (subM a b)) ∧ w = w' := by
  obtain ⟨a1, a2⟩ := ha; obtain ⟨b1, b2⟩ := hb
  go_enter Tryd.func9, Tryd.ntmps9
  go_wp2
  all_goals go_ret2
  all_goals first
    | exact ⟨by rw [subM_ok ⟨by omega, by omega⟩]; rfl, rfl⟩
    | exact ⟨by rw [subM_no (fun h => by obtain ⟨h1, h2⟩ := h; omega)]; rfl, rfl⟩
set_option maxHeartbeats 1000000 in
theorem refAdd_any (a b : Int) (w : World) (ha : InR a) (hb : InR b) :
    Calls Tryd.prog 8 #[.int .i64 a, .int .i64 b] w fun e w' => e = .returned (pairV (addM a b)) ∧ w = w' := by
  obtain ⟨a1, a2⟩ := ha; obtain ⟨b1, b2⟩ := hb
  have HW := wrap_cases (a + b) (by omega)
  go_enter Tryd.func8, Tryd.ntmps8
  go_wp2
  all_goals go_ret2
  all_goals first
    | exact ⟨ret2 (addM_ok ⟨by omega, by omega⟩) (by show wrap64 (a + b) = a + b; omega) rfl, rfl⟩
    | exact ⟨ret2 (addM_no (fun h => by obtain ⟨h1, h2⟩ := h; omega)) rfl rfl, rfl⟩
set_option maxHeartbeats 1000000 in
theorem refSub_any (a b : Int) (w : World) (ha : InR a) (hb : InR b) :
    Calls Tryd.prog 10 #[.int .i64 a, .int .i64 b] w fun e w' => e = .returned (pairV (subM a b)) ∧ w = w' := by
  obtain ⟨a1, a2⟩ := ha; obtain ⟨b1, b2⟩ := hb
  have HW := wrap_cases (a - b) (by omega)
  go_enter Tryd.func10, Tryd.ntmps10
  go_wp2
  all_goals go_ret2
  all_goals first
    | exact ⟨ret2 (subM_ok ⟨by omega, by omega⟩) (by show wrap64 (a - b) = a - b; omega) rfl, rfl⟩
    | exact ⟨ret2 (subM_no (fun h => by obtain ⟨h1, h2⟩ := h; omega)) rfl rfl, rfl⟩
set_option maxHeartbeats 1000000 in
theorem neg_any (a : Int) (w : World) (ha : InR a) :
    Calls Tryd.prog 11 #[.int .i64 a] w fun e w' => e = .returned (pairV (subM 0 a)) ∧ w = w' := by
  have HA := Lib.hid (sub_any 0 a w zero_in ha)
  obtain ⟨r, hr⟩ : ∃ r, subM 0 a = r := ⟨_, rfl⟩
  rw [hr] at HA ⊢
  clear hr
  obtain ⟨x, y⟩ := r
  go_enter Tryd.func11, Tryd.ntmps11
  go_wp2_with fail
  refine HA.out.mono ?_
  rintro e w1 ⟨rfl, hw⟩
  obtain rfl : w = w1 := hw
  unfold pairV
  go_wp2_with fail
  go_ret2
  exact ⟨rfl, rfl⟩
set_option maxHeartbeats 1000000 in
theorem is_any (a b : Int) (x y : Bool) (w : World) :
    Calls Tryd.prog 12 #[.int .i64 a, .bool x, .int .i64 b, .bool y] w fun e w' => e = .returned (.bool (decide ((a, x) = (b, y)))) ∧ w = w' := by
  by_cases h : a = b
  · have h1 := beqT h
    go_enter Tryd.func12, Tryd.ntmps12
    go_wp2
    go_ret
    exact ⟨ret_bool (by subst h; cases x <;> cases y <;> simp), rfl⟩
  · have h1 := beqF h
    go_enter Tryd.func12, Tryd.ntmps12
    go_wp2
    go_ret
    exact ⟨by simp [h], rfl⟩
end Go.Proofs.YtpeponjggbbjpaaDoor

/- money.Add, Sub, Neg; the document's Add, Sub: what they compute. -/
import Derived.Test.YtnfbhocppijbjaaDoorMoneyPairs
namespace Go.Proofs.YtnfbhocppijbjaaDoor
open Go.RowKit Mon

theorem addM_ok {a b : Int} (h : InR (a + b)) : addM a b = (a + b, true) := by unfold addM; rw [if_pos h]
theorem addM_no {a b : Int} (h : ¬ InR (a + b)) : addM a b = (0, false) := by unfold addM; rw [if_neg h]
theorem subM_ok {a b : Int} (h : InR (a - b)) : subM a b = (a - b, true) := by unfold subM; rw [if_pos h]
theorem subM_no {a b : Int} (h : ¬ InR (a - b)) : subM a b = (0, false) := by unfold subM; rw [if_neg h]

theorem zero_in : InR 0 := by unfold InR; omega
theorem wrap_cases (x : Int) (h : -18446744073709551616 ≤ x ∧ x ≤ 18446744073709551615) : (-9223372036854775808 ≤ x ∧ x ≤ 9223372036854775807 ∧ wrap64 x = x) ∨ (9223372036854775807 < x ∧ wrap64 x = x - 18446744073709551616) ∨ (x < -9223372036854775808 ∧ wrap64 x = x + 18446744073709551616) := by
  unfold wrap64
  omega
theorem ret2 {r r' : Int × Bool} {c : Int} {d : Bool} (h : r = r') (hc : c = r'.1) (hd : d = r'.2) : Ending.returned (.tuple #[.int .i64 c, .bool d]) = .returned (pairV r) := by subst h; subst hc; subst hd; rfl
set_option maxHeartbeats 1000000 in
theorem add_any (a b : Int) (w : World) (ha : InR a) (hb : InR b) :
    Calls Tryd.prog 52 #[.int .i64 a, .int .i64 b] w fun e w' => e = .returned (pairV (addM a b)) ∧ w = w' := by
  obtain ⟨a1, a2⟩ := ha; obtain ⟨b1, b2⟩ := hb
  go_enter Tryd.func52, Tryd.ntmps52
  go_wp2
  all_goals go_ret2
  all_goals first
    | exact ⟨by rw [addM_ok ⟨by omega, by omega⟩]; rfl, rfl⟩
    | exact ⟨by rw [addM_no (fun h => by obtain ⟨h1, h2⟩ := h; omega)]; rfl, rfl⟩
set_option maxHeartbeats 1000000 in
theorem sub_any (a b : Int) (w : World) (ha : InR a) (hb : InR b) :
    Calls Tryd.prog 53 #[.int .i64 a, .int .i64 b] w fun e w' => e = .returned (pairV (subM a b)) ∧ w = w' := by
  obtain ⟨a1, a2⟩ := ha; obtain ⟨b1, b2⟩ := hb
  go_enter Tryd.func53, Tryd.ntmps53
  go_wp2
  all_goals go_ret2
  all_goals first
    | exact ⟨by rw [subM_ok ⟨by omega, by omega⟩]; rfl, rfl⟩
    | exact ⟨by rw [subM_no (fun h => by obtain ⟨h1, h2⟩ := h; omega)]; rfl, rfl⟩
end Go.Proofs.YtnfbhocppijbjaaDoor

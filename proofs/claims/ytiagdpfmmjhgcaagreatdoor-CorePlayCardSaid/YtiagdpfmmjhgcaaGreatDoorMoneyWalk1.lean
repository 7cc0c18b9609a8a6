/- Small words for walks over texts and amounts. -/
import Derived.Test.YtiagdpfmmjhgcaaGreatDoorMem
import Derived.Test.YtiagdpfmmjhgcaaGreatDoorMoneySpec
import Derived.Deep.QuietTactic
import Derived.BigQuiet
namespace Go.Proofs.YtiagdpfmmjhgcaaGreatDoor
open Go.RowKit Mon

def pairV (r : Int × Bool) : Value := .tuple #[.int .i64 r.1, .bool r.2]
theorem get_list (s : ByteArray) (j : Nat) (h : j < s.size) : s.data.toList[j]? = some s[j] := by
  rw [List.getElem?_eq_getElem (by simpa using h)]
  rfl
theorem get_mem (s : ByteArray) (j : Nat) (h : j < s.size) : s[j] ∈ s.data.toList := List.mem_of_getElem? (get_list s j h)
theorem take_snoc (s : ByteArray) (j : Nat) (h : j < s.size) : s.data.toList.take (j + 1) = s.data.toList.take j ++ [s[j]] := by
  rw [List.take_add_one, get_list s j h]
  rfl
theorem take_size (s : ByteArray) : s.data.toList.take s.size = s.data.toList := List.take_of_length_le (by simp)
theorem join_bytes (a b : List UInt8) : (⟨a.toArray⟩ : ByteArray) ++ ⟨b.toArray⟩ = ⟨(a ++ b).toArray⟩ := by
  apply ByteArray.ext
  apply Array.toList_inj.1
  rw [ByteArray.data_append, Array.toList_append]

end Go.Proofs.YtiagdpfmmjhgcaaGreatDoor
/- money.Add, Sub, Neg; the document's Add, Sub: what they compute. -/
namespace Go.Proofs.YtiagdpfmmjhgcaaGreatDoor
open Go.RowKit Mon

theorem addM_ok {a b : Int} (h : InR (a + b)) : addM a b = (a + b, true) := by unfold addM; rw [if_pos h]
theorem addM_no {a b : Int} (h : ¬ InR (a + b)) : addM a b = (0, false) := by unfold addM; rw [if_neg h]
theorem subM_ok {a b : Int} (h : InR (a - b)) : subM a b = (a - b, true) := by unfold subM; rw [if_pos h]
theorem subM_no {a b : Int} (h : ¬ InR (a - b)) : subM a b = (0, false) := by unfold subM; rw [if_neg h]

set_option maxHeartbeats 1000000 in
theorem add_any (a b : Int) (w : World) (ha : InR a) (hb : InR b) :
    Calls Tryz.prog 105 #[.int .i64 a, .int .i64 b] w fun e w' => e = .returned (pairV (addM a b)) ∧ w = w' := by
  obtain ⟨a1, a2⟩ := ha; obtain ⟨b1, b2⟩ := hb
  go_enter Tryz.func105, Tryz.ntmps105
  go_wp2
  all_goals go_ret2
  all_goals first
    | exact ⟨by rw [addM_ok ⟨by omega, by omega⟩]; rfl, rfl⟩
    | exact ⟨by rw [addM_no (fun h => by obtain ⟨h1, h2⟩ := h; omega)]; rfl, rfl⟩
set_option maxHeartbeats 1000000 in
theorem sub_any (a b : Int) (w : World) (ha : InR a) (hb : InR b) :
    Calls Tryz.prog 106 #[.int .i64 a, .int .i64 b] w fun e w' => e = .returned (pairV (subM a b)) ∧ w = w' := by
  obtain ⟨a1, a2⟩ := ha; obtain ⟨b1, b2⟩ := hb
  go_enter Tryz.func106, Tryz.ntmps106
  go_wp2
  all_goals go_ret2
  all_goals first
    | exact ⟨by rw [subM_ok ⟨by omega, by omega⟩]; rfl, rfl⟩
    | exact ⟨by rw [subM_no (fun h => by obtain ⟨h1, h2⟩ := h; omega)]; rfl, rfl⟩
end Go.Proofs.YtiagdpfmmjhgcaaGreatDoor

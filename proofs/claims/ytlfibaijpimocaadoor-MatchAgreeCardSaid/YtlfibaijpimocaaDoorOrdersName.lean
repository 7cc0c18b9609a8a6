/- orders.name, and the document's: whether all bytes are a name's. -/
import Derived.Test.YtlfibaijpimocaaDoorMem
import Derived.Test.YtlfibaijpimocaaDoorKeysCore
import Derived.Test.YtlfibaijpimocaaDoorMoneyPairs
import Derived.Lib.OthersKept
namespace Go.Proofs.YtlfibaijpimocaaDoor
open Go.RowKit

namespace Od
def NameZ (z : Int) : Prop := (65 ≤ z ∧ z ≤ 90) ∨ (97 ≤ z ∧ z ≤ 122) ∨ (48 ≤ z ∧ z ≤ 57) ∨ z = 45 ∨ z = 95
instance (z : Int) : Decidable (NameZ z) := by unfold NameZ; exact inferInstance
def nameB (l : List UInt8) : Bool := l.all fun c => decide (NameZ (c.toNat : Int))
def iterPos (w : World) (b : Nat) : Nat := match w.heap[b]? with | some (.stringIter _ p) => p | _ => 0
theorem iterPos_iter (w : World) (s : ByteArray) (p : Nat) : iterPos (w.iter s p) w.heap.size = p := by unfold iterPos; rw [World.iter_heap]
theorem name_step {s : ByteArray} {p : Nat} (hp : p < s.size) (h : nameB (s.data.toList.take p) = true) : nameB (s.data.toList.take (p + 1)) = decide (NameZ ((s[p]).toNat : Int)) := by
  unfold nameB at *
  rw [take_snoc s p hp, List.all_append, h]
  simp
theorem name_bad {s : ByteArray} {p : Nat} (hp : p < s.size) (h : ¬ NameZ ((s[p]).toNat : Int)) : nameB s.data.toList = false := by
  unfold nameB
  rw [List.all_eq_false]
  exact ⟨_, get_mem s p hp, by simpa using h⟩
theorem name_all {s : ByteArray} (h : nameB (s.data.toList.take s.size) = true) : nameB s.data.toList = true := by rw [take_size] at h; exact h
theorem decode_high (s : ByteArray) (p : Nat) (hp : p < s.size) (h : 128 ≤ (s[p]).toNat) : 128 ≤ (Utf8.decode s p).1 := by
  have e : s.get! (p + 0) = s[p]'hp := by
    show s.get! p = _
    simp [ByteArray.get!, getElem!_pos, hp]
    rfl
  unfold Utf8.decode
  simp only [e]
  rw [if_neg (by omega)]
  repeat' split
  all_goals first | omega | (unfold Utf8.runeError; omega) | (simp at *; omega) | (simp only []; omega)
end Od
open Od

set_option maxHeartbeats 1000000 in
theorem name_any (s : ByteArray) (w : World) (hs : s.size ≤ 1000000000000) : Calls Tryd.prog 46 #[.string s] w fun e w' => e = .returned (.bool (nameB s.data.toList)) ∧ Below w.heap.size w w' := by
  go_enter Tryd.func46, Tryd.ntmps46
  go_wp2_with fail
  go_loopw [4] (fun _ wr => ∃ p : Nat, wr = w.iter s p ∧ p ≤ s.size ∧ nameB (s.data.toList.take p) = true) (fun _ wr => s.size - iterPos wr w.heap.size)
  case atStart => exact ⟨0, rfl, by omega, by simp [nameB]⟩
  case round =>
    obtain ⟨p, rfl, hp, HN⟩ := hrel
    by_cases hlt : p < s.size
    · by_cases ha : (s[p]).toNat < 128
      · have hnx := fun ty => run_next_ascii (P := Tryd.prog) w s p ty hlt ha
        have HST := Lib.hid (name_step hlt HN)
        have HBD := Lib.hid (@name_bad s p hlt)
        obtain ⟨z, hz⟩ : ∃ z : Int, ((s[p]).toNat : Int) = z := ⟨_, rfl⟩
        have hz0 : 0 ≤ z ∧ z < 128 := by omega
        rw [hz] at hnx HST HBD
        clear hz ha HN
        by_cases hn : NameZ z
        · rw [decide_eq_true hn] at HST
          clear HBD
          unfold NameZ at hn
          rcases hn with ⟨h1, h2⟩ | ⟨h1, h2⟩ | ⟨h1, h2⟩ | rfl | rfl
          all_goals
            go_wp2_with fail
            go_roundw
            case rel => exact ⟨p + 1, rfl, by omega, HST.out⟩
            case measure => rw [iterPos_iter, iterPos_iter]; omega
        · have HF := Lib.hid (HBD.out hn)
          clear HST HBD
          unfold NameZ at hn
          have hn' : ¬ (65 ≤ z ∧ z ≤ 90) ∧ ¬ (97 ≤ z ∧ z ≤ 122) ∧ ¬ (48 ≤ z ∧ z ≤ 57) ∧ ¬ z = 45 ∧ ¬ z = 95 := by omega
          clear hn
          go_wp2_with fail
          all_goals go_ret
          all_goals exact ⟨by rw [HF.out]; rfl, (Below.refl _ _).alloc (Nat.le_refl _) _⟩
      · have hnx := fun ty => (Lib.run_next_any_at (P := Tryd.prog) (w.iter s p) w.heap.size s p ty (World.iter_heap w s p) hlt).trans (by rw [show (w.iter s p).iterAt w.heap.size s (p + (Utf8.decode s p).2) = w.iter s (p + (Utf8.decode s p).2) from World.iter_set w s p _])
        have hz0 : (128 : Int) ≤ (Utf8.decode s p).1 := by have := decode_high s p hlt (by omega); omega
        have HF := Lib.hid (name_bad hlt (show ¬ NameZ ((s[p]).toNat : Int) by unfold NameZ; omega))
        generalize ((Utf8.decode s p).1 : Int) = z at hz0 hnx
        generalize p + (Utf8.decode s p).2 = q at hnx
        clear ha HN
        go_wp2_with fail
        all_goals go_ret
        all_goals exact ⟨by rw [HF.out]; rfl, (Below.refl _ _).alloc (Nat.le_refl _) _⟩
    · obtain rfl : p = s.size := by omega
      have hnx := fun ty => run_next_end (P := Tryd.prog) w s s.size ty (by omega)
      have HF := Lib.hid (name_all HN)
      clear HN
      go_wp2_with fail
      go_ret
      exact ⟨by rw [HF.out]; rfl, (Below.refl _ _).alloc (Nat.le_refl _) _⟩

end Go.Proofs.YtlfibaijpimocaaDoor

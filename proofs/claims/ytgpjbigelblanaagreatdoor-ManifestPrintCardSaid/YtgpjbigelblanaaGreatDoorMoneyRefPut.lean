/- The document's digits, Put: what they compute. -/
import Derived.Test.YtgpjbigelblanaaGreatDoorMoneyPairs
import Derived.Lib.ItoaLen
import Derived.Laws.IdiomStrings
namespace Go.Proofs.YtgpjbigelblanaaGreatDoor
open Go.RowKit Mon

namespace Mon
open Go.Lib
/-- The digits so far: what is left of the number, and what was written behind it. -/
def DigInv (u n : Nat) (s : List UInt8) : Prop := (s = [] ∧ n = u) ∨ (s ≠ [] ∧ decDigits u = (if n = 0 then [] else decDigits n) ++ s)
theorem DigInv.start (u : Nat) : DigInv u u [] := .inl ⟨rfl, rfl⟩
theorem DigInv.step {u n : Nat} {s : List UInt8} (h : DigInv u n s) (hn : 0 < n ∨ s = []) : DigInv u (n / 10) (UInt8.ofNat (48 + n % 10) :: s) := by
  refine .inr ⟨by simp, ?_⟩
  have e : (if n / 10 = 0 then [] else decDigits (n / 10)) ++ UInt8.ofNat (48 + n % 10) :: s = decDigits n ++ s := by
    conv => rhs; rw [dec_snoc n]
    rw [List.append_assoc]
    congr 1
    by_cases h10 : n < 10
    · rw [if_pos h10, if_pos (by omega)]
    · rw [if_neg h10, if_neg (by omega)]
  rw [e]
  rcases h with ⟨rfl, rfl⟩ | ⟨h1, h2⟩
  · simp
  · rcases hn with hn | hn
    · rw [h2, if_neg (by omega)]
    · exact absurd hn h1
theorem DigInv.done {u n : Nat} {s : List UInt8} (h : DigInv u n s) (hn : n = 0) (hs : s ≠ []) : decDigits u = s := by
  rcases h with ⟨h1, _⟩ | ⟨_, h2⟩
  · exact absurd h1 hs
  · rw [h2, if_pos hn]; rfl
theorem DigInv.len {u n : Nat} {s : List UInt8} (h : DigInv u n s) (hu : u < 18446744073709551616) : s.length ≤ 20 := by
  rcases h with ⟨rfl, _⟩ | ⟨_, h2⟩
  · simp
  · have h3 := nDigits_le20 u hu
    rw [← decDigits_length, h2, List.length_append] at h3
    omega
theorem digit_is (n : Nat) : ∃ c : UInt8, c = UInt8.ofNat (48 + n % 10) ∧ (c.toNat : Int) = 48 + (n : Int) % 10 :=
  ⟨_, rfl, by rw [digit_of _ (Nat.mod_lt _ (by omega))]; omega⟩
end Mon
def emptyN : Value → Nat
  | .string s => if s.size = 0 then 1 else 0
  | _ => 0
theorem emptyN_cons (c : UInt8) (s : List UInt8) : emptyN (.string ⟨(c :: s).toArray⟩) = 0 := by simp [emptyN, ByteArray.size]
theorem emptyN_nil : emptyN (.string ⟨#[]⟩) = 1 := by simp [emptyN, ByteArray.size]

/-- string([]byte{c}). -/
theorem conv_one (W : World) (x : Int) (c : UInt8) (h : (c.toNat : Int) = x) : (convert 87 9 (.slice (some ⟨W.heap.size, 0, none⟩) 1 1)).run Tryz.prog (W.alloc (.cells #[.int .u8 x] 5)) = .ok (.string ⟨#[c]⟩) (W.alloc (.cells #[.int .u8 x] 5)) := by
  refine run_convert_bytes_back (P := Tryz.prog) (W.alloc (.cells #[.int .u8 x] 5)) 87 9 5 ⟨W.heap.size, 0, none⟩ 1 [c] Tryz.underlying87 Tryz.underlying5 Tryz.underlying9 (fun j hj => ?_)
  have hj0 : j = 0 := by simpa using hj
  subst hj0
  show _ = some (Value.int .u8 (c.toNat : Int))
  rw [h]
  exact one_new W (.int .u8 x) 5 0 _ rfl

set_option maxHeartbeats 1000000 in
theorem digits_any (u : Nat) (w : World) (hu : u < 18446744073709551616) :
    Calls Tryz.prog 92 #[.int .u64 u] w fun e w' => e = .returned (.string ⟨(Lib.decDigits u).toArray⟩) ∧ Below w.heap.size w w' := by
  have HU := Lib.hid hu
  clear hu
  go_enter Tryz.func92, Tryz.ntmps92
  go_wp2_with fail
  go_loopw [0, 3] (fun nv sv wr => ∃ (n : Nat) (s : List UInt8), nv = .int .u64 n ∧ sv = .string ⟨s.toArray⟩ ∧ n ≤ u ∧ Hid (DigInv u n s) ∧ Hid (Below w.heap.size w wr)) (fun nv sv _ => (intOf nv).toNat + emptyN sv)
  case atStart => exact ⟨u, [], rfl, rfl, Nat.le_refl _, DigInv.start u, Below.refl _ _⟩
  case round =>
    obtain ⟨n, s, rfl, rfl, hn, HI, HB⟩ := hrel
    have hU := HU.out
    have hsl := HI.out.len hU
    by_cases hn0 : n = 0
    · by_cases hs : s = []
      · subst hn0; subst hs
        have hcv := fun W => conv_one W 48 48 rfl
        clear hU hn
        go_wp2_with fail
        go_roundw
        case rel => exact ⟨0, [48], rfl, rfl, Nat.zero_le _, HI.out.step (.inr rfl), HB.out.alloc HB.out.size _⟩
        case measure => show _ + emptyN (.string ⟨[48].toArray⟩) < _ + emptyN (.string ⟨#[]⟩); rw [emptyN_cons, emptyN_nil]; simp [intOf]
      · have hz : s.isEmpty = false := by simpa using hs
        have HD := Lib.hid (HI.out.done hn0 hs)
        subst hn0
        clear hs hn hU
        go_wp2_with fail
        go_ret
        exact ⟨by rw [HD.out]; rfl, HB.out⟩
    · have hng : (0 : Int) < (n : Int) := by omega
      obtain ⟨c, hc, hci⟩ := digit_is n
      have hcv := fun W => conv_one W (48 + (n : Int) % 10) c hci
      have HN := Lib.hid hn0
      have HC := Lib.hid hc
      clear hn0 hc hci
      go_wp2_with fail
      go_roundw
      case rel => exact ⟨n / 10, c :: s, rfl, congrArg Value.string (join_bytes [c] s), by omega, by rw [HC.out]; exact HI.out.step (.inl (by omega)), HB.out.alloc HB.out.size _⟩
      case measure =>
        have := HN.out
        have h2 := emptyN_cons c s
        show (intOf (Value.int .u64 ((n : Int) / 10))).toNat + emptyN (.string ⟨(c :: s).toArray⟩) < _
        rw [h2]
        simp only [intOf]; omega

theorem refPut_any (n : Int) (w : World) (hn : InR n) :
    Calls Tryz.prog 67 #[.int .i64 n] w fun e w' => e = .returned (.string ⟨(Lib.itoa n).toArray⟩) ∧ Below w.heap.size w w' := by
  obtain ⟨h1, h2⟩ := hn
  by_cases h : n < 0
  · obtain ⟨u, rfl⟩ : ∃ u : Nat, n = -(u : Int) := ⟨n.natAbs, by omega⟩
    have HQ : Hid (Calls Tryz.prog 92 #[.int .u64 u] w fun e w' => e = .returned (.string ⟨(Lib.decDigits u).toArray⟩) ∧ Below w.heap.size w w') := digits_any u w (by omega)
    rw [Lib.itoa_neg u (by omega)]
    have HL : Hid ((Lib.decDigits u).length ≤ 20) := by have := Lib.nDigits_le20 u (by omega); rw [← Lib.decDigits_length] at this; exact this
    generalize Lib.decDigits u = s at HQ HL ⊢
    go_enter Tryz.func67, Tryz.ntmps67
    go_wp2_with fail
    rw [show (-(-(u : Int) + 1) + 1) = (u : Int) by omega]
    refine HQ.out.mono ?_
    rintro e w1 ⟨rfl, hb⟩
    have HB := Lib.hid hb
    have hl := HL.out
    clear hb
    go_wp2_with fail
    go_ret
    exact ⟨congrArg (fun b => Ending.returned (Value.string b)) (join_bytes [45] s), HB.out⟩
  · obtain ⟨u, rfl⟩ : ∃ u : Nat, n = (u : Int) := ⟨n.toNat, by omega⟩
    have HQ : Hid (Calls Tryz.prog 92 #[.int .u64 u] w fun e w' => e = .returned (.string ⟨(Lib.decDigits u).toArray⟩) ∧ Below w.heap.size w w') := digits_any u w (by omega)
    rw [Lib.itoa_nonneg]
    go_enter Tryz.func67, Tryz.ntmps67
    go_wp2_with fail
    refine HQ.out.mono ?_
    rintro e w1 ⟨rfl, hb⟩
    have HB := Lib.hid hb
    clear hb
    go_wp2_with fail
    go_ret
    exact ⟨rfl, HB.out⟩

end Go.Proofs.YtgpjbigelblanaaGreatDoor

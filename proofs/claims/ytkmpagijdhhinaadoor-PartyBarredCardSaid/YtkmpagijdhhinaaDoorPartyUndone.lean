/- A deed and the one that undoes it, at an empty book, as plain lists; and bits, masked. -/
import Derived.Test.YtkmpagijdhhinaaDoorPartyPure
import Derived.Test.YtkmpagijdhhinaaDoorPartyTell
namespace Go.Proofs.YtkmpagijdhhinaaDoor
open Go.RowKit Key Od Pa

theorem bits_mask (a : Int) (m : Nat) (hm : m < 9223372036854775808) : 0 ≤ bits .and .i64 a (m : Int) ∧ bits .and .i64 a (m : Int) ≤ m := by
  have h : (BitVec.ofInt 64 a &&& BitVec.ofInt 64 (m : Int)).toNat ≤ m := by
    rw [BitVec.toNat_and]
    refine Nat.le_trans Nat.and_le_right ?_
    rw [BitVec.toNat_ofInt]
    omega
  unfold bits
  show 0 ≤ IntKind.i64.wrap ((BitVec.ofInt 64 a &&& BitVec.ofInt 64 (m : Int)).toNat : Nat) ∧ IntKind.i64.wrap ((BitVec.ofInt 64 a &&& BitVec.ofInt 64 (m : Int)).toNat : Nat) ≤ m
  generalize (BitVec.ofInt 64 a &&& BitVec.ofInt 64 (m : Int)).toNat = n at h ⊢
  rw [IntKind.wrap_i64]
  omega
theorem wrap_mask (a : Int) (m : Nat) (hm : m < 9223372036854775807) : 1 ≤ wrap64 (1 + bits .and .i64 a (m : Int)) ∧ wrap64 (1 + bits .and .i64 a (m : Int)) ≤ 1 + m := by
  have h := bits_mask a m (by omega)
  generalize bits .and .i64 a (m : Int) = n at h ⊢
  unfold wrap64
  omega

namespace Pa
section
variable (kind stock limit id D qty amt : Int) (sk : List UInt8)
abbrev mk1 (d : Int) : Ms := ⟨kind, id, d, sk, qty, amt, 0⟩
theorem ins_two (x y : R5) (h : lessR x y = true) : insR [x] y = [x, y] := by
  unfold insR
  simp [h]
theorem less_three (c a q c' a' q' : Int) : lessR ((id, D), c, a, q) ((id, D + 3), c', a', q') = true := by
  unfold lessR lessB
  simp
  omega
/-- Undone ahead of it. -/
theorem bar_first (h0 : 0 ≤ D) (hm : (mk1 kind id qty amt sk (D + 3)).may = true) :
    askS kind stock limit ⟨[], [], []⟩ (mk1 kind id qty amt sk (D + 3)) = ⟨[((id, D), 2, 0, 0), ((id, D + 3), 1, 0, 0)], [], []⟩ := by
  unfold askS
  rw [if_pos (by rw [hm]; simp)]
  unfold nextS undoS wasR
  rw [if_neg (by simp [findR]), if_pos (by show 3 ≤ D + 3; omega)]
  simp only [findR, List.find?_nil, Option.isSome_none, Option.getD_none, show D + 3 - 3 = D by omega, freeG, List.filter_nil, ite_self]
  rw [if_neg (by simp), show insR [] ((id, D), 2, 0, 0) = [((id, D), 2, 0, 0)] from rfl, ins_two _ _ (less_three id D 2 0 0 1 0 0)]
/-- Asked of an empty book. -/
theorem bar_ask (h0 : 0 ≤ D ∧ D ≤ 2) (hm : (mk1 kind id qty amt sk D).may = true) :
    ∃ code a q gs rs, (code = 1 ∨ code = 2) ∧ (∀ x ∈ gs, x.1 = id) ∧ askS kind stock limit ⟨[], [], []⟩ (mk1 kind id qty amt sk D) = ⟨[((id, D), code, a, q)], gs, rs⟩ ∧ (kind ≠ 1 → gs = []) := by
  unfold askS
  rw [if_pos (by rw [hm]; simp)]
  unfold nextS doS
  rw [if_neg (by simp [findR]), if_neg (by show ¬ 3 ≤ D; omega)]
  split
  · exact ⟨1, amt, qty, _, _, .inl rfl, by intro x hx; split at hx <;> simp at hx; rw [hx], rfl, by intro h; rw [if_neg h]⟩
  · exact ⟨2, 0, 0, _, _, .inr rfl, by intro x hx; simp at hx, rfl, by intro h; rfl⟩
/-- Undone behind it. -/
theorem bar_undo (h0 : 0 ≤ D) (hm : (mk1 kind id qty amt sk (D + 3)).may = true) (code a q : Int) (gs : List (Int × List UInt8 × Int)) (rs : List (Int × List UInt8)) (hg : ∀ x ∈ gs, x.1 = id) (hk : kind ≠ 1 → gs = []) :
    askS kind stock limit ⟨[((id, D), code, a, q)], gs, rs⟩ (mk1 kind id qty amt sk (D + 3)) = ⟨[((id, D), code, a, q), ((id, D + 3), 1, a, q)], [], rs⟩ := by
  unfold askS
  rw [if_pos (by rw [hm]; simp)]
  have hf : findR [((id, D), code, a, q)] (id, D + 3) = none := by
    unfold findR
    simp
    omega
  have hf2 : findR [((id, D), code, a, q)] (id, D) = some ((id, D), code, a, q) := by
    unfold findR
    simp
  unfold nextS undoS wasR
  rw [if_neg (by simp [hf]), if_pos (by show 3 ≤ D + 3; omega)]
  simp only [show D + 3 - 3 = D by omega, hf2, Option.isSome_some, Option.getD_some, if_true]
  rw [ins_two _ _ (less_three id D code a q 1 a q)]
  congr 1
  split
  · unfold freeG
    rw [List.filter_eq_nil_iff]
    intro x hx
    simp [hg x hx]
  · exact hk (by assumption)
theorem ans_of (st : St) (m : Ms) (hm : m.may = true) (ht : m.to = kind) (x : R5) (h : findR (askS kind stock limit st m).rows (m.o, m.d) = some x) : ansS kind stock limit st m = some x.2.1 := by
  unfold ansS
  rw [if_pos (by rw [hm, ht]; simp), h]
  rfl
theorem find_fst (x y : R5) : findR [x, y] x.1 = some x := by unfold findR; simp
theorem find_one (x : R5) : findR [x] x.1 = some x := by unfold findR; simp
theorem find_snd (x y : R5) (h : lessR x y = true) : findR [x, y] y.1 = some y := by
  unfold findR
  have := less_ne h
  simp [this]
/-- Asked again. -/
theorem bar_again (hm : (mk1 kind id qty amt sk D).may = true) (code a q : Int) (x : R5) (gs : List (Int × List UInt8 × Int)) (rs : List (Int × List UInt8)) :
    askS kind stock limit ⟨[((id, D), code, a, q), x], gs, rs⟩ (mk1 kind id qty amt sk D) = ⟨[((id, D), code, a, q), x], gs, rs⟩ ∧ ansS kind stock limit ⟨[((id, D), code, a, q), x], gs, rs⟩ (mk1 kind id qty amt sk D) = some code := by
  have h1 : askS kind stock limit ⟨[((id, D), code, a, q), x], gs, rs⟩ (mk1 kind id qty amt sk D) = ⟨[((id, D), code, a, q), x], gs, rs⟩ := settled_same (fun _ _ => by rw [find_fst ((id, D), code, a, q) x]; rfl)
  exact ⟨h1, ans_of kind stock limit _ (mk1 kind id qty amt sk D) hm rfl ((id, D), code, a, q) (by rw [h1]; exact find_fst ((id, D), code, a, q) x)⟩
end
/-- What is told and kept, undone ahead of it. -/
theorem bar_no (kind stock limit id D qty amt : Int) (sk : List UInt8) (h0 : 0 ≤ D) (hm : (mk1 kind id qty amt sk (D + 3)).may = true) :
    ansS kind stock limit ⟨[], [], []⟩ (mk1 kind id qty amt sk (D + 3)) = some 1 ∧ askS kind stock limit ⟨[], [], []⟩ (mk1 kind id qty amt sk (D + 3)) = ⟨[((id, D), 2, 0, 0), ((id, D + 3), 1, 0, 0)], [], []⟩ := by
  have h := bar_first kind stock limit id D qty amt sk h0 hm
  exact ⟨ans_of kind stock limit _ (mk1 kind id qty amt sk (D + 3)) hm rfl ((id, D + 3), 1, 0, 0) (by rw [h]; exact find_snd ((id, D), 2, 0, 0) ((id, D + 3), 1, 0, 0) (less_three id D 2 0 0 1 0 0)), h⟩
/-- What is told and kept, done and undone. -/
theorem bar_yes (kind stock limit id D qty amt : Int) (sk : List UInt8) (h0 : 0 ≤ D ∧ D ≤ 2) (hm : (mk1 kind id qty amt sk D).may = true) (hn : (mk1 kind id qty amt sk (D + 3)).may = true) :
    ∃ code a q rs, (code = 1 ∨ code = 2) ∧ ansS kind stock limit ⟨[], [], []⟩ (mk1 kind id qty amt sk D) = some code ∧ ansS kind stock limit (askS kind stock limit ⟨[], [], []⟩ (mk1 kind id qty amt sk D)) (mk1 kind id qty amt sk (D + 3)) = some 1 ∧ askS kind stock limit (askS kind stock limit ⟨[], [], []⟩ (mk1 kind id qty amt sk D)) (mk1 kind id qty amt sk (D + 3)) = ⟨[((id, D), code, a, q), ((id, D + 3), 1, a, q)], [], rs⟩ := by
  obtain ⟨code, a, q, gs, rs, hc, hg, h1, hk⟩ := bar_ask kind stock limit id D qty amt sk h0 hm
  have h2 := bar_undo kind stock limit id D qty amt sk h0.1 hn code a q gs rs hg hk
  refine ⟨code, a, q, rs, hc, ans_of kind stock limit _ (mk1 kind id qty amt sk D) hm rfl ((id, D), code, a, q) (by rw [h1]; exact find_one ((id, D), code, a, q)), ?_, ?_⟩
  · rw [h1]
    exact ans_of kind stock limit _ (mk1 kind id qty amt sk (D + 3)) hn rfl ((id, D + 3), 1, a, q) (by rw [h2]; exact find_snd ((id, D), code, a, q) ((id, D + 3), 1, a, q) (less_three id D code a q 1 a q))
  · rw [h1]
    exact h2
end Pa
end Go.Proofs.YtkmpagijdhhinaaDoor

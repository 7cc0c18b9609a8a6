/- Postings, and what they come to, plain. No Go is in sight. -/
import Derived.Test.YtlkncmpengpbiaaGreatDoorMapL
namespace Go.Proofs.YtlkncmpengpbiaaGreatDoor

namespace Co
structure Po where
  id : List UInt8
  ord : Int
  deb : Int
  cre : Int
  amt : Int
/-- What a posting does to an account. -/
def movI (p : Po) (a : Int) : Int := (if p.deb = a then p.amt else 0) - (if p.cre = a then p.amt else 0)
def balI (b : List Po) (a o : Int) : Int := (b.map fun p => if o = 0 ∨ p.ord = o then movI p a else 0).sum
theorem bal_nil (a o : Int) : balI [] a o = 0 := rfl
theorem bal_snoc (b : List Po) (p : Po) (a o : Int) : balI (b ++ [p]) a o = balI b a o + (if o = 0 ∨ p.ord = o then movI p a else 0) := by
  unfold balI; rw [List.map_append, List.sum_append]; simp
def mayP (p : Po) : Prop := 0 < p.id.length ∧ p.id.length ≤ 1000 ∧ 1 ≤ p.ord ∧ p.ord ≤ 60 ∧ 0 ≤ p.deb ∧ p.deb ≤ 4 ∧ 0 ≤ p.cre ∧ p.cre ≤ 4 ∧ p.deb ≠ p.cre ∧ 0 ≤ p.amt ∧ p.amt ≤ 4398046511104
theorem mov_bd {p : Po} (h : mayP p) (a : Int) : -4398046511104 ≤ movI p a ∧ movI p a ≤ 4398046511104 := by
  obtain ⟨_, _, _, _, _, _, _, _, hn, h0, h1⟩ := h
  unfold movI
  split <;> split <;> omega
theorem bal_bd : ∀ {b : List Po}, (∀ p ∈ b, mayP p) → ∀ a o, -(4398046511104 * (b.length : Int)) ≤ balI b a o ∧ balI b a o ≤ 4398046511104 * (b.length : Int)
  | [], _, a, o => by simp [balI]
  | p :: b, h, a, o => by
    have h1 := bal_bd (b := b) (fun q hq => h q (List.mem_cons_of_mem _ hq)) a o
    have h2 := mov_bd (h p (List.mem_cons_self ..)) a
    have e : balI (p :: b) a o = (if o = 0 ∨ p.ord = o then movI p a else 0) + balI b a o := by unfold balI; rw [List.map_cons, List.sum_cons]
    rw [e, List.length_cons]
    split <;> (push_cast; omega)

/-- What a map of balances has at a key; 0 where there is none. -/
def lk (E : List ((Int × Int) × Int)) (k : Int × Int) : Int := match E.find? (fun e => decide (e.1 = k)) with | none => 0 | some e => e.2
theorem lk_nil (k : Int × Int) : lk [] k = 0 := rfl
theorem lk_same (E : List ((Int × Int) × Int)) (k : Int × Int) (v : Int) : lk ((k, v) :: without E k) k = v := by unfold lk; simp
theorem lk_other (E : List ((Int × Int) × Int)) {k j : Int × Int} (v : Int) (h : j ≠ k) : lk ((k, v) :: without E k) j = lk E j := by
  unfold lk
  rw [List.find?_cons_of_neg (by simpa using fun e => h e.symm)]
  unfold without
  rw [List.find?_filter]
  congr 1
  congr 1
  funext e
  by_cases he : e.1 = j
  · simp [he, h]
  · simp [he]
theorem lk_none {E : List ((Int × Int) × Int)} {k : Int × Int} (h : ∀ e ∈ E, e.1 ≠ k) : lk E k = 0 := by
  unfold lk
  rw [List.find?_eq_none.2 (fun e he => by simpa using h e he)]
theorem lk_mem {E : List ((Int × Int) × Int)} (hn : (E.map (·.1)).Nodup) {k : Int × Int} {v : Int} (h : (k, v) ∈ E) : lk E k = v := by
  unfold lk
  cases e : E.find? (fun e => decide (e.1 = k)) with
  | none =>
    exfalso
    have := List.find?_eq_none.1 e _ h
    simp at this
  | some x =>
    have h1 := List.mem_of_find?_eq_some e
    have h2 : x.1 = k := by have := List.find?_some e; simpa using this
    obtain ⟨i, hi⟩ := List.getElem?_of_mem h1
    obtain ⟨j, hj⟩ := List.getElem?_of_mem h
    obtain ⟨hi1, hi2⟩ := List.getElem?_eq_some_iff.1 hi
    obtain ⟨hj1, hj2⟩ := List.getElem?_eq_some_iff.1 hj
    rw [List.Nodup, List.pairwise_map] at hn
    rcases Nat.lt_trichotomy i j with hij | hij | hij
    · exact absurd (by rw [hi2, hj2]; exact h2) (List.pairwise_iff_getElem.1 hn i j hi1 hj1 hij)
    · subst hij; rw [hi] at hj; rw [Option.some.inj hj]
    · exact absurd (by rw [hi2, hj2]; exact h2.symm) (List.pairwise_iff_getElem.1 hn j i hj1 hi1 hij)
/-- The four balances that a posting changes. -/
def four (b : List Po) (p : Po) : List ((Int × Int) × Int) :=
  [((p.cre, p.ord), balI b p.cre p.ord - p.amt), ((p.deb, p.ord), balI b p.deb p.ord + p.amt), ((p.cre, 0), balI b p.cre 0 - p.amt), ((p.deb, 0), balI b p.deb 0 + p.amt)]
theorem four_keys {b : List Po} {p : Po} {e : (Int × Int) × Int} (h : e ∈ four b p) (hp : mayP p) : e.2 = balI (b ++ [p]) e.1.1 e.1.2 := by
  obtain ⟨_, _, h1, _, _, _, _, _, hn, _⟩ := hp
  unfold four at h
  simp only [List.mem_cons, List.not_mem_nil, or_false] at h
  rcases h with rfl | rfl | rfl | rfl <;> rw [bal_snoc] <;> simp [movI] <;> omega
theorem not_four {b : List Po} {p : Po} {j : Int × Int} (h : ∀ e ∈ four b p, e.1 ≠ j) : balI (b ++ [p]) j.1 j.2 = balI b j.1 j.2 := by
  unfold four at h
  simp only [List.mem_cons, List.not_mem_nil, or_false, forall_eq_or_imp, forall_eq] at h
  obtain ⟨h1, h2, h3, h4⟩ := h
  rw [bal_snoc]
  have hm : (j.2 = 0 ∨ p.ord = j.2) → movI p j.1 = 0 := by
    intro hj
    have n1 : p.cre ≠ j.1 := by
      intro e
      rcases hj with h | h
      · exact h3 (Prod.ext e h.symm)
      · exact h1 (Prod.ext e h)
    have n2 : p.deb ≠ j.1 := by
      intro e
      rcases hj with h | h
      · exact h4 (Prod.ext e h.symm)
      · exact h2 (Prod.ext e h)
    unfold movI; simp [n1, n2]
  split
  · rename_i h; rw [hm h, Int.add_zero]
  · exact Int.add_zero _
end Co
end Go.Proofs.YtlkncmpengpbiaaGreatDoor

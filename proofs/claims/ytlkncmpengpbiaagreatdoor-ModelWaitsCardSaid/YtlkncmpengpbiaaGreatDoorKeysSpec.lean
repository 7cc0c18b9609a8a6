/- What package keys computes, as plain functions; no Go is in sight. -/
import Derived.Test.YtlkncmpengpbiaaGreatDoorMoneySpec
import Derived.Lib.IndexMore
namespace Go.Proofs.YtlkncmpengpbiaaGreatDoor
namespace Key
open Go.Lib Mon

def wordsL : List (List UInt8) := [[114, 101, 115, 101, 114, 118, 101], [99, 104, 97, 114, 103, 101], [115, 104, 105, 112], [114, 101, 108, 101, 97, 115, 101], [114, 101, 102, 117, 110, 100], [118, 111, 105, 100]]
def wordL (d : Int) : List UInt8 := if 0 ≤ d ∧ d < 6 then wordsL.getD d.toNat [] else []
def partyI (d : Int) : Int := if d = 0 ∨ d = 3 then 1 else if d = 1 ∨ d = 4 then 0 else if d = 2 ∨ d = 5 then 2 else -1
def undoI (d : Int) : Int × Bool := if 3 ≤ d ∧ d ≤ 5 then (d - 3, true) else (0, false)
def chk (o d : Int) : Bool := decide (1 ≤ o ∧ o ≤ 60 ∧ 0 ≤ d ∧ d < 6)
def lessB (a b c d : Int) : Bool := decide (a < c ∨ a = c ∧ b < d)
def putK (o d : Int) : List UInt8 := if chk o d = true then itoa o ++ 45 :: wordL d else []
def deedK (s : List UInt8) : Int × Bool := match wordsL.idxOf? s with | some i => ((i : Int), true) | none => (0, false)
/-- keys.Get. -/
def getK (s : List UInt8) : (Int × Int) × Bool :=
  if (getM (cut s [45]).1).2 = true ∧ (deedK (cut s [45]).2.1).2 = true ∧ chk (getM (cut s [45]).1).1 (deedK (cut s [45]).2.1).1 = true then (((getM (cut s [45]).1).1, (deedK (cut s [45]).2.1).1), true) else ((0, 0), false)

theorem chk_iff {o d : Int} : chk o d = true ↔ (1 ≤ o ∧ o ≤ 60 ∧ 0 ≤ d ∧ d < 6) := by unfold chk; simp
theorem chk_in {o d : Int} (h : chk o d = true) : InR o := by have := chk_iff.1 h; unfold InR; omega
theorem deed6 {d : Int} (h : 0 ≤ d ∧ d < 6) : d = 0 ∨ d = 1 ∨ d = 2 ∨ d = 3 ∨ d = 4 ∨ d = 5 := by omega
theorem word_ne {d : Int} (h : 0 ≤ d ∧ d < 6) : wordL d ≠ [] := by rcases deed6 h with rfl | rfl | rfl | rfl | rfl | rfl <;> decide
theorem word_no {d : Int} (h : ¬ (0 ≤ d ∧ d < 6)) : wordL d = [] := by unfold wordL; rw [if_neg h]
theorem deed_word {d : Int} (h : 0 ≤ d ∧ d < 6) : deedK (wordL d) = (d, true) := by rcases deed6 h with rfl | rfl | rfl | rfl | rfl | rfl <;> decide
theorem deed_cases (s : List UInt8) : (∃ d, 0 ≤ d ∧ d < 6 ∧ wordL d = s ∧ deedK s = (d, true)) ∨ ((∀ d, 0 ≤ d ∧ d < 6 → wordL d ≠ s) ∧ deedK s = (0, false)) := by
  by_cases h : ∃ d, (0 ≤ d ∧ d < 6) ∧ wordL d = s
  · obtain ⟨d, hd, rfl⟩ := h
    exact .inl ⟨d, hd.1, hd.2, rfl, deed_word hd⟩
  · have h' : ∀ d, 0 ≤ d ∧ d < 6 → wordL d ≠ s := fun d hd e => h ⟨d, hd, e⟩
    refine .inr ⟨h', ?_⟩
    have hn : s ∉ wordsL := by
      intro hm
      unfold wordsL at hm
      simp only [List.mem_cons, List.not_mem_nil, or_false] at hm
      rcases hm with e | e | e | e | e | e
      · exact h' 0 (by omega) e.symm
      · exact h' 1 (by omega) e.symm
      · exact h' 2 (by omega) e.symm
      · exact h' 3 (by omega) e.symm
      · exact h' 4 (by omega) e.symm
      · exact h' 5 (by omega) e.symm
    unfold deedK
    rw [List.idxOf?_eq_none_iff.2 hn]
theorem word_inj {d d' : Int} (h : 0 ≤ d ∧ d < 6) (h' : 0 ≤ d' ∧ d' < 6) (e : wordL d = wordL d') : d = d' := by
  have h1 := deed_word h
  rw [e, deed_word h'] at h1
  injection h1 with h1 _
  exact h1.symm

theorem idx_dash (s : List UInt8) : (index s [45] = -1 ∧ 45 ∉ s) ∨ ∃ a b, s = a ++ 45 :: b ∧ 45 ∉ a ∧ index s [45] = a.length := by
  induction s with
  | nil => exact .inl ⟨rfl, by simp⟩
  | cons c l ih =>
    unfold index
    by_cases hc : c = 45
    · subst hc
      exact .inr ⟨[], l, rfl, by simp, by simp [List.isPrefixOf]⟩
    · have hp : ([45] : List UInt8).isPrefixOf (c :: l) = false := by
        simp [List.isPrefixOf]; exact fun e => hc e.symm
      rw [hp]
      simp only [Bool.false_eq_true, if_false]
      rcases ih with ⟨h1, h2⟩ | ⟨a, b, h1, h2, h3⟩
      · left
        rw [h1]
        exact ⟨rfl, by simp [h2]; exact fun e => hc e.symm⟩
      · right
        refine ⟨c :: a, b, by rw [h1]; rfl, by simp [h2]; exact fun e => hc e.symm, ?_⟩
        have hne : (index l [45] == -1) = false := by rw [h3]; exact beq_eq_false_iff_ne.2 (by omega)
        rw [hne, h3]
        simp
theorem cut_dash (s : List UInt8) : (cut s [45] = (s, [], false) ∧ 45 ∉ s) ∨ ∃ a b, s = a ++ 45 :: b ∧ 45 ∉ a ∧ cut s [45] = (a, b, true) := by
  rcases idx_dash s with ⟨h1, h2⟩ | ⟨a, b, h1, h2, h3⟩
  · left; unfold cut; rw [h1]; exact ⟨rfl, h2⟩
  · right
    refine ⟨a, b, h1, h2, ?_⟩
    unfold cut
    rw [h3, if_pos (by omega), h1]
    simp
theorem split_dash {a b c d : List UInt8} (h : a ++ 45 :: b = c ++ 45 :: d) (ha : 45 ∉ a) (hc : 45 ∉ c) : a = c ∧ b = d := by
  induction a generalizing c with
  | nil =>
    cases c with
    | nil => simpa using h
    | cons x c => simp only [List.nil_append, List.cons_append, List.cons.injEq] at h; exact absurd (by simp [h.1]) hc
  | cons x a ih =>
    cases c with
    | nil => simp only [List.nil_append, List.cons_append, List.cons.injEq] at h; exact absurd (by simp [h.1]) ha
    | cons y c =>
      simp only [List.cons_append, List.cons.injEq] at h
      obtain ⟨e1, e2⟩ := ih h.2 (fun hm => ha (by simp [hm])) (fun hm => hc (by simp [hm]))
      exact ⟨by rw [h.1, e1], e2⟩

theorem itoa_nodash {o : Int} (h : 0 ≤ o) : 45 ∉ itoa o := by
  obtain ⟨u, rfl⟩ : ∃ u : Nat, o = (u : Int) := ⟨o.toNat, by omega⟩
  rw [itoa_nonneg]
  intro hm
  have := dec_digit u 45 hm
  unfold Digit at this
  exact absurd this.1 (by decide)
theorem getK_put {o d : Int} (h : chk o d = true) : getK (putK o d) = ((o, d), true) := by
  have hc := chk_iff.1 h
  have hcut : cut (putK o d) [45] = (itoa o, wordL d, true) := by
    unfold putK
    rw [if_pos h]
    rcases cut_dash (itoa o ++ 45 :: wordL d) with ⟨_, h2⟩ | ⟨a, b, h1, h2, h3⟩
    · exact absurd (by simp) h2
    · obtain ⟨rfl, rfl⟩ := split_dash h1 (itoa_nodash (by omega)) h2
      exact h3
  unfold getK
  rw [hcut]
  simp only []
  rw [getM_itoa o (chk_in h), deed_word ⟨hc.2.2.1, hc.2.2.2⟩]
  simp [h]
theorem getK_inv {s : List UInt8} {o d : Int} (h : getK s = ((o, d), true)) : chk o d = true ∧ putK o d = s := by
  unfold getK at h
  split at h
  · rename_i hh
    obtain ⟨h1, h2, h3⟩ := hh
    injection h with h _
    injection h with ho hd
    rw [ho, hd] at h3
    refine ⟨h3, ?_⟩
    rcases getM_cases (cut s [45]).1 with ⟨n, _, hn, hg⟩ | ⟨_, hg⟩
    · rcases deed_cases (cut s [45]).2.1 with ⟨d', hd1, hd2, hw, hg'⟩ | ⟨_, hg'⟩
      · rw [hg] at ho
        rw [hg'] at hd
        simp only [] at ho hd
        subst ho; subst hd
        unfold putK
        rw [if_pos h3, hn, hw]
        rcases cut_dash s with ⟨hc, _⟩ | ⟨a, b, h4, _, hc⟩
        · rw [hc] at hw
          exact absurd hw (word_ne ⟨hd1, hd2⟩)
        · rw [hc]; exact h4.symm
      · rw [hg'] at h2; cases h2
    · rw [hg] at h1; cases h1
  · injection h with _ h; cases h
theorem getK_cases (s : List UInt8) : (∃ o d, chk o d = true ∧ putK o d = s ∧ getK s = ((o, d), true)) ∨ ((∀ o d, chk o d = true → putK o d ≠ s) ∧ getK s = ((0, 0), false)) := by
  by_cases h : ∃ o d, chk o d = true ∧ putK o d = s
  · obtain ⟨o, d, hc, rfl⟩ := h
    exact .inl ⟨o, d, hc, rfl, getK_put hc⟩
  · refine .inr ⟨fun o d hc e => h ⟨o, d, hc, e⟩, ?_⟩
    obtain ⟨⟨o, d⟩, b⟩ : ∃ r, getK s = r := ⟨_, rfl⟩
    rcases hr : getK s with ⟨⟨o, d⟩, b⟩
    cases b with
    | true => exact absurd ⟨o, d, getK_inv hr⟩ h
    | false =>
      unfold getK at hr
      split at hr
      · injection hr with _ hr; cases hr
      · exact hr.symm
theorem putK_inj {o d o' d' : Int} (h : chk o d = true) (h' : chk o' d' = true) (e : putK o d = putK o' d') : o = o' ∧ d = d' := by
  have h1 := getK_put h
  rw [e, getK_put h'] at h1
  simp only [Prod.mk.injEq, and_true] at h1
  exact ⟨h1.1.symm, h1.2.symm⟩
theorem putK_ne {o d : Int} (h : chk o d = true) : putK o d ≠ [] := by unfold putK; rw [if_pos h]; simp
theorem putK_no {o d : Int} (h : ¬ chk o d = true) : putK o d = [] := by unfold putK; rw [if_neg h]
theorem wordL_len (d : Int) : (wordL d).length ≤ 7 := by
  by_cases h : 0 ≤ d ∧ d < 6
  · rcases deed6 h with rfl | rfl | rfl | rfl | rfl | rfl <;> decide
  · rw [word_no h]; simp
end Key
end Go.Proofs.YtlkncmpengpbiaaGreatDoor

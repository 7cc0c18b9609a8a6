/- What always holds of a party's rows and of what is reserved, as plain lists. -/
import Derived.Test.YtkmpagijdhhinaaDoorPartySpec
namespace Go.Proofs.YtkmpagijdhhinaaDoor
open Key Od Pa

namespace Pa
/-- A row that may be. -/
def rowOk (kind : Int) (x : R5) : Prop := (x.2.1 = 2 ∧ x.2.2.1 = 0 ∧ x.2.2.2 = 0) ∨ (x.2.1 = 1 ∧ ((kind = 0 ∧ x.2.2.2 = 0 ∧ 0 ≤ x.2.2.1 ∧ x.2.2.1 ≤ 1099511627776) ∨ (kind ≠ 0 ∧ x.2.2.1 = 0 ∧ 0 ≤ x.2.2.2 ∧ x.2.2.2 ≤ 999)))
structure Good (kind stock : Int) (st : St) : Prop where
  rise : Rise st.rows
  key : ∀ x ∈ st.rows, chk x.1.1 x.1.2 = true ∧ partyI x.1.2 = kind
  row : ∀ x ∈ st.rows, rowOk kind x
  und : ∀ o d, (∃ x ∈ st.rows, x.1 = (o, d + 3)) → 0 ≤ d → ∃ x ∈ st.rows, x.1 = (o, d)
  gs : ∀ o s q, (o, s, q) ∈ st.gs → (o, s) ∈ st.rs ∧ s.length ≤ 8 ∧ 1 ≤ q ∧ q ≤ 999 ∧ ((o, 0), 1, 0, q) ∈ st.rows
  gsu : st.gs.Pairwise fun x y => x.1 ≠ y.1
  rs : ∀ o s, (o, s) ∈ st.rs → s.length ≤ 8 ∧ ∃ q, ((o, 0), 1, 0, q) ∈ st.rows ∧ ((o, s, q) ∈ st.gs ∨ ∃ x ∈ st.rows, x.1 = (o, 3))
  rsu : ∀ o s t, (o, s) ∈ st.rs → (o, t) ∈ st.rs → s = t
  emp : kind ≠ 1 → st.rs = [] ∧ st.gs = []
  le : ∀ s, used st.gs s ≤ stock
  rel : ∀ o, (∃ x ∈ st.rows, x.1 = (o, 3)) → ∀ s q, (o, s, q) ∉ st.gs

theorem used_nil (s : List UInt8) : used [] s = 0 := rfl
theorem used_cons (x : Int × List UInt8 × Int) (g : List (Int × List UInt8 × Int)) (s : List UInt8) : used (x :: g) s = (if x.2.1 = s then x.2.2 else 0) + used g s := by unfold used; simp
theorem used_nonneg {g : List (Int × List UInt8 × Int)} (h : ∀ o s q, (o, s, q) ∈ g → 1 ≤ q) (s : List UInt8) : 0 ≤ used g s := by
  induction g with
  | nil => exact Int.le_refl 0
  | cons x g ih =>
    rw [used_cons]
    have h1 := ih fun o s q hx => h o s q (List.mem_cons_of_mem _ hx)
    have h2 := h x.1 x.2.1 x.2.2 (List.mem_cons_self ..)
    split <;> omega
theorem free_none {g : List (Int × List UInt8 × Int)} {o : Int} (h : ∀ s q, (o, s, q) ∉ g) : freeG g o = g := by
  unfold freeG
  rw [List.filter_eq_self]
  rintro ⟨a, s, q⟩ hx
  simp only [decide_eq_true_eq]
  intro e
  exact h s q (by rw [← e]; exact hx)
/-- What one order has reserved, taken away. -/
theorem free_used {g : List (Int × List UInt8 × Int)} (hu : g.Pairwise fun x y => x.1 ≠ y.1) {o : Int} {s : List UInt8} {q : Int} (h : (o, s, q) ∈ g) (t : List UInt8) : used (freeG g o) t = used g t - if s = t then q else 0 := by
  induction g with
  | nil => cases h
  | cons x g ih =>
    rw [List.pairwise_cons] at hu
    rcases List.mem_cons.1 h with rfl | h
    · have h1 : freeG ((o, s, q) :: g) o = freeG g o := by unfold freeG; simp
      have h2 : freeG g o = g := free_none fun s' q' hx => hu.1 _ hx rfl
      rw [h1, h2, used_cons]
      simp only []
      omega
    · have hx : x.1 ≠ o := hu.1 _ h
      have h1 : freeG (x :: g) o = x :: freeG g o := by unfold freeG; simp [hx]
      rw [h1, used_cons, used_cons, ih hu.2 h]
      omega
theorem mem_free {g : List (Int × List UInt8 × Int)} {o : Int} {x : Int × List UInt8 × Int} : x ∈ freeG g o ↔ x ∈ g ∧ x.1 ≠ o := by unfold freeG; simp
theorem used_free_le {g : List (Int × List UInt8 × Int)} (h : ∀ o s q, (o, s, q) ∈ g → 1 ≤ q) (o : Int) (s : List UInt8) : used (freeG g o) s ≤ used g s := by
  induction g with
  | nil => exact Int.le_refl _
  | cons x g ih =>
    have h1 := ih fun o s q hx => h o s q (List.mem_cons_of_mem _ hx)
    have h2 := h x.1 x.2.1 x.2.2 (List.mem_cons_self ..)
    by_cases e : x.1 = o
    · have : freeG (x :: g) o = freeG g o := by unfold freeG; simp [e]
      rw [this, used_cons]; split <;> omega
    · have : freeG (x :: g) o = x :: freeG g o := by unfold freeG; simp [e]
      rw [this, used_cons, used_cons]; omega
theorem used_snoc (g : List (Int × List UInt8 × Int)) (x : Int × List UInt8 × Int) (s : List UInt8) : used (g ++ [x]) s = used g s + if x.2.1 = s then x.2.2 else 0 := by
  unfold used; rw [List.map_append, List.sum_append]; simp

theorem Good.nil {kind stock : Int} (h : 0 ≤ stock) : Good kind stock ⟨[], [], []⟩ :=
  ⟨List.Pairwise.nil, by simp, by simp, by simp, by simp, List.Pairwise.nil, by simp, by simp, fun _ => ⟨rfl, rfl⟩, fun s => h, by simp⟩

/-- What a message that may be says. -/
theorem may_says {m : Ms} {kind : Int} (hm : m.may = true) (ht : m.to = kind) : chk m.o m.d = true ∧ partyI m.d = kind ∧ m.cd = 0 ∧ ((kind = 0 ∧ m.qty = 0 ∧ 1 ≤ m.amt ∧ m.amt ≤ 1099511627776 ∧ m.sku = []) ∨ (kind ≠ 0 ∧ m.amt = 0 ∧ 1 ≤ m.qty ∧ m.qty ≤ 999 ∧ m.sku.length ≤ 8)) := by
  unfold Ms.may mayB at hm
  simp only [Bool.and_eq_true, decide_eq_true_eq] at hm
  obtain ⟨⟨⟨h1, h2⟩, h3⟩, h4⟩ := hm
  subst ht
  refine ⟨h1, h2, h3, ?_⟩
  split at h4
  · unfold payB at h4
    simp only [Bool.and_eq_true, decide_eq_true_eq] at h4
    exact .inl ⟨by assumption, h4.1.1.2, h4.1.2, h4.2, List.eq_nil_of_length_eq_zero h4.1.1.1⟩
  · unfold goodsB at h4
    simp only [Bool.and_eq_true, decide_eq_true_eq] at h4
    obtain ⟨⟨⟨⟨⟨g0, g1⟩, g2⟩, g3⟩, g4⟩, g5⟩ := h4
    exact .inr ⟨by assumption, g5, g3, g4, g1⟩
theorem party_rel {o d : Int} (h : chk o d = true) : (partyI d = 1 ↔ d = 0 ∨ d = 3) ∧ (partyI d = 0 ↔ d = 1 ∨ d = 4) ∧ (partyI d = 2 ↔ d = 2 ∨ d = 5) := by
  have := chk_iff.1 h
  rcases deed6 (d := d) (by omega) with rfl | rfl | rfl | rfl | rfl | rfl <;> decide
theorem party_undo {o d : Int} (h : chk o d = true) (h3 : 3 ≤ d) : chk o (d - 3) = true ∧ partyI (d - 3) = partyI d := by
  have := chk_iff.1 h
  refine ⟨chk_iff.2 (by omega), ?_⟩
  rcases deed6 (d := d) (by omega) with rfl | rfl | rfl | rfl | rfl | rfl <;> first | omega | decide

theorem ins_mem_old {l : List R5} {x y : R5} (h : y ∈ l) : y ∈ insR l x := mem_ins.2 (.inr h)

/-- One row more, that may be. -/
theorem Good.rowMore {kind stock : Int} {st : St} (h : Good kind stock st) {x : R5} (hx : ∀ y ∈ st.rows, y.1 ≠ x.1) (hk : chk x.1.1 x.1.2 = true) (hp : partyI x.1.2 = kind) (ho : rowOk kind x) (hu : ∀ o d, x.1 = (o, d + 3) → 0 ≤ d → ∃ y ∈ st.rows, y.1 = (o, d)) (hr : ∀ o, x.1 = (o, 3) → ∀ s q, (o, s, q) ∉ st.gs) : Good kind stock { st with rows := insR st.rows x } := by
  refine ⟨h.rise.ins hx, ?_, ?_, ?_, ?_, h.gsu, ?_, h.rsu, h.emp, h.le, ?_⟩
  · intro y hy
    rcases mem_ins.1 hy with rfl | hy
    · exact ⟨hk, hp⟩
    · exact h.key y hy
  · intro y hy
    rcases mem_ins.1 hy with rfl | hy
    · exact ho
    · exact h.row y hy
  · rintro o d ⟨y, hy, e⟩ hd
    rcases mem_ins.1 hy with rfl | hy
    · obtain ⟨z, hz, e2⟩ := hu o d e hd
      exact ⟨z, ins_mem_old hz, e2⟩
    · obtain ⟨z, hz, e2⟩ := h.und o d ⟨y, hy, e⟩ hd
      exact ⟨z, ins_mem_old hz, e2⟩
  · intro o s q hg
    obtain ⟨a, b, c, d, e⟩ := h.gs o s q hg
    exact ⟨a, b, c, d, ins_mem_old e⟩
  · intro o s hs
    obtain ⟨a, q, b, c⟩ := h.rs o s hs
    refine ⟨a, q, ins_mem_old b, ?_⟩
    rcases c with c | ⟨y, hy, e⟩
    · exact .inl c
    · exact .inr ⟨y, ins_mem_old hy, e⟩
  · rintro o ⟨y, hy, e⟩
    rcases mem_ins.1 hy with rfl | hy
    · exact hr o e
    · exact h.rel o ⟨y, hy, e⟩

/-- A release is written, and what was reserved is free. -/
theorem Good.release {stock : Int} {st : St} (h : Good 1 stock st) {o a q : Int} (hx : ∀ y ∈ st.rows, y.1 ≠ (o, 3)) (hk : chk o 3 = true) (ho : rowOk 1 ((o, 3), 1, a, q)) (hu : ∃ y ∈ st.rows, y.1 = (o, 0)) : Good 1 stock ⟨insR st.rows ((o, 3), 1, a, q), freeG st.gs o, st.rs⟩ := by
  refine ⟨h.rise.ins hx, ?_, ?_, ?_, ?_, h.gsu.filter _, ?_, h.rsu, fun hk => absurd rfl hk, fun s => Int.le_trans (used_free_le (fun a s q hx => (h.gs a s q hx).2.2.1) o s) (h.le s), ?_⟩
  · intro y hy
    rcases mem_ins.1 hy with rfl | hy
    · exact ⟨hk, rfl⟩
    · exact h.key y hy
  · intro y hy
    rcases mem_ins.1 hy with rfl | hy
    · exact ho
    · exact h.row y hy
  · rintro o' d ⟨y, hy, e⟩ hd
    rcases mem_ins.1 hy with rfl | hy
    · obtain ⟨z, hz, e2⟩ := hu
      injection e with e1 e3
      refine ⟨z, ins_mem_old hz, ?_⟩
      rw [e2, e1]
      congr 1
      omega
    · obtain ⟨z, hz, e2⟩ := h.und o' d ⟨y, hy, e⟩ hd
      exact ⟨z, ins_mem_old hz, e2⟩
  · intro o' s q' hg
    obtain ⟨a, b, c, d, e⟩ := h.gs o' s q' (mem_free.1 hg).1
    exact ⟨a, b, c, d, ins_mem_old e⟩
  · intro o' s hs
    obtain ⟨b, q', c, d⟩ := h.rs o' s hs
    refine ⟨b, q', ins_mem_old c, ?_⟩
    rcases d with d | ⟨y, hy, e⟩
    · by_cases e : o' = o
      · subst e
        exact .inr ⟨_, mem_ins.2 (.inl rfl), rfl⟩
      · exact .inl (mem_free.2 ⟨d, e⟩)
    · exact .inr ⟨y, ins_mem_old hy, e⟩
  · rintro o' ⟨y, hy, e⟩ s q' hg
    obtain ⟨hg, hne⟩ := mem_free.1 hg
    rcases mem_ins.1 hy with rfl | hy
    · injection e with e _
      exact hne e.symm
    · exact h.rel o' ⟨y, hy, e⟩ s q' hg

theorem find_was {l : List R5} {k : Int × Int} (hn : findR l k = none) (x : R5) (h : x.1 ≠ k) : findR (insR l x) k = none := by
  cases hg : findR (insR l x) k with
  | none => rfl
  | some y =>
    obtain ⟨h1, h2⟩ := find_some hg
    rcases mem_ins.1 h1 with rfl | h1
    · exact absurd h2 h
    · exact absurd h2 (find_none hn y h1)

theorem Good.undo {kind stock : Int} {st : St} (h : Good kind stock st) {m : Ms} (hm : m.may = true) (ht : m.to = kind) (h3 : 3 ≤ m.d) (hn : findR st.rows (m.o, m.d) = none) : Good kind stock (undoS kind st m) := by
  obtain ⟨hc, hp, _, _⟩ := may_says hm ht
  obtain ⟨hc3, hp3⟩ := party_undo hc h3
  have hb := chk_iff.1 hc
  -- the first row
  obtain ⟨st1, x, hst1, g1, hx, hxm, hn1⟩ : ∃ st1 x, undoS kind st m = ⟨insR st1.rows ((m.o, m.d), 1, x.2.2.1, x.2.2.2), if kind = 1 then freeG st1.gs m.o else st1.gs, st1.rs⟩ ∧ Good kind stock st1 ∧ x.1 = (m.o, m.d - 3) ∧ x ∈ st1.rows ∧ findR st1.rows (m.o, m.d) = none := by
    cases hf : findR st.rows (m.o, m.d - 3) with
    | some x =>
      refine ⟨st, x, ?_, h, (find_some hf).2, (find_some hf).1, hn⟩
      unfold undoS wasR
      simp only [hf, Option.isSome_some, if_true, Option.getD_some]
    | none =>
      refine ⟨{ st with rows := insR st.rows ((m.o, m.d - 3), 2, 0, 0) }, ((m.o, m.d - 3), 2, 0, 0), ?_, h.rowMore (find_none hf) hc3 (hp3.trans hp) (.inl ⟨rfl, rfl, rfl⟩) (fun o d e hd => ?_) (fun o e => ?_), rfl, mem_ins.2 (.inl rfl), find_was hn _ (fun e => ?_)⟩
      · unfold undoS wasR
        simp only [hf, Option.isSome_none, Bool.false_eq_true, if_false, Option.getD_none]
      · injection e with _ e; omega
      · injection e with _ e; omega
      · injection e with _ e; omega
  rw [hst1]
  have ho : rowOk kind ((m.o, m.d), 1, x.2.2.1, x.2.2.2) := by
    rcases g1.row x hxm with ⟨_, a, b⟩ | ⟨_, a⟩
    · refine .inr ⟨rfl, ?_⟩
      by_cases hk : kind = 0
      · exact .inl ⟨hk, b, by simp only []; omega, by simp only []; omega⟩
      · exact .inr ⟨hk, a, by simp only []; omega, by simp only []; omega⟩
    · exact .inr ⟨rfl, a⟩
  by_cases hk : kind = 1
  · subst hk
    have hd : m.d = 3 := by
      have := (party_rel hc).1.1 hp
      omega
    rw [if_pos rfl, hd]
    rw [hd] at ho hn1 hc
    exact g1.release (find_none hn1) hc ho ⟨x, hxm, by rw [hx, hd]; rfl⟩
  · rw [if_neg hk]
    refine g1.rowMore (find_none hn1) hc hp ho (fun o d e hd => ?_) (fun o _ s q => by rw [(g1.emp hk).2]; simp)
    injection e with e1 e2
    exact ⟨x, hxm, by rw [hx, e1]; congr 1; omega⟩

theorem Good.does {kind stock limit : Int} {st : St} (h : Good kind stock st) {m : Ms} (hm : m.may = true) (ht : m.to = kind) (h3 : m.d < 3) (hn : findR st.rows (m.o, m.d) = none) : Good kind stock (doS kind stock limit st m) := by
  obtain ⟨hc, hp, _, hq⟩ := may_says hm ht
  have hb := chk_iff.1 hc
  unfold doS
  split
  · rename_i hdone
    have g1 : Good kind stock { st with rows := insR st.rows ((m.o, m.d), 1, m.amt, m.qty) } := by
      refine h.rowMore (find_none hn) hc hp (.inr ⟨rfl, ?_⟩) (fun o d e hd => by injection e with _ e; omega) (fun o e => by injection e with _ e; omega)
      rcases hq with ⟨a, b, c, d, _⟩ | ⟨a, b, c, d, _⟩
      · exact .inl ⟨a, b, by simp only []; omega, d⟩
      · exact .inr ⟨a, b, by simp only []; omega, d⟩
    by_cases hk : kind = 1
    · subst hk
      have hd : m.d = 0 := by
        have := (party_rel hc).1.1 hp
        omega
      rw [if_pos rfl, if_pos rfl]
      rw [hd] at g1 hn ⊢
      rcases hq with ⟨a, _⟩ | ⟨_, ha, hq1, hq2, hs⟩
      · exact absurd a (by decide)
      have hno : ∀ s, (m.o, s) ∉ st.rs := fun s hs => by
        obtain ⟨_, q, hr, _⟩ := h.rs m.o s hs
        exact find_none hn _ hr rfl
      have hn3 : ¬ ∃ x ∈ st.rows, x.1 = (m.o, 3) := fun hx => by
        obtain ⟨y, hy, e⟩ := h.und m.o 0 hx (by omega)
        exact find_none hn y hy e
      refine ⟨g1.rise, g1.key, g1.row, g1.und, ?_, ?_, ?_, ?_, fun hk => absurd rfl hk, ?_, ?_⟩
      · intro o s q hg
        rcases List.mem_append.1 hg with hg | hg
        · obtain ⟨a, b⟩ := g1.gs o s q hg
          exact ⟨List.mem_append.2 (.inl a), b⟩
        · rw [List.mem_singleton] at hg
          injection hg with e1 hg
          injection hg with e2 e3
          subst e1 e2 e3
          exact ⟨by simp, hs, hq1, hq2, mem_ins.2 (.inl (by rw [ha]))⟩
      · rw [List.pairwise_append]
        refine ⟨h.gsu, List.pairwise_singleton _ _, fun x hx y hy => ?_⟩
        rw [List.mem_singleton] at hy
        subst hy
        intro e
        have e : x.1 = m.o := e
        exact hno x.2.1 (by rw [← e]; exact (h.gs x.1 x.2.1 x.2.2 hx).1)
      · intro o s hr
        rcases List.mem_append.1 hr with hr | hr
        · obtain ⟨a, q, b, c⟩ := g1.rs o s hr
          refine ⟨a, q, b, c.imp (fun c => List.mem_append.2 (.inl c)) id⟩
        · rw [List.mem_singleton] at hr
          injection hr with e1 e2
          subst e1 e2
          exact ⟨hs, m.qty, mem_ins.2 (.inl (by rw [ha])), .inl (by simp)⟩
      · intro o s t h1 h2
        rcases List.mem_append.1 h1 with h1 | h1 <;> rcases List.mem_append.1 h2 with h2 | h2
        · exact h.rsu o s t h1 h2
        · rw [List.mem_singleton] at h2
          injection h2 with e1 e2
          exact absurd (by rw [← e1]; exact h1) (hno s)
        · rw [List.mem_singleton] at h1
          injection h1 with e1 e2
          exact absurd (by rw [← e1]; exact h2) (hno t)
        · rw [List.mem_singleton] at h1 h2
          injection h1 with _ e1
          injection h2 with _ e2
          exact e1.trans e2.symm
      · intro s
        rw [used_snoc]
        have h1 := h.le s
        unfold doneB at hdone
        rw [if_pos rfl] at hdone
        simp only [decide_eq_true_eq] at hdone
        simp only []
        split
        · rename_i e
          rw [e] at hdone
          omega
        · omega
      · rintro o hx s q hg
        have hx' : ∃ x ∈ st.rows, x.1 = (o, 3) := by
          obtain ⟨y, hy, e⟩ := hx
          rcases mem_ins.1 hy with rfl | hy
          · injection e with _ e; exact absurd e (by decide)
          · exact ⟨y, hy, e⟩
        rcases List.mem_append.1 hg with hg | hg
        · exact h.rel o hx' s q hg
        · rw [List.mem_singleton] at hg
          injection hg with e1 _
          exact hn3 (by rw [← e1]; exact hx')
    · rw [if_neg hk, if_neg hk]
      exact g1
  · refine h.rowMore (find_none hn) hc hp (.inl ⟨rfl, rfl, rfl⟩) (fun o d e hd => by injection e with _ e; omega) (fun o e => by injection e with _ e; omega)

theorem Good.ask {kind stock limit : Int} {st : St} (h : Good kind stock st) (m : Ms) : Good kind stock (askS kind stock limit st m) := by
  unfold askS
  split
  · rename_i hm
    simp only [Bool.and_eq_true, decide_eq_true_eq] at hm
    split
    · exact h
    · rename_i hf
      have hn : findR st.rows (m.o, m.d) = none := by simpa using hf
      unfold nextS
      split
      · exact h.undo hm.1 hm.2 (by assumption) hn
      · exact h.does hm.1 hm.2 (by omega) hn
  · exact h
theorem undo_len (kind : Int) (st : St) (m : Ms) : (undoS kind st m).rows.length ≤ st.rows.length + 2 := by
  unfold undoS
  simp only [ins_len]
  split
  · omega
  · rw [ins_len]; omega
theorem ask_len (kind stock limit : Int) (st : St) (m : Ms) : (askS kind stock limit st m).rows.length ≤ st.rows.length + 2 := by
  unfold askS
  split
  · split
    · omega
    · unfold nextS
      split
      · exact undo_len kind st m
      · unfold doS
        split <;> simp only [ins_len] <;> omega
  · omega
end Pa
end Go.Proofs.YtkmpagijdhhinaaDoor

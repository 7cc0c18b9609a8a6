/- Stock's files, plain: the whole way from a text to a statement and back. -/
import Derived.Test.YtgpjbigelblanaaGreatDoorStockPure
namespace Go.Proofs.YtgpjbigelblanaaGreatDoor
open Key Mon Rw
set_option linter.unusedSimpArgs false
set_option linter.unusedVariables false

namespace Sk
theorem itoa_len {n : Int} (k : Nat) (h0 : 0 ≤ n) (h : n < ((10 ^ (k + 1) : Nat) : Int)) : (Lib.itoa n).length ≤ k + 1 := by
  obtain ⟨u, rfl⟩ : ∃ u : Nat, n = (u : Int) := ⟨n.toNat, by omega⟩
  rw [Lib.itoa_nonneg]
  exact dec_len k u (by omega)
theorem codeW_len (c : Int) : (codeW c).length ≤ 7 := by unfold codeW; split; decide; split <;> decide
theorem room_row {x : R5} (h : okRow 1 x = true) : Csv.roomRow (rowF x) ≤ 69 := by
  obtain ⟨h1, h2, h3, h4, h5, h6, h7⟩ := row_one h
  have a := itoa_len (n := x.1.1) 1 (by omega) (by simp; omega)
  have b := wordL_len x.1.2
  have c := codeW_len x.2.1
  have d := itoa_len (n := x.2.2.2) 2 (by omega) (by simp; omega)
  unfold Csv.roomRow rowF
  simp only [List.map_cons, List.map_nil, List.sum_cons, List.sum_nil]
  omega
theorem room_append (a b : List Line) : Csv.room (a ++ b) = Csv.room a + Csv.room b := by unfold Csv.room; rw [List.map_append, List.sum_append]
theorem room_cons (a : Line) (b : List Line) : Csv.room (a :: b) = Csv.roomRow a + Csv.room b := by unfold Csv.room; rw [List.map_cons, List.sum_cons]
theorem room_rows : ∀ {l : List R5}, (∀ x ∈ l, okRow 1 x = true) → Csv.room (l.map rowF) ≤ 69 * l.length
  | [], _ => by simp [Csv.room]
  | x :: l, h => by
    have h1 := room_row (h x (by simp))
    have h2 := room_rows (l := l) fun y hy => h y (by simp [hy])
    rw [List.map_cons, room_cons, List.length_cons]
    omega
theorem room_table {q : Int} {l : List R5} (h : validB 1 q l = true) : Csv.room (table q l) ≤ 27700 := by
  obtain ⟨h1, h2, h3, h4, h5⟩ := valid_parts h
  have a := itoa_len (n := q) 9 (by omega) (by simp; omega)
  have b := itoa_len (n := (l.length : Int)) 2 (by omega) (by simp; omega)
  have c := room_rows h4
  have e1 : Csv.roomRow [wHead, Lib.itoa q] = 3 * 5 + 3 + (3 * (Lib.itoa q).length + 3) := by simp [Csv.roomRow, wHead]
  have e2 : Csv.roomRow [wEnd, Lib.itoa l.length] = 3 * 3 + 3 + (3 * (Lib.itoa (l.length : Int)).length + 3) := by simp [Csv.roomRow, wEnd]
  have e3 : Csv.room [[wEnd, Lib.itoa l.length]] = Csv.roomRow [wEnd, Lib.itoa l.length] := by simp [Csv.room]
  unfold table
  rw [room_cons, room_append, e3, e1, e2]
  omega
theorem table_full (q : Int) (l : List R5) : ∀ r ∈ table q l, ¬ r = [] := by
  intro r hr
  unfold table at hr
  simp only [List.mem_cons, List.mem_append, List.mem_map, List.not_mem_nil, or_false] at hr
  rcases hr with rfl | ⟨x, _, rfl⟩ | rfl <;> simp [rowF]
theorem print_len {q : Int} {l : List R5} (h : validB 1 q l = true) : (Csv.printOf (table q l)).length ≤ 27700 := Nat.le_trans (Csv.printOf_room _ (table_full q l)) (room_table h)
/-- What is parsed of the text that rows are printed as. -/
theorem parse_rows {L : List Line} (hf : ∀ r ∈ L, ¬ r = []) (hl : (Csv.printOf L).length ≤ 65536) : parseS (Csv.printOf L) = ofTable L := by
  unfold parseS
  rw [Csv.parse_print L hl, Csv.fill_full L hf]
  rfl
theorem parse_table {q : Int} {l : List R5} (h : validB 1 q l = true) : parseS (Csv.printOf (table q l)) = ((1, q, l), 0, 0, 0) := by
  rw [parse_rows (table_full q l) (by have := print_len h; omega), ofTable_table h]
theorem print_ne {q : Int} {l : List R5} : Csv.printOf (table q l) ≠ [] := by
  unfold table
  rw [show ∀ (r : Line) (t : List Line), Csv.printOf (r :: t) = Csv.rowOf r ++ [10] ++ Csv.printOf t from fun r t => by simp [Csv.printOf]]
  simp
/-- OF WHAT IS CUT OFF: a reject. -/
theorem parse_cut {q : Int} {l : List R5} (h : validB 1 q l = true) (k : Nat) (hk : k < (Csv.printOf (table q l)).length) : ∃ a b c, parseS ((Csv.printOf (table q l)).take k) = ((0, 0, []), a, b, c) ∧ c ≠ 0 ∧ 1 ≤ a ∧ 1 ≤ b := by
  have hlen := print_len h
  unfold parseS
  rcases Csv.parse_cut (table q l) k hk (by omega) with ⟨a, b, c, e, hc, ha⟩ | ⟨M, e, hm, ht⟩
  · rw [e]
    have hb : 1 ≤ b := by
      have hp : Csv.parse ((Csv.printOf (table q l)).take k) = Csv.parseOf ((Csv.printOf (table q l)).take k) (Csv.go ((Csv.printOf (table q l)).take k) Csv.St.init 0) := by unfold Csv.parse; rw [if_neg (by rw [List.length_take]; omega)]
      rw [hp] at e
      unfold Csv.parseOf at e
      cases hg : Csv.go ((Csv.printOf (table q l)).take k) Csv.St.init 0 with
      | inr p =>
        rw [hg] at e
        simp only [Prod.mk.injEq] at e
        rw [← e.2.2.1]
        exact (Csv.lc_ge _).2.1
      | inl st =>
        rw [hg] at e
        simp only at e
        split at e
        · simp only [Prod.mk.injEq] at e
          omega
        · simp only [Prod.mk.injEq] at e
          rw [← e.2.2.1]
          exact (Csv.lc_ge _).2.1
    refine ⟨a, b, c, ?_, by omega, ha, hb⟩
    simp only []
    rw [if_neg (by omega)]
  · rw [e]
    rw [Csv.fill_full _ (table_full q l)] at ht
    refine ⟨M.length + 1, 1, 7, ?_, by omega, by omega, by omega⟩
    simp only [if_true]
    rw [← ht, ofTable_cut h M.length (by rw [table_len] at hm; exact hm)]
    simp only [List.length_take, table_len]
    rw [table_len] at hm
    rw [Nat.min_eq_left (by omega)]

/-! ### From any text -/
structure Ok (s : St) : Prop where
  rows : ∀ x ∈ s.l, okRow 1 x = true
  rise : s.l.Pairwise fun x y => lessR x y = true
  many : s.l.length ≤ 400
theorem num_of {s : List UInt8} {a b : Int} (h : numB s a b = true) : a ≤ (getM s).1 ∧ (getM s).1 ≤ b := by unfold numB at h; simp at h; exact ⟨h.1.2, h.2⟩
theorem code_of {s : List UInt8} (h : (codeK s).2 = true) : (codeK s).1 = 1 ∨ (codeK s).1 = 2 := by
  unfold codeK at *
  split
  · exact .inl rfl
  · rename_i h1
    rw [if_neg h1] at h
    split
    · exact .inr rfl
    · rename_i h2; rw [if_neg h2] at h; cases h
theorem four_ok {a b c d : List UInt8} {l : List R5} {x : R5} (h : four a b c d l = .inl x) : okRow 1 x = true ∧ Behind l x := by
  unfold four at h
  by_cases h1 : numB a 1 60 = true
  · rw [if_neg (by simp [h1])] at h
    by_cases h2 : ((deedK b).2 && decide (partyI (deedK b).1 = 1)) = true
    · rw [if_neg (by simp [h2])] at h
      by_cases h3 : (codeK c).2 = true
      · rw [if_neg (by simp [h3])] at h
        by_cases h4 : (numB d 0 999 && (decide ((codeK c).1 = 1) || decide ((getM d).1 = 0))) = true
        · rw [if_neg (by simp [h4])] at h
          rw [Bool.and_eq_true] at h2 h4
          have g1 := num_of h1
          have g4 := num_of h4.1
          have g5 : (codeK c).1 = 1 ∨ (getM d).1 = 0 := by simpa using h4.2
          have g2 : 0 ≤ (deedK b).1 ∧ (deedK b).1 < 6 := by
            rcases deed_cases b with ⟨e, e1, e2, _, e3⟩ | ⟨_, e3⟩
            · rw [e3]; exact ⟨e1, e2⟩
            · rw [e3] at h2; cases h2.1
          have hx : okRow 1 (((getM a).1, (deedK b).1), (codeK c).1, 0, (getM d).1) = true := row_one_mk ⟨g1, g2, of_decide_eq_true h2.2, code_of h3, rfl, g4, g5⟩
          cases hq : l.getLast? with
          | none =>
            rw [hq] at h
            simp only [Sum.inl.injEq] at h
            subst h
            exact ⟨hx, fun y hy => by rw [hq] at hy; cases hy⟩
          | some y =>
            rw [hq] at h
            simp only at h
            split at h
            · rename_i hl
              simp only [Sum.inl.injEq] at h
              subst h
              exact ⟨hx, fun z hz => by rw [hq] at hz; cases hz; exact hl⟩
            · cases h
        · rw [if_pos (by simpa using h4)] at h; cases h
      · rw [if_pos (by simpa using h3)] at h; cases h
    · rw [if_pos (by simpa using h2)] at h; cases h
  · rw [if_pos (by simpa using h1)] at h; cases h
theorem rise_snoc {l : List R5} {x : R5} (h : l.Pairwise fun x y => lessR x y = true) (hb : Behind l x) : (l ++ [x]).Pairwise fun x y => lessR x y = true := by
  rw [List.pairwise_append]
  refine ⟨h, List.pairwise_singleton _ _, fun y hy z hz => ?_⟩
  simp only [List.mem_singleton] at hz
  subst hz
  rcases List.eq_nil_or_concat l with e | ⟨M, r, e⟩
  · rw [e] at hy; cases hy
  · rw [List.concat_eq_append] at e
    subst e
    have hr := hb r (by simp)
    rw [List.mem_append] at hy
    rcases hy with hy | hy
    · rw [List.pairwise_append] at h
      exact less_trans (h.2.2 y hy r (by simp)) hr
    · simp only [List.mem_singleton] at hy; subst hy; exact hr
theorem one_ok {r : Line} {l : List R5} {x : R5} (h : one r l = .inl x) : okRow 1 x = true ∧ Behind l x ∧ l.length < 400 := by
  unfold one at h
  by_cases h1 : r.length ≠ 4
  · rw [if_pos h1] at h; cases h
  · rw [if_neg h1] at h
    by_cases h2 : 400 ≤ l.length
    · rw [if_pos h2] at h; cases h
    · rw [if_neg h2] at h
      have := four_ok h
      exact ⟨this.1, this.2, by omega⟩
theorem step_ok {i : Nat} {r : Line} {s s' : St} (hi : 1 ≤ i) (h : Ok s) (hs : step i r s = .inl s') : Ok s' ∧ s'.seq = s.seq := by
  unfold step at hs
  by_cases h1 : s.ended = true
  · rw [if_pos h1] at hs; cases hs
  · rw [if_neg h1, if_neg (by omega)] at hs
    by_cases h2 : r.head? = some wEnd
    · rw [if_pos h2] at hs
      cases hl : last r s.l.length with
      | none => rw [hl] at hs; simp only [Sum.inl.injEq] at hs; subst hs; exact ⟨⟨h.rows, h.rise, h.many⟩, rfl⟩
      | some x => rw [hl] at hs; cases hs
    · rw [if_neg h2] at hs
      cases ho : one r s.l with
      | inr x => rw [ho] at hs; cases hs
      | inl x =>
        rw [ho] at hs
        simp only [Sum.inl.injEq] at hs
        subst hs
        obtain ⟨g1, g2, g3⟩ := one_ok ho
        exact ⟨⟨fun y hy => by
          rcases List.mem_append.1 hy with hy | hy
          · exact h.rows y hy
          · simp only [List.mem_singleton] at hy; subst hy; exact g1, rise_snoc h.rise g2, by simp; omega⟩, rfl⟩
theorem run_ok : ∀ (L : List Line) (i : Nat) (s s' : St), 1 ≤ i → Ok s → run L i s = .inl s' → Ok s' ∧ s'.seq = s.seq
  | [], i, s, s', _, h, hs => by simp only [run, Sum.inl.injEq] at hs; subst hs; exact ⟨h, rfl⟩
  | r :: t, i, s, s', hi, h, hs => by
    unfold run at hs
    cases hst : step i r s with
    | inr x => rw [hst] at hs; cases hs
    | inl s1 =>
      rw [hst] at hs
      obtain ⟨h1, e1⟩ := step_ok hi h hst
      obtain ⟨h2, e2⟩ := run_ok t (i + 1) s1 s' (by omega) h1 hs
      exact ⟨h2, e2.trans e1⟩
theorem first_of {r : Line} {q : Int} (h : first r = .inl q) : 1 ≤ q ∧ q ≤ 1073741824 := by
  unfold first at h
  split at h
  · cases h
  · split at h
    · cases h
    · split at h
      · rename_i hn
        simp only [Sum.inl.injEq] at h
        subst h
        exact num_of hn
      · cases h
theorem okTo_of {l : List R5} (h1 : ∀ x ∈ l, okRow 1 x = true) (h2 : l.Pairwise fun x y => lessR x y = true) : okTo 1 l l.length = true := by
  unfold okTo
  rw [List.all_eq_true]
  intro k hk
  rw [List.mem_range] at hk
  have hx : l[k]? = some l[k] := List.getElem?_eq_getElem hk
  unfold okAt
  rw [hx]
  simp only [Bool.and_eq_true]
  refine ⟨h1 _ (List.getElem_mem hk), ?_⟩
  cases k with
  | zero => rfl
  | succ j =>
    show (match l[j]? with | none => true | some y => lessR y l[j + 1]) = true
    rw [List.getElem?_eq_getElem (by omega)]
    exact List.pairwise_iff_getElem.1 h2 j (j + 1) (by omega) hk (by omega)
theorem csv_cases (t : List UInt8) : (∃ a b c, Csv.parse t = ([], a, b, c) ∧ c ≠ 0 ∧ 1 ≤ a ∧ 1 ≤ b) ∨ ∃ L, Csv.parse t = (L, 0, 0, 0) ∧ ∀ r ∈ L, ¬ r = [] := by
  unfold Csv.parse
  by_cases hl : 65536 < t.length
  · rw [if_pos hl]
    exact .inl ⟨_, _, _, rfl, by omega, by omega, by omega⟩
  · rw [if_neg hl]
    unfold Csv.parseOf
    cases hg : Csv.go t Csv.St.init 0 with
    | inr q => exact .inl ⟨_, _, _, rfl, by omega, (Csv.lc_ge _).1, (Csv.lc_ge _).2.1⟩
    | inl st =>
      simp only []
      by_cases hf : Csv.fin t st = 0
      · rw [if_pos hf]
        exact .inr ⟨_, rfl, (Csv.go_ok t Csv.St.init st 0 ⟨by simp [Csv.St.init], by simp [Csv.St.init, Csv.room, Csv.roomRow]⟩ hg).full⟩
      · rw [if_neg hf]
        exact .inl ⟨_, _, _, rfl, hf, (Csv.lc_ge _).1, (Csv.lc_ge _).2.1⟩
theorem first_bad {r : Line} {x : Nat × Nat} (h : first r = .inr x) : 1 ≤ x.1 ∧ x.2 ≠ 0 := by
  unfold first at h
  repeat' split at h
  all_goals first
    | (cases h; done)
    | (cases h; exact ⟨by simp, by simp⟩)
theorem last_bad {r : Line} {n : Nat} {x : Nat × Nat} (h : last r n = some x) : 1 ≤ x.1 ∧ x.2 ≠ 0 := by
  unfold last at h
  repeat' split at h
  all_goals first
    | (cases h; done)
    | (cases h; exact ⟨by simp, by simp⟩)
theorem one_bad {r : Line} {l : List R5} {x : Nat × Nat} (h : one r l = .inr x) : 1 ≤ x.1 ∧ x.2 ≠ 0 := by
  unfold one four at h
  repeat' split at h
  all_goals first
    | (cases h; done)
    | (cases h; exact ⟨by simp, by simp⟩)
theorem step_bad {i : Nat} {r : Line} {s : St} {x : Nat × Nat} (h : step i r s = .inr x) : 1 ≤ x.1 ∧ x.2 ≠ 0 := by
  unfold step at h
  split at h
  · cases h; exact ⟨by simp, by simp⟩
  · split at h
    · split at h
      · cases h
      · rename_i hf; cases h; exact first_bad hf
    · split at h
      · split at h
        · cases h
        · rename_i hf; cases h; exact last_bad hf
      · split at h
        · cases h
        · rename_i hf; cases h; exact one_bad hf
theorem run_bad : ∀ (L : List Line) (i : Nat) (s : St) (x : Nat × Nat × Nat), run L i s = .inr x → 1 ≤ x.1 ∧ 1 ≤ x.2.1 ∧ x.2.2 ≠ 0
  | [], i, s, x, h => by cases h
  | r :: t, i, s, x, h => by
    unfold run at h
    cases hst : step i r s with
    | inr y =>
      rw [hst] at h
      simp only [Sum.inr.injEq] at h
      subst h
      exact ⟨by simp, (step_bad hst).1, (step_bad hst).2⟩
    | inl s1 =>
      rw [hst] at h
      exact run_bad t (i + 1) s1 x h
theorem ofTable_cases (L : List Line) : (∃ a b c, ofTable L = ((0, 0, []), a, b, c) ∧ c ≠ 0 ∧ 1 ≤ a ∧ 1 ≤ b) ∨ ∃ q l, ofTable L = ((1, q, l), 0, 0, 0) ∧ validB 1 q l = true := by
  unfold ofTable
  cases h : run L 0 ⟨0, [], false⟩ with
  | inr x =>
    have := run_bad L _ _ _ h
    exact .inl ⟨x.1, x.2.1, x.2.2, rfl, this.2.2, this.1, this.2.1⟩
  | inl s =>
    unfold ofRun
    simp only []
    by_cases he : s.ended = true
    · rw [if_pos he]
      refine .inr ⟨_, _, rfl, ?_⟩
      match L, h with
      | [], h => simp only [run, Sum.inl.injEq] at h; subst h; cases he
      | r :: t, h =>
        unfold run at h
        cases hst : step 0 r ⟨0, [], false⟩ with
        | inr x => rw [hst] at h; cases h
        | inl s1 =>
          rw [hst] at h
          simp only at h
          unfold step at hst
          rw [if_neg (by simp), if_pos rfl] at hst
          cases hf : first r with
          | inr x => rw [hf] at hst; cases hst
          | inl q =>
            rw [hf] at hst
            simp only [Sum.inl.injEq] at hst
            subst hst
            obtain ⟨g1, g2⟩ := run_ok t 1 _ _ (by omega) ⟨by simp, by simp, by simp⟩ h
            obtain ⟨q1, q2⟩ := first_of hf
            unfold validB checkB
            rw [g2, okTo_of g1.rows g1.rise]
            have := g1.many
            simp [q1, q2, this]
    · rw [if_neg he]
      exact .inl ⟨_, _, _, rfl, by omega, by omega, by omega⟩
/-- ANY TEXT: a reject, at a line and a column, or a statement that may be. -/
theorem parse_text (t : List UInt8) : (∃ a b c, parseS t = ((0, 0, []), a, b, c) ∧ c ≠ 0 ∧ 1 ≤ a ∧ 1 ≤ b) ∨ ∃ q l, parseS t = ((1, q, l), 0, 0, 0) ∧ validB 1 q l = true := by
  unfold parseS
  rcases csv_cases t with ⟨a, b, c, e, hc, h1, h2⟩ | ⟨L, e, _⟩
  · rw [e]
    simp only []
    rw [if_neg hc]
    exact .inl ⟨a, b, c, rfl, hc, h1, h2⟩
  · rw [e]
    exact ofTable_cases L
end Sk
end Go.Proofs.YtgpjbigelblanaaGreatDoor

/- Stock's files, plain: what is printed is parsed as that statement; what is parsed may be; what is cut off is none. -/
import Derived.Test.YtgpjbigelblanaaGreatDoorStockSpec
namespace Go.Proofs.YtgpjbigelblanaaGreatDoor
open Key Mon Rw
set_option linter.unusedSimpArgs false
set_option linter.unusedVariables false

namespace Sk
theorem numB_itoa {n a b : Int} (hn : InR n) : numB (Lib.itoa n) a b = (decide (a ≤ n) && decide (n ≤ b)) := by unfold numB; rw [getM_itoa n hn]; simp
theorem getM_end : getM wEnd = (0, false) := by decide +kernel
theorem itoa_ne_end {n : Int} (hn : InR n) : Lib.itoa n ≠ wEnd := by
  intro e
  have h := getM_itoa n hn
  rw [e, getM_end] at h
  injection h with _ h
  cases h
theorem code_word {c : Int} (h : c = 1 ∨ c = 2) : codeK (codeW c) = (c, true) := by rcases h with rfl | rfl <;> decide
theorem row_one {x : R5} (h : okRow 1 x = true) : (1 ≤ x.1.1 ∧ x.1.1 ≤ 60) ∧ (0 ≤ x.1.2 ∧ x.1.2 < 6) ∧ partyI x.1.2 = 1 ∧ (x.2.1 = 1 ∨ x.2.1 = 2) ∧ x.2.2.1 = 0 ∧ (0 ≤ x.2.2.2 ∧ x.2.2.2 ≤ 999) ∧ (x.2.1 = 1 ∨ x.2.2.2 = 0) := by
  unfold okRow at h
  rw [Bool.and_eq_true, Bool.and_eq_true] at h
  obtain ⟨⟨h1, h2⟩, h3⟩ := h
  have h1 := chk_iff.1 h1
  have h2 := of_decide_eq_true h2
  by_cases h4 : x.2.1 = 2
  · rw [if_pos h4] at h3
    simp at h3
    omega
  · rw [if_neg h4] at h3
    simp at h3
    omega
theorem row_one_mk {x : R5} (h : (1 ≤ x.1.1 ∧ x.1.1 ≤ 60) ∧ (0 ≤ x.1.2 ∧ x.1.2 < 6) ∧ partyI x.1.2 = 1 ∧ (x.2.1 = 1 ∨ x.2.1 = 2) ∧ x.2.2.1 = 0 ∧ (0 ≤ x.2.2.2 ∧ x.2.2.2 ≤ 999) ∧ (x.2.1 = 1 ∨ x.2.2.2 = 0)) : okRow 1 x = true := by
  obtain ⟨h1, h2, h3, h4, h5, h6, h7⟩ := h
  unfold okRow
  have hc : chk x.1.1 x.1.2 = true := chk_iff.2 ⟨h1.1, h1.2, h2.1, h2.2⟩
  rw [hc, h3]
  rcases h4 with e | e
  · simp [e, h5, h6.1, h6.2]
  · rcases h7 with e2 | e2
    · omega
    · simp [e, h5, e2]
theorem four_row {x : R5} {l : List R5} (h : okRow 1 x = true) (hl : ∀ y, l.getLast? = some y → lessR y x = true) : four (Lib.itoa x.1.1) (wordL x.1.2) (codeW x.2.1) (Lib.itoa x.2.2.2) l = .inl x := by
  obtain ⟨h1, h2, h3, h4, h5, h6, h7⟩ := row_one h
  have i1 : InR x.1.1 := by unfold InR; omega
  have i2 : InR x.2.2.2 := by unfold InR; omega
  unfold four
  rw [numB_itoa i1, numB_itoa i2, deed_word h2, code_word h4, getM_itoa _ i1, getM_itoa _ i2]
  have e7 : (decide (x.2.1 = 1) || decide (x.2.2.2 = 0)) = true := by simpa using h7
  simp only [h1.1, h1.2, h3, h6.1, h6.2, e7, decide_true, Bool.and_self, Bool.and_true]
  have hx : ((x.1.1, x.1.2), x.2.1, 0, x.2.2.2) = x := by rw [← h5]
  cases hq : l.getLast? with
  | none => simpa using hx
  | some y =>
    have := hl y hq
    unfold lessR at this
    simp only [this, if_true]
    simpa using hx
/-- Rising behind what is ahead. -/
def Behind (l : List R5) (x : R5) : Prop := ∀ y, l.getLast? = some y → lessR y x = true
theorem one_row {x : R5} {l : List R5} (h : okRow 1 x = true) (hl : Behind l x) (hn : l.length < 400) : one (rowF x) l = .inl x := by
  unfold one rowF
  rw [if_neg (by simp), if_neg (by omega)]
  exact four_row h hl
theorem step_row {x : R5} {s : St} {i : Nat} (hi : 1 ≤ i) (he : s.ended = false) (h : okRow 1 x = true) (hl : Behind s.l x) (hn : s.l.length < 400) : step i (rowF x) s = .inl { s with l := s.l ++ [x] } := by
  have h1 := (row_one h).1
  unfold step
  rw [he, if_neg (by decide), if_neg (by omega), if_neg (by
    intro e
    have e : some (Lib.itoa x.1.1) = some wEnd := e
    exact itoa_ne_end (by unfold InR; omega) (Option.some.inj e)), one_row h hl hn]
theorem run_rows : ∀ (m : List R5) (i : Nat) (s : St) (t : List Line), 1 ≤ i → s.ended = false → (∀ x ∈ m, okRow 1 x = true) → (s.l ++ m).Pairwise (fun x y => lessR x y = true) → s.l.length + m.length ≤ 400 → run (m.map rowF ++ t) i s = run t (i + m.length) { s with l := s.l ++ m }
  | [], i, s, t, _, _, _, _, _ => by simp
  | x :: m, i, s, t, hi, he, hr, hp, hn => by
    have hb : Behind s.l x := fun y hy => by
      obtain ⟨l', hl'⟩ : ∃ l', s.l = l' ++ [y] := by
        rcases List.eq_nil_or_concat s.l with e | ⟨M, r, e⟩
        · rw [e] at hy; cases hy
        · rw [e] at hy; simp at hy; subst hy; exact ⟨M, by simpa using e⟩
      rw [hl'] at hp
      rw [List.pairwise_append] at hp
      exact hp.2.2 y (by simp) x (by simp)
    rw [List.length_cons] at hn
    rw [List.map_cons, List.cons_append, run, step_row hi he (hr x (by simp)) hb (by omega)]
    simp only []
    rw [run_rows m (i + 1) { s with l := s.l ++ [x] } t (by omega) he (fun z hz => hr z (by simp [hz])) (by simpa using hp) (by simp; omega)]
    rw [List.length_cons]
    congr 1
    · omega
    · simp
theorem valid_parts {q : Int} {l : List R5} (h : validB 1 q l = true) : 1 ≤ q ∧ q ≤ 1073741824 ∧ l.length ≤ 400 ∧ (∀ x ∈ l, okRow 1 x = true) ∧ l.Pairwise fun x y => lessR x y = true := by
  unfold validB checkB at h
  simp only [Bool.and_eq_true, decide_eq_true_eq] at h
  obtain ⟨⟨h1, h2⟩, ⟨⟨_, _⟩, h3⟩, h4⟩ := h
  exact ⟨h1, h2, h3, okTo_rows h4, okTo_rise h4⟩
theorem first_ok {q : Int} (h1 : 1 ≤ q) (h2 : q ≤ 1073741824) : first [wHead, Lib.itoa q] = .inl q := by
  have hq : InR q := by unfold InR; omega
  unfold first
  rw [if_neg (by simp), if_neg (by simp)]
  simp only [List.getD_cons_succ, List.getD_cons_zero]
  rw [numB_itoa hq, getM_itoa q hq, if_pos (by simp [h1, h2])]
theorem step_first {q : Int} (h1 : 1 ≤ q) (h2 : q ≤ 1073741824) : step 0 [wHead, Lib.itoa q] ⟨0, [], false⟩ = .inl ⟨q, [], false⟩ := by
  unfold step
  rw [if_neg (by simp), if_pos rfl, first_ok h1 h2]
theorem last_ok {n : Nat} (hn : n ≤ 400) : last [wEnd, Lib.itoa n] n = none := by
  have hq : InR (n : Int) := by unfold InR; omega
  unfold last
  rw [if_neg (by simp)]
  simp only [List.getD_cons_succ, List.getD_cons_zero]
  rw [getM_itoa _ hq]
  simp
theorem step_last {n i : Nat} {s : St} (hi : 1 ≤ i) (he : s.ended = false) (hn : s.l.length = n) (hs : n ≤ 400) : step i [wEnd, Lib.itoa n] s = .inl { s with ended := true } := by
  unfold step
  rw [he, if_neg (by decide), if_neg (by omega), if_pos (show [wEnd, Lib.itoa (n : Int)].head? = some wEnd from rfl), hn, last_ok hs]
/-- All rows but the end. -/
theorem run_body {q : Int} {l : List R5} (h : validB 1 q l = true) (t : List Line) : run ([wHead, Lib.itoa q] :: (l.map rowF ++ t)) 0 ⟨0, [], false⟩ = run t (l.length + 1) ⟨q, l, false⟩ := by
  obtain ⟨h1, h2, h3, h4, h5⟩ := valid_parts h
  rw [run, step_first h1 h2]
  simp only []
  rw [run_rows l 1 ⟨q, [], false⟩ t (by omega) rfl h4 (by simpa using h5) (by simpa using h3)]
  rw [Nat.add_comm 1]
  rfl
theorem run_table {q : Int} {l : List R5} (h : validB 1 q l = true) (t : List Line) : run (table q l ++ t) 0 ⟨0, [], false⟩ = run t (l.length + 2) ⟨q, l, true⟩ := by
  obtain ⟨h1, h2, h3, h4, h5⟩ := valid_parts h
  unfold table
  rw [List.cons_append, List.append_assoc, run_body h, List.cons_append, run, step_last (s := ⟨q, l, false⟩) (n := l.length) (by omega) rfl rfl h3]
  rfl
theorem table_len (q : Int) (l : List R5) : (table q l).length = l.length + 2 := by simp [table]
theorem ofTable_table {q : Int} {l : List R5} (h : validB 1 q l = true) : ofTable (table q l) = ((1, q, l), 0, 0, 0) := by
  have := run_table h []
  rw [List.append_nil] at this
  unfold ofTable
  rw [this]
  rfl
/-- A row behind the end. -/
theorem ofTable_behind {q : Int} {l : List R5} (h : validB 1 q l = true) (r : Line) : ofTable (table q l ++ [r]) = ((0, 0, []), l.length + 3, 1, 7) := by
  unfold ofTable
  rw [run_table h [r]]
  rfl
/-- Another count. -/
theorem ofTable_count {q n : Int} {l : List R5} (h : validB 1 q l = true) (hn : 0 ≤ n ∧ n ≤ 1000) (hne : n ≠ l.length) : ofTable ([wHead, Lib.itoa q] :: (l.map rowF ++ [[wEnd, Lib.itoa n]])) = ((0, 0, []), l.length + 2, 2, 4) := by
  have hq : InR n := by unfold InR; omega
  unfold ofTable
  rw [run_body h]
  have hl : last [wEnd, Lib.itoa n] l.length = some (2, 4) := by
    unfold last
    rw [if_neg (by simp)]
    simp only [List.getD_cons_succ, List.getD_cons_zero]
    rw [getM_itoa _ hq]
    simp [hn.1, hne]
  have hst : step (l.length + 1) [wEnd, Lib.itoa n] ⟨q, l, false⟩ = .inr (2, 4) := by
    unfold step
    rw [if_neg (by simp), if_neg (by omega), if_pos (show [wEnd, Lib.itoa n].head? = some wEnd from rfl)]
    simp only [hl]
  rw [run, hst]
  rfl
/-- What is cut off. -/
theorem ofTable_cut {q : Int} {l : List R5} (h : validB 1 q l = true) (k : Nat) (hk : k < l.length + 2) : ofTable ((table q l).take k) = ((0, 0, []), k + 1, 1, 7) := by
  obtain ⟨h1, h2, h3, h4, h5⟩ := valid_parts h
  have hl : ((table q l).take k).length = k := by rw [List.length_take, table_len]; omega
  unfold ofTable
  rw [hl]
  cases k with
  | zero => rfl
  | succ k =>
    unfold table
    rw [List.take_succ_cons, run, step_first h1 h2]
    simp only []
    rw [List.take_append_of_le_length (by simp; omega), ← List.map_take]
    have := run_rows (l.take k) 1 ⟨q, [], false⟩ [] (by omega) rfl (fun x hx => h4 x (List.mem_of_mem_take hx)) (by simpa using h5.sublist (List.take_sublist k l)) (by simp; omega)
    rw [List.append_nil] at this
    rw [this]
    rfl
end Sk
end Go.Proofs.YtgpjbigelblanaaGreatDoor

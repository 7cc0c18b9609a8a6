/- Manifest's files, plain: what is printed is parsed as that statement; what is cut off is none; another total is told. -/
import Derived.Test.YtgpjbigelblanaaGreatDoorManifestSpec
import Derived.Test.YtgpjbigelblanaaGreatDoorStockForm0
namespace Go.Proofs.YtgpjbigelblanaaGreatDoor
open Key Mon Rw
set_option linter.unusedSimpArgs false
set_option linter.unusedVariables false

namespace Mf
/-- What may be said of a deed. -/
def OkSay (x : Say) : Prop := (x.1 = 0 ∧ x.2 = 0) ∨ (x.1 = 1 ∧ 0 ≤ x.2 ∧ x.2 ≤ 999) ∨ (x.1 = 2 ∧ x.2 = 0)
def OkBook (g : Book) : Prop := ∀ o, OkSay (g o).1 ∧ OkSay (g o).2
theorem OkSay.many {x : Say} (h : OkSay x) : 0 ≤ x.2 ∧ x.2 ≤ 999 := by rcases h with ⟨_, h⟩ | ⟨_, h⟩ | ⟨_, h⟩ <;> omega
theorem take_done (q : Int) : (wDone ++ Lib.itoa q).take 5 = wDone ∧ (wDone ++ Lib.itoa q).drop 5 = Lib.itoa q := ⟨rfl, rfl⟩
theorem cellR_cellW {x : Say} (h : OkSay x) : cellR (cellW x) = some x := by
  obtain ⟨c, q⟩ := x
  rcases h with ⟨h1, h2⟩ | ⟨h1, h2⟩ | ⟨h1, h2⟩ <;> simp only [] at h1 h2
  · subst h1; subst h2; decide
  · subst h1
    have hq : InR q := by unfold InR; omega
    unfold cellW cellR
    rw [if_neg (show ¬ (1 : Int) = 0 by decide), if_neg (show ¬ (1 : Int) = 2 by decide), if_neg (by unfold wDone wNo; simp), if_neg (by unfold wDone Sk.wRef; simp), if_pos ⟨(take_done q).1, by rw [(take_done q).2, Sk.numB_itoa hq]; simp; omega⟩, (take_done q).2, getM_itoa q hq]
  · subst h1; subst h2; decide
theorem total_append (a b : List R5) : total (a ++ b) = total a + total b := by unfold total; rw [List.map_append, List.sum_append]
theorem total_rowS (o d : Int) {x : Say} (h : OkSay x) : total (rowS o d x) = x.2 := by
  unfold rowS
  by_cases h0 : x.1 = 0
  · rw [if_pos h0]; rcases h with ⟨_, h⟩ | ⟨h, _⟩ | ⟨h, _⟩
    · rw [h]; rfl
    · omega
    · omega
  · rw [if_neg h0]; simp [total]
theorem total_two (o : Int) {x y : Say} (hx : OkSay x) (hy : OkSay y) : total (two o x y) = x.2 + y.2 := by unfold two; rw [total_append, total_rowS _ _ hx, total_rowS _ _ hy]
theorem linesTo_succ (g : Book) (k : Nat) : linesTo g (k + 1) = linesTo g k ++ lineO g (k + 1) := by unfold linesTo; rw [List.range_succ, List.flatMap_append]; simp
theorem rowsTo_succ (g : Book) (k : Nat) : rowsTo g (k + 1) = rowsTo g k ++ two ((k + 1 : Nat) : Int) (g (k + 1)).1 (g (k + 1)).2 := by unfold rowsTo; rw [List.range_succ, List.flatMap_append]; simp
theorem linesTo_len (g : Book) : ∀ k, (linesTo g k).length ≤ k
  | 0 => by simp [linesTo]
  | k + 1 => by
    rw [linesTo_succ, List.length_append]
    have := linesTo_len g k
    have : (lineO g (k + 1)).length ≤ 1 := by unfold lineO; split <;> simp
    omega
theorem linesTo_mem {g : Book} {k : Nat} {r : Line} (h : r ∈ linesTo g k) : ∃ o, 1 ≤ o ∧ o ≤ k ∧ r = [Lib.itoa (o : Int), cellW (g o).1, cellW (g o).2] := by
  unfold linesTo at h
  obtain ⟨j, hj, h⟩ := List.mem_flatMap.1 h
  rw [List.mem_range] at hj
  unfold lineO at h
  split at h
  · cases h
  · simp only [List.mem_singleton] at h
    exact ⟨j + 1, by omega, by omega, h⟩
theorem mid_line {o last : Int} {x y : Say} (h1 : 1 ≤ o) (h2 : o ≤ 60) (hx : OkSay x) (hy : OkSay y) (hn : ¬ (x.1 = 0 ∧ y.1 = 0)) (hl : last < o) : mid (Lib.itoa o) (cellW x) (cellW y) last = .inl (o, two o x y) := by
  have ho : InR o := by unfold InR; omega
  unfold mid
  rw [if_neg (by rw [Sk.numB_itoa ho]; simp; omega), cellR_cellW hx, cellR_cellW hy]
  simp only []
  rw [if_neg hn, getM_itoa o ho, if_neg (by omega)]
theorem step_line {i : Nat} {s : St} {o : Int} {x y : Say} (hi : 1 ≤ i) (he : s.ended = false) (h1 : 1 ≤ o) (h2 : o ≤ 60) (hx : OkSay x) (hy : OkSay y) (hn : ¬ (x.1 = 0 ∧ y.1 = 0)) (hl : s.last < o) :
    step i [Lib.itoa o, cellW x, cellW y] s = .inl { s with l := s.l ++ two o x y, orders := s.orders + 1, last := o, tot := s.tot + total (two o x y) } := by
  unfold step
  rw [he, if_neg (by decide), if_neg (by omega), if_neg (by simp), if_neg (by
    intro e
    have e : some (Lib.itoa o) = some Sk.wEnd := e
    exact Sk.itoa_ne_end (by unfold InR; omega) (Option.some.inj e))]
  simp only [List.getD_cons_succ, List.getD_cons_zero]
  rw [mid_line h1 h2 hx hy hn hl]
theorem run_lines {g : Book} (hg : OkBook g) (q : Int) : ∀ k : Nat, k ≤ 60 → ∃ last : Int, 0 ≤ last ∧ last ≤ k ∧ ∀ t, run (linesTo g k ++ t) 1 ⟨q, [], 0, 0, 0, false⟩ = run t (1 + (linesTo g k).length) ⟨q, rowsTo g k, (linesTo g k).length, last, total (rowsTo g k), false⟩
  | 0, _ => ⟨0, by omega, by omega, fun t => by simp [linesTo, rowsTo, total]⟩
  | k + 1, hk => by
    obtain ⟨last, h0, hl, ih⟩ := run_lines hg q k (by omega)
    obtain ⟨hx, hy⟩ := hg (k + 1)
    by_cases hn : (g (k + 1)).1.1 = 0 ∧ (g (k + 1)).2.1 = 0
    · have e1 : lineO g (k + 1) = [] := by unfold lineO; rw [if_pos hn]
      have e2 : two ((k + 1 : Nat) : Int) (g (k + 1)).1 (g (k + 1)).2 = [] := by unfold two rowS; rw [if_pos hn.1, if_pos hn.2]; rfl
      refine ⟨last, h0, by omega, fun t => ?_⟩
      rw [linesTo_succ, rowsTo_succ, e1, e2, List.append_nil, List.append_nil, ih]
    · have e1 : lineO g (k + 1) = [[Lib.itoa ((k + 1 : Nat) : Int), cellW (g (k + 1)).1, cellW (g (k + 1)).2]] := by unfold lineO; rw [if_neg hn]
      refine ⟨((k + 1 : Nat) : Int), by omega, by omega, fun t => ?_⟩
      rw [linesTo_succ, rowsTo_succ, e1, List.append_assoc, ih, List.cons_append, List.nil_append, run, step_line (by omega) rfl (by omega) (by omega) hx hy hn (by simp only []; omega)]
      simp only []
      rw [total_append, List.length_append]
      rfl
theorem first_ok {q : Int} (h1 : 1 ≤ q) (h2 : q ≤ 1073741824) : first [wHead, Lib.itoa q] = .inl q := by
  have hq : InR q := by unfold InR; omega
  unfold first
  rw [if_neg (by simp), if_neg (by simp)]
  simp only [List.getD_cons_succ, List.getD_cons_zero]
  rw [Sk.numB_itoa hq, getM_itoa q hq, if_pos (by simp [h1, h2])]
theorem step_first {q : Int} (h1 : 1 ≤ q) (h2 : q ≤ 1073741824) : step 0 [wHead, Lib.itoa q] s0 = .inl ⟨q, [], 0, 0, 0, false⟩ := by
  unfold step s0
  rw [if_neg (by simp), if_pos rfl, first_ok h1 h2]
theorem run_body {q : Int} {g : Book} (h1 : 1 ≤ q) (h2 : q ≤ 1073741824) (hg : OkBook g) : ∃ last : Int, 0 ≤ last ∧ last ≤ 60 ∧ ∀ t, run ([wHead, Lib.itoa q] :: (linesTo g 60 ++ t)) 0 s0 = run t ((linesTo g 60).length + 1) ⟨q, rowsTo g 60, (linesTo g 60).length, last, total (rowsTo g 60), false⟩ := by
  obtain ⟨last, h3, h4, h⟩ := run_lines hg q 60 (by omega)
  refine ⟨last, h3, h4, fun t => ?_⟩
  rw [run, step_first h1 h2]
  simp only []
  rw [h t, Nat.add_comm 1]
theorem tail_num {n : Nat} {a b t : Int} (ha : InR a) (hb : InR b) (h1 : 0 ≤ a) (h2 : 0 ≤ b) : tail (Lib.itoa a) (Lib.itoa b) n t = if a ≠ n then some (2, 4) else if b ≠ t then some (3, 5) else none := by
  unfold tail getB
  rw [getM_itoa a ha, getM_itoa b hb]
  simp [h1, h2]
theorem step_end {i : Nat} {s : St} {a b : Int} (hi : 1 ≤ i) (he : s.ended = false) (ha : InR a) (hb : InR b) (h1 : 0 ≤ a) (h2 : 0 ≤ b) : step i [Sk.wEnd, Lib.itoa a, Lib.itoa b] s = if a ≠ s.orders then .inr (2, 4) else if b ≠ s.tot then .inr (3, 5) else .inl { s with ended := true } := by
  unfold step
  rw [he, if_neg (by decide), if_neg (by omega), if_neg (by simp), if_pos (show [Sk.wEnd, Lib.itoa a, Lib.itoa b].head? = some Sk.wEnd from rfl)]
  simp only [List.getD_cons_succ, List.getD_cons_zero]
  rw [tail_num ha hb h1 h2]
  by_cases e1 : a ≠ s.orders
  · rw [if_pos e1, if_pos e1]
  · by_cases e2 : b ≠ s.tot
    · rw [if_neg e1, if_neg e1, if_pos e2, if_pos e2]
    · rw [if_neg e1, if_neg e1, if_neg e2, if_neg e2]
/-! ### Rows and what is said of orders -/
theorem strict_ext {α : Type} {R : α → α → Prop} (irr : ∀ x, ¬ R x x) (tr : ∀ {x y z}, R x y → R y z → R x z) : ∀ {a b : List α}, a.Pairwise R → b.Pairwise R → (∀ x, x ∈ a ↔ x ∈ b) → a = b
  | [], [], _, _, _ => rfl
  | [], y :: b, _, _, h => by have := (h y).2 (by simp); cases this
  | x :: a, [], _, _, h => by have := (h x).1 (by simp); cases this
  | x :: a, y :: b, ha, hb, h => by
    rw [List.pairwise_cons] at ha hb
    have hxy : x = y := by
      have h1 := (h x).1 (by simp)
      have h2 := (h y).2 (by simp)
      rcases List.mem_cons.1 h1 with e | h1
      · exact e
      · rcases List.mem_cons.1 h2 with e | h2
        · exact e.symm
        · exact absurd (tr (hb.1 x h1) (ha.1 y h2)) (irr y)
    subst hxy
    rw [strict_ext irr tr ha.2 hb.2 fun z => ?_]
    constructor
    · intro hz
      rcases List.mem_cons.1 ((h z).1 (by simp [hz])) with e | e
      · subst e; exact absurd (ha.1 _ hz) (irr _)
      · exact e
    · intro hz
      rcases List.mem_cons.1 ((h z).2 (by simp [hz])) with e | e
      · subst e; exact absurd (hb.1 _ hz) (irr _)
      · exact e
theorem lessR_irr (x : R5) : ¬ lessR x x = true := by unfold lessR lessB; simp
theorem rise_key {l : List R5} (h : l.Pairwise fun x y => lessR x y = true) {x y : R5} (hx : x ∈ l) (hy : y ∈ l) (e : x.1 = y.1) : x = y := by
  obtain ⟨i, hi, rfl⟩ := List.getElem_of_mem hx
  obtain ⟨j, hj, rfl⟩ := List.getElem_of_mem hy
  rw [List.pairwise_iff_getElem] at h
  have hne : ∀ (u v : R5), u.1 = v.1 → ¬ lessR u v = true := fun u v e => by unfold lessR; rw [e]; unfold lessB; simp
  rcases Nat.lt_trichotomy i j with hlt | heq | hgt
  · exact absurd (h i j hi hj hlt) (hne _ _ e)
  · subst heq; rfl
  · exact absurd (h j i hj hi hgt) (hne _ _ e.symm)
theorem row_carry {x : R5} (h : okRow 2 x = true) : (1 ≤ x.1.1 ∧ x.1.1 ≤ 60) ∧ (x.1.2 = 2 ∨ x.1.2 = 5) ∧ (x.2.1 = 1 ∨ x.2.1 = 2) ∧ x.2.2.1 = 0 ∧ (0 ≤ x.2.2.2 ∧ x.2.2.2 ≤ 999) ∧ (x.2.1 = 1 ∨ x.2.2.2 = 0) := by
  unfold okRow at h
  rw [Bool.and_eq_true, Bool.and_eq_true] at h
  obtain ⟨⟨h1, h2⟩, h3⟩ := h
  have h1 := chk_iff.1 h1
  have h2 := of_decide_eq_true h2
  have hd : x.1.2 = 2 ∨ x.1.2 = 5 := by
    unfold partyI at h2
    split at h2
    · omega
    · split at h2
      · omega
      · split at h2
        · assumption
        · omega
  by_cases h4 : x.2.1 = 2
  · rw [if_pos h4] at h3
    simp at h3
    omega
  · rw [if_neg h4] at h3
    simp at h3
    omega
theorem row_carry_mk {x : R5} (h : (1 ≤ x.1.1 ∧ x.1.1 ≤ 60) ∧ (x.1.2 = 2 ∨ x.1.2 = 5) ∧ (x.2.1 = 1 ∨ x.2.1 = 2) ∧ x.2.2.1 = 0 ∧ (0 ≤ x.2.2.2 ∧ x.2.2.2 ≤ 999) ∧ (x.2.1 = 1 ∨ x.2.2.2 = 0)) : okRow 2 x = true := by
  obtain ⟨h1, h2, h4, h5, h6, h7⟩ := h
  unfold okRow
  have hc : chk x.1.1 x.1.2 = true := chk_iff.2 (by omega)
  have hp : partyI x.1.2 = 2 := by rcases h2 with e | e <;> rw [e] <;> decide
  rw [hc, hp]
  rcases h4 with e | e
  · simp [e, h5, h6.1, h6.2]
  · rcases h7 with e2 | e2
    · omega
    · simp [e, h5, e2]
theorem valid_parts {q : Int} {l : List R5} (h : validB 2 q l = true) : 1 ≤ q ∧ q ≤ 1073741824 ∧ l.length ≤ 400 ∧ (∀ x ∈ l, okRow 2 x = true) ∧ l.Pairwise fun x y => lessR x y = true := by
  unfold validB checkB at h
  simp only [Bool.and_eq_true, decide_eq_true_eq] at h
  obtain ⟨⟨h1, h2⟩, ⟨⟨_, _⟩, h3⟩, h4⟩ := h
  exact ⟨h1, h2, h3, okTo_rows h4, okTo_rise h4⟩
theorem deedRow_some {l : List R5} {o d : Int} {x : R5} (h : deedRow l o d = some x) : x ∈ l ∧ x.1 = (o, d) := by
  unfold deedRow at h
  exact ⟨List.mem_of_find?_eq_some h, by simpa using List.find?_some h⟩
theorem deedRow_mem {l : List R5} (h : l.Pairwise fun x y => lessR x y = true) {x : R5} (hx : x ∈ l) : deedRow l x.1.1 x.1.2 = some x := by
  cases e : deedRow l x.1.1 x.1.2 with
  | none =>
    unfold deedRow at e
    rw [List.find?_eq_none] at e
    have := e x hx
    simp at this
  | some y =>
    obtain ⟨h1, h2⟩ := deedRow_some e
    rw [rise_key h h1 hx h2]
theorem say_ok {l : List R5} (h : ∀ x ∈ l, okRow 2 x = true) (o d : Int) : OkSay (sayR (deedRow l o d)) := by
  cases e : deedRow l o d with
  | none => exact .inl ⟨rfl, rfl⟩
  | some x =>
    have := row_carry (h x (deedRow_some e).1)
    unfold sayR OkSay
    simp only []
    omega
theorem book_ok {l : List R5} (h : ∀ x ∈ l, okRow 2 x = true) : OkBook (bookOf l) := fun o => ⟨say_ok h _ _, say_ok h _ _⟩
theorem mem_rowS {o d : Int} {s : Say} {x : R5} : x ∈ rowS o d s ↔ s.1 ≠ 0 ∧ x = ((o, d), s.1, 0, s.2) := by
  unfold rowS
  by_cases h : s.1 = 0
  · rw [if_pos h]; simp [h]
  · rw [if_neg h]; simp [h]
theorem mem_rowsTo {g : Book} {k : Nat} {x : R5} : x ∈ rowsTo g k ↔ ∃ o : Nat, 1 ≤ o ∧ o ≤ k ∧ (x ∈ rowS o 2 (g o).1 ∨ x ∈ rowS o 5 (g o).2) := by
  unfold rowsTo
  rw [List.mem_flatMap]
  constructor
  · rintro ⟨j, hj, h⟩
    rw [List.mem_range] at hj
    unfold two at h
    rw [List.mem_append] at h
    exact ⟨j + 1, by omega, by omega, h⟩
  · rintro ⟨o, h1, h2, h⟩
    obtain ⟨j, rfl⟩ : ∃ j, o = j + 1 := ⟨o - 1, by omega⟩
    refine ⟨j, List.mem_range.2 (by omega), ?_⟩
    unfold two
    rw [List.mem_append]
    exact h
theorem rowsTo_rise (g : Book) : ∀ k, (rowsTo g k).Pairwise fun x y => lessR x y = true
  | 0 => by simp [rowsTo]
  | k + 1 => by
    rw [rowsTo_succ, List.pairwise_append]
    refine ⟨rowsTo_rise g k, ?_, fun x hx y hy => ?_⟩
    · unfold two
      rw [List.pairwise_append]
      refine ⟨?_, ?_, fun x hx y hy => ?_⟩
      · unfold rowS; split <;> simp
      · unfold rowS; split <;> simp
      · rw [mem_rowS] at hx hy
        rw [hx.2, hy.2]
        unfold lessR lessB
        simp
    · obtain ⟨o, h1, h2, h3⟩ := mem_rowsTo.1 hx
      have hxo : x.1.1 = o := by rcases h3 with h3 | h3 <;> (rw [mem_rowS] at h3; rw [h3.2])
      have hyo : y.1.1 = ((k + 1 : Nat) : Int) := by
        unfold two at hy
        rw [List.mem_append] at hy
        rcases hy with hy | hy <;> (rw [mem_rowS] at hy; rw [hy.2])
      unfold lessR lessB
      rw [hxo, hyo]
      simp
      omega
theorem rows_back {l : List R5} (h : ∀ x ∈ l, okRow 2 x = true) (hp : l.Pairwise fun x y => lessR x y = true) : rowsTo (bookOf l) 60 = l := by
  refine strict_ext (R := fun x y => lessR x y = true) lessR_irr (fun {x y z} a b => less_trans a b) (rowsTo_rise _ _) hp fun x => ?_
  rw [mem_rowsTo]
  constructor
  · rintro ⟨o, _, _, h3⟩
    have hs : ∀ (d : Int), x ∈ rowS o d (sayR (deedRow l o d)) → x ∈ l := fun d hx => by
      rw [mem_rowS] at hx
      cases e : deedRow l o d with
      | none => rw [e] at hx; exact absurd rfl hx.1
      | some y =>
        obtain ⟨hy, hk⟩ := deedRow_some e
        rw [e] at hx
        have h0 := (row_carry (h y hy)).2.2.2.1
        have : x = y := by
          rw [hx.2]
          obtain ⟨⟨a, b⟩, c, d', f⟩ := y
          simp only [Prod.mk.injEq] at hk h0 ⊢
          simp [sayR, hk, h0]
        rw [this]; exact hy
    rcases h3 with h3 | h3
    · exact hs 2 h3
    · exact hs 5 h3
  · intro hx
    obtain ⟨⟨h1, h2⟩, h3, h4, h5, _⟩ := row_carry (h x hx)
    have hat := deedRow_mem hp hx
    obtain ⟨o, ho⟩ : ∃ o : Nat, x.1.1 = (o : Int) := ⟨x.1.1.toNat, by omega⟩
    have hin : ∀ d : Int, x.1.2 = d → x ∈ rowS o d (sayR (deedRow l o d)) := fun d hd => by
      rw [ho, hd] at hat
      rw [hat, mem_rowS]
      refine ⟨by unfold sayR; simp only []; omega, ?_⟩
      obtain ⟨⟨a, b⟩, c, d', f⟩ := x
      simp only at ho hd h5
      simp [sayR, ho, hd, h5]
    refine ⟨o, by omega, by omega, ?_⟩
    rcases h3 with h3 | h3
    · exact .inl (hin 2 h3)
    · exact .inr (hin 5 h3)
theorem total_room : ∀ {l : List R5}, (∀ x ∈ l, okRow 2 x = true) → 0 ≤ total l ∧ total l ≤ 999 * l.length
  | [], _ => by simp [total]
  | x :: l, h => by
    have h1 := (row_carry (h x (by simp))).2.2.2.2.1
    have h2 := total_room (l := l) fun y hy => h y (by simp [hy])
    have e : total (x :: l) = x.2.2.2 + total l := by simp [total]
    rw [e, List.length_cons]
    omega
theorem inr_small {n : Int} (h0 : 0 ≤ n) (h : n ≤ 1000000) : InR n := by unfold InR; omega
theorem len_inr (g : Book) : InR ((linesTo g 60).length : Nat) ∧ (linesTo g 60).length ≤ 60 := by have := linesTo_len g 60; exact ⟨inr_small (by omega) (by omega), this⟩
theorem run_table {q : Int} {l : List R5} (h : validB 2 q l = true) : ∃ last : Int, ∀ t, run (table q l ++ t) 0 s0 = run t ((linesTo (bookOf l) 60).length + 2) ⟨q, l, (linesTo (bookOf l) 60).length, last, total l, true⟩ := by
  obtain ⟨h1, h2, h3, h4, h5⟩ := valid_parts h
  obtain ⟨last, _, _, hb⟩ := run_body h1 h2 (book_ok h4)
  have ht := total_room h4
  obtain ⟨hn, hn'⟩ := len_inr (bookOf l)
  refine ⟨last, fun t => ?_⟩
  unfold table tableG
  rw [List.cons_append, List.append_assoc, hb, rows_back h4 h5, List.cons_append, List.nil_append, run, step_end (by omega) rfl hn (inr_small ht.1 (by omega)) (by omega) ht.1, if_neg (by simp), if_neg (by simp)]
theorem table_len (q : Int) (g : Book) (n t : Int) : (tableG q g n t).length = (linesTo g 60).length + 2 := by simp [tableG]
theorem ofTable_table {q : Int} {l : List R5} (h : validB 2 q l = true) : ofTable (table q l) = ((2, q, l), 0, 0, 0) := by
  obtain ⟨last, hr⟩ := run_table h
  have := hr []
  rw [List.append_nil] at this
  unfold ofTable
  rw [this]
  rfl
/-- Another total. -/
theorem ofTable_total {q t : Int} {g : Book} (h1 : 1 ≤ q) (h2 : q ≤ 1073741824) (hg : OkBook g) (ht : 0 ≤ t ∧ t ≤ 1000000) (hne : t ≠ total (rowsTo g 60)) : ofTable (tableG q g ((linesTo g 60).length : Nat) t) = ((0, 0, []), (linesTo g 60).length + 2, 3, 5) := by
  obtain ⟨last, _, _, hb⟩ := run_body h1 h2 hg
  obtain ⟨hn, hn'⟩ := len_inr g
  unfold ofTable tableG
  rw [hb, run, step_end (by omega) rfl hn (inr_small ht.1 ht.2) (by omega) ht.1, if_neg (by simp), if_pos hne]
  rfl
theorem run_front : ∀ (A B : List Line) (i : Nat) (s s' : St), B ≠ [] → run (A ++ B) i s = .inl s' → ∃ s1, run A i s = .inl s1 ∧ s1.ended = false
  | [], B, i, s, s', hB, h => by
    refine ⟨s, rfl, ?_⟩
    match B, hB with
    | r :: B, _ =>
      rw [List.nil_append, run] at h
      cases e : s.ended with
      | false => rfl
      | true =>
        have : step i r s = .inr (1, 7) := by unfold step; rw [if_pos e]
        rw [this] at h
        cases h
  | r :: A, B, i, s, s', hB, h => by
    rw [List.cons_append, run] at h
    cases e : step i r s with
    | inr x => rw [e] at h; cases h
    | inl s1 =>
      rw [e] at h
      simp only at h
      obtain ⟨s2, h1, h2⟩ := run_front A B (i + 1) s1 s' hB h
      exact ⟨s2, by rw [run, e]; exact h1, h2⟩
/-- What is cut off. -/
theorem ofTable_cut {q : Int} {l : List R5} (h : validB 2 q l = true) (k : Nat) (hk : k < (table q l).length) : ofTable ((table q l).take k) = ((0, 0, []), k + 1, 1, 7) := by
  obtain ⟨last, hr⟩ := run_table h
  have h0 := hr []
  rw [List.append_nil] at h0
  have hs := List.take_append_drop k (table q l)
  rw [← hs] at h0
  obtain ⟨s1, h1, h2⟩ := run_front _ _ _ _ _ (by intro e; have := congrArg List.length e; simp at this; omega) h0
  unfold ofTable
  rw [h1, List.length_take, Nat.min_eq_left (by omega)]
  unfold ofRun
  simp only []
  rw [if_neg (by simp [h2])]
/-- A cell of a line that says something else. -/
def put1 (g : Book) (o : Nat) (x : Say) : Book := fun j => if j = o then (x, (g j).2) else g j
theorem put1_ok {g : Book} (h : OkBook g) {x : Say} (hx : OkSay x) (o : Nat) : OkBook (put1 g o x) := fun j => by
  unfold put1
  split
  · exact ⟨hx, (h j).2⟩
  · exact h j
theorem put1_past {g : Book} {o : Nat} {x : Say} : ∀ {k : Nat}, k < o → linesTo (put1 g o x) k = linesTo g k ∧ rowsTo (put1 g o x) k = rowsTo g k
  | 0, _ => ⟨rfl, rfl⟩
  | k + 1, h => by
    obtain ⟨h1, h2⟩ := put1_past (g := g) (o := o) (x := x) (k := k) (by omega)
    have e : put1 g o x (k + 1) = g (k + 1) := by unfold put1; rw [if_neg (by omega)]
    rw [linesTo_succ, linesTo_succ, rowsTo_succ, rowsTo_succ, h1, h2]
    unfold lineO
    rw [e]
    exact ⟨rfl, rfl⟩
theorem lines_put {g : Book} (hg : OkBook g) : ∀ (k j : Nat), j < (linesTo g k).length → ∃ o : Nat, 1 ≤ o ∧ o ≤ k ∧ (linesTo g k)[j]? = some [Lib.itoa (o : Int), cellW (g o).1, cellW (g o).2] ∧
    ∀ x : Say, OkSay x → x.1 ≠ 0 → (linesTo g k).set j [Lib.itoa (o : Int), cellW x, cellW (g o).2] = linesTo (put1 g o x) k ∧ total (rowsTo (put1 g o x) k) = total (rowsTo g k) - (g o).1.2 + x.2
  | 0, j, h => by simp [linesTo] at h
  | k + 1, j, h => by
    obtain ⟨hx, hy⟩ := hg (k + 1)
    rw [linesTo_succ] at h
    by_cases hj : j < (linesTo g k).length
    · obtain ⟨o, h1, h2, h3, h4⟩ := lines_put hg k j hj
      refine ⟨o, h1, by omega, ?_, fun x hx hx0 => ?_⟩
      · rw [linesTo_succ, List.getElem?_append_left hj, h3]
      · obtain ⟨h5, h6⟩ := h4 x hx hx0
        have e : put1 g o x (k + 1) = g (k + 1) := by unfold put1; rw [if_neg (by omega)]
        rw [linesTo_succ, linesTo_succ, rowsTo_succ, rowsTo_succ, total_append, total_append, List.set_append_left _ _ hj, h5, h6]
        unfold lineO
        rw [e]
        exact ⟨rfl, by omega⟩
    · rw [List.length_append] at h
      by_cases hn : (g (k + 1)).1.1 = 0 ∧ (g (k + 1)).2.1 = 0
      · have e1 : lineO g (k + 1) = [] := by unfold lineO; rw [if_pos hn]
        rw [e1, List.length_nil] at h
        omega
      · have e1 : lineO g (k + 1) = [[Lib.itoa ((k + 1 : Nat) : Int), cellW (g (k + 1)).1, cellW (g (k + 1)).2]] := by unfold lineO; rw [if_neg hn]
        rw [e1] at h
        simp only [List.length_singleton] at h
        have hj0 : j - (linesTo g k).length = 0 := by omega
        refine ⟨k + 1, by omega, by omega, ?_, fun x hx hx0 => ?_⟩
        · rw [linesTo_succ, List.getElem?_append_right (by omega), hj0, e1]
          rfl
        · obtain ⟨h5, h6⟩ := put1_past (g := g) (o := k + 1) (x := x) (k := k) (by omega)
          have e : put1 g (k + 1) x (k + 1) = (x, (g (k + 1)).2) := by unfold put1; rw [if_pos rfl]
          have e2 : lineO (put1 g (k + 1) x) (k + 1) = [[Lib.itoa ((k + 1 : Nat) : Int), cellW x, cellW (g (k + 1)).2]] := by unfold lineO; rw [e, if_neg (by simp [hx0])]
          rw [linesTo_succ, linesTo_succ, rowsTo_succ, rowsTo_succ, total_append, total_append, List.set_append_right _ _ (by omega), hj0, h5, h6, e1, e2, e, total_two _ hx hy, total_two _ (hg (k + 1)).1 hy]
          exact ⟨rfl, by omega⟩
end Mf
end Go.Proofs.YtgpjbigelblanaaGreatDoor

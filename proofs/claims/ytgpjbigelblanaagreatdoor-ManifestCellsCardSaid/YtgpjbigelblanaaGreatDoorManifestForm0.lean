/- Manifest's files, plain: the whole way from a text to a statement and back. -/
import Derived.Test.YtgpjbigelblanaaGreatDoorManifestPure
namespace Go.Proofs.YtgpjbigelblanaaGreatDoor
open Key Mon Rw
set_option linter.unusedSimpArgs false
set_option linter.unusedVariables false

namespace Mf
theorem cellW_len {x : Say} (h : OkSay x) : (cellW x).length ≤ 8 := by
  unfold cellW
  split
  · decide
  · split
    · decide
    · have := h.many
      have := Sk.itoa_len (n := x.2) 2 (by omega) (by simp; omega)
      rw [List.length_append]
      have : wDone.length = 5 := rfl
      omega
theorem room_line {g : Book} (hg : OkBook g) {o : Nat} (ho : o ≤ 60) : Csv.roomRow [Lib.itoa (o : Int), cellW (g o).1, cellW (g o).2] ≤ 63 := by
  have a := Sk.itoa_len (n := (o : Int)) 1 (by omega) (by simp; omega)
  have b := cellW_len (hg o).1
  have c := cellW_len (hg o).2
  unfold Csv.roomRow
  simp only [List.map_cons, List.map_nil, List.sum_cons, List.sum_nil]
  omega
theorem room_lines : ∀ (L : List Line) (m : Nat), (∀ r ∈ L, Csv.roomRow r ≤ m) → Csv.room L ≤ m * L.length
  | [], m, _ => by simp [Csv.room]
  | r :: L, m, h => by
    have h1 := h r (by simp)
    have h2 := room_lines L m fun y hy => h y (by simp [hy])
    rw [Sk.room_cons, List.length_cons, Nat.mul_add]
    omega
theorem table_room {q n t : Int} {g : Book} (hg : OkBook g) (h1 : 0 ≤ q) (h2 : q ≤ 1073741824) (h3 : 0 ≤ n) (h4 : n ≤ 60) (h5 : 0 ≤ t) (h6 : t ≤ 999999) : Csv.room (tableG q g n t) ≤ 5000 := by
  have a := Sk.itoa_len (n := q) 9 (by omega) (by simp; omega)
  have b := Sk.itoa_len (n := n) 1 (by omega) (by simp; omega)
  have c := Sk.itoa_len (n := t) 5 (by omega) (by simp; omega)
  have d := room_lines (linesTo g 60) 63 fun r hr => by obtain ⟨o, _, ho, rfl⟩ := linesTo_mem hr; exact room_line hg ho
  have d2 := linesTo_len g 60
  have e1 : Csv.roomRow [wHead, Lib.itoa q] = 3 * 8 + 3 + (3 * (Lib.itoa q).length + 3) := by simp [Csv.roomRow, wHead]
  have e2 : Csv.room [[Sk.wEnd, Lib.itoa n, Lib.itoa t]] = 3 * 3 + 3 + (3 * (Lib.itoa n).length + 3 + (3 * (Lib.itoa t).length + 3)) := by simp [Csv.room, Csv.roomRow, Sk.wEnd]
  unfold tableG
  rw [Sk.room_cons, Sk.room_append, e1, e2]
  omega
theorem table_full (q n t : Int) (g : Book) : ∀ r ∈ tableG q g n t, ¬ r = [] := by
  intro r hr
  unfold tableG at hr
  simp only [List.mem_cons, List.mem_append, List.not_mem_nil, or_false] at hr
  rcases hr with rfl | h | rfl
  · simp
  · obtain ⟨o, _, _, rfl⟩ := linesTo_mem h
    simp
  · simp
theorem tab_full (q : Int) (l : List R5) : ∀ r ∈ table q l, ¬ r = [] := table_full _ _ _ _
theorem total_small {q : Int} {l : List R5} (h : validB 2 q l = true) : 0 ≤ total l ∧ total l ≤ 399600 := by
  obtain ⟨h1, h2, h3, h4, h5⟩ := valid_parts h
  have := total_room h4
  omega
theorem room_table {q : Int} {l : List R5} (h : validB 2 q l = true) : Csv.room (table q l) ≤ 5000 := by
  obtain ⟨h1, h2, h3, h4, h5⟩ := valid_parts h
  have := total_small h
  have := linesTo_len (bookOf l) 60
  exact table_room (book_ok h4) (by omega) h2 (by omega) (by omega) (by omega) (by omega)
theorem print_len {q : Int} {l : List R5} (h : validB 2 q l = true) : (Csv.printOf (table q l)).length ≤ 5000 := Nat.le_trans (Csv.printOf_room _ (table_full _ _ _ _)) (room_table h)
/-- What is parsed of the text that rows are printed as. -/
theorem parse_rows {L : List Line} (hf : ∀ r ∈ L, ¬ r = []) (hl : (Csv.printOf L).length ≤ 65536) : parseS (Csv.printOf L) = ofTable L := by
  unfold parseS
  rw [Csv.parse_print L hl, Csv.fill_full L hf]
  rfl
theorem parse_table {q : Int} {l : List R5} (h : validB 2 q l = true) : parseS (Csv.printOf (table q l)) = ((2, q, l), 0, 0, 0) := by
  rw [parse_rows (tab_full q l) (by have := print_len h; omega), ofTable_table h]
theorem print_ne {q : Int} {l : List R5} : Csv.printOf (table q l) ≠ [] := by
  unfold table tableG
  rw [show ∀ (r : Line) (t : List Line), Csv.printOf (r :: t) = Csv.rowOf r ++ [10] ++ Csv.printOf t from fun r t => by simp [Csv.printOf]]
  simp
/-- OF WHAT IS CUT OFF: a reject. -/
theorem parse_cut {q : Int} {l : List R5} (h : validB 2 q l = true) (k : Nat) (hk : k < (Csv.printOf (table q l)).length) : ∃ a b c, parseS ((Csv.printOf (table q l)).take k) = ((0, 0, []), a, b, c) ∧ c ≠ 0 ∧ 1 ≤ a ∧ 1 ≤ b := by
  have hlen := print_len h
  unfold parseS
  rcases Csv.parse_cut (table q l) k hk (by omega) with ⟨a, b, c, e, hc, ha⟩ | ⟨M, e, hm, ht⟩
  · rw [e]
    have hb : 1 ≤ b := by
      rcases Sk.csv_cases ((Csv.printOf (table q l)).take k) with ⟨a', b', c', e', _, _, h3⟩ | ⟨L, e', _⟩
      · rw [e] at e'
        simp only [Prod.mk.injEq] at e'
        omega
      · rw [e] at e'
        simp only [Prod.mk.injEq] at e'
        omega
    refine ⟨a, b, c, ?_, by omega, ha, hb⟩
    simp only []
    rw [if_neg (by omega)]
  · rw [e]
    rw [Csv.fill_full _ (tab_full q l)] at ht
    refine ⟨M.length + 1, 1, 7, ?_, by omega, by omega, by omega⟩
    simp only [if_true]
    rw [← ht, ofTable_cut h M.length hm]
    rw [List.length_take, Nat.min_eq_left (by omega)]

/-! ### From any text -/
structure Ok (s : St) : Prop where
  rows : ∀ x ∈ s.l, okRow 2 x = true
  rise : s.l.Pairwise fun x y => lessR x y = true
  low : ∀ x ∈ s.l, x.1.1 ≤ s.last
  pos : 0 ≤ s.last
  top : s.last ≤ 60
  many : (s.l.length : Int) ≤ 2 * s.last
theorem cellR_ok {s : List UInt8} {x : Say} (h : cellR s = some x) : OkSay x := by
  unfold cellR at h
  split at h
  · cases h; exact .inl ⟨rfl, rfl⟩
  · split at h
    · cases h; exact .inr (.inr ⟨rfl, rfl⟩)
    · split at h
      · rename_i h1
        cases h
        exact .inr (.inl ⟨rfl, Sk.num_of h1.2⟩)
      · cases h
theorem rowS_ok {o d : Int} {x : Say} (hx : OkSay x) (h1 : 1 ≤ o) (h2 : o ≤ 60) (hd : d = 2 ∨ d = 5) : ∀ y ∈ rowS o d x, okRow 2 y = true ∧ y.1 = (o, d) := fun y hy => by
  rw [mem_rowS] at hy
  rw [hy.2]
  refine ⟨row_carry_mk ⟨⟨h1, h2⟩, hd, ?_⟩, rfl⟩
  rcases hx with ⟨a, b⟩ | ⟨a, b⟩ | ⟨a, b⟩
  · exact absurd a hy.1
  · exact ⟨.inl a, rfl, b, .inl a⟩
  · exact ⟨.inr a, rfl, ⟨by show 0 ≤ x.2; omega, by show x.2 ≤ 999; omega⟩, .inr b⟩
theorem two_ok {o : Int} {x y : Say} (hx : OkSay x) (hy : OkSay y) (h1 : 1 ≤ o) (h2 : o ≤ 60) : (∀ z ∈ two o x y, okRow 2 z = true ∧ z.1.1 = o) ∧ (two o x y).Pairwise (fun a b => lessR a b = true) ∧ (two o x y).length ≤ 2 := by
  refine ⟨fun z hz => ?_, ?_, ?_⟩
  · unfold two at hz
    rcases List.mem_append.1 hz with hz | hz
    · obtain ⟨a, b⟩ := rowS_ok hx h1 h2 (.inl rfl) z hz; exact ⟨a, by rw [b]⟩
    · obtain ⟨a, b⟩ := rowS_ok hy h1 h2 (.inr rfl) z hz; exact ⟨a, by rw [b]⟩
  · unfold two
    rw [List.pairwise_append]
    refine ⟨?_, ?_, fun x hx y hy => ?_⟩
    · unfold rowS; split <;> simp
    · unfold rowS; split <;> simp
    · rw [mem_rowS] at hx hy
      rw [hx.2, hy.2]
      unfold lessR lessB
      simp
  · unfold two rowS
    split <;> split <;> simp
theorem mid_ok {a b c : List UInt8} {last : Int} {x : Int × List R5} (h : mid a b c last = .inl x) : ∃ s t, OkSay s ∧ OkSay t ∧ x.2 = two x.1 s t ∧ 1 ≤ x.1 ∧ x.1 ≤ 60 ∧ last < x.1 := by
  unfold mid at h
  split at h
  · cases h
  · rename_i hn
    have hn := Sk.num_of (by simpa using hn)
    split at h
    · cases h
    · rename_i s hs
      split at h
      · cases h
      · rename_i t ht
        split at h
        · cases h
        · split at h
          · cases h
          · rename_i hl
            cases h
            exact ⟨s, t, cellR_ok hs, cellR_ok ht, rfl, hn.1, hn.2, by simp only []; omega⟩
theorem step_ok {i : Nat} {r : Line} {s s' : St} (hi : 1 ≤ i) (h : Ok s) (hs : step i r s = .inl s') : Ok s' ∧ s'.seq = s.seq := by
  unfold step at hs
  by_cases h1 : s.ended = true
  · rw [if_pos h1] at hs; cases hs
  · rw [if_neg h1, if_neg (by omega)] at hs
    by_cases h3 : r.length ≠ 3
    · rw [if_pos h3] at hs; cases hs
    · rw [if_neg h3] at hs
      by_cases h2 : r.head? = some Sk.wEnd
      · rw [if_pos h2] at hs
        cases hl : tail (r.getD 1 []) (r.getD 2 []) s.orders s.tot with
        | none => rw [hl] at hs; simp only [Sum.inl.injEq] at hs; subst hs; exact ⟨⟨h.rows, h.rise, h.low, h.pos, h.top, h.many⟩, rfl⟩
        | some x => rw [hl] at hs; cases hs
      · rw [if_neg h2] at hs
        cases ho : mid (r.getD 0 []) (r.getD 1 []) (r.getD 2 []) s.last with
        | inr x => rw [ho] at hs; cases hs
        | inl x =>
          rw [ho] at hs
          simp only [Sum.inl.injEq] at hs
          subst hs
          obtain ⟨u, v, hu, hv, e, g1, g2, g3⟩ := mid_ok ho
          obtain ⟨k1, k2, k3⟩ := two_ok hu hv g1 g2
          rw [← e] at k1 k2 k3
          refine ⟨⟨fun y hy => ?_, ?_, fun y hy => ?_, by simp only []; omega, g2, ?_⟩, rfl⟩
          · rcases List.mem_append.1 hy with hy | hy
            · exact h.rows y hy
            · exact (k1 y hy).1
          · show (s.l ++ x.2).Pairwise _
            rw [List.pairwise_append]
            refine ⟨h.rise, k2, fun y hy z hz => ?_⟩
            have a := h.low y hy
            have b := (k1 z hz).2
            unfold lessR lessB
            simp
            omega
          · show y.1.1 ≤ x.1
            rcases List.mem_append.1 hy with hy | hy
            · have := h.low y hy; omega
            · have := (k1 y hy).2; omega
          · show (((s.l ++ x.2).length : Nat) : Int) ≤ 2 * x.1
            have := h.many
            rw [List.length_append]
            omega
theorem run_ok : ∀ (L : List Line) (i : Nat) (s s' : St), 1 ≤ i → Ok s → run L i s = .inl s' → Ok s' ∧ s'.seq = s.seq
  | [], i, s, s', _, h, hs => by simp only [run, Sum.inl.injEq] at hs; subst hs; exact ⟨h, rfl⟩
  | r :: t, i, s, s', hi, h, hs => by
    unfold run at hs
    cases hst : step i r s with
    | inr x => rw [hst] at hs; cases hs
    | inl s1 =>
      rw [hst] at hs
      obtain ⟨h1, e1⟩ := step_ok hi h hst
      obtain ⟨h2, e2⟩ := run_ok t (i + 1) s1 s' (by omega) h1 hs
      exact ⟨h2, e2.trans e1⟩
theorem first_of {r : Line} {q : Int} (h : first r = .inl q) : 1 ≤ q ∧ q ≤ 1073741824 := by
  unfold first at h
  split at h
  · cases h
  · split at h
    · cases h
    · split at h
      · rename_i hn
        simp only [Sum.inl.injEq] at h
        subst h
        exact Sk.num_of hn
      · cases h
theorem okTo_of {p : Int} {l : List R5} (h1 : ∀ x ∈ l, okRow p x = true) (h2 : l.Pairwise fun x y => lessR x y = true) : okTo p l l.length = true := by
  unfold okTo
  rw [List.all_eq_true]
  intro k hk
  rw [List.mem_range] at hk
  have hx : l[k]? = some l[k] := List.getElem?_eq_getElem hk
  unfold okAt
  rw [hx]
  simp only [Bool.and_eq_true]
  refine ⟨h1 _ (List.getElem_mem hk), ?_⟩
  cases k with
  | zero => rfl
  | succ j =>
    show (match l[j]? with | none => true | some y => lessR y l[j + 1]) = true
    rw [List.getElem?_eq_getElem (by omega)]
    exact List.pairwise_iff_getElem.1 h2 j (j + 1) (by omega) hk (by omega)
theorem first_bad {r : Line} {x : Nat × Nat} (h : first r = .inr x) : 1 ≤ x.1 ∧ x.2 ≠ 0 := by
  unfold first at h
  repeat' split at h
  all_goals first
    | (cases h; done)
    | (cases h; exact ⟨by simp, by simp⟩)
theorem tail_bad {b c : List UInt8} {n : Nat} {t : Int} {x : Nat × Nat} (h : tail b c n t = some x) : 1 ≤ x.1 ∧ x.2 ≠ 0 := by
  unfold tail at h
  repeat' split at h
  all_goals first
    | (cases h; done)
    | (cases h; exact ⟨by simp, by simp⟩)
theorem mid_bad {a b c : List UInt8} {last : Int} {x : Nat × Nat} (h : mid a b c last = .inr x) : 1 ≤ x.1 ∧ x.2 ≠ 0 := by
  unfold mid at h
  repeat' split at h
  all_goals first
    | (cases h; done)
    | (cases h; exact ⟨by simp, by simp⟩)
theorem step_bad {i : Nat} {r : Line} {s : St} {x : Nat × Nat} (h : step i r s = .inr x) : 1 ≤ x.1 ∧ x.2 ≠ 0 := by
  unfold step at h
  split at h
  · cases h; exact ⟨by simp, by simp⟩
  · split at h
    · split at h
      · cases h
      · rename_i hf; cases h; exact first_bad hf
    · split at h
      · cases h; exact ⟨by simp, by simp⟩
      · split at h
        · split at h
          · cases h
          · rename_i hf; cases h; exact tail_bad hf
        · split at h
          · cases h
          · rename_i hf; cases h; exact mid_bad hf
theorem run_bad : ∀ (L : List Line) (i : Nat) (s : St) (x : Nat × Nat × Nat), run L i s = .inr x → 1 ≤ x.1 ∧ 1 ≤ x.2.1 ∧ x.2.2 ≠ 0
  | [], i, s, x, h => by cases h
  | r :: t, i, s, x, h => by
    unfold run at h
    cases hst : step i r s with
    | inr y =>
      rw [hst] at h
      simp only [Sum.inr.injEq] at h
      subst h
      exact ⟨by simp, (step_bad hst).1, (step_bad hst).2⟩
    | inl s1 =>
      rw [hst] at h
      exact run_bad t (i + 1) s1 x h
theorem ofTable_cases (L : List Line) : (∃ a b c, ofTable L = ((0, 0, []), a, b, c) ∧ c ≠ 0 ∧ 1 ≤ a ∧ 1 ≤ b) ∨ ∃ q l, ofTable L = ((2, q, l), 0, 0, 0) ∧ validB 2 q l = true := by
  unfold ofTable
  cases h : run L 0 s0 with
  | inr x =>
    have := run_bad L _ _ _ h
    exact .inl ⟨x.1, x.2.1, x.2.2, rfl, this.2.2, this.1, this.2.1⟩
  | inl s =>
    unfold ofRun
    simp only []
    by_cases he : s.ended = true
    · rw [if_pos he]
      refine .inr ⟨_, _, rfl, ?_⟩
      match L, h with
      | [], h => simp only [run, Sum.inl.injEq] at h; subst h; cases he
      | r :: t, h =>
        unfold run at h
        cases hst : step 0 r s0 with
        | inr x => rw [hst] at h; cases h
        | inl s1 =>
          rw [hst] at h
          simp only at h
          unfold step s0 at hst
          rw [if_neg (by simp), if_pos rfl] at hst
          cases hf : first r with
          | inr x => rw [hf] at hst; cases hst
          | inl q =>
            rw [hf] at hst
            simp only [Sum.inl.injEq] at hst
            subst hst
            obtain ⟨g1, g2⟩ := run_ok t 1 _ _ (by omega) ⟨by simp, by simp, by simp, by simp, by simp, by simp⟩ h
            obtain ⟨q1, q2⟩ := first_of hf
            unfold validB checkB
            rw [g2, okTo_of g1.rows g1.rise]
            have := g1.many
            have := g1.top
            simp [q1, q2]
            omega
    · rw [if_neg he]
      exact .inl ⟨_, _, _, rfl, by omega, by omega, by omega⟩
/-- ANY TEXT: a reject, at a line and a column, or a statement that may be. -/
theorem parse_text (t : List UInt8) : (∃ a b c, parseS t = ((0, 0, []), a, b, c) ∧ c ≠ 0 ∧ 1 ≤ a ∧ 1 ≤ b) ∨ ∃ q l, parseS t = ((2, q, l), 0, 0, 0) ∧ validB 2 q l = true := by
  unfold parseS
  rcases Sk.csv_cases t with ⟨a, b, c, e, hc, h1, h2⟩ | ⟨L, e, _⟩
  · rw [e]
    simp only []
    rw [if_neg hc]
    exact .inl ⟨a, b, c, rfl, hc, h1, h2⟩
  · rw [e]
    exact ofTable_cases L
end Mf
end Go.Proofs.YtgpjbigelblanaaGreatDoor

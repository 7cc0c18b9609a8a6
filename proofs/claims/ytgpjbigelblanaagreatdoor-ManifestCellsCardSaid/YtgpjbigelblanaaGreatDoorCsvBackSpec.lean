/- The plain laws of the trip there and back: what is printed is parsed as those rows; what is cut off tells no rows but the first. No Go is in sight here. -/
import Derived.Test.YtgpjbigelblanaaGreatDoorCsvSpec
import Derived.Test.YtgpjbigelblanaaGreatDoorCsvPrintSpec
namespace Go.Proofs.YtgpjbigelblanaaGreatDoor
namespace Csv

theorem go_cons (c : UInt8) (r : List UInt8) (st : St) (p : Nat) : go (c :: r) st p = match step st c with | some st' => go r st' (p + 1) | none => .inr p := rfl

theorem go_append (l r : List UInt8) (st : St) (p : Nat) : go (l ++ r) st p = match go l st p with | .inl st' => go r st' (p + l.length) | .inr q => .inr q := by
  induction l generalizing st p with
  | nil => simp [go]
  | cons c t ih =>
    rw [List.cons_append, go_cons, go_cons]
    cases h : step st c with
    | none => rfl
    | some st' =>
      simp only []
      rw [ih st' (p + 1), List.length_cons, show p + 1 + t.length = p + (t.length + 1) from by omega]

theorem go_clean (l : List UInt8) (h : needs l = false) (rows : List (List (List UInt8))) (row : List (List UInt8)) (f : List UInt8) (m p : Nat) (hm : m = 0 ∨ m = 1) :
    ∃ m', (m' = 0 ∨ m' = 1) ∧ go l ⟨rows, row, f, m⟩ p = .inl ⟨rows, row, f ++ l, m'⟩ := by
  induction l generalizing f m p with
  | nil => exact ⟨m, hm, by simp [go]⟩
  | cons c r ih =>
    simp only [needs, List.any_cons, Bool.or_eq_false_iff, decide_eq_false_iff_not] at h
    obtain ⟨⟨⟨⟨h44, h34⟩, h10⟩, h13⟩, hr⟩ := h
    have h2 : ¬ m = 2 := by omega
    have h3 : ¬ m = 3 := by omega
    have hs : step ⟨rows, row, f, m⟩ c = some ⟨rows, row, f ++ [c], 1⟩ := by simp [step, h2, h3, h10, h44, h34, h13]
    obtain ⟨m', h1, h4⟩ := ih hr (f ++ [c]) 1 (p + 1) (.inr rfl)
    refine ⟨m', h1, ?_⟩
    unfold go
    rw [hs]
    simp only []
    rw [h4]
    simp

theorem go_dbl (l : List UInt8) (rows : List (List (List UInt8))) (row : List (List UInt8)) (f : List UInt8) (p : Nat) :
    go (dbl l) ⟨rows, row, f, 2⟩ p = .inl ⟨rows, row, f ++ l, 2⟩ := by
  induction l generalizing f p with
  | nil => simp [dbl, go]
  | cons c r ih =>
    have hd : dbl (c :: r) = (if c = 34 then [34, 34] else [c]) ++ dbl r := by simp [dbl]
    rw [hd]
    by_cases hc : c = 34
    · subst hc
      have h1 : go (34 :: 34 :: dbl r) ⟨rows, row, f, 2⟩ p = go (dbl r) ⟨rows, row, f ++ [34], 2⟩ (p + 2) := by simp [go, step]
      simp only [if_true, List.cons_append, List.nil_append]
      rw [h1, ih]
      simp
    · have h1 : go (c :: dbl r) ⟨rows, row, f, 2⟩ p = go (dbl r) ⟨rows, row, f ++ [c], 2⟩ (p + 1) := by simp [go, step, hc]
      simp only [hc, if_false, List.cons_append, List.nil_append]
      rw [h1, ih]
      simp

/-- A field that was printed, read. -/
theorem go_field (l : List UInt8) (rows : List (List (List UInt8))) (row : List (List UInt8)) (p : Nat) :
    ∃ m, ¬ m = 2 ∧ go (fieldOf l) ⟨rows, row, [], 0⟩ p = .inl ⟨rows, row, l, m⟩ := by
  unfold fieldOf
  by_cases h : needs l = true
  · rw [if_pos h]
    refine ⟨3, by omega, ?_⟩
    have h1 : go (34 :: (dbl l ++ [34])) ⟨rows, row, [], 0⟩ p = go (dbl l ++ [34]) ⟨rows, row, [], 2⟩ (p + 1) := by simp [go, step]
    rw [h1, go_append, go_dbl]
    simp [go, step]
  · rw [if_neg h]
    obtain ⟨m, h1, h2⟩ := go_clean l (by simpa using h) rows row [] 0 p (.inl rfl)
    exact ⟨m, by omega, by simpa using h2⟩

theorem step_comma (rows : List (List (List UInt8))) (row : List (List UInt8)) (f : List UInt8) (m : Nat) (h : ¬ m = 2) : step ⟨rows, row, f, m⟩ 44 = some ⟨rows, row ++ [f], [], 0⟩ := by simp [step, h]
theorem step_line (rows : List (List (List UInt8))) (row : List (List UInt8)) (f : List UInt8) (m : Nat) (h : ¬ m = 2) : step ⟨rows, row, f, m⟩ 10 = some ⟨rows ++ [row ++ [f]], [], [], 0⟩ := by simp [step, h]

/-- The fields behind the first, each behind its comma. -/
theorem go_tail (r : List (List UInt8)) (rows : List (List (List UInt8))) (row : List (List UInt8)) (g : List UInt8) (m p : Nat) (hm : ¬ m = 2) :
    ∃ row' g' m', ¬ m' = 2 ∧ row' ++ [g'] = row ++ [g] ++ r ∧ go ((r.map fieldOf).flatMap fun g => 44 :: g) ⟨rows, row, g, m⟩ p = .inl ⟨rows, row', g', m'⟩ := by
  induction r generalizing row g m p with
  | nil => exact ⟨row, g, m, hm, by simp, by simp [go]⟩
  | cons f t ih =>
    rw [List.map_cons, List.flatMap_cons, go_append]
    have h1 : go (44 :: fieldOf f) ⟨rows, row, g, m⟩ p = go (fieldOf f) ⟨rows, row ++ [g], [], 0⟩ (p + 1) := by simp [go, step_comma _ _ _ _ hm]
    obtain ⟨m1, hm1, h2⟩ := go_field f rows (row ++ [g]) (p + 1)
    rw [h1, h2]
    obtain ⟨row', g', m', a1, a2, a3⟩ := ih (row ++ [g]) f m1 (p + (44 :: fieldOf f).length) hm1
    exact ⟨row', g', m', a1, by rw [a2]; simp, a3⟩

/-- A row without fields is read as one with one that is empty. -/
def fill (r : List (List UInt8)) : List (List UInt8) := if r = [] then [[]] else r

theorem go_row (r : List (List UInt8)) (rows : List (List (List UInt8))) (p : Nat) :
    go (rowOf r ++ [10]) ⟨rows, [], [], 0⟩ p = .inl ⟨rows ++ [fill r], [], [], 0⟩ := by
  cases r with
  | nil => simp [rowOf, joinC, go, step, fill]
  | cons f t =>
    have hf : fill (f :: t) = f :: t := by simp [fill]
    rw [hf]
    unfold rowOf
    rw [List.map_cons]
    unfold joinC
    rw [go_append, go_append]
    obtain ⟨m, hm, h1⟩ := go_field f rows [] p
    rw [h1]
    simp only []
    obtain ⟨row', g', m', hm', he, h2⟩ := go_tail t rows [] f m (p + (fieldOf f).length) hm
    rw [h2]
    simp only [go, step_line _ _ _ _ hm']
    rw [he]
    simp

theorem go_print (L : List (List (List UInt8))) (rows : List (List (List UInt8))) (p : Nat) :
    go (printOf L) ⟨rows, [], [], 0⟩ p = .inl ⟨rows ++ L.map fill, [], [], 0⟩ := by
  induction L generalizing rows p with
  | nil => simp [printOf, go]
  | cons r t ih =>
    have h : printOf (r :: t) = (rowOf r ++ [10]) ++ printOf t := by simp [printOf]
    rw [h, go_append, go_row]
    simp only []
    rw [ih]
    simp

theorem print_last (L : List (List (List UInt8))) (h : ¬ printOf L = []) : (printOf L).getLast? = some 10 := by
  rcases List.eq_nil_or_concat L with rfl | ⟨M, r, rfl⟩
  · exact absurd rfl h
  · rw [List.concat_eq_append, printOf_snoc]
    simp

/-- THERE AND BACK. -/
theorem parse_print (L : List (List (List UInt8))) (h : (printOf L).length ≤ 65536) : parse (printOf L) = (L.map fill, 0, 0, 0) := by
  unfold parse
  rw [if_neg (by omega)]
  have hg : go (printOf L) St.init 0 = .inl ⟨[] ++ L.map fill, [], [], 0⟩ := go_print L [] 0
  rw [hg]
  unfold parseOf
  have hf : fin (printOf L) ⟨[] ++ L.map fill, [], [], 0⟩ = 0 := by
    unfold fin
    by_cases he : printOf L = []
    · simp [he]
    · simp [he, print_last L he]
  simp only []
  rw [if_pos hf]
  simp

/-! ### What is cut off -/

theorem step_rows (st st' : St) (c : UInt8) (h : step st c = some st') : ∃ x, st'.rows = st.rows ++ x := by
  unfold step at h
  repeat' split at h
  all_goals first
    | (cases h; done)
    | (cases h; exact ⟨[], (List.append_nil _).symm⟩)
    | (cases h; exact ⟨_, rfl⟩)
theorem go_rows (l : List UInt8) (st st' : St) (p : Nat) (h : go l st p = .inl st') : ∃ x, st'.rows = st.rows ++ x := by
  induction l generalizing st p with
  | nil => simp only [go, Sum.inl.injEq] at h; subst h; exact ⟨[], by simp⟩
  | cons c r ih =>
    unfold go at h
    split at h
    · rename_i st1 hs
      obtain ⟨x, hx⟩ := step_rows _ _ _ hs
      obtain ⟨y, hy⟩ := ih st1 (p + 1) h
      exact ⟨x ++ y, by rw [hy, hx, List.append_assoc]⟩
    · cases h

theorem step_line_rows (st st' : St) (h : step st 10 = some st') (h2 : ¬ st'.mode = 2) : ∃ x, st'.rows = st.rows ++ [x] := by
  unfold step at h
  by_cases hm : st.mode = 2
  · simp [hm] at h
    subst h
    exact absurd rfl h2
  · simp [hm] at h
    subst h
    exact ⟨_, rfl⟩

theorem go_line (u : List UInt8) (st st' : St) (p : Nat) (h : go (u ++ [10]) st p = .inl st') (h2 : ¬ st'.mode = 2) : ∃ x y, st'.rows = st.rows ++ x ++ [y] := by
  rw [go_append] at h
  split at h
  · rename_i s1 h1
    obtain ⟨x, hx⟩ := go_rows _ _ _ _ h1
    unfold go at h
    split at h
    · rename_i s2 hs
      simp only [go, Sum.inl.injEq] at h
      subst h
      obtain ⟨y, hy⟩ := step_line_rows _ _ hs h2
      exact ⟨x, y, by rw [hy, hx]⟩
    · cases h
  · cases h

/-- Line and column behind a text, and what comes out of a parse that is no row's. -/
theorem lc_ge (l : List UInt8) : 1 ≤ (lc l).1 ∧ 1 ≤ (lc l).2 ∧ (lc l).2 ≤ l.length + 1 := by
  have h : ∀ (l : List UInt8) (x : Nat × Nat), 1 ≤ x.1 → 1 ≤ x.2 → 1 ≤ (l.foldl (fun x c => if c = 10 then (x.1 + 1, 1) else (x.1, x.2 + 1)) x).1 ∧
      1 ≤ (l.foldl (fun x c => if c = 10 then (x.1 + 1, 1) else (x.1, x.2 + 1)) x).2 ∧ (l.foldl (fun x c => if c = 10 then (x.1 + 1, 1) else (x.1, x.2 + 1)) x).2 ≤ l.length + x.2 := by
    intro l
    induction l with
    | nil => intro x h1 h2; simp [h1, h2]
    | cons c r ih =>
      intro x h1 h2
      rw [List.foldl_cons]
      by_cases hc : c = 10
      · rw [if_pos hc]
        obtain ⟨a, b, d⟩ := ih (x.1 + 1, 1) (by simp) (by simp)
        refine ⟨a, b, ?_⟩
        simp only [List.length_cons] at d ⊢
        omega
      · rw [if_neg hc]
        obtain ⟨a, b, d⟩ := ih (x.1, x.2 + 1) h1 (by simp)
        refine ⟨a, b, ?_⟩
        simp only [List.length_cons] at d ⊢
        omega
  exact h l (1, 1) (by simp) (by simp)

theorem fin_of (l : List UInt8) (st : St) : fin l st = 0 ∨ fin l st = 1 ∨ fin l st = 2 := by
  unfold fin
  repeat' split
  all_goals omega

/-- OF WHAT IS CUT OFF: a reject without rows, or the first rows, fewer than all. -/
theorem parse_cut (L : List (List (List UInt8))) (k : Nat) (hk : k < (printOf L).length) (h : (printOf L).length ≤ 65536) :
    (∃ a b c, parse ((printOf L).take k) = ([], a, b, c) ∧ (c = 1 ∨ c = 2) ∧ 1 ≤ a) ∨
    ∃ M, parse ((printOf L).take k) = (M, 0, 0, 0) ∧ M.length < L.length ∧ (L.map fill).take M.length = M := by
  unfold parse
  rw [if_neg (by rw [List.length_take]; omega)]
  have hne : ¬ printOf L = [] := by
    intro e
    rw [e] at hk
    simp at hk
  have hg : go (printOf L) St.init 0 = .inl ⟨[] ++ L.map fill, [], [], 0⟩ := go_print L [] 0
  obtain ⟨u, hu⟩ : ∃ u, (printOf L).drop k = u ++ [10] := by
    have hd : ((printOf L).drop k).getLast? = some 10 := by
      rw [List.getLast?_drop, if_neg (by omega), print_last L hne]
    rcases List.eq_nil_or_concat ((printOf L).drop k) with e | ⟨M, r, e⟩
    · rw [e] at hd
      simp at hd
    · rw [e] at hd
      simp at hd
      subst hd
      exact ⟨M, by simpa using e⟩
  have hsplit : printOf L = (printOf L).take k ++ (u ++ [10]) := by rw [← hu, List.take_append_drop]
  rw [hsplit, go_append] at hg
  unfold parseOf
  cases h1 : go ((printOf L).take k) St.init 0 with
  | inr q => exact .inl ⟨_, _, _, rfl, .inr rfl, (lc_ge _).1⟩
  | inl st =>
    rw [h1] at hg
    simp only [] at hg ⊢
    obtain ⟨x, y, hxy⟩ := go_line u st _ _ hg (by simp)
    simp only [List.nil_append] at hxy
    by_cases hf : fin ((printOf L).take k) st = 0
    · rw [if_pos hf]
      refine .inr ⟨_, rfl, ?_, ?_⟩
      · have := congrArg List.length hxy
        simp at this
        omega
      · rw [hxy, List.append_assoc, List.take_left]
    · rw [if_neg hf]
      refine .inl ⟨_, _, _, rfl, ?_, (lc_ge _).1⟩
      rcases fin_of ((printOf L).take k) st with e | e | e
      · exact absurd e hf
      · exact .inl e
      · exact .inr e

/-! ### From any text -/

/-- Room that rows take when they are printed, at most. -/
def roomRow (r : List (List UInt8)) : Nat := (r.map fun f => 3 * f.length + 3).sum
def room (L : List (List (List UInt8))) : Nat := (L.map roomRow).sum

structure Ok (st : St) (p : Nat) : Prop where
  full : ∀ r ∈ st.rows, ¬ r = []
  many : room st.rows + roomRow st.row + 3 * st.f.length ≤ 3 * p

theorem step_ok (st st' : St) (c : UInt8) (p : Nat) (h : Ok st p) (hs : step st c = some st') : Ok st' (p + 1) := by
  obtain ⟨h1, h2⟩ := h
  have hsn : ∀ (r : List (List UInt8)) g, roomRow (r ++ [g]) = roomRow r + (3 * g.length + 3) := fun r g => by simp [roomRow]
  have hsr : ∀ (L : List (List (List UInt8))) r, room (L ++ [r]) = room L + roomRow r := fun L r => by simp [room]
  have h0 : roomRow [] = 0 := rfl
  unfold step at hs
  repeat' split at hs
  all_goals first
    | (cases hs; done)
    | (cases hs; exact ⟨h1, by simp only [hsn, h0, List.length_append, List.length_cons, List.length_nil] at *; omega⟩)
    | (cases hs; exact ⟨fun r hr => by
        rcases List.mem_append.1 hr with hr | hr
        · exact h1 r hr
        · simp at hr; subst hr; simp, by simp only [hsr, hsn, h0, List.length_nil] at *; omega⟩)
theorem go_ok (l : List UInt8) (st st' : St) (p : Nat) (h : Ok st p) (hg : go l st p = .inl st') : Ok st' (p + l.length) := by
  induction l generalizing st p with
  | nil => simp only [go, Sum.inl.injEq] at hg; subst hg; simpa using h
  | cons c r ih =>
    unfold go at hg
    split at hg
    · rename_i st1 hs
      have := ih st1 (p + 1) (step_ok st st1 c p h hs) hg
      rw [List.length_cons, show p + (r.length + 1) = p + 1 + r.length from by omega]
      exact this
    · cases hg

theorem printOf_room (L : List (List (List UInt8))) (h : ∀ r ∈ L, ¬ r = []) : (printOf L).length ≤ room L := by
  induction L with
  | nil => simp [printOf]
  | cons r t ih =>
    have ht := ih fun x hx => h x (List.mem_cons_of_mem _ hx)
    have e : printOf (r :: t) = (rowOf r ++ [10]) ++ printOf t := by simp [printOf]
    have e2 : room (r :: t) = roomRow r + room t := by simp [room]
    rw [e, List.length_append, e2]
    have hr : (rowOf r ++ [10]).length ≤ roomRow r := by
      have hn := h r (List.mem_cons_self ..)
      cases r with
      | nil => exact absurd rfl hn
      | cons f u =>
        have hu : ∀ u : List (List UInt8), ((u.map fieldOf).flatMap fun g => 44 :: g).length ≤ roomRow u := by
          intro u
          induction u with
          | nil => simp
          | cons g v ih =>
            have hg := fieldOf_len g
            have e3 : roomRow (g :: v) = (3 * g.length + 3) + roomRow v := by simp [roomRow]
            rw [List.map_cons, List.flatMap_cons, List.length_append, List.length_cons, e3]
            omega
        have h1 := fieldOf_len f
        have h2 := hu u
        have e3 : roomRow (f :: u) = (3 * f.length + 3) + roomRow u := by simp [roomRow]
        unfold rowOf
        rw [List.map_cons]
        unfold joinC
        rw [List.length_append, List.length_append, e3]
        simp only [List.length_cons, List.length_nil]
        omega
    omega

theorem fill_full (L : List (List (List UInt8))) (h : ∀ r ∈ L, ¬ r = []) : L.map fill = L := by
  induction L with
  | nil => rfl
  | cons r t ih =>
    rw [List.map_cons, ih fun x hx => h x (List.mem_cons_of_mem _ hx)]
    simp [fill, h r (List.mem_cons_self ..)]

theorem roomRow_mem (r : List (List UInt8)) (f : List UInt8) (h : f ∈ r) : 3 * f.length + 3 ≤ roomRow r := by
  induction r with
  | nil => simp at h
  | cons g t ih =>
    have e : roomRow (g :: t) = (3 * g.length + 3) + roomRow t := by simp [roomRow]
    rw [e]
    rcases List.mem_cons.1 h with rfl | h
    · omega
    · have := ih h; omega
theorem roomRow_len (r : List (List UInt8)) : 3 * r.length ≤ roomRow r := by
  induction r with
  | nil => simp [roomRow]
  | cons g t ih =>
    have e : roomRow (g :: t) = (3 * g.length + 3) + roomRow t := by simp [roomRow]
    rw [e, List.length_cons]
    omega
theorem room_mem (L : List (List (List UInt8))) (r : List (List UInt8)) (h : r ∈ L) : roomRow r ≤ room L := by
  induction L with
  | nil => simp at h
  | cons g t ih =>
    have e : room (g :: t) = roomRow g + room t := by simp [room]
    rw [e]
    rcases List.mem_cons.1 h with rfl | h
    · omega
    · have := ih h; omega
theorem room_len (L : List (List (List UInt8))) (h : ∀ r ∈ L, ¬ r = []) : 3 * L.length ≤ room L := by
  induction L with
  | nil => simp
  | cons g t ih =>
    have e : room (g :: t) = roomRow g + room t := by simp [room]
    have h1 := ih fun x hx => h x (List.mem_cons_of_mem _ hx)
    have h2 := roomRow_len g
    have h3 : 1 ≤ g.length := by
      have := h g (List.mem_cons_self ..)
      cases g with
      | nil => exact absurd rfl this
      | cons => simp
    rw [e, List.length_cons]
    omega
/-- ANY TEXT, PARSED: a reject without rows, at a line and a column; or rows that fit, and that are parsed again when they are printed. -/
theorem parse_again (l : List UInt8) (h : l.length ≤ 1000) :
    (∃ a b c, parse l = ([], a, b, c) ∧ ¬ c = 0 ∧ 1 ≤ a ∧ 1 ≤ b ∧ b ≤ l.length + 1) ∨
    ∃ L, parse l = (L, 0, 0, 0) ∧ parse (printOf L) = (L, 0, 0, 0) ∧ (∀ r ∈ L, ¬ r = []) ∧ room L ≤ 3 * l.length := by
  have hp : parse l = parseOf l (go l St.init 0) := by unfold parse; rw [if_neg (by omega)]
  rw [hp]
  unfold parseOf
  cases hg : go l St.init 0 with
  | inr q =>
    have := lc_ge (l.take q)
    refine .inl ⟨_, _, _, rfl, by omega, this.1, this.2.1, ?_⟩
    have h1 := this.2.2
    rw [List.length_take] at h1
    omega
  | inl st =>
    simp only []
    by_cases hf : fin l st = 0
    · rw [if_pos hf]
      have hok := go_ok l St.init st 0 ⟨by simp [St.init], by simp [St.init, room, roomRow]⟩ hg
      have h1 := hok.many
      rw [Nat.zero_add] at h1
      have h2 := printOf_room st.rows hok.full
      refine .inr ⟨_, rfl, ?_, hok.full, by omega⟩
      rw [parse_print _ (by omega), fill_full _ hok.full]
    · rw [if_neg hf]
      have := lc_ge l
      exact .inl ⟨_, _, _, rfl, hf, this.1, this.2.1, this.2.2⟩
end Csv
end Go.Proofs.YtgpjbigelblanaaGreatDoor

/- What package csv computes, as plain functions on lists of bytes, and the plain laws on them. No Go is in sight here. -/
namespace Go.Proofs.YtgpjbigelblanaaGreatDoor
namespace Csv

/-- The reader's state: rows and fields so far, the field begun, and where the reader is in it. -/
structure St where
  rows : List (List (List UInt8))
  row : List (List UInt8)
  f : List UInt8
  mode : Nat

def St.init : St := ⟨[], [], [], 0⟩

def step (st : St) (c : UInt8) : Option St :=
  if st.mode = 2 then
    if c = 34 then some { st with mode := 3 } else some { st with f := st.f ++ [c] }
  else if c = 10 then some ⟨st.rows ++ [st.row ++ [st.f]], [], [], 0⟩
  else if c = 44 then some ⟨st.rows, st.row ++ [st.f], [], 0⟩
  else if c = 34 ∧ st.mode = 0 then some { st with mode := 2 }
  else if c = 34 ∧ st.mode = 3 then some { st with f := st.f ++ [34], mode := 2 }
  else if c = 34 ∨ c = 13 ∨ st.mode = 3 then none
  else some { st with f := st.f ++ [c], mode := 1 }

/-- Reading on from a state: the state at the end, or the place of the byte that may not be there. -/
def go : List UInt8 → St → Nat → Sum St Nat
  | [], st, _ => .inl st
  | c :: r, st, p => match step st c with
    | some st' => go r st' (p + 1)
    | none => .inr p

/-- Line and column behind so many bytes. -/
def lc (l : List UInt8) : Nat × Nat := l.foldl (fun x c => if c = 10 then (x.1 + 1, 1) else (x.1, x.2 + 1)) (1, 1)

/-- What is wrong at the end of the text (0: nothing). -/
def fin (l : List UInt8) (st : St) : Nat :=
  if st.mode = 2 then 2 else if l = [] then 0 else if st.mode = 0 ∧ l.getLast? = some 10 then 0 else 1

/-- The rows; line, column, code. -/
def parseOf (l : List UInt8) (r : Sum St Nat) : List (List (List UInt8)) × Nat × Nat × Nat :=
  match r with
  | .inr p => ([], (lc (l.take p)).1, (lc (l.take p)).2, 2)
  | .inl st => if fin l st = 0 then (st.rows, 0, 0, 0) else ([], (lc l).1, (lc l).2, fin l st)

def parse (l : List UInt8) : List (List (List UInt8)) × Nat × Nat × Nat :=
  if 65536 < l.length then ([], 1, 1, 8) else parseOf l (go l St.init 0)

/-! ### The program's way: field by field -/

/-- A field without quotes: how far it goes, and whether it ends well. -/
def scanP : List UInt8 → Nat × Bool
  | [] => (0, true)
  | c :: r => if c = 44 ∨ c = 10 then (0, true) else if c = 34 ∨ c = 13 then (0, false) else ((scanP r).1 + 1, (scanP r).2)

/-- A field in quotes, behind its first quote: what it is, how far it goes, and whether it ends. -/
def scanQ : List UInt8 → List UInt8 × Nat × Bool
  | [] => ([], 0, false)
  | 34 :: 34 :: r => (34 :: (scanQ r).1, (scanQ r).2.1 + 2, (scanQ r).2.2)
  | 34 :: _ => ([], 1, true)
  | c :: r => (c :: (scanQ r).1, (scanQ r).2.1 + 1, (scanQ r).2.2)

theorem scanP_le (l : List UInt8) : (scanP l).1 ≤ l.length := by
  induction l with
  | nil => simp [scanP]
  | cons c r ih =>
    unfold scanP
    split
    · simp
    · split
      · simp
      · simpa using ih

theorem scanQ_le (l : List UInt8) : (scanQ l).2.1 ≤ l.length := by
  fun_induction scanQ l <;> simp_all <;> omega

theorem go_plain (l : List UInt8) (rows : List (List (List UInt8))) (row : List (List UInt8)) (f : List UInt8) (m p : Nat) (hm : m = 1 ∨ (m = 0 ∧ l.head? ≠ some 34)) :
    go l ⟨rows, row, f, m⟩ p = if (scanP l).2 = true then go (l.drop (scanP l).1) ⟨rows, row, f ++ l.take (scanP l).1, if (scanP l).1 = 0 then m else 1⟩ (p + (scanP l).1) else .inr (p + (scanP l).1) := by
  induction l generalizing f m p with
  | nil => simp [scanP, go]
  | cons c r ih =>
    unfold scanP
    by_cases h1 : c = 44 ∨ c = 10
    · simp [h1]
    · by_cases h2 : c = 34 ∨ c = 13
      · have hst : step ⟨rows, row, f, m⟩ c = none := by
          have h10 : ¬ c = 10 := fun e => h1 (.inr e)
          have h44 : ¬ c = 44 := fun e => h1 (.inl e)
          have hn2 : ¬ m = 2 := by omega
          have hn3 : ¬ m = 3 := by omega
          have hq : ¬ (c = 34 ∧ m = 0) := by
            rintro ⟨rfl, rfl⟩
            rcases hm with h | ⟨_, h⟩
            · omega
            · simp at h
          simp only [step, hn2, h10, h44, hq, hn3, if_false, and_false, or_false]
          rw [if_pos h2]
        simp [h1, h2, go, hst]
      · have hst : step ⟨rows, row, f, m⟩ c = some ⟨rows, row, f ++ [c], 1⟩ := by
          have h10 : ¬ c = 10 := fun e => h1 (.inr e)
          have h44 : ¬ c = 44 := fun e => h1 (.inl e)
          have h34 : ¬ c = 34 := fun e => h2 (.inl e)
          have h13 : ¬ c = 13 := fun e => h2 (.inr e)
          have hn2 : ¬ m = 2 := by omega
          have hn3 : ¬ m = 3 := by omega
          simp [step, hn2, h10, h44, h34, h13, hn3]
        rw [if_neg h1, if_neg h2]
        simp only [go, hst]
        rw [ih (f ++ [c]) 1 (p + 1) (.inl rfl)]
        simp only [List.drop_succ_cons, List.take_succ_cons, Nat.add_eq_zero_iff, Nat.one_ne_zero, and_false, if_false, List.append_assoc, List.cons_append, List.nil_append, ite_self]
        rw [show p + 1 + (scanP r).1 = p + ((scanP r).1 + 1) from by omega]

theorem go_quoted (l : List UInt8) (rows : List (List (List UInt8))) (row : List (List UInt8)) (f : List UInt8) (p : Nat) :
    if (scanQ l).2.2 = true then
      go l ⟨rows, row, f, 2⟩ p = go (l.drop (scanQ l).2.1) ⟨rows, row, f ++ (scanQ l).1, 3⟩ (p + (scanQ l).2.1) ∧ (l.drop (scanQ l).2.1).head? ≠ some 34
    else ∃ g, go l ⟨rows, row, f, 2⟩ p = .inl ⟨rows, row, g, 2⟩ := by
  fun_induction scanQ l generalizing f p with
  | case1 => simp [go]
  | case2 r ih =>
    have ih := ih (f ++ [34]) (p + 2)
    have h1 : go (34 :: 34 :: r) ⟨rows, row, f, 2⟩ p = go r ⟨rows, row, f ++ [34], 2⟩ (p + 2) := by simp [go, step]
    rw [h1]
    simp only [List.drop_succ_cons, List.append_assoc, List.cons_append, List.nil_append] at ih ⊢
    rw [show p + ((scanQ r).2.1 + 2) = p + 2 + (scanQ r).2.1 from by omega]
    exact ih
  | case3 r h =>
    refine ⟨?_, ?_⟩
    · simp [go, step]
    · cases r with
      | nil => simp
      | cons d t =>
        intro e
        simp at e
        exact h t (by rw [e])
  | case4 c r h1 h2 ih =>
    have hc : ¬ c = 34 := by
      rintro rfl
      exact h2 rfl
    have ih := ih (f ++ [c]) (p + 1)
    have h1 : go (c :: r) ⟨rows, row, f, 2⟩ p = go r ⟨rows, row, f ++ [c], 2⟩ (p + 1) := by simp [go, step, hc]
    rw [h1]
    simp only [List.drop_succ_cons, List.append_assoc, List.cons_append, List.nil_append] at ih ⊢
    rw [show p + ((scanQ r).2.1 + 1) = p + 1 + (scanQ r).2.1 from by omega]
    exact ih

end Csv
end Go.Proofs.YtgpjbigelblanaaGreatDoor

/- The warehouse's statements as a file, plain. No Go is in sight. -/
import Derived.Test.YtgpjbigelblanaaGreatDoorRowSpec
import Derived.Test.YtgpjbigelblanaaGreatDoorCsvBackSpec
namespace Go.Proofs.YtgpjbigelblanaaGreatDoor
open Key Mon Rw

namespace Sk
abbrev Line : Type := List (List UInt8)
def wHead : List UInt8 := [115, 116, 111, 99, 107]
def wEnd : List UInt8 := [101, 110, 100]
def wDone : List UInt8 := [100, 111, 110, 101]
def wRef : List UInt8 := [114, 101, 102, 117, 115, 101, 100]
/-- The code of a word. -/
def codeK (s : List UInt8) : Int × Bool := if s = wDone then (1, true) else if s = wRef then (2, true) else (0, false)
def codeW (c : Int) : List UInt8 := if c = 1 then wDone else if c = 2 then wRef else []
def rowF (x : R5) : Line := [Lib.itoa x.1.1, wordL x.1.2, codeW x.2.1, Lib.itoa x.2.2.2]
def table (q : Int) (l : List R5) : List Line := [wHead, Lib.itoa q] :: (l.map rowF ++ [[wEnd, Lib.itoa l.length]])
def okP (p q : Int) (l : List R5) : Bool := decide (p = 1) && validB p q l
def printS (p q : Int) (l : List R5) : List UInt8 × Int := if okP p q l = true then (Csv.printOf (table q l), 0) else ([], 2)
/-- A field's number, from one up to another one. -/
def numB (s : List UInt8) (a b : Int) : Bool := (getM s).2 && decide (a ≤ (getM s).1) && decide ((getM s).1 ≤ b)
def first (r : Line) : Sum Int (Nat × Nat) :=
  if r.head? ≠ some wHead then .inr (1, 7) else if r.length ≠ 2 then .inr (min r.length 2 + 1, 1) else if numB (r.getD 1 []) 1 1073741824 = true then .inl (getM (r.getD 1 [])).1 else .inr (2, 3)
/-- The row that four fields say, behind others; else column and code. -/
def four (a b c d : List UInt8) (l : List R5) : Sum R5 (Nat × Nat) :=
  if numB a 1 60 = false then .inr (1, 3)
  else if ((deedK b).2 && decide (partyI (deedK b).1 = 1)) = false then .inr (2, 3)
  else if (codeK c).2 = false then .inr (3, 3)
  else if (numB d 0 999 && (decide ((codeK c).1 = 1) || decide ((getM d).1 = 0))) = false then .inr (4, 3)
  else match l.getLast? with
    | none => .inl (((getM a).1, (deedK b).1), (codeK c).1, 0, (getM d).1)
    | some y => if lessB y.1.1 y.1.2 (getM a).1 (deedK b).1 = true then .inl (((getM a).1, (deedK b).1), (codeK c).1, 0, (getM d).1) else .inr (1, 6)
def one (r : Line) (l : List R5) : Sum R5 (Nat × Nat) :=
  if r.length ≠ 4 then .inr (min r.length 4 + 1, 1) else if 400 ≤ l.length then .inr (1, 8) else four (r.getD 0 []) (r.getD 1 []) (r.getD 2 []) (r.getD 3 []) l
def last (r : Line) (many : Nat) : Option (Nat × Nat) :=
  if r.length ≠ 2 then some (min r.length 2 + 1, 1) else if ((getM (r.getD 1 [])).2 && decide (0 ≤ (getM (r.getD 1 [])).1)) = false then some (2, 3) else if (getM (r.getD 1 [])).1 ≠ many then some (2, 4) else none
structure St where
  seq : Int
  l : List R5
  ended : Bool
def step (i : Nat) (r : Line) (s : St) : Sum St (Nat × Nat) :=
  if s.ended = true then .inr (1, 7)
  else if i = 0 then (match first r with | .inl q => .inl { s with seq := q } | .inr x => .inr x)
  else if r.head? = some wEnd then (match last r s.l.length with | none => .inl { s with ended := true } | some x => .inr x)
  else match one r s.l with | .inl x => .inl { s with l := s.l ++ [x] } | .inr x => .inr x
def run : List Line → Nat → St → Sum St (Nat × Nat × Nat)
  | [], _, s => .inl s
  | r :: t, i, s => match step i r s with | .inl s' => run t (i + 1) s' | .inr x => .inr (i + 1, x.1, x.2)
abbrev Res : Type := (Int × Int × List R5) × Nat × Nat × Nat
def ofRun (n : Nat) : Sum St (Nat × Nat × Nat) → Res
  | .inr x => ((0, 0, []), x)
  | .inl s => if s.ended = true then ((1, s.seq, s.l), 0, 0, 0) else ((0, 0, []), n + 1, 1, 7)
def ofTable (L : List Line) : Res := ofRun L.length (run L 0 ⟨0, [], false⟩)
def parseS (t : List UInt8) : Res := match Csv.parse t with | (L, a, b, c) => if c = 0 then ofTable L else ((0, 0, []), a, b, c)
end Sk
end Go.Proofs.YtgpjbigelblanaaGreatDoor

/- The carrier's statements as a file, plain: an order a line. No Go is in sight. -/
import Derived.Test.YtgpjbigelblanaaGreatDoorStockSpec
namespace Go.Proofs.YtgpjbigelblanaaGreatDoor
open Key Mon Rw

namespace Mf
abbrev Line : Type := List (List UInt8)
def wHead : List UInt8 := [109, 97, 110, 105, 102, 101, 115, 116]
def wNo : List UInt8 := [45]
def wDone : List UInt8 := [100, 111, 110, 101, 58]
/-- What is said of a deed: its code (0: nothing) and quantity. -/
abbrev Say : Type := Int × Int
/-- What is said of each order's two deeds. -/
abbrev Book : Type := Nat → Say × Say
def deedRow (l : List R5) (o d : Int) : Option R5 := l.find? fun x => decide (x.1 = (o, d))
def sayR : Option R5 → Say
  | none => (0, 0)
  | some x => (x.2.1, x.2.2.2)
def bookOf (l : List R5) : Book := fun o => (sayR (deedRow l o 2), sayR (deedRow l o 5))
def cellW (x : Say) : List UInt8 := if x.1 = 0 then wNo else if x.1 = 2 then Sk.wRef else wDone ++ Lib.itoa x.2
def lineO (g : Book) (o : Nat) : List Line := if (g o).1.1 = 0 ∧ (g o).2.1 = 0 then [] else [[Lib.itoa o, cellW (g o).1, cellW (g o).2]]
def linesTo (g : Book) (k : Nat) : List Line := (List.range k).flatMap fun j => lineO g (j + 1)
def rowS (o d : Int) (x : Say) : List R5 := if x.1 = 0 then [] else [((o, d), x.1, 0, x.2)]
def two (o : Int) (x y : Say) : List R5 := rowS o 2 x ++ rowS o 5 y
def rowsTo (g : Book) (k : Nat) : List R5 := (List.range k).flatMap fun j => two (((j + 1 : Nat) : Int)) (g (j + 1)).1 (g (j + 1)).2
def total (l : List R5) : Int := (l.map fun x => x.2.2.2).sum
def tableG (q : Int) (g : Book) (n t : Int) : List Line := [wHead, Lib.itoa q] :: (linesTo g 60 ++ [[Sk.wEnd, Lib.itoa n, Lib.itoa t]])
def table (q : Int) (l : List R5) : List Line := tableG q (bookOf l) ((linesTo (bookOf l) 60).length : Nat) (total l)
def okP (p q : Int) (l : List R5) : Bool := decide (p = 2) && validB p q l
def printS (p q : Int) (l : List R5) : List UInt8 × Int := if okP p q l = true then (Csv.printOf (table q l), 0) else ([], 2)
def first (r : Line) : Sum Int (Nat × Nat) :=
  if r.head? ≠ some wHead then .inr (1, 7) else if r.length ≠ 2 then .inr (min r.length 2 + 1, 1) else if Sk.numB (r.getD 1 []) 1 1073741824 = true then .inl (getM (r.getD 1 [])).1 else .inr (2, 3)
/-- What a cell says; none: nothing that may be. -/
def cellR (s : List UInt8) : Option Say := if s = wNo then some (0, 0) else if s = Sk.wRef then some (2, 0) else if s.take 5 = wDone ∧ Sk.numB (s.drop 5) 0 999 = true then some (1, (getM (s.drop 5)).1) else none
/-- An order's line. -/
def mid (a b c : List UInt8) (last : Int) : Sum (Int × List R5) (Nat × Nat) :=
  if Sk.numB a 1 60 = false then .inr (1, 3)
  else match cellR b with
    | none => .inr (2, 3)
    | some x => match cellR c with
      | none => .inr (3, 3)
      | some y => if x.1 = 0 ∧ y.1 = 0 then .inr (2, 3) else if (getM a).1 ≤ last then .inr (1, 6) else .inl ((getM a).1, two (getM a).1 x y)
def getB (s : List UInt8) : Bool := (getM s).2 && decide (0 ≤ (getM s).1)
def tail (b c : List UInt8) (orders : Nat) (t : Int) : Option (Nat × Nat) :=
  if getB b = false then some (2, 3) else if (getM b).1 ≠ orders then some (2, 4) else if getB c = false then some (3, 3) else if (getM c).1 ≠ t then some (3, 5) else none
structure St where
  seq : Int
  l : List R5
  orders : Nat
  last : Int
  tot : Int
  ended : Bool
def step (i : Nat) (r : Line) (s : St) : Sum St (Nat × Nat) :=
  if s.ended = true then .inr (1, 7)
  else if i = 0 then (match first r with | .inl q => .inl { s with seq := q } | .inr x => .inr x)
  else if r.length ≠ 3 then .inr (min r.length 3 + 1, 1)
  else if r.head? = some Sk.wEnd then (match tail (r.getD 1 []) (r.getD 2 []) s.orders s.tot with | none => .inl { s with ended := true } | some x => .inr x)
  else match mid (r.getD 0 []) (r.getD 1 []) (r.getD 2 []) s.last with
    | .inl x => .inl { s with l := s.l ++ x.2, orders := s.orders + 1, last := x.1, tot := s.tot + total x.2 }
    | .inr x => .inr x
def run : List Line → Nat → St → Sum St (Nat × Nat × Nat)
  | [], _, s => .inl s
  | r :: t, i, s => match step i r s with | .inl s' => run t (i + 1) s' | .inr x => .inr (i + 1, x.1, x.2)
def ofRun (n : Nat) : Sum St (Nat × Nat × Nat) → Sk.Res
  | .inr x => ((0, 0, []), x)
  | .inl s => if s.ended = true then ((2, s.seq, s.l), 0, 0, 0) else ((0, 0, []), n + 1, 1, 7)
def s0 : St := ⟨0, [], 0, 0, 0, false⟩
def ofTable (L : List Line) : Sk.Res := ofRun L.length (run L 0 s0)
def parseS (t : List UInt8) : Sk.Res := match Csv.parse t with | (L, a, b, c) => if c = 0 then ofTable L else ((0, 0, []), a, b, c)
end Mf
end Go.Proofs.YtgpjbigelblanaaGreatDoor

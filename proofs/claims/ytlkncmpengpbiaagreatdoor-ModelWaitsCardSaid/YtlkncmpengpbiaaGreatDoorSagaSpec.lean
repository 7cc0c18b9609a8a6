/- Sagas, plain: what they wait for, what becomes of them; what their deeds come to. No Go is in sight. -/
import Derived.Test.YtlkncmpengpbiaaGreatDoorKeysSpec
namespace Go.Proofs.YtlkncmpengpbiaaGreatDoor
open Key

namespace Sa
structure Sg where
  id : Int
  ref : List UInt8
  sku : List UInt8
  qty : Int
  amt : Int
  d0 : Int
  d1 : Int
  d2 : Int
  d3 : Int
  d4 : Int
  d5 : Int
  can : Bool
def Sg.deed (s : Sg) (k : Int) : Int := if k = 0 then s.d0 else if k = 1 then s.d1 else if k = 2 then s.d2 else if k = 3 then s.d3 else if k = 4 then s.d4 else s.d5
def backB (s : Sg) : Bool := s.can || decide (s.d0 = 3) || decide (s.d1 = 3) || decide (s.d2 = 3)
def beginI (i : Int) (r k : List UInt8) (q a : Int) : Sg := ⟨i, r, k, q, a, 1, 0, 0, 0, 0, 0, false⟩
/-- The deed that is waited for; none: 6. -/
def waitsI (s : Sg) : Int := if s.d0 = 1 then 0 else if s.d1 = 1 then 1 else if s.d2 = 1 then 2 else if s.d3 = 1 then 3 else if s.d4 = 1 then 4 else if s.d5 = 1 then 5 else 6
def waitsB (s : Sg) : Bool := decide (waitsI s ≠ 6)
def waitsN (s : Sg) : Int := if waitsI s = 6 then 0 else waitsI s
def onI (s : Sg) : Sg :=
  if backB s = false then (if s.d0 = 0 then { s with d0 := 1 } else if s.d1 = 0 then { s with d1 := 1 } else if s.d2 = 0 then { s with d2 := 1 } else s)
  else if (s.d2 = 2 ∨ s.d2 = 4) ∧ s.d5 = 0 then { s with d5 := 1 } else if (s.d1 = 2 ∨ s.d1 = 4) ∧ s.d4 = 0 then { s with d4 := 1 } else if (s.d0 = 2 ∨ s.d0 = 4) ∧ s.d3 = 0 then { s with d3 := 1 } else s
def setI (s : Sg) (k v : Int) : Sg := if k = 0 then { s with d0 := v } else if k = 1 then { s with d1 := v } else if k = 2 then { s with d2 := v } else if k = 3 then { s with d3 := v } else if k = 4 then { s with d4 := v } else { s with d5 := v }
/-- May this be the reply of what is waited for? -/
def replyB (s : Sg) (deed code : Int) : Bool := decide (waitsI s ≠ 6) && decide (waitsI s = deed) && (decide (code = 1) || (decide (code = 2) && decide (deed ≤ 2)))
def replyI (s : Sg) (deed code : Int) : Sg := onI (setI s deed (code + 1))
def goingB (s : Sg) : Bool := decide (waitsI s ≠ 6) && !backB s
def stopI (s : Sg) : Sg := onI { setI s (waitsI s) 4 with can := true }
def netI (s : Sg) : Int := if s.d1 = 2 ∧ s.d4 ≠ 2 then s.amt else 0
/-- What a deed comes to, if it is done. -/
def wantI (s : Sg) (k : Int) : Int × Int :=
  if k = 1 ∨ (k = 4 ∧ s.d1 = 2) then (s.amt, 0) else if k = 0 ∨ k = 2 ∨ (k = 3 ∧ s.d0 = 2) ∨ (k = 5 ∧ s.d2 = 2) then (0, s.qty) else (0, 0)
/-- How a saga's deed differs from a row (its code, amount, quantity; whether there is one); 0: not. -/
def kindI (s : Sg) (k : Int) (c a q : Int) (ok : Bool) : Int :=
  if s.deed k < 0 ∨ 4 < s.deed k then 0
  else if s.deed k = 0 then (if ok = true then 5 else 0)
  else if s.deed k = 4 ∧ k < 3 ∧ s.deed (k + 3) = 2 then 0
  else if ok = false then (if s.deed k = 2 ∨ s.deed k = 3 then 2 else 0)
  else if s.deed k = 1 ∨ s.deed k = 4 then (if c = 1 then 1 else 0)
  else if (s.deed k = 2 ∧ c ≠ 1) ∨ (s.deed k ≠ 2 ∧ c = 1) then 3
  else if s.deed k = 2 ∧ (k < 3 ∨ s.deed (k - 3) = 2) ∧ (a ≠ (wantI s k).1 ∨ q ≠ (wantI s k).2) then 4 else 0
end Sa
end Go.Proofs.YtlkncmpengpbiaaGreatDoor

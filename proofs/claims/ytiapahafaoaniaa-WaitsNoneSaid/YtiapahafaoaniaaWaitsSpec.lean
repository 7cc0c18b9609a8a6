/- What package waits computes, as plain functions; no Go is in sight. -/
import Derived.Lib.Hide
namespace Go.Proofs.Ytiapahafaoaniaa
namespace Wa

def gapI (t : Int) : Int := if t < 1 then 0 else if t = 1 then 1 else if t = 2 then 2 else if t = 3 then 4 else if t = 4 then 8 else 16
def nearI (n : Int) : Int := if n < 0 then 0 else if 1099511627776 < n then 1099511627776 else n
theorem gap_bd (t : Int) : 0 ≤ gapI t ∧ gapI t ≤ 16 := by unfold gapI; repeat' split <;> omega
theorem near_bd (n : Int) : 0 ≤ nearI n ∧ nearI n ≤ 1099511627776 := by unfold nearI; repeat' split <;> omega
end Wa
end Go.Proofs.Ytiapahafaoaniaa

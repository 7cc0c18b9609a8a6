/- The chapter's file of the warehouse, plain. -/
import Derived.Test.YtgpjbigelblanaaDoorStockForm0
import Derived.WalkKit
namespace Go.Proofs.YtgpjbigelblanaaDoor
open Key Mon Rw

namespace Sk
def tA : List UInt8 := [115, 116, 111, 99, 107, 44, 55, 10]
def tB : List UInt8 := [51, 44, 114, 101, 115, 101, 114, 118, 101, 44, 100, 111, 110, 101, 44, 52, 10]
def tC : List UInt8 := [101, 110, 100, 44, 49, 10]
def tE2 : List UInt8 := [101, 110, 100, 44, 50, 10]
def tShip : List UInt8 := [51, 44, 115, 104, 105, 112, 44, 100, 111, 110, 101, 44, 52, 10]
def t03 : List UInt8 := [48, 51, 44, 114, 101, 115, 101, 114, 118, 101, 44, 100, 111, 110, 101, 44, 52, 10]
def t45 : List UInt8 := [51, 44, 114, 101, 115, 101, 114, 118, 101, 44, 100, 111, 110, 101, 44, 52, 44, 53, 10]
def tStack : List UInt8 := [115, 116, 97, 99, 107, 44, 55, 10]
def xRow : R5 := ((3, 0), 1, 0, 4)
def tABC : List UInt8 := [115, 116, 111, 99, 107, 44, 55, 10, 51, 44, 114, 101, 115, 101, 114, 118, 101, 44, 100, 111, 110, 101, 44, 52, 10, 101, 110, 100, 44, 49, 10]
theorem came1 : printS 1 7 [xRow] = (tABC, 0) := by decide +kernel
theorem came2 : parseS (tA ++ tB ++ tC) = ((1, 7, [xRow]), 0, 0, 0) := by kernel_rfl
theorem came3 : parseS (tA ++ tB ++ tE2) = ((0, 0, []), 3, 2, 4) := by kernel_rfl
theorem came4 : parseS (tA ++ tB) = ((0, 0, []), 3, 1, 7) := by kernel_rfl
theorem came5 : parseS (tA ++ tShip ++ tC) = ((0, 0, []), 2, 2, 3) := by kernel_rfl
theorem came6 : parseS (tA ++ t03 ++ tC) = ((0, 0, []), 2, 1, 3) := by kernel_rfl
theorem came7 : parseS (tA ++ t45 ++ tC) = ((0, 0, []), 2, 5, 1) := by kernel_rfl
theorem came8 : parseS (tStack ++ tB ++ tC) = ((0, 0, []), 1, 1, 7) := by kernel_rfl
end Sk
end Go.Proofs.YtgpjbigelblanaaDoor

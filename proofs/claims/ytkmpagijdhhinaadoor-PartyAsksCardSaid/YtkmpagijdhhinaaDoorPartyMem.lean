/- A party in memory: its maps' keys and elements. -/
import Derived.Test.YtkmpagijdhhinaaDoorKeyMap
import Derived.Test.YtkmpagijdhhinaaDoorGen
import Derived.Test.YtkmpagijdhhinaaDoorMapIter
namespace Go.Proofs.YtkmpagijdhhinaaDoor
open Go.RowKit Go.Maps Key

/-- A row: its key, code, amount, quantity. -/
abbrev R5 : Type := (Int × Int) × Int × Int × Int
abbrev tRow : TypeId := 45
abbrev tRows : TypeId := 38
abbrev tGoods : TypeId := 74
abbrev tBook : TypeId := 53
abbrev tTaken : TypeId := 54
abbrev tWhat : TypeId := 55
def mkRow (x : R5) : Value := .agg #[.int .i64 x.1.1, .int .i64 x.1.2, .int .i64 x.2.1, .int .i64 x.2.2.1, .int .i64 x.2.2.2]
def encR (x : R5) : List Value := [.int .i64 x.1.1, .int .i64 x.1.2, .int .i64 x.2.1, .int .i64 x.2.2.1, .int .i64 x.2.2.2]
theorem encR_len (x : R5) : (encR x).length = 5 := rfl
def mkInt (x : Int) : Value := .int .i64 x
/-- A byte of a name, or nought behind it. -/
def byteI (s : List UInt8) (i : Nat) : Int := (s[i]?).map (fun c => (c.toNat : Int)) |>.getD 0
def mkGoods (s : List UInt8) : Value := .agg #[.int .u8 (byteI s 0), .int .u8 (byteI s 1), .int .u8 (byteI s 2), .int .u8 (byteI s 3), .int .u8 (byteI s 4), .int .u8 (byteI s 5), .int .u8 (byteI s 6), .int .u8 (byteI s 7), .int .i64 s.length]
theorem mkGoods_inj (s : List UInt8) (hs : s.length ≤ 8) : ∀ y, mkGoods y = mkGoods s → y = s := by
  intro y h
  simp only [mkGoods, byteI, Value.agg.injEq, Array.mk.injEq, List.cons.injEq, Value.int.injEq, true_and, and_true] at h
  obtain ⟨h0, h1, h2, h3, h4, h5, h6, h7, hl⟩ := h
  have hl' : y.length = s.length := by omega
  refine list_ext hl' rfl fun k hk => ?_
  have e : ∀ {a b : Option UInt8}, ((a.map fun c => (c.toNat : Int)).getD 0 = (b.map fun c => (c.toNat : Int)).getD 0) → a.isSome = b.isSome → a = b := by
    intro a b h hs
    cases a <;> cases b <;> simp at h hs ⊢
    exact UInt8.toNat_inj.1 (by omega)
  have hsome : (y[k]?).isSome = (s[k]?).isSome := by rw [List.getElem?_eq_getElem (by omega), List.getElem?_eq_getElem hk]; rfl
  have : k < 8 := by omega
  match k, this with
  | 0, _ => exact e h0 hsome
  | 1, _ => exact e h1 hsome
  | 2, _ => exact e h2 hsome
  | 3, _ => exact e h3 hsome
  | 4, _ => exact e h4 hsome
  | 5, _ => exact e h5 hsome
  | 6, _ => exact e h6 hsome
  | 7, _ => exact e h7 hsome
theorem zeroRow (w : World) : (zeroValue tRow).run Tryd.prog w = .ok (mkRow ((0, 0), 0, 0, 0)) w := by kernel_rfl
theorem zeroInt (w : World) : (zeroValue 3).run Tryd.prog w = .ok (mkInt 0) w := by kernel_rfl
theorem zeroGoods (w : World) : (zeroValue tGoods).run Tryd.prog w = .ok (mkGoods []) w := by kernel_rfl
theorem mapBook : Tryd.prog.underlying tBook = some (.map tKey tRow) := by kernel_rfl
theorem mapTaken : Tryd.prog.underlying tTaken = some (.map tGoods 3) := by kernel_rfl
theorem mapWhat : Tryd.prog.underlying tWhat = some (.map tKey tGoods) := by kernel_rfl
theorem lawGoods : Keyed Tryd.prog tGoods := Keyed.of_law (deep_law_laid (P := Tryd.prog) (show laidOutB Tryd.prog = true by kernel_rfl) (m := 6) (by omega) (k := tGoods) (of_decide_eq_true (by kernel_rfl)) (by kernel_rfl) (by kernel_rfl))
theorem row_info : (Tryd.prog.info? tRow).map (fun i => (i.zero, i.size, i.bytes)) = some (some (mkRow ((0, 0), 0, 0, 0)), 5, 40) := by kernel_rfl
end Go.Proofs.YtkmpagijdhhinaaDoor

/- Keys of maps and of rows. -/
import Derived.Test.YtlkncmpengpbiaaGreatDoorMapL
import Derived.Test.YtlkncmpengpbiaaGreatDoorKeysDeed
import Derived.DeepKeys4
namespace Go.Proofs.YtlkncmpengpbiaaGreatDoor
open Go.RowKit Go.Maps Key

def mkKey (k : Int × Int) : Value := .agg #[.int .i64 k.1, .int .i64 k.2]
abbrev tKey : TypeId := 31
theorem mkKey_inj (k : Int × Int) : ∀ y, mkKey y = mkKey k → y = k := by
  intro y h
  simp [mkKey] at h
  exact Prod.ext h.1 h.2
theorem lawKey : Keyed Tryz.prog tKey := Keyed.of_law (deep_law_laid (P := Tryz.prog) (show laidOutB Tryz.prog = true by kernel_rfl) (m := 4) (by omega) (k := tKey) (of_decide_eq_true (by kernel_rfl)) (by kernel_rfl) (by kernel_rfl))
/-- A key that may stand in a map reads. -/
theorem key_reads (k : Int × Int) (h : (-9223372036854775808 ≤ k.1 ∧ k.1 ≤ 9223372036854775807) ∧ (-9223372036854775808 ≤ k.2 ∧ k.2 ≤ 9223372036854775807)) : ∃ l, keyOf Tryz.prog tKey (mkKey k) = some l := by
  obtain ⟨a, b⟩ := k
  obtain ⟨⟨h1, h2⟩, h3, h4⟩ := h
  have w1 : (Lit.int .i64 a).wf = true := by simp [Lit.wf, IntKind.min, IntKind.max, IntKind.signed, IntKind.bits]; omega
  have w2 : (Lit.int .i64 b).wf = true := by simp [Lit.wf, IntKind.min, IntKind.max, IntKind.signed, IntKind.bits]; omega
  have hf : (mkKey (a, b)).formed Tryz.prog tKey = true := by kernel_rfl
  have hk : Tryz.prog.keyType tKey = true := by kernel_rfl
  have hc : Tryz.prog.cellsOf tKey = 2 := by kernel_rfl
  have hi : Tryz.prog.cellsOf 3 = 1 := by kernel_rfl
  obtain ⟨d, hd⟩ : ∃ d, Tryz.prog.types.size = d + 1 := ⟨Tryz.prog.types.size - 1, by have : 0 < Tryz.prog.types.size := of_decide_eq_true (by kernel_rfl); omega⟩
  have hl : Tryz.prog.keyLits (Tryz.prog.types.size + 1) tKey (mkKey (a, b)).cells.toList = some [.int .i64 a, .int .i64 b] := by
    rw [hd]
    simp [Program.keyLits, mkKey, Value.cells, Tryz.underlying31, Tryz.underlying3, hc, hi, w1, w2]
  unfold keyOf
  rw [Tryz.underlying31]
  simp only [hf, hk, hl, Bool.and_self, if_true, Option.map_some]
  exact ⟨_, rfl⟩
def encK (k : Int × Int) : List Value := [.int .i64 k.1, .int .i64 k.2]
theorem encK_len (k : Int × Int) : (encK k).length = 2 := rfl
theorem key_info : (Tryz.prog.info? tKey).map (fun i => (i.zero, i.size, i.bytes)) = some (some (mkKey (0, 0)), 2, 16) := by kernel_rfl
def chkB (k : Int × Int) : Bool := chk k.1 k.2
theorem key_chk {k : Int × Int} (h : chkB k = true) : ∃ l, keyOf Tryz.prog tKey (mkKey k) = some l := key_reads k (by have := chk_iff.1 h; omega)
end Go.Proofs.YtlkncmpengpbiaaGreatDoor

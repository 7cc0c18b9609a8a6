/- Waits in memory: a pointer's block, and a map of what waits. -/
import Derived.Test.YtiapahafaoaniaaMapL
import Derived.Test.YtiapahafaoaniaaWaitsWalk1
import Derived.DeepKeys4
import Derived.StillTailTactics
import Derived.Deep.RegionHeld3
namespace Go.Proofs.Ytiapahafaoaniaa
open Go.RowKit Go.Maps Wa

/-- A wait: its key, the tries, the tick, whether it is parked. -/
abbrev W5 : Type := (Int × Int) × Int × Int × Bool
def mkKey (k : Int × Int) : Value := .agg #[.int .i64 k.1, .int .i64 k.2]
def mkWait (x : W5) : Value := .agg #[.int .i64 x.1.1, .int .i64 x.1.2, .int .i64 x.2.1, .int .i64 x.2.2.1, .bool x.2.2.2]
abbrev tKey : TypeId := 26
abbrev tWait : TypeId := 40
abbrev tMapW : TypeId := 54
theorem mkKey_inj (k : Int × Int) : ∀ y, mkKey y = mkKey k → y = k := by
  intro y h
  simp [mkKey] at h
  exact Prod.ext h.1 h.2
theorem zeroWait (w : World) : (zeroValue tWait).run Try.prog w = .ok (mkWait ((0, 0), 0, 0, false)) w := by kernel_rfl
theorem mapW : Try.prog.underlying tMapW = some (.map tKey tWait) := by kernel_rfl
theorem lawKey : Keyed Try.prog tKey := Keyed.of_law (deep_law_laid (P := Try.prog) (show laidOutB Try.prog = true by kernel_rfl) (m := 4) (by omega) (k := tKey) (of_decide_eq_true (by kernel_rfl)) (by kernel_rfl) (by kernel_rfl))
/-- A key that may stand in a map reads. -/
theorem key_reads (k : Int × Int) (h : (-9223372036854775808 ≤ k.1 ∧ k.1 ≤ 9223372036854775807) ∧ (-9223372036854775808 ≤ k.2 ∧ k.2 ≤ 9223372036854775807)) : ∃ l, keyOf Try.prog tKey (mkKey k) = some l := by
  obtain ⟨a, b⟩ := k
  obtain ⟨⟨h1, h2⟩, h3, h4⟩ := h
  have w1 : (Lit.int .i64 a).wf = true := by simp [Lit.wf, IntKind.min, IntKind.max, IntKind.signed, IntKind.bits]; omega
  have w2 : (Lit.int .i64 b).wf = true := by simp [Lit.wf, IntKind.min, IntKind.max, IntKind.signed, IntKind.bits]; omega
  have hf : (mkKey (a, b)).formed Try.prog tKey = true := by kernel_rfl
  have hk : Try.prog.keyType tKey = true := by kernel_rfl
  have hc : Try.prog.cellsOf tKey = 2 := by kernel_rfl
  have hi : Try.prog.cellsOf 3 = 1 := by kernel_rfl
  obtain ⟨d, hd⟩ : ∃ d, Try.prog.types.size = d + 1 := ⟨Try.prog.types.size - 1, by have : 0 < Try.prog.types.size := of_decide_eq_true (by kernel_rfl); omega⟩
  have hl : Try.prog.keyLits (Try.prog.types.size + 1) tKey (mkKey (a, b)).cells.toList = some [.int .i64 a, .int .i64 b] := by
    rw [hd]
    simp [Program.keyLits, mkKey, Value.cells, Try.underlying26, Try.underlying3, hc, hi, w1, w2]
  unfold keyOf
  rw [Try.underlying26]
  simp only [hf, hk, hl, Bool.and_self, if_true, Option.map_some]
  exact ⟨_, rfl⟩

theorem nonep_any (w : World) (a b : Nat) (hc : w.cell? ⟨a, 0, none⟩ = some (.map (some b))) :
    Calls Try.prog 29 #[.pointer (some ⟨a, 0, none⟩)] w fun e w' => e = .returned (.bool false) ∧ w = w' := by
  have hm := fun w r => run_eql_map_nil (P := Try.prog) w tMapW tKey tWait r mapW
  go_enter Try.func29, Try.ntmps29
  go_wp2_with fail
  go_ret
  exact ⟨rfl, rfl⟩
end Go.Proofs.Ytiapahafaoaniaa

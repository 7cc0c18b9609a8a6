/- Waits that are none: what their methods do. -/
import Derived.Test.YtiapahafaoaniaaWaitsWaited
namespace Go.Proofs.Ytiapahafaoaniaa
open Go.RowKit Go.Maps Wa Key

/-- The pointer leads to no waits. -/
def NoWaits (w : World) (v : Value) : Prop := v = .pointer none ∨ ∃ a, v = .pointer (some ⟨a, 0, none⟩) ∧ w.cell? ⟨a, 0, none⟩ = some (.map none)
theorem NoWaits.below {w w' : World} {v : Value} (h : NoWaits w v) (hb : Below w.heap.size w w') : NoWaits w' v := by
  rcases h with h | ⟨a, h, hc⟩
  · exact .inl h
  · exact .inr ⟨a, h, (hb.cell (p := ⟨a, 0, none⟩) (World.block_lt_of_cell? w _ hc)).trans hc⟩

theorem none_none (w : World) (v : Value) (h : NoWaits w v) : Calls Try.prog 29 #[v] w fun e w' => e = .returned (.bool true) ∧ w = w' := by
  rcases h with rfl | ⟨a, rfl, hc⟩
  · go_enter Try.func29, Try.ntmps29
    go_wp2_with fail
    go_ret
    exact ⟨rfl, rfl⟩
  · have hm := fun w r => run_eql_map_nil (P := Try.prog) w tMapW tKey tWait r mapW
    go_enter Try.func29, Try.ntmps29
    go_wp2_with fail
    go_ret
    exact ⟨rfl, rfl⟩

theorem nilStart (w : World) (v : Value) (o d now : Int) (h : NoWaits w v) : Calls Try.prog 13 #[v, .agg #[.int .i64 o, .int .i64 d], .int .i64 now] w fun e w' => e = .returned (.tuple #[]) ∧ Below w.heap.size w w' := by
  have HN := Lib.hid (none_none _ v (h.below (below_alloc w (.cells #[.int .i64 o, .int .i64 d] tKey))))
  clear h
  go_enter Try.func13, Try.ntmps13
  go_wp2_with fail
  refine HN.out.mono ?_
  rintro e w0 ⟨rfl, hw⟩; subst hw
  go_wp2_with fail
  go_end0
  exact ⟨rfl, below_alloc _ _⟩
theorem nilDue (w : World) (v : Value) (o d now : Int) (h : NoWaits w v) : Calls Try.prog 17 #[v, .agg #[.int .i64 o, .int .i64 d], .int .i64 now] w fun e w' => e = .returned (.tuple #[]) ∧ Below w.heap.size w w' := by
  have HN := Lib.hid (none_none _ v (h.below (below_alloc w (.cells #[.int .i64 o, .int .i64 d] tKey))))
  clear h
  go_enter Try.func17, Try.ntmps17
  go_wp2_with fail
  refine HN.out.mono ?_
  rintro e w0 ⟨rfl, hw⟩; subst hw
  go_wp2_with fail
  go_end0
  exact ⟨rfl, below_alloc _ _⟩
theorem nilStop (w : World) (v : Value) (o d : Int) (h : NoWaits w v) : Calls Try.prog 14 #[v, .agg #[.int .i64 o, .int .i64 d]] w fun e w' => e = .returned (.tuple #[]) ∧ Below w.heap.size w w' := by
  have HN := Lib.hid (none_none _ v (h.below (below_alloc w (.cells #[.int .i64 o, .int .i64 d] tKey))))
  clear h
  go_enter Try.func14, Try.ntmps14
  go_wp2_with fail
  refine HN.out.mono ?_
  rintro e w0 ⟨rfl, hw⟩; subst hw
  go_wp2_with fail
  go_end0
  exact ⟨rfl, below_alloc _ _⟩
theorem nilAgain (w : World) (v : Value) (o d now : Int) (h : NoWaits w v) : Calls Try.prog 15 #[v, .agg #[.int .i64 o, .int .i64 d], .int .i64 now] w fun e w' => e = .returned (.bool false) ∧ Below w.heap.size w w' := by
  have HN := Lib.hid (none_none _ v (h.below (below_alloc w (.cells #[.int .i64 o, .int .i64 d] tKey))))
  clear h
  go_enter Try.func15, Try.ntmps15
  go_wp2_with fail
  refine HN.out.mono ?_
  rintro e w0 ⟨rfl, hw⟩; subst hw
  go_wp2_with fail
  go_ret
  exact ⟨rfl, below_alloc _ _⟩
theorem nilList (w : World) (v : Value) (h : NoWaits w v) : Calls Try.prog 18 #[v] w fun e w' => e = .returned (.slice none 0 0) ∧ w = w' := by
  have HN := Lib.hid (none_none _ v h)
  clear h
  go_enter Try.func18, Try.ntmps18
  go_wp2_with fail
  refine HN.out.mono ?_
  rintro e w0 ⟨rfl, hw⟩; subst hw
  go_wp2_with fail
  go_ret
  exact ⟨rfl, rfl⟩
theorem nilCopy (w : World) (v : Value) (h : NoWaits w v) : Calls Try.prog 25 #[v] w fun e w' => e = .returned (.pointer none) ∧ w = w' := by
  have HN := Lib.hid (none_none _ v h)
  clear h
  go_enter Try.func25, Try.ntmps25
  go_wp2_with fail
  refine HN.out.mono ?_
  rintro e w0 ⟨rfl, hw⟩; subst hw
  go_wp2_with fail
  go_ret
  exact ⟨rfl, rfl⟩
theorem nilTick (w : World) (v : Value) (now : Int) (h : NoWaits w v) : Calls Try.prog 16 #[v, .int .i64 now] w fun e w' => e = .returned (.slice none 0 0) ∧ w = w' := by
  have HL := Lib.hid (nilList w v h)
  have hn := after_any now 0 w (by omega) (by omega)
  clear h
  go_enter Try.func16, Try.ntmps16
  go_wp2_with fail
  refine hn.mono ?_
  rintro e w0 ⟨rfl, hw⟩; subst hw
  go_wp2_with fail
  refine HL.out.mono ?_
  rintro e w0 ⟨rfl, hw⟩; subst hw
  go_wp2_with fail
  refine wp_loop_rounds 1 ?_
  rw [rounds_succ]
  go_wp2_with fail
  go_ret
  exact ⟨rfl, rfl⟩
end Go.Proofs.Ytiapahafaoaniaa

/- law18's tells. -/
import Derived.Test.YtiapahafaoaniaaWaitsCopy
import Derived.BigQuiet
namespace Go.Proofs.Ytiapahafaoaniaa
open Go.RowKit Go.Maps Wa Key

theorem keyrow_one {w : World} {B : Nat} {v : Value} {o d : Int} (h : w.ownsRow B tKey 2 v 1 [.int .i64 o, .int .i64 d]) : ∃ g cap, v = .slice (some ⟨g, 0, none⟩) 1 cap ∧ w.cell? ⟨g, 0, none⟩ = some (.int .i64 o) ∧ w.cell? ⟨g, 1, none⟩ = some (.int .i64 d) ∧ B ≤ g ∧ g < w.heap.size := by
  rcases h.2 with ⟨_, h0⟩ | ⟨g, cap, cur, rfl, hB, hg, _⟩
  · cases h0
  · exact ⟨g, cap, rfl, h.cellAt 0 (by omega), h.cellAt 1 (by omega), hB, heap_lt hg⟩

theorem row_none {w : World} {B k : Nat} {e : TypeId} {v : Value} {xs : List Value} (h : w.ownsRow B e k v 0 xs) : ∃ A cap, v = .slice A 0 cap := by
  rcases h.2 with ⟨rfl, _⟩ | ⟨g, cap, cur, rfl, _⟩
  · exact ⟨_, _, rfl⟩
  · exact ⟨_, _, rfl⟩
theorem WA.drewN {w : World} {a b : Nat} {l : List W5} (h : WA w a b l) (n : Nat) : WA (w.drewN n) a b l := ⟨h.hd, h.mp.block rfl⟩
theorem grown_drewN {w w' : World} {row : Option Nat} (h : w.grownBy w' row) (n : Nat) : w.grownBy (w'.drewN n) row := ⟨h.os, h.tape, h.output, h.size, h.block⟩

set_option maxHeartbeats 1000000 in
theorem tells_yes (w : World) (a b : Nat) (l : List W5) (o d now : Int) (h : WA w a b l) (hgd : Wa.Good l) (hl : l.length < 10000) (ht : toldW l now = [(o, d)]) :
    Calls Try.prog 27 #[.pointer (some ⟨a, 0, none⟩), .int .i64 now, .agg #[.int .i64 o, .int .i64 d], .bool true] w fun e w' => e = .returned (.bool true) ∧ WA w' a b (tickW l now) ∧ w.grownBy w' (some b) := by
  have HM := Lib.hid h
  have hab := h.lt
  have H1 := Lib.hid (fun W (hW : WA W a b l) => tick_wa W a b l now hW hgd hl)
  have HT := Lib.hid ht
  clear h hgd ht
  go_enter Try.func27, Try.ntmps27
  go_wp2_with fail
  refine (H1.out _ (HM.out.below (below_alloc w _))).mono ?_
  rintro e w1 ⟨v, rfl, ho, hwa, hg⟩
  rw [HT.out] at ho
  obtain ⟨g, cap, rfl, c0, c1, hgb, hgl⟩ := keyrow_one (by simpa [encK] using ho)
  have hk := (hg.block w.heap.size (by simp) (by have := hab.2.1; simp; omega)).trans (heap_new w (.cells #[.int .i64 o, .int .i64 d] tKey))
  obtain ⟨k0, k1, _, _⟩ := cell2 hk
  have HW := Lib.hid hwa
  have HG := Lib.hid ((World.grownBy_alloc w (.cells #[.int .i64 o, .int .i64 d] tKey) (some b)).trans hg)
  clear ho hwa hg hk
  go_wp2_with fail
  go_quiet (fail)
  go_wp2_with fail
  go_ret
  exact ⟨rfl, HW.out.drewN nq, grown_drewN HG.out nq⟩

set_option maxHeartbeats 1000000 in
theorem tells_no (w : World) (a b : Nat) (l : List W5) (o d now : Int) (h : WA w a b l) (hgd : Wa.Good l) (hl : l.length < 10000) (ht : toldW l now = []) :
    Calls Try.prog 27 #[.pointer (some ⟨a, 0, none⟩), .int .i64 now, .agg #[.int .i64 o, .int .i64 d], .bool false] w fun e w' => e = .returned (.bool true) ∧ WA w' a b (tickW l now) ∧ w.grownBy w' (some b) := by
  have HM := Lib.hid h
  have hab := h.lt
  have H1 := Lib.hid (fun W (hW : WA W a b l) => tick_wa W a b l now hW hgd hl)
  have HT := Lib.hid ht
  clear h hgd ht
  go_enter Try.func27, Try.ntmps27
  go_wp2_with fail
  refine (H1.out _ (HM.out.below (below_alloc w _))).mono ?_
  rintro e w1 ⟨v, rfl, ho, hwa, hg⟩
  rw [HT.out] at ho
  obtain ⟨A, cap, rfl⟩ := row_none ho
  have HW := Lib.hid hwa
  have HG := Lib.hid ((World.grownBy_alloc w (.cells #[.int .i64 o, .int .i64 d] tKey) (some b)).trans hg)
  clear ho hwa hg
  go_wp2_with fail
  go_quiet (fail)
  go_wp2_with fail
  go_ret
  exact ⟨rfl, HW.out.drewN nq, grown_drewN HG.out nq⟩
end Go.Proofs.Ytiapahafaoaniaa

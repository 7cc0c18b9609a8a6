/- What package waits computes, as plain functions; no Go is in sight. -/
import Derived.Lib.Hide
import Derived.Test.YtlkncmpengpbiaaGreatDoorMem
import Derived.Test.YtlkncmpengpbiaaGreatDoorKeyMap
import Derived.Test.YtlkncmpengpbiaaGreatDoorSrcOf
import Derived.Test.YtlkncmpengpbiaaGreatDoorMapL
import Derived.DeepKeys4
import Derived.StillTailTactics
import Derived.Deep.RegionHeld3
import Derived.Test.YtlkncmpengpbiaaGreatDoorKeysDeed
namespace Go.Proofs.YtlkncmpengpbiaaGreatDoor
namespace Wa

def gapI (t : Int) : Int := if t < 1 then 0 else if t = 1 then 1 else if t = 2 then 2 else if t = 3 then 4 else if t = 4 then 8 else 16
def nearI (n : Int) : Int := if n < 0 then 0 else if 1099511627776 < n then 1099511627776 else n
theorem gap_bd (t : Int) : 0 ≤ gapI t ∧ gapI t ≤ 16 := by unfold gapI; repeat' split <;> omega
theorem near_bd (n : Int) : 0 ≤ nearI n ∧ nearI n ≤ 1099511627776 := by unfold nearI; repeat' split <;> omega
end Wa
end Go.Proofs.YtlkncmpengpbiaaGreatDoor
/- waits.Gap, after, none; the document's Gap, near: what they compute. -/
namespace Go.Proofs.YtlkncmpengpbiaaGreatDoor
open Go.RowKit Wa

set_option maxHeartbeats 1000000 in
theorem gap_any (t : Int) (w : World) (h1 : -9223372036854775808 ≤ t) (h2 : t ≤ 9223372036854775807) :
    Calls Tryz.prog 64 #[.int .i64 t] w fun e w' => e = .returned (.int .i64 (gapI t)) ∧ w = w' := by
  by_cases h : t < 1
  · have HF := Lib.hid (show gapI t = 0 by unfold gapI; rw [if_pos h])
    go_enter Tryz.func64, Tryz.ntmps64
    go_wp2_with fail
    go_ret
    exact ⟨by rw [HF.out]; rfl, rfl⟩
  · by_cases h31 : t < 32
    · have : t = 1 ∨ t = 2 ∨ t = 3 ∨ t = 4 ∨ t = 5 ∨ t = 6 ∨ t = 7 ∨ t = 8 ∨ t = 9 ∨ t = 10 ∨ t = 11 ∨ t = 12 ∨ t = 13 ∨ t = 14 ∨ t = 15 ∨ t = 16 ∨ t = 17 ∨ t = 18 ∨ t = 19 ∨ t = 20 ∨ t = 21 ∨ t = 22 ∨ t = 23 ∨ t = 24 ∨ t = 25 ∨ t = 26 ∨ t = 27 ∨ t = 28 ∨ t = 29 ∨ t = 30 ∨ t = 31 := by omega
      clear h h31 h1 h2
      rcases this with rfl | rfl | rfl | rfl | rfl | rfl | rfl | rfl | rfl | rfl | rfl | rfl | rfl | rfl | rfl | rfl | rfl | rfl | rfl | rfl | rfl | rfl | rfl | rfl | rfl | rfl | rfl | rfl | rfl | rfl | rfl
      all_goals
        go_enter Tryz.func64, Tryz.ntmps64
        go_wp2_with fail
        go_ret
        exact ⟨rfl, rfl⟩
    · have HF := Lib.hid (show gapI t = 16 by unfold gapI; repeat' split <;> omega)
      have hwr : wrap64 1073741824 = 1073741824 := by unfold wrap64; omega
      have h30 : (30 : Int) < t - 1 := by omega
      go_enter Tryz.func64, Tryz.ntmps64
      go_wp2_with fail
      go_ret
      exact ⟨by rw [HF.out]; rfl, rfl⟩

theorem after_any (now n : Int) (w : World) (h1 : 0 ≤ n) (h2 : n ≤ 16) :
    Calls Tryz.prog 63 #[.int .i64 now, .int .i64 n] w fun e w' => e = .returned (.int .i64 (nearI now + n)) ∧ w = w' := by
  have hb := near_bd now
  by_cases h : now < 0
  · have HF := Lib.hid (show nearI now = 0 by unfold nearI; rw [if_pos h])
    go_enter Tryz.func63, Tryz.ntmps63
    go_wp2_with fail
    go_ret
    exact ⟨by rw [HF.out, Int.zero_add]; rfl, rfl⟩
  · by_cases h3 : 1099511627776 < now
    · have HF := Lib.hid (show nearI now = 1099511627776 by unfold nearI; rw [if_neg h, if_pos h3])
      go_enter Tryz.func63, Tryz.ntmps63
      go_wp2_with fail
      go_ret
      exact ⟨by rw [HF.out]; rfl, rfl⟩
    · have HF := Lib.hid (show nearI now = now by unfold nearI; rw [if_neg h, if_neg h3])
      go_enter Tryz.func63, Tryz.ntmps63
      go_wp2_with fail
      go_ret
      exact ⟨by rw [HF.out]; rfl, rfl⟩
theorem near_any (now : Int) (w : World) :
    Calls Tryz.prog 85 #[.int .i64 now] w fun e w' => e = .returned (.int .i64 (nearI now)) ∧ w = w' := by
  by_cases h : now < 0
  · have HF := Lib.hid (show nearI now = 0 by unfold nearI; rw [if_pos h])
    go_enter Tryz.func85, Tryz.ntmps85
    go_wp2_with fail
    go_ret
    exact ⟨by rw [HF.out]; rfl, rfl⟩
  · by_cases h3 : 1099511627776 < now
    · have HF := Lib.hid (show nearI now = 1099511627776 by unfold nearI; rw [if_neg h, if_pos h3])
      go_enter Tryz.func85, Tryz.ntmps85
      go_wp2_with fail
      go_ret
      exact ⟨by rw [HF.out]; rfl, rfl⟩
    · have HF := Lib.hid (show nearI now = now by unfold nearI; rw [if_neg h, if_neg h3])
      go_enter Tryz.func85, Tryz.ntmps85
      go_wp2_with fail
      go_ret
      exact ⟨by rw [HF.out]; rfl, rfl⟩
set_option maxHeartbeats 1000000 in
theorem refGap_any (t : Int) (w : World) :
    Calls Tryz.prog 89 #[.int .i64 t] w fun e w' => e = .returned (.int .i64 (gapI t)) ∧ Below w.heap.size w w' := by
  have ha := fun o => (Below.refl w.heap.size w).alloc (Nat.le_refl _) o
  by_cases h : t < 0
  · have HF := Lib.hid (show gapI t = 0 by unfold gapI; rw [if_pos (by omega)])
    go_enter Tryz.func89, Tryz.ntmps89
    go_wp2_with fail
    go_ret
    exact ⟨by rw [HF.out]; rfl, ha _⟩
  · by_cases h5 : t < 6
    · have : t = 0 ∨ t = 1 ∨ t = 2 ∨ t = 3 ∨ t = 4 ∨ t = 5 := by omega
      clear h h5
      rcases this with rfl | rfl | rfl | rfl | rfl | rfl
      all_goals
        go_enter Tryz.func89, Tryz.ntmps89
        go_wp2_with fail
        go_ret
        exact ⟨rfl, ha _⟩
    · have HF := Lib.hid (show gapI t = 16 by unfold gapI; repeat' split <;> omega)
      have hm : (5 : Int) < t := by omega
      go_enter Tryz.func89, Tryz.ntmps89
      go_wp2_with fail
      go_ret
      exact ⟨by rw [HF.out]; rfl, ha _⟩
end Go.Proofs.YtlkncmpengpbiaaGreatDoor
/- Waits in memory: a pointer's block, and a map of what waits. -/
namespace Go.Proofs.YtlkncmpengpbiaaGreatDoor
open Go.RowKit Go.Maps Wa
set_option maxRecDepth 100000

/-- A wait: its key, the tries, the tick, whether it is parked. -/
abbrev W5 : Type := (Int × Int) × Int × Int × Bool
def mkWait (x : W5) : Value := .agg #[.int .i64 x.1.1, .int .i64 x.1.2, .int .i64 x.2.1, .int .i64 x.2.2.1, .bool x.2.2.2]
abbrev tWait : TypeId := 52
abbrev tMapW : TypeId := 116
theorem zeroWait (w : World) : (zeroValue tWait).run Tryz.prog w = .ok (mkWait ((0, 0), 0, 0, false)) w := by kernel_rfl
theorem mapW : Tryz.prog.underlying tMapW = some (.map tKey tWait) := by kernel_rfl
theorem nonep_any (w : World) (a b : Nat) (hc : w.cell? ⟨a, 0, none⟩ = some (.map (some b))) :
    Calls Tryz.prog 61 #[.pointer (some ⟨a, 0, none⟩)] w fun e w' => e = .returned (.bool false) ∧ w = w' := by
  have hm := fun w r => run_eql_map_nil (P := Tryz.prog) w tMapW tKey tWait r mapW
  go_enter Tryz.func61, Tryz.ntmps61
  go_wp2_with fail
  go_ret
  exact ⟨rfl, rfl⟩
end Go.Proofs.YtlkncmpengpbiaaGreatDoor
/- waits.New, Start, Due, Stop: what they do. -/
namespace Go.Proofs.YtlkncmpengpbiaaGreatDoor
open Go.RowKit Go.Maps Wa Key
set_option maxRecDepth 100000

set_option maxHeartbeats 1000000 in
theorem start_store (w : World) (a b : Nat) (E : List ((Int × Int) × W5)) (o d : Int) (now : Int) (hc : w.cell? ⟨a, 0, none⟩ = some (.map (some b))) (hm : MapL Tryz.prog tKey mkKey mkWait w b E) (hE : E.length < 100000) (hk : chkB (o, d) = true) :
    Calls Tryz.prog 30 #[.pointer (some ⟨a, 0, none⟩), .agg #[.int .i64 o, .int .i64 d], .int .i64 now] w fun e w' => e = .returned (.tuple #[]) ∧ MapL Tryz.prog tKey mkKey mkWait w' b (((o, d), ((o, d), 1, nearI now + 1, false)) :: without E (o, d)) ∧ w.grownBy w' (some b) := by
  have HM := Lib.hid hm
  obtain ⟨l, hl⟩ := key_chk hk
  have HL := Lib.hid hl
  have HC := Lib.hid (show ∀ W, Calls Tryz.prog 62 #[.agg #[.int .i64 o, .int .i64 d]] W fun e w' => e = .returned (.bool true) ∧ Below W.heap.size W w' from fun W => by have := check_any o d W; rw [show chk o d = true from hk] at this; exact this)
  have hlt := World.block_lt_of_cell? w _ hc
  simp only [] at hlt
  clear hm hl hk
  go_enter Tryz.func30, Tryz.ntmps30
  go_wp2_with fail
  refine (nonep_any _ a b (((below_alloc w _).cell hlt).trans hc)).mono ?_
  rintro e w0 ⟨rfl, hw⟩; subst hw
  go_wp2_with fail
  refine (HC.out _).mono ?_
  rintro e w1 ⟨rfl, hb⟩
  have HB := Lib.hid (bch (below_alloc w _) hb (by simp))
  obtain ⟨k0, k1, hz⟩ := cells2 hb
  have hca := (HB.out.cell hlt).trans hc
  have hza : a < w1.heap.size := by omega
  clear hb hc
  have HMK := Lib.hid (HM.out.below HB.out)
  have G1 := fun W => flip_calls (gap_any 1 W (by omega) (by omega))
  have G2 := fun W => flip_calls (after_any now 1 W (by omega) (by omega))
  rw [show gapI 1 = 1 from rfl] at G1
  go_wp2_with fail
  refine wp_region_still_tail 10 (by kernel_rfl) (by kernel_rfl) ?_
  simp only [List.take_succ_cons, List.take_zero, List.drop_succ_cons, List.drop_zero]
  iterate 7 still_step
  still_call (G1 _)
  still_call (G2 _)
  still_step
  refine wpStill_nil ?_
  change wpList _ _ _ _ _ w1.drew
  refine wpList_storeL _ rfl (.tmp 16) (.tmp 17) (.tmp 22) tMapW rfl tKey tWait lawKey mapW b E rfl (HMK.out.block rfl) (by unfold maxLen; omega) (o, d) ((o, d), 1, nearI now + 1, false) rfl rfl HL.out (mkKey_inj _) ?_
  intro w2 hm2 ht2
  go_wp2_with fail
  go_end0
  exact ⟨rfl, hm2, (grown_of_below (below_drew1 HB.out) (some b)).andThen ht2.grown (fun j hj => .inr (by cases hj; rfl))⟩
set_option maxHeartbeats 1000000 in
theorem due_store (w : World) (a b : Nat) (E : List ((Int × Int) × W5)) (o d : Int) (now : Int) (hc : w.cell? ⟨a, 0, none⟩ = some (.map (some b))) (hm : MapL Tryz.prog tKey mkKey mkWait w b E) (hE : E.length < 100000) (hk : chkB (o, d) = true) :
    Calls Tryz.prog 38 #[.pointer (some ⟨a, 0, none⟩), .agg #[.int .i64 o, .int .i64 d], .int .i64 now] w fun e w' => e = .returned (.tuple #[]) ∧ MapL Tryz.prog tKey mkKey mkWait w' b (((o, d), ((o, d), 0, nearI now, false)) :: without E (o, d)) ∧ w.grownBy w' (some b) := by
  have HM := Lib.hid hm
  obtain ⟨l, hl⟩ := key_chk hk
  have HL := Lib.hid hl
  have HC := Lib.hid (show ∀ W, Calls Tryz.prog 62 #[.agg #[.int .i64 o, .int .i64 d]] W fun e w' => e = .returned (.bool true) ∧ Below W.heap.size W w' from fun W => by have := check_any o d W; rw [show chk o d = true from hk] at this; exact this)
  have hlt := World.block_lt_of_cell? w _ hc
  simp only [] at hlt
  clear hm hl hk
  go_enter Tryz.func38, Tryz.ntmps38
  go_wp2_with fail
  refine (nonep_any _ a b (((below_alloc w _).cell hlt).trans hc)).mono ?_
  rintro e w0 ⟨rfl, hw⟩; subst hw
  go_wp2_with fail
  refine (HC.out _).mono ?_
  rintro e w1 ⟨rfl, hb⟩
  have HB := Lib.hid (bch (below_alloc w _) hb (by simp))
  obtain ⟨k0, k1, hz⟩ := cells2 hb
  have hca := (HB.out.cell hlt).trans hc
  have hza : a < w1.heap.size := by omega
  clear hb hc
  have HMK := Lib.hid (HM.out.below HB.out)
  have G2 := fun W => flip_calls (after_any now 0 W (by omega) (by omega))
  rw [Int.add_zero] at G2
  go_wp2_with fail
  refine wp_region_still_tail 9 (by kernel_rfl) (by kernel_rfl) ?_
  simp only [List.take_succ_cons, List.take_zero, List.drop_succ_cons, List.drop_zero]
  iterate 7 still_step
  still_call (G2 _)
  still_step
  refine wpStill_nil ?_
  change wpList _ _ _ _ _ w1.drew
  refine wpList_storeL _ rfl (.tmp 16) (.tmp 17) (.tmp 21) tMapW rfl tKey tWait lawKey mapW b E rfl (HMK.out.block rfl) (by unfold maxLen; omega) (o, d) ((o, d), 0, nearI now, false) rfl rfl HL.out (mkKey_inj _) ?_
  intro w2 hm2 ht2
  go_wp2_with fail
  go_end0
  exact ⟨rfl, hm2, (grown_of_below (below_drew1 HB.out) (some b)).andThen ht2.grown (fun j hj => .inr (by cases hj; rfl))⟩

theorem start_no (w : World) (a b : Nat) (o d : Int) (now : Int) (hc : w.cell? ⟨a, 0, none⟩ = some (.map (some b))) (hk : chkB (o, d) = false) :
    Calls Tryz.prog 30 #[.pointer (some ⟨a, 0, none⟩), .agg #[.int .i64 o, .int .i64 d], .int .i64 now] w fun e w' => e = .returned (.tuple #[]) ∧ Below w.heap.size w w' := by
  have HC := Lib.hid (show ∀ W, Calls Tryz.prog 62 #[.agg #[.int .i64 o, .int .i64 d]] W fun e w' => e = .returned (.bool false) ∧ Below W.heap.size W w' from fun W => by have := check_any o d W; rw [show chk o d = false from hk] at this; exact this)
  have hlt := World.block_lt_of_cell? w _ hc
  simp only [] at hlt
  clear hk
  go_enter Tryz.func30, Tryz.ntmps30
  go_wp2_with fail
  refine (nonep_any _ a b (((below_alloc w _).cell hlt).trans hc)).mono ?_
  rintro e w0 ⟨rfl, hw⟩; subst hw
  go_wp2_with fail
  refine (HC.out _).mono ?_
  rintro e w1 ⟨rfl, hb⟩
  have HB := Lib.hid (bch (below_alloc w _) hb (by simp))
  clear hb
  go_wp2_with fail
  go_end0
  exact ⟨rfl, HB.out⟩
theorem due_no (w : World) (a b : Nat) (o d : Int) (now : Int) (hc : w.cell? ⟨a, 0, none⟩ = some (.map (some b))) (hk : chkB (o, d) = false) :
    Calls Tryz.prog 38 #[.pointer (some ⟨a, 0, none⟩), .agg #[.int .i64 o, .int .i64 d], .int .i64 now] w fun e w' => e = .returned (.tuple #[]) ∧ Below w.heap.size w w' := by
  have HC := Lib.hid (show ∀ W, Calls Tryz.prog 62 #[.agg #[.int .i64 o, .int .i64 d]] W fun e w' => e = .returned (.bool false) ∧ Below W.heap.size W w' from fun W => by have := check_any o d W; rw [show chk o d = false from hk] at this; exact this)
  have hlt := World.block_lt_of_cell? w _ hc
  simp only [] at hlt
  clear hk
  go_enter Tryz.func38, Tryz.ntmps38
  go_wp2_with fail
  refine (nonep_any _ a b (((below_alloc w _).cell hlt).trans hc)).mono ?_
  rintro e w0 ⟨rfl, hw⟩; subst hw
  go_wp2_with fail
  refine (HC.out _).mono ?_
  rintro e w1 ⟨rfl, hb⟩
  have HB := Lib.hid (bch (below_alloc w _) hb (by simp))
  clear hb
  go_wp2_with fail
  go_end0
  exact ⟨rfl, HB.out⟩

set_option maxHeartbeats 1000000 in
theorem stop_store (w : World) (a b : Nat) (E : List ((Int × Int) × W5)) (o d : Int) (hc : w.cell? ⟨a, 0, none⟩ = some (.map (some b))) (hm : MapL Tryz.prog tKey mkKey mkWait w b E) (hk : (-9223372036854775808 ≤ o ∧ o ≤ 9223372036854775807) ∧ (-9223372036854775808 ≤ d ∧ d ≤ 9223372036854775807)) :
    Calls Tryz.prog 32 #[.pointer (some ⟨a, 0, none⟩), .agg #[.int .i64 o, .int .i64 d]] w fun e w' => e = .returned (.tuple #[]) ∧ MapL Tryz.prog tKey mkKey mkWait w' b (without E (o, d)) ∧ w.grownBy w' (some b) := by
  have HM := Lib.hid hm
  obtain ⟨l, hl⟩ := key_reads (o, d) hk
  have HL := Lib.hid hl
  have hlt := World.block_lt_of_cell? w _ hc
  simp only [] at hlt
  clear hm hl hk
  go_enter Tryz.func32, Tryz.ntmps32
  go_wp2_with fail
  refine (nonep_any _ a b (((below_alloc w _).cell hlt).trans hc)).mono ?_
  rintro e w0 ⟨rfl, hw⟩; subst hw
  have HB := Lib.hid (below_alloc w (.cells #[.int .i64 o, .int .i64 d] tKey))
  have hca := (HB.out.cell hlt).trans hc
  have hkb := heap_new w (.cells #[.int .i64 o, .int .i64 d] tKey)
  obtain ⟨k0, k1, _, _⟩ := cell2 hkb
  have hz := heap_lt hkb
  have HMK := Lib.hid (HM.out.below HB.out)
  clear hkb hc
  generalize w.alloc (.cells #[.int .i64 o, .int .i64 d] tKey) = w1 at HB hca k0 k1 hz HMK ⊢
  go_wp2_with fail
  refine wp_region_still_tail 5 (by kernel_rfl) (by kernel_rfl) ?_
  simp only [List.take_succ_cons, List.take_zero, List.drop_succ_cons, List.drop_zero]
  iterate 5 still_step
  refine wpStill_nil ?_
  change wpList _ _ _ _ _ w1.drew
  refine wpList_deleteL _ rfl (.tmp 10) (.tmp 11) tMapW tKey rfl tWait lawKey mapW b E rfl (HMK.out.block rfl) (o, d) rfl HL.out (mkKey_inj _) ?_
  intro w2 hm2 ht2
  go_wp2_with fail
  go_end0
  exact ⟨rfl, hm2, (grown_of_below (below_drew1 HB.out) (some b)).andThen ht2.grown (fun j hj => .inr (by cases hj; rfl))⟩

set_option maxHeartbeats 1000000 in
theorem new_any (w : World) : Calls Tryz.prog 37 #[] w fun e w' => ∃ a b, e = .returned (.pointer (some ⟨a, 0, none⟩)) ∧ w'.heap[a]? = some (.cells #[.map (some b)] 118 (0, 0)) ∧ MapL Tryz.prog tKey mkKey mkWait w' b [] ∧ w.heap.size ≤ a ∧ w.heap.size ≤ b ∧ a ≠ b ∧ Below w.heap.size w w' := by
  have hmm := @run_makeMap Tryz.prog
  go_enter Tryz.func37, Tryz.ntmps37
  go_wp2_with fail
  go_ret
  refine ⟨w.heap.size + 1, w.heap.size, rfl, ?_, (MapL.made _ _ _ _ w).alloc _, by omega, Nat.le_refl _, by omega, (below_alloc w _).alloc (by simp) _⟩
  have := heap_new (w.alloc (.map #[] 0)) (.cells #[.map (some w.heap.size)] 118)
  rw [show (w.alloc (.map #[] 0)).heap.size = w.heap.size + 1 by simp] at this
  exact this
end Go.Proofs.YtlkncmpengpbiaaGreatDoor

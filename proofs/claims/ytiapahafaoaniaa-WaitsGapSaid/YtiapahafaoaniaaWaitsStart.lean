/- waits.New, Start, Due, Stop: what they do. -/
import Derived.Test.YtiapahafaoaniaaWaitsMem
import Derived.Test.YtiapahafaoaniaaKeysCore
namespace Go.Proofs.Ytiapahafaoaniaa
open Go.RowKit Go.Maps Wa Key

def chkB (k : Int × Int) : Bool := chk k.1 k.2
theorem key_chk {k : Int × Int} (h : chkB k = true) : ∃ l, keyOf Try.prog tKey (mkKey k) = some l := key_reads k (by have := chk_iff.1 h; omega)
theorem flip_calls {P : Program} {f : FuncId} {args : Array Value} {w : World} {v : Value} (h : Calls P f args w fun e w' => e = .returned v ∧ w = w') : Calls P f args w fun e w' => e = .returned v ∧ w' = w := h.mono fun _ _ ⟨h1, h2⟩ => ⟨h1, h2.symm⟩

theorem below_drew1 {B : Nat} {a b : World} (h : Below B a b) : Below B a b.drew := ⟨h.os, h.tape, h.output, h.size, h.block⟩
theorem grown_of_below {w w' : World} (h : Below w.heap.size w w') (row : Option Nat) : w.grownBy w' row := ⟨h.os, h.tape, h.output, h.size, fun i hi _ => h.block i hi⟩

set_option maxHeartbeats 1000000 in
theorem start_store (w : World) (a b : Nat) (E : List ((Int × Int) × W5)) (o d : Int) (now : Int) (hc : w.cell? ⟨a, 0, none⟩ = some (.map (some b))) (hm : MapL Try.prog tKey mkKey mkWait w b E) (hE : E.length < 100000) (hk : chkB (o, d) = true) :
    Calls Try.prog 13 #[.pointer (some ⟨a, 0, none⟩), .agg #[.int .i64 o, .int .i64 d], .int .i64 now] w fun e w' => e = .returned (.tuple #[]) ∧ MapL Try.prog tKey mkKey mkWait w' b (((o, d), ((o, d), 1, nearI now + 1, false)) :: without E (o, d)) ∧ w.grownBy w' (some b) := by
  have HM := Lib.hid hm
  obtain ⟨l, hl⟩ := key_chk hk
  have HL := Lib.hid hl
  have HC := Lib.hid (show ∀ W, Calls Try.prog 11 #[.agg #[.int .i64 o, .int .i64 d]] W fun e w' => e = .returned (.bool true) ∧ Below W.heap.size W w' from fun W => by have := check_any o d W; rw [show chk o d = true from hk] at this; exact this)
  have hlt := World.block_lt_of_cell? w _ hc
  simp only [] at hlt
  clear hm hl hk
  go_enter Try.func13, Try.ntmps13
  go_wp2_with fail
  refine (nonep_any _ a b (((below_alloc w _).cell hlt).trans hc)).mono ?_
  rintro e w0 ⟨rfl, hw⟩; subst hw
  go_wp2_with fail
  refine (HC.out _).mono ?_
  rintro e w1 ⟨rfl, hb⟩
  have HB := Lib.hid (bch (below_alloc w _) hb (by simp))
  obtain ⟨k0, k1, hz⟩ := cells2 hb
  have hca := (HB.out.cell hlt).trans hc
  have hza : a < w1.heap.size := by omega
  clear hb hc
  have HMK := Lib.hid (HM.out.below HB.out)
  have G1 := fun W => flip_calls (gap_any 1 W (by omega) (by omega))
  have G2 := fun W => flip_calls (after_any now 1 W (by omega) (by omega))
  rw [show gapI 1 = 1 from rfl] at G1
  go_wp2_with fail
  refine wp_region_still_tail 10 (by kernel_rfl) (by kernel_rfl) ?_
  simp only [List.take_succ_cons, List.take_zero, List.drop_succ_cons, List.drop_zero]
  iterate 7 still_step
  still_call (G1 _)
  still_call (G2 _)
  still_step
  refine wpStill_nil ?_
  change wpList _ _ _ _ _ w1.drew
  refine wpList_storeL _ rfl (.tmp 16) (.tmp 17) (.tmp 22) tMapW rfl tKey tWait lawKey mapW b E rfl (HMK.out.block rfl) (by unfold maxLen; omega) (o, d) ((o, d), 1, nearI now + 1, false) rfl rfl HL.out (mkKey_inj _) ?_
  intro w2 hm2 ht2
  go_wp2_with fail
  go_end0
  exact ⟨rfl, hm2, (grown_of_below (below_drew1 HB.out) (some b)).andThen ht2.grown (fun j hj => .inr (by cases hj; rfl))⟩
set_option maxHeartbeats 1000000 in
theorem due_store (w : World) (a b : Nat) (E : List ((Int × Int) × W5)) (o d : Int) (now : Int) (hc : w.cell? ⟨a, 0, none⟩ = some (.map (some b))) (hm : MapL Try.prog tKey mkKey mkWait w b E) (hE : E.length < 100000) (hk : chkB (o, d) = true) :
    Calls Try.prog 17 #[.pointer (some ⟨a, 0, none⟩), .agg #[.int .i64 o, .int .i64 d], .int .i64 now] w fun e w' => e = .returned (.tuple #[]) ∧ MapL Try.prog tKey mkKey mkWait w' b (((o, d), ((o, d), 0, nearI now, false)) :: without E (o, d)) ∧ w.grownBy w' (some b) := by
  have HM := Lib.hid hm
  obtain ⟨l, hl⟩ := key_chk hk
  have HL := Lib.hid hl
  have HC := Lib.hid (show ∀ W, Calls Try.prog 11 #[.agg #[.int .i64 o, .int .i64 d]] W fun e w' => e = .returned (.bool true) ∧ Below W.heap.size W w' from fun W => by have := check_any o d W; rw [show chk o d = true from hk] at this; exact this)
  have hlt := World.block_lt_of_cell? w _ hc
  simp only [] at hlt
  clear hm hl hk
  go_enter Try.func17, Try.ntmps17
  go_wp2_with fail
  refine (nonep_any _ a b (((below_alloc w _).cell hlt).trans hc)).mono ?_
  rintro e w0 ⟨rfl, hw⟩; subst hw
  go_wp2_with fail
  refine (HC.out _).mono ?_
  rintro e w1 ⟨rfl, hb⟩
  have HB := Lib.hid (bch (below_alloc w _) hb (by simp))
  obtain ⟨k0, k1, hz⟩ := cells2 hb
  have hca := (HB.out.cell hlt).trans hc
  have hza : a < w1.heap.size := by omega
  clear hb hc
  have HMK := Lib.hid (HM.out.below HB.out)
  have G2 := fun W => flip_calls (after_any now 0 W (by omega) (by omega))
  rw [Int.add_zero] at G2
  go_wp2_with fail
  refine wp_region_still_tail 9 (by kernel_rfl) (by kernel_rfl) ?_
  simp only [List.take_succ_cons, List.take_zero, List.drop_succ_cons, List.drop_zero]
  iterate 7 still_step
  still_call (G2 _)
  still_step
  refine wpStill_nil ?_
  change wpList _ _ _ _ _ w1.drew
  refine wpList_storeL _ rfl (.tmp 16) (.tmp 17) (.tmp 21) tMapW rfl tKey tWait lawKey mapW b E rfl (HMK.out.block rfl) (by unfold maxLen; omega) (o, d) ((o, d), 0, nearI now, false) rfl rfl HL.out (mkKey_inj _) ?_
  intro w2 hm2 ht2
  go_wp2_with fail
  go_end0
  exact ⟨rfl, hm2, (grown_of_below (below_drew1 HB.out) (some b)).andThen ht2.grown (fun j hj => .inr (by cases hj; rfl))⟩

theorem start_no (w : World) (a b : Nat) (o d : Int) (now : Int) (hc : w.cell? ⟨a, 0, none⟩ = some (.map (some b))) (hk : chkB (o, d) = false) :
    Calls Try.prog 13 #[.pointer (some ⟨a, 0, none⟩), .agg #[.int .i64 o, .int .i64 d], .int .i64 now] w fun e w' => e = .returned (.tuple #[]) ∧ Below w.heap.size w w' := by
  have HC := Lib.hid (show ∀ W, Calls Try.prog 11 #[.agg #[.int .i64 o, .int .i64 d]] W fun e w' => e = .returned (.bool false) ∧ Below W.heap.size W w' from fun W => by have := check_any o d W; rw [show chk o d = false from hk] at this; exact this)
  have hlt := World.block_lt_of_cell? w _ hc
  simp only [] at hlt
  clear hk
  go_enter Try.func13, Try.ntmps13
  go_wp2_with fail
  refine (nonep_any _ a b (((below_alloc w _).cell hlt).trans hc)).mono ?_
  rintro e w0 ⟨rfl, hw⟩; subst hw
  go_wp2_with fail
  refine (HC.out _).mono ?_
  rintro e w1 ⟨rfl, hb⟩
  have HB := Lib.hid (bch (below_alloc w _) hb (by simp))
  clear hb
  go_wp2_with fail
  go_end0
  exact ⟨rfl, HB.out⟩
theorem due_no (w : World) (a b : Nat) (o d : Int) (now : Int) (hc : w.cell? ⟨a, 0, none⟩ = some (.map (some b))) (hk : chkB (o, d) = false) :
    Calls Try.prog 17 #[.pointer (some ⟨a, 0, none⟩), .agg #[.int .i64 o, .int .i64 d], .int .i64 now] w fun e w' => e = .returned (.tuple #[]) ∧ Below w.heap.size w w' := by
  have HC := Lib.hid (show ∀ W, Calls Try.prog 11 #[.agg #[.int .i64 o, .int .i64 d]] W fun e w' => e = .returned (.bool false) ∧ Below W.heap.size W w' from fun W => by have := check_any o d W; rw [show chk o d = false from hk] at this; exact this)
  have hlt := World.block_lt_of_cell? w _ hc
  simp only [] at hlt
  clear hk
  go_enter Try.func17, Try.ntmps17
  go_wp2_with fail
  refine (nonep_any _ a b (((below_alloc w _).cell hlt).trans hc)).mono ?_
  rintro e w0 ⟨rfl, hw⟩; subst hw
  go_wp2_with fail
  refine (HC.out _).mono ?_
  rintro e w1 ⟨rfl, hb⟩
  have HB := Lib.hid (bch (below_alloc w _) hb (by simp))
  clear hb
  go_wp2_with fail
  go_end0
  exact ⟨rfl, HB.out⟩

set_option maxHeartbeats 1000000 in
theorem stop_store (w : World) (a b : Nat) (E : List ((Int × Int) × W5)) (o d : Int) (hc : w.cell? ⟨a, 0, none⟩ = some (.map (some b))) (hm : MapL Try.prog tKey mkKey mkWait w b E) (hk : (-9223372036854775808 ≤ o ∧ o ≤ 9223372036854775807) ∧ (-9223372036854775808 ≤ d ∧ d ≤ 9223372036854775807)) :
    Calls Try.prog 14 #[.pointer (some ⟨a, 0, none⟩), .agg #[.int .i64 o, .int .i64 d]] w fun e w' => e = .returned (.tuple #[]) ∧ MapL Try.prog tKey mkKey mkWait w' b (without E (o, d)) ∧ w.grownBy w' (some b) := by
  have HM := Lib.hid hm
  obtain ⟨l, hl⟩ := key_reads (o, d) hk
  have HL := Lib.hid hl
  have hlt := World.block_lt_of_cell? w _ hc
  simp only [] at hlt
  clear hm hl hk
  go_enter Try.func14, Try.ntmps14
  go_wp2_with fail
  refine (nonep_any _ a b (((below_alloc w _).cell hlt).trans hc)).mono ?_
  rintro e w0 ⟨rfl, hw⟩; subst hw
  have HB := Lib.hid (below_alloc w (.cells #[.int .i64 o, .int .i64 d] tKey))
  have hca := (HB.out.cell hlt).trans hc
  have hkb := heap_new w (.cells #[.int .i64 o, .int .i64 d] tKey)
  obtain ⟨k0, k1, _, _⟩ := cell2 hkb
  have hz := heap_lt hkb
  have HMK := Lib.hid (HM.out.below HB.out)
  clear hkb hc
  generalize w.alloc (.cells #[.int .i64 o, .int .i64 d] tKey) = w1 at HB hca k0 k1 hz HMK ⊢
  go_wp2_with fail
  refine wp_region_still_tail 5 (by kernel_rfl) (by kernel_rfl) ?_
  simp only [List.take_succ_cons, List.take_zero, List.drop_succ_cons, List.drop_zero]
  iterate 5 still_step
  refine wpStill_nil ?_
  change wpList _ _ _ _ _ w1.drew
  refine wpList_deleteL _ rfl (.tmp 10) (.tmp 11) tMapW tKey rfl tWait lawKey mapW b E rfl (HMK.out.block rfl) (o, d) rfl HL.out (mkKey_inj _) ?_
  intro w2 hm2 ht2
  go_wp2_with fail
  go_end0
  exact ⟨rfl, hm2, (grown_of_below (below_drew1 HB.out) (some b)).andThen ht2.grown (fun j hj => .inr (by cases hj; rfl))⟩

set_option maxHeartbeats 1000000 in
theorem new_any (w : World) : Calls Try.prog 12 #[] w fun e w' => ∃ a b, e = .returned (.pointer (some ⟨a, 0, none⟩)) ∧ w'.heap[a]? = some (.cells #[.map (some b)] 56 (0, 0)) ∧ MapL Try.prog tKey mkKey mkWait w' b [] ∧ w.heap.size ≤ a ∧ w.heap.size ≤ b ∧ a ≠ b ∧ Below w.heap.size w w' := by
  have hmm := @run_makeMap Try.prog
  go_enter Try.func12, Try.ntmps12
  go_wp2_with fail
  go_ret
  refine ⟨w.heap.size + 1, w.heap.size, rfl, ?_, (MapL.made _ _ _ _ w).alloc _, by omega, Nat.le_refl _, by omega, (below_alloc w _).alloc (by simp) _⟩
  have := heap_new (w.alloc (.map #[] 0)) (.cells #[.map (some w.heap.size)] 56)
  rw [show (w.alloc (.map #[] 0)).heap.size = w.heap.size + 1 by simp] at this
  exact this
end Go.Proofs.Ytiapahafaoaniaa

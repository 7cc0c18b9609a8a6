/- law16: asked, the chapter's warehouse. -/
import Derived.Test.YtkmpagijdhhinaaDoorPartyRun
import Derived.Test.YtkmpagijdhhinaaDoorOrdersCheck
namespace Go.Proofs.YtkmpagijdhhinaaDoor
open Go.RowKit Go.Maps Key Od Pa

theorem refOCheck_nut (w : World) (o : Int) (ho : 1 ≤ o ∧ o ≤ 60) : Calls Tryd.prog 43 #[.agg #[.int .i64 o, .string ⟨#[114]⟩, .string ⟨#[110, 117, 116]⟩, .int .i64 4, .int .i64 300]] w fun e w' => e = .returned (.int .i64 0) ∧ Below w.heap.size w w' := by
  refine (refOCheck_any w o 4 300 ⟨#[110, 117, 116]⟩ ho (by omega) (by omega) (by decide)).mono ?_
  rintro e w' ⟨rfl, hb⟩
  exact ⟨rfl, hb⟩
set_option linter.unusedSimpArgs false in
set_option linter.unusedVariables false in
set_option maxRecDepth 100000 in
set_option maxHeartbeats 4000000 in
theorem refMsg_0 (w : World) (o : Int) (ho : 1 ≤ o ∧ o ≤ 60) : Calls Tryd.prog 62 #[.agg #[.int .i64 o, .string ⟨#[114]⟩, .string ⟨#[110, 117, 116]⟩, .int .i64 4, .int .i64 300], .int .i64 0] w fun e w' => e = .returned (.agg #[.int .i64 1, .int .i64 o, .int .i64 0, .string ⟨#[110, 117, 116]⟩, .int .i64 4, .int .i64 0, .int .i64 0]) ∧ Below w.heap.size w w' := by
  have HM := Lib.hid (heap_keep (heap_new w (.cells #[.int .i64 o, .string ⟨#[114]⟩, .string ⟨#[110, 117, 116]⟩, .int .i64 4, .int .i64 300] tOrder)) (below_alloc _ (.cells #[.int .i64 0, .int .i64 0, .int .i64 0, .string ⟨#[]⟩, .int .i64 0, .int .i64 0, .int .i64 0] tMsg)))
  have hr1 := heap_new (w.alloc (.cells #[.int .i64 o, .string ⟨#[114]⟩, .string ⟨#[110, 117, 116]⟩, .int .i64 4, .int .i64 300] tOrder)) (.cells #[.int .i64 0, .int .i64 0, .int .i64 0, .string ⟨#[]⟩, .int .i64 0, .int .i64 0, .int .i64 0] tMsg)
  rw [show (w.alloc (.cells #[.int .i64 o, .string ⟨#[114]⟩, .string ⟨#[110, 117, 116]⟩, .int .i64 4, .int .i64 300] tOrder)).heap.size = w.heap.size + 1 by simp] at hr1
  have HZ := Lib.hid hr1
  have HB := Lib.hid ((below_alloc w (.cells #[.int .i64 o, .string ⟨#[114]⟩, .string ⟨#[110, 117, 116]⟩, .int .i64 4, .int .i64 300] tOrder)).alloc (by simp) (.cells #[.int .i64 0, .int .i64 0, .int .i64 0, .string ⟨#[]⟩, .int .i64 0, .int .i64 0, .int .i64 0] tMsg))
  have HC := Lib.hid (fun W => refOCheck_nut W o ho)
  have HP := Lib.hid (fun W => (refParty_any 0 W (by unfold Mon.InR; omega)).mono (fun e w' h => (⟨h.1.trans (by rfl), h.2⟩ : e = .returned (.int .i64 1) ∧ W = w')))
  clear hr1 ho
  go_enter Tryd.func62, Tryd.ntmps62
  go_wp2_with fail
  generalize (w.alloc (.cells #[.int .i64 o, .string ⟨#[114]⟩, .string ⟨#[110, 117, 116]⟩, .int .i64 4, .int .i64 300] tOrder)).alloc (.cells #[.int .i64 0, .int .i64 0, .int .i64 0, .string ⟨#[]⟩, .int .i64 0, .int .i64 0, .int .i64 0] tMsg) = wa at HM HZ HB ⊢
  obtain ⟨m0, m1, m2, m3, m4⟩ := cell5 HM.out
  go_wp2_with fail
  refine (HC.out _).mono ?_
  rintro e w1 ⟨rfl, hb⟩
  have HBb := Lib.hid (bch HB.out hb HB.out.size)
  have HMb := Lib.hid (heap_keep HM.out hb)
  have HZb := Lib.hid (heap_keep HZ.out hb)
  clear hb m0 m1 m2 m3 m4
  obtain ⟨m0, m1, m2, m3, m4⟩ := cell5 HMb.out
  obtain ⟨z0, z1, z2, z3, z4, z5, z6⟩ := cell7 HZb.out
  obtain ⟨f0, f1, f2, f3, f4, f5, f6⟩ := froz7 HZb.out
  go_wp2_with fail
  refine (HP.out _).mono ?_
  rintro e w2 ⟨rfl, hw⟩; subst hw
  go_wp2_with fail
  refine (HP.out _).mono ?_
  rintro e w2 ⟨rfl, hw⟩; subst hw
  go_wp2_with fail
  have HH := Lib.hid (fun u (ht : Turned (fun i => i = w.heap.size + 1) w1 u) => (⟨Lib.hid ht, cell_at ((ht.block _ (heap_lt HMb.out) (by omega)).trans HMb.out) 0 rfl, cell_at ((ht.block _ (heap_lt HMb.out) (by omega)).trans HMb.out) 2 rfl, cell_at ((ht.block _ (heap_lt HMb.out) (by omega)).trans HMb.out) 3 rfl⟩ : (fun w' => Hid (Turned (fun i => i = w.heap.size + 1) w1 w') ∧ w'.cell? ⟨w.heap.size, 0, none⟩ = some (.int .i64 o) ∧ w'.cell? ⟨w.heap.size, 2, none⟩ = some (.string ⟨#[110, 117, 116]⟩) ∧ w'.cell? ⟨w.heap.size, 3, none⟩ = some (.int .i64 4)) u))
  clear m0 m1 m2 m3 m4
  have HTu := Lib.hid (turned_set7 w1 (w.heap.size + 1) (.int .i64 1) (.int .i64 o) (.int .i64 0) (.string ⟨#[110, 117, 116]⟩) (.int .i64 4) (.int .i64 0) (.int .i64 0))
  have HSET := Lib.hid (set7d HZb.out (.int .i64 1) (.int .i64 o) (.int .i64 0) (.string ⟨#[110, 117, 116]⟩) (.int .i64 4) (.int .i64 0) (.int .i64 0))
  unfold set7w at HTu HSET
  refine wp_region_noPanic ?_
  refine wp_region_held_drew (S := (fun w' => Hid (Turned (fun i => i = w.heap.size + 1) w1 w') ∧ w'.cell? ⟨w.heap.size, 0, none⟩ = some (.int .i64 o) ∧ w'.cell? ⟨w.heap.size, 2, none⟩ = some (.string ⟨#[110, 117, 116]⟩) ∧ w'.cell? ⟨w.heap.size, 3, none⟩ = some (.int .i64 4))) (by kernel_rfl) (HH.out _ (Turned.of_below (below_drew1 (Below.refl w1.heap.size w1)))) (fun hHeld => ?_)
  refine wpAnyH_take (i := 0) (v := ?vm0) rfl (by kernel_rfl) (by kernel_rfl) (by kernel_rfl) (fun _ _ _ h => h) (Or.inl ⟨by rfl, ?hym0⟩) (by assumption) ?restm0
  case hym0 => (intro w0 hSw; (try dsimp only at hSw); go_simp; try with_reducible rfl)
  case' restm0 => try simp only [Act.put, List.getElem_toArray, List.getElem_cons_zero, List.getElem_cons_succ, List.setIfInBounds_toArray, List.set_cons_zero, List.set_cons_succ]
  refine wpAnyH_take (i := 2) (v := ?vm2) rfl (by kernel_rfl) (by kernel_rfl) (by kernel_rfl) (fun _ _ _ h => h) (Or.inl ⟨by rfl, ?hym2⟩) (by assumption) ?restm2
  case hym2 => (intro w0 hSw; (try dsimp only at hSw); go_simp; try with_reducible rfl)
  case' restm2 => try simp only [Act.put, List.getElem_toArray, List.getElem_cons_zero, List.getElem_cons_succ, List.setIfInBounds_toArray, List.set_cons_zero, List.set_cons_succ]
  refine wpAnyH_take (i := 3) (v := ?vm3) rfl (by kernel_rfl) (by kernel_rfl) (by kernel_rfl) (fun _ _ _ h => h) (Or.inl ⟨by rfl, ?hym3⟩) (by assumption) ?restm3
  case hym3 => (intro w0 hSw; (try dsimp only at hSw); go_simp; try with_reducible rfl)
  case' restm3 => try simp only [Act.put, List.getElem_toArray, List.getElem_cons_zero, List.getElem_cons_succ, List.setIfInBounds_toArray, List.set_cons_zero, List.set_cons_succ]
  refine wpAnyH_take (i := 4) (v := ?vm4) rfl (by kernel_rfl) (by kernel_rfl) (by kernel_rfl) (fun _ _ _ h => h) (Or.inl ⟨by rfl, ?hym4⟩) (by assumption) ?restm4
  case hym4 => (intro w0 hSw; (try dsimp only at hSw); go_simp; try with_reducible rfl)
  case' restm4 => try simp only [Act.put, List.getElem_toArray, List.getElem_cons_zero, List.getElem_cons_succ, List.setIfInBounds_toArray, List.set_cons_zero, List.set_cons_succ]
  refine wpAnyH_take (i := 5) (v := ?vm5) rfl (by kernel_rfl) (by kernel_rfl) (by kernel_rfl) (fun _ _ _ h => h) (Or.inl ⟨by rfl, ?hym5⟩) (by assumption) ?restm5
  case hym5 => (intro w0 hSw; (try dsimp only at hSw); go_simp; try with_reducible rfl)
  case' restm5 => try simp only [Act.put, List.getElem_toArray, List.getElem_cons_zero, List.getElem_cons_succ, List.setIfInBounds_toArray, List.set_cons_zero, List.set_cons_succ]
  refine wpAnyH_take (i := 6) (v := ?vm6) rfl (by kernel_rfl) (by kernel_rfl) (by kernel_rfl) (fun _ _ _ h => h) (Or.inl ⟨by rfl, ?hym6⟩) (by assumption) ?restm6
  case hym6 => (intro w0 hSw; (try dsimp only at hSw); go_simp; try with_reducible rfl)
  case' restm6 => try simp only [Act.put, List.getElem_toArray, List.getElem_cons_zero, List.getElem_cons_succ, List.setIfInBounds_toArray, List.set_cons_zero, List.set_cons_succ]
  refine wpAnyH_take (i := 7) (v := ?vm7) rfl (by kernel_rfl) (by kernel_rfl) (by kernel_rfl) (fun _ _ _ h => h) (Or.inl ⟨by rfl, ?hym7⟩) (by assumption) ?restm7
  case hym7 => (intro w0 hSw; (try dsimp only at hSw); go_simp; try with_reducible rfl)
  case' restm7 => try simp only [Act.put, List.getElem_toArray, List.getElem_cons_zero, List.getElem_cons_succ, List.setIfInBounds_toArray, List.set_cons_zero, List.set_cons_succ]
  refine wpAnyH_take (i := 8) (v := ?vm8) rfl (by kernel_rfl) (by kernel_rfl) (by kernel_rfl) (fun _ _ _ h => h) (Or.inl ⟨by rfl, ?hym8⟩) (by assumption) ?restm8
  case hym8 => (intro w0 hSw; (try dsimp only at hSw); go_simp; try with_reducible rfl)
  case' restm8 => try simp only [Act.put, List.getElem_toArray, List.getElem_cons_zero, List.getElem_cons_succ, List.setIfInBounds_toArray, List.set_cons_zero, List.set_cons_succ]
  refine wpAnyH_take (i := 9) (v := ?vm9) rfl (by kernel_rfl) (by kernel_rfl) (by kernel_rfl) (fun _ _ _ h => h) (Or.inl ⟨by rfl, ?hym9⟩) (by assumption) ?restm9
  case hym9 => (intro w0 hSw; (try dsimp only at hSw); go_simp; try with_reducible rfl)
  case' restm9 => try simp only [Act.put, List.getElem_toArray, List.getElem_cons_zero, List.getElem_cons_succ, List.setIfInBounds_toArray, List.set_cons_zero, List.set_cons_succ]
  refine wpAnyH_ready (rs := [1]) (by kernel_rfl) (by simp) ?_
  refine AllReadyH.cons rfl (fun K hK => ?_) AllReadyH.nil
  go_simp
  refine (HP.out _).mono ?_; rintro e w2 ⟨rfl, hw⟩; subst hw
  refine hK.out _ _ (by assumption) (fun hHeld => ?_)
  clear hK K
  try simp only [Act.put, List.getElem_toArray, List.getElem_cons_zero, List.getElem_cons_succ, List.setIfInBounds_toArray, List.set_cons_zero, List.set_cons_succ]
  refine wpAnyH_take (i := 10) (v := ?vm10) rfl (by kernel_rfl) (by kernel_rfl) (by kernel_rfl) (fun _ _ _ h => h) (Or.inl ⟨by rfl, ?hym10⟩) (by assumption) ?restm10
  case hym10 => (intro w0 hSw; (try dsimp only at hSw); go_simp; try with_reducible rfl)
  case' restm10 => try simp only [Act.put, List.getElem_toArray, List.getElem_cons_zero, List.getElem_cons_succ, List.setIfInBounds_toArray, List.set_cons_zero, List.set_cons_succ]
  refine wpAnyH_ready (rs := [11]) (by kernel_rfl) (by simp) ?_
  refine AllReadyH.cons rfl (fun K hK => ?_) AllReadyH.nil
  go_simp
  refine hK.out _ _ (HH.out _ (Turned.drew HTu.out)) (fun hHeld => ?_)
  clear hK K
  try simp only [Act.put, List.getElem_toArray, List.getElem_cons_zero, List.getElem_cons_succ, List.setIfInBounds_toArray, List.set_cons_zero, List.set_cons_succ]
  refine wpAnyH_done (by kernel_rfl) ?_ _
  refine NoPanic.normal ?_
  go_wp2_with fail
  obtain ⟨y0, y1, y2, y3, y4, y5, y6⟩ := cell7 HSET.out
  clear z0 z1 z2 z3 z4 z5 z6 f0 f1 f2 f3 f4 f5 f6 hHeld
  refine bodyPost_ret (v := .agg #[.int .i64 1, .int .i64 o, .int .i64 0, .string ⟨#[110, 117, 116]⟩, .int .i64 4, .int .i64 0, .int .i64 0]) ?_ rfl ⟨rfl, ?_⟩
  · clear HTu HSET
    simp [results, Tryd.results62, go_sem, y0, y1, y2, y3, y4, y5, y6]
  · exact Below.turned HBb.out (Turned.drew HTu.out) (fun i hi => by omega) HBb.out.size
set_option linter.unusedSimpArgs false in
set_option linter.unusedVariables false in
set_option maxRecDepth 100000 in
set_option maxHeartbeats 4000000 in
theorem refMsg_3 (w : World) (o : Int) (ho : 1 ≤ o ∧ o ≤ 60) : Calls Tryd.prog 62 #[.agg #[.int .i64 o, .string ⟨#[114]⟩, .string ⟨#[110, 117, 116]⟩, .int .i64 4, .int .i64 300], .int .i64 3] w fun e w' => e = .returned (.agg #[.int .i64 1, .int .i64 o, .int .i64 3, .string ⟨#[110, 117, 116]⟩, .int .i64 4, .int .i64 0, .int .i64 0]) ∧ Below w.heap.size w w' := by
  have HM := Lib.hid (heap_keep (heap_new w (.cells #[.int .i64 o, .string ⟨#[114]⟩, .string ⟨#[110, 117, 116]⟩, .int .i64 4, .int .i64 300] tOrder)) (below_alloc _ (.cells #[.int .i64 0, .int .i64 0, .int .i64 0, .string ⟨#[]⟩, .int .i64 0, .int .i64 0, .int .i64 0] tMsg)))
  have hr1 := heap_new (w.alloc (.cells #[.int .i64 o, .string ⟨#[114]⟩, .string ⟨#[110, 117, 116]⟩, .int .i64 4, .int .i64 300] tOrder)) (.cells #[.int .i64 0, .int .i64 0, .int .i64 0, .string ⟨#[]⟩, .int .i64 0, .int .i64 0, .int .i64 0] tMsg)
  rw [show (w.alloc (.cells #[.int .i64 o, .string ⟨#[114]⟩, .string ⟨#[110, 117, 116]⟩, .int .i64 4, .int .i64 300] tOrder)).heap.size = w.heap.size + 1 by simp] at hr1
  have HZ := Lib.hid hr1
  have HB := Lib.hid ((below_alloc w (.cells #[.int .i64 o, .string ⟨#[114]⟩, .string ⟨#[110, 117, 116]⟩, .int .i64 4, .int .i64 300] tOrder)).alloc (by simp) (.cells #[.int .i64 0, .int .i64 0, .int .i64 0, .string ⟨#[]⟩, .int .i64 0, .int .i64 0, .int .i64 0] tMsg))
  have HC := Lib.hid (fun W => refOCheck_nut W o ho)
  have HP := Lib.hid (fun W => (refParty_any 3 W (by unfold Mon.InR; omega)).mono (fun e w' h => (⟨h.1.trans (by rfl), h.2⟩ : e = .returned (.int .i64 1) ∧ W = w')))
  clear hr1 ho
  go_enter Tryd.func62, Tryd.ntmps62
  go_wp2_with fail
  generalize (w.alloc (.cells #[.int .i64 o, .string ⟨#[114]⟩, .string ⟨#[110, 117, 116]⟩, .int .i64 4, .int .i64 300] tOrder)).alloc (.cells #[.int .i64 0, .int .i64 0, .int .i64 0, .string ⟨#[]⟩, .int .i64 0, .int .i64 0, .int .i64 0] tMsg) = wa at HM HZ HB ⊢
  obtain ⟨m0, m1, m2, m3, m4⟩ := cell5 HM.out
  go_wp2_with fail
  refine (HC.out _).mono ?_
  rintro e w1 ⟨rfl, hb⟩
  have HBb := Lib.hid (bch HB.out hb HB.out.size)
  have HMb := Lib.hid (heap_keep HM.out hb)
  have HZb := Lib.hid (heap_keep HZ.out hb)
  clear hb m0 m1 m2 m3 m4
  obtain ⟨m0, m1, m2, m3, m4⟩ := cell5 HMb.out
  obtain ⟨z0, z1, z2, z3, z4, z5, z6⟩ := cell7 HZb.out
  obtain ⟨f0, f1, f2, f3, f4, f5, f6⟩ := froz7 HZb.out
  go_wp2_with fail
  refine (HP.out _).mono ?_
  rintro e w2 ⟨rfl, hw⟩; subst hw
  go_wp2_with fail
  refine (HP.out _).mono ?_
  rintro e w2 ⟨rfl, hw⟩; subst hw
  go_wp2_with fail
  have HH := Lib.hid (fun u (ht : Turned (fun i => i = w.heap.size + 1) w1 u) => (⟨Lib.hid ht, cell_at ((ht.block _ (heap_lt HMb.out) (by omega)).trans HMb.out) 0 rfl, cell_at ((ht.block _ (heap_lt HMb.out) (by omega)).trans HMb.out) 2 rfl, cell_at ((ht.block _ (heap_lt HMb.out) (by omega)).trans HMb.out) 3 rfl⟩ : (fun w' => Hid (Turned (fun i => i = w.heap.size + 1) w1 w') ∧ w'.cell? ⟨w.heap.size, 0, none⟩ = some (.int .i64 o) ∧ w'.cell? ⟨w.heap.size, 2, none⟩ = some (.string ⟨#[110, 117, 116]⟩) ∧ w'.cell? ⟨w.heap.size, 3, none⟩ = some (.int .i64 4)) u))
  clear m0 m1 m2 m3 m4
  have HTu := Lib.hid (turned_set7 w1 (w.heap.size + 1) (.int .i64 1) (.int .i64 o) (.int .i64 3) (.string ⟨#[110, 117, 116]⟩) (.int .i64 4) (.int .i64 0) (.int .i64 0))
  have HSET := Lib.hid (set7d HZb.out (.int .i64 1) (.int .i64 o) (.int .i64 3) (.string ⟨#[110, 117, 116]⟩) (.int .i64 4) (.int .i64 0) (.int .i64 0))
  unfold set7w at HTu HSET
  refine wp_region_noPanic ?_
  refine wp_region_held_drew (S := (fun w' => Hid (Turned (fun i => i = w.heap.size + 1) w1 w') ∧ w'.cell? ⟨w.heap.size, 0, none⟩ = some (.int .i64 o) ∧ w'.cell? ⟨w.heap.size, 2, none⟩ = some (.string ⟨#[110, 117, 116]⟩) ∧ w'.cell? ⟨w.heap.size, 3, none⟩ = some (.int .i64 4))) (by kernel_rfl) (HH.out _ (Turned.of_below (below_drew1 (Below.refl w1.heap.size w1)))) (fun hHeld => ?_)
  refine wpAnyH_take (i := 0) (v := ?vm0) rfl (by kernel_rfl) (by kernel_rfl) (by kernel_rfl) (fun _ _ _ h => h) (Or.inl ⟨by rfl, ?hym0⟩) (by assumption) ?restm0
  case hym0 => (intro w0 hSw; (try dsimp only at hSw); go_simp; try with_reducible rfl)
  case' restm0 => try simp only [Act.put, List.getElem_toArray, List.getElem_cons_zero, List.getElem_cons_succ, List.setIfInBounds_toArray, List.set_cons_zero, List.set_cons_succ]
  refine wpAnyH_take (i := 2) (v := ?vm2) rfl (by kernel_rfl) (by kernel_rfl) (by kernel_rfl) (fun _ _ _ h => h) (Or.inl ⟨by rfl, ?hym2⟩) (by assumption) ?restm2
  case hym2 => (intro w0 hSw; (try dsimp only at hSw); go_simp; try with_reducible rfl)
  case' restm2 => try simp only [Act.put, List.getElem_toArray, List.getElem_cons_zero, List.getElem_cons_succ, List.setIfInBounds_toArray, List.set_cons_zero, List.set_cons_succ]
  refine wpAnyH_take (i := 3) (v := ?vm3) rfl (by kernel_rfl) (by kernel_rfl) (by kernel_rfl) (fun _ _ _ h => h) (Or.inl ⟨by rfl, ?hym3⟩) (by assumption) ?restm3
  case hym3 => (intro w0 hSw; (try dsimp only at hSw); go_simp; try with_reducible rfl)
  case' restm3 => try simp only [Act.put, List.getElem_toArray, List.getElem_cons_zero, List.getElem_cons_succ, List.setIfInBounds_toArray, List.set_cons_zero, List.set_cons_succ]
  refine wpAnyH_take (i := 4) (v := ?vm4) rfl (by kernel_rfl) (by kernel_rfl) (by kernel_rfl) (fun _ _ _ h => h) (Or.inl ⟨by rfl, ?hym4⟩) (by assumption) ?restm4
  case hym4 => (intro w0 hSw; (try dsimp only at hSw); go_simp; try with_reducible rfl)
  case' restm4 => try simp only [Act.put, List.getElem_toArray, List.getElem_cons_zero, List.getElem_cons_succ, List.setIfInBounds_toArray, List.set_cons_zero, List.set_cons_succ]
  refine wpAnyH_take (i := 5) (v := ?vm5) rfl (by kernel_rfl) (by kernel_rfl) (by kernel_rfl) (fun _ _ _ h => h) (Or.inl ⟨by rfl, ?hym5⟩) (by assumption) ?restm5
  case hym5 => (intro w0 hSw; (try dsimp only at hSw); go_simp; try with_reducible rfl)
  case' restm5 => try simp only [Act.put, List.getElem_toArray, List.getElem_cons_zero, List.getElem_cons_succ, List.setIfInBounds_toArray, List.set_cons_zero, List.set_cons_succ]
  refine wpAnyH_take (i := 6) (v := ?vm6) rfl (by kernel_rfl) (by kernel_rfl) (by kernel_rfl) (fun _ _ _ h => h) (Or.inl ⟨by rfl, ?hym6⟩) (by assumption) ?restm6
  case hym6 => (intro w0 hSw; (try dsimp only at hSw); go_simp; try with_reducible rfl)
  case' restm6 => try simp only [Act.put, List.getElem_toArray, List.getElem_cons_zero, List.getElem_cons_succ, List.setIfInBounds_toArray, List.set_cons_zero, List.set_cons_succ]
  refine wpAnyH_take (i := 7) (v := ?vm7) rfl (by kernel_rfl) (by kernel_rfl) (by kernel_rfl) (fun _ _ _ h => h) (Or.inl ⟨by rfl, ?hym7⟩) (by assumption) ?restm7
  case hym7 => (intro w0 hSw; (try dsimp only at hSw); go_simp; try with_reducible rfl)
  case' restm7 => try simp only [Act.put, List.getElem_toArray, List.getElem_cons_zero, List.getElem_cons_succ, List.setIfInBounds_toArray, List.set_cons_zero, List.set_cons_succ]
  refine wpAnyH_take (i := 8) (v := ?vm8) rfl (by kernel_rfl) (by kernel_rfl) (by kernel_rfl) (fun _ _ _ h => h) (Or.inl ⟨by rfl, ?hym8⟩) (by assumption) ?restm8
  case hym8 => (intro w0 hSw; (try dsimp only at hSw); go_simp; try with_reducible rfl)
  case' restm8 => try simp only [Act.put, List.getElem_toArray, List.getElem_cons_zero, List.getElem_cons_succ, List.setIfInBounds_toArray, List.set_cons_zero, List.set_cons_succ]
  refine wpAnyH_take (i := 9) (v := ?vm9) rfl (by kernel_rfl) (by kernel_rfl) (by kernel_rfl) (fun _ _ _ h => h) (Or.inl ⟨by rfl, ?hym9⟩) (by assumption) ?restm9
  case hym9 => (intro w0 hSw; (try dsimp only at hSw); go_simp; try with_reducible rfl)
  case' restm9 => try simp only [Act.put, List.getElem_toArray, List.getElem_cons_zero, List.getElem_cons_succ, List.setIfInBounds_toArray, List.set_cons_zero, List.set_cons_succ]
  refine wpAnyH_ready (rs := [1]) (by kernel_rfl) (by simp) ?_
  refine AllReadyH.cons rfl (fun K hK => ?_) AllReadyH.nil
  go_simp
  refine (HP.out _).mono ?_; rintro e w2 ⟨rfl, hw⟩; subst hw
  refine hK.out _ _ (by assumption) (fun hHeld => ?_)
  clear hK K
  try simp only [Act.put, List.getElem_toArray, List.getElem_cons_zero, List.getElem_cons_succ, List.setIfInBounds_toArray, List.set_cons_zero, List.set_cons_succ]
  refine wpAnyH_take (i := 10) (v := ?vm10) rfl (by kernel_rfl) (by kernel_rfl) (by kernel_rfl) (fun _ _ _ h => h) (Or.inl ⟨by rfl, ?hym10⟩) (by assumption) ?restm10
  case hym10 => (intro w0 hSw; (try dsimp only at hSw); go_simp; try with_reducible rfl)
  case' restm10 => try simp only [Act.put, List.getElem_toArray, List.getElem_cons_zero, List.getElem_cons_succ, List.setIfInBounds_toArray, List.set_cons_zero, List.set_cons_succ]
  refine wpAnyH_ready (rs := [11]) (by kernel_rfl) (by simp) ?_
  refine AllReadyH.cons rfl (fun K hK => ?_) AllReadyH.nil
  go_simp
  refine hK.out _ _ (HH.out _ (Turned.drew HTu.out)) (fun hHeld => ?_)
  clear hK K
  try simp only [Act.put, List.getElem_toArray, List.getElem_cons_zero, List.getElem_cons_succ, List.setIfInBounds_toArray, List.set_cons_zero, List.set_cons_succ]
  refine wpAnyH_done (by kernel_rfl) ?_ _
  refine NoPanic.normal ?_
  go_wp2_with fail
  obtain ⟨y0, y1, y2, y3, y4, y5, y6⟩ := cell7 HSET.out
  clear z0 z1 z2 z3 z4 z5 z6 f0 f1 f2 f3 f4 f5 f6 hHeld
  refine bodyPost_ret (v := .agg #[.int .i64 1, .int .i64 o, .int .i64 3, .string ⟨#[110, 117, 116]⟩, .int .i64 4, .int .i64 0, .int .i64 0]) ?_ rfl ⟨rfl, ?_⟩
  · clear HTu HSET
    simp [results, Tryd.results62, go_sem, y0, y1, y2, y3, y4, y5, y6]
  · exact Below.turned HBb.out (Turned.drew HTu.out) (fun i hi => by omega) HBb.out.size
set_option linter.unusedSimpArgs false in
set_option linter.unusedVariables false in
set_option maxRecDepth 100000 in
set_option maxHeartbeats 4000000 in
theorem ask16_0 (w : World) (o : Int) (ho : 1 ≤ o ∧ o ≤ 60) : Calls Tryd.prog 51 #[.int .i64 o, .int .i64 0] w fun e w' => e = .returned (.agg #[.int .i64 1, .int .i64 o, .int .i64 0, .string ⟨#[110, 117, 116]⟩, .int .i64 4, .int .i64 0, .int .i64 0]) ∧ Below w.heap.size w w' := by
  have HZ := Lib.hid (heap_new w (.cells #[.int .i64 0, .int .i64 0, .int .i64 0, .string ⟨#[]⟩, .int .i64 0, .int .i64 0, .int .i64 0] tMsg))
  have HB := Lib.hid (below_alloc w (.cells #[.int .i64 0, .int .i64 0, .int .i64 0, .string ⟨#[]⟩, .int .i64 0, .int .i64 0, .int .i64 0] tMsg))
  have HC := Lib.hid (fun W => refMsg_0 W o ho)
  clear ho
  go_enter Tryd.func51, Tryd.ntmps51
  go_wp2_with fail
  generalize w.alloc (.cells #[.int .i64 0, .int .i64 0, .int .i64 0, .string ⟨#[]⟩, .int .i64 0, .int .i64 0, .int .i64 0] tMsg) = wa at HZ HB ⊢
  refine (HC.out _).mono ?_
  rintro e w1 ⟨rfl, hb⟩
  have HB1 := Lib.hid (bch HB.out hb HB.out.size)
  have HZ1 := Lib.hid (heap_keep HZ.out hb)
  clear hb
  obtain ⟨z0, z1, z2, z3, z4, z5, z6⟩ := cell7 HZ1.out
  obtain ⟨f0, f1, f2, f3, f4, f5, f6⟩ := froz7 HZ1.out
  have HTu := Lib.hid (turned_set7 w1 w.heap.size (.int .i64 1) (.int .i64 o) (.int .i64 0) (.string ⟨#[110, 117, 116]⟩) (.int .i64 4) (.int .i64 0) (.int .i64 0))
  have HSET := Lib.hid (set7 HZ1.out (.int .i64 1) (.int .i64 o) (.int .i64 0) (.string ⟨#[110, 117, 116]⟩) (.int .i64 4) (.int .i64 0) (.int .i64 0))
  unfold set7w at HTu HSET
  go_wp2_with fail
  obtain ⟨y0, y1, y2, y3, y4, y5, y6⟩ := cell7 HSET.out
  clear z0 z1 z2 z3 z4 z5 z6 f0 f1 f2 f3 f4 f5 f6
  refine bodyPost_ret (v := .agg #[.int .i64 1, .int .i64 o, .int .i64 0, .string ⟨#[110, 117, 116]⟩, .int .i64 4, .int .i64 0, .int .i64 0]) ?_ rfl ⟨rfl, ?_⟩
  · clear HTu HSET
    simp [results, Tryd.results51, go_sem, y0, y1, y2, y3, y4, y5, y6]
  · exact Below.turned HB1.out HTu.out (fun i hi => by omega) HB1.out.size
set_option linter.unusedSimpArgs false in
set_option linter.unusedVariables false in
set_option maxRecDepth 100000 in
set_option maxHeartbeats 4000000 in
theorem ask16_3 (w : World) (o : Int) (ho : 1 ≤ o ∧ o ≤ 60) : Calls Tryd.prog 51 #[.int .i64 o, .int .i64 3] w fun e w' => e = .returned (.agg #[.int .i64 1, .int .i64 o, .int .i64 3, .string ⟨#[110, 117, 116]⟩, .int .i64 4, .int .i64 0, .int .i64 0]) ∧ Below w.heap.size w w' := by
  have HZ := Lib.hid (heap_new w (.cells #[.int .i64 0, .int .i64 0, .int .i64 0, .string ⟨#[]⟩, .int .i64 0, .int .i64 0, .int .i64 0] tMsg))
  have HB := Lib.hid (below_alloc w (.cells #[.int .i64 0, .int .i64 0, .int .i64 0, .string ⟨#[]⟩, .int .i64 0, .int .i64 0, .int .i64 0] tMsg))
  have HC := Lib.hid (fun W => refMsg_3 W o ho)
  clear ho
  go_enter Tryd.func51, Tryd.ntmps51
  go_wp2_with fail
  generalize w.alloc (.cells #[.int .i64 0, .int .i64 0, .int .i64 0, .string ⟨#[]⟩, .int .i64 0, .int .i64 0, .int .i64 0] tMsg) = wa at HZ HB ⊢
  refine (HC.out _).mono ?_
  rintro e w1 ⟨rfl, hb⟩
  have HB1 := Lib.hid (bch HB.out hb HB.out.size)
  have HZ1 := Lib.hid (heap_keep HZ.out hb)
  clear hb
  obtain ⟨z0, z1, z2, z3, z4, z5, z6⟩ := cell7 HZ1.out
  obtain ⟨f0, f1, f2, f3, f4, f5, f6⟩ := froz7 HZ1.out
  have HTu := Lib.hid (turned_set7 w1 w.heap.size (.int .i64 1) (.int .i64 o) (.int .i64 3) (.string ⟨#[110, 117, 116]⟩) (.int .i64 4) (.int .i64 0) (.int .i64 0))
  have HSET := Lib.hid (set7 HZ1.out (.int .i64 1) (.int .i64 o) (.int .i64 3) (.string ⟨#[110, 117, 116]⟩) (.int .i64 4) (.int .i64 0) (.int .i64 0))
  unfold set7w at HTu HSET
  go_wp2_with fail
  obtain ⟨y0, y1, y2, y3, y4, y5, y6⟩ := cell7 HSET.out
  clear z0 z1 z2 z3 z4 z5 z6 f0 f1 f2 f3 f4 f5 f6
  refine bodyPost_ret (v := .agg #[.int .i64 1, .int .i64 o, .int .i64 3, .string ⟨#[110, 117, 116]⟩, .int .i64 4, .int .i64 0, .int .i64 0]) ?_ rfl ⟨rfl, ?_⟩
  · clear HTu HSET
    simp [results, Tryd.results51, go_sem, y0, y1, y2, y3, y4, y5, y6]
  · exact Below.turned HB1.out HTu.out (fun i hi => by omega) HB1.out.size
set_option linter.unusedSimpArgs false in
set_option linter.unusedVariables false in
set_option maxRecDepth 100000 in
set_option maxHeartbeats 4000000 in
theorem answers_0 (w wr : World) (p bk tk wh m : Nat) (seq : Int) (st st' : St) (o c : Int) (h : Pl w wr p bk tk wh 1 5 0 seq m st) (hm : m ≤ 100) (ho : 1 ≤ o ∧ o ≤ 60) (ha : ansS 1 5 0 st ⟨1, o, 0, [110, 117, 116], 4, 0, 0⟩ = some c) (hs : askS 1 5 0 st ⟨1, o, 0, [110, 117, 116], 4, 0, 0⟩ = st') :
    Calls Tryd.prog 25 #[.pointer (some ⟨p, 0, none⟩), .int .i64 o, .int .i64 0, .int .i64 c] wr fun e w' => e = .returned (.bool true) ∧ Pl w w' p bk tk wh 1 5 0 seq (m + 1) st' := by
  have HP := Lib.hid h
  have HC := Lib.hid (fun W => ask16_0 W o ho)
  have HA := Lib.hid (fun W (h' : Pl w W p bk tk wh 1 5 0 seq m st) => (h'.ask (by omega) 1 o 0 ⟨#[110, 117, 116]⟩ 4 0 0 (by decide)).mono (fun e w' h => (⟨h.1.trans (by
    show Ending.returned (.tuple #[ansM o 0 (ansS 1 5 0 st ⟨1, o, 0, [110, 117, 116], 4, 0, 0⟩), .bool (ansS 1 5 0 st ⟨1, o, 0, [110, 117, 116], 4, 0, 0⟩).isSome]) = _
    rw [ha]; rfl), by rw [← hs]; exact h.2.1⟩ : e = .returned (.tuple #[.agg #[.int .i64 3, .int .i64 o, .int .i64 0, .string ⟨#[]⟩, .int .i64 0, .int .i64 0, .int .i64 c], .bool true]) ∧ Pl w w' p bk tk wh 1 5 0 seq (m + 1) st')))
  clear h ho ha hs
  go_enter Tryd.func25, Tryd.ntmps25
  go_wp2_with fail
  refine (HC.out _).mono ?_
  rintro e w1 ⟨rfl, hb⟩
  have HP1 := Lib.hid (HP.out.keep hb)
  clear hb
  go_wp2_with fail
  refine (HA.out _ HP1.out).mono ?_
  rintro e w2 ⟨rfl, hp⟩
  have HP2 := Lib.hid hp
  clear hp
  go_wp2_with fail
  go_ret
  exact ⟨rfl, HP2.out.keep (below_alloc _ _)⟩
set_option linter.unusedSimpArgs false in
set_option linter.unusedVariables false in
set_option maxRecDepth 100000 in
set_option maxHeartbeats 4000000 in
theorem answers_3 (w wr : World) (p bk tk wh m : Nat) (seq : Int) (st st' : St) (o c : Int) (h : Pl w wr p bk tk wh 1 5 0 seq m st) (hm : m ≤ 100) (ho : 1 ≤ o ∧ o ≤ 60) (ha : ansS 1 5 0 st ⟨1, o, 3, [110, 117, 116], 4, 0, 0⟩ = some c) (hs : askS 1 5 0 st ⟨1, o, 3, [110, 117, 116], 4, 0, 0⟩ = st') :
    Calls Tryd.prog 25 #[.pointer (some ⟨p, 0, none⟩), .int .i64 o, .int .i64 3, .int .i64 c] wr fun e w' => e = .returned (.bool true) ∧ Pl w w' p bk tk wh 1 5 0 seq (m + 1) st' := by
  have HP := Lib.hid h
  have HC := Lib.hid (fun W => ask16_3 W o ho)
  have HA := Lib.hid (fun W (h' : Pl w W p bk tk wh 1 5 0 seq m st) => (h'.ask (by omega) 1 o 3 ⟨#[110, 117, 116]⟩ 4 0 0 (by decide)).mono (fun e w' h => (⟨h.1.trans (by
    show Ending.returned (.tuple #[ansM o 3 (ansS 1 5 0 st ⟨1, o, 3, [110, 117, 116], 4, 0, 0⟩), .bool (ansS 1 5 0 st ⟨1, o, 3, [110, 117, 116], 4, 0, 0⟩).isSome]) = _
    rw [ha]; rfl), by rw [← hs]; exact h.2.1⟩ : e = .returned (.tuple #[.agg #[.int .i64 3, .int .i64 o, .int .i64 3, .string ⟨#[]⟩, .int .i64 0, .int .i64 0, .int .i64 c], .bool true]) ∧ Pl w w' p bk tk wh 1 5 0 seq (m + 1) st')))
  clear h ho ha hs
  go_enter Tryd.func25, Tryd.ntmps25
  go_wp2_with fail
  refine (HC.out _).mono ?_
  rintro e w1 ⟨rfl, hb⟩
  have HP1 := Lib.hid (HP.out.keep hb)
  clear hb
  go_wp2_with fail
  refine (HA.out _ HP1.out).mono ?_
  rintro e w2 ⟨rfl, hp⟩
  have HP2 := Lib.hid hp
  clear hp
  go_wp2_with fail
  go_ret
  exact ⟨rfl, HP2.out.keep (below_alloc _ _)⟩
set_option linter.unusedSimpArgs false in
set_option linter.unusedVariables false in
set_option maxRecDepth 100000 in
set_option maxHeartbeats 4000000 in
theorem asked_true (w : World) (hT : PT w) : Calls Tryd.prog 9 #[] w fun e w' => e = .returned (.bool true) ∧ Below w.heap.size w w' := by
  have HN := Lib.hid (Pl.new w hT 1 5 0 (by omega))
  rw [show (min (max (5 : Int) 0) 1000000000) = 5 from rfl] at HN
  clear hT
  go_enter Tryd.func9, Tryd.ntmps9
  go_wp2_with fail
  refine HN.out.mono ?_
  rintro e w1 ⟨p, bk, tk, wh, rfl, hp, _⟩
  have HP := Lib.hid hp
  clear hp HN
  go_wp2_with fail
  refine (answers_0 w _ p bk tk wh 0 0 ⟨[], [], []⟩ ⟨[((1, 0), 1, 0, 4)], [(1, [110, 117, 116], 4)], [(1, [110, 117, 116])]⟩ 1 1 HP.out (by omega) (by omega) (by kernel_rfl) (by kernel_rfl)).mono ?_
  rintro e wa0 ⟨rfl, hp⟩
  clear HP
  have HP := Lib.hid hp
  clear hp
  go_wp2_with fail
  refine (answers_0 w _ p bk tk wh 1 0 ⟨[((1, 0), 1, 0, 4)], [(1, [110, 117, 116], 4)], [(1, [110, 117, 116])]⟩ ⟨[((1, 0), 1, 0, 4)], [(1, [110, 117, 116], 4)], [(1, [110, 117, 116])]⟩ 1 1 HP.out (by omega) (by omega) (by kernel_rfl) (by kernel_rfl)).mono ?_
  rintro e wa1 ⟨rfl, hp⟩
  clear HP
  have HP := Lib.hid hp
  clear hp
  go_wp2_with fail
  refine (answers_0 w _ p bk tk wh 2 0 ⟨[((1, 0), 1, 0, 4)], [(1, [110, 117, 116], 4)], [(1, [110, 117, 116])]⟩ ⟨[((1, 0), 1, 0, 4), ((2, 0), 2, 0, 0)], [(1, [110, 117, 116], 4)], [(1, [110, 117, 116])]⟩ 2 2 HP.out (by omega) (by omega) (by kernel_rfl) (by kernel_rfl)).mono ?_
  rintro e wa2 ⟨rfl, hp⟩
  clear HP
  have HP := Lib.hid hp
  clear hp
  go_wp2_with fail
  refine (HP.out.left ⟨#[110, 117, 116]⟩ (by decide)).mono ?_
  rintro e wa3 ⟨rfl, hb⟩
  have HQ := Lib.hid (HP.out.keep hb)
  clear HP hb
  have HP := Lib.hid HQ.out
  clear HQ
  rw [show leftS 1 5 ⟨[((1, 0), 1, 0, 4), ((2, 0), 2, 0, 0)], [(1, [110, 117, 116], 4)], [(1, [110, 117, 116])]⟩ (((⟨#[110, 117, 116]⟩ : ByteArray)).data.toList) = 1 by kernel_rfl]
  go_wp2_with fail
  refine (answers_3 w _ p bk tk wh 3 0 ⟨[((1, 0), 1, 0, 4), ((2, 0), 2, 0, 0)], [(1, [110, 117, 116], 4)], [(1, [110, 117, 116])]⟩ ⟨[((1, 0), 1, 0, 4), ((1, 3), 1, 0, 4), ((2, 0), 2, 0, 0)], [], [(1, [110, 117, 116])]⟩ 1 1 HP.out (by omega) (by omega) (by kernel_rfl) (by kernel_rfl)).mono ?_
  rintro e wa4 ⟨rfl, hp⟩
  clear HP
  have HP := Lib.hid hp
  clear hp
  go_wp2_with fail
  refine (HP.out.left ⟨#[110, 117, 116]⟩ (by decide)).mono ?_
  rintro e wa5 ⟨rfl, hb⟩
  have HQ := Lib.hid (HP.out.keep hb)
  clear HP hb
  have HP := Lib.hid HQ.out
  clear HQ
  rw [show leftS 1 5 ⟨[((1, 0), 1, 0, 4), ((1, 3), 1, 0, 4), ((2, 0), 2, 0, 0)], [], [(1, [110, 117, 116])]⟩ (((⟨#[110, 117, 116]⟩ : ByteArray)).data.toList) = 5 by kernel_rfl]
  go_wp2_with fail
  refine (answers_0 w _ p bk tk wh 4 0 ⟨[((1, 0), 1, 0, 4), ((1, 3), 1, 0, 4), ((2, 0), 2, 0, 0)], [], [(1, [110, 117, 116])]⟩ ⟨[((1, 0), 1, 0, 4), ((1, 3), 1, 0, 4), ((2, 0), 2, 0, 0)], [], [(1, [110, 117, 116])]⟩ 1 1 HP.out (by omega) (by omega) (by kernel_rfl) (by kernel_rfl)).mono ?_
  rintro e wa6 ⟨rfl, hp⟩
  clear HP
  have HP := Lib.hid hp
  clear hp
  go_wp2_with fail
  refine (HP.out.left ⟨#[110, 117, 116]⟩ (by decide)).mono ?_
  rintro e wa7 ⟨rfl, hb⟩
  have HQ := Lib.hid (HP.out.keep hb)
  clear HP hb
  have HP := Lib.hid HQ.out
  clear HQ
  rw [show leftS 1 5 ⟨[((1, 0), 1, 0, 4), ((1, 3), 1, 0, 4), ((2, 0), 2, 0, 0)], [], [(1, [110, 117, 116])]⟩ (((⟨#[110, 117, 116]⟩ : ByteArray)).data.toList) = 5 by kernel_rfl]
  go_wp2_with fail
  refine (answers_3 w _ p bk tk wh 5 0 ⟨[((1, 0), 1, 0, 4), ((1, 3), 1, 0, 4), ((2, 0), 2, 0, 0)], [], [(1, [110, 117, 116])]⟩ ⟨[((1, 0), 1, 0, 4), ((1, 3), 1, 0, 4), ((2, 0), 2, 0, 0), ((3, 0), 2, 0, 0), ((3, 3), 1, 0, 0)], [], [(1, [110, 117, 116])]⟩ 3 1 HP.out (by omega) (by omega) (by kernel_rfl) (by kernel_rfl)).mono ?_
  rintro e wa8 ⟨rfl, hp⟩
  clear HP
  have HP := Lib.hid hp
  clear hp
  go_wp2_with fail
  refine (answers_0 w _ p bk tk wh 6 0 ⟨[((1, 0), 1, 0, 4), ((1, 3), 1, 0, 4), ((2, 0), 2, 0, 0), ((3, 0), 2, 0, 0), ((3, 3), 1, 0, 0)], [], [(1, [110, 117, 116])]⟩ ⟨[((1, 0), 1, 0, 4), ((1, 3), 1, 0, 4), ((2, 0), 2, 0, 0), ((3, 0), 2, 0, 0), ((3, 3), 1, 0, 0)], [], [(1, [110, 117, 116])]⟩ 3 2 HP.out (by omega) (by omega) (by kernel_rfl) (by kernel_rfl)).mono ?_
  rintro e wa9 ⟨rfl, hp⟩
  clear HP
  have HP := Lib.hid hp
  clear hp
  go_wp2_with fail
  refine (HP.out.stat (by omega) (by omega)).mono ?_
  rintro e ws ⟨v, rfl, ho, hp, _⟩
  obtain ⟨A, c, rfl, hA⟩ := own_slice ho
  obtain ⟨g, rfl, _, _⟩ := hA (by decide)
  have HB := Lib.hid hp.below
  have HO := Lib.hid (own_keep ho (below_alloc ws (.cells #[.int .i64 1, .int .i64 1, .slice (some ⟨g, 0, none⟩) 5 c] tStat)))
  have HZ := Lib.hid (heap_new ws (.cells #[.int .i64 1, .int .i64 1, .slice (some ⟨g, 0, none⟩) 5 c] tStat))
  have HBz := Lib.hid (Below.alloc HB.out HB.out.size (.cells #[.int .i64 1, .int .i64 1, .slice (some ⟨g, 0, none⟩) 5 c] tStat))
  have c00 : (ws.alloc (.cells #[.int .i64 1, .int .i64 1, .slice (some ⟨g, 0, none⟩) 5 c] tStat)).cell? ⟨g, 0, none⟩ = some (.int .i64 1) := own_cellK encR_len (by omega) HO.out (i := 0) rfl 0 (by omega)
  have d00 : ws.cell? ⟨g, 0, none⟩ = some (.int .i64 1) := own_cellK encR_len (by omega) ho (i := 0) rfl 0 (by omega)
  have c01 : (ws.alloc (.cells #[.int .i64 1, .int .i64 1, .slice (some ⟨g, 0, none⟩) 5 c] tStat)).cell? ⟨g, 1, none⟩ = some (.int .i64 0) := own_cellK encR_len (by omega) HO.out (i := 0) rfl 1 (by omega)
  have d01 : ws.cell? ⟨g, 1, none⟩ = some (.int .i64 0) := own_cellK encR_len (by omega) ho (i := 0) rfl 1 (by omega)
  have c02 : (ws.alloc (.cells #[.int .i64 1, .int .i64 1, .slice (some ⟨g, 0, none⟩) 5 c] tStat)).cell? ⟨g, 2, none⟩ = some (.int .i64 1) := own_cellK encR_len (by omega) HO.out (i := 0) rfl 2 (by omega)
  have d02 : ws.cell? ⟨g, 2, none⟩ = some (.int .i64 1) := own_cellK encR_len (by omega) ho (i := 0) rfl 2 (by omega)
  have c03 : (ws.alloc (.cells #[.int .i64 1, .int .i64 1, .slice (some ⟨g, 0, none⟩) 5 c] tStat)).cell? ⟨g, 3, none⟩ = some (.int .i64 0) := own_cellK encR_len (by omega) HO.out (i := 0) rfl 3 (by omega)
  have d03 : ws.cell? ⟨g, 3, none⟩ = some (.int .i64 0) := own_cellK encR_len (by omega) ho (i := 0) rfl 3 (by omega)
  have c04 : (ws.alloc (.cells #[.int .i64 1, .int .i64 1, .slice (some ⟨g, 0, none⟩) 5 c] tStat)).cell? ⟨g, 4, none⟩ = some (.int .i64 4) := own_cellK encR_len (by omega) HO.out (i := 0) rfl 4 (by omega)
  have d04 : ws.cell? ⟨g, 4, none⟩ = some (.int .i64 4) := own_cellK encR_len (by omega) ho (i := 0) rfl 4 (by omega)
  have c10 : (ws.alloc (.cells #[.int .i64 1, .int .i64 1, .slice (some ⟨g, 0, none⟩) 5 c] tStat)).cell? ⟨g, 5, none⟩ = some (.int .i64 1) := own_cellK encR_len (by omega) HO.out (i := 1) rfl 0 (by omega)
  have d10 : ws.cell? ⟨g, 5, none⟩ = some (.int .i64 1) := own_cellK encR_len (by omega) ho (i := 1) rfl 0 (by omega)
  have c11 : (ws.alloc (.cells #[.int .i64 1, .int .i64 1, .slice (some ⟨g, 0, none⟩) 5 c] tStat)).cell? ⟨g, 6, none⟩ = some (.int .i64 3) := own_cellK encR_len (by omega) HO.out (i := 1) rfl 1 (by omega)
  have d11 : ws.cell? ⟨g, 6, none⟩ = some (.int .i64 3) := own_cellK encR_len (by omega) ho (i := 1) rfl 1 (by omega)
  have c12 : (ws.alloc (.cells #[.int .i64 1, .int .i64 1, .slice (some ⟨g, 0, none⟩) 5 c] tStat)).cell? ⟨g, 7, none⟩ = some (.int .i64 1) := own_cellK encR_len (by omega) HO.out (i := 1) rfl 2 (by omega)
  have d12 : ws.cell? ⟨g, 7, none⟩ = some (.int .i64 1) := own_cellK encR_len (by omega) ho (i := 1) rfl 2 (by omega)
  have c13 : (ws.alloc (.cells #[.int .i64 1, .int .i64 1, .slice (some ⟨g, 0, none⟩) 5 c] tStat)).cell? ⟨g, 8, none⟩ = some (.int .i64 0) := own_cellK encR_len (by omega) HO.out (i := 1) rfl 3 (by omega)
  have d13 : ws.cell? ⟨g, 8, none⟩ = some (.int .i64 0) := own_cellK encR_len (by omega) ho (i := 1) rfl 3 (by omega)
  have c14 : (ws.alloc (.cells #[.int .i64 1, .int .i64 1, .slice (some ⟨g, 0, none⟩) 5 c] tStat)).cell? ⟨g, 9, none⟩ = some (.int .i64 4) := own_cellK encR_len (by omega) HO.out (i := 1) rfl 4 (by omega)
  have d14 : ws.cell? ⟨g, 9, none⟩ = some (.int .i64 4) := own_cellK encR_len (by omega) ho (i := 1) rfl 4 (by omega)
  have c40 : (ws.alloc (.cells #[.int .i64 1, .int .i64 1, .slice (some ⟨g, 0, none⟩) 5 c] tStat)).cell? ⟨g, 20, none⟩ = some (.int .i64 3) := own_cellK encR_len (by omega) HO.out (i := 4) rfl 0 (by omega)
  have d40 : ws.cell? ⟨g, 20, none⟩ = some (.int .i64 3) := own_cellK encR_len (by omega) ho (i := 4) rfl 0 (by omega)
  have c41 : (ws.alloc (.cells #[.int .i64 1, .int .i64 1, .slice (some ⟨g, 0, none⟩) 5 c] tStat)).cell? ⟨g, 21, none⟩ = some (.int .i64 3) := own_cellK encR_len (by omega) HO.out (i := 4) rfl 1 (by omega)
  have d41 : ws.cell? ⟨g, 21, none⟩ = some (.int .i64 3) := own_cellK encR_len (by omega) ho (i := 4) rfl 1 (by omega)
  have c42 : (ws.alloc (.cells #[.int .i64 1, .int .i64 1, .slice (some ⟨g, 0, none⟩) 5 c] tStat)).cell? ⟨g, 22, none⟩ = some (.int .i64 1) := own_cellK encR_len (by omega) HO.out (i := 4) rfl 2 (by omega)
  have d42 : ws.cell? ⟨g, 22, none⟩ = some (.int .i64 1) := own_cellK encR_len (by omega) ho (i := 4) rfl 2 (by omega)
  have c43 : (ws.alloc (.cells #[.int .i64 1, .int .i64 1, .slice (some ⟨g, 0, none⟩) 5 c] tStat)).cell? ⟨g, 23, none⟩ = some (.int .i64 0) := own_cellK encR_len (by omega) HO.out (i := 4) rfl 3 (by omega)
  have d43 : ws.cell? ⟨g, 23, none⟩ = some (.int .i64 0) := own_cellK encR_len (by omega) ho (i := 4) rfl 3 (by omega)
  have c44 : (ws.alloc (.cells #[.int .i64 1, .int .i64 1, .slice (some ⟨g, 0, none⟩) 5 c] tStat)).cell? ⟨g, 24, none⟩ = some (.int .i64 0) := own_cellK encR_len (by omega) HO.out (i := 4) rfl 4 (by omega)
  have d44 : ws.cell? ⟨g, 24, none⟩ = some (.int .i64 0) := own_cellK encR_len (by omega) ho (i := 4) rfl 4 (by omega)
  clear ho hp HP hA
  obtain ⟨z0, z1, z2⟩ := cell3c HZ.out
  go_wp2_with fail
  go_ret
  exact ⟨rfl, HBz.out⟩
end Go.Proofs.YtkmpagijdhhinaaDoor

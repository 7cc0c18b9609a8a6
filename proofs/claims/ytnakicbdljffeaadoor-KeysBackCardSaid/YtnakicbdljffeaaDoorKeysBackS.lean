/- The ways of consignorlaw10.KeysBack: one key. -/
import Derived.Test.YtnakicbdljffeaaDoorKeysLawTell
namespace Go.Proofs.YtnakicbdljffeaaDoor
open Go.RowKit Key Mon

theorem dr4 {w W : World} {a b c d : Addr} {p q r t : Value} (h : Hid (Below w.heap.size w W) ∧ W.cell? a = some p ∧ W.cell? b = some q ∧ W.cell? c = some r ∧ W.cell? d = some t) :
    Hid (Below w.heap.size w W.drew) ∧ W.drew.cell? a = some p ∧ W.drew.cell? b = some q ∧ W.drew.cell? c = some r ∧ W.drew.cell? d = some t := ⟨Lib.hid (belowD h.1.out), h.2⟩

set_option linter.unusedSimpArgs false in
set_option linter.unusedVariables false in
set_option maxHeartbeats 4000000 in
theorem back_s_t (ao ad : Int) (L1 : List UInt8)  (w : World) (HK : Hid (KW w))
    (H1 : Hid (∀ W, KW W → Calls Tryd.prog 15 #[.agg #[.int .i64 ao, .int .i64 ad]] W fun e w' => e = .returned (.string ⟨L1.toArray⟩) ∧ Below W.heap.size W w'))
    (H2 : Hid (∀ W, KW W → Calls Tryd.prog 15 #[.agg #[.int .i64 ao, .int .i64 ad]] W fun e w' => e = .returned (.string ⟨L1.toArray⟩) ∧ Below W.heap.size W w'))
    (H3 : Hid (∀ W, Calls Tryd.prog 13 #[.agg #[.int .i64 ao, .int .i64 ad]] W fun e w' => e = .returned (.bool true) ∧ Below W.heap.size W w'))
    (H4 : Hid (∀ W, Calls Tryd.prog 13 #[.agg #[.int .i64 ao, .int .i64 ad]] W fun e w' => e = .returned (.bool true) ∧ Below W.heap.size W w'))
    (H5 : Hid (∀ W, KW W → Calls Tryd.prog 23 #[.string ⟨L1.toArray⟩, .agg #[.int .i64 ao, .int .i64 ad], .bool true] W fun e w' => e = .returned (.bool true) ∧ Below W.heap.size W w'))
    (H6 : Hid (∀ W, Calls Tryd.prog 17 #[.agg #[.int .i64 ao, .int .i64 ad], .agg #[.int .i64 ao, .int .i64 ad]] W fun e w' => e = .returned (.bool false) ∧ Below W.heap.size W w'))
    (H8 : Hid (∀ W, Calls Tryd.prog 17 #[.agg #[.int .i64 ao, .int .i64 ad], .agg #[.int .i64 ao, .int .i64 ad]] W fun e w' => e = .returned (.bool false) ∧ Below W.heap.size W w'))
    (hL1 : L1.isEmpty = false) :
    Calls Tryd.prog 5 #[.agg #[.int .i64 ao, .int .i64 ad], .agg #[.int .i64 ao, .int .i64 ad]] w fun e w' => e = .returned (.bool true) ∧ Below w.heap.size w w' := by
  go_enter Tryd.func5, Tryd.ntmps5
  go_wp2_with fail
  have HB0 := Lib.hid (show Below w.heap.size w ((w.alloc (.cells #[.int .i64 ao, .int .i64 ad] 23)).alloc (.cells #[.int .i64 ao, .int .i64 ad] 23)) from (below_alloc w _).alloc (by simp) _)
  have HA1 := Lib.hid (show ((w.alloc (.cells #[.int .i64 ao, .int .i64 ad] 23)).alloc (.cells #[.int .i64 ao, .int .i64 ad] 23)).heap[w.heap.size]? = some (.cells #[.int .i64 ao, .int .i64 ad] 23 (0, 0)) from heap_keep (heap_new w _) (below_alloc _ _))
  have HA2 := Lib.hid (show ((w.alloc (.cells #[.int .i64 ao, .int .i64 ad] 23)).alloc (.cells #[.int .i64 ao, .int .i64 ad] 23)).heap[w.heap.size + 1]? = some (.cells #[.int .i64 ao, .int .i64 ad] 23 (0, 0)) from by
    have := heap_new (w.alloc (.cells #[.int .i64 ao, .int .i64 ad] 23)) (.cells #[.int .i64 ao, .int .i64 ad] 23)
    rw [show (w.alloc (.cells #[.int .i64 ao, .int .i64 ad] 23)).heap.size = w.heap.size + 1 by simp] at this
    exact this)
  generalize ((w.alloc (.cells #[.int .i64 ao, .int .i64 ad] 23)).alloc (.cells #[.int .i64 ao, .int .i64 ad] 23)) = wr at HB0 HA1 HA2 ⊢
  obtain ⟨a0, a1, _, _⟩ := cell2 HA1.out
  obtain ⟨b0, b1, _, _⟩ := cell2 HA2.out
  go_region_held3 (fun w' => Hid (Below w.heap.size w w') ∧ w'.cell? ⟨w.heap.size, 0, none⟩ = some (.int .i64 ao) ∧ w'.cell? ⟨w.heap.size, 1, none⟩ = some (.int .i64 ad) ∧ w'.cell? ⟨w.heap.size + 1, 0, none⟩ = some (.int .i64 ao) ∧ w'.cell? ⟨w.heap.size + 1, 1, none⟩ = some (.int .i64 ad))
    (first
      | exact keep4 hb (by assumption)
      | exact ⟨belowD HB0.out, a0, a1, b0, b1⟩)
    (first
      | (go_at_call_of 15 (Value.agg #[.int .i64 ao, .int .i64 ad]); refine (H1.out _ (HK.out.below (Hid.out (And.left (by assumption))))).mono ?_; rintro e w1 ⟨rfl, hb⟩)
      | (go_at_call_of 15 (Value.agg #[.int .i64 ao, .int .i64 ad]); refine (H2.out _ (HK.out.below (Hid.out (And.left (by assumption))))).mono ?_; rintro e w1 ⟨rfl, hb⟩))
  all_goals go_wp2_with (first
    | (go_at_call_of 13 (Value.agg #[.int .i64 ao, .int .i64 ad]); refine (H3.out _).mono ?_; rintro e w1 ⟨rfl, hb⟩; have HS := keep4 hb (by assumption); clear hb)
    | (go_at_call_of 13 (Value.agg #[.int .i64 ao, .int .i64 ad]); refine (H4.out _).mono ?_; rintro e w1 ⟨rfl, hb⟩; have HS := keep4 hb (by assumption); clear hb)
    | (go_at_call 23; refine (H5.out _ (HK.out.below (Hid.out (And.left (by assumption))))).mono ?_; rintro e w1 ⟨rfl, hb⟩; have HS := keep4 hb (by assumption); clear hb))
  refine wp_region_noPanic ?_
  refine wp_region_held_drew (S := (fun w' => Hid (Below w.heap.size w w') ∧ w'.cell? ⟨w.heap.size, 0, none⟩ = some (.int .i64 ao) ∧ w'.cell? ⟨w.heap.size, 1, none⟩ = some (.int .i64 ad) ∧ w'.cell? ⟨w.heap.size + 1, 0, none⟩ = some (.int .i64 ao) ∧ w'.cell? ⟨w.heap.size + 1, 1, none⟩ = some (.int .i64 ad))) (by kernel_rfl) (dr4 (by assumption)) (fun hHeld => ?_)
  refine wpAnyH_take (i := 0) (v := ?v0) rfl (by kernel_rfl) (by kernel_rfl) (by kernel_rfl) (fun _ _ _ h => h) (Or.inl ⟨by rfl, ?hy0⟩) (by assumption) ?rest0
  case hy0 => (intro w0 hSw; (try dsimp only at hSw); go_simp; try with_reducible rfl)
  case' rest0 => try simp only [Act.put, List.getElem_toArray, List.getElem_cons_zero, List.getElem_cons_succ, List.setIfInBounds_toArray, List.set_cons_zero, List.set_cons_succ]
  refine wpAnyH_take (i := 1) (v := ?v1) rfl (by kernel_rfl) (by kernel_rfl) (by kernel_rfl) (fun _ _ _ h => h) (Or.inl ⟨by rfl, ?hy1⟩) (by assumption) ?rest1
  case hy1 => (intro w0 hSw; (try dsimp only at hSw); go_simp; try with_reducible rfl)
  case' rest1 => try simp only [Act.put, List.getElem_toArray, List.getElem_cons_zero, List.getElem_cons_succ, List.setIfInBounds_toArray, List.set_cons_zero, List.set_cons_succ]
  refine wpAnyH_take (i := 3) (v := ?v3) rfl (by kernel_rfl) (by kernel_rfl) (by kernel_rfl) (fun _ _ _ h => h) (Or.inl ⟨by rfl, ?hy3⟩) (by assumption) ?rest3
  case hy3 => (intro w0 hSw; (try dsimp only at hSw); go_simp; try with_reducible rfl)
  case' rest3 => try simp only [Act.put, List.getElem_toArray, List.getElem_cons_zero, List.getElem_cons_succ, List.setIfInBounds_toArray, List.set_cons_zero, List.set_cons_succ]
  refine wpAnyH_take (i := 4) (v := ?v4) rfl (by kernel_rfl) (by kernel_rfl) (by kernel_rfl) (fun _ _ _ h => h) (Or.inl ⟨by rfl, ?hy4⟩) (by assumption) ?rest4
  case hy4 => (intro w0 hSw; (try dsimp only at hSw); go_simp; try with_reducible rfl)
  case' rest4 => try simp only [Act.put, List.getElem_toArray, List.getElem_cons_zero, List.getElem_cons_succ, List.setIfInBounds_toArray, List.set_cons_zero, List.set_cons_succ]
  refine wpAnyH_take (i := 5) (v := ?v5) rfl (by kernel_rfl) (by kernel_rfl) (by kernel_rfl) (fun _ _ _ h => h) (Or.inl ⟨by rfl, ?hy5⟩) (by assumption) ?rest5
  case hy5 => (intro w0 hSw; (try dsimp only at hSw); go_simp; try with_reducible rfl)
  case' rest5 => try simp only [Act.put, List.getElem_toArray, List.getElem_cons_zero, List.getElem_cons_succ, List.setIfInBounds_toArray, List.set_cons_zero, List.set_cons_succ]
  refine wpAnyH_ready (rs := [2]) (by kernel_rfl) (by simp) ?_
  refine AllReadyH.cons rfl (fun K hK => ?_) AllReadyH.nil
  go_simp
  refine (H6.out _).mono ?_; rintro e w1 ⟨rfl, hb⟩
  refine hK.out _ _ (keep4 hb (by assumption)) (fun hHeld => ?_)
  clear hK K hb
  try simp only [Act.put, List.getElem_toArray, List.getElem_cons_zero, List.getElem_cons_succ, List.setIfInBounds_toArray, List.set_cons_zero, List.set_cons_succ]
  refine wpAnyH_take (i := 6) (v := ?v6) rfl (by kernel_rfl) (by kernel_rfl) (by kernel_rfl) (fun _ _ _ h => h) (Or.inl ⟨by rfl, ?hy6⟩) (by assumption) ?rest6
  case hy6 => (intro w0 hSw; (try dsimp only at hSw); go_simp; try with_reducible rfl)
  case' rest6 => try simp only [Act.put, List.getElem_toArray, List.getElem_cons_zero, List.getElem_cons_succ, List.setIfInBounds_toArray, List.set_cons_zero, List.set_cons_succ]
  refine wpAnyH_take (i := 7) (v := undef) rfl (by kernel_rfl) (by kernel_rfl) (by kernel_rfl) (fun _ _ _ h => h) (Or.inr ⟨by rfl, rfl⟩) (by assumption) ?_
  try simp only [Act.put, List.getElem_toArray, List.getElem_cons_zero, List.getElem_cons_succ, List.setIfInBounds_toArray, List.set_cons_zero, List.set_cons_succ]
  refine wpAnyH_take (i := 8) (v := undef) rfl (by kernel_rfl) (by kernel_rfl) (by kernel_rfl) (fun _ _ _ h => h) (Or.inr ⟨by rfl, rfl⟩) (by assumption) ?_
  try simp only [Act.put, List.getElem_toArray, List.getElem_cons_zero, List.getElem_cons_succ, List.setIfInBounds_toArray, List.set_cons_zero, List.set_cons_succ]
  refine wpAnyH_ready (rs := [9]) (by kernel_rfl) (by simp) ?_
  refine AllReadyH.cons rfl (fun K hK => ?_) AllReadyH.nil
  go_simp
  refine hK.out _ _ (by assumption) (fun hHeld => ?_)
  clear hK K
  try simp only [Act.put, List.getElem_toArray, List.getElem_cons_zero, List.getElem_cons_succ, List.setIfInBounds_toArray, List.set_cons_zero, List.set_cons_succ]
  refine wpAnyH_take (i := 10) (v := undef) rfl (by kernel_rfl) (by kernel_rfl) (by kernel_rfl) (fun _ _ _ h => h) (Or.inr ⟨by rfl, rfl⟩) (by assumption) ?_
  try simp only [Act.put, List.getElem_toArray, List.getElem_cons_zero, List.getElem_cons_succ, List.setIfInBounds_toArray, List.set_cons_zero, List.set_cons_succ]
  refine wpAnyH_take (i := 11) (v := ?v11) rfl (by kernel_rfl) (by kernel_rfl) (by kernel_rfl) (fun _ _ _ h => h) (Or.inl ⟨by rfl, ?hy11⟩) (by assumption) ?rest11
  case hy11 => (intro w0 hSw; (try dsimp only at hSw); go_simp; try with_reducible rfl)
  case' rest11 => try simp only [Act.put, List.getElem_toArray, List.getElem_cons_zero, List.getElem_cons_succ, List.setIfInBounds_toArray, List.set_cons_zero, List.set_cons_succ]
  refine wpAnyH_take (i := 12) (v := ?v12) rfl (by kernel_rfl) (by kernel_rfl) (by kernel_rfl) (fun _ _ _ h => h) (Or.inl ⟨by rfl, ?hy12⟩) (by assumption) ?rest12
  case hy12 => (intro w0 hSw; (try dsimp only at hSw); go_simp; try with_reducible rfl)
  case' rest12 => try simp only [Act.put, List.getElem_toArray, List.getElem_cons_zero, List.getElem_cons_succ, List.setIfInBounds_toArray, List.set_cons_zero, List.set_cons_succ]
  refine wpAnyH_take (i := 13) (v := ?v13) rfl (by kernel_rfl) (by kernel_rfl) (by kernel_rfl) (fun _ _ _ h => h) (Or.inl ⟨by rfl, ?hy13⟩) (by assumption) ?rest13
  case hy13 => (intro w0 hSw; (try dsimp only at hSw); go_simp; try with_reducible rfl)
  case' rest13 => try simp only [Act.put, List.getElem_toArray, List.getElem_cons_zero, List.getElem_cons_succ, List.setIfInBounds_toArray, List.set_cons_zero, List.set_cons_succ]
  refine wpAnyH_take (i := 14) (v := ?v14) rfl (by kernel_rfl) (by kernel_rfl) (by kernel_rfl) (fun _ _ _ h => h) (Or.inl ⟨by rfl, ?hy14⟩) (by assumption) ?rest14
  case hy14 => (intro w0 hSw; (try dsimp only at hSw); go_simp; try with_reducible rfl)
  case' rest14 => try simp only [Act.put, List.getElem_toArray, List.getElem_cons_zero, List.getElem_cons_succ, List.setIfInBounds_toArray, List.set_cons_zero, List.set_cons_succ]
  refine wpAnyH_take (i := 15) (v := ?v15) rfl (by kernel_rfl) (by kernel_rfl) (by kernel_rfl) (fun _ _ _ h => h) (Or.inl ⟨by rfl, ?hy15⟩) (by assumption) ?rest15
  case hy15 => (intro w0 hSw; (try dsimp only at hSw); go_simp; try with_reducible rfl)
  case' rest15 => try simp only [Act.put, List.getElem_toArray, List.getElem_cons_zero, List.getElem_cons_succ, List.setIfInBounds_toArray, List.set_cons_zero, List.set_cons_succ]
  refine wpAnyH_ready (rs := [16]) (by kernel_rfl) (by simp) ?_
  refine AllReadyH.cons rfl (fun K hK => ?_) AllReadyH.nil
  go_simp
  refine (H6.out _).mono ?_; rintro e w1 ⟨rfl, hb⟩
  refine hK.out _ _ (keep4 hb (by assumption)) (fun hHeld => ?_)
  clear hK K hb
  try simp only [Act.put, List.getElem_toArray, List.getElem_cons_zero, List.getElem_cons_succ, List.setIfInBounds_toArray, List.set_cons_zero, List.set_cons_succ]
  refine wpAnyH_take (i := 17) (v := ?v17) rfl (by kernel_rfl) (by kernel_rfl) (by kernel_rfl) (fun _ _ _ h => h) (Or.inl ⟨by rfl, ?hy17⟩) (by assumption) ?rest17
  case hy17 => (intro w0 hSw; (try dsimp only at hSw); go_simp; try with_reducible rfl)
  case' rest17 => try simp only [Act.put, List.getElem_toArray, List.getElem_cons_zero, List.getElem_cons_succ, List.setIfInBounds_toArray, List.set_cons_zero, List.set_cons_succ]
  refine wpAnyH_take (i := 18) (v := ?v18) rfl (by kernel_rfl) (by kernel_rfl) (by kernel_rfl) (fun _ _ _ h => h) (Or.inl ⟨by rfl, ?hy18⟩) (by assumption) ?rest18
  case hy18 => (intro w0 hSw; (try dsimp only at hSw); go_simp; try with_reducible rfl)
  case' rest18 => try simp only [Act.put, List.getElem_toArray, List.getElem_cons_zero, List.getElem_cons_succ, List.setIfInBounds_toArray, List.set_cons_zero, List.set_cons_succ]
  refine wpAnyH_take (i := 19) (v := ?v19) rfl (by kernel_rfl) (by kernel_rfl) (by kernel_rfl) (fun _ _ _ h => h) (Or.inl ⟨by rfl, ?hy19⟩) (by assumption) ?rest19
  case hy19 => (intro w0 hSw; (try dsimp only at hSw); go_simp; try with_reducible rfl)
  case' rest19 => try simp only [Act.put, List.getElem_toArray, List.getElem_cons_zero, List.getElem_cons_succ, List.setIfInBounds_toArray, List.set_cons_zero, List.set_cons_succ]
  refine wpAnyH_ready (rs := [20]) (by kernel_rfl) (by simp) ?_
  refine AllReadyH.cons rfl (fun K hK => ?_) AllReadyH.nil
  go_simp
  refine (keyed_true _ (HK.out.below (Hid.out (And.left (by assumption))))).mono ?_; rintro e w1 ⟨rfl, hb⟩
  refine hK.out _ _ (keep4 hb (by assumption)) (fun hHeld => ?_)
  clear hK K hb
  try simp only [Act.put, List.getElem_toArray, List.getElem_cons_zero, List.getElem_cons_succ, List.setIfInBounds_toArray, List.set_cons_zero, List.set_cons_succ]
  refine wpAnyH_take (i := 21) (v := ?v21) rfl (by kernel_rfl) (by kernel_rfl) (by kernel_rfl) (fun _ _ _ h => h) (Or.inl ⟨by rfl, ?hy21⟩) (by assumption) ?rest21
  case hy21 => (intro w0 hSw; (try dsimp only at hSw); go_simp; try with_reducible rfl)
  case' rest21 => try simp only [Act.put, List.getElem_toArray, List.getElem_cons_zero, List.getElem_cons_succ, List.setIfInBounds_toArray, List.set_cons_zero, List.set_cons_succ]
  refine wpAnyH_take (i := 22) (v := ?v22) rfl (by kernel_rfl) (by kernel_rfl) (by kernel_rfl) (fun _ _ _ h => h) (Or.inl ⟨by rfl, ?hy22⟩) (by assumption) ?rest22
  case hy22 => (intro w0 hSw; (try dsimp only at hSw); go_simp; try with_reducible rfl)
  case' rest22 => try simp only [Act.put, List.getElem_toArray, List.getElem_cons_zero, List.getElem_cons_succ, List.setIfInBounds_toArray, List.set_cons_zero, List.set_cons_succ]
  refine wpAnyH_done (by kernel_rfl) ?_ _
  refine NoPanic.normal ?_
  go_wp2_with fail
  go_ret
  exact ⟨rfl, Hid.out (And.left (by assumption))⟩

set_option linter.unusedSimpArgs false in
set_option linter.unusedVariables false in
set_option maxHeartbeats 4000000 in
theorem back_s_f (ao ad : Int) (L1 : List UInt8)  (w : World) (HK : Hid (KW w))
    (H1 : Hid (∀ W, KW W → Calls Tryd.prog 15 #[.agg #[.int .i64 ao, .int .i64 ad]] W fun e w' => e = .returned (.string ⟨L1.toArray⟩) ∧ Below W.heap.size W w'))
    (H2 : Hid (∀ W, KW W → Calls Tryd.prog 15 #[.agg #[.int .i64 ao, .int .i64 ad]] W fun e w' => e = .returned (.string ⟨L1.toArray⟩) ∧ Below W.heap.size W w'))
    (H3 : Hid (∀ W, Calls Tryd.prog 13 #[.agg #[.int .i64 ao, .int .i64 ad]] W fun e w' => e = .returned (.bool false) ∧ Below W.heap.size W w'))
    (H4 : Hid (∀ W, Calls Tryd.prog 13 #[.agg #[.int .i64 ao, .int .i64 ad]] W fun e w' => e = .returned (.bool false) ∧ Below W.heap.size W w'))
    (H6 : Hid (∀ W, Calls Tryd.prog 17 #[.agg #[.int .i64 ao, .int .i64 ad], .agg #[.int .i64 ao, .int .i64 ad]] W fun e w' => e = .returned (.bool false) ∧ Below W.heap.size W w'))
    (H8 : Hid (∀ W, Calls Tryd.prog 17 #[.agg #[.int .i64 ao, .int .i64 ad], .agg #[.int .i64 ao, .int .i64 ad]] W fun e w' => e = .returned (.bool false) ∧ Below W.heap.size W w'))
    (hL1 : L1.isEmpty = true) :
    Calls Tryd.prog 5 #[.agg #[.int .i64 ao, .int .i64 ad], .agg #[.int .i64 ao, .int .i64 ad]] w fun e w' => e = .returned (.bool true) ∧ Below w.heap.size w w' := by
  go_enter Tryd.func5, Tryd.ntmps5
  go_wp2_with fail
  have HB0 := Lib.hid (show Below w.heap.size w ((w.alloc (.cells #[.int .i64 ao, .int .i64 ad] 23)).alloc (.cells #[.int .i64 ao, .int .i64 ad] 23)) from (below_alloc w _).alloc (by simp) _)
  have HA1 := Lib.hid (show ((w.alloc (.cells #[.int .i64 ao, .int .i64 ad] 23)).alloc (.cells #[.int .i64 ao, .int .i64 ad] 23)).heap[w.heap.size]? = some (.cells #[.int .i64 ao, .int .i64 ad] 23 (0, 0)) from heap_keep (heap_new w _) (below_alloc _ _))
  have HA2 := Lib.hid (show ((w.alloc (.cells #[.int .i64 ao, .int .i64 ad] 23)).alloc (.cells #[.int .i64 ao, .int .i64 ad] 23)).heap[w.heap.size + 1]? = some (.cells #[.int .i64 ao, .int .i64 ad] 23 (0, 0)) from by
    have := heap_new (w.alloc (.cells #[.int .i64 ao, .int .i64 ad] 23)) (.cells #[.int .i64 ao, .int .i64 ad] 23)
    rw [show (w.alloc (.cells #[.int .i64 ao, .int .i64 ad] 23)).heap.size = w.heap.size + 1 by simp] at this
    exact this)
  generalize ((w.alloc (.cells #[.int .i64 ao, .int .i64 ad] 23)).alloc (.cells #[.int .i64 ao, .int .i64 ad] 23)) = wr at HB0 HA1 HA2 ⊢
  obtain ⟨a0, a1, _, _⟩ := cell2 HA1.out
  obtain ⟨b0, b1, _, _⟩ := cell2 HA2.out
  go_region_held3 (fun w' => Hid (Below w.heap.size w w') ∧ w'.cell? ⟨w.heap.size, 0, none⟩ = some (.int .i64 ao) ∧ w'.cell? ⟨w.heap.size, 1, none⟩ = some (.int .i64 ad) ∧ w'.cell? ⟨w.heap.size + 1, 0, none⟩ = some (.int .i64 ao) ∧ w'.cell? ⟨w.heap.size + 1, 1, none⟩ = some (.int .i64 ad))
    (first
      | exact keep4 hb (by assumption)
      | exact ⟨belowD HB0.out, a0, a1, b0, b1⟩)
    (first
      | (go_at_call_of 15 (Value.agg #[.int .i64 ao, .int .i64 ad]); refine (H1.out _ (HK.out.below (Hid.out (And.left (by assumption))))).mono ?_; rintro e w1 ⟨rfl, hb⟩)
      | (go_at_call_of 15 (Value.agg #[.int .i64 ao, .int .i64 ad]); refine (H2.out _ (HK.out.below (Hid.out (And.left (by assumption))))).mono ?_; rintro e w1 ⟨rfl, hb⟩))
  all_goals go_wp2_with (first
    | (go_at_call_of 13 (Value.agg #[.int .i64 ao, .int .i64 ad]); refine (H3.out _).mono ?_; rintro e w1 ⟨rfl, hb⟩; have HS := keep4 hb (by assumption); clear hb)
    | (go_at_call_of 13 (Value.agg #[.int .i64 ao, .int .i64 ad]); refine (H4.out _).mono ?_; rintro e w1 ⟨rfl, hb⟩; have HS := keep4 hb (by assumption); clear hb))
  refine wp_region_noPanic ?_
  refine wp_region_held_drew (S := (fun w' => Hid (Below w.heap.size w w') ∧ w'.cell? ⟨w.heap.size, 0, none⟩ = some (.int .i64 ao) ∧ w'.cell? ⟨w.heap.size, 1, none⟩ = some (.int .i64 ad) ∧ w'.cell? ⟨w.heap.size + 1, 0, none⟩ = some (.int .i64 ao) ∧ w'.cell? ⟨w.heap.size + 1, 1, none⟩ = some (.int .i64 ad))) (by kernel_rfl) (dr4 (by assumption)) (fun hHeld => ?_)
  refine wpAnyH_take (i := 0) (v := ?v0) rfl (by kernel_rfl) (by kernel_rfl) (by kernel_rfl) (fun _ _ _ h => h) (Or.inl ⟨by rfl, ?hy0⟩) (by assumption) ?rest0
  case hy0 => (intro w0 hSw; (try dsimp only at hSw); go_simp; try with_reducible rfl)
  case' rest0 => try simp only [Act.put, List.getElem_toArray, List.getElem_cons_zero, List.getElem_cons_succ, List.setIfInBounds_toArray, List.set_cons_zero, List.set_cons_succ]
  refine wpAnyH_take (i := 1) (v := ?v1) rfl (by kernel_rfl) (by kernel_rfl) (by kernel_rfl) (fun _ _ _ h => h) (Or.inl ⟨by rfl, ?hy1⟩) (by assumption) ?rest1
  case hy1 => (intro w0 hSw; (try dsimp only at hSw); go_simp; try with_reducible rfl)
  case' rest1 => try simp only [Act.put, List.getElem_toArray, List.getElem_cons_zero, List.getElem_cons_succ, List.setIfInBounds_toArray, List.set_cons_zero, List.set_cons_succ]
  refine wpAnyH_take (i := 3) (v := ?v3) rfl (by kernel_rfl) (by kernel_rfl) (by kernel_rfl) (fun _ _ _ h => h) (Or.inl ⟨by rfl, ?hy3⟩) (by assumption) ?rest3
  case hy3 => (intro w0 hSw; (try dsimp only at hSw); go_simp; try with_reducible rfl)
  case' rest3 => try simp only [Act.put, List.getElem_toArray, List.getElem_cons_zero, List.getElem_cons_succ, List.setIfInBounds_toArray, List.set_cons_zero, List.set_cons_succ]
  refine wpAnyH_take (i := 4) (v := ?v4) rfl (by kernel_rfl) (by kernel_rfl) (by kernel_rfl) (fun _ _ _ h => h) (Or.inl ⟨by rfl, ?hy4⟩) (by assumption) ?rest4
  case hy4 => (intro w0 hSw; (try dsimp only at hSw); go_simp; try with_reducible rfl)
  case' rest4 => try simp only [Act.put, List.getElem_toArray, List.getElem_cons_zero, List.getElem_cons_succ, List.setIfInBounds_toArray, List.set_cons_zero, List.set_cons_succ]
  refine wpAnyH_take (i := 5) (v := ?v5) rfl (by kernel_rfl) (by kernel_rfl) (by kernel_rfl) (fun _ _ _ h => h) (Or.inl ⟨by rfl, ?hy5⟩) (by assumption) ?rest5
  case hy5 => (intro w0 hSw; (try dsimp only at hSw); go_simp; try with_reducible rfl)
  case' rest5 => try simp only [Act.put, List.getElem_toArray, List.getElem_cons_zero, List.getElem_cons_succ, List.setIfInBounds_toArray, List.set_cons_zero, List.set_cons_succ]
  refine wpAnyH_ready (rs := [2]) (by kernel_rfl) (by simp) ?_
  refine AllReadyH.cons rfl (fun K hK => ?_) AllReadyH.nil
  go_simp
  refine (H6.out _).mono ?_; rintro e w1 ⟨rfl, hb⟩
  refine hK.out _ _ (keep4 hb (by assumption)) (fun hHeld => ?_)
  clear hK K hb
  try simp only [Act.put, List.getElem_toArray, List.getElem_cons_zero, List.getElem_cons_succ, List.setIfInBounds_toArray, List.set_cons_zero, List.set_cons_succ]
  refine wpAnyH_take (i := 6) (v := ?v6) rfl (by kernel_rfl) (by kernel_rfl) (by kernel_rfl) (fun _ _ _ h => h) (Or.inl ⟨by rfl, ?hy6⟩) (by assumption) ?rest6
  case hy6 => (intro w0 hSw; (try dsimp only at hSw); go_simp; try with_reducible rfl)
  case' rest6 => try simp only [Act.put, List.getElem_toArray, List.getElem_cons_zero, List.getElem_cons_succ, List.setIfInBounds_toArray, List.set_cons_zero, List.set_cons_succ]
  refine wpAnyH_take (i := 7) (v := undef) rfl (by kernel_rfl) (by kernel_rfl) (by kernel_rfl) (fun _ _ _ h => h) (Or.inr ⟨by rfl, rfl⟩) (by assumption) ?_
  try simp only [Act.put, List.getElem_toArray, List.getElem_cons_zero, List.getElem_cons_succ, List.setIfInBounds_toArray, List.set_cons_zero, List.set_cons_succ]
  refine wpAnyH_take (i := 8) (v := undef) rfl (by kernel_rfl) (by kernel_rfl) (by kernel_rfl) (fun _ _ _ h => h) (Or.inr ⟨by rfl, rfl⟩) (by assumption) ?_
  try simp only [Act.put, List.getElem_toArray, List.getElem_cons_zero, List.getElem_cons_succ, List.setIfInBounds_toArray, List.set_cons_zero, List.set_cons_succ]
  refine wpAnyH_ready (rs := [9]) (by kernel_rfl) (by simp) ?_
  refine AllReadyH.cons rfl (fun K hK => ?_) AllReadyH.nil
  go_simp
  refine hK.out _ _ (by assumption) (fun hHeld => ?_)
  clear hK K
  try simp only [Act.put, List.getElem_toArray, List.getElem_cons_zero, List.getElem_cons_succ, List.setIfInBounds_toArray, List.set_cons_zero, List.set_cons_succ]
  refine wpAnyH_take (i := 10) (v := undef) rfl (by kernel_rfl) (by kernel_rfl) (by kernel_rfl) (fun _ _ _ h => h) (Or.inr ⟨by rfl, rfl⟩) (by assumption) ?_
  try simp only [Act.put, List.getElem_toArray, List.getElem_cons_zero, List.getElem_cons_succ, List.setIfInBounds_toArray, List.set_cons_zero, List.set_cons_succ]
  refine wpAnyH_take (i := 11) (v := ?v11) rfl (by kernel_rfl) (by kernel_rfl) (by kernel_rfl) (fun _ _ _ h => h) (Or.inl ⟨by rfl, ?hy11⟩) (by assumption) ?rest11
  case hy11 => (intro w0 hSw; (try dsimp only at hSw); go_simp; try with_reducible rfl)
  case' rest11 => try simp only [Act.put, List.getElem_toArray, List.getElem_cons_zero, List.getElem_cons_succ, List.setIfInBounds_toArray, List.set_cons_zero, List.set_cons_succ]
  refine wpAnyH_take (i := 12) (v := ?v12) rfl (by kernel_rfl) (by kernel_rfl) (by kernel_rfl) (fun _ _ _ h => h) (Or.inl ⟨by rfl, ?hy12⟩) (by assumption) ?rest12
  case hy12 => (intro w0 hSw; (try dsimp only at hSw); go_simp; try with_reducible rfl)
  case' rest12 => try simp only [Act.put, List.getElem_toArray, List.getElem_cons_zero, List.getElem_cons_succ, List.setIfInBounds_toArray, List.set_cons_zero, List.set_cons_succ]
  refine wpAnyH_take (i := 13) (v := ?v13) rfl (by kernel_rfl) (by kernel_rfl) (by kernel_rfl) (fun _ _ _ h => h) (Or.inl ⟨by rfl, ?hy13⟩) (by assumption) ?rest13
  case hy13 => (intro w0 hSw; (try dsimp only at hSw); go_simp; try with_reducible rfl)
  case' rest13 => try simp only [Act.put, List.getElem_toArray, List.getElem_cons_zero, List.getElem_cons_succ, List.setIfInBounds_toArray, List.set_cons_zero, List.set_cons_succ]
  refine wpAnyH_take (i := 14) (v := ?v14) rfl (by kernel_rfl) (by kernel_rfl) (by kernel_rfl) (fun _ _ _ h => h) (Or.inl ⟨by rfl, ?hy14⟩) (by assumption) ?rest14
  case hy14 => (intro w0 hSw; (try dsimp only at hSw); go_simp; try with_reducible rfl)
  case' rest14 => try simp only [Act.put, List.getElem_toArray, List.getElem_cons_zero, List.getElem_cons_succ, List.setIfInBounds_toArray, List.set_cons_zero, List.set_cons_succ]
  refine wpAnyH_take (i := 15) (v := ?v15) rfl (by kernel_rfl) (by kernel_rfl) (by kernel_rfl) (fun _ _ _ h => h) (Or.inl ⟨by rfl, ?hy15⟩) (by assumption) ?rest15
  case hy15 => (intro w0 hSw; (try dsimp only at hSw); go_simp; try with_reducible rfl)
  case' rest15 => try simp only [Act.put, List.getElem_toArray, List.getElem_cons_zero, List.getElem_cons_succ, List.setIfInBounds_toArray, List.set_cons_zero, List.set_cons_succ]
  refine wpAnyH_ready (rs := [16]) (by kernel_rfl) (by simp) ?_
  refine AllReadyH.cons rfl (fun K hK => ?_) AllReadyH.nil
  go_simp
  refine (H6.out _).mono ?_; rintro e w1 ⟨rfl, hb⟩
  refine hK.out _ _ (keep4 hb (by assumption)) (fun hHeld => ?_)
  clear hK K hb
  try simp only [Act.put, List.getElem_toArray, List.getElem_cons_zero, List.getElem_cons_succ, List.setIfInBounds_toArray, List.set_cons_zero, List.set_cons_succ]
  refine wpAnyH_take (i := 17) (v := ?v17) rfl (by kernel_rfl) (by kernel_rfl) (by kernel_rfl) (fun _ _ _ h => h) (Or.inl ⟨by rfl, ?hy17⟩) (by assumption) ?rest17
  case hy17 => (intro w0 hSw; (try dsimp only at hSw); go_simp; try with_reducible rfl)
  case' rest17 => try simp only [Act.put, List.getElem_toArray, List.getElem_cons_zero, List.getElem_cons_succ, List.setIfInBounds_toArray, List.set_cons_zero, List.set_cons_succ]
  refine wpAnyH_take (i := 18) (v := ?v18) rfl (by kernel_rfl) (by kernel_rfl) (by kernel_rfl) (fun _ _ _ h => h) (Or.inl ⟨by rfl, ?hy18⟩) (by assumption) ?rest18
  case hy18 => (intro w0 hSw; (try dsimp only at hSw); go_simp; try with_reducible rfl)
  case' rest18 => try simp only [Act.put, List.getElem_toArray, List.getElem_cons_zero, List.getElem_cons_succ, List.setIfInBounds_toArray, List.set_cons_zero, List.set_cons_succ]
  refine wpAnyH_take (i := 19) (v := ?v19) rfl (by kernel_rfl) (by kernel_rfl) (by kernel_rfl) (fun _ _ _ h => h) (Or.inl ⟨by rfl, ?hy19⟩) (by assumption) ?rest19
  case hy19 => (intro w0 hSw; (try dsimp only at hSw); go_simp; try with_reducible rfl)
  case' rest19 => try simp only [Act.put, List.getElem_toArray, List.getElem_cons_zero, List.getElem_cons_succ, List.setIfInBounds_toArray, List.set_cons_zero, List.set_cons_succ]
  refine wpAnyH_ready (rs := [20]) (by kernel_rfl) (by simp) ?_
  refine AllReadyH.cons rfl (fun K hK => ?_) AllReadyH.nil
  go_simp
  refine (keyed_true _ (HK.out.below (Hid.out (And.left (by assumption))))).mono ?_; rintro e w1 ⟨rfl, hb⟩
  refine hK.out _ _ (keep4 hb (by assumption)) (fun hHeld => ?_)
  clear hK K hb
  try simp only [Act.put, List.getElem_toArray, List.getElem_cons_zero, List.getElem_cons_succ, List.setIfInBounds_toArray, List.set_cons_zero, List.set_cons_succ]
  refine wpAnyH_take (i := 21) (v := ?v21) rfl (by kernel_rfl) (by kernel_rfl) (by kernel_rfl) (fun _ _ _ h => h) (Or.inl ⟨by rfl, ?hy21⟩) (by assumption) ?rest21
  case hy21 => (intro w0 hSw; (try dsimp only at hSw); go_simp; try with_reducible rfl)
  case' rest21 => try simp only [Act.put, List.getElem_toArray, List.getElem_cons_zero, List.getElem_cons_succ, List.setIfInBounds_toArray, List.set_cons_zero, List.set_cons_succ]
  refine wpAnyH_take (i := 22) (v := ?v22) rfl (by kernel_rfl) (by kernel_rfl) (by kernel_rfl) (fun _ _ _ h => h) (Or.inl ⟨by rfl, ?hy22⟩) (by assumption) ?rest22
  case hy22 => (intro w0 hSw; (try dsimp only at hSw); go_simp; try with_reducible rfl)
  case' rest22 => try simp only [Act.put, List.getElem_toArray, List.getElem_cons_zero, List.getElem_cons_succ, List.setIfInBounds_toArray, List.set_cons_zero, List.set_cons_succ]
  refine wpAnyH_done (by kernel_rfl) ?_ _
  refine NoPanic.normal ?_
  go_wp2_with fail
  go_ret
  exact ⟨rfl, Hid.out (And.left (by assumption))⟩

end Go.Proofs.YtnakicbdljffeaaDoor

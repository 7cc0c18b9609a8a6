/- orders.Check and orders.Msg, of an order r of nuts. -/
import Derived.Test.YtkmpagijdhhinaaDoorOrdersCheck
import Derived.Test.YtkmpagijdhhinaaDoorPartyTell
namespace Go.Proofs.YtkmpagijdhhinaaDoor
open Go.RowKit Od Key

theorem name_r (W : World) : Calls Tryd.prog 49 #[.string ⟨#[114]⟩] W fun e w' => e = .returned (.bool true) ∧ Below W.heap.size W w' := by
  refine (name_any ⟨#[114]⟩ W (by decide)).mono ?_
  rintro e w' ⟨rfl, hw⟩
  exact ⟨rfl, hw⟩
theorem name_nut (W : World) : Calls Tryd.prog 49 #[.string ⟨#[110, 117, 116]⟩] W fun e w' => e = .returned (.bool true) ∧ Below W.heap.size W w' := by
  refine (name_any ⟨#[110, 117, 116]⟩ W (by decide)).mono ?_
  rintro e w' ⟨rfl, hw⟩
  exact ⟨rfl, hw⟩
set_option linter.unusedSimpArgs false in
set_option linter.unusedVariables false in
set_option maxRecDepth 100000 in
set_option maxHeartbeats 4000000 in
theorem oCheck_ok (w : World) (id qty amt : Int) (h1 : 1 ≤ id ∧ id ≤ 60) (h2 : 1 ≤ qty ∧ qty ≤ 999) (h3 : 1 ≤ amt ∧ amt ≤ 1099511627776) :
    Calls Tryd.prog 50 #[.agg #[.int .i64 id, .string ⟨#[114]⟩, .string ⟨#[110, 117, 116]⟩, .int .i64 qty, .int .i64 amt]] w fun e w' => e = .returned (.int .i64 0) ∧ Below w.heap.size w w' := by
  have HB := Lib.hid (below_alloc w (.cells #[.int .i64 id, .string ⟨#[114]⟩, .string ⟨#[110, 117, 116]⟩, .int .i64 qty, .int .i64 amt] tOrder))
  have HM := Lib.hid (heap_new w (.cells #[.int .i64 id, .string ⟨#[114]⟩, .string ⟨#[110, 117, 116]⟩, .int .i64 qty, .int .i64 amt] tOrder))
  go_enter Tryd.func50, Tryd.ntmps50
  go_wp2_with fail
  generalize w.alloc (.cells #[.int .i64 id, .string ⟨#[114]⟩, .string ⟨#[110, 117, 116]⟩, .int .i64 qty, .int .i64 amt] tOrder) = wa at HB HM ⊢
  obtain ⟨m0, m1, m2, m3, m4⟩ := cell5 HM.out
  go_wp2_with fail
  refine (name_r _).mono ?_
  rintro e w1 ⟨rfl, hb⟩
  have HB1 := Lib.hid (bch HB.out hb HB.out.size)
  have HM1 := Lib.hid (heap_keep HM.out hb)
  clear hb m0 m1 m2 m3 m4
  obtain ⟨m0, m1, m2, m3, m4⟩ := cell5 HM1.out
  go_wp2_with fail
  refine (name_nut _).mono ?_
  rintro e w2 ⟨rfl, hb⟩
  have HB2 := Lib.hid (bch HB1.out hb HB1.out.size)
  clear hb m0 m1 m2 m3 m4
  go_wp2_with fail
  go_ret
  exact ⟨rfl, HB2.out⟩
set_option linter.unusedSimpArgs false in
set_option linter.unusedVariables false in
set_option maxRecDepth 100000 in
set_option maxHeartbeats 4000000 in
theorem oMsg_pay (w : World) (hT : PT w) (id qty amt d : Int) (h1 : 1 ≤ id ∧ id ≤ 60) (h2 : 1 ≤ qty ∧ qty ≤ 999) (h3 : 1 ≤ amt ∧ amt ≤ 1099511627776) (hd : partyI d = 0) :
    Calls Tryd.prog 24 #[.agg #[.int .i64 id, .string ⟨#[114]⟩, .string ⟨#[110, 117, 116]⟩, .int .i64 qty, .int .i64 amt], .int .i64 d] w fun e w' => e = .returned (.agg #[.int .i64 0, .int .i64 id, .int .i64 d, .string ⟨#[]⟩, .int .i64 0, .int .i64 amt, .int .i64 0]) ∧ Below w.heap.size w w' := by
  have HM := Lib.hid (heap_keep (heap_new w (.cells #[.int .i64 id, .string ⟨#[114]⟩, .string ⟨#[110, 117, 116]⟩, .int .i64 qty, .int .i64 amt] tOrder)) (below_alloc _ (.cells #[.int .i64 0, .int .i64 0, .int .i64 0, .string ⟨#[]⟩, .int .i64 0, .int .i64 0, .int .i64 0] tMsg)))
  have hr1 := heap_new (w.alloc (.cells #[.int .i64 id, .string ⟨#[114]⟩, .string ⟨#[110, 117, 116]⟩, .int .i64 qty, .int .i64 amt] tOrder)) (.cells #[.int .i64 0, .int .i64 0, .int .i64 0, .string ⟨#[]⟩, .int .i64 0, .int .i64 0, .int .i64 0] tMsg)
  rw [show (w.alloc (.cells #[.int .i64 id, .string ⟨#[114]⟩, .string ⟨#[110, 117, 116]⟩, .int .i64 qty, .int .i64 amt] tOrder)).heap.size = w.heap.size + 1 by simp] at hr1
  have HZ := Lib.hid hr1
  have HB := Lib.hid ((below_alloc w (.cells #[.int .i64 id, .string ⟨#[114]⟩, .string ⟨#[110, 117, 116]⟩, .int .i64 qty, .int .i64 amt] tOrder)).alloc (by simp) (.cells #[.int .i64 0, .int .i64 0, .int .i64 0, .string ⟨#[]⟩, .int .i64 0, .int .i64 0, .int .i64 0] tMsg))
  have HC := Lib.hid (fun W => oCheck_ok W id qty amt h1 h2 h3)
  have HP := Lib.hid (fun W (hb : Below w.heap.size w W) => (party_any d W (hT.below hb)).mono (fun e w' h => (⟨by rw [h.1, hd], h.2⟩ : e = .returned (.int .i64 0) ∧ W = w')))
  
  clear hr1 h1 h2 h3 hd hT
  go_enter Tryd.func24, Tryd.ntmps24
  go_wp2_with fail
  generalize (w.alloc (.cells #[.int .i64 id, .string ⟨#[114]⟩, .string ⟨#[110, 117, 116]⟩, .int .i64 qty, .int .i64 amt] tOrder)).alloc (.cells #[.int .i64 0, .int .i64 0, .int .i64 0, .string ⟨#[]⟩, .int .i64 0, .int .i64 0, .int .i64 0] tMsg) = wa at HM HZ HB ⊢
  refine (HP.out _ HB.out).mono ?_
  rintro e w1 ⟨rfl, hw⟩; subst hw
  obtain ⟨m0, m1, m2, m3, m4⟩ := cell5 HM.out
  go_wp2_with fail
  refine (HC.out _).mono ?_
  rintro e w1 ⟨rfl, hb⟩
  have HBb := Lib.hid (Below.alloc (bch HB.out hb HB.out.size) (Nat.le_trans HB.out.size hb.size) (.cells #[.int .i64 0, .int .i64 id, .int .i64 d, .string ⟨#[]⟩, .int .i64 0, .int .i64 0, .int .i64 0] tMsg))
  have HMb := Lib.hid (heap_keep (heap_keep HM.out hb) (below_alloc _ (.cells #[.int .i64 0, .int .i64 id, .int .i64 d, .string ⟨#[]⟩, .int .i64 0, .int .i64 0, .int .i64 0] tMsg)))
  have HZb := Lib.hid (heap_keep (heap_keep HZ.out hb) (below_alloc _ (.cells #[.int .i64 0, .int .i64 id, .int .i64 d, .string ⟨#[]⟩, .int .i64 0, .int .i64 0, .int .i64 0] tMsg)))
  have HLb := Lib.hid (heap_new w1 (.cells #[.int .i64 0, .int .i64 id, .int .i64 d, .string ⟨#[]⟩, .int .i64 0, .int .i64 0, .int .i64 0] tMsg))
  have hsz : w.heap.size + 1 < w1.heap.size := heap_lt (heap_keep HZ.out hb)
  obtain ⟨n0, n1, n2, n3, n4⟩ := cell5 (heap_keep HM.out hb)
  have HZw := Lib.hid (heap_keep HZ.out hb)
  have HMw := Lib.hid (heap_keep HM.out hb)
  have HB1 := Lib.hid (bch HB.out hb HB.out.size)
  obtain ⟨k0, k1, k2, k3, k4⟩ := cell5 HMb.out
  obtain ⟨z0, z1, z2, z3, z4, z5, z6⟩ := cell7 (heap_keep HZ.out hb)
  obtain ⟨f0, f1, f2, f3, f4, f5, f6⟩ := froz7 (heap_keep HZ.out hb)
  obtain ⟨y0, y1, y2, y3, y4, y5, y6⟩ := cell7 HZb.out
  obtain ⟨g0, g1, g2, g3, g4, g5, g6⟩ := froz7 HZb.out
  clear hb m0 m1 m2 m3 m4 HM HZ HB
  go_wp2_with fail
  have HT := turned_set7 w1 (w.heap.size + 1) (.int .i64 0) (.int .i64 id) (.int .i64 d) (.string ⟨#[]⟩) (.int .i64 0) (.int .i64 amt) (.int .i64 0)
  have HS := set7 HZw.out (.int .i64 0) (.int .i64 id) (.int .i64 d) (.string ⟨#[]⟩) (.int .i64 0) (.int .i64 amt) (.int .i64 0)
  unfold set7w at HS
  obtain ⟨r0, r1, r2, r3, r4, r5, r6⟩ := cell7 (heap_keep HS (below_alloc _ (.cells #[.int .i64 0, .int .i64 id, .int .i64 d, .string ⟨#[]⟩, .int .i64 0, .int .i64 amt, .int .i64 0] tMsg)))
  clear z0 z1 z2 z3 z4 z5 z6 f0 f1 f2 f3 f4 f5 f6 y0 y1 y2 y3 y4 y5 y6 g0 g1 g2 g3 g4 g5 g6 HS
  refine bodyPost_ret (v := .agg #[.int .i64 0, .int .i64 id, .int .i64 d, .string ⟨#[]⟩, .int .i64 0, .int .i64 amt, .int .i64 0]) ?_ rfl ⟨rfl, ?_⟩
  · simp [results, Tryd.results24, go_sem, r0, r1, r2, r3, r4, r5, r6]
  · exact Below.alloc (Below.turned HB1.out HT (fun i hi => by omega) HB1.out.size) (Nat.le_trans HB1.out.size HT.size) _
set_option linter.unusedSimpArgs false in
set_option linter.unusedVariables false in
set_option maxRecDepth 100000 in
set_option maxHeartbeats 4000000 in
theorem oMsg_goods (w : World) (hT : PT w) (id qty amt d t : Int) (h1 : 1 ≤ id ∧ id ≤ 60) (h2 : 1 ≤ qty ∧ qty ≤ 999) (h3 : 1 ≤ amt ∧ amt ≤ 1099511627776) (hd : partyI d = t) (ht : 0 < t) :
    Calls Tryd.prog 24 #[.agg #[.int .i64 id, .string ⟨#[114]⟩, .string ⟨#[110, 117, 116]⟩, .int .i64 qty, .int .i64 amt], .int .i64 d] w fun e w' => e = .returned (.agg #[.int .i64 t, .int .i64 id, .int .i64 d, .string ⟨#[110, 117, 116]⟩, .int .i64 qty, .int .i64 0, .int .i64 0]) ∧ Below w.heap.size w w' := by
  have HM := Lib.hid (heap_keep (heap_new w (.cells #[.int .i64 id, .string ⟨#[114]⟩, .string ⟨#[110, 117, 116]⟩, .int .i64 qty, .int .i64 amt] tOrder)) (below_alloc _ (.cells #[.int .i64 0, .int .i64 0, .int .i64 0, .string ⟨#[]⟩, .int .i64 0, .int .i64 0, .int .i64 0] tMsg)))
  have hr1 := heap_new (w.alloc (.cells #[.int .i64 id, .string ⟨#[114]⟩, .string ⟨#[110, 117, 116]⟩, .int .i64 qty, .int .i64 amt] tOrder)) (.cells #[.int .i64 0, .int .i64 0, .int .i64 0, .string ⟨#[]⟩, .int .i64 0, .int .i64 0, .int .i64 0] tMsg)
  rw [show (w.alloc (.cells #[.int .i64 id, .string ⟨#[114]⟩, .string ⟨#[110, 117, 116]⟩, .int .i64 qty, .int .i64 amt] tOrder)).heap.size = w.heap.size + 1 by simp] at hr1
  have HZ := Lib.hid hr1
  have HB := Lib.hid ((below_alloc w (.cells #[.int .i64 id, .string ⟨#[114]⟩, .string ⟨#[110, 117, 116]⟩, .int .i64 qty, .int .i64 amt] tOrder)).alloc (by simp) (.cells #[.int .i64 0, .int .i64 0, .int .i64 0, .string ⟨#[]⟩, .int .i64 0, .int .i64 0, .int .i64 0] tMsg))
  have HC := Lib.hid (fun W => oCheck_ok W id qty amt h1 h2 h3)
  have HP := Lib.hid (fun W (hb : Below w.heap.size w W) => (party_any d W (hT.below hb)).mono (fun e w' h => (⟨by rw [h.1, hd], h.2⟩ : e = .returned (.int .i64 t) ∧ W = w')))
  have htn := beqF (show ¬ t = 0 by omega)
  clear hr1 h1 h2 h3 hd hT
  go_enter Tryd.func24, Tryd.ntmps24
  go_wp2_with fail
  generalize (w.alloc (.cells #[.int .i64 id, .string ⟨#[114]⟩, .string ⟨#[110, 117, 116]⟩, .int .i64 qty, .int .i64 amt] tOrder)).alloc (.cells #[.int .i64 0, .int .i64 0, .int .i64 0, .string ⟨#[]⟩, .int .i64 0, .int .i64 0, .int .i64 0] tMsg) = wa at HM HZ HB ⊢
  refine (HP.out _ HB.out).mono ?_
  rintro e w1 ⟨rfl, hw⟩; subst hw
  obtain ⟨m0, m1, m2, m3, m4⟩ := cell5 HM.out
  go_wp2_with fail
  refine (HC.out _).mono ?_
  rintro e w1 ⟨rfl, hb⟩
  have HBb := Lib.hid (Below.alloc (bch HB.out hb HB.out.size) (Nat.le_trans HB.out.size hb.size) (.cells #[.int .i64 t, .int .i64 id, .int .i64 d, .string ⟨#[]⟩, .int .i64 0, .int .i64 0, .int .i64 0] tMsg))
  have HMb := Lib.hid (heap_keep (heap_keep HM.out hb) (below_alloc _ (.cells #[.int .i64 t, .int .i64 id, .int .i64 d, .string ⟨#[]⟩, .int .i64 0, .int .i64 0, .int .i64 0] tMsg)))
  have HZb := Lib.hid (heap_keep (heap_keep HZ.out hb) (below_alloc _ (.cells #[.int .i64 t, .int .i64 id, .int .i64 d, .string ⟨#[]⟩, .int .i64 0, .int .i64 0, .int .i64 0] tMsg)))
  have HLb := Lib.hid (heap_new w1 (.cells #[.int .i64 t, .int .i64 id, .int .i64 d, .string ⟨#[]⟩, .int .i64 0, .int .i64 0, .int .i64 0] tMsg))
  have hsz : w.heap.size + 1 < w1.heap.size := heap_lt (heap_keep HZ.out hb)
  obtain ⟨n0, n1, n2, n3, n4⟩ := cell5 (heap_keep HM.out hb)
  have HZw := Lib.hid (heap_keep HZ.out hb)
  have HMw := Lib.hid (heap_keep HM.out hb)
  have HB1 := Lib.hid (bch HB.out hb HB.out.size)
  obtain ⟨k0, k1, k2, k3, k4⟩ := cell5 HMb.out
  obtain ⟨z0, z1, z2, z3, z4, z5, z6⟩ := cell7 (heap_keep HZ.out hb)
  obtain ⟨f0, f1, f2, f3, f4, f5, f6⟩ := froz7 (heap_keep HZ.out hb)
  obtain ⟨y0, y1, y2, y3, y4, y5, y6⟩ := cell7 HZb.out
  obtain ⟨g0, g1, g2, g3, g4, g5, g6⟩ := froz7 HZb.out
  clear hb m0 m1 m2 m3 m4 HM HZ HB
  go_wp2_with fail
  obtain ⟨kk0, kk1, kk2, kk3, kk4⟩ := cell5 (heap_keep HMw.out (below_alloc _ (.cells #[.int .i64 t, .int .i64 id, .int .i64 d, .string ⟨#[110, 117, 116]⟩, .int .i64 0, .int .i64 0, .int .i64 0] tMsg)))
  go_region
  all_goals
    go_wp2_with fail
    have HT := turned_set7 w1 (w.heap.size + 1) (.int .i64 t) (.int .i64 id) (.int .i64 d) (.string ⟨#[110, 117, 116]⟩) (.int .i64 qty) (.int .i64 0) (.int .i64 0)
    have HS := set7 HZw.out (.int .i64 t) (.int .i64 id) (.int .i64 d) (.string ⟨#[110, 117, 116]⟩) (.int .i64 qty) (.int .i64 0) (.int .i64 0)
    unfold set7w at HS
    obtain ⟨r0, r1, r2, r3, r4, r5, r6⟩ := cell7 (heap_keep HS (below_alloc _ (.cells #[.int .i64 t, .int .i64 id, .int .i64 d, .string ⟨#[110, 117, 116]⟩, .int .i64 qty, .int .i64 0, .int .i64 0] tMsg)))
    clear z0 z1 z2 z3 z4 z5 z6 f0 f1 f2 f3 f4 f5 f6 y0 y1 y2 y3 y4 y5 y6 g0 g1 g2 g3 g4 g5 g6 HS
    refine bodyPost_ret (v := .agg #[.int .i64 t, .int .i64 id, .int .i64 d, .string ⟨#[110, 117, 116]⟩, .int .i64 qty, .int .i64 0, .int .i64 0]) ?_ rfl ⟨rfl, ?_⟩
    · simp [results, Tryd.results24, go_sem, r0, r1, r2, r3, r4, r5, r6]
    · exact below_drew1 (Below.alloc (Below.turned HB1.out HT (fun i hi => by omega) HB1.out.size) (Nat.le_trans HB1.out.size HT.size) _)
end Go.Proofs.YtkmpagijdhhinaaDoor

/- A core that is none: what its methods do. -/
import Derived.Test.YtlkncmpengpbiaaGreatDoorCoreGreat
import Derived.Test.YtlkncmpengpbiaaGreatDoorModelWas
import Derived.Test.YtlkncmpengpbiaaGreatDoorActs
namespace Go.Proofs.YtlkncmpengpbiaaGreatDoor
open Go.RowKit Go.Maps Key Rw Sa Co

abbrev tParts : TypeId := 141
/-- The pointer leads to no core. -/
def NoCore (w : World) (v : Value) : Prop := v = .pointer none ∨ ∃ a, v = .pointer (some ⟨a, 0, none⟩) ∧ w.cell? ⟨a, 1, none⟩ = some (.pointer none)
theorem NoCore.below {w w' : World} {v : Value} (h : NoCore w v) (hb : Below w.heap.size w w') : NoCore w' v := by
  rcases h with h | ⟨a, h, hc⟩
  · exact .inl h
  · exact .inr ⟨a, h, (hb.cell (p := ⟨a, 1, none⟩) (World.block_lt_of_cell? w _ hc)).trans hc⟩
set_option linter.unusedSimpArgs false in
set_option linter.unusedVariables false in
set_option maxRecDepth 100000 in
set_option maxHeartbeats 8000000 in
theorem cnone_yes (w : World) (v : Value) (h : NoCore w v) : Calls Tryz.prog 39 #[v] w fun e w' => e = .returned (.bool true) ∧ w = w' := by
  rcases h with rfl | ⟨a, rfl, hc⟩
  · go_enter Tryz.func39, Tryz.ntmps39
    go_wp2_with fail
    go_ret
    exact ⟨rfl, rfl⟩
  · go_enter Tryz.func39, Tryz.ntmps39
    go_wp2_with fail
    go_ret
    exact ⟨rfl, rfl⟩
set_option linter.unusedSimpArgs false in
set_option linter.unusedVariables false in
set_option maxRecDepth 100000 in
set_option maxHeartbeats 8000000 in
theorem nilcOrders (w : World) (v : Value) (h : NoCore w v) : Calls Tryz.prog 34 #[v] w fun e w' => e = .returned (.int .i64 0) ∧ w = w' := by
  have HN := Lib.hid (cnone_yes w v h)
  clear h
  go_enter Tryz.func34, Tryz.ntmps34
  go_wp2_with (go_at_call 39; refine HN.out.mono ?_; rintro e w0 ⟨rfl, hw⟩; subst hw)
  go_ret
  exact ⟨rfl, rfl⟩
set_option linter.unusedSimpArgs false in
set_option linter.unusedVariables false in
set_option maxRecDepth 100000 in
set_option maxHeartbeats 8000000 in
theorem nilcAsks (w : World) (v : Value) (h : NoCore w v) : Calls Tryz.prog 14 #[v] w fun e w' => e = .returned (.slice none 0 0) ∧ w = w' := by
  have HN := Lib.hid (cnone_yes w v h)
  clear h
  go_enter Tryz.func14, Tryz.ntmps14
  go_wp2_with (go_at_call 39; refine HN.out.mono ?_; rintro e w0 ⟨rfl, hw⟩; subst hw)
  go_ret
  exact ⟨rfl, rfl⟩
set_option linter.unusedSimpArgs false in
set_option linter.unusedVariables false in
set_option maxRecDepth 100000 in
set_option maxHeartbeats 8000000 in
theorem nilcDiffs (w : World) (v : Value) (h : NoCore w v) : Calls Tryz.prog 92 #[v] w fun e w' => e = .returned (.slice none 0 0) ∧ w = w' := by
  have HN := Lib.hid (cnone_yes w v h)
  clear h
  go_enter Tryz.func92, Tryz.ntmps92
  go_wp2_with (go_at_call 39; refine HN.out.mono ?_; rintro e w0 ⟨rfl, hw⟩; subst hw)
  go_ret
  exact ⟨rfl, rfl⟩
set_option linter.unusedSimpArgs false in
set_option linter.unusedVariables false in
set_option maxRecDepth 100000 in
set_option maxHeartbeats 8000000 in
theorem nilcCopy (w : World) (v : Value) (h : NoCore w v) : Calls Tryz.prog 36 #[v] w fun e w' => e = .returned (.pointer none) ∧ w = w' := by
  have HN := Lib.hid (cnone_yes w v h)
  clear h
  go_enter Tryz.func36, Tryz.ntmps36
  go_wp2_with (go_at_call 39; refine HN.out.mono ?_; rintro e w0 ⟨rfl, hw⟩; subst hw)
  go_ret
  exact ⟨rfl, rfl⟩
set_option linter.unusedSimpArgs false in
set_option linter.unusedVariables false in
set_option maxRecDepth 100000 in
set_option maxHeartbeats 8000000 in
theorem nilcOrder (w : World) (v : Value) (h : NoCore w v) (i : Int) : Calls Tryz.prog 65 #[v, .int .i64 i] w fun e w' => e = .returned (.tuple #[sgV sg0, .int .i64 1]) ∧ Below w.heap.size w w' := by
  obtain ⟨wa, hA⟩ : ∃ wa, wa = w.alloc (.cells (sgA sg0) tSaga) := ⟨_, rfl⟩
  have hB : Below w.heap.size w wa := by rw [hA]; exact below_alloc _ _
  have hX : wa.heap[w.heap.size]? = some (.cells (sgA sg0) tSaga (0, 0)) := by rw [hA]; exact heap_new _ _
  have HN := Lib.hid (cnone_yes wa v (h.below hB))
  have HA := Lib.hid hA; have HB := Lib.hid hB; have HX := Lib.hid hX
  clear hA hB hX h
  obtain ⟨m0, m1, m2, m3, m4, m5, m6, m7, m8, m9, m10, m11⟩ := cell12 HX.out
  obtain ⟨f0, f1, f2, f3, f4, f5, f6, f7, f8, f9, f10, f11⟩ := froz12 HX.out
  go_enter Tryz.func65, Tryz.ntmps65
  go_upto_region 1 with (fail)
  rw [← HA.out]
  go_wp2_with (go_at_call 39; refine HN.out.mono ?_; rintro e w0 ⟨rfl, hw⟩; subst hw)
  refine bodyPost_ret (v := .tuple #[sgV sg0, .int .i64 1]) (by simp [results, Tryz.results65, go_sem, m0, m1, m2, m3, m4, m5, m6, m7, m8, m9, m10, m11]) rfl ⟨rfl, ?_⟩
  exact Below.turned HB.out (turned_set12 wa w.heap.size _ _ _ _ _ _ _ _ _ _ _ _) (fun i h => by omega) HB.out.size
set_option linter.unusedSimpArgs false in
set_option linter.unusedVariables false in
set_option maxRecDepth 100000 in
set_option maxHeartbeats 8000000 in
theorem nilcApply (w : World) (v : Value) (h : NoCore w v) (e : Ent) (u : Value) (hu : Rd w u e.s.2.2) : Calls Tryz.prog 29 #[v, .agg #[.int .i64 e.kind, .int .i64 e.o.1, .string ⟨e.o.2.1.toArray⟩, .string ⟨e.o.2.2.1.toArray⟩, .int .i64 e.o.2.2.2.1, .int .i64 e.o.2.2.2.2, .int .i64 e.k.1, .int .i64 e.k.2, .int .i64 e.code, .int .i64 e.s.1, .int .i64 e.s.2.1, u]] w fun r w' => r = .returned (.int .i64 1) ∧ Below w.heap.size w w' := by
  obtain ⟨Au, cu, rfl, _⟩ := hu.shape
  obtain ⟨wa, hA⟩ : ∃ wa, wa = w.alloc (.cells #[.int .i64 e.kind, .int .i64 e.o.1, .string ⟨e.o.2.1.toArray⟩, .string ⟨e.o.2.2.1.toArray⟩, .int .i64 e.o.2.2.2.1, .int .i64 e.o.2.2.2.2, .int .i64 e.k.1, .int .i64 e.k.2, .int .i64 e.code, .int .i64 e.s.1, .int .i64 e.s.2.1, .slice Au e.s.2.2.length cu] tEnt) := ⟨_, rfl⟩
  have hB : Below w.heap.size w wa := by rw [hA]; exact below_alloc _ _
  have HN := Lib.hid (cnone_yes wa v (h.below hB))
  have HA := Lib.hid hA; have HB := Lib.hid hB
  clear hA hB h hu
  go_enter Tryz.func29, Tryz.ntmps29
  go_upto_region 1 with (fail)
  rw [← HA.out]
  go_wp2_with (go_at_call 39; refine HN.out.mono ?_; rintro e w0 ⟨rfl, hw⟩; subst hw)
  go_ret
  exact ⟨rfl, HB.out⟩
set_option linter.unusedSimpArgs false in
set_option linter.unusedVariables false in
set_option maxRecDepth 100000 in
set_option maxHeartbeats 8000000 in
theorem nilcParts (w : World) (v : Value) (h : NoCore w v) : Calls Tryz.prog 90 #[v] w fun e w' => e = .returned (.agg #[.slice none 0 0, .slice none 0 0, .int .i64 0, .int .i64 0, .slice none 0 0, .int .i64 0, .int .i64 0, .slice none 0 0, .int .i64 0, .int .i64 0, .slice none 0 0]) ∧ Below w.heap.size w w' := by
  obtain ⟨wa, hA⟩ : ∃ wa, wa = w.alloc (.cells #[.slice none 0 0, .slice none 0 0, .int .i64 0, .int .i64 0, .slice none 0 0, .int .i64 0, .int .i64 0, .slice none 0 0, .int .i64 0, .int .i64 0, .slice none 0 0] tParts) := ⟨_, rfl⟩
  have hB : Below w.heap.size w wa := by rw [hA]; exact below_alloc _ _
  have HN := Lib.hid (cnone_yes wa v (h.below hB))
  have HA := Lib.hid hA; have HB := Lib.hid hB
  have HX := Lib.hid (show wa.heap[w.heap.size]? = some (.cells #[.slice none 0 0, .slice none 0 0, .int .i64 0, .int .i64 0, .slice none 0 0, .int .i64 0, .int .i64 0, .slice none 0 0, .int .i64 0, .int .i64 0, .slice none 0 0] tParts (0, 0)) by rw [hA]; exact heap_new _ _)
  clear hA hB h
  obtain ⟨m0, m1, m2, m3, m4, m5, m6, m7, m8, m9, m10⟩ := cell11 HX.out
  obtain ⟨f0, f1, f2, f3, f4, f5, f6, f7, f8, f9, f10⟩ := froz11 HX.out
  go_enter Tryz.func90, Tryz.ntmps90
  go_upto_region 1 with (fail)
  rw [← HA.out]
  go_wp2_with (go_at_call 39; refine HN.out.mono ?_; rintro e w0 ⟨rfl, hw⟩; subst hw)
  refine bodyPost_ret (v := .agg #[.slice none 0 0, .slice none 0 0, .int .i64 0, .int .i64 0, .slice none 0 0, .int .i64 0, .int .i64 0, .slice none 0 0, .int .i64 0, .int .i64 0, .slice none 0 0]) (by simp [results, Tryz.results90, go_sem, m0, m1, m2, m3, m4, m5, m6, m7, m8, m9, m10]) rfl ⟨rfl, ?_⟩
  exact Below.turned HB.out (turned_set11 wa w.heap.size _ _ _ _ _ _ _ _ _ _ _) (fun i h => by omega) HB.out.size
end Go.Proofs.YtlkncmpengpbiaaGreatDoor
/- A model that is none: what its methods do. -/
namespace Go.Proofs.YtlkncmpengpbiaaGreatDoor
open Go.RowKit Go.Maps Key Rw Sa Co

/-- The pointer leads to no model. -/
def NoModel (w : World) (v : Value) : Prop := v = .pointer none ∨ ∃ a, v = .pointer (some ⟨a, 0, none⟩) ∧ w.cell? ⟨a, 0, none⟩ = some (.pointer none)
theorem NoModel.below {w w' : World} {v : Value} (h : NoModel w v) (hb : Below w.heap.size w w') : NoModel w' v := by
  rcases h with h | ⟨a, h, hc⟩
  · exact .inl h
  · exact .inr ⟨a, h, (hb.cell (p := ⟨a, 0, none⟩) (World.block_lt_of_cell? w _ hc)).trans hc⟩
set_option linter.unusedSimpArgs false in
set_option linter.unusedVariables false in
set_option maxRecDepth 100000 in
set_option maxHeartbeats 8000000 in
theorem mnone_yes (w : World) (v : Value) (h : NoModel w v) : Calls Tryz.prog 28 #[v] w fun e w' => e = .returned (.bool true) ∧ w = w' := by
  rcases h with rfl | ⟨a, rfl, hc⟩
  · go_enter Tryz.func28, Tryz.ntmps28
    go_wp2_with fail
    go_ret
    exact ⟨rfl, rfl⟩
  · go_enter Tryz.func28, Tryz.ntmps28
    go_wp2_with fail
    go_ret
    exact ⟨rfl, rfl⟩
set_option linter.unusedSimpArgs false in
set_option linter.unusedVariables false in
set_option maxRecDepth 100000 in
set_option maxHeartbeats 8000000 in
theorem nilmNow (w : World) (v : Value) (h : NoModel w v) : Calls Tryz.prog 17 #[v] w fun e w' => e = .returned (.int .i64 0) ∧ w = w' := by
  have HN := Lib.hid (mnone_yes w v h)
  clear h
  go_enter Tryz.func17, Tryz.ntmps17
  go_wp2_with (go_at_call 28; refine HN.out.mono ?_; rintro e w0 ⟨rfl, hw⟩; subst hw)
  go_ret
  exact ⟨rfl, rfl⟩
set_option linter.unusedSimpArgs false in
set_option linter.unusedVariables false in
set_option maxRecDepth 100000 in
set_option maxHeartbeats 8000000 in
theorem nilmCore (w : World) (v : Value) (h : NoModel w v) : Calls Tryz.prog 13 #[v] w fun e w' => e = .returned (.pointer none) ∧ w = w' := by
  have HN := Lib.hid (mnone_yes w v h)
  clear h
  go_enter Tryz.func13, Tryz.ntmps13
  go_wp2_with (go_at_call 28; refine HN.out.mono ?_; rintro e w0 ⟨rfl, hw⟩; subst hw)
  go_ret
  exact ⟨rfl, rfl⟩
set_option linter.unusedSimpArgs false in
set_option linter.unusedVariables false in
set_option maxRecDepth 100000 in
set_option maxHeartbeats 8000000 in
theorem nilmWaits (w : World) (v : Value) (h : NoModel w v) : Calls Tryz.prog 15 #[v] w fun e w' => e = .returned (.slice none 0 0) ∧ w = w' := by
  have HN := Lib.hid (mnone_yes w v h)
  clear h
  go_enter Tryz.func15, Tryz.ntmps15
  go_wp2_with (go_at_call 28; refine HN.out.mono ?_; rintro e w0 ⟨rfl, hw⟩; subst hw)
  go_ret
  exact ⟨rfl, rfl⟩
set_option linter.unusedSimpArgs false in
set_option linter.unusedVariables false in
set_option maxRecDepth 100000 in
set_option maxHeartbeats 8000000 in
theorem nilmCopy (w : World) (v : Value) (h : NoModel w v) : Calls Tryz.prog 18 #[v] w fun e w' => e = .returned (.pointer none) ∧ w = w' := by
  have HN := Lib.hid (mnone_yes w v h)
  clear h
  go_enter Tryz.func18, Tryz.ntmps18
  go_wp2_with (go_at_call 28; refine HN.out.mono ?_; rintro e w0 ⟨rfl, hw⟩; subst hw)
  go_ret
  exact ⟨rfl, rfl⟩
set_option linter.unusedSimpArgs false in
set_option linter.unusedVariables false in
set_option maxRecDepth 100000 in
set_option maxHeartbeats 8000000 in
theorem nilmTick (w : World) (v : Value) (h : NoModel w v) : Calls Tryz.prog 11 #[v] w fun e w' => e = .returned (.slice none 0 0) ∧ w = w' := by
  have HN := Lib.hid (mnone_yes w v h)
  clear h
  go_enter Tryz.func11, Tryz.ntmps11
  go_wp2_with (go_at_call 28; refine HN.out.mono ?_; rintro e w0 ⟨rfl, hw⟩; subst hw)
  go_ret
  exact ⟨rfl, rfl⟩
set_option linter.unusedSimpArgs false in
set_option linter.unusedVariables false in
set_option maxRecDepth 100000 in
set_option maxHeartbeats 8000000 in
theorem nilmDo (w : World) (v : Value) (h : NoModel w v) (e : Ent) (A : Option Addr) (n cu : Nat) : Calls Tryz.prog 9 #[v, .agg #[.int .i64 e.kind, .int .i64 e.o.1, .string ⟨e.o.2.1.toArray⟩, .string ⟨e.o.2.2.1.toArray⟩, .int .i64 e.o.2.2.2.1, .int .i64 e.o.2.2.2.2, .int .i64 e.k.1, .int .i64 e.k.2, .int .i64 e.code, .int .i64 e.s.1, .int .i64 e.s.2.1, .slice A n cu]] w fun r w' => r = .returned (.tuple #[.slice none 0 0, .int .i64 1]) ∧ Below w.heap.size w w' := by
  obtain ⟨wa, hA⟩ : ∃ wa, wa = w.alloc (.cells #[.int .i64 e.kind, .int .i64 e.o.1, .string ⟨e.o.2.1.toArray⟩, .string ⟨e.o.2.2.1.toArray⟩, .int .i64 e.o.2.2.2.1, .int .i64 e.o.2.2.2.2, .int .i64 e.k.1, .int .i64 e.k.2, .int .i64 e.code, .int .i64 e.s.1, .int .i64 e.s.2.1, .slice A n cu] tEnt) := ⟨_, rfl⟩
  have hB : Below w.heap.size w wa := by rw [hA]; exact below_alloc _ _
  have HN := Lib.hid (mnone_yes wa v (h.below hB))
  have HA := Lib.hid hA; have HB := Lib.hid hB
  clear hA hB h
  go_enter Tryz.func9, Tryz.ntmps9
  go_upto_region 1 with (fail)
  rw [← HA.out]
  go_wp2_with (go_at_call 28; refine HN.out.mono ?_; rintro r0 w0 ⟨rfl, hw⟩; subst hw)
  go_ret2
  exact ⟨rfl, HB.out⟩
set_option linter.unusedSimpArgs false in
set_option linter.unusedVariables false in
set_option maxRecDepth 100000 in
set_option maxHeartbeats 8000000 in
theorem nilmPlace (w : World) (v : Value) (h : NoModel w v) (id q a : Int) (r s : List UInt8) : Calls Tryz.prog 10 #[v, .agg #[.int .i64 id, .string ⟨r.toArray⟩, .string ⟨s.toArray⟩, .int .i64 q, .int .i64 a]] w fun e w' => e = .returned (.agg #[.int .i64 0, .int .i64 0, .string ⟨#[]⟩, .string ⟨#[]⟩, .int .i64 0, .int .i64 0, .int .i64 0, .int .i64 0, .int .i64 0, .int .i64 0, .int .i64 0, .slice none 0 0]) ∧ Below w.heap.size w w' := by
 obtain ⟨wa, hA⟩ : ∃ wa, wa = (w.alloc (.cells #[.int .i64 id, .string ⟨r.toArray⟩, .string ⟨s.toArray⟩, .int .i64 q, .int .i64 a] 29)).alloc (.cells #[.int .i64 0, .int .i64 0, .string ⟨#[]⟩, .string ⟨#[]⟩, .int .i64 0, .int .i64 0, .int .i64 0, .int .i64 0, .int .i64 0, .int .i64 0, .int .i64 0, .slice none 0 0] 36) := ⟨_, rfl⟩
 have hb : Below w.heap.size w wa := by rw [hA]; exact (below_alloc w _).alloc (by simp) _
 have HO := Hd (show wa.heap[w.heap.size]? = some (.cells #[.int .i64 id, .string ⟨r.toArray⟩, .string ⟨s.toArray⟩, .int .i64 q, .int .i64 a] 29 (0, 0)) by rw [hA]; exact heap_keep (heap_new w _) (below_alloc _ _))
 have HZ := Hd (show wa.heap[w.heap.size + 1]? = some (.cells #[.int .i64 0, .int .i64 0, .string ⟨#[]⟩, .string ⟨#[]⟩, .int .i64 0, .int .i64 0, .int .i64 0, .int .i64 0, .int .i64 0, .int .i64 0, .int .i64 0, .slice none 0 0] 36 (0, 0)) by rw [hA]; have := heap_new (w.alloc (.cells #[.int .i64 id, .string ⟨r.toArray⟩, .string ⟨s.toArray⟩, .int .i64 q, .int .i64 a] 29)) (.cells #[.int .i64 0, .int .i64 0, .string ⟨#[]⟩, .string ⟨#[]⟩, .int .i64 0, .int .i64 0, .int .i64 0, .int .i64 0, .int .i64 0, .int .i64 0, .int .i64 0, .slice none 0 0] 36); rwa [show (w.alloc (.cells #[.int .i64 id, .string ⟨r.toArray⟩, .string ⟨s.toArray⟩, .int .i64 q, .int .i64 a] 29)).heap.size = w.heap.size + 1 by simp] at this)
 have HN := Hd (mnone_yes wa v (h.below hb)); have HB := Hd hb; have HA := Hd hA
 have hsz := heap_lt HZ.out
 clear h hb hA
 obtain ⟨o0, o1, o2, o3, o4⟩ := cell5 HO.out
 obtain ⟨p0, p1, p2, p3, p4⟩ := froz5 HO.out
 obtain ⟨z0, z1, z2, z3, z4, z5, z6, z7, z8, z9, z10, z11⟩ := cell12 HZ.out
 obtain ⟨f0, f1, f2, f3, f4, f5, f6, f7, f8, f9, f10, f11⟩ := froz12 HZ.out
 go_enter Tryz.func10, Tryz.ntmps10
 go_upto_region 1 with (fail)
 rw [← HA.out]
 go_wp2_with (go_at_call 28; refine HN.out.mono ?_; rintro e w0 ⟨rfl, hw⟩; subst hw)
 refine bodyPost_ret (v := .agg #[.int .i64 0, .int .i64 0, .string ⟨#[]⟩, .string ⟨#[]⟩, .int .i64 0, .int .i64 0, .int .i64 0, .int .i64 0, .int .i64 0, .int .i64 0, .int .i64 0, .slice none 0 0]) ?_ rfl ⟨rfl, ?_⟩
 ·simp [results, Tryz.results10, go_sem, z0, z1, z2, z3, z4, z5, z6, z7, z8, z9, z10, z11]
 ·exact Below.turned HB.out (turned_set12 wa (w.heap.size + 1) _ _ _ _ _ _ _ _ _ _ _ _) (fun i hi => by omega) HB.out.size
set_option linter.unusedSimpArgs false in
set_option linter.unusedVariables false in
set_option maxRecDepth 100000 in
set_option maxHeartbeats 8000000 in
theorem nilmOf (w : World) : Calls Tryz.prog 12 #[.pointer none] w fun e w' => e = .returned (.pointer none) ∧ w = w' := by
  have HN := Lib.hid (nilcCopy w (.pointer none) (.inl rfl))
  go_enter Tryz.func12, Tryz.ntmps12
  go_wp2_with (go_at_call 36; refine HN.out.mono ?_; rintro e w0 ⟨rfl, hw⟩; subst hw)
  go_ret
  exact ⟨rfl, rfl⟩
end Go.Proofs.YtlkncmpengpbiaaGreatDoor
/- law26: ModelNone. -/
namespace Go.Proofs.YtlkncmpengpbiaaGreatDoor
open Go.RowKit Go.Maps Key Rw Sa Co

theorem act_one {w : World} {b : Nat} {kd : Int} {e : Ent} {A : Option Addr} {cc : Nat} (hb : w.heap[b]? = some (.cells #[.int .u8 kd, .int .i64 e.kind, .int .i64 e.o.1, .string ⟨e.o.2.1.toArray⟩, .string ⟨e.o.2.2.1.toArray⟩, .int .i64 e.o.2.2.2.1, .int .i64 e.o.2.2.2.2, .int .i64 e.k.1, .int .i64 e.k.2, .int .i64 e.code, .int .i64 e.s.1, .int .i64 e.s.2.1, .slice A e.s.2.2.length cc] tAct (0, 0))) (hk : 0 ≤ kd ∧ kd ≤ 255) (h : EntAt w (.slice A e.s.2.2.length cc) e) : Acts w (.slice (some ⟨b, 0, none⟩) 1 1) [(kd, e)] := by
 refine ⟨some ⟨b, 0, none⟩, 1, 1, rfl, rfl, Nat.le_refl _, by decide, fun i x hi => ?_⟩
 have hi0 : i = 0 := by have := (List.getElem?_eq_some_iff.1 hi).1; simpa using this
 subst hi0
 obtain rfl : (kd, e) = x := by simpa using hi
 refine ⟨b, 0, .int .u8 kd :: entV e (.slice A e.s.2.2.length cc), rfl, heap_lt hb, rfl, fun j u hj => ?_, ⟨_, rfl, hk, _, rfl, h.nn, h.rd.1, h.rd.2⟩⟩
 rw [show 0 + 0 * 13 + j = j by omega]
 exact cell_at hb j (by simpa [entV] using hj)
set_option linter.unusedSimpArgs false in
set_option linter.unusedVariables false in
set_option maxRecDepth 100000 in
set_option maxHeartbeats 8000000 in
theorem lawModelNone_walk (w : World) (hK : KW w) (kd : Int) (hk8 : 0 ≤ kd ∧ kd ≤ 255) (e : Ent) (u : Value) (hu : EntAt w u e) :
  Calls Tryz.prog 4 #[.agg #[.int .u8 kd, .int .i64 e.kind, .int .i64 e.o.1, .string ⟨e.o.2.1.toArray⟩, .string ⟨e.o.2.2.1.toArray⟩, .int .i64 e.o.2.2.2.1, .int .i64 e.o.2.2.2.2, .int .i64 e.k.1, .int .i64 e.k.2, .int .i64 e.code, .int .i64 e.s.1, .int .i64 e.s.2.1, u]] w fun r w' => r = .returned (.bool true) ∧ Below w.heap.size w w' := by
 obtain ⟨A, cc, rfl, _⟩ := SlK.shape hu.rd.1
 obtain ⟨w2, hW⟩ : ∃ w2, w2 = (w.alloc (.cells #[.int .u8 kd, .int .i64 e.kind, .int .i64 e.o.1, .string ⟨e.o.2.1.toArray⟩, .string ⟨e.o.2.2.1.toArray⟩, .int .i64 e.o.2.2.2.1, .int .i64 e.o.2.2.2.2, .int .i64 e.k.1, .int .i64 e.k.2, .int .i64 e.code, .int .i64 e.s.1, .int .i64 e.s.2.1, .slice A e.s.2.2.length cc] tAct)).alloc (.cells #[.int .u8 kd, .int .i64 e.kind, .int .i64 e.o.1, .string ⟨e.o.2.1.toArray⟩, .string ⟨e.o.2.2.1.toArray⟩, .int .i64 e.o.2.2.2.1, .int .i64 e.o.2.2.2.2, .int .i64 e.k.1, .int .i64 e.k.2, .int .i64 e.code, .int .i64 e.s.1, .int .i64 e.s.2.1, .slice A e.s.2.2.length cc] tAct) := ⟨_, rfl⟩
 obtain ⟨hB, hX, hY⟩ := two_new w _ _ tAct tAct hW
 have HS := Hd (act_one hY hk8 (hu.below hB))
 have HU := Hd (hu.below hB); have HB := Hd hB; have HX := Hd hX; have HW := Hd hW; have HK := Hd (hK.below hB)
 clear hB hX hY hW hK hu hk8
 go_enter Tryz.func4, Tryz.ntmps4
 go_wp2_with fail
 rw [← HW.out]
 refine (agreats_any w2 _ [(kd, e)] 1 HS.out).mono ?_
 rintro r w3 ⟨rfl, hb⟩
 have HB3 := Hd (bch HB.out hb HB.out.size); have HX3 := Hd (heap_keep HX.out hb); have HK3 := Hd (HK.out.below hb); have HU3 := Hd (HU.out.below hb)
 clear hb HS HB HX HK HU HW
 cases hG : actsG [(kd, e)] 1 with
 | true =>
  go_wp2_with fail
  refine (masks_at w3 HK3.out).mono ?_
  rintro r w4 ⟨rfl, hb⟩
  have HB4 := Hd (bch HB3.out hb HB3.out.size)
  clear hb
  go_wp2_with fail
  go_ret
  exact ⟨rfl, HB4.out⟩
 | false =>
  clear hG
  go_wp2_with fail
  go_loopw [3, 4] (fun v i wr => ∃ n : Nat, i = .int .i64 n ∧ n ≤ 2 ∧ Hid (NoModel wr v) ∧ Hid (wr.heap[w.heap.size]? = some (.cells #[.int .u8 kd, .int .i64 e.kind, .int .i64 e.o.1, .string ⟨e.o.2.1.toArray⟩, .string ⟨e.o.2.2.1.toArray⟩, .int .i64 e.o.2.2.2.1, .int .i64 e.o.2.2.2.2, .int .i64 e.k.1, .int .i64 e.k.2, .int .i64 e.code, .int .i64 e.s.1, .int .i64 e.s.2.1, .slice A e.s.2.2.length cc] tAct (0, 0))) ∧ Hid (Below w.heap.size w wr) ∧ Hid (KW wr)) (fun _ i _ => 2 - (intOf i).toNat)
  case atStart => exact ⟨0, rfl, by omega, .inl rfl, HX3, HB3, HK3⟩
  case round =>
   obtain ⟨n, rfl, hn, HN, HX, HB, HK⟩ := hrel
   by_cases h2 : n < 2
   ·have hlt : (n : Int) < 2 := by omega
    have d1 : wr.cell? ⟨w.heap.size, 1, none⟩ = some (.int .i64 e.kind) := cell_at HX.out 1 rfl
    have d2 : wr.cell? ⟨w.heap.size, 2, none⟩ = some (.int .i64 e.o.1) := cell_at HX.out 2 rfl
    have d3 : wr.cell? ⟨w.heap.size, 3, none⟩ = some (.string ⟨e.o.2.1.toArray⟩) := cell_at HX.out 3 rfl
    have d4 : wr.cell? ⟨w.heap.size, 4, none⟩ = some (.string ⟨e.o.2.2.1.toArray⟩) := cell_at HX.out 4 rfl
    have d5 : wr.cell? ⟨w.heap.size, 5, none⟩ = some (.int .i64 e.o.2.2.2.1) := cell_at HX.out 5 rfl
    have d6 : wr.cell? ⟨w.heap.size, 6, none⟩ = some (.int .i64 e.o.2.2.2.2) := cell_at HX.out 6 rfl
    have d7 : wr.cell? ⟨w.heap.size, 7, none⟩ = some (.int .i64 e.k.1) := cell_at HX.out 7 rfl
    have d8 : wr.cell? ⟨w.heap.size, 8, none⟩ = some (.int .i64 e.k.2) := cell_at HX.out 8 rfl
    have d9 : wr.cell? ⟨w.heap.size, 9, none⟩ = some (.int .i64 e.code) := cell_at HX.out 9 rfl
    have d10 : wr.cell? ⟨w.heap.size, 10, none⟩ = some (.int .i64 e.s.1) := cell_at HX.out 10 rfl
    have d11 : wr.cell? ⟨w.heap.size, 11, none⟩ = some (.int .i64 e.s.2.1) := cell_at HX.out 11 rfl
    have d12 : wr.cell? ⟨w.heap.size, 12, none⟩ = some (.slice A e.s.2.2.length cc) := cell_at HX.out 12 rfl
    go_wp2_with fail
    refine (nilmDo wr _ HN.out e A e.s.2.2.length cc).mono ?_
    rintro r wE ⟨rfl, hb⟩
    have HNE := Hd (HN.out.below hb); have HXE := Hd (heap_keep HX.out hb); have HBE := Hd (bch HB.out hb HB.out.size); have HKE := Hd (HK.out.below hb)
    clear hb HN HX HB HK d1 d2 d3 d4 d5 d6 d7 d8 d9 d10 d11 d12
    have d2 : wE.cell? ⟨w.heap.size, 2, none⟩ = some (.int .i64 e.o.1) := cell_at HXE.out 2 rfl
    have d3 : wE.cell? ⟨w.heap.size, 3, none⟩ = some (.string ⟨e.o.2.1.toArray⟩) := cell_at HXE.out 3 rfl
    have d4 : wE.cell? ⟨w.heap.size, 4, none⟩ = some (.string ⟨e.o.2.2.1.toArray⟩) := cell_at HXE.out 4 rfl
    have d5 : wE.cell? ⟨w.heap.size, 5, none⟩ = some (.int .i64 e.o.2.2.2.1) := cell_at HXE.out 5 rfl
    have d6 : wE.cell? ⟨w.heap.size, 6, none⟩ = some (.int .i64 e.o.2.2.2.2) := cell_at HXE.out 6 rfl
    have hfl : ∀ W, (Instr.field 36 (.agg #[.int .i64 0, .int .i64 0, .string ⟨#[]⟩, .string ⟨#[]⟩, .int .i64 0, .int .i64 0, .int .i64 0, .int .i64 0, .int .i64 0, .int .i64 0, .int .i64 0, .slice none 0 0]) 0).run Tryz.prog W = .ok (.int .i64 0) W := fun W => by kernel_rfl
    go_wp2_with (first
     | (go_at_call 10; refine (nilmPlace _ _ HNE.out _ _ _ _ _).mono ?_; rintro r0 w0 ⟨rfl, hb⟩; have HNP := Hd (HNE.out.below hb); have HBP := Hd (bch HBE.out hb HBE.out.size); have HKP := Hd (HKE.out.below hb); have HXP := Hd (heap_keep HXE.out hb); clear hb)
     | (go_at_call 11; refine (nilmTick _ _ HNP.out).mono ?_; rintro r0 w9 ⟨rfl, hw⟩; subst hw)
     | (go_at_call 13; refine (nilmCore _ _ HNP.out).mono ?_; rintro r0 w9 ⟨rfl, hw⟩; subst hw)
     | (go_at_call 15; refine (nilmWaits _ _ HNP.out).mono ?_; rintro r0 w9 ⟨rfl, hw⟩; subst hw)
     | (go_at_call 17; refine (nilmNow _ _ HNP.out).mono ?_; rintro r0 w9 ⟨rfl, hw⟩; subst hw)
     | (go_at_call 18; refine (nilmCopy _ _ HNP.out).mono ?_; rintro r0 w9 ⟨rfl, hw⟩; subst hw))
    go_roundw
    case rel =>
     have hbn := below_alloc w0 (.cells #[.pointer none, .pointer none, .int .i64 0] tModel)
     exact ⟨n + 1, by go_num, by omega, .inr ⟨_, rfl, cell_at (heap_new w0 _) 0 rfl⟩, heap_keep HXP.out hbn, bch HBP.out hbn HBP.out.size, HKP.out.below hbn⟩
    case measure => simp [intOf]; omega
   ·obtain rfl : n = 2 := by omega
    go_wp2_with (go_at_call 12; refine (nilmOf _).mono ?_; rintro r0 w9 ⟨rfl, hw⟩; subst hw)
    refine (masks_at wr HK.out).mono ?_
    rintro r w4 ⟨rfl, hb⟩
    have HB4 := Hd (bch HB.out hb HB.out.size)
    clear hb
    go_wp2_with fail
    go_ret
    exact ⟨rfl, HB4.out⟩
end Go.Proofs.YtlkncmpengpbiaaGreatDoor

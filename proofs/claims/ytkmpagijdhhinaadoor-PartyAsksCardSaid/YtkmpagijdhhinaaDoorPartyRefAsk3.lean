/- The document's party: Ask, where it does. -/
import Derived.Test.YtkmpagijdhhinaaDoorPartyRefKeep
namespace Go.Proofs.YtkmpagijdhhinaaDoor
open Go.RowKit Go.Maps Key Od Pa

theorem goods_one {o qty : Int} {sku : ByteArray} : ∀ u ∈ ([.int .i64 o, .string sku, .int .i64 qty] : List Value), u.oneCell' = true := by
  intro u hu; simp at hu; rcases hu with rfl | rfl | rfl <;> rfl
set_option linter.unusedSimpArgs false in
set_option linter.unusedVariables false in
set_option maxRecDepth 100000 in
set_option maxHeartbeats 12000000 in
theorem refAskStore (w : World) (B r : Nat) (kind stock limit seq : Int) (vl vg : Value) (L : List R5) (G : List G3) (to o d : Int) (sku : ByteArray) (qty amt cd : Int) (h : RP w B r kind stock limit seq vl vg L G) (hs : sku.size ≤ 1000000000000) (hd : Mon.InR d) (hm : mayB to o d sku.data.toList qty amt cd = true) (ht : to = kind) (hl : L.length < 90000) (hg : G.length < 90000) (hB0 : B ≤ w.heap.size) (hf : findR L (o, d) = none) (U : Int) (hu : undoI d = (U, false)) (hst : 0 ≤ stock ∧ stock ≤ 1000000000) (hq : ∀ o s q, (o, s, q) ∈ G → 1 ≤ q) (huG : used G sku.data.toList ≤ 1000000000) (hk3 : 0 ≤ kind ∧ kind ≤ 2) (hdn : doneB kind stock limit ⟨[], G, []⟩ ⟨to, o, d, sku.data.toList, qty, amt, cd⟩ = true) (hk1 : kind = 1) :
    Calls Tryd.prog 14 #[.pointer (some ⟨r, 0, none⟩), .agg #[.int .i64 to, .int .i64 o, .int .i64 d, .string sku, .int .i64 qty, .int .i64 amt, .int .i64 cd]] w fun e w' => e = .returned (.tuple #[ansM o d (some 1), .bool true]) ∧ Turned (fun i => i = r) w w' ∧ ∃ vl' vg', RP w' B r kind stock limit seq vl' vg' (insR L ((o, d), 1, amt, qty)) (G ++ [(o, sku.data.toList, qty)]) := by
  obtain ⟨i0, hi, hz0, hz1, hz2⟩ := info_parts gds_info
  obtain ⟨Ag, cg, rfl, _⟩ := own_slice h.rg
  have HV := Lib.hid (fun j hj => (h.rl.lt j hj).2)
  have hb : (to != kind) = false := by rw [ht]; simp
  clear ht
  have HF := Lib.hid hf
  clear hf
  have HU := Lib.hid (fun W => (refUndoes_any d W hd).mono (fun e w' h => (⟨h.1.trans (by rw [hu]), h.2⟩ : e = .returned (.tuple #[.int .i64 U, .bool false]) ∧ W = w')))
  clear hu
  have HDN := Lib.hid hdn
  clear hdn
  have HQ := Lib.hid hq
  clear hq
  have HUG := Lib.hid huG
  clear huG
  have hl : L.length < 100000 := by omega
  have HL := Lib.hid (show L.length < 100000 by omega)
  have HM := Lib.hid (heap_keep (heap_new w (.cells #[.int .i64 to, .int .i64 o, .int .i64 d, .string sku, .int .i64 qty, .int .i64 amt, .int .i64 cd] tMsg)) (below_alloc _ (.cells #[.int .i64 0, .int .i64 0, .int .i64 0, .string ⟨#[]⟩, .int .i64 0, .int .i64 0, .int .i64 0] tMsg)))
  have hz := heap_new (w.alloc (.cells #[.int .i64 to, .int .i64 o, .int .i64 d, .string sku, .int .i64 qty, .int .i64 amt, .int .i64 cd] tMsg)) (.cells #[.int .i64 0, .int .i64 0, .int .i64 0, .string ⟨#[]⟩, .int .i64 0, .int .i64 0, .int .i64 0] tMsg)
  rw [show (w.alloc (.cells #[.int .i64 to, .int .i64 o, .int .i64 d, .string sku, .int .i64 qty, .int .i64 amt, .int .i64 cd] tMsg)).heap.size = w.heap.size + 1 by simp] at hz
  have HZ := Lib.hid hz
  have HB := Lib.hid ((below_alloc w (.cells #[.int .i64 to, .int .i64 o, .int .i64 d, .string sku, .int .i64 qty, .int .i64 amt, .int .i64 cd] tMsg)).alloc (by simp) (.cells #[.int .i64 0, .int .i64 0, .int .i64 0, .string ⟨#[]⟩, .int .i64 0, .int .i64 0, .int .i64 0] tMsg))
  have HP := Lib.hid (h.below HB.out)
  have HH := Lib.hid HP.out.hd
  have HMay := Lib.hid (fun W => (refMay_any W to o d sku qty amt cd hs hd).mono (fun e w' h => (⟨h.1.trans (by rw [hm]), h.2⟩ : e = .returned (.bool true) ∧ Below W.heap.size W w')))
  have hB1 : w.heap.size + 1 < ((w.alloc (.cells #[.int .i64 to, .int .i64 o, .int .i64 d, .string sku, .int .i64 qty, .int .i64 amt, .int .i64 cd] tMsg)).alloc (.cells #[.int .i64 0, .int .i64 0, .int .i64 0, .string ⟨#[]⟩, .int .i64 0, .int .i64 0, .int .i64 0] tMsg)).heap.size := by simp
  have hB2 := heap_lt h.hd
  clear hz h hm
  go_enter Tryd.func14, Tryd.ntmps14
  go_wp2_with fail
  generalize (w.alloc (.cells #[.int .i64 to, .int .i64 o, .int .i64 d, .string sku, .int .i64 qty, .int .i64 amt, .int .i64 cd] tMsg)).alloc (.cells #[.int .i64 0, .int .i64 0, .int .i64 0, .string ⟨#[]⟩, .int .i64 0, .int .i64 0, .int .i64 0] tMsg) = wb at HM HZ HB HP HH hB1 ⊢
  refine wp_region_noPanic ?_
  refine wp_region_held_drew (S := (fun w' => Hid (Below wb.heap.size wb w') ∧ w'.cell? ⟨w.heap.size, 0, none⟩ = some (.int .i64 to) ∧ w'.cell? ⟨w.heap.size, 1, none⟩ = some (.int .i64 o) ∧ w'.cell? ⟨w.heap.size, 2, none⟩ = some (.int .i64 d) ∧ w'.cell? ⟨w.heap.size, 3, none⟩ = some (.string sku) ∧ w'.cell? ⟨w.heap.size, 4, none⟩ = some (.int .i64 qty) ∧ w'.cell? ⟨w.heap.size, 5, none⟩ = some (.int .i64 amt) ∧ w'.cell? ⟨w.heap.size, 6, none⟩ = some (.int .i64 cd) ∧ w'.cell? ⟨r, 0, none⟩ = some (.int .i64 kind))) (by kernel_rfl) ⟨(below_drew1 (Below.refl _ wb)), cell_at ((((below_drew1 (Below.refl _ wb))).block _ (heap_lt HM.out)).trans HM.out) 0 rfl, cell_at ((((below_drew1 (Below.refl _ wb))).block _ (heap_lt HM.out)).trans HM.out) 1 rfl, cell_at ((((below_drew1 (Below.refl _ wb))).block _ (heap_lt HM.out)).trans HM.out) 2 rfl, cell_at ((((below_drew1 (Below.refl _ wb))).block _ (heap_lt HM.out)).trans HM.out) 3 rfl, cell_at ((((below_drew1 (Below.refl _ wb))).block _ (heap_lt HM.out)).trans HM.out) 4 rfl, cell_at ((((below_drew1 (Below.refl _ wb))).block _ (heap_lt HM.out)).trans HM.out) 5 rfl, cell_at ((((below_drew1 (Below.refl _ wb))).block _ (heap_lt HM.out)).trans HM.out) 6 rfl, cell_at ((((below_drew1 (Below.refl _ wb))).block _ (heap_lt HH.out)).trans HH.out) 0 rfl⟩ (fun hHeld => ?_)
  refine wpAnyH_take (i := 0) (v := ?vr0) rfl (by kernel_rfl) (by kernel_rfl) (by kernel_rfl) (fun _ _ _ h => h) (Or.inl ⟨by rfl, ?hyr0⟩) (by assumption) ?restr0
  case hyr0 => (intro w0 hSw; (try dsimp only at hSw); go_simp; try with_reducible rfl)
  case' restr0 => try simp only [Act.put, List.getElem_toArray, List.getElem_cons_zero, List.getElem_cons_succ, List.setIfInBounds_toArray, List.set_cons_zero, List.set_cons_succ]
  refine wpAnyH_ready (rs := [1]) (by kernel_rfl) (by simp) ?_
  refine AllReadyH.cons rfl (fun K hK => ?_) AllReadyH.nil
  go_simp
  refine (HMay.out _).mono ?_; rintro e w1 ⟨rfl, hb⟩
  have hbk := bch (Hid.out (And.left (by assumption))) hb (Below.size (Hid.out (And.left (by assumption))))
  refine hK.out _ _ ⟨hbk, cell_at (((hbk).block _ (heap_lt HM.out)).trans HM.out) 0 rfl, cell_at (((hbk).block _ (heap_lt HM.out)).trans HM.out) 1 rfl, cell_at (((hbk).block _ (heap_lt HM.out)).trans HM.out) 2 rfl, cell_at (((hbk).block _ (heap_lt HM.out)).trans HM.out) 3 rfl, cell_at (((hbk).block _ (heap_lt HM.out)).trans HM.out) 4 rfl, cell_at (((hbk).block _ (heap_lt HM.out)).trans HM.out) 5 rfl, cell_at (((hbk).block _ (heap_lt HM.out)).trans HM.out) 6 rfl, cell_at (((hbk).block _ (heap_lt HH.out)).trans HH.out) 0 rfl⟩ (fun hHeld => ?_)
  clear hK K hb hbk
  try simp only [Act.put, List.getElem_toArray, List.getElem_cons_zero, List.getElem_cons_succ, List.setIfInBounds_toArray, List.set_cons_zero, List.set_cons_succ]
  refine wpAnyH_take (i := 2) (v := ?vr2) rfl (by kernel_rfl) (by kernel_rfl) (by kernel_rfl) (fun _ _ _ h => h) (Or.inl ⟨by rfl, ?hyr2⟩) (by assumption) ?restr2
  case hyr2 => (intro w0 hSw; (try dsimp only at hSw); go_simp; try with_reducible rfl)
  case' restr2 => try simp only [Act.put, List.getElem_toArray, List.getElem_cons_zero, List.getElem_cons_succ, List.setIfInBounds_toArray, List.set_cons_zero, List.set_cons_succ]
  refine wpAnyH_take (i := 3) (v := ?vr3) rfl (by kernel_rfl) (by kernel_rfl) (by kernel_rfl) (fun _ _ _ h => h) (Or.inl ⟨by rfl, ?hyr3⟩) (by assumption) ?restr3
  case hyr3 => (intro w0 hSw; (try dsimp only at hSw); go_simp; try with_reducible rfl)
  case' restr3 => try simp only [Act.put, List.getElem_toArray, List.getElem_cons_zero, List.getElem_cons_succ, List.setIfInBounds_toArray, List.set_cons_zero, List.set_cons_succ]
  refine wpAnyH_take (i := 4) (v := ?vr4) rfl (by kernel_rfl) (by kernel_rfl) (by kernel_rfl) (fun _ _ _ h => h) (Or.inl ⟨by rfl, ?hyr4⟩) (by assumption) ?restr4
  case hyr4 => (intro w0 hSw; (try dsimp only at hSw); go_simp; try with_reducible rfl)
  case' restr4 => try simp only [Act.put, List.getElem_toArray, List.getElem_cons_zero, List.getElem_cons_succ, List.setIfInBounds_toArray, List.set_cons_zero, List.set_cons_succ]
  refine wpAnyH_take (i := 5) (v := ?vr5) rfl (by kernel_rfl) (by kernel_rfl) (by kernel_rfl) (fun _ _ _ h => h) (Or.inl ⟨by rfl, ?hyr5⟩) (by assumption) ?restr5
  case hyr5 => (intro w0 hSw; (try dsimp only at hSw); go_simp; try with_reducible rfl)
  case' restr5 => try simp only [Act.put, List.getElem_toArray, List.getElem_cons_zero, List.getElem_cons_succ, List.setIfInBounds_toArray, List.set_cons_zero, List.set_cons_succ]
  refine wpAnyH_take (i := 6) (v := ?vr6) rfl (by kernel_rfl) (by kernel_rfl) (by kernel_rfl) (fun _ _ _ h => h) (Or.inl ⟨by rfl, ?hyr6⟩) (by assumption) ?restr6
  case hyr6 => (intro w0 hSw; (try dsimp only at hSw); go_simp; try with_reducible rfl)
  case' restr6 => try simp only [Act.put, List.getElem_toArray, List.getElem_cons_zero, List.getElem_cons_succ, List.setIfInBounds_toArray, List.set_cons_zero, List.set_cons_succ]
  refine wpAnyH_take (i := 7) (v := ?vr7) rfl (by kernel_rfl) (by kernel_rfl) (by kernel_rfl) (fun _ _ _ h => h) (Or.inl ⟨by rfl, ?hyr7⟩) (by assumption) ?restr7
  case hyr7 => (intro w0 hSw; (try dsimp only at hSw); go_simp; try with_reducible rfl)
  case' restr7 => try simp only [Act.put, List.getElem_toArray, List.getElem_cons_zero, List.getElem_cons_succ, List.setIfInBounds_toArray, List.set_cons_zero, List.set_cons_succ]
  refine wpAnyH_take (i := 8) (v := ?vr8) rfl (by kernel_rfl) (by kernel_rfl) (by kernel_rfl) (fun _ _ _ h => h) (Or.inl ⟨by rfl, ?hyr8⟩) (by assumption) ?restr8
  case hyr8 => (intro w0 hSw; (try dsimp only at hSw); go_simp; try with_reducible rfl)
  case' restr8 => try simp only [Act.put, List.getElem_toArray, List.getElem_cons_zero, List.getElem_cons_succ, List.setIfInBounds_toArray, List.set_cons_zero, List.set_cons_succ]
  refine wpAnyH_take (i := 9) (v := ?vr9) rfl (by kernel_rfl) (by kernel_rfl) (by kernel_rfl) (fun _ _ _ h => h) (Or.inl ⟨by rfl, ?hyr9⟩) (by assumption) ?restr9
  case hyr9 => (intro w0 hSw; (try dsimp only at hSw); go_simp; try with_reducible rfl)
  case' restr9 => try simp only [Act.put, List.getElem_toArray, List.getElem_cons_zero, List.getElem_cons_succ, List.setIfInBounds_toArray, List.set_cons_zero, List.set_cons_succ]
  refine wpAnyH_take (i := 10) (v := ?vr10) rfl (by kernel_rfl) (by kernel_rfl) (by kernel_rfl) (fun _ _ _ h => h) (Or.inl ⟨by rfl, ?hyr10⟩) (by assumption) ?restr10
  case hyr10 => (intro w0 hSw; (try dsimp only at hSw); go_simp; try with_reducible rfl)
  case' restr10 => try simp only [Act.put, List.getElem_toArray, List.getElem_cons_zero, List.getElem_cons_succ, List.setIfInBounds_toArray, List.set_cons_zero, List.set_cons_succ]
  refine wpAnyH_take (i := 11) (v := ?vr11) rfl (by kernel_rfl) (by kernel_rfl) (by kernel_rfl) (fun _ _ _ h => h) (Or.inl ⟨by rfl, ?hyr11⟩) (by assumption) ?restr11
  case hyr11 => (intro w0 hSw; (try dsimp only at hSw); go_simp; try with_reducible rfl)
  case' restr11 => try simp only [Act.put, List.getElem_toArray, List.getElem_cons_zero, List.getElem_cons_succ, List.setIfInBounds_toArray, List.set_cons_zero, List.set_cons_succ]
  refine wpAnyH_done (by kernel_rfl) ?_ _
  refine NoPanic.normal ?_
  have HX := Lib.hid (show Below wb.heap.size wb w1 from Hid.out hHeld.1)
  clear hHeld
  have HM1 := Lib.hid (heap_keep HM.out HX.out)
  have HZ1 := Lib.hid (heap_keep HZ.out HX.out)
  have HP1 := Lib.hid (HP.out.below HX.out)
  have HB1 := Lib.hid (bch HB.out HX.out HB.out.size)
  have hB3 : w.heap.size + 1 < w1.heap.size := heap_lt HZ1.out
  clear HM HZ HP HB HX HMay HH hB1
  have HM := HM1
  have HZ := HZ1
  have HP := HP1
  have HB := HB1
  clear HM1 HZ1 HP1 HB1
  obtain ⟨m0, m1, m2, m3, m4, m5, m6⟩ := cell7 HM.out
  go_wp2_with fail
  refine (refFind_any w1 B r kind stock limit seq vl (.slice Ag G.length cg) L G o d HP.out hl).mono ?_
  rintro e w2 ⟨rfl, hb2⟩
  rw [HF.out]
  unfold foundV
  have hs2 := hb2.size
  have hbc : Below w1.heap.size w1 (w2.alloc (.cells #[.int .i64 0, .int .i64 0, .int .i64 0, .int .i64 0, .int .i64 0] tRow)) := Below.alloc hb2 hb2.size (.cells #[.int .i64 0, .int .i64 0, .int .i64 0, .int .i64 0, .int .i64 0] tRow)
  replace HB := Lib.hid (bch HB.out hbc HB.out.size)
  replace HP := Lib.hid (HP.out.below hbc)
  replace HM := Lib.hid (heap_keep HM.out hbc)
  replace HZ := Lib.hid (heap_keep HZ.out hbc)
  have HR := Lib.hid (heap_new w2 (.cells #[.int .i64 0, .int .i64 0, .int .i64 0, .int .i64 0, .int .i64 0] tRow))
  clear m0 m1 m2 m3 m4 m5 m6 hb2 hbc
  obtain ⟨m0, m1, m2, m3, m4, m5, m6⟩ := cell7 HM.out
  go_wp2_with fail
  generalize w2.alloc (.cells #[.int .i64 0, .int .i64 0, .int .i64 0, .int .i64 0, .int .i64 0] tRow) = wc at HM HZ HP HB HR m0 m1 m2 m3 m4 m5 m6 ⊢
  refine (HU.out wc).mono ?_
  rintro e w3 ⟨rfl, hw⟩; subst hw
  have hsc : w2.heap.size < wc.heap.size := heap_lt HR.out
  have HT : Hid (Turned (fun i => i = r ∨ w.heap.size ≤ i) w wc) := Lib.hid (HTb (Turned.refl _ w) HB.out)
  clear HB
  go_wp2_with fail
  refine (refDoes_any wc B r kind stock limit seq vl (.slice Ag G.length cg) L ⟨[], G, []⟩ to o d sku qty amt cd HP.out (by show G.length < _; omega) hst HQ.out HUG.out hk3).mono ?_
  rintro e wf ⟨rfl, hbf⟩
  rw [HDN.out]
  replace HT := Lib.hid (HTb HT.out hbf)
  replace HP := Lib.hid (HP.out.below hbf)
  replace HM := Lib.hid (heap_keep HM.out hbf)
  replace HZ := Lib.hid (heap_keep HZ.out hbf)
  replace HR := Lib.hid (heap_keep HR.out hbf)
  clear hbf m0 m1 m2 m3 m4 m5 m6 HDN HF HQ HUG HU
  obtain ⟨m0, m1, m2, m3, m4, m5, m6⟩ := cell7 HM.out
  obtain ⟨p0, p1, p2, p3, p4, p5⟩ := cell6 HP.out.hd
  have hkb : (kind == 1) = true := by rw [hk1]; rfl
  have HKD := Lib.hid hk1
  clear hk1
  go_wp2_with fail
  clear m0 m1 m2 m3 m4 m5 m6 p0 p1 p2 p3 p4 p5
  have hrf : r < wf.heap.size := heap_lt HP.out.hd
  have hmf : w.heap.size < wf.heap.size := heap_lt HM.out
  have HH := Lib.hid (fun W (hb : Turned (fun j => wf.heap.size ≤ j) wf W) => (⟨Lib.hid hb, cell_at ((hb.block _ (heap_lt HP.out.hd) (by omega)).trans HP.out.hd) 4 rfl, cell_at ((hb.block _ (heap_lt HM.out) (by omega)).trans HM.out) 1 rfl, cell_at ((hb.block _ (heap_lt HM.out) (by omega)).trans HM.out) 3 rfl, cell_at ((hb.block _ (heap_lt HM.out) (by omega)).trans HM.out) 4 rfl⟩ : (fun w' => Hid (Turned (fun j => wf.heap.size ≤ j) wf w') ∧ w'.cell? ⟨r, 4, none⟩ = some (.slice Ag G.length cg) ∧ w'.cell? ⟨w.heap.size, 1, none⟩ = some (.int .i64 o) ∧ w'.cell? ⟨w.heap.size, 3, none⟩ = some (.string sku) ∧ w'.cell? ⟨w.heap.size, 4, none⟩ = some (.int .i64 qty)) W))
  refine wp_region_noPanic ?_
  refine wp_region_till 18 (fun _ => True) (fun w' => Hid (Turned (fun j => wf.heap.size ≤ j) wf w') ∧ w'.cell? ⟨r, 4, none⟩ = some (.slice Ag G.length cg) ∧ w'.cell? ⟨w.heap.size, 1, none⟩ = some (.int .i64 o) ∧ w'.cell? ⟨w.heap.size, 3, none⟩ = some (.string sku) ∧ w'.cell? ⟨w.heap.size, 4, none⟩ = some (.int .i64 qty)) (by kernel_rfl) (HH.out _ ((Turned.refl _ _).drew)) (fun hHeld => ?_)
  refine wpAnyT_go (i := 0) (v := ?vt0_1) rfl (by kernel_rfl) (by kernel_rfl) (by kernel_rfl) (fun _ _ _ h => h) (by kernel_rfl) (Or.inl ⟨by rfl, ?hyt0_1⟩) (by assumption) ?restt0_1
  case hyt0_1 => (intro w0 hSw; (try dsimp only at hSw); go_simp; try with_reducible rfl)
  case' restt0_1 => try simp only [Act.put, List.getElem_toArray, List.getElem_cons_zero, List.getElem_cons_succ, List.setIfInBounds_toArray, List.set_cons_zero, List.set_cons_succ]
  refine wpAnyT_go (i := 1) (v := ?vt1_2) rfl (by kernel_rfl) (by kernel_rfl) (by kernel_rfl) (fun _ _ _ h => h) (by kernel_rfl) (Or.inl ⟨by rfl, ?hyt1_2⟩) (by assumption) ?restt1_2
  case hyt1_2 => (intro w0 hSw; (try dsimp only at hSw); go_simp; try with_reducible rfl)
  case' restt1_2 => try simp only [Act.put, List.getElem_toArray, List.getElem_cons_zero, List.getElem_cons_succ, List.setIfInBounds_toArray, List.set_cons_zero, List.set_cons_succ]
  refine wpAnyT_go (i := 2) (v := ?vt2_3) rfl (by kernel_rfl) (by kernel_rfl) (by kernel_rfl) (fun _ _ _ h => h) (by kernel_rfl) (Or.inl ⟨by rfl, ?hyt2_3⟩) (by assumption) ?restt2_3
  case hyt2_3 => (intro w0 hSw; (try dsimp only at hSw); go_simp; try with_reducible rfl)
  case' restt2_3 => try simp only [Act.put, List.getElem_toArray, List.getElem_cons_zero, List.getElem_cons_succ, List.setIfInBounds_toArray, List.set_cons_zero, List.set_cons_succ]
  refine wpAnyT_go (i := 3) (v := ?vt3_4) rfl (by kernel_rfl) (by kernel_rfl) (by kernel_rfl) (fun _ _ _ h => h) (by kernel_rfl) (Or.inl ⟨by rfl, ?hyt3_4⟩) (by assumption) ?restt3_4
  case hyt3_4 => (intro w0 hSw; (try dsimp only at hSw); go_simp; try with_reducible rfl)
  case' restt3_4 => try simp only [Act.put, List.getElem_toArray, List.getElem_cons_zero, List.getElem_cons_succ, List.setIfInBounds_toArray, List.set_cons_zero, List.set_cons_succ]
  refine wpAnyT_go (i := 4) (v := ?vt4_5) rfl (by kernel_rfl) (by kernel_rfl) (by kernel_rfl) (fun _ _ _ h => h) (by kernel_rfl) (Or.inl ⟨by rfl, ?hyt4_5⟩) (by assumption) ?restt4_5
  case hyt4_5 => (intro w0 hSw; (try dsimp only at hSw); go_simp; try with_reducible rfl)
  case' restt4_5 => try simp only [Act.put, List.getElem_toArray, List.getElem_cons_zero, List.getElem_cons_succ, List.setIfInBounds_toArray, List.set_cons_zero, List.set_cons_succ]
  refine wpAnyT_go (i := 6) (v := ?vt6_6) rfl (by kernel_rfl) (by kernel_rfl) (by kernel_rfl) (fun _ _ _ h => h) (by kernel_rfl) (Or.inl ⟨by rfl, ?hyt6_6⟩) (by assumption) ?restt6_6
  case hyt6_6 => (intro w0 hSw; (try dsimp only at hSw); go_simp; try with_reducible rfl)
  case' restt6_6 => try simp only [Act.put, List.getElem_toArray, List.getElem_cons_zero, List.getElem_cons_succ, List.setIfInBounds_toArray, List.set_cons_zero, List.set_cons_succ]
  refine wpAnyT_go (i := 7) (v := ?vt7_7) rfl (by kernel_rfl) (by kernel_rfl) (by kernel_rfl) (fun _ _ _ h => h) (by kernel_rfl) (Or.inl ⟨by rfl, ?hyt7_7⟩) (by assumption) ?restt7_7
  case hyt7_7 => (intro w0 hSw; (try dsimp only at hSw); go_simp; try with_reducible rfl)
  case' restt7_7 => try simp only [Act.put, List.getElem_toArray, List.getElem_cons_zero, List.getElem_cons_succ, List.setIfInBounds_toArray, List.set_cons_zero, List.set_cons_succ]
  refine wpAnyT_go (i := 8) (v := ?vt8_8) rfl (by kernel_rfl) (by kernel_rfl) (by kernel_rfl) (fun _ _ _ h => h) (by kernel_rfl) (Or.inl ⟨by rfl, ?hyt8_8⟩) (by assumption) ?restt8_8
  case hyt8_8 => (intro w0 hSw; (try dsimp only at hSw); go_simp; try with_reducible rfl)
  case' restt8_8 => try simp only [Act.put, List.getElem_toArray, List.getElem_cons_zero, List.getElem_cons_succ, List.setIfInBounds_toArray, List.set_cons_zero, List.set_cons_succ]
  refine wpAnyT_go (i := 9) (v := ?vt9_9) rfl (by kernel_rfl) (by kernel_rfl) (by kernel_rfl) (fun _ _ _ h => h) (by kernel_rfl) (Or.inl ⟨by rfl, ?hyt9_9⟩) (by assumption) ?restt9_9
  case hyt9_9 => (intro w0 hSw; (try dsimp only at hSw); go_simp; try with_reducible rfl)
  case' restt9_9 => try simp only [Act.put, List.getElem_toArray, List.getElem_cons_zero, List.getElem_cons_succ, List.setIfInBounds_toArray, List.set_cons_zero, List.set_cons_succ]
  refine wpAnyT_go (i := 10) (v := ?vt10_10) rfl (by kernel_rfl) (by kernel_rfl) (by kernel_rfl) (fun _ _ _ h => h) (by kernel_rfl) (Or.inl ⟨by rfl, ?hyt10_10⟩) (by assumption) ?restt10_10
  case hyt10_10 => (intro w0 hSw; (try dsimp only at hSw); go_simp; try with_reducible rfl)
  case' restt10_10 => try simp only [Act.put, List.getElem_toArray, List.getElem_cons_zero, List.getElem_cons_succ, List.setIfInBounds_toArray, List.set_cons_zero, List.set_cons_succ]
  refine wpAnyT_go (i := 11) (v := ?vt11_11) rfl (by kernel_rfl) (by kernel_rfl) (by kernel_rfl) (fun _ _ _ h => h) (by kernel_rfl) (Or.inl ⟨by rfl, ?hyt11_11⟩) (by assumption) ?restt11_11
  case hyt11_11 => (intro w0 hSw; (try dsimp only at hSw); go_simp; try with_reducible rfl)
  case' restt11_11 => try simp only [Act.put, List.getElem_toArray, List.getElem_cons_zero, List.getElem_cons_succ, List.setIfInBounds_toArray, List.set_cons_zero, List.set_cons_succ]
  refine wpAnyT_go (i := 12) (v := ?vt12_12) rfl (by kernel_rfl) (by kernel_rfl) (by kernel_rfl) (fun _ _ _ h => h) (by kernel_rfl) (Or.inl ⟨by rfl, ?hyt12_12⟩) (by assumption) ?restt12_12
  case hyt12_12 => (intro w0 hSw; (try dsimp only at hSw); go_simp; try with_reducible rfl)
  case' restt12_12 => try simp only [Act.put, List.getElem_toArray, List.getElem_cons_zero, List.getElem_cons_succ, List.setIfInBounds_toArray, List.set_cons_zero, List.set_cons_succ]
  refine wpAnyT_go (i := 13) (v := ?vt13_13) rfl (by kernel_rfl) (by kernel_rfl) (by kernel_rfl) (fun _ _ _ h => h) (by kernel_rfl) (Or.inl ⟨by rfl, ?hyt13_13⟩) (by assumption) ?restt13_13
  case hyt13_13 => (intro w0 hSw; (try dsimp only at hSw); go_simp; try with_reducible rfl)
  case' restt13_13 => try simp only [Act.put, List.getElem_toArray, List.getElem_cons_zero, List.getElem_cons_succ, List.setIfInBounds_toArray, List.set_cons_zero, List.set_cons_succ]
  refine wpAnyT_ready (rs := [5, 14]) (by kernel_rfl) (by simp) ?_
  refine AllReadyT.cons rfl (by kernel_rfl) (fun K hK => ?_) (AllReadyT.cons rfl (by kernel_rfl) (fun K hK => ?_) AllReadyT.nil)
  · refine step_append_any _ rfl (.const (.slice none 0 0)) (.tmp 93) tGdss rfl wf.heap.size tGds i0 (.agg #[.int .i64 0, .string ⟨#[]⟩, .int .i64 0]) 3 32 Tryd.underlying41 hi hz0 hz1 hz2 rfl (by decide) (.slice none 0 0) (0) ([]) rfl (World.ownsRow_nil _ _ _ _) (G.length) (G.flatMap encGd) (src_own encGd_len (by omega) encGd_one (HP.out.below (below_drew1 (Below.refl _ _))).rg) (by unfold maxLen; omega) (by omega) (Nat.le_refl _) ?_
    intro v94 W94 ho94 hg94 _
    rw [Nat.zero_add, List.nil_append] at ho94
    obtain ⟨A94, c94, rfl, _⟩ := own_slice ho94
    have ht94 : Turned (fun j => wf.heap.size ≤ j) wf W94 := (Turned.refl _ _).drew.trans (Turned.of_grown hg94 (fun j hj => by cases hj))
    refine hK.out _ _ (HH.out _ (ht94)) (fun hHeld => ?_)
    clear hK K
    try simp only [Act.put, List.getElem_toArray, List.getElem_cons_zero, List.getElem_cons_succ, List.setIfInBounds_toArray, List.set_cons_zero, List.set_cons_succ]
    refine wpAnyT_ready (rs := [14]) (by kernel_rfl) (by simp) ?_
    refine AllReadyT.cons rfl (by kernel_rfl) (fun K hK => ?_) AllReadyT.nil
    go_simp
    refine hK.out _ _ (HH.out _ (ht94.trans (Turned.of_below (below_alloc _ _)))) (fun hHeld => ?_)
    clear hK K
    try simp only [Act.put, List.getElem_toArray, List.getElem_cons_zero, List.getElem_cons_succ, List.setIfInBounds_toArray, List.set_cons_zero, List.set_cons_succ]
    refine wpAnyT_ready (rs := [15]) (by kernel_rfl) (by simp) ?_
    refine AllReadyT.cons rfl (by kernel_rfl) (fun K hK => ?_) AllReadyT.nil
    refine step_append_any _ rfl (.tmp 94) (.tmp 103) tGdss rfl wf.heap.size tGds i0 (.agg #[.int .i64 0, .string ⟨#[]⟩, .int .i64 0]) 3 32 Tryd.underlying41 hi hz0 hz1 hz2 rfl (by decide) (.slice A94 G.length c94) (G.length) (G.flatMap encGd) rfl (ho94.alloc _) (1) ([.int .i64 o, .string sku, .int .i64 qty]) (src_blk (xs := [.int .i64 o, .string sku, .int .i64 qty]) (heap_new _ _) goods_one) (by unfold maxLen; omega) (by omega) (by have := ht94.size; simp; omega) ?_
    intro v104 W104 ho104 hg104 _
    have ht104 : Turned (fun j => wf.heap.size ≤ j) wf W104 := (ht94.trans (Turned.of_below (below_alloc _ _))).trans (Turned.of_grown hg104 (fun j hj => (ho94.lt _ hj).1))
    obtain ⟨A104, c104, rfl, _⟩ := own_slice ho104
    refine hK.out _ _ (HH.out _ (ht104)) (fun hHeld => ?_)
    clear hK K
    try simp only [Act.put, List.getElem_toArray, List.getElem_cons_zero, List.getElem_cons_succ, List.setIfInBounds_toArray, List.set_cons_zero, List.set_cons_succ]
    refine wpAnyT_go (i := 16) (v := ?vt16_14) rfl (by kernel_rfl) (by kernel_rfl) (by kernel_rfl) (fun _ _ _ h => h) (by kernel_rfl) (Or.inl ⟨by rfl, ?hyt16_14⟩) (by assumption) ?restt16_14
    case hyt16_14 => (intro w0 hSw; (try dsimp only at hSw); go_simp; try with_reducible rfl)
    case' restt16_14 => try simp only [Act.put, List.getElem_toArray, List.getElem_cons_zero, List.getElem_cons_succ, List.setIfInBounds_toArray, List.set_cons_zero, List.set_cons_succ]
    refine wpAnyT_go (i := 17) (v := ?vt17_15) rfl (by kernel_rfl) (by kernel_rfl) (by kernel_rfl) (fun _ _ _ h => h) (by kernel_rfl) (Or.inl ⟨by rfl, ?hyt17_15⟩) (by assumption) ?restt17_15
    case hyt17_15 => (intro w0 hSw; (try dsimp only at hSw); go_simp; try with_reducible rfl)
    case' restt17_15 => try simp only [Act.put, List.getElem_toArray, List.getElem_cons_zero, List.getElem_cons_succ, List.setIfInBounds_toArray, List.set_cons_zero, List.set_cons_succ]
    obtain ⟨_, _, _, _, q4, _⟩ := cell6 ((ht104.block _ (heap_lt HP.out.hd) (by omega)).trans HP.out.hd)
    obtain ⟨_, _, _, _, f4, _⟩ := froz6 ((ht104.block _ (heap_lt HP.out.hd) (by omega)).trans HP.out.hd)
    refine wpAnyT_ready (rs := [18]) (by kernel_rfl) (by simp) ?_
    refine AllReadyT.last rfl (by kernel_rfl) (fun K hK => ?_) AllReadyT.nil
    go_simp
    refine hK.out _ _ trivial (fun hHeld => ?_)
    clear hK K
    try simp only [Act.put, List.getElem_toArray, List.getElem_cons_zero, List.getElem_cons_succ, List.setIfInBounds_toArray, List.set_cons_zero, List.set_cons_succ]
    refine wpAnyT_done (by kernel_rfl) ?_ _
    refine NoPanic.normal ?_
    have ho : W104.ownsRow wf.heap.size tGds 3 (.slice A104 (G.length + 1) c104) (G ++ [(o, sku.data.toList, qty)]).length ((G ++ [(o, sku.data.toList, qty)]).flatMap encGd) := by
      rw [show (G ++ [(o, sku.data.toList, qty)]).length = G.length + 1 by simp, show (G ++ [(o, sku.data.toList, qty)]).flatMap encGd = G.flatMap encGd ++ [.int .i64 o, .string sku, .int .i64 qty] by simp [encGd, List.flatMap_append]]
      exact ho104
    have hp7 := HP.out.setG (Nat.le_trans hB0 HT.out.size) ht104 ho
    have htr := turned_set W104 r 4 (.slice A104 (G.length + 1) c104)
    have HM7 := Lib.hid (HidB ((ht104.block _ (heap_lt HM.out) (by omega)).trans HM.out) htr (by omega))
    have HZ7 := Lib.hid (HidB ((ht104.block _ (heap_lt HZ.out) (by have := heap_lt HZ.out; omega)).trans HZ.out) htr (by omega))
    have HR7 := Lib.hid (HidB ((ht104.block _ (heap_lt HR.out) (by have := heap_lt HR.out; omega)).trans HR.out) htr (by omega))
    have HT7 := Lib.hid (HTr (HT.out.trans (ht104.mono (fun i hi => .inr (by have := HT.out.size; omega)))) htr)
    generalize W104.setCell ⟨r, 4, none⟩ (.slice A104 (G.length + 1) c104) = w7 at hp7 HM7 HZ7 HR7 HT7 ⊢
    have HP7 := Lib.hid hp7
    clear hp7 htr ho ho104 q4 f4 HM HZ HR HT HP HH hHeld
    have HM := HM7
    have HZ := HZ7
    have HR := HR7
    have HT := HT7
    have HP := HP7
    clear HM7 HZ7 HR7 HT7 HP7
    generalize (Value.slice A104 (G.length + 1) c104) = vg7 at HP
    obtain ⟨m0, m1, m2, m3, m4, m5, m6⟩ := cell7 HM.out
    obtain ⟨n0, n1, n2, n3, n4⟩ := cell5 HR.out
    obtain ⟨f0, f1, f2, f3, f4⟩ := froz5 HR.out
    have HTu := turned_set5 w7 w2.heap.size (.int .i64 o) (.int .i64 d) (.int .i64 1) (.int .i64 amt) (.int .i64 qty)
    have HSET := set5c HR.out (.int .i64 o) (.int .i64 d) (.int .i64 1) (.int .i64 amt) (.int .i64 qty)
    unfold set5w at HSET
    obtain ⟨y0, y1, y2, y3, y4⟩ := cell5 HSET
    have HTu := Lib.hid HTu
    have HSET := Lib.hid HSET
    go_wp2_with fail
    generalize ((((w7.setCell ⟨w2.heap.size, 0, none⟩ (.int .i64 o)).setCell ⟨w2.heap.size, 1, none⟩ (.int .i64 d)).setCell ⟨w2.heap.size, 2, none⟩ (.int .i64 1)).setCell ⟨w2.heap.size, 3, none⟩ (.int .i64 amt)).setCell ⟨w2.heap.size, 4, none⟩ (.int .i64 qty) = w8 at HTu HSET y0 y1 y2 y3 y4 ⊢
    clear m0 m1 m2 m3 m4 m5 m6 y0 y1 y2 y3 y4
    have hHP := HP.out.turn HTu.out (by show ¬ r = _; omega) (fun j hj e => by have := HV.out j hj; omega) (own_apart_blk HP.out.rg HR.out (by decide))
    replace HT := Lib.hid (HTs HT.out HTu.out (by omega))
    replace HP := Lib.hid hHP
    clear hHP
    replace HM := Lib.hid (HidB HM.out HTu.out (by omega))
    replace HZ := Lib.hid (HidB HZ.out HTu.out (by omega))
    have HR8 := HSET
    clear HR HTu HSET
    refine (refWrite_any w8 B r kind stock limit seq vl vg7 (L) (G ++ [(o, sku.data.toList, qty)]) ((o, d), 1, amt, qty) HP.out (by have := HL.out; omega) (Nat.le_trans hB0 HT.out.size)).mono ?_
    rintro e w9 ⟨rfl, ht9, vl9, hp9, hv9⟩
    replace HT := Lib.hid (HTr HT.out ht9)
    replace HP := Lib.hid hp9
    replace HM := Lib.hid (HidB HM.out ht9 (by omega))
    replace HZ := Lib.hid (HidB HZ.out ht9 (by omega))
    replace HR8 := Lib.hid (HidB HR8.out ht9 (by omega))
    clear ht9 hp9 hv9 HV
    obtain ⟨m0, m1, m2, m3, m4, m5, m6⟩ := cell7 HM.out
    obtain ⟨n0, n1, n2, n3, n4⟩ := cell5 HR8.out
    obtain ⟨z0, z1, z2, z3, z4, z5, z6⟩ := cell7 HZ.out
    obtain ⟨f0, f1, f2, f3, f4, f5, f6⟩ := froz7 HZ.out
    go_wp2_with fail
    have HTu := turned_set7 w9 (w.heap.size + 1) (.int .i64 3) (.int .i64 o) (.int .i64 d) (.string ⟨#[]⟩) (.int .i64 0) (.int .i64 0) (.int .i64 1)
    have HSET := set7 HZ.out (.int .i64 3) (.int .i64 o) (.int .i64 d) (.string ⟨#[]⟩) (.int .i64 0) (.int .i64 0) (.int .i64 1)
    unfold set7w at HSET
    obtain ⟨y0, y1, y2, y3, y4, y5, y6⟩ := cell7 HSET
    refine bodyPost_ret (v := .tuple #[.agg #[.int .i64 3, .int .i64 o, .int .i64 d, .string ⟨#[]⟩, .int .i64 0, .int .i64 0, .int .i64 1], .bool true]) ?_ rfl ⟨?_, ?_⟩
    · clear HTu HSET
      simp [results, Tryd.results14, go_sem, y0, y1, y2, y3, y4, y5, y6]
    · exact rfl
    · have hHP := HP.out.turn HTu (by show ¬ r = _; omega) (own_apart_blk HP.out.rl HZ.out (by decide)) (own_apart_blk HP.out.rg HZ.out (by decide))
      refine ⟨Turned.far (Turned.refl _ w) (HTs HT.out HTu (by omega)), ?_⟩
      have hk := HKD.out
      first
      | exact ⟨_, _, hHP⟩
      | (subst hk; exact ⟨_, _, hHP⟩)
      | (rw [if_pos hk]; exact ⟨_, _, hHP⟩)
      | (rw [if_neg hk]; exact ⟨_, _, hHP⟩)
  · go_simp
    refine hK.out _ _ (HH.out _ ((Turned.refl _ wf).drew.trans (Turned.of_below (below_alloc _ _)))) (fun hHeld => ?_)
    clear hK K
    try simp only [Act.put, List.getElem_toArray, List.getElem_cons_zero, List.getElem_cons_succ, List.setIfInBounds_toArray, List.set_cons_zero, List.set_cons_succ]
    refine wpAnyT_ready (rs := [5]) (by kernel_rfl) (by simp) ?_
    refine AllReadyT.cons rfl (by kernel_rfl) (fun K hK => ?_) AllReadyT.nil
    have ht93 : Turned (fun j => wf.heap.size ≤ j) wf (wf.drew.alloc (.cells (List.toArray [.int .i64 o, .string sku, .int .i64 qty]) tGds)) := (Turned.refl _ wf).drew.trans (Turned.of_below (below_alloc _ _))
    refine step_append_any _ rfl (.const (.slice none 0 0)) (.tmp 93) tGdss rfl wf.heap.size tGds i0 (.agg #[.int .i64 0, .string ⟨#[]⟩, .int .i64 0]) 3 32 Tryd.underlying41 hi hz0 hz1 hz2 rfl (by decide) (.slice none 0 0) (0) ([]) rfl (World.ownsRow_nil _ _ _ _) (G.length) (G.flatMap encGd) (src_own encGd_len (by omega) encGd_one (own_turned HP.out.rg ht93 (fun j hj e => by have := (HP.out.rg.lt j hj).2; omega))) (by unfold maxLen; omega) (by omega) (ht93.size) ?_
    intro v94 W94 ho94 hg94 _
    rw [Nat.zero_add, List.nil_append] at ho94
    obtain ⟨A94, c94, rfl, _⟩ := own_slice ho94
    have ht94 : Turned (fun j => wf.heap.size ≤ j) wf W94 := ht93.trans (Turned.of_grown hg94 (fun j hj => by cases hj))
    refine hK.out _ _ (HH.out _ (ht94)) (fun hHeld => ?_)
    clear hK K
    try simp only [Act.put, List.getElem_toArray, List.getElem_cons_zero, List.getElem_cons_succ, List.setIfInBounds_toArray, List.set_cons_zero, List.set_cons_succ]
    refine wpAnyT_ready (rs := [15]) (by kernel_rfl) (by simp) ?_
    refine AllReadyT.cons rfl (by kernel_rfl) (fun K hK => ?_) AllReadyT.nil
    refine step_append_any _ rfl (.tmp 94) (.tmp 103) tGdss rfl wf.heap.size tGds i0 (.agg #[.int .i64 0, .string ⟨#[]⟩, .int .i64 0]) 3 32 Tryd.underlying41 hi hz0 hz1 hz2 rfl (by decide) (.slice A94 G.length c94) (G.length) (G.flatMap encGd) rfl (ho94) (1) ([.int .i64 o, .string sku, .int .i64 qty]) (src_blk (xs := [.int .i64 o, .string sku, .int .i64 qty]) ((hg94.block _ (by simp [World.drew]) (by simp [Value.ownBlock])).trans (heap_new _ _)) goods_one) (by unfold maxLen; omega) (by omega) (ht94.size) ?_
    intro v104 W104 ho104 hg104 _
    have ht104 : Turned (fun j => wf.heap.size ≤ j) wf W104 := ht94.trans (Turned.of_grown hg104 (fun j hj => (ho94.lt _ hj).1))
    obtain ⟨A104, c104, rfl, _⟩ := own_slice ho104
    refine hK.out _ _ (HH.out _ (ht104)) (fun hHeld => ?_)
    clear hK K
    try simp only [Act.put, List.getElem_toArray, List.getElem_cons_zero, List.getElem_cons_succ, List.setIfInBounds_toArray, List.set_cons_zero, List.set_cons_succ]
    refine wpAnyT_go (i := 16) (v := ?vt16_16) rfl (by kernel_rfl) (by kernel_rfl) (by kernel_rfl) (fun _ _ _ h => h) (by kernel_rfl) (Or.inl ⟨by rfl, ?hyt16_16⟩) (by assumption) ?restt16_16
    case hyt16_16 => (intro w0 hSw; (try dsimp only at hSw); go_simp; try with_reducible rfl)
    case' restt16_16 => try simp only [Act.put, List.getElem_toArray, List.getElem_cons_zero, List.getElem_cons_succ, List.setIfInBounds_toArray, List.set_cons_zero, List.set_cons_succ]
    refine wpAnyT_go (i := 17) (v := ?vt17_17) rfl (by kernel_rfl) (by kernel_rfl) (by kernel_rfl) (fun _ _ _ h => h) (by kernel_rfl) (Or.inl ⟨by rfl, ?hyt17_17⟩) (by assumption) ?restt17_17
    case hyt17_17 => (intro w0 hSw; (try dsimp only at hSw); go_simp; try with_reducible rfl)
    case' restt17_17 => try simp only [Act.put, List.getElem_toArray, List.getElem_cons_zero, List.getElem_cons_succ, List.setIfInBounds_toArray, List.set_cons_zero, List.set_cons_succ]
    obtain ⟨_, _, _, _, q4, _⟩ := cell6 ((ht104.block _ (heap_lt HP.out.hd) (by omega)).trans HP.out.hd)
    obtain ⟨_, _, _, _, f4, _⟩ := froz6 ((ht104.block _ (heap_lt HP.out.hd) (by omega)).trans HP.out.hd)
    refine wpAnyT_ready (rs := [18]) (by kernel_rfl) (by simp) ?_
    refine AllReadyT.last rfl (by kernel_rfl) (fun K hK => ?_) AllReadyT.nil
    go_simp
    refine hK.out _ _ trivial (fun hHeld => ?_)
    clear hK K
    try simp only [Act.put, List.getElem_toArray, List.getElem_cons_zero, List.getElem_cons_succ, List.setIfInBounds_toArray, List.set_cons_zero, List.set_cons_succ]
    refine wpAnyT_done (by kernel_rfl) ?_ _
    refine NoPanic.normal ?_
    have ho : W104.ownsRow wf.heap.size tGds 3 (.slice A104 (G.length + 1) c104) (G ++ [(o, sku.data.toList, qty)]).length ((G ++ [(o, sku.data.toList, qty)]).flatMap encGd) := by
      rw [show (G ++ [(o, sku.data.toList, qty)]).length = G.length + 1 by simp, show (G ++ [(o, sku.data.toList, qty)]).flatMap encGd = G.flatMap encGd ++ [.int .i64 o, .string sku, .int .i64 qty] by simp [encGd, List.flatMap_append]]
      exact ho104
    have hp7 := HP.out.setG (Nat.le_trans hB0 HT.out.size) ht104 ho
    have htr := turned_set W104 r 4 (.slice A104 (G.length + 1) c104)
    have HM7 := Lib.hid (HidB ((ht104.block _ (heap_lt HM.out) (by omega)).trans HM.out) htr (by omega))
    have HZ7 := Lib.hid (HidB ((ht104.block _ (heap_lt HZ.out) (by have := heap_lt HZ.out; omega)).trans HZ.out) htr (by omega))
    have HR7 := Lib.hid (HidB ((ht104.block _ (heap_lt HR.out) (by have := heap_lt HR.out; omega)).trans HR.out) htr (by omega))
    have HT7 := Lib.hid (HTr (HT.out.trans (ht104.mono (fun i hi => .inr (by have := HT.out.size; omega)))) htr)
    generalize W104.setCell ⟨r, 4, none⟩ (.slice A104 (G.length + 1) c104) = w7 at hp7 HM7 HZ7 HR7 HT7 ⊢
    have HP7 := Lib.hid hp7
    clear hp7 htr ho ho104 q4 f4 HM HZ HR HT HP HH hHeld
    have HM := HM7
    have HZ := HZ7
    have HR := HR7
    have HT := HT7
    have HP := HP7
    clear HM7 HZ7 HR7 HT7 HP7
    generalize (Value.slice A104 (G.length + 1) c104) = vg7 at HP
    obtain ⟨m0, m1, m2, m3, m4, m5, m6⟩ := cell7 HM.out
    obtain ⟨n0, n1, n2, n3, n4⟩ := cell5 HR.out
    obtain ⟨f0, f1, f2, f3, f4⟩ := froz5 HR.out
    have HTu := turned_set5 w7 w2.heap.size (.int .i64 o) (.int .i64 d) (.int .i64 1) (.int .i64 amt) (.int .i64 qty)
    have HSET := set5c HR.out (.int .i64 o) (.int .i64 d) (.int .i64 1) (.int .i64 amt) (.int .i64 qty)
    unfold set5w at HSET
    obtain ⟨y0, y1, y2, y3, y4⟩ := cell5 HSET
    have HTu := Lib.hid HTu
    have HSET := Lib.hid HSET
    go_wp2_with fail
    generalize ((((w7.setCell ⟨w2.heap.size, 0, none⟩ (.int .i64 o)).setCell ⟨w2.heap.size, 1, none⟩ (.int .i64 d)).setCell ⟨w2.heap.size, 2, none⟩ (.int .i64 1)).setCell ⟨w2.heap.size, 3, none⟩ (.int .i64 amt)).setCell ⟨w2.heap.size, 4, none⟩ (.int .i64 qty) = w8 at HTu HSET y0 y1 y2 y3 y4 ⊢
    clear m0 m1 m2 m3 m4 m5 m6 y0 y1 y2 y3 y4
    have hHP := HP.out.turn HTu.out (by show ¬ r = _; omega) (fun j hj e => by have := HV.out j hj; omega) (own_apart_blk HP.out.rg HR.out (by decide))
    replace HT := Lib.hid (HTs HT.out HTu.out (by omega))
    replace HP := Lib.hid hHP
    clear hHP
    replace HM := Lib.hid (HidB HM.out HTu.out (by omega))
    replace HZ := Lib.hid (HidB HZ.out HTu.out (by omega))
    have HR8 := HSET
    clear HR HTu HSET
    refine (refWrite_any w8 B r kind stock limit seq vl vg7 (L) (G ++ [(o, sku.data.toList, qty)]) ((o, d), 1, amt, qty) HP.out (by have := HL.out; omega) (Nat.le_trans hB0 HT.out.size)).mono ?_
    rintro e w9 ⟨rfl, ht9, vl9, hp9, hv9⟩
    replace HT := Lib.hid (HTr HT.out ht9)
    replace HP := Lib.hid hp9
    replace HM := Lib.hid (HidB HM.out ht9 (by omega))
    replace HZ := Lib.hid (HidB HZ.out ht9 (by omega))
    replace HR8 := Lib.hid (HidB HR8.out ht9 (by omega))
    clear ht9 hp9 hv9 HV
    obtain ⟨m0, m1, m2, m3, m4, m5, m6⟩ := cell7 HM.out
    obtain ⟨n0, n1, n2, n3, n4⟩ := cell5 HR8.out
    obtain ⟨z0, z1, z2, z3, z4, z5, z6⟩ := cell7 HZ.out
    obtain ⟨f0, f1, f2, f3, f4, f5, f6⟩ := froz7 HZ.out
    go_wp2_with fail
    have HTu := turned_set7 w9 (w.heap.size + 1) (.int .i64 3) (.int .i64 o) (.int .i64 d) (.string ⟨#[]⟩) (.int .i64 0) (.int .i64 0) (.int .i64 1)
    have HSET := set7 HZ.out (.int .i64 3) (.int .i64 o) (.int .i64 d) (.string ⟨#[]⟩) (.int .i64 0) (.int .i64 0) (.int .i64 1)
    unfold set7w at HSET
    obtain ⟨y0, y1, y2, y3, y4, y5, y6⟩ := cell7 HSET
    refine bodyPost_ret (v := .tuple #[.agg #[.int .i64 3, .int .i64 o, .int .i64 d, .string ⟨#[]⟩, .int .i64 0, .int .i64 0, .int .i64 1], .bool true]) ?_ rfl ⟨?_, ?_⟩
    · clear HTu HSET
      simp [results, Tryd.results14, go_sem, y0, y1, y2, y3, y4, y5, y6]
    · exact rfl
    · have hHP := HP.out.turn HTu (by show ¬ r = _; omega) (own_apart_blk HP.out.rl HZ.out (by decide)) (own_apart_blk HP.out.rg HZ.out (by decide))
      refine ⟨Turned.far (Turned.refl _ w) (HTs HT.out HTu (by omega)), ?_⟩
      have hk := HKD.out
      first
      | exact ⟨_, _, hHP⟩
      | (subst hk; exact ⟨_, _, hHP⟩)
      | (rw [if_pos hk]; exact ⟨_, _, hHP⟩)
      | (rw [if_neg hk]; exact ⟨_, _, hHP⟩)
set_option linter.unusedSimpArgs false in
set_option linter.unusedVariables false in
set_option maxRecDepth 100000 in
set_option maxHeartbeats 12000000 in
theorem refAskDo (w : World) (B r : Nat) (kind stock limit seq : Int) (vl vg : Value) (L : List R5) (G : List G3) (to o d : Int) (sku : ByteArray) (qty amt cd : Int) (h : RP w B r kind stock limit seq vl vg L G) (hs : sku.size ≤ 1000000000000) (hd : Mon.InR d) (hm : mayB to o d sku.data.toList qty amt cd = true) (ht : to = kind) (hl : L.length < 90000) (hg : G.length < 90000) (hB0 : B ≤ w.heap.size) (hf : findR L (o, d) = none) (U : Int) (hu : undoI d = (U, false)) (hst : 0 ≤ stock ∧ stock ≤ 1000000000) (hq : ∀ o s q, (o, s, q) ∈ G → 1 ≤ q) (huG : used G sku.data.toList ≤ 1000000000) (hk3 : 0 ≤ kind ∧ kind ≤ 2) (hdn : doneB kind stock limit ⟨[], G, []⟩ ⟨to, o, d, sku.data.toList, qty, amt, cd⟩ = true) (hk1 : ¬ kind = 1) :
    Calls Tryd.prog 14 #[.pointer (some ⟨r, 0, none⟩), .agg #[.int .i64 to, .int .i64 o, .int .i64 d, .string sku, .int .i64 qty, .int .i64 amt, .int .i64 cd]] w fun e w' => e = .returned (.tuple #[ansM o d (some 1), .bool true]) ∧ Turned (fun i => i = r) w w' ∧ ∃ vl' vg', RP w' B r kind stock limit seq vl' vg' (insR L ((o, d), 1, amt, qty)) (G) := by
  obtain ⟨i0, hi, hz0, hz1, hz2⟩ := info_parts gds_info
  obtain ⟨Ag, cg, rfl, _⟩ := own_slice h.rg
  have HV := Lib.hid (fun j hj => (h.rl.lt j hj).2)
  have hb : (to != kind) = false := by rw [ht]; simp
  clear ht
  have HF := Lib.hid hf
  clear hf
  have HU := Lib.hid (fun W => (refUndoes_any d W hd).mono (fun e w' h => (⟨h.1.trans (by rw [hu]), h.2⟩ : e = .returned (.tuple #[.int .i64 U, .bool false]) ∧ W = w')))
  clear hu
  have HDN := Lib.hid hdn
  clear hdn
  have HQ := Lib.hid hq
  clear hq
  have HUG := Lib.hid huG
  clear huG
  have hl : L.length < 100000 := by omega
  have HL := Lib.hid (show L.length < 100000 by omega)
  have HM := Lib.hid (heap_keep (heap_new w (.cells #[.int .i64 to, .int .i64 o, .int .i64 d, .string sku, .int .i64 qty, .int .i64 amt, .int .i64 cd] tMsg)) (below_alloc _ (.cells #[.int .i64 0, .int .i64 0, .int .i64 0, .string ⟨#[]⟩, .int .i64 0, .int .i64 0, .int .i64 0] tMsg)))
  have hz := heap_new (w.alloc (.cells #[.int .i64 to, .int .i64 o, .int .i64 d, .string sku, .int .i64 qty, .int .i64 amt, .int .i64 cd] tMsg)) (.cells #[.int .i64 0, .int .i64 0, .int .i64 0, .string ⟨#[]⟩, .int .i64 0, .int .i64 0, .int .i64 0] tMsg)
  rw [show (w.alloc (.cells #[.int .i64 to, .int .i64 o, .int .i64 d, .string sku, .int .i64 qty, .int .i64 amt, .int .i64 cd] tMsg)).heap.size = w.heap.size + 1 by simp] at hz
  have HZ := Lib.hid hz
  have HB := Lib.hid ((below_alloc w (.cells #[.int .i64 to, .int .i64 o, .int .i64 d, .string sku, .int .i64 qty, .int .i64 amt, .int .i64 cd] tMsg)).alloc (by simp) (.cells #[.int .i64 0, .int .i64 0, .int .i64 0, .string ⟨#[]⟩, .int .i64 0, .int .i64 0, .int .i64 0] tMsg))
  have HP := Lib.hid (h.below HB.out)
  have HH := Lib.hid HP.out.hd
  have HMay := Lib.hid (fun W => (refMay_any W to o d sku qty amt cd hs hd).mono (fun e w' h => (⟨h.1.trans (by rw [hm]), h.2⟩ : e = .returned (.bool true) ∧ Below W.heap.size W w')))
  have hB1 : w.heap.size + 1 < ((w.alloc (.cells #[.int .i64 to, .int .i64 o, .int .i64 d, .string sku, .int .i64 qty, .int .i64 amt, .int .i64 cd] tMsg)).alloc (.cells #[.int .i64 0, .int .i64 0, .int .i64 0, .string ⟨#[]⟩, .int .i64 0, .int .i64 0, .int .i64 0] tMsg)).heap.size := by simp
  have hB2 := heap_lt h.hd
  clear hz h hm
  go_enter Tryd.func14, Tryd.ntmps14
  go_wp2_with fail
  generalize (w.alloc (.cells #[.int .i64 to, .int .i64 o, .int .i64 d, .string sku, .int .i64 qty, .int .i64 amt, .int .i64 cd] tMsg)).alloc (.cells #[.int .i64 0, .int .i64 0, .int .i64 0, .string ⟨#[]⟩, .int .i64 0, .int .i64 0, .int .i64 0] tMsg) = wb at HM HZ HB HP HH hB1 ⊢
  refine wp_region_noPanic ?_
  refine wp_region_held_drew (S := (fun w' => Hid (Below wb.heap.size wb w') ∧ w'.cell? ⟨w.heap.size, 0, none⟩ = some (.int .i64 to) ∧ w'.cell? ⟨w.heap.size, 1, none⟩ = some (.int .i64 o) ∧ w'.cell? ⟨w.heap.size, 2, none⟩ = some (.int .i64 d) ∧ w'.cell? ⟨w.heap.size, 3, none⟩ = some (.string sku) ∧ w'.cell? ⟨w.heap.size, 4, none⟩ = some (.int .i64 qty) ∧ w'.cell? ⟨w.heap.size, 5, none⟩ = some (.int .i64 amt) ∧ w'.cell? ⟨w.heap.size, 6, none⟩ = some (.int .i64 cd) ∧ w'.cell? ⟨r, 0, none⟩ = some (.int .i64 kind))) (by kernel_rfl) ⟨(below_drew1 (Below.refl _ wb)), cell_at ((((below_drew1 (Below.refl _ wb))).block _ (heap_lt HM.out)).trans HM.out) 0 rfl, cell_at ((((below_drew1 (Below.refl _ wb))).block _ (heap_lt HM.out)).trans HM.out) 1 rfl, cell_at ((((below_drew1 (Below.refl _ wb))).block _ (heap_lt HM.out)).trans HM.out) 2 rfl, cell_at ((((below_drew1 (Below.refl _ wb))).block _ (heap_lt HM.out)).trans HM.out) 3 rfl, cell_at ((((below_drew1 (Below.refl _ wb))).block _ (heap_lt HM.out)).trans HM.out) 4 rfl, cell_at ((((below_drew1 (Below.refl _ wb))).block _ (heap_lt HM.out)).trans HM.out) 5 rfl, cell_at ((((below_drew1 (Below.refl _ wb))).block _ (heap_lt HM.out)).trans HM.out) 6 rfl, cell_at ((((below_drew1 (Below.refl _ wb))).block _ (heap_lt HH.out)).trans HH.out) 0 rfl⟩ (fun hHeld => ?_)
  refine wpAnyH_take (i := 0) (v := ?vr0) rfl (by kernel_rfl) (by kernel_rfl) (by kernel_rfl) (fun _ _ _ h => h) (Or.inl ⟨by rfl, ?hyr0⟩) (by assumption) ?restr0
  case hyr0 => (intro w0 hSw; (try dsimp only at hSw); go_simp; try with_reducible rfl)
  case' restr0 => try simp only [Act.put, List.getElem_toArray, List.getElem_cons_zero, List.getElem_cons_succ, List.setIfInBounds_toArray, List.set_cons_zero, List.set_cons_succ]
  refine wpAnyH_ready (rs := [1]) (by kernel_rfl) (by simp) ?_
  refine AllReadyH.cons rfl (fun K hK => ?_) AllReadyH.nil
  go_simp
  refine (HMay.out _).mono ?_; rintro e w1 ⟨rfl, hb⟩
  have hbk := bch (Hid.out (And.left (by assumption))) hb (Below.size (Hid.out (And.left (by assumption))))
  refine hK.out _ _ ⟨hbk, cell_at (((hbk).block _ (heap_lt HM.out)).trans HM.out) 0 rfl, cell_at (((hbk).block _ (heap_lt HM.out)).trans HM.out) 1 rfl, cell_at (((hbk).block _ (heap_lt HM.out)).trans HM.out) 2 rfl, cell_at (((hbk).block _ (heap_lt HM.out)).trans HM.out) 3 rfl, cell_at (((hbk).block _ (heap_lt HM.out)).trans HM.out) 4 rfl, cell_at (((hbk).block _ (heap_lt HM.out)).trans HM.out) 5 rfl, cell_at (((hbk).block _ (heap_lt HM.out)).trans HM.out) 6 rfl, cell_at (((hbk).block _ (heap_lt HH.out)).trans HH.out) 0 rfl⟩ (fun hHeld => ?_)
  clear hK K hb hbk
  try simp only [Act.put, List.getElem_toArray, List.getElem_cons_zero, List.getElem_cons_succ, List.setIfInBounds_toArray, List.set_cons_zero, List.set_cons_succ]
  refine wpAnyH_take (i := 2) (v := ?vr2) rfl (by kernel_rfl) (by kernel_rfl) (by kernel_rfl) (fun _ _ _ h => h) (Or.inl ⟨by rfl, ?hyr2⟩) (by assumption) ?restr2
  case hyr2 => (intro w0 hSw; (try dsimp only at hSw); go_simp; try with_reducible rfl)
  case' restr2 => try simp only [Act.put, List.getElem_toArray, List.getElem_cons_zero, List.getElem_cons_succ, List.setIfInBounds_toArray, List.set_cons_zero, List.set_cons_succ]
  refine wpAnyH_take (i := 3) (v := ?vr3) rfl (by kernel_rfl) (by kernel_rfl) (by kernel_rfl) (fun _ _ _ h => h) (Or.inl ⟨by rfl, ?hyr3⟩) (by assumption) ?restr3
  case hyr3 => (intro w0 hSw; (try dsimp only at hSw); go_simp; try with_reducible rfl)
  case' restr3 => try simp only [Act.put, List.getElem_toArray, List.getElem_cons_zero, List.getElem_cons_succ, List.setIfInBounds_toArray, List.set_cons_zero, List.set_cons_succ]
  refine wpAnyH_take (i := 4) (v := ?vr4) rfl (by kernel_rfl) (by kernel_rfl) (by kernel_rfl) (fun _ _ _ h => h) (Or.inl ⟨by rfl, ?hyr4⟩) (by assumption) ?restr4
  case hyr4 => (intro w0 hSw; (try dsimp only at hSw); go_simp; try with_reducible rfl)
  case' restr4 => try simp only [Act.put, List.getElem_toArray, List.getElem_cons_zero, List.getElem_cons_succ, List.setIfInBounds_toArray, List.set_cons_zero, List.set_cons_succ]
  refine wpAnyH_take (i := 5) (v := ?vr5) rfl (by kernel_rfl) (by kernel_rfl) (by kernel_rfl) (fun _ _ _ h => h) (Or.inl ⟨by rfl, ?hyr5⟩) (by assumption) ?restr5
  case hyr5 => (intro w0 hSw; (try dsimp only at hSw); go_simp; try with_reducible rfl)
  case' restr5 => try simp only [Act.put, List.getElem_toArray, List.getElem_cons_zero, List.getElem_cons_succ, List.setIfInBounds_toArray, List.set_cons_zero, List.set_cons_succ]
  refine wpAnyH_take (i := 6) (v := ?vr6) rfl (by kernel_rfl) (by kernel_rfl) (by kernel_rfl) (fun _ _ _ h => h) (Or.inl ⟨by rfl, ?hyr6⟩) (by assumption) ?restr6
  case hyr6 => (intro w0 hSw; (try dsimp only at hSw); go_simp; try with_reducible rfl)
  case' restr6 => try simp only [Act.put, List.getElem_toArray, List.getElem_cons_zero, List.getElem_cons_succ, List.setIfInBounds_toArray, List.set_cons_zero, List.set_cons_succ]
  refine wpAnyH_take (i := 7) (v := ?vr7) rfl (by kernel_rfl) (by kernel_rfl) (by kernel_rfl) (fun _ _ _ h => h) (Or.inl ⟨by rfl, ?hyr7⟩) (by assumption) ?restr7
  case hyr7 => (intro w0 hSw; (try dsimp only at hSw); go_simp; try with_reducible rfl)
  case' restr7 => try simp only [Act.put, List.getElem_toArray, List.getElem_cons_zero, List.getElem_cons_succ, List.setIfInBounds_toArray, List.set_cons_zero, List.set_cons_succ]
  refine wpAnyH_take (i := 8) (v := ?vr8) rfl (by kernel_rfl) (by kernel_rfl) (by kernel_rfl) (fun _ _ _ h => h) (Or.inl ⟨by rfl, ?hyr8⟩) (by assumption) ?restr8
  case hyr8 => (intro w0 hSw; (try dsimp only at hSw); go_simp; try with_reducible rfl)
  case' restr8 => try simp only [Act.put, List.getElem_toArray, List.getElem_cons_zero, List.getElem_cons_succ, List.setIfInBounds_toArray, List.set_cons_zero, List.set_cons_succ]
  refine wpAnyH_take (i := 9) (v := ?vr9) rfl (by kernel_rfl) (by kernel_rfl) (by kernel_rfl) (fun _ _ _ h => h) (Or.inl ⟨by rfl, ?hyr9⟩) (by assumption) ?restr9
  case hyr9 => (intro w0 hSw; (try dsimp only at hSw); go_simp; try with_reducible rfl)
  case' restr9 => try simp only [Act.put, List.getElem_toArray, List.getElem_cons_zero, List.getElem_cons_succ, List.setIfInBounds_toArray, List.set_cons_zero, List.set_cons_succ]
  refine wpAnyH_take (i := 10) (v := ?vr10) rfl (by kernel_rfl) (by kernel_rfl) (by kernel_rfl) (fun _ _ _ h => h) (Or.inl ⟨by rfl, ?hyr10⟩) (by assumption) ?restr10
  case hyr10 => (intro w0 hSw; (try dsimp only at hSw); go_simp; try with_reducible rfl)
  case' restr10 => try simp only [Act.put, List.getElem_toArray, List.getElem_cons_zero, List.getElem_cons_succ, List.setIfInBounds_toArray, List.set_cons_zero, List.set_cons_succ]
  refine wpAnyH_take (i := 11) (v := ?vr11) rfl (by kernel_rfl) (by kernel_rfl) (by kernel_rfl) (fun _ _ _ h => h) (Or.inl ⟨by rfl, ?hyr11⟩) (by assumption) ?restr11
  case hyr11 => (intro w0 hSw; (try dsimp only at hSw); go_simp; try with_reducible rfl)
  case' restr11 => try simp only [Act.put, List.getElem_toArray, List.getElem_cons_zero, List.getElem_cons_succ, List.setIfInBounds_toArray, List.set_cons_zero, List.set_cons_succ]
  refine wpAnyH_done (by kernel_rfl) ?_ _
  refine NoPanic.normal ?_
  have HX := Lib.hid (show Below wb.heap.size wb w1 from Hid.out hHeld.1)
  clear hHeld
  have HM1 := Lib.hid (heap_keep HM.out HX.out)
  have HZ1 := Lib.hid (heap_keep HZ.out HX.out)
  have HP1 := Lib.hid (HP.out.below HX.out)
  have HB1 := Lib.hid (bch HB.out HX.out HB.out.size)
  have hB3 : w.heap.size + 1 < w1.heap.size := heap_lt HZ1.out
  clear HM HZ HP HB HX HMay HH hB1
  have HM := HM1
  have HZ := HZ1
  have HP := HP1
  have HB := HB1
  clear HM1 HZ1 HP1 HB1
  obtain ⟨m0, m1, m2, m3, m4, m5, m6⟩ := cell7 HM.out
  go_wp2_with fail
  refine (refFind_any w1 B r kind stock limit seq vl (.slice Ag G.length cg) L G o d HP.out hl).mono ?_
  rintro e w2 ⟨rfl, hb2⟩
  rw [HF.out]
  unfold foundV
  have hs2 := hb2.size
  have hbc : Below w1.heap.size w1 (w2.alloc (.cells #[.int .i64 0, .int .i64 0, .int .i64 0, .int .i64 0, .int .i64 0] tRow)) := Below.alloc hb2 hb2.size (.cells #[.int .i64 0, .int .i64 0, .int .i64 0, .int .i64 0, .int .i64 0] tRow)
  replace HB := Lib.hid (bch HB.out hbc HB.out.size)
  replace HP := Lib.hid (HP.out.below hbc)
  replace HM := Lib.hid (heap_keep HM.out hbc)
  replace HZ := Lib.hid (heap_keep HZ.out hbc)
  have HR := Lib.hid (heap_new w2 (.cells #[.int .i64 0, .int .i64 0, .int .i64 0, .int .i64 0, .int .i64 0] tRow))
  clear m0 m1 m2 m3 m4 m5 m6 hb2 hbc
  obtain ⟨m0, m1, m2, m3, m4, m5, m6⟩ := cell7 HM.out
  go_wp2_with fail
  generalize w2.alloc (.cells #[.int .i64 0, .int .i64 0, .int .i64 0, .int .i64 0, .int .i64 0] tRow) = wc at HM HZ HP HB HR m0 m1 m2 m3 m4 m5 m6 ⊢
  refine (HU.out wc).mono ?_
  rintro e w3 ⟨rfl, hw⟩; subst hw
  have hsc : w2.heap.size < wc.heap.size := heap_lt HR.out
  have HT : Hid (Turned (fun i => i = r ∨ w.heap.size ≤ i) w wc) := Lib.hid (HTb (Turned.refl _ w) HB.out)
  clear HB
  go_wp2_with fail
  refine (refDoes_any wc B r kind stock limit seq vl (.slice Ag G.length cg) L ⟨[], G, []⟩ to o d sku qty amt cd HP.out (by show G.length < _; omega) hst HQ.out HUG.out hk3).mono ?_
  rintro e wf ⟨rfl, hbf⟩
  rw [HDN.out]
  replace HT := Lib.hid (HTb HT.out hbf)
  replace HP := Lib.hid (HP.out.below hbf)
  replace HM := Lib.hid (heap_keep HM.out hbf)
  replace HZ := Lib.hid (heap_keep HZ.out hbf)
  replace HR := Lib.hid (heap_keep HR.out hbf)
  clear hbf m0 m1 m2 m3 m4 m5 m6 HDN HF HQ HUG HU
  obtain ⟨m0, m1, m2, m3, m4, m5, m6⟩ := cell7 HM.out
  obtain ⟨p0, p1, p2, p3, p4, p5⟩ := cell6 HP.out.hd
  have hkb : (kind == 1) = false := beqF hk1
  have HKD := Lib.hid hk1
  clear hk1
  obtain ⟨m0, m1, m2, m3, m4, m5, m6⟩ := cell7 HM.out
  obtain ⟨n0, n1, n2, n3, n4⟩ := cell5 HR.out
  obtain ⟨f0, f1, f2, f3, f4⟩ := froz5 HR.out
  have HTu := turned_set5 wf w2.heap.size (.int .i64 o) (.int .i64 d) (.int .i64 1) (.int .i64 amt) (.int .i64 qty)
  have HSET := set5c HR.out (.int .i64 o) (.int .i64 d) (.int .i64 1) (.int .i64 amt) (.int .i64 qty)
  unfold set5w at HSET
  obtain ⟨y0, y1, y2, y3, y4⟩ := cell5 HSET
  have HTu := Lib.hid HTu
  have HSET := Lib.hid HSET
  go_wp2_with fail
  generalize ((((wf.setCell ⟨w2.heap.size, 0, none⟩ (.int .i64 o)).setCell ⟨w2.heap.size, 1, none⟩ (.int .i64 d)).setCell ⟨w2.heap.size, 2, none⟩ (.int .i64 1)).setCell ⟨w2.heap.size, 3, none⟩ (.int .i64 amt)).setCell ⟨w2.heap.size, 4, none⟩ (.int .i64 qty) = w8 at HTu HSET y0 y1 y2 y3 y4 ⊢
  clear m0 m1 m2 m3 m4 m5 m6 y0 y1 y2 y3 y4
  have hHP := HP.out.turn HTu.out (by show ¬ r = _; omega) (fun j hj e => by have := HV.out j hj; omega) (own_apart_blk HP.out.rg HR.out (by decide))
  replace HT := Lib.hid (HTs HT.out HTu.out (by omega))
  replace HP := Lib.hid hHP
  clear hHP
  replace HM := Lib.hid (HidB HM.out HTu.out (by omega))
  replace HZ := Lib.hid (HidB HZ.out HTu.out (by omega))
  have HR8 := HSET
  clear HR HTu HSET
  refine (refWrite_any w8 B r kind stock limit seq vl (.slice Ag G.length cg) (L) (G) ((o, d), 1, amt, qty) HP.out (by have := HL.out; omega) (Nat.le_trans hB0 HT.out.size)).mono ?_
  rintro e w9 ⟨rfl, ht9, vl9, hp9, hv9⟩
  replace HT := Lib.hid (HTr HT.out ht9)
  replace HP := Lib.hid hp9
  replace HM := Lib.hid (HidB HM.out ht9 (by omega))
  replace HZ := Lib.hid (HidB HZ.out ht9 (by omega))
  replace HR8 := Lib.hid (HidB HR8.out ht9 (by omega))
  clear ht9 hp9 hv9 HV
  obtain ⟨m0, m1, m2, m3, m4, m5, m6⟩ := cell7 HM.out
  obtain ⟨n0, n1, n2, n3, n4⟩ := cell5 HR8.out
  obtain ⟨z0, z1, z2, z3, z4, z5, z6⟩ := cell7 HZ.out
  obtain ⟨f0, f1, f2, f3, f4, f5, f6⟩ := froz7 HZ.out
  go_wp2_with fail
  have HTu := turned_set7 w9 (w.heap.size + 1) (.int .i64 3) (.int .i64 o) (.int .i64 d) (.string ⟨#[]⟩) (.int .i64 0) (.int .i64 0) (.int .i64 1)
  have HSET := set7 HZ.out (.int .i64 3) (.int .i64 o) (.int .i64 d) (.string ⟨#[]⟩) (.int .i64 0) (.int .i64 0) (.int .i64 1)
  unfold set7w at HSET
  obtain ⟨y0, y1, y2, y3, y4, y5, y6⟩ := cell7 HSET
  refine bodyPost_ret (v := .tuple #[.agg #[.int .i64 3, .int .i64 o, .int .i64 d, .string ⟨#[]⟩, .int .i64 0, .int .i64 0, .int .i64 1], .bool true]) ?_ rfl ⟨?_, ?_⟩
  · clear HTu HSET
    simp [results, Tryd.results14, go_sem, y0, y1, y2, y3, y4, y5, y6]
  · exact rfl
  · have hHP := HP.out.turn HTu (by show ¬ r = _; omega) (own_apart_blk HP.out.rl HZ.out (by decide)) (own_apart_blk HP.out.rg HZ.out (by decide))
    refine ⟨Turned.far (Turned.refl _ w) (HTs HT.out HTu (by omega)), ?_⟩
    have hk := HKD.out
    first
    | exact ⟨_, _, hHP⟩
    | (subst hk; exact ⟨_, _, hHP⟩)
    | (rw [if_pos hk]; exact ⟨_, _, hHP⟩)
    | (rw [if_neg hk]; exact ⟨_, _, hHP⟩)
set_option linter.unusedSimpArgs false in
set_option linter.unusedVariables false in
set_option maxRecDepth 100000 in
set_option maxHeartbeats 12000000 in
theorem refAskRefuse (w : World) (B r : Nat) (kind stock limit seq : Int) (vl vg : Value) (L : List R5) (G : List G3) (to o d : Int) (sku : ByteArray) (qty amt cd : Int) (h : RP w B r kind stock limit seq vl vg L G) (hs : sku.size ≤ 1000000000000) (hd : Mon.InR d) (hm : mayB to o d sku.data.toList qty amt cd = true) (ht : to = kind) (hl : L.length < 90000) (hg : G.length < 90000) (hB0 : B ≤ w.heap.size) (hf : findR L (o, d) = none) (U : Int) (hu : undoI d = (U, false)) (hst : 0 ≤ stock ∧ stock ≤ 1000000000) (hq : ∀ o s q, (o, s, q) ∈ G → 1 ≤ q) (huG : used G sku.data.toList ≤ 1000000000) (hk3 : 0 ≤ kind ∧ kind ≤ 2) (hdn : doneB kind stock limit ⟨[], G, []⟩ ⟨to, o, d, sku.data.toList, qty, amt, cd⟩ = false)  :
    Calls Tryd.prog 14 #[.pointer (some ⟨r, 0, none⟩), .agg #[.int .i64 to, .int .i64 o, .int .i64 d, .string sku, .int .i64 qty, .int .i64 amt, .int .i64 cd]] w fun e w' => e = .returned (.tuple #[ansM o d (some 2), .bool true]) ∧ Turned (fun i => i = r) w w' ∧ ∃ vl' vg', RP w' B r kind stock limit seq vl' vg' (insR L ((o, d), 2, 0, 0)) (G) := by
  obtain ⟨i0, hi, hz0, hz1, hz2⟩ := info_parts gds_info
  obtain ⟨Ag, cg, rfl, _⟩ := own_slice h.rg
  have HV := Lib.hid (fun j hj => (h.rl.lt j hj).2)
  have hb : (to != kind) = false := by rw [ht]; simp
  clear ht
  have HF := Lib.hid hf
  clear hf
  have HU := Lib.hid (fun W => (refUndoes_any d W hd).mono (fun e w' h => (⟨h.1.trans (by rw [hu]), h.2⟩ : e = .returned (.tuple #[.int .i64 U, .bool false]) ∧ W = w')))
  clear hu
  have HDN := Lib.hid hdn
  clear hdn
  have HQ := Lib.hid hq
  clear hq
  have HUG := Lib.hid huG
  clear huG
  have hl : L.length < 100000 := by omega
  have HL := Lib.hid (show L.length < 100000 by omega)
  have HM := Lib.hid (heap_keep (heap_new w (.cells #[.int .i64 to, .int .i64 o, .int .i64 d, .string sku, .int .i64 qty, .int .i64 amt, .int .i64 cd] tMsg)) (below_alloc _ (.cells #[.int .i64 0, .int .i64 0, .int .i64 0, .string ⟨#[]⟩, .int .i64 0, .int .i64 0, .int .i64 0] tMsg)))
  have hz := heap_new (w.alloc (.cells #[.int .i64 to, .int .i64 o, .int .i64 d, .string sku, .int .i64 qty, .int .i64 amt, .int .i64 cd] tMsg)) (.cells #[.int .i64 0, .int .i64 0, .int .i64 0, .string ⟨#[]⟩, .int .i64 0, .int .i64 0, .int .i64 0] tMsg)
  rw [show (w.alloc (.cells #[.int .i64 to, .int .i64 o, .int .i64 d, .string sku, .int .i64 qty, .int .i64 amt, .int .i64 cd] tMsg)).heap.size = w.heap.size + 1 by simp] at hz
  have HZ := Lib.hid hz
  have HB := Lib.hid ((below_alloc w (.cells #[.int .i64 to, .int .i64 o, .int .i64 d, .string sku, .int .i64 qty, .int .i64 amt, .int .i64 cd] tMsg)).alloc (by simp) (.cells #[.int .i64 0, .int .i64 0, .int .i64 0, .string ⟨#[]⟩, .int .i64 0, .int .i64 0, .int .i64 0] tMsg))
  have HP := Lib.hid (h.below HB.out)
  have HH := Lib.hid HP.out.hd
  have HMay := Lib.hid (fun W => (refMay_any W to o d sku qty amt cd hs hd).mono (fun e w' h => (⟨h.1.trans (by rw [hm]), h.2⟩ : e = .returned (.bool true) ∧ Below W.heap.size W w')))
  have hB1 : w.heap.size + 1 < ((w.alloc (.cells #[.int .i64 to, .int .i64 o, .int .i64 d, .string sku, .int .i64 qty, .int .i64 amt, .int .i64 cd] tMsg)).alloc (.cells #[.int .i64 0, .int .i64 0, .int .i64 0, .string ⟨#[]⟩, .int .i64 0, .int .i64 0, .int .i64 0] tMsg)).heap.size := by simp
  have hB2 := heap_lt h.hd
  clear hz h hm
  go_enter Tryd.func14, Tryd.ntmps14
  go_wp2_with fail
  generalize (w.alloc (.cells #[.int .i64 to, .int .i64 o, .int .i64 d, .string sku, .int .i64 qty, .int .i64 amt, .int .i64 cd] tMsg)).alloc (.cells #[.int .i64 0, .int .i64 0, .int .i64 0, .string ⟨#[]⟩, .int .i64 0, .int .i64 0, .int .i64 0] tMsg) = wb at HM HZ HB HP HH hB1 ⊢
  refine wp_region_noPanic ?_
  refine wp_region_held_drew (S := (fun w' => Hid (Below wb.heap.size wb w') ∧ w'.cell? ⟨w.heap.size, 0, none⟩ = some (.int .i64 to) ∧ w'.cell? ⟨w.heap.size, 1, none⟩ = some (.int .i64 o) ∧ w'.cell? ⟨w.heap.size, 2, none⟩ = some (.int .i64 d) ∧ w'.cell? ⟨w.heap.size, 3, none⟩ = some (.string sku) ∧ w'.cell? ⟨w.heap.size, 4, none⟩ = some (.int .i64 qty) ∧ w'.cell? ⟨w.heap.size, 5, none⟩ = some (.int .i64 amt) ∧ w'.cell? ⟨w.heap.size, 6, none⟩ = some (.int .i64 cd) ∧ w'.cell? ⟨r, 0, none⟩ = some (.int .i64 kind))) (by kernel_rfl) ⟨(below_drew1 (Below.refl _ wb)), cell_at ((((below_drew1 (Below.refl _ wb))).block _ (heap_lt HM.out)).trans HM.out) 0 rfl, cell_at ((((below_drew1 (Below.refl _ wb))).block _ (heap_lt HM.out)).trans HM.out) 1 rfl, cell_at ((((below_drew1 (Below.refl _ wb))).block _ (heap_lt HM.out)).trans HM.out) 2 rfl, cell_at ((((below_drew1 (Below.refl _ wb))).block _ (heap_lt HM.out)).trans HM.out) 3 rfl, cell_at ((((below_drew1 (Below.refl _ wb))).block _ (heap_lt HM.out)).trans HM.out) 4 rfl, cell_at ((((below_drew1 (Below.refl _ wb))).block _ (heap_lt HM.out)).trans HM.out) 5 rfl, cell_at ((((below_drew1 (Below.refl _ wb))).block _ (heap_lt HM.out)).trans HM.out) 6 rfl, cell_at ((((below_drew1 (Below.refl _ wb))).block _ (heap_lt HH.out)).trans HH.out) 0 rfl⟩ (fun hHeld => ?_)
  refine wpAnyH_take (i := 0) (v := ?vr0) rfl (by kernel_rfl) (by kernel_rfl) (by kernel_rfl) (fun _ _ _ h => h) (Or.inl ⟨by rfl, ?hyr0⟩) (by assumption) ?restr0
  case hyr0 => (intro w0 hSw; (try dsimp only at hSw); go_simp; try with_reducible rfl)
  case' restr0 => try simp only [Act.put, List.getElem_toArray, List.getElem_cons_zero, List.getElem_cons_succ, List.setIfInBounds_toArray, List.set_cons_zero, List.set_cons_succ]
  refine wpAnyH_ready (rs := [1]) (by kernel_rfl) (by simp) ?_
  refine AllReadyH.cons rfl (fun K hK => ?_) AllReadyH.nil
  go_simp
  refine (HMay.out _).mono ?_; rintro e w1 ⟨rfl, hb⟩
  have hbk := bch (Hid.out (And.left (by assumption))) hb (Below.size (Hid.out (And.left (by assumption))))
  refine hK.out _ _ ⟨hbk, cell_at (((hbk).block _ (heap_lt HM.out)).trans HM.out) 0 rfl, cell_at (((hbk).block _ (heap_lt HM.out)).trans HM.out) 1 rfl, cell_at (((hbk).block _ (heap_lt HM.out)).trans HM.out) 2 rfl, cell_at (((hbk).block _ (heap_lt HM.out)).trans HM.out) 3 rfl, cell_at (((hbk).block _ (heap_lt HM.out)).trans HM.out) 4 rfl, cell_at (((hbk).block _ (heap_lt HM.out)).trans HM.out) 5 rfl, cell_at (((hbk).block _ (heap_lt HM.out)).trans HM.out) 6 rfl, cell_at (((hbk).block _ (heap_lt HH.out)).trans HH.out) 0 rfl⟩ (fun hHeld => ?_)
  clear hK K hb hbk
  try simp only [Act.put, List.getElem_toArray, List.getElem_cons_zero, List.getElem_cons_succ, List.setIfInBounds_toArray, List.set_cons_zero, List.set_cons_succ]
  refine wpAnyH_take (i := 2) (v := ?vr2) rfl (by kernel_rfl) (by kernel_rfl) (by kernel_rfl) (fun _ _ _ h => h) (Or.inl ⟨by rfl, ?hyr2⟩) (by assumption) ?restr2
  case hyr2 => (intro w0 hSw; (try dsimp only at hSw); go_simp; try with_reducible rfl)
  case' restr2 => try simp only [Act.put, List.getElem_toArray, List.getElem_cons_zero, List.getElem_cons_succ, List.setIfInBounds_toArray, List.set_cons_zero, List.set_cons_succ]
  refine wpAnyH_take (i := 3) (v := ?vr3) rfl (by kernel_rfl) (by kernel_rfl) (by kernel_rfl) (fun _ _ _ h => h) (Or.inl ⟨by rfl, ?hyr3⟩) (by assumption) ?restr3
  case hyr3 => (intro w0 hSw; (try dsimp only at hSw); go_simp; try with_reducible rfl)
  case' restr3 => try simp only [Act.put, List.getElem_toArray, List.getElem_cons_zero, List.getElem_cons_succ, List.setIfInBounds_toArray, List.set_cons_zero, List.set_cons_succ]
  refine wpAnyH_take (i := 4) (v := ?vr4) rfl (by kernel_rfl) (by kernel_rfl) (by kernel_rfl) (fun _ _ _ h => h) (Or.inl ⟨by rfl, ?hyr4⟩) (by assumption) ?restr4
  case hyr4 => (intro w0 hSw; (try dsimp only at hSw); go_simp; try with_reducible rfl)
  case' restr4 => try simp only [Act.put, List.getElem_toArray, List.getElem_cons_zero, List.getElem_cons_succ, List.setIfInBounds_toArray, List.set_cons_zero, List.set_cons_succ]
  refine wpAnyH_take (i := 5) (v := ?vr5) rfl (by kernel_rfl) (by kernel_rfl) (by kernel_rfl) (fun _ _ _ h => h) (Or.inl ⟨by rfl, ?hyr5⟩) (by assumption) ?restr5
  case hyr5 => (intro w0 hSw; (try dsimp only at hSw); go_simp; try with_reducible rfl)
  case' restr5 => try simp only [Act.put, List.getElem_toArray, List.getElem_cons_zero, List.getElem_cons_succ, List.setIfInBounds_toArray, List.set_cons_zero, List.set_cons_succ]
  refine wpAnyH_take (i := 6) (v := ?vr6) rfl (by kernel_rfl) (by kernel_rfl) (by kernel_rfl) (fun _ _ _ h => h) (Or.inl ⟨by rfl, ?hyr6⟩) (by assumption) ?restr6
  case hyr6 => (intro w0 hSw; (try dsimp only at hSw); go_simp; try with_reducible rfl)
  case' restr6 => try simp only [Act.put, List.getElem_toArray, List.getElem_cons_zero, List.getElem_cons_succ, List.setIfInBounds_toArray, List.set_cons_zero, List.set_cons_succ]
  refine wpAnyH_take (i := 7) (v := ?vr7) rfl (by kernel_rfl) (by kernel_rfl) (by kernel_rfl) (fun _ _ _ h => h) (Or.inl ⟨by rfl, ?hyr7⟩) (by assumption) ?restr7
  case hyr7 => (intro w0 hSw; (try dsimp only at hSw); go_simp; try with_reducible rfl)
  case' restr7 => try simp only [Act.put, List.getElem_toArray, List.getElem_cons_zero, List.getElem_cons_succ, List.setIfInBounds_toArray, List.set_cons_zero, List.set_cons_succ]
  refine wpAnyH_take (i := 8) (v := ?vr8) rfl (by kernel_rfl) (by kernel_rfl) (by kernel_rfl) (fun _ _ _ h => h) (Or.inl ⟨by rfl, ?hyr8⟩) (by assumption) ?restr8
  case hyr8 => (intro w0 hSw; (try dsimp only at hSw); go_simp; try with_reducible rfl)
  case' restr8 => try simp only [Act.put, List.getElem_toArray, List.getElem_cons_zero, List.getElem_cons_succ, List.setIfInBounds_toArray, List.set_cons_zero, List.set_cons_succ]
  refine wpAnyH_take (i := 9) (v := ?vr9) rfl (by kernel_rfl) (by kernel_rfl) (by kernel_rfl) (fun _ _ _ h => h) (Or.inl ⟨by rfl, ?hyr9⟩) (by assumption) ?restr9
  case hyr9 => (intro w0 hSw; (try dsimp only at hSw); go_simp; try with_reducible rfl)
  case' restr9 => try simp only [Act.put, List.getElem_toArray, List.getElem_cons_zero, List.getElem_cons_succ, List.setIfInBounds_toArray, List.set_cons_zero, List.set_cons_succ]
  refine wpAnyH_take (i := 10) (v := ?vr10) rfl (by kernel_rfl) (by kernel_rfl) (by kernel_rfl) (fun _ _ _ h => h) (Or.inl ⟨by rfl, ?hyr10⟩) (by assumption) ?restr10
  case hyr10 => (intro w0 hSw; (try dsimp only at hSw); go_simp; try with_reducible rfl)
  case' restr10 => try simp only [Act.put, List.getElem_toArray, List.getElem_cons_zero, List.getElem_cons_succ, List.setIfInBounds_toArray, List.set_cons_zero, List.set_cons_succ]
  refine wpAnyH_take (i := 11) (v := ?vr11) rfl (by kernel_rfl) (by kernel_rfl) (by kernel_rfl) (fun _ _ _ h => h) (Or.inl ⟨by rfl, ?hyr11⟩) (by assumption) ?restr11
  case hyr11 => (intro w0 hSw; (try dsimp only at hSw); go_simp; try with_reducible rfl)
  case' restr11 => try simp only [Act.put, List.getElem_toArray, List.getElem_cons_zero, List.getElem_cons_succ, List.setIfInBounds_toArray, List.set_cons_zero, List.set_cons_succ]
  refine wpAnyH_done (by kernel_rfl) ?_ _
  refine NoPanic.normal ?_
  have HX := Lib.hid (show Below wb.heap.size wb w1 from Hid.out hHeld.1)
  clear hHeld
  have HM1 := Lib.hid (heap_keep HM.out HX.out)
  have HZ1 := Lib.hid (heap_keep HZ.out HX.out)
  have HP1 := Lib.hid (HP.out.below HX.out)
  have HB1 := Lib.hid (bch HB.out HX.out HB.out.size)
  have hB3 : w.heap.size + 1 < w1.heap.size := heap_lt HZ1.out
  clear HM HZ HP HB HX HMay HH hB1
  have HM := HM1
  have HZ := HZ1
  have HP := HP1
  have HB := HB1
  clear HM1 HZ1 HP1 HB1
  obtain ⟨m0, m1, m2, m3, m4, m5, m6⟩ := cell7 HM.out
  go_wp2_with fail
  refine (refFind_any w1 B r kind stock limit seq vl (.slice Ag G.length cg) L G o d HP.out hl).mono ?_
  rintro e w2 ⟨rfl, hb2⟩
  rw [HF.out]
  unfold foundV
  have hs2 := hb2.size
  have hbc : Below w1.heap.size w1 (w2.alloc (.cells #[.int .i64 0, .int .i64 0, .int .i64 0, .int .i64 0, .int .i64 0] tRow)) := Below.alloc hb2 hb2.size (.cells #[.int .i64 0, .int .i64 0, .int .i64 0, .int .i64 0, .int .i64 0] tRow)
  replace HB := Lib.hid (bch HB.out hbc HB.out.size)
  replace HP := Lib.hid (HP.out.below hbc)
  replace HM := Lib.hid (heap_keep HM.out hbc)
  replace HZ := Lib.hid (heap_keep HZ.out hbc)
  have HR := Lib.hid (heap_new w2 (.cells #[.int .i64 0, .int .i64 0, .int .i64 0, .int .i64 0, .int .i64 0] tRow))
  clear m0 m1 m2 m3 m4 m5 m6 hb2 hbc
  obtain ⟨m0, m1, m2, m3, m4, m5, m6⟩ := cell7 HM.out
  go_wp2_with fail
  generalize w2.alloc (.cells #[.int .i64 0, .int .i64 0, .int .i64 0, .int .i64 0, .int .i64 0] tRow) = wc at HM HZ HP HB HR m0 m1 m2 m3 m4 m5 m6 ⊢
  refine (HU.out wc).mono ?_
  rintro e w3 ⟨rfl, hw⟩; subst hw
  have hsc : w2.heap.size < wc.heap.size := heap_lt HR.out
  have HT : Hid (Turned (fun i => i = r ∨ w.heap.size ≤ i) w wc) := Lib.hid (HTb (Turned.refl _ w) HB.out)
  clear HB
  go_wp2_with fail
  refine (refDoes_any wc B r kind stock limit seq vl (.slice Ag G.length cg) L ⟨[], G, []⟩ to o d sku qty amt cd HP.out (by show G.length < _; omega) hst HQ.out HUG.out hk3).mono ?_
  rintro e wf ⟨rfl, hbf⟩
  rw [HDN.out]
  replace HT := Lib.hid (HTb HT.out hbf)
  replace HP := Lib.hid (HP.out.below hbf)
  replace HM := Lib.hid (heap_keep HM.out hbf)
  replace HZ := Lib.hid (heap_keep HZ.out hbf)
  replace HR := Lib.hid (heap_keep HR.out hbf)
  clear hbf m0 m1 m2 m3 m4 m5 m6 HDN HF HQ HUG HU
  obtain ⟨m0, m1, m2, m3, m4, m5, m6⟩ := cell7 HM.out
  obtain ⟨p0, p1, p2, p3, p4, p5⟩ := cell6 HP.out.hd
  have HKD := Lib.hid trivial
  obtain ⟨m0, m1, m2, m3, m4, m5, m6⟩ := cell7 HM.out
  obtain ⟨n0, n1, n2, n3, n4⟩ := cell5 HR.out
  obtain ⟨f0, f1, f2, f3, f4⟩ := froz5 HR.out
  have HTu := turned_set5 wf w2.heap.size (.int .i64 o) (.int .i64 d) (.int .i64 2) (.int .i64 0) (.int .i64 0)
  have HSET := set5c HR.out (.int .i64 o) (.int .i64 d) (.int .i64 2) (.int .i64 0) (.int .i64 0)
  unfold set5w at HSET
  obtain ⟨y0, y1, y2, y3, y4⟩ := cell5 HSET
  have HTu := Lib.hid HTu
  have HSET := Lib.hid HSET
  go_wp2_with fail
  generalize ((((wf.setCell ⟨w2.heap.size, 0, none⟩ (.int .i64 o)).setCell ⟨w2.heap.size, 1, none⟩ (.int .i64 d)).setCell ⟨w2.heap.size, 2, none⟩ (.int .i64 2)).setCell ⟨w2.heap.size, 3, none⟩ (.int .i64 0)).setCell ⟨w2.heap.size, 4, none⟩ (.int .i64 0) = w8 at HTu HSET y0 y1 y2 y3 y4 ⊢
  clear m0 m1 m2 m3 m4 m5 m6 y0 y1 y2 y3 y4
  have hHP := HP.out.turn HTu.out (by show ¬ r = _; omega) (fun j hj e => by have := HV.out j hj; omega) (own_apart_blk HP.out.rg HR.out (by decide))
  replace HT := Lib.hid (HTs HT.out HTu.out (by omega))
  replace HP := Lib.hid hHP
  clear hHP
  replace HM := Lib.hid (HidB HM.out HTu.out (by omega))
  replace HZ := Lib.hid (HidB HZ.out HTu.out (by omega))
  have HR8 := HSET
  clear HR HTu HSET
  refine (refWrite_any w8 B r kind stock limit seq vl (.slice Ag G.length cg) (L) (G) ((o, d), 2, 0, 0) HP.out (by have := HL.out; omega) (Nat.le_trans hB0 HT.out.size)).mono ?_
  rintro e w9 ⟨rfl, ht9, vl9, hp9, hv9⟩
  replace HT := Lib.hid (HTr HT.out ht9)
  replace HP := Lib.hid hp9
  replace HM := Lib.hid (HidB HM.out ht9 (by omega))
  replace HZ := Lib.hid (HidB HZ.out ht9 (by omega))
  replace HR8 := Lib.hid (HidB HR8.out ht9 (by omega))
  clear ht9 hp9 hv9 HV
  obtain ⟨m0, m1, m2, m3, m4, m5, m6⟩ := cell7 HM.out
  obtain ⟨n0, n1, n2, n3, n4⟩ := cell5 HR8.out
  obtain ⟨z0, z1, z2, z3, z4, z5, z6⟩ := cell7 HZ.out
  obtain ⟨f0, f1, f2, f3, f4, f5, f6⟩ := froz7 HZ.out
  go_wp2_with fail
  have HTu := turned_set7 w9 (w.heap.size + 1) (.int .i64 3) (.int .i64 o) (.int .i64 d) (.string ⟨#[]⟩) (.int .i64 0) (.int .i64 0) (.int .i64 2)
  have HSET := set7 HZ.out (.int .i64 3) (.int .i64 o) (.int .i64 d) (.string ⟨#[]⟩) (.int .i64 0) (.int .i64 0) (.int .i64 2)
  unfold set7w at HSET
  obtain ⟨y0, y1, y2, y3, y4, y5, y6⟩ := cell7 HSET
  refine bodyPost_ret (v := .tuple #[.agg #[.int .i64 3, .int .i64 o, .int .i64 d, .string ⟨#[]⟩, .int .i64 0, .int .i64 0, .int .i64 2], .bool true]) ?_ rfl ⟨?_, ?_⟩
  · clear HTu HSET
    simp [results, Tryd.results14, go_sem, y0, y1, y2, y3, y4, y5, y6]
  · exact rfl
  · have hHP := HP.out.turn HTu (by show ¬ r = _; omega) (own_apart_blk HP.out.rl HZ.out (by decide)) (own_apart_blk HP.out.rg HZ.out (by decide))
    refine ⟨Turned.far (Turned.refl _ w) (HTs HT.out HTu (by omega)), ?_⟩
    have hk := HKD.out
    first
    | exact ⟨_, _, hHP⟩
    | (subst hk; exact ⟨_, _, hHP⟩)
    | (rw [if_pos hk]; exact ⟨_, _, hHP⟩)
    | (rw [if_neg hk]; exact ⟨_, _, hHP⟩)
end Go.Proofs.YtkmpagijdhhinaaDoor

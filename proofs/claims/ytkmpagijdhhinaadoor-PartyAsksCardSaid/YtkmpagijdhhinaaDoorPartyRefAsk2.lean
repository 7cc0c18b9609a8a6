/- The document's party: Ask, where it writes. -/
import Derived.Test.YtkmpagijdhhinaaDoorPartyRefKeep
namespace Go.Proofs.YtkmpagijdhhinaaDoor
open Go.RowKit Go.Maps Key Od Pa

set_option linter.unusedSimpArgs false in
set_option linter.unusedVariables false in
set_option maxRecDepth 100000 in
set_option maxHeartbeats 12000000 in
theorem refAskUndoS (w : World) (B r : Nat) (kind stock limit seq : Int) (vl vg : Value) (L : List R5) (G : List G3) (to o d : Int) (sku : ByteArray) (qty amt cd : Int) (h : RP w B r kind stock limit seq vl vg L G) (hs : sku.size ≤ 1000000000000) (hd : Mon.InR d) (hm : mayB to o d sku.data.toList qty amt cd = true) (ht : to = kind) (hl : L.length < 90000) (hg : G.length < 90000) (hB0 : B ≤ w.heap.size) (hf : findR L (o, d) = none) (hu : undoI d = (d - 3, true)) (y : R5) (hff : findR L (o, d - 3) = some y) :
    Calls Tryd.prog 14 #[.pointer (some ⟨r, 0, none⟩), .agg #[.int .i64 to, .int .i64 o, .int .i64 d, .string sku, .int .i64 qty, .int .i64 amt, .int .i64 cd]] w fun e w' => e = .returned (.tuple #[ansM o d (some 1), .bool true]) ∧ Turned (fun i => i = r) w w' ∧ ∃ vl' vg', RP w' B r kind stock limit seq vl' vg' (insR (L) ((o, d), 1, y.2.2.1, y.2.2.2)) (if kind = 1 then freeG G o else G) := by
  have HV := Lib.hid (fun j hj => (h.rl.lt j hj).2)
  have hb : (to != kind) = false := by rw [ht]; simp
  clear ht
  have HF := Lib.hid hf
  clear hf
  have HU := Lib.hid (fun W => (refUndoes_any d W hd).mono (fun e w' h => (⟨h.1.trans (by rw [hu]), h.2⟩ : e = .returned (.tuple #[.int .i64 (d - 3), .bool true]) ∧ W = w')))
  clear hu
  have hl : L.length < 100000 := by omega
  obtain ⟨D, hD⟩ : ∃ D, d - 3 = D := ⟨_, rfl⟩
  rw [hD] at HU hff
  try rw [hD]
  clear hD
  have HFF := Lib.hid hff
  clear hff
  have HM := Lib.hid (heap_keep (heap_new w (.cells #[.int .i64 to, .int .i64 o, .int .i64 d, .string sku, .int .i64 qty, .int .i64 amt, .int .i64 cd] tMsg)) (below_alloc _ (.cells #[.int .i64 0, .int .i64 0, .int .i64 0, .string ⟨#[]⟩, .int .i64 0, .int .i64 0, .int .i64 0] tMsg)))
  have hz := heap_new (w.alloc (.cells #[.int .i64 to, .int .i64 o, .int .i64 d, .string sku, .int .i64 qty, .int .i64 amt, .int .i64 cd] tMsg)) (.cells #[.int .i64 0, .int .i64 0, .int .i64 0, .string ⟨#[]⟩, .int .i64 0, .int .i64 0, .int .i64 0] tMsg)
  rw [show (w.alloc (.cells #[.int .i64 to, .int .i64 o, .int .i64 d, .string sku, .int .i64 qty, .int .i64 amt, .int .i64 cd] tMsg)).heap.size = w.heap.size + 1 by simp] at hz
  have HZ := Lib.hid hz
  have HB := Lib.hid ((below_alloc w (.cells #[.int .i64 to, .int .i64 o, .int .i64 d, .string sku, .int .i64 qty, .int .i64 amt, .int .i64 cd] tMsg)).alloc (by simp) (.cells #[.int .i64 0, .int .i64 0, .int .i64 0, .string ⟨#[]⟩, .int .i64 0, .int .i64 0, .int .i64 0] tMsg))
  have HP := Lib.hid (h.below HB.out)
  have HH := Lib.hid HP.out.hd
  have HMay := Lib.hid (fun W => (refMay_any W to o d sku qty amt cd hs hd).mono (fun e w' h => (⟨h.1.trans (by rw [hm]), h.2⟩ : e = .returned (.bool true) ∧ Below W.heap.size W w')))
  have hB1 : w.heap.size + 1 < ((w.alloc (.cells #[.int .i64 to, .int .i64 o, .int .i64 d, .string sku, .int .i64 qty, .int .i64 amt, .int .i64 cd] tMsg)).alloc (.cells #[.int .i64 0, .int .i64 0, .int .i64 0, .string ⟨#[]⟩, .int .i64 0, .int .i64 0, .int .i64 0] tMsg)).heap.size := by simp
  have hB2 := heap_lt h.hd
  clear hz h hm
  go_enter Tryd.func14, Tryd.ntmps14
  go_wp2_with fail
  generalize (w.alloc (.cells #[.int .i64 to, .int .i64 o, .int .i64 d, .string sku, .int .i64 qty, .int .i64 amt, .int .i64 cd] tMsg)).alloc (.cells #[.int .i64 0, .int .i64 0, .int .i64 0, .string ⟨#[]⟩, .int .i64 0, .int .i64 0, .int .i64 0] tMsg) = wb at HM HZ HB HP HH hB1 ⊢
  refine wp_region_noPanic ?_
  refine wp_region_held_drew (S := (fun w' => Hid (Below wb.heap.size wb w') ∧ w'.cell? ⟨w.heap.size, 0, none⟩ = some (.int .i64 to) ∧ w'.cell? ⟨w.heap.size, 1, none⟩ = some (.int .i64 o) ∧ w'.cell? ⟨w.heap.size, 2, none⟩ = some (.int .i64 d) ∧ w'.cell? ⟨w.heap.size, 3, none⟩ = some (.string sku) ∧ w'.cell? ⟨w.heap.size, 4, none⟩ = some (.int .i64 qty) ∧ w'.cell? ⟨w.heap.size, 5, none⟩ = some (.int .i64 amt) ∧ w'.cell? ⟨w.heap.size, 6, none⟩ = some (.int .i64 cd) ∧ w'.cell? ⟨r, 0, none⟩ = some (.int .i64 kind))) (by kernel_rfl) ⟨(below_drew1 (Below.refl _ wb)), cell_at ((((below_drew1 (Below.refl _ wb))).block _ (heap_lt HM.out)).trans HM.out) 0 rfl, cell_at ((((below_drew1 (Below.refl _ wb))).block _ (heap_lt HM.out)).trans HM.out) 1 rfl, cell_at ((((below_drew1 (Below.refl _ wb))).block _ (heap_lt HM.out)).trans HM.out) 2 rfl, cell_at ((((below_drew1 (Below.refl _ wb))).block _ (heap_lt HM.out)).trans HM.out) 3 rfl, cell_at ((((below_drew1 (Below.refl _ wb))).block _ (heap_lt HM.out)).trans HM.out) 4 rfl, cell_at ((((below_drew1 (Below.refl _ wb))).block _ (heap_lt HM.out)).trans HM.out) 5 rfl, cell_at ((((below_drew1 (Below.refl _ wb))).block _ (heap_lt HM.out)).trans HM.out) 6 rfl, cell_at ((((below_drew1 (Below.refl _ wb))).block _ (heap_lt HH.out)).trans HH.out) 0 rfl⟩ (fun hHeld => ?_)
  refine wpAnyH_take (i := 0) (v := ?vr0) rfl (by kernel_rfl) (by kernel_rfl) (by kernel_rfl) (fun _ _ _ h => h) (Or.inl ⟨by rfl, ?hyr0⟩) (by assumption) ?restr0
  case hyr0 => (intro w0 hSw; (try dsimp only at hSw); go_simp; try with_reducible rfl)
  case' restr0 => try simp only [Act.put, List.getElem_toArray, List.getElem_cons_zero, List.getElem_cons_succ, List.setIfInBounds_toArray, List.set_cons_zero, List.set_cons_succ]
  refine wpAnyH_ready (rs := [1]) (by kernel_rfl) (by simp) ?_
  refine AllReadyH.cons rfl (fun K hK => ?_) AllReadyH.nil
  go_simp
  refine (HMay.out _).mono ?_; rintro e w1 ⟨rfl, hb⟩
  have hbk := bch (Hid.out (And.left (by assumption))) hb (Below.size (Hid.out (And.left (by assumption))))
  refine hK.out _ _ ⟨hbk, cell_at (((hbk).block _ (heap_lt HM.out)).trans HM.out) 0 rfl, cell_at (((hbk).block _ (heap_lt HM.out)).trans HM.out) 1 rfl, cell_at (((hbk).block _ (heap_lt HM.out)).trans HM.out) 2 rfl, cell_at (((hbk).block _ (heap_lt HM.out)).trans HM.out) 3 rfl, cell_at (((hbk).block _ (heap_lt HM.out)).trans HM.out) 4 rfl, cell_at (((hbk).block _ (heap_lt HM.out)).trans HM.out) 5 rfl, cell_at (((hbk).block _ (heap_lt HM.out)).trans HM.out) 6 rfl, cell_at (((hbk).block _ (heap_lt HH.out)).trans HH.out) 0 rfl⟩ (fun hHeld => ?_)
  clear hK K hb hbk
  try simp only [Act.put, List.getElem_toArray, List.getElem_cons_zero, List.getElem_cons_succ, List.setIfInBounds_toArray, List.set_cons_zero, List.set_cons_succ]
  refine wpAnyH_take (i := 2) (v := ?vr2) rfl (by kernel_rfl) (by kernel_rfl) (by kernel_rfl) (fun _ _ _ h => h) (Or.inl ⟨by rfl, ?hyr2⟩) (by assumption) ?restr2
  case hyr2 => (intro w0 hSw; (try dsimp only at hSw); go_simp; try with_reducible rfl)
  case' restr2 => try simp only [Act.put, List.getElem_toArray, List.getElem_cons_zero, List.getElem_cons_succ, List.setIfInBounds_toArray, List.set_cons_zero, List.set_cons_succ]
  refine wpAnyH_take (i := 3) (v := ?vr3) rfl (by kernel_rfl) (by kernel_rfl) (by kernel_rfl) (fun _ _ _ h => h) (Or.inl ⟨by rfl, ?hyr3⟩) (by assumption) ?restr3
  case hyr3 => (intro w0 hSw; (try dsimp only at hSw); go_simp; try with_reducible rfl)
  case' restr3 => try simp only [Act.put, List.getElem_toArray, List.getElem_cons_zero, List.getElem_cons_succ, List.setIfInBounds_toArray, List.set_cons_zero, List.set_cons_succ]
  refine wpAnyH_take (i := 4) (v := ?vr4) rfl (by kernel_rfl) (by kernel_rfl) (by kernel_rfl) (fun _ _ _ h => h) (Or.inl ⟨by rfl, ?hyr4⟩) (by assumption) ?restr4
  case hyr4 => (intro w0 hSw; (try dsimp only at hSw); go_simp; try with_reducible rfl)
  case' restr4 => try simp only [Act.put, List.getElem_toArray, List.getElem_cons_zero, List.getElem_cons_succ, List.setIfInBounds_toArray, List.set_cons_zero, List.set_cons_succ]
  refine wpAnyH_take (i := 5) (v := ?vr5) rfl (by kernel_rfl) (by kernel_rfl) (by kernel_rfl) (fun _ _ _ h => h) (Or.inl ⟨by rfl, ?hyr5⟩) (by assumption) ?restr5
  case hyr5 => (intro w0 hSw; (try dsimp only at hSw); go_simp; try with_reducible rfl)
  case' restr5 => try simp only [Act.put, List.getElem_toArray, List.getElem_cons_zero, List.getElem_cons_succ, List.setIfInBounds_toArray, List.set_cons_zero, List.set_cons_succ]
  refine wpAnyH_take (i := 6) (v := ?vr6) rfl (by kernel_rfl) (by kernel_rfl) (by kernel_rfl) (fun _ _ _ h => h) (Or.inl ⟨by rfl, ?hyr6⟩) (by assumption) ?restr6
  case hyr6 => (intro w0 hSw; (try dsimp only at hSw); go_simp; try with_reducible rfl)
  case' restr6 => try simp only [Act.put, List.getElem_toArray, List.getElem_cons_zero, List.getElem_cons_succ, List.setIfInBounds_toArray, List.set_cons_zero, List.set_cons_succ]
  refine wpAnyH_take (i := 7) (v := ?vr7) rfl (by kernel_rfl) (by kernel_rfl) (by kernel_rfl) (fun _ _ _ h => h) (Or.inl ⟨by rfl, ?hyr7⟩) (by assumption) ?restr7
  case hyr7 => (intro w0 hSw; (try dsimp only at hSw); go_simp; try with_reducible rfl)
  case' restr7 => try simp only [Act.put, List.getElem_toArray, List.getElem_cons_zero, List.getElem_cons_succ, List.setIfInBounds_toArray, List.set_cons_zero, List.set_cons_succ]
  refine wpAnyH_take (i := 8) (v := ?vr8) rfl (by kernel_rfl) (by kernel_rfl) (by kernel_rfl) (fun _ _ _ h => h) (Or.inl ⟨by rfl, ?hyr8⟩) (by assumption) ?restr8
  case hyr8 => (intro w0 hSw; (try dsimp only at hSw); go_simp; try with_reducible rfl)
  case' restr8 => try simp only [Act.put, List.getElem_toArray, List.getElem_cons_zero, List.getElem_cons_succ, List.setIfInBounds_toArray, List.set_cons_zero, List.set_cons_succ]
  refine wpAnyH_take (i := 9) (v := ?vr9) rfl (by kernel_rfl) (by kernel_rfl) (by kernel_rfl) (fun _ _ _ h => h) (Or.inl ⟨by rfl, ?hyr9⟩) (by assumption) ?restr9
  case hyr9 => (intro w0 hSw; (try dsimp only at hSw); go_simp; try with_reducible rfl)
  case' restr9 => try simp only [Act.put, List.getElem_toArray, List.getElem_cons_zero, List.getElem_cons_succ, List.setIfInBounds_toArray, List.set_cons_zero, List.set_cons_succ]
  refine wpAnyH_take (i := 10) (v := ?vr10) rfl (by kernel_rfl) (by kernel_rfl) (by kernel_rfl) (fun _ _ _ h => h) (Or.inl ⟨by rfl, ?hyr10⟩) (by assumption) ?restr10
  case hyr10 => (intro w0 hSw; (try dsimp only at hSw); go_simp; try with_reducible rfl)
  case' restr10 => try simp only [Act.put, List.getElem_toArray, List.getElem_cons_zero, List.getElem_cons_succ, List.setIfInBounds_toArray, List.set_cons_zero, List.set_cons_succ]
  refine wpAnyH_take (i := 11) (v := ?vr11) rfl (by kernel_rfl) (by kernel_rfl) (by kernel_rfl) (fun _ _ _ h => h) (Or.inl ⟨by rfl, ?hyr11⟩) (by assumption) ?restr11
  case hyr11 => (intro w0 hSw; (try dsimp only at hSw); go_simp; try with_reducible rfl)
  case' restr11 => try simp only [Act.put, List.getElem_toArray, List.getElem_cons_zero, List.getElem_cons_succ, List.setIfInBounds_toArray, List.set_cons_zero, List.set_cons_succ]
  refine wpAnyH_done (by kernel_rfl) ?_ _
  refine NoPanic.normal ?_
  have HX := Lib.hid (show Below wb.heap.size wb w1 from Hid.out hHeld.1)
  clear hHeld
  have HM1 := Lib.hid (heap_keep HM.out HX.out)
  have HZ1 := Lib.hid (heap_keep HZ.out HX.out)
  have HP1 := Lib.hid (HP.out.below HX.out)
  have HB1 := Lib.hid (bch HB.out HX.out HB.out.size)
  have hB3 : w.heap.size + 1 < w1.heap.size := heap_lt HZ1.out
  clear HM HZ HP HB HX HMay HH hB1
  have HM := HM1
  have HZ := HZ1
  have HP := HP1
  have HB := HB1
  clear HM1 HZ1 HP1 HB1
  obtain ⟨m0, m1, m2, m3, m4, m5, m6⟩ := cell7 HM.out
  go_wp2_with fail
  refine (refFind_any w1 B r kind stock limit seq vl vg L G o d HP.out hl).mono ?_
  rintro e w2 ⟨rfl, hb2⟩
  rw [HF.out]
  unfold foundV
  have hs2 := hb2.size
  have hbc : Below w1.heap.size w1 (w2.alloc (.cells #[.int .i64 0, .int .i64 0, .int .i64 0, .int .i64 0, .int .i64 0] tRow)) := Below.alloc hb2 hb2.size (.cells #[.int .i64 0, .int .i64 0, .int .i64 0, .int .i64 0, .int .i64 0] tRow)
  replace HB := Lib.hid (bch HB.out hbc HB.out.size)
  replace HP := Lib.hid (HP.out.below hbc)
  replace HM := Lib.hid (heap_keep HM.out hbc)
  replace HZ := Lib.hid (heap_keep HZ.out hbc)
  have HR := Lib.hid (heap_new w2 (.cells #[.int .i64 0, .int .i64 0, .int .i64 0, .int .i64 0, .int .i64 0] tRow))
  clear m0 m1 m2 m3 m4 m5 m6 hb2 hbc
  obtain ⟨m0, m1, m2, m3, m4, m5, m6⟩ := cell7 HM.out
  go_wp2_with fail
  generalize w2.alloc (.cells #[.int .i64 0, .int .i64 0, .int .i64 0, .int .i64 0, .int .i64 0] tRow) = wc at HM HZ HP HB HR m0 m1 m2 m3 m4 m5 m6 ⊢
  refine (HU.out wc).mono ?_
  rintro e w3 ⟨rfl, hw⟩; subst hw
  have hsc : w2.heap.size < wc.heap.size := heap_lt HR.out
  have hbc : Below wc.heap.size wc (wc.alloc (.cells #[.int .i64 o, .int .i64 D] tKey)) := below_alloc _ _
  replace HB := Lib.hid (bch HB.out hbc HB.out.size)
  replace HP := Lib.hid (HP.out.below hbc)
  replace HM := Lib.hid (heap_keep HM.out hbc)
  replace HZ := Lib.hid (heap_keep HZ.out hbc)
  replace HR := Lib.hid (heap_keep HR.out hbc)
  have HK := Lib.hid (heap_new wc (.cells #[.int .i64 o, .int .i64 D] tKey))
  clear hbc
  have hkc : (wc.alloc (.cells #[.int .i64 o, .int .i64 D] tKey)).cell? ⟨wc.heap.size, 0, none⟩ = some (.int .i64 o) ∧ (wc.alloc (.cells #[.int .i64 o, .int .i64 D] tKey)).cell? ⟨wc.heap.size, 1, none⟩ = some (.int .i64 D) := ⟨cell_at HK.out 0 rfl, cell_at HK.out 1 rfl⟩
  obtain ⟨k0, k1⟩ := hkc
  go_wp2_with fail
  generalize wc.alloc (.cells #[.int .i64 o, .int .i64 D] tKey) = wd at HM HZ HP HB HR HK k0 k1 ⊢
  refine (refFind_any wd B r kind stock limit seq vl vg L G o D HP.out hl).mono ?_
  rintro e w5 ⟨rfl, hb5⟩
  rw [HFF.out]
  unfold foundV
  clear m0 m1 m2 m3 m4 m5 m6 k0 k1
  have hsd : wc.heap.size < wd.heap.size := heap_lt HK.out
  have hs5 := hb5.size
  clear HU HF HFF
  have HT : Hid (Turned (fun i => i = r ∨ w.heap.size ≤ i) w wd) := Lib.hid (HTb (Turned.refl _ w) HB.out)
  clear HB
  have HL := Lib.hid (show L.length < 100000 by omega)
  replace HT := Lib.hid (HTb HT.out hb5)
  replace HP := Lib.hid (HP.out.below hb5)
  replace HM := Lib.hid (heap_keep HM.out hb5)
  replace HZ := Lib.hid (heap_keep HZ.out hb5)
  replace HR := Lib.hid (heap_keep HR.out hb5)
  replace HK := Lib.hid (heap_keep HK.out hb5)
  clear hb5
  by_cases hk : kind = 1
  · have hkb : (kind == 1) = true := by rw [hk]; rfl
    have HKD := Lib.hid hk
    clear hk
    have hbe := below_alloc w5 (.cells #[.int .i64 y.1.1, .int .i64 y.1.2, .int .i64 y.2.1, .int .i64 y.2.2.1, .int .i64 y.2.2.2] tRow)
    replace HT := Lib.hid (HTb HT.out hbe)
    replace HP := Lib.hid (HP.out.below hbe)
    replace HM := Lib.hid (heap_keep HM.out hbe)
    replace HZ := Lib.hid (heap_keep HZ.out hbe)
    replace HR := Lib.hid (heap_keep HR.out hbe)
    replace HK := Lib.hid (heap_keep HK.out hbe)
    clear hbe
    have HQ := Lib.hid (heap_new w5 (.cells #[.int .i64 y.1.1, .int .i64 y.1.2, .int .i64 y.2.1, .int .i64 y.2.2.1, .int .i64 y.2.2.2] tRow))
    obtain ⟨p0, p1, p2, p3, p4, p5⟩ := cell6 HP.out.hd
    obtain ⟨q0, q1, q2, q3, q4⟩ := cell5 HQ.out
    obtain ⟨k0, k1, _, _⟩ := cell2 HK.out
    obtain ⟨m0, m1, m2, m3, m4, m5, m6⟩ := cell7 HM.out
    go_wp2_with fail
    generalize w5.alloc (.cells #[.int .i64 y.1.1, .int .i64 y.1.2, .int .i64 y.2.1, .int .i64 y.2.2.1, .int .i64 y.2.2.2] tRow) = wy at HT HP HM HZ HR HK HQ p0 p1 p2 p3 p4 p5 q0 q1 q2 q3 q4 k0 k1 m0 m1 m2 m3 m4 m5 m6 ⊢
    have hsr : w2.heap.size < wy.heap.size := heap_lt HR.out
    have hsq : w5.heap.size < wy.heap.size := heap_lt HQ.out
    refine (refFree_any wy B r kind stock limit seq vl vg L G o HP.out (by omega) (Nat.le_trans hB0 HT.out.size)).mono ?_
    rintro e w7 ⟨rfl, ht7, vg7, hp7⟩
    clear k0 k1 p0 p1 p2 p3 p4 p5 q0 q1 q2 q3 q4 m0 m1 m2 m3 m4 m5 m6 HK
    replace HT := Lib.hid (HTr HT.out ht7)
    replace HP := Lib.hid hp7
    replace HM := Lib.hid (HidB HM.out ht7 (by omega))
    replace HZ := Lib.hid (HidB HZ.out ht7 (by omega))
    replace HR := Lib.hid (HidB HR.out ht7 (by omega))
    replace HQ := Lib.hid (HidB HQ.out ht7 (by omega))
    clear ht7 hp7 hkb
    obtain ⟨m0, m1, m2, m3, m4, m5, m6⟩ := cell7 HM.out
    obtain ⟨q0, q1, q2, q3, q4⟩ := cell5 HQ.out
    obtain ⟨n0, n1, n2, n3, n4⟩ := cell5 HR.out
    obtain ⟨f0, f1, f2, f3, f4⟩ := froz5 HR.out
    have HTu := turned_set5 w7 w2.heap.size (.int .i64 o) (.int .i64 d) (.int .i64 1) (.int .i64 y.2.2.1) (.int .i64 y.2.2.2)
    have HSET := set5c HR.out (.int .i64 o) (.int .i64 d) (.int .i64 1) (.int .i64 y.2.2.1) (.int .i64 y.2.2.2)
    unfold set5w at HSET
    obtain ⟨y0, y1, y2, y3, y4⟩ := cell5 HSET
    have HTu := Lib.hid HTu
    have HSET := Lib.hid HSET
    go_wp2_with fail
    generalize ((((w7.setCell ⟨w2.heap.size, 0, none⟩ (.int .i64 o)).setCell ⟨w2.heap.size, 1, none⟩ (.int .i64 d)).setCell ⟨w2.heap.size, 2, none⟩ (.int .i64 1)).setCell ⟨w2.heap.size, 3, none⟩ (.int .i64 y.2.2.1)).setCell ⟨w2.heap.size, 4, none⟩ (.int .i64 y.2.2.2) = w8 at HTu HSET y0 y1 y2 y3 y4 ⊢
    clear m0 m1 m2 m3 m4 m5 m6 y0 y1 y2 y3 y4
    have hHP := HP.out.turn HTu.out (by show ¬ r = _; omega) (fun j hj e => by have := HV.out j hj; omega) (own_apart_blk HP.out.rg HR.out (by decide))
    replace HT := Lib.hid (HTs HT.out HTu.out (by omega))
    replace HP := Lib.hid hHP
    clear hHP
    replace HM := Lib.hid (HidB HM.out HTu.out (by omega))
    replace HZ := Lib.hid (HidB HZ.out HTu.out (by omega))
    have HR8 := HSET
    clear HR HTu HSET
    refine (refWrite_any w8 B r kind stock limit seq vl vg7 (L) (freeG G o) ((o, d), 1, y.2.2.1, y.2.2.2) HP.out (by have := HL.out; omega) (Nat.le_trans hB0 HT.out.size)).mono ?_
    rintro e w9 ⟨rfl, ht9, vl9, hp9, hv9⟩
    replace HT := Lib.hid (HTr HT.out ht9)
    replace HP := Lib.hid hp9
    replace HM := Lib.hid (HidB HM.out ht9 (by omega))
    replace HZ := Lib.hid (HidB HZ.out ht9 (by omega))
    replace HR8 := Lib.hid (HidB HR8.out ht9 (by omega))
    clear ht9 hp9 hv9 HV
    obtain ⟨m0, m1, m2, m3, m4, m5, m6⟩ := cell7 HM.out
    obtain ⟨n0, n1, n2, n3, n4⟩ := cell5 HR8.out
    obtain ⟨z0, z1, z2, z3, z4, z5, z6⟩ := cell7 HZ.out
    obtain ⟨f0, f1, f2, f3, f4, f5, f6⟩ := froz7 HZ.out
    go_wp2_with fail
    have HTu := turned_set7 w9 (w.heap.size + 1) (.int .i64 3) (.int .i64 o) (.int .i64 d) (.string ⟨#[]⟩) (.int .i64 0) (.int .i64 0) (.int .i64 1)
    have HSET := set7 HZ.out (.int .i64 3) (.int .i64 o) (.int .i64 d) (.string ⟨#[]⟩) (.int .i64 0) (.int .i64 0) (.int .i64 1)
    unfold set7w at HSET
    obtain ⟨y0, y1, y2, y3, y4, y5, y6⟩ := cell7 HSET
    refine bodyPost_ret (v := .tuple #[.agg #[.int .i64 3, .int .i64 o, .int .i64 d, .string ⟨#[]⟩, .int .i64 0, .int .i64 0, .int .i64 1], .bool true]) ?_ rfl ⟨?_, ?_⟩
    · clear HTu HSET
      simp [results, Tryd.results14, go_sem, y0, y1, y2, y3, y4, y5, y6]
    · exact rfl
    · have hHP := HP.out.turn HTu (by show ¬ r = _; omega) (own_apart_blk HP.out.rl HZ.out (by decide)) (own_apart_blk HP.out.rg HZ.out (by decide))
      refine ⟨Turned.far (Turned.refl _ w) (HTs HT.out HTu (by omega)), ?_⟩
      have hk := HKD.out
      first
      | exact ⟨_, _, hHP⟩
      | (subst hk; exact ⟨_, _, hHP⟩)
      | (rw [if_pos hk]; exact ⟨_, _, hHP⟩)
      | (rw [if_neg hk]; exact ⟨_, _, hHP⟩)
  · have hkb : (kind == 1) = false := beqF hk
    have HKD := Lib.hid hk
    clear hk
    have hbe := below_alloc w5 (.cells #[.int .i64 y.1.1, .int .i64 y.1.2, .int .i64 y.2.1, .int .i64 y.2.2.1, .int .i64 y.2.2.2] tRow)
    replace HT := Lib.hid (HTb HT.out hbe)
    replace HP := Lib.hid (HP.out.below hbe)
    replace HM := Lib.hid (heap_keep HM.out hbe)
    replace HZ := Lib.hid (heap_keep HZ.out hbe)
    replace HR := Lib.hid (heap_keep HR.out hbe)
    replace HK := Lib.hid (heap_keep HK.out hbe)
    clear hbe
    have HQ := Lib.hid (heap_new w5 (.cells #[.int .i64 y.1.1, .int .i64 y.1.2, .int .i64 y.2.1, .int .i64 y.2.2.1, .int .i64 y.2.2.2] tRow))
    obtain ⟨p0, p1, p2, p3, p4, p5⟩ := cell6 HP.out.hd
    obtain ⟨k0, k1, _, _⟩ := cell2 HK.out
    obtain ⟨m0, m1, m2, m3, m4, m5, m6⟩ := cell7 HM.out
    obtain ⟨q0, q1, q2, q3, q4⟩ := cell5 HQ.out
    obtain ⟨n0, n1, n2, n3, n4⟩ := cell5 HR.out
    obtain ⟨f0, f1, f2, f3, f4⟩ := froz5 HR.out
    have HTu := turned_set5 (w5.alloc (.cells #[.int .i64 y.1.1, .int .i64 y.1.2, .int .i64 y.2.1, .int .i64 y.2.2.1, .int .i64 y.2.2.2] tRow)) w2.heap.size (.int .i64 o) (.int .i64 d) (.int .i64 1) (.int .i64 y.2.2.1) (.int .i64 y.2.2.2)
    have HSET := set5c HR.out (.int .i64 o) (.int .i64 d) (.int .i64 1) (.int .i64 y.2.2.1) (.int .i64 y.2.2.2)
    unfold set5w at HSET
    obtain ⟨y0, y1, y2, y3, y4⟩ := cell5 HSET
    have HTu := Lib.hid HTu
    have HSET := Lib.hid HSET
    go_wp2_with fail
    generalize (((((w5.alloc (.cells #[.int .i64 y.1.1, .int .i64 y.1.2, .int .i64 y.2.1, .int .i64 y.2.2.1, .int .i64 y.2.2.2] tRow)).setCell ⟨w2.heap.size, 0, none⟩ (.int .i64 o)).setCell ⟨w2.heap.size, 1, none⟩ (.int .i64 d)).setCell ⟨w2.heap.size, 2, none⟩ (.int .i64 1)).setCell ⟨w2.heap.size, 3, none⟩ (.int .i64 y.2.2.1)).setCell ⟨w2.heap.size, 4, none⟩ (.int .i64 y.2.2.2) = w8 at HTu HSET y0 y1 y2 y3 y4 ⊢
    clear m0 m1 m2 m3 m4 m5 m6 y0 y1 y2 y3 y4
    have hHP := HP.out.turn HTu.out (by show ¬ r = _; omega) (fun j hj e => by have := HV.out j hj; omega) (own_apart_blk HP.out.rg HR.out (by decide))
    replace HT := Lib.hid (HTs HT.out HTu.out (by omega))
    replace HP := Lib.hid hHP
    clear hHP
    replace HM := Lib.hid (HidB HM.out HTu.out (by omega))
    replace HZ := Lib.hid (HidB HZ.out HTu.out (by omega))
    have HR8 := HSET
    clear HR HTu HSET
    refine (refWrite_any w8 B r kind stock limit seq vl vg (L) (G) ((o, d), 1, y.2.2.1, y.2.2.2) HP.out (by have := HL.out; omega) (Nat.le_trans hB0 HT.out.size)).mono ?_
    rintro e w9 ⟨rfl, ht9, vl9, hp9, hv9⟩
    replace HT := Lib.hid (HTr HT.out ht9)
    replace HP := Lib.hid hp9
    replace HM := Lib.hid (HidB HM.out ht9 (by omega))
    replace HZ := Lib.hid (HidB HZ.out ht9 (by omega))
    replace HR8 := Lib.hid (HidB HR8.out ht9 (by omega))
    clear ht9 hp9 hv9 HV
    obtain ⟨m0, m1, m2, m3, m4, m5, m6⟩ := cell7 HM.out
    obtain ⟨n0, n1, n2, n3, n4⟩ := cell5 HR8.out
    obtain ⟨z0, z1, z2, z3, z4, z5, z6⟩ := cell7 HZ.out
    obtain ⟨f0, f1, f2, f3, f4, f5, f6⟩ := froz7 HZ.out
    go_wp2_with fail
    have HTu := turned_set7 w9 (w.heap.size + 1) (.int .i64 3) (.int .i64 o) (.int .i64 d) (.string ⟨#[]⟩) (.int .i64 0) (.int .i64 0) (.int .i64 1)
    have HSET := set7 HZ.out (.int .i64 3) (.int .i64 o) (.int .i64 d) (.string ⟨#[]⟩) (.int .i64 0) (.int .i64 0) (.int .i64 1)
    unfold set7w at HSET
    obtain ⟨y0, y1, y2, y3, y4, y5, y6⟩ := cell7 HSET
    refine bodyPost_ret (v := .tuple #[.agg #[.int .i64 3, .int .i64 o, .int .i64 d, .string ⟨#[]⟩, .int .i64 0, .int .i64 0, .int .i64 1], .bool true]) ?_ rfl ⟨?_, ?_⟩
    · clear HTu HSET
      simp [results, Tryd.results14, go_sem, y0, y1, y2, y3, y4, y5, y6]
    · exact rfl
    · have hHP := HP.out.turn HTu (by show ¬ r = _; omega) (own_apart_blk HP.out.rl HZ.out (by decide)) (own_apart_blk HP.out.rg HZ.out (by decide))
      refine ⟨Turned.far (Turned.refl _ w) (HTs HT.out HTu (by omega)), ?_⟩
      have hk := HKD.out
      first
      | exact ⟨_, _, hHP⟩
      | (subst hk; exact ⟨_, _, hHP⟩)
      | (rw [if_pos hk]; exact ⟨_, _, hHP⟩)
      | (rw [if_neg hk]; exact ⟨_, _, hHP⟩)
set_option linter.unusedSimpArgs false in
set_option linter.unusedVariables false in
set_option maxRecDepth 100000 in
set_option maxHeartbeats 12000000 in
theorem refAskUndoN (w : World) (B r : Nat) (kind stock limit seq : Int) (vl vg : Value) (L : List R5) (G : List G3) (to o d : Int) (sku : ByteArray) (qty amt cd : Int) (h : RP w B r kind stock limit seq vl vg L G) (hs : sku.size ≤ 1000000000000) (hd : Mon.InR d) (hm : mayB to o d sku.data.toList qty amt cd = true) (ht : to = kind) (hl : L.length < 90000) (hg : G.length < 90000) (hB0 : B ≤ w.heap.size) (hf : findR L (o, d) = none) (hu : undoI d = (d - 3, true)) (hff : findR L (o, d - 3) = none) :
    Calls Tryd.prog 14 #[.pointer (some ⟨r, 0, none⟩), .agg #[.int .i64 to, .int .i64 o, .int .i64 d, .string sku, .int .i64 qty, .int .i64 amt, .int .i64 cd]] w fun e w' => e = .returned (.tuple #[ansM o d (some 1), .bool true]) ∧ Turned (fun i => i = r) w w' ∧ ∃ vl' vg', RP w' B r kind stock limit seq vl' vg' (insR (insR L ((o, d - 3), 2, 0, 0)) ((o, d), 1, 0, 0)) (if kind = 1 then freeG G o else G) := by
  have HV := Lib.hid (fun j hj => (h.rl.lt j hj).2)
  have hb : (to != kind) = false := by rw [ht]; simp
  clear ht
  have HF := Lib.hid hf
  clear hf
  have HU := Lib.hid (fun W => (refUndoes_any d W hd).mono (fun e w' h => (⟨h.1.trans (by rw [hu]), h.2⟩ : e = .returned (.tuple #[.int .i64 (d - 3), .bool true]) ∧ W = w')))
  clear hu
  have hl : L.length < 100000 := by omega
  obtain ⟨D, hD⟩ : ∃ D, d - 3 = D := ⟨_, rfl⟩
  rw [hD] at HU hff
  try rw [hD]
  clear hD
  have HFF := Lib.hid hff
  clear hff
  have HM := Lib.hid (heap_keep (heap_new w (.cells #[.int .i64 to, .int .i64 o, .int .i64 d, .string sku, .int .i64 qty, .int .i64 amt, .int .i64 cd] tMsg)) (below_alloc _ (.cells #[.int .i64 0, .int .i64 0, .int .i64 0, .string ⟨#[]⟩, .int .i64 0, .int .i64 0, .int .i64 0] tMsg)))
  have hz := heap_new (w.alloc (.cells #[.int .i64 to, .int .i64 o, .int .i64 d, .string sku, .int .i64 qty, .int .i64 amt, .int .i64 cd] tMsg)) (.cells #[.int .i64 0, .int .i64 0, .int .i64 0, .string ⟨#[]⟩, .int .i64 0, .int .i64 0, .int .i64 0] tMsg)
  rw [show (w.alloc (.cells #[.int .i64 to, .int .i64 o, .int .i64 d, .string sku, .int .i64 qty, .int .i64 amt, .int .i64 cd] tMsg)).heap.size = w.heap.size + 1 by simp] at hz
  have HZ := Lib.hid hz
  have HB := Lib.hid ((below_alloc w (.cells #[.int .i64 to, .int .i64 o, .int .i64 d, .string sku, .int .i64 qty, .int .i64 amt, .int .i64 cd] tMsg)).alloc (by simp) (.cells #[.int .i64 0, .int .i64 0, .int .i64 0, .string ⟨#[]⟩, .int .i64 0, .int .i64 0, .int .i64 0] tMsg))
  have HP := Lib.hid (h.below HB.out)
  have HH := Lib.hid HP.out.hd
  have HMay := Lib.hid (fun W => (refMay_any W to o d sku qty amt cd hs hd).mono (fun e w' h => (⟨h.1.trans (by rw [hm]), h.2⟩ : e = .returned (.bool true) ∧ Below W.heap.size W w')))
  have hB1 : w.heap.size + 1 < ((w.alloc (.cells #[.int .i64 to, .int .i64 o, .int .i64 d, .string sku, .int .i64 qty, .int .i64 amt, .int .i64 cd] tMsg)).alloc (.cells #[.int .i64 0, .int .i64 0, .int .i64 0, .string ⟨#[]⟩, .int .i64 0, .int .i64 0, .int .i64 0] tMsg)).heap.size := by simp
  have hB2 := heap_lt h.hd
  clear hz h hm
  go_enter Tryd.func14, Tryd.ntmps14
  go_wp2_with fail
  generalize (w.alloc (.cells #[.int .i64 to, .int .i64 o, .int .i64 d, .string sku, .int .i64 qty, .int .i64 amt, .int .i64 cd] tMsg)).alloc (.cells #[.int .i64 0, .int .i64 0, .int .i64 0, .string ⟨#[]⟩, .int .i64 0, .int .i64 0, .int .i64 0] tMsg) = wb at HM HZ HB HP HH hB1 ⊢
  refine wp_region_noPanic ?_
  refine wp_region_held_drew (S := (fun w' => Hid (Below wb.heap.size wb w') ∧ w'.cell? ⟨w.heap.size, 0, none⟩ = some (.int .i64 to) ∧ w'.cell? ⟨w.heap.size, 1, none⟩ = some (.int .i64 o) ∧ w'.cell? ⟨w.heap.size, 2, none⟩ = some (.int .i64 d) ∧ w'.cell? ⟨w.heap.size, 3, none⟩ = some (.string sku) ∧ w'.cell? ⟨w.heap.size, 4, none⟩ = some (.int .i64 qty) ∧ w'.cell? ⟨w.heap.size, 5, none⟩ = some (.int .i64 amt) ∧ w'.cell? ⟨w.heap.size, 6, none⟩ = some (.int .i64 cd) ∧ w'.cell? ⟨r, 0, none⟩ = some (.int .i64 kind))) (by kernel_rfl) ⟨(below_drew1 (Below.refl _ wb)), cell_at ((((below_drew1 (Below.refl _ wb))).block _ (heap_lt HM.out)).trans HM.out) 0 rfl, cell_at ((((below_drew1 (Below.refl _ wb))).block _ (heap_lt HM.out)).trans HM.out) 1 rfl, cell_at ((((below_drew1 (Below.refl _ wb))).block _ (heap_lt HM.out)).trans HM.out) 2 rfl, cell_at ((((below_drew1 (Below.refl _ wb))).block _ (heap_lt HM.out)).trans HM.out) 3 rfl, cell_at ((((below_drew1 (Below.refl _ wb))).block _ (heap_lt HM.out)).trans HM.out) 4 rfl, cell_at ((((below_drew1 (Below.refl _ wb))).block _ (heap_lt HM.out)).trans HM.out) 5 rfl, cell_at ((((below_drew1 (Below.refl _ wb))).block _ (heap_lt HM.out)).trans HM.out) 6 rfl, cell_at ((((below_drew1 (Below.refl _ wb))).block _ (heap_lt HH.out)).trans HH.out) 0 rfl⟩ (fun hHeld => ?_)
  refine wpAnyH_take (i := 0) (v := ?vr0) rfl (by kernel_rfl) (by kernel_rfl) (by kernel_rfl) (fun _ _ _ h => h) (Or.inl ⟨by rfl, ?hyr0⟩) (by assumption) ?restr0
  case hyr0 => (intro w0 hSw; (try dsimp only at hSw); go_simp; try with_reducible rfl)
  case' restr0 => try simp only [Act.put, List.getElem_toArray, List.getElem_cons_zero, List.getElem_cons_succ, List.setIfInBounds_toArray, List.set_cons_zero, List.set_cons_succ]
  refine wpAnyH_ready (rs := [1]) (by kernel_rfl) (by simp) ?_
  refine AllReadyH.cons rfl (fun K hK => ?_) AllReadyH.nil
  go_simp
  refine (HMay.out _).mono ?_; rintro e w1 ⟨rfl, hb⟩
  have hbk := bch (Hid.out (And.left (by assumption))) hb (Below.size (Hid.out (And.left (by assumption))))
  refine hK.out _ _ ⟨hbk, cell_at (((hbk).block _ (heap_lt HM.out)).trans HM.out) 0 rfl, cell_at (((hbk).block _ (heap_lt HM.out)).trans HM.out) 1 rfl, cell_at (((hbk).block _ (heap_lt HM.out)).trans HM.out) 2 rfl, cell_at (((hbk).block _ (heap_lt HM.out)).trans HM.out) 3 rfl, cell_at (((hbk).block _ (heap_lt HM.out)).trans HM.out) 4 rfl, cell_at (((hbk).block _ (heap_lt HM.out)).trans HM.out) 5 rfl, cell_at (((hbk).block _ (heap_lt HM.out)).trans HM.out) 6 rfl, cell_at (((hbk).block _ (heap_lt HH.out)).trans HH.out) 0 rfl⟩ (fun hHeld => ?_)
  clear hK K hb hbk
  try simp only [Act.put, List.getElem_toArray, List.getElem_cons_zero, List.getElem_cons_succ, List.setIfInBounds_toArray, List.set_cons_zero, List.set_cons_succ]
  refine wpAnyH_take (i := 2) (v := ?vr2) rfl (by kernel_rfl) (by kernel_rfl) (by kernel_rfl) (fun _ _ _ h => h) (Or.inl ⟨by rfl, ?hyr2⟩) (by assumption) ?restr2
  case hyr2 => (intro w0 hSw; (try dsimp only at hSw); go_simp; try with_reducible rfl)
  case' restr2 => try simp only [Act.put, List.getElem_toArray, List.getElem_cons_zero, List.getElem_cons_succ, List.setIfInBounds_toArray, List.set_cons_zero, List.set_cons_succ]
  refine wpAnyH_take (i := 3) (v := ?vr3) rfl (by kernel_rfl) (by kernel_rfl) (by kernel_rfl) (fun _ _ _ h => h) (Or.inl ⟨by rfl, ?hyr3⟩) (by assumption) ?restr3
  case hyr3 => (intro w0 hSw; (try dsimp only at hSw); go_simp; try with_reducible rfl)
  case' restr3 => try simp only [Act.put, List.getElem_toArray, List.getElem_cons_zero, List.getElem_cons_succ, List.setIfInBounds_toArray, List.set_cons_zero, List.set_cons_succ]
  refine wpAnyH_take (i := 4) (v := ?vr4) rfl (by kernel_rfl) (by kernel_rfl) (by kernel_rfl) (fun _ _ _ h => h) (Or.inl ⟨by rfl, ?hyr4⟩) (by assumption) ?restr4
  case hyr4 => (intro w0 hSw; (try dsimp only at hSw); go_simp; try with_reducible rfl)
  case' restr4 => try simp only [Act.put, List.getElem_toArray, List.getElem_cons_zero, List.getElem_cons_succ, List.setIfInBounds_toArray, List.set_cons_zero, List.set_cons_succ]
  refine wpAnyH_take (i := 5) (v := ?vr5) rfl (by kernel_rfl) (by kernel_rfl) (by kernel_rfl) (fun _ _ _ h => h) (Or.inl ⟨by rfl, ?hyr5⟩) (by assumption) ?restr5
  case hyr5 => (intro w0 hSw; (try dsimp only at hSw); go_simp; try with_reducible rfl)
  case' restr5 => try simp only [Act.put, List.getElem_toArray, List.getElem_cons_zero, List.getElem_cons_succ, List.setIfInBounds_toArray, List.set_cons_zero, List.set_cons_succ]
  refine wpAnyH_take (i := 6) (v := ?vr6) rfl (by kernel_rfl) (by kernel_rfl) (by kernel_rfl) (fun _ _ _ h => h) (Or.inl ⟨by rfl, ?hyr6⟩) (by assumption) ?restr6
  case hyr6 => (intro w0 hSw; (try dsimp only at hSw); go_simp; try with_reducible rfl)
  case' restr6 => try simp only [Act.put, List.getElem_toArray, List.getElem_cons_zero, List.getElem_cons_succ, List.setIfInBounds_toArray, List.set_cons_zero, List.set_cons_succ]
  refine wpAnyH_take (i := 7) (v := ?vr7) rfl (by kernel_rfl) (by kernel_rfl) (by kernel_rfl) (fun _ _ _ h => h) (Or.inl ⟨by rfl, ?hyr7⟩) (by assumption) ?restr7
  case hyr7 => (intro w0 hSw; (try dsimp only at hSw); go_simp; try with_reducible rfl)
  case' restr7 => try simp only [Act.put, List.getElem_toArray, List.getElem_cons_zero, List.getElem_cons_succ, List.setIfInBounds_toArray, List.set_cons_zero, List.set_cons_succ]
  refine wpAnyH_take (i := 8) (v := ?vr8) rfl (by kernel_rfl) (by kernel_rfl) (by kernel_rfl) (fun _ _ _ h => h) (Or.inl ⟨by rfl, ?hyr8⟩) (by assumption) ?restr8
  case hyr8 => (intro w0 hSw; (try dsimp only at hSw); go_simp; try with_reducible rfl)
  case' restr8 => try simp only [Act.put, List.getElem_toArray, List.getElem_cons_zero, List.getElem_cons_succ, List.setIfInBounds_toArray, List.set_cons_zero, List.set_cons_succ]
  refine wpAnyH_take (i := 9) (v := ?vr9) rfl (by kernel_rfl) (by kernel_rfl) (by kernel_rfl) (fun _ _ _ h => h) (Or.inl ⟨by rfl, ?hyr9⟩) (by assumption) ?restr9
  case hyr9 => (intro w0 hSw; (try dsimp only at hSw); go_simp; try with_reducible rfl)
  case' restr9 => try simp only [Act.put, List.getElem_toArray, List.getElem_cons_zero, List.getElem_cons_succ, List.setIfInBounds_toArray, List.set_cons_zero, List.set_cons_succ]
  refine wpAnyH_take (i := 10) (v := ?vr10) rfl (by kernel_rfl) (by kernel_rfl) (by kernel_rfl) (fun _ _ _ h => h) (Or.inl ⟨by rfl, ?hyr10⟩) (by assumption) ?restr10
  case hyr10 => (intro w0 hSw; (try dsimp only at hSw); go_simp; try with_reducible rfl)
  case' restr10 => try simp only [Act.put, List.getElem_toArray, List.getElem_cons_zero, List.getElem_cons_succ, List.setIfInBounds_toArray, List.set_cons_zero, List.set_cons_succ]
  refine wpAnyH_take (i := 11) (v := ?vr11) rfl (by kernel_rfl) (by kernel_rfl) (by kernel_rfl) (fun _ _ _ h => h) (Or.inl ⟨by rfl, ?hyr11⟩) (by assumption) ?restr11
  case hyr11 => (intro w0 hSw; (try dsimp only at hSw); go_simp; try with_reducible rfl)
  case' restr11 => try simp only [Act.put, List.getElem_toArray, List.getElem_cons_zero, List.getElem_cons_succ, List.setIfInBounds_toArray, List.set_cons_zero, List.set_cons_succ]
  refine wpAnyH_done (by kernel_rfl) ?_ _
  refine NoPanic.normal ?_
  have HX := Lib.hid (show Below wb.heap.size wb w1 from Hid.out hHeld.1)
  clear hHeld
  have HM1 := Lib.hid (heap_keep HM.out HX.out)
  have HZ1 := Lib.hid (heap_keep HZ.out HX.out)
  have HP1 := Lib.hid (HP.out.below HX.out)
  have HB1 := Lib.hid (bch HB.out HX.out HB.out.size)
  have hB3 : w.heap.size + 1 < w1.heap.size := heap_lt HZ1.out
  clear HM HZ HP HB HX HMay HH hB1
  have HM := HM1
  have HZ := HZ1
  have HP := HP1
  have HB := HB1
  clear HM1 HZ1 HP1 HB1
  obtain ⟨m0, m1, m2, m3, m4, m5, m6⟩ := cell7 HM.out
  go_wp2_with fail
  refine (refFind_any w1 B r kind stock limit seq vl vg L G o d HP.out hl).mono ?_
  rintro e w2 ⟨rfl, hb2⟩
  rw [HF.out]
  unfold foundV
  have hs2 := hb2.size
  have hbc : Below w1.heap.size w1 (w2.alloc (.cells #[.int .i64 0, .int .i64 0, .int .i64 0, .int .i64 0, .int .i64 0] tRow)) := Below.alloc hb2 hb2.size (.cells #[.int .i64 0, .int .i64 0, .int .i64 0, .int .i64 0, .int .i64 0] tRow)
  replace HB := Lib.hid (bch HB.out hbc HB.out.size)
  replace HP := Lib.hid (HP.out.below hbc)
  replace HM := Lib.hid (heap_keep HM.out hbc)
  replace HZ := Lib.hid (heap_keep HZ.out hbc)
  have HR := Lib.hid (heap_new w2 (.cells #[.int .i64 0, .int .i64 0, .int .i64 0, .int .i64 0, .int .i64 0] tRow))
  clear m0 m1 m2 m3 m4 m5 m6 hb2 hbc
  obtain ⟨m0, m1, m2, m3, m4, m5, m6⟩ := cell7 HM.out
  go_wp2_with fail
  generalize w2.alloc (.cells #[.int .i64 0, .int .i64 0, .int .i64 0, .int .i64 0, .int .i64 0] tRow) = wc at HM HZ HP HB HR m0 m1 m2 m3 m4 m5 m6 ⊢
  refine (HU.out wc).mono ?_
  rintro e w3 ⟨rfl, hw⟩; subst hw
  have hsc : w2.heap.size < wc.heap.size := heap_lt HR.out
  have hbc : Below wc.heap.size wc (wc.alloc (.cells #[.int .i64 o, .int .i64 D] tKey)) := below_alloc _ _
  replace HB := Lib.hid (bch HB.out hbc HB.out.size)
  replace HP := Lib.hid (HP.out.below hbc)
  replace HM := Lib.hid (heap_keep HM.out hbc)
  replace HZ := Lib.hid (heap_keep HZ.out hbc)
  replace HR := Lib.hid (heap_keep HR.out hbc)
  have HK := Lib.hid (heap_new wc (.cells #[.int .i64 o, .int .i64 D] tKey))
  clear hbc
  have hkc : (wc.alloc (.cells #[.int .i64 o, .int .i64 D] tKey)).cell? ⟨wc.heap.size, 0, none⟩ = some (.int .i64 o) ∧ (wc.alloc (.cells #[.int .i64 o, .int .i64 D] tKey)).cell? ⟨wc.heap.size, 1, none⟩ = some (.int .i64 D) := ⟨cell_at HK.out 0 rfl, cell_at HK.out 1 rfl⟩
  obtain ⟨k0, k1⟩ := hkc
  go_wp2_with fail
  generalize wc.alloc (.cells #[.int .i64 o, .int .i64 D] tKey) = wd at HM HZ HP HB HR HK k0 k1 ⊢
  refine (refFind_any wd B r kind stock limit seq vl vg L G o D HP.out hl).mono ?_
  rintro e w5 ⟨rfl, hb5⟩
  rw [HFF.out]
  unfold foundV
  clear m0 m1 m2 m3 m4 m5 m6 k0 k1
  have hsd : wc.heap.size < wd.heap.size := heap_lt HK.out
  have hs5 := hb5.size
  clear HU HF HFF
  have HT : Hid (Turned (fun i => i = r ∨ w.heap.size ≤ i) w wd) := Lib.hid (HTb (Turned.refl _ w) HB.out)
  clear HB
  have HL := Lib.hid (show (insR L ((o, D), 2, 0, 0)).length < 100000 by rw [ins_len]; omega)
  have hbe : Below wd.heap.size wd (w5.alloc (.cells #[.int .i64 0, .int .i64 0, .int .i64 0, .int .i64 0, .int .i64 0] tRow)) := Below.alloc hb5 hb5.size (.cells #[.int .i64 0, .int .i64 0, .int .i64 0, .int .i64 0, .int .i64 0] tRow)
  replace HT := Lib.hid (HTb HT.out hbe)
  replace HP := Lib.hid (HP.out.below hbe)
  replace HM := Lib.hid (heap_keep HM.out hbe)
  replace HZ := Lib.hid (heap_keep HZ.out hbe)
  replace HR := Lib.hid (heap_keep HR.out hbe)
  replace HK := Lib.hid (heap_keep HK.out hbe)
  have HQ := Lib.hid (heap_new w5 (.cells #[.int .i64 0, .int .i64 0, .int .i64 0, .int .i64 0, .int .i64 0] tRow))
  clear hbe hb5
  obtain ⟨k0, k1, _, _⟩ := cell2 HK.out
  go_wp2_with fail
  generalize w5.alloc (.cells #[.int .i64 0, .int .i64 0, .int .i64 0, .int .i64 0, .int .i64 0] tRow) = we at HT HP HM HZ HR HK HQ k0 k1 ⊢
  clear k0 k1 HK HV
  have hsr : w2.heap.size < we.heap.size := heap_lt HR.out
  have hsq : w5.heap.size < we.heap.size := heap_lt HQ.out
  refine (refWrite_any we B r kind stock limit seq vl vg L G ((o, D), 2, 0, 0) HP.out hl (Nat.le_trans hB0 HT.out.size)).mono ?_
  rintro e w6 ⟨rfl, ht6, vl6, hp6, hv6⟩
  have HV := Lib.hid hv6
  replace HT := Lib.hid (HTr HT.out ht6)
  replace HP := Lib.hid hp6
  replace HM := Lib.hid (HidB HM.out ht6 (by omega))
  replace HZ := Lib.hid (HidB HZ.out ht6 (by omega))
  replace HR := Lib.hid (HidB HR.out ht6 (by omega))
  replace HQ := Lib.hid (HidB HQ.out ht6 (by omega))
  clear ht6 hp6 hv6
  obtain ⟨p0, p1, p2, p3, p4, p5⟩ := cell6 HP.out.hd
  obtain ⟨m0, m1, m2, m3, m4, m5, m6⟩ := cell7 HM.out
  by_cases hk : kind = 1
  · have hkb : (kind == 1) = true := by rw [hk]; rfl
    have HKD := Lib.hid hk
    clear hk
    go_wp2_with fail
    refine (refFree_any w6 B r kind stock limit seq vl6 vg (insR L ((o, D), 2, 0, 0)) G o HP.out (by omega) (Nat.le_trans hB0 HT.out.size)).mono ?_
    rintro e w7 ⟨rfl, ht7, vg7, hp7⟩
    clear p0 p1 p2 p3 p4 p5 m0 m1 m2 m3 m4 m5 m6
    replace HT := Lib.hid (HTr HT.out ht7)
    replace HP := Lib.hid hp7
    replace HM := Lib.hid (HidB HM.out ht7 (by omega))
    replace HZ := Lib.hid (HidB HZ.out ht7 (by omega))
    replace HR := Lib.hid (HidB HR.out ht7 (by omega))
    replace HQ := Lib.hid (HidB HQ.out ht7 (by omega))
    clear ht7 hp7 hkb
    obtain ⟨m0, m1, m2, m3, m4, m5, m6⟩ := cell7 HM.out
    obtain ⟨q0, q1, q2, q3, q4⟩ := cell5 HQ.out
    obtain ⟨n0, n1, n2, n3, n4⟩ := cell5 HR.out
    obtain ⟨f0, f1, f2, f3, f4⟩ := froz5 HR.out
    have HTu := turned_set5 w7 w2.heap.size (.int .i64 o) (.int .i64 d) (.int .i64 1) (.int .i64 0) (.int .i64 0)
    have HSET := set5c HR.out (.int .i64 o) (.int .i64 d) (.int .i64 1) (.int .i64 0) (.int .i64 0)
    unfold set5w at HSET
    obtain ⟨y0, y1, y2, y3, y4⟩ := cell5 HSET
    have HTu := Lib.hid HTu
    have HSET := Lib.hid HSET
    go_wp2_with fail
    generalize ((((w7.setCell ⟨w2.heap.size, 0, none⟩ (.int .i64 o)).setCell ⟨w2.heap.size, 1, none⟩ (.int .i64 d)).setCell ⟨w2.heap.size, 2, none⟩ (.int .i64 1)).setCell ⟨w2.heap.size, 3, none⟩ (.int .i64 0)).setCell ⟨w2.heap.size, 4, none⟩ (.int .i64 0) = w8 at HTu HSET y0 y1 y2 y3 y4 ⊢
    clear m0 m1 m2 m3 m4 m5 m6 y0 y1 y2 y3 y4
    have hHP := HP.out.turn HTu.out (by show ¬ r = _; omega) (fun j hj e => by have := HV.out j hj; omega) (own_apart_blk HP.out.rg HR.out (by decide))
    replace HT := Lib.hid (HTs HT.out HTu.out (by omega))
    replace HP := Lib.hid hHP
    clear hHP
    replace HM := Lib.hid (HidB HM.out HTu.out (by omega))
    replace HZ := Lib.hid (HidB HZ.out HTu.out (by omega))
    have HR8 := HSET
    clear HR HTu HSET
    refine (refWrite_any w8 B r kind stock limit seq vl6 vg7 (insR L ((o, D), 2, 0, 0)) (freeG G o) ((o, d), 1, 0, 0) HP.out (by have := HL.out; omega) (Nat.le_trans hB0 HT.out.size)).mono ?_
    rintro e w9 ⟨rfl, ht9, vl9, hp9, hv9⟩
    replace HT := Lib.hid (HTr HT.out ht9)
    replace HP := Lib.hid hp9
    replace HM := Lib.hid (HidB HM.out ht9 (by omega))
    replace HZ := Lib.hid (HidB HZ.out ht9 (by omega))
    replace HR8 := Lib.hid (HidB HR8.out ht9 (by omega))
    clear ht9 hp9 hv9 HV
    obtain ⟨m0, m1, m2, m3, m4, m5, m6⟩ := cell7 HM.out
    obtain ⟨n0, n1, n2, n3, n4⟩ := cell5 HR8.out
    obtain ⟨z0, z1, z2, z3, z4, z5, z6⟩ := cell7 HZ.out
    obtain ⟨f0, f1, f2, f3, f4, f5, f6⟩ := froz7 HZ.out
    go_wp2_with fail
    have HTu := turned_set7 w9 (w.heap.size + 1) (.int .i64 3) (.int .i64 o) (.int .i64 d) (.string ⟨#[]⟩) (.int .i64 0) (.int .i64 0) (.int .i64 1)
    have HSET := set7 HZ.out (.int .i64 3) (.int .i64 o) (.int .i64 d) (.string ⟨#[]⟩) (.int .i64 0) (.int .i64 0) (.int .i64 1)
    unfold set7w at HSET
    obtain ⟨y0, y1, y2, y3, y4, y5, y6⟩ := cell7 HSET
    refine bodyPost_ret (v := .tuple #[.agg #[.int .i64 3, .int .i64 o, .int .i64 d, .string ⟨#[]⟩, .int .i64 0, .int .i64 0, .int .i64 1], .bool true]) ?_ rfl ⟨?_, ?_⟩
    · clear HTu HSET
      simp [results, Tryd.results14, go_sem, y0, y1, y2, y3, y4, y5, y6]
    · exact rfl
    · have hHP := HP.out.turn HTu (by show ¬ r = _; omega) (own_apart_blk HP.out.rl HZ.out (by decide)) (own_apart_blk HP.out.rg HZ.out (by decide))
      refine ⟨Turned.far (Turned.refl _ w) (HTs HT.out HTu (by omega)), ?_⟩
      have hk := HKD.out
      first
      | exact ⟨_, _, hHP⟩
      | (subst hk; exact ⟨_, _, hHP⟩)
      | (rw [if_pos hk]; exact ⟨_, _, hHP⟩)
      | (rw [if_neg hk]; exact ⟨_, _, hHP⟩)
  · have hkb : (kind == 1) = false := beqF hk
    have HKD := Lib.hid hk
    clear hk
    obtain ⟨m0, m1, m2, m3, m4, m5, m6⟩ := cell7 HM.out
    obtain ⟨q0, q1, q2, q3, q4⟩ := cell5 HQ.out
    obtain ⟨n0, n1, n2, n3, n4⟩ := cell5 HR.out
    obtain ⟨f0, f1, f2, f3, f4⟩ := froz5 HR.out
    have HTu := turned_set5 w6 w2.heap.size (.int .i64 o) (.int .i64 d) (.int .i64 1) (.int .i64 0) (.int .i64 0)
    have HSET := set5c HR.out (.int .i64 o) (.int .i64 d) (.int .i64 1) (.int .i64 0) (.int .i64 0)
    unfold set5w at HSET
    obtain ⟨y0, y1, y2, y3, y4⟩ := cell5 HSET
    have HTu := Lib.hid HTu
    have HSET := Lib.hid HSET
    go_wp2_with fail
    generalize ((((w6.setCell ⟨w2.heap.size, 0, none⟩ (.int .i64 o)).setCell ⟨w2.heap.size, 1, none⟩ (.int .i64 d)).setCell ⟨w2.heap.size, 2, none⟩ (.int .i64 1)).setCell ⟨w2.heap.size, 3, none⟩ (.int .i64 0)).setCell ⟨w2.heap.size, 4, none⟩ (.int .i64 0) = w8 at HTu HSET y0 y1 y2 y3 y4 ⊢
    clear m0 m1 m2 m3 m4 m5 m6 y0 y1 y2 y3 y4
    have hHP := HP.out.turn HTu.out (by show ¬ r = _; omega) (fun j hj e => by have := HV.out j hj; omega) (own_apart_blk HP.out.rg HR.out (by decide))
    replace HT := Lib.hid (HTs HT.out HTu.out (by omega))
    replace HP := Lib.hid hHP
    clear hHP
    replace HM := Lib.hid (HidB HM.out HTu.out (by omega))
    replace HZ := Lib.hid (HidB HZ.out HTu.out (by omega))
    have HR8 := HSET
    clear HR HTu HSET
    refine (refWrite_any w8 B r kind stock limit seq vl6 vg (insR L ((o, D), 2, 0, 0)) (G) ((o, d), 1, 0, 0) HP.out (by have := HL.out; omega) (Nat.le_trans hB0 HT.out.size)).mono ?_
    rintro e w9 ⟨rfl, ht9, vl9, hp9, hv9⟩
    replace HT := Lib.hid (HTr HT.out ht9)
    replace HP := Lib.hid hp9
    replace HM := Lib.hid (HidB HM.out ht9 (by omega))
    replace HZ := Lib.hid (HidB HZ.out ht9 (by omega))
    replace HR8 := Lib.hid (HidB HR8.out ht9 (by omega))
    clear ht9 hp9 hv9 HV
    obtain ⟨m0, m1, m2, m3, m4, m5, m6⟩ := cell7 HM.out
    obtain ⟨n0, n1, n2, n3, n4⟩ := cell5 HR8.out
    obtain ⟨z0, z1, z2, z3, z4, z5, z6⟩ := cell7 HZ.out
    obtain ⟨f0, f1, f2, f3, f4, f5, f6⟩ := froz7 HZ.out
    go_wp2_with fail
    have HTu := turned_set7 w9 (w.heap.size + 1) (.int .i64 3) (.int .i64 o) (.int .i64 d) (.string ⟨#[]⟩) (.int .i64 0) (.int .i64 0) (.int .i64 1)
    have HSET := set7 HZ.out (.int .i64 3) (.int .i64 o) (.int .i64 d) (.string ⟨#[]⟩) (.int .i64 0) (.int .i64 0) (.int .i64 1)
    unfold set7w at HSET
    obtain ⟨y0, y1, y2, y3, y4, y5, y6⟩ := cell7 HSET
    refine bodyPost_ret (v := .tuple #[.agg #[.int .i64 3, .int .i64 o, .int .i64 d, .string ⟨#[]⟩, .int .i64 0, .int .i64 0, .int .i64 1], .bool true]) ?_ rfl ⟨?_, ?_⟩
    · clear HTu HSET
      simp [results, Tryd.results14, go_sem, y0, y1, y2, y3, y4, y5, y6]
    · exact rfl
    · have hHP := HP.out.turn HTu (by show ¬ r = _; omega) (own_apart_blk HP.out.rl HZ.out (by decide)) (own_apart_blk HP.out.rg HZ.out (by decide))
      refine ⟨Turned.far (Turned.refl _ w) (HTs HT.out HTu (by omega)), ?_⟩
      have hk := HKD.out
      first
      | exact ⟨_, _, hHP⟩
      | (subst hk; exact ⟨_, _, hHP⟩)
      | (rw [if_pos hk]; exact ⟨_, _, hHP⟩)
      | (rw [if_neg hk]; exact ⟨_, _, hHP⟩)
theorem refAskUndo (w : World) (B r : Nat) (kind stock limit seq : Int) (vl vg : Value) (L : List R5) (G : List G3) (to o d : Int) (sku : ByteArray) (qty amt cd : Int) (h : RP w B r kind stock limit seq vl vg L G) (hs : sku.size ≤ 1000000000000) (hd : Mon.InR d) (hm : mayB to o d sku.data.toList qty amt cd = true) (ht : to = kind) (hl : L.length < 90000) (hg : G.length < 90000) (hB0 : B ≤ w.heap.size) (hf : findR L (o, d) = none) (hu : undoI d = (d - 3, true)) :
    Calls Tryd.prog 14 #[.pointer (some ⟨r, 0, none⟩), .agg #[.int .i64 to, .int .i64 o, .int .i64 d, .string sku, .int .i64 qty, .int .i64 amt, .int .i64 cd]] w fun e w' => e = .returned (.tuple #[ansM o d (some 1), .bool true]) ∧ Turned (fun i => i = r) w w' ∧ ∃ vl' vg', RP w' B r kind stock limit seq vl' vg' (insR (if (findR L (o, d - 3)).isSome then L else insR L ((o, d - 3), 2, 0, 0)) ((o, d), 1, (((findR L (o, d - 3)).getD ((o, d - 3), 2, 0, 0))).2.2.1, (((findR L (o, d - 3)).getD ((o, d - 3), 2, 0, 0))).2.2.2)) (if kind = 1 then freeG G o else G) := by
  cases hff : findR L (o, d - 3) with
  | some y => exact refAskUndoS w B r kind stock limit seq vl vg L G to o d sku qty amt cd h hs hd hm ht hl hg hB0 hf hu y hff
  | none => exact refAskUndoN w B r kind stock limit seq vl vg L G to o d sku qty amt cd h hs hd hm ht hl hg hB0 hf hu hff
end Go.Proofs.YtkmpagijdhhinaaDoor

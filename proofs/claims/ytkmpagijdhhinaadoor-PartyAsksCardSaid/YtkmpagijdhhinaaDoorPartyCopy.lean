/- A party's Copy. -/
import Derived.Test.YtkmpagijdhhinaaDoorPartyTell
namespace Go.Proofs.YtkmpagijdhhinaaDoor
open Go.RowKit Go.Maps Go.Shelf Key Od Pa

theorem cloned {P : Program} {ρ : Ren} (L : Go.Proofs.SlLaysW.n5 P ρ) {k : TypeId} {κ α : Type} {mkK : κ → Value} {mkV : α → Value} (w : World) (b : Nat) (E : List (κ × α)) (h : MapL P k mkK mkV w b E) :
    Calls P (ρ.f 5) #[.map (some b)] w fun e w' => e = .returned (.map (some w.heap.size)) ∧ MapL P k mkK mkV w' w.heap.size E ∧ Below w.heap.size w w' := by
  obtain ⟨⟨D, h1, h2⟩, h3, h4⟩ := h
  refine (Go.Proofs.AnyW.maps_Clone_owns L k (heldBy mkV) b E.length (.map D) w h1).mono ?_
  rintro e w' ⟨rfl, h5, _, hb⟩
  exact ⟨rfl, ⟨⟨D, h5, h2⟩, h3, h4⟩, hb⟩
theorem cloneB_any (w : World) (b : Nat) (E : List ((Int × Int) × R5)) (h : MapL Tryd.prog tKey mkKey mkRow w b E) : Calls Tryd.prog 27 #[.map (some b)] w fun e w' => e = .returned (.map (some w.heap.size)) ∧ MapL Tryd.prog tKey mkKey mkRow w' w.heap.size E ∧ Below w.heap.size w w' := cloned Tryd.cloneBook w b E h
theorem cloneT_any (w : World) (b : Nat) (E : List (List UInt8 × Int)) (h : MapL Tryd.prog tGoods mkGoods mkInt w b E) : Calls Tryd.prog 28 #[.map (some b)] w fun e w' => e = .returned (.map (some w.heap.size)) ∧ MapL Tryd.prog tGoods mkGoods mkInt w' w.heap.size E ∧ Below w.heap.size w w' := cloned Tryd.cloneTaken w b E h
theorem cloneW_any (w : World) (b : Nat) (E : List ((Int × Int) × List UInt8)) (h : MapL Tryd.prog tKey mkKey mkGoods w b E) : Calls Tryd.prog 29 #[.map (some b)] w fun e w' => e = .returned (.map (some w.heap.size)) ∧ MapL Tryd.prog tKey mkKey mkGoods w' w.heap.size E ∧ Below w.heap.size w w' := cloned Tryd.cloneWhat w b E h
theorem set7_3 {w : World} {b : Nat} {x0 x1 x2 x3 x4 x5 x6 : Value} {T : TypeId} (h : w.heap[b]? = some (.cells #[x0, x1, x2, x3, x4, x5, x6] T (0, 0))) (q : Value) : (w.setCell ⟨b, 3, none⟩ q).heap[b]? = some (.cells #[x0, x1, x2, q, x4, x5, x6] T (0, 0)) := by
  simp [World.setCell, Array.getElem?_modify, h]
theorem set7_4 {w : World} {b : Nat} {x0 x1 x2 x3 x4 x5 x6 : Value} {T : TypeId} (h : w.heap[b]? = some (.cells #[x0, x1, x2, x3, x4, x5, x6] T (0, 0))) (q : Value) : (w.setCell ⟨b, 4, none⟩ q).heap[b]? = some (.cells #[x0, x1, x2, x3, q, x5, x6] T (0, 0)) := by
  simp [World.setCell, Array.getElem?_modify, h]
theorem set7_5 {w : World} {b : Nat} {x0 x1 x2 x3 x4 x5 x6 : Value} {T : TypeId} (h : w.heap[b]? = some (.cells #[x0, x1, x2, x3, x4, x5, x6] T (0, 0))) (q : Value) : (w.setCell ⟨b, 5, none⟩ q).heap[b]? = some (.cells #[x0, x1, x2, x3, x4, q, x6] T (0, 0)) := by
  simp [World.setCell, Array.getElem?_modify, h]

set_option linter.unusedSimpArgs false in
set_option linter.unusedVariables false in
set_option maxRecDepth 100000 in
set_option maxHeartbeats 4000000 in
theorem copy_any (w : World) (p bk tk wh : Nat) (kind stock limit seq : Int) (m : Nat) (st : St) (h : PA w p bk tk wh kind stock limit seq m st) :
    Calls Tryd.prog 12 #[.pointer (some ⟨p, 0, none⟩)] w fun e w' => ∃ q b t u, e = .returned (.pointer (some ⟨q, 0, none⟩)) ∧ PA w' q b t u kind stock limit seq m st ∧ w.heap.size ≤ q ∧ w.heap.size ≤ b ∧ w.heap.size ≤ t ∧ w.heap.size ≤ u ∧ Below w.heap.size w w' := by
  have HP := Lib.hid h
  have hl := h.lt
  have HB := Lib.hid (below_alloc w (.cells #[.int .i64 kind, .int .i64 stock, .int .i64 limit, .map (some bk), .map (some tk), .map (some wh), .int .i64 seq] tParty))
  have HC := Lib.hid (heap_new w (.cells #[.int .i64 kind, .int .i64 stock, .int .i64 limit, .map (some bk), .map (some tk), .map (some wh), .int .i64 seq] tParty))
  obtain ⟨c0, c1, c2, c3, c4, c5, c6⟩ := cell7 h.hd
  clear h
  go_enter Tryd.func12, Tryd.ntmps12
  go_wp2_with fail
  refine (nonep_no w p bk tk wh kind stock limit seq m st HP.out).mono ?_
  rintro e w0 ⟨rfl, hw⟩; subst hw
  go_wp2_with fail
  generalize w.alloc (.cells #[.int .i64 kind, .int .i64 stock, .int .i64 limit, .map (some bk), .map (some tk), .map (some wh), .int .i64 seq] tParty) = wa at HB HC ⊢
  clear c0 c1 c2 c3 c4 c5 c6
  have HPa := Lib.hid (HP.out.below HB.out)
  have HPh := Lib.hid HPa.out.hd
  obtain ⟨T, hT, hT'⟩ := HPa.out.taken
  obtain ⟨W, hW, hW'⟩ := HPa.out.what
  have HH := Lib.hid (fun u (ht : Turned (fun i => i = w.heap.size) wa u) => (⟨Lib.hid ht, cell_at ((ht.block _ (heap_lt HPh.out) (by omega)).trans HPh.out) 3 rfl, cell_at ((ht.block _ (heap_lt HPh.out) (by omega)).trans HPh.out) 4 rfl, cell_at ((ht.block _ (heap_lt HPh.out) (by omega)).trans HPh.out) 5 rfl⟩ : (fun w' => Hid (Turned (fun i => i = w.heap.size) wa w') ∧ w'.cell? ⟨p, 3, none⟩ = some (.map (some bk)) ∧ w'.cell? ⟨p, 4, none⟩ = some (.map (some tk)) ∧ w'.cell? ⟨p, 5, none⟩ = some (.map (some wh))) u))
  refine wp_region_noPanic ?_
  refine wp_region_held_drew (S := (fun w' => Hid (Turned (fun i => i = w.heap.size) wa w') ∧ w'.cell? ⟨p, 3, none⟩ = some (.map (some bk)) ∧ w'.cell? ⟨p, 4, none⟩ = some (.map (some tk)) ∧ w'.cell? ⟨p, 5, none⟩ = some (.map (some wh)))) (by kernel_rfl) (HH.out _ (Turned.of_below (below_drew1 (Below.refl wa.heap.size wa)))) (fun hHeld => ?_)
  refine wpAnyH_take (i := 0) (v := ?vk0) rfl (by kernel_rfl) (by kernel_rfl) (by kernel_rfl) (fun _ _ _ h => h) (Or.inl ⟨by rfl, ?hyk0⟩) (by assumption) ?restk0
  case hyk0 => (intro w0 hSw; (try dsimp only at hSw); go_simp; try with_reducible rfl)
  case' restk0 => try simp only [Act.put, List.getElem_toArray, List.getElem_cons_zero, List.getElem_cons_succ, List.setIfInBounds_toArray, List.set_cons_zero, List.set_cons_succ]
  refine wpAnyH_take (i := 1) (v := ?vk1) rfl (by kernel_rfl) (by kernel_rfl) (by kernel_rfl) (fun _ _ _ h => h) (Or.inl ⟨by rfl, ?hyk1⟩) (by assumption) ?restk1
  case hyk1 => (intro w0 hSw; (try dsimp only at hSw); go_simp; try with_reducible rfl)
  case' restk1 => try simp only [Act.put, List.getElem_toArray, List.getElem_cons_zero, List.getElem_cons_succ, List.setIfInBounds_toArray, List.set_cons_zero, List.set_cons_succ]
  refine wpAnyH_take (i := 2) (v := ?vk2) rfl (by kernel_rfl) (by kernel_rfl) (by kernel_rfl) (fun _ _ _ h => h) (Or.inl ⟨by rfl, ?hyk2⟩) (by assumption) ?restk2
  case hyk2 => (intro w0 hSw; (try dsimp only at hSw); go_simp; try with_reducible rfl)
  case' restk2 => try simp only [Act.put, List.getElem_toArray, List.getElem_cons_zero, List.getElem_cons_succ, List.setIfInBounds_toArray, List.set_cons_zero, List.set_cons_succ]
  refine wpAnyH_take (i := 3) (v := ?vk3) rfl (by kernel_rfl) (by kernel_rfl) (by kernel_rfl) (fun _ _ _ h => h) (Or.inl ⟨by rfl, ?hyk3⟩) (by assumption) ?restk3
  case hyk3 => (intro w0 hSw; (try dsimp only at hSw); go_simp; try with_reducible rfl)
  case' restk3 => try simp only [Act.put, List.getElem_toArray, List.getElem_cons_zero, List.getElem_cons_succ, List.setIfInBounds_toArray, List.set_cons_zero, List.set_cons_succ]
  refine wpAnyH_take (i := 5) (v := ?vk5) rfl (by kernel_rfl) (by kernel_rfl) (by kernel_rfl) (fun _ _ _ h => h) (Or.inl ⟨by rfl, ?hyk5⟩) (by assumption) ?restk5
  case hyk5 => (intro w0 hSw; (try dsimp only at hSw); go_simp; try with_reducible rfl)
  case' restk5 => try simp only [Act.put, List.getElem_toArray, List.getElem_cons_zero, List.getElem_cons_succ, List.setIfInBounds_toArray, List.set_cons_zero, List.set_cons_succ]
  refine wpAnyH_take (i := 6) (v := ?vk6) rfl (by kernel_rfl) (by kernel_rfl) (by kernel_rfl) (fun _ _ _ h => h) (Or.inl ⟨by rfl, ?hyk6⟩) (by assumption) ?restk6
  case hyk6 => (intro w0 hSw; (try dsimp only at hSw); go_simp; try with_reducible rfl)
  case' restk6 => try simp only [Act.put, List.getElem_toArray, List.getElem_cons_zero, List.getElem_cons_succ, List.setIfInBounds_toArray, List.set_cons_zero, List.set_cons_succ]
  refine wpAnyH_take (i := 7) (v := ?vk7) rfl (by kernel_rfl) (by kernel_rfl) (by kernel_rfl) (fun _ _ _ h => h) (Or.inl ⟨by rfl, ?hyk7⟩) (by assumption) ?restk7
  case hyk7 => (intro w0 hSw; (try dsimp only at hSw); go_simp; try with_reducible rfl)
  case' restk7 => try simp only [Act.put, List.getElem_toArray, List.getElem_cons_zero, List.getElem_cons_succ, List.setIfInBounds_toArray, List.set_cons_zero, List.set_cons_succ]
  refine wpAnyH_take (i := 8) (v := ?vk8) rfl (by kernel_rfl) (by kernel_rfl) (by kernel_rfl) (fun _ _ _ h => h) (Or.inl ⟨by rfl, ?hyk8⟩) (by assumption) ?restk8
  case hyk8 => (intro w0 hSw; (try dsimp only at hSw); go_simp; try with_reducible rfl)
  case' restk8 => try simp only [Act.put, List.getElem_toArray, List.getElem_cons_zero, List.getElem_cons_succ, List.setIfInBounds_toArray, List.set_cons_zero, List.set_cons_succ]
  refine wpAnyH_take (i := 10) (v := ?vk10) rfl (by kernel_rfl) (by kernel_rfl) (by kernel_rfl) (fun _ _ _ h => h) (Or.inl ⟨by rfl, ?hyk10⟩) (by assumption) ?restk10
  case hyk10 => (intro w0 hSw; (try dsimp only at hSw); go_simp; try with_reducible rfl)
  case' restk10 => try simp only [Act.put, List.getElem_toArray, List.getElem_cons_zero, List.getElem_cons_succ, List.setIfInBounds_toArray, List.set_cons_zero, List.set_cons_succ]
  refine wpAnyH_take (i := 11) (v := ?vk11) rfl (by kernel_rfl) (by kernel_rfl) (by kernel_rfl) (fun _ _ _ h => h) (Or.inl ⟨by rfl, ?hyk11⟩) (by assumption) ?restk11
  case hyk11 => (intro w0 hSw; (try dsimp only at hSw); go_simp; try with_reducible rfl)
  case' restk11 => try simp only [Act.put, List.getElem_toArray, List.getElem_cons_zero, List.getElem_cons_succ, List.setIfInBounds_toArray, List.set_cons_zero, List.set_cons_succ]
  refine wpAnyH_take (i := 12) (v := ?vk12) rfl (by kernel_rfl) (by kernel_rfl) (by kernel_rfl) (fun _ _ _ h => h) (Or.inl ⟨by rfl, ?hyk12⟩) (by assumption) ?restk12
  case hyk12 => (intro w0 hSw; (try dsimp only at hSw); go_simp; try with_reducible rfl)
  case' restk12 => try simp only [Act.put, List.getElem_toArray, List.getElem_cons_zero, List.getElem_cons_succ, List.setIfInBounds_toArray, List.set_cons_zero, List.set_cons_succ]
  refine wpAnyH_take (i := 13) (v := ?vk13) rfl (by kernel_rfl) (by kernel_rfl) (by kernel_rfl) (fun _ _ _ h => h) (Or.inl ⟨by rfl, ?hyk13⟩) (by assumption) ?restk13
  case hyk13 => (intro w0 hSw; (try dsimp only at hSw); go_simp; try with_reducible rfl)
  case' restk13 => try simp only [Act.put, List.getElem_toArray, List.getElem_cons_zero, List.getElem_cons_succ, List.setIfInBounds_toArray, List.set_cons_zero, List.set_cons_succ]
  refine wpAnyH_ready (rs := [4]) (by kernel_rfl) (by simp) ?_
  refine AllReadyH.cons rfl (fun K hK => ?_) AllReadyH.nil
  go_simp
  refine (cloneB_any wa.drew _ _ (HPa.out.book.below (below_drew1 (Below.refl wa.heap.size wa)))).mono ?_; rintro e w1 ⟨rfl, hm, hb⟩
  have HB1 := Lib.hid (bch (below_drew1 (Below.refl wa.heap.size wa)) hb (Below.size (below_drew1 (Below.refl wa.heap.size wa))))
  have HM1 := Lib.hid hm
  have HX1 := Lib.hid hb
  refine hK.out _ _ (HH.out _ (Turned.of_below HB1.out)) (fun hHeld => ?_)
  clear hK K hm hb
  try simp only [Act.put, List.getElem_toArray, List.getElem_cons_zero, List.getElem_cons_succ, List.setIfInBounds_toArray, List.set_cons_zero, List.set_cons_succ]
  refine wpAnyH_ready (rs := [9]) (by kernel_rfl) (by simp) ?_
  refine AllReadyH.cons rfl (fun K hK => ?_) AllReadyH.nil
  go_simp
  refine (cloneT_any w1 _ _ (hT.below HB1.out)).mono ?_; rintro e w2 ⟨rfl, hm, hb⟩
  have HB2 := Lib.hid (bch HB1.out hb (Below.size HB1.out))
  have HM2 := Lib.hid hm
  have HX2 := Lib.hid hb
  refine hK.out _ _ (HH.out _ (Turned.of_below HB2.out)) (fun hHeld => ?_)
  clear hK K hm hb
  try simp only [Act.put, List.getElem_toArray, List.getElem_cons_zero, List.getElem_cons_succ, List.setIfInBounds_toArray, List.set_cons_zero, List.set_cons_succ]
  refine wpAnyH_ready (rs := [14]) (by kernel_rfl) (by simp) ?_
  refine AllReadyH.cons rfl (fun K hK => ?_) AllReadyH.nil
  go_simp
  refine (cloneW_any w2 _ _ (hW.below HB2.out)).mono ?_; rintro e w3 ⟨rfl, hm, hb⟩
  have HB3 := Lib.hid (bch HB2.out hb (Below.size HB2.out))
  have HM3 := Lib.hid hm
  have HX3 := Lib.hid hb
  refine hK.out _ _ (HH.out _ (Turned.of_below HB3.out)) (fun hHeld => ?_)
  clear hK K hm hb
  try simp only [Act.put, List.getElem_toArray, List.getElem_cons_zero, List.getElem_cons_succ, List.setIfInBounds_toArray, List.set_cons_zero, List.set_cons_succ]
  refine wpAnyH_take (i := 15) (v := ?vk15) rfl (by kernel_rfl) (by kernel_rfl) (by kernel_rfl) (fun _ _ _ h => h) (Or.inl ⟨by rfl, ?hyk15⟩) (by assumption) ?restk15
  case hyk15 => (intro w0 hSw; (try dsimp only at hSw); go_simp; try with_reducible rfl)
  case' restk15 => try simp only [Act.put, List.getElem_toArray, List.getElem_cons_zero, List.getElem_cons_succ, List.setIfInBounds_toArray, List.set_cons_zero, List.set_cons_succ]
  have HZ1 := Lib.hid (heap_keep HC.out HB3.out)
  have zz1 := cell_at HZ1.out 3 rfl
  have ff1 := frozen_at HZ1.out 3
  have HU1 := Lib.hid (turned_set w3 w.heap.size 3 (.map (some wa.heap.size)))
  have HS1 := Lib.hid (set7_3 HZ1.out (.map (some wa.heap.size)))
  have HTT1 := Lib.hid (Turned.trans (Turned.of_below HB3.out) HU1.out)
  refine wpAnyH_ready (rs := [16]) (by kernel_rfl) (by simp) ?_
  refine AllReadyH.cons rfl (fun K hK => ?_) AllReadyH.nil
  go_simp
  refine hK.out _ _ (HH.out _ HTT1.out) (fun hHeld => ?_)
  clear hK K zz1 ff1
  try simp only [Act.put, List.getElem_toArray, List.getElem_cons_zero, List.getElem_cons_succ, List.setIfInBounds_toArray, List.set_cons_zero, List.set_cons_succ]
  generalize hs1 : w3.setCell ⟨w.heap.size, 3, none⟩ (.map (some wa.heap.size)) = s1 at HU1 HS1 HTT1 hHeld ⊢
  clear hs1
  refine wpAnyH_take (i := 17) (v := ?vk17) rfl (by kernel_rfl) (by kernel_rfl) (by kernel_rfl) (fun _ _ _ h => h) (Or.inl ⟨by rfl, ?hyk17⟩) (by assumption) ?restk17
  case hyk17 => (intro w0 hSw; (try dsimp only at hSw); go_simp; try with_reducible rfl)
  case' restk17 => try simp only [Act.put, List.getElem_toArray, List.getElem_cons_zero, List.getElem_cons_succ, List.setIfInBounds_toArray, List.set_cons_zero, List.set_cons_succ]
  have HZ2 := Lib.hid (HS1.out)
  have zz2 := cell_at HZ2.out 4 rfl
  have ff2 := frozen_at HZ2.out 4
  have HU2 := Lib.hid (turned_set s1 w.heap.size 4 (.map (some w1.heap.size)))
  have HS2 := Lib.hid (set7_4 HZ2.out (.map (some w1.heap.size)))
  have HTT2 := Lib.hid (Turned.trans HTT1.out HU2.out)
  refine wpAnyH_ready (rs := [18]) (by kernel_rfl) (by simp) ?_
  refine AllReadyH.cons rfl (fun K hK => ?_) AllReadyH.nil
  go_simp
  refine hK.out _ _ (HH.out _ HTT2.out) (fun hHeld => ?_)
  clear hK K zz2 ff2
  try simp only [Act.put, List.getElem_toArray, List.getElem_cons_zero, List.getElem_cons_succ, List.setIfInBounds_toArray, List.set_cons_zero, List.set_cons_succ]
  generalize hs2 : s1.setCell ⟨w.heap.size, 4, none⟩ (.map (some w1.heap.size)) = s2 at HU2 HS2 HTT2 hHeld ⊢
  clear hs2
  refine wpAnyH_take (i := 19) (v := ?vk19) rfl (by kernel_rfl) (by kernel_rfl) (by kernel_rfl) (fun _ _ _ h => h) (Or.inl ⟨by rfl, ?hyk19⟩) (by assumption) ?restk19
  case hyk19 => (intro w0 hSw; (try dsimp only at hSw); go_simp; try with_reducible rfl)
  case' restk19 => try simp only [Act.put, List.getElem_toArray, List.getElem_cons_zero, List.getElem_cons_succ, List.setIfInBounds_toArray, List.set_cons_zero, List.set_cons_succ]
  have HZ3 := Lib.hid (HS2.out)
  have zz3 := cell_at HZ3.out 5 rfl
  have ff3 := frozen_at HZ3.out 5
  have HU3 := Lib.hid (turned_set s2 w.heap.size 5 (.map (some w2.heap.size)))
  have HS3 := Lib.hid (set7_5 HZ3.out (.map (some w2.heap.size)))
  have HTT3 := Lib.hid (Turned.trans HTT2.out HU3.out)
  refine wpAnyH_ready (rs := [20]) (by kernel_rfl) (by simp) ?_
  refine AllReadyH.cons rfl (fun K hK => ?_) AllReadyH.nil
  go_simp
  refine hK.out _ _ (HH.out _ HTT3.out) (fun hHeld => ?_)
  clear hK K zz3 ff3
  try simp only [Act.put, List.getElem_toArray, List.getElem_cons_zero, List.getElem_cons_succ, List.setIfInBounds_toArray, List.set_cons_zero, List.set_cons_succ]
  generalize hs3 : s2.setCell ⟨w.heap.size, 5, none⟩ (.map (some w2.heap.size)) = s3 at HU3 HS3 HTT3 hHeld ⊢
  clear hs3
  refine wpAnyH_done (by kernel_rfl) ?_ _
  refine NoPanic.normal ?_
  clear hHeld
  go_wp2_with fail
  go_ret
  have hca := heap_lt HC.out
  have hs1 := HB1.out.size
  have hs2 := HB2.out.size
  have l1 := HM1.out.lt
  have l2 := HM2.out.lt
  have l3 := HM3.out.lt
  have hbs := HB.out.size
  have hdz : wa.drew.heap.size = wa.heap.size := rfl
  have hx2 := HX2.out.size
  have hx3 := HX3.out.size
  have HTU := (HU1.out.trans HU2.out).trans HU3.out
  have HBs := Below.turned (B := w.heap.size) (Below.trans HB.out ((HB3.out).mono hbs)) HTU (fun i hi => by omega) (by have := HB3.out.size; omega)
  rw [hdz] at l1 HM1
  have m1 := ((HM1.out.below HX2.out).below HX3.out).block (HTU.block _ (by omega) (by omega))
  have m2 := (HM2.out.below HX3.out).block (HTU.block _ (by omega) (by omega))
  have m3 := HM3.out.block (HTU.block _ (by omega) (by omega))
  exact ⟨_, _, _, _, rfl, ⟨HS3.out, m1, ⟨T, m2, hT'⟩, ⟨W, m3, hW'⟩, ⟨by omega, by omega, by omega⟩⟩, by omega, by omega, by omega, by omega, HBs⟩
end Go.Proofs.YtkmpagijdhhinaaDoor

/- Books: a posting that is new is posted. -/
import Derived.Test.YtnfbhocppijbjaaDoorBooksMove
import Derived.Test.YtnfbhocppijbjaaDoorBooksCopy
import Derived.Test.YtnfbhocppijbjaaDoorRegionTill
namespace Go.Proofs.YtnfbhocppijbjaaDoor
open Go.RowKit Go.Maps Co

theorem over_four {b : List Po} {p : Po} (hp : mayP p) {E E' : List ((Int × Int) × Int)} (h : Over E (four b p) E') (hb : ∀ a o, lk E (a, o) = balI b a o) (a o : Int) : lk E' (a, o) = balI (b ++ [p]) a o := by
  by_cases hm : ∃ e ∈ four b p, e.1 = (a, o)
  · obtain ⟨⟨k, v⟩, he, e1⟩ := hm
    have e1 : k = (a, o) := e1
    subst e1
    rw [(h (a, o)).1 v he]
    exact four_keys he hp
  · have hn : ∀ e ∈ four b p, e.1 ≠ (a, o) := fun e he e1 => hm ⟨e, he, e1⟩
    rw [(h (a, o)).2 hn, hb]
    exact (not_four (j := (a, o)) hn).symm
theorem slook_no {w : World} {pm : Nat} {E : List (List UInt8 × Po)} (hE : MapL Tryd.prog tStrC mkStrC mkPost w pm E) {s : List UInt8} (hs : s.length ≤ 1000) (hn : ∀ e ∈ E, e.1 ≠ s) :
    (Instr.lookup tMapS (.map (some pm)) (.string ⟨s.toArray⟩) true).run Tryd.prog w = .ok (.tuple #[mkPost ⟨[], 0, 0, 0, 0⟩, .bool false]) w := by
  obtain ⟨l, hl⟩ := str_readsC s hs
  rcases hE.look lawStrC mapS (zeroPost w) hl (mkStr_injC _) with ⟨v, hv, _, hr⟩ | ⟨_, hr, _⟩
  · exact absurd rfl (hn _ hv)
  · exact hr
theorem set3_0 {w : World} {b : Nat} {x0 x1 x2 : Value} {T : TypeId} (h : w.heap[b]? = some (.cells #[x0, x1, x2] T (0, 0))) (p : Value) : (w.setCell ⟨b, 0, none⟩ p).heap[b]? = some (.cells #[p, x1, x2] T (0, 0)) := by
  simp [World.setCell, Array.getElem?_modify, h]
set_option linter.unusedSimpArgs false in
set_option linter.unusedVariables false in
set_option maxRecDepth 100000 in
set_option maxHeartbeats 8000000 in
theorem bpost_any {B : Nat} {w : World} {bb pm bm : Nat} {vb : Value} {b : List Po} (h : Bw B w bb pm bm vb b) (p : Po) (hp : mayP p) (hf : ∀ x ∈ b, x.id ≠ p.id) (hl : b.length ≤ 100000) :
    Calls Tryd.prog 19 #[.pointer (some ⟨bb, 0, none⟩), mkPost p] w fun e w' => ∃ vb', e = .returned (.int .i64 0) ∧ Bw B w' bb pm bm vb' (b ++ [p]) ∧ Turned (Bs bb pm bm vb) w w' ∧ ∀ j, vb'.ownBlock = some j → vb.ownBlock = some j ∨ w.heap.size ≤ j := by
  obtain ⟨i0, hi, hz0, hz1, hz2⟩ := info_parts post_info
  obtain ⟨Ab, cb, rfl, _⟩ := own_slice h.ob
  have HOL := Lib.hid (fun j hj => (h.ob.lt j hj).2)
  have hlt := h.lt
  have hne := h.ne
  have hge := h.ge
  have hoo := h.oo
  obtain ⟨Ep, hEp, hEl, hEi⟩ := h.mp
  obtain ⟨Eb, hEb, hEbl, hEbal⟩ := h.mb
  have HBAL := Lib.hid hEbal
  have HNO := Lib.hid (fun e (he : e ∈ Ep) => (show e.1 ≠ p.id from fun e1 => by obtain ⟨x, hx, e2⟩ := hEi e he; exact hf x hx (e2.trans e1)))
  have hid : p.id.length ≤ 1000 := hp.2.1
  obtain ⟨wa, hA⟩ : ∃ wa, wa = w.alloc (.cells #[.string ⟨p.id.toArray⟩, .int .i64 p.ord, .int .i64 p.deb, .int .i64 p.cre, .int .i64 p.amt] tPost) := ⟨_, rfl⟩
  have hB : Below w.heap.size w wa := by rw [hA]; exact below_alloc _ _
  have hX : wa.heap[w.heap.size]? = some (.cells #[.string ⟨p.id.toArray⟩, .int .i64 p.ord, .int .i64 p.deb, .int .i64 p.cre, .int .i64 p.amt] tPost (0, 0)) := by rw [hA]; exact heap_new _ _
  have HA := Lib.hid hA; have HB := Lib.hid hB; have HX := Lib.hid hX; have HW := Lib.hid (h.below hB); have HP := Lib.hid hp; have HEI := Lib.hid hEi; have HOK := Lib.hid h.ok
  have HEp := Lib.hid (hEp.below hB); have HEb := Lib.hid (hEb.below hB)
  clear hA hB hX h hp hEi hEp hEb hEbal hf
  obtain ⟨m0, m1, m2, m3, m4⟩ := cell5 HX.out
  obtain ⟨c0, c1, c2⟩ := cell3c HW.out.hd
  have hxlt := heap_lt HX.out
  go_enter Tryd.func19, Tryd.ntmps19
  go_upto_region 1 with (fail)
  rw [← HA.out]
  go_wp2_with (go_at_call 31; refine (bnone_any HW.out).mono ?_; rintro e w1 ⟨rfl, hb⟩; subst hb)
  refine (bmay_any p wa HP.out).mono ?_
  rintro e w1 ⟨rfl, hb⟩
  have HB1 := Lib.hid (bch HB.out hb HB.out.size); have HX1 := Lib.hid (heap_keep HX.out hb); have HW1 := Lib.hid (HW.out.below hb); have HEp1 := Lib.hid (HEp.out.below hb); have HEb1 := Lib.hid (HEb.out.below hb)
  clear hb m0 m1 m2 m3 m4 c0 c1 c2 HX HW HEp HEb HB HA
  obtain ⟨m0, m1, m2, m3, m4⟩ := cell5 HX1.out
  obtain ⟨c0, c1, c2⟩ := cell3c HW1.out.hd
  have hxlt1 := heap_lt HX1.out
  go_wp2_with fail
  have HLK := Lib.hid (fun W (hb : Below w1.heap.size w1 W) => slook_no (HEp1.out.below hb) hid HNO.out)
  have HH := Lib.hid (fun W (hb : Below w1.heap.size w1 W) => (⟨Lib.hid hb, (hb.cell (World.block_lt_of_cell? w1 _ c1)).trans c1, (hb.cell (World.block_lt_of_cell? w1 _ m0)).trans m0⟩ : (fun w' => Hid (Below w1.heap.size w1 w') ∧ w'.cell? ⟨bb, 1, none⟩ = some (.map (some pm)) ∧ w'.cell? ⟨w.heap.size, 0, none⟩ = some (.string ⟨p.id.toArray⟩)) W))
  refine wp_region_noPanic ?_
  refine wp_region_held_drew (S := (fun w' => Hid (Below w1.heap.size w1 w') ∧ w'.cell? ⟨bb, 1, none⟩ = some (.map (some pm)) ∧ w'.cell? ⟨w.heap.size, 0, none⟩ = some (.string ⟨p.id.toArray⟩))) (by kernel_rfl) (HH.out _ (below_drew1 (Below.refl w1.heap.size w1))) (fun hHeld => ?_)
  refine wpAnyH_take (i := 0) (v := ?vc0_1) rfl (by kernel_rfl) (by kernel_rfl) (by kernel_rfl) (fun _ _ _ h => h) (Or.inl ⟨by rfl, ?hyc0_1⟩) (by assumption) ?restc0_1
  case hyc0_1 => (intro w0 hSw; (try dsimp only at hSw); go_simp; try with_reducible rfl)
  case' restc0_1 => try simp only [Act.put, List.getElem_toArray, List.getElem_cons_zero, List.getElem_cons_succ, List.setIfInBounds_toArray, List.set_cons_zero, List.set_cons_succ]
  refine wpAnyH_take (i := 1) (v := ?vc1_2) rfl (by kernel_rfl) (by kernel_rfl) (by kernel_rfl) (fun _ _ _ h => h) (Or.inl ⟨by rfl, ?hyc1_2⟩) (by assumption) ?restc1_2
  case hyc1_2 => (intro w0 hSw; (try dsimp only at hSw); go_simp; try with_reducible rfl)
  case' restc1_2 => try simp only [Act.put, List.getElem_toArray, List.getElem_cons_zero, List.getElem_cons_succ, List.setIfInBounds_toArray, List.set_cons_zero, List.set_cons_succ]
  refine wpAnyH_take (i := 2) (v := ?vc2_3) rfl (by kernel_rfl) (by kernel_rfl) (by kernel_rfl) (fun _ _ _ h => h) (Or.inl ⟨by rfl, ?hyc2_3⟩) (by assumption) ?restc2_3
  case hyc2_3 => (intro w0 hSw; (try dsimp only at hSw); go_simp; try with_reducible rfl)
  case' restc2_3 => try simp only [Act.put, List.getElem_toArray, List.getElem_cons_zero, List.getElem_cons_succ, List.setIfInBounds_toArray, List.set_cons_zero, List.set_cons_succ]
  refine wpAnyH_take (i := 3) (v := ?vc3_4) rfl (by kernel_rfl) (by kernel_rfl) (by kernel_rfl) (fun _ _ _ h => h) (Or.inl ⟨by rfl, ?hyc3_4⟩) (by assumption) ?restc3_4
  case hyc3_4 => (intro w0 hSw; (try dsimp only at hSw); go_simp; try with_reducible rfl)
  case' restc3_4 => try simp only [Act.put, List.getElem_toArray, List.getElem_cons_zero, List.getElem_cons_succ, List.setIfInBounds_toArray, List.set_cons_zero, List.set_cons_succ]
  refine wpAnyH_take (i := 4) (v := ?vc4_5) rfl (by kernel_rfl) (by kernel_rfl) (by kernel_rfl) (fun _ _ _ h => h) (Or.inl ⟨by rfl, ?hyc4_5⟩) (by assumption) ?restc4_5
  case hyc4_5 => (intro w0 hSw; (try dsimp only at hSw); go_simp; try with_reducible rfl)
  case' restc4_5 => try simp only [Act.put, List.getElem_toArray, List.getElem_cons_zero, List.getElem_cons_succ, List.setIfInBounds_toArray, List.set_cons_zero, List.set_cons_succ]
  refine wpAnyH_take (i := 5) (v := ?vc5_6) rfl (by kernel_rfl) (by kernel_rfl) (by kernel_rfl) (fun _ _ _ h => h) (Or.inl ⟨by rfl, ?hyc5_6⟩) (by assumption) ?restc5_6
  case hyc5_6 => (intro w0 hSw; (try dsimp only at hSw); go_simp; try with_reducible rfl)
  case' restc5_6 => try simp only [Act.put, List.getElem_toArray, List.getElem_cons_zero, List.getElem_cons_succ, List.setIfInBounds_toArray, List.set_cons_zero, List.set_cons_succ]
  refine wpAnyH_take (i := 6) (v := ?vc6_7) rfl (by kernel_rfl) (by kernel_rfl) (by kernel_rfl) (fun _ _ _ h => h) (Or.inl ⟨by rfl, ?hyc6_7⟩) (by assumption) ?restc6_7
  case hyc6_7 => (intro w0 hSw; (try dsimp only at hSw); go_simp; rw [HLK.out w0 (Hid.out hSw.1)]; rfl)
  case' restc6_7 => try simp only [Act.put, List.getElem_toArray, List.getElem_cons_zero, List.getElem_cons_succ, List.setIfInBounds_toArray, List.set_cons_zero, List.set_cons_succ]
  refine wpAnyH_take (i := 7) (v := ?vc7_8) rfl (by kernel_rfl) (by kernel_rfl) (by kernel_rfl) (fun _ _ _ h => h) (Or.inl ⟨by rfl, ?hyc7_8⟩) (by assumption) ?restc7_8
  case hyc7_8 => (intro w0 hSw; (try dsimp only at hSw); go_simp; try with_reducible rfl)
  case' restc7_8 => try simp only [Act.put, List.getElem_toArray, List.getElem_cons_zero, List.getElem_cons_succ, List.setIfInBounds_toArray, List.set_cons_zero, List.set_cons_succ]
  refine wpAnyH_take (i := 8) (v := ?vc8_9) rfl (by kernel_rfl) (by kernel_rfl) (by kernel_rfl) (fun _ _ _ h => h) (Or.inl ⟨by rfl, ?hyc8_9⟩) (by assumption) ?restc8_9
  case hyc8_9 => (intro w0 hSw; (try dsimp only at hSw); go_simp; try with_reducible rfl)
  case' restc8_9 => try simp only [Act.put, List.getElem_toArray, List.getElem_cons_zero, List.getElem_cons_succ, List.setIfInBounds_toArray, List.set_cons_zero, List.set_cons_succ]
  refine wpAnyH_take (i := 9) (v := ?vc9_10) rfl (by kernel_rfl) (by kernel_rfl) (by kernel_rfl) (fun _ _ _ h => h) (Or.inl ⟨by rfl, ?hyc9_10⟩) (by assumption) ?restc9_10
  case hyc9_10 => (intro w0 hSw; (try dsimp only at hSw); go_simp; try with_reducible rfl)
  case' restc9_10 => try simp only [Act.put, List.getElem_toArray, List.getElem_cons_zero, List.getElem_cons_succ, List.setIfInBounds_toArray, List.set_cons_zero, List.set_cons_succ]
  refine wpAnyH_ready (rs := [10]) (by kernel_rfl) (by simp) ?_
  refine AllReadyH.cons rfl (fun K hK => ?_) AllReadyH.nil
  go_simp
  refine hK.out _ _ (HH.out _ (bch (below_drew1 (Below.refl w1.heap.size w1)) (below_alloc w1.drew _) (Nat.le_refl _))) (fun hHeld => ?_)
  clear hK K
  try simp only [Act.put, List.getElem_toArray, List.getElem_cons_zero, List.getElem_cons_succ, List.setIfInBounds_toArray, List.set_cons_zero, List.set_cons_succ]
  refine wpAnyH_ready (rs := [11]) (by kernel_rfl) (by simp) ?_
  refine AllReadyH.cons rfl (fun K hK => ?_) AllReadyH.nil
  go_simp
  refine hK.out _ _ (HH.out _ (bch (below_drew1 (Below.refl w1.heap.size w1)) (below_alloc w1.drew _) (Nat.le_refl _))) (fun hHeld => ?_)
  clear hK K
  try simp only [Act.put, List.getElem_toArray, List.getElem_cons_zero, List.getElem_cons_succ, List.setIfInBounds_toArray, List.set_cons_zero, List.set_cons_succ]
  refine wpAnyH_take (i := 12) (v := ?vc12_11) rfl (by kernel_rfl) (by kernel_rfl) (by kernel_rfl) (fun _ _ _ h => h) (Or.inl ⟨by rfl, ?hyc12_11⟩) (by assumption) ?restc12_11
  case hyc12_11 => (intro w0 hSw; (try dsimp only at hSw); go_simp; try with_reducible rfl)
  case' restc12_11 => try simp only [Act.put, List.getElem_toArray, List.getElem_cons_zero, List.getElem_cons_succ, List.setIfInBounds_toArray, List.set_cons_zero, List.set_cons_succ]
  refine wpAnyH_done (by kernel_rfl) ?_ _
  refine NoPanic.normal ?_
  obtain ⟨w2, hw2⟩ : ∃ w2, w2 = (w1.alloc (.cells #[.string ⟨#[]⟩, .int .i64 0, .int .i64 0, .int .i64 0, .int .i64 0] tPost)).drew := ⟨_, rfl⟩
  rw [← hw2]
  have hb2 : Below w1.heap.size w1 w2 := by rw [hw2]; exact below_drew1' (below_alloc _ _)
  have HB2 := Lib.hid (bch HB1.out hb2 HB1.out.size); have HX2 := Lib.hid (heap_keep HX1.out hb2); have HW2 := Lib.hid (HW1.out.below hb2); have HEp2 := Lib.hid (HEp1.out.below hb2); have HEb2 := Lib.hid (HEb1.out.below hb2)
  clear hw2 hb2 hHeld HH HLK m0 m1 m2 m3 m4 c0 c1 c2 HB1 HX1 HW1 HEp1 HEb1
  obtain ⟨m0, m1, m2, m3, m4⟩ := cell5 HX2.out
  obtain ⟨c0, c1, c2⟩ := cell3c HW2.out.hd
  go_wp2_with fail
  refine (bmoves_any HW2.out p HP.out hl).mono ?_
  rintro e w3 ⟨mo, rfl, hmo, hM, hb⟩
  have HB3 := Lib.hid (bch HB2.out hb HB2.out.size); have HX3 := Lib.hid (heap_keep HX2.out hb); have HW3 := Lib.hid (HW2.out.below hb); have HEp3 := Lib.hid (HEp2.out.below hb); have HEb3 := Lib.hid (HEb2.out.below hb); have HM3 := Lib.hid hM
  have hbm3 : bm ≠ mo := by have := HEb2.out.lt; omega
  clear hb hM m0 m1 m2 m3 m4 c0 c1 c2 HB2 HX2 HW2 HEp2 HEb2
  obtain ⟨c0, c1, c2⟩ := cell3c HW3.out.hd
  go_wp2_with fail
  refine (bcopy_any HEb3.out HM3.out hbm3 (by unfold four maxLen; simp only [List.length_cons, List.length_nil]; omega)).mono ?_
  rintro e w4 ⟨⟨v, rfl⟩, E', hE', hEl', hOv, ht⟩
  have HO4 := Lib.hid (own_turned HW3.out.ob ht (fun j hj hs => (hoo j hj).2.2 hs))
  have HD4 := Lib.hid (heap_turned HW3.out.hd ht (by omega))
  have hxb : w.heap.size ≠ bm := by omega
  have HX4 := Lib.hid (heap_turned HX3.out ht hxb)
  have HEp4 := Lib.hid (HEp3.out.block (ht.block pm HEp3.out.lt hne.2.2))
  have HE4 := Lib.hid hE'
  have HNB := Lib.hid (over_four HP.out hOv HBAL.out)
  have hE'l : E'.length ≤ 4 * b.length + 4 := by simp only [four, List.length_cons, List.length_nil] at hEl'; omega
  have HT4 := Lib.hid (show Turned (Bs bb pm bm (.slice Ab b.length cb)) w w4 from (Turned.of_below HB3.out).trans (ht.mono (fun i h => .inr (.inr (.inl h)))))
  clear ht hE' hEl' hOv HX3 HW3 HEp3 HEb3 HM3 c0 c1 c2
  obtain ⟨m0, m1, m2, m3, m4⟩ := cell5 HX4.out
  obtain ⟨c0, c1, c2⟩ := cell3c HD4.out
  go_wp2_with fail
  refine wp_region_still_tail 7 (by kernel_rfl) (by kernel_rfl) ?_
  simp only [List.take_succ_cons, List.take_zero, List.drop_succ_cons, List.drop_zero]
  iterate 7 still_step
  refine wpStill_nil ?_
  change wpList _ _ _ _ _ w4.drew
  obtain ⟨kl, hkl⟩ := str_readsC p.id hid
  refine wpList_storeL _ rfl (.tmp 47) (.tmp 49) (.tmp 50) tMapS rfl tStrC tPost lawStrC mapS pm Ep rfl (HEp4.out.block rfl) (by unfold maxLen; omega) p.id p rfl rfl hkl (mkStr_injC _) ?_
  intro w5 hm5 ht5
  have ht45 : Turned (fun j => j = pm) w4 w5 := (Turned.refl _ w4).drew.trans (Turned.of_grown ht5.grown (fun j h => by injection h with h; exact h.symm))
  have HO5 := Lib.hid (own_turned HO4.out ht45 (fun j hj hs => (hoo j hj).2.1 hs))
  have HD5 := Lib.hid (heap_turned HD4.out ht45 (by omega))
  have hxp : w.heap.size ≠ pm := by omega
  have HX5 := Lib.hid (heap_turned HX4.out ht45 hxp)
  have HE5 := Lib.hid (HE4.out.block (ht45.block bm HE4.out.lt (fun e => hne.2.2 e.symm)))
  have HM5 := Lib.hid hm5
  have HT5 := Lib.hid (HT4.out.trans (ht45.mono (fun i h => .inr (.inl h))))
  clear hm5 ht5 ht45 hkl m0 m1 m2 m3 m4 c0 c1 c2 HO4 HD4 HX4 HE4 HT4 HEp4
  have hs5 : w.heap.size ≤ w5.heap.size := HT5.out.size
  obtain ⟨m0, m1, m2, m3, m4⟩ := cell5 HX5.out
  obtain ⟨c0, c1, c2⟩ := cell3c HD5.out
  go_wp2_with fail
  have hxo : ¬ Value.ownBlock (.slice Ab b.length cb) = some w.heap.size := fun e => by have := (HO5.out.lt _ e); have h2 := HOL.out _ e; omega
  have hbo : ¬ Value.ownBlock (.slice Ab b.length cb) = some bb := fun e => (hoo _ e).1 rfl
  have HH := Lib.hid (fun W (hb : Turned (fun j => Value.ownBlock (.slice Ab b.length cb) = some j) w5 W) => (⟨Lib.hid hb, cell_at (heap_turned HD5.out hb hbo) 0 rfl, cell_at (heap_turned HX5.out hb hxo) 0 rfl, cell_at (heap_turned HX5.out hb hxo) 1 rfl, cell_at (heap_turned HX5.out hb hxo) 2 rfl, cell_at (heap_turned HX5.out hb hxo) 3 rfl, cell_at (heap_turned HX5.out hb hxo) 4 rfl⟩ : (fun w' => Hid (Turned (fun j => Value.ownBlock (.slice Ab b.length cb) = some j) w5 w') ∧ w'.cell? ⟨bb, 0, none⟩ = some (.slice Ab b.length cb) ∧ w'.cell? ⟨w.heap.size, 0, none⟩ = some (.string ⟨p.id.toArray⟩) ∧ w'.cell? ⟨w.heap.size, 1, none⟩ = some (.int .i64 p.ord) ∧ w'.cell? ⟨w.heap.size, 2, none⟩ = some (.int .i64 p.deb) ∧ w'.cell? ⟨w.heap.size, 3, none⟩ = some (.int .i64 p.cre) ∧ w'.cell? ⟨w.heap.size, 4, none⟩ = some (.int .i64 p.amt)) W))
  refine wp_region_noPanic ?_
  refine wp_region_till 10 (fun _ => True) (fun w' => Hid (Turned (fun j => Value.ownBlock (.slice Ab b.length cb) = some j) w5 w') ∧ w'.cell? ⟨bb, 0, none⟩ = some (.slice Ab b.length cb) ∧ w'.cell? ⟨w.heap.size, 0, none⟩ = some (.string ⟨p.id.toArray⟩) ∧ w'.cell? ⟨w.heap.size, 1, none⟩ = some (.int .i64 p.ord) ∧ w'.cell? ⟨w.heap.size, 2, none⟩ = some (.int .i64 p.deb) ∧ w'.cell? ⟨w.heap.size, 3, none⟩ = some (.int .i64 p.cre) ∧ w'.cell? ⟨w.heap.size, 4, none⟩ = some (.int .i64 p.amt)) (by kernel_rfl) (HH.out _ ((Turned.refl _ w5).drew)) (fun hHeld => ?_)
  refine wpAnyT_go (i := 0) (v := ?vt0_1) rfl (by kernel_rfl) (by kernel_rfl) (by kernel_rfl) (fun _ _ _ h => h) (by kernel_rfl) (Or.inl ⟨by rfl, ?hyt0_1⟩) (by assumption) ?restt0_1
  case hyt0_1 => (intro w0 hSw; (try dsimp only at hSw); go_simp; try with_reducible rfl)
  case' restt0_1 => try simp only [Act.put, List.getElem_toArray, List.getElem_cons_zero, List.getElem_cons_succ, List.setIfInBounds_toArray, List.set_cons_zero, List.set_cons_succ]
  refine wpAnyT_go (i := 1) (v := ?vt1_2) rfl (by kernel_rfl) (by kernel_rfl) (by kernel_rfl) (fun _ _ _ h => h) (by kernel_rfl) (Or.inl ⟨by rfl, ?hyt1_2⟩) (by assumption) ?restt1_2
  case hyt1_2 => (intro w0 hSw; (try dsimp only at hSw); go_simp; try with_reducible rfl)
  case' restt1_2 => try simp only [Act.put, List.getElem_toArray, List.getElem_cons_zero, List.getElem_cons_succ, List.setIfInBounds_toArray, List.set_cons_zero, List.set_cons_succ]
  refine wpAnyT_go (i := 2) (v := ?vt2_3) rfl (by kernel_rfl) (by kernel_rfl) (by kernel_rfl) (fun _ _ _ h => h) (by kernel_rfl) (Or.inl ⟨by rfl, ?hyt2_3⟩) (by assumption) ?restt2_3
  case hyt2_3 => (intro w0 hSw; (try dsimp only at hSw); go_simp; try with_reducible rfl)
  case' restt2_3 => try simp only [Act.put, List.getElem_toArray, List.getElem_cons_zero, List.getElem_cons_succ, List.setIfInBounds_toArray, List.set_cons_zero, List.set_cons_succ]
  refine wpAnyT_go (i := 3) (v := ?vt3_4) rfl (by kernel_rfl) (by kernel_rfl) (by kernel_rfl) (fun _ _ _ h => h) (by kernel_rfl) (Or.inl ⟨by rfl, ?hyt3_4⟩) (by assumption) ?restt3_4
  case hyt3_4 => (intro w0 hSw; (try dsimp only at hSw); go_simp; try with_reducible rfl)
  case' restt3_4 => try simp only [Act.put, List.getElem_toArray, List.getElem_cons_zero, List.getElem_cons_succ, List.setIfInBounds_toArray, List.set_cons_zero, List.set_cons_succ]
  refine wpAnyT_go (i := 4) (v := ?vt4_5) rfl (by kernel_rfl) (by kernel_rfl) (by kernel_rfl) (fun _ _ _ h => h) (by kernel_rfl) (Or.inl ⟨by rfl, ?hyt4_5⟩) (by assumption) ?restt4_5
  case hyt4_5 => (intro w0 hSw; (try dsimp only at hSw); go_simp; try with_reducible rfl)
  case' restt4_5 => try simp only [Act.put, List.getElem_toArray, List.getElem_cons_zero, List.getElem_cons_succ, List.setIfInBounds_toArray, List.set_cons_zero, List.set_cons_succ]
  refine wpAnyT_go (i := 5) (v := ?vt5_6) rfl (by kernel_rfl) (by kernel_rfl) (by kernel_rfl) (fun _ _ _ h => h) (by kernel_rfl) (Or.inl ⟨by rfl, ?hyt5_6⟩) (by assumption) ?restt5_6
  case hyt5_6 => (intro w0 hSw; (try dsimp only at hSw); go_simp; try with_reducible rfl)
  case' restt5_6 => try simp only [Act.put, List.getElem_toArray, List.getElem_cons_zero, List.getElem_cons_succ, List.setIfInBounds_toArray, List.set_cons_zero, List.set_cons_succ]
  refine wpAnyT_ready (rs := [6]) (by kernel_rfl) (by simp) ?_
  refine AllReadyT.cons rfl (by kernel_rfl) (fun K hK => ?_) AllReadyT.nil
  go_simp
  refine hK.out _ _ (HH.out _ ((Turned.refl _ w5).drew.trans (Turned.of_below (below_alloc _ _)))) (fun hHeld => ?_)
  clear hK K
  try simp only [Act.put, List.getElem_toArray, List.getElem_cons_zero, List.getElem_cons_succ, List.setIfInBounds_toArray, List.set_cons_zero, List.set_cons_succ]
  refine wpAnyT_ready (rs := [7]) (by kernel_rfl) (by simp) ?_
  refine AllReadyT.cons rfl (by kernel_rfl) (fun K hK => ?_) AllReadyT.nil
  refine step_append_any _ rfl (.tmp 55) (.tmp 57) tPosts rfl B tPost i0 (mkPost ⟨[], 0, 0, 0, 0⟩) 5 48 Tryd.underlying39 hi hz0 hz1 hz2 rfl (by decide) (.slice Ab b.length cb) b.length (b.flatMap encP) rfl (World.ownsRow.alloc (w := w5.drew) (own_turned HO5.out (Turned.refl (fun _ => False) w5).drew (fun _ _ h => h)) _) 1 (encP p) (src_blk (xs := encP p) (heap_new _ _) (encP_one _)) (by unfold maxLen; omega) (by omega) (by have := HD5.out; have := heap_lt this; simp; omega) ?_
  intro v6 w6 ho6 hg6 hat6
  have ht6 : Turned (fun j => Value.ownBlock (.slice Ab b.length cb) = some j) w5 w6 := ((Turned.refl _ w5).drew.trans (Turned.of_below (below_alloc _ _))).trans (Turned.of_grown hg6 (fun j h => h))
  obtain ⟨A6, c6, rfl, _⟩ := own_slice ho6
  refine hK.out _ _ (HH.out _ (ht6)) (fun hHeld => ?_)
  clear hK K
  try simp only [Act.put, List.getElem_toArray, List.getElem_cons_zero, List.getElem_cons_succ, List.setIfInBounds_toArray, List.set_cons_zero, List.set_cons_succ]
  refine wpAnyT_go (i := 8) (v := ?vt8_7) rfl (by kernel_rfl) (by kernel_rfl) (by kernel_rfl) (fun _ _ _ h => h) (by kernel_rfl) (Or.inl ⟨by rfl, ?hyt8_7⟩) (by assumption) ?restt8_7
  case hyt8_7 => (intro w0 hSw; (try dsimp only at hSw); go_simp; try with_reducible rfl)
  case' restt8_7 => try simp only [Act.put, List.getElem_toArray, List.getElem_cons_zero, List.getElem_cons_succ, List.setIfInBounds_toArray, List.set_cons_zero, List.set_cons_succ]
  refine wpAnyT_go (i := 9) (v := ?vt9_8) rfl (by kernel_rfl) (by kernel_rfl) (by kernel_rfl) (fun _ _ _ h => h) (by kernel_rfl) (Or.inl ⟨by rfl, ?hyt9_8⟩) (by assumption) ?restt9_8
  case hyt9_8 => (intro w0 hSw; (try dsimp only at hSw); go_simp; try with_reducible rfl)
  case' restt9_8 => try simp only [Act.put, List.getElem_toArray, List.getElem_cons_zero, List.getElem_cons_succ, List.setIfInBounds_toArray, List.set_cons_zero, List.set_cons_succ]
  have HD6 := Lib.hid (heap_turned HD5.out ht6 hbo)
  obtain ⟨y0, y1, y2⟩ := cell3c HD6.out
  obtain ⟨f0, f1, f2⟩ := froz3 HD6.out
  refine wpAnyT_ready (rs := [10]) (by kernel_rfl) (by simp) ?_
  refine AllReadyT.last rfl (by kernel_rfl) (fun K hK => ?_) AllReadyT.nil
  go_simp
  refine hK.out _ _ trivial (fun hHeld => ?_)
  clear hK K
  try simp only [Act.put, List.getElem_toArray, List.getElem_cons_zero, List.getElem_cons_succ, List.setIfInBounds_toArray, List.set_cons_zero, List.set_cons_succ]
  refine wpAnyT_done (by kernel_rfl) ?_ _
  refine NoPanic.normal ?_
  have ht7 := turned_set w6 bb 0 (.slice A6 (b.length + 1) c6)
  have hfar6 : ∀ j, Value.ownBlock (.slice A6 (b.length + 1) c6) = some j → Value.ownBlock (.slice Ab b.length cb) = some j ∨ w.heap.size ≤ j := fun j hj => by rcases hat6 with h | h; (exact .inl (by rw [← h]; exact hj)); (right; rw [hj] at h; injection h with h; simp at h; omega)
  have HNEW := Lib.hid (show Bw B (w6.setCell ⟨bb, 0, none⟩ (.slice A6 (b.length + 1) c6)) bb pm bm (.slice A6 (b.length + 1) c6) (b ++ [p]) from {
    hd := set3_0 HD6.out _
    ob := own_turned (by rw [List.length_append, List.flatMap_append]; simpa using ho6) ht7 (fun j hj hs => by rcases hfar6 j hj with h | h; (exact (hoo j h).1 hs); omega)
    mp := ⟨_, (HM5.out.block (ht6.block pm HM5.out.lt (fun e => (hoo _ e).2.1 rfl))).block (ht7.block pm (Nat.lt_of_lt_of_le HM5.out.lt ht6.size) (by omega)), by have := without_len Ep p.id; rw [List.length_cons, List.length_append, List.length_singleton]; omega, fun e he => by
        rcases List.mem_cons.1 he with rfl | he
        · exact ⟨p, by simp, rfl⟩
        · obtain ⟨x, hx, e2⟩ := HEI.out e (mem_without.1 he).1
          exact ⟨x, List.mem_append.2 (.inl hx), e2⟩⟩
    mb := ⟨E', (HE5.out.block (ht6.block bm HE5.out.lt (fun e => (hoo _ e).2.2 rfl))).block (ht7.block bm (Nat.lt_of_lt_of_le HE5.out.lt ht6.size) (by omega)), by rw [List.length_append, List.length_singleton]; omega, HNB.out⟩
    ge := hge
    ne := hne
    oo := fun j hj => by rcases hfar6 j hj with h | h; (exact hoo j h); omega
    ok := fun x hx => by rcases List.mem_append.1 hx with hx | hx; (exact HOK.out x hx); (rw [List.mem_singleton] at hx; rw [hx]; exact HP.out) })
  have HTN := Lib.hid (show Turned (Bs bb pm bm (.slice Ab b.length cb)) w (w6.setCell ⟨bb, 0, none⟩ (.slice A6 (b.length + 1) c6)) from (HT5.out.trans (ht6.mono (fun i h => .inr (.inr (.inr h))))).trans (ht7.mono (fun i h => .inl h)))
  have HFR := Lib.hid hfar6
  clear hHeld HH ht6 ht7 ho6 hg6 hat6 y0 y1 y2 f0 f1 f2 hfar6 m0 m1 m2 m3 m4 c0 c1 c2
  go_wp2_with fail
  go_ret
  exact ⟨_, rfl, HNEW.out, HTN.out, HFR.out⟩
end Go.Proofs.YtnfbhocppijbjaaDoor

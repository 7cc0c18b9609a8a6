/- Books: the balances that a posting changes. -/
import Derived.Test.YtnfbhocppijbjaaDoorBooksMem
import Derived.Test.YtnfbhocppijbjaaDoorMoneyWalk1
namespace Go.Proofs.YtnfbhocppijbjaaDoor
open Go.RowKit Go.Maps Co

theorem blook {w : World} {bm : Nat} {E : List ((Int × Int) × Int)} (hE : MapL Tryd.prog tSlot mkSlot mkI w bm E) (a o : Int) (ha : -9223372036854775808 ≤ a ∧ a ≤ 9223372036854775807) (ho : -9223372036854775808 ≤ o ∧ o ≤ 9223372036854775807) :
    (Instr.lookup tMapB (.map (some bm)) (.agg #[.int .i64 a, .int .i64 o]) false).run Tryd.prog w = .ok (.int .i64 (lk E (a, o))) w := by
  obtain ⟨l, hl⟩ := slot_reads (a, o) ⟨ha, ho⟩
  rcases hE.look lawSlot mapB (zeroI64 w) hl (mkSlot_inj _) with ⟨v, hv, _, hr⟩ | ⟨hn, _, hr⟩
  · rw [lk_mem (slots_nodup hE) hv]; exact hr
  · rw [lk_none hn]; exact hr
theorem ix0 (a b : Int) (W : World) : (Instr.index 108 (.agg #[.int .i64 a, .int .i64 b]) (.int .i64 0)).run Tryd.prog W = .ok (.int .i64 a) W := by kernel_rfl
theorem ix1 (a b : Int) (W : World) : (Instr.index 108 (.agg #[.int .i64 a, .int .i64 b]) (.int .i64 1)).run Tryd.prog W = .ok (.int .i64 b) W := by kernel_rfl
def fourK (b : List Po) (p : Po) (n : Nat) : List ((Int × Int) × Int) := if n = 0 then [] else if n = 1 then [((p.cre, 0), balI b p.cre 0 - p.amt), ((p.deb, 0), balI b p.deb 0 + p.amt)] else four b p
theorem four_one {b : List Po} {p : Po} (h : mayP p) : ((p.cre, (0 : Int)), balI b p.cre 0 - p.amt) :: without (((p.deb, (0 : Int)), balI b p.deb 0 + p.amt) :: without (fourK b p 0) (p.deb, 0)) (p.cre, 0) = fourK b p 1 := by
  have hn : p.deb ≠ p.cre := h.2.2.2.2.2.2.2.2.1
  simp [fourK, without, hn]
theorem four_two {b : List Po} {p : Po} (h : mayP p) : ((p.cre, p.ord), balI b p.cre p.ord - p.amt) :: without (((p.deb, p.ord), balI b p.deb p.ord + p.amt) :: without (fourK b p 1) (p.deb, p.ord)) (p.cre, p.ord) = fourK b p 2 := by
  have hn : p.deb ≠ p.cre := h.2.2.2.2.2.2.2.2.1
  have h0 : (0 : Int) ≠ p.ord := by have := h.2.2.1; omega
  have h1 : p.cre ≠ p.deb := fun e => hn e.symm
  simp [fourK, four, without, hn, h0, h1]
theorem pair_add {a b : Int} (h : -9223372036854775808 ≤ a + b ∧ a + b ≤ 9223372036854775807) : pairV (Mon.addM a b) = .tuple #[.int .i64 (a + b), .bool true] := by
  unfold Mon.addM; rw [if_pos (show Mon.InR (a + b) from h)]; rfl
theorem pair_sub {a b : Int} (h : -9223372036854775808 ≤ a - b ∧ a - b ≤ 9223372036854775807) : pairV (Mon.subM a b) = .tuple #[.int .i64 (a - b), .bool true] := by
  unfold Mon.subM; rw [if_pos (show Mon.InR (a - b) from h)]; rfl
set_option linter.unusedSimpArgs false in
set_option linter.unusedVariables false in
set_option maxRecDepth 100000 in
set_option maxHeartbeats 8000000 in
theorem bmoves_any {B : Nat} {w : World} {bb pm bm : Nat} {vb : Value} {b : List Po} (h : Bw B w bb pm bm vb b) (p : Po) (hp : mayP p) (hl : b.length ≤ 100000) :
    Calls Tryd.prog 39 #[.pointer (some ⟨bb, 0, none⟩), mkPost p] w fun e w' => ∃ mo, e = .returned (.tuple #[.map (some mo), .bool true]) ∧ w.heap.size ≤ mo ∧ MapL Tryd.prog tSlot mkSlot mkI w' mo (four b p) ∧ Below w.heap.size w w' := by
  have HP := Lib.hid hp
  obtain ⟨_, _, hp1, hp2, hp3, hp4, hp5, hp6, hp7, hp8, hp9⟩ := hp
  have hbl := h.lt
  obtain ⟨wa, hA⟩ : ∃ wa, wa = (w.alloc (.cells #[.string ⟨p.id.toArray⟩, .int .i64 p.ord, .int .i64 p.deb, .int .i64 p.cre, .int .i64 p.amt] tPost)).alloc (.map #[] 0) := ⟨_, rfl⟩
  have hB : Below w.heap.size w wa := by rw [hA]; exact (below_alloc w _).alloc (by simp) _
  have hX : wa.heap[w.heap.size]? = some (.cells #[.string ⟨p.id.toArray⟩, .int .i64 p.ord, .int .i64 p.deb, .int .i64 p.cre, .int .i64 p.amt] tPost (0, 0)) := by rw [hA]; exact heap_keep (heap_new w _) (below_alloc _ _)
  have hM : MapL Tryd.prog tSlot mkSlot mkI wa (w.heap.size + 1) (fourK b p 0) := by
    rw [hA]
    have := MapL.made Tryd.prog tSlot mkSlot mkI (w.alloc (.cells #[.string ⟨p.id.toArray⟩, .int .i64 p.ord, .int .i64 p.deb, .int .i64 p.cre, .int .i64 p.amt] tPost))
    rwa [show (w.alloc (.cells #[.string ⟨p.id.toArray⟩, .int .i64 p.ord, .int .i64 p.deb, .int .i64 p.cre, .int .i64 p.amt] tPost)).heap.size = w.heap.size + 1 by simp] at this
  have HA := Lib.hid hA; have HB := Lib.hid hB; have HX := Lib.hid hX; have HM := Lib.hid hM; have HW := Lib.hid h
  have hasz := hM.lt
  clear hA hB hX hM h
  have hmm := @run_makeMap Tryd.prog
  have hix0 := ix0
  have hix1 := ix1
  obtain ⟨m0, m1, m2, m3, m4⟩ := cell5 HX.out
  go_enter Tryd.func39, Tryd.ntmps39
  go_upto_region 2 with (fail)
  rw [← HA.out]
  go_wp2_with fail
  go_loopw [19] (fun i wr => ∃ n : Nat, i = .int .i64 n ∧ n ≤ 2 ∧ Hid (Turned (fun j => j = w.heap.size + 1) wa wr) ∧ Hid (MapL Tryd.prog tSlot mkSlot mkI wr (w.heap.size + 1) (fourK b p n))) (fun i _ => 2 - (intOf i).toNat)
  case atStart => exact ⟨0, rfl, by omega, Turned.refl _ _, HM.out⟩
  case round =>
    obtain ⟨n, rfl, hn2, HTr, HMr⟩ := hrel
    have hszr := HTr.out.size
    obtain rfl | rfl | rfl : n = 0 ∨ n = 1 ∨ n = 2 := by omega
    · have HXr := Lib.hid (heap_turned HX.out HTr.out (by omega))
      have HBr := Lib.hid (show Below w.heap.size w wr from Below.turned HB.out HTr.out (fun i h => by omega) HB.out.size)
      have HWr := Lib.hid (HW.out.below HBr.out)
      have hzlt := heap_lt HXr.out
      obtain ⟨m0, m1, m2, m3, m4⟩ := cell5 HXr.out
      obtain ⟨c0, c1, c2⟩ := cell3c HWr.out.hd
      go_wp2_with fail
      go_region
      · obtain ⟨w5, hw5⟩ : ∃ w5, w5 = ((wr.alloc (.cells #[.int .i64 p.deb, .int .i64 0] tSlot)).alloc (.cells #[.int .i64 p.cre, .int .i64 0] tSlot)).drew := ⟨_, rfl⟩
        rw [← hw5]
        have hb5 : Below wr.heap.size wr w5 := by rw [hw5]; exact below_drew1' (((below_alloc wr _)).alloc (by simp) _)
        have h51 : w5.heap[wr.heap.size]? = some (.cells #[.int .i64 p.deb, .int .i64 0] tSlot (0, 0)) := by rw [hw5]; exact heap_keep (heap_new wr _) (below_drew1' (below_alloc _ _))
        have h52 : w5.heap[wr.heap.size + 1]? = some (.cells #[.int .i64 p.cre, .int .i64 0] tSlot (0, 0)) := by rw [hw5]; have := heap_new (wr.alloc (.cells #[.int .i64 p.deb, .int .i64 0] tSlot)) (.cells #[.int .i64 p.cre, .int .i64 0] tSlot); rw [show (wr.alloc (.cells #[.int .i64 p.deb, .int .i64 0] tSlot)).heap.size = wr.heap.size + 1 by simp] at this; exact this
        have HT5 := Lib.hid (HTr.out.trans (Turned.of_below hb5)); have HM5 := Lib.hid (HMr.out.below hb5); have HX5 := Lib.hid (heap_keep HXr.out hb5); have HW5 := Lib.hid (HWr.out.below hb5)
        have hzz : w.heap.size + 1 < wr.heap.size := HMr.out.lt
        clear hw5 hb5 m0 m1 m2 m3 m4 c0 c1 c2
        obtain ⟨k1, hk1, hk1'⟩ : ∃ k1, k1 = wr.heap.size ∧ wr.heap.size ≤ k1 := ⟨_, rfl, by omega⟩
        obtain ⟨k2, hk2, hk2'⟩ : ∃ k2, k2 = wr.heap.size + 1 ∧ wr.heap.size ≤ k2 := ⟨_, rfl, by omega⟩
        rw [← hk1] at h51 ⊢; rw [← hk2] at h52; rw [show k1 + 1 = k2 by omega]
        have HK1 := Lib.hid h51; have HK2 := Lib.hid h52
        clear h51 h52 hk1 hk2
        obtain ⟨c0, c1, c2⟩ := cell3c HW5.out.hd
        obtain ⟨m0, m1, m2, m3, m4⟩ := cell5 HX5.out
        obtain ⟨x0, x1, _, _⟩ := cell2 HK1.out
        have HLK := Lib.hid (fun W (hb : Below w5.heap.size w5 W) => (show (Instr.lookup tMapB (.map (some bm)) (.agg #[.int .i64 p.deb, .int .i64 0]) false).run Tryd.prog W = .ok (.int .i64 (balI b p.deb 0)) W by obtain ⟨E, hE, _, hE2⟩ := (HW5.out.below hb).mb; rw [← hE2]; exact blook hE _ _ (by omega) (by omega)))
        have hbd := HW5.out.many hl p.deb 0
        have HCA := Lib.hid (fun W => (show Calls Tryd.prog 52 #[.int .i64 (balI b p.deb 0), .int .i64 p.amt] W fun e w' => e = .returned (.tuple #[.int .i64 (balI b p.deb 0 + p.amt), .bool true]) ∧ W = w' by rw [← pair_add (by omega)]; exact add_any _ _ W ⟨by omega, by omega⟩ ⟨by omega, by omega⟩))
        clear hbd
        go_wp2_with fail
        have HH := Lib.hid (fun W (hb : Below w5.heap.size w5 W) => (⟨Lib.hid hb, (hb.cell (World.block_lt_of_cell? w5 _ c2)).trans c2, (hb.cell (World.block_lt_of_cell? w5 _ m4)).trans m4, (hb.cell (World.block_lt_of_cell? w5 _ x0)).trans x0, (hb.cell (World.block_lt_of_cell? w5 _ x1)).trans x1⟩ : (fun w' => Hid (Below w5.heap.size w5 w') ∧ w'.cell? ⟨bb, 2, none⟩ = some (.map (some bm)) ∧ w'.cell? ⟨w.heap.size, 4, none⟩ = some (.int .i64 p.amt) ∧ w'.cell? ⟨k1, 0, none⟩ = some (.int .i64 p.deb) ∧ w'.cell? ⟨k1, 1, none⟩ = some (.int .i64 0)) W))
        refine wp_region_noPanic ?_
        refine wp_region_held_drew (S := (fun w' => Hid (Below w5.heap.size w5 w') ∧ w'.cell? ⟨bb, 2, none⟩ = some (.map (some bm)) ∧ w'.cell? ⟨w.heap.size, 4, none⟩ = some (.int .i64 p.amt) ∧ w'.cell? ⟨k1, 0, none⟩ = some (.int .i64 p.deb) ∧ w'.cell? ⟨k1, 1, none⟩ = some (.int .i64 0))) (by kernel_rfl) (HH.out _ (below_drew1 (Below.refl w5.heap.size w5))) (fun hHeld => ?_)
        refine wpAnyH_take (i := 0) (v := ?vc0_1) rfl (by kernel_rfl) (by kernel_rfl) (by kernel_rfl) (fun _ _ _ h => h) (Or.inl ⟨by rfl, ?hyc0_1⟩) (by assumption) ?restc0_1
        case hyc0_1 => (intro w0 hSw; (try dsimp only at hSw); go_simp; try with_reducible rfl)
        case' restc0_1 => try simp only [Act.put, List.getElem_toArray, List.getElem_cons_zero, List.getElem_cons_succ, List.setIfInBounds_toArray, List.set_cons_zero, List.set_cons_succ]
        refine wpAnyH_take (i := 1) (v := ?vc1_2) rfl (by kernel_rfl) (by kernel_rfl) (by kernel_rfl) (fun _ _ _ h => h) (Or.inl ⟨by rfl, ?hyc1_2⟩) (by assumption) ?restc1_2
        case hyc1_2 => (intro w0 hSw; (try dsimp only at hSw); go_simp; try with_reducible rfl)
        case' restc1_2 => try simp only [Act.put, List.getElem_toArray, List.getElem_cons_zero, List.getElem_cons_succ, List.setIfInBounds_toArray, List.set_cons_zero, List.set_cons_succ]
        refine wpAnyH_take (i := 2) (v := ?vc2_3) rfl (by kernel_rfl) (by kernel_rfl) (by kernel_rfl) (fun _ _ _ h => h) (Or.inl ⟨by rfl, ?hyc2_3⟩) (by assumption) ?restc2_3
        case hyc2_3 => (intro w0 hSw; (try dsimp only at hSw); go_simp; try with_reducible rfl)
        case' restc2_3 => try simp only [Act.put, List.getElem_toArray, List.getElem_cons_zero, List.getElem_cons_succ, List.setIfInBounds_toArray, List.set_cons_zero, List.set_cons_succ]
        refine wpAnyH_take (i := 3) (v := ?vc3_4) rfl (by kernel_rfl) (by kernel_rfl) (by kernel_rfl) (fun _ _ _ h => h) (Or.inl ⟨by rfl, ?hyc3_4⟩) (by assumption) ?restc3_4
        case hyc3_4 => (intro w0 hSw; (try dsimp only at hSw); go_simp; try with_reducible rfl)
        case' restc3_4 => try simp only [Act.put, List.getElem_toArray, List.getElem_cons_zero, List.getElem_cons_succ, List.setIfInBounds_toArray, List.set_cons_zero, List.set_cons_succ]
        refine wpAnyH_take (i := 4) (v := ?vc4_5) rfl (by kernel_rfl) (by kernel_rfl) (by kernel_rfl) (fun _ _ _ h => h) (Or.inl ⟨by rfl, ?hyc4_5⟩) (by assumption) ?restc4_5
        case hyc4_5 => (intro w0 hSw; (try dsimp only at hSw); go_simp; try with_reducible rfl)
        case' restc4_5 => try simp only [Act.put, List.getElem_toArray, List.getElem_cons_zero, List.getElem_cons_succ, List.setIfInBounds_toArray, List.set_cons_zero, List.set_cons_succ]
        refine wpAnyH_take (i := 5) (v := ?vc5_6) rfl (by kernel_rfl) (by kernel_rfl) (by kernel_rfl) (fun _ _ _ h => h) (Or.inl ⟨by rfl, ?hyc5_6⟩) (by assumption) ?restc5_6
        case hyc5_6 => (intro w0 hSw; (try dsimp only at hSw); go_simp; rw [HLK.out w0 (Hid.out hSw.1)]; rfl)
        case' restc5_6 => try simp only [Act.put, List.getElem_toArray, List.getElem_cons_zero, List.getElem_cons_succ, List.setIfInBounds_toArray, List.set_cons_zero, List.set_cons_succ]
        refine wpAnyH_take (i := 6) (v := ?vc6_7) rfl (by kernel_rfl) (by kernel_rfl) (by kernel_rfl) (fun _ _ _ h => h) (Or.inl ⟨by rfl, ?hyc6_7⟩) (by assumption) ?restc6_7
        case hyc6_7 => (intro w0 hSw; (try dsimp only at hSw); go_simp; try with_reducible rfl)
        case' restc6_7 => try simp only [Act.put, List.getElem_toArray, List.getElem_cons_zero, List.getElem_cons_succ, List.setIfInBounds_toArray, List.set_cons_zero, List.set_cons_succ]
        refine wpAnyH_take (i := 7) (v := ?vc7_8) rfl (by kernel_rfl) (by kernel_rfl) (by kernel_rfl) (fun _ _ _ h => h) (Or.inl ⟨by rfl, ?hyc7_8⟩) (by assumption) ?restc7_8
        case hyc7_8 => (intro w0 hSw; (try dsimp only at hSw); go_simp; try with_reducible rfl)
        case' restc7_8 => try simp only [Act.put, List.getElem_toArray, List.getElem_cons_zero, List.getElem_cons_succ, List.setIfInBounds_toArray, List.set_cons_zero, List.set_cons_succ]
        refine wpAnyH_ready (rs := [8]) (by kernel_rfl) (by simp) ?_
        refine AllReadyH.cons rfl (fun K hK => ?_) AllReadyH.nil
        go_simp
        refine (HCA.out _).mono ?_; rintro e w1 ⟨rfl, hb⟩; subst hb
        refine hK.out _ _ (by assumption) (fun hHeld => ?_)
        clear hK K
        try simp only [Act.put, List.getElem_toArray, List.getElem_cons_zero, List.getElem_cons_succ, List.setIfInBounds_toArray, List.set_cons_zero, List.set_cons_succ]
        refine wpAnyH_take (i := 9) (v := ?vc9_9) rfl (by kernel_rfl) (by kernel_rfl) (by kernel_rfl) (fun _ _ _ h => h) (Or.inl ⟨by rfl, ?hyc9_9⟩) (by assumption) ?restc9_9
        case hyc9_9 => (intro w0 hSw; (try dsimp only at hSw); go_simp; try with_reducible rfl)
        case' restc9_9 => try simp only [Act.put, List.getElem_toArray, List.getElem_cons_zero, List.getElem_cons_succ, List.setIfInBounds_toArray, List.set_cons_zero, List.set_cons_succ]
        refine wpAnyH_take (i := 10) (v := ?vc10_10) rfl (by kernel_rfl) (by kernel_rfl) (by kernel_rfl) (fun _ _ _ h => h) (Or.inl ⟨by rfl, ?hyc10_10⟩) (by assumption) ?restc10_10
        case hyc10_10 => (intro w0 hSw; (try dsimp only at hSw); go_simp; try with_reducible rfl)
        case' restc10_10 => try simp only [Act.put, List.getElem_toArray, List.getElem_cons_zero, List.getElem_cons_succ, List.setIfInBounds_toArray, List.set_cons_zero, List.set_cons_succ]
        refine wpAnyH_take (i := 11) (v := ?vc11_11) rfl (by kernel_rfl) (by kernel_rfl) (by kernel_rfl) (fun _ _ _ h => h) (Or.inl ⟨by rfl, ?hyc11_11⟩) (by assumption) ?restc11_11
        case hyc11_11 => (intro w0 hSw; (try dsimp only at hSw); go_simp; try with_reducible rfl)
        case' restc11_11 => try simp only [Act.put, List.getElem_toArray, List.getElem_cons_zero, List.getElem_cons_succ, List.setIfInBounds_toArray, List.set_cons_zero, List.set_cons_succ]
        refine wpAnyH_take (i := 12) (v := ?vc12_12) rfl (by kernel_rfl) (by kernel_rfl) (by kernel_rfl) (fun _ _ _ h => h) (Or.inl ⟨by rfl, ?hyc12_12⟩) (by assumption) ?restc12_12
        case hyc12_12 => (intro w0 hSw; (try dsimp only at hSw); go_simp; try with_reducible rfl)
        case' restc12_12 => try simp only [Act.put, List.getElem_toArray, List.getElem_cons_zero, List.getElem_cons_succ, List.setIfInBounds_toArray, List.set_cons_zero, List.set_cons_succ]
        refine wpAnyH_take (i := 13) (v := ?vc13_13) rfl (by kernel_rfl) (by kernel_rfl) (by kernel_rfl) (fun _ _ _ h => h) (Or.inl ⟨by rfl, ?hyc13_13⟩) (by assumption) ?restc13_13
        case hyc13_13 => (intro w0 hSw; (try dsimp only at hSw); go_simp; try with_reducible rfl)
        case' restc13_13 => try simp only [Act.put, List.getElem_toArray, List.getElem_cons_zero, List.getElem_cons_succ, List.setIfInBounds_toArray, List.set_cons_zero, List.set_cons_succ]
        refine wpAnyH_done (by kernel_rfl) ?_ _
        refine NoPanic.normal ?_
        obtain ⟨w6, hw6⟩ : ∃ w6, w6 = w5.drew := ⟨_, rfl⟩
        rw [← hw6]
        have hb6 : Below w5.heap.size w5 w6 := by rw [hw6]; exact below_drew1 (Below.refl _ _)
        have HT6 := Lib.hid (HT5.out.trans (Turned.of_below hb6)); have HM6 := Lib.hid (HM5.out.below hb6); have HX6 := Lib.hid (heap_keep HX5.out hb6); have HW6 := Lib.hid (HW5.out.below hb6); have HK16 := Lib.hid (heap_keep HK1.out hb6); have HK26 := Lib.hid (heap_keep HK2.out hb6)
        clear hw6 hb6 hHeld HH HLK HCA c0 c1 c2 m0 m1 m2 m3 m4 x0 x1 HT5 HM5 HX5 HW5 HK1 HK2
        have HT5 := Lib.hid HT6.out; have HM5 := Lib.hid HM6.out; have HX5 := Lib.hid HX6.out; have HW5 := Lib.hid HW6.out; have HK1 := Lib.hid HK16.out; have HK2 := Lib.hid HK26.out
        clear HT6 HM6 HX6 HW6 HK16 HK26
        generalize w6 = w5 at HT5 HM5 HX5 HW5 HK1 HK2 ⊢
        obtain ⟨c0, c1, c2⟩ := cell3c HW5.out.hd
        obtain ⟨m0, m1, m2, m3, m4⟩ := cell5 HX5.out
        obtain ⟨x0, x1, _, _⟩ := cell2 HK2.out
        have HLK := Lib.hid (fun W (hb : Below w5.heap.size w5 W) => (show (Instr.lookup tMapB (.map (some bm)) (.agg #[.int .i64 p.cre, .int .i64 0]) false).run Tryd.prog W = .ok (.int .i64 (balI b p.cre 0)) W by obtain ⟨E, hE, _, hE2⟩ := (HW5.out.below hb).mb; rw [← hE2]; exact blook hE _ _ (by omega) (by omega)))
        have hbd := HW5.out.many hl p.cre 0
        have HCA := Lib.hid (fun W => (show Calls Tryd.prog 53 #[.int .i64 (balI b p.cre 0), .int .i64 p.amt] W fun e w' => e = .returned (.tuple #[.int .i64 (balI b p.cre 0 - p.amt), .bool true]) ∧ W = w' by rw [← pair_sub (by omega)]; exact sub_any _ _ W ⟨by omega, by omega⟩ ⟨by omega, by omega⟩))
        clear hbd
        go_wp2_with fail
        have HH := Lib.hid (fun W (hb : Below w5.heap.size w5 W) => (⟨Lib.hid hb, (hb.cell (World.block_lt_of_cell? w5 _ c2)).trans c2, (hb.cell (World.block_lt_of_cell? w5 _ m4)).trans m4, (hb.cell (World.block_lt_of_cell? w5 _ x0)).trans x0, (hb.cell (World.block_lt_of_cell? w5 _ x1)).trans x1⟩ : (fun w' => Hid (Below w5.heap.size w5 w') ∧ w'.cell? ⟨bb, 2, none⟩ = some (.map (some bm)) ∧ w'.cell? ⟨w.heap.size, 4, none⟩ = some (.int .i64 p.amt) ∧ w'.cell? ⟨k2, 0, none⟩ = some (.int .i64 p.cre) ∧ w'.cell? ⟨k2, 1, none⟩ = some (.int .i64 0)) W))
        refine wp_region_noPanic ?_
        refine wp_region_held_drew (S := (fun w' => Hid (Below w5.heap.size w5 w') ∧ w'.cell? ⟨bb, 2, none⟩ = some (.map (some bm)) ∧ w'.cell? ⟨w.heap.size, 4, none⟩ = some (.int .i64 p.amt) ∧ w'.cell? ⟨k2, 0, none⟩ = some (.int .i64 p.cre) ∧ w'.cell? ⟨k2, 1, none⟩ = some (.int .i64 0))) (by kernel_rfl) (HH.out _ (below_drew1 (Below.refl w5.heap.size w5))) (fun hHeld => ?_)
        refine wpAnyH_take (i := 0) (v := ?vc0_14) rfl (by kernel_rfl) (by kernel_rfl) (by kernel_rfl) (fun _ _ _ h => h) (Or.inl ⟨by rfl, ?hyc0_14⟩) (by assumption) ?restc0_14
        case hyc0_14 => (intro w0 hSw; (try dsimp only at hSw); go_simp; try with_reducible rfl)
        case' restc0_14 => try simp only [Act.put, List.getElem_toArray, List.getElem_cons_zero, List.getElem_cons_succ, List.setIfInBounds_toArray, List.set_cons_zero, List.set_cons_succ]
        refine wpAnyH_take (i := 1) (v := ?vc1_15) rfl (by kernel_rfl) (by kernel_rfl) (by kernel_rfl) (fun _ _ _ h => h) (Or.inl ⟨by rfl, ?hyc1_15⟩) (by assumption) ?restc1_15
        case hyc1_15 => (intro w0 hSw; (try dsimp only at hSw); go_simp; try with_reducible rfl)
        case' restc1_15 => try simp only [Act.put, List.getElem_toArray, List.getElem_cons_zero, List.getElem_cons_succ, List.setIfInBounds_toArray, List.set_cons_zero, List.set_cons_succ]
        refine wpAnyH_take (i := 2) (v := ?vc2_16) rfl (by kernel_rfl) (by kernel_rfl) (by kernel_rfl) (fun _ _ _ h => h) (Or.inl ⟨by rfl, ?hyc2_16⟩) (by assumption) ?restc2_16
        case hyc2_16 => (intro w0 hSw; (try dsimp only at hSw); go_simp; try with_reducible rfl)
        case' restc2_16 => try simp only [Act.put, List.getElem_toArray, List.getElem_cons_zero, List.getElem_cons_succ, List.setIfInBounds_toArray, List.set_cons_zero, List.set_cons_succ]
        refine wpAnyH_take (i := 3) (v := ?vc3_17) rfl (by kernel_rfl) (by kernel_rfl) (by kernel_rfl) (fun _ _ _ h => h) (Or.inl ⟨by rfl, ?hyc3_17⟩) (by assumption) ?restc3_17
        case hyc3_17 => (intro w0 hSw; (try dsimp only at hSw); go_simp; try with_reducible rfl)
        case' restc3_17 => try simp only [Act.put, List.getElem_toArray, List.getElem_cons_zero, List.getElem_cons_succ, List.setIfInBounds_toArray, List.set_cons_zero, List.set_cons_succ]
        refine wpAnyH_take (i := 4) (v := ?vc4_18) rfl (by kernel_rfl) (by kernel_rfl) (by kernel_rfl) (fun _ _ _ h => h) (Or.inl ⟨by rfl, ?hyc4_18⟩) (by assumption) ?restc4_18
        case hyc4_18 => (intro w0 hSw; (try dsimp only at hSw); go_simp; try with_reducible rfl)
        case' restc4_18 => try simp only [Act.put, List.getElem_toArray, List.getElem_cons_zero, List.getElem_cons_succ, List.setIfInBounds_toArray, List.set_cons_zero, List.set_cons_succ]
        refine wpAnyH_take (i := 5) (v := ?vc5_19) rfl (by kernel_rfl) (by kernel_rfl) (by kernel_rfl) (fun _ _ _ h => h) (Or.inl ⟨by rfl, ?hyc5_19⟩) (by assumption) ?restc5_19
        case hyc5_19 => (intro w0 hSw; (try dsimp only at hSw); go_simp; rw [HLK.out w0 (Hid.out hSw.1)]; rfl)
        case' restc5_19 => try simp only [Act.put, List.getElem_toArray, List.getElem_cons_zero, List.getElem_cons_succ, List.setIfInBounds_toArray, List.set_cons_zero, List.set_cons_succ]
        refine wpAnyH_take (i := 6) (v := ?vc6_20) rfl (by kernel_rfl) (by kernel_rfl) (by kernel_rfl) (fun _ _ _ h => h) (Or.inl ⟨by rfl, ?hyc6_20⟩) (by assumption) ?restc6_20
        case hyc6_20 => (intro w0 hSw; (try dsimp only at hSw); go_simp; try with_reducible rfl)
        case' restc6_20 => try simp only [Act.put, List.getElem_toArray, List.getElem_cons_zero, List.getElem_cons_succ, List.setIfInBounds_toArray, List.set_cons_zero, List.set_cons_succ]
        refine wpAnyH_take (i := 7) (v := ?vc7_21) rfl (by kernel_rfl) (by kernel_rfl) (by kernel_rfl) (fun _ _ _ h => h) (Or.inl ⟨by rfl, ?hyc7_21⟩) (by assumption) ?restc7_21
        case hyc7_21 => (intro w0 hSw; (try dsimp only at hSw); go_simp; try with_reducible rfl)
        case' restc7_21 => try simp only [Act.put, List.getElem_toArray, List.getElem_cons_zero, List.getElem_cons_succ, List.setIfInBounds_toArray, List.set_cons_zero, List.set_cons_succ]
        refine wpAnyH_ready (rs := [8]) (by kernel_rfl) (by simp) ?_
        refine AllReadyH.cons rfl (fun K hK => ?_) AllReadyH.nil
        go_simp
        refine (HCA.out _).mono ?_; rintro e w1 ⟨rfl, hb⟩; subst hb
        refine hK.out _ _ (by assumption) (fun hHeld => ?_)
        clear hK K
        try simp only [Act.put, List.getElem_toArray, List.getElem_cons_zero, List.getElem_cons_succ, List.setIfInBounds_toArray, List.set_cons_zero, List.set_cons_succ]
        refine wpAnyH_take (i := 9) (v := ?vc9_22) rfl (by kernel_rfl) (by kernel_rfl) (by kernel_rfl) (fun _ _ _ h => h) (Or.inl ⟨by rfl, ?hyc9_22⟩) (by assumption) ?restc9_22
        case hyc9_22 => (intro w0 hSw; (try dsimp only at hSw); go_simp; try with_reducible rfl)
        case' restc9_22 => try simp only [Act.put, List.getElem_toArray, List.getElem_cons_zero, List.getElem_cons_succ, List.setIfInBounds_toArray, List.set_cons_zero, List.set_cons_succ]
        refine wpAnyH_take (i := 10) (v := ?vc10_23) rfl (by kernel_rfl) (by kernel_rfl) (by kernel_rfl) (fun _ _ _ h => h) (Or.inl ⟨by rfl, ?hyc10_23⟩) (by assumption) ?restc10_23
        case hyc10_23 => (intro w0 hSw; (try dsimp only at hSw); go_simp; try with_reducible rfl)
        case' restc10_23 => try simp only [Act.put, List.getElem_toArray, List.getElem_cons_zero, List.getElem_cons_succ, List.setIfInBounds_toArray, List.set_cons_zero, List.set_cons_succ]
        refine wpAnyH_take (i := 11) (v := ?vc11_24) rfl (by kernel_rfl) (by kernel_rfl) (by kernel_rfl) (fun _ _ _ h => h) (Or.inl ⟨by rfl, ?hyc11_24⟩) (by assumption) ?restc11_24
        case hyc11_24 => (intro w0 hSw; (try dsimp only at hSw); go_simp; try with_reducible rfl)
        case' restc11_24 => try simp only [Act.put, List.getElem_toArray, List.getElem_cons_zero, List.getElem_cons_succ, List.setIfInBounds_toArray, List.set_cons_zero, List.set_cons_succ]
        refine wpAnyH_take (i := 12) (v := ?vc12_25) rfl (by kernel_rfl) (by kernel_rfl) (by kernel_rfl) (fun _ _ _ h => h) (Or.inl ⟨by rfl, ?hyc12_25⟩) (by assumption) ?restc12_25
        case hyc12_25 => (intro w0 hSw; (try dsimp only at hSw); go_simp; try with_reducible rfl)
        case' restc12_25 => try simp only [Act.put, List.getElem_toArray, List.getElem_cons_zero, List.getElem_cons_succ, List.setIfInBounds_toArray, List.set_cons_zero, List.set_cons_succ]
        refine wpAnyH_take (i := 13) (v := ?vc13_26) rfl (by kernel_rfl) (by kernel_rfl) (by kernel_rfl) (fun _ _ _ h => h) (Or.inl ⟨by rfl, ?hyc13_26⟩) (by assumption) ?restc13_26
        case hyc13_26 => (intro w0 hSw; (try dsimp only at hSw); go_simp; try with_reducible rfl)
        case' restc13_26 => try simp only [Act.put, List.getElem_toArray, List.getElem_cons_zero, List.getElem_cons_succ, List.setIfInBounds_toArray, List.set_cons_zero, List.set_cons_succ]
        refine wpAnyH_done (by kernel_rfl) ?_ _
        refine NoPanic.normal ?_
        obtain ⟨w6, hw6⟩ : ∃ w6, w6 = w5.drew := ⟨_, rfl⟩
        rw [← hw6]
        have hb6 : Below w5.heap.size w5 w6 := by rw [hw6]; exact below_drew1 (Below.refl _ _)
        have HT6 := Lib.hid (HT5.out.trans (Turned.of_below hb6)); have HM6 := Lib.hid (HM5.out.below hb6); have HX6 := Lib.hid (heap_keep HX5.out hb6); have HW6 := Lib.hid (HW5.out.below hb6); have HK16 := Lib.hid (heap_keep HK1.out hb6); have HK26 := Lib.hid (heap_keep HK2.out hb6)
        clear hw6 hb6 hHeld HH HLK HCA c0 c1 c2 m0 m1 m2 m3 m4 x0 x1 HT5 HM5 HX5 HW5 HK1 HK2
        have HT5 := Lib.hid HT6.out; have HM5 := Lib.hid HM6.out; have HX5 := Lib.hid HX6.out; have HW5 := Lib.hid HW6.out; have HK1 := Lib.hid HK16.out; have HK2 := Lib.hid HK26.out
        clear HT6 HM6 HX6 HW6 HK16 HK26
        generalize w6 = w5 at HT5 HM5 HX5 HW5 HK1 HK2 ⊢
        go_wp2_with fail
        have HM5d := Lib.hid (HM5.out.below (below_drew1 (Below.refl w5.heap.size w5)))
        obtain ⟨l1, hl1⟩ := slot_reads (p.deb, 0) ⟨by omega, by omega⟩
        obtain ⟨l2, hl2⟩ := slot_reads (p.cre, 0) ⟨by omega, by omega⟩
        obtain ⟨w6, hr6, hm6, ht6⟩ := HM5d.out.store lawSlot mapB (by simp [fourK, maxLen]) hl1 (mkSlot_inj _) (balI b p.deb 0 + p.amt)
        obtain ⟨w7, hr7, hm7, ht7⟩ := hm6.store lawSlot mapB (by have h1 := without_len (fourK b p 0) (p.deb, 0); have h2 : (fourK b p 0).length ≤ 2 := (by simp [fourK]); rw [List.length_cons]; unfold maxLen; omega) hl2 (mkSlot_inj _) (balI b p.cre 0 - p.amt)
        rw [four_one HP.out] at hm7
        have HR6 := Lib.hid (show (Instr.mapUpdate tMapB (.map (some (w.heap.size + 1))) (.agg #[.int .i64 p.deb, .int .i64 0]) (.int .i64 (balI b p.deb 0 + p.amt))).run Tryd.prog w5.drew = .ok () w6 from hr6)
        have HR7 := Lib.hid (show (Instr.mapUpdate tMapB (.map (some (w.heap.size + 1))) (.agg #[.int .i64 p.cre, .int .i64 0]) (.int .i64 (balI b p.cre 0 - p.amt))).run Tryd.prog w6 = .ok () w7 from hr7)
        have HM7 := Lib.hid hm7
        have ht56 : Turned (fun j => j = w.heap.size + 1) w5 w6 := (Turned.refl _ w5).drew.trans (Turned.of_grown ht6.grown (fun j h => by injection h with h; exact h.symm))
        have ht57 : Turned (fun j => j = w.heap.size + 1) w5 w7 := ht56.trans (Turned.of_grown ht7.grown (fun j h => by injection h with h; exact h.symm))
        have HT56 := Lib.hid ht56; have HT57 := Lib.hid ht57
        clear hl1 hl2 hr6 hr7 hm6 hm7 ht6 ht7 ht56 ht57
        have hkk : k1 ≠ w.heap.size + 1 ∧ k2 ≠ w.heap.size + 1 := by omega
        have HH := Lib.hid (fun W' (hb : Turned (fun j => j = w.heap.size + 1) w5 W') => (⟨Lib.hid hb, cell_at (heap_turned HK1.out hb hkk.1) 0 rfl, cell_at (heap_turned HK1.out hb hkk.1) 1 rfl, cell_at (heap_turned HK2.out hb hkk.2) 0 rfl, cell_at (heap_turned HK2.out hb hkk.2) 1 rfl⟩ : (fun w' => Hid (Turned (fun j => j = w.heap.size + 1) w5 w') ∧ w'.cell? ⟨k1, 0, none⟩ = some (.int .i64 p.deb) ∧ w'.cell? ⟨k1, 1, none⟩ = some (.int .i64 0) ∧ w'.cell? ⟨k2, 0, none⟩ = some (.int .i64 p.cre) ∧ w'.cell? ⟨k2, 1, none⟩ = some (.int .i64 0)) W'))
        refine wp_region_noPanic ?_
        refine wp_region_held_drew (S := (fun w' => Hid (Turned (fun j => j = w.heap.size + 1) w5 w') ∧ w'.cell? ⟨k1, 0, none⟩ = some (.int .i64 p.deb) ∧ w'.cell? ⟨k1, 1, none⟩ = some (.int .i64 0) ∧ w'.cell? ⟨k2, 0, none⟩ = some (.int .i64 p.cre) ∧ w'.cell? ⟨k2, 1, none⟩ = some (.int .i64 0))) (by kernel_rfl) (HH.out _ ((Turned.refl _ w5).drew)) (fun hHeld => ?_)
        refine wpAnyH_take (i := 0) (v := ?vc0_27) rfl (by kernel_rfl) (by kernel_rfl) (by kernel_rfl) (fun _ _ _ h => h) (Or.inl ⟨by rfl, ?hyc0_27⟩) (by assumption) ?restc0_27
        case hyc0_27 => (intro w0 hSw; (try dsimp only at hSw); go_simp; try with_reducible rfl)
        case' restc0_27 => try simp only [Act.put, List.getElem_toArray, List.getElem_cons_zero, List.getElem_cons_succ, List.setIfInBounds_toArray, List.set_cons_zero, List.set_cons_succ]
        refine wpAnyH_take (i := 1) (v := ?vc1_28) rfl (by kernel_rfl) (by kernel_rfl) (by kernel_rfl) (fun _ _ _ h => h) (Or.inl ⟨by rfl, ?hyc1_28⟩) (by assumption) ?restc1_28
        case hyc1_28 => (intro w0 hSw; (try dsimp only at hSw); go_simp; try with_reducible rfl)
        case' restc1_28 => try simp only [Act.put, List.getElem_toArray, List.getElem_cons_zero, List.getElem_cons_succ, List.setIfInBounds_toArray, List.set_cons_zero, List.set_cons_succ]
        refine wpAnyH_take (i := 2) (v := ?vc2_29) rfl (by kernel_rfl) (by kernel_rfl) (by kernel_rfl) (fun _ _ _ h => h) (Or.inl ⟨by rfl, ?hyc2_29⟩) (by assumption) ?restc2_29
        case hyc2_29 => (intro w0 hSw; (try dsimp only at hSw); go_simp; try with_reducible rfl)
        case' restc2_29 => try simp only [Act.put, List.getElem_toArray, List.getElem_cons_zero, List.getElem_cons_succ, List.setIfInBounds_toArray, List.set_cons_zero, List.set_cons_succ]
        refine wpAnyH_take (i := 3) (v := ?vc3_30) rfl (by kernel_rfl) (by kernel_rfl) (by kernel_rfl) (fun _ _ _ h => h) (Or.inl ⟨by rfl, ?hyc3_30⟩) (by assumption) ?restc3_30
        case hyc3_30 => (intro w0 hSw; (try dsimp only at hSw); go_simp; try with_reducible rfl)
        case' restc3_30 => try simp only [Act.put, List.getElem_toArray, List.getElem_cons_zero, List.getElem_cons_succ, List.setIfInBounds_toArray, List.set_cons_zero, List.set_cons_succ]
        refine wpAnyH_take (i := 4) (v := ?vc4_31) rfl (by kernel_rfl) (by kernel_rfl) (by kernel_rfl) (fun _ _ _ h => h) (Or.inl ⟨by rfl, ?hyc4_31⟩) (by assumption) ?restc4_31
        case hyc4_31 => (intro w0 hSw; (try dsimp only at hSw); go_simp; try with_reducible rfl)
        case' restc4_31 => try simp only [Act.put, List.getElem_toArray, List.getElem_cons_zero, List.getElem_cons_succ, List.setIfInBounds_toArray, List.set_cons_zero, List.set_cons_succ]
        refine wpAnyH_take (i := 5) (v := ?vc5_32) rfl (by kernel_rfl) (by kernel_rfl) (by kernel_rfl) (fun _ _ _ h => h) (Or.inl ⟨by rfl, ?hyc5_32⟩) (by assumption) ?restc5_32
        case hyc5_32 => (intro w0 hSw; (try dsimp only at hSw); go_simp; try with_reducible rfl)
        case' restc5_32 => try simp only [Act.put, List.getElem_toArray, List.getElem_cons_zero, List.getElem_cons_succ, List.setIfInBounds_toArray, List.set_cons_zero, List.set_cons_succ]
        refine wpAnyH_ready (rs := [6]) (by kernel_rfl) (by simp) ?_
        refine AllReadyH.cons rfl (fun K hK => ?_) AllReadyH.nil
        go_simp
        rw [HR6.out]
        refine hK.out _ _ (HH.out _ (HT56.out)) (fun hHeld => ?_)
        clear hK K
        try simp only [Act.put, List.getElem_toArray, List.getElem_cons_zero, List.getElem_cons_succ, List.setIfInBounds_toArray, List.set_cons_zero, List.set_cons_succ]
        refine wpAnyH_ready (rs := [7]) (by kernel_rfl) (by simp) ?_
        refine AllReadyH.cons rfl (fun K hK => ?_) AllReadyH.nil
        go_simp
        rw [HR7.out]
        refine hK.out _ _ (HH.out _ (HT57.out)) (fun hHeld => ?_)
        clear hK K
        try simp only [Act.put, List.getElem_toArray, List.getElem_cons_zero, List.getElem_cons_succ, List.setIfInBounds_toArray, List.set_cons_zero, List.set_cons_succ]
        refine wpAnyH_done (by kernel_rfl) ?_ _
        refine NoPanic.normal ?_
        clear hHeld HH HR6 HR7
        go_wp2_with fail
        go_roundw
        case rel => exact ⟨1, by go_num, by omega, HT5.out.trans HT57.out, HM7.out⟩
        case measure => simp [intOf]
      · obtain ⟨w5, hw5⟩ : ∃ w5, w5 = ((wr.alloc (.cells #[.int .i64 p.cre, .int .i64 0] tSlot)).alloc (.cells #[.int .i64 p.deb, .int .i64 0] tSlot)).drew := ⟨_, rfl⟩
        rw [← hw5]
        have hb5 : Below wr.heap.size wr w5 := by rw [hw5]; exact below_drew1' (((below_alloc wr _)).alloc (by simp) _)
        have h51 : w5.heap[wr.heap.size]? = some (.cells #[.int .i64 p.cre, .int .i64 0] tSlot (0, 0)) := by rw [hw5]; exact heap_keep (heap_new wr _) (below_drew1' (below_alloc _ _))
        have h52 : w5.heap[wr.heap.size + 1]? = some (.cells #[.int .i64 p.deb, .int .i64 0] tSlot (0, 0)) := by rw [hw5]; have := heap_new (wr.alloc (.cells #[.int .i64 p.cre, .int .i64 0] tSlot)) (.cells #[.int .i64 p.deb, .int .i64 0] tSlot); rw [show (wr.alloc (.cells #[.int .i64 p.cre, .int .i64 0] tSlot)).heap.size = wr.heap.size + 1 by simp] at this; exact this
        have HT5 := Lib.hid (HTr.out.trans (Turned.of_below hb5)); have HM5 := Lib.hid (HMr.out.below hb5); have HX5 := Lib.hid (heap_keep HXr.out hb5); have HW5 := Lib.hid (HWr.out.below hb5)
        have hzz : w.heap.size + 1 < wr.heap.size := HMr.out.lt
        clear hw5 hb5 m0 m1 m2 m3 m4 c0 c1 c2
        obtain ⟨k1, hk1, hk1'⟩ : ∃ k1, k1 = wr.heap.size + 1 ∧ wr.heap.size ≤ k1 := ⟨_, rfl, by omega⟩
        obtain ⟨k2, hk2, hk2'⟩ : ∃ k2, k2 = wr.heap.size ∧ wr.heap.size ≤ k2 := ⟨_, rfl, by omega⟩
        rw [← hk2] at h51 ⊢; rw [← hk1] at h52; rw [show k2 + 1 = k1 by omega]
        have HK1 := Lib.hid h52; have HK2 := Lib.hid h51
        clear h51 h52 hk1 hk2
        obtain ⟨c0, c1, c2⟩ := cell3c HW5.out.hd
        obtain ⟨m0, m1, m2, m3, m4⟩ := cell5 HX5.out
        obtain ⟨x0, x1, _, _⟩ := cell2 HK1.out
        have HLK := Lib.hid (fun W (hb : Below w5.heap.size w5 W) => (show (Instr.lookup tMapB (.map (some bm)) (.agg #[.int .i64 p.deb, .int .i64 0]) false).run Tryd.prog W = .ok (.int .i64 (balI b p.deb 0)) W by obtain ⟨E, hE, _, hE2⟩ := (HW5.out.below hb).mb; rw [← hE2]; exact blook hE _ _ (by omega) (by omega)))
        have hbd := HW5.out.many hl p.deb 0
        have HCA := Lib.hid (fun W => (show Calls Tryd.prog 52 #[.int .i64 (balI b p.deb 0), .int .i64 p.amt] W fun e w' => e = .returned (.tuple #[.int .i64 (balI b p.deb 0 + p.amt), .bool true]) ∧ W = w' by rw [← pair_add (by omega)]; exact add_any _ _ W ⟨by omega, by omega⟩ ⟨by omega, by omega⟩))
        clear hbd
        go_wp2_with fail
        have HH := Lib.hid (fun W (hb : Below w5.heap.size w5 W) => (⟨Lib.hid hb, (hb.cell (World.block_lt_of_cell? w5 _ c2)).trans c2, (hb.cell (World.block_lt_of_cell? w5 _ m4)).trans m4, (hb.cell (World.block_lt_of_cell? w5 _ x0)).trans x0, (hb.cell (World.block_lt_of_cell? w5 _ x1)).trans x1⟩ : (fun w' => Hid (Below w5.heap.size w5 w') ∧ w'.cell? ⟨bb, 2, none⟩ = some (.map (some bm)) ∧ w'.cell? ⟨w.heap.size, 4, none⟩ = some (.int .i64 p.amt) ∧ w'.cell? ⟨k1, 0, none⟩ = some (.int .i64 p.deb) ∧ w'.cell? ⟨k1, 1, none⟩ = some (.int .i64 0)) W))
        refine wp_region_noPanic ?_
        refine wp_region_held_drew (S := (fun w' => Hid (Below w5.heap.size w5 w') ∧ w'.cell? ⟨bb, 2, none⟩ = some (.map (some bm)) ∧ w'.cell? ⟨w.heap.size, 4, none⟩ = some (.int .i64 p.amt) ∧ w'.cell? ⟨k1, 0, none⟩ = some (.int .i64 p.deb) ∧ w'.cell? ⟨k1, 1, none⟩ = some (.int .i64 0))) (by kernel_rfl) (HH.out _ (below_drew1 (Below.refl w5.heap.size w5))) (fun hHeld => ?_)
        refine wpAnyH_take (i := 0) (v := ?vc0_33) rfl (by kernel_rfl) (by kernel_rfl) (by kernel_rfl) (fun _ _ _ h => h) (Or.inl ⟨by rfl, ?hyc0_33⟩) (by assumption) ?restc0_33
        case hyc0_33 => (intro w0 hSw; (try dsimp only at hSw); go_simp; try with_reducible rfl)
        case' restc0_33 => try simp only [Act.put, List.getElem_toArray, List.getElem_cons_zero, List.getElem_cons_succ, List.setIfInBounds_toArray, List.set_cons_zero, List.set_cons_succ]
        refine wpAnyH_take (i := 1) (v := ?vc1_34) rfl (by kernel_rfl) (by kernel_rfl) (by kernel_rfl) (fun _ _ _ h => h) (Or.inl ⟨by rfl, ?hyc1_34⟩) (by assumption) ?restc1_34
        case hyc1_34 => (intro w0 hSw; (try dsimp only at hSw); go_simp; try with_reducible rfl)
        case' restc1_34 => try simp only [Act.put, List.getElem_toArray, List.getElem_cons_zero, List.getElem_cons_succ, List.setIfInBounds_toArray, List.set_cons_zero, List.set_cons_succ]
        refine wpAnyH_take (i := 2) (v := ?vc2_35) rfl (by kernel_rfl) (by kernel_rfl) (by kernel_rfl) (fun _ _ _ h => h) (Or.inl ⟨by rfl, ?hyc2_35⟩) (by assumption) ?restc2_35
        case hyc2_35 => (intro w0 hSw; (try dsimp only at hSw); go_simp; try with_reducible rfl)
        case' restc2_35 => try simp only [Act.put, List.getElem_toArray, List.getElem_cons_zero, List.getElem_cons_succ, List.setIfInBounds_toArray, List.set_cons_zero, List.set_cons_succ]
        refine wpAnyH_take (i := 3) (v := ?vc3_36) rfl (by kernel_rfl) (by kernel_rfl) (by kernel_rfl) (fun _ _ _ h => h) (Or.inl ⟨by rfl, ?hyc3_36⟩) (by assumption) ?restc3_36
        case hyc3_36 => (intro w0 hSw; (try dsimp only at hSw); go_simp; try with_reducible rfl)
        case' restc3_36 => try simp only [Act.put, List.getElem_toArray, List.getElem_cons_zero, List.getElem_cons_succ, List.setIfInBounds_toArray, List.set_cons_zero, List.set_cons_succ]
        refine wpAnyH_take (i := 4) (v := ?vc4_37) rfl (by kernel_rfl) (by kernel_rfl) (by kernel_rfl) (fun _ _ _ h => h) (Or.inl ⟨by rfl, ?hyc4_37⟩) (by assumption) ?restc4_37
        case hyc4_37 => (intro w0 hSw; (try dsimp only at hSw); go_simp; try with_reducible rfl)
        case' restc4_37 => try simp only [Act.put, List.getElem_toArray, List.getElem_cons_zero, List.getElem_cons_succ, List.setIfInBounds_toArray, List.set_cons_zero, List.set_cons_succ]
        refine wpAnyH_take (i := 5) (v := ?vc5_38) rfl (by kernel_rfl) (by kernel_rfl) (by kernel_rfl) (fun _ _ _ h => h) (Or.inl ⟨by rfl, ?hyc5_38⟩) (by assumption) ?restc5_38
        case hyc5_38 => (intro w0 hSw; (try dsimp only at hSw); go_simp; rw [HLK.out w0 (Hid.out hSw.1)]; rfl)
        case' restc5_38 => try simp only [Act.put, List.getElem_toArray, List.getElem_cons_zero, List.getElem_cons_succ, List.setIfInBounds_toArray, List.set_cons_zero, List.set_cons_succ]
        refine wpAnyH_take (i := 6) (v := ?vc6_39) rfl (by kernel_rfl) (by kernel_rfl) (by kernel_rfl) (fun _ _ _ h => h) (Or.inl ⟨by rfl, ?hyc6_39⟩) (by assumption) ?restc6_39
        case hyc6_39 => (intro w0 hSw; (try dsimp only at hSw); go_simp; try with_reducible rfl)
        case' restc6_39 => try simp only [Act.put, List.getElem_toArray, List.getElem_cons_zero, List.getElem_cons_succ, List.setIfInBounds_toArray, List.set_cons_zero, List.set_cons_succ]
        refine wpAnyH_take (i := 7) (v := ?vc7_40) rfl (by kernel_rfl) (by kernel_rfl) (by kernel_rfl) (fun _ _ _ h => h) (Or.inl ⟨by rfl, ?hyc7_40⟩) (by assumption) ?restc7_40
        case hyc7_40 => (intro w0 hSw; (try dsimp only at hSw); go_simp; try with_reducible rfl)
        case' restc7_40 => try simp only [Act.put, List.getElem_toArray, List.getElem_cons_zero, List.getElem_cons_succ, List.setIfInBounds_toArray, List.set_cons_zero, List.set_cons_succ]
        refine wpAnyH_ready (rs := [8]) (by kernel_rfl) (by simp) ?_
        refine AllReadyH.cons rfl (fun K hK => ?_) AllReadyH.nil
        go_simp
        refine (HCA.out _).mono ?_; rintro e w1 ⟨rfl, hb⟩; subst hb
        refine hK.out _ _ (by assumption) (fun hHeld => ?_)
        clear hK K
        try simp only [Act.put, List.getElem_toArray, List.getElem_cons_zero, List.getElem_cons_succ, List.setIfInBounds_toArray, List.set_cons_zero, List.set_cons_succ]
        refine wpAnyH_take (i := 9) (v := ?vc9_41) rfl (by kernel_rfl) (by kernel_rfl) (by kernel_rfl) (fun _ _ _ h => h) (Or.inl ⟨by rfl, ?hyc9_41⟩) (by assumption) ?restc9_41
        case hyc9_41 => (intro w0 hSw; (try dsimp only at hSw); go_simp; try with_reducible rfl)
        case' restc9_41 => try simp only [Act.put, List.getElem_toArray, List.getElem_cons_zero, List.getElem_cons_succ, List.setIfInBounds_toArray, List.set_cons_zero, List.set_cons_succ]
        refine wpAnyH_take (i := 10) (v := ?vc10_42) rfl (by kernel_rfl) (by kernel_rfl) (by kernel_rfl) (fun _ _ _ h => h) (Or.inl ⟨by rfl, ?hyc10_42⟩) (by assumption) ?restc10_42
        case hyc10_42 => (intro w0 hSw; (try dsimp only at hSw); go_simp; try with_reducible rfl)
        case' restc10_42 => try simp only [Act.put, List.getElem_toArray, List.getElem_cons_zero, List.getElem_cons_succ, List.setIfInBounds_toArray, List.set_cons_zero, List.set_cons_succ]
        refine wpAnyH_take (i := 11) (v := ?vc11_43) rfl (by kernel_rfl) (by kernel_rfl) (by kernel_rfl) (fun _ _ _ h => h) (Or.inl ⟨by rfl, ?hyc11_43⟩) (by assumption) ?restc11_43
        case hyc11_43 => (intro w0 hSw; (try dsimp only at hSw); go_simp; try with_reducible rfl)
        case' restc11_43 => try simp only [Act.put, List.getElem_toArray, List.getElem_cons_zero, List.getElem_cons_succ, List.setIfInBounds_toArray, List.set_cons_zero, List.set_cons_succ]
        refine wpAnyH_take (i := 12) (v := ?vc12_44) rfl (by kernel_rfl) (by kernel_rfl) (by kernel_rfl) (fun _ _ _ h => h) (Or.inl ⟨by rfl, ?hyc12_44⟩) (by assumption) ?restc12_44
        case hyc12_44 => (intro w0 hSw; (try dsimp only at hSw); go_simp; try with_reducible rfl)
        case' restc12_44 => try simp only [Act.put, List.getElem_toArray, List.getElem_cons_zero, List.getElem_cons_succ, List.setIfInBounds_toArray, List.set_cons_zero, List.set_cons_succ]
        refine wpAnyH_take (i := 13) (v := ?vc13_45) rfl (by kernel_rfl) (by kernel_rfl) (by kernel_rfl) (fun _ _ _ h => h) (Or.inl ⟨by rfl, ?hyc13_45⟩) (by assumption) ?restc13_45
        case hyc13_45 => (intro w0 hSw; (try dsimp only at hSw); go_simp; try with_reducible rfl)
        case' restc13_45 => try simp only [Act.put, List.getElem_toArray, List.getElem_cons_zero, List.getElem_cons_succ, List.setIfInBounds_toArray, List.set_cons_zero, List.set_cons_succ]
        refine wpAnyH_done (by kernel_rfl) ?_ _
        refine NoPanic.normal ?_
        obtain ⟨w6, hw6⟩ : ∃ w6, w6 = w5.drew := ⟨_, rfl⟩
        rw [← hw6]
        have hb6 : Below w5.heap.size w5 w6 := by rw [hw6]; exact below_drew1 (Below.refl _ _)
        have HT6 := Lib.hid (HT5.out.trans (Turned.of_below hb6)); have HM6 := Lib.hid (HM5.out.below hb6); have HX6 := Lib.hid (heap_keep HX5.out hb6); have HW6 := Lib.hid (HW5.out.below hb6); have HK16 := Lib.hid (heap_keep HK1.out hb6); have HK26 := Lib.hid (heap_keep HK2.out hb6)
        clear hw6 hb6 hHeld HH HLK HCA c0 c1 c2 m0 m1 m2 m3 m4 x0 x1 HT5 HM5 HX5 HW5 HK1 HK2
        have HT5 := Lib.hid HT6.out; have HM5 := Lib.hid HM6.out; have HX5 := Lib.hid HX6.out; have HW5 := Lib.hid HW6.out; have HK1 := Lib.hid HK16.out; have HK2 := Lib.hid HK26.out
        clear HT6 HM6 HX6 HW6 HK16 HK26
        generalize w6 = w5 at HT5 HM5 HX5 HW5 HK1 HK2 ⊢
        obtain ⟨c0, c1, c2⟩ := cell3c HW5.out.hd
        obtain ⟨m0, m1, m2, m3, m4⟩ := cell5 HX5.out
        obtain ⟨x0, x1, _, _⟩ := cell2 HK2.out
        have HLK := Lib.hid (fun W (hb : Below w5.heap.size w5 W) => (show (Instr.lookup tMapB (.map (some bm)) (.agg #[.int .i64 p.cre, .int .i64 0]) false).run Tryd.prog W = .ok (.int .i64 (balI b p.cre 0)) W by obtain ⟨E, hE, _, hE2⟩ := (HW5.out.below hb).mb; rw [← hE2]; exact blook hE _ _ (by omega) (by omega)))
        have hbd := HW5.out.many hl p.cre 0
        have HCA := Lib.hid (fun W => (show Calls Tryd.prog 53 #[.int .i64 (balI b p.cre 0), .int .i64 p.amt] W fun e w' => e = .returned (.tuple #[.int .i64 (balI b p.cre 0 - p.amt), .bool true]) ∧ W = w' by rw [← pair_sub (by omega)]; exact sub_any _ _ W ⟨by omega, by omega⟩ ⟨by omega, by omega⟩))
        clear hbd
        go_wp2_with fail
        have HH := Lib.hid (fun W (hb : Below w5.heap.size w5 W) => (⟨Lib.hid hb, (hb.cell (World.block_lt_of_cell? w5 _ c2)).trans c2, (hb.cell (World.block_lt_of_cell? w5 _ m4)).trans m4, (hb.cell (World.block_lt_of_cell? w5 _ x0)).trans x0, (hb.cell (World.block_lt_of_cell? w5 _ x1)).trans x1⟩ : (fun w' => Hid (Below w5.heap.size w5 w') ∧ w'.cell? ⟨bb, 2, none⟩ = some (.map (some bm)) ∧ w'.cell? ⟨w.heap.size, 4, none⟩ = some (.int .i64 p.amt) ∧ w'.cell? ⟨k2, 0, none⟩ = some (.int .i64 p.cre) ∧ w'.cell? ⟨k2, 1, none⟩ = some (.int .i64 0)) W))
        refine wp_region_noPanic ?_
        refine wp_region_held_drew (S := (fun w' => Hid (Below w5.heap.size w5 w') ∧ w'.cell? ⟨bb, 2, none⟩ = some (.map (some bm)) ∧ w'.cell? ⟨w.heap.size, 4, none⟩ = some (.int .i64 p.amt) ∧ w'.cell? ⟨k2, 0, none⟩ = some (.int .i64 p.cre) ∧ w'.cell? ⟨k2, 1, none⟩ = some (.int .i64 0))) (by kernel_rfl) (HH.out _ (below_drew1 (Below.refl w5.heap.size w5))) (fun hHeld => ?_)
        refine wpAnyH_take (i := 0) (v := ?vc0_46) rfl (by kernel_rfl) (by kernel_rfl) (by kernel_rfl) (fun _ _ _ h => h) (Or.inl ⟨by rfl, ?hyc0_46⟩) (by assumption) ?restc0_46
        case hyc0_46 => (intro w0 hSw; (try dsimp only at hSw); go_simp; try with_reducible rfl)
        case' restc0_46 => try simp only [Act.put, List.getElem_toArray, List.getElem_cons_zero, List.getElem_cons_succ, List.setIfInBounds_toArray, List.set_cons_zero, List.set_cons_succ]
        refine wpAnyH_take (i := 1) (v := ?vc1_47) rfl (by kernel_rfl) (by kernel_rfl) (by kernel_rfl) (fun _ _ _ h => h) (Or.inl ⟨by rfl, ?hyc1_47⟩) (by assumption) ?restc1_47
        case hyc1_47 => (intro w0 hSw; (try dsimp only at hSw); go_simp; try with_reducible rfl)
        case' restc1_47 => try simp only [Act.put, List.getElem_toArray, List.getElem_cons_zero, List.getElem_cons_succ, List.setIfInBounds_toArray, List.set_cons_zero, List.set_cons_succ]
        refine wpAnyH_take (i := 2) (v := ?vc2_48) rfl (by kernel_rfl) (by kernel_rfl) (by kernel_rfl) (fun _ _ _ h => h) (Or.inl ⟨by rfl, ?hyc2_48⟩) (by assumption) ?restc2_48
        case hyc2_48 => (intro w0 hSw; (try dsimp only at hSw); go_simp; try with_reducible rfl)
        case' restc2_48 => try simp only [Act.put, List.getElem_toArray, List.getElem_cons_zero, List.getElem_cons_succ, List.setIfInBounds_toArray, List.set_cons_zero, List.set_cons_succ]
        refine wpAnyH_take (i := 3) (v := ?vc3_49) rfl (by kernel_rfl) (by kernel_rfl) (by kernel_rfl) (fun _ _ _ h => h) (Or.inl ⟨by rfl, ?hyc3_49⟩) (by assumption) ?restc3_49
        case hyc3_49 => (intro w0 hSw; (try dsimp only at hSw); go_simp; try with_reducible rfl)
        case' restc3_49 => try simp only [Act.put, List.getElem_toArray, List.getElem_cons_zero, List.getElem_cons_succ, List.setIfInBounds_toArray, List.set_cons_zero, List.set_cons_succ]
        refine wpAnyH_take (i := 4) (v := ?vc4_50) rfl (by kernel_rfl) (by kernel_rfl) (by kernel_rfl) (fun _ _ _ h => h) (Or.inl ⟨by rfl, ?hyc4_50⟩) (by assumption) ?restc4_50
        case hyc4_50 => (intro w0 hSw; (try dsimp only at hSw); go_simp; try with_reducible rfl)
        case' restc4_50 => try simp only [Act.put, List.getElem_toArray, List.getElem_cons_zero, List.getElem_cons_succ, List.setIfInBounds_toArray, List.set_cons_zero, List.set_cons_succ]
        refine wpAnyH_take (i := 5) (v := ?vc5_51) rfl (by kernel_rfl) (by kernel_rfl) (by kernel_rfl) (fun _ _ _ h => h) (Or.inl ⟨by rfl, ?hyc5_51⟩) (by assumption) ?restc5_51
        case hyc5_51 => (intro w0 hSw; (try dsimp only at hSw); go_simp; rw [HLK.out w0 (Hid.out hSw.1)]; rfl)
        case' restc5_51 => try simp only [Act.put, List.getElem_toArray, List.getElem_cons_zero, List.getElem_cons_succ, List.setIfInBounds_toArray, List.set_cons_zero, List.set_cons_succ]
        refine wpAnyH_take (i := 6) (v := ?vc6_52) rfl (by kernel_rfl) (by kernel_rfl) (by kernel_rfl) (fun _ _ _ h => h) (Or.inl ⟨by rfl, ?hyc6_52⟩) (by assumption) ?restc6_52
        case hyc6_52 => (intro w0 hSw; (try dsimp only at hSw); go_simp; try with_reducible rfl)
        case' restc6_52 => try simp only [Act.put, List.getElem_toArray, List.getElem_cons_zero, List.getElem_cons_succ, List.setIfInBounds_toArray, List.set_cons_zero, List.set_cons_succ]
        refine wpAnyH_take (i := 7) (v := ?vc7_53) rfl (by kernel_rfl) (by kernel_rfl) (by kernel_rfl) (fun _ _ _ h => h) (Or.inl ⟨by rfl, ?hyc7_53⟩) (by assumption) ?restc7_53
        case hyc7_53 => (intro w0 hSw; (try dsimp only at hSw); go_simp; try with_reducible rfl)
        case' restc7_53 => try simp only [Act.put, List.getElem_toArray, List.getElem_cons_zero, List.getElem_cons_succ, List.setIfInBounds_toArray, List.set_cons_zero, List.set_cons_succ]
        refine wpAnyH_ready (rs := [8]) (by kernel_rfl) (by simp) ?_
        refine AllReadyH.cons rfl (fun K hK => ?_) AllReadyH.nil
        go_simp
        refine (HCA.out _).mono ?_; rintro e w1 ⟨rfl, hb⟩; subst hb
        refine hK.out _ _ (by assumption) (fun hHeld => ?_)
        clear hK K
        try simp only [Act.put, List.getElem_toArray, List.getElem_cons_zero, List.getElem_cons_succ, List.setIfInBounds_toArray, List.set_cons_zero, List.set_cons_succ]
        refine wpAnyH_take (i := 9) (v := ?vc9_54) rfl (by kernel_rfl) (by kernel_rfl) (by kernel_rfl) (fun _ _ _ h => h) (Or.inl ⟨by rfl, ?hyc9_54⟩) (by assumption) ?restc9_54
        case hyc9_54 => (intro w0 hSw; (try dsimp only at hSw); go_simp; try with_reducible rfl)
        case' restc9_54 => try simp only [Act.put, List.getElem_toArray, List.getElem_cons_zero, List.getElem_cons_succ, List.setIfInBounds_toArray, List.set_cons_zero, List.set_cons_succ]
        refine wpAnyH_take (i := 10) (v := ?vc10_55) rfl (by kernel_rfl) (by kernel_rfl) (by kernel_rfl) (fun _ _ _ h => h) (Or.inl ⟨by rfl, ?hyc10_55⟩) (by assumption) ?restc10_55
        case hyc10_55 => (intro w0 hSw; (try dsimp only at hSw); go_simp; try with_reducible rfl)
        case' restc10_55 => try simp only [Act.put, List.getElem_toArray, List.getElem_cons_zero, List.getElem_cons_succ, List.setIfInBounds_toArray, List.set_cons_zero, List.set_cons_succ]
        refine wpAnyH_take (i := 11) (v := ?vc11_56) rfl (by kernel_rfl) (by kernel_rfl) (by kernel_rfl) (fun _ _ _ h => h) (Or.inl ⟨by rfl, ?hyc11_56⟩) (by assumption) ?restc11_56
        case hyc11_56 => (intro w0 hSw; (try dsimp only at hSw); go_simp; try with_reducible rfl)
        case' restc11_56 => try simp only [Act.put, List.getElem_toArray, List.getElem_cons_zero, List.getElem_cons_succ, List.setIfInBounds_toArray, List.set_cons_zero, List.set_cons_succ]
        refine wpAnyH_take (i := 12) (v := ?vc12_57) rfl (by kernel_rfl) (by kernel_rfl) (by kernel_rfl) (fun _ _ _ h => h) (Or.inl ⟨by rfl, ?hyc12_57⟩) (by assumption) ?restc12_57
        case hyc12_57 => (intro w0 hSw; (try dsimp only at hSw); go_simp; try with_reducible rfl)
        case' restc12_57 => try simp only [Act.put, List.getElem_toArray, List.getElem_cons_zero, List.getElem_cons_succ, List.setIfInBounds_toArray, List.set_cons_zero, List.set_cons_succ]
        refine wpAnyH_take (i := 13) (v := ?vc13_58) rfl (by kernel_rfl) (by kernel_rfl) (by kernel_rfl) (fun _ _ _ h => h) (Or.inl ⟨by rfl, ?hyc13_58⟩) (by assumption) ?restc13_58
        case hyc13_58 => (intro w0 hSw; (try dsimp only at hSw); go_simp; try with_reducible rfl)
        case' restc13_58 => try simp only [Act.put, List.getElem_toArray, List.getElem_cons_zero, List.getElem_cons_succ, List.setIfInBounds_toArray, List.set_cons_zero, List.set_cons_succ]
        refine wpAnyH_done (by kernel_rfl) ?_ _
        refine NoPanic.normal ?_
        obtain ⟨w6, hw6⟩ : ∃ w6, w6 = w5.drew := ⟨_, rfl⟩
        rw [← hw6]
        have hb6 : Below w5.heap.size w5 w6 := by rw [hw6]; exact below_drew1 (Below.refl _ _)
        have HT6 := Lib.hid (HT5.out.trans (Turned.of_below hb6)); have HM6 := Lib.hid (HM5.out.below hb6); have HX6 := Lib.hid (heap_keep HX5.out hb6); have HW6 := Lib.hid (HW5.out.below hb6); have HK16 := Lib.hid (heap_keep HK1.out hb6); have HK26 := Lib.hid (heap_keep HK2.out hb6)
        clear hw6 hb6 hHeld HH HLK HCA c0 c1 c2 m0 m1 m2 m3 m4 x0 x1 HT5 HM5 HX5 HW5 HK1 HK2
        have HT5 := Lib.hid HT6.out; have HM5 := Lib.hid HM6.out; have HX5 := Lib.hid HX6.out; have HW5 := Lib.hid HW6.out; have HK1 := Lib.hid HK16.out; have HK2 := Lib.hid HK26.out
        clear HT6 HM6 HX6 HW6 HK16 HK26
        generalize w6 = w5 at HT5 HM5 HX5 HW5 HK1 HK2 ⊢
        go_wp2_with fail
        have HM5d := Lib.hid (HM5.out.below (below_drew1 (Below.refl w5.heap.size w5)))
        obtain ⟨l1, hl1⟩ := slot_reads (p.deb, 0) ⟨by omega, by omega⟩
        obtain ⟨l2, hl2⟩ := slot_reads (p.cre, 0) ⟨by omega, by omega⟩
        obtain ⟨w6, hr6, hm6, ht6⟩ := HM5d.out.store lawSlot mapB (by simp [fourK, maxLen]) hl1 (mkSlot_inj _) (balI b p.deb 0 + p.amt)
        obtain ⟨w7, hr7, hm7, ht7⟩ := hm6.store lawSlot mapB (by have h1 := without_len (fourK b p 0) (p.deb, 0); have h2 : (fourK b p 0).length ≤ 2 := (by simp [fourK]); rw [List.length_cons]; unfold maxLen; omega) hl2 (mkSlot_inj _) (balI b p.cre 0 - p.amt)
        rw [four_one HP.out] at hm7
        have HR6 := Lib.hid (show (Instr.mapUpdate tMapB (.map (some (w.heap.size + 1))) (.agg #[.int .i64 p.deb, .int .i64 0]) (.int .i64 (balI b p.deb 0 + p.amt))).run Tryd.prog w5.drew = .ok () w6 from hr6)
        have HR7 := Lib.hid (show (Instr.mapUpdate tMapB (.map (some (w.heap.size + 1))) (.agg #[.int .i64 p.cre, .int .i64 0]) (.int .i64 (balI b p.cre 0 - p.amt))).run Tryd.prog w6 = .ok () w7 from hr7)
        have HM7 := Lib.hid hm7
        have ht56 : Turned (fun j => j = w.heap.size + 1) w5 w6 := (Turned.refl _ w5).drew.trans (Turned.of_grown ht6.grown (fun j h => by injection h with h; exact h.symm))
        have ht57 : Turned (fun j => j = w.heap.size + 1) w5 w7 := ht56.trans (Turned.of_grown ht7.grown (fun j h => by injection h with h; exact h.symm))
        have HT56 := Lib.hid ht56; have HT57 := Lib.hid ht57
        clear hl1 hl2 hr6 hr7 hm6 hm7 ht6 ht7 ht56 ht57
        have hkk : k1 ≠ w.heap.size + 1 ∧ k2 ≠ w.heap.size + 1 := by omega
        have HH := Lib.hid (fun W' (hb : Turned (fun j => j = w.heap.size + 1) w5 W') => (⟨Lib.hid hb, cell_at (heap_turned HK1.out hb hkk.1) 0 rfl, cell_at (heap_turned HK1.out hb hkk.1) 1 rfl, cell_at (heap_turned HK2.out hb hkk.2) 0 rfl, cell_at (heap_turned HK2.out hb hkk.2) 1 rfl⟩ : (fun w' => Hid (Turned (fun j => j = w.heap.size + 1) w5 w') ∧ w'.cell? ⟨k1, 0, none⟩ = some (.int .i64 p.deb) ∧ w'.cell? ⟨k1, 1, none⟩ = some (.int .i64 0) ∧ w'.cell? ⟨k2, 0, none⟩ = some (.int .i64 p.cre) ∧ w'.cell? ⟨k2, 1, none⟩ = some (.int .i64 0)) W'))
        refine wp_region_noPanic ?_
        refine wp_region_held_drew (S := (fun w' => Hid (Turned (fun j => j = w.heap.size + 1) w5 w') ∧ w'.cell? ⟨k1, 0, none⟩ = some (.int .i64 p.deb) ∧ w'.cell? ⟨k1, 1, none⟩ = some (.int .i64 0) ∧ w'.cell? ⟨k2, 0, none⟩ = some (.int .i64 p.cre) ∧ w'.cell? ⟨k2, 1, none⟩ = some (.int .i64 0))) (by kernel_rfl) (HH.out _ ((Turned.refl _ w5).drew)) (fun hHeld => ?_)
        refine wpAnyH_take (i := 0) (v := ?vc0_59) rfl (by kernel_rfl) (by kernel_rfl) (by kernel_rfl) (fun _ _ _ h => h) (Or.inl ⟨by rfl, ?hyc0_59⟩) (by assumption) ?restc0_59
        case hyc0_59 => (intro w0 hSw; (try dsimp only at hSw); go_simp; try with_reducible rfl)
        case' restc0_59 => try simp only [Act.put, List.getElem_toArray, List.getElem_cons_zero, List.getElem_cons_succ, List.setIfInBounds_toArray, List.set_cons_zero, List.set_cons_succ]
        refine wpAnyH_take (i := 1) (v := ?vc1_60) rfl (by kernel_rfl) (by kernel_rfl) (by kernel_rfl) (fun _ _ _ h => h) (Or.inl ⟨by rfl, ?hyc1_60⟩) (by assumption) ?restc1_60
        case hyc1_60 => (intro w0 hSw; (try dsimp only at hSw); go_simp; try with_reducible rfl)
        case' restc1_60 => try simp only [Act.put, List.getElem_toArray, List.getElem_cons_zero, List.getElem_cons_succ, List.setIfInBounds_toArray, List.set_cons_zero, List.set_cons_succ]
        refine wpAnyH_take (i := 2) (v := ?vc2_61) rfl (by kernel_rfl) (by kernel_rfl) (by kernel_rfl) (fun _ _ _ h => h) (Or.inl ⟨by rfl, ?hyc2_61⟩) (by assumption) ?restc2_61
        case hyc2_61 => (intro w0 hSw; (try dsimp only at hSw); go_simp; try with_reducible rfl)
        case' restc2_61 => try simp only [Act.put, List.getElem_toArray, List.getElem_cons_zero, List.getElem_cons_succ, List.setIfInBounds_toArray, List.set_cons_zero, List.set_cons_succ]
        refine wpAnyH_take (i := 3) (v := ?vc3_62) rfl (by kernel_rfl) (by kernel_rfl) (by kernel_rfl) (fun _ _ _ h => h) (Or.inl ⟨by rfl, ?hyc3_62⟩) (by assumption) ?restc3_62
        case hyc3_62 => (intro w0 hSw; (try dsimp only at hSw); go_simp; try with_reducible rfl)
        case' restc3_62 => try simp only [Act.put, List.getElem_toArray, List.getElem_cons_zero, List.getElem_cons_succ, List.setIfInBounds_toArray, List.set_cons_zero, List.set_cons_succ]
        refine wpAnyH_take (i := 4) (v := ?vc4_63) rfl (by kernel_rfl) (by kernel_rfl) (by kernel_rfl) (fun _ _ _ h => h) (Or.inl ⟨by rfl, ?hyc4_63⟩) (by assumption) ?restc4_63
        case hyc4_63 => (intro w0 hSw; (try dsimp only at hSw); go_simp; try with_reducible rfl)
        case' restc4_63 => try simp only [Act.put, List.getElem_toArray, List.getElem_cons_zero, List.getElem_cons_succ, List.setIfInBounds_toArray, List.set_cons_zero, List.set_cons_succ]
        refine wpAnyH_take (i := 5) (v := ?vc5_64) rfl (by kernel_rfl) (by kernel_rfl) (by kernel_rfl) (fun _ _ _ h => h) (Or.inl ⟨by rfl, ?hyc5_64⟩) (by assumption) ?restc5_64
        case hyc5_64 => (intro w0 hSw; (try dsimp only at hSw); go_simp; try with_reducible rfl)
        case' restc5_64 => try simp only [Act.put, List.getElem_toArray, List.getElem_cons_zero, List.getElem_cons_succ, List.setIfInBounds_toArray, List.set_cons_zero, List.set_cons_succ]
        refine wpAnyH_ready (rs := [6]) (by kernel_rfl) (by simp) ?_
        refine AllReadyH.cons rfl (fun K hK => ?_) AllReadyH.nil
        go_simp
        rw [HR6.out]
        refine hK.out _ _ (HH.out _ (HT56.out)) (fun hHeld => ?_)
        clear hK K
        try simp only [Act.put, List.getElem_toArray, List.getElem_cons_zero, List.getElem_cons_succ, List.setIfInBounds_toArray, List.set_cons_zero, List.set_cons_succ]
        refine wpAnyH_ready (rs := [7]) (by kernel_rfl) (by simp) ?_
        refine AllReadyH.cons rfl (fun K hK => ?_) AllReadyH.nil
        go_simp
        rw [HR7.out]
        refine hK.out _ _ (HH.out _ (HT57.out)) (fun hHeld => ?_)
        clear hK K
        try simp only [Act.put, List.getElem_toArray, List.getElem_cons_zero, List.getElem_cons_succ, List.setIfInBounds_toArray, List.set_cons_zero, List.set_cons_succ]
        refine wpAnyH_done (by kernel_rfl) ?_ _
        refine NoPanic.normal ?_
        clear hHeld HH HR6 HR7
        go_wp2_with fail
        go_roundw
        case rel => exact ⟨1, by go_num, by omega, HT5.out.trans HT57.out, HM7.out⟩
        case measure => simp [intOf]
    · have HXr := Lib.hid (heap_turned HX.out HTr.out (by omega))
      have HBr := Lib.hid (show Below w.heap.size w wr from Below.turned HB.out HTr.out (fun i h => by omega) HB.out.size)
      have HWr := Lib.hid (HW.out.below HBr.out)
      have hzlt := heap_lt HXr.out
      obtain ⟨m0, m1, m2, m3, m4⟩ := cell5 HXr.out
      obtain ⟨c0, c1, c2⟩ := cell3c HWr.out.hd
      go_wp2_with fail
      go_region
      · obtain ⟨w5, hw5⟩ : ∃ w5, w5 = ((wr.alloc (.cells #[.int .i64 p.deb, .int .i64 p.ord] tSlot)).alloc (.cells #[.int .i64 p.cre, .int .i64 p.ord] tSlot)).drew := ⟨_, rfl⟩
        rw [← hw5]
        have hb5 : Below wr.heap.size wr w5 := by rw [hw5]; exact below_drew1' (((below_alloc wr _)).alloc (by simp) _)
        have h51 : w5.heap[wr.heap.size]? = some (.cells #[.int .i64 p.deb, .int .i64 p.ord] tSlot (0, 0)) := by rw [hw5]; exact heap_keep (heap_new wr _) (below_drew1' (below_alloc _ _))
        have h52 : w5.heap[wr.heap.size + 1]? = some (.cells #[.int .i64 p.cre, .int .i64 p.ord] tSlot (0, 0)) := by rw [hw5]; have := heap_new (wr.alloc (.cells #[.int .i64 p.deb, .int .i64 p.ord] tSlot)) (.cells #[.int .i64 p.cre, .int .i64 p.ord] tSlot); rw [show (wr.alloc (.cells #[.int .i64 p.deb, .int .i64 p.ord] tSlot)).heap.size = wr.heap.size + 1 by simp] at this; exact this
        have HT5 := Lib.hid (HTr.out.trans (Turned.of_below hb5)); have HM5 := Lib.hid (HMr.out.below hb5); have HX5 := Lib.hid (heap_keep HXr.out hb5); have HW5 := Lib.hid (HWr.out.below hb5)
        have hzz : w.heap.size + 1 < wr.heap.size := HMr.out.lt
        clear hw5 hb5 m0 m1 m2 m3 m4 c0 c1 c2
        obtain ⟨k1, hk1, hk1'⟩ : ∃ k1, k1 = wr.heap.size ∧ wr.heap.size ≤ k1 := ⟨_, rfl, by omega⟩
        obtain ⟨k2, hk2, hk2'⟩ : ∃ k2, k2 = wr.heap.size + 1 ∧ wr.heap.size ≤ k2 := ⟨_, rfl, by omega⟩
        rw [← hk1] at h51 ⊢; rw [← hk2] at h52; rw [show k1 + 1 = k2 by omega]
        have HK1 := Lib.hid h51; have HK2 := Lib.hid h52
        clear h51 h52 hk1 hk2
        obtain ⟨c0, c1, c2⟩ := cell3c HW5.out.hd
        obtain ⟨m0, m1, m2, m3, m4⟩ := cell5 HX5.out
        obtain ⟨x0, x1, _, _⟩ := cell2 HK1.out
        have HLK := Lib.hid (fun W (hb : Below w5.heap.size w5 W) => (show (Instr.lookup tMapB (.map (some bm)) (.agg #[.int .i64 p.deb, .int .i64 p.ord]) false).run Tryd.prog W = .ok (.int .i64 (balI b p.deb p.ord)) W by obtain ⟨E, hE, _, hE2⟩ := (HW5.out.below hb).mb; rw [← hE2]; exact blook hE _ _ (by omega) (by omega)))
        have hbd := HW5.out.many hl p.deb p.ord
        have HCA := Lib.hid (fun W => (show Calls Tryd.prog 52 #[.int .i64 (balI b p.deb p.ord), .int .i64 p.amt] W fun e w' => e = .returned (.tuple #[.int .i64 (balI b p.deb p.ord + p.amt), .bool true]) ∧ W = w' by rw [← pair_add (by omega)]; exact add_any _ _ W ⟨by omega, by omega⟩ ⟨by omega, by omega⟩))
        clear hbd
        go_wp2_with fail
        have HH := Lib.hid (fun W (hb : Below w5.heap.size w5 W) => (⟨Lib.hid hb, (hb.cell (World.block_lt_of_cell? w5 _ c2)).trans c2, (hb.cell (World.block_lt_of_cell? w5 _ m4)).trans m4, (hb.cell (World.block_lt_of_cell? w5 _ x0)).trans x0, (hb.cell (World.block_lt_of_cell? w5 _ x1)).trans x1⟩ : (fun w' => Hid (Below w5.heap.size w5 w') ∧ w'.cell? ⟨bb, 2, none⟩ = some (.map (some bm)) ∧ w'.cell? ⟨w.heap.size, 4, none⟩ = some (.int .i64 p.amt) ∧ w'.cell? ⟨k1, 0, none⟩ = some (.int .i64 p.deb) ∧ w'.cell? ⟨k1, 1, none⟩ = some (.int .i64 p.ord)) W))
        refine wp_region_noPanic ?_
        refine wp_region_held_drew (S := (fun w' => Hid (Below w5.heap.size w5 w') ∧ w'.cell? ⟨bb, 2, none⟩ = some (.map (some bm)) ∧ w'.cell? ⟨w.heap.size, 4, none⟩ = some (.int .i64 p.amt) ∧ w'.cell? ⟨k1, 0, none⟩ = some (.int .i64 p.deb) ∧ w'.cell? ⟨k1, 1, none⟩ = some (.int .i64 p.ord))) (by kernel_rfl) (HH.out _ (below_drew1 (Below.refl w5.heap.size w5))) (fun hHeld => ?_)
        refine wpAnyH_take (i := 0) (v := ?vc0_65) rfl (by kernel_rfl) (by kernel_rfl) (by kernel_rfl) (fun _ _ _ h => h) (Or.inl ⟨by rfl, ?hyc0_65⟩) (by assumption) ?restc0_65
        case hyc0_65 => (intro w0 hSw; (try dsimp only at hSw); go_simp; try with_reducible rfl)
        case' restc0_65 => try simp only [Act.put, List.getElem_toArray, List.getElem_cons_zero, List.getElem_cons_succ, List.setIfInBounds_toArray, List.set_cons_zero, List.set_cons_succ]
        refine wpAnyH_take (i := 1) (v := ?vc1_66) rfl (by kernel_rfl) (by kernel_rfl) (by kernel_rfl) (fun _ _ _ h => h) (Or.inl ⟨by rfl, ?hyc1_66⟩) (by assumption) ?restc1_66
        case hyc1_66 => (intro w0 hSw; (try dsimp only at hSw); go_simp; try with_reducible rfl)
        case' restc1_66 => try simp only [Act.put, List.getElem_toArray, List.getElem_cons_zero, List.getElem_cons_succ, List.setIfInBounds_toArray, List.set_cons_zero, List.set_cons_succ]
        refine wpAnyH_take (i := 2) (v := ?vc2_67) rfl (by kernel_rfl) (by kernel_rfl) (by kernel_rfl) (fun _ _ _ h => h) (Or.inl ⟨by rfl, ?hyc2_67⟩) (by assumption) ?restc2_67
        case hyc2_67 => (intro w0 hSw; (try dsimp only at hSw); go_simp; try with_reducible rfl)
        case' restc2_67 => try simp only [Act.put, List.getElem_toArray, List.getElem_cons_zero, List.getElem_cons_succ, List.setIfInBounds_toArray, List.set_cons_zero, List.set_cons_succ]
        refine wpAnyH_take (i := 3) (v := ?vc3_68) rfl (by kernel_rfl) (by kernel_rfl) (by kernel_rfl) (fun _ _ _ h => h) (Or.inl ⟨by rfl, ?hyc3_68⟩) (by assumption) ?restc3_68
        case hyc3_68 => (intro w0 hSw; (try dsimp only at hSw); go_simp; try with_reducible rfl)
        case' restc3_68 => try simp only [Act.put, List.getElem_toArray, List.getElem_cons_zero, List.getElem_cons_succ, List.setIfInBounds_toArray, List.set_cons_zero, List.set_cons_succ]
        refine wpAnyH_take (i := 4) (v := ?vc4_69) rfl (by kernel_rfl) (by kernel_rfl) (by kernel_rfl) (fun _ _ _ h => h) (Or.inl ⟨by rfl, ?hyc4_69⟩) (by assumption) ?restc4_69
        case hyc4_69 => (intro w0 hSw; (try dsimp only at hSw); go_simp; try with_reducible rfl)
        case' restc4_69 => try simp only [Act.put, List.getElem_toArray, List.getElem_cons_zero, List.getElem_cons_succ, List.setIfInBounds_toArray, List.set_cons_zero, List.set_cons_succ]
        refine wpAnyH_take (i := 5) (v := ?vc5_70) rfl (by kernel_rfl) (by kernel_rfl) (by kernel_rfl) (fun _ _ _ h => h) (Or.inl ⟨by rfl, ?hyc5_70⟩) (by assumption) ?restc5_70
        case hyc5_70 => (intro w0 hSw; (try dsimp only at hSw); go_simp; rw [HLK.out w0 (Hid.out hSw.1)]; rfl)
        case' restc5_70 => try simp only [Act.put, List.getElem_toArray, List.getElem_cons_zero, List.getElem_cons_succ, List.setIfInBounds_toArray, List.set_cons_zero, List.set_cons_succ]
        refine wpAnyH_take (i := 6) (v := ?vc6_71) rfl (by kernel_rfl) (by kernel_rfl) (by kernel_rfl) (fun _ _ _ h => h) (Or.inl ⟨by rfl, ?hyc6_71⟩) (by assumption) ?restc6_71
        case hyc6_71 => (intro w0 hSw; (try dsimp only at hSw); go_simp; try with_reducible rfl)
        case' restc6_71 => try simp only [Act.put, List.getElem_toArray, List.getElem_cons_zero, List.getElem_cons_succ, List.setIfInBounds_toArray, List.set_cons_zero, List.set_cons_succ]
        refine wpAnyH_take (i := 7) (v := ?vc7_72) rfl (by kernel_rfl) (by kernel_rfl) (by kernel_rfl) (fun _ _ _ h => h) (Or.inl ⟨by rfl, ?hyc7_72⟩) (by assumption) ?restc7_72
        case hyc7_72 => (intro w0 hSw; (try dsimp only at hSw); go_simp; try with_reducible rfl)
        case' restc7_72 => try simp only [Act.put, List.getElem_toArray, List.getElem_cons_zero, List.getElem_cons_succ, List.setIfInBounds_toArray, List.set_cons_zero, List.set_cons_succ]
        refine wpAnyH_ready (rs := [8]) (by kernel_rfl) (by simp) ?_
        refine AllReadyH.cons rfl (fun K hK => ?_) AllReadyH.nil
        go_simp
        refine (HCA.out _).mono ?_; rintro e w1 ⟨rfl, hb⟩; subst hb
        refine hK.out _ _ (by assumption) (fun hHeld => ?_)
        clear hK K
        try simp only [Act.put, List.getElem_toArray, List.getElem_cons_zero, List.getElem_cons_succ, List.setIfInBounds_toArray, List.set_cons_zero, List.set_cons_succ]
        refine wpAnyH_take (i := 9) (v := ?vc9_73) rfl (by kernel_rfl) (by kernel_rfl) (by kernel_rfl) (fun _ _ _ h => h) (Or.inl ⟨by rfl, ?hyc9_73⟩) (by assumption) ?restc9_73
        case hyc9_73 => (intro w0 hSw; (try dsimp only at hSw); go_simp; try with_reducible rfl)
        case' restc9_73 => try simp only [Act.put, List.getElem_toArray, List.getElem_cons_zero, List.getElem_cons_succ, List.setIfInBounds_toArray, List.set_cons_zero, List.set_cons_succ]
        refine wpAnyH_take (i := 10) (v := ?vc10_74) rfl (by kernel_rfl) (by kernel_rfl) (by kernel_rfl) (fun _ _ _ h => h) (Or.inl ⟨by rfl, ?hyc10_74⟩) (by assumption) ?restc10_74
        case hyc10_74 => (intro w0 hSw; (try dsimp only at hSw); go_simp; try with_reducible rfl)
        case' restc10_74 => try simp only [Act.put, List.getElem_toArray, List.getElem_cons_zero, List.getElem_cons_succ, List.setIfInBounds_toArray, List.set_cons_zero, List.set_cons_succ]
        refine wpAnyH_take (i := 11) (v := ?vc11_75) rfl (by kernel_rfl) (by kernel_rfl) (by kernel_rfl) (fun _ _ _ h => h) (Or.inl ⟨by rfl, ?hyc11_75⟩) (by assumption) ?restc11_75
        case hyc11_75 => (intro w0 hSw; (try dsimp only at hSw); go_simp; try with_reducible rfl)
        case' restc11_75 => try simp only [Act.put, List.getElem_toArray, List.getElem_cons_zero, List.getElem_cons_succ, List.setIfInBounds_toArray, List.set_cons_zero, List.set_cons_succ]
        refine wpAnyH_take (i := 12) (v := ?vc12_76) rfl (by kernel_rfl) (by kernel_rfl) (by kernel_rfl) (fun _ _ _ h => h) (Or.inl ⟨by rfl, ?hyc12_76⟩) (by assumption) ?restc12_76
        case hyc12_76 => (intro w0 hSw; (try dsimp only at hSw); go_simp; try with_reducible rfl)
        case' restc12_76 => try simp only [Act.put, List.getElem_toArray, List.getElem_cons_zero, List.getElem_cons_succ, List.setIfInBounds_toArray, List.set_cons_zero, List.set_cons_succ]
        refine wpAnyH_take (i := 13) (v := ?vc13_77) rfl (by kernel_rfl) (by kernel_rfl) (by kernel_rfl) (fun _ _ _ h => h) (Or.inl ⟨by rfl, ?hyc13_77⟩) (by assumption) ?restc13_77
        case hyc13_77 => (intro w0 hSw; (try dsimp only at hSw); go_simp; try with_reducible rfl)
        case' restc13_77 => try simp only [Act.put, List.getElem_toArray, List.getElem_cons_zero, List.getElem_cons_succ, List.setIfInBounds_toArray, List.set_cons_zero, List.set_cons_succ]
        refine wpAnyH_done (by kernel_rfl) ?_ _
        refine NoPanic.normal ?_
        obtain ⟨w6, hw6⟩ : ∃ w6, w6 = w5.drew := ⟨_, rfl⟩
        rw [← hw6]
        have hb6 : Below w5.heap.size w5 w6 := by rw [hw6]; exact below_drew1 (Below.refl _ _)
        have HT6 := Lib.hid (HT5.out.trans (Turned.of_below hb6)); have HM6 := Lib.hid (HM5.out.below hb6); have HX6 := Lib.hid (heap_keep HX5.out hb6); have HW6 := Lib.hid (HW5.out.below hb6); have HK16 := Lib.hid (heap_keep HK1.out hb6); have HK26 := Lib.hid (heap_keep HK2.out hb6)
        clear hw6 hb6 hHeld HH HLK HCA c0 c1 c2 m0 m1 m2 m3 m4 x0 x1 HT5 HM5 HX5 HW5 HK1 HK2
        have HT5 := Lib.hid HT6.out; have HM5 := Lib.hid HM6.out; have HX5 := Lib.hid HX6.out; have HW5 := Lib.hid HW6.out; have HK1 := Lib.hid HK16.out; have HK2 := Lib.hid HK26.out
        clear HT6 HM6 HX6 HW6 HK16 HK26
        generalize w6 = w5 at HT5 HM5 HX5 HW5 HK1 HK2 ⊢
        obtain ⟨c0, c1, c2⟩ := cell3c HW5.out.hd
        obtain ⟨m0, m1, m2, m3, m4⟩ := cell5 HX5.out
        obtain ⟨x0, x1, _, _⟩ := cell2 HK2.out
        have HLK := Lib.hid (fun W (hb : Below w5.heap.size w5 W) => (show (Instr.lookup tMapB (.map (some bm)) (.agg #[.int .i64 p.cre, .int .i64 p.ord]) false).run Tryd.prog W = .ok (.int .i64 (balI b p.cre p.ord)) W by obtain ⟨E, hE, _, hE2⟩ := (HW5.out.below hb).mb; rw [← hE2]; exact blook hE _ _ (by omega) (by omega)))
        have hbd := HW5.out.many hl p.cre p.ord
        have HCA := Lib.hid (fun W => (show Calls Tryd.prog 53 #[.int .i64 (balI b p.cre p.ord), .int .i64 p.amt] W fun e w' => e = .returned (.tuple #[.int .i64 (balI b p.cre p.ord - p.amt), .bool true]) ∧ W = w' by rw [← pair_sub (by omega)]; exact sub_any _ _ W ⟨by omega, by omega⟩ ⟨by omega, by omega⟩))
        clear hbd
        go_wp2_with fail
        have HH := Lib.hid (fun W (hb : Below w5.heap.size w5 W) => (⟨Lib.hid hb, (hb.cell (World.block_lt_of_cell? w5 _ c2)).trans c2, (hb.cell (World.block_lt_of_cell? w5 _ m4)).trans m4, (hb.cell (World.block_lt_of_cell? w5 _ x0)).trans x0, (hb.cell (World.block_lt_of_cell? w5 _ x1)).trans x1⟩ : (fun w' => Hid (Below w5.heap.size w5 w') ∧ w'.cell? ⟨bb, 2, none⟩ = some (.map (some bm)) ∧ w'.cell? ⟨w.heap.size, 4, none⟩ = some (.int .i64 p.amt) ∧ w'.cell? ⟨k2, 0, none⟩ = some (.int .i64 p.cre) ∧ w'.cell? ⟨k2, 1, none⟩ = some (.int .i64 p.ord)) W))
        refine wp_region_noPanic ?_
        refine wp_region_held_drew (S := (fun w' => Hid (Below w5.heap.size w5 w') ∧ w'.cell? ⟨bb, 2, none⟩ = some (.map (some bm)) ∧ w'.cell? ⟨w.heap.size, 4, none⟩ = some (.int .i64 p.amt) ∧ w'.cell? ⟨k2, 0, none⟩ = some (.int .i64 p.cre) ∧ w'.cell? ⟨k2, 1, none⟩ = some (.int .i64 p.ord))) (by kernel_rfl) (HH.out _ (below_drew1 (Below.refl w5.heap.size w5))) (fun hHeld => ?_)
        refine wpAnyH_take (i := 0) (v := ?vc0_78) rfl (by kernel_rfl) (by kernel_rfl) (by kernel_rfl) (fun _ _ _ h => h) (Or.inl ⟨by rfl, ?hyc0_78⟩) (by assumption) ?restc0_78
        case hyc0_78 => (intro w0 hSw; (try dsimp only at hSw); go_simp; try with_reducible rfl)
        case' restc0_78 => try simp only [Act.put, List.getElem_toArray, List.getElem_cons_zero, List.getElem_cons_succ, List.setIfInBounds_toArray, List.set_cons_zero, List.set_cons_succ]
        refine wpAnyH_take (i := 1) (v := ?vc1_79) rfl (by kernel_rfl) (by kernel_rfl) (by kernel_rfl) (fun _ _ _ h => h) (Or.inl ⟨by rfl, ?hyc1_79⟩) (by assumption) ?restc1_79
        case hyc1_79 => (intro w0 hSw; (try dsimp only at hSw); go_simp; try with_reducible rfl)
        case' restc1_79 => try simp only [Act.put, List.getElem_toArray, List.getElem_cons_zero, List.getElem_cons_succ, List.setIfInBounds_toArray, List.set_cons_zero, List.set_cons_succ]
        refine wpAnyH_take (i := 2) (v := ?vc2_80) rfl (by kernel_rfl) (by kernel_rfl) (by kernel_rfl) (fun _ _ _ h => h) (Or.inl ⟨by rfl, ?hyc2_80⟩) (by assumption) ?restc2_80
        case hyc2_80 => (intro w0 hSw; (try dsimp only at hSw); go_simp; try with_reducible rfl)
        case' restc2_80 => try simp only [Act.put, List.getElem_toArray, List.getElem_cons_zero, List.getElem_cons_succ, List.setIfInBounds_toArray, List.set_cons_zero, List.set_cons_succ]
        refine wpAnyH_take (i := 3) (v := ?vc3_81) rfl (by kernel_rfl) (by kernel_rfl) (by kernel_rfl) (fun _ _ _ h => h) (Or.inl ⟨by rfl, ?hyc3_81⟩) (by assumption) ?restc3_81
        case hyc3_81 => (intro w0 hSw; (try dsimp only at hSw); go_simp; try with_reducible rfl)
        case' restc3_81 => try simp only [Act.put, List.getElem_toArray, List.getElem_cons_zero, List.getElem_cons_succ, List.setIfInBounds_toArray, List.set_cons_zero, List.set_cons_succ]
        refine wpAnyH_take (i := 4) (v := ?vc4_82) rfl (by kernel_rfl) (by kernel_rfl) (by kernel_rfl) (fun _ _ _ h => h) (Or.inl ⟨by rfl, ?hyc4_82⟩) (by assumption) ?restc4_82
        case hyc4_82 => (intro w0 hSw; (try dsimp only at hSw); go_simp; try with_reducible rfl)
        case' restc4_82 => try simp only [Act.put, List.getElem_toArray, List.getElem_cons_zero, List.getElem_cons_succ, List.setIfInBounds_toArray, List.set_cons_zero, List.set_cons_succ]
        refine wpAnyH_take (i := 5) (v := ?vc5_83) rfl (by kernel_rfl) (by kernel_rfl) (by kernel_rfl) (fun _ _ _ h => h) (Or.inl ⟨by rfl, ?hyc5_83⟩) (by assumption) ?restc5_83
        case hyc5_83 => (intro w0 hSw; (try dsimp only at hSw); go_simp; rw [HLK.out w0 (Hid.out hSw.1)]; rfl)
        case' restc5_83 => try simp only [Act.put, List.getElem_toArray, List.getElem_cons_zero, List.getElem_cons_succ, List.setIfInBounds_toArray, List.set_cons_zero, List.set_cons_succ]
        refine wpAnyH_take (i := 6) (v := ?vc6_84) rfl (by kernel_rfl) (by kernel_rfl) (by kernel_rfl) (fun _ _ _ h => h) (Or.inl ⟨by rfl, ?hyc6_84⟩) (by assumption) ?restc6_84
        case hyc6_84 => (intro w0 hSw; (try dsimp only at hSw); go_simp; try with_reducible rfl)
        case' restc6_84 => try simp only [Act.put, List.getElem_toArray, List.getElem_cons_zero, List.getElem_cons_succ, List.setIfInBounds_toArray, List.set_cons_zero, List.set_cons_succ]
        refine wpAnyH_take (i := 7) (v := ?vc7_85) rfl (by kernel_rfl) (by kernel_rfl) (by kernel_rfl) (fun _ _ _ h => h) (Or.inl ⟨by rfl, ?hyc7_85⟩) (by assumption) ?restc7_85
        case hyc7_85 => (intro w0 hSw; (try dsimp only at hSw); go_simp; try with_reducible rfl)
        case' restc7_85 => try simp only [Act.put, List.getElem_toArray, List.getElem_cons_zero, List.getElem_cons_succ, List.setIfInBounds_toArray, List.set_cons_zero, List.set_cons_succ]
        refine wpAnyH_ready (rs := [8]) (by kernel_rfl) (by simp) ?_
        refine AllReadyH.cons rfl (fun K hK => ?_) AllReadyH.nil
        go_simp
        refine (HCA.out _).mono ?_; rintro e w1 ⟨rfl, hb⟩; subst hb
        refine hK.out _ _ (by assumption) (fun hHeld => ?_)
        clear hK K
        try simp only [Act.put, List.getElem_toArray, List.getElem_cons_zero, List.getElem_cons_succ, List.setIfInBounds_toArray, List.set_cons_zero, List.set_cons_succ]
        refine wpAnyH_take (i := 9) (v := ?vc9_86) rfl (by kernel_rfl) (by kernel_rfl) (by kernel_rfl) (fun _ _ _ h => h) (Or.inl ⟨by rfl, ?hyc9_86⟩) (by assumption) ?restc9_86
        case hyc9_86 => (intro w0 hSw; (try dsimp only at hSw); go_simp; try with_reducible rfl)
        case' restc9_86 => try simp only [Act.put, List.getElem_toArray, List.getElem_cons_zero, List.getElem_cons_succ, List.setIfInBounds_toArray, List.set_cons_zero, List.set_cons_succ]
        refine wpAnyH_take (i := 10) (v := ?vc10_87) rfl (by kernel_rfl) (by kernel_rfl) (by kernel_rfl) (fun _ _ _ h => h) (Or.inl ⟨by rfl, ?hyc10_87⟩) (by assumption) ?restc10_87
        case hyc10_87 => (intro w0 hSw; (try dsimp only at hSw); go_simp; try with_reducible rfl)
        case' restc10_87 => try simp only [Act.put, List.getElem_toArray, List.getElem_cons_zero, List.getElem_cons_succ, List.setIfInBounds_toArray, List.set_cons_zero, List.set_cons_succ]
        refine wpAnyH_take (i := 11) (v := ?vc11_88) rfl (by kernel_rfl) (by kernel_rfl) (by kernel_rfl) (fun _ _ _ h => h) (Or.inl ⟨by rfl, ?hyc11_88⟩) (by assumption) ?restc11_88
        case hyc11_88 => (intro w0 hSw; (try dsimp only at hSw); go_simp; try with_reducible rfl)
        case' restc11_88 => try simp only [Act.put, List.getElem_toArray, List.getElem_cons_zero, List.getElem_cons_succ, List.setIfInBounds_toArray, List.set_cons_zero, List.set_cons_succ]
        refine wpAnyH_take (i := 12) (v := ?vc12_89) rfl (by kernel_rfl) (by kernel_rfl) (by kernel_rfl) (fun _ _ _ h => h) (Or.inl ⟨by rfl, ?hyc12_89⟩) (by assumption) ?restc12_89
        case hyc12_89 => (intro w0 hSw; (try dsimp only at hSw); go_simp; try with_reducible rfl)
        case' restc12_89 => try simp only [Act.put, List.getElem_toArray, List.getElem_cons_zero, List.getElem_cons_succ, List.setIfInBounds_toArray, List.set_cons_zero, List.set_cons_succ]
        refine wpAnyH_take (i := 13) (v := ?vc13_90) rfl (by kernel_rfl) (by kernel_rfl) (by kernel_rfl) (fun _ _ _ h => h) (Or.inl ⟨by rfl, ?hyc13_90⟩) (by assumption) ?restc13_90
        case hyc13_90 => (intro w0 hSw; (try dsimp only at hSw); go_simp; try with_reducible rfl)
        case' restc13_90 => try simp only [Act.put, List.getElem_toArray, List.getElem_cons_zero, List.getElem_cons_succ, List.setIfInBounds_toArray, List.set_cons_zero, List.set_cons_succ]
        refine wpAnyH_done (by kernel_rfl) ?_ _
        refine NoPanic.normal ?_
        obtain ⟨w6, hw6⟩ : ∃ w6, w6 = w5.drew := ⟨_, rfl⟩
        rw [← hw6]
        have hb6 : Below w5.heap.size w5 w6 := by rw [hw6]; exact below_drew1 (Below.refl _ _)
        have HT6 := Lib.hid (HT5.out.trans (Turned.of_below hb6)); have HM6 := Lib.hid (HM5.out.below hb6); have HX6 := Lib.hid (heap_keep HX5.out hb6); have HW6 := Lib.hid (HW5.out.below hb6); have HK16 := Lib.hid (heap_keep HK1.out hb6); have HK26 := Lib.hid (heap_keep HK2.out hb6)
        clear hw6 hb6 hHeld HH HLK HCA c0 c1 c2 m0 m1 m2 m3 m4 x0 x1 HT5 HM5 HX5 HW5 HK1 HK2
        have HT5 := Lib.hid HT6.out; have HM5 := Lib.hid HM6.out; have HX5 := Lib.hid HX6.out; have HW5 := Lib.hid HW6.out; have HK1 := Lib.hid HK16.out; have HK2 := Lib.hid HK26.out
        clear HT6 HM6 HX6 HW6 HK16 HK26
        generalize w6 = w5 at HT5 HM5 HX5 HW5 HK1 HK2 ⊢
        go_wp2_with fail
        have HM5d := Lib.hid (HM5.out.below (below_drew1 (Below.refl w5.heap.size w5)))
        obtain ⟨l1, hl1⟩ := slot_reads (p.deb, p.ord) ⟨by omega, by omega⟩
        obtain ⟨l2, hl2⟩ := slot_reads (p.cre, p.ord) ⟨by omega, by omega⟩
        obtain ⟨w6, hr6, hm6, ht6⟩ := HM5d.out.store lawSlot mapB (by simp [fourK, maxLen]) hl1 (mkSlot_inj _) (balI b p.deb p.ord + p.amt)
        obtain ⟨w7, hr7, hm7, ht7⟩ := hm6.store lawSlot mapB (by have h1 := without_len (fourK b p 1) (p.deb, p.ord); have h2 : (fourK b p 1).length ≤ 2 := (by simp [fourK]); rw [List.length_cons]; unfold maxLen; omega) hl2 (mkSlot_inj _) (balI b p.cre p.ord - p.amt)
        rw [four_two HP.out] at hm7
        have HR6 := Lib.hid (show (Instr.mapUpdate tMapB (.map (some (w.heap.size + 1))) (.agg #[.int .i64 p.deb, .int .i64 p.ord]) (.int .i64 (balI b p.deb p.ord + p.amt))).run Tryd.prog w5.drew = .ok () w6 from hr6)
        have HR7 := Lib.hid (show (Instr.mapUpdate tMapB (.map (some (w.heap.size + 1))) (.agg #[.int .i64 p.cre, .int .i64 p.ord]) (.int .i64 (balI b p.cre p.ord - p.amt))).run Tryd.prog w6 = .ok () w7 from hr7)
        have HM7 := Lib.hid hm7
        have ht56 : Turned (fun j => j = w.heap.size + 1) w5 w6 := (Turned.refl _ w5).drew.trans (Turned.of_grown ht6.grown (fun j h => by injection h with h; exact h.symm))
        have ht57 : Turned (fun j => j = w.heap.size + 1) w5 w7 := ht56.trans (Turned.of_grown ht7.grown (fun j h => by injection h with h; exact h.symm))
        have HT56 := Lib.hid ht56; have HT57 := Lib.hid ht57
        clear hl1 hl2 hr6 hr7 hm6 hm7 ht6 ht7 ht56 ht57
        have hkk : k1 ≠ w.heap.size + 1 ∧ k2 ≠ w.heap.size + 1 := by omega
        have HH := Lib.hid (fun W' (hb : Turned (fun j => j = w.heap.size + 1) w5 W') => (⟨Lib.hid hb, cell_at (heap_turned HK1.out hb hkk.1) 0 rfl, cell_at (heap_turned HK1.out hb hkk.1) 1 rfl, cell_at (heap_turned HK2.out hb hkk.2) 0 rfl, cell_at (heap_turned HK2.out hb hkk.2) 1 rfl⟩ : (fun w' => Hid (Turned (fun j => j = w.heap.size + 1) w5 w') ∧ w'.cell? ⟨k1, 0, none⟩ = some (.int .i64 p.deb) ∧ w'.cell? ⟨k1, 1, none⟩ = some (.int .i64 p.ord) ∧ w'.cell? ⟨k2, 0, none⟩ = some (.int .i64 p.cre) ∧ w'.cell? ⟨k2, 1, none⟩ = some (.int .i64 p.ord)) W'))
        refine wp_region_noPanic ?_
        refine wp_region_held_drew (S := (fun w' => Hid (Turned (fun j => j = w.heap.size + 1) w5 w') ∧ w'.cell? ⟨k1, 0, none⟩ = some (.int .i64 p.deb) ∧ w'.cell? ⟨k1, 1, none⟩ = some (.int .i64 p.ord) ∧ w'.cell? ⟨k2, 0, none⟩ = some (.int .i64 p.cre) ∧ w'.cell? ⟨k2, 1, none⟩ = some (.int .i64 p.ord))) (by kernel_rfl) (HH.out _ ((Turned.refl _ w5).drew)) (fun hHeld => ?_)
        refine wpAnyH_take (i := 0) (v := ?vc0_91) rfl (by kernel_rfl) (by kernel_rfl) (by kernel_rfl) (fun _ _ _ h => h) (Or.inl ⟨by rfl, ?hyc0_91⟩) (by assumption) ?restc0_91
        case hyc0_91 => (intro w0 hSw; (try dsimp only at hSw); go_simp; try with_reducible rfl)
        case' restc0_91 => try simp only [Act.put, List.getElem_toArray, List.getElem_cons_zero, List.getElem_cons_succ, List.setIfInBounds_toArray, List.set_cons_zero, List.set_cons_succ]
        refine wpAnyH_take (i := 1) (v := ?vc1_92) rfl (by kernel_rfl) (by kernel_rfl) (by kernel_rfl) (fun _ _ _ h => h) (Or.inl ⟨by rfl, ?hyc1_92⟩) (by assumption) ?restc1_92
        case hyc1_92 => (intro w0 hSw; (try dsimp only at hSw); go_simp; try with_reducible rfl)
        case' restc1_92 => try simp only [Act.put, List.getElem_toArray, List.getElem_cons_zero, List.getElem_cons_succ, List.setIfInBounds_toArray, List.set_cons_zero, List.set_cons_succ]
        refine wpAnyH_take (i := 2) (v := ?vc2_93) rfl (by kernel_rfl) (by kernel_rfl) (by kernel_rfl) (fun _ _ _ h => h) (Or.inl ⟨by rfl, ?hyc2_93⟩) (by assumption) ?restc2_93
        case hyc2_93 => (intro w0 hSw; (try dsimp only at hSw); go_simp; try with_reducible rfl)
        case' restc2_93 => try simp only [Act.put, List.getElem_toArray, List.getElem_cons_zero, List.getElem_cons_succ, List.setIfInBounds_toArray, List.set_cons_zero, List.set_cons_succ]
        refine wpAnyH_take (i := 3) (v := ?vc3_94) rfl (by kernel_rfl) (by kernel_rfl) (by kernel_rfl) (fun _ _ _ h => h) (Or.inl ⟨by rfl, ?hyc3_94⟩) (by assumption) ?restc3_94
        case hyc3_94 => (intro w0 hSw; (try dsimp only at hSw); go_simp; try with_reducible rfl)
        case' restc3_94 => try simp only [Act.put, List.getElem_toArray, List.getElem_cons_zero, List.getElem_cons_succ, List.setIfInBounds_toArray, List.set_cons_zero, List.set_cons_succ]
        refine wpAnyH_take (i := 4) (v := ?vc4_95) rfl (by kernel_rfl) (by kernel_rfl) (by kernel_rfl) (fun _ _ _ h => h) (Or.inl ⟨by rfl, ?hyc4_95⟩) (by assumption) ?restc4_95
        case hyc4_95 => (intro w0 hSw; (try dsimp only at hSw); go_simp; try with_reducible rfl)
        case' restc4_95 => try simp only [Act.put, List.getElem_toArray, List.getElem_cons_zero, List.getElem_cons_succ, List.setIfInBounds_toArray, List.set_cons_zero, List.set_cons_succ]
        refine wpAnyH_take (i := 5) (v := ?vc5_96) rfl (by kernel_rfl) (by kernel_rfl) (by kernel_rfl) (fun _ _ _ h => h) (Or.inl ⟨by rfl, ?hyc5_96⟩) (by assumption) ?restc5_96
        case hyc5_96 => (intro w0 hSw; (try dsimp only at hSw); go_simp; try with_reducible rfl)
        case' restc5_96 => try simp only [Act.put, List.getElem_toArray, List.getElem_cons_zero, List.getElem_cons_succ, List.setIfInBounds_toArray, List.set_cons_zero, List.set_cons_succ]
        refine wpAnyH_ready (rs := [6]) (by kernel_rfl) (by simp) ?_
        refine AllReadyH.cons rfl (fun K hK => ?_) AllReadyH.nil
        go_simp
        rw [HR6.out]
        refine hK.out _ _ (HH.out _ (HT56.out)) (fun hHeld => ?_)
        clear hK K
        try simp only [Act.put, List.getElem_toArray, List.getElem_cons_zero, List.getElem_cons_succ, List.setIfInBounds_toArray, List.set_cons_zero, List.set_cons_succ]
        refine wpAnyH_ready (rs := [7]) (by kernel_rfl) (by simp) ?_
        refine AllReadyH.cons rfl (fun K hK => ?_) AllReadyH.nil
        go_simp
        rw [HR7.out]
        refine hK.out _ _ (HH.out _ (HT57.out)) (fun hHeld => ?_)
        clear hK K
        try simp only [Act.put, List.getElem_toArray, List.getElem_cons_zero, List.getElem_cons_succ, List.setIfInBounds_toArray, List.set_cons_zero, List.set_cons_succ]
        refine wpAnyH_done (by kernel_rfl) ?_ _
        refine NoPanic.normal ?_
        clear hHeld HH HR6 HR7
        go_wp2_with fail
        go_roundw
        case rel => exact ⟨2, by go_num, by omega, HT5.out.trans HT57.out, HM7.out⟩
        case measure => simp [intOf]
      · obtain ⟨w5, hw5⟩ : ∃ w5, w5 = ((wr.alloc (.cells #[.int .i64 p.cre, .int .i64 p.ord] tSlot)).alloc (.cells #[.int .i64 p.deb, .int .i64 p.ord] tSlot)).drew := ⟨_, rfl⟩
        rw [← hw5]
        have hb5 : Below wr.heap.size wr w5 := by rw [hw5]; exact below_drew1' (((below_alloc wr _)).alloc (by simp) _)
        have h51 : w5.heap[wr.heap.size]? = some (.cells #[.int .i64 p.cre, .int .i64 p.ord] tSlot (0, 0)) := by rw [hw5]; exact heap_keep (heap_new wr _) (below_drew1' (below_alloc _ _))
        have h52 : w5.heap[wr.heap.size + 1]? = some (.cells #[.int .i64 p.deb, .int .i64 p.ord] tSlot (0, 0)) := by rw [hw5]; have := heap_new (wr.alloc (.cells #[.int .i64 p.cre, .int .i64 p.ord] tSlot)) (.cells #[.int .i64 p.deb, .int .i64 p.ord] tSlot); rw [show (wr.alloc (.cells #[.int .i64 p.cre, .int .i64 p.ord] tSlot)).heap.size = wr.heap.size + 1 by simp] at this; exact this
        have HT5 := Lib.hid (HTr.out.trans (Turned.of_below hb5)); have HM5 := Lib.hid (HMr.out.below hb5); have HX5 := Lib.hid (heap_keep HXr.out hb5); have HW5 := Lib.hid (HWr.out.below hb5)
        have hzz : w.heap.size + 1 < wr.heap.size := HMr.out.lt
        clear hw5 hb5 m0 m1 m2 m3 m4 c0 c1 c2
        obtain ⟨k1, hk1, hk1'⟩ : ∃ k1, k1 = wr.heap.size + 1 ∧ wr.heap.size ≤ k1 := ⟨_, rfl, by omega⟩
        obtain ⟨k2, hk2, hk2'⟩ : ∃ k2, k2 = wr.heap.size ∧ wr.heap.size ≤ k2 := ⟨_, rfl, by omega⟩
        rw [← hk2] at h51 ⊢; rw [← hk1] at h52; rw [show k2 + 1 = k1 by omega]
        have HK1 := Lib.hid h52; have HK2 := Lib.hid h51
        clear h51 h52 hk1 hk2
        obtain ⟨c0, c1, c2⟩ := cell3c HW5.out.hd
        obtain ⟨m0, m1, m2, m3, m4⟩ := cell5 HX5.out
        obtain ⟨x0, x1, _, _⟩ := cell2 HK1.out
        have HLK := Lib.hid (fun W (hb : Below w5.heap.size w5 W) => (show (Instr.lookup tMapB (.map (some bm)) (.agg #[.int .i64 p.deb, .int .i64 p.ord]) false).run Tryd.prog W = .ok (.int .i64 (balI b p.deb p.ord)) W by obtain ⟨E, hE, _, hE2⟩ := (HW5.out.below hb).mb; rw [← hE2]; exact blook hE _ _ (by omega) (by omega)))
        have hbd := HW5.out.many hl p.deb p.ord
        have HCA := Lib.hid (fun W => (show Calls Tryd.prog 52 #[.int .i64 (balI b p.deb p.ord), .int .i64 p.amt] W fun e w' => e = .returned (.tuple #[.int .i64 (balI b p.deb p.ord + p.amt), .bool true]) ∧ W = w' by rw [← pair_add (by omega)]; exact add_any _ _ W ⟨by omega, by omega⟩ ⟨by omega, by omega⟩))
        clear hbd
        go_wp2_with fail
        have HH := Lib.hid (fun W (hb : Below w5.heap.size w5 W) => (⟨Lib.hid hb, (hb.cell (World.block_lt_of_cell? w5 _ c2)).trans c2, (hb.cell (World.block_lt_of_cell? w5 _ m4)).trans m4, (hb.cell (World.block_lt_of_cell? w5 _ x0)).trans x0, (hb.cell (World.block_lt_of_cell? w5 _ x1)).trans x1⟩ : (fun w' => Hid (Below w5.heap.size w5 w') ∧ w'.cell? ⟨bb, 2, none⟩ = some (.map (some bm)) ∧ w'.cell? ⟨w.heap.size, 4, none⟩ = some (.int .i64 p.amt) ∧ w'.cell? ⟨k1, 0, none⟩ = some (.int .i64 p.deb) ∧ w'.cell? ⟨k1, 1, none⟩ = some (.int .i64 p.ord)) W))
        refine wp_region_noPanic ?_
        refine wp_region_held_drew (S := (fun w' => Hid (Below w5.heap.size w5 w') ∧ w'.cell? ⟨bb, 2, none⟩ = some (.map (some bm)) ∧ w'.cell? ⟨w.heap.size, 4, none⟩ = some (.int .i64 p.amt) ∧ w'.cell? ⟨k1, 0, none⟩ = some (.int .i64 p.deb) ∧ w'.cell? ⟨k1, 1, none⟩ = some (.int .i64 p.ord))) (by kernel_rfl) (HH.out _ (below_drew1 (Below.refl w5.heap.size w5))) (fun hHeld => ?_)
        refine wpAnyH_take (i := 0) (v := ?vc0_97) rfl (by kernel_rfl) (by kernel_rfl) (by kernel_rfl) (fun _ _ _ h => h) (Or.inl ⟨by rfl, ?hyc0_97⟩) (by assumption) ?restc0_97
        case hyc0_97 => (intro w0 hSw; (try dsimp only at hSw); go_simp; try with_reducible rfl)
        case' restc0_97 => try simp only [Act.put, List.getElem_toArray, List.getElem_cons_zero, List.getElem_cons_succ, List.setIfInBounds_toArray, List.set_cons_zero, List.set_cons_succ]
        refine wpAnyH_take (i := 1) (v := ?vc1_98) rfl (by kernel_rfl) (by kernel_rfl) (by kernel_rfl) (fun _ _ _ h => h) (Or.inl ⟨by rfl, ?hyc1_98⟩) (by assumption) ?restc1_98
        case hyc1_98 => (intro w0 hSw; (try dsimp only at hSw); go_simp; try with_reducible rfl)
        case' restc1_98 => try simp only [Act.put, List.getElem_toArray, List.getElem_cons_zero, List.getElem_cons_succ, List.setIfInBounds_toArray, List.set_cons_zero, List.set_cons_succ]
        refine wpAnyH_take (i := 2) (v := ?vc2_99) rfl (by kernel_rfl) (by kernel_rfl) (by kernel_rfl) (fun _ _ _ h => h) (Or.inl ⟨by rfl, ?hyc2_99⟩) (by assumption) ?restc2_99
        case hyc2_99 => (intro w0 hSw; (try dsimp only at hSw); go_simp; try with_reducible rfl)
        case' restc2_99 => try simp only [Act.put, List.getElem_toArray, List.getElem_cons_zero, List.getElem_cons_succ, List.setIfInBounds_toArray, List.set_cons_zero, List.set_cons_succ]
        refine wpAnyH_take (i := 3) (v := ?vc3_100) rfl (by kernel_rfl) (by kernel_rfl) (by kernel_rfl) (fun _ _ _ h => h) (Or.inl ⟨by rfl, ?hyc3_100⟩) (by assumption) ?restc3_100
        case hyc3_100 => (intro w0 hSw; (try dsimp only at hSw); go_simp; try with_reducible rfl)
        case' restc3_100 => try simp only [Act.put, List.getElem_toArray, List.getElem_cons_zero, List.getElem_cons_succ, List.setIfInBounds_toArray, List.set_cons_zero, List.set_cons_succ]
        refine wpAnyH_take (i := 4) (v := ?vc4_101) rfl (by kernel_rfl) (by kernel_rfl) (by kernel_rfl) (fun _ _ _ h => h) (Or.inl ⟨by rfl, ?hyc4_101⟩) (by assumption) ?restc4_101
        case hyc4_101 => (intro w0 hSw; (try dsimp only at hSw); go_simp; try with_reducible rfl)
        case' restc4_101 => try simp only [Act.put, List.getElem_toArray, List.getElem_cons_zero, List.getElem_cons_succ, List.setIfInBounds_toArray, List.set_cons_zero, List.set_cons_succ]
        refine wpAnyH_take (i := 5) (v := ?vc5_102) rfl (by kernel_rfl) (by kernel_rfl) (by kernel_rfl) (fun _ _ _ h => h) (Or.inl ⟨by rfl, ?hyc5_102⟩) (by assumption) ?restc5_102
        case hyc5_102 => (intro w0 hSw; (try dsimp only at hSw); go_simp; rw [HLK.out w0 (Hid.out hSw.1)]; rfl)
        case' restc5_102 => try simp only [Act.put, List.getElem_toArray, List.getElem_cons_zero, List.getElem_cons_succ, List.setIfInBounds_toArray, List.set_cons_zero, List.set_cons_succ]
        refine wpAnyH_take (i := 6) (v := ?vc6_103) rfl (by kernel_rfl) (by kernel_rfl) (by kernel_rfl) (fun _ _ _ h => h) (Or.inl ⟨by rfl, ?hyc6_103⟩) (by assumption) ?restc6_103
        case hyc6_103 => (intro w0 hSw; (try dsimp only at hSw); go_simp; try with_reducible rfl)
        case' restc6_103 => try simp only [Act.put, List.getElem_toArray, List.getElem_cons_zero, List.getElem_cons_succ, List.setIfInBounds_toArray, List.set_cons_zero, List.set_cons_succ]
        refine wpAnyH_take (i := 7) (v := ?vc7_104) rfl (by kernel_rfl) (by kernel_rfl) (by kernel_rfl) (fun _ _ _ h => h) (Or.inl ⟨by rfl, ?hyc7_104⟩) (by assumption) ?restc7_104
        case hyc7_104 => (intro w0 hSw; (try dsimp only at hSw); go_simp; try with_reducible rfl)
        case' restc7_104 => try simp only [Act.put, List.getElem_toArray, List.getElem_cons_zero, List.getElem_cons_succ, List.setIfInBounds_toArray, List.set_cons_zero, List.set_cons_succ]
        refine wpAnyH_ready (rs := [8]) (by kernel_rfl) (by simp) ?_
        refine AllReadyH.cons rfl (fun K hK => ?_) AllReadyH.nil
        go_simp
        refine (HCA.out _).mono ?_; rintro e w1 ⟨rfl, hb⟩; subst hb
        refine hK.out _ _ (by assumption) (fun hHeld => ?_)
        clear hK K
        try simp only [Act.put, List.getElem_toArray, List.getElem_cons_zero, List.getElem_cons_succ, List.setIfInBounds_toArray, List.set_cons_zero, List.set_cons_succ]
        refine wpAnyH_take (i := 9) (v := ?vc9_105) rfl (by kernel_rfl) (by kernel_rfl) (by kernel_rfl) (fun _ _ _ h => h) (Or.inl ⟨by rfl, ?hyc9_105⟩) (by assumption) ?restc9_105
        case hyc9_105 => (intro w0 hSw; (try dsimp only at hSw); go_simp; try with_reducible rfl)
        case' restc9_105 => try simp only [Act.put, List.getElem_toArray, List.getElem_cons_zero, List.getElem_cons_succ, List.setIfInBounds_toArray, List.set_cons_zero, List.set_cons_succ]
        refine wpAnyH_take (i := 10) (v := ?vc10_106) rfl (by kernel_rfl) (by kernel_rfl) (by kernel_rfl) (fun _ _ _ h => h) (Or.inl ⟨by rfl, ?hyc10_106⟩) (by assumption) ?restc10_106
        case hyc10_106 => (intro w0 hSw; (try dsimp only at hSw); go_simp; try with_reducible rfl)
        case' restc10_106 => try simp only [Act.put, List.getElem_toArray, List.getElem_cons_zero, List.getElem_cons_succ, List.setIfInBounds_toArray, List.set_cons_zero, List.set_cons_succ]
        refine wpAnyH_take (i := 11) (v := ?vc11_107) rfl (by kernel_rfl) (by kernel_rfl) (by kernel_rfl) (fun _ _ _ h => h) (Or.inl ⟨by rfl, ?hyc11_107⟩) (by assumption) ?restc11_107
        case hyc11_107 => (intro w0 hSw; (try dsimp only at hSw); go_simp; try with_reducible rfl)
        case' restc11_107 => try simp only [Act.put, List.getElem_toArray, List.getElem_cons_zero, List.getElem_cons_succ, List.setIfInBounds_toArray, List.set_cons_zero, List.set_cons_succ]
        refine wpAnyH_take (i := 12) (v := ?vc12_108) rfl (by kernel_rfl) (by kernel_rfl) (by kernel_rfl) (fun _ _ _ h => h) (Or.inl ⟨by rfl, ?hyc12_108⟩) (by assumption) ?restc12_108
        case hyc12_108 => (intro w0 hSw; (try dsimp only at hSw); go_simp; try with_reducible rfl)
        case' restc12_108 => try simp only [Act.put, List.getElem_toArray, List.getElem_cons_zero, List.getElem_cons_succ, List.setIfInBounds_toArray, List.set_cons_zero, List.set_cons_succ]
        refine wpAnyH_take (i := 13) (v := ?vc13_109) rfl (by kernel_rfl) (by kernel_rfl) (by kernel_rfl) (fun _ _ _ h => h) (Or.inl ⟨by rfl, ?hyc13_109⟩) (by assumption) ?restc13_109
        case hyc13_109 => (intro w0 hSw; (try dsimp only at hSw); go_simp; try with_reducible rfl)
        case' restc13_109 => try simp only [Act.put, List.getElem_toArray, List.getElem_cons_zero, List.getElem_cons_succ, List.setIfInBounds_toArray, List.set_cons_zero, List.set_cons_succ]
        refine wpAnyH_done (by kernel_rfl) ?_ _
        refine NoPanic.normal ?_
        obtain ⟨w6, hw6⟩ : ∃ w6, w6 = w5.drew := ⟨_, rfl⟩
        rw [← hw6]
        have hb6 : Below w5.heap.size w5 w6 := by rw [hw6]; exact below_drew1 (Below.refl _ _)
        have HT6 := Lib.hid (HT5.out.trans (Turned.of_below hb6)); have HM6 := Lib.hid (HM5.out.below hb6); have HX6 := Lib.hid (heap_keep HX5.out hb6); have HW6 := Lib.hid (HW5.out.below hb6); have HK16 := Lib.hid (heap_keep HK1.out hb6); have HK26 := Lib.hid (heap_keep HK2.out hb6)
        clear hw6 hb6 hHeld HH HLK HCA c0 c1 c2 m0 m1 m2 m3 m4 x0 x1 HT5 HM5 HX5 HW5 HK1 HK2
        have HT5 := Lib.hid HT6.out; have HM5 := Lib.hid HM6.out; have HX5 := Lib.hid HX6.out; have HW5 := Lib.hid HW6.out; have HK1 := Lib.hid HK16.out; have HK2 := Lib.hid HK26.out
        clear HT6 HM6 HX6 HW6 HK16 HK26
        generalize w6 = w5 at HT5 HM5 HX5 HW5 HK1 HK2 ⊢
        obtain ⟨c0, c1, c2⟩ := cell3c HW5.out.hd
        obtain ⟨m0, m1, m2, m3, m4⟩ := cell5 HX5.out
        obtain ⟨x0, x1, _, _⟩ := cell2 HK2.out
        have HLK := Lib.hid (fun W (hb : Below w5.heap.size w5 W) => (show (Instr.lookup tMapB (.map (some bm)) (.agg #[.int .i64 p.cre, .int .i64 p.ord]) false).run Tryd.prog W = .ok (.int .i64 (balI b p.cre p.ord)) W by obtain ⟨E, hE, _, hE2⟩ := (HW5.out.below hb).mb; rw [← hE2]; exact blook hE _ _ (by omega) (by omega)))
        have hbd := HW5.out.many hl p.cre p.ord
        have HCA := Lib.hid (fun W => (show Calls Tryd.prog 53 #[.int .i64 (balI b p.cre p.ord), .int .i64 p.amt] W fun e w' => e = .returned (.tuple #[.int .i64 (balI b p.cre p.ord - p.amt), .bool true]) ∧ W = w' by rw [← pair_sub (by omega)]; exact sub_any _ _ W ⟨by omega, by omega⟩ ⟨by omega, by omega⟩))
        clear hbd
        go_wp2_with fail
        have HH := Lib.hid (fun W (hb : Below w5.heap.size w5 W) => (⟨Lib.hid hb, (hb.cell (World.block_lt_of_cell? w5 _ c2)).trans c2, (hb.cell (World.block_lt_of_cell? w5 _ m4)).trans m4, (hb.cell (World.block_lt_of_cell? w5 _ x0)).trans x0, (hb.cell (World.block_lt_of_cell? w5 _ x1)).trans x1⟩ : (fun w' => Hid (Below w5.heap.size w5 w') ∧ w'.cell? ⟨bb, 2, none⟩ = some (.map (some bm)) ∧ w'.cell? ⟨w.heap.size, 4, none⟩ = some (.int .i64 p.amt) ∧ w'.cell? ⟨k2, 0, none⟩ = some (.int .i64 p.cre) ∧ w'.cell? ⟨k2, 1, none⟩ = some (.int .i64 p.ord)) W))
        refine wp_region_noPanic ?_
        refine wp_region_held_drew (S := (fun w' => Hid (Below w5.heap.size w5 w') ∧ w'.cell? ⟨bb, 2, none⟩ = some (.map (some bm)) ∧ w'.cell? ⟨w.heap.size, 4, none⟩ = some (.int .i64 p.amt) ∧ w'.cell? ⟨k2, 0, none⟩ = some (.int .i64 p.cre) ∧ w'.cell? ⟨k2, 1, none⟩ = some (.int .i64 p.ord))) (by kernel_rfl) (HH.out _ (below_drew1 (Below.refl w5.heap.size w5))) (fun hHeld => ?_)
        refine wpAnyH_take (i := 0) (v := ?vc0_110) rfl (by kernel_rfl) (by kernel_rfl) (by kernel_rfl) (fun _ _ _ h => h) (Or.inl ⟨by rfl, ?hyc0_110⟩) (by assumption) ?restc0_110
        case hyc0_110 => (intro w0 hSw; (try dsimp only at hSw); go_simp; try with_reducible rfl)
        case' restc0_110 => try simp only [Act.put, List.getElem_toArray, List.getElem_cons_zero, List.getElem_cons_succ, List.setIfInBounds_toArray, List.set_cons_zero, List.set_cons_succ]
        refine wpAnyH_take (i := 1) (v := ?vc1_111) rfl (by kernel_rfl) (by kernel_rfl) (by kernel_rfl) (fun _ _ _ h => h) (Or.inl ⟨by rfl, ?hyc1_111⟩) (by assumption) ?restc1_111
        case hyc1_111 => (intro w0 hSw; (try dsimp only at hSw); go_simp; try with_reducible rfl)
        case' restc1_111 => try simp only [Act.put, List.getElem_toArray, List.getElem_cons_zero, List.getElem_cons_succ, List.setIfInBounds_toArray, List.set_cons_zero, List.set_cons_succ]
        refine wpAnyH_take (i := 2) (v := ?vc2_112) rfl (by kernel_rfl) (by kernel_rfl) (by kernel_rfl) (fun _ _ _ h => h) (Or.inl ⟨by rfl, ?hyc2_112⟩) (by assumption) ?restc2_112
        case hyc2_112 => (intro w0 hSw; (try dsimp only at hSw); go_simp; try with_reducible rfl)
        case' restc2_112 => try simp only [Act.put, List.getElem_toArray, List.getElem_cons_zero, List.getElem_cons_succ, List.setIfInBounds_toArray, List.set_cons_zero, List.set_cons_succ]
        refine wpAnyH_take (i := 3) (v := ?vc3_113) rfl (by kernel_rfl) (by kernel_rfl) (by kernel_rfl) (fun _ _ _ h => h) (Or.inl ⟨by rfl, ?hyc3_113⟩) (by assumption) ?restc3_113
        case hyc3_113 => (intro w0 hSw; (try dsimp only at hSw); go_simp; try with_reducible rfl)
        case' restc3_113 => try simp only [Act.put, List.getElem_toArray, List.getElem_cons_zero, List.getElem_cons_succ, List.setIfInBounds_toArray, List.set_cons_zero, List.set_cons_succ]
        refine wpAnyH_take (i := 4) (v := ?vc4_114) rfl (by kernel_rfl) (by kernel_rfl) (by kernel_rfl) (fun _ _ _ h => h) (Or.inl ⟨by rfl, ?hyc4_114⟩) (by assumption) ?restc4_114
        case hyc4_114 => (intro w0 hSw; (try dsimp only at hSw); go_simp; try with_reducible rfl)
        case' restc4_114 => try simp only [Act.put, List.getElem_toArray, List.getElem_cons_zero, List.getElem_cons_succ, List.setIfInBounds_toArray, List.set_cons_zero, List.set_cons_succ]
        refine wpAnyH_take (i := 5) (v := ?vc5_115) rfl (by kernel_rfl) (by kernel_rfl) (by kernel_rfl) (fun _ _ _ h => h) (Or.inl ⟨by rfl, ?hyc5_115⟩) (by assumption) ?restc5_115
        case hyc5_115 => (intro w0 hSw; (try dsimp only at hSw); go_simp; rw [HLK.out w0 (Hid.out hSw.1)]; rfl)
        case' restc5_115 => try simp only [Act.put, List.getElem_toArray, List.getElem_cons_zero, List.getElem_cons_succ, List.setIfInBounds_toArray, List.set_cons_zero, List.set_cons_succ]
        refine wpAnyH_take (i := 6) (v := ?vc6_116) rfl (by kernel_rfl) (by kernel_rfl) (by kernel_rfl) (fun _ _ _ h => h) (Or.inl ⟨by rfl, ?hyc6_116⟩) (by assumption) ?restc6_116
        case hyc6_116 => (intro w0 hSw; (try dsimp only at hSw); go_simp; try with_reducible rfl)
        case' restc6_116 => try simp only [Act.put, List.getElem_toArray, List.getElem_cons_zero, List.getElem_cons_succ, List.setIfInBounds_toArray, List.set_cons_zero, List.set_cons_succ]
        refine wpAnyH_take (i := 7) (v := ?vc7_117) rfl (by kernel_rfl) (by kernel_rfl) (by kernel_rfl) (fun _ _ _ h => h) (Or.inl ⟨by rfl, ?hyc7_117⟩) (by assumption) ?restc7_117
        case hyc7_117 => (intro w0 hSw; (try dsimp only at hSw); go_simp; try with_reducible rfl)
        case' restc7_117 => try simp only [Act.put, List.getElem_toArray, List.getElem_cons_zero, List.getElem_cons_succ, List.setIfInBounds_toArray, List.set_cons_zero, List.set_cons_succ]
        refine wpAnyH_ready (rs := [8]) (by kernel_rfl) (by simp) ?_
        refine AllReadyH.cons rfl (fun K hK => ?_) AllReadyH.nil
        go_simp
        refine (HCA.out _).mono ?_; rintro e w1 ⟨rfl, hb⟩; subst hb
        refine hK.out _ _ (by assumption) (fun hHeld => ?_)
        clear hK K
        try simp only [Act.put, List.getElem_toArray, List.getElem_cons_zero, List.getElem_cons_succ, List.setIfInBounds_toArray, List.set_cons_zero, List.set_cons_succ]
        refine wpAnyH_take (i := 9) (v := ?vc9_118) rfl (by kernel_rfl) (by kernel_rfl) (by kernel_rfl) (fun _ _ _ h => h) (Or.inl ⟨by rfl, ?hyc9_118⟩) (by assumption) ?restc9_118
        case hyc9_118 => (intro w0 hSw; (try dsimp only at hSw); go_simp; try with_reducible rfl)
        case' restc9_118 => try simp only [Act.put, List.getElem_toArray, List.getElem_cons_zero, List.getElem_cons_succ, List.setIfInBounds_toArray, List.set_cons_zero, List.set_cons_succ]
        refine wpAnyH_take (i := 10) (v := ?vc10_119) rfl (by kernel_rfl) (by kernel_rfl) (by kernel_rfl) (fun _ _ _ h => h) (Or.inl ⟨by rfl, ?hyc10_119⟩) (by assumption) ?restc10_119
        case hyc10_119 => (intro w0 hSw; (try dsimp only at hSw); go_simp; try with_reducible rfl)
        case' restc10_119 => try simp only [Act.put, List.getElem_toArray, List.getElem_cons_zero, List.getElem_cons_succ, List.setIfInBounds_toArray, List.set_cons_zero, List.set_cons_succ]
        refine wpAnyH_take (i := 11) (v := ?vc11_120) rfl (by kernel_rfl) (by kernel_rfl) (by kernel_rfl) (fun _ _ _ h => h) (Or.inl ⟨by rfl, ?hyc11_120⟩) (by assumption) ?restc11_120
        case hyc11_120 => (intro w0 hSw; (try dsimp only at hSw); go_simp; try with_reducible rfl)
        case' restc11_120 => try simp only [Act.put, List.getElem_toArray, List.getElem_cons_zero, List.getElem_cons_succ, List.setIfInBounds_toArray, List.set_cons_zero, List.set_cons_succ]
        refine wpAnyH_take (i := 12) (v := ?vc12_121) rfl (by kernel_rfl) (by kernel_rfl) (by kernel_rfl) (fun _ _ _ h => h) (Or.inl ⟨by rfl, ?hyc12_121⟩) (by assumption) ?restc12_121
        case hyc12_121 => (intro w0 hSw; (try dsimp only at hSw); go_simp; try with_reducible rfl)
        case' restc12_121 => try simp only [Act.put, List.getElem_toArray, List.getElem_cons_zero, List.getElem_cons_succ, List.setIfInBounds_toArray, List.set_cons_zero, List.set_cons_succ]
        refine wpAnyH_take (i := 13) (v := ?vc13_122) rfl (by kernel_rfl) (by kernel_rfl) (by kernel_rfl) (fun _ _ _ h => h) (Or.inl ⟨by rfl, ?hyc13_122⟩) (by assumption) ?restc13_122
        case hyc13_122 => (intro w0 hSw; (try dsimp only at hSw); go_simp; try with_reducible rfl)
        case' restc13_122 => try simp only [Act.put, List.getElem_toArray, List.getElem_cons_zero, List.getElem_cons_succ, List.setIfInBounds_toArray, List.set_cons_zero, List.set_cons_succ]
        refine wpAnyH_done (by kernel_rfl) ?_ _
        refine NoPanic.normal ?_
        obtain ⟨w6, hw6⟩ : ∃ w6, w6 = w5.drew := ⟨_, rfl⟩
        rw [← hw6]
        have hb6 : Below w5.heap.size w5 w6 := by rw [hw6]; exact below_drew1 (Below.refl _ _)
        have HT6 := Lib.hid (HT5.out.trans (Turned.of_below hb6)); have HM6 := Lib.hid (HM5.out.below hb6); have HX6 := Lib.hid (heap_keep HX5.out hb6); have HW6 := Lib.hid (HW5.out.below hb6); have HK16 := Lib.hid (heap_keep HK1.out hb6); have HK26 := Lib.hid (heap_keep HK2.out hb6)
        clear hw6 hb6 hHeld HH HLK HCA c0 c1 c2 m0 m1 m2 m3 m4 x0 x1 HT5 HM5 HX5 HW5 HK1 HK2
        have HT5 := Lib.hid HT6.out; have HM5 := Lib.hid HM6.out; have HX5 := Lib.hid HX6.out; have HW5 := Lib.hid HW6.out; have HK1 := Lib.hid HK16.out; have HK2 := Lib.hid HK26.out
        clear HT6 HM6 HX6 HW6 HK16 HK26
        generalize w6 = w5 at HT5 HM5 HX5 HW5 HK1 HK2 ⊢
        go_wp2_with fail
        have HM5d := Lib.hid (HM5.out.below (below_drew1 (Below.refl w5.heap.size w5)))
        obtain ⟨l1, hl1⟩ := slot_reads (p.deb, p.ord) ⟨by omega, by omega⟩
        obtain ⟨l2, hl2⟩ := slot_reads (p.cre, p.ord) ⟨by omega, by omega⟩
        obtain ⟨w6, hr6, hm6, ht6⟩ := HM5d.out.store lawSlot mapB (by simp [fourK, maxLen]) hl1 (mkSlot_inj _) (balI b p.deb p.ord + p.amt)
        obtain ⟨w7, hr7, hm7, ht7⟩ := hm6.store lawSlot mapB (by have h1 := without_len (fourK b p 1) (p.deb, p.ord); have h2 : (fourK b p 1).length ≤ 2 := (by simp [fourK]); rw [List.length_cons]; unfold maxLen; omega) hl2 (mkSlot_inj _) (balI b p.cre p.ord - p.amt)
        rw [four_two HP.out] at hm7
        have HR6 := Lib.hid (show (Instr.mapUpdate tMapB (.map (some (w.heap.size + 1))) (.agg #[.int .i64 p.deb, .int .i64 p.ord]) (.int .i64 (balI b p.deb p.ord + p.amt))).run Tryd.prog w5.drew = .ok () w6 from hr6)
        have HR7 := Lib.hid (show (Instr.mapUpdate tMapB (.map (some (w.heap.size + 1))) (.agg #[.int .i64 p.cre, .int .i64 p.ord]) (.int .i64 (balI b p.cre p.ord - p.amt))).run Tryd.prog w6 = .ok () w7 from hr7)
        have HM7 := Lib.hid hm7
        have ht56 : Turned (fun j => j = w.heap.size + 1) w5 w6 := (Turned.refl _ w5).drew.trans (Turned.of_grown ht6.grown (fun j h => by injection h with h; exact h.symm))
        have ht57 : Turned (fun j => j = w.heap.size + 1) w5 w7 := ht56.trans (Turned.of_grown ht7.grown (fun j h => by injection h with h; exact h.symm))
        have HT56 := Lib.hid ht56; have HT57 := Lib.hid ht57
        clear hl1 hl2 hr6 hr7 hm6 hm7 ht6 ht7 ht56 ht57
        have hkk : k1 ≠ w.heap.size + 1 ∧ k2 ≠ w.heap.size + 1 := by omega
        have HH := Lib.hid (fun W' (hb : Turned (fun j => j = w.heap.size + 1) w5 W') => (⟨Lib.hid hb, cell_at (heap_turned HK1.out hb hkk.1) 0 rfl, cell_at (heap_turned HK1.out hb hkk.1) 1 rfl, cell_at (heap_turned HK2.out hb hkk.2) 0 rfl, cell_at (heap_turned HK2.out hb hkk.2) 1 rfl⟩ : (fun w' => Hid (Turned (fun j => j = w.heap.size + 1) w5 w') ∧ w'.cell? ⟨k1, 0, none⟩ = some (.int .i64 p.deb) ∧ w'.cell? ⟨k1, 1, none⟩ = some (.int .i64 p.ord) ∧ w'.cell? ⟨k2, 0, none⟩ = some (.int .i64 p.cre) ∧ w'.cell? ⟨k2, 1, none⟩ = some (.int .i64 p.ord)) W'))
        refine wp_region_noPanic ?_
        refine wp_region_held_drew (S := (fun w' => Hid (Turned (fun j => j = w.heap.size + 1) w5 w') ∧ w'.cell? ⟨k1, 0, none⟩ = some (.int .i64 p.deb) ∧ w'.cell? ⟨k1, 1, none⟩ = some (.int .i64 p.ord) ∧ w'.cell? ⟨k2, 0, none⟩ = some (.int .i64 p.cre) ∧ w'.cell? ⟨k2, 1, none⟩ = some (.int .i64 p.ord))) (by kernel_rfl) (HH.out _ ((Turned.refl _ w5).drew)) (fun hHeld => ?_)
        refine wpAnyH_take (i := 0) (v := ?vc0_123) rfl (by kernel_rfl) (by kernel_rfl) (by kernel_rfl) (fun _ _ _ h => h) (Or.inl ⟨by rfl, ?hyc0_123⟩) (by assumption) ?restc0_123
        case hyc0_123 => (intro w0 hSw; (try dsimp only at hSw); go_simp; try with_reducible rfl)
        case' restc0_123 => try simp only [Act.put, List.getElem_toArray, List.getElem_cons_zero, List.getElem_cons_succ, List.setIfInBounds_toArray, List.set_cons_zero, List.set_cons_succ]
        refine wpAnyH_take (i := 1) (v := ?vc1_124) rfl (by kernel_rfl) (by kernel_rfl) (by kernel_rfl) (fun _ _ _ h => h) (Or.inl ⟨by rfl, ?hyc1_124⟩) (by assumption) ?restc1_124
        case hyc1_124 => (intro w0 hSw; (try dsimp only at hSw); go_simp; try with_reducible rfl)
        case' restc1_124 => try simp only [Act.put, List.getElem_toArray, List.getElem_cons_zero, List.getElem_cons_succ, List.setIfInBounds_toArray, List.set_cons_zero, List.set_cons_succ]
        refine wpAnyH_take (i := 2) (v := ?vc2_125) rfl (by kernel_rfl) (by kernel_rfl) (by kernel_rfl) (fun _ _ _ h => h) (Or.inl ⟨by rfl, ?hyc2_125⟩) (by assumption) ?restc2_125
        case hyc2_125 => (intro w0 hSw; (try dsimp only at hSw); go_simp; try with_reducible rfl)
        case' restc2_125 => try simp only [Act.put, List.getElem_toArray, List.getElem_cons_zero, List.getElem_cons_succ, List.setIfInBounds_toArray, List.set_cons_zero, List.set_cons_succ]
        refine wpAnyH_take (i := 3) (v := ?vc3_126) rfl (by kernel_rfl) (by kernel_rfl) (by kernel_rfl) (fun _ _ _ h => h) (Or.inl ⟨by rfl, ?hyc3_126⟩) (by assumption) ?restc3_126
        case hyc3_126 => (intro w0 hSw; (try dsimp only at hSw); go_simp; try with_reducible rfl)
        case' restc3_126 => try simp only [Act.put, List.getElem_toArray, List.getElem_cons_zero, List.getElem_cons_succ, List.setIfInBounds_toArray, List.set_cons_zero, List.set_cons_succ]
        refine wpAnyH_take (i := 4) (v := ?vc4_127) rfl (by kernel_rfl) (by kernel_rfl) (by kernel_rfl) (fun _ _ _ h => h) (Or.inl ⟨by rfl, ?hyc4_127⟩) (by assumption) ?restc4_127
        case hyc4_127 => (intro w0 hSw; (try dsimp only at hSw); go_simp; try with_reducible rfl)
        case' restc4_127 => try simp only [Act.put, List.getElem_toArray, List.getElem_cons_zero, List.getElem_cons_succ, List.setIfInBounds_toArray, List.set_cons_zero, List.set_cons_succ]
        refine wpAnyH_take (i := 5) (v := ?vc5_128) rfl (by kernel_rfl) (by kernel_rfl) (by kernel_rfl) (fun _ _ _ h => h) (Or.inl ⟨by rfl, ?hyc5_128⟩) (by assumption) ?restc5_128
        case hyc5_128 => (intro w0 hSw; (try dsimp only at hSw); go_simp; try with_reducible rfl)
        case' restc5_128 => try simp only [Act.put, List.getElem_toArray, List.getElem_cons_zero, List.getElem_cons_succ, List.setIfInBounds_toArray, List.set_cons_zero, List.set_cons_succ]
        refine wpAnyH_ready (rs := [6]) (by kernel_rfl) (by simp) ?_
        refine AllReadyH.cons rfl (fun K hK => ?_) AllReadyH.nil
        go_simp
        rw [HR6.out]
        refine hK.out _ _ (HH.out _ (HT56.out)) (fun hHeld => ?_)
        clear hK K
        try simp only [Act.put, List.getElem_toArray, List.getElem_cons_zero, List.getElem_cons_succ, List.setIfInBounds_toArray, List.set_cons_zero, List.set_cons_succ]
        refine wpAnyH_ready (rs := [7]) (by kernel_rfl) (by simp) ?_
        refine AllReadyH.cons rfl (fun K hK => ?_) AllReadyH.nil
        go_simp
        rw [HR7.out]
        refine hK.out _ _ (HH.out _ (HT57.out)) (fun hHeld => ?_)
        clear hK K
        try simp only [Act.put, List.getElem_toArray, List.getElem_cons_zero, List.getElem_cons_succ, List.setIfInBounds_toArray, List.set_cons_zero, List.set_cons_succ]
        refine wpAnyH_done (by kernel_rfl) ?_ _
        refine NoPanic.normal ?_
        clear hHeld HH HR6 HR7
        go_wp2_with fail
        go_roundw
        case rel => exact ⟨2, by go_num, by omega, HT5.out.trans HT57.out, HM7.out⟩
        case measure => simp [intOf]
    · go_wp2_with fail
      go_ret2
      exact ⟨_, rfl, by omega, HMr.out, Below.turned HB.out HTr.out (fun i h => by omega) HB.out.size⟩
end Go.Proofs.YtnfbhocppijbjaaDoor

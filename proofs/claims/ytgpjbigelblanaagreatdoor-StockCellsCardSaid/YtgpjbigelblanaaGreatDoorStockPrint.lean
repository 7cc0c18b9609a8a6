/- stock.Print: what it computes. -/
import Derived.Test.YtgpjbigelblanaaGreatDoorStockFirst
import Derived.Test.YtgpjbigelblanaaGreatDoorStockForm0
import Derived.Test.YtgpjbigelblanaaGreatDoorTabO
namespace Go.Proofs.YtgpjbigelblanaaGreatDoor
open Go.RowKit Go.Maps Key Mon Sk Rw

namespace Sk
theorem fits_table {q : Int} {l : List R5} (h : validB 1 q l = true) : Fits (table q l) := by
  obtain ⟨h1, h2, h3, h4, h5⟩ := valid_parts h
  have hr := room_table h
  refine ⟨by rw [table_len]; omega, fun r hr => ?_, fun r hr f hf => ?_⟩
  · unfold table at hr
    simp only [List.mem_cons, List.mem_append, List.mem_map, List.not_mem_nil, or_false] at hr
    rcases hr with rfl | ⟨x, _, rfl⟩ | rfl <;> simp [rowF]
  · unfold table at hr
    simp only [List.mem_cons, List.mem_append, List.mem_map, List.not_mem_nil, or_false] at hr
    rcases hr with rfl | ⟨x, hx, rfl⟩ | rfl
    · have a := itoa_len (n := q) 9 (by omega) (by simp; omega)
      simp only [List.mem_cons, List.not_mem_nil, or_false] at hf
      rcases hf with rfl | rfl
      · decide
      · omega
    · have := room_row (h4 x hx)
      have := Csv.roomRow_mem _ f hf
      omega
    · have b := itoa_len (n := (l.length : Int)) 2 (by omega) (by simp; omega)
      simp only [List.mem_cons, List.not_mem_nil, or_false] at hf
      rcases hf with rfl | rfl
      · decide
      · omega
end Sk
theorem two_blocks' (w : World) (o p : Obj) {W : World} (h : (w.alloc o).alloc p = W) : Below w.heap.size w W ∧ W.heap[w.heap.size]? = some o ∧ W.heap[w.heap.size + 1]? = some p := by
  subst h
  refine ⟨(below_alloc _ _).alloc (by simp) _, heap_keep (heap_new w o) (below_alloc _ _), ?_⟩
  have := heap_new (w.alloc o) p
  rwa [show (w.alloc o).heap.size = w.heap.size + 1 by simp] at this
/-- What a statement's printing comes to. -/
def printV (r : List UInt8 × Int) : Value := .tuple #[.string ⟨r.1.toArray⟩, .int .i64 r.2]

set_option linter.unusedSimpArgs false in
set_option linter.unusedVariables false in
set_option maxRecDepth 100000 in
set_option maxHeartbeats 4000000 in
theorem sprint_any (v : Value) (p q : Int) (l : List R5) (w : World) (hR : Rd w v l) (hS : SkW w) : Calls Tryz.prog 12 #[.agg #[.int .i64 p, .int .i64 q, v]] w fun e w' => e = .returned (printV (printS p q l)) ∧ Below w.heap.size w w' := by
  obtain ⟨k0, hk0, hz0, hz1, hz2⟩ := info_parts line_info
  obtain ⟨Av, cv, rfl, hcv, hcm⟩ := hR.shape
  obtain ⟨wa, hwa⟩ : ∃ wa, w.alloc (.cells #[.int .i64 p, .int .i64 q, .slice Av l.length cv] tStat) = wa := ⟨_, rfl⟩
  have HA := Lib.hid (show Below w.heap.size w wa by rw [← hwa]; exact below_alloc _ _)
  have HX := Lib.hid (show wa.heap[w.heap.size]? = some (.cells #[.int .i64 p, .int .i64 q, .slice Av l.length cv] tStat (0, 0)) by rw [← hwa]; exact heap_new _ _)
  have hWA := Lib.hid hwa
  have HR := Lib.hid hR; have HS := Lib.hid hS
  clear hwa hR hS
  obtain ⟨m0, m1, m2⟩ := cell3c HX.out
  by_cases hp : p = 1
  · have hpq := bneF hp
    cases hv : validB p q l with
    | false =>
      have HF := Lib.hid (show printS p q l = ([], 2) by unfold printS okP; rw [hv]; simp)
      have HV := Lib.hid (rowsValid_any wa p q (.slice Av l.length cv) l (HR.out.keep HA.out) (HS.out.below HA.out).kw.pt)
      rw [hv] at HV
      clear hp hv
      go_enter Tryz.func12, Tryz.ntmps12
      go_upto_region 1 with (fail)
      rw [hWA.out]
      go_wp2_with (go_at_call 24; refine HV.out.mono ?_; rintro e w1 ⟨rfl, hb⟩; have HB := Lib.hid (bch HA.out hb HA.out.size); clear hb)
      go_ret2
      exact ⟨by rw [HF.out]; rfl, HB.out⟩
    | true =>
      subst hp
      have hf := fits_table hv
      have hvp := valid_parts hv
      have HF := Lib.hid (show printS 1 q l = (Csv.printOf (table q l), 0) by unfold printS okP; rw [hv]; simp)
      have HV := Lib.hid (rowsValid_any wa 1 q (.slice Av l.length cv) l (HR.out.keep HA.out) (HS.out.below HA.out).kw.pt)
      rw [hv] at HV
      have HFIT := Lib.hid hf
      have hl4 := hvp.2.2.1
      have HPUTQ := Lib.hid (fun W hM => sput_any q W (show InR q by unfold InR; have := hvp.1; have := hvp.2.1; omega) hM)
      have HPUTN := Lib.hid (fun W hM => sput_any (l.length : Int) W (show InR _ by unfold InR; omega) hM)
      have HOK := Lib.hid hvp.2.2.2.1
      clear hv hf hvp
      go_enter Tryz.func12, Tryz.ntmps12
      go_upto_region 1 with (fail)
      rw [hWA.out]
      go_upto_region 3 with (go_at_call 24; refine HV.out.mono ?_; rintro e w1 ⟨rfl, hb⟩; have HB1 := Lib.hid (bch HA.out hb HA.out.size); have HX1 := Lib.hid (heap_keep HX.out hb); clear hb m0 m1 m2)
      obtain ⟨m0, m1, m2⟩ := cell3c HX1.out
      go_wp2_with fail
      refine (HPUTQ.out _ (HS.out.below HB1.out).kw.mw).mono ?_
      rintro e w2 ⟨rfl, hb2⟩
      have HB2 := Lib.hid (bch HB1.out hb2 HB1.out.size); have HX2 := Lib.hid (heap_keep HX1.out hb2)
      clear hb2 m0 m1 m2
      go_upto_region 4 with (fail)
      obtain ⟨w3, hw3⟩ : ∃ w3, w3 = (w2.alloc (.cells #[.string ⟨#[115, 116, 111, 99, 107]⟩, .string ⟨(Lib.itoa q).toArray⟩] tFld)).alloc (.cells #[.slice (some ⟨w2.heap.size, 0, none⟩) 2 2] tLine) := ⟨_, rfl⟩
      rw [← hw3]
      have h2 := two_blocks' w2 _ _ hw3.symm
      have HB3 := Lib.hid (bch HB2.out h2.1 HB2.out.size); have HX3 := Lib.hid (heap_keep HX2.out h2.1)
      have HT3 := Lib.hid (show TabO (w.heap.size + 1) w3 (.slice (some ⟨w2.heap.size + 1, 0, none⟩) 1 1) [[wHead, Lib.itoa q]] [.slice (some ⟨w2.heap.size, 0, none⟩) 2 2] from TabO.one ⟨_, rfl, h2.2.1⟩ h2.2.2 (by have := heap_lt HX2.out; omega))
      clear hw3 h2
      generalize w2.heap.size = b2 at HT3 ⊢
      obtain ⟨m0, m1, m2⟩ := cell3c HX3.out
      go_wp2_with fail
      clear m0 m1 m2
      go_loopw [4, 23] (fun v4 i wr => ∃ (k : Nat) (vs : List Value), i = .int .i64 k ∧ k ≤ l.length ∧ Hid (TabO (w.heap.size + 1) wr v4 ([wHead, Lib.itoa q] :: (l.take k).map rowF) vs) ∧ Hid (wr.heap[w.heap.size]? = some (.cells #[.int .i64 1, .int .i64 q, .slice Av l.length cv] tStat (0, 0))) ∧ Hid (Below w.heap.size w wr)) (fun _ i _ => l.length - (intOf i).toNat)
      case atStart => exact ⟨0, _, rfl, by omega, HT3.out, HX3.out, HB3.out⟩
      case round =>
        obtain ⟨k, vs, rfl, hk, HT, HXr, HBr⟩ := hrel
        by_cases hkl : k < l.length
        · obtain ⟨x, hx⟩ : ∃ x, l[k]? = some x := ⟨_, List.getElem?_eq_getElem hkl⟩
          have hok := HOK.out x (List.mem_of_getElem? hx)
          have hrow := row_one hok
          obtain ⟨g, off, n', c', e, d0, d1, d2, d3, d4⟩ := HR.out.cells HBr.out hx
          injection e with e1 e2 e3
          subst e1
          have HTK := Lib.hid (take_succ' hx)
          have hkI : (k : Int) < l.length := by omega
          obtain ⟨A4, c4, rfl, _⟩ := own_slice HT.out.own
          have hlen4 : ([wHead, Lib.itoa q] :: (l.take k).map rowF).length = k + 1 := by simp; omega
          have HT := Lib.hid (show TabO (w.heap.size + 1) wr (.slice A4 (k + 1) c4) ([wHead, Lib.itoa q] :: (l.take k).map rowF) vs by have := HT.out; rw [hlen4] at this; exact this)
          have HP0 := Lib.hid (fun W hM => sput_any x.1.1 W (show InR _ by unfold InR; have := hrow.1; omega) hM)
          have HP3 := Lib.hid (fun W hM => sput_any x.2.2.2 W (show InR _ by unfold InR; have := hrow.2.2.2.2.2.1; omega) hM)
          clear hx hok hrow e2 e3
          go_upto_region 7 with (fail)
          obtain ⟨wq, hW⟩ : ∃ wq, wq = wr.alloc (.cells #[.int .i64 x.1.1, .int .i64 x.1.2, .int .i64 x.2.1, .int .i64 x.2.2.1, .int .i64 x.2.2.2] tRow) := ⟨_, rfl⟩
          rw [← hW]
          have hbW : Below wr.heap.size wr wq := by rw [hW]; exact below_alloc _ _
          have HRW := Lib.hid (show wq.heap[wr.heap.size]? = some (.cells #[.int .i64 x.1.1, .int .i64 x.1.2, .int .i64 x.2.1, .int .i64 x.2.2.1, .int .i64 x.2.2.2] tRow (0, 0)) by rw [hW]; exact heap_new _ _)
          have HTW := Lib.hid (HT.out.below hbW); have HXW := Lib.hid (heap_keep HXr.out hbW); have HBW := Lib.hid (bch HBr.out hbW HBr.out.size)
          clear hW hbW d0 d1 d2 d3 d4
          have hne : ¬ Value.ownBlock (.slice A4 (k + 1) c4) = some wr.heap.size := fun e => by have := (HT.out.own.lt wr.heap.size e).2; omega
          generalize wr.heap.size = br at HRW hne ⊢
          have hne' := hne
          have HH := Lib.hid (fun W' (hb : Turned (fun j => Value.ownBlock (.slice A4 (k + 1) c4) = some j) wq W') => (⟨Lib.hid hb, cell_at (heap_turnT HRW.out hb hne) 0 rfl, cell_at (heap_turnT HRW.out hb hne) 1 rfl, cell_at (heap_turnT HRW.out hb hne) 2 rfl, cell_at (heap_turnT HRW.out hb hne) 4 rfl⟩ : (fun w' => Hid (Turned (fun j => Value.ownBlock (.slice A4 (k + 1) c4) = some j) wq w') ∧ w'.cell? ⟨br, 0, none⟩ = some (.int .i64 x.1.1) ∧ w'.cell? ⟨br, 1, none⟩ = some (.int .i64 x.1.2) ∧ w'.cell? ⟨br, 2, none⟩ = some (.int .i64 x.2.1) ∧ w'.cell? ⟨br, 4, none⟩ = some (.int .i64 x.2.2.2)) W'))
          refine wp_region_noPanic ?_
          refine wp_region_held_drew (S := (fun w' => Hid (Turned (fun j => Value.ownBlock (.slice A4 (k + 1) c4) = some j) wq w') ∧ w'.cell? ⟨br, 0, none⟩ = some (.int .i64 x.1.1) ∧ w'.cell? ⟨br, 1, none⟩ = some (.int .i64 x.1.2) ∧ w'.cell? ⟨br, 2, none⟩ = some (.int .i64 x.2.1) ∧ w'.cell? ⟨br, 4, none⟩ = some (.int .i64 x.2.2.2))) (by kernel_rfl) (HH.out _ ((Turned.refl (fun j => Value.ownBlock (.slice A4 (k + 1) c4) = some j) wq).drew)) (fun hHeld => ?_)
          refine wpAnyH_take (i := 0) (v := ?vc0_1) rfl (by kernel_rfl) (by kernel_rfl) (by kernel_rfl) (fun _ _ _ h => h) (Or.inl ⟨by rfl, ?hyc0_1⟩) (by assumption) ?restc0_1
          case hyc0_1 => (intro w0 hSw; (try dsimp only at hSw); go_simp; try with_reducible rfl)
          case' restc0_1 => try simp only [Act.put, List.getElem_toArray, List.getElem_cons_zero, List.getElem_cons_succ, List.setIfInBounds_toArray, List.set_cons_zero, List.set_cons_succ]
          refine wpAnyH_take (i := 1) (v := ?vc1_2) rfl (by kernel_rfl) (by kernel_rfl) (by kernel_rfl) (fun _ _ _ h => h) (Or.inl ⟨by rfl, ?hyc1_2⟩) (by assumption) ?restc1_2
          case hyc1_2 => (intro w0 hSw; (try dsimp only at hSw); go_simp; try with_reducible rfl)
          case' restc1_2 => try simp only [Act.put, List.getElem_toArray, List.getElem_cons_zero, List.getElem_cons_succ, List.setIfInBounds_toArray, List.set_cons_zero, List.set_cons_succ]
          refine wpAnyH_take (i := 2) (v := ?vc2_3) rfl (by kernel_rfl) (by kernel_rfl) (by kernel_rfl) (fun _ _ _ h => h) (Or.inl ⟨by rfl, ?hyc2_3⟩) (by assumption) ?restc2_3
          case hyc2_3 => (intro w0 hSw; (try dsimp only at hSw); go_simp; try with_reducible rfl)
          case' restc2_3 => try simp only [Act.put, List.getElem_toArray, List.getElem_cons_zero, List.getElem_cons_succ, List.setIfInBounds_toArray, List.set_cons_zero, List.set_cons_succ]
          refine wpAnyH_take (i := 3) (v := ?vc3_4) rfl (by kernel_rfl) (by kernel_rfl) (by kernel_rfl) (fun _ _ _ h => h) (Or.inl ⟨by rfl, ?hyc3_4⟩) (by assumption) ?restc3_4
          case hyc3_4 => (intro w0 hSw; (try dsimp only at hSw); go_simp; try with_reducible rfl)
          case' restc3_4 => try simp only [Act.put, List.getElem_toArray, List.getElem_cons_zero, List.getElem_cons_succ, List.setIfInBounds_toArray, List.set_cons_zero, List.set_cons_succ]
          refine wpAnyH_take (i := 5) (v := ?vc5_5) rfl (by kernel_rfl) (by kernel_rfl) (by kernel_rfl) (fun _ _ _ h => h) (Or.inl ⟨by rfl, ?hyc5_5⟩) (by assumption) ?restc5_5
          case hyc5_5 => (intro w0 hSw; (try dsimp only at hSw); go_simp; try with_reducible rfl)
          case' restc5_5 => try simp only [Act.put, List.getElem_toArray, List.getElem_cons_zero, List.getElem_cons_succ, List.setIfInBounds_toArray, List.set_cons_zero, List.set_cons_succ]
          refine wpAnyH_take (i := 6) (v := ?vc6_6) rfl (by kernel_rfl) (by kernel_rfl) (by kernel_rfl) (fun _ _ _ h => h) (Or.inl ⟨by rfl, ?hyc6_6⟩) (by assumption) ?restc6_6
          case hyc6_6 => (intro w0 hSw; (try dsimp only at hSw); go_simp; try with_reducible rfl)
          case' restc6_6 => try simp only [Act.put, List.getElem_toArray, List.getElem_cons_zero, List.getElem_cons_succ, List.setIfInBounds_toArray, List.set_cons_zero, List.set_cons_succ]
          refine wpAnyH_take (i := 7) (v := ?vc7_7) rfl (by kernel_rfl) (by kernel_rfl) (by kernel_rfl) (fun _ _ _ h => h) (Or.inl ⟨by rfl, ?hyc7_7⟩) (by assumption) ?restc7_7
          case hyc7_7 => (intro w0 hSw; (try dsimp only at hSw); go_simp; try with_reducible rfl)
          case' restc7_7 => try simp only [Act.put, List.getElem_toArray, List.getElem_cons_zero, List.getElem_cons_succ, List.setIfInBounds_toArray, List.set_cons_zero, List.set_cons_succ]
          refine wpAnyH_take (i := 9) (v := ?vc9_8) rfl (by kernel_rfl) (by kernel_rfl) (by kernel_rfl) (fun _ _ _ h => h) (Or.inl ⟨by rfl, ?hyc9_8⟩) (by assumption) ?restc9_8
          case hyc9_8 => (intro w0 hSw; (try dsimp only at hSw); go_simp; try with_reducible rfl)
          case' restc9_8 => try simp only [Act.put, List.getElem_toArray, List.getElem_cons_zero, List.getElem_cons_succ, List.setIfInBounds_toArray, List.set_cons_zero, List.set_cons_succ]
          refine wpAnyH_take (i := 10) (v := ?vc10_9) rfl (by kernel_rfl) (by kernel_rfl) (by kernel_rfl) (fun _ _ _ h => h) (Or.inl ⟨by rfl, ?hyc10_9⟩) (by assumption) ?restc10_9
          case hyc10_9 => (intro w0 hSw; (try dsimp only at hSw); go_simp; try with_reducible rfl)
          case' restc10_9 => try simp only [Act.put, List.getElem_toArray, List.getElem_cons_zero, List.getElem_cons_succ, List.setIfInBounds_toArray, List.set_cons_zero, List.set_cons_succ]
          refine wpAnyH_take (i := 12) (v := ?vc12_10) rfl (by kernel_rfl) (by kernel_rfl) (by kernel_rfl) (fun _ _ _ h => h) (Or.inl ⟨by rfl, ?hyc12_10⟩) (by assumption) ?restc12_10
          case hyc12_10 => (intro w0 hSw; (try dsimp only at hSw); go_simp; try with_reducible rfl)
          case' restc12_10 => try simp only [Act.put, List.getElem_toArray, List.getElem_cons_zero, List.getElem_cons_succ, List.setIfInBounds_toArray, List.set_cons_zero, List.set_cons_succ]
          refine wpAnyH_take (i := 13) (v := ?vc13_11) rfl (by kernel_rfl) (by kernel_rfl) (by kernel_rfl) (fun _ _ _ h => h) (Or.inl ⟨by rfl, ?hyc13_11⟩) (by assumption) ?restc13_11
          case hyc13_11 => (intro w0 hSw; (try dsimp only at hSw); go_simp; try with_reducible rfl)
          case' restc13_11 => try simp only [Act.put, List.getElem_toArray, List.getElem_cons_zero, List.getElem_cons_succ, List.setIfInBounds_toArray, List.set_cons_zero, List.set_cons_succ]
          refine wpAnyH_ready (rs := [4]) (by kernel_rfl) (by simp) ?_
          refine AllReadyH.cons rfl (fun K hK => ?_) AllReadyH.nil
          go_simp
          refine (HP0.out _ ((HS.out.below HBW.out).below (below_drew1 (Below.refl wq.heap.size wq))).kw.mw).mono ?_
          rintro e u1 ⟨rfl, hc1⟩
          have hd1 : Below wq.heap.size wq u1 := bch (below_drew1 (Below.refl wq.heap.size wq)) hc1 (Below.size (below_drew1 (Below.refl wq.heap.size wq)))
          refine hK.out _ _ (HH.out _ (Turned.of_below hd1)) (fun hHeld => ?_)
          clear hK K
          try simp only [Act.put, List.getElem_toArray, List.getElem_cons_zero, List.getElem_cons_succ, List.setIfInBounds_toArray, List.set_cons_zero, List.set_cons_succ]
          refine wpAnyH_ready (rs := [8]) (by kernel_rfl) (by simp) ?_
          refine AllReadyH.cons rfl (fun K hK => ?_) AllReadyH.nil
          go_simp
          refine (word_any x.1.2 _ ((HS.out.below HBW.out).below hd1).kw).mono ?_
          rintro e u2 ⟨rfl, hc2⟩
          have hd2 : Below wq.heap.size wq u2 := bch hd1 hc2 (Below.size hd1)
          refine hK.out _ _ (HH.out _ (Turned.of_below hd2)) (fun hHeld => ?_)
          clear hK K
          try simp only [Act.put, List.getElem_toArray, List.getElem_cons_zero, List.getElem_cons_succ, List.setIfInBounds_toArray, List.set_cons_zero, List.set_cons_succ]
          refine wpAnyH_ready (rs := [11]) (by kernel_rfl) (by simp) ?_
          refine AllReadyH.cons rfl (fun K hK => ?_) AllReadyH.nil
          go_simp
          refine (sword_any x.2.1 _ ((HS.out.below HBW.out).below hd2)).mono ?_
          rintro e u3 ⟨rfl, hc3⟩
          have hd3 : Below wq.heap.size wq u3 := bch hd2 hc3 (Below.size hd2)
          refine hK.out _ _ (HH.out _ (Turned.of_below hd3)) (fun hHeld => ?_)
          clear hK K
          try simp only [Act.put, List.getElem_toArray, List.getElem_cons_zero, List.getElem_cons_succ, List.setIfInBounds_toArray, List.set_cons_zero, List.set_cons_succ]
          refine wpAnyH_ready (rs := [14]) (by kernel_rfl) (by simp) ?_
          refine AllReadyH.cons rfl (fun K hK => ?_) AllReadyH.nil
          go_simp
          refine (HP3.out _ ((HS.out.below HBW.out).below hd3).kw.mw).mono ?_
          rintro e u4 ⟨rfl, hc4⟩
          have hd4 : Below wq.heap.size wq u4 := bch hd3 hc4 (Below.size hd3)
          refine hK.out _ _ (HH.out _ (Turned.of_below hd4)) (fun hHeld => ?_)
          clear hK K
          try simp only [Act.put, List.getElem_toArray, List.getElem_cons_zero, List.getElem_cons_succ, List.setIfInBounds_toArray, List.set_cons_zero, List.set_cons_succ]
          refine wpAnyH_ready (rs := [15]) (by kernel_rfl) (by simp) ?_
          refine AllReadyH.cons rfl (fun K hK => ?_) AllReadyH.nil
          go_simp
          refine hK.out _ _ (HH.out _ (Turned.of_below (hd4.trans ((below_alloc _ _).mono hd4.size)))) (fun hHeld => ?_)
          clear hK K
          try simp only [Act.put, List.getElem_toArray, List.getElem_cons_zero, List.getElem_cons_succ, List.setIfInBounds_toArray, List.set_cons_zero, List.set_cons_succ]
          refine wpAnyH_ready (rs := [16]) (by kernel_rfl) (by simp) ?_
          refine AllReadyH.cons rfl (fun K hK => ?_) AllReadyH.nil
          go_simp
          refine hK.out _ _ (HH.out _ (Turned.of_below ((hd4.alloc hd4.size _).alloc (by have := hd4.size; simp; omega) _))) (fun hHeld => ?_)
          clear hK K
          try simp only [Act.put, List.getElem_toArray, List.getElem_cons_zero, List.getElem_cons_succ, List.setIfInBounds_toArray, List.set_cons_zero, List.set_cons_succ]
          refine wpAnyH_ready (rs := [17]) (by kernel_rfl) (by simp) ?_
          refine AllReadyH.cons rfl (fun K hK => ?_) AllReadyH.nil
          have HTU := Lib.hid (HTW.out.below hd4)
          refine step_append_any _ rfl (.tmp 27) (.tmp 43) 38 rfl (w.heap.size + 1) tLine k0 (.slice none 0 0) 1 24 Tryz.underlying38 hk0 hz0 hz1 hz2 rfl (by decide) (.slice A4 (k + 1) c4) (k + 1) vs rfl ((World.ownsRow.alloc (by have := HTU.out.own; rw [hlen4] at this; exact this) _).alloc _) 1 [.slice (some ⟨u4.heap.size, 0, none⟩) 4 4] (src_blk (xs := [.slice (some ⟨u4.heap.size, 0, none⟩) 4 4]) ((two_blocks' u4 _ _ rfl).2.2) (fun u hu => by simp only [List.mem_singleton] at hu; subst hu; rfl)) (by unfold maxLen; omega) (by omega) (by have := hd4.size; have := heap_lt HXW.out; simp; omega) ?_
          intro v6 w6 ho6 hg6 hat6
          have ht6 : Turned (fun j => Value.ownBlock (.slice A4 (k + 1) c4) = some j) wq w6 := (Turned.of_below ((hd4.alloc hd4.size (.cells #[.string ⟨(Lib.itoa x.1.1).toArray⟩, .string ⟨(wordL x.1.2).toArray⟩, .string ⟨(codeW x.2.1).toArray⟩, .string ⟨(Lib.itoa x.2.2.2).toArray⟩] tFld)).alloc (by have := hd4.size; simp; omega) (.cells #[.slice (some ⟨u4.heap.size, 0, none⟩) 4 4] tLine))).trans (Turned.of_grown hg6 (fun j h => h))
          refine hK.out _ _ (HH.out _ (ht6)) (fun hHeld => ?_)
          clear hK K
          try simp only [Act.put, List.getElem_toArray, List.getElem_cons_zero, List.getElem_cons_succ, List.setIfInBounds_toArray, List.set_cons_zero, List.set_cons_succ]
          refine wpAnyH_take (i := 18) (v := ?vc18_12) rfl (by kernel_rfl) (by kernel_rfl) (by kernel_rfl) (fun _ _ _ h => h) (Or.inl ⟨by rfl, ?hyc18_12⟩) (by assumption) ?restc18_12
          case hyc18_12 => (intro w0 hSw; (try dsimp only at hSw); go_simp; try with_reducible rfl)
          case' restc18_12 => try simp only [Act.put, List.getElem_toArray, List.getElem_cons_zero, List.getElem_cons_succ, List.setIfInBounds_toArray, List.set_cons_zero, List.set_cons_succ]
          refine wpAnyH_done (by kernel_rfl) ?_ _
          refine NoPanic.normal ?_
          have hlit := lit_new u4 (rowF x) (xs := #[.string ⟨(Lib.itoa x.1.1).toArray⟩, .string ⟨(wordL x.1.2).toArray⟩, .string ⟨(codeW x.2.1).toArray⟩, .string ⟨(Lib.itoa x.2.2.2).toArray⟩]) rfl
          have hT6 := ((HTU.out.below (below_alloc _ _)).below (below_alloc _ _)).push (r := rowF x) (hlit.below (below_alloc _ _)) (by rw [hlen4]; exact ho6) hg6
          have HT6 := Lib.hid (show TabO (w.heap.size + 1) w6 v6 ([wHead, Lib.itoa q] :: (l.take (k + 1)).map rowF) _ by rw [HTK.out, List.map_append]; exact hT6)
          have HX6 := Lib.hid (heap_turnT HXW.out ht6 (fun e => by have := (HTW.out.own.lt _ e).1; omega))
          have HB6 := Lib.hid (Below.turned HBW.out ht6 (fun i hi => by have := (HTW.out.own.lt i hi).1; omega) HBW.out.size)
          obtain ⟨A6, c6, rfl, _⟩ := own_slice HT6.out.own
          clear hHeld HH hT6 hlit ht6 ho6 hg6 hat6 HTU hd1 hd2 hd3 hd4 hc1 hc2 hc3 hc4
          go_wp2_with fail
          go_roundw
          case rel => exact ⟨k + 1, _, by go_num, by omega, HT6.out, HX6.out, HB6.out⟩
          case measure => simp [intOf]; omega
        · obtain rfl : k = l.length := by omega
          have hfull : l.take l.length = l := List.take_of_length_le (Nat.le_refl _)
          rw [hfull] at HT
          obtain ⟨A4, c4, rfl, _⟩ := own_slice HT.out.own
          have hlen4 : ([wHead, Lib.itoa q] :: l.map rowF).length = l.length + 1 := by simp
          have HT := Lib.hid (show TabO (w.heap.size + 1) wr (.slice A4 (l.length + 1) c4) ([wHead, Lib.itoa q] :: l.map rowF) vs by have := HT.out; rw [hlen4] at this; exact this)
          obtain ⟨m0, m1, m2⟩ := cell3c HXr.out
          go_wp2_with fail
          refine (HPUTN.out _ (HS.out.below HBr.out).kw.mw).mono ?_
          rintro e u4 ⟨rfl, hc⟩
          have HTU := Lib.hid (HT.out.below hc)
          have HBU := Lib.hid (bch HBr.out hc HBr.out.size)
          have HXU := Lib.hid (heap_keep HXr.out hc)
          clear hc m0 m1 m2 hfull
          go_wp2_with (at_builtin; refine wpList_append_any _ rfl (.tmp 46) (.tmp 52) 38 rfl (w.heap.size + 1) tLine k0 (.slice none 0 0) 1 24 Tryz.underlying38 hk0 hz0 hz1 hz2 rfl (by decide) (.slice A4 (l.length + 1) c4) (l.length + 1) vs rfl ((World.ownsRow.alloc (by have := HTU.out.own; rw [hlen4] at this; exact this) _).alloc _) 1 [.slice (some ⟨u4.heap.size, 0, none⟩) 2 2] (src_blk (xs := [.slice (some ⟨u4.heap.size, 0, none⟩) 2 2]) ((two_blocks' u4 _ _ rfl).2.2) (fun u hu => by simp only [List.mem_singleton] at hu; subst hu; rfl)) (by unfold maxLen; omega) (by omega) (by have := HBU.out.size; have := heap_lt HXU.out; simp; omega) ?_; intro v6 w6 ho6 hg6 hat6)
          have hlit := lit_new u4 [wEnd, Lib.itoa l.length] (xs := #[.string ⟨#[101, 110, 100]⟩, .string ⟨(Lib.itoa (l.length : Int)).toArray⟩]) rfl
          have hT6 := ((HTU.out.below (below_alloc _ _)).below (below_alloc _ _)).push (r := [wEnd, Lib.itoa l.length]) (hlit.below (below_alloc _ _)) (by rw [hlen4]; exact ho6) hg6
          have HT6 := Lib.hid (show TabO (w.heap.size + 1) w6 v6 (table q l) _ from hT6)
          have ht6 : Turned (fun j => Value.ownBlock (.slice A4 (l.length + 1) c4) = some j) u4 w6 := (Turned.of_below (((Below.refl _ u4).alloc (Nat.le_refl _) (.cells #[.string ⟨#[101, 110, 100]⟩, .string ⟨(Lib.itoa (l.length : Int)).toArray⟩] tFld)).alloc (by simp) (.cells #[.slice (some ⟨u4.heap.size, 0, none⟩) 2 2] tLine))).trans (Turned.of_grown hg6 (fun j h => h))
          have HB6 := Lib.hid (Below.turned HBU.out ht6 (fun i hi => by have := (HTU.out.own.lt i hi).1; omega) HBU.out.size)
          have HPR := Lib.hid (print_any v6 (table q l) w6.heap.size w6 HT6.out.rowz (Nat.le_refl _) HFIT.out (HS.out.below HB6.out).mx)
          clear hT6 hlit ht6 ho6 hg6 hat6 HTU
          refine HPR.out.mono ?_
          rintro e w7 ⟨rfl, hb7⟩
          have HB7 := Lib.hid (bch HB6.out hb7 HB6.out.size)
          clear hb7
          go_wp2_with fail
          go_ret2
          exact ⟨by rw [HF.out]; rfl, HB7.out⟩
  · have hpq := bneT hp
    have HF := Lib.hid (show printS p q l = ([], 2) by unfold printS okP; rw [decide_eq_false hp]; simp)
    clear hp
    go_enter Tryz.func12, Tryz.ntmps12
    go_upto_region 1 with (fail)
    rw [hWA.out]
    go_wp2_with fail
    go_ret2
    exact ⟨by rw [HF.out]; rfl, HA.out⟩

end Go.Proofs.YtgpjbigelblanaaGreatDoor

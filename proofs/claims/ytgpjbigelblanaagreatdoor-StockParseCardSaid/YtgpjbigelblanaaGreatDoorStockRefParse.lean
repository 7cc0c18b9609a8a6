/- The reference's reading of the warehouse's files: what it computes. -/
import Derived.Test.YtgpjbigelblanaaGreatDoorStockRefOne
import Derived.Test.YtgpjbigelblanaaGreatDoorStockParse
import Derived.Test.YtgpjbigelblanaaGreatDoorCsvRef
namespace Go.Proofs.YtgpjbigelblanaaGreatDoor
open Go.RowKit Go.Maps Key Mon Sk Rw
namespace Sk
theorem first_two {r : Line} {q : Int} (h : first r = .inl q) : ∃ f0 f1, r = [f0, f1] ∧ numI f1 1073741824 = q := by
  unfold first at h
  by_cases h1 : r.head? ≠ some wHead
  · rw [if_pos h1] at h; cases h
  rw [if_neg h1] at h
  by_cases h2 : r.length ≠ 2
  · rw [if_pos h2] at h; cases h
  rw [if_neg h2] at h
  match r, (Classical.not_not.1 h2) with
  | [f0, f1], _ =>
    refine ⟨f0, f1, rfl, ?_⟩
    cases hb : numB f1 1 1073741824 with
    | false => simp [hb] at h
    | true => rw [(numI_ok (.inr rfl) hb).1]; simpa [hb] using h
def OneOut (r : Line) (l : List R5) (y : R5) (ci ki : Int) : Prop := match one r l with | .inl x => y = x ∧ ci = 0 ∧ ki = 0 | .inr p => ci = (p.1 : Int) ∧ ki = (p.2 : Int)
end Sk
theorem refOneR_out {r : Line} {l : List R5} {e : Ending} (h : RefOneR r l e) : ∃ (y : R5) (ci ki : Int), e = .returned (.tuple #[.agg #[.int .i64 y.1.1, .int .i64 y.1.2, .int .i64 y.2.1, .int .i64 y.2.2.1, .int .i64 y.2.2.2], .int .i64 ci, .int .i64 ki]) ∧ OneOut r l y ci ki := by
  unfold RefOneR at h
  unfold OneOut
  cases ho : Sk.one r l with
  | inl x => rw [ho] at h; exact ⟨x, 0, 0, h, rfl, rfl, rfl⟩
  | inr p => rw [ho] at h; obtain ⟨y, h⟩ := h; exact ⟨y, _, _, h, rfl, rfl⟩

set_option linter.unusedSimpArgs false in
set_option linter.unusedVariables false in
set_option maxRecDepth 100000 in
set_option maxHeartbeats 4000000 in
theorem srefParse_ok (s : ByteArray) (w : World) (L : List Line) (hp : Csv.parse s.data.toList = (L, 0, 0, 0)) (hcall : ∀ W, Calls Tryz.prog 17 #[.string s] W fun e w' => Told (Csv.parse s.data.toList) e w' ∧ Below W.heap.size W w') :
    Calls Tryz.prog 16 #[.string s] w fun e w' => ParsedS (ofTable L) e w' ∧ Below w.heap.size w w' := by
  obtain ⟨i0, hi, hz0, hz1, hz2⟩ := info_parts row_info
  obtain ⟨R, hR⟩ : ∃ R, run L 0 ⟨0, [], false⟩ = R := ⟨_, rfl⟩
  have hOF : ofTable L = ofRun L.length R := by unfold ofTable; rw [hR]
  rw [hOF]
  have hSm : Small L := by have := csv_small s.data.toList; rw [hp] at this; exact this
  have HSM := Lib.hid hSm
  have HCALL := Lib.hid (fun W => (hcall W).mono fun e w' h => (show (∃ v, e = .returned (.tuple #[v, .agg #[.int .i64 0, .int .i64 0, .int .i64 0]]) ∧ Rowz w' w'.heap.size v L) ∧ Below W.heap.size W w' from ⟨by
    obtain ⟨⟨v, he, hv⟩, _⟩ := h
    rw [hp] at he hv
    exact ⟨v, he, hv⟩, h.2⟩))
  have hLl := hSm.rows
  have HRUN := Lib.hid (show run (L.drop 0) 0 ⟨0, [], false⟩ = R from hR)
  obtain ⟨wa, hwa⟩ : ∃ wa, (w.alloc (.cells #[.int .i64 0, .int .i64 0, .slice none 0 0] tStat)).alloc (.cells #[.int .i64 0, .int .i64 0, .int .i64 0] tRej) = wa := ⟨_, rfl⟩
  have hWA := Lib.hid hwa
  clear hR hOF hSm hcall hp hwa
  go_enter Tryz.func16, Tryz.ntmps16
  go_upto_region 1 with (fail)
  rw [hWA.out]
  go_wp2_with fail
  refine (HCALL.out _).mono ?_
  rintro e w1 ⟨⟨v, rfl, hv⟩, hb1⟩
  obtain ⟨Av, cv, rfl⟩ := hv.shape
  have HV := Lib.hid hv
  clear hv
  go_upto_region 5 with (fail)
  obtain ⟨W, hW⟩ : ∃ W, W = (w1.alloc (.cells #[.int .i64 0, .int .i64 0, .int .i64 0] tRej)).alloc (.cells #[.int .i64 1, .int .i64 0, .slice none 0 0] tStat) := ⟨_, rfl⟩
  rw [← hW]
  obtain ⟨hB, g0, g1, g5, g6, hlt, hB1⟩ := four_blocks w w1 _ _ _ _ (by rw [hWA.out]; exact hb1) hW.symm
  have hsz : W.heap.size = w1.heap.size + 2 := by rw [hW]; simp
  have HB01 := Lib.hid (show Below w.heap.size w w1 from bch (by rw [← hWA.out]; exact (two_blocks w _ _ rfl).1) hb1 (by rw [← hWA.out]; simp; omega))
  generalize hnb : w.heap.size = nb at g0 g1 hlt HB01 ⊢
  generalize hb5 : w1.heap.size = b5 at g5 g6 hlt hB1 hsz HV ⊢
  have HNB := Lib.hid hnb; have HB5 := Lib.hid hb5
  have HI0 := Lib.hid (show PInv nb b5 w1 W (.slice none 0 0) 1 0 [] from ⟨g0, g1, g6, World.ownsRow_nil _ _ _ _, hB1, hlt⟩)
  clear hW hB g0 g1 g5 g6 hB1 hnb hb5 hb1 hsz
  go_wp2_with fail
  go_loopw [7, 8] (fun ended i wr => ∃ (k : Nat) (q : Int) (l : List R5) (en : Bool) (vr : Value), i = .int .i64 k ∧ ended = .bool en ∧ k ≤ L.length ∧ l.length ≤ k ∧ Hid (PInv nb b5 w1 wr vr 1 q l) ∧ Hid (run (L.drop k) k ⟨q, l, en⟩ = R)) (fun _ i _ => L.length - (intOf i).toNat)
  case atStart => exact ⟨0, 0, [], false, _, rfl, rfl, by omega, by simp, HI0.out, HRUN.out⟩
  case round =>
    obtain ⟨k, q, l, en, vr, rfl, rfl, hk, hlk, HI, HR⟩ := hrel
    by_cases hkl : k < L.length
    · obtain ⟨r, hr⟩ : ∃ r, L[k]? = some r := ⟨_, List.getElem?_eq_getElem hkl⟩
      obtain ⟨gt, ot, u, e, hgt, hcell, hu⟩ := HV.out.at HI.out.tab hr
      subst e
      have hrm := List.mem_of_getElem? hr
      have hrl := HSM.out.fields r hrm
      have hrf := HSM.out.full r hrm
      have HU := Lib.hid (show Strs wr wr.heap.size u r from hu.below HI.out.tab (by have := heap_lt HI.out.s6; omega))
      have hstep := run_get hr ⟨q, l, en⟩
      rw [HR.out] at hstep
      have HST := Lib.hid hstep
      have hkI : (k : Int) < L.length := by omega
      have hk1 : (k : Int) + 1 ≤ 65537 := by omega
      have hk0' : (0 : Int) ≤ k := by omega
      have hszr : b5 + 1 < wr.heap.size := HI.out.size
      have hgtl : gt < wr.heap.size := by omega
      clear hr hu hrm hstep HR hgt
      cases en with
      | true =>
        have HBADR := Lib.hid (show R = .inr (k + 1, 1, 7) by rw [HST.out]; rfl)
        obtain ⟨m0, m1, m2, f0, f1, f2⟩ := cell3 HI.out.r0
        obtain ⟨p0, p1, p2, e0, e1, e2⟩ := cell3 HI.out.r1
        have hlt5 := HI.out.lt
        go_wp2_with fail
        obtain ⟨w6, hw6⟩ : ∃ w6, w6 = ((wr.setCell ⟨nb, 0, none⟩ (.int .i64 0)).setCell ⟨nb, 1, none⟩ (.int .i64 0)).setCell ⟨nb, 2, none⟩ (.slice none 0 0) := ⟨_, rfl⟩
        have hr6 : w6.heap[nb]? = some (.cells #[.int .i64 0, .int .i64 0, .slice none 0 0] tStat (0, 0)) := by rw [hw6]; exact set3 HI.out.r0 _ _ _
        have hs6 : w6.heap[nb + 1]? = some (.cells #[.int .i64 0, .int .i64 0, .int .i64 0] tRej (0, 0)) := by rw [hw6]; exact set_other (set_other (set_other HI.out.r1 (by omega) _) (by omega) _) (by omega) _
        have hb6 : Below nb w w6 := by rw [hw6]; exact below_set3 (HB01.out.trans (HI.out.tab.mono (by omega))) (Nat.le_refl _) _ _ _
        rw [← hw6]
        clear hw6
        obtain ⟨w7, hw7⟩ : ∃ w7, w7 = ((w6.setCell ⟨nb + 1, 0, none⟩ (.int .i64 ((k : Int) + 1))).setCell ⟨nb + 1, 1, none⟩ (.int .i64 1)).setCell ⟨nb + 1, 2, none⟩ (.int .i64 7) := ⟨_, rfl⟩
        have hs7 := set3 hs6 (.int .i64 ((k : Int) + 1)) (.int .i64 1) (.int .i64 7)
        rw [← hw7] at hs7
        have hr7 : w7.heap[nb]? = some (.cells #[.int .i64 0, .int .i64 0, .slice none 0 0] tStat (0, 0)) := by rw [hw7]; exact set_other (set_other (set_other hr6 (by omega) _) (by omega) _) (by omega) _
        have hb7 : Below nb w w7 := by rw [hw7]; exact below_set3 hb6 (by omega) _ _ _
        rw [← hw7]
        clear hw7 m0 m1 m2 f0 f1 f2 p0 p1 p2 e0 e1 e2
        obtain ⟨m0, m1, m2, _⟩ := cell3 hr7
        obtain ⟨n0, n1, n2, _⟩ := cell3 hs7
        refine bodyPost_ret (v := .tuple #[.agg #[.int .i64 0, .int .i64 0, .slice none 0 0], .agg #[.int .i64 ((k : Int) + 1), .int .i64 1, .int .i64 7]]) (by simp [results, Tryz.results16, go_sem, m0, m1, m2, n0, n1, n2]) rfl ⟨?_, HNB.out ▸ hb7⟩
        exact parsed_bad (R := ofRun L.length R) (a := k + 1) (b := 1) (c := 7) (by rw [HBADR.out]; rfl) (by omega) (by omega) (by omega)
      | false =>
        obtain ⟨Au, cu, hu0⟩ := HU.out.shape
        subst hu0
        obtain ⟨f0', hf0⟩ : ∃ f0, r[0]? = some f0 := ⟨_, List.getElem?_eq_getElem (List.length_pos_iff.2 hrf)⟩
        obtain ⟨gu, ou, e, _, c0⟩ := HU.out.at (Below.refl _ _) hf0
        subst e
        rw [Nat.add_zero] at c0
        by_cases hk0 : k = 0
        · clear hf0 c0
          have HK0 := Lib.hid hk0
          have hkq := beqT (show (k : Int) = 0 by omega)
          clear hk0
          have HF := Lib.hid (rhead_any (.slice (some ⟨gu, ou, none⟩) r.length cu) r wr HU.out hrf (by omega))
          unfold HeadR at HF
          cases hf : Sk.first r with
          | inl q' =>
            simp only [hf] at HF
            have HNEXT := Lib.hid (show run (L.drop (k + 1)) (k + 1) ⟨q', l, false⟩ = R by rw [HST.out, step0_ok HK0.out hf])
            obtain ⟨fa, fb, rfl, hnum⟩ := first_two hf
            clear hf
            have HN1 := Lib.hid (fun W => rnumber_any ⟨fb.toArray⟩ 1073741824 W)
            simp only [show ∀ f : List UInt8, (⟨f.toArray⟩ : ByteArray).data.toList = f from fun f => by simp] at HN1
            rw [hnum] at HN1
            clear hnum
            simp only [List.length_cons, List.length_nil, Nat.zero_add, Nat.reduceAdd] at HF hcell hrl ⊢
            go_upto_region 14 with (go_at_call 39; refine HF.out.mono ?_; rintro e w3 ⟨rfl, hb3⟩)
            have HI3 := Lib.hid (HI.out.below hb3)
            obtain ⟨m0, m1, m2, f0, f1, f2⟩ := cell3 HI3.out.s6
            have hcell3 := (hb3.cell (p := ⟨gt, ot + k, none⟩) hgtl).trans hcell
            clear hcell
            obtain ⟨gq, oq, eq_, _, hfb⟩ := HU.out.at hb3 (k := 1) (f := fb) rfl
            obtain ⟨rfl, rfl⟩ : gu = gq ∧ ou = oq := by injection eq_ with h; injection h with h1 h2; exact ⟨h1, h2⟩
            clear eq_ hb3
            go_upto_region 22 with (go_at_call 40; refine (HN1.out _).mono ?_; rintro e w4 ⟨rfl, hb4⟩; have HI4 := Lib.hid (HI3.out.below hb4); clear m0 m1 m2 f0 f1 f2 hcell3 hfb hb4; obtain ⟨m0, m1, m2, f0, f1, f2⟩ := cell3 HI4.out.s6)
            obtain ⟨w9, hw9⟩ : ∃ w9, w9 = w4.setCell ⟨b5 + 1, 1, none⟩ (.int .i64 q') := ⟨_, rfl⟩
            rw [← hw9]
            have HI9 := Lib.hid (HI4.out.setSeq q')
            rw [← hw9] at HI9
            clear hw9 m0 m1 m2 f0 f1 f2
            go_wp2_with fail
            go_roundw
            case rel => exact ⟨k + 1, q', l, false, _, by go_num, rfl, by omega, by omega, HI9.out, HNEXT.out⟩
            case measure => simp [intOf]; omega
          | inr x =>
            simp only [hf] at HF
            have HBADR := Lib.hid (show R = .inr (k + 1, x.1, x.2) by rw [HST.out, step0_bad HK0.out hf])
            obtain ⟨ci, hci⟩ : ∃ ci : Int, (x.1 : Int) = ci := ⟨_, rfl⟩
            obtain ⟨ki, hki⟩ : ∃ ki : Int, (x.2 : Int) = ki := ⟨_, rfl⟩
            have hc1 := (first_bad hf).1
            have hc0 : 0 < ci := by omega
            have hcz := beqF (show ¬ ci = 0 by omega)
            clear hf hc1
            rw [hci, hki] at HF
            have HCI := Lib.hid hci; have HKI := Lib.hid hki
            clear hci hki
            go_upto_region 14 with (go_at_call 39; refine HF.out.mono ?_; rintro e w3 ⟨rfl, hb3⟩)
            have HI3 := Lib.hid (HI.out.below hb3)
            clear hb3 hcell
            obtain ⟨m0, m1, m2, f0, f1, f2⟩ := cell3 HI3.out.r0
            obtain ⟨p0, p1, p2, e0, e1, e2⟩ := cell3 HI3.out.r1
            have hlt5 := HI3.out.lt
            go_wp2_with fail
            obtain ⟨w6, hw6⟩ : ∃ w6, w6 = ((w3.setCell ⟨nb, 0, none⟩ (.int .i64 0)).setCell ⟨nb, 1, none⟩ (.int .i64 0)).setCell ⟨nb, 2, none⟩ (.slice none 0 0) := ⟨_, rfl⟩
            have hr6 : w6.heap[nb]? = some (.cells #[.int .i64 0, .int .i64 0, .slice none 0 0] tStat (0, 0)) := by rw [hw6]; exact set3 HI3.out.r0 _ _ _
            have hs6 : w6.heap[nb + 1]? = some (.cells #[.int .i64 0, .int .i64 0, .int .i64 0] tRej (0, 0)) := by rw [hw6]; exact set_other (set_other (set_other HI3.out.r1 (by omega) _) (by omega) _) (by omega) _
            have hb6 : Below nb w w6 := by rw [hw6]; exact below_set3 (HB01.out.trans (HI3.out.tab.mono (by omega))) (Nat.le_refl _) _ _ _
            rw [← hw6]
            clear hw6
            obtain ⟨w7, hw7⟩ : ∃ w7, w7 = ((w6.setCell ⟨nb + 1, 0, none⟩ (.int .i64 ((k : Int) + 1))).setCell ⟨nb + 1, 1, none⟩ (.int .i64 ci)).setCell ⟨nb + 1, 2, none⟩ (.int .i64 ki) := ⟨_, rfl⟩
            have hs7 := set3 hs6 (.int .i64 ((k : Int) + 1)) (.int .i64 ci) (.int .i64 ki)
            rw [← hw7] at hs7
            have hr7 : w7.heap[nb]? = some (.cells #[.int .i64 0, .int .i64 0, .slice none 0 0] tStat (0, 0)) := by rw [hw7]; exact set_other (set_other (set_other hr6 (by omega) _) (by omega) _) (by omega) _
            have hb7 : Below nb w w7 := by rw [hw7]; exact below_set3 hb6 (by omega) _ _ _
            rw [← hw7]
            clear hw7 m0 m1 m2 f0 f1 f2 p0 p1 p2 e0 e1 e2
            obtain ⟨m0, m1, m2, _⟩ := cell3 hr7
            obtain ⟨n0, n1, n2, _⟩ := cell3 hs7
            refine bodyPost_ret (v := .tuple #[.agg #[.int .i64 0, .int .i64 0, .slice none 0 0], .agg #[.int .i64 ((k : Int) + 1), .int .i64 ci, .int .i64 ki]]) (by simp [results, Tryz.results16, go_sem, m0, m1, m2, n0, n1, n2]) rfl ⟨?_, HNB.out ▸ hb7⟩
            exact parsed_bad (R := ofRun L.length R) (a := k + 1) (b := x.1) (c := x.2) (by rw [HBADR.out]; rfl) (by omega) HCI.out.symm HKI.out.symm
        · have HK0 := Lib.hid hk0
          have hkq := beqF (show ¬ (k : Int) = 0 by omega)
          clear hk0
          obtain ⟨Ar, cr, rfl, _⟩ := own_slice HI.out.own
          have hlenI : (0 : Int) < r.length := by have := List.length_pos_iff.2 hrf; omega
          have hhead : r.head? = some f0' := by rw [List.head?_eq_getElem?]; exact hf0
          by_cases hh : f0' = wEnd
          · have HEND := Lib.hid (show r.head? = some wEnd by rw [hhead, hh])
            have hq := text_eq hh
            unfold wEnd at hq
            clear hh hhead hf0
            have HT := Lib.hid (fun W (hb : Below wr.heap.size wr W) => rtail_any (.slice (some ⟨gu, ou, none⟩) r.length cu) r l.length W (HU.out.below hb hb.size) (by omega) (by omega))
            unfold TailR at HT
            obtain ⟨s0, s1, s2, _⟩ := cell3 HI.out.s6
            go_upto_region 17 with (fail)
            cases hf : Sk.last r l.length with
            | none =>
              simp only [hf] at HT
              have HNEXT := Lib.hid (show run (L.drop (k + 1)) (k + 1) ⟨q, l, true⟩ = R by rw [HST.out, stepE_ok HK0.out HEND.out hf])
              clear hf
              have HH := Lib.hid (fun W (hb : Below wr.heap.size wr W) => (⟨Lib.hid hb, (hb.cell (World.block_lt_of_cell? wr _ hcell)).trans hcell, (hb.cell (World.block_lt_of_cell? wr _ s2)).trans s2⟩ : (fun w' => Hid (Below wr.heap.size wr w') ∧ w'.cell? ⟨gt, ot + k, none⟩ = some (.slice (some ⟨gu, ou, none⟩) r.length cu) ∧ w'.cell? ⟨b5 + 1, 2, none⟩ = some (.slice Ar l.length cr)) W))
              refine wp_region_noPanic ?_
              refine wp_region_held_drew (S := (fun w' => Hid (Below wr.heap.size wr w') ∧ w'.cell? ⟨gt, ot + k, none⟩ = some (.slice (some ⟨gu, ou, none⟩) r.length cu) ∧ w'.cell? ⟨b5 + 1, 2, none⟩ = some (.slice Ar l.length cr))) (by kernel_rfl) (HH.out _ (below_drew1 (Below.refl wr.heap.size wr))) (fun hHeld => ?_)
              refine wpAnyH_take (i := 0) (v := ?vc0_1) rfl (by kernel_rfl) (by kernel_rfl) (by kernel_rfl) (fun _ _ _ h => h) (Or.inl ⟨by rfl, ?hyc0_1⟩) (by assumption) ?restc0_1
              case hyc0_1 => (intro w0 hSw; (try dsimp only at hSw); go_simp; try with_reducible rfl)
              case' restc0_1 => try simp only [Act.put, List.getElem_toArray, List.getElem_cons_zero, List.getElem_cons_succ, List.setIfInBounds_toArray, List.set_cons_zero, List.set_cons_succ]
              refine wpAnyH_take (i := 1) (v := ?vc1_2) rfl (by kernel_rfl) (by kernel_rfl) (by kernel_rfl) (fun _ _ _ h => h) (Or.inl ⟨by rfl, ?hyc1_2⟩) (by assumption) ?restc1_2
              case hyc1_2 => (intro w0 hSw; (try dsimp only at hSw); go_simp; try with_reducible rfl)
              case' restc1_2 => try simp only [Act.put, List.getElem_toArray, List.getElem_cons_zero, List.getElem_cons_succ, List.setIfInBounds_toArray, List.set_cons_zero, List.set_cons_succ]
              refine wpAnyH_take (i := 2) (v := ?vc2_3) rfl (by kernel_rfl) (by kernel_rfl) (by kernel_rfl) (fun _ _ _ h => h) (Or.inl ⟨by rfl, ?hyc2_3⟩) (by assumption) ?restc2_3
              case hyc2_3 => (intro w0 hSw; (try dsimp only at hSw); go_simp; try with_reducible rfl)
              case' restc2_3 => try simp only [Act.put, List.getElem_toArray, List.getElem_cons_zero, List.getElem_cons_succ, List.setIfInBounds_toArray, List.set_cons_zero, List.set_cons_succ]
              refine wpAnyH_take (i := 3) (v := ?vc3_4) rfl (by kernel_rfl) (by kernel_rfl) (by kernel_rfl) (fun _ _ _ h => h) (Or.inl ⟨by rfl, ?hyc3_4⟩) (by assumption) ?restc3_4
              case hyc3_4 => (intro w0 hSw; (try dsimp only at hSw); go_simp; try with_reducible rfl)
              case' restc3_4 => try simp only [Act.put, List.getElem_toArray, List.getElem_cons_zero, List.getElem_cons_succ, List.setIfInBounds_toArray, List.set_cons_zero, List.set_cons_succ]
              refine wpAnyH_take (i := 4) (v := ?vc4_5) rfl (by kernel_rfl) (by kernel_rfl) (by kernel_rfl) (fun _ _ _ h => h) (Or.inl ⟨by rfl, ?hyc4_5⟩) (by assumption) ?restc4_5
              case hyc4_5 => (intro w0 hSw; (try dsimp only at hSw); go_simp; try with_reducible rfl)
              case' restc4_5 => try simp only [Act.put, List.getElem_toArray, List.getElem_cons_zero, List.getElem_cons_succ, List.setIfInBounds_toArray, List.set_cons_zero, List.set_cons_succ]
              refine wpAnyH_take (i := 5) (v := ?vc5_6) rfl (by kernel_rfl) (by kernel_rfl) (by kernel_rfl) (fun _ _ _ h => h) (Or.inl ⟨by rfl, ?hyc5_6⟩) (by assumption) ?restc5_6
              case hyc5_6 => (intro w0 hSw; (try dsimp only at hSw); go_simp; try with_reducible rfl)
              case' restc5_6 => try simp only [Act.put, List.getElem_toArray, List.getElem_cons_zero, List.getElem_cons_succ, List.setIfInBounds_toArray, List.set_cons_zero, List.set_cons_succ]
              refine wpAnyH_take (i := 6) (v := ?vc6_7) rfl (by kernel_rfl) (by kernel_rfl) (by kernel_rfl) (fun _ _ _ h => h) (Or.inl ⟨by rfl, ?hyc6_7⟩) (by assumption) ?restc6_7
              case hyc6_7 => (intro w0 hSw; (try dsimp only at hSw); go_simp; try with_reducible rfl)
              case' restc6_7 => try simp only [Act.put, List.getElem_toArray, List.getElem_cons_zero, List.getElem_cons_succ, List.setIfInBounds_toArray, List.set_cons_zero, List.set_cons_succ]
              refine wpAnyH_ready (rs := [7]) (by kernel_rfl) (by simp) ?_
              refine AllReadyH.cons rfl (fun K hK => ?_) AllReadyH.nil
              go_simp
              refine (HT.out _ (below_drew1 (Below.refl wr.heap.size wr))).mono ?_
              rintro e w5 ⟨rfl, hb4⟩
              refine hK.out _ _ (HH.out _ (bch (below_drew1 (Below.refl wr.heap.size wr)) hb4 (by simp))) (fun hHeld => ?_)
              clear hK K
              try simp only [Act.put, List.getElem_toArray, List.getElem_cons_zero, List.getElem_cons_succ, List.setIfInBounds_toArray, List.set_cons_zero, List.set_cons_succ]
              refine wpAnyH_take (i := 8) (v := ?vc8_8) rfl (by kernel_rfl) (by kernel_rfl) (by kernel_rfl) (fun _ _ _ h => h) (Or.inl ⟨by rfl, ?hyc8_8⟩) (by assumption) ?restc8_8
              case hyc8_8 => (intro w0 hSw; (try dsimp only at hSw); go_simp; try with_reducible rfl)
              case' restc8_8 => try simp only [Act.put, List.getElem_toArray, List.getElem_cons_zero, List.getElem_cons_succ, List.setIfInBounds_toArray, List.set_cons_zero, List.set_cons_succ]
              refine wpAnyH_take (i := 9) (v := ?vc9_9) rfl (by kernel_rfl) (by kernel_rfl) (by kernel_rfl) (fun _ _ _ h => h) (Or.inl ⟨by rfl, ?hyc9_9⟩) (by assumption) ?restc9_9
              case hyc9_9 => (intro w0 hSw; (try dsimp only at hSw); go_simp; try with_reducible rfl)
              case' restc9_9 => try simp only [Act.put, List.getElem_toArray, List.getElem_cons_zero, List.getElem_cons_succ, List.setIfInBounds_toArray, List.set_cons_zero, List.set_cons_succ]
              refine wpAnyH_take (i := 10) (v := ?vc10_10) rfl (by kernel_rfl) (by kernel_rfl) (by kernel_rfl) (fun _ _ _ h => h) (Or.inl ⟨by rfl, ?hyc10_10⟩) (by assumption) ?restc10_10
              case hyc10_10 => (intro w0 hSw; (try dsimp only at hSw); go_simp; try with_reducible rfl)
              case' restc10_10 => try simp only [Act.put, List.getElem_toArray, List.getElem_cons_zero, List.getElem_cons_succ, List.setIfInBounds_toArray, List.set_cons_zero, List.set_cons_succ]
              refine wpAnyH_take (i := 11) (v := ?vc11_11) rfl (by kernel_rfl) (by kernel_rfl) (by kernel_rfl) (fun _ _ _ h => h) (Or.inl ⟨by rfl, ?hyc11_11⟩) (by assumption) ?restc11_11
              case hyc11_11 => (intro w0 hSw; (try dsimp only at hSw); go_simp; try with_reducible rfl)
              case' restc11_11 => try simp only [Act.put, List.getElem_toArray, List.getElem_cons_zero, List.getElem_cons_succ, List.setIfInBounds_toArray, List.set_cons_zero, List.set_cons_succ]
              refine wpAnyH_take (i := 12) (v := ?vc12_12) rfl (by kernel_rfl) (by kernel_rfl) (by kernel_rfl) (fun _ _ _ h => h) (Or.inl ⟨by rfl, ?hyc12_12⟩) (by assumption) ?restc12_12
              case hyc12_12 => (intro w0 hSw; (try dsimp only at hSw); go_simp; try with_reducible rfl)
              case' restc12_12 => try simp only [Act.put, List.getElem_toArray, List.getElem_cons_zero, List.getElem_cons_succ, List.setIfInBounds_toArray, List.set_cons_zero, List.set_cons_succ]
              refine wpAnyH_done (by kernel_rfl) ?_ _
              refine NoPanic.normal ?_
              have hb5' : Below wr.heap.size wr w5 := bch (below_drew1 (Below.refl wr.heap.size wr)) hb4 (by simp)
              have HI5 := Lib.hid (HI.out.below hb5')
              clear hHeld HH hb4 hb5' s0 s1 s2 hcell
              go_wp2_with fail
              go_roundw
              case rel => exact ⟨k + 1, q, l, true, _, by go_num, rfl, by omega, by omega, HI5.out, HNEXT.out⟩
              case measure => simp [intOf]; omega
            | some x =>
              simp only [hf] at HT
              have HBADR := Lib.hid (show R = .inr (k + 1, x.1, x.2) by rw [HST.out, stepE_bad HK0.out HEND.out hf])
              obtain ⟨ci, hci⟩ : ∃ ci : Int, (x.1 : Int) = ci := ⟨_, rfl⟩
              obtain ⟨ki, hki⟩ : ∃ ki : Int, (x.2 : Int) = ki := ⟨_, rfl⟩
              have hc1 := (last_bad hf).1
              have hc0 : 0 < ci := by omega
              have hcz := beqF (show ¬ ci = 0 by omega)
              clear hf hc1
              rw [hci, hki] at HT
              have HCI := Lib.hid hci; have HKI := Lib.hid hki
              clear hci hki
              have HH := Lib.hid (fun W (hb : Below wr.heap.size wr W) => (⟨Lib.hid hb, (hb.cell (World.block_lt_of_cell? wr _ hcell)).trans hcell, (hb.cell (World.block_lt_of_cell? wr _ s2)).trans s2⟩ : (fun w' => Hid (Below wr.heap.size wr w') ∧ w'.cell? ⟨gt, ot + k, none⟩ = some (.slice (some ⟨gu, ou, none⟩) r.length cu) ∧ w'.cell? ⟨b5 + 1, 2, none⟩ = some (.slice Ar l.length cr)) W))
              refine wp_region_noPanic ?_
              refine wp_region_held_drew (S := (fun w' => Hid (Below wr.heap.size wr w') ∧ w'.cell? ⟨gt, ot + k, none⟩ = some (.slice (some ⟨gu, ou, none⟩) r.length cu) ∧ w'.cell? ⟨b5 + 1, 2, none⟩ = some (.slice Ar l.length cr))) (by kernel_rfl) (HH.out _ (below_drew1 (Below.refl wr.heap.size wr))) (fun hHeld => ?_)
              refine wpAnyH_take (i := 0) (v := ?vc0_13) rfl (by kernel_rfl) (by kernel_rfl) (by kernel_rfl) (fun _ _ _ h => h) (Or.inl ⟨by rfl, ?hyc0_13⟩) (by assumption) ?restc0_13
              case hyc0_13 => (intro w0 hSw; (try dsimp only at hSw); go_simp; try with_reducible rfl)
              case' restc0_13 => try simp only [Act.put, List.getElem_toArray, List.getElem_cons_zero, List.getElem_cons_succ, List.setIfInBounds_toArray, List.set_cons_zero, List.set_cons_succ]
              refine wpAnyH_take (i := 1) (v := ?vc1_14) rfl (by kernel_rfl) (by kernel_rfl) (by kernel_rfl) (fun _ _ _ h => h) (Or.inl ⟨by rfl, ?hyc1_14⟩) (by assumption) ?restc1_14
              case hyc1_14 => (intro w0 hSw; (try dsimp only at hSw); go_simp; try with_reducible rfl)
              case' restc1_14 => try simp only [Act.put, List.getElem_toArray, List.getElem_cons_zero, List.getElem_cons_succ, List.setIfInBounds_toArray, List.set_cons_zero, List.set_cons_succ]
              refine wpAnyH_take (i := 2) (v := ?vc2_15) rfl (by kernel_rfl) (by kernel_rfl) (by kernel_rfl) (fun _ _ _ h => h) (Or.inl ⟨by rfl, ?hyc2_15⟩) (by assumption) ?restc2_15
              case hyc2_15 => (intro w0 hSw; (try dsimp only at hSw); go_simp; try with_reducible rfl)
              case' restc2_15 => try simp only [Act.put, List.getElem_toArray, List.getElem_cons_zero, List.getElem_cons_succ, List.setIfInBounds_toArray, List.set_cons_zero, List.set_cons_succ]
              refine wpAnyH_take (i := 3) (v := ?vc3_16) rfl (by kernel_rfl) (by kernel_rfl) (by kernel_rfl) (fun _ _ _ h => h) (Or.inl ⟨by rfl, ?hyc3_16⟩) (by assumption) ?restc3_16
              case hyc3_16 => (intro w0 hSw; (try dsimp only at hSw); go_simp; try with_reducible rfl)
              case' restc3_16 => try simp only [Act.put, List.getElem_toArray, List.getElem_cons_zero, List.getElem_cons_succ, List.setIfInBounds_toArray, List.set_cons_zero, List.set_cons_succ]
              refine wpAnyH_take (i := 4) (v := ?vc4_17) rfl (by kernel_rfl) (by kernel_rfl) (by kernel_rfl) (fun _ _ _ h => h) (Or.inl ⟨by rfl, ?hyc4_17⟩) (by assumption) ?restc4_17
              case hyc4_17 => (intro w0 hSw; (try dsimp only at hSw); go_simp; try with_reducible rfl)
              case' restc4_17 => try simp only [Act.put, List.getElem_toArray, List.getElem_cons_zero, List.getElem_cons_succ, List.setIfInBounds_toArray, List.set_cons_zero, List.set_cons_succ]
              refine wpAnyH_take (i := 5) (v := ?vc5_18) rfl (by kernel_rfl) (by kernel_rfl) (by kernel_rfl) (fun _ _ _ h => h) (Or.inl ⟨by rfl, ?hyc5_18⟩) (by assumption) ?restc5_18
              case hyc5_18 => (intro w0 hSw; (try dsimp only at hSw); go_simp; try with_reducible rfl)
              case' restc5_18 => try simp only [Act.put, List.getElem_toArray, List.getElem_cons_zero, List.getElem_cons_succ, List.setIfInBounds_toArray, List.set_cons_zero, List.set_cons_succ]
              refine wpAnyH_take (i := 6) (v := ?vc6_19) rfl (by kernel_rfl) (by kernel_rfl) (by kernel_rfl) (fun _ _ _ h => h) (Or.inl ⟨by rfl, ?hyc6_19⟩) (by assumption) ?restc6_19
              case hyc6_19 => (intro w0 hSw; (try dsimp only at hSw); go_simp; try with_reducible rfl)
              case' restc6_19 => try simp only [Act.put, List.getElem_toArray, List.getElem_cons_zero, List.getElem_cons_succ, List.setIfInBounds_toArray, List.set_cons_zero, List.set_cons_succ]
              refine wpAnyH_ready (rs := [7]) (by kernel_rfl) (by simp) ?_
              refine AllReadyH.cons rfl (fun K hK => ?_) AllReadyH.nil
              go_simp
              refine (HT.out _ (below_drew1 (Below.refl wr.heap.size wr))).mono ?_
              rintro e w5 ⟨rfl, hb4⟩
              refine hK.out _ _ (HH.out _ (bch (below_drew1 (Below.refl wr.heap.size wr)) hb4 (by simp))) (fun hHeld => ?_)
              clear hK K
              try simp only [Act.put, List.getElem_toArray, List.getElem_cons_zero, List.getElem_cons_succ, List.setIfInBounds_toArray, List.set_cons_zero, List.set_cons_succ]
              refine wpAnyH_take (i := 8) (v := ?vc8_20) rfl (by kernel_rfl) (by kernel_rfl) (by kernel_rfl) (fun _ _ _ h => h) (Or.inl ⟨by rfl, ?hyc8_20⟩) (by assumption) ?restc8_20
              case hyc8_20 => (intro w0 hSw; (try dsimp only at hSw); go_simp; try with_reducible rfl)
              case' restc8_20 => try simp only [Act.put, List.getElem_toArray, List.getElem_cons_zero, List.getElem_cons_succ, List.setIfInBounds_toArray, List.set_cons_zero, List.set_cons_succ]
              refine wpAnyH_take (i := 9) (v := ?vc9_21) rfl (by kernel_rfl) (by kernel_rfl) (by kernel_rfl) (fun _ _ _ h => h) (Or.inl ⟨by rfl, ?hyc9_21⟩) (by assumption) ?restc9_21
              case hyc9_21 => (intro w0 hSw; (try dsimp only at hSw); go_simp; try with_reducible rfl)
              case' restc9_21 => try simp only [Act.put, List.getElem_toArray, List.getElem_cons_zero, List.getElem_cons_succ, List.setIfInBounds_toArray, List.set_cons_zero, List.set_cons_succ]
              refine wpAnyH_take (i := 10) (v := ?vc10_22) rfl (by kernel_rfl) (by kernel_rfl) (by kernel_rfl) (fun _ _ _ h => h) (Or.inl ⟨by rfl, ?hyc10_22⟩) (by assumption) ?restc10_22
              case hyc10_22 => (intro w0 hSw; (try dsimp only at hSw); go_simp; try with_reducible rfl)
              case' restc10_22 => try simp only [Act.put, List.getElem_toArray, List.getElem_cons_zero, List.getElem_cons_succ, List.setIfInBounds_toArray, List.set_cons_zero, List.set_cons_succ]
              refine wpAnyH_take (i := 11) (v := ?vc11_23) rfl (by kernel_rfl) (by kernel_rfl) (by kernel_rfl) (fun _ _ _ h => h) (Or.inl ⟨by rfl, ?hyc11_23⟩) (by assumption) ?restc11_23
              case hyc11_23 => (intro w0 hSw; (try dsimp only at hSw); go_simp; try with_reducible rfl)
              case' restc11_23 => try simp only [Act.put, List.getElem_toArray, List.getElem_cons_zero, List.getElem_cons_succ, List.setIfInBounds_toArray, List.set_cons_zero, List.set_cons_succ]
              refine wpAnyH_take (i := 12) (v := ?vc12_24) rfl (by kernel_rfl) (by kernel_rfl) (by kernel_rfl) (fun _ _ _ h => h) (Or.inl ⟨by rfl, ?hyc12_24⟩) (by assumption) ?restc12_24
              case hyc12_24 => (intro w0 hSw; (try dsimp only at hSw); go_simp; try with_reducible rfl)
              case' restc12_24 => try simp only [Act.put, List.getElem_toArray, List.getElem_cons_zero, List.getElem_cons_succ, List.setIfInBounds_toArray, List.set_cons_zero, List.set_cons_succ]
              refine wpAnyH_done (by kernel_rfl) ?_ _
              refine NoPanic.normal ?_
              have hb5' : Below wr.heap.size wr w5 := bch (below_drew1 (Below.refl wr.heap.size wr)) hb4 (by simp)
              have HI5 := Lib.hid (HI.out.below hb5')
              clear hHeld HH hb4 hb5' s0 s1 s2 hcell
              obtain ⟨m0, m1, m2, f0, f1, f2⟩ := cell3 HI5.out.r0
              obtain ⟨p0, p1, p2, e0, e1, e2⟩ := cell3 HI5.out.r1
              have hlt5 := HI5.out.lt
              go_wp2_with fail
              obtain ⟨w6, hw6⟩ : ∃ w6, w6 = ((w5.setCell ⟨nb, 0, none⟩ (.int .i64 0)).setCell ⟨nb, 1, none⟩ (.int .i64 0)).setCell ⟨nb, 2, none⟩ (.slice none 0 0) := ⟨_, rfl⟩
              have hr6 : w6.heap[nb]? = some (.cells #[.int .i64 0, .int .i64 0, .slice none 0 0] tStat (0, 0)) := by rw [hw6]; exact set3 HI5.out.r0 _ _ _
              have hs6 : w6.heap[nb + 1]? = some (.cells #[.int .i64 0, .int .i64 0, .int .i64 0] tRej (0, 0)) := by rw [hw6]; exact set_other (set_other (set_other HI5.out.r1 (by omega) _) (by omega) _) (by omega) _
              have hb6 : Below nb w w6 := by rw [hw6]; exact below_set3 (HB01.out.trans (HI5.out.tab.mono (by omega))) (Nat.le_refl _) _ _ _
              rw [← hw6]
              clear hw6
              obtain ⟨w7, hw7⟩ : ∃ w7, w7 = ((w6.setCell ⟨nb + 1, 0, none⟩ (.int .i64 ((k : Int) + 1))).setCell ⟨nb + 1, 1, none⟩ (.int .i64 ci)).setCell ⟨nb + 1, 2, none⟩ (.int .i64 ki) := ⟨_, rfl⟩
              have hs7 := set3 hs6 (.int .i64 ((k : Int) + 1)) (.int .i64 ci) (.int .i64 ki)
              rw [← hw7] at hs7
              have hr7 : w7.heap[nb]? = some (.cells #[.int .i64 0, .int .i64 0, .slice none 0 0] tStat (0, 0)) := by rw [hw7]; exact set_other (set_other (set_other hr6 (by omega) _) (by omega) _) (by omega) _
              have hb7 : Below nb w w7 := by rw [hw7]; exact below_set3 hb6 (by omega) _ _ _
              rw [← hw7]
              clear hw7 m0 m1 m2 f0 f1 f2 p0 p1 p2 e0 e1 e2
              obtain ⟨m0, m1, m2, _⟩ := cell3 hr7
              obtain ⟨n0, n1, n2, _⟩ := cell3 hs7
              refine bodyPost_ret (v := .tuple #[.agg #[.int .i64 0, .int .i64 0, .slice none 0 0], .agg #[.int .i64 ((k : Int) + 1), .int .i64 ci, .int .i64 ki]]) (by simp [results, Tryz.results16, go_sem, m0, m1, m2, n0, n1, n2]) rfl ⟨?_, HNB.out ▸ hb7⟩
              exact parsed_bad (R := ofRun L.length R) (a := k + 1) (b := x.1) (c := x.2) (by rw [HBADR.out]; rfl) (by omega) HCI.out.symm HKI.out.symm
          · have HEND := Lib.hid (show ¬ r.head? = some wEnd by rw [hhead]; simpa using hh)
            have hq := text_ne hh
            unfold wEnd at hq
            clear hh hhead hf0
            have HT := Lib.hid (fun W (hb : Below wr.heap.size wr W) => (rmiddle_any (.slice (some ⟨gu, ou, none⟩) r.length cu) (.slice Ar l.length cr) r l W (HU.out.below hb hb.size) (rd_own (HI.out.below hb).own) (by omega)).mono fun e w' h => (⟨refOneR_out h.1, h.2⟩ : _ ∧ Below W.heap.size W w'))
            obtain ⟨s0, s1, s2, _⟩ := cell3 HI.out.s6
            go_upto_region 19 with (fail)
            go_cut [11, 12, 13] from 25 to 96 (fun p pa pb wc => ∃ (bx : Nat) (y : R5) (ci ki : Int), p = .pointer (some ⟨bx, 0, none⟩) ∧ pa = .int .i64 ci ∧ pb = .int .i64 ki ∧ wr.heap.size ≤ bx ∧ wc.heap[bx]? = some (.cells (encR y).toArray tRow (0, 0)) ∧ OneOut r l y ci ki ∧ Below wr.heap.size wr wc)
            case first =>
              have HH := Lib.hid (fun W (hb : Below wr.heap.size wr W) => (⟨Lib.hid hb, (hb.cell (World.block_lt_of_cell? wr _ hcell)).trans hcell, (hb.cell (World.block_lt_of_cell? wr _ s2)).trans s2⟩ : (fun w' => Hid (Below wr.heap.size wr w') ∧ w'.cell? ⟨gt, ot + k, none⟩ = some (.slice (some ⟨gu, ou, none⟩) r.length cu) ∧ w'.cell? ⟨b5 + 1, 2, none⟩ = some (.slice Ar l.length cr)) W))
              refine wp_region_noPanic ?_
              refine wp_region_held_drew (S := (fun w' => Hid (Below wr.heap.size wr w') ∧ w'.cell? ⟨gt, ot + k, none⟩ = some (.slice (some ⟨gu, ou, none⟩) r.length cu) ∧ w'.cell? ⟨b5 + 1, 2, none⟩ = some (.slice Ar l.length cr))) (by kernel_rfl) (HH.out _ (below_drew1 (Below.refl wr.heap.size wr))) (fun hHeld => ?_)
              refine wpAnyH_take (i := 0) (v := ?vc0_37) rfl (by kernel_rfl) (by kernel_rfl) (by kernel_rfl) (fun _ _ _ h => h) (Or.inl ⟨by rfl, ?hyc0_37⟩) (by assumption) ?restc0_37
              case hyc0_37 => (intro w0 hSw; (try dsimp only at hSw); go_simp; try with_reducible rfl)
              case' restc0_37 => try simp only [Act.put, List.getElem_toArray, List.getElem_cons_zero, List.getElem_cons_succ, List.setIfInBounds_toArray, List.set_cons_zero, List.set_cons_succ]
              refine wpAnyH_take (i := 1) (v := ?vc1_38) rfl (by kernel_rfl) (by kernel_rfl) (by kernel_rfl) (fun _ _ _ h => h) (Or.inl ⟨by rfl, ?hyc1_38⟩) (by assumption) ?restc1_38
              case hyc1_38 => (intro w0 hSw; (try dsimp only at hSw); go_simp; try with_reducible rfl)
              case' restc1_38 => try simp only [Act.put, List.getElem_toArray, List.getElem_cons_zero, List.getElem_cons_succ, List.setIfInBounds_toArray, List.set_cons_zero, List.set_cons_succ]
              refine wpAnyH_take (i := 2) (v := ?vc2_39) rfl (by kernel_rfl) (by kernel_rfl) (by kernel_rfl) (fun _ _ _ h => h) (Or.inl ⟨by rfl, ?hyc2_39⟩) (by assumption) ?restc2_39
              case hyc2_39 => (intro w0 hSw; (try dsimp only at hSw); go_simp; try with_reducible rfl)
              case' restc2_39 => try simp only [Act.put, List.getElem_toArray, List.getElem_cons_zero, List.getElem_cons_succ, List.setIfInBounds_toArray, List.set_cons_zero, List.set_cons_succ]
              refine wpAnyH_take (i := 3) (v := ?vc3_40) rfl (by kernel_rfl) (by kernel_rfl) (by kernel_rfl) (fun _ _ _ h => h) (Or.inl ⟨by rfl, ?hyc3_40⟩) (by assumption) ?restc3_40
              case hyc3_40 => (intro w0 hSw; (try dsimp only at hSw); go_simp; try with_reducible rfl)
              case' restc3_40 => try simp only [Act.put, List.getElem_toArray, List.getElem_cons_zero, List.getElem_cons_succ, List.setIfInBounds_toArray, List.set_cons_zero, List.set_cons_succ]
              refine wpAnyH_take (i := 4) (v := ?vc4_41) rfl (by kernel_rfl) (by kernel_rfl) (by kernel_rfl) (fun _ _ _ h => h) (Or.inl ⟨by rfl, ?hyc4_41⟩) (by assumption) ?restc4_41
              case hyc4_41 => (intro w0 hSw; (try dsimp only at hSw); go_simp; try with_reducible rfl)
              case' restc4_41 => try simp only [Act.put, List.getElem_toArray, List.getElem_cons_zero, List.getElem_cons_succ, List.setIfInBounds_toArray, List.set_cons_zero, List.set_cons_succ]
              refine wpAnyH_take (i := 5) (v := ?vc5_42) rfl (by kernel_rfl) (by kernel_rfl) (by kernel_rfl) (fun _ _ _ h => h) (Or.inl ⟨by rfl, ?hyc5_42⟩) (by assumption) ?restc5_42
              case hyc5_42 => (intro w0 hSw; (try dsimp only at hSw); go_simp; try with_reducible rfl)
              case' restc5_42 => try simp only [Act.put, List.getElem_toArray, List.getElem_cons_zero, List.getElem_cons_succ, List.setIfInBounds_toArray, List.set_cons_zero, List.set_cons_succ]
              refine wpAnyH_ready (rs := [6, 11]) (by kernel_rfl) (by simp) ?_
              refine AllReadyH.cons rfl (fun K hK => ?_) (AllReadyH.cons rfl (fun K hK => ?_) AllReadyH.nil)
              · go_simp
                refine (HT.out _ (below_drew1 (Below.refl wr.heap.size wr))).mono ?_
                rintro e w5 ⟨⟨y, ci, ki, rfl, hO⟩, hb⟩
                have HW5 := Lib.hid (bch (below_drew1 (Below.refl wr.heap.size wr)) hb (by simp))
                refine hK.out _ _ (HH.out _ (HW5.out)) (fun hHeld => ?_)
                clear hK K
                try simp only [Act.put, List.getElem_toArray, List.getElem_cons_zero, List.getElem_cons_succ, List.setIfInBounds_toArray, List.set_cons_zero, List.set_cons_succ]
                refine wpAnyH_take (i := 7) (v := ?vc7_25) rfl (by kernel_rfl) (by kernel_rfl) (by kernel_rfl) (fun _ _ _ h => h) (Or.inl ⟨by rfl, ?hyc7_25⟩) (by assumption) ?restc7_25
                case hyc7_25 => (intro w0 hSw; (try dsimp only at hSw); go_simp; try with_reducible rfl)
                case' restc7_25 => try simp only [Act.put, List.getElem_toArray, List.getElem_cons_zero, List.getElem_cons_succ, List.setIfInBounds_toArray, List.set_cons_zero, List.set_cons_succ]
                refine wpAnyH_take (i := 8) (v := ?vc8_26) rfl (by kernel_rfl) (by kernel_rfl) (by kernel_rfl) (fun _ _ _ h => h) (Or.inl ⟨by rfl, ?hyc8_26⟩) (by assumption) ?restc8_26
                case hyc8_26 => (intro w0 hSw; (try dsimp only at hSw); go_simp; try with_reducible rfl)
                case' restc8_26 => try simp only [Act.put, List.getElem_toArray, List.getElem_cons_zero, List.getElem_cons_succ, List.setIfInBounds_toArray, List.set_cons_zero, List.set_cons_succ]
                refine wpAnyH_take (i := 9) (v := ?vc9_27) rfl (by kernel_rfl) (by kernel_rfl) (by kernel_rfl) (fun _ _ _ h => h) (Or.inl ⟨by rfl, ?hyc9_27⟩) (by assumption) ?restc9_27
                case hyc9_27 => (intro w0 hSw; (try dsimp only at hSw); go_simp; try with_reducible rfl)
                case' restc9_27 => try simp only [Act.put, List.getElem_toArray, List.getElem_cons_zero, List.getElem_cons_succ, List.setIfInBounds_toArray, List.set_cons_zero, List.set_cons_succ]
                refine wpAnyH_take (i := 10) (v := ?vc10_28) rfl (by kernel_rfl) (by kernel_rfl) (by kernel_rfl) (fun _ _ _ h => h) (Or.inl ⟨by rfl, ?hyc10_28⟩) (by assumption) ?restc10_28
                case hyc10_28 => (intro w0 hSw; (try dsimp only at hSw); go_simp; try with_reducible rfl)
                case' restc10_28 => try simp only [Act.put, List.getElem_toArray, List.getElem_cons_zero, List.getElem_cons_succ, List.setIfInBounds_toArray, List.set_cons_zero, List.set_cons_succ]
                refine wpAnyH_ready (rs := [11]) (by kernel_rfl) (by simp) ?_
                refine AllReadyH.cons rfl (fun K hK => ?_) AllReadyH.nil
                go_simp
                refine hK.out _ _ (HH.out _ (bch HW5.out (below_alloc w5 _) HW5.out.size)) (fun hHeld => ?_)
                clear hK K
                try simp only [Act.put, List.getElem_toArray, List.getElem_cons_zero, List.getElem_cons_succ, List.setIfInBounds_toArray, List.set_cons_zero, List.set_cons_succ]
                refine wpAnyH_ready (rs := [12]) (by kernel_rfl) (by simp) ?_
                refine AllReadyH.cons rfl (fun K hK => ?_) AllReadyH.nil
                go_simp
                refine hK.out _ _ (HH.out _ (bch HW5.out (below_alloc w5 _) HW5.out.size)) (fun hHeld => ?_)
                clear hK K
                try simp only [Act.put, List.getElem_toArray, List.getElem_cons_zero, List.getElem_cons_succ, List.setIfInBounds_toArray, List.set_cons_zero, List.set_cons_succ]
                refine wpAnyH_take (i := 13) (v := ?vc13_29) rfl (by kernel_rfl) (by kernel_rfl) (by kernel_rfl) (fun _ _ _ h => h) (Or.inl ⟨by rfl, ?hyc13_29⟩) (by assumption) ?restc13_29
                case hyc13_29 => (intro w0 hSw; (try dsimp only at hSw); go_simp; try with_reducible rfl)
                case' restc13_29 => try simp only [Act.put, List.getElem_toArray, List.getElem_cons_zero, List.getElem_cons_succ, List.setIfInBounds_toArray, List.set_cons_zero, List.set_cons_succ]
                refine wpAnyH_take (i := 14) (v := ?vc14_30) rfl (by kernel_rfl) (by kernel_rfl) (by kernel_rfl) (fun _ _ _ h => h) (Or.inl ⟨by rfl, ?hyc14_30⟩) (by assumption) ?restc14_30
                case hyc14_30 => (intro w0 hSw; (try dsimp only at hSw); go_simp; try with_reducible rfl)
                case' restc14_30 => try simp only [Act.put, List.getElem_toArray, List.getElem_cons_zero, List.getElem_cons_succ, List.setIfInBounds_toArray, List.set_cons_zero, List.set_cons_succ]
                refine wpAnyH_done (by kernel_rfl) ?_ _
                refine NoPanic.normal ?_
                go_wp2_with fail
                go_meet
                exact ⟨w5.heap.size, y, ci, ki, rfl, rfl, rfl, HW5.out.size, heap_new _ _, hO, bch HW5.out (below_alloc w5 _) HW5.out.size⟩
              · go_simp
                refine hK.out _ _ (HH.out _ (bch (below_drew1 (Below.refl wr.heap.size wr)) (below_alloc wr.drew _) (Nat.le_refl _))) (fun hHeld => ?_)
                clear hK K
                try simp only [Act.put, List.getElem_toArray, List.getElem_cons_zero, List.getElem_cons_succ, List.setIfInBounds_toArray, List.set_cons_zero, List.set_cons_succ]
                refine wpAnyH_ready (rs := [6]) (by kernel_rfl) (by simp) ?_
                refine AllReadyH.cons rfl (fun K hK => ?_) AllReadyH.nil
                go_simp
                have HBd := Lib.hid (bch (below_drew1 (Below.refl wr.heap.size wr)) (below_alloc wr.drew (.cells #[.int .i64 0, .int .i64 0, .int .i64 0, .int .i64 0, .int .i64 0] tRow)) (Nat.le_refl _))
                refine (HT.out _ HBd.out).mono ?_
                rintro e w5 ⟨⟨y, ci, ki, rfl, hO⟩, hb⟩
                have HW5 := Lib.hid (bch HBd.out hb HBd.out.size)
                refine hK.out _ _ (HH.out _ (HW5.out)) (fun hHeld => ?_)
                clear hK K
                try simp only [Act.put, List.getElem_toArray, List.getElem_cons_zero, List.getElem_cons_succ, List.setIfInBounds_toArray, List.set_cons_zero, List.set_cons_succ]
                refine wpAnyH_take (i := 7) (v := ?vc7_31) rfl (by kernel_rfl) (by kernel_rfl) (by kernel_rfl) (fun _ _ _ h => h) (Or.inl ⟨by rfl, ?hyc7_31⟩) (by assumption) ?restc7_31
                case hyc7_31 => (intro w0 hSw; (try dsimp only at hSw); go_simp; try with_reducible rfl)
                case' restc7_31 => try simp only [Act.put, List.getElem_toArray, List.getElem_cons_zero, List.getElem_cons_succ, List.setIfInBounds_toArray, List.set_cons_zero, List.set_cons_succ]
                refine wpAnyH_take (i := 8) (v := ?vc8_32) rfl (by kernel_rfl) (by kernel_rfl) (by kernel_rfl) (fun _ _ _ h => h) (Or.inl ⟨by rfl, ?hyc8_32⟩) (by assumption) ?restc8_32
                case hyc8_32 => (intro w0 hSw; (try dsimp only at hSw); go_simp; try with_reducible rfl)
                case' restc8_32 => try simp only [Act.put, List.getElem_toArray, List.getElem_cons_zero, List.getElem_cons_succ, List.setIfInBounds_toArray, List.set_cons_zero, List.set_cons_succ]
                refine wpAnyH_take (i := 9) (v := ?vc9_33) rfl (by kernel_rfl) (by kernel_rfl) (by kernel_rfl) (fun _ _ _ h => h) (Or.inl ⟨by rfl, ?hyc9_33⟩) (by assumption) ?restc9_33
                case hyc9_33 => (intro w0 hSw; (try dsimp only at hSw); go_simp; try with_reducible rfl)
                case' restc9_33 => try simp only [Act.put, List.getElem_toArray, List.getElem_cons_zero, List.getElem_cons_succ, List.setIfInBounds_toArray, List.set_cons_zero, List.set_cons_succ]
                refine wpAnyH_take (i := 10) (v := ?vc10_34) rfl (by kernel_rfl) (by kernel_rfl) (by kernel_rfl) (fun _ _ _ h => h) (Or.inl ⟨by rfl, ?hyc10_34⟩) (by assumption) ?restc10_34
                case hyc10_34 => (intro w0 hSw; (try dsimp only at hSw); go_simp; try with_reducible rfl)
                case' restc10_34 => try simp only [Act.put, List.getElem_toArray, List.getElem_cons_zero, List.getElem_cons_succ, List.setIfInBounds_toArray, List.set_cons_zero, List.set_cons_succ]
                have HZ0 := Lib.hid (show w5.heap[wr.heap.size]? = some (.cells #[.int .i64 0, .int .i64 0, .int .i64 0, .int .i64 0, .int .i64 0] tRow (0, 0)) from heap_keep (heap_new wr.drew (.cells #[.int .i64 0, .int .i64 0, .int .i64 0, .int .i64 0, .int .i64 0] tRow)) hb)
                obtain ⟨z0, z1, z2, z3, z4⟩ := cell5 HZ0.out
                obtain ⟨f0, f1, f2, f3, f4⟩ := froz5a HZ0.out
                have HSB := Lib.hid (below_set5 HW5.out (Nat.le_refl _) (.int .i64 y.1.1) (.int .i64 y.1.2) (.int .i64 y.2.1) (.int .i64 y.2.2.1) (.int .i64 y.2.2.2))
                refine wpAnyH_ready (rs := [12]) (by kernel_rfl) (by simp) ?_
                refine AllReadyH.cons rfl (fun K hK => ?_) AllReadyH.nil
                go_simp
                refine hK.out _ _ (HH.out _ (HSB.out)) (fun hHeld => ?_)
                clear hK K
                try simp only [Act.put, List.getElem_toArray, List.getElem_cons_zero, List.getElem_cons_succ, List.setIfInBounds_toArray, List.set_cons_zero, List.set_cons_succ]
                refine wpAnyH_take (i := 13) (v := ?vc13_35) rfl (by kernel_rfl) (by kernel_rfl) (by kernel_rfl) (fun _ _ _ h => h) (Or.inl ⟨by rfl, ?hyc13_35⟩) (by assumption) ?restc13_35
                case hyc13_35 => (intro w0 hSw; (try dsimp only at hSw); go_simp; try with_reducible rfl)
                case' restc13_35 => try simp only [Act.put, List.getElem_toArray, List.getElem_cons_zero, List.getElem_cons_succ, List.setIfInBounds_toArray, List.set_cons_zero, List.set_cons_succ]
                refine wpAnyH_take (i := 14) (v := ?vc14_36) rfl (by kernel_rfl) (by kernel_rfl) (by kernel_rfl) (fun _ _ _ h => h) (Or.inl ⟨by rfl, ?hyc14_36⟩) (by assumption) ?restc14_36
                case hyc14_36 => (intro w0 hSw; (try dsimp only at hSw); go_simp; try with_reducible rfl)
                case' restc14_36 => try simp only [Act.put, List.getElem_toArray, List.getElem_cons_zero, List.getElem_cons_succ, List.setIfInBounds_toArray, List.set_cons_zero, List.set_cons_succ]
                refine wpAnyH_done (by kernel_rfl) ?_ _
                refine NoPanic.normal ?_
                go_wp2_with fail
                go_meet
                exact ⟨wr.heap.size, y, ci, ki, rfl, rfl, rfl, Nat.le_refl _, set5a HZ0.out _ _ _ _ _, hO, HSB.out⟩
            case rest =>
              obtain ⟨bx, y, ci, ki, rfl, rfl, rfl, hbx, hy4, hO, hbl⟩ := hcut
              have HI4 := Lib.hid (HI.out.below hbl); have HY4 := Lib.hid hy4
              clear hy4 hbl s0 s1 s2 hcell HT
              unfold OneOut at hO
              cases hf : Sk.one r l with
              | inl y' =>
                rw [hf] at hO
                obtain ⟨rfl, rfl, rfl⟩ := hO
                have HNEXT := Lib.hid (show run (L.drop (k + 1)) (k + 1) ⟨q, l ++ [y], false⟩ = R by rw [HST.out, step1_ok HK0.out HEND.out hf])
                clear hf
                obtain ⟨y0, y1, y2, y3, y4⟩ := cell5 HY4.out
                obtain ⟨m0, m1, m2, f0', f1, f2⟩ := cell3 HI4.out.s6
                go_upto_region 22 with (at_builtin; refine wpList_append_any _ rfl (.tmp 84) (.tmp 86) tRows rfl (b5 + 2) tRow i0 (mkRow ((0, 0), 0, 0, 0)) 5 40 Tryz.underlying22 hi hz0 hz1 hz2 rfl (by decide) (.slice Ar l.length cr) l.length (l.flatMap encR) rfl (HI4.out.own.alloc _) 1 (encR y) (src_blk (xs := encR y) (heap_new _ _) (encR_one _)) (by unfold maxLen; omega) (by omega) (by have := HI4.out.size; simp; omega) ?_; intro v6 w6 ho6 hg6 hat6; obtain ⟨A6, c6, rfl, _⟩ := own_slice ho6; have ht6 : Turned (fun j => Value.ownBlock (.slice Ar l.length cr) = some j) wc w6 := (Turned.of_below (below_alloc _ _)).trans (Turned.of_grown hg6 (fun j h => h)); have hs6 := heap_turned HI4.out.s6 ht6 (fun e => by have := (HI4.out.own.lt _ e).1; omega); obtain ⟨t0, t1, t2, h0, h1, h2⟩ := cell3 hs6; have HT6 := Lib.hid ht6; have HO6 := Lib.hid ho6; clear ho6 hg6 hat6 ht6 hs6)
                clear y0 y1 y2 y3 y4 m0 m1 m2 f0' f1 f2 t0 t1 t2 h0 h1 h2
                obtain ⟨w8, hw8⟩ : ∃ w8, w8 = w6.setCell ⟨b5 + 1, 2, none⟩ (.slice A6 (l.length + 1) c6) := ⟨_, rfl⟩
                rw [← hw8]
                have hi8 := HI4.out.push (y := y) HO6.out HT6.out
                rw [← hw8] at hi8
                have HI8 := Lib.hid hi8
                clear hw8 hi8 HI4 HY4 HT6 HO6
                go_wp2_with fail
                go_roundw
                case rel => exact ⟨k + 1, q, (l ++ [y]), false, _, by go_num, rfl, by omega, by simp; omega, HI8.out, HNEXT.out⟩
                case measure => simp [intOf]; omega
              | inr x =>
                rw [hf] at hO
                obtain ⟨hci, hki⟩ := hO
                have HBADR := Lib.hid (show R = .inr (k + 1, x.1, x.2) by rw [HST.out, step1_bad HK0.out HEND.out hf])
                have hc1 := (one_bad hf).1
                have hc0 : 0 < ci := by omega
                have HCI := Lib.hid hci.symm; have HKI := Lib.hid hki.symm
                clear hci hki hc1 hf
                obtain ⟨y0, y1, y2, y3, y4⟩ := cell5 HY4.out
                obtain ⟨m0, m1, m2, f0', f1, f2⟩ := cell3 HI4.out.s6
                go_upto_region 22 with (at_builtin; refine wpList_append_any _ rfl (.tmp 84) (.tmp 86) tRows rfl (b5 + 2) tRow i0 (mkRow ((0, 0), 0, 0, 0)) 5 40 Tryz.underlying22 hi hz0 hz1 hz2 rfl (by decide) (.slice Ar l.length cr) l.length (l.flatMap encR) rfl (HI4.out.own.alloc _) 1 (encR y) (src_blk (xs := encR y) (heap_new _ _) (encR_one _)) (by unfold maxLen; omega) (by omega) (by have := HI4.out.size; simp; omega) ?_; intro v6 w6 ho6 hg6 hat6; obtain ⟨A6, c6, rfl, _⟩ := own_slice ho6; have ht6 : Turned (fun j => Value.ownBlock (.slice Ar l.length cr) = some j) wc w6 := (Turned.of_below (below_alloc _ _)).trans (Turned.of_grown hg6 (fun j h => h)); have hs6 := heap_turned HI4.out.s6 ht6 (fun e => by have := (HI4.out.own.lt _ e).1; omega); obtain ⟨t0, t1, t2, h0, h1, h2⟩ := cell3 hs6; have HT6 := Lib.hid ht6; have HO6 := Lib.hid ho6; clear ho6 hg6 hat6 ht6 hs6)
                clear y0 y1 y2 y3 y4 m0 m1 m2 f0' f1 f2 t0 t1 t2 h0 h1 h2
                obtain ⟨w8, hw8⟩ : ∃ w8, w8 = w6.setCell ⟨b5 + 1, 2, none⟩ (.slice A6 (l.length + 1) c6) := ⟨_, rfl⟩
                rw [← hw8]
                have hi8 := HI4.out.push (y := y) HO6.out HT6.out
                rw [← hw8] at hi8
                have HI8 := Lib.hid hi8
                clear hw8 hi8 HI4 HY4 HT6 HO6
                obtain ⟨m0, m1, m2, f0, f1, f2⟩ := cell3 HI8.out.r0
                obtain ⟨p0, p1, p2, e0, e1, e2⟩ := cell3 HI8.out.r1
                have hlt5 := HI8.out.lt
                go_wp2_with fail
                obtain ⟨w6, hw6⟩ : ∃ w6, w6 = ((w8.setCell ⟨nb, 0, none⟩ (.int .i64 0)).setCell ⟨nb, 1, none⟩ (.int .i64 0)).setCell ⟨nb, 2, none⟩ (.slice none 0 0) := ⟨_, rfl⟩
                have hr6 : w6.heap[nb]? = some (.cells #[.int .i64 0, .int .i64 0, .slice none 0 0] tStat (0, 0)) := by rw [hw6]; exact set3 HI8.out.r0 _ _ _
                have hs6 : w6.heap[nb + 1]? = some (.cells #[.int .i64 0, .int .i64 0, .int .i64 0] tRej (0, 0)) := by rw [hw6]; exact set_other (set_other (set_other HI8.out.r1 (by omega) _) (by omega) _) (by omega) _
                have hb6 : Below nb w w6 := by rw [hw6]; exact below_set3 (HB01.out.trans (HI8.out.tab.mono (by omega))) (Nat.le_refl _) _ _ _
                rw [← hw6]
                clear hw6
                obtain ⟨w7, hw7⟩ : ∃ w7, w7 = ((w6.setCell ⟨nb + 1, 0, none⟩ (.int .i64 ((k : Int) + 1))).setCell ⟨nb + 1, 1, none⟩ (.int .i64 ci)).setCell ⟨nb + 1, 2, none⟩ (.int .i64 ki) := ⟨_, rfl⟩
                have hs7 := set3 hs6 (.int .i64 ((k : Int) + 1)) (.int .i64 ci) (.int .i64 ki)
                rw [← hw7] at hs7
                have hr7 : w7.heap[nb]? = some (.cells #[.int .i64 0, .int .i64 0, .slice none 0 0] tStat (0, 0)) := by rw [hw7]; exact set_other (set_other (set_other hr6 (by omega) _) (by omega) _) (by omega) _
                have hb7 : Below nb w w7 := by rw [hw7]; exact below_set3 hb6 (by omega) _ _ _
                rw [← hw7]
                clear hw7 m0 m1 m2 f0 f1 f2 p0 p1 p2 e0 e1 e2
                obtain ⟨m0, m1, m2, _⟩ := cell3 hr7
                obtain ⟨n0, n1, n2, _⟩ := cell3 hs7
                refine bodyPost_ret (v := .tuple #[.agg #[.int .i64 0, .int .i64 0, .slice none 0 0], .agg #[.int .i64 ((k : Int) + 1), .int .i64 ci, .int .i64 ki]]) (by simp [results, Tryz.results16, go_sem, m0, m1, m2, n0, n1, n2]) rfl ⟨?_, HNB.out ▸ hb7⟩
                exact parsed_bad (R := ofRun L.length R) (a := k + 1) (b := x.1) (c := x.2) (by rw [HBADR.out]; rfl) (by omega) HCI.out.symm HKI.out.symm
    · have hRE := run_end hkl ⟨q, l, en⟩
      rw [HR.out] at hRE
      have HRE := Lib.hid hRE
      obtain rfl : k = L.length := by omega
      have hll : (L.length : Int) + 1 ≤ 65537 := by omega
      clear hRE HR hk hkl
      obtain ⟨m0, m1, m2, f0, f1, f2⟩ := cell3 HI.out.r0
      obtain ⟨p0, p1, p2, e0, e1, e2⟩ := cell3 HI.out.r1
      have hlt5 := HI.out.lt
      cases en with
      | false =>
        go_wp2_with fail
        obtain ⟨w6, hw6⟩ : ∃ w6, w6 = ((wr.setCell ⟨nb, 0, none⟩ (.int .i64 0)).setCell ⟨nb, 1, none⟩ (.int .i64 0)).setCell ⟨nb, 2, none⟩ (.slice none 0 0) := ⟨_, rfl⟩
        have hr6 : w6.heap[nb]? = some (.cells #[.int .i64 0, .int .i64 0, .slice none 0 0] tStat (0, 0)) := by rw [hw6]; exact set3 HI.out.r0 _ _ _
        have hs6 : w6.heap[nb + 1]? = some (.cells #[.int .i64 0, .int .i64 0, .int .i64 0] tRej (0, 0)) := by rw [hw6]; exact set_other (set_other (set_other HI.out.r1 (by omega) _) (by omega) _) (by omega) _
        have ho6 : w6.ownsRow (b5 + 2) tRow 5 vr l.length (l.flatMap encR) := by rw [hw6]; exact own_turned HI.out.own (turned_set3 wr nb _ _ _) (fun j hj e => by have := (HI.out.own.lt j hj).1; omega)
        have hb6 : Below nb w w6 := by rw [hw6]; exact below_set3 (HB01.out.trans (HI.out.tab.mono (by omega))) (Nat.le_refl _) _ _ _
        rw [← hw6]
        clear hw6
        obtain ⟨w7, hw7⟩ : ∃ w7, w7 = ((w6.setCell ⟨nb + 1, 0, none⟩ (.int .i64 ((L.length : Int) + 1))).setCell ⟨nb + 1, 1, none⟩ (.int .i64 1)).setCell ⟨nb + 1, 2, none⟩ (.int .i64 7) := ⟨_, rfl⟩
        have hs7 := set3 hs6 (.int .i64 ((L.length : Int) + 1)) (.int .i64 1) (.int .i64 7)
        rw [← hw7] at hs7
        have hr7 : w7.heap[nb]? = some (.cells #[.int .i64 0, .int .i64 0, .slice none 0 0] tStat (0, 0)) := by rw [hw7]; exact set_other (set_other (set_other hr6 (by omega) _) (by omega) _) (by omega) _
        have ho7 : w7.ownsRow (b5 + 2) tRow 5 vr l.length (l.flatMap encR) := by rw [hw7]; exact own_turned ho6 (turned_set3 w6 (nb + 1) _ _ _) (fun j hj e => by have := (ho6.lt j hj).1; omega)
        have hb7 : Below nb w w7 := by rw [hw7]; exact below_set3 hb6 (by omega) _ _ _
        rw [← hw7]
        clear hw7 m0 m1 m2 f0 f1 f2 p0 p1 p2 e0 e1 e2
        obtain ⟨m0, m1, m2, _⟩ := cell3 hr7
        obtain ⟨n0, n1, n2, _⟩ := cell3 hs7
        refine bodyPost_ret (v := .tuple #[.agg #[.int .i64 0, .int .i64 0, .slice none 0 0], .agg #[.int .i64 ((L.length : Int) + 1), .int .i64 1, .int .i64 7]]) (by simp [results, Tryz.results16, go_sem, m0, m1, m2, n0, n1, n2]) rfl ⟨?_, HNB.out ▸ hb7⟩
        exact parsed_bad (R := ofRun L.length R) (a := L.length + 1) (b := 1) (c := 7) (by rw [HRE.out]; rfl) (by omega) (by omega) (by omega)
      | true =>
        obtain ⟨Ar, cr, rfl, _⟩ := own_slice HI.out.own
        obtain ⟨s0, s1, s2, _⟩ := cell3 HI.out.s6
        go_wp2_with fail
        clear s0 s1 s2
        obtain ⟨w6, hw6⟩ : ∃ w6, w6 = ((wr.setCell ⟨nb, 0, none⟩ (.int .i64 1)).setCell ⟨nb, 1, none⟩ (.int .i64 q)).setCell ⟨nb, 2, none⟩ (.slice Ar l.length cr) := ⟨_, rfl⟩
        have hr6 : w6.heap[nb]? = some (.cells #[.int .i64 1, .int .i64 q, .slice Ar l.length cr] tStat (0, 0)) := by rw [hw6]; exact set3 HI.out.r0 _ _ _
        have hs6 : w6.heap[nb + 1]? = some (.cells #[.int .i64 0, .int .i64 0, .int .i64 0] tRej (0, 0)) := by rw [hw6]; exact set_other (set_other (set_other HI.out.r1 (by omega) _) (by omega) _) (by omega) _
        have ho6 : w6.ownsRow (b5 + 2) tRow 5 (.slice Ar l.length cr) l.length (l.flatMap encR) := by rw [hw6]; exact own_turned HI.out.own (turned_set3 wr nb _ _ _) (fun j hj e => by have := (HI.out.own.lt j hj).1; omega)
        have hb6 : Below nb w w6 := by rw [hw6]; exact below_set3 (HB01.out.trans (HI.out.tab.mono (by omega))) (Nat.le_refl _) _ _ _
        rw [← hw6]
        clear hw6
        obtain ⟨w7, hw7⟩ : ∃ w7, w7 = ((w6.setCell ⟨nb + 1, 0, none⟩ (.int .i64 0)).setCell ⟨nb + 1, 1, none⟩ (.int .i64 0)).setCell ⟨nb + 1, 2, none⟩ (.int .i64 0) := ⟨_, rfl⟩
        have hs7 := set3 hs6 (.int .i64 0) (.int .i64 0) (.int .i64 0)
        rw [← hw7] at hs7
        have hr7 : w7.heap[nb]? = some (.cells #[.int .i64 1, .int .i64 q, .slice Ar l.length cr] tStat (0, 0)) := by rw [hw7]; exact set_other (set_other (set_other hr6 (by omega) _) (by omega) _) (by omega) _
        have ho7 : w7.ownsRow (b5 + 2) tRow 5 (.slice Ar l.length cr) l.length (l.flatMap encR) := by rw [hw7]; exact own_turned ho6 (turned_set3 w6 (nb + 1) _ _ _) (fun j hj e => by have := (ho6.lt j hj).1; omega)
        have hb7 : Below nb w w7 := by rw [hw7]; exact below_set3 hb6 (by omega) _ _ _
        rw [← hw7]
        clear hw7 m0 m1 m2 f0 f1 f2 p0 p1 p2 e0 e1 e2
        obtain ⟨m0, m1, m2, _⟩ := cell3 hr7
        obtain ⟨n0, n1, n2, _⟩ := cell3 hs7
        refine bodyPost_ret (v := .tuple #[.agg #[.int .i64 1, .int .i64 q, .slice Ar l.length cr], .agg #[.int .i64 0, .int .i64 0, .int .i64 0]]) (by simp [results, Tryz.results16, go_sem, m0, m1, m2, n0, n1, n2]) rfl ⟨?_, HNB.out ▸ hb7⟩
        refine ⟨.slice Ar l.length cr, ?_, ?_⟩
        · rw [HRE.out]; rfl
        · rw [HRE.out]; exact rd_own ho7

set_option linter.unusedSimpArgs false in
set_option linter.unusedVariables false in
set_option maxRecDepth 100000 in
set_option maxHeartbeats 4000000 in
theorem srefParse_bad (s : ByteArray) (w : World) (L : List Line) (a b c : Nat) (hc : c ≠ 0) (hcall : ∀ W, Calls Tryz.prog 17 #[.string s] W fun e w' => (∃ v, e = .returned (.tuple #[v, rejV (a, b, c)]) ∧ Rowz w' w'.heap.size v L) ∧ Below W.heap.size W w') :
    Calls Tryz.prog 16 #[.string s] w fun e w' => ParsedS ((0, 0, []), a, b, c) e w' ∧ Below w.heap.size w w' := by
  obtain ⟨wa, hwa⟩ : ∃ wa, (w.alloc (.cells #[.int .i64 0, .int .i64 0, .slice none 0 0] tStat)).alloc (.cells #[.int .i64 0, .int .i64 0, .int .i64 0] tRej) = wa := ⟨_, rfl⟩
  have hWA := Lib.hid hwa
  obtain ⟨ai, hai⟩ : ∃ ai : Int, (a : Int) = ai := ⟨_, rfl⟩
  obtain ⟨bi, hbi⟩ : ∃ bi : Int, (b : Int) = bi := ⟨_, rfl⟩
  obtain ⟨ci, hci⟩ : ∃ ci : Int, (c : Int) = ci := ⟨_, rfl⟩
  unfold rejV at hcall
  simp only [hai, hbi, hci] at hcall
  have HCALL := Lib.hid hcall
  have hcn := bneT (show ¬ ci = 0 by omega)
  have HA := Lib.hid hai; have HB := Lib.hid hbi; have HC := Lib.hid hci
  clear hcall hwa hai hbi hci hc
  go_enter Tryz.func16, Tryz.ntmps16
  go_upto_region 1 with (fail)
  rw [hWA.out]
  go_wp2_with fail
  refine (HCALL.out _).mono ?_
  rintro e w1 ⟨⟨v, rfl, _⟩, hb1⟩
  go_upto_region 2 with (fail)
  obtain ⟨W, hW⟩ : ∃ W, W = w1.alloc (.cells #[.int .i64 ai, .int .i64 bi, .int .i64 ci] tRej) := ⟨_, rfl⟩
  rw [← hW]
  have h2 := two_blocks w (.cells #[.int .i64 0, .int .i64 0, .slice none 0 0] tStat) (.cells #[.int .i64 0, .int .i64 0, .int .i64 0] tRej) rfl
  rw [hWA.out] at h2
  have h3 := one_block w1 _ hW.symm
  have HR0 := Lib.hid (heap_keep (heap_keep h2.2.1 hb1) h3.1); have HR1 := Lib.hid (heap_keep (heap_keep h2.2.2 hb1) h3.1); have HX := Lib.hid h3.2
  have HBL := Lib.hid (bch (bch h2.1 hb1 h2.1.size) h3.1 (bch h2.1 hb1 h2.1.size).size)
  have hlt : w.heap.size + 1 < w1.heap.size := heap_lt (heap_keep h2.2.2 hb1)
  clear hW h2 h3 hb1
  generalize hnb : w.heap.size = nb at HR0 HR1 HBL hlt ⊢
  generalize w1.heap.size = b5 at HX hlt ⊢
  have HNB := Lib.hid hnb
  clear hnb
  obtain ⟨n0, n1, n2, g0, g1, g2⟩ := cell3 HX.out
  obtain ⟨m0, m1, m2, f0, f1, f2⟩ := cell3 HR0.out
  obtain ⟨p0, p1, p2, e0, e1, e2⟩ := cell3 HR1.out
  go_wp2_with fail
  go_region
  go_wp2_with fail
  obtain ⟨w6, hw6⟩ : ∃ w6, w6 = ((W.setCell ⟨nb, 0, none⟩ (.int .i64 0)).setCell ⟨nb, 1, none⟩ (.int .i64 0)).setCell ⟨nb, 2, none⟩ (.slice none 0 0) := ⟨_, rfl⟩
  have hr6 : w6.heap[nb]? = some (.cells #[.int .i64 0, .int .i64 0, .slice none 0 0] tStat (0, 0)) := by rw [hw6]; exact set3 HR0.out _ _ _
  have hs6 : w6.heap[nb + 1]? = some (.cells #[.int .i64 0, .int .i64 0, .int .i64 0] tRej (0, 0)) := by rw [hw6]; exact set_other (set_other (set_other HR1.out (by omega) _) (by omega) _) (by omega) _
  have hb6 : Below nb w w6 := by rw [hw6]; exact below_set3 HBL.out (Nat.le_refl _) _ _ _
  rw [← hw6]
  clear hw6
  obtain ⟨w7, hw7⟩ : ∃ w7, w7 = ((w6.setCell ⟨nb + 1, 0, none⟩ (.int .i64 ai)).setCell ⟨nb + 1, 1, none⟩ (.int .i64 bi)).setCell ⟨nb + 1, 2, none⟩ (.int .i64 ci) := ⟨_, rfl⟩
  have hs7 := set3 hs6 (.int .i64 ai) (.int .i64 bi) (.int .i64 ci)
  rw [← hw7] at hs7
  have hr7 : w7.heap[nb]? = some (.cells #[.int .i64 0, .int .i64 0, .slice none 0 0] tStat (0, 0)) := by rw [hw7]; exact set_other (set_other (set_other hr6 (by omega) _) (by omega) _) (by omega) _
  have hb7 : Below nb w w7 := by rw [hw7]; exact below_set3 hb6 (by omega) _ _ _
  rw [← hw7]
  clear hw7 m0 m1 m2 f0 f1 f2 p0 p1 p2 e0 e1 e2 n0 n1 n2 g0 g1 g2
  obtain ⟨m0, m1, m2, _⟩ := cell3 hr7
  obtain ⟨n0, n1, n2, _⟩ := cell3 hs7
  refine bodyPost_ret (v := .tuple #[.agg #[.int .i64 0, .int .i64 0, .slice none 0 0], .agg #[.int .i64 ai, .int .i64 bi, .int .i64 ci]]) (by simp [results, Tryz.results16, go_sem, m0, m1, m2, n0, n1, n2]) rfl ⟨?_, below_drew1 (HNB.out ▸ hb7)⟩
  exact parsed_bad rfl HA.out.symm HB.out.symm HC.out.symm
/-- The reference's reading of a file. -/
theorem srefParse_any (s : ByteArray) (w : World) (hs : s.size ≤ 65536) : Calls Tryz.prog 16 #[.string s] w fun e w' => ParsedS (parseS s.data.toList) e w' ∧ Below w.heap.size w w' := by
  have hcall : ∀ W, Calls Tryz.prog 17 #[.string s] W fun e w' => Told (Csv.parse s.data.toList) e w' ∧ Below W.heap.size W w' := fun W => refParse_any s W hs
  rcases csv_cases s.data.toList with ⟨a, b, c, e, hc, _, _⟩ | ⟨L, e, _⟩
  · have hp : parseS s.data.toList = ((0, 0, []), a, b, c) := by unfold parseS; rw [e]; simp only []; rw [if_neg hc]
    rw [hp]
    refine srefParse_bad s w [] a b c hc fun W => (hcall W).mono fun e2 w' h => ⟨?_, h.2⟩
    have h1 := h.1
    rw [e] at h1
    exact h1
  · have hp : parseS s.data.toList = ofTable L := by unfold parseS; rw [e]; rfl
    rw [hp]
    exact srefParse_ok s w L e hcall
end Go.Proofs.YtgpjbigelblanaaGreatDoor

/- manifest.Parse: what it computes. -/
import Derived.Test.YtgpjbigelblanaaGreatDoorManifestTake
namespace Go.Proofs.YtgpjbigelblanaaGreatDoor
open Go.RowKit Go.Maps Key Mon Mf Rw

namespace Mf
theorem run_get {L : List Line} {k : Nat} {r : Line} (h : L[k]? = some r) (s : St) : run (L.drop k) k s = match step k r s with | .inl s' => run (L.drop (k + 1)) (k + 1) s' | .inr x => .inr (k + 1, x.1, x.2) := by
  obtain ⟨hk, e⟩ := List.getElem?_eq_some_iff.1 h
  rw [List.drop_eq_getElem_cons hk, run, e]
  rfl
theorem run_end {L : List Line} {k : Nat} (h : ¬ k < L.length) (s : St) : run (L.drop k) k s = .inl s := by rw [List.drop_of_length_le (by omega)]; rfl
end Mf
theorem heap_low {B : Nat} {w w' : World} (h : Below B w w') {i : Nat} {o : Obj} (hi : i < B) (hw : w.heap[i]? = some o) : w'.heap[i]? = some o := (h.block i hi).trans hw

set_option linter.unusedSimpArgs false in
set_option linter.unusedVariables false in
set_option maxRecDepth 100000 in
set_option maxHeartbeats 4000000 in
theorem mparse_ok (s : ByteArray) (w : World) (L : List Mf.Line) (hp : Csv.parse s.data.toList = (L, 0, 0, 0)) (hcall : ∀ W, Calls Tryz.prog 26 #[.string s] W fun e w' => Told (Csv.parse s.data.toList) e w' ∧ Below W.heap.size W w') (hS : MfW w) :
    Calls Tryz.prog 22 #[.string s] w fun e w' => ParsedS (Mf.ofTable L) e w' ∧ Below w.heap.size w w' := by
  obtain ⟨R, hR⟩ : ∃ R, Mf.run L 0 Mf.s0 = R := ⟨_, rfl⟩
  have hOF : Mf.ofTable L = Mf.ofRun L.length R := by unfold Mf.ofTable; rw [hR]
  rw [hOF]
  have hSm : Sk.Small L := by have := Sk.csv_small s.data.toList; rw [hp] at this; exact this
  have HSM := Lib.hid hSm; have HS := Lib.hid hS
  have HCALL := Lib.hid (fun W => (hcall W).mono fun e w' h => (show (∃ v, e = .returned (.tuple #[v, .agg #[.int .i64 0, .int .i64 0, .int .i64 0]]) ∧ Rowz w' w'.heap.size v L) ∧ Below W.heap.size W w' from ⟨by
    obtain ⟨⟨v, he, hv⟩, _⟩ := h
    rw [hp] at he hv
    exact ⟨v, he, hv⟩, h.2⟩))
  have hLl := hSm.rows
  have HRUN := Lib.hid (show Mf.run (L.drop 0) 0 Mf.s0 = R from hR)
  obtain ⟨wa, hwa⟩ : ∃ wa, (w.alloc (.cells #[.int .i64 0, .int .i64 0, .slice none 0 0] tStat)).alloc (.cells #[.int .i64 0, .int .i64 0, .int .i64 0] tRej) = wa := ⟨_, rfl⟩
  have hWA := Lib.hid hwa
  clear hR hOF hSm hS hcall hp hwa
  go_enter Tryz.func22, Tryz.ntmps22
  go_upto_region 1 with (fail)
  rw [hWA.out]
  go_wp2_with fail
  refine (HCALL.out _).mono ?_
  rintro e w1 ⟨⟨v, rfl, hv⟩, hb1⟩
  obtain ⟨Av, cv, rfl⟩ := hv.shape
  have HV := Lib.hid hv
  clear hv
  go_upto_region 5 with (fail)
  obtain ⟨W, hW⟩ : ∃ W, W = (w1.alloc (.cells #[.int .i64 0, .int .i64 0, .int .i64 0] tRej)).alloc (.cells #[.int .i64 2, .int .i64 0, .slice none 0 0, .int .i64 0, .int .i64 0, .int .i64 0, .bool false] tRdr) := ⟨_, rfl⟩
  rw [← hW]
  obtain ⟨hB, g0, g1, g5, g6, hlt, hB1⟩ := four_blocks w w1 _ _ _ _ (by rw [hWA.out]; exact hb1) hW.symm
  have hsz : W.heap.size = w1.heap.size + 2 := by rw [hW]; simp
  have HB01 := Lib.hid (show Below w.heap.size w W from hB)
  generalize hnb : w.heap.size = nb at g0 g1 hlt HB01 ⊢
  generalize hb5 : w1.heap.size = b5 at g5 g6 hlt hB1 hsz HV ⊢
  have HNB := Lib.hid hnb; have HB5 := Lib.hid hb5
  have HG0 := Lib.hid g0; have HG1 := Lib.hid g1; have HB1 := Lib.hid hB1
  have HI0 := Lib.hid (show MInv W (b5 + 1) Mf.s0 (.slice none 0 0) from ⟨g6, World.ownsRow_nil _ _ _ _⟩)
  clear hW hB g0 g1 g5 g6 hB1 hnb hb5 hb1 hsz
  go_wp2_with fail
  go_loopw [25] (fun i wr => ∃ (k : Nat) (s : Mf.St) (vr : Value), i = .int .i64 k ∧ k ≤ L.length ∧ Hid (MInv wr (b5 + 1) s vr) ∧ Hid (Lim k s) ∧ Hid (Below (b5 + 1) W wr) ∧ Hid (Mf.run (L.drop k) k s = R)) (fun i _ => L.length - (intOf i).toNat)
  case atStart => exact ⟨0, _, _, rfl, by omega, HI0.out, Lim.zero, Below.refl _ _, HRUN.out⟩
  case round =>
    obtain ⟨k, s, vr, rfl, hk, HI, HLM, HBr, HR⟩ := hrel
    have HT := Lib.hid (HB1.out.trans (HBr.out.mono (Nat.le_succ _)))
    have HSr := Lib.hid (show MfW wr from HS.out.below (by rw [HNB.out]; exact HB01.out.trans (HBr.out.mono (by omega))))
    have HR0 := Lib.hid (heap_low HBr.out (by omega) HG0.out); have HR1 := Lib.hid (heap_low HBr.out (by omega) HG1.out)
    by_cases hkl : k < L.length
    · obtain ⟨r, hr⟩ : ∃ r, L[k]? = some r := ⟨_, List.getElem?_eq_getElem hkl⟩
      obtain ⟨gt, ot, u, e, hgt, hcell, hu⟩ := HV.out.at HT.out hr
      subst e
      have hrm := List.mem_of_getElem? hr
      have hrl := HSM.out.fields r hrm
      have hrb := HSM.out.bytes r hrm
      have hrf := HSM.out.full r hrm
      have HU := Lib.hid (show Strs wr (b5 + 1) u r from hu.below HT.out (by omega))
      have hstep := Mf.run_get hr s
      rw [HR.out] at hstep
      have HST := Lib.hid hstep
      have hkI : (k : Int) < L.length := by omega
      have hk0 : (0 : Int) ≤ k := by omega
      have HCT := Lib.hid (mtake_any (b5 + 1) k u vr r s wr HI.out HLM.out (by omega) HU.out hrf (by omega) (fun f hf => by have := hrb f hf; omega) HSr.out)
      clear hr hu hrm hstep HR hrb hrf hrl
      go_wp2_with fail
      refine HCT.out.mono ?_
      rintro e w3 ⟨hr3, hk3⟩
      have hb3 := hk3.below HI.out
      unfold MTookR at hr3
      cases hf : Mf.step k r s with
      | inl s' =>
        rw [hf] at hr3
        obtain ⟨rfl, v3, hi3⟩ := hr3
        unfold rej3
        have HL3 := Lib.hid (HLM.out.step hf)
        have HNEXT := Lib.hid (show Mf.run (L.drop (k + 1)) (k + 1) s' = R by rw [HST.out, hf])
        have HI3 := Lib.hid hi3; have HB3 := Lib.hid (HBr.out.trans hb3)
        clear hf hi3 hk3 hb3 hcell
        go_upto_region 9 with (fail)
        obtain ⟨w4, hw4⟩ : ∃ w4, w4 = w3.alloc (.cells #[.int .i64 0, .int .i64 0, .int .i64 0] tRej) := ⟨_, rfl⟩
        rw [← hw4]
        have h4 := one_block w3 _ hw4.symm
        have HI4 := Lib.hid (HI3.out.below h4.1); have HB4 := Lib.hid (HB3.out.trans (h4.1.mono (by have := HI3.out.lt; omega)))
        obtain ⟨n0, n1, n2, _, _, _⟩ := cell3 h4.2
        clear hw4 h4
        go_wp2_with fail
        go_roundw
        case rel => exact ⟨k + 1, s', v3, by go_num, by omega, HI4.out, HL3.out, HB4.out, HNEXT.out⟩
        case measure => simp [intOf]; omega
      | inr x =>
        rw [hf] at hr3
        obtain rfl := hr3
        have HBADR := Lib.hid (show R = .inr (k + 1, x.1, x.2) by rw [HST.out, hf])
        have hc1 := (Mf.step_bad hf).1
        obtain ⟨ci, hci⟩ : ∃ ci : Int, (x.1 : Int) = ci := ⟨_, rfl⟩
        obtain ⟨ki, hki⟩ : ∃ ki : Int, (x.2 : Int) = ki := ⟨_, rfl⟩
        have hc0 : 0 < ci := by omega
        unfold rej3
        rw [hci, hki]
        have HCI := Lib.hid hci; have HKI := Lib.hid hki
        have HB3 := Lib.hid (HBr.out.trans hb3)
        have hl3 : b5 + 1 < w3.heap.size := by have := HI.out.lt; have := hk3.size; omega
        clear hf hk3 hb3 hcell hci hki hc1
        go_upto_region 9 with (fail)
        obtain ⟨w4, hw4⟩ : ∃ w4, w4 = w3.alloc (.cells #[.int .i64 0, .int .i64 ci, .int .i64 ki] tRej) := ⟨_, rfl⟩
        rw [← hw4]
        have h4 := one_block w3 _ hw4.symm
        have HB4 := Lib.hid (HB3.out.trans (h4.1.mono (by omega))); have HX4 := Lib.hid h4.2
        clear hw4 h4
        generalize w3.heap.size = bx at HX4 hl3 ⊢
        obtain ⟨n0, n1, n2, g0, g1, g2⟩ := cell3 HX4.out
        have hk1 : (k : Int) + 1 ≤ 65537 := by omega
        go_upto_region 11 with (fail)
        obtain ⟨w5, hw5⟩ : ∃ w5, w5 = w4.setCell ⟨bx, 0, none⟩ (.int .i64 ((k : Int) + 1)) := ⟨_, rfl⟩
        rw [← hw5]
        have hx5 : w5.heap[bx]? = some (.cells #[.int .i64 ((k : Int) + 1), .int .i64 ci, .int .i64 ki] tRej (0, 0)) := by rw [hw5]; have h := HX4.out; simp [World.setCell, Array.getElem?_modify, h]
        have hb5' : Below (b5 + 1) W w5 := by rw [hw5]; exact HB4.out.setCell (p := ⟨bx, 0, none⟩) (by show b5 + 1 ≤ bx; omega) _
        have HX5 := Lib.hid hx5
        have HR05 := Lib.hid (heap_low hb5' (by omega) HG0.out); have HR15 := Lib.hid (heap_low hb5' (by omega) HG1.out); have HB5' := Lib.hid (HB01.out.trans (hb5'.mono (show nb ≤ b5 + 1 by omega)))
        clear hw5 n0 n1 n2 g0 g1 g2 hx5 hb5'
        obtain ⟨n0, n1, n2, g0, g1, g2⟩ := cell3 HX5.out
        obtain ⟨m0, m1, m2, f0, f1, f2⟩ := cell3 HR05.out
        obtain ⟨p0, p1, p2, e0, e1, e2⟩ := cell3 HR15.out
        go_region
        go_wp2_with fail
        obtain ⟨w6, hw6⟩ : ∃ w6, w6 = ((w5.setCell ⟨nb, 0, none⟩ (.int .i64 0)).setCell ⟨nb, 1, none⟩ (.int .i64 0)).setCell ⟨nb, 2, none⟩ (.slice none 0 0) := ⟨_, rfl⟩
        have hr6 : w6.heap[nb]? = some (.cells #[.int .i64 0, .int .i64 0, .slice none 0 0] tStat (0, 0)) := by rw [hw6]; exact set3 HR05.out _ _ _
        have hs6 : w6.heap[nb + 1]? = some (.cells #[.int .i64 0, .int .i64 0, .int .i64 0] tRej (0, 0)) := by rw [hw6]; exact set_other (set_other (set_other HR15.out (by omega) _) (by omega) _) (by omega) _
        have hb6 : Below nb w w6 := by rw [hw6]; exact below_set3 HB5'.out (Nat.le_refl _) _ _ _
        rw [← hw6]
        clear hw6
        obtain ⟨w7, hw7⟩ : ∃ w7, w7 = ((w6.setCell ⟨nb + 1, 0, none⟩ (.int .i64 ((k : Int) + 1))).setCell ⟨nb + 1, 1, none⟩ (.int .i64 ci)).setCell ⟨nb + 1, 2, none⟩ (.int .i64 ki) := ⟨_, rfl⟩
        have hs7 := set3 hs6 (.int .i64 ((k : Int) + 1)) (.int .i64 ci) (.int .i64 ki)
        rw [← hw7] at hs7
        have hr7 : w7.heap[nb]? = some (.cells #[.int .i64 0, .int .i64 0, .slice none 0 0] tStat (0, 0)) := by rw [hw7]; exact set_other (set_other (set_other hr6 (by omega) _) (by omega) _) (by omega) _
        have hb7 : Below nb w w7 := by rw [hw7]; exact below_set3 hb6 (by omega) _ _ _
        rw [← hw7]
        clear hw7 m0 m1 m2 f0 f1 f2 p0 p1 p2 e0 e1 e2
        obtain ⟨m0, m1, m2, _⟩ := cell3 hr7
        obtain ⟨q0, q1, q2, _⟩ := cell3 hs7
        refine bodyPost_ret (v := .tuple #[.agg #[.int .i64 0, .int .i64 0, .slice none 0 0], .agg #[.int .i64 ((k : Int) + 1), .int .i64 ci, .int .i64 ki]]) (by simp [results, Tryz.results22, go_sem, m0, m1, m2, q0, q1, q2]) rfl ⟨?_, below_drew1 (HNB.out ▸ hb7)⟩
        exact parsed_bad (R := Mf.ofRun L.length R) (a := k + 1) (b := x.1) (c := x.2) (by rw [HBADR.out]; rfl) (by omega) HCI.out.symm HKI.out.symm
    · have hRE := Mf.run_end hkl s
      rw [HR.out] at hRE
      have HRE := Lib.hid hRE
      obtain rfl : k = L.length := by omega
      have hll : (L.length : Int) + 1 ≤ 65537 := by omega
      clear hRE HR hk hkl
      obtain ⟨m0, m1, m2, f0, f1, f2⟩ := cell3 HR0.out
      obtain ⟨p0, p1, p2, e0, e1, e2⟩ := cell3 HR1.out
      obtain ⟨i1, i2, i3, i4, i5, i6, i0⟩ := HI.out.cells
      have HBn := Lib.hid (HB01.out.trans (HBr.out.mono (show nb ≤ b5 + 1 by omega)))
      cases hen : s.ended with
      | false =>
        rw [hen] at i6
        have HOUT := Lib.hid (show Mf.ofRun L.length R = ((0, 0, []), L.length + 1, 1, 7) by rw [HRE.out]; unfold Mf.ofRun; simp [hen])
        clear hen
        go_wp2_with fail
        obtain ⟨w6, hw6⟩ : ∃ w6, w6 = ((wr.setCell ⟨nb, 0, none⟩ (.int .i64 0)).setCell ⟨nb, 1, none⟩ (.int .i64 0)).setCell ⟨nb, 2, none⟩ (.slice none 0 0) := ⟨_, rfl⟩
        have hr6 : w6.heap[nb]? = some (.cells #[.int .i64 0, .int .i64 0, .slice none 0 0] tStat (0, 0)) := by rw [hw6]; exact set3 HR0.out _ _ _
        have hs6 : w6.heap[nb + 1]? = some (.cells #[.int .i64 0, .int .i64 0, .int .i64 0] tRej (0, 0)) := by rw [hw6]; exact set_other (set_other (set_other HR1.out (by omega) _) (by omega) _) (by omega) _
        have hb6 : Below nb w w6 := by rw [hw6]; exact below_set3 HBn.out (Nat.le_refl _) _ _ _
        rw [← hw6]
        clear hw6
        obtain ⟨w7, hw7⟩ : ∃ w7, w7 = ((w6.setCell ⟨nb + 1, 0, none⟩ (.int .i64 ((L.length : Int) + 1))).setCell ⟨nb + 1, 1, none⟩ (.int .i64 1)).setCell ⟨nb + 1, 2, none⟩ (.int .i64 7) := ⟨_, rfl⟩
        have hs7 := set3 hs6 (.int .i64 ((L.length : Int) + 1)) (.int .i64 1) (.int .i64 7)
        rw [← hw7] at hs7
        have hr7 : w7.heap[nb]? = some (.cells #[.int .i64 0, .int .i64 0, .slice none 0 0] tStat (0, 0)) := by rw [hw7]; exact set_other (set_other (set_other hr6 (by omega) _) (by omega) _) (by omega) _
        have hb7 : Below nb w w7 := by rw [hw7]; exact below_set3 hb6 (by omega) _ _ _
        rw [← hw7]
        clear hw7 m0 m1 m2 f0 f1 f2 p0 p1 p2 e0 e1 e2
        obtain ⟨m0, m1, m2, _⟩ := cell3 hr7
        obtain ⟨q0, q1, q2, _⟩ := cell3 hs7
        refine bodyPost_ret (v := .tuple #[.agg #[.int .i64 0, .int .i64 0, .slice none 0 0], .agg #[.int .i64 ((L.length : Int) + 1), .int .i64 1, .int .i64 7]]) (by simp [results, Tryz.results22, go_sem, m0, m1, m2, q0, q1, q2]) rfl ⟨?_, HNB.out ▸ hb7⟩
        exact parsed_bad (R := Mf.ofRun L.length R) (a := L.length + 1) (b := 1) (c := 7) HOUT.out (by omega) (by omega) (by omega)
      | true =>
        rw [hen] at i6
        have HOUT := Lib.hid (show Mf.ofRun L.length R = ((2, s.seq, s.l), 0, 0, 0) by rw [HRE.out]; unfold Mf.ofRun; simp [hen])
        clear hen
        obtain ⟨Ar, cr, rfl, _⟩ := own_slice HI.out.own
        go_wp2_with fail
        obtain ⟨w6, hw6⟩ : ∃ w6, w6 = ((wr.setCell ⟨nb, 0, none⟩ (.int .i64 2)).setCell ⟨nb, 1, none⟩ (.int .i64 s.seq)).setCell ⟨nb, 2, none⟩ (.slice Ar s.l.length cr) := ⟨_, rfl⟩
        have hr6 : w6.heap[nb]? = some (.cells #[.int .i64 2, .int .i64 s.seq, .slice Ar s.l.length cr] tStat (0, 0)) := by rw [hw6]; exact set3 HR0.out _ _ _
        have hs6 : w6.heap[nb + 1]? = some (.cells #[.int .i64 0, .int .i64 0, .int .i64 0] tRej (0, 0)) := by rw [hw6]; exact set_other (set_other (set_other HR1.out (by omega) _) (by omega) _) (by omega) _
        have hb6 : Below nb w w6 := by rw [hw6]; exact below_set3 HBn.out (Nat.le_refl _) _ _ _
        have ho6 : w6.ownsRow (b5 + 1 + 1) tRow 5 (.slice Ar s.l.length cr) s.l.length (s.l.flatMap encR) := by rw [hw6]; exact own_turned HI.out.own (turned_set3 wr nb _ _ _) (fun j hj e => by have := (HI.out.own.lt j hj).1; omega)
        rw [← hw6]
        clear hw6
        obtain ⟨w7, hw7⟩ : ∃ w7, w7 = ((w6.setCell ⟨nb + 1, 0, none⟩ (.int .i64 0)).setCell ⟨nb + 1, 1, none⟩ (.int .i64 0)).setCell ⟨nb + 1, 2, none⟩ (.int .i64 0) := ⟨_, rfl⟩
        have hs7 := set3 hs6 (.int .i64 0) (.int .i64 0) (.int .i64 0)
        rw [← hw7] at hs7
        have hr7 : w7.heap[nb]? = some (.cells #[.int .i64 2, .int .i64 s.seq, .slice Ar s.l.length cr] tStat (0, 0)) := by rw [hw7]; exact set_other (set_other (set_other hr6 (by omega) _) (by omega) _) (by omega) _
        have ho7 : w7.ownsRow (b5 + 1 + 1) tRow 5 (.slice Ar s.l.length cr) s.l.length (s.l.flatMap encR) := by rw [hw7]; exact own_turned ho6 (turned_set3 w6 (nb + 1) _ _ _) (fun j hj e => by have := (ho6.lt j hj).1; omega)
        have hb7 : Below nb w w7 := by rw [hw7]; exact below_set3 hb6 (by omega) _ _ _
        rw [← hw7]
        clear hw7 m0 m1 m2 f0 f1 f2 p0 p1 p2 e0 e1 e2
        obtain ⟨m0, m1, m2, _⟩ := cell3 hr7
        obtain ⟨q0, q1, q2, _⟩ := cell3 hs7
        refine bodyPost_ret (v := .tuple #[.agg #[.int .i64 2, .int .i64 s.seq, .slice Ar s.l.length cr], .agg #[.int .i64 0, .int .i64 0, .int .i64 0]]) (by simp [results, Tryz.results22, go_sem, m0, m1, m2, q0, q1, q2]) rfl ⟨?_, HNB.out ▸ hb7⟩
        refine ⟨.slice Ar s.l.length cr, ?_, ?_⟩
        · rw [HOUT.out]; rfl
        · rw [HOUT.out]; exact rd_own ho7
set_option linter.unusedSimpArgs false in
set_option linter.unusedVariables false in
set_option maxRecDepth 100000 in
set_option maxHeartbeats 4000000 in
theorem mparse_bad (s : ByteArray) (w : World) (L : List Mf.Line) (a b c : Nat) (hc : c ≠ 0) (hcall : ∀ W, Calls Tryz.prog 26 #[.string s] W fun e w' => (∃ v, e = .returned (.tuple #[v, rejV (a, b, c)]) ∧ Rowz w' w'.heap.size v L) ∧ Below W.heap.size W w') :
    Calls Tryz.prog 22 #[.string s] w fun e w' => ParsedS ((0, 0, []), a, b, c) e w' ∧ Below w.heap.size w w' := by
  obtain ⟨wa, hwa⟩ : ∃ wa, (w.alloc (.cells #[.int .i64 0, .int .i64 0, .slice none 0 0] tStat)).alloc (.cells #[.int .i64 0, .int .i64 0, .int .i64 0] tRej) = wa := ⟨_, rfl⟩
  have hWA := Lib.hid hwa
  obtain ⟨ai, hai⟩ : ∃ ai : Int, (a : Int) = ai := ⟨_, rfl⟩
  obtain ⟨bi, hbi⟩ : ∃ bi : Int, (b : Int) = bi := ⟨_, rfl⟩
  obtain ⟨ci, hci⟩ : ∃ ci : Int, (c : Int) = ci := ⟨_, rfl⟩
  unfold rejV at hcall
  simp only [hai, hbi, hci] at hcall
  have HCALL := Lib.hid hcall
  have hcn := bneT (show ¬ ci = 0 by omega)
  have HA := Lib.hid hai; have HB := Lib.hid hbi; have HC := Lib.hid hci
  clear hcall hwa hai hbi hci hc
  go_enter Tryz.func22, Tryz.ntmps22
  go_upto_region 1 with (fail)
  rw [hWA.out]
  go_wp2_with fail
  refine (HCALL.out _).mono ?_
  rintro e w1 ⟨⟨v, rfl, _⟩, hb1⟩
  go_upto_region 2 with (fail)
  obtain ⟨W, hW⟩ : ∃ W, W = w1.alloc (.cells #[.int .i64 ai, .int .i64 bi, .int .i64 ci] tRej) := ⟨_, rfl⟩
  rw [← hW]
  have h2 := two_blocks w (.cells #[.int .i64 0, .int .i64 0, .slice none 0 0] tStat) (.cells #[.int .i64 0, .int .i64 0, .int .i64 0] tRej) rfl
  rw [hWA.out] at h2
  have h3 := one_block w1 _ hW.symm
  have HR0 := Lib.hid (heap_keep (heap_keep h2.2.1 hb1) h3.1); have HR1 := Lib.hid (heap_keep (heap_keep h2.2.2 hb1) h3.1); have HX := Lib.hid h3.2
  have HBL := Lib.hid (bch (bch h2.1 hb1 h2.1.size) h3.1 (bch h2.1 hb1 h2.1.size).size)
  have hlt : w.heap.size + 1 < w1.heap.size := heap_lt (heap_keep h2.2.2 hb1)
  clear hW h2 h3 hb1
  generalize hnb : w.heap.size = nb at HR0 HR1 HBL hlt ⊢
  generalize w1.heap.size = b5 at HX hlt ⊢
  have HNB := Lib.hid hnb
  clear hnb
  obtain ⟨n0, n1, n2, g0, g1, g2⟩ := cell3 HX.out
  obtain ⟨m0, m1, m2, f0, f1, f2⟩ := cell3 HR0.out
  obtain ⟨p0, p1, p2, e0, e1, e2⟩ := cell3 HR1.out
  go_wp2_with fail
  go_region
  go_wp2_with fail
  obtain ⟨w6, hw6⟩ : ∃ w6, w6 = ((W.setCell ⟨nb, 0, none⟩ (.int .i64 0)).setCell ⟨nb, 1, none⟩ (.int .i64 0)).setCell ⟨nb, 2, none⟩ (.slice none 0 0) := ⟨_, rfl⟩
  have hr6 : w6.heap[nb]? = some (.cells #[.int .i64 0, .int .i64 0, .slice none 0 0] tStat (0, 0)) := by rw [hw6]; exact set3 HR0.out _ _ _
  have hs6 : w6.heap[nb + 1]? = some (.cells #[.int .i64 0, .int .i64 0, .int .i64 0] tRej (0, 0)) := by rw [hw6]; exact set_other (set_other (set_other HR1.out (by omega) _) (by omega) _) (by omega) _
  have hb6 : Below nb w w6 := by rw [hw6]; exact below_set3 HBL.out (Nat.le_refl _) _ _ _
  rw [← hw6]
  clear hw6
  obtain ⟨w7, hw7⟩ : ∃ w7, w7 = ((w6.setCell ⟨nb + 1, 0, none⟩ (.int .i64 ai)).setCell ⟨nb + 1, 1, none⟩ (.int .i64 bi)).setCell ⟨nb + 1, 2, none⟩ (.int .i64 ci) := ⟨_, rfl⟩
  have hs7 := set3 hs6 (.int .i64 ai) (.int .i64 bi) (.int .i64 ci)
  rw [← hw7] at hs7
  have hr7 : w7.heap[nb]? = some (.cells #[.int .i64 0, .int .i64 0, .slice none 0 0] tStat (0, 0)) := by rw [hw7]; exact set_other (set_other (set_other hr6 (by omega) _) (by omega) _) (by omega) _
  have hb7 : Below nb w w7 := by rw [hw7]; exact below_set3 hb6 (by omega) _ _ _
  rw [← hw7]
  clear hw7 m0 m1 m2 f0 f1 f2 p0 p1 p2 e0 e1 e2 n0 n1 n2 g0 g1 g2
  obtain ⟨m0, m1, m2, _⟩ := cell3 hr7
  obtain ⟨n0, n1, n2, _⟩ := cell3 hs7
  refine bodyPost_ret (v := .tuple #[.agg #[.int .i64 0, .int .i64 0, .slice none 0 0], .agg #[.int .i64 ai, .int .i64 bi, .int .i64 ci]]) (by simp [results, Tryz.results22, go_sem, m0, m1, m2, n0, n1, n2]) rfl ⟨?_, below_drew1 (HNB.out ▸ hb7)⟩
  exact parsed_bad rfl HA.out.symm HB.out.symm HC.out.symm
/-- manifest.Parse: what a file's reading comes to. -/
theorem mparse_any (s : ByteArray) (w : World) (hS : MfW w) : Calls Tryz.prog 22 #[.string s] w fun e w' => ParsedS (Mf.parseS s.data.toList) e w' ∧ Below w.heap.size w w' := by
  have hcall : ∀ W, Calls Tryz.prog 26 #[.string s] W fun e w' => Told (Csv.parse s.data.toList) e w' ∧ Below W.heap.size W w' := fun W => by
    by_cases h : s.size ≤ 65536
    · exact parse_any s W h
    · exact parse_long s W h
  rcases Sk.csv_cases s.data.toList with ⟨a, b, c, e, hc, _, _⟩ | ⟨L, e, _⟩
  · have hp : Mf.parseS s.data.toList = ((0, 0, []), a, b, c) := by unfold Mf.parseS; rw [e]; simp only []; rw [if_neg hc]
    rw [hp]
    refine mparse_bad s w [] a b c hc fun W => (hcall W).mono fun e2 w' h => ⟨?_, h.2⟩
    have h1 := h.1
    rw [e] at h1
    exact h1
  · have hp : Mf.parseS s.data.toList = Mf.ofTable L := by unfold Mf.parseS; rw [e]; rfl
    rw [hp]
    exact mparse_ok s w L e hcall hS
end Go.Proofs.YtgpjbigelblanaaGreatDoor

/- Whether rows may be a party's: the document's Check, Valid. -/
import Derived.Test.YtlkncmpengpbiaaGreatDoorRowValid
import Derived.Deep.Cut
import Derived.Deep.CutRange
import Derived.Test.YtlkncmpengpbiaaGreatDoorShort
namespace Go.Proofs.YtlkncmpengpbiaaGreatDoor
open Go.RowKit Go.Maps Key Rw
set_option linter.unusedSimpArgs false
set_option linter.unusedVariables false
set_option maxRecDepth 100000
set_option maxHeartbeats 40000000

theorem okAt_eq {p : Int} {l : List R5} {x : R5} {k : Nat} (hx : l[k]? = some x) : okAt p l k = (okRow p x && risen l x k) := by unfold okAt; rw [hx]
theorem okAt_not {p : Int} {l : List R5} {x : R5} {k : Nat} (hx : l[k]? = some x) (h : risen l x k = false) : okAt p l k = false := by rw [okAt_eq hx, h]; simp
theorem refRowsCheck_any (w : World) (v : Value) (l : List R5) (p : Int) (hR : Rd w v l) :
  Calls Tryz.prog 152 #[v, .int .i64 p] w fun e w' => e = .returned (.bool (checkB p l)) ∧ Below w.heap.size w w' := by
 obtain ⟨A, c, rfl, hlc, hcm⟩ := hR.shape
 have HR := Hd hR
 have hL63 : (l.length : Int) ≤ 9223372036854775807 := by unfold maxLen at hcm; omega
 clear hR
 by_cases hp0 : 0 ≤ p
 ·by_cases hp2 : p ≤ 2
  ·by_cases hl4 : l.length ≤ 400
   ·have hl4' : (l.length : Int) ≤ 400 := by omega
    go_enter Tryz.func152, Tryz.ntmps152
    go_wp2_with fail
    go_loopw [5] (fun i wr => ∃ k : Nat, i = .int .i64 k ∧ k ≤ l.length ∧ Hid (okTo p l k = true) ∧ Hid (Below w.heap.size w wr)) (fun i _ => l.length - (intOf i).toNat)
    case atStart => exact ⟨0, rfl, by omega, (rfl : okTo p l 0 = true), Below.refl _ _⟩
    case round =>
     obtain ⟨k, rfl, hk, HTO, HBr⟩ := hrel
     by_cases hkl : k < l.length
     ·obtain ⟨x, hx⟩ : ∃ x, l[k]? = some x := ⟨_, List.getElem?_eq_getElem hkl⟩
      obtain ⟨g, off, n0, c0', e, c0, c1, c2, c3, c4⟩ := HR.out.cells HBr.out hx
      injection e with e1 e2 e3
      subst e1; subst e2; subst e3
      obtain ⟨⟨o, d⟩, t, n, q⟩ := x
      simp only [] at c0 c1 c2 c3 c4
      have hlt : (k : Int) < l.length := by omega
      have hk0 : (0 : Int) ≤ k := by omega
      have HX := Hd hx
      clear hx
      have HB1 := Hd (HBr.out.alloc HBr.out.size (.cells #[.int .i64 o, .int .i64 d, .int .i64 t, .int .i64 n, .int .i64 q] tRow))
      have HM1 := Hd (heap_new wr (.cells #[.int .i64 o, .int .i64 d, .int .i64 t, .int .i64 n, .int .i64 q] tRow))
      obtain ⟨m0, m1, m2, m3, m4⟩ := cell5 HM1.out
      have HC := Hd (fun W => refCheck_any o d W)
      go_wp2_with fail
      generalize wr.alloc (.cells #[.int .i64 o, .int .i64 d, .int .i64 t, .int .i64 n, .int .i64 q] tRow) = wz at HB1 HM1 m0 m1 m2 m3 m4 ⊢
      have HBz := HB1
      clear c0 c1 c2 c3 c4
      generalize wr.heap.size = b0 at HM1 m0 m1 m2 m3 m4 ⊢
      refine (HC.out _).mono ?_
      rintro e wu ⟨rfl, hb⟩
      have HBu := Hd (bch HB1.out hb HB1.out.size)
      have HM2 := Hd (heap_keep HM1.out hb)
      clear m0 m1 m2 m3 m4
      clear hb HB1 HM1 HBz HC
      have HBx := HBu
      obtain ⟨m0, m1, m2, m3, m4⟩ := cell5 HM2.out
      cases hc : chk o d with
      | false =>
       have HF := Hd (show checkB p l = false from check_bad hkl (okAt_row HX.out (by simp [okRow, hc])))
       go_wp2_with fail
       go_ret
       exact ⟨by rw [HF.out]; rfl, HBx.out⟩
      | true =>
       have hd6 : Mon.InR d := by have := chk_iff.1 hc; unfold Mon.InR; omega
       obtain ⟨pd, hpd⟩ : ∃ z, partyI d = z := ⟨_, rfl⟩
       have HP := Hd (fun W => (refParty_any d W hd6).mono (fun e w' h => (⟨by rw [h.1, hpd], h.2⟩ : e = .returned (.int .i64 pd) ∧ W = w')))
       have HPD := Hd hpd
       have HCC := Hd hc
       clear hpd hc
       go_wp2_with fail
       refine (HP.out _).mono ?_
       rintro e w2 ⟨rfl, hw⟩; subst hw
       clear HP
       have hpd := HPD.out
       have hc := HCC.out
       by_cases hp : pd = p
       ·subst hp
        by_cases ht1 : 1 ≤ t
        ·by_cases ht2 : t ≤ 2
         ·obtain ⟨rb, hrb⟩ : ∃ rb, risen l ((o, d), t, n, q) k = rb := ⟨_, rfl⟩
          have HRB := Hd hrb
          clear hrb
          go_wp2_with fail
          clear m0 m1 m2 m3 m4
          clear HBx
          go_cut [63] from 18 to 107 (fun c wx => c = .bool (!rb) ∧ Hid (Below wu.heap.size wu wx))
          case first =>
           cases k with
           | zero =>
            have hrb' : rb = true := HRB.out.symm
            subst hrb'
            rw [show ((0 : Nat) : Int) = 0 from rfl] at hlt hk0 ⊢
            refine wp_region_noPanic ?_
            refine wp_region_held_drew (S := (fun w' => Hid (Below wu.heap.size wu w') ∧ w'.cell? ⟨b0, 0, none⟩ = some (.int .i64 o) ∧ w'.cell? ⟨b0, 1, none⟩ = some (.int .i64 d) ∧ w'.cell? ⟨b0, 2, none⟩ = some (.int .i64 t) ∧ w'.cell? ⟨b0, 3, none⟩ = some (.int .i64 n) ∧ w'.cell? ⟨b0, 4, none⟩ = some (.int .i64 q))) (by kernel_rfl) ⟨(below_drew1 (Below.refl _ wu)), cell_at ((((below_drew1 (Below.refl _ wu))).block _ (heap_lt HM2.out)).trans HM2.out) 0 rfl, cell_at ((((below_drew1 (Below.refl _ wu))).block _ (heap_lt HM2.out)).trans HM2.out) 1 rfl, cell_at ((((below_drew1 (Below.refl _ wu))).block _ (heap_lt HM2.out)).trans HM2.out) 2 rfl, cell_at ((((below_drew1 (Below.refl _ wu))).block _ (heap_lt HM2.out)).trans HM2.out) 3 rfl, cell_at ((((below_drew1 (Below.refl _ wu))).block _ (heap_lt HM2.out)).trans HM2.out) 4 rfl⟩ (fun hHeld => ?_)
            refine tk 0 rfl rfl ‹_› ?_; try go_frame
            refine tk 1 rfl rfl ‹_› ?_; try go_frame
            refine tk 2 rfl rfl ‹_› ?_; try go_frame
            refine wpAnyH_take (i := 3) (v := undef) rfl (by kernel_rfl) (by kernel_rfl) (by kernel_rfl) (fun _ _ _ h => h) (Or.inr ⟨by rfl, rfl⟩) (by assumption) ?_
            (try simp only [gx1, gx2, gx3]); try go_frame
            refine wpAnyH_take (i := 4) (v := undef) rfl (by kernel_rfl) (by kernel_rfl) (by kernel_rfl) (fun _ _ _ h => h) (Or.inr ⟨by rfl, rfl⟩) (by assumption) ?_
            (try simp only [gx1, gx2, gx3]); try go_frame
            refine wpAnyH_take (i := 5) (v := undef) rfl (by kernel_rfl) (by kernel_rfl) (by kernel_rfl) (fun _ _ _ h => h) (Or.inr ⟨by rfl, rfl⟩) (by assumption) ?_
            (try simp only [gx1, gx2, gx3]); try go_frame
            refine wpAnyH_take (i := 6) (v := undef) rfl (by kernel_rfl) (by kernel_rfl) (by kernel_rfl) (fun _ _ _ h => h) (Or.inr ⟨by rfl, rfl⟩) (by assumption) ?_
            (try simp only [gx1, gx2, gx3]); try go_frame
            refine wpAnyH_take (i := 7) (v := undef) rfl (by kernel_rfl) (by kernel_rfl) (by kernel_rfl) (fun _ _ _ h => h) (Or.inr ⟨by rfl, rfl⟩) (by assumption) ?_
            (try simp only [gx1, gx2, gx3]); try go_frame
            refine wpAnyH_take (i := 8) (v := undef) rfl (by kernel_rfl) (by kernel_rfl) (by kernel_rfl) (fun _ _ _ h => h) (Or.inr ⟨by rfl, rfl⟩) (by assumption) ?_
            (try simp only [gx1, gx2, gx3]); try go_frame
            refine wpAnyH_take (i := 9) (v := undef) rfl (by kernel_rfl) (by kernel_rfl) (by kernel_rfl) (fun _ _ _ h => h) (Or.inr ⟨by rfl, rfl⟩) (by assumption) ?_
            (try simp only [gx1, gx2, gx3]); try go_frame
            refine wpAnyH_take (i := 10) (v := undef) rfl (by kernel_rfl) (by kernel_rfl) (by kernel_rfl) (fun _ _ _ h => h) (Or.inr ⟨by rfl, rfl⟩) (by assumption) ?_
            (try simp only [gx1, gx2, gx3]); try go_frame
            refine wpAnyH_take (i := 11) (v := undef) rfl (by kernel_rfl) (by kernel_rfl) (by kernel_rfl) (fun _ _ _ h => h) (Or.inr ⟨by rfl, rfl⟩) (by assumption) ?_
            (try simp only [gx1, gx2, gx3]); try go_frame
            refine wpAnyH_take (i := 12) (v := undef) rfl (by kernel_rfl) (by kernel_rfl) (by kernel_rfl) (fun _ _ _ h => h) (Or.inr ⟨by rfl, rfl⟩) (by assumption) ?_
            (try simp only [gx1, gx2, gx3]); try go_frame
            refine tk 13 rfl rfl ‹_› ?_; try go_frame
            refine wpAnyH_done (by kernel_rfl) ?_ _
            refine NoPanic.normal ?_
            have HW := Hd (Hid.out hHeld.1)
            clear hHeld
            go_wp2_with fail
            go_meet
            exact ⟨rfl, HW⟩
           | succ j =>
            obtain ⟨y, hy⟩ : ∃ y, l[j]? = some y := ⟨_, List.getElem?_eq_getElem (by omega)⟩
            obtain ⟨⟨o', d'⟩, t', n', q'⟩ := y
            obtain ⟨bl, hbl⟩ : ∃ bl, lessB o' d' o d = bl := ⟨_, rfl⟩
            have hrb' : rb = bl := by rw [← HRB.out, ← hbl]; show (match l[j]? with | none => true | some y => lessR y ((o, d), t, n, q)) = _; rw [hy]; rfl
            have HL := Hd (fun W => (refLess_any o' d' o d W).mono (fun e w' h => (⟨by rw [h.1, hbl], h.2⟩ : e = .returned (.bool bl) ∧ Below W.heap.size W w')))
            have HD := Hd (fun W (hb : Below wu.heap.size wu W) => (by
             obtain ⟨g', off', n', c', e, d0, d1, _⟩ := HR.out.cells (bch HBu.out hb HBu.out.size) hy
             injection e with e1 e2 e3
             injection e1 with e1
             injection e1 with e1 e4 _
             subst e1; subst e4
             exact ⟨d0, d1⟩ : W.cell? ⟨g, off + j * 5, none⟩ = some (.int .i64 o') ∧ W.cell? ⟨g, off + j * 5 + 1, none⟩ = some (.int .i64 d')))
            clear hbl hy
            subst hrb'
            have hwr : IntKind.i64.wrap (j : Int) = j := by rw [IntKind.wrap_i64]; omega
            have hjl : j < l.length := by omega
            rw [show ((j + 1 : Nat) : Int) = (j : Int) + 1 from rfl] at hlt hk0 ⊢
            refine wp_region_noPanic ?_
            refine wp_region_held_drew (S := (fun w' => Hid (Below wu.heap.size wu w') ∧ w'.cell? ⟨b0, 0, none⟩ = some (.int .i64 o) ∧ w'.cell? ⟨b0, 1, none⟩ = some (.int .i64 d) ∧ w'.cell? ⟨b0, 2, none⟩ = some (.int .i64 t) ∧ w'.cell? ⟨b0, 3, none⟩ = some (.int .i64 n) ∧ w'.cell? ⟨b0, 4, none⟩ = some (.int .i64 q) ∧ w'.cell? ⟨g, off + j * 5, none⟩ = some (.int .i64 o') ∧ w'.cell? ⟨g, off + j * 5 + 1, none⟩ = some (.int .i64 d'))) (by kernel_rfl) ⟨(below_drew1 (Below.refl _ wu)), cell_at ((((below_drew1 (Below.refl _ wu))).block _ (heap_lt HM2.out)).trans HM2.out) 0 rfl, cell_at ((((below_drew1 (Below.refl _ wu))).block _ (heap_lt HM2.out)).trans HM2.out) 1 rfl, cell_at ((((below_drew1 (Below.refl _ wu))).block _ (heap_lt HM2.out)).trans HM2.out) 2 rfl, cell_at ((((below_drew1 (Below.refl _ wu))).block _ (heap_lt HM2.out)).trans HM2.out) 3 rfl, cell_at ((((below_drew1 (Below.refl _ wu))).block _ (heap_lt HM2.out)).trans HM2.out) 4 rfl, (HD.out _ ((below_drew1 (Below.refl _ wu)))).1, (HD.out _ ((below_drew1 (Below.refl _ wu)))).2⟩ (fun hHeld => ?_)
            refine tk 0 rfl rfl ‹_› ?_; try go_frame
            refine tk 1 rfl rfl ‹_› ?_; try go_frame
            refine tk 2 rfl rfl ‹_› ?_; try go_frame
            refine tk 3 rfl rfl ‹_› ?_; try go_frame
            refine tk 4 rfl rfl ‹_› ?_; try go_frame
            refine tk 5 rfl rfl ‹_› ?_; try go_frame
            refine tk 6 rfl rfl ‹_› ?_; try go_frame
            refine tk 7 rfl rfl ‹_› ?_; try go_frame
            refine tk 8 rfl rfl ‹_› ?_; try go_frame
            refine tk 9 rfl rfl ‹_› ?_; try go_frame
            refine tk 10 rfl rfl ‹_› ?_; try go_frame
            refine rdy 11 rfl (fun K hK => ?_)
            go_simp
            refine (HL.out _).mono ?_; rintro e w1 ⟨rfl, hb⟩
            have hbk := bch (Hid.out (And.left (by assumption))) hb (Below.size (Hid.out (And.left (by assumption))))
            refine hK.out _ _ ⟨hbk, cell_at (((hbk).block _ (heap_lt HM2.out)).trans HM2.out) 0 rfl, cell_at (((hbk).block _ (heap_lt HM2.out)).trans HM2.out) 1 rfl, cell_at (((hbk).block _ (heap_lt HM2.out)).trans HM2.out) 2 rfl, cell_at (((hbk).block _ (heap_lt HM2.out)).trans HM2.out) 3 rfl, cell_at (((hbk).block _ (heap_lt HM2.out)).trans HM2.out) 4 rfl, (HD.out _ (hbk)).1, (HD.out _ (hbk)).2⟩ (fun hHeld => ?_)
            clear hK K hb hbk
            (try simp only [gx1, gx2, gx3]); try go_frame
            refine tk 12 rfl rfl ‹_› ?_; try go_frame
            refine tk 13 rfl rfl ‹_› ?_; try go_frame
            refine wpAnyH_done (by kernel_rfl) ?_ _
            refine NoPanic.normal ?_
            have HW := Hd (Hid.out hHeld.1)
            clear hHeld
            go_wp2_with fail
            go_meet
            exact ⟨rfl, HW⟩
          case rest =>
           obtain ⟨rfl, HCB⟩ := hcut
           have HBx := Hd (bch HBu.out HCB.out HBu.out.size)
           have HM3 := Hd (heap_keep HM2.out HCB.out)
           clear HCB HM2
           have HM2 := HM3
           clear HM3
           obtain ⟨m0, m1, m2, m3, m4⟩ := cell5 HM2.out
           cases rb with
           | false =>
            have HF := Hd (show checkB pd l = false from check_bad hkl (okAt_not HX.out HRB.out))
            go_wp2_with fail
            go_ret
            exact ⟨by rw [HF.out]; rfl, HBx.out⟩
           | true =>
            have ht12 : t = 1 ∨ t = 2 := by omega
            clear ht1 ht2
            rcases ht12 with rfl | rfl
            ·by_cases ha1 : 0 ≤ n
             ·by_cases ha2 : n ≤ 1099511627776
              ·by_cases hq1 : 0 ≤ q
               ·by_cases hq2 : q ≤ 999
                ·by_cases ha0 : n = 0
                 ·subst ha0
                  by_cases hq0 : q = 0
                  ·subst hq0
                   by_cases hz : pd = 0
                   ·subst hz
                    have HOKR := Hd (show okRow 0 ((o, d), 1, 0, 0) = true by simp [okRow, hc, hpd])
                    have HN := Hd (show okTo 0 l (k + 1) = true by rw [okTo_succ, HTO.out, okAt_eq HX.out, HRB.out, HOKR.out]; rfl)
                    go_wp2_with fail
                    go_roundw
                    case rel =>
                     first
                     | exact ⟨k + 1, by go_num, by omega, HN, HBx⟩
                     | ((repeat apply Exists.intro); exact ⟨⟨k + 1, by go_num, by omega, HN, HBx⟩, rfl⟩)
                    case measure => simp [intOf]; omega
                   ·have hzb := beqF hz
                    have hzc := bneT hz
                    have HOKR := Hd (show okRow pd ((o, d), 1, 0, 0) = true by simp [okRow, hc, hpd, hz])
                    have HN := Hd (show okTo pd l (k + 1) = true by rw [okTo_succ, HTO.out, okAt_eq HX.out, HRB.out, HOKR.out]; rfl)
                    go_wp2_with fail
                    go_roundw
                    case rel =>
                     first
                     | exact ⟨k + 1, by go_num, by omega, HN, HBx⟩
                     | ((repeat apply Exists.intro); exact ⟨⟨k + 1, by go_num, by omega, HN, HBx⟩, rfl⟩)
                    case measure => simp [intOf]; omega
                  ·have hq0b := beqF hq0
                   have hq0c := bneT hq0
                   by_cases hz : pd = 0
                   ·subst hz
                    have HF := Hd (show checkB 0 l = false from check_bad hkl (okAt_row HX.out (by simp [okRow, hc, hpd, hq0])))
                    go_wp2_with fail
                    go_ret
                    exact ⟨by rw [HF.out]; rfl, HBx.out⟩
                   ·have hzb := beqF hz
                    have hzc := bneT hz
                    have HOKR := Hd (show okRow pd ((o, d), 1, 0, q) = true by simp [okRow, hc, hpd, hz, hq1, hq2])
                    have HN := Hd (show okTo pd l (k + 1) = true by rw [okTo_succ, HTO.out, okAt_eq HX.out, HRB.out, HOKR.out]; rfl)
                    go_wp2_with fail
                    go_roundw
                    case rel =>
                     first
                     | exact ⟨k + 1, by go_num, by omega, HN, HBx⟩
                     | ((repeat apply Exists.intro); exact ⟨⟨k + 1, by go_num, by omega, HN, HBx⟩, rfl⟩)
                    case measure => simp [intOf]; omega
                 ·have ha0b := beqF ha0
                  have ha0c := bneT ha0
                  by_cases hz : pd = 0
                  ·subst hz
                   by_cases hq0 : q = 0
                   ·subst hq0
                    have HOKR := Hd (show okRow 0 ((o, d), 1, n, 0) = true by simp [okRow, hc, hpd, ha1, ha2])
                    have HN := Hd (show okTo 0 l (k + 1) = true by rw [okTo_succ, HTO.out, okAt_eq HX.out, HRB.out, HOKR.out]; rfl)
                    go_wp2_with fail
                    go_roundw
                    case rel =>
                     first
                     | exact ⟨k + 1, by go_num, by omega, HN, HBx⟩
                     | ((repeat apply Exists.intro); exact ⟨⟨k + 1, by go_num, by omega, HN, HBx⟩, rfl⟩)
                    case measure => simp [intOf]; omega
                   ·have hq0b := beqF hq0
                    have hq0c := bneT hq0
                    have HF := Hd (show checkB 0 l = false from check_bad hkl (okAt_row HX.out (by simp [okRow, hc, hpd, hq0])))
                    go_wp2_with fail
                    go_ret
                    exact ⟨by rw [HF.out]; rfl, HBx.out⟩
                  ·have hzb := beqF hz
                   have hzc := bneT hz
                   have HF := Hd (show checkB pd l = false from check_bad hkl (okAt_row HX.out (by simp [okRow, hc, hpd, ha0, hz])))
                   go_wp2_with fail
                   go_ret
                   exact ⟨by rw [HF.out]; rfl, HBx.out⟩
                ·have hq2' : 999 < q := by omega
                 have HF := Hd (show checkB pd l = false from check_bad hkl (okAt_row HX.out (by cases hzz : okRow pd ((o, d), 1, n, q) with | false => rfl | true => (exfalso; simp [okRow, hc, hpd] at hzz; split at hzz <;> omega))))
                 go_wp2_with fail
                 go_ret
                 exact ⟨by rw [HF.out]; rfl, HBx.out⟩
               ·have hq1' : q < 0 := by omega
                have HF := Hd (show checkB pd l = false from check_bad hkl (okAt_row HX.out (by cases hzz : okRow pd ((o, d), 1, n, q) with | false => rfl | true => (exfalso; simp [okRow, hc, hpd] at hzz; split at hzz <;> omega))))
                go_wp2_with fail
                go_ret
                exact ⟨by rw [HF.out]; rfl, HBx.out⟩
              ·have ha2' : 1099511627776 < n := by omega
               have HF := Hd (show checkB pd l = false from check_bad hkl (okAt_row HX.out (by cases hzz : okRow pd ((o, d), 1, n, q) with | false => rfl | true => (exfalso; simp [okRow, hc, hpd] at hzz; split at hzz <;> omega))))
               go_wp2_with fail
               go_ret
               exact ⟨by rw [HF.out]; rfl, HBx.out⟩
             ·have ha1' : n < 0 := by omega
              have HF := Hd (show checkB pd l = false from check_bad hkl (okAt_row HX.out (by cases hzz : okRow pd ((o, d), 1, n, q) with | false => rfl | true => (exfalso; simp [okRow, hc, hpd] at hzz; split at hzz <;> omega))))
              go_wp2_with fail
              go_ret
              exact ⟨by rw [HF.out]; rfl, HBx.out⟩
            ·by_cases ha1 : 0 ≤ n
             ·by_cases ha2 : n ≤ 1099511627776
              ·by_cases hq1 : 0 ≤ q
               ·by_cases hq2 : q ≤ 999
                ·by_cases ha0 : n = 0
                 ·subst ha0
                  by_cases hq0 : q = 0
                  ·subst hq0
                   have HOKR := Hd (show okRow pd ((o, d), 2, 0, 0) = true by simp [okRow, hc, hpd])
                   have HN := Hd (show okTo pd l (k + 1) = true by rw [okTo_succ, HTO.out, okAt_eq HX.out, HRB.out, HOKR.out]; rfl)
                   go_wp2_with fail
                   go_roundw
                   case rel =>
                    first
                    | exact ⟨k + 1, by go_num, by omega, HN, HBx⟩
                    | ((repeat apply Exists.intro); exact ⟨⟨k + 1, by go_num, by omega, HN, HBx⟩, rfl⟩)
                   case measure => simp [intOf]; omega
                  ·have hq0b := beqF hq0
                   have hq0c := bneT hq0
                   by_cases hz : pd = 0
                   ·subst hz
                    have HF := Hd (show checkB 0 l = false from check_bad hkl (okAt_row HX.out (by simp [okRow, hc, hpd, hq0])))
                    go_wp2_with fail
                    go_ret
                    exact ⟨by rw [HF.out]; rfl, HBx.out⟩
                   ·have hzb := beqF hz
                    have hzc := bneT hz
                    have HF := Hd (show checkB pd l = false from check_bad hkl (okAt_row HX.out (by simp [okRow, hc, hpd, hq0])))
                    go_wp2_with fail
                    go_ret
                    exact ⟨by rw [HF.out]; rfl, HBx.out⟩
                 ·have ha0b := beqF ha0
                  have ha0c := bneT ha0
                  by_cases hz : pd = 0
                  ·subst hz
                   have HF := Hd (show checkB 0 l = false from check_bad hkl (okAt_row HX.out (by simp [okRow, hc, hpd, ha0])))
                   go_wp2_with fail
                   go_ret
                   exact ⟨by rw [HF.out]; rfl, HBx.out⟩
                  ·have hzb := beqF hz
                   have hzc := bneT hz
                   have HF := Hd (show checkB pd l = false from check_bad hkl (okAt_row HX.out (by simp [okRow, hc, hpd, ha0])))
                   go_wp2_with fail
                   go_ret
                   exact ⟨by rw [HF.out]; rfl, HBx.out⟩
                ·have hq2' : 999 < q := by omega
                 have HF := Hd (show checkB pd l = false from check_bad hkl (okAt_row HX.out (by cases hzz : okRow pd ((o, d), 2, n, q) with | false => rfl | true => (exfalso; simp [okRow, hc, hpd] at hzz; omega))))
                 go_wp2_with fail
                 go_ret
                 exact ⟨by rw [HF.out]; rfl, HBx.out⟩
               ·have hq1' : q < 0 := by omega
                have HF := Hd (show checkB pd l = false from check_bad hkl (okAt_row HX.out (by cases hzz : okRow pd ((o, d), 2, n, q) with | false => rfl | true => (exfalso; simp [okRow, hc, hpd] at hzz; omega))))
                go_wp2_with fail
                go_ret
                exact ⟨by rw [HF.out]; rfl, HBx.out⟩
              ·have ha2' : 1099511627776 < n := by omega
               have HF := Hd (show checkB pd l = false from check_bad hkl (okAt_row HX.out (by cases hzz : okRow pd ((o, d), 2, n, q) with | false => rfl | true => (exfalso; simp [okRow, hc, hpd] at hzz; omega))))
               go_wp2_with fail
               go_ret
               exact ⟨by rw [HF.out]; rfl, HBx.out⟩
             ·have ha1' : n < 0 := by omega
              have HF := Hd (show checkB pd l = false from check_bad hkl (okAt_row HX.out (by cases hzz : okRow pd ((o, d), 2, n, q) with | false => rfl | true => (exfalso; simp [okRow, hc, hpd] at hzz; omega))))
              go_wp2_with fail
              go_ret
              exact ⟨by rw [HF.out]; rfl, HBx.out⟩
         ·have ht2' : 2 < t := by omega
          have ht3 : ¬ t = 2 := by omega
          have ht4 : ¬ t = 1 := by omega
          have HF := Hd (show checkB pd l = false from check_bad hkl (okAt_row HX.out (by simp [okRow, hc, hpd, ht3, ht4])))
          go_wp2_with fail
          go_ret
          exact ⟨by rw [HF.out]; rfl, HBx.out⟩
        ·have ht1' : t < 1 := by omega
         have ht3 : ¬ t = 2 := by omega
         have ht4 : ¬ t = 1 := by omega
         have HF := Hd (show checkB pd l = false from check_bad hkl (okAt_row HX.out (by simp [okRow, hc, hpd, ht3, ht4])))
         go_wp2_with fail
         go_ret
         exact ⟨by rw [HF.out]; rfl, HBx.out⟩
       ·have hpb := bneT hp
        have HF := Hd (show checkB p l = false from check_bad hkl (okAt_row HX.out (by simp [okRow, hc, hpd, hp])))
        go_wp2_with fail
        go_ret
        exact ⟨by rw [HF.out]; rfl, HBx.out⟩
     ·obtain rfl : k = l.length := by omega
      have HF := Hd (show checkB p l = true by unfold checkB; rw [HTO.out]; simp [hp0, hp2, hl4])
      go_wp2_with fail
      go_ret
      exact ⟨by rw [HF.out]; rfl, HBr.out⟩
   ·have hl4' : (400 : Int) < l.length := by omega
    have HF := Hd (show checkB p l = false by unfold checkB; simp; omega)
    go_enter Tryz.func152, Tryz.ntmps152
    go_wp2_with fail
    go_ret
    exact ⟨by rw [HF.out]; rfl, Below.refl _ _⟩
  ·have hp2' : 2 < p := by omega
   have HF := Hd (show checkB p l = false by unfold checkB; simp; omega)
   go_enter Tryz.func152, Tryz.ntmps152
   go_wp2_with fail
   go_ret
   exact ⟨by rw [HF.out]; rfl, Below.refl _ _⟩
 ·have hp0' : p < 0 := by omega
  have HF := Hd (show checkB p l = false by unfold checkB; simp; omega)
  go_enter Tryz.func152, Tryz.ntmps152
  go_wp2_with fail
  go_ret
  exact ⟨by rw [HF.out]; rfl, Below.refl _ _⟩
theorem refRowsValid_any (w : World) (p s : Int) (v : Value) (l : List R5) (hR : Rd w v l) :
  Calls Tryz.prog 120 #[.agg #[.int .i64 p, .int .i64 s, v]] w fun e w' => e = .returned (.bool (validB p s l)) ∧ Below w.heap.size w w' := by
 have HB := Hd (below_alloc w (.cells #[.int .i64 p, .int .i64 s, v] tStat))
 have HM := Hd (heap_new w (.cells #[.int .i64 p, .int .i64 s, v] tStat))
 have HC := Hd (fun W (hb : Below w.heap.size w W) => refRowsCheck_any W v l p (hR.keep hb))
 obtain ⟨A, c, rfl, _⟩ := hR.shape
 clear hR
 by_cases h1 : 1 ≤ s
 ·by_cases h2 : s ≤ 1073741824
  ·have HF := Hd (show validB p s l = checkB p l by unfold validB; simp [h1, h2])
   go_enter Tryz.func120, Tryz.ntmps120
   go_wp2_with fail
   generalize w.alloc (.cells #[.int .i64 p, .int .i64 s, .slice A l.length c] tStat) = wa at HB HM ⊢
   obtain ⟨m0, m1, m2⟩ := cell3c HM.out
   go_wp2_with fail
   refine (HC.out _ HB.out).mono ?_
   rintro e w1 ⟨rfl, hb⟩
   go_wp2_with fail
   go_ret
   exact ⟨by rw [HF.out]; rfl, bch HB.out hb HB.out.size⟩
  ·have HF := Hd (show validB p s l = false by unfold validB; simp; omega)
   have h2' : 1073741824 < s := by omega
   go_enter Tryz.func120, Tryz.ntmps120
   go_wp2_with fail
   generalize w.alloc (.cells #[.int .i64 p, .int .i64 s, .slice A l.length c] tStat) = wa at HB HM ⊢
   obtain ⟨m0, m1, m2⟩ := cell3c HM.out
   go_wp2_with fail
   go_ret
   exact ⟨by rw [HF.out]; rfl, HB.out⟩
 ·have HF := Hd (show validB p s l = false by unfold validB; simp; omega)
  have h1' : s < 1 := by omega
  go_enter Tryz.func120, Tryz.ntmps120
  go_wp2_with fail
  generalize w.alloc (.cells #[.int .i64 p, .int .i64 s, .slice A l.length c] tStat) = wa at HB HM ⊢
  obtain ⟨m0, m1, m2⟩ := cell3c HM.out
  go_wp2_with fail
  go_ret
  exact ⟨by rw [HF.out]; rfl, HB.out⟩
end Go.Proofs.YtlkncmpengpbiaaGreatDoor

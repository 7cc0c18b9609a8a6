/- saga.Valid at a saga that was come to. -/
import Derived.Test.YtnfbhocppijbjaaDoorCoreOf0
import Derived.Test.YtnfbhocppijbjaaDoorCoreSame
import Derived.BigQuiet
import Derived.Test.YtnfbhocppijbjaaDoorBooksPost
import Derived.Test.YtnfbhocppijbjaaDoorCoreStop
namespace Go.Proofs.YtnfbhocppijbjaaDoor
open Go.RowKit Go.Maps Key Rw Sa Co Od

namespace Co
def wt (v : Int) : Nat := if v = 0 then 2 else if v = 1 then 1 else 0
/-- How far a saga's way may still be. -/
def wtS (s : Sg) : Nat := wt s.d0 + wt s.d1 + wt s.d2 + wt s.d3 + wt s.d4 + wt s.d5
theorem wt_set (s : Sg) (k v : Int) (hk : 0 ≤ k ∧ k < 6) : wtS (setI s k v) + wt (s.deed k) = wtS s + wt v := by
  rcases (show k = 0 ∨ k = 1 ∨ k = 2 ∨ k = 3 ∨ k = 4 ∨ k = 5 by omega) with rfl | rfl | rfl | rfl | rfl | rfl <;> simp [setI, Sg.deed, wtS] <;> omega
theorem wt_on (s : Sg) : wtS (onI s) ≤ wtS s := by
  rcases onI_set s with e | ⟨k, hk, h0, e⟩ <;> rw [e]
  · exact Nat.le_refl _
  · have := wt_set s k 1 hk
    rw [h0, show wt 0 = 2 from rfl, show wt 1 = 1 from rfl] at this
    omega
theorem wt_reply {t : Sg} {d code : Int} (h : replyB t d code = true) : wtS (replyI t d code) < wtS t := by
  obtain ⟨_, _, hc⟩ := reply_code h
  obtain ⟨hd, h1, _, _⟩ := reply_deed h
  have h2 := wt_set t d (code + 1) hd
  have h3 := wt_on (setI t d (code + 1))
  rw [h1, show wt 1 = 1 from rfl, show wt (code + 1) = 0 from by rcases hc with rfl | ⟨rfl, _⟩ <;> rfl] at h2
  unfold replyI
  omega
theorem wt_stop {t : Sg} (h : goingB t = true) : wtS (Sa.stopI t) < wtS t := by
  obtain ⟨_, hd, h1, _⟩ := stop_deed h
  have h2 := wt_set t (waitsI t) 4 hd
  have h3 := wt_on ({ setI t (waitsI t) 4 with can := true })
  rw [h1, show wt 1 = 1 from rfl, show wt 4 = 0 from rfl] at h2
  have h4 : wtS ({ setI t (waitsI t) 4 with can := true } : Sg) = wtS (setI t (waitsI t) 4) := rfl
  unfold Sa.stopI
  omega
end Co
def wtC : Option Value → Nat
  | some (.int _ v) => wt v
  | _ => 0
/-- The same, off a box. -/
def wtW (w : World) (b : Nat) : Nat := wtC (w.cell? ⟨b, 5, none⟩) + wtC (w.cell? ⟨b, 6, none⟩) + wtC (w.cell? ⟨b, 7, none⟩) + wtC (w.cell? ⟨b, 8, none⟩) + wtC (w.cell? ⟨b, 9, none⟩) + wtC (w.cell? ⟨b, 10, none⟩)
abbrev dsV (s : Sg) : Value := .agg #[.int .i64 s.d0, .int .i64 s.d1, .int .i64 s.d2, .int .i64 s.d3, .int .i64 s.d4, .int .i64 s.d5]
theorem deeds_neq (s t : Sg) (W : World) : (binOp .neq 49 (dsV s) (dsV t)).run Tryd.prog W = .ok (.bool (!([s.d0, s.d1, s.d2, s.d3, s.d4, s.d5] == [t.d0, t.d1, t.d2, t.d3, t.d4, t.d5]))) W :=
  run_neq_ints W 49 3 6 .i64 .i64 Tryd.underlying49 Tryd.underlying3 (fun w => by kernel_rfl) [s.d0, s.d1, s.d2, s.d3, s.d4, s.d5] [t.d0, t.d1, t.d2, t.d3, t.d4, t.d5] rfl rfl
theorem deeds_same (s : Sg) (W : World) : (binOp .neq 49 (dsV s) (dsV s)).run Tryd.prog W = .ok (.bool false) W := by rw [deeds_neq]; simp
theorem deeds_other {s t : Sg} {k : Int} (hk : 0 ≤ k ∧ k < 6) (h : s.deed k ≠ t.deed k) (W : World) : (binOp .neq 49 (dsV s) (dsV t)).run Tryd.prog W = .ok (.bool true) W := by
  rw [deeds_neq]
  have : ([s.d0, s.d1, s.d2, s.d3, s.d4, s.d5] == [t.d0, t.d1, t.d2, t.d3, t.d4, t.d5]) = false := by
    rw [beq_eq_false_iff_ne]
    intro e
    simp only [List.cons.injEq] at e
    obtain ⟨e0, e1, e2, e3, e4, e5, _⟩ := e
    rcases (show k = 0 ∨ k = 1 ∨ k = 2 ∨ k = 3 ∨ k = 4 ∨ k = 5 by omega) with rfl | rfl | rfl | rfl | rfl | rfl <;> simp [Sg.deed] at h <;> omega
  rw [this]; rfl
theorem wtW_box {w : World} {b : Nat} {t : Sg} {T : TypeId} {fr : Nat × Nat} (h : w.heap[b]? = some (.cells (sgA t) T fr)) : wtW w b = wtS t := by
  obtain ⟨_, _, _, _, _, c5, c6, c7, c8, c9, c10, _⟩ := sg_box h
  unfold wtW; rw [c5, c6, c7, c8, c9, c10]; rfl
set_option linter.unusedSimpArgs false in
set_option linter.unusedVariables false in
set_option maxRecDepth 100000 in
set_option maxHeartbeats 16000000 in
theorem valid_any (s : Sg) (n : Nat) (w : World) (hs : ToN s n (beginI s.id s.ref s.sku s.qty s.amt)) (hc : codeO s.id s.ref s.sku s.qty s.amt = 0) :
    Calls Tryd.prog 17 #[sgV s] w fun e w' => e = .returned (.bool true) ∧ Below w.heap.size w w' := by
  obtain ⟨wa, hA⟩ : ∃ wa, wa = w.alloc (.cells (sgA s) tSaga) := ⟨_, rfl⟩
  have HB := Lib.hid (show Below w.heap.size w wa by rw [hA]; exact below_alloc _ _)
  have HX := Lib.hid (show wa.heap[w.heap.size]? = some (.cells (sgA s) tSaga (0, 0)) by rw [hA]; exact heap_new _ _)
  have HA := Lib.hid hA; have HS := Lib.hid hs; have HC := Lib.hid hc
  clear hA hs hc
  obtain ⟨c0, c1, c2, c3, c4, c5, c6, c7, c8, c9, c10, c11⟩ := sg_box HX.out
  go_enter Tryd.func17, Tryd.ntmps17
  go_upto_region 1 with (fail)
  rw [← HA.out]
  skip
  go_wp2_with fail
  refine (ocheck_any wa s.id s.qty s.amt s.ref s.sku).mono ?_
  rintro e w1 ⟨rfl, hb⟩
  rw [HC.out]
  have HX1 := Lib.hid (heap_keep HX.out hb); have HB1 := Lib.hid (bch HB.out hb HB.out.size)
  clear hb HA HX HB c0 c1 c2 c3 c4 c5 c6 c7 c8 c9 c10 c11
  obtain ⟨c0, c1, c2, c3, c4, c5, c6, c7, c8, c9, c10, c11⟩ := sg_box HX1.out
  go_wp2_with fail
  refine (begin_any s.id s.ref s.sku s.qty s.amt w1).mono ?_
  rintro e w2 ⟨rfl, hb⟩
  obtain ⟨t0, ht0⟩ : ∃ t0, t0 = beginI s.id s.ref s.sku s.qty s.amt := ⟨_, rfl⟩
  rw [← ht0] at HS ⊢
  obtain ⟨w3, h3⟩ : ∃ w3, w3 = w2.alloc (.cells (sgA t0) tSaga) := ⟨_, rfl⟩
  have hb3 : Below w1.heap.size w1 w3 := by rw [h3]; exact hb.alloc hb.size _
  have HX3 := Lib.hid (heap_keep HX1.out hb3); have HB3 := Lib.hid (bch HB1.out hb3 HB1.out.size)
  have HT3 := Lib.hid (show w3.heap[w2.heap.size]? = some (.cells (sgA t0) tSaga (0, 0)) by rw [h3]; exact heap_new _ _)
  have hlt : w.heap.size < w2.heap.size := Nat.lt_of_lt_of_le (heap_lt HX1.out) hb.size
  have H3 := Lib.hid h3
  clear hb hb3 h3 HX1 HB1 ht0 c0 c1 c2 c3 c4 c5 c6 c7 c8 c9 c10 c11
  go_wp2_with fail
  rw [← H3.out]
  generalize w2.heap.size = bt at HT3 hlt ⊢
  clear H3
  go_loopw [4, 5] (fun _ _ wr => ∃ (n : Nat) (t : Sg), Hid (ToN s n t) ∧ Hid (wr.heap[bt]? = some (.cells (sgA t) tSaga (0, 0))) ∧ Hid (wr.heap[w.heap.size]? = some (.cells (sgA s) tSaga (0, 0))) ∧ Hid (Below w.heap.size w wr)) (fun _ _ wr => wtW wr bt)
  case atStart => exact ⟨n, t0, HS.out, HT3.out, HX3.out, HB3.out⟩
  case round =>
    obtain ⟨n, t, HS, HT, HX, HB⟩ := hrel
    obtain ⟨a0, a1, a2, a3, a4, a5, a6, a7, a8, a9, a10, a11⟩ := sg_box HT.out
    obtain ⟨c0, c1, c2, c3, c4, c5, c6, c7, c8, c9, c10, c11⟩ := sg_box HX.out
    rcases HS.out.next with ⟨_, rfl⟩ | ⟨m, rfl, h6, hw, hd1, hne, hcase⟩
    · have hds := fun W => deeds_same t W
      go_wp2_with fail
      go_ret
      exact ⟨rfl, HB.out⟩
    · have hds := deeds_other (s := t) (t := s) hw (by rw [hd1]; exact fun e => hne e.symm)
      have h6' : Sa.waitsB t = true := by unfold Sa.waitsB; simpa using h6
      have HW := Lib.hid (fun W => waits_of (s := t) (show waitsN t = waitsI t from by unfold waitsN; rw [if_neg h6]) h6' W)
      obtain ⟨d, hd⟩ : ∃ d : Nat, waitsI t = (d : Int) := ⟨(waitsI t).toNat, by omega⟩
      rw [hd] at HW hw hd1 hne hcase
      clear hd h6 h6' hd1 hne
      have hdl : (d : Int) < 6 := hw.2
      have hd0 : (0 : Int) ≤ d := hw.1
      have HD := Lib.hid (fun (W : World) (b : Nat) (x : Sg) (h : W.heap[b]? = some (.cells (sgA x) tSaga (0, 0))) => (show W.cell? ⟨b, 5 + d, none⟩ = some (.int .i64 (x.deed d)) from by have := sg_deed h hw.1 hw.2; simpa using this))
      have HM := Lib.hid (wtW_box HT.out)
      clear hw
      go_wp2_with fail
      refine (HW.out _).mono ?_
      rintro e w4 ⟨rfl, hb⟩
      have HT4 := Lib.hid (heap_keep HT.out hb); have HX4 := Lib.hid (heap_keep HX.out hb); have HB4 := Lib.hid (bch HB.out hb HB.out.size)
      clear hb hds HT HX HB HW a0 a1 a2 a3 a4 a5 a6 a7 a8 a9 a10 a11 c0 c1 c2 c3 c4 c5 c6 c7 c8 c9 c10 c11
      obtain ⟨a0, a1, a2, a3, a4, a5, a6, a7, a8, a9, a10, a11⟩ := sg_box HT4.out
      obtain ⟨c0, c1, c2, c3, c4, c5, c6, c7, c8, c9, c10, c11⟩ := sg_box HX4.out
      have cd := HD.out _ _ _ HX4.out
      rcases hcase with ⟨e1, hg, hto, e2⟩ | ⟨e1, hg, hto, e2⟩ | ⟨e1, hg, hto, e2⟩
      · rw [e1] at cd
        have HTO := Lib.hid hto; have HE2 := Lib.hid e2; have HE1 := Lib.hid e1; have HME := Lib.hid (wt_stop hg)
        have HCALL := Lib.hid (fun W => stop_yes t W hg)
        obtain ⟨t', ht'⟩ : ∃ t', Sa.stopI t = t' := ⟨_, rfl⟩
        rw [ht'] at HTO HE2 HME HCALL
        clear hto e2 e1 hg ht'
        go_wp2_with fail
        refine (HCALL.out _).mono ?_
        rintro e w5 ⟨rfl, hb⟩
        have HT5 := Lib.hid (heap_keep HT4.out hb); have HX5 := Lib.hid (heap_keep HX4.out hb); have HB5 := Lib.hid (bch HB4.out hb HB4.out.size)
        clear hb HT4 HX4 HB4 HCALL cd a0 a1 a2 a3 a4 a5 a6 a7 a8 a9 a10 a11 c0 c1 c2 c3 c4 c5 c6 c7 c8 c9 c10 c11
        obtain ⟨a0, a1, a2, a3, a4, a5, a6, a7, a8, a9, a10, a11⟩ := cell12 HT5.out
        obtain ⟨f0, f1, f2, f3, f4, f5, f6, f7, f8, f9, f10, f11⟩ := froz12 HT5.out
        go_upto_region 13 with (fail)
        obtain ⟨w6, hw6⟩ : ∃ w6, w6 = set12w w5 bt (.int .i64 t'.id) (.string ⟨t'.ref.toArray⟩) (.string ⟨t'.sku.toArray⟩) (.int .i64 t'.qty) (.int .i64 t'.amt) (.int .i64 t'.d0) (.int .i64 t'.d1) (.int .i64 t'.d2) (.int .i64 t'.d3) (.int .i64 t'.d4) (.int .i64 t'.d5) (.bool t'.can) := ⟨_, rfl⟩
        rw [show ((((((((((((w5.setCell ⟨bt, 0, none⟩ (.int .i64 t'.id)).setCell ⟨bt, 1, none⟩ (.string ⟨t'.ref.toArray⟩)).setCell ⟨bt, 2, none⟩ (.string ⟨t'.sku.toArray⟩)).setCell ⟨bt, 3, none⟩ (.int .i64 t'.qty)).setCell ⟨bt, 4, none⟩ (.int .i64 t'.amt)).setCell ⟨bt, 5, none⟩ (.int .i64 t'.d0)).setCell ⟨bt, 6, none⟩ (.int .i64 t'.d1)).setCell ⟨bt, 7, none⟩ (.int .i64 t'.d2)).setCell ⟨bt, 8, none⟩ (.int .i64 t'.d3)).setCell ⟨bt, 9, none⟩ (.int .i64 t'.d4)).setCell ⟨bt, 10, none⟩ (.int .i64 t'.d5)).setCell ⟨bt, 11, none⟩ (.bool t'.can)) = w6 from hw6.symm]
        have ht6 : Turned (fun j => j = bt) w5 w6 := by rw [hw6]; exact turned_set12 _ _ _ _ _ _ _ _ _ _ _ _ _ _
        have HT6 := Lib.hid (show w6.heap[bt]? = some (.cells (sgA t') tSaga (0, 0)) by rw [hw6]; exact set12 HT5.out _ _ _ _ _ _ _ _ _ _ _ _)
        have HX6 := Lib.hid (heap_turned HX5.out ht6 (by omega))
        have HB6 := Lib.hid (Below.turned HB5.out ht6 (fun i h => by omega) HB5.out.size)
        clear hw6 ht6 HT5 HX5 HB5 a0 a1 a2 a3 a4 a5 a6 a7 a8 a9 a10 a11 f0 f1 f2 f3 f4 f5 f6 f7 f8 f9 f10 f11
        have ad := HD.out _ _ _ HT6.out
        have cd := HD.out _ _ _ HX6.out
        rw [HE2.out] at ad
        rw [HE1.out] at cd
        go_quiet (fail)
        go_wp2_with fail
        go_roundw
        case rel => exact ⟨m, t', HTO.out, HT6.out, HX6.out, below_drewN' HB6.out _⟩
        case measure => rw [HM.out]; show wtW w6 bt < _; rw [wtW_box HT6.out]; exact HME.out
      · rw [e1] at cd
        have HTO := Lib.hid hto; have HE2 := Lib.hid e2; have HE1 := Lib.hid e1; have HME := Lib.hid (wt_reply hg)
        have HCALL := Lib.hid (fun W => reply_yes t d 2 W hg)
        obtain ⟨t', ht'⟩ : ∃ t', replyI t d 2 = t' := ⟨_, rfl⟩
        rw [ht'] at HTO HE2 HME HCALL
        clear hto e2 e1 hg ht'
        go_wp2_with fail
        refine (HCALL.out _).mono ?_
        rintro e w5 ⟨rfl, hb⟩
        have HT5 := Lib.hid (heap_keep HT4.out hb); have HX5 := Lib.hid (heap_keep HX4.out hb); have HB5 := Lib.hid (bch HB4.out hb HB4.out.size)
        clear hb HT4 HX4 HB4 HCALL cd a0 a1 a2 a3 a4 a5 a6 a7 a8 a9 a10 a11 c0 c1 c2 c3 c4 c5 c6 c7 c8 c9 c10 c11
        obtain ⟨a0, a1, a2, a3, a4, a5, a6, a7, a8, a9, a10, a11⟩ := cell12 HT5.out
        obtain ⟨f0, f1, f2, f3, f4, f5, f6, f7, f8, f9, f10, f11⟩ := froz12 HT5.out
        go_upto_region 13 with (fail)
        obtain ⟨w6, hw6⟩ : ∃ w6, w6 = set12w w5 bt (.int .i64 t'.id) (.string ⟨t'.ref.toArray⟩) (.string ⟨t'.sku.toArray⟩) (.int .i64 t'.qty) (.int .i64 t'.amt) (.int .i64 t'.d0) (.int .i64 t'.d1) (.int .i64 t'.d2) (.int .i64 t'.d3) (.int .i64 t'.d4) (.int .i64 t'.d5) (.bool t'.can) := ⟨_, rfl⟩
        rw [show ((((((((((((w5.setCell ⟨bt, 0, none⟩ (.int .i64 t'.id)).setCell ⟨bt, 1, none⟩ (.string ⟨t'.ref.toArray⟩)).setCell ⟨bt, 2, none⟩ (.string ⟨t'.sku.toArray⟩)).setCell ⟨bt, 3, none⟩ (.int .i64 t'.qty)).setCell ⟨bt, 4, none⟩ (.int .i64 t'.amt)).setCell ⟨bt, 5, none⟩ (.int .i64 t'.d0)).setCell ⟨bt, 6, none⟩ (.int .i64 t'.d1)).setCell ⟨bt, 7, none⟩ (.int .i64 t'.d2)).setCell ⟨bt, 8, none⟩ (.int .i64 t'.d3)).setCell ⟨bt, 9, none⟩ (.int .i64 t'.d4)).setCell ⟨bt, 10, none⟩ (.int .i64 t'.d5)).setCell ⟨bt, 11, none⟩ (.bool t'.can)) = w6 from hw6.symm]
        have ht6 : Turned (fun j => j = bt) w5 w6 := by rw [hw6]; exact turned_set12 _ _ _ _ _ _ _ _ _ _ _ _ _ _
        have HT6 := Lib.hid (show w6.heap[bt]? = some (.cells (sgA t') tSaga (0, 0)) by rw [hw6]; exact set12 HT5.out _ _ _ _ _ _ _ _ _ _ _ _)
        have HX6 := Lib.hid (heap_turned HX5.out ht6 (by omega))
        have HB6 := Lib.hid (Below.turned HB5.out ht6 (fun i h => by omega) HB5.out.size)
        clear hw6 ht6 HT5 HX5 HB5 a0 a1 a2 a3 a4 a5 a6 a7 a8 a9 a10 a11 f0 f1 f2 f3 f4 f5 f6 f7 f8 f9 f10 f11
        have ad := HD.out _ _ _ HT6.out
        have cd := HD.out _ _ _ HX6.out
        rw [HE2.out] at ad
        rw [HE1.out] at cd
        go_quiet (fail)
        go_wp2_with fail
        go_roundw
        case rel => exact ⟨m, t', HTO.out, HT6.out, HX6.out, below_drewN' HB6.out _⟩
        case measure => rw [HM.out]; show wtW w6 bt < _; rw [wtW_box HT6.out]; exact HME.out
      · rw [e1] at cd
        have HTO := Lib.hid hto; have HE2 := Lib.hid e2; have HE1 := Lib.hid e1; have HME := Lib.hid (wt_reply hg)
        have HCALL := Lib.hid (fun W => reply_yes t d 1 W hg)
        obtain ⟨t', ht'⟩ : ∃ t', replyI t d 1 = t' := ⟨_, rfl⟩
        rw [ht'] at HTO HE2 HME HCALL
        clear hto e2 e1 hg ht'
        go_wp2_with fail
        refine (HCALL.out _).mono ?_
        rintro e w5 ⟨rfl, hb⟩
        have HT5 := Lib.hid (heap_keep HT4.out hb); have HX5 := Lib.hid (heap_keep HX4.out hb); have HB5 := Lib.hid (bch HB4.out hb HB4.out.size)
        clear hb HT4 HX4 HB4 HCALL cd a0 a1 a2 a3 a4 a5 a6 a7 a8 a9 a10 a11 c0 c1 c2 c3 c4 c5 c6 c7 c8 c9 c10 c11
        obtain ⟨a0, a1, a2, a3, a4, a5, a6, a7, a8, a9, a10, a11⟩ := cell12 HT5.out
        obtain ⟨f0, f1, f2, f3, f4, f5, f6, f7, f8, f9, f10, f11⟩ := froz12 HT5.out
        go_upto_region 13 with (fail)
        obtain ⟨w6, hw6⟩ : ∃ w6, w6 = set12w w5 bt (.int .i64 t'.id) (.string ⟨t'.ref.toArray⟩) (.string ⟨t'.sku.toArray⟩) (.int .i64 t'.qty) (.int .i64 t'.amt) (.int .i64 t'.d0) (.int .i64 t'.d1) (.int .i64 t'.d2) (.int .i64 t'.d3) (.int .i64 t'.d4) (.int .i64 t'.d5) (.bool t'.can) := ⟨_, rfl⟩
        rw [show ((((((((((((w5.setCell ⟨bt, 0, none⟩ (.int .i64 t'.id)).setCell ⟨bt, 1, none⟩ (.string ⟨t'.ref.toArray⟩)).setCell ⟨bt, 2, none⟩ (.string ⟨t'.sku.toArray⟩)).setCell ⟨bt, 3, none⟩ (.int .i64 t'.qty)).setCell ⟨bt, 4, none⟩ (.int .i64 t'.amt)).setCell ⟨bt, 5, none⟩ (.int .i64 t'.d0)).setCell ⟨bt, 6, none⟩ (.int .i64 t'.d1)).setCell ⟨bt, 7, none⟩ (.int .i64 t'.d2)).setCell ⟨bt, 8, none⟩ (.int .i64 t'.d3)).setCell ⟨bt, 9, none⟩ (.int .i64 t'.d4)).setCell ⟨bt, 10, none⟩ (.int .i64 t'.d5)).setCell ⟨bt, 11, none⟩ (.bool t'.can)) = w6 from hw6.symm]
        have ht6 : Turned (fun j => j = bt) w5 w6 := by rw [hw6]; exact turned_set12 _ _ _ _ _ _ _ _ _ _ _ _ _ _
        have HT6 := Lib.hid (show w6.heap[bt]? = some (.cells (sgA t') tSaga (0, 0)) by rw [hw6]; exact set12 HT5.out _ _ _ _ _ _ _ _ _ _ _ _)
        have HX6 := Lib.hid (heap_turned HX5.out ht6 (by omega))
        have HB6 := Lib.hid (Below.turned HB5.out ht6 (fun i h => by omega) HB5.out.size)
        clear hw6 ht6 HT5 HX5 HB5 a0 a1 a2 a3 a4 a5 a6 a7 a8 a9 a10 a11 f0 f1 f2 f3 f4 f5 f6 f7 f8 f9 f10 f11
        have ad := HD.out _ _ _ HT6.out
        have cd := HD.out _ _ _ HX6.out
        rw [HE2.out] at ad
        rw [HE1.out] at cd
        go_quiet (fail)
        go_wp2_with fail
        go_roundw
        case rel => exact ⟨m, t', HTO.out, HT6.out, HX6.out, below_drewN' HB6.out _⟩
        case measure => rw [HM.out]; show wtW w6 bt < _; rw [wtW_box HT6.out]; exact HME.out
end Go.Proofs.YtnfbhocppijbjaaDoor
/- Books: how many postings there are; a posting whose name may be there, or is none. -/
namespace Go.Proofs.YtnfbhocppijbjaaDoor
open Go.RowKit Go.Maps Co

set_option linter.unusedSimpArgs false in
set_option linter.unusedVariables false in
set_option maxRecDepth 100000 in
set_option maxHeartbeats 8000000 in
theorem bmany_any {B : Nat} {w : World} {bb pm bm : Nat} {vb : Value} {b : List Po} (h : Bw B w bb pm bm vb b) :
    Calls Tryd.prog 20 #[.pointer (some ⟨bb, 0, none⟩)] w fun e w' => e = .returned (.int .i64 b.length) ∧ w = w' := by
  obtain ⟨Ab, cb, rfl, _⟩ := own_slice h.ob
  obtain ⟨c0, c1, c2⟩ := cell3c h.hd
  have HW := Lib.hid h
  clear h
  go_enter Tryd.func20, Tryd.ntmps20
  go_wp2_with (go_at_call 31; refine (bnone_any HW.out).mono ?_; rintro e w1 ⟨rfl, hb⟩; subst hb)
  go_ret
  exact ⟨rfl, rfl⟩
set_option linter.unusedSimpArgs false in
set_option linter.unusedVariables false in
set_option maxRecDepth 100000 in
set_option maxHeartbeats 8000000 in
theorem bpost_new {B : Nat} {w : World} {bb pm bm : Nat} {vb : Value} {b : List Po} (h : Bw B w bb pm bm vb b) (p : Po) (hp : mayP p) (hf : ∀ E, MapL Tryd.prog tStrC mkStrC mkPost w pm E → ∀ e ∈ E, e.1 ≠ p.id) (hl : b.length ≤ 100000) :
    Calls Tryd.prog 19 #[.pointer (some ⟨bb, 0, none⟩), mkPost p] w fun e w' => ∃ vb', e = .returned (.int .i64 0) ∧ Bw B w' bb pm bm vb' (b ++ [p]) ∧ Turned (Bs bb pm bm vb) w w' ∧ ∀ j, vb'.ownBlock = some j → vb.ownBlock = some j ∨ w.heap.size ≤ j := by
  obtain ⟨i0, hi, hz0, hz1, hz2⟩ := info_parts post_info
  obtain ⟨Ab, cb, rfl, _⟩ := own_slice h.ob
  have HOL := Lib.hid (fun j hj => (h.ob.lt j hj).2)
  have hlt := h.lt
  have hne := h.ne
  have hge := h.ge
  have hoo := h.oo
  obtain ⟨Ep, hEp, hEl, hEi⟩ := h.mp
  obtain ⟨Eb, hEb, hEbl, hEbal⟩ := h.mb
  have HBAL := Lib.hid hEbal
  have HNO := Lib.hid (hf Ep hEp)
  have hid : p.id.length ≤ 1000 := hp.2.1
  obtain ⟨wa, hA⟩ : ∃ wa, wa = w.alloc (.cells #[.string ⟨p.id.toArray⟩, .int .i64 p.ord, .int .i64 p.deb, .int .i64 p.cre, .int .i64 p.amt] tPost) := ⟨_, rfl⟩
  have hB : Below w.heap.size w wa := by rw [hA]; exact below_alloc _ _
  have hX : wa.heap[w.heap.size]? = some (.cells #[.string ⟨p.id.toArray⟩, .int .i64 p.ord, .int .i64 p.deb, .int .i64 p.cre, .int .i64 p.amt] tPost (0, 0)) := by rw [hA]; exact heap_new _ _
  have HA := Lib.hid hA; have HB := Lib.hid hB; have HX := Lib.hid hX; have HW := Lib.hid (h.below hB); have HP := Lib.hid hp; have HEI := Lib.hid hEi; have HOK := Lib.hid h.ok
  have HEp := Lib.hid (hEp.below hB); have HEb := Lib.hid (hEb.below hB)
  clear hA hB hX h hp hEi hEp hEb hEbal hf
  obtain ⟨m0, m1, m2, m3, m4⟩ := cell5 HX.out
  obtain ⟨c0, c1, c2⟩ := cell3c HW.out.hd
  have hxlt := heap_lt HX.out
  go_enter Tryd.func19, Tryd.ntmps19
  go_upto_region 1 with (fail)
  rw [← HA.out]
  go_wp2_with (go_at_call 31; refine (bnone_any HW.out).mono ?_; rintro e w1 ⟨rfl, hb⟩; subst hb)
  refine (bmay_any p wa HP.out).mono ?_
  rintro e w1 ⟨rfl, hb⟩
  have HB1 := Lib.hid (bch HB.out hb HB.out.size); have HX1 := Lib.hid (heap_keep HX.out hb); have HW1 := Lib.hid (HW.out.below hb); have HEp1 := Lib.hid (HEp.out.below hb); have HEb1 := Lib.hid (HEb.out.below hb)
  clear hb m0 m1 m2 m3 m4 c0 c1 c2 HX HW HEp HEb HB HA
  obtain ⟨m0, m1, m2, m3, m4⟩ := cell5 HX1.out
  obtain ⟨c0, c1, c2⟩ := cell3c HW1.out.hd
  have hxlt1 := heap_lt HX1.out
  go_wp2_with fail
  have HLK := Lib.hid (fun W (hb : Below w1.heap.size w1 W) => slook_no (HEp1.out.below hb) hid HNO.out)
  have HH := Lib.hid (fun W (hb : Below w1.heap.size w1 W) => (⟨Lib.hid hb, (hb.cell (World.block_lt_of_cell? w1 _ c1)).trans c1, (hb.cell (World.block_lt_of_cell? w1 _ m0)).trans m0⟩ : (fun w' => Hid (Below w1.heap.size w1 w') ∧ w'.cell? ⟨bb, 1, none⟩ = some (.map (some pm)) ∧ w'.cell? ⟨w.heap.size, 0, none⟩ = some (.string ⟨p.id.toArray⟩)) W))
  refine wp_region_noPanic ?_
  refine wp_region_held_drew (S := (fun w' => Hid (Below w1.heap.size w1 w') ∧ w'.cell? ⟨bb, 1, none⟩ = some (.map (some pm)) ∧ w'.cell? ⟨w.heap.size, 0, none⟩ = some (.string ⟨p.id.toArray⟩))) (by kernel_rfl) (HH.out _ (below_drew1 (Below.refl w1.heap.size w1))) (fun hHeld => ?_)
  refine wpAnyH_take (i := 0) (v := ?vc0_1) rfl (by kernel_rfl) (by kernel_rfl) (by kernel_rfl) (fun _ _ _ h => h) (Or.inl ⟨by rfl, ?hyc0_1⟩) (by assumption) ?restc0_1
  case hyc0_1 => (intro w0 hSw; (try dsimp only at hSw); go_simp; try with_reducible rfl)
  case' restc0_1 => try simp only [Act.put, List.getElem_toArray, List.getElem_cons_zero, List.getElem_cons_succ, List.setIfInBounds_toArray, List.set_cons_zero, List.set_cons_succ]
  refine wpAnyH_take (i := 1) (v := ?vc1_2) rfl (by kernel_rfl) (by kernel_rfl) (by kernel_rfl) (fun _ _ _ h => h) (Or.inl ⟨by rfl, ?hyc1_2⟩) (by assumption) ?restc1_2
  case hyc1_2 => (intro w0 hSw; (try dsimp only at hSw); go_simp; try with_reducible rfl)
  case' restc1_2 => try simp only [Act.put, List.getElem_toArray, List.getElem_cons_zero, List.getElem_cons_succ, List.setIfInBounds_toArray, List.set_cons_zero, List.set_cons_succ]
  refine wpAnyH_take (i := 2) (v := ?vc2_3) rfl (by kernel_rfl) (by kernel_rfl) (by kernel_rfl) (fun _ _ _ h => h) (Or.inl ⟨by rfl, ?hyc2_3⟩) (by assumption) ?restc2_3
  case hyc2_3 => (intro w0 hSw; (try dsimp only at hSw); go_simp; try with_reducible rfl)
  case' restc2_3 => try simp only [Act.put, List.getElem_toArray, List.getElem_cons_zero, List.getElem_cons_succ, List.setIfInBounds_toArray, List.set_cons_zero, List.set_cons_succ]
  refine wpAnyH_take (i := 3) (v := ?vc3_4) rfl (by kernel_rfl) (by kernel_rfl) (by kernel_rfl) (fun _ _ _ h => h) (Or.inl ⟨by rfl, ?hyc3_4⟩) (by assumption) ?restc3_4
  case hyc3_4 => (intro w0 hSw; (try dsimp only at hSw); go_simp; try with_reducible rfl)
  case' restc3_4 => try simp only [Act.put, List.getElem_toArray, List.getElem_cons_zero, List.getElem_cons_succ, List.setIfInBounds_toArray, List.set_cons_zero, List.set_cons_succ]
  refine wpAnyH_take (i := 4) (v := ?vc4_5) rfl (by kernel_rfl) (by kernel_rfl) (by kernel_rfl) (fun _ _ _ h => h) (Or.inl ⟨by rfl, ?hyc4_5⟩) (by assumption) ?restc4_5
  case hyc4_5 => (intro w0 hSw; (try dsimp only at hSw); go_simp; try with_reducible rfl)
  case' restc4_5 => try simp only [Act.put, List.getElem_toArray, List.getElem_cons_zero, List.getElem_cons_succ, List.setIfInBounds_toArray, List.set_cons_zero, List.set_cons_succ]
  refine wpAnyH_take (i := 5) (v := ?vc5_6) rfl (by kernel_rfl) (by kernel_rfl) (by kernel_rfl) (fun _ _ _ h => h) (Or.inl ⟨by rfl, ?hyc5_6⟩) (by assumption) ?restc5_6
  case hyc5_6 => (intro w0 hSw; (try dsimp only at hSw); go_simp; try with_reducible rfl)
  case' restc5_6 => try simp only [Act.put, List.getElem_toArray, List.getElem_cons_zero, List.getElem_cons_succ, List.setIfInBounds_toArray, List.set_cons_zero, List.set_cons_succ]
  refine wpAnyH_take (i := 6) (v := ?vc6_7) rfl (by kernel_rfl) (by kernel_rfl) (by kernel_rfl) (fun _ _ _ h => h) (Or.inl ⟨by rfl, ?hyc6_7⟩) (by assumption) ?restc6_7
  case hyc6_7 => (intro w0 hSw; (try dsimp only at hSw); go_simp; rw [HLK.out w0 (Hid.out hSw.1)]; rfl)
  case' restc6_7 => try simp only [Act.put, List.getElem_toArray, List.getElem_cons_zero, List.getElem_cons_succ, List.setIfInBounds_toArray, List.set_cons_zero, List.set_cons_succ]
  refine wpAnyH_take (i := 7) (v := ?vc7_8) rfl (by kernel_rfl) (by kernel_rfl) (by kernel_rfl) (fun _ _ _ h => h) (Or.inl ⟨by rfl, ?hyc7_8⟩) (by assumption) ?restc7_8
  case hyc7_8 => (intro w0 hSw; (try dsimp only at hSw); go_simp; try with_reducible rfl)
  case' restc7_8 => try simp only [Act.put, List.getElem_toArray, List.getElem_cons_zero, List.getElem_cons_succ, List.setIfInBounds_toArray, List.set_cons_zero, List.set_cons_succ]
  refine wpAnyH_take (i := 8) (v := ?vc8_9) rfl (by kernel_rfl) (by kernel_rfl) (by kernel_rfl) (fun _ _ _ h => h) (Or.inl ⟨by rfl, ?hyc8_9⟩) (by assumption) ?restc8_9
  case hyc8_9 => (intro w0 hSw; (try dsimp only at hSw); go_simp; try with_reducible rfl)
  case' restc8_9 => try simp only [Act.put, List.getElem_toArray, List.getElem_cons_zero, List.getElem_cons_succ, List.setIfInBounds_toArray, List.set_cons_zero, List.set_cons_succ]
  refine wpAnyH_take (i := 9) (v := ?vc9_10) rfl (by kernel_rfl) (by kernel_rfl) (by kernel_rfl) (fun _ _ _ h => h) (Or.inl ⟨by rfl, ?hyc9_10⟩) (by assumption) ?restc9_10
  case hyc9_10 => (intro w0 hSw; (try dsimp only at hSw); go_simp; try with_reducible rfl)
  case' restc9_10 => try simp only [Act.put, List.getElem_toArray, List.getElem_cons_zero, List.getElem_cons_succ, List.setIfInBounds_toArray, List.set_cons_zero, List.set_cons_succ]
  refine wpAnyH_ready (rs := [10]) (by kernel_rfl) (by simp) ?_
  refine AllReadyH.cons rfl (fun K hK => ?_) AllReadyH.nil
  go_simp
  refine hK.out _ _ (HH.out _ (bch (below_drew1 (Below.refl w1.heap.size w1)) (below_alloc w1.drew _) (Nat.le_refl _))) (fun hHeld => ?_)
  clear hK K
  try simp only [Act.put, List.getElem_toArray, List.getElem_cons_zero, List.getElem_cons_succ, List.setIfInBounds_toArray, List.set_cons_zero, List.set_cons_succ]
  refine wpAnyH_ready (rs := [11]) (by kernel_rfl) (by simp) ?_
  refine AllReadyH.cons rfl (fun K hK => ?_) AllReadyH.nil
  go_simp
  refine hK.out _ _ (HH.out _ (bch (below_drew1 (Below.refl w1.heap.size w1)) (below_alloc w1.drew _) (Nat.le_refl _))) (fun hHeld => ?_)
  clear hK K
  try simp only [Act.put, List.getElem_toArray, List.getElem_cons_zero, List.getElem_cons_succ, List.setIfInBounds_toArray, List.set_cons_zero, List.set_cons_succ]
  refine wpAnyH_take (i := 12) (v := ?vc12_11) rfl (by kernel_rfl) (by kernel_rfl) (by kernel_rfl) (fun _ _ _ h => h) (Or.inl ⟨by rfl, ?hyc12_11⟩) (by assumption) ?restc12_11
  case hyc12_11 => (intro w0 hSw; (try dsimp only at hSw); go_simp; try with_reducible rfl)
  case' restc12_11 => try simp only [Act.put, List.getElem_toArray, List.getElem_cons_zero, List.getElem_cons_succ, List.setIfInBounds_toArray, List.set_cons_zero, List.set_cons_succ]
  refine wpAnyH_done (by kernel_rfl) ?_ _
  refine NoPanic.normal ?_
  obtain ⟨w2, hw2⟩ : ∃ w2, w2 = (w1.alloc (.cells #[.string ⟨#[]⟩, .int .i64 0, .int .i64 0, .int .i64 0, .int .i64 0] tPost)).drew := ⟨_, rfl⟩
  rw [← hw2]
  have hb2 : Below w1.heap.size w1 w2 := by rw [hw2]; exact below_drew1' (below_alloc _ _)
  have HB2 := Lib.hid (bch HB1.out hb2 HB1.out.size); have HX2 := Lib.hid (heap_keep HX1.out hb2); have HW2 := Lib.hid (HW1.out.below hb2); have HEp2 := Lib.hid (HEp1.out.below hb2); have HEb2 := Lib.hid (HEb1.out.below hb2)
  clear hw2 hb2 hHeld HH HLK m0 m1 m2 m3 m4 c0 c1 c2 HB1 HX1 HW1 HEp1 HEb1
  obtain ⟨m0, m1, m2, m3, m4⟩ := cell5 HX2.out
  obtain ⟨c0, c1, c2⟩ := cell3c HW2.out.hd
  go_wp2_with fail
  refine (bmoves_any HW2.out p HP.out hl).mono ?_
  rintro e w3 ⟨mo, rfl, hmo, hM, hb⟩
  have HB3 := Lib.hid (bch HB2.out hb HB2.out.size); have HX3 := Lib.hid (heap_keep HX2.out hb); have HW3 := Lib.hid (HW2.out.below hb); have HEp3 := Lib.hid (HEp2.out.below hb); have HEb3 := Lib.hid (HEb2.out.below hb); have HM3 := Lib.hid hM
  have hbm3 : bm ≠ mo := by have := HEb2.out.lt; omega
  clear hb hM m0 m1 m2 m3 m4 c0 c1 c2 HB2 HX2 HW2 HEp2 HEb2
  obtain ⟨c0, c1, c2⟩ := cell3c HW3.out.hd
  go_wp2_with fail
  refine (bcopy_any HEb3.out HM3.out hbm3 (by unfold four maxLen; simp only [List.length_cons, List.length_nil]; omega)).mono ?_
  rintro e w4 ⟨⟨v, rfl⟩, E', hE', hEl', hOv, ht⟩
  have HO4 := Lib.hid (own_turned HW3.out.ob ht (fun j hj hs => (hoo j hj).2.2 hs))
  have HD4 := Lib.hid (heap_turned HW3.out.hd ht (by omega))
  have hxb : w.heap.size ≠ bm := by omega
  have HX4 := Lib.hid (heap_turned HX3.out ht hxb)
  have HEp4 := Lib.hid (HEp3.out.block (ht.block pm HEp3.out.lt hne.2.2))
  have HE4 := Lib.hid hE'
  have HNB := Lib.hid (over_four HP.out hOv HBAL.out)
  have hE'l : E'.length ≤ 4 * b.length + 4 := by simp only [four, List.length_cons, List.length_nil] at hEl'; omega
  have HT4 := Lib.hid (show Turned (Bs bb pm bm (.slice Ab b.length cb)) w w4 from (Turned.of_below HB3.out).trans (ht.mono (fun i h => .inr (.inr (.inl h)))))
  clear ht hE' hEl' hOv HX3 HW3 HEp3 HEb3 HM3 c0 c1 c2
  obtain ⟨m0, m1, m2, m3, m4⟩ := cell5 HX4.out
  obtain ⟨c0, c1, c2⟩ := cell3c HD4.out
  go_wp2_with fail
  refine wp_region_still_tail 7 (by kernel_rfl) (by kernel_rfl) ?_
  simp only [List.take_succ_cons, List.take_zero, List.drop_succ_cons, List.drop_zero]
  iterate 7 still_step
  refine wpStill_nil ?_
  change wpList _ _ _ _ _ w4.drew
  obtain ⟨kl, hkl⟩ := str_readsC p.id hid
  refine wpList_storeL _ rfl (.tmp 47) (.tmp 49) (.tmp 50) tMapS rfl tStrC tPost lawStrC mapS pm Ep rfl (HEp4.out.block rfl) (by unfold maxLen; omega) p.id p rfl rfl hkl (mkStr_injC _) ?_
  intro w5 hm5 ht5
  have ht45 : Turned (fun j => j = pm) w4 w5 := (Turned.refl _ w4).drew.trans (Turned.of_grown ht5.grown (fun j h => by injection h with h; exact h.symm))
  have HO5 := Lib.hid (own_turned HO4.out ht45 (fun j hj hs => (hoo j hj).2.1 hs))
  have HD5 := Lib.hid (heap_turned HD4.out ht45 (by omega))
  have hxp : w.heap.size ≠ pm := by omega
  have HX5 := Lib.hid (heap_turned HX4.out ht45 hxp)
  have HE5 := Lib.hid (HE4.out.block (ht45.block bm HE4.out.lt (fun e => hne.2.2 e.symm)))
  have HM5 := Lib.hid hm5
  have HT5 := Lib.hid (HT4.out.trans (ht45.mono (fun i h => .inr (.inl h))))
  clear hm5 ht5 ht45 hkl m0 m1 m2 m3 m4 c0 c1 c2 HO4 HD4 HX4 HE4 HT4 HEp4
  have hs5 : w.heap.size ≤ w5.heap.size := HT5.out.size
  obtain ⟨m0, m1, m2, m3, m4⟩ := cell5 HX5.out
  obtain ⟨c0, c1, c2⟩ := cell3c HD5.out
  go_wp2_with fail
  have hxo : ¬ Value.ownBlock (.slice Ab b.length cb) = some w.heap.size := fun e => by have := (HO5.out.lt _ e); have h2 := HOL.out _ e; omega
  have hbo : ¬ Value.ownBlock (.slice Ab b.length cb) = some bb := fun e => (hoo _ e).1 rfl
  have HH := Lib.hid (fun W (hb : Turned (fun j => Value.ownBlock (.slice Ab b.length cb) = some j) w5 W) => (⟨Lib.hid hb, cell_at (heap_turned HD5.out hb hbo) 0 rfl, cell_at (heap_turned HX5.out hb hxo) 0 rfl, cell_at (heap_turned HX5.out hb hxo) 1 rfl, cell_at (heap_turned HX5.out hb hxo) 2 rfl, cell_at (heap_turned HX5.out hb hxo) 3 rfl, cell_at (heap_turned HX5.out hb hxo) 4 rfl⟩ : (fun w' => Hid (Turned (fun j => Value.ownBlock (.slice Ab b.length cb) = some j) w5 w') ∧ w'.cell? ⟨bb, 0, none⟩ = some (.slice Ab b.length cb) ∧ w'.cell? ⟨w.heap.size, 0, none⟩ = some (.string ⟨p.id.toArray⟩) ∧ w'.cell? ⟨w.heap.size, 1, none⟩ = some (.int .i64 p.ord) ∧ w'.cell? ⟨w.heap.size, 2, none⟩ = some (.int .i64 p.deb) ∧ w'.cell? ⟨w.heap.size, 3, none⟩ = some (.int .i64 p.cre) ∧ w'.cell? ⟨w.heap.size, 4, none⟩ = some (.int .i64 p.amt)) W))
  refine wp_region_noPanic ?_
  refine wp_region_till 10 (fun _ => True) (fun w' => Hid (Turned (fun j => Value.ownBlock (.slice Ab b.length cb) = some j) w5 w') ∧ w'.cell? ⟨bb, 0, none⟩ = some (.slice Ab b.length cb) ∧ w'.cell? ⟨w.heap.size, 0, none⟩ = some (.string ⟨p.id.toArray⟩) ∧ w'.cell? ⟨w.heap.size, 1, none⟩ = some (.int .i64 p.ord) ∧ w'.cell? ⟨w.heap.size, 2, none⟩ = some (.int .i64 p.deb) ∧ w'.cell? ⟨w.heap.size, 3, none⟩ = some (.int .i64 p.cre) ∧ w'.cell? ⟨w.heap.size, 4, none⟩ = some (.int .i64 p.amt)) (by kernel_rfl) (HH.out _ ((Turned.refl _ w5).drew)) (fun hHeld => ?_)
  refine wpAnyT_go (i := 0) (v := ?vt0_1) rfl (by kernel_rfl) (by kernel_rfl) (by kernel_rfl) (fun _ _ _ h => h) (by kernel_rfl) (Or.inl ⟨by rfl, ?hyt0_1⟩) (by assumption) ?restt0_1
  case hyt0_1 => (intro w0 hSw; (try dsimp only at hSw); go_simp; try with_reducible rfl)
  case' restt0_1 => try simp only [Act.put, List.getElem_toArray, List.getElem_cons_zero, List.getElem_cons_succ, List.setIfInBounds_toArray, List.set_cons_zero, List.set_cons_succ]
  refine wpAnyT_go (i := 1) (v := ?vt1_2) rfl (by kernel_rfl) (by kernel_rfl) (by kernel_rfl) (fun _ _ _ h => h) (by kernel_rfl) (Or.inl ⟨by rfl, ?hyt1_2⟩) (by assumption) ?restt1_2
  case hyt1_2 => (intro w0 hSw; (try dsimp only at hSw); go_simp; try with_reducible rfl)
  case' restt1_2 => try simp only [Act.put, List.getElem_toArray, List.getElem_cons_zero, List.getElem_cons_succ, List.setIfInBounds_toArray, List.set_cons_zero, List.set_cons_succ]
  refine wpAnyT_go (i := 2) (v := ?vt2_3) rfl (by kernel_rfl) (by kernel_rfl) (by kernel_rfl) (fun _ _ _ h => h) (by kernel_rfl) (Or.inl ⟨by rfl, ?hyt2_3⟩) (by assumption) ?restt2_3
  case hyt2_3 => (intro w0 hSw; (try dsimp only at hSw); go_simp; try with_reducible rfl)
  case' restt2_3 => try simp only [Act.put, List.getElem_toArray, List.getElem_cons_zero, List.getElem_cons_succ, List.setIfInBounds_toArray, List.set_cons_zero, List.set_cons_succ]
  refine wpAnyT_go (i := 3) (v := ?vt3_4) rfl (by kernel_rfl) (by kernel_rfl) (by kernel_rfl) (fun _ _ _ h => h) (by kernel_rfl) (Or.inl ⟨by rfl, ?hyt3_4⟩) (by assumption) ?restt3_4
  case hyt3_4 => (intro w0 hSw; (try dsimp only at hSw); go_simp; try with_reducible rfl)
  case' restt3_4 => try simp only [Act.put, List.getElem_toArray, List.getElem_cons_zero, List.getElem_cons_succ, List.setIfInBounds_toArray, List.set_cons_zero, List.set_cons_succ]
  refine wpAnyT_go (i := 4) (v := ?vt4_5) rfl (by kernel_rfl) (by kernel_rfl) (by kernel_rfl) (fun _ _ _ h => h) (by kernel_rfl) (Or.inl ⟨by rfl, ?hyt4_5⟩) (by assumption) ?restt4_5
  case hyt4_5 => (intro w0 hSw; (try dsimp only at hSw); go_simp; try with_reducible rfl)
  case' restt4_5 => try simp only [Act.put, List.getElem_toArray, List.getElem_cons_zero, List.getElem_cons_succ, List.setIfInBounds_toArray, List.set_cons_zero, List.set_cons_succ]
  refine wpAnyT_go (i := 5) (v := ?vt5_6) rfl (by kernel_rfl) (by kernel_rfl) (by kernel_rfl) (fun _ _ _ h => h) (by kernel_rfl) (Or.inl ⟨by rfl, ?hyt5_6⟩) (by assumption) ?restt5_6
  case hyt5_6 => (intro w0 hSw; (try dsimp only at hSw); go_simp; try with_reducible rfl)
  case' restt5_6 => try simp only [Act.put, List.getElem_toArray, List.getElem_cons_zero, List.getElem_cons_succ, List.setIfInBounds_toArray, List.set_cons_zero, List.set_cons_succ]
  refine wpAnyT_ready (rs := [6]) (by kernel_rfl) (by simp) ?_
  refine AllReadyT.cons rfl (by kernel_rfl) (fun K hK => ?_) AllReadyT.nil
  go_simp
  refine hK.out _ _ (HH.out _ ((Turned.refl _ w5).drew.trans (Turned.of_below (below_alloc _ _)))) (fun hHeld => ?_)
  clear hK K
  try simp only [Act.put, List.getElem_toArray, List.getElem_cons_zero, List.getElem_cons_succ, List.setIfInBounds_toArray, List.set_cons_zero, List.set_cons_succ]
  refine wpAnyT_ready (rs := [7]) (by kernel_rfl) (by simp) ?_
  refine AllReadyT.cons rfl (by kernel_rfl) (fun K hK => ?_) AllReadyT.nil
  refine step_append_any _ rfl (.tmp 55) (.tmp 57) tPosts rfl B tPost i0 (mkPost ⟨[], 0, 0, 0, 0⟩) 5 48 Tryd.underlying39 hi hz0 hz1 hz2 rfl (by decide) (.slice Ab b.length cb) b.length (b.flatMap encP) rfl (World.ownsRow.alloc (w := w5.drew) (own_turned HO5.out (Turned.refl (fun _ => False) w5).drew (fun _ _ h => h)) _) 1 (encP p) (src_blk (xs := encP p) (heap_new _ _) (encP_one _)) (by unfold maxLen; omega) (by omega) (by have := HD5.out; have := heap_lt this; simp; omega) ?_
  intro v6 w6 ho6 hg6 hat6
  have ht6 : Turned (fun j => Value.ownBlock (.slice Ab b.length cb) = some j) w5 w6 := ((Turned.refl _ w5).drew.trans (Turned.of_below (below_alloc _ _))).trans (Turned.of_grown hg6 (fun j h => h))
  obtain ⟨A6, c6, rfl, _⟩ := own_slice ho6
  refine hK.out _ _ (HH.out _ (ht6)) (fun hHeld => ?_)
  clear hK K
  try simp only [Act.put, List.getElem_toArray, List.getElem_cons_zero, List.getElem_cons_succ, List.setIfInBounds_toArray, List.set_cons_zero, List.set_cons_succ]
  refine wpAnyT_go (i := 8) (v := ?vt8_7) rfl (by kernel_rfl) (by kernel_rfl) (by kernel_rfl) (fun _ _ _ h => h) (by kernel_rfl) (Or.inl ⟨by rfl, ?hyt8_7⟩) (by assumption) ?restt8_7
  case hyt8_7 => (intro w0 hSw; (try dsimp only at hSw); go_simp; try with_reducible rfl)
  case' restt8_7 => try simp only [Act.put, List.getElem_toArray, List.getElem_cons_zero, List.getElem_cons_succ, List.setIfInBounds_toArray, List.set_cons_zero, List.set_cons_succ]
  refine wpAnyT_go (i := 9) (v := ?vt9_8) rfl (by kernel_rfl) (by kernel_rfl) (by kernel_rfl) (fun _ _ _ h => h) (by kernel_rfl) (Or.inl ⟨by rfl, ?hyt9_8⟩) (by assumption) ?restt9_8
  case hyt9_8 => (intro w0 hSw; (try dsimp only at hSw); go_simp; try with_reducible rfl)
  case' restt9_8 => try simp only [Act.put, List.getElem_toArray, List.getElem_cons_zero, List.getElem_cons_succ, List.setIfInBounds_toArray, List.set_cons_zero, List.set_cons_succ]
  have HD6 := Lib.hid (heap_turned HD5.out ht6 hbo)
  obtain ⟨y0, y1, y2⟩ := cell3c HD6.out
  obtain ⟨f0, f1, f2⟩ := froz3 HD6.out
  refine wpAnyT_ready (rs := [10]) (by kernel_rfl) (by simp) ?_
  refine AllReadyT.last rfl (by kernel_rfl) (fun K hK => ?_) AllReadyT.nil
  go_simp
  refine hK.out _ _ trivial (fun hHeld => ?_)
  clear hK K
  try simp only [Act.put, List.getElem_toArray, List.getElem_cons_zero, List.getElem_cons_succ, List.setIfInBounds_toArray, List.set_cons_zero, List.set_cons_succ]
  refine wpAnyT_done (by kernel_rfl) ?_ _
  refine NoPanic.normal ?_
  have ht7 := turned_set w6 bb 0 (.slice A6 (b.length + 1) c6)
  have hfar6 : ∀ j, Value.ownBlock (.slice A6 (b.length + 1) c6) = some j → Value.ownBlock (.slice Ab b.length cb) = some j ∨ w.heap.size ≤ j := fun j hj => by rcases hat6 with h | h; (exact .inl (by rw [← h]; exact hj)); (right; rw [hj] at h; injection h with h; simp at h; omega)
  have HNEW := Lib.hid (show Bw B (w6.setCell ⟨bb, 0, none⟩ (.slice A6 (b.length + 1) c6)) bb pm bm (.slice A6 (b.length + 1) c6) (b ++ [p]) from {
    hd := set3_0 HD6.out _
    ob := own_turned (by rw [List.length_append, List.flatMap_append]; simpa using ho6) ht7 (fun j hj hs => by rcases hfar6 j hj with h | h; (exact (hoo j h).1 hs); omega)
    mp := ⟨_, (HM5.out.block (ht6.block pm HM5.out.lt (fun e => (hoo _ e).2.1 rfl))).block (ht7.block pm (Nat.lt_of_lt_of_le HM5.out.lt ht6.size) (by omega)), by have := without_len Ep p.id; rw [List.length_cons, List.length_append, List.length_singleton]; omega, fun e he => by
        rcases List.mem_cons.1 he with rfl | he
        · exact ⟨p, by simp, rfl⟩
        · obtain ⟨x, hx, e2⟩ := HEI.out e (mem_without.1 he).1
          exact ⟨x, List.mem_append.2 (.inl hx), e2⟩⟩
    mb := ⟨E', (HE5.out.block (ht6.block bm HE5.out.lt (fun e => (hoo _ e).2.2 rfl))).block (ht7.block bm (Nat.lt_of_lt_of_le HE5.out.lt ht6.size) (by omega)), by rw [List.length_append, List.length_singleton]; omega, HNB.out⟩
    ge := hge
    ne := hne
    oo := fun j hj => by rcases hfar6 j hj with h | h; (exact hoo j h); omega
    ok := fun x hx => by rcases List.mem_append.1 hx with hx | hx; (exact HOK.out x hx); (rw [List.mem_singleton] at hx; rw [hx]; exact HP.out) })
  have HTN := Lib.hid (show Turned (Bs bb pm bm (.slice Ab b.length cb)) w (w6.setCell ⟨bb, 0, none⟩ (.slice A6 (b.length + 1) c6)) from (HT5.out.trans (ht6.mono (fun i h => .inr (.inr (.inr h))))).trans (ht7.mono (fun i h => .inl h)))
  have HFR := Lib.hid hfar6
  clear hHeld HH ht6 ht7 ho6 hg6 hat6 y0 y1 y2 f0 f1 f2 hfar6 m0 m1 m2 m3 m4 c0 c1 c2
  go_wp2_with fail
  go_ret
  exact ⟨_, rfl, HNEW.out, HTN.out, HFR.out⟩
theorem ent_uniq {E : List (List UInt8 × Po)} (h : E.Pairwise fun p q => mkStrC p.1 ≠ mkStrC q.1) {s : List UInt8} {v u : Po} (h1 : (s, v) ∈ E) (h2 : (s, u) ∈ E) : v = u := by
  obtain ⟨i, hi⟩ := List.getElem?_of_mem h1
  obtain ⟨j, hj⟩ := List.getElem?_of_mem h2
  obtain ⟨hi1, hi2⟩ := List.getElem?_eq_some_iff.1 hi
  obtain ⟨hj1, hj2⟩ := List.getElem?_eq_some_iff.1 hj
  rcases Nat.lt_trichotomy i j with hij | hij | hij
  · exact absurd (by rw [hi2, hj2]) (List.pairwise_iff_getElem.1 h i j hi1 hj1 hij)
  · subst hij; rw [hi] at hj; exact (Prod.mk.inj (Option.some.inj hj)).2
  · exact absurd (by rw [hi2, hj2]) (List.pairwise_iff_getElem.1 h j i hj1 hi1 hij)
theorem slook_yes {w : World} {pm : Nat} {E : List (List UInt8 × Po)} (hE : MapL Tryd.prog tStrC mkStrC mkPost w pm E) {s : List UInt8} (hs : s.length ≤ 1000) (hn : ∃ e ∈ E, e.1 = s) :
    ∃ v, ∀ W, Below w.heap.size w W → (Instr.lookup tMapS (.map (some pm)) (.string ⟨s.toArray⟩) true).run Tryd.prog W = .ok (.tuple #[mkPost v, .bool true]) W := by
  obtain ⟨l, hl⟩ := str_readsC s hs
  obtain ⟨⟨s', v⟩, he, h1⟩ := hn
  have h1 : s' = s := h1
  subst h1
  refine ⟨v, fun W hb => ?_⟩
  rcases (hE.below hb).look lawStrC mapS (zeroPost W) hl (mkStr_injC _) with ⟨u, hu, hr, _⟩ | ⟨hno, _, _⟩
  · rw [ent_uniq hE.apart he hu]; exact hr
  · exact absurd rfl (hno _ he)
set_option linter.unusedSimpArgs false in
set_option linter.unusedVariables false in
set_option maxRecDepth 100000 in
set_option maxHeartbeats 8000000 in
theorem bpost_found {B : Nat} {w : World} {bb pm bm : Nat} {vb : Value} {b : List Po} (h : Bw B w bb pm bm vb b) (p : Po) (hp : mayP p) (E : List (List UInt8 × Po)) (hE : MapL Tryd.prog tStrC mkStrC mkPost w pm E) (hn : ∃ e ∈ E, e.1 = p.id) :
    Calls Tryd.prog 19 #[.pointer (some ⟨bb, 0, none⟩), mkPost p] w fun e w' => ∃ r, e = .returned (.int .i64 r) ∧ Below w.heap.size w w' := by
  obtain ⟨wa, hA⟩ : ∃ wa, wa = w.alloc (.cells #[.string ⟨p.id.toArray⟩, .int .i64 p.ord, .int .i64 p.deb, .int .i64 p.cre, .int .i64 p.amt] tPost) := ⟨_, rfl⟩
  have hB : Below w.heap.size w wa := by rw [hA]; exact below_alloc _ _
  have hX : wa.heap[w.heap.size]? = some (.cells #[.string ⟨p.id.toArray⟩, .int .i64 p.ord, .int .i64 p.deb, .int .i64 p.cre, .int .i64 p.amt] tPost (0, 0)) := by rw [hA]; exact heap_new _ _
  have HA := Lib.hid hA; have HB := Lib.hid hB; have HX := Lib.hid hX; have HW := Lib.hid (h.below hB); have HP := Lib.hid hp; have HE := Lib.hid (hE.below hB); have HN := Lib.hid hn
  have hid : p.id.length ≤ 1000 := hp.2.1
  clear hA hB hX h hp hE hn
  obtain ⟨m0, m1, m2, m3, m4⟩ := cell5 HX.out
  obtain ⟨c0, c1, c2⟩ := cell3c HW.out.hd
  go_enter Tryd.func19, Tryd.ntmps19
  go_upto_region 1 with (fail)
  rw [← HA.out]
  go_wp2_with (go_at_call 31; refine (bnone_any HW.out).mono ?_; rintro e w1 ⟨rfl, hb⟩; subst hb)
  refine (bmay_any p wa HP.out).mono ?_
  rintro e w1 ⟨rfl, hb⟩
  have HB1 := Lib.hid (bch HB.out hb HB.out.size); have HX1 := Lib.hid (heap_keep HX.out hb); have HW1 := Lib.hid (HW.out.below hb); have HE1 := Lib.hid (HE.out.below hb)
  clear hb m0 m1 m2 m3 m4 c0 c1 c2 HX HW HE HB HA
  obtain ⟨m0, m1, m2, m3, m4⟩ := cell5 HX1.out
  obtain ⟨c0, c1, c2⟩ := cell3c HW1.out.hd
  have hx1 := heap_lt HX1.out
  go_wp2_with fail
  obtain ⟨v, hv⟩ := slook_yes HE1.out hid HN.out
  obtain ⟨v, hv⟩ := slook_yes HE1.out hid HN.out
  have HLK := Lib.hid hv
  clear hv
  have HH := Lib.hid (fun W (hb : Below w1.heap.size w1 W) => (⟨Lib.hid hb, (hb.cell (World.block_lt_of_cell? w1 _ c1)).trans c1, (hb.cell (World.block_lt_of_cell? w1 _ m0)).trans m0⟩ : (fun w' => Hid (Below w1.heap.size w1 w') ∧ w'.cell? ⟨bb, 1, none⟩ = some (.map (some pm)) ∧ w'.cell? ⟨w.heap.size, 0, none⟩ = some (.string ⟨p.id.toArray⟩)) W))
  refine wp_region_noPanic ?_
  refine wp_region_held_drew (S := (fun w' => Hid (Below w1.heap.size w1 w') ∧ w'.cell? ⟨bb, 1, none⟩ = some (.map (some pm)) ∧ w'.cell? ⟨w.heap.size, 0, none⟩ = some (.string ⟨p.id.toArray⟩))) (by kernel_rfl) (HH.out _ (below_drew1 (Below.refl w1.heap.size w1))) (fun hHeld => ?_)
  refine wpAnyH_take (i := 0) (v := ?vc0_1) rfl (by kernel_rfl) (by kernel_rfl) (by kernel_rfl) (fun _ _ _ h => h) (Or.inl ⟨by rfl, ?hyc0_1⟩) (by assumption) ?restc0_1
  case hyc0_1 => (intro w0 hSw; (try dsimp only at hSw); go_simp; try with_reducible rfl)
  case' restc0_1 => try simp only [Act.put, List.getElem_toArray, List.getElem_cons_zero, List.getElem_cons_succ, List.setIfInBounds_toArray, List.set_cons_zero, List.set_cons_succ]
  refine wpAnyH_take (i := 1) (v := ?vc1_2) rfl (by kernel_rfl) (by kernel_rfl) (by kernel_rfl) (fun _ _ _ h => h) (Or.inl ⟨by rfl, ?hyc1_2⟩) (by assumption) ?restc1_2
  case hyc1_2 => (intro w0 hSw; (try dsimp only at hSw); go_simp; try with_reducible rfl)
  case' restc1_2 => try simp only [Act.put, List.getElem_toArray, List.getElem_cons_zero, List.getElem_cons_succ, List.setIfInBounds_toArray, List.set_cons_zero, List.set_cons_succ]
  refine wpAnyH_take (i := 2) (v := ?vc2_3) rfl (by kernel_rfl) (by kernel_rfl) (by kernel_rfl) (fun _ _ _ h => h) (Or.inl ⟨by rfl, ?hyc2_3⟩) (by assumption) ?restc2_3
  case hyc2_3 => (intro w0 hSw; (try dsimp only at hSw); go_simp; try with_reducible rfl)
  case' restc2_3 => try simp only [Act.put, List.getElem_toArray, List.getElem_cons_zero, List.getElem_cons_succ, List.setIfInBounds_toArray, List.set_cons_zero, List.set_cons_succ]
  refine wpAnyH_take (i := 3) (v := ?vc3_4) rfl (by kernel_rfl) (by kernel_rfl) (by kernel_rfl) (fun _ _ _ h => h) (Or.inl ⟨by rfl, ?hyc3_4⟩) (by assumption) ?restc3_4
  case hyc3_4 => (intro w0 hSw; (try dsimp only at hSw); go_simp; try with_reducible rfl)
  case' restc3_4 => try simp only [Act.put, List.getElem_toArray, List.getElem_cons_zero, List.getElem_cons_succ, List.setIfInBounds_toArray, List.set_cons_zero, List.set_cons_succ]
  refine wpAnyH_take (i := 4) (v := ?vc4_5) rfl (by kernel_rfl) (by kernel_rfl) (by kernel_rfl) (fun _ _ _ h => h) (Or.inl ⟨by rfl, ?hyc4_5⟩) (by assumption) ?restc4_5
  case hyc4_5 => (intro w0 hSw; (try dsimp only at hSw); go_simp; try with_reducible rfl)
  case' restc4_5 => try simp only [Act.put, List.getElem_toArray, List.getElem_cons_zero, List.getElem_cons_succ, List.setIfInBounds_toArray, List.set_cons_zero, List.set_cons_succ]
  refine wpAnyH_take (i := 5) (v := ?vc5_6) rfl (by kernel_rfl) (by kernel_rfl) (by kernel_rfl) (fun _ _ _ h => h) (Or.inl ⟨by rfl, ?hyc5_6⟩) (by assumption) ?restc5_6
  case hyc5_6 => (intro w0 hSw; (try dsimp only at hSw); go_simp; try with_reducible rfl)
  case' restc5_6 => try simp only [Act.put, List.getElem_toArray, List.getElem_cons_zero, List.getElem_cons_succ, List.setIfInBounds_toArray, List.set_cons_zero, List.set_cons_succ]
  refine wpAnyH_take (i := 6) (v := ?vc6_7) rfl (by kernel_rfl) (by kernel_rfl) (by kernel_rfl) (fun _ _ _ h => h) (Or.inl ⟨by rfl, ?hyc6_7⟩) (by assumption) ?restc6_7
  case hyc6_7 => (intro w0 hSw; (try dsimp only at hSw); go_simp; rw [HLK.out w0 (Hid.out hSw.1)]; rfl)
  case' restc6_7 => try simp only [Act.put, List.getElem_toArray, List.getElem_cons_zero, List.getElem_cons_succ, List.setIfInBounds_toArray, List.set_cons_zero, List.set_cons_succ]
  refine wpAnyH_take (i := 7) (v := ?vc7_8) rfl (by kernel_rfl) (by kernel_rfl) (by kernel_rfl) (fun _ _ _ h => h) (Or.inl ⟨by rfl, ?hyc7_8⟩) (by assumption) ?restc7_8
  case hyc7_8 => (intro w0 hSw; (try dsimp only at hSw); go_simp; try with_reducible rfl)
  case' restc7_8 => try simp only [Act.put, List.getElem_toArray, List.getElem_cons_zero, List.getElem_cons_succ, List.setIfInBounds_toArray, List.set_cons_zero, List.set_cons_succ]
  refine wpAnyH_take (i := 8) (v := ?vc8_9) rfl (by kernel_rfl) (by kernel_rfl) (by kernel_rfl) (fun _ _ _ h => h) (Or.inl ⟨by rfl, ?hyc8_9⟩) (by assumption) ?restc8_9
  case hyc8_9 => (intro w0 hSw; (try dsimp only at hSw); go_simp; try with_reducible rfl)
  case' restc8_9 => try simp only [Act.put, List.getElem_toArray, List.getElem_cons_zero, List.getElem_cons_succ, List.setIfInBounds_toArray, List.set_cons_zero, List.set_cons_succ]
  refine wpAnyH_take (i := 9) (v := ?vc9_10) rfl (by kernel_rfl) (by kernel_rfl) (by kernel_rfl) (fun _ _ _ h => h) (Or.inl ⟨by rfl, ?hyc9_10⟩) (by assumption) ?restc9_10
  case hyc9_10 => (intro w0 hSw; (try dsimp only at hSw); go_simp; try with_reducible rfl)
  case' restc9_10 => try simp only [Act.put, List.getElem_toArray, List.getElem_cons_zero, List.getElem_cons_succ, List.setIfInBounds_toArray, List.set_cons_zero, List.set_cons_succ]
  refine wpAnyH_ready (rs := [10]) (by kernel_rfl) (by simp) ?_
  refine AllReadyH.cons rfl (fun K hK => ?_) AllReadyH.nil
  go_simp
  refine hK.out _ _ (HH.out _ (bch (below_drew1 (Below.refl w1.heap.size w1)) (below_alloc w1.drew _) (Nat.le_refl _))) (fun hHeld => ?_)
  clear hK K
  try simp only [Act.put, List.getElem_toArray, List.getElem_cons_zero, List.getElem_cons_succ, List.setIfInBounds_toArray, List.set_cons_zero, List.set_cons_succ]
  have hz := heap_new w1.drew (.cells #[.string ⟨#[]⟩, .int .i64 0, .int .i64 0, .int .i64 0, .int .i64 0] tPost)
  obtain ⟨z0, z1, z2, z3, z4⟩ := cell5 hz
  obtain ⟨g0, g1, g2, g3, g4⟩ := froz5 hz
  refine wpAnyH_ready (rs := [11]) (by kernel_rfl) (by simp) ?_
  refine AllReadyH.cons rfl (fun K hK => ?_) AllReadyH.nil
  go_simp
  refine hK.out _ _ (HH.out _ (bch (below_drew1 (Below.refl w1.heap.size w1)) (below_alloc w1.drew _) (Nat.le_refl _))) (fun hHeld => ?_)
  clear hK K
  try simp only [Act.put, List.getElem_toArray, List.getElem_cons_zero, List.getElem_cons_succ, List.setIfInBounds_toArray, List.set_cons_zero, List.set_cons_succ]
  refine wpAnyH_take (i := 12) (v := ?vc12_11) rfl (by kernel_rfl) (by kernel_rfl) (by kernel_rfl) (fun _ _ _ h => h) (Or.inl ⟨by rfl, ?hyc12_11⟩) (by assumption) ?restc12_11
  case hyc12_11 => (intro w0 hSw; (try dsimp only at hSw); go_simp; try with_reducible rfl)
  case' restc12_11 => try simp only [Act.put, List.getElem_toArray, List.getElem_cons_zero, List.getElem_cons_succ, List.setIfInBounds_toArray, List.set_cons_zero, List.set_cons_succ]
  refine wpAnyH_done (by kernel_rfl) ?_ _
  refine NoPanic.normal ?_
  obtain ⟨w2, hw2⟩ : ∃ w2, w2 = (w1.alloc (.cells #[.string ⟨v.id.toArray⟩, .int .i64 v.ord, .int .i64 v.deb, .int .i64 v.cre, .int .i64 v.amt] tPost)).drew := ⟨_, rfl⟩
  rw [← hw2]
  have hb2 : Below w1.heap.size w1 w2 := by rw [hw2]; exact below_drew1' (below_alloc _ _)
  have HV2 := Lib.hid (show w2.heap[w1.heap.size]? = some (.cells #[.string ⟨v.id.toArray⟩, .int .i64 v.ord, .int .i64 v.deb, .int .i64 v.cre, .int .i64 v.amt] tPost (0, 0)) by rw [hw2]; exact heap_new _ _)
  have HB2 := Lib.hid (bch HB1.out hb2 HB1.out.size); have HX2 := Lib.hid (heap_keep HX1.out hb2)
  clear hw2 hb2 hHeld HH HLK m0 m1 m2 m3 m4 c0 c1 c2 z0 z1 z2 z3 z4 g0 g1 g2 g3 g4 hz HB1 HX1 HW1 HE1
  generalize w1.heap.size = b5 at HV2 hx1 ⊢
  obtain ⟨m0, m1, m2, m3, m4⟩ := cell5 HX2.out
  obtain ⟨v0, v1, v2, v3, v4⟩ := cell5 HV2.out
  go_wp2_with fail
  all_goals go_ret
  all_goals exact ⟨_, rfl, HB2.out⟩
set_option linter.unusedSimpArgs false in
set_option linter.unusedVariables false in
set_option maxRecDepth 100000 in
set_option maxHeartbeats 8000000 in
theorem bmay_no (o d c a : Int) (w : World) : Calls Tryd.prog 38 #[.agg #[.string ⟨#[]⟩, .int .i64 o, .int .i64 d, .int .i64 c, .int .i64 a]] w fun e w' => e = .returned (.bool false) ∧ Below w.heap.size w w' := by
  have HB := Lib.hid (below_alloc w (.cells #[.string ⟨#[]⟩, .int .i64 o, .int .i64 d, .int .i64 c, .int .i64 a] tPost))
  have HM := Lib.hid (heap_new w (.cells #[.string ⟨#[]⟩, .int .i64 o, .int .i64 d, .int .i64 c, .int .i64 a] tPost))
  go_enter Tryd.func38, Tryd.ntmps38
  go_wp2_with fail
  generalize w.alloc (.cells #[.string ⟨#[]⟩, .int .i64 o, .int .i64 d, .int .i64 c, .int .i64 a] tPost) = wa at HB HM ⊢
  obtain ⟨m0, m1, m2, m3, m4⟩ := cell5 HM.out
  go_wp2_with fail
  go_ret
  exact ⟨rfl, HB.out⟩
set_option linter.unusedSimpArgs false in
set_option linter.unusedVariables false in
set_option maxRecDepth 100000 in
set_option maxHeartbeats 8000000 in
theorem bpost_empty {B : Nat} {w : World} {bb pm bm : Nat} {vb : Value} {b : List Po} (h : Bw B w bb pm bm vb b) (o d c a : Int) :
    Calls Tryd.prog 19 #[.pointer (some ⟨bb, 0, none⟩), .agg #[.string ⟨#[]⟩, .int .i64 o, .int .i64 d, .int .i64 c, .int .i64 a]] w fun e w' => e = .returned (.int .i64 2) ∧ Below w.heap.size w w' := by
  obtain ⟨wa, hA⟩ : ∃ wa, wa = w.alloc (.cells #[.string ⟨#[]⟩, .int .i64 o, .int .i64 d, .int .i64 c, .int .i64 a] tPost) := ⟨_, rfl⟩
  have hB : Below w.heap.size w wa := by rw [hA]; exact below_alloc _ _
  have hX : wa.heap[w.heap.size]? = some (.cells #[.string ⟨#[]⟩, .int .i64 o, .int .i64 d, .int .i64 c, .int .i64 a] tPost (0, 0)) := by rw [hA]; exact heap_new _ _
  have HA := Lib.hid hA; have HB := Lib.hid hB; have HX := Lib.hid hX; have HW := Lib.hid (h.below hB)
  clear hA hB hX h
  obtain ⟨m0, m1, m2, m3, m4⟩ := cell5 HX.out
  obtain ⟨c0, c1, c2⟩ := cell3c HW.out.hd
  go_enter Tryd.func19, Tryd.ntmps19
  go_upto_region 1 with (fail)
  rw [← HA.out]
  go_wp2_with (go_at_call 31; refine (bnone_any HW.out).mono ?_; rintro e w1 ⟨rfl, hb⟩; subst hb)
  refine (bmay_no o d c a wa).mono ?_
  rintro e w1 ⟨rfl, hb⟩
  have HB1 := Lib.hid (bch HB.out hb HB.out.size)
  clear hb
  go_wp2_with fail
  go_ret
  exact ⟨rfl, HB1.out⟩
/-- Whatever posting that may be, or has no name: it is posted, or the books stay. -/
theorem bpost_either {B : Nat} {w : World} {bb pm bm : Nat} {vb : Value} {b : List Po} (h : Bw B w bb pm bm vb b) (p : Po) (hp : p.id = [] ∨ mayP p) (hl : b.length ≤ 100000) :
    Calls Tryd.prog 19 #[.pointer (some ⟨bb, 0, none⟩), mkPost p] w fun e w' => ∃ r, e = .returned (.int .i64 r) ∧ (Below w.heap.size w w' ∨ (r = 0 ∧ ∃ vb', Bw B w' bb pm bm vb' (b ++ [p]) ∧ Turned (Bs bb pm bm vb) w w' ∧ ∀ j, vb'.ownBlock = some j → vb.ownBlock = some j ∨ w.heap.size ≤ j)) := by
  rcases hp with hp | hp
  · obtain ⟨i, o, d, c, a⟩ := p
    have hp : i = [] := hp
    subst hp
    refine (bpost_empty h o d c a).mono ?_
    rintro e w' ⟨rfl, hb⟩
    exact ⟨2, rfl, .inl hb⟩
  · by_cases hx : ∃ E, MapL Tryd.prog tStrC mkStrC mkPost w pm E ∧ ∃ e ∈ E, e.1 = p.id
    · obtain ⟨E, hE, hn⟩ := hx
      refine (bpost_found h p hp E hE hn).mono ?_
      rintro e w' ⟨r, rfl, hb⟩
      exact ⟨r, rfl, .inl hb⟩
    · refine (bpost_new h p hp (fun E hE e he h1 => hx ⟨E, hE, e, he, h1⟩) hl).mono ?_
      rintro e w' ⟨vb', rfl, h1, h2, h3⟩
      exact ⟨0, rfl, .inr ⟨rfl, vb', h1, h2, h3⟩⟩
end Go.Proofs.YtnfbhocppijbjaaDoor
/- core.Of: a core of parts (what the walks share). -/
namespace Go.Proofs.YtnfbhocppijbjaaDoor
open Go.RowKit Go.Maps Key Rw Sa Co Od

theorem netC_bd' {c : Cor} {n : Nat} (h : CoI c n) (o : Int) : 0 ≤ netC c o ∧ netC c o ≤ 1099511627776 := by
  unfold netC
  cases hs : c.l[o.toNat - 1]? with
  | none => simp
  | some s => exact net_bd (h.am s (List.mem_of_getElem? hs))
theorem Cw.base {B B' : Nat} {w : World} {cb bb pm bm : Nat} {vl vb vI : Value} {c : Cor} (h : Cw B w cb bb pm bm vl vb vI c) (hB : B' ≤ B) : Cw B' w cb bb pm bm vl vb vI c :=
  ⟨h.hc, own_base h.ol hB, ⟨h.bk.hd, own_base h.bk.ob hB, h.bk.mp, h.bk.mb, ⟨Nat.le_trans hB h.bk.ge.1, Nat.le_trans hB h.bk.ge.2.1, Nat.le_trans hB h.bk.ge.2.2⟩, h.bk.ne, h.bk.oo, h.bk.ok⟩, h.ii, h.fi, h.av, Nat.le_trans hB h.ge, h.nc, h.nl⟩
end Go.Proofs.YtnfbhocppijbjaaDoor
/- core.Of: a core of parts. -/
namespace Go.Proofs.YtnfbhocppijbjaaDoor
open Go.RowKit Go.Maps Key Rw Sa Co Od

set_option linter.unusedSimpArgs false in
set_option linter.unusedVariables false in
set_option maxRecDepth 100000 in
set_option maxHeartbeats 16000000 in
theorem cof_id (w : World) (vS vP v0 v1 v2 : Value) (L : List Sg) (P : List Po) (I : In.Inn) (hS : Sgs w vS L) (hP : Pos w vP P) (h0 : Rd w v0 I.a.2.2) (h1 : Rd w v1 I.b.2.2) (h2 : Rd w v2 I.c.2.2) (hL0 : ∃ s, L[0]? = some s ∧ ¬ s.id = 1) (hl60 : L.length ≤ 60) :
    Calls Tryd.prog 8 #[.agg #[vS, vP, .int .i64 I.a.1, .int .i64 I.a.2.1, v0, .int .i64 I.b.1, .int .i64 I.b.2.1, v1, .int .i64 I.c.1, .int .i64 I.c.2.1, v2]] w fun e w' => e = .returned (.tuple #[.pointer none, .int .i64 2]) ∧ Below w.heap.size w w' := by
  obtain ⟨As, cs, rfl, hls, hms⟩ := hS.shape
  obtain ⟨Ap, cp, rfl, hlp, hmp⟩ := hP.shape
  obtain ⟨A0, c0, rfl, _⟩ := h0.shape
  obtain ⟨A1, c1, rfl, _⟩ := h1.shape
  obtain ⟨A2, c2, rfl, _⟩ := h2.shape
  obtain ⟨wa, hA⟩ : ∃ wa, wa = w.alloc (.cells #[.slice As L.length cs, .slice Ap P.length cp, .int .i64 I.a.1, .int .i64 I.a.2.1, .slice A0 I.a.2.2.length c0, .int .i64 I.b.1, .int .i64 I.b.2.1, .slice A1 I.b.2.2.length c1, .int .i64 I.c.1, .int .i64 I.c.2.1, .slice A2 I.c.2.2.length c2] tPartsC) := ⟨_, rfl⟩
  have hB : Below w.heap.size w wa := by rw [hA]; exact below_alloc _ _
  have HX := Lib.hid (show wa.heap[w.heap.size]? = some (.cells #[.slice As L.length cs, .slice Ap P.length cp, .int .i64 I.a.1, .int .i64 I.a.2.1, .slice A0 I.a.2.2.length c0, .int .i64 I.b.1, .int .i64 I.b.2.1, .slice A1 I.b.2.2.length c1, .int .i64 I.c.1, .int .i64 I.c.2.1, .slice A2 I.c.2.2.length c2] tPartsC (0, 0)) by rw [hA]; exact heap_new _ _)
  have HA := Lib.hid hA; have HB := Lib.hid hB; have HS := Lib.hid (hS.keep hB); have HP := Lib.hid (hP.keep hB); have HR0 := Lib.hid (h0.keep hB); have HR1 := Lib.hid (h1.keep hB); have HR2 := Lib.hid (h2.keep hB)
  clear hA hB hS hP h0 h1 h2
  go_enter Tryd.func8, Tryd.ntmps8
  go_upto_region 1 with (fail)
  rw [← HA.out]
  go_wp2_with fail
  refine (cnew_any wa).mono ?_
  rintro r w1 ⟨cb, bb, pm, bm, rfl, hc, hb⟩
  have HX1 := Lib.hid (heap_keep HX.out hb); have HC1 := Lib.hid hc; have HB1 := Lib.hid hb
  have hw0 : w.heap.size < wa.heap.size := heap_lt HX.out
  clear hc hb HX HA
  obtain ⟨m0, m1, m2, m3, m4, m5, m6, m7, m8, m9, m10⟩ := cell11 HX1.out
  have hs0 := hL0
  obtain ⟨s, hs, hid⟩ := hs0
  have hlen : 0 < L.length := (List.getElem?_eq_some_iff.1 hs).1
  have hl60' : ¬ (60 : Int) < L.length := by omega
  have hl1 : (0 : Int) < L.length := by omega
  go_wp2_with fail
  go_loopw [23] (fun i wr => i = .int .i64 0 ∧ w1 = wr) (fun i _ => 0)
  case atStart => exact ⟨rfl, rfl⟩
  case round =>
    obtain ⟨rfl, rfl⟩ := hrel
    obtain ⟨g, off, n', c', e, d0, d1, d2, d3, d4, d5, d6, d7, d8, d9, d10, d11⟩ := HS.out.cells HB1.out hs
    injection e with e1 e2 e3; subst e1; clear e2 e3
    simp only [Nat.zero_mul, Nat.add_zero] at d0 d1 d2 d3 d4 d5 d6 d7 d8 d9 d10 d11
    go_upto_region 7 with (fail)
    obtain ⟨w2, hw2⟩ : ∃ w2, w2 = w1.alloc (.cells (sgA s) tSaga) := ⟨_, rfl⟩
    rw [← hw2]
    have HS2 := Lib.hid (show w2.heap[w1.heap.size]? = some (.cells (sgA s) tSaga (0, 0)) by rw [hw2]; exact heap_new _ _)
    have HB2 := Lib.hid (show Below w1.heap.size w1 w2 by rw [hw2]; exact below_alloc _ _)
    clear hw2 d0 d1 d2 d3 d4 d5 d6 d7 d8 d9 d10 d11 m0 m1 m2 m3 m4 m5 m6 m7 m8 m9 m10
    obtain ⟨z0, z1, z2, z3, z4, z5, z6, z7, z8, z9, z10, z11⟩ := sg_box HS2.out
    have q1 := bneT hid
    go_wp2_with fail
    go_ret2
    exact ⟨rfl, bch (bch HB.out HB1.out HB.out.size) HB2.out (Nat.le_trans HB.out.size HB1.out.size)⟩
/-- What core.Of answers: a core; or none, if there is a posting more. -/
def OfPost (w w' : World) (e : Ending) (L : List Sg) (P b : List Po) (I : In.Inn) : Prop := Below w.heap.size w w' ∧ ((P = b ∧ ∃ cb bb pm bm vl vb vI, e = .returned (.tuple #[.pointer (some ⟨cb, 0, none⟩), .int .i64 0]) ∧ Cw w.heap.size w' cb bb pm bm vl vb vI ⟨L, P, I⟩ ∧ ∀ j, j < w.heap.size → Av j vI I) ∨ (P ≠ b ∧ e = .returned (.tuple #[.pointer none, .int .i64 2])))
theorem OfPost.yes {w w' : World} {e : Ending} {L : List Sg} {P b : List Po} {I : In.Inn} {cb bb pm bm : Nat} {vl vb vI : Value} (hP : P = b) (he : e = .returned (.tuple #[.pointer (some ⟨cb, 0, none⟩), .int .i64 0])) (h : Cw w.heap.size w' cb bb pm bm vl vb vI ⟨L, P, I⟩) (hb : Below w.heap.size w w') (ha : ∀ j, j < w.heap.size → Av j vI I) : OfPost w w' e L P b I :=
  ⟨hb, .inl ⟨hP, cb, bb, pm, bm, vl, vb, vI, he, h, ha⟩⟩
theorem OfPost.no {w w' : World} {e : Ending} {L : List Sg} {P b : List Po} {I : In.Inn} (hP : P ≠ b) (he : e = .returned (.tuple #[.pointer none, .int .i64 2])) (hb : Below w.heap.size w w') : OfPost w w' e L P b I := ⟨hb, .inr ⟨hP, he⟩⟩
set_option linter.unusedSimpArgs false in
set_option linter.unusedVariables false in
set_option maxRecDepth 100000 in
set_option maxHeartbeats 16000000 in
theorem cof_any (w : World) (vS vP v0 v1 v2 : Value) (L : List Sg) (P : List Po) (I : In.Inn) (hS : Sgs w vS L) (hP : Pos w vP P) (h0 : Rd w v0 I.a.2.2) (h1 : Rd w v1 I.b.2.2) (h2 : Rd w v2 I.c.2.2) (b : List Po) (hM : P = b ∨ ∃ x0 : Po, P = b ++ [x0] ∧ (x0.ord = 1 ∧ x0.deb = 1 ∧ x0.cre = 0 ∧ x0.amt = 5) ∧ (x0.id = [] ∨ mayP x0)) (n : Nat) (hi0 : CoI ⟨L, b, I⟩ n) (hh : CoH ⟨L, b, I⟩) (hn : n ≤ 1000) (hT : PT w) :
    Calls Tryd.prog 8 #[.agg #[vS, vP, .int .i64 I.a.1, .int .i64 I.a.2.1, v0, .int .i64 I.b.1, .int .i64 I.b.2.1, v1, .int .i64 I.c.1, .int .i64 I.c.2.1, v2]] w fun e w' => OfPost w w' e L P b I := by
  have hl60 : L.length ≤ 60 := hi0.le
  have hp60 : P.length ≤ 60001 := by have := hi0.bl; have e : b.length ≤ 60 * n := this; rcases hM with rfl | ⟨x0, rfl, _⟩; omega; (rw [List.length_append]; simp; omega)
  have HFI := Lib.hid (show In.Fine I from hi0.fi)
  obtain ⟨i0, hi, hz0, hz1, hz2⟩ := info_parts saga_info
  have HTT0 := Lib.hid hT
  have HPB := Lib.hid (show (∀ k, k ≤ b.length → P.take k = b.take k) ∧ ∀ k, k < b.length → P[k]? = b[k]? by rcases hM with rfl | ⟨x0, rfl, _⟩; exact ⟨fun _ _ => rfl, fun _ _ => rfl⟩; exact ⟨fun k hk => List.take_append_of_le_length hk, fun k hk => List.getElem?_append_left hk⟩)
  have HMR := Lib.hid hM
  clear hT hM
  obtain ⟨As, cs, rfl, hls, hms⟩ := hS.shape
  obtain ⟨Ap, cp, rfl, hlp, hmp⟩ := hP.shape
  obtain ⟨A0, c0, rfl, _⟩ := h0.shape
  obtain ⟨A1, c1, rfl, _⟩ := h1.shape
  obtain ⟨A2, c2, rfl, _⟩ := h2.shape
  obtain ⟨wa, hA⟩ : ∃ wa, wa = w.alloc (.cells #[.slice As L.length cs, .slice Ap P.length cp, .int .i64 I.a.1, .int .i64 I.a.2.1, .slice A0 I.a.2.2.length c0, .int .i64 I.b.1, .int .i64 I.b.2.1, .slice A1 I.b.2.2.length c1, .int .i64 I.c.1, .int .i64 I.c.2.1, .slice A2 I.c.2.2.length c2] tPartsC) := ⟨_, rfl⟩
  have hB : Below w.heap.size w wa := by rw [hA]; exact below_alloc _ _
  have HX := Lib.hid (show wa.heap[w.heap.size]? = some (.cells #[.slice As L.length cs, .slice Ap P.length cp, .int .i64 I.a.1, .int .i64 I.a.2.1, .slice A0 I.a.2.2.length c0, .int .i64 I.b.1, .int .i64 I.b.2.1, .slice A1 I.b.2.2.length c1, .int .i64 I.c.1, .int .i64 I.c.2.1, .slice A2 I.c.2.2.length c2] tPartsC (0, 0)) by rw [hA]; exact heap_new _ _)
  have HA := Lib.hid hA; have HB := Lib.hid hB; have HS := Lib.hid (hS.keep hB); have HP := Lib.hid (hP.keep hB); have HR0 := Lib.hid (h0.keep hB); have HR1 := Lib.hid (h1.keep hB); have HR2 := Lib.hid (h2.keep hB)
  clear hA hB hS hP h0 h1 h2
  go_enter Tryd.func8, Tryd.ntmps8
  go_upto_region 1 with (fail)
  rw [← HA.out]
  go_wp2_with fail
  refine (cnew_any wa).mono ?_
  rintro r w1 ⟨cb, bb, pm, bm, rfl, hc, hb⟩
  have HX1 := Lib.hid (heap_keep HX.out hb); have HC1 := Lib.hid hc; have HB1 := Lib.hid hb
  have hw0 : w.heap.size < wa.heap.size := heap_lt HX.out
  clear hc hb HX HA
  obtain ⟨m0, m1, m2, m3, m4, m5, m6, m7, m8, m9, m10⟩ := cell11 HX1.out
  have HX0 := Lib.hid (show wa.heap[w.heap.size]? = _ from (HB1.out.block _ hw0).symm.trans HX1.out)
  have HTT := Lib.hid (HTT0.out.below HB.out)
  have hl60' : ¬ (60 : Int) < L.length := by omega
  go_wp2_with fail
  go_loopw [23] (fun i wr => ∃ (k : Nat) (vl : Value), i = .int .i64 k ∧ k ≤ L.length ∧ Hid (Cw wa.heap.size wr cb bb pm bm vl (.slice none 0 0) vIn0 ⟨L.take k, [], In.nil⟩) ∧ Hid (Below wa.heap.size wa wr)) (fun i _ => L.length - (intOf i).toNat)
  case atStart => exact ⟨0, _, rfl, Nat.zero_le _, HC1.out, HB1.out⟩
  case round =>
    clear m0 m1 m2 m3 m4 m5 m6 m7 m8 m9 m10
    obtain ⟨k, vl, rfl, hk, HC, HBr⟩ := hrel
    have hlk : (L.take k).length = k := by rw [List.length_take]; omega
    by_cases hkl : k < L.length
    · obtain ⟨s, hs⟩ : ∃ s, L[k]? = some s := ⟨_, List.getElem?_eq_getElem hkl⟩
      have HTK := Lib.hid (show L.take (k + 1) = L.take k ++ [s] by rw [List.take_add_one, hs]; rfl)
      obtain ⟨hsid, hcode, nn, hto⟩ := hh.at1 k s hs
      have HFR := Lib.hid (hh.fresh hs)
      have HV := Lib.hid (fun W => valid_any s nn W hto hcode)
      obtain ⟨g, off, n', c', e, d0, d1, d2, d3, d4, d5, d6, d7, d8, d9, d10, d11⟩ := HS.out.cells HBr.out hs
      injection e with e1 e2 e3; subst e1; clear e2 e3
      have hlt : (k : Int) < L.length := by omega
      have hk0 : (0 : Int) ≤ k := by omega
      have hw1 : IntKind.i64.wrap ((k : Int) + 1) = (k : Int) + 1 := IntWalk.i64_in _ (by omega)
      have HSID := Lib.hid hsid
      clear hs hto hcode hsid
      go_upto_region 7 with (fail)
      obtain ⟨w2, hw2⟩ : ∃ w2, w2 = wr.alloc (.cells (sgA s) tSaga) := ⟨_, rfl⟩
      rw [← hw2]
      have hb2 : Below wr.heap.size wr w2 := by rw [hw2]; exact below_alloc _ _
      have HS2 := Lib.hid (show w2.heap[wr.heap.size]? = some (.cells (sgA s) tSaga (0, 0)) by rw [hw2]; exact heap_new _ _)
      have HC2 := Lib.hid (HC.out.below hb2); have HB2 := Lib.hid (bch HBr.out hb2 HBr.out.size)
      have hbx : ∀ j, Cs cb bb pm bm vl (.slice none 0 0) j → j < wr.heap.size := fun j hj => (HC.out.ls hj).2
      clear hw2 hb2 d0 d1 d2 d3 d4 d5 d6 d7 d8 d9 d10 d11
      generalize wr.heap.size = bx at HS2 hbx ⊢
      obtain ⟨z0, z1, z2, z3, z4, z5, z6, z7, z8, z9, z10, z11⟩ := sg_box HS2.out
      have q1 := bneF HSID.out
      go_wp2_with fail
      refine (HV.out w2).mono ?_
      rintro e w3 ⟨rfl, hb⟩
      have HS3 := Lib.hid (heap_keep HS2.out hb); have HC3 := Lib.hid (HC2.out.below hb); have HB3 := Lib.hid (bch HB2.out hb HB2.out.size)
      clear hb HS2 HC2 HB2 z0 z1 z2 z3 z4 z5 z6 z7 z8 z9 z10 z11
      obtain ⟨z0, z1, z2, z3, z4, z5, z6, z7, z8, z9, z10, z11⟩ := sg_box HS3.out
      go_wp2_with fail
      refine (chas_any HC3.out s.ref (by show (L.take k).length ≤ _; omega)).mono ?_
      rw [show hasB (L.take k) s.ref = false from HFR.out]
      rintro e w4 ⟨rfl, hb⟩
      have HS4 := Lib.hid (heap_keep HS3.out hb); have HC4 := Lib.hid (HC3.out.below hb); have HB4 := Lib.hid (bch HB3.out hb HB3.out.size)
      clear hb HS3 HC3 HB3 z0 z1 z2 z3 z4 z5 z6 z7 z8 z9 z10 z11
      obtain ⟨Al, cl, rfl, _⟩ := own_slice HC4.out.ol
      have HOL := Lib.hid (show w4.ownsRow wa.heap.size tSaga 12 (.slice Al (L.take k).length cl) (L.take k).length ((L.take k).flatMap encS) from HC4.out.ol)
      rw [show (({ l := L.take k, b := [], inn := In.nil } : Cor).l.length) = k from hlk] at HC4 hbx
      rw [hlk] at HOL
      go_wp2_with fail
      have hxo : ¬ Value.ownBlock (.slice Al k cl) = some bx := fun e => by have := hbx _ (.inr (.inr e)); omega
      have hbo : ¬ Value.ownBlock (.slice Al k cl) = some cb := fun e => (HC4.out.nl _ e).1 rfl
      have HH := Lib.hid (fun W (hb : Turned (fun j => Value.ownBlock (.slice Al k cl) = some j) w4 W) => (⟨Lib.hid hb, cell_at (heap_turned HC4.out.hc hb hbo) 0 (by simp [Array.getElem?_append]), cell_at (heap_turned HS4.out hb hxo) 0 rfl, cell_at (heap_turned HS4.out hb hxo) 1 rfl, cell_at (heap_turned HS4.out hb hxo) 2 rfl, cell_at (heap_turned HS4.out hb hxo) 3 rfl, cell_at (heap_turned HS4.out hb hxo) 4 rfl, cell_at (heap_turned HS4.out hb hxo) 5 rfl, cell_at (heap_turned HS4.out hb hxo) 6 rfl, cell_at (heap_turned HS4.out hb hxo) 7 rfl, cell_at (heap_turned HS4.out hb hxo) 8 rfl, cell_at (heap_turned HS4.out hb hxo) 9 rfl, cell_at (heap_turned HS4.out hb hxo) 10 rfl, cell_at (heap_turned HS4.out hb hxo) 11 rfl⟩ : (fun w' => Hid (Turned (fun j => Value.ownBlock (.slice Al k cl) = some j) w4 w') ∧ w'.cell? ⟨cb, 0, none⟩ = some (.slice Al k cl) ∧ w'.cell? ⟨bx, 0, none⟩ = some (.int .i64 s.id) ∧ w'.cell? ⟨bx, 1, none⟩ = some (.string ⟨s.ref.toArray⟩) ∧ w'.cell? ⟨bx, 2, none⟩ = some (.string ⟨s.sku.toArray⟩) ∧ w'.cell? ⟨bx, 3, none⟩ = some (.int .i64 s.qty) ∧ w'.cell? ⟨bx, 4, none⟩ = some (.int .i64 s.amt) ∧ w'.cell? ⟨bx, 5, none⟩ = some (.int .i64 s.d0) ∧ w'.cell? ⟨bx, 6, none⟩ = some (.int .i64 s.d1) ∧ w'.cell? ⟨bx, 7, none⟩ = some (.int .i64 s.d2) ∧ w'.cell? ⟨bx, 8, none⟩ = some (.int .i64 s.d3) ∧ w'.cell? ⟨bx, 9, none⟩ = some (.int .i64 s.d4) ∧ w'.cell? ⟨bx, 10, none⟩ = some (.int .i64 s.d5) ∧ w'.cell? ⟨bx, 11, none⟩ = some (.bool s.can)) W))
      refine wp_region_noPanic ?_
      refine wp_region_till 10 (fun _ => True) (fun w' => Hid (Turned (fun j => Value.ownBlock (.slice Al k cl) = some j) w4 w') ∧ w'.cell? ⟨cb, 0, none⟩ = some (.slice Al k cl) ∧ w'.cell? ⟨bx, 0, none⟩ = some (.int .i64 s.id) ∧ w'.cell? ⟨bx, 1, none⟩ = some (.string ⟨s.ref.toArray⟩) ∧ w'.cell? ⟨bx, 2, none⟩ = some (.string ⟨s.sku.toArray⟩) ∧ w'.cell? ⟨bx, 3, none⟩ = some (.int .i64 s.qty) ∧ w'.cell? ⟨bx, 4, none⟩ = some (.int .i64 s.amt) ∧ w'.cell? ⟨bx, 5, none⟩ = some (.int .i64 s.d0) ∧ w'.cell? ⟨bx, 6, none⟩ = some (.int .i64 s.d1) ∧ w'.cell? ⟨bx, 7, none⟩ = some (.int .i64 s.d2) ∧ w'.cell? ⟨bx, 8, none⟩ = some (.int .i64 s.d3) ∧ w'.cell? ⟨bx, 9, none⟩ = some (.int .i64 s.d4) ∧ w'.cell? ⟨bx, 10, none⟩ = some (.int .i64 s.d5) ∧ w'.cell? ⟨bx, 11, none⟩ = some (.bool s.can)) (by kernel_rfl) (HH.out _ ((Turned.refl _ w4).drew)) (fun hHeld => ?_)
      refine wpAnyT_go (i := 0) (v := ?vt0_1) rfl (by kernel_rfl) (by kernel_rfl) (by kernel_rfl) (fun _ _ _ h => h) (by kernel_rfl) (Or.inl ⟨by rfl, ?hyt0_1⟩) (by assumption) ?restt0_1
      case hyt0_1 => (intro w0 hSw; (try dsimp only at hSw); go_simp; try with_reducible rfl)
      case' restt0_1 => try simp only [Act.put, List.getElem_toArray, List.getElem_cons_zero, List.getElem_cons_succ, List.setIfInBounds_toArray, List.set_cons_zero, List.set_cons_succ]
      refine wpAnyT_go (i := 1) (v := ?vt1_2) rfl (by kernel_rfl) (by kernel_rfl) (by kernel_rfl) (fun _ _ _ h => h) (by kernel_rfl) (Or.inl ⟨by rfl, ?hyt1_2⟩) (by assumption) ?restt1_2
      case hyt1_2 => (intro w0 hSw; (try dsimp only at hSw); go_simp; try with_reducible rfl)
      case' restt1_2 => try simp only [Act.put, List.getElem_toArray, List.getElem_cons_zero, List.getElem_cons_succ, List.setIfInBounds_toArray, List.set_cons_zero, List.set_cons_succ]
      refine wpAnyT_go (i := 2) (v := ?vt2_3) rfl (by kernel_rfl) (by kernel_rfl) (by kernel_rfl) (fun _ _ _ h => h) (by kernel_rfl) (Or.inl ⟨by rfl, ?hyt2_3⟩) (by assumption) ?restt2_3
      case hyt2_3 => (intro w0 hSw; (try dsimp only at hSw); go_simp; try with_reducible rfl)
      case' restt2_3 => try simp only [Act.put, List.getElem_toArray, List.getElem_cons_zero, List.getElem_cons_succ, List.setIfInBounds_toArray, List.set_cons_zero, List.set_cons_succ]
      refine wpAnyT_go (i := 3) (v := ?vt3_4) rfl (by kernel_rfl) (by kernel_rfl) (by kernel_rfl) (fun _ _ _ h => h) (by kernel_rfl) (Or.inl ⟨by rfl, ?hyt3_4⟩) (by assumption) ?restt3_4
      case hyt3_4 => (intro w0 hSw; (try dsimp only at hSw); go_simp; try with_reducible rfl)
      case' restt3_4 => try simp only [Act.put, List.getElem_toArray, List.getElem_cons_zero, List.getElem_cons_succ, List.setIfInBounds_toArray, List.set_cons_zero, List.set_cons_succ]
      refine wpAnyT_go (i := 4) (v := ?vt4_5) rfl (by kernel_rfl) (by kernel_rfl) (by kernel_rfl) (fun _ _ _ h => h) (by kernel_rfl) (Or.inl ⟨by rfl, ?hyt4_5⟩) (by assumption) ?restt4_5
      case hyt4_5 => (intro w0 hSw; (try dsimp only at hSw); go_simp; try with_reducible rfl)
      case' restt4_5 => try simp only [Act.put, List.getElem_toArray, List.getElem_cons_zero, List.getElem_cons_succ, List.setIfInBounds_toArray, List.set_cons_zero, List.set_cons_succ]
      refine wpAnyT_go (i := 5) (v := ?vt5_6) rfl (by kernel_rfl) (by kernel_rfl) (by kernel_rfl) (fun _ _ _ h => h) (by kernel_rfl) (Or.inl ⟨by rfl, ?hyt5_6⟩) (by assumption) ?restt5_6
      case hyt5_6 => (intro w0 hSw; (try dsimp only at hSw); go_simp; try with_reducible rfl)
      case' restt5_6 => try simp only [Act.put, List.getElem_toArray, List.getElem_cons_zero, List.getElem_cons_succ, List.setIfInBounds_toArray, List.set_cons_zero, List.set_cons_succ]
      refine wpAnyT_ready (rs := [6]) (by kernel_rfl) (by simp) ?_
      refine AllReadyT.cons rfl (by kernel_rfl) (fun K hK => ?_) AllReadyT.nil
      go_simp
      refine hK.out _ _ (HH.out _ ((Turned.refl _ w4).drew.trans (Turned.of_below (below_alloc _ _)))) (fun hHeld => ?_)
      clear hK K
      try simp only [Act.put, List.getElem_toArray, List.getElem_cons_zero, List.getElem_cons_succ, List.setIfInBounds_toArray, List.set_cons_zero, List.set_cons_succ]
      refine wpAnyT_ready (rs := [7]) (by kernel_rfl) (by simp) ?_
      refine AllReadyT.cons rfl (by kernel_rfl) (fun K hK => ?_) AllReadyT.nil
      refine step_append_any _ rfl (.tmp 50) (.tmp 52) tSagas rfl wa.heap.size tSaga i0 (.agg #[.int .i64 0, .string ⟨#[]⟩, .string ⟨#[]⟩, .int .i64 0, .int .i64 0, .int .i64 0, .int .i64 0, .int .i64 0, .int .i64 0, .int .i64 0, .int .i64 0, .bool false]) 12 112 Tryd.underlying38 hi hz0 hz1 hz2 rfl (by decide) (.slice Al k cl) k ((L.take k).flatMap encS) rfl (World.ownsRow.alloc (w := w4.drew) (own_turned HOL.out (Turned.refl (fun _ => False) w4).drew (fun _ _ h => h)) _) 1 (encS s) (src_blk (xs := encS s) (heap_new _ _) (encS_one _)) (by unfold maxLen; omega) (by omega) (by have := HB4.out.size; simp; omega) ?_
      intro v6 w6 ho6 hg6 hat6
      have ht6 : Turned (fun j => Value.ownBlock (.slice Al k cl) = some j) w4 w6 := ((Turned.refl _ w4).drew.trans (Turned.of_below (below_alloc _ _))).trans (Turned.of_grown hg6 (fun j h => h))
      obtain ⟨A6, c6, rfl, _⟩ := own_slice ho6
      refine hK.out _ _ (HH.out _ (ht6)) (fun hHeld => ?_)
      clear hK K
      try simp only [Act.put, List.getElem_toArray, List.getElem_cons_zero, List.getElem_cons_succ, List.setIfInBounds_toArray, List.set_cons_zero, List.set_cons_succ]
      refine wpAnyT_go (i := 8) (v := ?vt8_7) rfl (by kernel_rfl) (by kernel_rfl) (by kernel_rfl) (fun _ _ _ h => h) (by kernel_rfl) (Or.inl ⟨by rfl, ?hyt8_7⟩) (by assumption) ?restt8_7
      case hyt8_7 => (intro w0 hSw; (try dsimp only at hSw); go_simp; try with_reducible rfl)
      case' restt8_7 => try simp only [Act.put, List.getElem_toArray, List.getElem_cons_zero, List.getElem_cons_succ, List.setIfInBounds_toArray, List.set_cons_zero, List.set_cons_succ]
      refine wpAnyT_go (i := 9) (v := ?vt9_8) rfl (by kernel_rfl) (by kernel_rfl) (by kernel_rfl) (fun _ _ _ h => h) (by kernel_rfl) (Or.inl ⟨by rfl, ?hyt9_8⟩) (by assumption) ?restt9_8
      case hyt9_8 => (intro w0 hSw; (try dsimp only at hSw); go_simp; try with_reducible rfl)
      case' restt9_8 => try simp only [Act.put, List.getElem_toArray, List.getElem_cons_zero, List.getElem_cons_succ, List.setIfInBounds_toArray, List.set_cons_zero, List.set_cons_succ]
      have HD6 := Lib.hid (heap_turned HC4.out.hc ht6 hbo)
      have y0 : w6.cell? ⟨cb, 0, none⟩ = some (.slice Al k cl) := cell_at HD6.out 0 (by simp [Array.getElem?_append])
      have f0 := frozen_at HD6.out 0
      refine wpAnyT_ready (rs := [10]) (by kernel_rfl) (by simp) ?_
      refine AllReadyT.last rfl (by kernel_rfl) (fun K hK => ?_) AllReadyT.nil
      go_simp
      refine hK.out _ _ trivial (fun hHeld => ?_)
      clear hK K
      try simp only [Act.put, List.getElem_toArray, List.getElem_cons_zero, List.getElem_cons_succ, List.setIfInBounds_toArray, List.set_cons_zero, List.set_cons_succ]
      refine wpAnyT_done (by kernel_rfl) ?_ _
      refine NoPanic.normal ?_
      have ht7 := turned_set w6 cb 0 (.slice A6 (k + 1) c6)
      have hfar6 : ∀ j, Value.ownBlock (.slice A6 (k + 1) c6) = some j → Value.ownBlock (.slice Al k cl) = some j ∨ w4.heap.size ≤ j := fun j hj => by rcases hat6 with h | h; (exact .inl (by rw [← h]; exact hj)); (right; rw [hj] at h; injection h with h; simp at h; omega)
      have hTT : Turned (fun j => j = cb ∨ Value.ownBlock (.slice Al k cl) = some j) w4 (w6.setCell ⟨cb, 0, none⟩ (.slice A6 (k + 1) c6)) := (ht6.mono (fun i h => .inr h)).trans (ht7.mono (fun i h => .inl h))
      have hcl4 := heap_lt HC4.out.hc
      have HNEW := Lib.hid (show Cw wa.heap.size (w6.setCell ⟨cb, 0, none⟩ (.slice A6 (k + 1) c6)) cb bb pm bm (.slice A6 (k + 1) c6) (.slice none 0 0) vIn0 ⟨L.take (k + 1), [], In.nil⟩ from {
        hc := cw_set0 HD6.out
        ol := own_turned (by show w6.ownsRow wa.heap.size tSaga 12 (.slice A6 (k + 1) c6) (L.take (k + 1)).length ((L.take (k + 1)).flatMap encS); rw [HTK.out, List.length_append, List.flatMap_append, hlk]; simpa using ho6) ht7 (fun j hj hs => by rcases hfar6 j hj with h | h; (exact (HC4.out.nl j h).1 hs); omega)
        bk := HC4.out.bk.kept hTT (fun j hj hs => by rcases hs with rfl | hs; (rcases hj with h | h | h | h; exact HC4.out.nc.1 h; exact HC4.out.nc.2.1 h; exact HC4.out.nc.2.2.1 h; exact HC4.out.nc.2.2.2 h); exact (HC4.out.nl j hs).2 hj)
        ii := HC4.out.ii.turned hTT (fun j hs => by rcases hs with rfl | hs; exact HC4.out.av _ (.inl rfl); exact HC4.out.av _ (.inr (.inr hs)))
        fi := HC4.out.fi
        av := fun j hj => by rcases hj with rfl | hj | hj; exact HC4.out.av _ (.inl rfl); exact HC4.out.av _ (.inr (.inl hj)); (rcases hfar6 j hj with h | h; exact HC4.out.av _ (.inr (.inr h)); exact Av.far HC4.out.ii h)
        ge := HC4.out.ge
        nc := HC4.out.nc
        nl := fun j hj => by rcases hfar6 j hj with h | h; exact HC4.out.nl j h; exact ⟨by omega, fun hs => by have := (HC4.out.bk.ls hs).2; omega⟩ })
      have HBN := Lib.hid (show Below wa.heap.size wa (w6.setCell ⟨cb, 0, none⟩ (.slice A6 (k + 1) c6)) from Below.turned HB4.out hTT (fun i h => by rcases h with rfl | h; exact HC4.out.ge; exact (HOL.out.lt _ h).1) HB4.out.size)
      clear hHeld HH ht6 ht7 ho6 hg6 hat6 y0 f0 hfar6 hTT
      go_wp2_with fail
      go_roundw
      case rel => exact ⟨k + 1, _, by go_num, by omega, HNEW.out, HBN.out⟩
      case measure => simp [intOf]; omega
    · obtain rfl : k = L.length := by omega
      rw [List.take_length] at HC hlk
      have HXr := Lib.hid ((HBr.out.block _ hw0).trans HX0.out)
      obtain ⟨m0, m1, m2, m3, m4, m5, m6, m7, m8, m9, m10⟩ := cell11 HXr.out
      go_wp2_with fail
      go_loopw [60] (fun i wr => ∃ (k : Nat) (vb : Value), i = .int .i64 k ∧ k ≤ P.length ∧ Hid (Cw wa.heap.size wr cb bb pm bm vl vb vIn0 ⟨L, P.take k, In.nil⟩) ∧ Hid (Below wa.heap.size wa wr)) (fun i _ => P.length - (intOf i).toNat)
      case atStart => exact ⟨0, _, rfl, Nat.zero_le _, HC.out, HBr.out⟩
      case round =>
        clear HC HBr m0 m1 m2 m3 m4 m5 m6 m7 m8 m9 m10
        obtain ⟨k, vb, rfl, hk, HC, HBr⟩ := hrel
        have hlk2 : (P.take k).length = k := by rw [List.length_take]; omega
        by_cases hkl : k < P.length
        · by_cases hkb : k < b.length
          · obtain ⟨x, hx⟩ : ∃ x, P[k]? = some x := ⟨_, List.getElem?_eq_getElem hkl⟩
            have HTK := Lib.hid (show P.take (k + 1) = P.take k ++ [x] by rw [List.take_add_one, hx]; rfl)
            have hxb : b[k]? = some x := by rw [← HPB.out.2 k hkb]; exact hx
            have HM := Lib.hid (hi0.may x (List.mem_of_getElem? hxb)); have HF := Lib.hid (show ∀ y ∈ P.take k, y.id ≠ x.id by rw [HPB.out.1 k (by omega)]; exact ids_fresh hi0.nd hxb)
            have hlk3 : (P.take (k + 1)).length = k + 1 := by rw [List.length_take]; omega
            obtain ⟨g, off, n', c', e, d0, d1, d2, d3, d4⟩ := HP.out.cells HBr.out hx
            injection e with e1 e2 e3; subst e1; clear e2 e3
            have hlt : (k : Int) < P.length := by omega
            have hk0 : (0 : Int) ≤ k := by omega
            have hw1 : IntKind.i64.wrap ((k : Int) + 1) = (k : Int) + 1 := IntWalk.i64_in _ (by omega)
            go_upto_region 14 with (fail)
            obtain ⟨w2, hw2⟩ : ∃ w2, w2 = wr.alloc (.cells #[.string ⟨x.id.toArray⟩, .int .i64 x.ord, .int .i64 x.deb, .int .i64 x.cre, .int .i64 x.amt] tPost) := ⟨_, rfl⟩
            rw [← hw2]
            have hb2 : Below wr.heap.size wr w2 := by rw [hw2]; exact below_alloc _ _
            have HX2 := Lib.hid (show w2.heap[wr.heap.size]? = some (.cells #[.string ⟨x.id.toArray⟩, .int .i64 x.ord, .int .i64 x.deb, .int .i64 x.cre, .int .i64 x.amt] tPost (0, 0)) by rw [hw2]; exact heap_new _ _)
            have HC2 := Lib.hid (HC.out.below hb2); have HB2 := Lib.hid (bch HBr.out hb2 HBr.out.size)
            have hxo : ¬ Bs bb pm bm vb wr.heap.size := fun hs => by have := (HC.out.bk.ls hs).2; omega
            clear hw2 hb2 d0 d1 d2 d3 d4
            generalize wr.heap.size = bx at HX2 hxo ⊢
            clear hx hxb
            have HH := Lib.hid (fun W' (hb : Turned (Bs bb pm bm vb) w2 W') => (⟨Lib.hid hb, cell_at (heap_turned HC2.out.hc hb HC2.out.cbB) 1 (by simp [Array.getElem?_append]), cell_at (heap_turned HX2.out hb hxo) 0 rfl, cell_at (heap_turned HX2.out hb hxo) 1 rfl, cell_at (heap_turned HX2.out hb hxo) 2 rfl, cell_at (heap_turned HX2.out hb hxo) 3 rfl, cell_at (heap_turned HX2.out hb hxo) 4 rfl⟩ : (fun w' => Hid (Turned (Bs bb pm bm vb) w2 w') ∧ w'.cell? ⟨cb, 1, none⟩ = some (.pointer (some ⟨bb, 0, none⟩)) ∧ w'.cell? ⟨bx, 0, none⟩ = some (.string ⟨x.id.toArray⟩) ∧ w'.cell? ⟨bx, 1, none⟩ = some (.int .i64 x.ord) ∧ w'.cell? ⟨bx, 2, none⟩ = some (.int .i64 x.deb) ∧ w'.cell? ⟨bx, 3, none⟩ = some (.int .i64 x.cre) ∧ w'.cell? ⟨bx, 4, none⟩ = some (.int .i64 x.amt)) W'))
            refine wp_region_noPanic ?_
            refine wp_region_held_drew (S := (fun w' => Hid (Turned (Bs bb pm bm vb) w2 w') ∧ w'.cell? ⟨cb, 1, none⟩ = some (.pointer (some ⟨bb, 0, none⟩)) ∧ w'.cell? ⟨bx, 0, none⟩ = some (.string ⟨x.id.toArray⟩) ∧ w'.cell? ⟨bx, 1, none⟩ = some (.int .i64 x.ord) ∧ w'.cell? ⟨bx, 2, none⟩ = some (.int .i64 x.deb) ∧ w'.cell? ⟨bx, 3, none⟩ = some (.int .i64 x.cre) ∧ w'.cell? ⟨bx, 4, none⟩ = some (.int .i64 x.amt))) (by kernel_rfl) (HH.out _ (Turned.refl _ w2).drew) (fun hHeld => ?_)
            refine wpAnyH_take (i := 0) (v := ?vc0_122) rfl (by kernel_rfl) (by kernel_rfl) (by kernel_rfl) (fun _ _ _ h => h) (Or.inl ⟨by rfl, ?hyc0_122⟩) (by assumption) ?restc0_122
            case hyc0_122 => (intro w0 hSw; (try dsimp only at hSw); go_simp; try with_reducible rfl)
            case' restc0_122 => try simp only [Act.put, List.getElem_toArray, List.getElem_cons_zero, List.getElem_cons_succ, List.setIfInBounds_toArray, List.set_cons_zero, List.set_cons_succ]
            refine wpAnyH_take (i := 1) (v := ?vc1_123) rfl (by kernel_rfl) (by kernel_rfl) (by kernel_rfl) (fun _ _ _ h => h) (Or.inl ⟨by rfl, ?hyc1_123⟩) (by assumption) ?restc1_123
            case hyc1_123 => (intro w0 hSw; (try dsimp only at hSw); go_simp; try with_reducible rfl)
            case' restc1_123 => try simp only [Act.put, List.getElem_toArray, List.getElem_cons_zero, List.getElem_cons_succ, List.setIfInBounds_toArray, List.set_cons_zero, List.set_cons_succ]
            refine wpAnyH_take (i := 2) (v := ?vc2_124) rfl (by kernel_rfl) (by kernel_rfl) (by kernel_rfl) (fun _ _ _ h => h) (Or.inl ⟨by rfl, ?hyc2_124⟩) (by assumption) ?restc2_124
            case hyc2_124 => (intro w0 hSw; (try dsimp only at hSw); go_simp; try with_reducible rfl)
            case' restc2_124 => try simp only [Act.put, List.getElem_toArray, List.getElem_cons_zero, List.getElem_cons_succ, List.setIfInBounds_toArray, List.set_cons_zero, List.set_cons_succ]
            refine wpAnyH_take (i := 3) (v := ?vc3_125) rfl (by kernel_rfl) (by kernel_rfl) (by kernel_rfl) (fun _ _ _ h => h) (Or.inl ⟨by rfl, ?hyc3_125⟩) (by assumption) ?restc3_125
            case hyc3_125 => (intro w0 hSw; (try dsimp only at hSw); go_simp; try with_reducible rfl)
            case' restc3_125 => try simp only [Act.put, List.getElem_toArray, List.getElem_cons_zero, List.getElem_cons_succ, List.setIfInBounds_toArray, List.set_cons_zero, List.set_cons_succ]
            refine wpAnyH_take (i := 4) (v := ?vc4_126) rfl (by kernel_rfl) (by kernel_rfl) (by kernel_rfl) (fun _ _ _ h => h) (Or.inl ⟨by rfl, ?hyc4_126⟩) (by assumption) ?restc4_126
            case hyc4_126 => (intro w0 hSw; (try dsimp only at hSw); go_simp; try with_reducible rfl)
            case' restc4_126 => try simp only [Act.put, List.getElem_toArray, List.getElem_cons_zero, List.getElem_cons_succ, List.setIfInBounds_toArray, List.set_cons_zero, List.set_cons_succ]
            refine wpAnyH_ready (rs := [5]) (by kernel_rfl) (by simp) ?_
            refine AllReadyH.cons rfl (fun K hK => ?_) AllReadyH.nil
            go_simp
            refine (bpost_any (HC2.out.bk.below (below_drew1 (Below.refl _ w2))) x HM.out HF.out (by rw [hlk2]; omega)).mono ?_
            rintro e w3 ⟨vb', rfl, hn, ht, hf⟩
            rw [← HTK.out] at hn
            have HN := Lib.hid hn; have HT2 := Lib.hid (show Turned (Bs bb pm bm vb) w2 w3 from (Turned.refl _ w2).drew.trans ht); have HFA := Lib.hid hf
            clear hn ht hf
            refine hK.out _ _ (HH.out _ (HT2.out)) (fun hHeld => ?_)
            clear hK K
            try simp only [Act.put, List.getElem_toArray, List.getElem_cons_zero, List.getElem_cons_succ, List.setIfInBounds_toArray, List.set_cons_zero, List.set_cons_succ]
            refine wpAnyH_take (i := 6) (v := ?vc6_127) rfl (by kernel_rfl) (by kernel_rfl) (by kernel_rfl) (fun _ _ _ h => h) (Or.inl ⟨by rfl, ?hyc6_127⟩) (by assumption) ?restc6_127
            case hyc6_127 => (intro w0 hSw; (try dsimp only at hSw); go_simp; try with_reducible rfl)
            case' restc6_127 => try simp only [Act.put, List.getElem_toArray, List.getElem_cons_zero, List.getElem_cons_succ, List.setIfInBounds_toArray, List.set_cons_zero, List.set_cons_succ]
            refine wpAnyH_take (i := 7) (v := ?vc7_128) rfl (by kernel_rfl) (by kernel_rfl) (by kernel_rfl) (fun _ _ _ h => h) (Or.inl ⟨by rfl, ?hyc7_128⟩) (by assumption) ?restc7_128
            case hyc7_128 => (intro w0 hSw; (try dsimp only at hSw); go_simp; try with_reducible rfl)
            case' restc7_128 => try simp only [Act.put, List.getElem_toArray, List.getElem_cons_zero, List.getElem_cons_succ, List.setIfInBounds_toArray, List.set_cons_zero, List.set_cons_succ]
            refine wpAnyH_take (i := 8) (v := ?vc8_129) rfl (by kernel_rfl) (by kernel_rfl) (by kernel_rfl) (fun _ _ _ h => h) (Or.inl ⟨by rfl, ?hyc8_129⟩) (by assumption) ?restc8_129
            case hyc8_129 => (intro w0 hSw; (try dsimp only at hSw); go_simp; try with_reducible rfl)
            case' restc8_129 => try simp only [Act.put, List.getElem_toArray, List.getElem_cons_zero, List.getElem_cons_succ, List.setIfInBounds_toArray, List.set_cons_zero, List.set_cons_succ]
            refine wpAnyH_take (i := 9) (v := ?vc9_130) rfl (by kernel_rfl) (by kernel_rfl) (by kernel_rfl) (fun _ _ _ h => h) (Or.inl ⟨by rfl, ?hyc9_130⟩) (by assumption) ?restc9_130
            case hyc9_130 => (intro w0 hSw; (try dsimp only at hSw); go_simp; try with_reducible rfl)
            case' restc9_130 => try simp only [Act.put, List.getElem_toArray, List.getElem_cons_zero, List.getElem_cons_succ, List.setIfInBounds_toArray, List.set_cons_zero, List.set_cons_succ]
            refine wpAnyH_take (i := 10) (v := ?vc10_131) rfl (by kernel_rfl) (by kernel_rfl) (by kernel_rfl) (fun _ _ _ h => h) (Or.inl ⟨by rfl, ?hyc10_131⟩) (by assumption) ?restc10_131
            case hyc10_131 => (intro w0 hSw; (try dsimp only at hSw); go_simp; try with_reducible rfl)
            case' restc10_131 => try simp only [Act.put, List.getElem_toArray, List.getElem_cons_zero, List.getElem_cons_succ, List.setIfInBounds_toArray, List.set_cons_zero, List.set_cons_succ]
            refine wpAnyH_take (i := 11) (v := ?vc11_132) rfl (by kernel_rfl) (by kernel_rfl) (by kernel_rfl) (fun _ _ _ h => h) (Or.inl ⟨by rfl, ?hyc11_132⟩) (by assumption) ?restc11_132
            case hyc11_132 => (intro w0 hSw; (try dsimp only at hSw); go_simp; try with_reducible rfl)
            case' restc11_132 => try simp only [Act.put, List.getElem_toArray, List.getElem_cons_zero, List.getElem_cons_succ, List.setIfInBounds_toArray, List.set_cons_zero, List.set_cons_succ]
            refine wpAnyH_take (i := 13) (v := ?vc13_133) rfl (by kernel_rfl) (by kernel_rfl) (by kernel_rfl) (fun _ _ _ h => h) (Or.inl ⟨by rfl, ?hyc13_133⟩) (by assumption) ?restc13_133
            case hyc13_133 => (intro w0 hSw; (try dsimp only at hSw); go_simp; try with_reducible rfl)
            case' restc13_133 => try simp only [Act.put, List.getElem_toArray, List.getElem_cons_zero, List.getElem_cons_succ, List.setIfInBounds_toArray, List.set_cons_zero, List.set_cons_succ]
            refine wpAnyH_take (i := 14) (v := ?vc14_134) rfl (by kernel_rfl) (by kernel_rfl) (by kernel_rfl) (fun _ _ _ h => h) (Or.inl ⟨by rfl, ?hyc14_134⟩) (by assumption) ?restc14_134
            case hyc14_134 => (intro w0 hSw; (try dsimp only at hSw); go_simp; try with_reducible rfl)
            case' restc14_134 => try simp only [Act.put, List.getElem_toArray, List.getElem_cons_zero, List.getElem_cons_succ, List.setIfInBounds_toArray, List.set_cons_zero, List.set_cons_succ]
            have HMY := Lib.hid (bmany_any HN.out)
            rw [hlk3, show (((k + 1 : Nat)) : Int) = (k : Int) + 1 from by omega] at HMY
            refine wpAnyH_ready (rs := [12]) (by kernel_rfl) (by simp) ?_
            refine AllReadyH.cons rfl (fun K hK => ?_) AllReadyH.nil
            go_simp
            refine HMY.out.mono ?_; rintro e w4 ⟨rfl, hw⟩; subst hw
            refine hK.out _ _ (by assumption) (fun hHeld => ?_)
            clear hK K
            try simp only [Act.put, List.getElem_toArray, List.getElem_cons_zero, List.getElem_cons_succ, List.setIfInBounds_toArray, List.set_cons_zero, List.set_cons_succ]
            refine wpAnyH_take (i := 15) (v := ?vc15_135) rfl (by kernel_rfl) (by kernel_rfl) (by kernel_rfl) (fun _ _ _ h => h) (Or.inl ⟨by rfl, ?hyc15_135⟩) (by assumption) ?restc15_135
            case hyc15_135 => (intro w0 hSw; (try dsimp only at hSw); go_simp; try with_reducible rfl)
            case' restc15_135 => try simp only [Act.put, List.getElem_toArray, List.getElem_cons_zero, List.getElem_cons_succ, List.setIfInBounds_toArray, List.set_cons_zero, List.set_cons_succ]
            refine wpAnyH_take (i := 16) (v := ?vc16_136) rfl (by kernel_rfl) (by kernel_rfl) (by kernel_rfl) (fun _ _ _ h => h) (Or.inl ⟨by rfl, ?hyc16_136⟩) (by assumption) ?restc16_136
            case hyc16_136 => (intro w0 hSw; (try dsimp only at hSw); go_simp; try with_reducible rfl)
            case' restc16_136 => try simp only [Act.put, List.getElem_toArray, List.getElem_cons_zero, List.getElem_cons_succ, List.setIfInBounds_toArray, List.set_cons_zero, List.set_cons_succ]
            refine wpAnyH_done (by kernel_rfl) ?_ _
            refine NoPanic.normal ?_
            have HNEW := Lib.hid (show Cw wa.heap.size w3 cb bb pm bm vl vb' vIn0 ⟨L, P.take (k + 1), In.nil⟩ from HC2.out.post HN.out HT2.out (fun j hj => by rcases HFA.out j hj with h | h; exact .inl h; right; simpa using h))
            have HBN := Lib.hid (show Below wa.heap.size wa w3 from Below.turned HB2.out HT2.out (fun i h => (HC2.out.bk.ls h).1) HB2.out.size)
            clear hHeld HH HN HT2 HFA
            go_wp2_with fail
            go_roundw
            case rel => exact ⟨k + 1, vb', by go_num, by omega, HNEW.out, HBN.out⟩
            case measure => simp [intOf]; omega
          · obtain ⟨x, hx⟩ : ∃ x, P[k]? = some x := ⟨_, List.getElem?_eq_getElem hkl⟩
            have HTK := Lib.hid (show P.take (k + 1) = P.take k ++ [x] by rw [List.take_add_one, hx]; rfl)
            obtain ⟨x0, HPE, HXO, HXM⟩ := HMR.out.resolve_left (fun h => by have := congrArg List.length h; omega)
            have HX0P := Lib.hid (show P[b.length]? = some x0 by rw [HPE, List.getElem?_append_right (Nat.le_refl _)]; simp)
            have hx0 : x = x0 := by rw [show k = b.length by have := congrArg List.length HPE; rw [List.length_append] at this; simp at this; omega, HX0P.out] at hx; exact (Option.some.inj hx).symm
            subst hx0
            have HNP := Lib.hid (show P ≠ b from fun h => by have := congrArg List.length h; omega)
            have HXM := Lib.hid HXM
            clear HPE HXO HX0P
            have hlk3 : (P.take (k + 1)).length = k + 1 := by rw [List.length_take]; omega
            obtain ⟨g, off, n', c', e, d0, d1, d2, d3, d4⟩ := HP.out.cells HBr.out hx
            injection e with e1 e2 e3; subst e1; clear e2 e3
            have hlt : (k : Int) < P.length := by omega
            have hk0 : (0 : Int) ≤ k := by omega
            have hw1 : IntKind.i64.wrap ((k : Int) + 1) = (k : Int) + 1 := IntWalk.i64_in _ (by omega)
            go_upto_region 14 with (fail)
            obtain ⟨w2, hw2⟩ : ∃ w2, w2 = wr.alloc (.cells #[.string ⟨x.id.toArray⟩, .int .i64 x.ord, .int .i64 x.deb, .int .i64 x.cre, .int .i64 x.amt] tPost) := ⟨_, rfl⟩
            rw [← hw2]
            have hb2 : Below wr.heap.size wr w2 := by rw [hw2]; exact below_alloc _ _
            have HX2 := Lib.hid (show w2.heap[wr.heap.size]? = some (.cells #[.string ⟨x.id.toArray⟩, .int .i64 x.ord, .int .i64 x.deb, .int .i64 x.cre, .int .i64 x.amt] tPost (0, 0)) by rw [hw2]; exact heap_new _ _)
            have HC2 := Lib.hid (HC.out.below hb2); have HB2 := Lib.hid (bch HBr.out hb2 HBr.out.size)
            have hxo : ¬ Bs bb pm bm vb wr.heap.size := fun hs => by have := (HC.out.bk.ls hs).2; omega
            clear hw2 hb2 d0 d1 d2 d3 d4
            generalize wr.heap.size = bx at HX2 hxo ⊢
            clear hx
            have HH := Lib.hid (fun W' (hb : Turned (Bs bb pm bm vb) w2 W') => (⟨Lib.hid hb, cell_at (heap_turned HC2.out.hc hb HC2.out.cbB) 1 (by simp [Array.getElem?_append]), cell_at (heap_turned HX2.out hb hxo) 0 rfl, cell_at (heap_turned HX2.out hb hxo) 1 rfl, cell_at (heap_turned HX2.out hb hxo) 2 rfl, cell_at (heap_turned HX2.out hb hxo) 3 rfl, cell_at (heap_turned HX2.out hb hxo) 4 rfl⟩ : (fun w' => Hid (Turned (Bs bb pm bm vb) w2 w') ∧ w'.cell? ⟨cb, 1, none⟩ = some (.pointer (some ⟨bb, 0, none⟩)) ∧ w'.cell? ⟨bx, 0, none⟩ = some (.string ⟨x.id.toArray⟩) ∧ w'.cell? ⟨bx, 1, none⟩ = some (.int .i64 x.ord) ∧ w'.cell? ⟨bx, 2, none⟩ = some (.int .i64 x.deb) ∧ w'.cell? ⟨bx, 3, none⟩ = some (.int .i64 x.cre) ∧ w'.cell? ⟨bx, 4, none⟩ = some (.int .i64 x.amt)) W'))
            refine wp_region_noPanic ?_
            refine wp_region_held_drew (S := (fun w' => Hid (Turned (Bs bb pm bm vb) w2 w') ∧ w'.cell? ⟨cb, 1, none⟩ = some (.pointer (some ⟨bb, 0, none⟩)) ∧ w'.cell? ⟨bx, 0, none⟩ = some (.string ⟨x.id.toArray⟩) ∧ w'.cell? ⟨bx, 1, none⟩ = some (.int .i64 x.ord) ∧ w'.cell? ⟨bx, 2, none⟩ = some (.int .i64 x.deb) ∧ w'.cell? ⟨bx, 3, none⟩ = some (.int .i64 x.cre) ∧ w'.cell? ⟨bx, 4, none⟩ = some (.int .i64 x.amt))) (by kernel_rfl) (HH.out _ (Turned.refl _ w2).drew) (fun hHeld => ?_)
            refine wpAnyH_take (i := 0) (v := ?vc0_137) rfl (by kernel_rfl) (by kernel_rfl) (by kernel_rfl) (fun _ _ _ h => h) (Or.inl ⟨by rfl, ?hyc0_137⟩) (by assumption) ?restc0_137
            case hyc0_137 => (intro w0 hSw; (try dsimp only at hSw); go_simp; try with_reducible rfl)
            case' restc0_137 => try simp only [Act.put, List.getElem_toArray, List.getElem_cons_zero, List.getElem_cons_succ, List.setIfInBounds_toArray, List.set_cons_zero, List.set_cons_succ]
            refine wpAnyH_take (i := 1) (v := ?vc1_138) rfl (by kernel_rfl) (by kernel_rfl) (by kernel_rfl) (fun _ _ _ h => h) (Or.inl ⟨by rfl, ?hyc1_138⟩) (by assumption) ?restc1_138
            case hyc1_138 => (intro w0 hSw; (try dsimp only at hSw); go_simp; try with_reducible rfl)
            case' restc1_138 => try simp only [Act.put, List.getElem_toArray, List.getElem_cons_zero, List.getElem_cons_succ, List.setIfInBounds_toArray, List.set_cons_zero, List.set_cons_succ]
            refine wpAnyH_take (i := 2) (v := ?vc2_139) rfl (by kernel_rfl) (by kernel_rfl) (by kernel_rfl) (fun _ _ _ h => h) (Or.inl ⟨by rfl, ?hyc2_139⟩) (by assumption) ?restc2_139
            case hyc2_139 => (intro w0 hSw; (try dsimp only at hSw); go_simp; try with_reducible rfl)
            case' restc2_139 => try simp only [Act.put, List.getElem_toArray, List.getElem_cons_zero, List.getElem_cons_succ, List.setIfInBounds_toArray, List.set_cons_zero, List.set_cons_succ]
            refine wpAnyH_take (i := 3) (v := ?vc3_140) rfl (by kernel_rfl) (by kernel_rfl) (by kernel_rfl) (fun _ _ _ h => h) (Or.inl ⟨by rfl, ?hyc3_140⟩) (by assumption) ?restc3_140
            case hyc3_140 => (intro w0 hSw; (try dsimp only at hSw); go_simp; try with_reducible rfl)
            case' restc3_140 => try simp only [Act.put, List.getElem_toArray, List.getElem_cons_zero, List.getElem_cons_succ, List.setIfInBounds_toArray, List.set_cons_zero, List.set_cons_succ]
            refine wpAnyH_take (i := 4) (v := ?vc4_141) rfl (by kernel_rfl) (by kernel_rfl) (by kernel_rfl) (fun _ _ _ h => h) (Or.inl ⟨by rfl, ?hyc4_141⟩) (by assumption) ?restc4_141
            case hyc4_141 => (intro w0 hSw; (try dsimp only at hSw); go_simp; try with_reducible rfl)
            case' restc4_141 => try simp only [Act.put, List.getElem_toArray, List.getElem_cons_zero, List.getElem_cons_succ, List.setIfInBounds_toArray, List.set_cons_zero, List.set_cons_succ]
            refine wpAnyH_ready (rs := [5]) (by kernel_rfl) (by simp) ?_
            refine AllReadyH.cons rfl (fun K hK => ?_) AllReadyH.nil
            go_simp
            refine (bpost_either (HC2.out.bk.below (below_drew1 (Below.refl _ w2))) x HXM.out (by rw [hlk2]; omega)).mono ?_
            rintro e w3 ⟨rr, rfl, hcase⟩
            rcases hcase with hb | ⟨rfl, vb', hn, ht, hf⟩
            · have HT2 := Lib.hid (show Turned (Bs bb pm bm vb) w2 w3 from (Turned.refl _ w2).drew.trans (Turned.of_below hb))
              have HBq := Lib.hid (show Below w2.heap.size w2 w3 from bch (below_drew1 (Below.refl _ w2)) hb (Nat.le_refl _))
              clear hb
              refine hK.out _ _ (HH.out _ (HT2.out)) (fun hHeld => ?_)
              clear hK K
              try simp only [Act.put, List.getElem_toArray, List.getElem_cons_zero, List.getElem_cons_succ, List.setIfInBounds_toArray, List.set_cons_zero, List.set_cons_succ]
              by_cases hr0 : rr = 0
              · subst hr0
                refine wpAnyH_take (i := 6) (v := ?vc6_142) rfl (by kernel_rfl) (by kernel_rfl) (by kernel_rfl) (fun _ _ _ h => h) (Or.inl ⟨by rfl, ?hyc6_142⟩) (by assumption) ?restc6_142
                case hyc6_142 => (intro w0 hSw; (try dsimp only at hSw); go_simp; try with_reducible rfl)
                case' restc6_142 => try simp only [Act.put, List.getElem_toArray, List.getElem_cons_zero, List.getElem_cons_succ, List.setIfInBounds_toArray, List.set_cons_zero, List.set_cons_succ]
                refine wpAnyH_take (i := 7) (v := ?vc7_143) rfl (by kernel_rfl) (by kernel_rfl) (by kernel_rfl) (fun _ _ _ h => h) (Or.inl ⟨by rfl, ?hyc7_143⟩) (by assumption) ?restc7_143
                case hyc7_143 => (intro w0 hSw; (try dsimp only at hSw); go_simp; try with_reducible rfl)
                case' restc7_143 => try simp only [Act.put, List.getElem_toArray, List.getElem_cons_zero, List.getElem_cons_succ, List.setIfInBounds_toArray, List.set_cons_zero, List.set_cons_succ]
                refine wpAnyH_take (i := 8) (v := ?vc8_144) rfl (by kernel_rfl) (by kernel_rfl) (by kernel_rfl) (fun _ _ _ h => h) (Or.inl ⟨by rfl, ?hyc8_144⟩) (by assumption) ?restc8_144
                case hyc8_144 => (intro w0 hSw; (try dsimp only at hSw); go_simp; try with_reducible rfl)
                case' restc8_144 => try simp only [Act.put, List.getElem_toArray, List.getElem_cons_zero, List.getElem_cons_succ, List.setIfInBounds_toArray, List.set_cons_zero, List.set_cons_succ]
                refine wpAnyH_take (i := 9) (v := ?vc9_145) rfl (by kernel_rfl) (by kernel_rfl) (by kernel_rfl) (fun _ _ _ h => h) (Or.inl ⟨by rfl, ?hyc9_145⟩) (by assumption) ?restc9_145
                case hyc9_145 => (intro w0 hSw; (try dsimp only at hSw); go_simp; try with_reducible rfl)
                case' restc9_145 => try simp only [Act.put, List.getElem_toArray, List.getElem_cons_zero, List.getElem_cons_succ, List.setIfInBounds_toArray, List.set_cons_zero, List.set_cons_succ]
                refine wpAnyH_take (i := 10) (v := ?vc10_146) rfl (by kernel_rfl) (by kernel_rfl) (by kernel_rfl) (fun _ _ _ h => h) (Or.inl ⟨by rfl, ?hyc10_146⟩) (by assumption) ?restc10_146
                case hyc10_146 => (intro w0 hSw; (try dsimp only at hSw); go_simp; try with_reducible rfl)
                case' restc10_146 => try simp only [Act.put, List.getElem_toArray, List.getElem_cons_zero, List.getElem_cons_succ, List.setIfInBounds_toArray, List.set_cons_zero, List.set_cons_succ]
                refine wpAnyH_take (i := 11) (v := ?vc11_147) rfl (by kernel_rfl) (by kernel_rfl) (by kernel_rfl) (fun _ _ _ h => h) (Or.inl ⟨by rfl, ?hyc11_147⟩) (by assumption) ?restc11_147
                case hyc11_147 => (intro w0 hSw; (try dsimp only at hSw); go_simp; try with_reducible rfl)
                case' restc11_147 => try simp only [Act.put, List.getElem_toArray, List.getElem_cons_zero, List.getElem_cons_succ, List.setIfInBounds_toArray, List.set_cons_zero, List.set_cons_succ]
                refine wpAnyH_take (i := 13) (v := ?vc13_148) rfl (by kernel_rfl) (by kernel_rfl) (by kernel_rfl) (fun _ _ _ h => h) (Or.inl ⟨by rfl, ?hyc13_148⟩) (by assumption) ?restc13_148
                case hyc13_148 => (intro w0 hSw; (try dsimp only at hSw); go_simp; try with_reducible rfl)
                case' restc13_148 => try simp only [Act.put, List.getElem_toArray, List.getElem_cons_zero, List.getElem_cons_succ, List.setIfInBounds_toArray, List.set_cons_zero, List.set_cons_succ]
                refine wpAnyH_take (i := 14) (v := ?vc14_149) rfl (by kernel_rfl) (by kernel_rfl) (by kernel_rfl) (fun _ _ _ h => h) (Or.inl ⟨by rfl, ?hyc14_149⟩) (by assumption) ?restc14_149
                case hyc14_149 => (intro w0 hSw; (try dsimp only at hSw); go_simp; try with_reducible rfl)
                case' restc14_149 => try simp only [Act.put, List.getElem_toArray, List.getElem_cons_zero, List.getElem_cons_succ, List.setIfInBounds_toArray, List.set_cons_zero, List.set_cons_succ]
                have HMY := Lib.hid (bmany_any (HC2.out.bk.below HBq.out))
                rw [hlk2] at HMY
                have qk := bneT (show ¬ (k : Int) = (k : Int) + 1 by omega)
                refine wpAnyH_ready (rs := [12]) (by kernel_rfl) (by simp) ?_
                refine AllReadyH.cons rfl (fun K hK => ?_) AllReadyH.nil
                go_simp
                refine HMY.out.mono ?_; rintro e w4 ⟨rfl, hw⟩; subst hw
                refine hK.out _ _ (by assumption) (fun hHeld => ?_)
                clear hK K
                try simp only [Act.put, List.getElem_toArray, List.getElem_cons_zero, List.getElem_cons_succ, List.setIfInBounds_toArray, List.set_cons_zero, List.set_cons_succ]
                refine wpAnyH_take (i := 15) (v := ?vc15_150) rfl (by kernel_rfl) (by kernel_rfl) (by kernel_rfl) (fun _ _ _ h => h) (Or.inl ⟨by rfl, ?hyc15_150⟩) (by assumption) ?restc15_150
                case hyc15_150 => (intro w0 hSw; (try dsimp only at hSw); go_simp; try with_reducible rfl)
                case' restc15_150 => try simp only [Act.put, List.getElem_toArray, List.getElem_cons_zero, List.getElem_cons_succ, List.setIfInBounds_toArray, List.set_cons_zero, List.set_cons_succ]
                refine wpAnyH_take (i := 16) (v := ?vc16_151) rfl (by kernel_rfl) (by kernel_rfl) (by kernel_rfl) (fun _ _ _ h => h) (Or.inl ⟨by rfl, ?hyc16_151⟩) (by assumption) ?restc16_151
                case hyc16_151 => (intro w0 hSw; (try dsimp only at hSw); go_simp; try with_reducible rfl)
                case' restc16_151 => try simp only [Act.put, List.getElem_toArray, List.getElem_cons_zero, List.getElem_cons_succ, List.setIfInBounds_toArray, List.set_cons_zero, List.set_cons_succ]
                refine wpAnyH_done (by kernel_rfl) ?_ _
                refine NoPanic.normal ?_
                have HBN := Lib.hid (bch HB2.out HBq.out HB2.out.size)
                clear hHeld HH HT2
                go_wp2_with fail
                go_ret2
                exact OfPost.no HNP.out rfl (bch HB.out HBN.out HB.out.size)
              · have qr := bneT hr0
                refine wpAnyH_take (i := 6) (v := ?vc6_152) rfl (by kernel_rfl) (by kernel_rfl) (by kernel_rfl) (fun _ _ _ h => h) (Or.inl ⟨by rfl, ?hyc6_152⟩) (by assumption) ?restc6_152
                case hyc6_152 => (intro w0 hSw; (try dsimp only at hSw); go_simp; try with_reducible rfl)
                case' restc6_152 => try simp only [Act.put, List.getElem_toArray, List.getElem_cons_zero, List.getElem_cons_succ, List.setIfInBounds_toArray, List.set_cons_zero, List.set_cons_succ]
                refine wpAnyH_take (i := 7) (v := ?vc7_153) rfl (by kernel_rfl) (by kernel_rfl) (by kernel_rfl) (fun _ _ _ h => h) (Or.inl ⟨by rfl, ?hyc7_153⟩) (by assumption) ?restc7_153
                case hyc7_153 => (intro w0 hSw; (try dsimp only at hSw); go_simp; try with_reducible rfl)
                case' restc7_153 => try simp only [Act.put, List.getElem_toArray, List.getElem_cons_zero, List.getElem_cons_succ, List.setIfInBounds_toArray, List.set_cons_zero, List.set_cons_succ]
                refine wpAnyH_take (i := 8) (v := undef) rfl (by kernel_rfl) (by kernel_rfl) (by kernel_rfl) (fun _ _ _ h => h) (Or.inr ⟨by rfl, rfl⟩) (by assumption) ?_
                try simp only [Act.put, List.getElem_toArray, List.getElem_cons_zero, List.getElem_cons_succ, List.setIfInBounds_toArray, List.set_cons_zero, List.set_cons_succ]
                refine wpAnyH_take (i := 9) (v := undef) rfl (by kernel_rfl) (by kernel_rfl) (by kernel_rfl) (fun _ _ _ h => h) (Or.inr ⟨by rfl, rfl⟩) (by assumption) ?_
                try simp only [Act.put, List.getElem_toArray, List.getElem_cons_zero, List.getElem_cons_succ, List.setIfInBounds_toArray, List.set_cons_zero, List.set_cons_succ]
                refine wpAnyH_take (i := 10) (v := undef) rfl (by kernel_rfl) (by kernel_rfl) (by kernel_rfl) (fun _ _ _ h => h) (Or.inr ⟨by rfl, rfl⟩) (by assumption) ?_
                try simp only [Act.put, List.getElem_toArray, List.getElem_cons_zero, List.getElem_cons_succ, List.setIfInBounds_toArray, List.set_cons_zero, List.set_cons_succ]
                refine wpAnyH_take (i := 11) (v := undef) rfl (by kernel_rfl) (by kernel_rfl) (by kernel_rfl) (fun _ _ _ h => h) (Or.inr ⟨by rfl, rfl⟩) (by assumption) ?_
                try simp only [Act.put, List.getElem_toArray, List.getElem_cons_zero, List.getElem_cons_succ, List.setIfInBounds_toArray, List.set_cons_zero, List.set_cons_succ]
                refine wpAnyH_take (i := 12) (v := undef) rfl (by kernel_rfl) (by kernel_rfl) (by kernel_rfl) (fun _ _ _ h => h) (Or.inr ⟨by rfl, rfl⟩) (by assumption) ?_
                try simp only [Act.put, List.getElem_toArray, List.getElem_cons_zero, List.getElem_cons_succ, List.setIfInBounds_toArray, List.set_cons_zero, List.set_cons_succ]
                refine wpAnyH_take (i := 13) (v := undef) rfl (by kernel_rfl) (by kernel_rfl) (by kernel_rfl) (fun _ _ _ h => h) (Or.inr ⟨by rfl, rfl⟩) (by assumption) ?_
                try simp only [Act.put, List.getElem_toArray, List.getElem_cons_zero, List.getElem_cons_succ, List.setIfInBounds_toArray, List.set_cons_zero, List.set_cons_succ]
                refine wpAnyH_take (i := 14) (v := undef) rfl (by kernel_rfl) (by kernel_rfl) (by kernel_rfl) (fun _ _ _ h => h) (Or.inr ⟨by rfl, rfl⟩) (by assumption) ?_
                try simp only [Act.put, List.getElem_toArray, List.getElem_cons_zero, List.getElem_cons_succ, List.setIfInBounds_toArray, List.set_cons_zero, List.set_cons_succ]
                refine wpAnyH_take (i := 15) (v := undef) rfl (by kernel_rfl) (by kernel_rfl) (by kernel_rfl) (fun _ _ _ h => h) (Or.inr ⟨by rfl, rfl⟩) (by assumption) ?_
                try simp only [Act.put, List.getElem_toArray, List.getElem_cons_zero, List.getElem_cons_succ, List.setIfInBounds_toArray, List.set_cons_zero, List.set_cons_succ]
                refine wpAnyH_take (i := 16) (v := ?vc16_154) rfl (by kernel_rfl) (by kernel_rfl) (by kernel_rfl) (fun _ _ _ h => h) (Or.inl ⟨by rfl, ?hyc16_154⟩) (by assumption) ?restc16_154
                case hyc16_154 => (intro w0 hSw; (try dsimp only at hSw); go_simp; try with_reducible rfl)
                case' restc16_154 => try simp only [Act.put, List.getElem_toArray, List.getElem_cons_zero, List.getElem_cons_succ, List.setIfInBounds_toArray, List.set_cons_zero, List.set_cons_succ]
                refine wpAnyH_done (by kernel_rfl) ?_ _
                refine NoPanic.normal ?_
                have HBN := Lib.hid (bch HB2.out HBq.out HB2.out.size)
                clear hHeld HH HT2
                go_wp2_with fail
                go_ret2
                exact OfPost.no HNP.out rfl (bch HB.out HBN.out HB.out.size)
            · rw [← HTK.out] at hn
              have HN := Lib.hid hn; have HT2 := Lib.hid (show Turned (Bs bb pm bm vb) w2 w3 from (Turned.refl _ w2).drew.trans ht); have HFA := Lib.hid hf
              clear hn ht hf
              refine hK.out _ _ (HH.out _ (HT2.out)) (fun hHeld => ?_)
              clear hK K
              try simp only [Act.put, List.getElem_toArray, List.getElem_cons_zero, List.getElem_cons_succ, List.setIfInBounds_toArray, List.set_cons_zero, List.set_cons_succ]
              refine wpAnyH_take (i := 6) (v := ?vc6_155) rfl (by kernel_rfl) (by kernel_rfl) (by kernel_rfl) (fun _ _ _ h => h) (Or.inl ⟨by rfl, ?hyc6_155⟩) (by assumption) ?restc6_155
              case hyc6_155 => (intro w0 hSw; (try dsimp only at hSw); go_simp; try with_reducible rfl)
              case' restc6_155 => try simp only [Act.put, List.getElem_toArray, List.getElem_cons_zero, List.getElem_cons_succ, List.setIfInBounds_toArray, List.set_cons_zero, List.set_cons_succ]
              refine wpAnyH_take (i := 7) (v := ?vc7_156) rfl (by kernel_rfl) (by kernel_rfl) (by kernel_rfl) (fun _ _ _ h => h) (Or.inl ⟨by rfl, ?hyc7_156⟩) (by assumption) ?restc7_156
              case hyc7_156 => (intro w0 hSw; (try dsimp only at hSw); go_simp; try with_reducible rfl)
              case' restc7_156 => try simp only [Act.put, List.getElem_toArray, List.getElem_cons_zero, List.getElem_cons_succ, List.setIfInBounds_toArray, List.set_cons_zero, List.set_cons_succ]
              refine wpAnyH_take (i := 8) (v := ?vc8_157) rfl (by kernel_rfl) (by kernel_rfl) (by kernel_rfl) (fun _ _ _ h => h) (Or.inl ⟨by rfl, ?hyc8_157⟩) (by assumption) ?restc8_157
              case hyc8_157 => (intro w0 hSw; (try dsimp only at hSw); go_simp; try with_reducible rfl)
              case' restc8_157 => try simp only [Act.put, List.getElem_toArray, List.getElem_cons_zero, List.getElem_cons_succ, List.setIfInBounds_toArray, List.set_cons_zero, List.set_cons_succ]
              refine wpAnyH_take (i := 9) (v := ?vc9_158) rfl (by kernel_rfl) (by kernel_rfl) (by kernel_rfl) (fun _ _ _ h => h) (Or.inl ⟨by rfl, ?hyc9_158⟩) (by assumption) ?restc9_158
              case hyc9_158 => (intro w0 hSw; (try dsimp only at hSw); go_simp; try with_reducible rfl)
              case' restc9_158 => try simp only [Act.put, List.getElem_toArray, List.getElem_cons_zero, List.getElem_cons_succ, List.setIfInBounds_toArray, List.set_cons_zero, List.set_cons_succ]
              refine wpAnyH_take (i := 10) (v := ?vc10_159) rfl (by kernel_rfl) (by kernel_rfl) (by kernel_rfl) (fun _ _ _ h => h) (Or.inl ⟨by rfl, ?hyc10_159⟩) (by assumption) ?restc10_159
              case hyc10_159 => (intro w0 hSw; (try dsimp only at hSw); go_simp; try with_reducible rfl)
              case' restc10_159 => try simp only [Act.put, List.getElem_toArray, List.getElem_cons_zero, List.getElem_cons_succ, List.setIfInBounds_toArray, List.set_cons_zero, List.set_cons_succ]
              refine wpAnyH_take (i := 11) (v := ?vc11_160) rfl (by kernel_rfl) (by kernel_rfl) (by kernel_rfl) (fun _ _ _ h => h) (Or.inl ⟨by rfl, ?hyc11_160⟩) (by assumption) ?restc11_160
              case hyc11_160 => (intro w0 hSw; (try dsimp only at hSw); go_simp; try with_reducible rfl)
              case' restc11_160 => try simp only [Act.put, List.getElem_toArray, List.getElem_cons_zero, List.getElem_cons_succ, List.setIfInBounds_toArray, List.set_cons_zero, List.set_cons_succ]
              refine wpAnyH_take (i := 13) (v := ?vc13_161) rfl (by kernel_rfl) (by kernel_rfl) (by kernel_rfl) (fun _ _ _ h => h) (Or.inl ⟨by rfl, ?hyc13_161⟩) (by assumption) ?restc13_161
              case hyc13_161 => (intro w0 hSw; (try dsimp only at hSw); go_simp; try with_reducible rfl)
              case' restc13_161 => try simp only [Act.put, List.getElem_toArray, List.getElem_cons_zero, List.getElem_cons_succ, List.setIfInBounds_toArray, List.set_cons_zero, List.set_cons_succ]
              refine wpAnyH_take (i := 14) (v := ?vc14_162) rfl (by kernel_rfl) (by kernel_rfl) (by kernel_rfl) (fun _ _ _ h => h) (Or.inl ⟨by rfl, ?hyc14_162⟩) (by assumption) ?restc14_162
              case hyc14_162 => (intro w0 hSw; (try dsimp only at hSw); go_simp; try with_reducible rfl)
              case' restc14_162 => try simp only [Act.put, List.getElem_toArray, List.getElem_cons_zero, List.getElem_cons_succ, List.setIfInBounds_toArray, List.set_cons_zero, List.set_cons_succ]
              have HMY := Lib.hid (bmany_any HN.out)
              rw [hlk3, show (((k + 1 : Nat)) : Int) = (k : Int) + 1 from by omega] at HMY
              refine wpAnyH_ready (rs := [12]) (by kernel_rfl) (by simp) ?_
              refine AllReadyH.cons rfl (fun K hK => ?_) AllReadyH.nil
              go_simp
              refine HMY.out.mono ?_; rintro e w4 ⟨rfl, hw⟩; subst hw
              refine hK.out _ _ (by assumption) (fun hHeld => ?_)
              clear hK K
              try simp only [Act.put, List.getElem_toArray, List.getElem_cons_zero, List.getElem_cons_succ, List.setIfInBounds_toArray, List.set_cons_zero, List.set_cons_succ]
              refine wpAnyH_take (i := 15) (v := ?vc15_163) rfl (by kernel_rfl) (by kernel_rfl) (by kernel_rfl) (fun _ _ _ h => h) (Or.inl ⟨by rfl, ?hyc15_163⟩) (by assumption) ?restc15_163
              case hyc15_163 => (intro w0 hSw; (try dsimp only at hSw); go_simp; try with_reducible rfl)
              case' restc15_163 => try simp only [Act.put, List.getElem_toArray, List.getElem_cons_zero, List.getElem_cons_succ, List.setIfInBounds_toArray, List.set_cons_zero, List.set_cons_succ]
              refine wpAnyH_take (i := 16) (v := ?vc16_164) rfl (by kernel_rfl) (by kernel_rfl) (by kernel_rfl) (fun _ _ _ h => h) (Or.inl ⟨by rfl, ?hyc16_164⟩) (by assumption) ?restc16_164
              case hyc16_164 => (intro w0 hSw; (try dsimp only at hSw); go_simp; try with_reducible rfl)
              case' restc16_164 => try simp only [Act.put, List.getElem_toArray, List.getElem_cons_zero, List.getElem_cons_succ, List.setIfInBounds_toArray, List.set_cons_zero, List.set_cons_succ]
              refine wpAnyH_done (by kernel_rfl) ?_ _
              refine NoPanic.normal ?_
              have HNEW := Lib.hid (show Cw wa.heap.size w3 cb bb pm bm vl vb' vIn0 ⟨L, P.take (k + 1), In.nil⟩ from HC2.out.post HN.out HT2.out (fun j hj => by rcases HFA.out j hj with h | h; exact .inl h; right; simpa using h))
              have HBN := Lib.hid (show Below wa.heap.size wa w3 from Below.turned HB2.out HT2.out (fun i h => (HC2.out.bk.ls h).1) HB2.out.size)
              clear hHeld HH HN HT2 HFA
              go_wp2_with fail
              go_roundw
              case rel => exact ⟨k + 1, vb', by go_num, by omega, HNEW.out, HBN.out⟩
              case measure => simp [intOf]; omega
        · obtain rfl : k = P.length := by omega
          rw [List.take_length] at HC
          have HX3 := Lib.hid ((HBr.out.block _ hw0).trans HX0.out)
          obtain ⟨m0, m1, m2, m3, m4, m5, m6, m7, m8, m9, m10⟩ := cell11 HX3.out
          go_wp2_with fail
          go_loopw [85] (fun i wr => ∃ (k : Nat) (vI : Value), i = .int .i64 k ∧ k ≤ 3 ∧ Hid (Cw wa.heap.size wr cb bb pm bm vl vb vI ⟨L, P, inTo I k⟩) ∧ Hid (Below wa.heap.size wa wr) ∧ Hid (∀ j, j < wa.heap.size → Av j vI (inTo I k))) (fun i _ => 3 - (intOf i).toNat)
          case atStart => exact ⟨0, _, rfl, by omega, HC.out, HBr.out, fun j _ => Av.nil j⟩
          case round =>
            clear HC HBr m0 m1 m2 m3 m4 m5 m6 m7 m8 m9 m10
            obtain ⟨k, vI, rfl, hk, HC, HBr, HAVI⟩ := hrel
            rcases (show k = 0 ∨ k = 1 ∨ k = 2 ∨ k = 3 by omega) with rfl | rfl | rfl | rfl
            · have hst : (I.a = In.noS ∧ inTo I 1 = inTo I 0) ∨ (I.a.2.1 ≠ 0 ∧ I.a.1 = 0 ∧ In.accE (inTo I 0) I.a = 0 ∧ In.accI (inTo I 0) I.a = inTo I 1) := inTo_step HFI.out 0 (by omega)
              have hix := fun W => idx3_0 I.a.1 I.a.2.1 I.b.1 I.b.2.1 I.c.1 I.c.2.1 (.slice A0 I.a.2.2.length c0) (.slice A1 I.b.2.2.length c1) (.slice A2 I.c.2.2.length c2) W
              go_upto_region 20 with (fail)
              obtain ⟨w2, hw2⟩ : ∃ w2, w2 = wr.alloc (.cells #[.int .i64 I.a.1, .int .i64 I.a.2.1, .slice A0 I.a.2.2.length c0] tStat) := ⟨_, rfl⟩
              rw [← hw2]
              have hb2 : Below wr.heap.size wr w2 := by rw [hw2]; exact below_alloc _ _
              have HX2 := Lib.hid (show w2.heap[wr.heap.size]? = some (.cells #[.int .i64 I.a.1, .int .i64 I.a.2.1, .slice A0 I.a.2.2.length c0] tStat (0, 0)) by rw [hw2]; exact heap_new _ _)
              have HC2 := Lib.hid (HC.out.below hb2); have HB2 := Lib.hid (bch HBr.out hb2 HBr.out.size)
              have hcs : ∀ j, Cs cb bb pm bm vl vb j → j < w2.heap.size := fun j hj => (HC2.out.ls hj).2
              clear hw2 hix
              obtain ⟨bx, hbx⟩ : ∃ bx, wr.heap.size = bx := ⟨_, rfl⟩
              rw [hbx] at HX2 ⊢
              have hbx2 : bx < w2.heap.size := heap_lt HX2.out
              clear hbx hb2
              obtain ⟨k0, k1, k2⟩ := cell3c HX2.out
              rcases hst with ⟨e1, e2⟩ | ⟨g1, g2, g3, g4⟩
              · have q1 := beqT (show I.a.2.1 = 0 by rw [e1]; rfl)
                have q2 := beqT (show (I.a.2.2.length : Int) = 0 by rw [e1]; rfl)
                have q3 := beqT (show I.a.1 = 0 by rw [e1]; rfl)
                have HE2 := Lib.hid e2
                clear e1 e2
                go_wp2_with fail
                go_roundw
                case rel => exact ⟨1, vI, rfl, by omega, by rw [HE2.out]; exact HC2.out, HB2.out, by rw [HE2.out]; exact HAVI.out⟩
                case measure => simp [intOf]
              · have q1 := beqF g1
                have q2 := bneF g2
                obtain ⟨K, hK⟩ : ∃ K, inTo I 0 = K := ⟨_, rfl⟩
                obtain ⟨J, hJ⟩ : ∃ J, inTo I 1 = J := ⟨_, rfl⟩
                have hFK : In.Fine K := by rw [← hK]; exact inTo_fine HFI.out 0
                have hFJ : In.Fine J := by rw [← hJ]; exact inTo_fine HFI.out 1
                rw [hK] at HC2 g3 g4 HAVI
                rw [hJ] at g4
                have HII := Lib.hid HC2.out.ii
                obtain ⟨D0, Dn0, Dc0, D1, Dn1, Dc1, D2, Dn2, Dc2, m, hvI, _⟩ := HC2.out.ii
                subst hvI
                have HCC := Lib.hid (show w2.heap[cb]? = some (.cells #[vl, .pointer (some ⟨bb, 0, none⟩), .int .i64 K.a.1, .int .i64 K.a.2.1, .slice D0 Dn0 Dc0, .int .i64 K.b.1, .int .i64 K.b.2.1, .slice D1 Dn1 Dc1, .int .i64 K.c.1, .int .i64 K.c.2.1, .slice D2 Dn2 Dc2, .map m] tCore (0, 0)) by simpa [inn10] using HC2.out.hc)
                have HACC := Lib.hid (fun W (hW : Below w2.heap.size w2 W) => g4 ▸ accept_ok W _ K I.a _ (HII.out.below hW) (HR0.out.keep (bch HB2.out hW HB2.out.size)) (HTT.out.below (bch HB2.out hW HB2.out.size)) hFK g3)
                have HJ := Lib.hid hJ; have HFJ := Lib.hid hFJ
                clear hK hJ hFK hFJ g1 g2 g3 g4 HC
                go_wp2_with fail
                obtain ⟨y0, y1, y2, y3, y4, y5, y6, y7, y8, y9, y10, y11⟩ := cell12 HCC.out
                go_cut [11, 12] from 103 to 111 (fun p ee wx => ∃ b5 v1, p = .pointer (some ⟨b5, 0, none⟩) ∧ ee = .int .i64 0 ∧ w2.heap.size ≤ b5 ∧ Bx wx b5 tIn v1 ∧ InP wx v1 J ∧ (∀ j, j < w2.heap.size → Av j (.agg #[.int .i64 K.a.1, .int .i64 K.a.2.1, .slice D0 Dn0 Dc0, .int .i64 K.b.1, .int .i64 K.b.2.1, .slice D1 Dn1 Dc1, .int .i64 K.c.1, .int .i64 K.c.2.1, .slice D2 Dn2 Dc2, .map m]) K → Av j v1 J) ∧ Av b5 v1 J ∧ Below w2.heap.size w2 wx)
                case first =>
                  have HH := Lib.hid (fun W (hb : Below w2.heap.size w2 W) => (⟨Lib.hid hb, (hb.cell (World.block_lt_of_cell? w2 _ y2)).trans y2, (hb.cell (World.block_lt_of_cell? w2 _ y3)).trans y3, (hb.cell (World.block_lt_of_cell? w2 _ y4)).trans y4, (hb.cell (World.block_lt_of_cell? w2 _ y5)).trans y5, (hb.cell (World.block_lt_of_cell? w2 _ y6)).trans y6, (hb.cell (World.block_lt_of_cell? w2 _ y7)).trans y7, (hb.cell (World.block_lt_of_cell? w2 _ y8)).trans y8, (hb.cell (World.block_lt_of_cell? w2 _ y9)).trans y9, (hb.cell (World.block_lt_of_cell? w2 _ y10)).trans y10, (hb.cell (World.block_lt_of_cell? w2 _ y11)).trans y11, (hb.cell (World.block_lt_of_cell? w2 _ k0)).trans k0, (hb.cell (World.block_lt_of_cell? w2 _ k1)).trans k1, (hb.cell (World.block_lt_of_cell? w2 _ k2)).trans k2⟩ : (fun w' => Hid (Below w2.heap.size w2 w') ∧ w'.cell? ⟨cb, 2, none⟩ = some (.int .i64 K.a.1) ∧ w'.cell? ⟨cb, 3, none⟩ = some (.int .i64 K.a.2.1) ∧ w'.cell? ⟨cb, 4, none⟩ = some (.slice D0 Dn0 Dc0) ∧ w'.cell? ⟨cb, 5, none⟩ = some (.int .i64 K.b.1) ∧ w'.cell? ⟨cb, 6, none⟩ = some (.int .i64 K.b.2.1) ∧ w'.cell? ⟨cb, 7, none⟩ = some (.slice D1 Dn1 Dc1) ∧ w'.cell? ⟨cb, 8, none⟩ = some (.int .i64 K.c.1) ∧ w'.cell? ⟨cb, 9, none⟩ = some (.int .i64 K.c.2.1) ∧ w'.cell? ⟨cb, 10, none⟩ = some (.slice D2 Dn2 Dc2) ∧ w'.cell? ⟨cb, 11, none⟩ = some (.map m) ∧ w'.cell? ⟨bx, 0, none⟩ = some (.int .i64 I.a.1) ∧ w'.cell? ⟨bx, 1, none⟩ = some (.int .i64 I.a.2.1) ∧ w'.cell? ⟨bx, 2, none⟩ = some (.slice A0 I.a.2.2.length c0)) W))
                  refine wp_region_noPanic ?_
                  refine wp_region_held_drew (S := (fun w' => Hid (Below w2.heap.size w2 w') ∧ w'.cell? ⟨cb, 2, none⟩ = some (.int .i64 K.a.1) ∧ w'.cell? ⟨cb, 3, none⟩ = some (.int .i64 K.a.2.1) ∧ w'.cell? ⟨cb, 4, none⟩ = some (.slice D0 Dn0 Dc0) ∧ w'.cell? ⟨cb, 5, none⟩ = some (.int .i64 K.b.1) ∧ w'.cell? ⟨cb, 6, none⟩ = some (.int .i64 K.b.2.1) ∧ w'.cell? ⟨cb, 7, none⟩ = some (.slice D1 Dn1 Dc1) ∧ w'.cell? ⟨cb, 8, none⟩ = some (.int .i64 K.c.1) ∧ w'.cell? ⟨cb, 9, none⟩ = some (.int .i64 K.c.2.1) ∧ w'.cell? ⟨cb, 10, none⟩ = some (.slice D2 Dn2 Dc2) ∧ w'.cell? ⟨cb, 11, none⟩ = some (.map m) ∧ w'.cell? ⟨bx, 0, none⟩ = some (.int .i64 I.a.1) ∧ w'.cell? ⟨bx, 1, none⟩ = some (.int .i64 I.a.2.1) ∧ w'.cell? ⟨bx, 2, none⟩ = some (.slice A0 I.a.2.2.length c0))) (by kernel_rfl) (HH.out _ (below_drew1 (Below.refl w2.heap.size w2))) (fun hHeld => ?_)
                  refine wpAnyH_take (i := 0) (v := ?vc0_91) rfl (by kernel_rfl) (by kernel_rfl) (by kernel_rfl) (fun _ _ _ h => h) (Or.inl ⟨by rfl, ?hyc0_91⟩) (by assumption) ?restc0_91
                  case hyc0_91 => (intro w0 hSw; (try dsimp only at hSw); go_simp; try with_reducible rfl)
                  case' restc0_91 => try simp only [Act.put, List.getElem_toArray, List.getElem_cons_zero, List.getElem_cons_succ, List.setIfInBounds_toArray, List.set_cons_zero, List.set_cons_succ]
                  refine wpAnyH_take (i := 1) (v := ?vc1_92) rfl (by kernel_rfl) (by kernel_rfl) (by kernel_rfl) (fun _ _ _ h => h) (Or.inl ⟨by rfl, ?hyc1_92⟩) (by assumption) ?restc1_92
                  case hyc1_92 => (intro w0 hSw; (try dsimp only at hSw); go_simp; try with_reducible rfl)
                  case' restc1_92 => try simp only [Act.put, List.getElem_toArray, List.getElem_cons_zero, List.getElem_cons_succ, List.setIfInBounds_toArray, List.set_cons_zero, List.set_cons_succ]
                  refine wpAnyH_take (i := 2) (v := ?vc2_93) rfl (by kernel_rfl) (by kernel_rfl) (by kernel_rfl) (fun _ _ _ h => h) (Or.inl ⟨by rfl, ?hyc2_93⟩) (by assumption) ?restc2_93
                  case hyc2_93 => (intro w0 hSw; (try dsimp only at hSw); go_simp; try with_reducible rfl)
                  case' restc2_93 => try simp only [Act.put, List.getElem_toArray, List.getElem_cons_zero, List.getElem_cons_succ, List.setIfInBounds_toArray, List.set_cons_zero, List.set_cons_succ]
                  refine wpAnyH_take (i := 3) (v := ?vc3_94) rfl (by kernel_rfl) (by kernel_rfl) (by kernel_rfl) (fun _ _ _ h => h) (Or.inl ⟨by rfl, ?hyc3_94⟩) (by assumption) ?restc3_94
                  case hyc3_94 => (intro w0 hSw; (try dsimp only at hSw); go_simp; try with_reducible rfl)
                  case' restc3_94 => try simp only [Act.put, List.getElem_toArray, List.getElem_cons_zero, List.getElem_cons_succ, List.setIfInBounds_toArray, List.set_cons_zero, List.set_cons_succ]
                  refine wpAnyH_take (i := 4) (v := ?vc4_95) rfl (by kernel_rfl) (by kernel_rfl) (by kernel_rfl) (fun _ _ _ h => h) (Or.inl ⟨by rfl, ?hyc4_95⟩) (by assumption) ?restc4_95
                  case hyc4_95 => (intro w0 hSw; (try dsimp only at hSw); go_simp; try with_reducible rfl)
                  case' restc4_95 => try simp only [Act.put, List.getElem_toArray, List.getElem_cons_zero, List.getElem_cons_succ, List.setIfInBounds_toArray, List.set_cons_zero, List.set_cons_succ]
                  refine wpAnyH_ready (rs := [5, 9]) (by kernel_rfl) (by simp) ?_
                  refine AllReadyH.cons rfl (fun K hK => ?_) (AllReadyH.cons rfl (fun K hK => ?_) AllReadyH.nil)
                  · go_simp
                    refine (HACC.out _ (below_drew1 (Below.refl w2.heap.size w2))).mono ?_
                    rintro e w3 ⟨v1, rfl, hv, hav, hb⟩
                    have HV1 := Lib.hid hv; have HAV1 := Lib.hid hav
                    obtain ⟨C0, Cn0, Cc0, C1, Cn1, Cc1, C2, Cn2, Cc2, mc, rfl, _⟩ := hv
                    clear hav
                    have HW1 := Lib.hid (bch (below_drew1 (Below.refl w2.heap.size w2)) hb (Below.size (below_drew1 (Below.refl w2.heap.size w2))))
                    refine hK.out _ _ (HH.out _ (HW1.out)) (fun hHeld => ?_)
                    clear hK K
                    try simp only [Act.put, List.getElem_toArray, List.getElem_cons_zero, List.getElem_cons_succ, List.setIfInBounds_toArray, List.set_cons_zero, List.set_cons_succ]
                    refine wpAnyH_take (i := 6) (v := ?vc6_83) rfl (by kernel_rfl) (by kernel_rfl) (by kernel_rfl) (fun _ _ _ h => h) (Or.inl ⟨by rfl, ?hyc6_83⟩) (by assumption) ?restc6_83
                    case hyc6_83 => (intro w0 hSw; (try dsimp only at hSw); go_simp; try with_reducible rfl)
                    case' restc6_83 => try simp only [Act.put, List.getElem_toArray, List.getElem_cons_zero, List.getElem_cons_succ, List.setIfInBounds_toArray, List.set_cons_zero, List.set_cons_succ]
                    refine wpAnyH_take (i := 7) (v := ?vc7_84) rfl (by kernel_rfl) (by kernel_rfl) (by kernel_rfl) (fun _ _ _ h => h) (Or.inl ⟨by rfl, ?hyc7_84⟩) (by assumption) ?restc7_84
                    case hyc7_84 => (intro w0 hSw; (try dsimp only at hSw); go_simp; try with_reducible rfl)
                    case' restc7_84 => try simp only [Act.put, List.getElem_toArray, List.getElem_cons_zero, List.getElem_cons_succ, List.setIfInBounds_toArray, List.set_cons_zero, List.set_cons_succ]
                    refine wpAnyH_take (i := 8) (v := ?vc8_85) rfl (by kernel_rfl) (by kernel_rfl) (by kernel_rfl) (fun _ _ _ h => h) (Or.inl ⟨by rfl, ?hyc8_85⟩) (by assumption) ?restc8_85
                    case hyc8_85 => (intro w0 hSw; (try dsimp only at hSw); go_simp; try with_reducible rfl)
                    case' restc8_85 => try simp only [Act.put, List.getElem_toArray, List.getElem_cons_zero, List.getElem_cons_succ, List.setIfInBounds_toArray, List.set_cons_zero, List.set_cons_succ]
                    refine wpAnyH_ready (rs := [9]) (by kernel_rfl) (by simp) ?_
                    refine AllReadyH.cons rfl (fun K hK => ?_) AllReadyH.nil
                    go_simp
                    refine hK.out _ _ (HH.out _ (bch HW1.out (below_alloc w3 _) HW1.out.size)) (fun hHeld => ?_)
                    clear hK K
                    try simp only [Act.put, List.getElem_toArray, List.getElem_cons_zero, List.getElem_cons_succ, List.setIfInBounds_toArray, List.set_cons_zero, List.set_cons_succ]
                    refine wpAnyH_ready (rs := [10]) (by kernel_rfl) (by simp) ?_
                    refine AllReadyH.cons rfl (fun K hK => ?_) AllReadyH.nil
                    go_simp
                    refine hK.out _ _ (HH.out _ (bch HW1.out (below_alloc w3 _) HW1.out.size)) (fun hHeld => ?_)
                    clear hK K
                    try simp only [Act.put, List.getElem_toArray, List.getElem_cons_zero, List.getElem_cons_succ, List.setIfInBounds_toArray, List.set_cons_zero, List.set_cons_succ]
                    refine wpAnyH_take (i := 11) (v := ?vc11_86) rfl (by kernel_rfl) (by kernel_rfl) (by kernel_rfl) (fun _ _ _ h => h) (Or.inl ⟨by rfl, ?hyc11_86⟩) (by assumption) ?restc11_86
                    case hyc11_86 => (intro w0 hSw; (try dsimp only at hSw); go_simp; try with_reducible rfl)
                    case' restc11_86 => try simp only [Act.put, List.getElem_toArray, List.getElem_cons_zero, List.getElem_cons_succ, List.setIfInBounds_toArray, List.set_cons_zero, List.set_cons_succ]
                    refine wpAnyH_done (by kernel_rfl) ?_ _
                    refine NoPanic.normal ?_
                    go_wp2_with fail
                    go_meet
                    exact ⟨w3.heap.size, _, rfl, rfl, HW1.out.size, ⟨_, rfl, heap_new _ _⟩, HV1.out.below (below_alloc _ _), fun j hj ha => HAV1.out j (by simpa using hj) ha, Av.far HV1.out (Nat.le_refl _), bch HW1.out (below_alloc w3 _) HW1.out.size⟩
                  · go_simp
                    refine hK.out _ _ (HH.out _ (bch (below_drew1 (Below.refl w2.heap.size w2)) (below_alloc w2.drew _) (Nat.le_refl _))) (fun hHeld => ?_)
                    clear hK K
                    try simp only [Act.put, List.getElem_toArray, List.getElem_cons_zero, List.getElem_cons_succ, List.setIfInBounds_toArray, List.set_cons_zero, List.set_cons_succ]
                    refine wpAnyH_ready (rs := [5]) (by kernel_rfl) (by simp) ?_
                    refine AllReadyH.cons rfl (fun K hK => ?_) AllReadyH.nil
                    go_simp
                    have HBd := Lib.hid (bch (below_drew1 (Below.refl w2.heap.size w2)) (below_alloc w2.drew (.cells zIn tIn)) (Nat.le_refl _))
                    refine (HACC.out _ HBd.out).mono ?_
                    rintro e w3 ⟨v1, rfl, hv, hav, hb⟩
                    have HV1 := Lib.hid hv; have HAV1 := Lib.hid hav
                    obtain ⟨C0, Cn0, Cc0, C1, Cn1, Cc1, C2, Cn2, Cc2, mc, rfl, _⟩ := hv
                    clear hav
                    have HW1 := Lib.hid (bch HBd.out hb HBd.out.size)
                    refine hK.out _ _ (HH.out _ (HW1.out)) (fun hHeld => ?_)
                    clear hK K
                    try simp only [Act.put, List.getElem_toArray, List.getElem_cons_zero, List.getElem_cons_succ, List.setIfInBounds_toArray, List.set_cons_zero, List.set_cons_succ]
                    refine wpAnyH_take (i := 6) (v := ?vc6_87) rfl (by kernel_rfl) (by kernel_rfl) (by kernel_rfl) (fun _ _ _ h => h) (Or.inl ⟨by rfl, ?hyc6_87⟩) (by assumption) ?restc6_87
                    case hyc6_87 => (intro w0 hSw; (try dsimp only at hSw); go_simp; try with_reducible rfl)
                    case' restc6_87 => try simp only [Act.put, List.getElem_toArray, List.getElem_cons_zero, List.getElem_cons_succ, List.setIfInBounds_toArray, List.set_cons_zero, List.set_cons_succ]
                    refine wpAnyH_take (i := 7) (v := ?vc7_88) rfl (by kernel_rfl) (by kernel_rfl) (by kernel_rfl) (fun _ _ _ h => h) (Or.inl ⟨by rfl, ?hyc7_88⟩) (by assumption) ?restc7_88
                    case hyc7_88 => (intro w0 hSw; (try dsimp only at hSw); go_simp; try with_reducible rfl)
                    case' restc7_88 => try simp only [Act.put, List.getElem_toArray, List.getElem_cons_zero, List.getElem_cons_succ, List.setIfInBounds_toArray, List.set_cons_zero, List.set_cons_succ]
                    refine wpAnyH_take (i := 8) (v := ?vc8_89) rfl (by kernel_rfl) (by kernel_rfl) (by kernel_rfl) (fun _ _ _ h => h) (Or.inl ⟨by rfl, ?hyc8_89⟩) (by assumption) ?restc8_89
                    case hyc8_89 => (intro w0 hSw; (try dsimp only at hSw); go_simp; try with_reducible rfl)
                    case' restc8_89 => try simp only [Act.put, List.getElem_toArray, List.getElem_cons_zero, List.getElem_cons_succ, List.setIfInBounds_toArray, List.set_cons_zero, List.set_cons_succ]
                    have HZ0 := Lib.hid (show w3.heap[w2.heap.size]? = some (.cells zIn tIn (0, 0)) from heap_keep (heap_new w2.drew (.cells zIn tIn)) hb)
                    obtain ⟨z0, z1, z2, z3, z4, z5, z6, z7, z8, z9⟩ := cell10 HZ0.out
                    obtain ⟨f0, f1, f2, f3, f4, f5, f6, f7, f8, f9⟩ := froz10 HZ0.out
                    have HTu := Lib.hid (turned_set10 w3 w2.heap.size (.int .i64 J.a.1) (.int .i64 J.a.2.1) (.slice C0 Cn0 Cc0) (.int .i64 J.b.1) (.int .i64 J.b.2.1) (.slice C1 Cn1 Cc1) (.int .i64 J.c.1) (.int .i64 J.c.2.1) (.slice C2 Cn2 Cc2) (.map mc))
                    have HSET := Lib.hid (set10 HZ0.out (.int .i64 J.a.1) (.int .i64 J.a.2.1) (.slice C0 Cn0 Cc0) (.int .i64 J.b.1) (.int .i64 J.b.2.1) (.slice C1 Cn1 Cc1) (.int .i64 J.c.1) (.int .i64 J.c.2.1) (.slice C2 Cn2 Cc2) (.map mc))
                    unfold set10w at HTu HSET
                    have HWs := Lib.hid (Below.turned HW1.out HTu.out (fun i hi => by omega) (Below.size HW1.out))
                    refine wpAnyH_ready (rs := [10]) (by kernel_rfl) (by simp) ?_
                    refine AllReadyH.cons rfl (fun K hK => ?_) AllReadyH.nil
                    go_simp
                    refine hK.out _ _ (HH.out _ (HWs.out)) (fun hHeld => ?_)
                    clear hK K
                    try simp only [Act.put, List.getElem_toArray, List.getElem_cons_zero, List.getElem_cons_succ, List.setIfInBounds_toArray, List.set_cons_zero, List.set_cons_succ]
                    refine wpAnyH_take (i := 11) (v := ?vc11_90) rfl (by kernel_rfl) (by kernel_rfl) (by kernel_rfl) (fun _ _ _ h => h) (Or.inl ⟨by rfl, ?hyc11_90⟩) (by assumption) ?restc11_90
                    case hyc11_90 => (intro w0 hSw; (try dsimp only at hSw); go_simp; try with_reducible rfl)
                    case' restc11_90 => try simp only [Act.put, List.getElem_toArray, List.getElem_cons_zero, List.getElem_cons_succ, List.setIfInBounds_toArray, List.set_cons_zero, List.set_cons_succ]
                    refine wpAnyH_done (by kernel_rfl) ?_ _
                    refine NoPanic.normal ?_
                    have hAvz := HAV1.out w2.heap.size (by simp) (Av.far HII.out (Nat.le_refl _))
                    go_wp2_with fail
                    go_meet
                    exact ⟨w2.heap.size, _, rfl, rfl, Nat.le_refl _, ⟨_, rfl, HSET.out⟩, HV1.out.turned HTu.out (fun b hb => by rw [hb]; exact hAvz), fun j hj ha => HAV1.out j (by simp; omega) ha, hAvz, HWs.out⟩
                case rest =>
                  obtain ⟨b5, v1, rfl, rfl, hb5, hbx, hv1, hav, hav5, hbl⟩ := hcut
                  have HV2 := Lib.hid hv1
                  obtain ⟨C0, Cn0, Cc0, C1, Cn1, Cc1, C2, Cn2, Cc2, mc, rfl, _⟩ := hv1
                  have HBX := Lib.hid hbx.get
                  have HC3 := Lib.hid (HC2.out.below hbl); have HX4 := Lib.hid (heap_keep HX2.out hbl); have HB3 := Lib.hid (bch HB2.out hbl HB2.out.size)
                  have HCC3 := Lib.hid (heap_keep HCC.out hbl)
                  have HAV := Lib.hid (fun j (hj : Cs cb bb pm bm vl vb j) => hav j (hcs j hj) (HC2.out.av j hj))
                  have HAVX := Lib.hid (fun j (hj : j < wa.heap.size) => hav j (by have := HB2.out.size; omega) (HAVI.out j hj))
                  clear hbx hav hav5 hbl HC2 HX2 HCC HACC HII y0 y1 y2 y3 y4 y5 y6 y7 y8 y9 y10 y11 k0 k1 k2
                  obtain ⟨y0, y1, y2, y3, y4, y5, y6, y7, y8, y9, y10, y11⟩ := cell12 HCC3.out
                  obtain ⟨f0, f1, f2, f3, f4, f5, f6, f7, f8, f9, f10, f11⟩ := froz12 HCC3.out
                  obtain ⟨i0, i1, i2, i3, i4, i5, i6, i7, i8, i9⟩ := cell10 HBX.out
                  obtain ⟨k0, k1, k2⟩ := cell3c HX4.out
                  go_wp2_with fail
                  have ht9 := turned_in wc cb (.int .i64 J.a.1) (.int .i64 J.a.2.1) (.slice C0 Cn0 Cc0) (.int .i64 J.b.1) (.int .i64 J.b.2.1) (.slice C1 Cn1 Cc1) (.int .i64 J.c.1) (.int .i64 J.c.2.1) (.slice C2 Cn2 Cc2) (.map mc)
                  have hs9 := set_in HCC3.out (.int .i64 J.a.1) (.int .i64 J.a.2.1) (.slice C0 Cn0 Cc0) (.int .i64 J.b.1) (.int .i64 J.b.2.1) (.slice C1 Cn1 Cc1) (.int .i64 J.c.1) (.int .i64 J.c.2.1) (.slice C2 Cn2 Cc2) (.map mc)
                  have HNEW := Lib.hid (show Cw wa.heap.size ((((((((((wc.setCell ⟨cb, 2, none⟩ (.int .i64 J.a.1)).setCell ⟨cb, 3, none⟩ (.int .i64 J.a.2.1)).setCell ⟨cb, 4, none⟩ (.slice C0 Cn0 Cc0)).setCell ⟨cb, 5, none⟩ (.int .i64 J.b.1)).setCell ⟨cb, 6, none⟩ (.int .i64 J.b.2.1)).setCell ⟨cb, 7, none⟩ (.slice C1 Cn1 Cc1)).setCell ⟨cb, 8, none⟩ (.int .i64 J.c.1)).setCell ⟨cb, 9, none⟩ (.int .i64 J.c.2.1)).setCell ⟨cb, 10, none⟩ (.slice C2 Cn2 Cc2)).setCell ⟨cb, 11, none⟩ (.map mc)) cb bb pm bm vl vb (.agg #[.int .i64 J.a.1, .int .i64 J.a.2.1, .slice C0 Cn0 Cc0, .int .i64 J.b.1, .int .i64 J.b.2.1, .slice C1 Cn1 Cc1, .int .i64 J.c.1, .int .i64 J.c.2.1, .slice C2 Cn2 Cc2, .map mc]) ⟨L, P, J⟩ from ⟨by simpa [inn10] using hs9, own_turned HC3.out.ol ht9 (fun j hj hs => (HC3.out.nl j hj).1 hs), HC3.out.bk.kept ht9 (fun j hj hs => HC3.out.cbB (by rw [← hs]; exact hj)), HV2.out.turned ht9 (fun j hs => HAV.out j (.inl hs)), HFJ.out, fun j hj => HAV.out j hj, HC3.out.ge, HC3.out.nc, HC3.out.nl⟩)
                  have HBN := Lib.hid (Below.turned HB3.out ht9 (fun i h => by rw [h]; exact HC3.out.ge) HB3.out.size)
                  go_roundw
                  case rel => exact ⟨1, _, rfl, by omega, by rw [HJ.out]; exact HNEW.out, HBN.out, by rw [HJ.out]; exact HAVX.out⟩
                  case measure => simp [intOf]
            · have hst : (I.b = In.noS ∧ inTo I 2 = inTo I 1) ∨ (I.b.2.1 ≠ 0 ∧ I.b.1 = 1 ∧ In.accE (inTo I 1) I.b = 0 ∧ In.accI (inTo I 1) I.b = inTo I 2) := inTo_step HFI.out 1 (by omega)
              have hix := fun W => idx3_1 I.a.1 I.a.2.1 I.b.1 I.b.2.1 I.c.1 I.c.2.1 (.slice A0 I.a.2.2.length c0) (.slice A1 I.b.2.2.length c1) (.slice A2 I.c.2.2.length c2) W
              go_upto_region 20 with (fail)
              obtain ⟨w2, hw2⟩ : ∃ w2, w2 = wr.alloc (.cells #[.int .i64 I.b.1, .int .i64 I.b.2.1, .slice A1 I.b.2.2.length c1] tStat) := ⟨_, rfl⟩
              rw [← hw2]
              have hb2 : Below wr.heap.size wr w2 := by rw [hw2]; exact below_alloc _ _
              have HX2 := Lib.hid (show w2.heap[wr.heap.size]? = some (.cells #[.int .i64 I.b.1, .int .i64 I.b.2.1, .slice A1 I.b.2.2.length c1] tStat (0, 0)) by rw [hw2]; exact heap_new _ _)
              have HC2 := Lib.hid (HC.out.below hb2); have HB2 := Lib.hid (bch HBr.out hb2 HBr.out.size)
              have hcs : ∀ j, Cs cb bb pm bm vl vb j → j < w2.heap.size := fun j hj => (HC2.out.ls hj).2
              clear hw2 hix
              obtain ⟨bx, hbx⟩ : ∃ bx, wr.heap.size = bx := ⟨_, rfl⟩
              rw [hbx] at HX2 ⊢
              have hbx2 : bx < w2.heap.size := heap_lt HX2.out
              clear hbx hb2
              obtain ⟨k0, k1, k2⟩ := cell3c HX2.out
              rcases hst with ⟨e1, e2⟩ | ⟨g1, g2, g3, g4⟩
              · have q1 := beqT (show I.b.2.1 = 0 by rw [e1]; rfl)
                have q2 := beqT (show (I.b.2.2.length : Int) = 0 by rw [e1]; rfl)
                have q3 := beqT (show I.b.1 = 0 by rw [e1]; rfl)
                have HE2 := Lib.hid e2
                clear e1 e2
                go_wp2_with fail
                go_roundw
                case rel => exact ⟨2, vI, rfl, by omega, by rw [HE2.out]; exact HC2.out, HB2.out, by rw [HE2.out]; exact HAVI.out⟩
                case measure => simp [intOf]
              · have q1 := beqF g1
                have q2 := bneF g2
                obtain ⟨K, hK⟩ : ∃ K, inTo I 1 = K := ⟨_, rfl⟩
                obtain ⟨J, hJ⟩ : ∃ J, inTo I 2 = J := ⟨_, rfl⟩
                have hFK : In.Fine K := by rw [← hK]; exact inTo_fine HFI.out 1
                have hFJ : In.Fine J := by rw [← hJ]; exact inTo_fine HFI.out 2
                rw [hK] at HC2 g3 g4 HAVI
                rw [hJ] at g4
                have HII := Lib.hid HC2.out.ii
                obtain ⟨D0, Dn0, Dc0, D1, Dn1, Dc1, D2, Dn2, Dc2, m, hvI, _⟩ := HC2.out.ii
                subst hvI
                have HCC := Lib.hid (show w2.heap[cb]? = some (.cells #[vl, .pointer (some ⟨bb, 0, none⟩), .int .i64 K.a.1, .int .i64 K.a.2.1, .slice D0 Dn0 Dc0, .int .i64 K.b.1, .int .i64 K.b.2.1, .slice D1 Dn1 Dc1, .int .i64 K.c.1, .int .i64 K.c.2.1, .slice D2 Dn2 Dc2, .map m] tCore (0, 0)) by simpa [inn10] using HC2.out.hc)
                have HACC := Lib.hid (fun W (hW : Below w2.heap.size w2 W) => g4 ▸ accept_ok W _ K I.b _ (HII.out.below hW) (HR1.out.keep (bch HB2.out hW HB2.out.size)) (HTT.out.below (bch HB2.out hW HB2.out.size)) hFK g3)
                have HJ := Lib.hid hJ; have HFJ := Lib.hid hFJ
                clear hK hJ hFK hFJ g1 g2 g3 g4 HC
                go_wp2_with fail
                obtain ⟨y0, y1, y2, y3, y4, y5, y6, y7, y8, y9, y10, y11⟩ := cell12 HCC.out
                go_cut [11, 12] from 103 to 111 (fun p ee wx => ∃ b5 v1, p = .pointer (some ⟨b5, 0, none⟩) ∧ ee = .int .i64 0 ∧ w2.heap.size ≤ b5 ∧ Bx wx b5 tIn v1 ∧ InP wx v1 J ∧ (∀ j, j < w2.heap.size → Av j (.agg #[.int .i64 K.a.1, .int .i64 K.a.2.1, .slice D0 Dn0 Dc0, .int .i64 K.b.1, .int .i64 K.b.2.1, .slice D1 Dn1 Dc1, .int .i64 K.c.1, .int .i64 K.c.2.1, .slice D2 Dn2 Dc2, .map m]) K → Av j v1 J) ∧ Av b5 v1 J ∧ Below w2.heap.size w2 wx)
                case first =>
                  have HH := Lib.hid (fun W (hb : Below w2.heap.size w2 W) => (⟨Lib.hid hb, (hb.cell (World.block_lt_of_cell? w2 _ y2)).trans y2, (hb.cell (World.block_lt_of_cell? w2 _ y3)).trans y3, (hb.cell (World.block_lt_of_cell? w2 _ y4)).trans y4, (hb.cell (World.block_lt_of_cell? w2 _ y5)).trans y5, (hb.cell (World.block_lt_of_cell? w2 _ y6)).trans y6, (hb.cell (World.block_lt_of_cell? w2 _ y7)).trans y7, (hb.cell (World.block_lt_of_cell? w2 _ y8)).trans y8, (hb.cell (World.block_lt_of_cell? w2 _ y9)).trans y9, (hb.cell (World.block_lt_of_cell? w2 _ y10)).trans y10, (hb.cell (World.block_lt_of_cell? w2 _ y11)).trans y11, (hb.cell (World.block_lt_of_cell? w2 _ k0)).trans k0, (hb.cell (World.block_lt_of_cell? w2 _ k1)).trans k1, (hb.cell (World.block_lt_of_cell? w2 _ k2)).trans k2⟩ : (fun w' => Hid (Below w2.heap.size w2 w') ∧ w'.cell? ⟨cb, 2, none⟩ = some (.int .i64 K.a.1) ∧ w'.cell? ⟨cb, 3, none⟩ = some (.int .i64 K.a.2.1) ∧ w'.cell? ⟨cb, 4, none⟩ = some (.slice D0 Dn0 Dc0) ∧ w'.cell? ⟨cb, 5, none⟩ = some (.int .i64 K.b.1) ∧ w'.cell? ⟨cb, 6, none⟩ = some (.int .i64 K.b.2.1) ∧ w'.cell? ⟨cb, 7, none⟩ = some (.slice D1 Dn1 Dc1) ∧ w'.cell? ⟨cb, 8, none⟩ = some (.int .i64 K.c.1) ∧ w'.cell? ⟨cb, 9, none⟩ = some (.int .i64 K.c.2.1) ∧ w'.cell? ⟨cb, 10, none⟩ = some (.slice D2 Dn2 Dc2) ∧ w'.cell? ⟨cb, 11, none⟩ = some (.map m) ∧ w'.cell? ⟨bx, 0, none⟩ = some (.int .i64 I.b.1) ∧ w'.cell? ⟨bx, 1, none⟩ = some (.int .i64 I.b.2.1) ∧ w'.cell? ⟨bx, 2, none⟩ = some (.slice A1 I.b.2.2.length c1)) W))
                  refine wp_region_noPanic ?_
                  refine wp_region_held_drew (S := (fun w' => Hid (Below w2.heap.size w2 w') ∧ w'.cell? ⟨cb, 2, none⟩ = some (.int .i64 K.a.1) ∧ w'.cell? ⟨cb, 3, none⟩ = some (.int .i64 K.a.2.1) ∧ w'.cell? ⟨cb, 4, none⟩ = some (.slice D0 Dn0 Dc0) ∧ w'.cell? ⟨cb, 5, none⟩ = some (.int .i64 K.b.1) ∧ w'.cell? ⟨cb, 6, none⟩ = some (.int .i64 K.b.2.1) ∧ w'.cell? ⟨cb, 7, none⟩ = some (.slice D1 Dn1 Dc1) ∧ w'.cell? ⟨cb, 8, none⟩ = some (.int .i64 K.c.1) ∧ w'.cell? ⟨cb, 9, none⟩ = some (.int .i64 K.c.2.1) ∧ w'.cell? ⟨cb, 10, none⟩ = some (.slice D2 Dn2 Dc2) ∧ w'.cell? ⟨cb, 11, none⟩ = some (.map m) ∧ w'.cell? ⟨bx, 0, none⟩ = some (.int .i64 I.b.1) ∧ w'.cell? ⟨bx, 1, none⟩ = some (.int .i64 I.b.2.1) ∧ w'.cell? ⟨bx, 2, none⟩ = some (.slice A1 I.b.2.2.length c1))) (by kernel_rfl) (HH.out _ (below_drew1 (Below.refl w2.heap.size w2))) (fun hHeld => ?_)
                  refine wpAnyH_take (i := 0) (v := ?vc0_104) rfl (by kernel_rfl) (by kernel_rfl) (by kernel_rfl) (fun _ _ _ h => h) (Or.inl ⟨by rfl, ?hyc0_104⟩) (by assumption) ?restc0_104
                  case hyc0_104 => (intro w0 hSw; (try dsimp only at hSw); go_simp; try with_reducible rfl)
                  case' restc0_104 => try simp only [Act.put, List.getElem_toArray, List.getElem_cons_zero, List.getElem_cons_succ, List.setIfInBounds_toArray, List.set_cons_zero, List.set_cons_succ]
                  refine wpAnyH_take (i := 1) (v := ?vc1_105) rfl (by kernel_rfl) (by kernel_rfl) (by kernel_rfl) (fun _ _ _ h => h) (Or.inl ⟨by rfl, ?hyc1_105⟩) (by assumption) ?restc1_105
                  case hyc1_105 => (intro w0 hSw; (try dsimp only at hSw); go_simp; try with_reducible rfl)
                  case' restc1_105 => try simp only [Act.put, List.getElem_toArray, List.getElem_cons_zero, List.getElem_cons_succ, List.setIfInBounds_toArray, List.set_cons_zero, List.set_cons_succ]
                  refine wpAnyH_take (i := 2) (v := ?vc2_106) rfl (by kernel_rfl) (by kernel_rfl) (by kernel_rfl) (fun _ _ _ h => h) (Or.inl ⟨by rfl, ?hyc2_106⟩) (by assumption) ?restc2_106
                  case hyc2_106 => (intro w0 hSw; (try dsimp only at hSw); go_simp; try with_reducible rfl)
                  case' restc2_106 => try simp only [Act.put, List.getElem_toArray, List.getElem_cons_zero, List.getElem_cons_succ, List.setIfInBounds_toArray, List.set_cons_zero, List.set_cons_succ]
                  refine wpAnyH_take (i := 3) (v := ?vc3_107) rfl (by kernel_rfl) (by kernel_rfl) (by kernel_rfl) (fun _ _ _ h => h) (Or.inl ⟨by rfl, ?hyc3_107⟩) (by assumption) ?restc3_107
                  case hyc3_107 => (intro w0 hSw; (try dsimp only at hSw); go_simp; try with_reducible rfl)
                  case' restc3_107 => try simp only [Act.put, List.getElem_toArray, List.getElem_cons_zero, List.getElem_cons_succ, List.setIfInBounds_toArray, List.set_cons_zero, List.set_cons_succ]
                  refine wpAnyH_take (i := 4) (v := ?vc4_108) rfl (by kernel_rfl) (by kernel_rfl) (by kernel_rfl) (fun _ _ _ h => h) (Or.inl ⟨by rfl, ?hyc4_108⟩) (by assumption) ?restc4_108
                  case hyc4_108 => (intro w0 hSw; (try dsimp only at hSw); go_simp; try with_reducible rfl)
                  case' restc4_108 => try simp only [Act.put, List.getElem_toArray, List.getElem_cons_zero, List.getElem_cons_succ, List.setIfInBounds_toArray, List.set_cons_zero, List.set_cons_succ]
                  refine wpAnyH_ready (rs := [5, 9]) (by kernel_rfl) (by simp) ?_
                  refine AllReadyH.cons rfl (fun K hK => ?_) (AllReadyH.cons rfl (fun K hK => ?_) AllReadyH.nil)
                  · go_simp
                    refine (HACC.out _ (below_drew1 (Below.refl w2.heap.size w2))).mono ?_
                    rintro e w3 ⟨v1, rfl, hv, hav, hb⟩
                    have HV1 := Lib.hid hv; have HAV1 := Lib.hid hav
                    obtain ⟨C0, Cn0, Cc0, C1, Cn1, Cc1, C2, Cn2, Cc2, mc, rfl, _⟩ := hv
                    clear hav
                    have HW1 := Lib.hid (bch (below_drew1 (Below.refl w2.heap.size w2)) hb (Below.size (below_drew1 (Below.refl w2.heap.size w2))))
                    refine hK.out _ _ (HH.out _ (HW1.out)) (fun hHeld => ?_)
                    clear hK K
                    try simp only [Act.put, List.getElem_toArray, List.getElem_cons_zero, List.getElem_cons_succ, List.setIfInBounds_toArray, List.set_cons_zero, List.set_cons_succ]
                    refine wpAnyH_take (i := 6) (v := ?vc6_96) rfl (by kernel_rfl) (by kernel_rfl) (by kernel_rfl) (fun _ _ _ h => h) (Or.inl ⟨by rfl, ?hyc6_96⟩) (by assumption) ?restc6_96
                    case hyc6_96 => (intro w0 hSw; (try dsimp only at hSw); go_simp; try with_reducible rfl)
                    case' restc6_96 => try simp only [Act.put, List.getElem_toArray, List.getElem_cons_zero, List.getElem_cons_succ, List.setIfInBounds_toArray, List.set_cons_zero, List.set_cons_succ]
                    refine wpAnyH_take (i := 7) (v := ?vc7_97) rfl (by kernel_rfl) (by kernel_rfl) (by kernel_rfl) (fun _ _ _ h => h) (Or.inl ⟨by rfl, ?hyc7_97⟩) (by assumption) ?restc7_97
                    case hyc7_97 => (intro w0 hSw; (try dsimp only at hSw); go_simp; try with_reducible rfl)
                    case' restc7_97 => try simp only [Act.put, List.getElem_toArray, List.getElem_cons_zero, List.getElem_cons_succ, List.setIfInBounds_toArray, List.set_cons_zero, List.set_cons_succ]
                    refine wpAnyH_take (i := 8) (v := ?vc8_98) rfl (by kernel_rfl) (by kernel_rfl) (by kernel_rfl) (fun _ _ _ h => h) (Or.inl ⟨by rfl, ?hyc8_98⟩) (by assumption) ?restc8_98
                    case hyc8_98 => (intro w0 hSw; (try dsimp only at hSw); go_simp; try with_reducible rfl)
                    case' restc8_98 => try simp only [Act.put, List.getElem_toArray, List.getElem_cons_zero, List.getElem_cons_succ, List.setIfInBounds_toArray, List.set_cons_zero, List.set_cons_succ]
                    refine wpAnyH_ready (rs := [9]) (by kernel_rfl) (by simp) ?_
                    refine AllReadyH.cons rfl (fun K hK => ?_) AllReadyH.nil
                    go_simp
                    refine hK.out _ _ (HH.out _ (bch HW1.out (below_alloc w3 _) HW1.out.size)) (fun hHeld => ?_)
                    clear hK K
                    try simp only [Act.put, List.getElem_toArray, List.getElem_cons_zero, List.getElem_cons_succ, List.setIfInBounds_toArray, List.set_cons_zero, List.set_cons_succ]
                    refine wpAnyH_ready (rs := [10]) (by kernel_rfl) (by simp) ?_
                    refine AllReadyH.cons rfl (fun K hK => ?_) AllReadyH.nil
                    go_simp
                    refine hK.out _ _ (HH.out _ (bch HW1.out (below_alloc w3 _) HW1.out.size)) (fun hHeld => ?_)
                    clear hK K
                    try simp only [Act.put, List.getElem_toArray, List.getElem_cons_zero, List.getElem_cons_succ, List.setIfInBounds_toArray, List.set_cons_zero, List.set_cons_succ]
                    refine wpAnyH_take (i := 11) (v := ?vc11_99) rfl (by kernel_rfl) (by kernel_rfl) (by kernel_rfl) (fun _ _ _ h => h) (Or.inl ⟨by rfl, ?hyc11_99⟩) (by assumption) ?restc11_99
                    case hyc11_99 => (intro w0 hSw; (try dsimp only at hSw); go_simp; try with_reducible rfl)
                    case' restc11_99 => try simp only [Act.put, List.getElem_toArray, List.getElem_cons_zero, List.getElem_cons_succ, List.setIfInBounds_toArray, List.set_cons_zero, List.set_cons_succ]
                    refine wpAnyH_done (by kernel_rfl) ?_ _
                    refine NoPanic.normal ?_
                    go_wp2_with fail
                    go_meet
                    exact ⟨w3.heap.size, _, rfl, rfl, HW1.out.size, ⟨_, rfl, heap_new _ _⟩, HV1.out.below (below_alloc _ _), fun j hj ha => HAV1.out j (by simpa using hj) ha, Av.far HV1.out (Nat.le_refl _), bch HW1.out (below_alloc w3 _) HW1.out.size⟩
                  · go_simp
                    refine hK.out _ _ (HH.out _ (bch (below_drew1 (Below.refl w2.heap.size w2)) (below_alloc w2.drew _) (Nat.le_refl _))) (fun hHeld => ?_)
                    clear hK K
                    try simp only [Act.put, List.getElem_toArray, List.getElem_cons_zero, List.getElem_cons_succ, List.setIfInBounds_toArray, List.set_cons_zero, List.set_cons_succ]
                    refine wpAnyH_ready (rs := [5]) (by kernel_rfl) (by simp) ?_
                    refine AllReadyH.cons rfl (fun K hK => ?_) AllReadyH.nil
                    go_simp
                    have HBd := Lib.hid (bch (below_drew1 (Below.refl w2.heap.size w2)) (below_alloc w2.drew (.cells zIn tIn)) (Nat.le_refl _))
                    refine (HACC.out _ HBd.out).mono ?_
                    rintro e w3 ⟨v1, rfl, hv, hav, hb⟩
                    have HV1 := Lib.hid hv; have HAV1 := Lib.hid hav
                    obtain ⟨C0, Cn0, Cc0, C1, Cn1, Cc1, C2, Cn2, Cc2, mc, rfl, _⟩ := hv
                    clear hav
                    have HW1 := Lib.hid (bch HBd.out hb HBd.out.size)
                    refine hK.out _ _ (HH.out _ (HW1.out)) (fun hHeld => ?_)
                    clear hK K
                    try simp only [Act.put, List.getElem_toArray, List.getElem_cons_zero, List.getElem_cons_succ, List.setIfInBounds_toArray, List.set_cons_zero, List.set_cons_succ]
                    refine wpAnyH_take (i := 6) (v := ?vc6_100) rfl (by kernel_rfl) (by kernel_rfl) (by kernel_rfl) (fun _ _ _ h => h) (Or.inl ⟨by rfl, ?hyc6_100⟩) (by assumption) ?restc6_100
                    case hyc6_100 => (intro w0 hSw; (try dsimp only at hSw); go_simp; try with_reducible rfl)
                    case' restc6_100 => try simp only [Act.put, List.getElem_toArray, List.getElem_cons_zero, List.getElem_cons_succ, List.setIfInBounds_toArray, List.set_cons_zero, List.set_cons_succ]
                    refine wpAnyH_take (i := 7) (v := ?vc7_101) rfl (by kernel_rfl) (by kernel_rfl) (by kernel_rfl) (fun _ _ _ h => h) (Or.inl ⟨by rfl, ?hyc7_101⟩) (by assumption) ?restc7_101
                    case hyc7_101 => (intro w0 hSw; (try dsimp only at hSw); go_simp; try with_reducible rfl)
                    case' restc7_101 => try simp only [Act.put, List.getElem_toArray, List.getElem_cons_zero, List.getElem_cons_succ, List.setIfInBounds_toArray, List.set_cons_zero, List.set_cons_succ]
                    refine wpAnyH_take (i := 8) (v := ?vc8_102) rfl (by kernel_rfl) (by kernel_rfl) (by kernel_rfl) (fun _ _ _ h => h) (Or.inl ⟨by rfl, ?hyc8_102⟩) (by assumption) ?restc8_102
                    case hyc8_102 => (intro w0 hSw; (try dsimp only at hSw); go_simp; try with_reducible rfl)
                    case' restc8_102 => try simp only [Act.put, List.getElem_toArray, List.getElem_cons_zero, List.getElem_cons_succ, List.setIfInBounds_toArray, List.set_cons_zero, List.set_cons_succ]
                    have HZ0 := Lib.hid (show w3.heap[w2.heap.size]? = some (.cells zIn tIn (0, 0)) from heap_keep (heap_new w2.drew (.cells zIn tIn)) hb)
                    obtain ⟨z0, z1, z2, z3, z4, z5, z6, z7, z8, z9⟩ := cell10 HZ0.out
                    obtain ⟨f0, f1, f2, f3, f4, f5, f6, f7, f8, f9⟩ := froz10 HZ0.out
                    have HTu := Lib.hid (turned_set10 w3 w2.heap.size (.int .i64 J.a.1) (.int .i64 J.a.2.1) (.slice C0 Cn0 Cc0) (.int .i64 J.b.1) (.int .i64 J.b.2.1) (.slice C1 Cn1 Cc1) (.int .i64 J.c.1) (.int .i64 J.c.2.1) (.slice C2 Cn2 Cc2) (.map mc))
                    have HSET := Lib.hid (set10 HZ0.out (.int .i64 J.a.1) (.int .i64 J.a.2.1) (.slice C0 Cn0 Cc0) (.int .i64 J.b.1) (.int .i64 J.b.2.1) (.slice C1 Cn1 Cc1) (.int .i64 J.c.1) (.int .i64 J.c.2.1) (.slice C2 Cn2 Cc2) (.map mc))
                    unfold set10w at HTu HSET
                    have HWs := Lib.hid (Below.turned HW1.out HTu.out (fun i hi => by omega) (Below.size HW1.out))
                    refine wpAnyH_ready (rs := [10]) (by kernel_rfl) (by simp) ?_
                    refine AllReadyH.cons rfl (fun K hK => ?_) AllReadyH.nil
                    go_simp
                    refine hK.out _ _ (HH.out _ (HWs.out)) (fun hHeld => ?_)
                    clear hK K
                    try simp only [Act.put, List.getElem_toArray, List.getElem_cons_zero, List.getElem_cons_succ, List.setIfInBounds_toArray, List.set_cons_zero, List.set_cons_succ]
                    refine wpAnyH_take (i := 11) (v := ?vc11_103) rfl (by kernel_rfl) (by kernel_rfl) (by kernel_rfl) (fun _ _ _ h => h) (Or.inl ⟨by rfl, ?hyc11_103⟩) (by assumption) ?restc11_103
                    case hyc11_103 => (intro w0 hSw; (try dsimp only at hSw); go_simp; try with_reducible rfl)
                    case' restc11_103 => try simp only [Act.put, List.getElem_toArray, List.getElem_cons_zero, List.getElem_cons_succ, List.setIfInBounds_toArray, List.set_cons_zero, List.set_cons_succ]
                    refine wpAnyH_done (by kernel_rfl) ?_ _
                    refine NoPanic.normal ?_
                    have hAvz := HAV1.out w2.heap.size (by simp) (Av.far HII.out (Nat.le_refl _))
                    go_wp2_with fail
                    go_meet
                    exact ⟨w2.heap.size, _, rfl, rfl, Nat.le_refl _, ⟨_, rfl, HSET.out⟩, HV1.out.turned HTu.out (fun b hb => by rw [hb]; exact hAvz), fun j hj ha => HAV1.out j (by simp; omega) ha, hAvz, HWs.out⟩
                case rest =>
                  obtain ⟨b5, v1, rfl, rfl, hb5, hbx, hv1, hav, hav5, hbl⟩ := hcut
                  have HV2 := Lib.hid hv1
                  obtain ⟨C0, Cn0, Cc0, C1, Cn1, Cc1, C2, Cn2, Cc2, mc, rfl, _⟩ := hv1
                  have HBX := Lib.hid hbx.get
                  have HC3 := Lib.hid (HC2.out.below hbl); have HX4 := Lib.hid (heap_keep HX2.out hbl); have HB3 := Lib.hid (bch HB2.out hbl HB2.out.size)
                  have HCC3 := Lib.hid (heap_keep HCC.out hbl)
                  have HAV := Lib.hid (fun j (hj : Cs cb bb pm bm vl vb j) => hav j (hcs j hj) (HC2.out.av j hj))
                  have HAVX := Lib.hid (fun j (hj : j < wa.heap.size) => hav j (by have := HB2.out.size; omega) (HAVI.out j hj))
                  clear hbx hav hav5 hbl HC2 HX2 HCC HACC HII y0 y1 y2 y3 y4 y5 y6 y7 y8 y9 y10 y11 k0 k1 k2
                  obtain ⟨y0, y1, y2, y3, y4, y5, y6, y7, y8, y9, y10, y11⟩ := cell12 HCC3.out
                  obtain ⟨f0, f1, f2, f3, f4, f5, f6, f7, f8, f9, f10, f11⟩ := froz12 HCC3.out
                  obtain ⟨i0, i1, i2, i3, i4, i5, i6, i7, i8, i9⟩ := cell10 HBX.out
                  obtain ⟨k0, k1, k2⟩ := cell3c HX4.out
                  go_wp2_with fail
                  have ht9 := turned_in wc cb (.int .i64 J.a.1) (.int .i64 J.a.2.1) (.slice C0 Cn0 Cc0) (.int .i64 J.b.1) (.int .i64 J.b.2.1) (.slice C1 Cn1 Cc1) (.int .i64 J.c.1) (.int .i64 J.c.2.1) (.slice C2 Cn2 Cc2) (.map mc)
                  have hs9 := set_in HCC3.out (.int .i64 J.a.1) (.int .i64 J.a.2.1) (.slice C0 Cn0 Cc0) (.int .i64 J.b.1) (.int .i64 J.b.2.1) (.slice C1 Cn1 Cc1) (.int .i64 J.c.1) (.int .i64 J.c.2.1) (.slice C2 Cn2 Cc2) (.map mc)
                  have HNEW := Lib.hid (show Cw wa.heap.size ((((((((((wc.setCell ⟨cb, 2, none⟩ (.int .i64 J.a.1)).setCell ⟨cb, 3, none⟩ (.int .i64 J.a.2.1)).setCell ⟨cb, 4, none⟩ (.slice C0 Cn0 Cc0)).setCell ⟨cb, 5, none⟩ (.int .i64 J.b.1)).setCell ⟨cb, 6, none⟩ (.int .i64 J.b.2.1)).setCell ⟨cb, 7, none⟩ (.slice C1 Cn1 Cc1)).setCell ⟨cb, 8, none⟩ (.int .i64 J.c.1)).setCell ⟨cb, 9, none⟩ (.int .i64 J.c.2.1)).setCell ⟨cb, 10, none⟩ (.slice C2 Cn2 Cc2)).setCell ⟨cb, 11, none⟩ (.map mc)) cb bb pm bm vl vb (.agg #[.int .i64 J.a.1, .int .i64 J.a.2.1, .slice C0 Cn0 Cc0, .int .i64 J.b.1, .int .i64 J.b.2.1, .slice C1 Cn1 Cc1, .int .i64 J.c.1, .int .i64 J.c.2.1, .slice C2 Cn2 Cc2, .map mc]) ⟨L, P, J⟩ from ⟨by simpa [inn10] using hs9, own_turned HC3.out.ol ht9 (fun j hj hs => (HC3.out.nl j hj).1 hs), HC3.out.bk.kept ht9 (fun j hj hs => HC3.out.cbB (by rw [← hs]; exact hj)), HV2.out.turned ht9 (fun j hs => HAV.out j (.inl hs)), HFJ.out, fun j hj => HAV.out j hj, HC3.out.ge, HC3.out.nc, HC3.out.nl⟩)
                  have HBN := Lib.hid (Below.turned HB3.out ht9 (fun i h => by rw [h]; exact HC3.out.ge) HB3.out.size)
                  go_roundw
                  case rel => exact ⟨2, _, rfl, by omega, by rw [HJ.out]; exact HNEW.out, HBN.out, by rw [HJ.out]; exact HAVX.out⟩
                  case measure => simp [intOf]
            · have hst : (I.c = In.noS ∧ inTo I 3 = inTo I 2) ∨ (I.c.2.1 ≠ 0 ∧ I.c.1 = 2 ∧ In.accE (inTo I 2) I.c = 0 ∧ In.accI (inTo I 2) I.c = inTo I 3) := inTo_step HFI.out 2 (by omega)
              have hix := fun W => idx3_2 I.a.1 I.a.2.1 I.b.1 I.b.2.1 I.c.1 I.c.2.1 (.slice A0 I.a.2.2.length c0) (.slice A1 I.b.2.2.length c1) (.slice A2 I.c.2.2.length c2) W
              go_upto_region 20 with (fail)
              obtain ⟨w2, hw2⟩ : ∃ w2, w2 = wr.alloc (.cells #[.int .i64 I.c.1, .int .i64 I.c.2.1, .slice A2 I.c.2.2.length c2] tStat) := ⟨_, rfl⟩
              rw [← hw2]
              have hb2 : Below wr.heap.size wr w2 := by rw [hw2]; exact below_alloc _ _
              have HX2 := Lib.hid (show w2.heap[wr.heap.size]? = some (.cells #[.int .i64 I.c.1, .int .i64 I.c.2.1, .slice A2 I.c.2.2.length c2] tStat (0, 0)) by rw [hw2]; exact heap_new _ _)
              have HC2 := Lib.hid (HC.out.below hb2); have HB2 := Lib.hid (bch HBr.out hb2 HBr.out.size)
              have hcs : ∀ j, Cs cb bb pm bm vl vb j → j < w2.heap.size := fun j hj => (HC2.out.ls hj).2
              clear hw2 hix
              obtain ⟨bx, hbx⟩ : ∃ bx, wr.heap.size = bx := ⟨_, rfl⟩
              rw [hbx] at HX2 ⊢
              have hbx2 : bx < w2.heap.size := heap_lt HX2.out
              clear hbx hb2
              obtain ⟨k0, k1, k2⟩ := cell3c HX2.out
              rcases hst with ⟨e1, e2⟩ | ⟨g1, g2, g3, g4⟩
              · have q1 := beqT (show I.c.2.1 = 0 by rw [e1]; rfl)
                have q2 := beqT (show (I.c.2.2.length : Int) = 0 by rw [e1]; rfl)
                have q3 := beqT (show I.c.1 = 0 by rw [e1]; rfl)
                have HE2 := Lib.hid e2
                clear e1 e2
                go_wp2_with fail
                go_roundw
                case rel => exact ⟨3, vI, rfl, by omega, by rw [HE2.out]; exact HC2.out, HB2.out, by rw [HE2.out]; exact HAVI.out⟩
                case measure => simp [intOf]
              · have q1 := beqF g1
                have q2 := bneF g2
                obtain ⟨K, hK⟩ : ∃ K, inTo I 2 = K := ⟨_, rfl⟩
                obtain ⟨J, hJ⟩ : ∃ J, inTo I 3 = J := ⟨_, rfl⟩
                have hFK : In.Fine K := by rw [← hK]; exact inTo_fine HFI.out 2
                have hFJ : In.Fine J := by rw [← hJ]; exact inTo_fine HFI.out 3
                rw [hK] at HC2 g3 g4 HAVI
                rw [hJ] at g4
                have HII := Lib.hid HC2.out.ii
                obtain ⟨D0, Dn0, Dc0, D1, Dn1, Dc1, D2, Dn2, Dc2, m, hvI, _⟩ := HC2.out.ii
                subst hvI
                have HCC := Lib.hid (show w2.heap[cb]? = some (.cells #[vl, .pointer (some ⟨bb, 0, none⟩), .int .i64 K.a.1, .int .i64 K.a.2.1, .slice D0 Dn0 Dc0, .int .i64 K.b.1, .int .i64 K.b.2.1, .slice D1 Dn1 Dc1, .int .i64 K.c.1, .int .i64 K.c.2.1, .slice D2 Dn2 Dc2, .map m] tCore (0, 0)) by simpa [inn10] using HC2.out.hc)
                have HACC := Lib.hid (fun W (hW : Below w2.heap.size w2 W) => g4 ▸ accept_ok W _ K I.c _ (HII.out.below hW) (HR2.out.keep (bch HB2.out hW HB2.out.size)) (HTT.out.below (bch HB2.out hW HB2.out.size)) hFK g3)
                have HJ := Lib.hid hJ; have HFJ := Lib.hid hFJ
                clear hK hJ hFK hFJ g1 g2 g3 g4 HC
                go_wp2_with fail
                obtain ⟨y0, y1, y2, y3, y4, y5, y6, y7, y8, y9, y10, y11⟩ := cell12 HCC.out
                go_cut [11, 12] from 103 to 111 (fun p ee wx => ∃ b5 v1, p = .pointer (some ⟨b5, 0, none⟩) ∧ ee = .int .i64 0 ∧ w2.heap.size ≤ b5 ∧ Bx wx b5 tIn v1 ∧ InP wx v1 J ∧ (∀ j, j < w2.heap.size → Av j (.agg #[.int .i64 K.a.1, .int .i64 K.a.2.1, .slice D0 Dn0 Dc0, .int .i64 K.b.1, .int .i64 K.b.2.1, .slice D1 Dn1 Dc1, .int .i64 K.c.1, .int .i64 K.c.2.1, .slice D2 Dn2 Dc2, .map m]) K → Av j v1 J) ∧ Av b5 v1 J ∧ Below w2.heap.size w2 wx)
                case first =>
                  have HH := Lib.hid (fun W (hb : Below w2.heap.size w2 W) => (⟨Lib.hid hb, (hb.cell (World.block_lt_of_cell? w2 _ y2)).trans y2, (hb.cell (World.block_lt_of_cell? w2 _ y3)).trans y3, (hb.cell (World.block_lt_of_cell? w2 _ y4)).trans y4, (hb.cell (World.block_lt_of_cell? w2 _ y5)).trans y5, (hb.cell (World.block_lt_of_cell? w2 _ y6)).trans y6, (hb.cell (World.block_lt_of_cell? w2 _ y7)).trans y7, (hb.cell (World.block_lt_of_cell? w2 _ y8)).trans y8, (hb.cell (World.block_lt_of_cell? w2 _ y9)).trans y9, (hb.cell (World.block_lt_of_cell? w2 _ y10)).trans y10, (hb.cell (World.block_lt_of_cell? w2 _ y11)).trans y11, (hb.cell (World.block_lt_of_cell? w2 _ k0)).trans k0, (hb.cell (World.block_lt_of_cell? w2 _ k1)).trans k1, (hb.cell (World.block_lt_of_cell? w2 _ k2)).trans k2⟩ : (fun w' => Hid (Below w2.heap.size w2 w') ∧ w'.cell? ⟨cb, 2, none⟩ = some (.int .i64 K.a.1) ∧ w'.cell? ⟨cb, 3, none⟩ = some (.int .i64 K.a.2.1) ∧ w'.cell? ⟨cb, 4, none⟩ = some (.slice D0 Dn0 Dc0) ∧ w'.cell? ⟨cb, 5, none⟩ = some (.int .i64 K.b.1) ∧ w'.cell? ⟨cb, 6, none⟩ = some (.int .i64 K.b.2.1) ∧ w'.cell? ⟨cb, 7, none⟩ = some (.slice D1 Dn1 Dc1) ∧ w'.cell? ⟨cb, 8, none⟩ = some (.int .i64 K.c.1) ∧ w'.cell? ⟨cb, 9, none⟩ = some (.int .i64 K.c.2.1) ∧ w'.cell? ⟨cb, 10, none⟩ = some (.slice D2 Dn2 Dc2) ∧ w'.cell? ⟨cb, 11, none⟩ = some (.map m) ∧ w'.cell? ⟨bx, 0, none⟩ = some (.int .i64 I.c.1) ∧ w'.cell? ⟨bx, 1, none⟩ = some (.int .i64 I.c.2.1) ∧ w'.cell? ⟨bx, 2, none⟩ = some (.slice A2 I.c.2.2.length c2)) W))
                  refine wp_region_noPanic ?_
                  refine wp_region_held_drew (S := (fun w' => Hid (Below w2.heap.size w2 w') ∧ w'.cell? ⟨cb, 2, none⟩ = some (.int .i64 K.a.1) ∧ w'.cell? ⟨cb, 3, none⟩ = some (.int .i64 K.a.2.1) ∧ w'.cell? ⟨cb, 4, none⟩ = some (.slice D0 Dn0 Dc0) ∧ w'.cell? ⟨cb, 5, none⟩ = some (.int .i64 K.b.1) ∧ w'.cell? ⟨cb, 6, none⟩ = some (.int .i64 K.b.2.1) ∧ w'.cell? ⟨cb, 7, none⟩ = some (.slice D1 Dn1 Dc1) ∧ w'.cell? ⟨cb, 8, none⟩ = some (.int .i64 K.c.1) ∧ w'.cell? ⟨cb, 9, none⟩ = some (.int .i64 K.c.2.1) ∧ w'.cell? ⟨cb, 10, none⟩ = some (.slice D2 Dn2 Dc2) ∧ w'.cell? ⟨cb, 11, none⟩ = some (.map m) ∧ w'.cell? ⟨bx, 0, none⟩ = some (.int .i64 I.c.1) ∧ w'.cell? ⟨bx, 1, none⟩ = some (.int .i64 I.c.2.1) ∧ w'.cell? ⟨bx, 2, none⟩ = some (.slice A2 I.c.2.2.length c2))) (by kernel_rfl) (HH.out _ (below_drew1 (Below.refl w2.heap.size w2))) (fun hHeld => ?_)
                  refine wpAnyH_take (i := 0) (v := ?vc0_117) rfl (by kernel_rfl) (by kernel_rfl) (by kernel_rfl) (fun _ _ _ h => h) (Or.inl ⟨by rfl, ?hyc0_117⟩) (by assumption) ?restc0_117
                  case hyc0_117 => (intro w0 hSw; (try dsimp only at hSw); go_simp; try with_reducible rfl)
                  case' restc0_117 => try simp only [Act.put, List.getElem_toArray, List.getElem_cons_zero, List.getElem_cons_succ, List.setIfInBounds_toArray, List.set_cons_zero, List.set_cons_succ]
                  refine wpAnyH_take (i := 1) (v := ?vc1_118) rfl (by kernel_rfl) (by kernel_rfl) (by kernel_rfl) (fun _ _ _ h => h) (Or.inl ⟨by rfl, ?hyc1_118⟩) (by assumption) ?restc1_118
                  case hyc1_118 => (intro w0 hSw; (try dsimp only at hSw); go_simp; try with_reducible rfl)
                  case' restc1_118 => try simp only [Act.put, List.getElem_toArray, List.getElem_cons_zero, List.getElem_cons_succ, List.setIfInBounds_toArray, List.set_cons_zero, List.set_cons_succ]
                  refine wpAnyH_take (i := 2) (v := ?vc2_119) rfl (by kernel_rfl) (by kernel_rfl) (by kernel_rfl) (fun _ _ _ h => h) (Or.inl ⟨by rfl, ?hyc2_119⟩) (by assumption) ?restc2_119
                  case hyc2_119 => (intro w0 hSw; (try dsimp only at hSw); go_simp; try with_reducible rfl)
                  case' restc2_119 => try simp only [Act.put, List.getElem_toArray, List.getElem_cons_zero, List.getElem_cons_succ, List.setIfInBounds_toArray, List.set_cons_zero, List.set_cons_succ]
                  refine wpAnyH_take (i := 3) (v := ?vc3_120) rfl (by kernel_rfl) (by kernel_rfl) (by kernel_rfl) (fun _ _ _ h => h) (Or.inl ⟨by rfl, ?hyc3_120⟩) (by assumption) ?restc3_120
                  case hyc3_120 => (intro w0 hSw; (try dsimp only at hSw); go_simp; try with_reducible rfl)
                  case' restc3_120 => try simp only [Act.put, List.getElem_toArray, List.getElem_cons_zero, List.getElem_cons_succ, List.setIfInBounds_toArray, List.set_cons_zero, List.set_cons_succ]
                  refine wpAnyH_take (i := 4) (v := ?vc4_121) rfl (by kernel_rfl) (by kernel_rfl) (by kernel_rfl) (fun _ _ _ h => h) (Or.inl ⟨by rfl, ?hyc4_121⟩) (by assumption) ?restc4_121
                  case hyc4_121 => (intro w0 hSw; (try dsimp only at hSw); go_simp; try with_reducible rfl)
                  case' restc4_121 => try simp only [Act.put, List.getElem_toArray, List.getElem_cons_zero, List.getElem_cons_succ, List.setIfInBounds_toArray, List.set_cons_zero, List.set_cons_succ]
                  refine wpAnyH_ready (rs := [5, 9]) (by kernel_rfl) (by simp) ?_
                  refine AllReadyH.cons rfl (fun K hK => ?_) (AllReadyH.cons rfl (fun K hK => ?_) AllReadyH.nil)
                  · go_simp
                    refine (HACC.out _ (below_drew1 (Below.refl w2.heap.size w2))).mono ?_
                    rintro e w3 ⟨v1, rfl, hv, hav, hb⟩
                    have HV1 := Lib.hid hv; have HAV1 := Lib.hid hav
                    obtain ⟨C0, Cn0, Cc0, C1, Cn1, Cc1, C2, Cn2, Cc2, mc, rfl, _⟩ := hv
                    clear hav
                    have HW1 := Lib.hid (bch (below_drew1 (Below.refl w2.heap.size w2)) hb (Below.size (below_drew1 (Below.refl w2.heap.size w2))))
                    refine hK.out _ _ (HH.out _ (HW1.out)) (fun hHeld => ?_)
                    clear hK K
                    try simp only [Act.put, List.getElem_toArray, List.getElem_cons_zero, List.getElem_cons_succ, List.setIfInBounds_toArray, List.set_cons_zero, List.set_cons_succ]
                    refine wpAnyH_take (i := 6) (v := ?vc6_109) rfl (by kernel_rfl) (by kernel_rfl) (by kernel_rfl) (fun _ _ _ h => h) (Or.inl ⟨by rfl, ?hyc6_109⟩) (by assumption) ?restc6_109
                    case hyc6_109 => (intro w0 hSw; (try dsimp only at hSw); go_simp; try with_reducible rfl)
                    case' restc6_109 => try simp only [Act.put, List.getElem_toArray, List.getElem_cons_zero, List.getElem_cons_succ, List.setIfInBounds_toArray, List.set_cons_zero, List.set_cons_succ]
                    refine wpAnyH_take (i := 7) (v := ?vc7_110) rfl (by kernel_rfl) (by kernel_rfl) (by kernel_rfl) (fun _ _ _ h => h) (Or.inl ⟨by rfl, ?hyc7_110⟩) (by assumption) ?restc7_110
                    case hyc7_110 => (intro w0 hSw; (try dsimp only at hSw); go_simp; try with_reducible rfl)
                    case' restc7_110 => try simp only [Act.put, List.getElem_toArray, List.getElem_cons_zero, List.getElem_cons_succ, List.setIfInBounds_toArray, List.set_cons_zero, List.set_cons_succ]
                    refine wpAnyH_take (i := 8) (v := ?vc8_111) rfl (by kernel_rfl) (by kernel_rfl) (by kernel_rfl) (fun _ _ _ h => h) (Or.inl ⟨by rfl, ?hyc8_111⟩) (by assumption) ?restc8_111
                    case hyc8_111 => (intro w0 hSw; (try dsimp only at hSw); go_simp; try with_reducible rfl)
                    case' restc8_111 => try simp only [Act.put, List.getElem_toArray, List.getElem_cons_zero, List.getElem_cons_succ, List.setIfInBounds_toArray, List.set_cons_zero, List.set_cons_succ]
                    refine wpAnyH_ready (rs := [9]) (by kernel_rfl) (by simp) ?_
                    refine AllReadyH.cons rfl (fun K hK => ?_) AllReadyH.nil
                    go_simp
                    refine hK.out _ _ (HH.out _ (bch HW1.out (below_alloc w3 _) HW1.out.size)) (fun hHeld => ?_)
                    clear hK K
                    try simp only [Act.put, List.getElem_toArray, List.getElem_cons_zero, List.getElem_cons_succ, List.setIfInBounds_toArray, List.set_cons_zero, List.set_cons_succ]
                    refine wpAnyH_ready (rs := [10]) (by kernel_rfl) (by simp) ?_
                    refine AllReadyH.cons rfl (fun K hK => ?_) AllReadyH.nil
                    go_simp
                    refine hK.out _ _ (HH.out _ (bch HW1.out (below_alloc w3 _) HW1.out.size)) (fun hHeld => ?_)
                    clear hK K
                    try simp only [Act.put, List.getElem_toArray, List.getElem_cons_zero, List.getElem_cons_succ, List.setIfInBounds_toArray, List.set_cons_zero, List.set_cons_succ]
                    refine wpAnyH_take (i := 11) (v := ?vc11_112) rfl (by kernel_rfl) (by kernel_rfl) (by kernel_rfl) (fun _ _ _ h => h) (Or.inl ⟨by rfl, ?hyc11_112⟩) (by assumption) ?restc11_112
                    case hyc11_112 => (intro w0 hSw; (try dsimp only at hSw); go_simp; try with_reducible rfl)
                    case' restc11_112 => try simp only [Act.put, List.getElem_toArray, List.getElem_cons_zero, List.getElem_cons_succ, List.setIfInBounds_toArray, List.set_cons_zero, List.set_cons_succ]
                    refine wpAnyH_done (by kernel_rfl) ?_ _
                    refine NoPanic.normal ?_
                    go_wp2_with fail
                    go_meet
                    exact ⟨w3.heap.size, _, rfl, rfl, HW1.out.size, ⟨_, rfl, heap_new _ _⟩, HV1.out.below (below_alloc _ _), fun j hj ha => HAV1.out j (by simpa using hj) ha, Av.far HV1.out (Nat.le_refl _), bch HW1.out (below_alloc w3 _) HW1.out.size⟩
                  · go_simp
                    refine hK.out _ _ (HH.out _ (bch (below_drew1 (Below.refl w2.heap.size w2)) (below_alloc w2.drew _) (Nat.le_refl _))) (fun hHeld => ?_)
                    clear hK K
                    try simp only [Act.put, List.getElem_toArray, List.getElem_cons_zero, List.getElem_cons_succ, List.setIfInBounds_toArray, List.set_cons_zero, List.set_cons_succ]
                    refine wpAnyH_ready (rs := [5]) (by kernel_rfl) (by simp) ?_
                    refine AllReadyH.cons rfl (fun K hK => ?_) AllReadyH.nil
                    go_simp
                    have HBd := Lib.hid (bch (below_drew1 (Below.refl w2.heap.size w2)) (below_alloc w2.drew (.cells zIn tIn)) (Nat.le_refl _))
                    refine (HACC.out _ HBd.out).mono ?_
                    rintro e w3 ⟨v1, rfl, hv, hav, hb⟩
                    have HV1 := Lib.hid hv; have HAV1 := Lib.hid hav
                    obtain ⟨C0, Cn0, Cc0, C1, Cn1, Cc1, C2, Cn2, Cc2, mc, rfl, _⟩ := hv
                    clear hav
                    have HW1 := Lib.hid (bch HBd.out hb HBd.out.size)
                    refine hK.out _ _ (HH.out _ (HW1.out)) (fun hHeld => ?_)
                    clear hK K
                    try simp only [Act.put, List.getElem_toArray, List.getElem_cons_zero, List.getElem_cons_succ, List.setIfInBounds_toArray, List.set_cons_zero, List.set_cons_succ]
                    refine wpAnyH_take (i := 6) (v := ?vc6_113) rfl (by kernel_rfl) (by kernel_rfl) (by kernel_rfl) (fun _ _ _ h => h) (Or.inl ⟨by rfl, ?hyc6_113⟩) (by assumption) ?restc6_113
                    case hyc6_113 => (intro w0 hSw; (try dsimp only at hSw); go_simp; try with_reducible rfl)
                    case' restc6_113 => try simp only [Act.put, List.getElem_toArray, List.getElem_cons_zero, List.getElem_cons_succ, List.setIfInBounds_toArray, List.set_cons_zero, List.set_cons_succ]
                    refine wpAnyH_take (i := 7) (v := ?vc7_114) rfl (by kernel_rfl) (by kernel_rfl) (by kernel_rfl) (fun _ _ _ h => h) (Or.inl ⟨by rfl, ?hyc7_114⟩) (by assumption) ?restc7_114
                    case hyc7_114 => (intro w0 hSw; (try dsimp only at hSw); go_simp; try with_reducible rfl)
                    case' restc7_114 => try simp only [Act.put, List.getElem_toArray, List.getElem_cons_zero, List.getElem_cons_succ, List.setIfInBounds_toArray, List.set_cons_zero, List.set_cons_succ]
                    refine wpAnyH_take (i := 8) (v := ?vc8_115) rfl (by kernel_rfl) (by kernel_rfl) (by kernel_rfl) (fun _ _ _ h => h) (Or.inl ⟨by rfl, ?hyc8_115⟩) (by assumption) ?restc8_115
                    case hyc8_115 => (intro w0 hSw; (try dsimp only at hSw); go_simp; try with_reducible rfl)
                    case' restc8_115 => try simp only [Act.put, List.getElem_toArray, List.getElem_cons_zero, List.getElem_cons_succ, List.setIfInBounds_toArray, List.set_cons_zero, List.set_cons_succ]
                    have HZ0 := Lib.hid (show w3.heap[w2.heap.size]? = some (.cells zIn tIn (0, 0)) from heap_keep (heap_new w2.drew (.cells zIn tIn)) hb)
                    obtain ⟨z0, z1, z2, z3, z4, z5, z6, z7, z8, z9⟩ := cell10 HZ0.out
                    obtain ⟨f0, f1, f2, f3, f4, f5, f6, f7, f8, f9⟩ := froz10 HZ0.out
                    have HTu := Lib.hid (turned_set10 w3 w2.heap.size (.int .i64 J.a.1) (.int .i64 J.a.2.1) (.slice C0 Cn0 Cc0) (.int .i64 J.b.1) (.int .i64 J.b.2.1) (.slice C1 Cn1 Cc1) (.int .i64 J.c.1) (.int .i64 J.c.2.1) (.slice C2 Cn2 Cc2) (.map mc))
                    have HSET := Lib.hid (set10 HZ0.out (.int .i64 J.a.1) (.int .i64 J.a.2.1) (.slice C0 Cn0 Cc0) (.int .i64 J.b.1) (.int .i64 J.b.2.1) (.slice C1 Cn1 Cc1) (.int .i64 J.c.1) (.int .i64 J.c.2.1) (.slice C2 Cn2 Cc2) (.map mc))
                    unfold set10w at HTu HSET
                    have HWs := Lib.hid (Below.turned HW1.out HTu.out (fun i hi => by omega) (Below.size HW1.out))
                    refine wpAnyH_ready (rs := [10]) (by kernel_rfl) (by simp) ?_
                    refine AllReadyH.cons rfl (fun K hK => ?_) AllReadyH.nil
                    go_simp
                    refine hK.out _ _ (HH.out _ (HWs.out)) (fun hHeld => ?_)
                    clear hK K
                    try simp only [Act.put, List.getElem_toArray, List.getElem_cons_zero, List.getElem_cons_succ, List.setIfInBounds_toArray, List.set_cons_zero, List.set_cons_succ]
                    refine wpAnyH_take (i := 11) (v := ?vc11_116) rfl (by kernel_rfl) (by kernel_rfl) (by kernel_rfl) (fun _ _ _ h => h) (Or.inl ⟨by rfl, ?hyc11_116⟩) (by assumption) ?restc11_116
                    case hyc11_116 => (intro w0 hSw; (try dsimp only at hSw); go_simp; try with_reducible rfl)
                    case' restc11_116 => try simp only [Act.put, List.getElem_toArray, List.getElem_cons_zero, List.getElem_cons_succ, List.setIfInBounds_toArray, List.set_cons_zero, List.set_cons_succ]
                    refine wpAnyH_done (by kernel_rfl) ?_ _
                    refine NoPanic.normal ?_
                    have hAvz := HAV1.out w2.heap.size (by simp) (Av.far HII.out (Nat.le_refl _))
                    go_wp2_with fail
                    go_meet
                    exact ⟨w2.heap.size, _, rfl, rfl, Nat.le_refl _, ⟨_, rfl, HSET.out⟩, HV1.out.turned HTu.out (fun b hb => by rw [hb]; exact hAvz), fun j hj ha => HAV1.out j (by simp; omega) ha, hAvz, HWs.out⟩
                case rest =>
                  obtain ⟨b5, v1, rfl, rfl, hb5, hbx, hv1, hav, hav5, hbl⟩ := hcut
                  have HV2 := Lib.hid hv1
                  obtain ⟨C0, Cn0, Cc0, C1, Cn1, Cc1, C2, Cn2, Cc2, mc, rfl, _⟩ := hv1
                  have HBX := Lib.hid hbx.get
                  have HC3 := Lib.hid (HC2.out.below hbl); have HX4 := Lib.hid (heap_keep HX2.out hbl); have HB3 := Lib.hid (bch HB2.out hbl HB2.out.size)
                  have HCC3 := Lib.hid (heap_keep HCC.out hbl)
                  have HAV := Lib.hid (fun j (hj : Cs cb bb pm bm vl vb j) => hav j (hcs j hj) (HC2.out.av j hj))
                  have HAVX := Lib.hid (fun j (hj : j < wa.heap.size) => hav j (by have := HB2.out.size; omega) (HAVI.out j hj))
                  clear hbx hav hav5 hbl HC2 HX2 HCC HACC HII y0 y1 y2 y3 y4 y5 y6 y7 y8 y9 y10 y11 k0 k1 k2
                  obtain ⟨y0, y1, y2, y3, y4, y5, y6, y7, y8, y9, y10, y11⟩ := cell12 HCC3.out
                  obtain ⟨f0, f1, f2, f3, f4, f5, f6, f7, f8, f9, f10, f11⟩ := froz12 HCC3.out
                  obtain ⟨i0, i1, i2, i3, i4, i5, i6, i7, i8, i9⟩ := cell10 HBX.out
                  obtain ⟨k0, k1, k2⟩ := cell3c HX4.out
                  go_wp2_with fail
                  have ht9 := turned_in wc cb (.int .i64 J.a.1) (.int .i64 J.a.2.1) (.slice C0 Cn0 Cc0) (.int .i64 J.b.1) (.int .i64 J.b.2.1) (.slice C1 Cn1 Cc1) (.int .i64 J.c.1) (.int .i64 J.c.2.1) (.slice C2 Cn2 Cc2) (.map mc)
                  have hs9 := set_in HCC3.out (.int .i64 J.a.1) (.int .i64 J.a.2.1) (.slice C0 Cn0 Cc0) (.int .i64 J.b.1) (.int .i64 J.b.2.1) (.slice C1 Cn1 Cc1) (.int .i64 J.c.1) (.int .i64 J.c.2.1) (.slice C2 Cn2 Cc2) (.map mc)
                  have HNEW := Lib.hid (show Cw wa.heap.size ((((((((((wc.setCell ⟨cb, 2, none⟩ (.int .i64 J.a.1)).setCell ⟨cb, 3, none⟩ (.int .i64 J.a.2.1)).setCell ⟨cb, 4, none⟩ (.slice C0 Cn0 Cc0)).setCell ⟨cb, 5, none⟩ (.int .i64 J.b.1)).setCell ⟨cb, 6, none⟩ (.int .i64 J.b.2.1)).setCell ⟨cb, 7, none⟩ (.slice C1 Cn1 Cc1)).setCell ⟨cb, 8, none⟩ (.int .i64 J.c.1)).setCell ⟨cb, 9, none⟩ (.int .i64 J.c.2.1)).setCell ⟨cb, 10, none⟩ (.slice C2 Cn2 Cc2)).setCell ⟨cb, 11, none⟩ (.map mc)) cb bb pm bm vl vb (.agg #[.int .i64 J.a.1, .int .i64 J.a.2.1, .slice C0 Cn0 Cc0, .int .i64 J.b.1, .int .i64 J.b.2.1, .slice C1 Cn1 Cc1, .int .i64 J.c.1, .int .i64 J.c.2.1, .slice C2 Cn2 Cc2, .map mc]) ⟨L, P, J⟩ from ⟨by simpa [inn10] using hs9, own_turned HC3.out.ol ht9 (fun j hj hs => (HC3.out.nl j hj).1 hs), HC3.out.bk.kept ht9 (fun j hj hs => HC3.out.cbB (by rw [← hs]; exact hj)), HV2.out.turned ht9 (fun j hs => HAV.out j (.inl hs)), HFJ.out, fun j hj => HAV.out j hj, HC3.out.ge, HC3.out.nc, HC3.out.nl⟩)
                  have HBN := Lib.hid (Below.turned HB3.out ht9 (fun i h => by rw [h]; exact HC3.out.ge) HB3.out.size)
                  go_roundw
                  case rel => exact ⟨3, _, rfl, by omega, by rw [HJ.out]; exact HNEW.out, HBN.out, by rw [HJ.out]; exact HAVX.out⟩
                  case measure => simp [intOf]
            · rw [inTo_three] at HC HAVI
              rcases HMR.out with hPb | ⟨x0, hPE, hXO, hXM⟩
              · subst hPb
                go_wp2_with fail
                go_loopw [13] (fun i wx => ∃ n : Nat, i = .int .i64 ((n : Int) + 1) ∧ n ≤ 60 ∧ Hid (Below wr.heap.size wr wx)) (fun i _ => 61 - (intOf i).toNat)
                case atStart => exact ⟨0, rfl, by omega, Below.refl _ _⟩
                case round =>
                  obtain ⟨n, rfl, hn, HBn⟩ := hrel
                  have HCn := Lib.hid (HC.out.below HBn.out); have HBB := Lib.hid (bch HBr.out HBn.out HBr.out.size)
                  by_cases hn60 : n < 60
                  · have hn60' : (n : Int) + 1 ≤ 60 := by omega
                    have hn0 : (0 : Int) ≤ n := by omega
                    obtain ⟨y0, y1⟩ := HCn.out.c01
                    have hsus := hi0.sus ((n : Int) + 1) (by omega) (by omega)
                    have hcash := hi0.cash ((n : Int) + 1) (by omega) (by omega)
                    have hib := inet_bd HFI.out ((n : Int) + 1)
                    obtain ⟨net, hnet⟩ : ∃ net, netC ⟨L, P, I⟩ ((n : Int) + 1) = net := ⟨_, rfl⟩
                    have hnb := netC_bd' hi0 ((n : Int) + 1)
                    rw [hnet] at hsus hnb
                    have hws : IntKind.i64.wrap (net - In.netI I ((n : Int) + 1)) = net - In.netI I ((n : Int) + 1) := IntWalk.i64_in _ (by omega)
                    have q1 := bneF hsus
                    have q2 := bneF hcash
                    have HBAL1 := Lib.hid (fun W (hW : Below wr.heap.size wr W) => bbal_any (HCn.out.bk.below hW) 1 ((n : Int) + 1) (by omega) (by omega)); have HBAL2 := Lib.hid (fun W (hW : Below wr.heap.size wr W) => bbal_any (HCn.out.bk.below hW) 2 ((n : Int) + 1) (by omega) (by omega))
                    have HNET := Lib.hid (fun W (hW : Below wr.heap.size wr W) => inet_any W _ I ((n : Int) + 1) (HCn.out.ii.below hW) HFI.out ⟨by omega, by omega⟩)
                    by_cases ho : n < L.length
                    · have hon : (n : Int) + 1 ≤ L.length := by omega
                      obtain ⟨s, hs⟩ : ∃ s, L[n]? = some s := ⟨_, List.getElem?_eq_getElem ho⟩
                      have hns : Sa.netI s = net := by rw [← hnet]; unfold netC; rw [show ((n : Int) + 1).toNat - 1 = n by omega, hs]
                      have HNS := Lib.hid (fun W => net_any s W)
                      rw [hns] at HNS
                      obtain ⟨Al, cl, hvl, _⟩ := own_slice HCn.out.ol
                      subst hvl
                      obtain ⟨g, off, n', c', e, d0, d1, d2, d3, d4, d5, d6, d7, d8, d9, d10, d11⟩ := (sgs_own HCn.out.ol).cells (Below.refl _ wr) hs
                      injection e with e1 e2 e3; subst e1; clear e2 e3
                      have hws2 : IntKind.i64.wrap ((n : Int) + 1 - 1) = n := by rw [show (n : Int) + 1 - 1 = n by omega]; exact IntWalk.i64_in _ (by omega)
                      have hlt : (n : Int) < L.length := by omega
                      clear hs hns hnet
                      go_wp2_with fail
                      refine (HNS.out wr).mono ?_
                      rintro e w6 ⟨rfl, hb6⟩
                      have HB6 := Lib.hid hb6
                      clear hb6 d0 d1 d2 d3 d4 d5 d6 d7 d8 d9 d10 d11 y0 y1
                      have HCt := Lib.hid (HCn.out.below HB6.out)
                      obtain ⟨D0, Dn0, Dc0, D1, Dn1, Dc1, D2, Dn2, Dc2, m, hvI, _⟩ := HCt.out.ii
                      subst hvI
                      have HCC := Lib.hid (show w6.heap[cb]? = some (.cells #[.slice (some ⟨g, off, none⟩) L.length cl, .pointer (some ⟨bb, 0, none⟩), .int .i64 I.a.1, .int .i64 I.a.2.1, .slice D0 Dn0 Dc0, .int .i64 I.b.1, .int .i64 I.b.2.1, .slice D1 Dn1 Dc1, .int .i64 I.c.1, .int .i64 I.c.2.1, .slice D2 Dn2 Dc2, .map m] tCore (0, 0)) by simpa [inn10] using HCt.out.hc)
                      obtain ⟨u0, u1, u2, u3, u4, u5, u6, u7, u8, u9, u10, u11⟩ := cell12 HCC.out
                      go_wp2_with fail
                      have HH := Lib.hid (fun W (hb : Below w6.heap.size w6 W) => (⟨Lib.hid hb, (hb.cell (World.block_lt_of_cell? w6 _ u1)).trans u1, (hb.cell (World.block_lt_of_cell? w6 _ u2)).trans u2, (hb.cell (World.block_lt_of_cell? w6 _ u3)).trans u3, (hb.cell (World.block_lt_of_cell? w6 _ u4)).trans u4, (hb.cell (World.block_lt_of_cell? w6 _ u5)).trans u5, (hb.cell (World.block_lt_of_cell? w6 _ u6)).trans u6, (hb.cell (World.block_lt_of_cell? w6 _ u7)).trans u7, (hb.cell (World.block_lt_of_cell? w6 _ u8)).trans u8, (hb.cell (World.block_lt_of_cell? w6 _ u9)).trans u9, (hb.cell (World.block_lt_of_cell? w6 _ u10)).trans u10, (hb.cell (World.block_lt_of_cell? w6 _ u11)).trans u11⟩ : (fun w' => Hid (Below w6.heap.size w6 w') ∧ w'.cell? ⟨cb, 1, none⟩ = some (.pointer (some ⟨bb, 0, none⟩)) ∧ w'.cell? ⟨cb, 2, none⟩ = some (.int .i64 I.a.1) ∧ w'.cell? ⟨cb, 3, none⟩ = some (.int .i64 I.a.2.1) ∧ w'.cell? ⟨cb, 4, none⟩ = some (.slice D0 Dn0 Dc0) ∧ w'.cell? ⟨cb, 5, none⟩ = some (.int .i64 I.b.1) ∧ w'.cell? ⟨cb, 6, none⟩ = some (.int .i64 I.b.2.1) ∧ w'.cell? ⟨cb, 7, none⟩ = some (.slice D1 Dn1 Dc1) ∧ w'.cell? ⟨cb, 8, none⟩ = some (.int .i64 I.c.1) ∧ w'.cell? ⟨cb, 9, none⟩ = some (.int .i64 I.c.2.1) ∧ w'.cell? ⟨cb, 10, none⟩ = some (.slice D2 Dn2 Dc2) ∧ w'.cell? ⟨cb, 11, none⟩ = some (.map m)) W))
                      refine wp_region_noPanic ?_
                      refine wp_region_held_drew (S := (fun w' => Hid (Below w6.heap.size w6 w') ∧ w'.cell? ⟨cb, 1, none⟩ = some (.pointer (some ⟨bb, 0, none⟩)) ∧ w'.cell? ⟨cb, 2, none⟩ = some (.int .i64 I.a.1) ∧ w'.cell? ⟨cb, 3, none⟩ = some (.int .i64 I.a.2.1) ∧ w'.cell? ⟨cb, 4, none⟩ = some (.slice D0 Dn0 Dc0) ∧ w'.cell? ⟨cb, 5, none⟩ = some (.int .i64 I.b.1) ∧ w'.cell? ⟨cb, 6, none⟩ = some (.int .i64 I.b.2.1) ∧ w'.cell? ⟨cb, 7, none⟩ = some (.slice D1 Dn1 Dc1) ∧ w'.cell? ⟨cb, 8, none⟩ = some (.int .i64 I.c.1) ∧ w'.cell? ⟨cb, 9, none⟩ = some (.int .i64 I.c.2.1) ∧ w'.cell? ⟨cb, 10, none⟩ = some (.slice D2 Dn2 Dc2) ∧ w'.cell? ⟨cb, 11, none⟩ = some (.map m))) (by kernel_rfl) (HH.out _ (below_drew1 (Below.refl w6.heap.size w6))) (fun hHeld => ?_)
                      refine wpAnyH_take (i := 0) (v := ?vc0_1) rfl (by kernel_rfl) (by kernel_rfl) (by kernel_rfl) (fun _ _ _ h => h) (Or.inl ⟨by rfl, ?hyc0_1⟩) (by assumption) ?restc0_1
                      case hyc0_1 => (intro w0 hSw; (try dsimp only at hSw); go_simp; try with_reducible rfl)
                      case' restc0_1 => try simp only [Act.put, List.getElem_toArray, List.getElem_cons_zero, List.getElem_cons_succ, List.setIfInBounds_toArray, List.set_cons_zero, List.set_cons_succ]
                      refine wpAnyH_take (i := 1) (v := ?vc1_2) rfl (by kernel_rfl) (by kernel_rfl) (by kernel_rfl) (fun _ _ _ h => h) (Or.inl ⟨by rfl, ?hyc1_2⟩) (by assumption) ?restc1_2
                      case hyc1_2 => (intro w0 hSw; (try dsimp only at hSw); go_simp; try with_reducible rfl)
                      case' restc1_2 => try simp only [Act.put, List.getElem_toArray, List.getElem_cons_zero, List.getElem_cons_succ, List.setIfInBounds_toArray, List.set_cons_zero, List.set_cons_succ]
                      refine wpAnyH_take (i := 2) (v := ?vc2_3) rfl (by kernel_rfl) (by kernel_rfl) (by kernel_rfl) (fun _ _ _ h => h) (Or.inl ⟨by rfl, ?hyc2_3⟩) (by assumption) ?restc2_3
                      case hyc2_3 => (intro w0 hSw; (try dsimp only at hSw); go_simp; try with_reducible rfl)
                      case' restc2_3 => try simp only [Act.put, List.getElem_toArray, List.getElem_cons_zero, List.getElem_cons_succ, List.setIfInBounds_toArray, List.set_cons_zero, List.set_cons_succ]
                      refine wpAnyH_take (i := 3) (v := ?vc3_4) rfl (by kernel_rfl) (by kernel_rfl) (by kernel_rfl) (fun _ _ _ h => h) (Or.inl ⟨by rfl, ?hyc3_4⟩) (by assumption) ?restc3_4
                      case hyc3_4 => (intro w0 hSw; (try dsimp only at hSw); go_simp; try with_reducible rfl)
                      case' restc3_4 => try simp only [Act.put, List.getElem_toArray, List.getElem_cons_zero, List.getElem_cons_succ, List.setIfInBounds_toArray, List.set_cons_zero, List.set_cons_succ]
                      refine wpAnyH_take (i := 4) (v := ?vc4_5) rfl (by kernel_rfl) (by kernel_rfl) (by kernel_rfl) (fun _ _ _ h => h) (Or.inl ⟨by rfl, ?hyc4_5⟩) (by assumption) ?restc4_5
                      case hyc4_5 => (intro w0 hSw; (try dsimp only at hSw); go_simp; try with_reducible rfl)
                      case' restc4_5 => try simp only [Act.put, List.getElem_toArray, List.getElem_cons_zero, List.getElem_cons_succ, List.setIfInBounds_toArray, List.set_cons_zero, List.set_cons_succ]
                      refine wpAnyH_take (i := 6) (v := ?vc6_6) rfl (by kernel_rfl) (by kernel_rfl) (by kernel_rfl) (fun _ _ _ h => h) (Or.inl ⟨by rfl, ?hyc6_6⟩) (by assumption) ?restc6_6
                      case hyc6_6 => (intro w0 hSw; (try dsimp only at hSw); go_simp; try with_reducible rfl)
                      case' restc6_6 => try simp only [Act.put, List.getElem_toArray, List.getElem_cons_zero, List.getElem_cons_succ, List.setIfInBounds_toArray, List.set_cons_zero, List.set_cons_succ]
                      refine wpAnyH_take (i := 7) (v := ?vc7_7) rfl (by kernel_rfl) (by kernel_rfl) (by kernel_rfl) (fun _ _ _ h => h) (Or.inl ⟨by rfl, ?hyc7_7⟩) (by assumption) ?restc7_7
                      case hyc7_7 => (intro w0 hSw; (try dsimp only at hSw); go_simp; try with_reducible rfl)
                      case' restc7_7 => try simp only [Act.put, List.getElem_toArray, List.getElem_cons_zero, List.getElem_cons_succ, List.setIfInBounds_toArray, List.set_cons_zero, List.set_cons_succ]
                      refine wpAnyH_take (i := 8) (v := ?vc8_8) rfl (by kernel_rfl) (by kernel_rfl) (by kernel_rfl) (fun _ _ _ h => h) (Or.inl ⟨by rfl, ?hyc8_8⟩) (by assumption) ?restc8_8
                      case hyc8_8 => (intro w0 hSw; (try dsimp only at hSw); go_simp; try with_reducible rfl)
                      case' restc8_8 => try simp only [Act.put, List.getElem_toArray, List.getElem_cons_zero, List.getElem_cons_succ, List.setIfInBounds_toArray, List.set_cons_zero, List.set_cons_succ]
                      refine wpAnyH_take (i := 9) (v := ?vc9_9) rfl (by kernel_rfl) (by kernel_rfl) (by kernel_rfl) (fun _ _ _ h => h) (Or.inl ⟨by rfl, ?hyc9_9⟩) (by assumption) ?restc9_9
                      case hyc9_9 => (intro w0 hSw; (try dsimp only at hSw); go_simp; try with_reducible rfl)
                      case' restc9_9 => try simp only [Act.put, List.getElem_toArray, List.getElem_cons_zero, List.getElem_cons_succ, List.setIfInBounds_toArray, List.set_cons_zero, List.set_cons_succ]
                      refine wpAnyH_take (i := 10) (v := ?vc10_10) rfl (by kernel_rfl) (by kernel_rfl) (by kernel_rfl) (fun _ _ _ h => h) (Or.inl ⟨by rfl, ?hyc10_10⟩) (by assumption) ?restc10_10
                      case hyc10_10 => (intro w0 hSw; (try dsimp only at hSw); go_simp; try with_reducible rfl)
                      case' restc10_10 => try simp only [Act.put, List.getElem_toArray, List.getElem_cons_zero, List.getElem_cons_succ, List.setIfInBounds_toArray, List.set_cons_zero, List.set_cons_succ]
                      refine wpAnyH_take (i := 11) (v := ?vc11_11) rfl (by kernel_rfl) (by kernel_rfl) (by kernel_rfl) (fun _ _ _ h => h) (Or.inl ⟨by rfl, ?hyc11_11⟩) (by assumption) ?restc11_11
                      case hyc11_11 => (intro w0 hSw; (try dsimp only at hSw); go_simp; try with_reducible rfl)
                      case' restc11_11 => try simp only [Act.put, List.getElem_toArray, List.getElem_cons_zero, List.getElem_cons_succ, List.setIfInBounds_toArray, List.set_cons_zero, List.set_cons_succ]
                      refine wpAnyH_ready (rs := [5]) (by kernel_rfl) (by simp) ?_
                      refine AllReadyH.cons rfl (fun K hK => ?_) AllReadyH.nil
                      go_simp
                      refine (HBAL1.out _ (bch HB6.out (below_drew1 (Below.refl w6.heap.size w6)) (Below.size HB6.out))).mono ?_
                      rintro e w7 ⟨rfl, hw⟩; subst hw
                      refine hK.out _ _ (by assumption) (fun hHeld => ?_)
                      clear hK K
                      try simp only [Act.put, List.getElem_toArray, List.getElem_cons_zero, List.getElem_cons_succ, List.setIfInBounds_toArray, List.set_cons_zero, List.set_cons_succ]
                      refine wpAnyH_ready (rs := [12]) (by kernel_rfl) (by simp) ?_
                      refine AllReadyH.cons rfl (fun K hK => ?_) AllReadyH.nil
                      go_simp
                      refine (HNET.out _ (bch HB6.out (below_drew1 (Below.refl w6.heap.size w6)) (Below.size HB6.out))).mono ?_
                      rintro e w8 ⟨rfl, hb⟩
                      have HW8 := Lib.hid (bch (below_drew1 (Below.refl w6.heap.size w6)) hb (Below.size (below_drew1 (Below.refl w6.heap.size w6))))
                      clear hb
                      refine hK.out _ _ (HH.out _ (HW8.out)) (fun hHeld => ?_)
                      clear hK K
                      try simp only [Act.put, List.getElem_toArray, List.getElem_cons_zero, List.getElem_cons_succ, List.setIfInBounds_toArray, List.set_cons_zero, List.set_cons_succ]
                      refine wpAnyH_take (i := 13) (v := ?vc13_12) rfl (by kernel_rfl) (by kernel_rfl) (by kernel_rfl) (fun _ _ _ h => h) (Or.inl ⟨by rfl, ?hyc13_12⟩) (by assumption) ?restc13_12
                      case hyc13_12 => (intro w0 hSw; (try dsimp only at hSw); go_simp; try with_reducible rfl)
                      case' restc13_12 => try simp only [Act.put, List.getElem_toArray, List.getElem_cons_zero, List.getElem_cons_succ, List.setIfInBounds_toArray, List.set_cons_zero, List.set_cons_succ]
                      refine wpAnyH_take (i := 14) (v := ?vc14_13) rfl (by kernel_rfl) (by kernel_rfl) (by kernel_rfl) (fun _ _ _ h => h) (Or.inl ⟨by rfl, ?hyc14_13⟩) (by assumption) ?restc14_13
                      case hyc14_13 => (intro w0 hSw; (try dsimp only at hSw); go_simp; try with_reducible rfl)
                      case' restc14_13 => try simp only [Act.put, List.getElem_toArray, List.getElem_cons_zero, List.getElem_cons_succ, List.setIfInBounds_toArray, List.set_cons_zero, List.set_cons_succ]
                      refine wpAnyH_take (i := 15) (v := ?vc15_14) rfl (by kernel_rfl) (by kernel_rfl) (by kernel_rfl) (fun _ _ _ h => h) (Or.inl ⟨by rfl, ?hyc15_14⟩) (by assumption) ?restc15_14
                      case hyc15_14 => (intro w0 hSw; (try dsimp only at hSw); go_simp; try with_reducible rfl)
                      case' restc15_14 => try simp only [Act.put, List.getElem_toArray, List.getElem_cons_zero, List.getElem_cons_succ, List.setIfInBounds_toArray, List.set_cons_zero, List.set_cons_succ]
                      refine wpAnyH_take (i := 16) (v := ?vc16_15) rfl (by kernel_rfl) (by kernel_rfl) (by kernel_rfl) (fun _ _ _ h => h) (Or.inl ⟨by rfl, ?hyc16_15⟩) (by assumption) ?restc16_15
                      case hyc16_15 => (intro w0 hSw; (try dsimp only at hSw); go_simp; try with_reducible rfl)
                      case' restc16_15 => try simp only [Act.put, List.getElem_toArray, List.getElem_cons_zero, List.getElem_cons_succ, List.setIfInBounds_toArray, List.set_cons_zero, List.set_cons_succ]
                      refine wpAnyH_take (i := 17) (v := ?vc17_16) rfl (by kernel_rfl) (by kernel_rfl) (by kernel_rfl) (fun _ _ _ h => h) (Or.inl ⟨by rfl, ?hyc17_16⟩) (by assumption) ?restc17_16
                      case hyc17_16 => (intro w0 hSw; (try dsimp only at hSw); go_simp; try with_reducible rfl)
                      case' restc17_16 => try simp only [Act.put, List.getElem_toArray, List.getElem_cons_zero, List.getElem_cons_succ, List.setIfInBounds_toArray, List.set_cons_zero, List.set_cons_succ]
                      refine wpAnyH_take (i := 18) (v := ?vc18_17) rfl (by kernel_rfl) (by kernel_rfl) (by kernel_rfl) (fun _ _ _ h => h) (Or.inl ⟨by rfl, ?hyc18_17⟩) (by assumption) ?restc18_17
                      case hyc18_17 => (intro w0 hSw; (try dsimp only at hSw); go_simp; try with_reducible rfl)
                      case' restc18_17 => try simp only [Act.put, List.getElem_toArray, List.getElem_cons_zero, List.getElem_cons_succ, List.setIfInBounds_toArray, List.set_cons_zero, List.set_cons_succ]
                      refine wpAnyH_take (i := 19) (v := ?vc19_18) rfl (by kernel_rfl) (by kernel_rfl) (by kernel_rfl) (fun _ _ _ h => h) (Or.inl ⟨by rfl, ?hyc19_18⟩) (by assumption) ?restc19_18
                      case hyc19_18 => (intro w0 hSw; (try dsimp only at hSw); go_simp; try with_reducible rfl)
                      case' restc19_18 => try simp only [Act.put, List.getElem_toArray, List.getElem_cons_zero, List.getElem_cons_succ, List.setIfInBounds_toArray, List.set_cons_zero, List.set_cons_succ]
                      refine wpAnyH_take (i := 20) (v := ?vc20_19) rfl (by kernel_rfl) (by kernel_rfl) (by kernel_rfl) (fun _ _ _ h => h) (Or.inl ⟨by rfl, ?hyc20_19⟩) (by assumption) ?restc20_19
                      case hyc20_19 => (intro w0 hSw; (try dsimp only at hSw); go_simp; try with_reducible rfl)
                      case' restc20_19 => try simp only [Act.put, List.getElem_toArray, List.getElem_cons_zero, List.getElem_cons_succ, List.setIfInBounds_toArray, List.set_cons_zero, List.set_cons_succ]
                      refine wpAnyH_take (i := 22) (v := ?vc22_20) rfl (by kernel_rfl) (by kernel_rfl) (by kernel_rfl) (fun _ _ _ h => h) (Or.inl ⟨by rfl, ?hyc22_20⟩) (by assumption) ?restc22_20
                      case hyc22_20 => (intro w0 hSw; (try dsimp only at hSw); go_simp; try with_reducible rfl)
                      case' restc22_20 => try simp only [Act.put, List.getElem_toArray, List.getElem_cons_zero, List.getElem_cons_succ, List.setIfInBounds_toArray, List.set_cons_zero, List.set_cons_succ]
                      refine wpAnyH_take (i := 23) (v := ?vc23_21) rfl (by kernel_rfl) (by kernel_rfl) (by kernel_rfl) (fun _ _ _ h => h) (Or.inl ⟨by rfl, ?hyc23_21⟩) (by assumption) ?restc23_21
                      case hyc23_21 => (intro w0 hSw; (try dsimp only at hSw); go_simp; try with_reducible rfl)
                      case' restc23_21 => try simp only [Act.put, List.getElem_toArray, List.getElem_cons_zero, List.getElem_cons_succ, List.setIfInBounds_toArray, List.set_cons_zero, List.set_cons_succ]
                      refine wpAnyH_take (i := 24) (v := ?vc24_22) rfl (by kernel_rfl) (by kernel_rfl) (by kernel_rfl) (fun _ _ _ h => h) (Or.inl ⟨by rfl, ?hyc24_22⟩) (by assumption) ?restc24_22
                      case hyc24_22 => (intro w0 hSw; (try dsimp only at hSw); go_simp; try with_reducible rfl)
                      case' restc24_22 => try simp only [Act.put, List.getElem_toArray, List.getElem_cons_zero, List.getElem_cons_succ, List.setIfInBounds_toArray, List.set_cons_zero, List.set_cons_succ]
                      refine wpAnyH_take (i := 25) (v := ?vc25_23) rfl (by kernel_rfl) (by kernel_rfl) (by kernel_rfl) (fun _ _ _ h => h) (Or.inl ⟨by rfl, ?hyc25_23⟩) (by assumption) ?restc25_23
                      case hyc25_23 => (intro w0 hSw; (try dsimp only at hSw); go_simp; try with_reducible rfl)
                      case' restc25_23 => try simp only [Act.put, List.getElem_toArray, List.getElem_cons_zero, List.getElem_cons_succ, List.setIfInBounds_toArray, List.set_cons_zero, List.set_cons_succ]
                      refine wpAnyH_take (i := 26) (v := ?vc26_24) rfl (by kernel_rfl) (by kernel_rfl) (by kernel_rfl) (fun _ _ _ h => h) (Or.inl ⟨by rfl, ?hyc26_24⟩) (by assumption) ?restc26_24
                      case hyc26_24 => (intro w0 hSw; (try dsimp only at hSw); go_simp; try with_reducible rfl)
                      case' restc26_24 => try simp only [Act.put, List.getElem_toArray, List.getElem_cons_zero, List.getElem_cons_succ, List.setIfInBounds_toArray, List.set_cons_zero, List.set_cons_succ]
                      refine wpAnyH_ready (rs := [21]) (by kernel_rfl) (by simp) ?_
                      refine AllReadyH.cons rfl (fun K hK => ?_) AllReadyH.nil
                      go_simp
                      refine (HBAL2.out _ (bch HB6.out HW8.out (Below.size HB6.out))).mono ?_
                      rintro e w9 ⟨rfl, hw⟩; subst hw
                      refine hK.out _ _ (by assumption) (fun hHeld => ?_)
                      clear hK K
                      try simp only [Act.put, List.getElem_toArray, List.getElem_cons_zero, List.getElem_cons_succ, List.setIfInBounds_toArray, List.set_cons_zero, List.set_cons_succ]
                      refine wpAnyH_ready (rs := [27]) (by kernel_rfl) (by simp) ?_
                      refine AllReadyH.cons rfl (fun K hK => ?_) AllReadyH.nil
                      go_simp
                      refine (HNET.out _ (bch HB6.out HW8.out (Below.size HB6.out))).mono ?_
                      rintro e w10 ⟨rfl, hb⟩
                      have HW10 := Lib.hid (bch HW8.out hb (Below.size HW8.out))
                      clear hb
                      refine hK.out _ _ (HH.out _ (HW10.out)) (fun hHeld => ?_)
                      clear hK K
                      try simp only [Act.put, List.getElem_toArray, List.getElem_cons_zero, List.getElem_cons_succ, List.setIfInBounds_toArray, List.set_cons_zero, List.set_cons_succ]
                      refine wpAnyH_take (i := 28) (v := ?vc28_25) rfl (by kernel_rfl) (by kernel_rfl) (by kernel_rfl) (fun _ _ _ h => h) (Or.inl ⟨by rfl, ?hyc28_25⟩) (by assumption) ?restc28_25
                      case hyc28_25 => (intro w0 hSw; (try dsimp only at hSw); go_simp; try with_reducible rfl)
                      case' restc28_25 => try simp only [Act.put, List.getElem_toArray, List.getElem_cons_zero, List.getElem_cons_succ, List.setIfInBounds_toArray, List.set_cons_zero, List.set_cons_succ]
                      refine wpAnyH_take (i := 29) (v := ?vc29_26) rfl (by kernel_rfl) (by kernel_rfl) (by kernel_rfl) (fun _ _ _ h => h) (Or.inl ⟨by rfl, ?hyc29_26⟩) (by assumption) ?restc29_26
                      case hyc29_26 => (intro w0 hSw; (try dsimp only at hSw); go_simp; try with_reducible rfl)
                      case' restc29_26 => try simp only [Act.put, List.getElem_toArray, List.getElem_cons_zero, List.getElem_cons_succ, List.setIfInBounds_toArray, List.set_cons_zero, List.set_cons_succ]
                      refine wpAnyH_done (by kernel_rfl) ?_ _
                      refine NoPanic.normal ?_
                      have HBQ := Lib.hid (bch HBn.out (bch HB6.out HW10.out (Below.size HB6.out)) HBn.out.size)
                      clear hHeld HH
                      go_wp2_with fail
                      refine ⟨?_, by simp [intOf]; omega⟩
                      first | exact ⟨n + 1, by go_num, by omega, HBQ.out⟩ | ((repeat apply Exists.intro); exact ⟨⟨n + 1, by go_num, by omega, HBQ.out⟩, rfl⟩)
                    · have hon : ¬ (n : Int) + 1 ≤ L.length := by omega
                      have hz : net = 0 := by rw [← hnet]; unfold netC; rw [show ((n : Int) + 1).toNat - 1 = n by omega, List.getElem?_eq_none (by show L.length ≤ n; omega)]
                      have hws0 : IntKind.i64.wrap (-(In.netI I ((n : Int) + 1))) = -(In.netI I ((n : Int) + 1)) := IntWalk.i64_in _ (by omega)
                      have q10 := bneF (show balI P 1 ((n : Int) + 1) = -(In.netI I ((n : Int) + 1)) by rw [show balI P 1 ((n : Int) + 1) = net - In.netI I ((n : Int) + 1) from hsus, hz, Int.zero_sub])
                      clear hz hsus hws q1
                      obtain ⟨Al, cl, hvl, _⟩ := own_slice HCn.out.ol
                      subst hvl
                      have HB6 := Lib.hid (Below.refl wr.heap.size wr)
                      clear hnet
                      have HCt := Lib.hid (HCn.out.below HB6.out)
                      obtain ⟨D0, Dn0, Dc0, D1, Dn1, Dc1, D2, Dn2, Dc2, m, hvI, _⟩ := HCt.out.ii
                      subst hvI
                      have HCC := Lib.hid (show wr.heap[cb]? = some (.cells #[.slice Al L.length cl, .pointer (some ⟨bb, 0, none⟩), .int .i64 I.a.1, .int .i64 I.a.2.1, .slice D0 Dn0 Dc0, .int .i64 I.b.1, .int .i64 I.b.2.1, .slice D1 Dn1 Dc1, .int .i64 I.c.1, .int .i64 I.c.2.1, .slice D2 Dn2 Dc2, .map m] tCore (0, 0)) by simpa [inn10] using HCt.out.hc)
                      obtain ⟨u0, u1, u2, u3, u4, u5, u6, u7, u8, u9, u10, u11⟩ := cell12 HCC.out
                      go_wp2_with fail
                      have HH := Lib.hid (fun W (hb : Below wr.heap.size wr W) => (⟨Lib.hid hb, (hb.cell (World.block_lt_of_cell? wr _ u1)).trans u1, (hb.cell (World.block_lt_of_cell? wr _ u2)).trans u2, (hb.cell (World.block_lt_of_cell? wr _ u3)).trans u3, (hb.cell (World.block_lt_of_cell? wr _ u4)).trans u4, (hb.cell (World.block_lt_of_cell? wr _ u5)).trans u5, (hb.cell (World.block_lt_of_cell? wr _ u6)).trans u6, (hb.cell (World.block_lt_of_cell? wr _ u7)).trans u7, (hb.cell (World.block_lt_of_cell? wr _ u8)).trans u8, (hb.cell (World.block_lt_of_cell? wr _ u9)).trans u9, (hb.cell (World.block_lt_of_cell? wr _ u10)).trans u10, (hb.cell (World.block_lt_of_cell? wr _ u11)).trans u11⟩ : (fun w' => Hid (Below wr.heap.size wr w') ∧ w'.cell? ⟨cb, 1, none⟩ = some (.pointer (some ⟨bb, 0, none⟩)) ∧ w'.cell? ⟨cb, 2, none⟩ = some (.int .i64 I.a.1) ∧ w'.cell? ⟨cb, 3, none⟩ = some (.int .i64 I.a.2.1) ∧ w'.cell? ⟨cb, 4, none⟩ = some (.slice D0 Dn0 Dc0) ∧ w'.cell? ⟨cb, 5, none⟩ = some (.int .i64 I.b.1) ∧ w'.cell? ⟨cb, 6, none⟩ = some (.int .i64 I.b.2.1) ∧ w'.cell? ⟨cb, 7, none⟩ = some (.slice D1 Dn1 Dc1) ∧ w'.cell? ⟨cb, 8, none⟩ = some (.int .i64 I.c.1) ∧ w'.cell? ⟨cb, 9, none⟩ = some (.int .i64 I.c.2.1) ∧ w'.cell? ⟨cb, 10, none⟩ = some (.slice D2 Dn2 Dc2) ∧ w'.cell? ⟨cb, 11, none⟩ = some (.map m)) W))
                      refine wp_region_noPanic ?_
                      refine wp_region_held_drew (S := (fun w' => Hid (Below wr.heap.size wr w') ∧ w'.cell? ⟨cb, 1, none⟩ = some (.pointer (some ⟨bb, 0, none⟩)) ∧ w'.cell? ⟨cb, 2, none⟩ = some (.int .i64 I.a.1) ∧ w'.cell? ⟨cb, 3, none⟩ = some (.int .i64 I.a.2.1) ∧ w'.cell? ⟨cb, 4, none⟩ = some (.slice D0 Dn0 Dc0) ∧ w'.cell? ⟨cb, 5, none⟩ = some (.int .i64 I.b.1) ∧ w'.cell? ⟨cb, 6, none⟩ = some (.int .i64 I.b.2.1) ∧ w'.cell? ⟨cb, 7, none⟩ = some (.slice D1 Dn1 Dc1) ∧ w'.cell? ⟨cb, 8, none⟩ = some (.int .i64 I.c.1) ∧ w'.cell? ⟨cb, 9, none⟩ = some (.int .i64 I.c.2.1) ∧ w'.cell? ⟨cb, 10, none⟩ = some (.slice D2 Dn2 Dc2) ∧ w'.cell? ⟨cb, 11, none⟩ = some (.map m))) (by kernel_rfl) (HH.out _ (below_drew1 (Below.refl wr.heap.size wr))) (fun hHeld => ?_)
                      refine wpAnyH_take (i := 0) (v := ?vc0_27) rfl (by kernel_rfl) (by kernel_rfl) (by kernel_rfl) (fun _ _ _ h => h) (Or.inl ⟨by rfl, ?hyc0_27⟩) (by assumption) ?restc0_27
                      case hyc0_27 => (intro w0 hSw; (try dsimp only at hSw); go_simp; try with_reducible rfl)
                      case' restc0_27 => try simp only [Act.put, List.getElem_toArray, List.getElem_cons_zero, List.getElem_cons_succ, List.setIfInBounds_toArray, List.set_cons_zero, List.set_cons_succ]
                      refine wpAnyH_take (i := 1) (v := ?vc1_28) rfl (by kernel_rfl) (by kernel_rfl) (by kernel_rfl) (fun _ _ _ h => h) (Or.inl ⟨by rfl, ?hyc1_28⟩) (by assumption) ?restc1_28
                      case hyc1_28 => (intro w0 hSw; (try dsimp only at hSw); go_simp; try with_reducible rfl)
                      case' restc1_28 => try simp only [Act.put, List.getElem_toArray, List.getElem_cons_zero, List.getElem_cons_succ, List.setIfInBounds_toArray, List.set_cons_zero, List.set_cons_succ]
                      refine wpAnyH_take (i := 2) (v := ?vc2_29) rfl (by kernel_rfl) (by kernel_rfl) (by kernel_rfl) (fun _ _ _ h => h) (Or.inl ⟨by rfl, ?hyc2_29⟩) (by assumption) ?restc2_29
                      case hyc2_29 => (intro w0 hSw; (try dsimp only at hSw); go_simp; try with_reducible rfl)
                      case' restc2_29 => try simp only [Act.put, List.getElem_toArray, List.getElem_cons_zero, List.getElem_cons_succ, List.setIfInBounds_toArray, List.set_cons_zero, List.set_cons_succ]
                      refine wpAnyH_take (i := 3) (v := ?vc3_30) rfl (by kernel_rfl) (by kernel_rfl) (by kernel_rfl) (fun _ _ _ h => h) (Or.inl ⟨by rfl, ?hyc3_30⟩) (by assumption) ?restc3_30
                      case hyc3_30 => (intro w0 hSw; (try dsimp only at hSw); go_simp; try with_reducible rfl)
                      case' restc3_30 => try simp only [Act.put, List.getElem_toArray, List.getElem_cons_zero, List.getElem_cons_succ, List.setIfInBounds_toArray, List.set_cons_zero, List.set_cons_succ]
                      refine wpAnyH_take (i := 4) (v := ?vc4_31) rfl (by kernel_rfl) (by kernel_rfl) (by kernel_rfl) (fun _ _ _ h => h) (Or.inl ⟨by rfl, ?hyc4_31⟩) (by assumption) ?restc4_31
                      case hyc4_31 => (intro w0 hSw; (try dsimp only at hSw); go_simp; try with_reducible rfl)
                      case' restc4_31 => try simp only [Act.put, List.getElem_toArray, List.getElem_cons_zero, List.getElem_cons_succ, List.setIfInBounds_toArray, List.set_cons_zero, List.set_cons_succ]
                      refine wpAnyH_take (i := 6) (v := ?vc6_32) rfl (by kernel_rfl) (by kernel_rfl) (by kernel_rfl) (fun _ _ _ h => h) (Or.inl ⟨by rfl, ?hyc6_32⟩) (by assumption) ?restc6_32
                      case hyc6_32 => (intro w0 hSw; (try dsimp only at hSw); go_simp; try with_reducible rfl)
                      case' restc6_32 => try simp only [Act.put, List.getElem_toArray, List.getElem_cons_zero, List.getElem_cons_succ, List.setIfInBounds_toArray, List.set_cons_zero, List.set_cons_succ]
                      refine wpAnyH_take (i := 7) (v := ?vc7_33) rfl (by kernel_rfl) (by kernel_rfl) (by kernel_rfl) (fun _ _ _ h => h) (Or.inl ⟨by rfl, ?hyc7_33⟩) (by assumption) ?restc7_33
                      case hyc7_33 => (intro w0 hSw; (try dsimp only at hSw); go_simp; try with_reducible rfl)
                      case' restc7_33 => try simp only [Act.put, List.getElem_toArray, List.getElem_cons_zero, List.getElem_cons_succ, List.setIfInBounds_toArray, List.set_cons_zero, List.set_cons_succ]
                      refine wpAnyH_take (i := 8) (v := ?vc8_34) rfl (by kernel_rfl) (by kernel_rfl) (by kernel_rfl) (fun _ _ _ h => h) (Or.inl ⟨by rfl, ?hyc8_34⟩) (by assumption) ?restc8_34
                      case hyc8_34 => (intro w0 hSw; (try dsimp only at hSw); go_simp; try with_reducible rfl)
                      case' restc8_34 => try simp only [Act.put, List.getElem_toArray, List.getElem_cons_zero, List.getElem_cons_succ, List.setIfInBounds_toArray, List.set_cons_zero, List.set_cons_succ]
                      refine wpAnyH_take (i := 9) (v := ?vc9_35) rfl (by kernel_rfl) (by kernel_rfl) (by kernel_rfl) (fun _ _ _ h => h) (Or.inl ⟨by rfl, ?hyc9_35⟩) (by assumption) ?restc9_35
                      case hyc9_35 => (intro w0 hSw; (try dsimp only at hSw); go_simp; try with_reducible rfl)
                      case' restc9_35 => try simp only [Act.put, List.getElem_toArray, List.getElem_cons_zero, List.getElem_cons_succ, List.setIfInBounds_toArray, List.set_cons_zero, List.set_cons_succ]
                      refine wpAnyH_take (i := 10) (v := ?vc10_36) rfl (by kernel_rfl) (by kernel_rfl) (by kernel_rfl) (fun _ _ _ h => h) (Or.inl ⟨by rfl, ?hyc10_36⟩) (by assumption) ?restc10_36
                      case hyc10_36 => (intro w0 hSw; (try dsimp only at hSw); go_simp; try with_reducible rfl)
                      case' restc10_36 => try simp only [Act.put, List.getElem_toArray, List.getElem_cons_zero, List.getElem_cons_succ, List.setIfInBounds_toArray, List.set_cons_zero, List.set_cons_succ]
                      refine wpAnyH_take (i := 11) (v := ?vc11_37) rfl (by kernel_rfl) (by kernel_rfl) (by kernel_rfl) (fun _ _ _ h => h) (Or.inl ⟨by rfl, ?hyc11_37⟩) (by assumption) ?restc11_37
                      case hyc11_37 => (intro w0 hSw; (try dsimp only at hSw); go_simp; try with_reducible rfl)
                      case' restc11_37 => try simp only [Act.put, List.getElem_toArray, List.getElem_cons_zero, List.getElem_cons_succ, List.setIfInBounds_toArray, List.set_cons_zero, List.set_cons_succ]
                      refine wpAnyH_ready (rs := [5]) (by kernel_rfl) (by simp) ?_
                      refine AllReadyH.cons rfl (fun K hK => ?_) AllReadyH.nil
                      go_simp
                      refine (HBAL1.out _ (bch HB6.out (below_drew1 (Below.refl wr.heap.size wr)) (Below.size HB6.out))).mono ?_
                      rintro e w7 ⟨rfl, hw⟩; subst hw
                      refine hK.out _ _ (by assumption) (fun hHeld => ?_)
                      clear hK K
                      try simp only [Act.put, List.getElem_toArray, List.getElem_cons_zero, List.getElem_cons_succ, List.setIfInBounds_toArray, List.set_cons_zero, List.set_cons_succ]
                      refine wpAnyH_ready (rs := [12]) (by kernel_rfl) (by simp) ?_
                      refine AllReadyH.cons rfl (fun K hK => ?_) AllReadyH.nil
                      go_simp
                      refine (HNET.out _ (bch HB6.out (below_drew1 (Below.refl wr.heap.size wr)) (Below.size HB6.out))).mono ?_
                      rintro e w8 ⟨rfl, hb⟩
                      have HW8 := Lib.hid (bch (below_drew1 (Below.refl wr.heap.size wr)) hb (Below.size (below_drew1 (Below.refl wr.heap.size wr))))
                      clear hb
                      refine hK.out _ _ (HH.out _ (HW8.out)) (fun hHeld => ?_)
                      clear hK K
                      try simp only [Act.put, List.getElem_toArray, List.getElem_cons_zero, List.getElem_cons_succ, List.setIfInBounds_toArray, List.set_cons_zero, List.set_cons_succ]
                      refine wpAnyH_take (i := 13) (v := ?vc13_38) rfl (by kernel_rfl) (by kernel_rfl) (by kernel_rfl) (fun _ _ _ h => h) (Or.inl ⟨by rfl, ?hyc13_38⟩) (by assumption) ?restc13_38
                      case hyc13_38 => (intro w0 hSw; (try dsimp only at hSw); go_simp; try with_reducible rfl)
                      case' restc13_38 => try simp only [Act.put, List.getElem_toArray, List.getElem_cons_zero, List.getElem_cons_succ, List.setIfInBounds_toArray, List.set_cons_zero, List.set_cons_succ]
                      refine wpAnyH_take (i := 14) (v := ?vc14_39) rfl (by kernel_rfl) (by kernel_rfl) (by kernel_rfl) (fun _ _ _ h => h) (Or.inl ⟨by rfl, ?hyc14_39⟩) (by assumption) ?restc14_39
                      case hyc14_39 => (intro w0 hSw; (try dsimp only at hSw); go_simp; try with_reducible rfl)
                      case' restc14_39 => try simp only [Act.put, List.getElem_toArray, List.getElem_cons_zero, List.getElem_cons_succ, List.setIfInBounds_toArray, List.set_cons_zero, List.set_cons_succ]
                      refine wpAnyH_take (i := 15) (v := ?vc15_40) rfl (by kernel_rfl) (by kernel_rfl) (by kernel_rfl) (fun _ _ _ h => h) (Or.inl ⟨by rfl, ?hyc15_40⟩) (by assumption) ?restc15_40
                      case hyc15_40 => (intro w0 hSw; (try dsimp only at hSw); go_simp; try with_reducible rfl)
                      case' restc15_40 => try simp only [Act.put, List.getElem_toArray, List.getElem_cons_zero, List.getElem_cons_succ, List.setIfInBounds_toArray, List.set_cons_zero, List.set_cons_succ]
                      refine wpAnyH_take (i := 16) (v := ?vc16_41) rfl (by kernel_rfl) (by kernel_rfl) (by kernel_rfl) (fun _ _ _ h => h) (Or.inl ⟨by rfl, ?hyc16_41⟩) (by assumption) ?restc16_41
                      case hyc16_41 => (intro w0 hSw; (try dsimp only at hSw); go_simp; try with_reducible rfl)
                      case' restc16_41 => try simp only [Act.put, List.getElem_toArray, List.getElem_cons_zero, List.getElem_cons_succ, List.setIfInBounds_toArray, List.set_cons_zero, List.set_cons_succ]
                      refine wpAnyH_take (i := 17) (v := ?vc17_42) rfl (by kernel_rfl) (by kernel_rfl) (by kernel_rfl) (fun _ _ _ h => h) (Or.inl ⟨by rfl, ?hyc17_42⟩) (by assumption) ?restc17_42
                      case hyc17_42 => (intro w0 hSw; (try dsimp only at hSw); go_simp; try with_reducible rfl)
                      case' restc17_42 => try simp only [Act.put, List.getElem_toArray, List.getElem_cons_zero, List.getElem_cons_succ, List.setIfInBounds_toArray, List.set_cons_zero, List.set_cons_succ]
                      refine wpAnyH_take (i := 18) (v := ?vc18_43) rfl (by kernel_rfl) (by kernel_rfl) (by kernel_rfl) (fun _ _ _ h => h) (Or.inl ⟨by rfl, ?hyc18_43⟩) (by assumption) ?restc18_43
                      case hyc18_43 => (intro w0 hSw; (try dsimp only at hSw); go_simp; try with_reducible rfl)
                      case' restc18_43 => try simp only [Act.put, List.getElem_toArray, List.getElem_cons_zero, List.getElem_cons_succ, List.setIfInBounds_toArray, List.set_cons_zero, List.set_cons_succ]
                      refine wpAnyH_take (i := 19) (v := ?vc19_44) rfl (by kernel_rfl) (by kernel_rfl) (by kernel_rfl) (fun _ _ _ h => h) (Or.inl ⟨by rfl, ?hyc19_44⟩) (by assumption) ?restc19_44
                      case hyc19_44 => (intro w0 hSw; (try dsimp only at hSw); go_simp; try with_reducible rfl)
                      case' restc19_44 => try simp only [Act.put, List.getElem_toArray, List.getElem_cons_zero, List.getElem_cons_succ, List.setIfInBounds_toArray, List.set_cons_zero, List.set_cons_succ]
                      refine wpAnyH_take (i := 20) (v := ?vc20_45) rfl (by kernel_rfl) (by kernel_rfl) (by kernel_rfl) (fun _ _ _ h => h) (Or.inl ⟨by rfl, ?hyc20_45⟩) (by assumption) ?restc20_45
                      case hyc20_45 => (intro w0 hSw; (try dsimp only at hSw); go_simp; try with_reducible rfl)
                      case' restc20_45 => try simp only [Act.put, List.getElem_toArray, List.getElem_cons_zero, List.getElem_cons_succ, List.setIfInBounds_toArray, List.set_cons_zero, List.set_cons_succ]
                      refine wpAnyH_take (i := 22) (v := ?vc22_46) rfl (by kernel_rfl) (by kernel_rfl) (by kernel_rfl) (fun _ _ _ h => h) (Or.inl ⟨by rfl, ?hyc22_46⟩) (by assumption) ?restc22_46
                      case hyc22_46 => (intro w0 hSw; (try dsimp only at hSw); go_simp; try with_reducible rfl)
                      case' restc22_46 => try simp only [Act.put, List.getElem_toArray, List.getElem_cons_zero, List.getElem_cons_succ, List.setIfInBounds_toArray, List.set_cons_zero, List.set_cons_succ]
                      refine wpAnyH_take (i := 23) (v := ?vc23_47) rfl (by kernel_rfl) (by kernel_rfl) (by kernel_rfl) (fun _ _ _ h => h) (Or.inl ⟨by rfl, ?hyc23_47⟩) (by assumption) ?restc23_47
                      case hyc23_47 => (intro w0 hSw; (try dsimp only at hSw); go_simp; try with_reducible rfl)
                      case' restc23_47 => try simp only [Act.put, List.getElem_toArray, List.getElem_cons_zero, List.getElem_cons_succ, List.setIfInBounds_toArray, List.set_cons_zero, List.set_cons_succ]
                      refine wpAnyH_take (i := 24) (v := ?vc24_48) rfl (by kernel_rfl) (by kernel_rfl) (by kernel_rfl) (fun _ _ _ h => h) (Or.inl ⟨by rfl, ?hyc24_48⟩) (by assumption) ?restc24_48
                      case hyc24_48 => (intro w0 hSw; (try dsimp only at hSw); go_simp; try with_reducible rfl)
                      case' restc24_48 => try simp only [Act.put, List.getElem_toArray, List.getElem_cons_zero, List.getElem_cons_succ, List.setIfInBounds_toArray, List.set_cons_zero, List.set_cons_succ]
                      refine wpAnyH_take (i := 25) (v := ?vc25_49) rfl (by kernel_rfl) (by kernel_rfl) (by kernel_rfl) (fun _ _ _ h => h) (Or.inl ⟨by rfl, ?hyc25_49⟩) (by assumption) ?restc25_49
                      case hyc25_49 => (intro w0 hSw; (try dsimp only at hSw); go_simp; try with_reducible rfl)
                      case' restc25_49 => try simp only [Act.put, List.getElem_toArray, List.getElem_cons_zero, List.getElem_cons_succ, List.setIfInBounds_toArray, List.set_cons_zero, List.set_cons_succ]
                      refine wpAnyH_take (i := 26) (v := ?vc26_50) rfl (by kernel_rfl) (by kernel_rfl) (by kernel_rfl) (fun _ _ _ h => h) (Or.inl ⟨by rfl, ?hyc26_50⟩) (by assumption) ?restc26_50
                      case hyc26_50 => (intro w0 hSw; (try dsimp only at hSw); go_simp; try with_reducible rfl)
                      case' restc26_50 => try simp only [Act.put, List.getElem_toArray, List.getElem_cons_zero, List.getElem_cons_succ, List.setIfInBounds_toArray, List.set_cons_zero, List.set_cons_succ]
                      refine wpAnyH_ready (rs := [21]) (by kernel_rfl) (by simp) ?_
                      refine AllReadyH.cons rfl (fun K hK => ?_) AllReadyH.nil
                      go_simp
                      refine (HBAL2.out _ (bch HB6.out HW8.out (Below.size HB6.out))).mono ?_
                      rintro e w9 ⟨rfl, hw⟩; subst hw
                      refine hK.out _ _ (by assumption) (fun hHeld => ?_)
                      clear hK K
                      try simp only [Act.put, List.getElem_toArray, List.getElem_cons_zero, List.getElem_cons_succ, List.setIfInBounds_toArray, List.set_cons_zero, List.set_cons_succ]
                      refine wpAnyH_ready (rs := [27]) (by kernel_rfl) (by simp) ?_
                      refine AllReadyH.cons rfl (fun K hK => ?_) AllReadyH.nil
                      go_simp
                      refine (HNET.out _ (bch HB6.out HW8.out (Below.size HB6.out))).mono ?_
                      rintro e w10 ⟨rfl, hb⟩
                      have HW10 := Lib.hid (bch HW8.out hb (Below.size HW8.out))
                      clear hb
                      refine hK.out _ _ (HH.out _ (HW10.out)) (fun hHeld => ?_)
                      clear hK K
                      try simp only [Act.put, List.getElem_toArray, List.getElem_cons_zero, List.getElem_cons_succ, List.setIfInBounds_toArray, List.set_cons_zero, List.set_cons_succ]
                      refine wpAnyH_take (i := 28) (v := ?vc28_51) rfl (by kernel_rfl) (by kernel_rfl) (by kernel_rfl) (fun _ _ _ h => h) (Or.inl ⟨by rfl, ?hyc28_51⟩) (by assumption) ?restc28_51
                      case hyc28_51 => (intro w0 hSw; (try dsimp only at hSw); go_simp; try with_reducible rfl)
                      case' restc28_51 => try simp only [Act.put, List.getElem_toArray, List.getElem_cons_zero, List.getElem_cons_succ, List.setIfInBounds_toArray, List.set_cons_zero, List.set_cons_succ]
                      refine wpAnyH_take (i := 29) (v := ?vc29_52) rfl (by kernel_rfl) (by kernel_rfl) (by kernel_rfl) (fun _ _ _ h => h) (Or.inl ⟨by rfl, ?hyc29_52⟩) (by assumption) ?restc29_52
                      case hyc29_52 => (intro w0 hSw; (try dsimp only at hSw); go_simp; try with_reducible rfl)
                      case' restc29_52 => try simp only [Act.put, List.getElem_toArray, List.getElem_cons_zero, List.getElem_cons_succ, List.setIfInBounds_toArray, List.set_cons_zero, List.set_cons_succ]
                      refine wpAnyH_done (by kernel_rfl) ?_ _
                      refine NoPanic.normal ?_
                      have HBQ := Lib.hid (bch HBn.out (bch HB6.out HW10.out (Below.size HB6.out)) HBn.out.size)
                      clear hHeld HH
                      go_wp2_with fail
                      refine ⟨?_, by simp [intOf]; omega⟩
                      first | exact ⟨n + 1, by go_num, by omega, HBQ.out⟩ | ((repeat apply Exists.intro); exact ⟨⟨n + 1, by go_num, by omega, HBQ.out⟩, rfl⟩)
                  · obtain rfl : n = 60 := by omega
                    go_wp2_with fail
                    go_ret2
                    exact OfPost.yes rfl rfl (HCn.out.base (by have := HB.out.size; omega)) (bch HB.out HBB.out HB.out.size) (fun j hj => HAVI.out j (by omega))
              · have HPE := Lib.hid hPE; have HXO := Lib.hid hXO
                have HNP := Lib.hid (show P ≠ b from fun h => by have := congrArg List.length (h.symm.trans hPE); rw [List.length_append] at this; simp at this)
                clear hPE hXO hXM
                go_wp2_with fail
                go_loopw [13] (fun i wx => i = .int .i64 1 ∧ wr = wx) (fun i _ => 0)
                case atStart => exact ⟨rfl, rfl⟩
                case round =>
                  obtain ⟨rfl, hwr⟩ := hrel
                  subst hwr
                  obtain ⟨y0, y1⟩ := HC.out.c01
                  have hsus := hi0.sus 1 (by omega) (by omega)
                  have hib := inet_bd HFI.out 1
                  obtain ⟨net, hnet⟩ : ∃ net, netC ⟨L, b, I⟩ 1 = net := ⟨_, rfl⟩
                  have hnb := netC_bd' hi0 1
                  rw [hnet] at hsus hnb
                  have hbal : balI P 1 1 = net - In.netI I 1 + 5 := by rw [HPE.out, bal_snoc, show balI b 1 1 = net - In.netI I 1 from hsus, if_pos (.inr HXO.out.1)]; simp [movI, HXO.out.2.1, HXO.out.2.2.1, HXO.out.2.2.2]
                  have hws : IntKind.i64.wrap (net - In.netI I 1) = net - In.netI I 1 := IntWalk.i64_in _ (by omega)
                  have q1 := bneT (show ¬ balI P 1 1 = net - In.netI I 1 by omega)
                  clear hsus hbal
                  have HBAL1 := Lib.hid (fun W (hW : Below wr.heap.size wr W) => bbal_any (HC.out.bk.below hW) 1 1 (by omega) (by omega))
                  have HNET := Lib.hid (fun W (hW : Below wr.heap.size wr W) => inet_any W _ I 1 (HC.out.ii.below hW) HFI.out ⟨by omega, by omega⟩)
                  by_cases ho : 0 < L.length
                  · have hon : (1 : Int) ≤ L.length := by omega
                    obtain ⟨s, hs⟩ : ∃ s, L[0]? = some s := ⟨_, List.getElem?_eq_getElem ho⟩
                    have hns : Sa.netI s = net := by rw [← hnet]; unfold netC; rw [show (1 : Int).toNat - 1 = 0 from rfl, hs]
                    have HNS := Lib.hid (fun W => net_any s W)
                    rw [hns] at HNS
                    obtain ⟨Al, cl, hvl, _⟩ := own_slice HC.out.ol
                    subst hvl
                    obtain ⟨g, off, n', c', e, d0, d1, d2, d3, d4, d5, d6, d7, d8, d9, d10, d11⟩ := (sgs_own HC.out.ol).cells (Below.refl _ wr) hs
                    injection e with e1 e2 e3; subst e1; clear e2 e3
                    simp only [Nat.zero_mul, Nat.add_zero] at d0 d1 d2 d3 d4 d5 d6 d7 d8 d9 d10 d11
                    have hlt : (0 : Int) < L.length := by omega
                    clear hs hns hnet
                    go_wp2_with fail
                    refine (HNS.out wr).mono ?_
                    rintro e w6 ⟨rfl, hb6⟩
                    have HB6 := Lib.hid hb6
                    clear hb6 d0 d1 d2 d3 d4 d5 d6 d7 d8 d9 d10 d11 y0 y1
                    have HCt := Lib.hid (HC.out.below HB6.out)
                    obtain ⟨D0, Dn0, Dc0, D1, Dn1, Dc1, D2, Dn2, Dc2, m, hvI, _⟩ := HCt.out.ii
                    subst hvI
                    have HCC := Lib.hid (show w6.heap[cb]? = some (.cells #[.slice (some ⟨g, off, none⟩) L.length cl, .pointer (some ⟨bb, 0, none⟩), .int .i64 I.a.1, .int .i64 I.a.2.1, .slice D0 Dn0 Dc0, .int .i64 I.b.1, .int .i64 I.b.2.1, .slice D1 Dn1 Dc1, .int .i64 I.c.1, .int .i64 I.c.2.1, .slice D2 Dn2 Dc2, .map m] tCore (0, 0)) by simpa [inn10] using HCt.out.hc)
                    obtain ⟨u0, u1, u2, u3, u4, u5, u6, u7, u8, u9, u10, u11⟩ := cell12 HCC.out
                    go_wp2_with fail
                    have HH := Lib.hid (fun W (hb : Below w6.heap.size w6 W) => (⟨Lib.hid hb, (hb.cell (World.block_lt_of_cell? w6 _ u1)).trans u1, (hb.cell (World.block_lt_of_cell? w6 _ u2)).trans u2, (hb.cell (World.block_lt_of_cell? w6 _ u3)).trans u3, (hb.cell (World.block_lt_of_cell? w6 _ u4)).trans u4, (hb.cell (World.block_lt_of_cell? w6 _ u5)).trans u5, (hb.cell (World.block_lt_of_cell? w6 _ u6)).trans u6, (hb.cell (World.block_lt_of_cell? w6 _ u7)).trans u7, (hb.cell (World.block_lt_of_cell? w6 _ u8)).trans u8, (hb.cell (World.block_lt_of_cell? w6 _ u9)).trans u9, (hb.cell (World.block_lt_of_cell? w6 _ u10)).trans u10, (hb.cell (World.block_lt_of_cell? w6 _ u11)).trans u11⟩ : (fun w' => Hid (Below w6.heap.size w6 w') ∧ w'.cell? ⟨cb, 1, none⟩ = some (.pointer (some ⟨bb, 0, none⟩)) ∧ w'.cell? ⟨cb, 2, none⟩ = some (.int .i64 I.a.1) ∧ w'.cell? ⟨cb, 3, none⟩ = some (.int .i64 I.a.2.1) ∧ w'.cell? ⟨cb, 4, none⟩ = some (.slice D0 Dn0 Dc0) ∧ w'.cell? ⟨cb, 5, none⟩ = some (.int .i64 I.b.1) ∧ w'.cell? ⟨cb, 6, none⟩ = some (.int .i64 I.b.2.1) ∧ w'.cell? ⟨cb, 7, none⟩ = some (.slice D1 Dn1 Dc1) ∧ w'.cell? ⟨cb, 8, none⟩ = some (.int .i64 I.c.1) ∧ w'.cell? ⟨cb, 9, none⟩ = some (.int .i64 I.c.2.1) ∧ w'.cell? ⟨cb, 10, none⟩ = some (.slice D2 Dn2 Dc2) ∧ w'.cell? ⟨cb, 11, none⟩ = some (.map m)) W))
                    refine wp_region_noPanic ?_
                    refine wp_region_held_drew (S := (fun w' => Hid (Below w6.heap.size w6 w') ∧ w'.cell? ⟨cb, 1, none⟩ = some (.pointer (some ⟨bb, 0, none⟩)) ∧ w'.cell? ⟨cb, 2, none⟩ = some (.int .i64 I.a.1) ∧ w'.cell? ⟨cb, 3, none⟩ = some (.int .i64 I.a.2.1) ∧ w'.cell? ⟨cb, 4, none⟩ = some (.slice D0 Dn0 Dc0) ∧ w'.cell? ⟨cb, 5, none⟩ = some (.int .i64 I.b.1) ∧ w'.cell? ⟨cb, 6, none⟩ = some (.int .i64 I.b.2.1) ∧ w'.cell? ⟨cb, 7, none⟩ = some (.slice D1 Dn1 Dc1) ∧ w'.cell? ⟨cb, 8, none⟩ = some (.int .i64 I.c.1) ∧ w'.cell? ⟨cb, 9, none⟩ = some (.int .i64 I.c.2.1) ∧ w'.cell? ⟨cb, 10, none⟩ = some (.slice D2 Dn2 Dc2) ∧ w'.cell? ⟨cb, 11, none⟩ = some (.map m))) (by kernel_rfl) (HH.out _ (below_drew1 (Below.refl w6.heap.size w6))) (fun hHeld => ?_)
                    refine wpAnyH_take (i := 0) (v := ?vc0_53) rfl (by kernel_rfl) (by kernel_rfl) (by kernel_rfl) (fun _ _ _ h => h) (Or.inl ⟨by rfl, ?hyc0_53⟩) (by assumption) ?restc0_53
                    case hyc0_53 => (intro w0 hSw; (try dsimp only at hSw); go_simp; try with_reducible rfl)
                    case' restc0_53 => try simp only [Act.put, List.getElem_toArray, List.getElem_cons_zero, List.getElem_cons_succ, List.setIfInBounds_toArray, List.set_cons_zero, List.set_cons_succ]
                    refine wpAnyH_take (i := 1) (v := ?vc1_54) rfl (by kernel_rfl) (by kernel_rfl) (by kernel_rfl) (fun _ _ _ h => h) (Or.inl ⟨by rfl, ?hyc1_54⟩) (by assumption) ?restc1_54
                    case hyc1_54 => (intro w0 hSw; (try dsimp only at hSw); go_simp; try with_reducible rfl)
                    case' restc1_54 => try simp only [Act.put, List.getElem_toArray, List.getElem_cons_zero, List.getElem_cons_succ, List.setIfInBounds_toArray, List.set_cons_zero, List.set_cons_succ]
                    refine wpAnyH_take (i := 2) (v := ?vc2_55) rfl (by kernel_rfl) (by kernel_rfl) (by kernel_rfl) (fun _ _ _ h => h) (Or.inl ⟨by rfl, ?hyc2_55⟩) (by assumption) ?restc2_55
                    case hyc2_55 => (intro w0 hSw; (try dsimp only at hSw); go_simp; try with_reducible rfl)
                    case' restc2_55 => try simp only [Act.put, List.getElem_toArray, List.getElem_cons_zero, List.getElem_cons_succ, List.setIfInBounds_toArray, List.set_cons_zero, List.set_cons_succ]
                    refine wpAnyH_take (i := 3) (v := ?vc3_56) rfl (by kernel_rfl) (by kernel_rfl) (by kernel_rfl) (fun _ _ _ h => h) (Or.inl ⟨by rfl, ?hyc3_56⟩) (by assumption) ?restc3_56
                    case hyc3_56 => (intro w0 hSw; (try dsimp only at hSw); go_simp; try with_reducible rfl)
                    case' restc3_56 => try simp only [Act.put, List.getElem_toArray, List.getElem_cons_zero, List.getElem_cons_succ, List.setIfInBounds_toArray, List.set_cons_zero, List.set_cons_succ]
                    refine wpAnyH_take (i := 4) (v := ?vc4_57) rfl (by kernel_rfl) (by kernel_rfl) (by kernel_rfl) (fun _ _ _ h => h) (Or.inl ⟨by rfl, ?hyc4_57⟩) (by assumption) ?restc4_57
                    case hyc4_57 => (intro w0 hSw; (try dsimp only at hSw); go_simp; try with_reducible rfl)
                    case' restc4_57 => try simp only [Act.put, List.getElem_toArray, List.getElem_cons_zero, List.getElem_cons_succ, List.setIfInBounds_toArray, List.set_cons_zero, List.set_cons_succ]
                    refine wpAnyH_take (i := 6) (v := ?vc6_58) rfl (by kernel_rfl) (by kernel_rfl) (by kernel_rfl) (fun _ _ _ h => h) (Or.inl ⟨by rfl, ?hyc6_58⟩) (by assumption) ?restc6_58
                    case hyc6_58 => (intro w0 hSw; (try dsimp only at hSw); go_simp; try with_reducible rfl)
                    case' restc6_58 => try simp only [Act.put, List.getElem_toArray, List.getElem_cons_zero, List.getElem_cons_succ, List.setIfInBounds_toArray, List.set_cons_zero, List.set_cons_succ]
                    refine wpAnyH_take (i := 7) (v := ?vc7_59) rfl (by kernel_rfl) (by kernel_rfl) (by kernel_rfl) (fun _ _ _ h => h) (Or.inl ⟨by rfl, ?hyc7_59⟩) (by assumption) ?restc7_59
                    case hyc7_59 => (intro w0 hSw; (try dsimp only at hSw); go_simp; try with_reducible rfl)
                    case' restc7_59 => try simp only [Act.put, List.getElem_toArray, List.getElem_cons_zero, List.getElem_cons_succ, List.setIfInBounds_toArray, List.set_cons_zero, List.set_cons_succ]
                    refine wpAnyH_take (i := 8) (v := ?vc8_60) rfl (by kernel_rfl) (by kernel_rfl) (by kernel_rfl) (fun _ _ _ h => h) (Or.inl ⟨by rfl, ?hyc8_60⟩) (by assumption) ?restc8_60
                    case hyc8_60 => (intro w0 hSw; (try dsimp only at hSw); go_simp; try with_reducible rfl)
                    case' restc8_60 => try simp only [Act.put, List.getElem_toArray, List.getElem_cons_zero, List.getElem_cons_succ, List.setIfInBounds_toArray, List.set_cons_zero, List.set_cons_succ]
                    refine wpAnyH_take (i := 9) (v := ?vc9_61) rfl (by kernel_rfl) (by kernel_rfl) (by kernel_rfl) (fun _ _ _ h => h) (Or.inl ⟨by rfl, ?hyc9_61⟩) (by assumption) ?restc9_61
                    case hyc9_61 => (intro w0 hSw; (try dsimp only at hSw); go_simp; try with_reducible rfl)
                    case' restc9_61 => try simp only [Act.put, List.getElem_toArray, List.getElem_cons_zero, List.getElem_cons_succ, List.setIfInBounds_toArray, List.set_cons_zero, List.set_cons_succ]
                    refine wpAnyH_take (i := 10) (v := ?vc10_62) rfl (by kernel_rfl) (by kernel_rfl) (by kernel_rfl) (fun _ _ _ h => h) (Or.inl ⟨by rfl, ?hyc10_62⟩) (by assumption) ?restc10_62
                    case hyc10_62 => (intro w0 hSw; (try dsimp only at hSw); go_simp; try with_reducible rfl)
                    case' restc10_62 => try simp only [Act.put, List.getElem_toArray, List.getElem_cons_zero, List.getElem_cons_succ, List.setIfInBounds_toArray, List.set_cons_zero, List.set_cons_succ]
                    refine wpAnyH_take (i := 11) (v := ?vc11_63) rfl (by kernel_rfl) (by kernel_rfl) (by kernel_rfl) (fun _ _ _ h => h) (Or.inl ⟨by rfl, ?hyc11_63⟩) (by assumption) ?restc11_63
                    case hyc11_63 => (intro w0 hSw; (try dsimp only at hSw); go_simp; try with_reducible rfl)
                    case' restc11_63 => try simp only [Act.put, List.getElem_toArray, List.getElem_cons_zero, List.getElem_cons_succ, List.setIfInBounds_toArray, List.set_cons_zero, List.set_cons_succ]
                    refine wpAnyH_ready (rs := [5]) (by kernel_rfl) (by simp) ?_
                    refine AllReadyH.cons rfl (fun K hK => ?_) AllReadyH.nil
                    go_simp
                    refine (HBAL1.out _ (bch HB6.out (below_drew1 (Below.refl w6.heap.size w6)) (Below.size HB6.out))).mono ?_
                    rintro e w7 ⟨rfl, hw⟩; subst hw
                    refine hK.out _ _ (by assumption) (fun hHeld => ?_)
                    clear hK K
                    try simp only [Act.put, List.getElem_toArray, List.getElem_cons_zero, List.getElem_cons_succ, List.setIfInBounds_toArray, List.set_cons_zero, List.set_cons_succ]
                    refine wpAnyH_ready (rs := [12]) (by kernel_rfl) (by simp) ?_
                    refine AllReadyH.cons rfl (fun K hK => ?_) AllReadyH.nil
                    go_simp
                    refine (HNET.out _ (bch HB6.out (below_drew1 (Below.refl w6.heap.size w6)) (Below.size HB6.out))).mono ?_
                    rintro e w8 ⟨rfl, hb⟩
                    have HW8 := Lib.hid (bch (below_drew1 (Below.refl w6.heap.size w6)) hb (Below.size (below_drew1 (Below.refl w6.heap.size w6))))
                    clear hb
                    refine hK.out _ _ (HH.out _ (HW8.out)) (fun hHeld => ?_)
                    clear hK K
                    try simp only [Act.put, List.getElem_toArray, List.getElem_cons_zero, List.getElem_cons_succ, List.setIfInBounds_toArray, List.set_cons_zero, List.set_cons_succ]
                    refine wpAnyH_take (i := 13) (v := ?vc13_64) rfl (by kernel_rfl) (by kernel_rfl) (by kernel_rfl) (fun _ _ _ h => h) (Or.inl ⟨by rfl, ?hyc13_64⟩) (by assumption) ?restc13_64
                    case hyc13_64 => (intro w0 hSw; (try dsimp only at hSw); go_simp; try with_reducible rfl)
                    case' restc13_64 => try simp only [Act.put, List.getElem_toArray, List.getElem_cons_zero, List.getElem_cons_succ, List.setIfInBounds_toArray, List.set_cons_zero, List.set_cons_succ]
                    refine wpAnyH_take (i := 14) (v := ?vc14_65) rfl (by kernel_rfl) (by kernel_rfl) (by kernel_rfl) (fun _ _ _ h => h) (Or.inl ⟨by rfl, ?hyc14_65⟩) (by assumption) ?restc14_65
                    case hyc14_65 => (intro w0 hSw; (try dsimp only at hSw); go_simp; try with_reducible rfl)
                    case' restc14_65 => try simp only [Act.put, List.getElem_toArray, List.getElem_cons_zero, List.getElem_cons_succ, List.setIfInBounds_toArray, List.set_cons_zero, List.set_cons_succ]
                    refine wpAnyH_take (i := 15) (v := ?vc15_66) rfl (by kernel_rfl) (by kernel_rfl) (by kernel_rfl) (fun _ _ _ h => h) (Or.inl ⟨by rfl, ?hyc15_66⟩) (by assumption) ?restc15_66
                    case hyc15_66 => (intro w0 hSw; (try dsimp only at hSw); go_simp; try with_reducible rfl)
                    case' restc15_66 => try simp only [Act.put, List.getElem_toArray, List.getElem_cons_zero, List.getElem_cons_succ, List.setIfInBounds_toArray, List.set_cons_zero, List.set_cons_succ]
                    refine wpAnyH_take (i := 16) (v := undef) rfl (by kernel_rfl) (by kernel_rfl) (by kernel_rfl) (fun _ _ _ h => h) (Or.inr ⟨by rfl, rfl⟩) (by assumption) ?_
                    try simp only [Act.put, List.getElem_toArray, List.getElem_cons_zero, List.getElem_cons_succ, List.setIfInBounds_toArray, List.set_cons_zero, List.set_cons_succ]
                    refine wpAnyH_take (i := 17) (v := undef) rfl (by kernel_rfl) (by kernel_rfl) (by kernel_rfl) (fun _ _ _ h => h) (Or.inr ⟨by rfl, rfl⟩) (by assumption) ?_
                    try simp only [Act.put, List.getElem_toArray, List.getElem_cons_zero, List.getElem_cons_succ, List.setIfInBounds_toArray, List.set_cons_zero, List.set_cons_succ]
                    refine wpAnyH_take (i := 18) (v := undef) rfl (by kernel_rfl) (by kernel_rfl) (by kernel_rfl) (fun _ _ _ h => h) (Or.inr ⟨by rfl, rfl⟩) (by assumption) ?_
                    try simp only [Act.put, List.getElem_toArray, List.getElem_cons_zero, List.getElem_cons_succ, List.setIfInBounds_toArray, List.set_cons_zero, List.set_cons_succ]
                    refine wpAnyH_take (i := 19) (v := undef) rfl (by kernel_rfl) (by kernel_rfl) (by kernel_rfl) (fun _ _ _ h => h) (Or.inr ⟨by rfl, rfl⟩) (by assumption) ?_
                    try simp only [Act.put, List.getElem_toArray, List.getElem_cons_zero, List.getElem_cons_succ, List.setIfInBounds_toArray, List.set_cons_zero, List.set_cons_succ]
                    refine wpAnyH_take (i := 20) (v := undef) rfl (by kernel_rfl) (by kernel_rfl) (by kernel_rfl) (fun _ _ _ h => h) (Or.inr ⟨by rfl, rfl⟩) (by assumption) ?_
                    try simp only [Act.put, List.getElem_toArray, List.getElem_cons_zero, List.getElem_cons_succ, List.setIfInBounds_toArray, List.set_cons_zero, List.set_cons_succ]
                    refine wpAnyH_take (i := 21) (v := undef) rfl (by kernel_rfl) (by kernel_rfl) (by kernel_rfl) (fun _ _ _ h => h) (Or.inr ⟨by rfl, rfl⟩) (by assumption) ?_
                    try simp only [Act.put, List.getElem_toArray, List.getElem_cons_zero, List.getElem_cons_succ, List.setIfInBounds_toArray, List.set_cons_zero, List.set_cons_succ]
                    refine wpAnyH_take (i := 22) (v := undef) rfl (by kernel_rfl) (by kernel_rfl) (by kernel_rfl) (fun _ _ _ h => h) (Or.inr ⟨by rfl, rfl⟩) (by assumption) ?_
                    try simp only [Act.put, List.getElem_toArray, List.getElem_cons_zero, List.getElem_cons_succ, List.setIfInBounds_toArray, List.set_cons_zero, List.set_cons_succ]
                    refine wpAnyH_take (i := 23) (v := undef) rfl (by kernel_rfl) (by kernel_rfl) (by kernel_rfl) (fun _ _ _ h => h) (Or.inr ⟨by rfl, rfl⟩) (by assumption) ?_
                    try simp only [Act.put, List.getElem_toArray, List.getElem_cons_zero, List.getElem_cons_succ, List.setIfInBounds_toArray, List.set_cons_zero, List.set_cons_succ]
                    refine wpAnyH_take (i := 24) (v := undef) rfl (by kernel_rfl) (by kernel_rfl) (by kernel_rfl) (fun _ _ _ h => h) (Or.inr ⟨by rfl, rfl⟩) (by assumption) ?_
                    try simp only [Act.put, List.getElem_toArray, List.getElem_cons_zero, List.getElem_cons_succ, List.setIfInBounds_toArray, List.set_cons_zero, List.set_cons_succ]
                    refine wpAnyH_take (i := 25) (v := undef) rfl (by kernel_rfl) (by kernel_rfl) (by kernel_rfl) (fun _ _ _ h => h) (Or.inr ⟨by rfl, rfl⟩) (by assumption) ?_
                    try simp only [Act.put, List.getElem_toArray, List.getElem_cons_zero, List.getElem_cons_succ, List.setIfInBounds_toArray, List.set_cons_zero, List.set_cons_succ]
                    refine wpAnyH_take (i := 26) (v := undef) rfl (by kernel_rfl) (by kernel_rfl) (by kernel_rfl) (fun _ _ _ h => h) (Or.inr ⟨by rfl, rfl⟩) (by assumption) ?_
                    try simp only [Act.put, List.getElem_toArray, List.getElem_cons_zero, List.getElem_cons_succ, List.setIfInBounds_toArray, List.set_cons_zero, List.set_cons_succ]
                    refine wpAnyH_take (i := 27) (v := undef) rfl (by kernel_rfl) (by kernel_rfl) (by kernel_rfl) (fun _ _ _ h => h) (Or.inr ⟨by rfl, rfl⟩) (by assumption) ?_
                    try simp only [Act.put, List.getElem_toArray, List.getElem_cons_zero, List.getElem_cons_succ, List.setIfInBounds_toArray, List.set_cons_zero, List.set_cons_succ]
                    refine wpAnyH_take (i := 28) (v := undef) rfl (by kernel_rfl) (by kernel_rfl) (by kernel_rfl) (fun _ _ _ h => h) (Or.inr ⟨by rfl, rfl⟩) (by assumption) ?_
                    try simp only [Act.put, List.getElem_toArray, List.getElem_cons_zero, List.getElem_cons_succ, List.setIfInBounds_toArray, List.set_cons_zero, List.set_cons_succ]
                    refine wpAnyH_take (i := 29) (v := ?vc29_67) rfl (by kernel_rfl) (by kernel_rfl) (by kernel_rfl) (fun _ _ _ h => h) (Or.inl ⟨by rfl, ?hyc29_67⟩) (by assumption) ?restc29_67
                    case hyc29_67 => (intro w0 hSw; (try dsimp only at hSw); go_simp; try with_reducible rfl)
                    case' restc29_67 => try simp only [Act.put, List.getElem_toArray, List.getElem_cons_zero, List.getElem_cons_succ, List.setIfInBounds_toArray, List.set_cons_zero, List.set_cons_succ]
                    refine wpAnyH_done (by kernel_rfl) ?_ _
                    refine NoPanic.normal ?_
                    have HBQ := Lib.hid (bch HBr.out (bch HB6.out HW8.out (Below.size HB6.out)) HBr.out.size)
                    clear hHeld HH
                    go_wp2_with fail
                    go_ret2
                    exact OfPost.no HNP.out rfl (bch HB.out HBQ.out HB.out.size)
                  · have hon : ¬ (1 : Int) ≤ L.length := by omega
                    have hz : net = 0 := by rw [← hnet]; unfold netC; rw [show (1 : Int).toNat - 1 = 0 from rfl, List.getElem?_eq_none (by show L.length ≤ 0; omega)]
                    have hws0 : IntKind.i64.wrap (-(In.netI I 1)) = -(In.netI I 1) := IntWalk.i64_in _ (by omega)
                    have q10 : (balI P 1 1 != -(In.netI I 1)) = true := by rw [hz, Int.zero_sub] at q1; exact q1
                    clear hz hws q1
                    obtain ⟨Al, cl, hvl, _⟩ := own_slice HC.out.ol
                    subst hvl
                    have HB6 := Lib.hid (Below.refl wr.heap.size wr)
                    clear hnet
                    have HCt := Lib.hid (HC.out.below HB6.out)
                    obtain ⟨D0, Dn0, Dc0, D1, Dn1, Dc1, D2, Dn2, Dc2, m, hvI, _⟩ := HCt.out.ii
                    subst hvI
                    have HCC := Lib.hid (show wr.heap[cb]? = some (.cells #[.slice Al L.length cl, .pointer (some ⟨bb, 0, none⟩), .int .i64 I.a.1, .int .i64 I.a.2.1, .slice D0 Dn0 Dc0, .int .i64 I.b.1, .int .i64 I.b.2.1, .slice D1 Dn1 Dc1, .int .i64 I.c.1, .int .i64 I.c.2.1, .slice D2 Dn2 Dc2, .map m] tCore (0, 0)) by simpa [inn10] using HCt.out.hc)
                    obtain ⟨u0, u1, u2, u3, u4, u5, u6, u7, u8, u9, u10, u11⟩ := cell12 HCC.out
                    go_wp2_with fail
                    have HH := Lib.hid (fun W (hb : Below wr.heap.size wr W) => (⟨Lib.hid hb, (hb.cell (World.block_lt_of_cell? wr _ u1)).trans u1, (hb.cell (World.block_lt_of_cell? wr _ u2)).trans u2, (hb.cell (World.block_lt_of_cell? wr _ u3)).trans u3, (hb.cell (World.block_lt_of_cell? wr _ u4)).trans u4, (hb.cell (World.block_lt_of_cell? wr _ u5)).trans u5, (hb.cell (World.block_lt_of_cell? wr _ u6)).trans u6, (hb.cell (World.block_lt_of_cell? wr _ u7)).trans u7, (hb.cell (World.block_lt_of_cell? wr _ u8)).trans u8, (hb.cell (World.block_lt_of_cell? wr _ u9)).trans u9, (hb.cell (World.block_lt_of_cell? wr _ u10)).trans u10, (hb.cell (World.block_lt_of_cell? wr _ u11)).trans u11⟩ : (fun w' => Hid (Below wr.heap.size wr w') ∧ w'.cell? ⟨cb, 1, none⟩ = some (.pointer (some ⟨bb, 0, none⟩)) ∧ w'.cell? ⟨cb, 2, none⟩ = some (.int .i64 I.a.1) ∧ w'.cell? ⟨cb, 3, none⟩ = some (.int .i64 I.a.2.1) ∧ w'.cell? ⟨cb, 4, none⟩ = some (.slice D0 Dn0 Dc0) ∧ w'.cell? ⟨cb, 5, none⟩ = some (.int .i64 I.b.1) ∧ w'.cell? ⟨cb, 6, none⟩ = some (.int .i64 I.b.2.1) ∧ w'.cell? ⟨cb, 7, none⟩ = some (.slice D1 Dn1 Dc1) ∧ w'.cell? ⟨cb, 8, none⟩ = some (.int .i64 I.c.1) ∧ w'.cell? ⟨cb, 9, none⟩ = some (.int .i64 I.c.2.1) ∧ w'.cell? ⟨cb, 10, none⟩ = some (.slice D2 Dn2 Dc2) ∧ w'.cell? ⟨cb, 11, none⟩ = some (.map m)) W))
                    refine wp_region_noPanic ?_
                    refine wp_region_held_drew (S := (fun w' => Hid (Below wr.heap.size wr w') ∧ w'.cell? ⟨cb, 1, none⟩ = some (.pointer (some ⟨bb, 0, none⟩)) ∧ w'.cell? ⟨cb, 2, none⟩ = some (.int .i64 I.a.1) ∧ w'.cell? ⟨cb, 3, none⟩ = some (.int .i64 I.a.2.1) ∧ w'.cell? ⟨cb, 4, none⟩ = some (.slice D0 Dn0 Dc0) ∧ w'.cell? ⟨cb, 5, none⟩ = some (.int .i64 I.b.1) ∧ w'.cell? ⟨cb, 6, none⟩ = some (.int .i64 I.b.2.1) ∧ w'.cell? ⟨cb, 7, none⟩ = some (.slice D1 Dn1 Dc1) ∧ w'.cell? ⟨cb, 8, none⟩ = some (.int .i64 I.c.1) ∧ w'.cell? ⟨cb, 9, none⟩ = some (.int .i64 I.c.2.1) ∧ w'.cell? ⟨cb, 10, none⟩ = some (.slice D2 Dn2 Dc2) ∧ w'.cell? ⟨cb, 11, none⟩ = some (.map m))) (by kernel_rfl) (HH.out _ (below_drew1 (Below.refl wr.heap.size wr))) (fun hHeld => ?_)
                    refine wpAnyH_take (i := 0) (v := ?vc0_68) rfl (by kernel_rfl) (by kernel_rfl) (by kernel_rfl) (fun _ _ _ h => h) (Or.inl ⟨by rfl, ?hyc0_68⟩) (by assumption) ?restc0_68
                    case hyc0_68 => (intro w0 hSw; (try dsimp only at hSw); go_simp; try with_reducible rfl)
                    case' restc0_68 => try simp only [Act.put, List.getElem_toArray, List.getElem_cons_zero, List.getElem_cons_succ, List.setIfInBounds_toArray, List.set_cons_zero, List.set_cons_succ]
                    refine wpAnyH_take (i := 1) (v := ?vc1_69) rfl (by kernel_rfl) (by kernel_rfl) (by kernel_rfl) (fun _ _ _ h => h) (Or.inl ⟨by rfl, ?hyc1_69⟩) (by assumption) ?restc1_69
                    case hyc1_69 => (intro w0 hSw; (try dsimp only at hSw); go_simp; try with_reducible rfl)
                    case' restc1_69 => try simp only [Act.put, List.getElem_toArray, List.getElem_cons_zero, List.getElem_cons_succ, List.setIfInBounds_toArray, List.set_cons_zero, List.set_cons_succ]
                    refine wpAnyH_take (i := 2) (v := ?vc2_70) rfl (by kernel_rfl) (by kernel_rfl) (by kernel_rfl) (fun _ _ _ h => h) (Or.inl ⟨by rfl, ?hyc2_70⟩) (by assumption) ?restc2_70
                    case hyc2_70 => (intro w0 hSw; (try dsimp only at hSw); go_simp; try with_reducible rfl)
                    case' restc2_70 => try simp only [Act.put, List.getElem_toArray, List.getElem_cons_zero, List.getElem_cons_succ, List.setIfInBounds_toArray, List.set_cons_zero, List.set_cons_succ]
                    refine wpAnyH_take (i := 3) (v := ?vc3_71) rfl (by kernel_rfl) (by kernel_rfl) (by kernel_rfl) (fun _ _ _ h => h) (Or.inl ⟨by rfl, ?hyc3_71⟩) (by assumption) ?restc3_71
                    case hyc3_71 => (intro w0 hSw; (try dsimp only at hSw); go_simp; try with_reducible rfl)
                    case' restc3_71 => try simp only [Act.put, List.getElem_toArray, List.getElem_cons_zero, List.getElem_cons_succ, List.setIfInBounds_toArray, List.set_cons_zero, List.set_cons_succ]
                    refine wpAnyH_take (i := 4) (v := ?vc4_72) rfl (by kernel_rfl) (by kernel_rfl) (by kernel_rfl) (fun _ _ _ h => h) (Or.inl ⟨by rfl, ?hyc4_72⟩) (by assumption) ?restc4_72
                    case hyc4_72 => (intro w0 hSw; (try dsimp only at hSw); go_simp; try with_reducible rfl)
                    case' restc4_72 => try simp only [Act.put, List.getElem_toArray, List.getElem_cons_zero, List.getElem_cons_succ, List.setIfInBounds_toArray, List.set_cons_zero, List.set_cons_succ]
                    refine wpAnyH_take (i := 6) (v := ?vc6_73) rfl (by kernel_rfl) (by kernel_rfl) (by kernel_rfl) (fun _ _ _ h => h) (Or.inl ⟨by rfl, ?hyc6_73⟩) (by assumption) ?restc6_73
                    case hyc6_73 => (intro w0 hSw; (try dsimp only at hSw); go_simp; try with_reducible rfl)
                    case' restc6_73 => try simp only [Act.put, List.getElem_toArray, List.getElem_cons_zero, List.getElem_cons_succ, List.setIfInBounds_toArray, List.set_cons_zero, List.set_cons_succ]
                    refine wpAnyH_take (i := 7) (v := ?vc7_74) rfl (by kernel_rfl) (by kernel_rfl) (by kernel_rfl) (fun _ _ _ h => h) (Or.inl ⟨by rfl, ?hyc7_74⟩) (by assumption) ?restc7_74
                    case hyc7_74 => (intro w0 hSw; (try dsimp only at hSw); go_simp; try with_reducible rfl)
                    case' restc7_74 => try simp only [Act.put, List.getElem_toArray, List.getElem_cons_zero, List.getElem_cons_succ, List.setIfInBounds_toArray, List.set_cons_zero, List.set_cons_succ]
                    refine wpAnyH_take (i := 8) (v := ?vc8_75) rfl (by kernel_rfl) (by kernel_rfl) (by kernel_rfl) (fun _ _ _ h => h) (Or.inl ⟨by rfl, ?hyc8_75⟩) (by assumption) ?restc8_75
                    case hyc8_75 => (intro w0 hSw; (try dsimp only at hSw); go_simp; try with_reducible rfl)
                    case' restc8_75 => try simp only [Act.put, List.getElem_toArray, List.getElem_cons_zero, List.getElem_cons_succ, List.setIfInBounds_toArray, List.set_cons_zero, List.set_cons_succ]
                    refine wpAnyH_take (i := 9) (v := ?vc9_76) rfl (by kernel_rfl) (by kernel_rfl) (by kernel_rfl) (fun _ _ _ h => h) (Or.inl ⟨by rfl, ?hyc9_76⟩) (by assumption) ?restc9_76
                    case hyc9_76 => (intro w0 hSw; (try dsimp only at hSw); go_simp; try with_reducible rfl)
                    case' restc9_76 => try simp only [Act.put, List.getElem_toArray, List.getElem_cons_zero, List.getElem_cons_succ, List.setIfInBounds_toArray, List.set_cons_zero, List.set_cons_succ]
                    refine wpAnyH_take (i := 10) (v := ?vc10_77) rfl (by kernel_rfl) (by kernel_rfl) (by kernel_rfl) (fun _ _ _ h => h) (Or.inl ⟨by rfl, ?hyc10_77⟩) (by assumption) ?restc10_77
                    case hyc10_77 => (intro w0 hSw; (try dsimp only at hSw); go_simp; try with_reducible rfl)
                    case' restc10_77 => try simp only [Act.put, List.getElem_toArray, List.getElem_cons_zero, List.getElem_cons_succ, List.setIfInBounds_toArray, List.set_cons_zero, List.set_cons_succ]
                    refine wpAnyH_take (i := 11) (v := ?vc11_78) rfl (by kernel_rfl) (by kernel_rfl) (by kernel_rfl) (fun _ _ _ h => h) (Or.inl ⟨by rfl, ?hyc11_78⟩) (by assumption) ?restc11_78
                    case hyc11_78 => (intro w0 hSw; (try dsimp only at hSw); go_simp; try with_reducible rfl)
                    case' restc11_78 => try simp only [Act.put, List.getElem_toArray, List.getElem_cons_zero, List.getElem_cons_succ, List.setIfInBounds_toArray, List.set_cons_zero, List.set_cons_succ]
                    refine wpAnyH_ready (rs := [5]) (by kernel_rfl) (by simp) ?_
                    refine AllReadyH.cons rfl (fun K hK => ?_) AllReadyH.nil
                    go_simp
                    refine (HBAL1.out _ (bch HB6.out (below_drew1 (Below.refl wr.heap.size wr)) (Below.size HB6.out))).mono ?_
                    rintro e w7 ⟨rfl, hw⟩; subst hw
                    refine hK.out _ _ (by assumption) (fun hHeld => ?_)
                    clear hK K
                    try simp only [Act.put, List.getElem_toArray, List.getElem_cons_zero, List.getElem_cons_succ, List.setIfInBounds_toArray, List.set_cons_zero, List.set_cons_succ]
                    refine wpAnyH_ready (rs := [12]) (by kernel_rfl) (by simp) ?_
                    refine AllReadyH.cons rfl (fun K hK => ?_) AllReadyH.nil
                    go_simp
                    refine (HNET.out _ (bch HB6.out (below_drew1 (Below.refl wr.heap.size wr)) (Below.size HB6.out))).mono ?_
                    rintro e w8 ⟨rfl, hb⟩
                    have HW8 := Lib.hid (bch (below_drew1 (Below.refl wr.heap.size wr)) hb (Below.size (below_drew1 (Below.refl wr.heap.size wr))))
                    clear hb
                    refine hK.out _ _ (HH.out _ (HW8.out)) (fun hHeld => ?_)
                    clear hK K
                    try simp only [Act.put, List.getElem_toArray, List.getElem_cons_zero, List.getElem_cons_succ, List.setIfInBounds_toArray, List.set_cons_zero, List.set_cons_succ]
                    refine wpAnyH_take (i := 13) (v := ?vc13_79) rfl (by kernel_rfl) (by kernel_rfl) (by kernel_rfl) (fun _ _ _ h => h) (Or.inl ⟨by rfl, ?hyc13_79⟩) (by assumption) ?restc13_79
                    case hyc13_79 => (intro w0 hSw; (try dsimp only at hSw); go_simp; try with_reducible rfl)
                    case' restc13_79 => try simp only [Act.put, List.getElem_toArray, List.getElem_cons_zero, List.getElem_cons_succ, List.setIfInBounds_toArray, List.set_cons_zero, List.set_cons_succ]
                    refine wpAnyH_take (i := 14) (v := ?vc14_80) rfl (by kernel_rfl) (by kernel_rfl) (by kernel_rfl) (fun _ _ _ h => h) (Or.inl ⟨by rfl, ?hyc14_80⟩) (by assumption) ?restc14_80
                    case hyc14_80 => (intro w0 hSw; (try dsimp only at hSw); go_simp; try with_reducible rfl)
                    case' restc14_80 => try simp only [Act.put, List.getElem_toArray, List.getElem_cons_zero, List.getElem_cons_succ, List.setIfInBounds_toArray, List.set_cons_zero, List.set_cons_succ]
                    refine wpAnyH_take (i := 15) (v := ?vc15_81) rfl (by kernel_rfl) (by kernel_rfl) (by kernel_rfl) (fun _ _ _ h => h) (Or.inl ⟨by rfl, ?hyc15_81⟩) (by assumption) ?restc15_81
                    case hyc15_81 => (intro w0 hSw; (try dsimp only at hSw); go_simp; try with_reducible rfl)
                    case' restc15_81 => try simp only [Act.put, List.getElem_toArray, List.getElem_cons_zero, List.getElem_cons_succ, List.setIfInBounds_toArray, List.set_cons_zero, List.set_cons_succ]
                    refine wpAnyH_take (i := 16) (v := undef) rfl (by kernel_rfl) (by kernel_rfl) (by kernel_rfl) (fun _ _ _ h => h) (Or.inr ⟨by rfl, rfl⟩) (by assumption) ?_
                    try simp only [Act.put, List.getElem_toArray, List.getElem_cons_zero, List.getElem_cons_succ, List.setIfInBounds_toArray, List.set_cons_zero, List.set_cons_succ]
                    refine wpAnyH_take (i := 17) (v := undef) rfl (by kernel_rfl) (by kernel_rfl) (by kernel_rfl) (fun _ _ _ h => h) (Or.inr ⟨by rfl, rfl⟩) (by assumption) ?_
                    try simp only [Act.put, List.getElem_toArray, List.getElem_cons_zero, List.getElem_cons_succ, List.setIfInBounds_toArray, List.set_cons_zero, List.set_cons_succ]
                    refine wpAnyH_take (i := 18) (v := undef) rfl (by kernel_rfl) (by kernel_rfl) (by kernel_rfl) (fun _ _ _ h => h) (Or.inr ⟨by rfl, rfl⟩) (by assumption) ?_
                    try simp only [Act.put, List.getElem_toArray, List.getElem_cons_zero, List.getElem_cons_succ, List.setIfInBounds_toArray, List.set_cons_zero, List.set_cons_succ]
                    refine wpAnyH_take (i := 19) (v := undef) rfl (by kernel_rfl) (by kernel_rfl) (by kernel_rfl) (fun _ _ _ h => h) (Or.inr ⟨by rfl, rfl⟩) (by assumption) ?_
                    try simp only [Act.put, List.getElem_toArray, List.getElem_cons_zero, List.getElem_cons_succ, List.setIfInBounds_toArray, List.set_cons_zero, List.set_cons_succ]
                    refine wpAnyH_take (i := 20) (v := undef) rfl (by kernel_rfl) (by kernel_rfl) (by kernel_rfl) (fun _ _ _ h => h) (Or.inr ⟨by rfl, rfl⟩) (by assumption) ?_
                    try simp only [Act.put, List.getElem_toArray, List.getElem_cons_zero, List.getElem_cons_succ, List.setIfInBounds_toArray, List.set_cons_zero, List.set_cons_succ]
                    refine wpAnyH_take (i := 21) (v := undef) rfl (by kernel_rfl) (by kernel_rfl) (by kernel_rfl) (fun _ _ _ h => h) (Or.inr ⟨by rfl, rfl⟩) (by assumption) ?_
                    try simp only [Act.put, List.getElem_toArray, List.getElem_cons_zero, List.getElem_cons_succ, List.setIfInBounds_toArray, List.set_cons_zero, List.set_cons_succ]
                    refine wpAnyH_take (i := 22) (v := undef) rfl (by kernel_rfl) (by kernel_rfl) (by kernel_rfl) (fun _ _ _ h => h) (Or.inr ⟨by rfl, rfl⟩) (by assumption) ?_
                    try simp only [Act.put, List.getElem_toArray, List.getElem_cons_zero, List.getElem_cons_succ, List.setIfInBounds_toArray, List.set_cons_zero, List.set_cons_succ]
                    refine wpAnyH_take (i := 23) (v := undef) rfl (by kernel_rfl) (by kernel_rfl) (by kernel_rfl) (fun _ _ _ h => h) (Or.inr ⟨by rfl, rfl⟩) (by assumption) ?_
                    try simp only [Act.put, List.getElem_toArray, List.getElem_cons_zero, List.getElem_cons_succ, List.setIfInBounds_toArray, List.set_cons_zero, List.set_cons_succ]
                    refine wpAnyH_take (i := 24) (v := undef) rfl (by kernel_rfl) (by kernel_rfl) (by kernel_rfl) (fun _ _ _ h => h) (Or.inr ⟨by rfl, rfl⟩) (by assumption) ?_
                    try simp only [Act.put, List.getElem_toArray, List.getElem_cons_zero, List.getElem_cons_succ, List.setIfInBounds_toArray, List.set_cons_zero, List.set_cons_succ]
                    refine wpAnyH_take (i := 25) (v := undef) rfl (by kernel_rfl) (by kernel_rfl) (by kernel_rfl) (fun _ _ _ h => h) (Or.inr ⟨by rfl, rfl⟩) (by assumption) ?_
                    try simp only [Act.put, List.getElem_toArray, List.getElem_cons_zero, List.getElem_cons_succ, List.setIfInBounds_toArray, List.set_cons_zero, List.set_cons_succ]
                    refine wpAnyH_take (i := 26) (v := undef) rfl (by kernel_rfl) (by kernel_rfl) (by kernel_rfl) (fun _ _ _ h => h) (Or.inr ⟨by rfl, rfl⟩) (by assumption) ?_
                    try simp only [Act.put, List.getElem_toArray, List.getElem_cons_zero, List.getElem_cons_succ, List.setIfInBounds_toArray, List.set_cons_zero, List.set_cons_succ]
                    refine wpAnyH_take (i := 27) (v := undef) rfl (by kernel_rfl) (by kernel_rfl) (by kernel_rfl) (fun _ _ _ h => h) (Or.inr ⟨by rfl, rfl⟩) (by assumption) ?_
                    try simp only [Act.put, List.getElem_toArray, List.getElem_cons_zero, List.getElem_cons_succ, List.setIfInBounds_toArray, List.set_cons_zero, List.set_cons_succ]
                    refine wpAnyH_take (i := 28) (v := undef) rfl (by kernel_rfl) (by kernel_rfl) (by kernel_rfl) (fun _ _ _ h => h) (Or.inr ⟨by rfl, rfl⟩) (by assumption) ?_
                    try simp only [Act.put, List.getElem_toArray, List.getElem_cons_zero, List.getElem_cons_succ, List.setIfInBounds_toArray, List.set_cons_zero, List.set_cons_succ]
                    refine wpAnyH_take (i := 29) (v := ?vc29_82) rfl (by kernel_rfl) (by kernel_rfl) (by kernel_rfl) (fun _ _ _ h => h) (Or.inl ⟨by rfl, ?hyc29_82⟩) (by assumption) ?restc29_82
                    case hyc29_82 => (intro w0 hSw; (try dsimp only at hSw); go_simp; try with_reducible rfl)
                    case' restc29_82 => try simp only [Act.put, List.getElem_toArray, List.getElem_cons_zero, List.getElem_cons_succ, List.setIfInBounds_toArray, List.set_cons_zero, List.set_cons_succ]
                    refine wpAnyH_done (by kernel_rfl) ?_ _
                    refine NoPanic.normal ?_
                    have HBQ := Lib.hid (bch HBr.out (bch HB6.out HW8.out (Below.size HB6.out)) HBr.out.size)
                    clear hHeld HH
                    go_wp2_with fail
                    go_ret2
                    exact OfPost.no HNP.out rfl (bch HB.out HBQ.out HB.out.size)
theorem cof_yes (w : World) (vS vP v0 v1 v2 : Value) (L : List Sg) (P : List Po) (I : In.Inn) (hS : Sgs w vS L) (hP : Pos w vP P) (h0 : Rd w v0 I.a.2.2) (h1 : Rd w v1 I.b.2.2) (h2 : Rd w v2 I.c.2.2) (n : Nat) (hi0 : CoI ⟨L, P, I⟩ n) (hh : CoH ⟨L, P, I⟩) (hn : n ≤ 1000) (hT : PT w) :
    Calls Tryd.prog 8 #[.agg #[vS, vP, .int .i64 I.a.1, .int .i64 I.a.2.1, v0, .int .i64 I.b.1, .int .i64 I.b.2.1, v1, .int .i64 I.c.1, .int .i64 I.c.2.1, v2]] w fun e w' => ∃ cb bb pm bm vl vb vI, e = .returned (.tuple #[.pointer (some ⟨cb, 0, none⟩), .int .i64 0]) ∧ Cw w.heap.size w' cb bb pm bm vl vb vI ⟨L, P, I⟩ ∧ Below w.heap.size w w' ∧ ∀ j, j < w.heap.size → Av j vI I := by
  refine (cof_any w vS vP v0 v1 v2 L P I hS hP h0 h1 h2 P (.inl rfl) n hi0 hh hn hT).mono ?_
  rintro e w' ⟨hb, ⟨_, cb, bb, pm, bm, vl, vb, vI, he, hc, ha⟩ | ⟨h, _⟩⟩
  · exact ⟨cb, bb, pm, bm, vl, vb, vI, he, hc, hb, ha⟩
  · exact absurd rfl h
theorem cof_more (w : World) (vS vP v0 v1 v2 : Value) (L : List Sg) (P : List Po) (I : In.Inn) (hS : Sgs w vS L) (hP : Pos w vP P) (h0 : Rd w v0 I.a.2.2) (h1 : Rd w v1 I.b.2.2) (h2 : Rd w v2 I.c.2.2) (b : List Po) (x0 : Po) (hPe : P = b ++ [x0]) (n : Nat) (hi0 : CoI ⟨L, b, I⟩ n) (hh : CoH ⟨L, b, I⟩) (hn : n ≤ 1000) (hT : PT w) (hxo : x0.ord = 1 ∧ x0.deb = 1 ∧ x0.cre = 0 ∧ x0.amt = 5) (hxl : x0.id.length ≤ 1000) :
    Calls Tryd.prog 8 #[.agg #[vS, vP, .int .i64 I.a.1, .int .i64 I.a.2.1, v0, .int .i64 I.b.1, .int .i64 I.b.2.1, v1, .int .i64 I.c.1, .int .i64 I.c.2.1, v2]] w fun e w' => e = .returned (.tuple #[.pointer none, .int .i64 2]) ∧ Below w.heap.size w w' := by
  have hm : x0.id = [] ∨ mayP x0 := by
    by_cases h : x0.id = []
    · exact .inl h
    · obtain ⟨e1, e2, e3, e4⟩ := hxo
      refine .inr ⟨List.length_pos_iff.2 h, by omega, ?_⟩
      rw [e1, e2, e3, e4]
      decide
  refine (cof_any w vS vP v0 v1 v2 L P I hS hP h0 h1 h2 b (.inr ⟨x0, hPe, hxo, hm⟩) n hi0 hh hn hT).mono ?_
  rintro e w' ⟨hb, ⟨h, _⟩ | ⟨_, he⟩⟩
  · exfalso
    have := congrArg List.length (h.symm.trans hPe)
    rw [List.length_append] at this
    simp at this
  · exact ⟨he, hb⟩
end Go.Proofs.YtnfbhocppijbjaaDoor

/- Whether two statements are the same, where they are: the document's Same, the program's. -/
import Derived.Test.YtgpjbigelblanaaGreatDoorTurn
import Derived.Test.YtgpjbigelblanaaGreatDoorCsvParse
import Derived.Deep.QuietTactic
import Derived.BigQuiet
namespace Go.Proofs.YtgpjbigelblanaaGreatDoor
open Go.RowKit Go.Maps Key

theorem two_boxes (w : World) (o p : Obj) {W : World} (h : (w.alloc o).alloc p = W) : Below w.heap.size w W ∧ W.heap[w.heap.size]? = some o ∧ W.heap[w.heap.size + 1]? = some p := by
  subst h
  refine ⟨(below_alloc _ _).alloc (by simp) _, heap_keep (heap_new w o) (below_alloc _ _), ?_⟩
  have := heap_new (w.alloc o) p
  rwa [show (w.alloc o).heap.size = w.heap.size + 1 by simp] at this
set_option linter.unusedSimpArgs false in
set_option linter.unusedVariables false in
set_option maxRecDepth 100000 in
set_option maxHeartbeats 2000000 in
theorem refSameT (w : World) (u v : Value) (l : List R5) (pa sq : Int) (hu : Rd w u l) (hv : Rd w v l) (hl : l.length < 100000) :
    Calls Tryz.prog 14 #[.agg #[.int .i64 pa, .int .i64 sq, u], .agg #[.int .i64 pa, .int .i64 sq, v]] w fun e w' => e = .returned (.bool true) ∧ Below w.heap.size w w' := by
  obtain ⟨A, c, rfl, _⟩ := hu.shape
  obtain ⟨A', c', rfl, _⟩ := hv.shape
  obtain ⟨wb, hwb⟩ : ∃ wb, (w.alloc (.cells #[.int .i64 pa, .int .i64 sq, .slice A l.length c] tStat)).alloc (.cells #[.int .i64 pa, .int .i64 sq, .slice A' l.length c'] tStat) = wb := ⟨_, rfl⟩
  have h2 := two_boxes w _ _ hwb
  have HB := Lib.hid h2.1; have HM := Lib.hid h2.2.1; have HM' := Lib.hid h2.2.2
  have HU := Lib.hid (hu.keep h2.1); have HV := Lib.hid (hv.keep h2.1)
  have hWB := Lib.hid hwb
  clear hu hv hwb h2
  obtain ⟨m0, m1, m2⟩ := cell3c HM.out
  obtain ⟨q0, q1, q2⟩ := cell3c HM'.out
  go_enter Tryz.func14, Tryz.ntmps14
  go_upto_region 1 with (fail)
  rw [hWB.out]
  go_wp2_with fail
  clear m0 m1 m2 q0 q1 q2
  go_loopw [5] (fun i wr => ∃ k : Nat, i = .int .i64 k ∧ k ≤ l.length ∧ Hid (Below wb.heap.size wb wr)) (fun i _ => l.length - (intOf i).toNat)
  case atStart => exact ⟨0, rfl, by omega, ⟨rfl, rfl, rfl, Nat.le_refl _, fun _ _ => rfl⟩⟩
  case round =>
    obtain ⟨k, rfl, hk, HBr⟩ := hrel
    obtain ⟨m0, m1, m2⟩ := cell3c (heap_keep HM.out HBr.out)
    obtain ⟨q0, q1, q2⟩ := cell3c (heap_keep HM'.out HBr.out)
    by_cases hkl : k < l.length
    · obtain ⟨x, hx⟩ : ∃ x, l[k]? = some x := ⟨_, List.getElem?_eq_getElem hkl⟩
      obtain ⟨g, off, n', c1, e, c01, c02, c03, c04, c05⟩ := HU.out.cells HBr.out hx
      injection e with e1 e2 e3; subst e1; clear e2 e3
      obtain ⟨g', off', n', c1, e, d01, d02, d03, d04, d05⟩ := HV.out.cells HBr.out hx
      injection e with e1 e2 e3; subst e1; clear e2 e3
      obtain ⟨⟨o, d⟩, t, n, p⟩ := x
      have hlt : (k : Int) < l.length := by omega
      have hk0 : (0 : Int) ≤ k := by omega
      clear hx
      go_wp2_with fail
      go_quiet (fail)
      go_wp2_with fail
      go_roundw
      case rel => exact ⟨k + 1, by go_num, by omega, ⟨HBr.out.os, HBr.out.tape, HBr.out.output, HBr.out.size, HBr.out.block⟩⟩
      case measure => simp [intOf]; omega
    · obtain rfl : k = l.length := by omega
      go_wp2_with fail
      go_ret
      exact ⟨rfl, bch HB.out HBr.out HB.out.size⟩
set_option linter.unusedSimpArgs false in
set_option linter.unusedVariables false in
set_option maxRecDepth 100000 in
set_option maxHeartbeats 2000000 in
theorem eqRowT (w : World) (o d t n p : Int) : Calls Tryz.prog 56 #[.agg #[.int .i64 o, .int .i64 d, .int .i64 t, .int .i64 n, .int .i64 p], .agg #[.int .i64 o, .int .i64 d, .int .i64 t, .int .i64 n, .int .i64 p]] w fun e w' => e = .returned (.bool true) ∧ Below w.heap.size w w' := by
  obtain ⟨wb, hwb⟩ : ∃ wb, (w.alloc (.cells #[.int .i64 o, .int .i64 d, .int .i64 t, .int .i64 n, .int .i64 p] tRow)).alloc (.cells #[.int .i64 o, .int .i64 d, .int .i64 t, .int .i64 n, .int .i64 p] tRow) = wb := ⟨_, rfl⟩
  have h2 := two_boxes w _ _ hwb
  have HB := Lib.hid h2.1
  obtain ⟨m0, m1, m2, m3, m4⟩ := cell5 h2.2.1
  obtain ⟨q0, q1, q2, q3, q4⟩ := cell5 h2.2.2
  have hWB := Lib.hid hwb
  clear hwb h2
  go_enter Tryz.func56, Tryz.ntmps56
  go_upto_region 1 with (fail)
  rw [hWB.out]
  go_wp2_with fail
  go_ret
  exact ⟨rfl, HB.out⟩
set_option linter.unusedSimpArgs false in
set_option linter.unusedVariables false in
set_option maxRecDepth 100000 in
set_option maxHeartbeats 4000000 in
theorem eqFuncT (w : World) (u v : Value) (l : List R5) (hu : Rd w u l) (hv : Rd w v l) (hl : l.length < 100000) :
    Calls Tryz.prog 57 #[u, v, .func (.func 56) #[] #[]] w fun e w' => e = .returned (.bool true) ∧ Below w.heap.size w w' := by
  obtain ⟨A, c, rfl, _⟩ := hu.shape
  obtain ⟨A', c', rfl, _⟩ := hv.shape
  have HU := Lib.hid hu; have HV := Lib.hid hv
  have hq := bneF (show (l.length : Int) = l.length from rfl)
  clear hu hv
  go_enter Tryz.func57, Tryz.ntmps57
  go_wp2_with fail
  go_loopw [17] (fun i wr => ∃ k : Nat, i = .int .i64 k ∧ k ≤ l.length ∧ Hid (Below w.heap.size w wr)) (fun i _ => l.length - (intOf i).toNat)
  case atStart => exact ⟨0, rfl, by omega, Below.refl _ _⟩
  case round =>
    obtain ⟨k, rfl, hk, HBr⟩ := hrel
    by_cases hkl : k < l.length
    · obtain ⟨x, hx⟩ : ∃ x, l[k]? = some x := ⟨_, List.getElem?_eq_getElem hkl⟩
      obtain ⟨g, off, n', c1, e, c01, c02, c03, c04, c05⟩ := HU.out.cells HBr.out hx
      injection e with e1 e2 e3; subst e1; clear e2 e3
      obtain ⟨g', off', n', c1, e, d01, d02, d03, d04, d05⟩ := HV.out.cells HBr.out hx
      injection e with e1 e2 e3; subst e1; clear e2 e3
      obtain ⟨⟨o, d⟩, t, n, p⟩ := x
      have hlt : (k : Int) < l.length := by omega
      have hk0 : (0 : Int) ≤ k := by omega
      go_upto_region 6 with (fail)
      obtain ⟨w2, hw2⟩ : ∃ w2, w2 = wr.alloc (.cells #[.int .i64 o, .int .i64 d, .int .i64 t, .int .i64 n, .int .i64 p] tRow) := ⟨_, rfl⟩
      rw [← hw2]
      have hb2 : Below wr.heap.size wr w2 := by rw [hw2]; exact below_alloc _ _
      have HX2 := Lib.hid (show w2.heap[wr.heap.size]? = some (.cells #[.int .i64 o, .int .i64 d, .int .i64 t, .int .i64 n, .int .i64 p] tRow (0, 0)) by rw [hw2]; exact heap_new _ _)
      have HB2 := Lib.hid (bch HBr.out hb2 HBr.out.size)
      have hlen2 : w.heap.size ≤ wr.heap.size := HBr.out.size
      clear hw2 hb2 c01 c02 c03 c04 c05 d01 d02 d03 d04 d05
      obtain ⟨g2, off2, n', c1, e, d01, d02, d03, d04, d05⟩ := HV.out.cells HB2.out hx
      injection e with e1 e2 e3
      injection e1 with e1
      injection e1 with e1 e4
      subst e1; subst e4
      clear e2 e3 hx
      generalize wr.heap.size = br at HX2 hlen2 ⊢
      obtain ⟨q0, q1, q2, q3, q4⟩ := cell5 HX2.out
      go_upto_region 7 with (fail)
      obtain ⟨w3, hw3⟩ : ∃ w3, w3 = w2.alloc (.cells #[.int .i64 o, .int .i64 d, .int .i64 t, .int .i64 n, .int .i64 p] tRow) := ⟨_, rfl⟩
      rw [← hw3]
      have hb3 : Below w2.heap.size w2 w3 := by rw [hw3]; exact below_alloc _ _
      have HY3 := Lib.hid (show w3.heap[w2.heap.size]? = some (.cells #[.int .i64 o, .int .i64 d, .int .i64 t, .int .i64 n, .int .i64 p] tRow (0, 0)) by rw [hw3]; exact heap_new _ _)
      have HX3 := Lib.hid (heap_keep HX2.out hb3); have HB3 := Lib.hid (bch HB2.out hb3 HB2.out.size)
      clear hw3 hb3 d01 d02 d03 d04 d05 q0 q1 q2 q3 q4
      generalize w2.heap.size = b2 at HY3 ⊢
      obtain ⟨q0, q1, q2, q3, q4⟩ := cell5 HX3.out
      obtain ⟨r0, r1, r2, r3, r4⟩ := cell5 HY3.out
      go_wp2_with fail
      refine (eqRowT w3 o d t n p).mono ?_
      rintro e w4 ⟨rfl, hb4⟩
      have HB4 := Lib.hid (bch HB3.out hb4 HB3.out.size)
      clear hb4 q0 q1 q2 q3 q4 r0 r1 r2 r3 r4
      go_wp2_with fail
      go_roundw
      case rel => exact ⟨k + 1, by go_num, by omega, HB4.out⟩
      case measure => simp [intOf]; omega
    · obtain rfl : k = l.length := by omega
      go_wp2_with fail
      go_ret
      exact ⟨rfl, HBr.out⟩
set_option linter.unusedSimpArgs false in
set_option linter.unusedVariables false in
set_option maxRecDepth 100000 in
set_option maxHeartbeats 4000000 in
theorem rowsSameT (w : World) (u v : Value) (l : List R5) (pa sq : Int) (hu : Rd w u l) (hv : Rd w v l) (hl : l.length < 100000) :
    Calls Tryz.prog 25 #[.agg #[.int .i64 pa, .int .i64 sq, u], .agg #[.int .i64 pa, .int .i64 sq, v]] w fun e w' => e = .returned (.bool true) ∧ Below w.heap.size w w' := by
  obtain ⟨A, c, rfl, _⟩ := hu.shape
  obtain ⟨A', c', rfl, _⟩ := hv.shape
  obtain ⟨wb, hwb⟩ : ∃ wb, (w.alloc (.cells #[.int .i64 pa, .int .i64 sq, .slice A l.length c] tStat)).alloc (.cells #[.int .i64 pa, .int .i64 sq, .slice A' l.length c'] tStat) = wb := ⟨_, rfl⟩
  have h2 := two_boxes w _ _ hwb
  have HB := Lib.hid h2.1
  obtain ⟨m0, m1, m2⟩ := cell3c h2.2.1
  obtain ⟨q0, q1, q2⟩ := cell3c h2.2.2
  have HE := Lib.hid (eqFuncT wb _ _ l (hu.keep h2.1) (hv.keep h2.1) hl)
  have hWB := Lib.hid hwb
  clear hu hv hwb h2
  go_enter Tryz.func25, Tryz.ntmps25
  go_upto_region 1 with (fail)
  rw [hWB.out]
  go_wp2_with fail
  refine HE.out.mono ?_
  rintro e w1 ⟨rfl, hb⟩
  have HB1 := Lib.hid (bch HB.out hb HB.out.size)
  clear hb
  go_wp2_with fail
  go_ret
  exact ⟨rfl, HB1.out⟩
end Go.Proofs.YtgpjbigelblanaaGreatDoor

/- How a saga's deed differs from a row: the program's known and the document's kind. -/
import Derived.Test.YtlfibaijpimocaaDoorSagaWant
namespace Go.Proofs.YtlfibaijpimocaaDoor
open Go.RowKit Key Sa
abbrev tRow0 : TypeId := 72
theorem below_alloc2 (w : World) (o o' : Obj) : Below w.heap.size w ((w.alloc o).alloc o') := (below_alloc w o).alloc (by simp) o'

set_option linter.unusedSimpArgs false in
set_option linter.unusedVariables false in
set_option maxRecDepth 100000 in
set_option maxHeartbeats 16000000 in
theorem known_lo (s : Sg) (k o d c a q : Int) (ok : Bool) (w : World) (h0 : 0 ≤ k) (h3 : k < 3) :
    Calls Tryd.prog 37 #[sgV s, .int .i64 k, .agg #[.int .i64 o, .int .i64 d, .int .i64 c, .int .i64 a, .int .i64 q], .bool ok] w fun e w' => e = .returned (.int .i64 (kindI s k c a q ok)) ∧ Below w.heap.size w w' := by
  have h6 : k < 6 := by omega
  by_cases hl : s.deed k < 0
  · have HF := Lib.hid (show kindI s k c a q ok = 0 by unfold kindI; simp [hl])
    have HB := Lib.hid (below_alloc2 w (.cells (sgA s) tSaga) (.cells #[.int .i64 o, .int .i64 d, .int .i64 c, .int .i64 a, .int .i64 q] tRow0))
    have HM := Lib.hid (heap_keep (heap_new w (.cells (sgA s) tSaga)) (below_alloc _ (.cells #[.int .i64 o, .int .i64 d, .int .i64 c, .int .i64 a, .int .i64 q] tRow0)))
    have HR := Lib.hid (heap_new (w.alloc (.cells (sgA s) tSaga)) (.cells #[.int .i64 o, .int .i64 d, .int .i64 c, .int .i64 a, .int .i64 q] tRow0))
    rw [show (w.alloc (.cells (sgA s) tSaga)).heap.size = w.heap.size + 1 by simp] at HR
    have HW := Lib.hid (fun W => want_any s k W ⟨by omega, by omega⟩)
    have HU := Lib.hid (fun W => undoes_any k W ⟨by omega, by omega⟩)
    rw [show undoI k = (0, false) by unfold undoI; rw [if_neg (by omega)]] at HU
    have cd := sg_deed HM.out h0 h6
    have ce := sg_deed HM.out (k := k + 3) (by omega) (by omega)
    go_enter Tryd.func37, Tryd.ntmps37
    go_wp2_with fail
    refine (HW.out _).mono ?_
    rintro e w1 ⟨rfl, hb⟩
    have HB1 := Lib.hid (bch HB.out hb HB.out.size)
    have HM1 := Lib.hid (heap_keep HM.out hb)
    have HR1 := Lib.hid (heap_keep HR.out hb)
    clear hb cd ce
    have ce := sg_deed HM1.out (k := k + 3) (by omega) (by omega)
    have cc := cell_at HR1.out 2 rfl
    have ca := cell_at HR1.out 3 rfl
    have cq := cell_at HR1.out 4 rfl
    go_wp2_with fail
    refine (HU.out _).mono ?_
    rintro e w2 ⟨rfl, hw⟩; subst hw
    go_wp2_with fail
    go_ret
    exact ⟨ret_int HF.out.symm, HB1.out⟩
  by_cases hg : 4 < s.deed k
  · have HF := Lib.hid (show kindI s k c a q ok = 0 by unfold kindI; simp [hg])
    have HB := Lib.hid (below_alloc2 w (.cells (sgA s) tSaga) (.cells #[.int .i64 o, .int .i64 d, .int .i64 c, .int .i64 a, .int .i64 q] tRow0))
    have HM := Lib.hid (heap_keep (heap_new w (.cells (sgA s) tSaga)) (below_alloc _ (.cells #[.int .i64 o, .int .i64 d, .int .i64 c, .int .i64 a, .int .i64 q] tRow0)))
    have HR := Lib.hid (heap_new (w.alloc (.cells (sgA s) tSaga)) (.cells #[.int .i64 o, .int .i64 d, .int .i64 c, .int .i64 a, .int .i64 q] tRow0))
    rw [show (w.alloc (.cells (sgA s) tSaga)).heap.size = w.heap.size + 1 by simp] at HR
    have HW := Lib.hid (fun W => want_any s k W ⟨by omega, by omega⟩)
    have HU := Lib.hid (fun W => undoes_any k W ⟨by omega, by omega⟩)
    rw [show undoI k = (0, false) by unfold undoI; rw [if_neg (by omega)]] at HU
    have cd := sg_deed HM.out h0 h6
    have ce := sg_deed HM.out (k := k + 3) (by omega) (by omega)
    go_enter Tryd.func37, Tryd.ntmps37
    go_wp2_with fail
    refine (HW.out _).mono ?_
    rintro e w1 ⟨rfl, hb⟩
    have HB1 := Lib.hid (bch HB.out hb HB.out.size)
    have HM1 := Lib.hid (heap_keep HM.out hb)
    have HR1 := Lib.hid (heap_keep HR.out hb)
    clear hb cd ce
    have ce := sg_deed HM1.out (k := k + 3) (by omega) (by omega)
    have cc := cell_at HR1.out 2 rfl
    have ca := cell_at HR1.out 3 rfl
    have cq := cell_at HR1.out 4 rfl
    go_wp2_with fail
    refine (HU.out _).mono ?_
    rintro e w2 ⟨rfl, hw⟩; subst hw
    go_wp2_with fail
    go_ret
    exact ⟨ret_int HF.out.symm, HB1.out⟩
  rcases (show s.deed k = 0 ∨ s.deed k = 1 ∨ s.deed k = 2 ∨ s.deed k = 3 ∨ s.deed k = 4 by omega) with hh | hh | hh | hh | hh
  all_goals clear hl hg
  · cases ok with
    | false =>
      have HF := Lib.hid (show kindI s k c a q false = 0 by unfold kindI; simp [hh])
      have HB := Lib.hid (below_alloc2 w (.cells (sgA s) tSaga) (.cells #[.int .i64 o, .int .i64 d, .int .i64 c, .int .i64 a, .int .i64 q] tRow0))
      have HM := Lib.hid (heap_keep (heap_new w (.cells (sgA s) tSaga)) (below_alloc _ (.cells #[.int .i64 o, .int .i64 d, .int .i64 c, .int .i64 a, .int .i64 q] tRow0)))
      have HR := Lib.hid (heap_new (w.alloc (.cells (sgA s) tSaga)) (.cells #[.int .i64 o, .int .i64 d, .int .i64 c, .int .i64 a, .int .i64 q] tRow0))
      rw [show (w.alloc (.cells (sgA s) tSaga)).heap.size = w.heap.size + 1 by simp] at HR
      have HW := Lib.hid (fun W => want_any s k W ⟨by omega, by omega⟩)
      have HU := Lib.hid (fun W => undoes_any k W ⟨by omega, by omega⟩)
      rw [show undoI k = (0, false) by unfold undoI; rw [if_neg (by omega)]] at HU
      have cd := sg_deed HM.out h0 h6
      rw [hh] at cd
      have ce := sg_deed HM.out (k := k + 3) (by omega) (by omega)
      clear hh
      go_enter Tryd.func37, Tryd.ntmps37
      go_wp2_with fail
      refine (HW.out _).mono ?_
      rintro e w1 ⟨rfl, hb⟩
      have HB1 := Lib.hid (bch HB.out hb HB.out.size)
      have HM1 := Lib.hid (heap_keep HM.out hb)
      have HR1 := Lib.hid (heap_keep HR.out hb)
      clear hb cd ce
      have ce := sg_deed HM1.out (k := k + 3) (by omega) (by omega)
      have cc := cell_at HR1.out 2 rfl
      have ca := cell_at HR1.out 3 rfl
      have cq := cell_at HR1.out 4 rfl
      go_wp2_with fail
      refine (HU.out _).mono ?_
      rintro e w2 ⟨rfl, hw⟩; subst hw
      go_wp2_with fail
      go_ret
      exact ⟨ret_int HF.out.symm, HB1.out⟩
    | true =>
      have HF := Lib.hid (show kindI s k c a q true = 5 by unfold kindI; simp [hh])
      have HB := Lib.hid (below_alloc2 w (.cells (sgA s) tSaga) (.cells #[.int .i64 o, .int .i64 d, .int .i64 c, .int .i64 a, .int .i64 q] tRow0))
      have HM := Lib.hid (heap_keep (heap_new w (.cells (sgA s) tSaga)) (below_alloc _ (.cells #[.int .i64 o, .int .i64 d, .int .i64 c, .int .i64 a, .int .i64 q] tRow0)))
      have HR := Lib.hid (heap_new (w.alloc (.cells (sgA s) tSaga)) (.cells #[.int .i64 o, .int .i64 d, .int .i64 c, .int .i64 a, .int .i64 q] tRow0))
      rw [show (w.alloc (.cells (sgA s) tSaga)).heap.size = w.heap.size + 1 by simp] at HR
      have HW := Lib.hid (fun W => want_any s k W ⟨by omega, by omega⟩)
      have HU := Lib.hid (fun W => undoes_any k W ⟨by omega, by omega⟩)
      rw [show undoI k = (0, false) by unfold undoI; rw [if_neg (by omega)]] at HU
      have cd := sg_deed HM.out h0 h6
      rw [hh] at cd
      have ce := sg_deed HM.out (k := k + 3) (by omega) (by omega)
      clear hh
      go_enter Tryd.func37, Tryd.ntmps37
      go_wp2_with fail
      refine (HW.out _).mono ?_
      rintro e w1 ⟨rfl, hb⟩
      have HB1 := Lib.hid (bch HB.out hb HB.out.size)
      have HM1 := Lib.hid (heap_keep HM.out hb)
      have HR1 := Lib.hid (heap_keep HR.out hb)
      clear hb cd ce
      have ce := sg_deed HM1.out (k := k + 3) (by omega) (by omega)
      have cc := cell_at HR1.out 2 rfl
      have ca := cell_at HR1.out 3 rfl
      have cq := cell_at HR1.out 4 rfl
      go_wp2_with fail
      refine (HU.out _).mono ?_
      rintro e w2 ⟨rfl, hw⟩; subst hw
      go_wp2_with fail
      go_ret
      exact ⟨ret_int HF.out.symm, HB1.out⟩
  · cases ok with
    | false =>
      have HF := Lib.hid (show kindI s k c a q false = 0 by unfold kindI; simp [hh])
      have HB := Lib.hid (below_alloc2 w (.cells (sgA s) tSaga) (.cells #[.int .i64 o, .int .i64 d, .int .i64 c, .int .i64 a, .int .i64 q] tRow0))
      have HM := Lib.hid (heap_keep (heap_new w (.cells (sgA s) tSaga)) (below_alloc _ (.cells #[.int .i64 o, .int .i64 d, .int .i64 c, .int .i64 a, .int .i64 q] tRow0)))
      have HR := Lib.hid (heap_new (w.alloc (.cells (sgA s) tSaga)) (.cells #[.int .i64 o, .int .i64 d, .int .i64 c, .int .i64 a, .int .i64 q] tRow0))
      rw [show (w.alloc (.cells (sgA s) tSaga)).heap.size = w.heap.size + 1 by simp] at HR
      have HW := Lib.hid (fun W => want_any s k W ⟨by omega, by omega⟩)
      have HU := Lib.hid (fun W => undoes_any k W ⟨by omega, by omega⟩)
      rw [show undoI k = (0, false) by unfold undoI; rw [if_neg (by omega)]] at HU
      have cd := sg_deed HM.out h0 h6
      rw [hh] at cd
      have ce := sg_deed HM.out (k := k + 3) (by omega) (by omega)
      clear hh
      go_enter Tryd.func37, Tryd.ntmps37
      go_wp2_with fail
      refine (HW.out _).mono ?_
      rintro e w1 ⟨rfl, hb⟩
      have HB1 := Lib.hid (bch HB.out hb HB.out.size)
      have HM1 := Lib.hid (heap_keep HM.out hb)
      have HR1 := Lib.hid (heap_keep HR.out hb)
      clear hb cd ce
      have ce := sg_deed HM1.out (k := k + 3) (by omega) (by omega)
      have cc := cell_at HR1.out 2 rfl
      have ca := cell_at HR1.out 3 rfl
      have cq := cell_at HR1.out 4 rfl
      go_wp2_with fail
      refine (HU.out _).mono ?_
      rintro e w2 ⟨rfl, hw⟩; subst hw
      go_wp2_with fail
      go_ret
      exact ⟨ret_int HF.out.symm, HB1.out⟩
    | true =>
      by_cases hc : c = 1
      · subst hc
        have HF := Lib.hid (show kindI s k 1 a q true = 1 by unfold kindI; simp [hh])
        have HB := Lib.hid (below_alloc2 w (.cells (sgA s) tSaga) (.cells #[.int .i64 o, .int .i64 d, .int .i64 1, .int .i64 a, .int .i64 q] tRow0))
        have HM := Lib.hid (heap_keep (heap_new w (.cells (sgA s) tSaga)) (below_alloc _ (.cells #[.int .i64 o, .int .i64 d, .int .i64 1, .int .i64 a, .int .i64 q] tRow0)))
        have HR := Lib.hid (heap_new (w.alloc (.cells (sgA s) tSaga)) (.cells #[.int .i64 o, .int .i64 d, .int .i64 1, .int .i64 a, .int .i64 q] tRow0))
        rw [show (w.alloc (.cells (sgA s) tSaga)).heap.size = w.heap.size + 1 by simp] at HR
        have HW := Lib.hid (fun W => want_any s k W ⟨by omega, by omega⟩)
        have HU := Lib.hid (fun W => undoes_any k W ⟨by omega, by omega⟩)
        rw [show undoI k = (0, false) by unfold undoI; rw [if_neg (by omega)]] at HU
        have cd := sg_deed HM.out h0 h6
        rw [hh] at cd
        have ce := sg_deed HM.out (k := k + 3) (by omega) (by omega)
        clear hh
        go_enter Tryd.func37, Tryd.ntmps37
        go_wp2_with fail
        refine (HW.out _).mono ?_
        rintro e w1 ⟨rfl, hb⟩
        have HB1 := Lib.hid (bch HB.out hb HB.out.size)
        have HM1 := Lib.hid (heap_keep HM.out hb)
        have HR1 := Lib.hid (heap_keep HR.out hb)
        clear hb cd ce
        have ce := sg_deed HM1.out (k := k + 3) (by omega) (by omega)
        have cc := cell_at HR1.out 2 rfl
        have ca := cell_at HR1.out 3 rfl
        have cq := cell_at HR1.out 4 rfl
        go_wp2_with fail
        refine (HU.out _).mono ?_
        rintro e w2 ⟨rfl, hw⟩; subst hw
        go_wp2_with fail
        go_ret
        exact ⟨ret_int HF.out.symm, HB1.out⟩
      · have hc1 := beqF hc
        have HF := Lib.hid (show kindI s k c a q true = 0 by unfold kindI; simp [hh, hc])
        clear hc
        have HB := Lib.hid (below_alloc2 w (.cells (sgA s) tSaga) (.cells #[.int .i64 o, .int .i64 d, .int .i64 c, .int .i64 a, .int .i64 q] tRow0))
        have HM := Lib.hid (heap_keep (heap_new w (.cells (sgA s) tSaga)) (below_alloc _ (.cells #[.int .i64 o, .int .i64 d, .int .i64 c, .int .i64 a, .int .i64 q] tRow0)))
        have HR := Lib.hid (heap_new (w.alloc (.cells (sgA s) tSaga)) (.cells #[.int .i64 o, .int .i64 d, .int .i64 c, .int .i64 a, .int .i64 q] tRow0))
        rw [show (w.alloc (.cells (sgA s) tSaga)).heap.size = w.heap.size + 1 by simp] at HR
        have HW := Lib.hid (fun W => want_any s k W ⟨by omega, by omega⟩)
        have HU := Lib.hid (fun W => undoes_any k W ⟨by omega, by omega⟩)
        rw [show undoI k = (0, false) by unfold undoI; rw [if_neg (by omega)]] at HU
        have cd := sg_deed HM.out h0 h6
        rw [hh] at cd
        have ce := sg_deed HM.out (k := k + 3) (by omega) (by omega)
        clear hh
        go_enter Tryd.func37, Tryd.ntmps37
        go_wp2_with fail
        refine (HW.out _).mono ?_
        rintro e w1 ⟨rfl, hb⟩
        have HB1 := Lib.hid (bch HB.out hb HB.out.size)
        have HM1 := Lib.hid (heap_keep HM.out hb)
        have HR1 := Lib.hid (heap_keep HR.out hb)
        clear hb cd ce
        have ce := sg_deed HM1.out (k := k + 3) (by omega) (by omega)
        have cc := cell_at HR1.out 2 rfl
        have ca := cell_at HR1.out 3 rfl
        have cq := cell_at HR1.out 4 rfl
        go_wp2_with fail
        refine (HU.out _).mono ?_
        rintro e w2 ⟨rfl, hw⟩; subst hw
        go_wp2_with fail
        go_ret
        exact ⟨ret_int HF.out.symm, HB1.out⟩
  · cases ok with
    | false =>
      have HF := Lib.hid (show kindI s k c a q false = 2 by unfold kindI; simp [hh])
      have HB := Lib.hid (below_alloc2 w (.cells (sgA s) tSaga) (.cells #[.int .i64 o, .int .i64 d, .int .i64 c, .int .i64 a, .int .i64 q] tRow0))
      have HM := Lib.hid (heap_keep (heap_new w (.cells (sgA s) tSaga)) (below_alloc _ (.cells #[.int .i64 o, .int .i64 d, .int .i64 c, .int .i64 a, .int .i64 q] tRow0)))
      have HR := Lib.hid (heap_new (w.alloc (.cells (sgA s) tSaga)) (.cells #[.int .i64 o, .int .i64 d, .int .i64 c, .int .i64 a, .int .i64 q] tRow0))
      rw [show (w.alloc (.cells (sgA s) tSaga)).heap.size = w.heap.size + 1 by simp] at HR
      have HW := Lib.hid (fun W => want_any s k W ⟨by omega, by omega⟩)
      have HU := Lib.hid (fun W => undoes_any k W ⟨by omega, by omega⟩)
      rw [show undoI k = (0, false) by unfold undoI; rw [if_neg (by omega)]] at HU
      have cd := sg_deed HM.out h0 h6
      rw [hh] at cd
      have ce := sg_deed HM.out (k := k + 3) (by omega) (by omega)
      clear hh
      go_enter Tryd.func37, Tryd.ntmps37
      go_wp2_with fail
      refine (HW.out _).mono ?_
      rintro e w1 ⟨rfl, hb⟩
      have HB1 := Lib.hid (bch HB.out hb HB.out.size)
      have HM1 := Lib.hid (heap_keep HM.out hb)
      have HR1 := Lib.hid (heap_keep HR.out hb)
      clear hb cd ce
      have ce := sg_deed HM1.out (k := k + 3) (by omega) (by omega)
      have cc := cell_at HR1.out 2 rfl
      have ca := cell_at HR1.out 3 rfl
      have cq := cell_at HR1.out 4 rfl
      go_wp2_with fail
      refine (HU.out _).mono ?_
      rintro e w2 ⟨rfl, hw⟩; subst hw
      go_wp2_with fail
      go_ret
      exact ⟨ret_int HF.out.symm, HB1.out⟩
    | true =>
      by_cases hc : c = 1
      · subst hc
        by_cases ha : a = (wantI s k).1
        · have ha1 := bneF ha
          have ha2 := beqT ha
          by_cases hq : q = (wantI s k).2
          · have hq1 := bneF hq
            have hq2 := beqT hq
            have HF := Lib.hid (show kindI s k 1 a q true = 0 by unfold kindI; simp [hh, ← ha, ← hq])
            clear ha hq
            have HB := Lib.hid (below_alloc2 w (.cells (sgA s) tSaga) (.cells #[.int .i64 o, .int .i64 d, .int .i64 1, .int .i64 a, .int .i64 q] tRow0))
            have HM := Lib.hid (heap_keep (heap_new w (.cells (sgA s) tSaga)) (below_alloc _ (.cells #[.int .i64 o, .int .i64 d, .int .i64 1, .int .i64 a, .int .i64 q] tRow0)))
            have HR := Lib.hid (heap_new (w.alloc (.cells (sgA s) tSaga)) (.cells #[.int .i64 o, .int .i64 d, .int .i64 1, .int .i64 a, .int .i64 q] tRow0))
            rw [show (w.alloc (.cells (sgA s) tSaga)).heap.size = w.heap.size + 1 by simp] at HR
            have HW := Lib.hid (fun W => want_any s k W ⟨by omega, by omega⟩)
            have HU := Lib.hid (fun W => undoes_any k W ⟨by omega, by omega⟩)
            rw [show undoI k = (0, false) by unfold undoI; rw [if_neg (by omega)]] at HU
            have cd := sg_deed HM.out h0 h6
            rw [hh] at cd
            have ce := sg_deed HM.out (k := k + 3) (by omega) (by omega)
            clear hh
            go_enter Tryd.func37, Tryd.ntmps37
            go_wp2_with fail
            refine (HW.out _).mono ?_
            rintro e w1 ⟨rfl, hb⟩
            have HB1 := Lib.hid (bch HB.out hb HB.out.size)
            have HM1 := Lib.hid (heap_keep HM.out hb)
            have HR1 := Lib.hid (heap_keep HR.out hb)
            clear hb cd ce
            have ce := sg_deed HM1.out (k := k + 3) (by omega) (by omega)
            have cc := cell_at HR1.out 2 rfl
            have ca := cell_at HR1.out 3 rfl
            have cq := cell_at HR1.out 4 rfl
            go_wp2_with fail
            refine (HU.out _).mono ?_
            rintro e w2 ⟨rfl, hw⟩; subst hw
            go_wp2_with fail
            go_ret
            exact ⟨ret_int HF.out.symm, HB1.out⟩
          · have hq1 := bneT hq
            have hq2 := beqF hq
            have HF := Lib.hid (show kindI s k 1 a q true = 4 by unfold kindI; simp [hh, ← ha, hq, show k < 3 by omega])
            clear ha hq
            have HB := Lib.hid (below_alloc2 w (.cells (sgA s) tSaga) (.cells #[.int .i64 o, .int .i64 d, .int .i64 1, .int .i64 a, .int .i64 q] tRow0))
            have HM := Lib.hid (heap_keep (heap_new w (.cells (sgA s) tSaga)) (below_alloc _ (.cells #[.int .i64 o, .int .i64 d, .int .i64 1, .int .i64 a, .int .i64 q] tRow0)))
            have HR := Lib.hid (heap_new (w.alloc (.cells (sgA s) tSaga)) (.cells #[.int .i64 o, .int .i64 d, .int .i64 1, .int .i64 a, .int .i64 q] tRow0))
            rw [show (w.alloc (.cells (sgA s) tSaga)).heap.size = w.heap.size + 1 by simp] at HR
            have HW := Lib.hid (fun W => want_any s k W ⟨by omega, by omega⟩)
            have HU := Lib.hid (fun W => undoes_any k W ⟨by omega, by omega⟩)
            rw [show undoI k = (0, false) by unfold undoI; rw [if_neg (by omega)]] at HU
            have cd := sg_deed HM.out h0 h6
            rw [hh] at cd
            have ce := sg_deed HM.out (k := k + 3) (by omega) (by omega)
            clear hh
            go_enter Tryd.func37, Tryd.ntmps37
            go_wp2_with fail
            refine (HW.out _).mono ?_
            rintro e w1 ⟨rfl, hb⟩
            have HB1 := Lib.hid (bch HB.out hb HB.out.size)
            have HM1 := Lib.hid (heap_keep HM.out hb)
            have HR1 := Lib.hid (heap_keep HR.out hb)
            clear hb cd ce
            have ce := sg_deed HM1.out (k := k + 3) (by omega) (by omega)
            have cc := cell_at HR1.out 2 rfl
            have ca := cell_at HR1.out 3 rfl
            have cq := cell_at HR1.out 4 rfl
            go_wp2_with fail
            refine (HU.out _).mono ?_
            rintro e w2 ⟨rfl, hw⟩; subst hw
            go_wp2_with fail
            go_ret
            exact ⟨ret_int HF.out.symm, HB1.out⟩
        · have ha1 := bneT ha
          have ha2 := beqF ha
          have HF := Lib.hid (show kindI s k 1 a q true = 4 by unfold kindI; simp [hh, ha, show k < 3 by omega])
          clear ha
          have HB := Lib.hid (below_alloc2 w (.cells (sgA s) tSaga) (.cells #[.int .i64 o, .int .i64 d, .int .i64 1, .int .i64 a, .int .i64 q] tRow0))
          have HM := Lib.hid (heap_keep (heap_new w (.cells (sgA s) tSaga)) (below_alloc _ (.cells #[.int .i64 o, .int .i64 d, .int .i64 1, .int .i64 a, .int .i64 q] tRow0)))
          have HR := Lib.hid (heap_new (w.alloc (.cells (sgA s) tSaga)) (.cells #[.int .i64 o, .int .i64 d, .int .i64 1, .int .i64 a, .int .i64 q] tRow0))
          rw [show (w.alloc (.cells (sgA s) tSaga)).heap.size = w.heap.size + 1 by simp] at HR
          have HW := Lib.hid (fun W => want_any s k W ⟨by omega, by omega⟩)
          have HU := Lib.hid (fun W => undoes_any k W ⟨by omega, by omega⟩)
          rw [show undoI k = (0, false) by unfold undoI; rw [if_neg (by omega)]] at HU
          have cd := sg_deed HM.out h0 h6
          rw [hh] at cd
          have ce := sg_deed HM.out (k := k + 3) (by omega) (by omega)
          clear hh
          go_enter Tryd.func37, Tryd.ntmps37
          go_wp2_with fail
          refine (HW.out _).mono ?_
          rintro e w1 ⟨rfl, hb⟩
          have HB1 := Lib.hid (bch HB.out hb HB.out.size)
          have HM1 := Lib.hid (heap_keep HM.out hb)
          have HR1 := Lib.hid (heap_keep HR.out hb)
          clear hb cd ce
          have ce := sg_deed HM1.out (k := k + 3) (by omega) (by omega)
          have cc := cell_at HR1.out 2 rfl
          have ca := cell_at HR1.out 3 rfl
          have cq := cell_at HR1.out 4 rfl
          go_wp2_with fail
          refine (HU.out _).mono ?_
          rintro e w2 ⟨rfl, hw⟩; subst hw
          go_wp2_with fail
          go_ret
          exact ⟨ret_int HF.out.symm, HB1.out⟩
      · have hc1 := beqF hc
        have HF := Lib.hid (show kindI s k c a q true = 3 by unfold kindI; simp [hh, hc])
        clear hc
        have HB := Lib.hid (below_alloc2 w (.cells (sgA s) tSaga) (.cells #[.int .i64 o, .int .i64 d, .int .i64 c, .int .i64 a, .int .i64 q] tRow0))
        have HM := Lib.hid (heap_keep (heap_new w (.cells (sgA s) tSaga)) (below_alloc _ (.cells #[.int .i64 o, .int .i64 d, .int .i64 c, .int .i64 a, .int .i64 q] tRow0)))
        have HR := Lib.hid (heap_new (w.alloc (.cells (sgA s) tSaga)) (.cells #[.int .i64 o, .int .i64 d, .int .i64 c, .int .i64 a, .int .i64 q] tRow0))
        rw [show (w.alloc (.cells (sgA s) tSaga)).heap.size = w.heap.size + 1 by simp] at HR
        have HW := Lib.hid (fun W => want_any s k W ⟨by omega, by omega⟩)
        have HU := Lib.hid (fun W => undoes_any k W ⟨by omega, by omega⟩)
        rw [show undoI k = (0, false) by unfold undoI; rw [if_neg (by omega)]] at HU
        have cd := sg_deed HM.out h0 h6
        rw [hh] at cd
        have ce := sg_deed HM.out (k := k + 3) (by omega) (by omega)
        clear hh
        go_enter Tryd.func37, Tryd.ntmps37
        go_wp2_with fail
        refine (HW.out _).mono ?_
        rintro e w1 ⟨rfl, hb⟩
        have HB1 := Lib.hid (bch HB.out hb HB.out.size)
        have HM1 := Lib.hid (heap_keep HM.out hb)
        have HR1 := Lib.hid (heap_keep HR.out hb)
        clear hb cd ce
        have ce := sg_deed HM1.out (k := k + 3) (by omega) (by omega)
        have cc := cell_at HR1.out 2 rfl
        have ca := cell_at HR1.out 3 rfl
        have cq := cell_at HR1.out 4 rfl
        go_wp2_with fail
        refine (HU.out _).mono ?_
        rintro e w2 ⟨rfl, hw⟩; subst hw
        go_wp2_with fail
        go_ret
        exact ⟨ret_int HF.out.symm, HB1.out⟩
  · cases ok with
    | false =>
      have HF := Lib.hid (show kindI s k c a q false = 2 by unfold kindI; simp [hh])
      have HB := Lib.hid (below_alloc2 w (.cells (sgA s) tSaga) (.cells #[.int .i64 o, .int .i64 d, .int .i64 c, .int .i64 a, .int .i64 q] tRow0))
      have HM := Lib.hid (heap_keep (heap_new w (.cells (sgA s) tSaga)) (below_alloc _ (.cells #[.int .i64 o, .int .i64 d, .int .i64 c, .int .i64 a, .int .i64 q] tRow0)))
      have HR := Lib.hid (heap_new (w.alloc (.cells (sgA s) tSaga)) (.cells #[.int .i64 o, .int .i64 d, .int .i64 c, .int .i64 a, .int .i64 q] tRow0))
      rw [show (w.alloc (.cells (sgA s) tSaga)).heap.size = w.heap.size + 1 by simp] at HR
      have HW := Lib.hid (fun W => want_any s k W ⟨by omega, by omega⟩)
      have HU := Lib.hid (fun W => undoes_any k W ⟨by omega, by omega⟩)
      rw [show undoI k = (0, false) by unfold undoI; rw [if_neg (by omega)]] at HU
      have cd := sg_deed HM.out h0 h6
      rw [hh] at cd
      have ce := sg_deed HM.out (k := k + 3) (by omega) (by omega)
      clear hh
      go_enter Tryd.func37, Tryd.ntmps37
      go_wp2_with fail
      refine (HW.out _).mono ?_
      rintro e w1 ⟨rfl, hb⟩
      have HB1 := Lib.hid (bch HB.out hb HB.out.size)
      have HM1 := Lib.hid (heap_keep HM.out hb)
      have HR1 := Lib.hid (heap_keep HR.out hb)
      clear hb cd ce
      have ce := sg_deed HM1.out (k := k + 3) (by omega) (by omega)
      have cc := cell_at HR1.out 2 rfl
      have ca := cell_at HR1.out 3 rfl
      have cq := cell_at HR1.out 4 rfl
      go_wp2_with fail
      refine (HU.out _).mono ?_
      rintro e w2 ⟨rfl, hw⟩; subst hw
      go_wp2_with fail
      go_ret
      exact ⟨ret_int HF.out.symm, HB1.out⟩
    | true =>
      by_cases hc : c = 1
      · subst hc
        have HF := Lib.hid (show kindI s k 1 a q true = 3 by unfold kindI; simp [hh])
        have HB := Lib.hid (below_alloc2 w (.cells (sgA s) tSaga) (.cells #[.int .i64 o, .int .i64 d, .int .i64 1, .int .i64 a, .int .i64 q] tRow0))
        have HM := Lib.hid (heap_keep (heap_new w (.cells (sgA s) tSaga)) (below_alloc _ (.cells #[.int .i64 o, .int .i64 d, .int .i64 1, .int .i64 a, .int .i64 q] tRow0)))
        have HR := Lib.hid (heap_new (w.alloc (.cells (sgA s) tSaga)) (.cells #[.int .i64 o, .int .i64 d, .int .i64 1, .int .i64 a, .int .i64 q] tRow0))
        rw [show (w.alloc (.cells (sgA s) tSaga)).heap.size = w.heap.size + 1 by simp] at HR
        have HW := Lib.hid (fun W => want_any s k W ⟨by omega, by omega⟩)
        have HU := Lib.hid (fun W => undoes_any k W ⟨by omega, by omega⟩)
        rw [show undoI k = (0, false) by unfold undoI; rw [if_neg (by omega)]] at HU
        have cd := sg_deed HM.out h0 h6
        rw [hh] at cd
        have ce := sg_deed HM.out (k := k + 3) (by omega) (by omega)
        clear hh
        go_enter Tryd.func37, Tryd.ntmps37
        go_wp2_with fail
        refine (HW.out _).mono ?_
        rintro e w1 ⟨rfl, hb⟩
        have HB1 := Lib.hid (bch HB.out hb HB.out.size)
        have HM1 := Lib.hid (heap_keep HM.out hb)
        have HR1 := Lib.hid (heap_keep HR.out hb)
        clear hb cd ce
        have ce := sg_deed HM1.out (k := k + 3) (by omega) (by omega)
        have cc := cell_at HR1.out 2 rfl
        have ca := cell_at HR1.out 3 rfl
        have cq := cell_at HR1.out 4 rfl
        go_wp2_with fail
        refine (HU.out _).mono ?_
        rintro e w2 ⟨rfl, hw⟩; subst hw
        go_wp2_with fail
        go_ret
        exact ⟨ret_int HF.out.symm, HB1.out⟩
      · have hc1 := beqF hc
        have HF := Lib.hid (show kindI s k c a q true = 0 by unfold kindI; simp [hh, hc])
        clear hc
        have HB := Lib.hid (below_alloc2 w (.cells (sgA s) tSaga) (.cells #[.int .i64 o, .int .i64 d, .int .i64 c, .int .i64 a, .int .i64 q] tRow0))
        have HM := Lib.hid (heap_keep (heap_new w (.cells (sgA s) tSaga)) (below_alloc _ (.cells #[.int .i64 o, .int .i64 d, .int .i64 c, .int .i64 a, .int .i64 q] tRow0)))
        have HR := Lib.hid (heap_new (w.alloc (.cells (sgA s) tSaga)) (.cells #[.int .i64 o, .int .i64 d, .int .i64 c, .int .i64 a, .int .i64 q] tRow0))
        rw [show (w.alloc (.cells (sgA s) tSaga)).heap.size = w.heap.size + 1 by simp] at HR
        have HW := Lib.hid (fun W => want_any s k W ⟨by omega, by omega⟩)
        have HU := Lib.hid (fun W => undoes_any k W ⟨by omega, by omega⟩)
        rw [show undoI k = (0, false) by unfold undoI; rw [if_neg (by omega)]] at HU
        have cd := sg_deed HM.out h0 h6
        rw [hh] at cd
        have ce := sg_deed HM.out (k := k + 3) (by omega) (by omega)
        clear hh
        go_enter Tryd.func37, Tryd.ntmps37
        go_wp2_with fail
        refine (HW.out _).mono ?_
        rintro e w1 ⟨rfl, hb⟩
        have HB1 := Lib.hid (bch HB.out hb HB.out.size)
        have HM1 := Lib.hid (heap_keep HM.out hb)
        have HR1 := Lib.hid (heap_keep HR.out hb)
        clear hb cd ce
        have ce := sg_deed HM1.out (k := k + 3) (by omega) (by omega)
        have cc := cell_at HR1.out 2 rfl
        have ca := cell_at HR1.out 3 rfl
        have cq := cell_at HR1.out 4 rfl
        go_wp2_with fail
        refine (HU.out _).mono ?_
        rintro e w2 ⟨rfl, hw⟩; subst hw
        go_wp2_with fail
        go_ret
        exact ⟨ret_int HF.out.symm, HB1.out⟩
  · by_cases hs : s.deed (k + 3) = 2
    · have hs1 := beqT hs
      have HF := Lib.hid (show kindI s k c a q ok = 0 by unfold kindI; simp [hh, hs, show k < 3 by omega])
      clear hs
      have HB := Lib.hid (below_alloc2 w (.cells (sgA s) tSaga) (.cells #[.int .i64 o, .int .i64 d, .int .i64 c, .int .i64 a, .int .i64 q] tRow0))
      have HM := Lib.hid (heap_keep (heap_new w (.cells (sgA s) tSaga)) (below_alloc _ (.cells #[.int .i64 o, .int .i64 d, .int .i64 c, .int .i64 a, .int .i64 q] tRow0)))
      have HR := Lib.hid (heap_new (w.alloc (.cells (sgA s) tSaga)) (.cells #[.int .i64 o, .int .i64 d, .int .i64 c, .int .i64 a, .int .i64 q] tRow0))
      rw [show (w.alloc (.cells (sgA s) tSaga)).heap.size = w.heap.size + 1 by simp] at HR
      have HW := Lib.hid (fun W => want_any s k W ⟨by omega, by omega⟩)
      have HU := Lib.hid (fun W => undoes_any k W ⟨by omega, by omega⟩)
      rw [show undoI k = (0, false) by unfold undoI; rw [if_neg (by omega)]] at HU
      have cd := sg_deed HM.out h0 h6
      rw [hh] at cd
      have ce := sg_deed HM.out (k := k + 3) (by omega) (by omega)
      clear hh
      go_enter Tryd.func37, Tryd.ntmps37
      go_wp2_with fail
      refine (HW.out _).mono ?_
      rintro e w1 ⟨rfl, hb⟩
      have HB1 := Lib.hid (bch HB.out hb HB.out.size)
      have HM1 := Lib.hid (heap_keep HM.out hb)
      have HR1 := Lib.hid (heap_keep HR.out hb)
      clear hb cd ce
      have ce := sg_deed HM1.out (k := k + 3) (by omega) (by omega)
      have cc := cell_at HR1.out 2 rfl
      have ca := cell_at HR1.out 3 rfl
      have cq := cell_at HR1.out 4 rfl
      go_wp2_with fail
      refine (HU.out _).mono ?_
      rintro e w2 ⟨rfl, hw⟩; subst hw
      go_wp2_with fail
      go_ret
      exact ⟨ret_int HF.out.symm, HB1.out⟩
    · have hs1 := beqF hs
      cases ok with
      | false =>
        have HF := Lib.hid (show kindI s k c a q false = 0 by unfold kindI; simp [hh, hs, show k < 3 by omega])
        clear hs
        have HB := Lib.hid (below_alloc2 w (.cells (sgA s) tSaga) (.cells #[.int .i64 o, .int .i64 d, .int .i64 c, .int .i64 a, .int .i64 q] tRow0))
        have HM := Lib.hid (heap_keep (heap_new w (.cells (sgA s) tSaga)) (below_alloc _ (.cells #[.int .i64 o, .int .i64 d, .int .i64 c, .int .i64 a, .int .i64 q] tRow0)))
        have HR := Lib.hid (heap_new (w.alloc (.cells (sgA s) tSaga)) (.cells #[.int .i64 o, .int .i64 d, .int .i64 c, .int .i64 a, .int .i64 q] tRow0))
        rw [show (w.alloc (.cells (sgA s) tSaga)).heap.size = w.heap.size + 1 by simp] at HR
        have HW := Lib.hid (fun W => want_any s k W ⟨by omega, by omega⟩)
        have HU := Lib.hid (fun W => undoes_any k W ⟨by omega, by omega⟩)
        rw [show undoI k = (0, false) by unfold undoI; rw [if_neg (by omega)]] at HU
        have cd := sg_deed HM.out h0 h6
        rw [hh] at cd
        have ce := sg_deed HM.out (k := k + 3) (by omega) (by omega)
        clear hh
        go_enter Tryd.func37, Tryd.ntmps37
        go_wp2_with fail
        refine (HW.out _).mono ?_
        rintro e w1 ⟨rfl, hb⟩
        have HB1 := Lib.hid (bch HB.out hb HB.out.size)
        have HM1 := Lib.hid (heap_keep HM.out hb)
        have HR1 := Lib.hid (heap_keep HR.out hb)
        clear hb cd ce
        have ce := sg_deed HM1.out (k := k + 3) (by omega) (by omega)
        have cc := cell_at HR1.out 2 rfl
        have ca := cell_at HR1.out 3 rfl
        have cq := cell_at HR1.out 4 rfl
        go_wp2_with fail
        refine (HU.out _).mono ?_
        rintro e w2 ⟨rfl, hw⟩; subst hw
        go_wp2_with fail
        go_ret
        exact ⟨ret_int HF.out.symm, HB1.out⟩
      | true =>
        by_cases hc : c = 1
        · subst hc
          have HF := Lib.hid (show kindI s k 1 a q true = 1 by unfold kindI; simp [hh, hs, show k < 3 by omega])
          clear hs
          have HB := Lib.hid (below_alloc2 w (.cells (sgA s) tSaga) (.cells #[.int .i64 o, .int .i64 d, .int .i64 1, .int .i64 a, .int .i64 q] tRow0))
          have HM := Lib.hid (heap_keep (heap_new w (.cells (sgA s) tSaga)) (below_alloc _ (.cells #[.int .i64 o, .int .i64 d, .int .i64 1, .int .i64 a, .int .i64 q] tRow0)))
          have HR := Lib.hid (heap_new (w.alloc (.cells (sgA s) tSaga)) (.cells #[.int .i64 o, .int .i64 d, .int .i64 1, .int .i64 a, .int .i64 q] tRow0))
          rw [show (w.alloc (.cells (sgA s) tSaga)).heap.size = w.heap.size + 1 by simp] at HR
          have HW := Lib.hid (fun W => want_any s k W ⟨by omega, by omega⟩)
          have HU := Lib.hid (fun W => undoes_any k W ⟨by omega, by omega⟩)
          rw [show undoI k = (0, false) by unfold undoI; rw [if_neg (by omega)]] at HU
          have cd := sg_deed HM.out h0 h6
          rw [hh] at cd
          have ce := sg_deed HM.out (k := k + 3) (by omega) (by omega)
          clear hh
          go_enter Tryd.func37, Tryd.ntmps37
          go_wp2_with fail
          refine (HW.out _).mono ?_
          rintro e w1 ⟨rfl, hb⟩
          have HB1 := Lib.hid (bch HB.out hb HB.out.size)
          have HM1 := Lib.hid (heap_keep HM.out hb)
          have HR1 := Lib.hid (heap_keep HR.out hb)
          clear hb cd ce
          have ce := sg_deed HM1.out (k := k + 3) (by omega) (by omega)
          have cc := cell_at HR1.out 2 rfl
          have ca := cell_at HR1.out 3 rfl
          have cq := cell_at HR1.out 4 rfl
          go_wp2_with fail
          refine (HU.out _).mono ?_
          rintro e w2 ⟨rfl, hw⟩; subst hw
          go_wp2_with fail
          go_ret
          exact ⟨ret_int HF.out.symm, HB1.out⟩
        · have hc1 := beqF hc
          have HF := Lib.hid (show kindI s k c a q true = 0 by unfold kindI; simp [hh, hc, hs, show k < 3 by omega])
          clear hs
          clear hc
          have HB := Lib.hid (below_alloc2 w (.cells (sgA s) tSaga) (.cells #[.int .i64 o, .int .i64 d, .int .i64 c, .int .i64 a, .int .i64 q] tRow0))
          have HM := Lib.hid (heap_keep (heap_new w (.cells (sgA s) tSaga)) (below_alloc _ (.cells #[.int .i64 o, .int .i64 d, .int .i64 c, .int .i64 a, .int .i64 q] tRow0)))
          have HR := Lib.hid (heap_new (w.alloc (.cells (sgA s) tSaga)) (.cells #[.int .i64 o, .int .i64 d, .int .i64 c, .int .i64 a, .int .i64 q] tRow0))
          rw [show (w.alloc (.cells (sgA s) tSaga)).heap.size = w.heap.size + 1 by simp] at HR
          have HW := Lib.hid (fun W => want_any s k W ⟨by omega, by omega⟩)
          have HU := Lib.hid (fun W => undoes_any k W ⟨by omega, by omega⟩)
          rw [show undoI k = (0, false) by unfold undoI; rw [if_neg (by omega)]] at HU
          have cd := sg_deed HM.out h0 h6
          rw [hh] at cd
          have ce := sg_deed HM.out (k := k + 3) (by omega) (by omega)
          clear hh
          go_enter Tryd.func37, Tryd.ntmps37
          go_wp2_with fail
          refine (HW.out _).mono ?_
          rintro e w1 ⟨rfl, hb⟩
          have HB1 := Lib.hid (bch HB.out hb HB.out.size)
          have HM1 := Lib.hid (heap_keep HM.out hb)
          have HR1 := Lib.hid (heap_keep HR.out hb)
          clear hb cd ce
          have ce := sg_deed HM1.out (k := k + 3) (by omega) (by omega)
          have cc := cell_at HR1.out 2 rfl
          have ca := cell_at HR1.out 3 rfl
          have cq := cell_at HR1.out 4 rfl
          go_wp2_with fail
          refine (HU.out _).mono ?_
          rintro e w2 ⟨rfl, hw⟩; subst hw
          go_wp2_with fail
          go_ret
          exact ⟨ret_int HF.out.symm, HB1.out⟩
set_option linter.unusedSimpArgs false in
set_option linter.unusedVariables false in
set_option maxRecDepth 100000 in
set_option maxHeartbeats 16000000 in
theorem known_hi (s : Sg) (k o d c a q : Int) (ok : Bool) (w : World) (h3 : 3 ≤ k) (h6 : k < 6) :
    Calls Tryd.prog 37 #[sgV s, .int .i64 k, .agg #[.int .i64 o, .int .i64 d, .int .i64 c, .int .i64 a, .int .i64 q], .bool ok] w fun e w' => e = .returned (.int .i64 (kindI s k c a q ok)) ∧ Below w.heap.size w w' := by
  have h0 : 0 ≤ k := by omega
  by_cases hl : s.deed k < 0
  · have HF := Lib.hid (show kindI s k c a q ok = 0 by unfold kindI; simp [hl])
    have HB := Lib.hid (below_alloc2 w (.cells (sgA s) tSaga) (.cells #[.int .i64 o, .int .i64 d, .int .i64 c, .int .i64 a, .int .i64 q] tRow0))
    have HM := Lib.hid (heap_keep (heap_new w (.cells (sgA s) tSaga)) (below_alloc _ (.cells #[.int .i64 o, .int .i64 d, .int .i64 c, .int .i64 a, .int .i64 q] tRow0)))
    have HR := Lib.hid (heap_new (w.alloc (.cells (sgA s) tSaga)) (.cells #[.int .i64 o, .int .i64 d, .int .i64 c, .int .i64 a, .int .i64 q] tRow0))
    rw [show (w.alloc (.cells (sgA s) tSaga)).heap.size = w.heap.size + 1 by simp] at HR
    have HW := Lib.hid (fun W => want_any s k W ⟨by omega, by omega⟩)
    have HU := Lib.hid (fun W => undoes_any k W ⟨by omega, by omega⟩)
    rw [show undoI k = (k - 3, true) by unfold undoI; rw [if_pos (by omega)]] at HU
    have cd := sg_deed HM.out h0 h6
    have ce := sg_deed HM.out (k := k - 3) (by omega) (by omega)
    go_enter Tryd.func37, Tryd.ntmps37
    go_wp2_with fail
    refine (HW.out _).mono ?_
    rintro e w1 ⟨rfl, hb⟩
    have HB1 := Lib.hid (bch HB.out hb HB.out.size)
    have HM1 := Lib.hid (heap_keep HM.out hb)
    have HR1 := Lib.hid (heap_keep HR.out hb)
    clear hb cd ce
    have ce := sg_deed HM1.out (k := k - 3) (by omega) (by omega)
    have cc := cell_at HR1.out 2 rfl
    have ca := cell_at HR1.out 3 rfl
    have cq := cell_at HR1.out 4 rfl
    go_wp2_with fail
    refine (HU.out _).mono ?_
    rintro e w2 ⟨rfl, hw⟩; subst hw
    go_wp2_with fail
    go_ret
    exact ⟨ret_int HF.out.symm, HB1.out⟩
  by_cases hg : 4 < s.deed k
  · have HF := Lib.hid (show kindI s k c a q ok = 0 by unfold kindI; simp [hg])
    have HB := Lib.hid (below_alloc2 w (.cells (sgA s) tSaga) (.cells #[.int .i64 o, .int .i64 d, .int .i64 c, .int .i64 a, .int .i64 q] tRow0))
    have HM := Lib.hid (heap_keep (heap_new w (.cells (sgA s) tSaga)) (below_alloc _ (.cells #[.int .i64 o, .int .i64 d, .int .i64 c, .int .i64 a, .int .i64 q] tRow0)))
    have HR := Lib.hid (heap_new (w.alloc (.cells (sgA s) tSaga)) (.cells #[.int .i64 o, .int .i64 d, .int .i64 c, .int .i64 a, .int .i64 q] tRow0))
    rw [show (w.alloc (.cells (sgA s) tSaga)).heap.size = w.heap.size + 1 by simp] at HR
    have HW := Lib.hid (fun W => want_any s k W ⟨by omega, by omega⟩)
    have HU := Lib.hid (fun W => undoes_any k W ⟨by omega, by omega⟩)
    rw [show undoI k = (k - 3, true) by unfold undoI; rw [if_pos (by omega)]] at HU
    have cd := sg_deed HM.out h0 h6
    have ce := sg_deed HM.out (k := k - 3) (by omega) (by omega)
    go_enter Tryd.func37, Tryd.ntmps37
    go_wp2_with fail
    refine (HW.out _).mono ?_
    rintro e w1 ⟨rfl, hb⟩
    have HB1 := Lib.hid (bch HB.out hb HB.out.size)
    have HM1 := Lib.hid (heap_keep HM.out hb)
    have HR1 := Lib.hid (heap_keep HR.out hb)
    clear hb cd ce
    have ce := sg_deed HM1.out (k := k - 3) (by omega) (by omega)
    have cc := cell_at HR1.out 2 rfl
    have ca := cell_at HR1.out 3 rfl
    have cq := cell_at HR1.out 4 rfl
    go_wp2_with fail
    refine (HU.out _).mono ?_
    rintro e w2 ⟨rfl, hw⟩; subst hw
    go_wp2_with fail
    go_ret
    exact ⟨ret_int HF.out.symm, HB1.out⟩
  rcases (show s.deed k = 0 ∨ s.deed k = 1 ∨ s.deed k = 2 ∨ s.deed k = 3 ∨ s.deed k = 4 by omega) with hh | hh | hh | hh | hh
  all_goals clear hl hg
  · cases ok with
    | false =>
      have HF := Lib.hid (show kindI s k c a q false = 0 by unfold kindI; simp [hh])
      have HB := Lib.hid (below_alloc2 w (.cells (sgA s) tSaga) (.cells #[.int .i64 o, .int .i64 d, .int .i64 c, .int .i64 a, .int .i64 q] tRow0))
      have HM := Lib.hid (heap_keep (heap_new w (.cells (sgA s) tSaga)) (below_alloc _ (.cells #[.int .i64 o, .int .i64 d, .int .i64 c, .int .i64 a, .int .i64 q] tRow0)))
      have HR := Lib.hid (heap_new (w.alloc (.cells (sgA s) tSaga)) (.cells #[.int .i64 o, .int .i64 d, .int .i64 c, .int .i64 a, .int .i64 q] tRow0))
      rw [show (w.alloc (.cells (sgA s) tSaga)).heap.size = w.heap.size + 1 by simp] at HR
      have HW := Lib.hid (fun W => want_any s k W ⟨by omega, by omega⟩)
      have HU := Lib.hid (fun W => undoes_any k W ⟨by omega, by omega⟩)
      rw [show undoI k = (k - 3, true) by unfold undoI; rw [if_pos (by omega)]] at HU
      have cd := sg_deed HM.out h0 h6
      rw [hh] at cd
      have ce := sg_deed HM.out (k := k - 3) (by omega) (by omega)
      clear hh
      go_enter Tryd.func37, Tryd.ntmps37
      go_wp2_with fail
      refine (HW.out _).mono ?_
      rintro e w1 ⟨rfl, hb⟩
      have HB1 := Lib.hid (bch HB.out hb HB.out.size)
      have HM1 := Lib.hid (heap_keep HM.out hb)
      have HR1 := Lib.hid (heap_keep HR.out hb)
      clear hb cd ce
      have ce := sg_deed HM1.out (k := k - 3) (by omega) (by omega)
      have cc := cell_at HR1.out 2 rfl
      have ca := cell_at HR1.out 3 rfl
      have cq := cell_at HR1.out 4 rfl
      go_wp2_with fail
      refine (HU.out _).mono ?_
      rintro e w2 ⟨rfl, hw⟩; subst hw
      go_wp2_with fail
      go_ret
      exact ⟨ret_int HF.out.symm, HB1.out⟩
    | true =>
      have HF := Lib.hid (show kindI s k c a q true = 5 by unfold kindI; simp [hh])
      have HB := Lib.hid (below_alloc2 w (.cells (sgA s) tSaga) (.cells #[.int .i64 o, .int .i64 d, .int .i64 c, .int .i64 a, .int .i64 q] tRow0))
      have HM := Lib.hid (heap_keep (heap_new w (.cells (sgA s) tSaga)) (below_alloc _ (.cells #[.int .i64 o, .int .i64 d, .int .i64 c, .int .i64 a, .int .i64 q] tRow0)))
      have HR := Lib.hid (heap_new (w.alloc (.cells (sgA s) tSaga)) (.cells #[.int .i64 o, .int .i64 d, .int .i64 c, .int .i64 a, .int .i64 q] tRow0))
      rw [show (w.alloc (.cells (sgA s) tSaga)).heap.size = w.heap.size + 1 by simp] at HR
      have HW := Lib.hid (fun W => want_any s k W ⟨by omega, by omega⟩)
      have HU := Lib.hid (fun W => undoes_any k W ⟨by omega, by omega⟩)
      rw [show undoI k = (k - 3, true) by unfold undoI; rw [if_pos (by omega)]] at HU
      have cd := sg_deed HM.out h0 h6
      rw [hh] at cd
      have ce := sg_deed HM.out (k := k - 3) (by omega) (by omega)
      clear hh
      go_enter Tryd.func37, Tryd.ntmps37
      go_wp2_with fail
      refine (HW.out _).mono ?_
      rintro e w1 ⟨rfl, hb⟩
      have HB1 := Lib.hid (bch HB.out hb HB.out.size)
      have HM1 := Lib.hid (heap_keep HM.out hb)
      have HR1 := Lib.hid (heap_keep HR.out hb)
      clear hb cd ce
      have ce := sg_deed HM1.out (k := k - 3) (by omega) (by omega)
      have cc := cell_at HR1.out 2 rfl
      have ca := cell_at HR1.out 3 rfl
      have cq := cell_at HR1.out 4 rfl
      go_wp2_with fail
      refine (HU.out _).mono ?_
      rintro e w2 ⟨rfl, hw⟩; subst hw
      go_wp2_with fail
      go_ret
      exact ⟨ret_int HF.out.symm, HB1.out⟩
  · cases ok with
    | false =>
      have HF := Lib.hid (show kindI s k c a q false = 0 by unfold kindI; simp [hh])
      have HB := Lib.hid (below_alloc2 w (.cells (sgA s) tSaga) (.cells #[.int .i64 o, .int .i64 d, .int .i64 c, .int .i64 a, .int .i64 q] tRow0))
      have HM := Lib.hid (heap_keep (heap_new w (.cells (sgA s) tSaga)) (below_alloc _ (.cells #[.int .i64 o, .int .i64 d, .int .i64 c, .int .i64 a, .int .i64 q] tRow0)))
      have HR := Lib.hid (heap_new (w.alloc (.cells (sgA s) tSaga)) (.cells #[.int .i64 o, .int .i64 d, .int .i64 c, .int .i64 a, .int .i64 q] tRow0))
      rw [show (w.alloc (.cells (sgA s) tSaga)).heap.size = w.heap.size + 1 by simp] at HR
      have HW := Lib.hid (fun W => want_any s k W ⟨by omega, by omega⟩)
      have HU := Lib.hid (fun W => undoes_any k W ⟨by omega, by omega⟩)
      rw [show undoI k = (k - 3, true) by unfold undoI; rw [if_pos (by omega)]] at HU
      have cd := sg_deed HM.out h0 h6
      rw [hh] at cd
      have ce := sg_deed HM.out (k := k - 3) (by omega) (by omega)
      clear hh
      go_enter Tryd.func37, Tryd.ntmps37
      go_wp2_with fail
      refine (HW.out _).mono ?_
      rintro e w1 ⟨rfl, hb⟩
      have HB1 := Lib.hid (bch HB.out hb HB.out.size)
      have HM1 := Lib.hid (heap_keep HM.out hb)
      have HR1 := Lib.hid (heap_keep HR.out hb)
      clear hb cd ce
      have ce := sg_deed HM1.out (k := k - 3) (by omega) (by omega)
      have cc := cell_at HR1.out 2 rfl
      have ca := cell_at HR1.out 3 rfl
      have cq := cell_at HR1.out 4 rfl
      go_wp2_with fail
      refine (HU.out _).mono ?_
      rintro e w2 ⟨rfl, hw⟩; subst hw
      go_wp2_with fail
      go_ret
      exact ⟨ret_int HF.out.symm, HB1.out⟩
    | true =>
      by_cases hc : c = 1
      · subst hc
        have HF := Lib.hid (show kindI s k 1 a q true = 1 by unfold kindI; simp [hh])
        have HB := Lib.hid (below_alloc2 w (.cells (sgA s) tSaga) (.cells #[.int .i64 o, .int .i64 d, .int .i64 1, .int .i64 a, .int .i64 q] tRow0))
        have HM := Lib.hid (heap_keep (heap_new w (.cells (sgA s) tSaga)) (below_alloc _ (.cells #[.int .i64 o, .int .i64 d, .int .i64 1, .int .i64 a, .int .i64 q] tRow0)))
        have HR := Lib.hid (heap_new (w.alloc (.cells (sgA s) tSaga)) (.cells #[.int .i64 o, .int .i64 d, .int .i64 1, .int .i64 a, .int .i64 q] tRow0))
        rw [show (w.alloc (.cells (sgA s) tSaga)).heap.size = w.heap.size + 1 by simp] at HR
        have HW := Lib.hid (fun W => want_any s k W ⟨by omega, by omega⟩)
        have HU := Lib.hid (fun W => undoes_any k W ⟨by omega, by omega⟩)
        rw [show undoI k = (k - 3, true) by unfold undoI; rw [if_pos (by omega)]] at HU
        have cd := sg_deed HM.out h0 h6
        rw [hh] at cd
        have ce := sg_deed HM.out (k := k - 3) (by omega) (by omega)
        clear hh
        go_enter Tryd.func37, Tryd.ntmps37
        go_wp2_with fail
        refine (HW.out _).mono ?_
        rintro e w1 ⟨rfl, hb⟩
        have HB1 := Lib.hid (bch HB.out hb HB.out.size)
        have HM1 := Lib.hid (heap_keep HM.out hb)
        have HR1 := Lib.hid (heap_keep HR.out hb)
        clear hb cd ce
        have ce := sg_deed HM1.out (k := k - 3) (by omega) (by omega)
        have cc := cell_at HR1.out 2 rfl
        have ca := cell_at HR1.out 3 rfl
        have cq := cell_at HR1.out 4 rfl
        go_wp2_with fail
        refine (HU.out _).mono ?_
        rintro e w2 ⟨rfl, hw⟩; subst hw
        go_wp2_with fail
        go_ret
        exact ⟨ret_int HF.out.symm, HB1.out⟩
      · have hc1 := beqF hc
        have HF := Lib.hid (show kindI s k c a q true = 0 by unfold kindI; simp [hh, hc])
        clear hc
        have HB := Lib.hid (below_alloc2 w (.cells (sgA s) tSaga) (.cells #[.int .i64 o, .int .i64 d, .int .i64 c, .int .i64 a, .int .i64 q] tRow0))
        have HM := Lib.hid (heap_keep (heap_new w (.cells (sgA s) tSaga)) (below_alloc _ (.cells #[.int .i64 o, .int .i64 d, .int .i64 c, .int .i64 a, .int .i64 q] tRow0)))
        have HR := Lib.hid (heap_new (w.alloc (.cells (sgA s) tSaga)) (.cells #[.int .i64 o, .int .i64 d, .int .i64 c, .int .i64 a, .int .i64 q] tRow0))
        rw [show (w.alloc (.cells (sgA s) tSaga)).heap.size = w.heap.size + 1 by simp] at HR
        have HW := Lib.hid (fun W => want_any s k W ⟨by omega, by omega⟩)
        have HU := Lib.hid (fun W => undoes_any k W ⟨by omega, by omega⟩)
        rw [show undoI k = (k - 3, true) by unfold undoI; rw [if_pos (by omega)]] at HU
        have cd := sg_deed HM.out h0 h6
        rw [hh] at cd
        have ce := sg_deed HM.out (k := k - 3) (by omega) (by omega)
        clear hh
        go_enter Tryd.func37, Tryd.ntmps37
        go_wp2_with fail
        refine (HW.out _).mono ?_
        rintro e w1 ⟨rfl, hb⟩
        have HB1 := Lib.hid (bch HB.out hb HB.out.size)
        have HM1 := Lib.hid (heap_keep HM.out hb)
        have HR1 := Lib.hid (heap_keep HR.out hb)
        clear hb cd ce
        have ce := sg_deed HM1.out (k := k - 3) (by omega) (by omega)
        have cc := cell_at HR1.out 2 rfl
        have ca := cell_at HR1.out 3 rfl
        have cq := cell_at HR1.out 4 rfl
        go_wp2_with fail
        refine (HU.out _).mono ?_
        rintro e w2 ⟨rfl, hw⟩; subst hw
        go_wp2_with fail
        go_ret
        exact ⟨ret_int HF.out.symm, HB1.out⟩
  · cases ok with
    | false =>
      have HF := Lib.hid (show kindI s k c a q false = 2 by unfold kindI; simp [hh])
      have HB := Lib.hid (below_alloc2 w (.cells (sgA s) tSaga) (.cells #[.int .i64 o, .int .i64 d, .int .i64 c, .int .i64 a, .int .i64 q] tRow0))
      have HM := Lib.hid (heap_keep (heap_new w (.cells (sgA s) tSaga)) (below_alloc _ (.cells #[.int .i64 o, .int .i64 d, .int .i64 c, .int .i64 a, .int .i64 q] tRow0)))
      have HR := Lib.hid (heap_new (w.alloc (.cells (sgA s) tSaga)) (.cells #[.int .i64 o, .int .i64 d, .int .i64 c, .int .i64 a, .int .i64 q] tRow0))
      rw [show (w.alloc (.cells (sgA s) tSaga)).heap.size = w.heap.size + 1 by simp] at HR
      have HW := Lib.hid (fun W => want_any s k W ⟨by omega, by omega⟩)
      have HU := Lib.hid (fun W => undoes_any k W ⟨by omega, by omega⟩)
      rw [show undoI k = (k - 3, true) by unfold undoI; rw [if_pos (by omega)]] at HU
      have cd := sg_deed HM.out h0 h6
      rw [hh] at cd
      have ce := sg_deed HM.out (k := k - 3) (by omega) (by omega)
      clear hh
      go_enter Tryd.func37, Tryd.ntmps37
      go_wp2_with fail
      refine (HW.out _).mono ?_
      rintro e w1 ⟨rfl, hb⟩
      have HB1 := Lib.hid (bch HB.out hb HB.out.size)
      have HM1 := Lib.hid (heap_keep HM.out hb)
      have HR1 := Lib.hid (heap_keep HR.out hb)
      clear hb cd ce
      have ce := sg_deed HM1.out (k := k - 3) (by omega) (by omega)
      have cc := cell_at HR1.out 2 rfl
      have ca := cell_at HR1.out 3 rfl
      have cq := cell_at HR1.out 4 rfl
      go_wp2_with fail
      refine (HU.out _).mono ?_
      rintro e w2 ⟨rfl, hw⟩; subst hw
      go_wp2_with fail
      go_ret
      exact ⟨ret_int HF.out.symm, HB1.out⟩
    | true =>
      by_cases hc : c = 1
      · subst hc
        by_cases hs : s.deed (k - 3) = 2
        · have hs1 := beqT hs
          by_cases ha : a = (wantI s k).1
          · have ha1 := bneF ha
            have ha2 := beqT ha
            by_cases hq : q = (wantI s k).2
            · have hq1 := bneF hq
              have hq2 := beqT hq
              have HF := Lib.hid (show kindI s k 1 a q true = 0 by unfold kindI; simp [hh, ← ha, ← hq])
              clear ha hq hs
              have HB := Lib.hid (below_alloc2 w (.cells (sgA s) tSaga) (.cells #[.int .i64 o, .int .i64 d, .int .i64 1, .int .i64 a, .int .i64 q] tRow0))
              have HM := Lib.hid (heap_keep (heap_new w (.cells (sgA s) tSaga)) (below_alloc _ (.cells #[.int .i64 o, .int .i64 d, .int .i64 1, .int .i64 a, .int .i64 q] tRow0)))
              have HR := Lib.hid (heap_new (w.alloc (.cells (sgA s) tSaga)) (.cells #[.int .i64 o, .int .i64 d, .int .i64 1, .int .i64 a, .int .i64 q] tRow0))
              rw [show (w.alloc (.cells (sgA s) tSaga)).heap.size = w.heap.size + 1 by simp] at HR
              have HW := Lib.hid (fun W => want_any s k W ⟨by omega, by omega⟩)
              have HU := Lib.hid (fun W => undoes_any k W ⟨by omega, by omega⟩)
              rw [show undoI k = (k - 3, true) by unfold undoI; rw [if_pos (by omega)]] at HU
              have cd := sg_deed HM.out h0 h6
              rw [hh] at cd
              have ce := sg_deed HM.out (k := k - 3) (by omega) (by omega)
              clear hh
              go_enter Tryd.func37, Tryd.ntmps37
              go_wp2_with fail
              refine (HW.out _).mono ?_
              rintro e w1 ⟨rfl, hb⟩
              have HB1 := Lib.hid (bch HB.out hb HB.out.size)
              have HM1 := Lib.hid (heap_keep HM.out hb)
              have HR1 := Lib.hid (heap_keep HR.out hb)
              clear hb cd ce
              have ce := sg_deed HM1.out (k := k - 3) (by omega) (by omega)
              have cc := cell_at HR1.out 2 rfl
              have ca := cell_at HR1.out 3 rfl
              have cq := cell_at HR1.out 4 rfl
              go_wp2_with fail
              refine (HU.out _).mono ?_
              rintro e w2 ⟨rfl, hw⟩; subst hw
              go_wp2_with fail
              go_ret
              exact ⟨ret_int HF.out.symm, HB1.out⟩
            · have hq1 := bneT hq
              have hq2 := beqF hq
              have HF := Lib.hid (show kindI s k 1 a q true = 4 by unfold kindI; simp [hh, ← ha, hq, hs])
              clear ha hq hs
              have HB := Lib.hid (below_alloc2 w (.cells (sgA s) tSaga) (.cells #[.int .i64 o, .int .i64 d, .int .i64 1, .int .i64 a, .int .i64 q] tRow0))
              have HM := Lib.hid (heap_keep (heap_new w (.cells (sgA s) tSaga)) (below_alloc _ (.cells #[.int .i64 o, .int .i64 d, .int .i64 1, .int .i64 a, .int .i64 q] tRow0)))
              have HR := Lib.hid (heap_new (w.alloc (.cells (sgA s) tSaga)) (.cells #[.int .i64 o, .int .i64 d, .int .i64 1, .int .i64 a, .int .i64 q] tRow0))
              rw [show (w.alloc (.cells (sgA s) tSaga)).heap.size = w.heap.size + 1 by simp] at HR
              have HW := Lib.hid (fun W => want_any s k W ⟨by omega, by omega⟩)
              have HU := Lib.hid (fun W => undoes_any k W ⟨by omega, by omega⟩)
              rw [show undoI k = (k - 3, true) by unfold undoI; rw [if_pos (by omega)]] at HU
              have cd := sg_deed HM.out h0 h6
              rw [hh] at cd
              have ce := sg_deed HM.out (k := k - 3) (by omega) (by omega)
              clear hh
              go_enter Tryd.func37, Tryd.ntmps37
              go_wp2_with fail
              refine (HW.out _).mono ?_
              rintro e w1 ⟨rfl, hb⟩
              have HB1 := Lib.hid (bch HB.out hb HB.out.size)
              have HM1 := Lib.hid (heap_keep HM.out hb)
              have HR1 := Lib.hid (heap_keep HR.out hb)
              clear hb cd ce
              have ce := sg_deed HM1.out (k := k - 3) (by omega) (by omega)
              have cc := cell_at HR1.out 2 rfl
              have ca := cell_at HR1.out 3 rfl
              have cq := cell_at HR1.out 4 rfl
              go_wp2_with fail
              refine (HU.out _).mono ?_
              rintro e w2 ⟨rfl, hw⟩; subst hw
              go_wp2_with fail
              go_ret
              exact ⟨ret_int HF.out.symm, HB1.out⟩
          · have ha1 := bneT ha
            have ha2 := beqF ha
            have HF := Lib.hid (show kindI s k 1 a q true = 4 by unfold kindI; simp [hh, ha, hs])
            clear ha hs
            have HB := Lib.hid (below_alloc2 w (.cells (sgA s) tSaga) (.cells #[.int .i64 o, .int .i64 d, .int .i64 1, .int .i64 a, .int .i64 q] tRow0))
            have HM := Lib.hid (heap_keep (heap_new w (.cells (sgA s) tSaga)) (below_alloc _ (.cells #[.int .i64 o, .int .i64 d, .int .i64 1, .int .i64 a, .int .i64 q] tRow0)))
            have HR := Lib.hid (heap_new (w.alloc (.cells (sgA s) tSaga)) (.cells #[.int .i64 o, .int .i64 d, .int .i64 1, .int .i64 a, .int .i64 q] tRow0))
            rw [show (w.alloc (.cells (sgA s) tSaga)).heap.size = w.heap.size + 1 by simp] at HR
            have HW := Lib.hid (fun W => want_any s k W ⟨by omega, by omega⟩)
            have HU := Lib.hid (fun W => undoes_any k W ⟨by omega, by omega⟩)
            rw [show undoI k = (k - 3, true) by unfold undoI; rw [if_pos (by omega)]] at HU
            have cd := sg_deed HM.out h0 h6
            rw [hh] at cd
            have ce := sg_deed HM.out (k := k - 3) (by omega) (by omega)
            clear hh
            go_enter Tryd.func37, Tryd.ntmps37
            go_wp2_with fail
            refine (HW.out _).mono ?_
            rintro e w1 ⟨rfl, hb⟩
            have HB1 := Lib.hid (bch HB.out hb HB.out.size)
            have HM1 := Lib.hid (heap_keep HM.out hb)
            have HR1 := Lib.hid (heap_keep HR.out hb)
            clear hb cd ce
            have ce := sg_deed HM1.out (k := k - 3) (by omega) (by omega)
            have cc := cell_at HR1.out 2 rfl
            have ca := cell_at HR1.out 3 rfl
            have cq := cell_at HR1.out 4 rfl
            go_wp2_with fail
            refine (HU.out _).mono ?_
            rintro e w2 ⟨rfl, hw⟩; subst hw
            go_wp2_with fail
            go_ret
            exact ⟨ret_int HF.out.symm, HB1.out⟩
        · have hs1 := beqF hs
          have HF := Lib.hid (show kindI s k 1 a q true = 0 by unfold kindI; simp [hh, hs, show ¬ k < 3 by omega])
          clear hs
          have HB := Lib.hid (below_alloc2 w (.cells (sgA s) tSaga) (.cells #[.int .i64 o, .int .i64 d, .int .i64 1, .int .i64 a, .int .i64 q] tRow0))
          have HM := Lib.hid (heap_keep (heap_new w (.cells (sgA s) tSaga)) (below_alloc _ (.cells #[.int .i64 o, .int .i64 d, .int .i64 1, .int .i64 a, .int .i64 q] tRow0)))
          have HR := Lib.hid (heap_new (w.alloc (.cells (sgA s) tSaga)) (.cells #[.int .i64 o, .int .i64 d, .int .i64 1, .int .i64 a, .int .i64 q] tRow0))
          rw [show (w.alloc (.cells (sgA s) tSaga)).heap.size = w.heap.size + 1 by simp] at HR
          have HW := Lib.hid (fun W => want_any s k W ⟨by omega, by omega⟩)
          have HU := Lib.hid (fun W => undoes_any k W ⟨by omega, by omega⟩)
          rw [show undoI k = (k - 3, true) by unfold undoI; rw [if_pos (by omega)]] at HU
          have cd := sg_deed HM.out h0 h6
          rw [hh] at cd
          have ce := sg_deed HM.out (k := k - 3) (by omega) (by omega)
          clear hh
          go_enter Tryd.func37, Tryd.ntmps37
          go_wp2_with fail
          refine (HW.out _).mono ?_
          rintro e w1 ⟨rfl, hb⟩
          have HB1 := Lib.hid (bch HB.out hb HB.out.size)
          have HM1 := Lib.hid (heap_keep HM.out hb)
          have HR1 := Lib.hid (heap_keep HR.out hb)
          clear hb cd ce
          have ce := sg_deed HM1.out (k := k - 3) (by omega) (by omega)
          have cc := cell_at HR1.out 2 rfl
          have ca := cell_at HR1.out 3 rfl
          have cq := cell_at HR1.out 4 rfl
          go_wp2_with fail
          refine (HU.out _).mono ?_
          rintro e w2 ⟨rfl, hw⟩; subst hw
          go_wp2_with fail
          go_ret
          exact ⟨ret_int HF.out.symm, HB1.out⟩
      · have hc1 := beqF hc
        have HF := Lib.hid (show kindI s k c a q true = 3 by unfold kindI; simp [hh, hc])
        clear hc
        have HB := Lib.hid (below_alloc2 w (.cells (sgA s) tSaga) (.cells #[.int .i64 o, .int .i64 d, .int .i64 c, .int .i64 a, .int .i64 q] tRow0))
        have HM := Lib.hid (heap_keep (heap_new w (.cells (sgA s) tSaga)) (below_alloc _ (.cells #[.int .i64 o, .int .i64 d, .int .i64 c, .int .i64 a, .int .i64 q] tRow0)))
        have HR := Lib.hid (heap_new (w.alloc (.cells (sgA s) tSaga)) (.cells #[.int .i64 o, .int .i64 d, .int .i64 c, .int .i64 a, .int .i64 q] tRow0))
        rw [show (w.alloc (.cells (sgA s) tSaga)).heap.size = w.heap.size + 1 by simp] at HR
        have HW := Lib.hid (fun W => want_any s k W ⟨by omega, by omega⟩)
        have HU := Lib.hid (fun W => undoes_any k W ⟨by omega, by omega⟩)
        rw [show undoI k = (k - 3, true) by unfold undoI; rw [if_pos (by omega)]] at HU
        have cd := sg_deed HM.out h0 h6
        rw [hh] at cd
        have ce := sg_deed HM.out (k := k - 3) (by omega) (by omega)
        clear hh
        go_enter Tryd.func37, Tryd.ntmps37
        go_wp2_with fail
        refine (HW.out _).mono ?_
        rintro e w1 ⟨rfl, hb⟩
        have HB1 := Lib.hid (bch HB.out hb HB.out.size)
        have HM1 := Lib.hid (heap_keep HM.out hb)
        have HR1 := Lib.hid (heap_keep HR.out hb)
        clear hb cd ce
        have ce := sg_deed HM1.out (k := k - 3) (by omega) (by omega)
        have cc := cell_at HR1.out 2 rfl
        have ca := cell_at HR1.out 3 rfl
        have cq := cell_at HR1.out 4 rfl
        go_wp2_with fail
        refine (HU.out _).mono ?_
        rintro e w2 ⟨rfl, hw⟩; subst hw
        go_wp2_with fail
        go_ret
        exact ⟨ret_int HF.out.symm, HB1.out⟩
  · cases ok with
    | false =>
      have HF := Lib.hid (show kindI s k c a q false = 2 by unfold kindI; simp [hh])
      have HB := Lib.hid (below_alloc2 w (.cells (sgA s) tSaga) (.cells #[.int .i64 o, .int .i64 d, .int .i64 c, .int .i64 a, .int .i64 q] tRow0))
      have HM := Lib.hid (heap_keep (heap_new w (.cells (sgA s) tSaga)) (below_alloc _ (.cells #[.int .i64 o, .int .i64 d, .int .i64 c, .int .i64 a, .int .i64 q] tRow0)))
      have HR := Lib.hid (heap_new (w.alloc (.cells (sgA s) tSaga)) (.cells #[.int .i64 o, .int .i64 d, .int .i64 c, .int .i64 a, .int .i64 q] tRow0))
      rw [show (w.alloc (.cells (sgA s) tSaga)).heap.size = w.heap.size + 1 by simp] at HR
      have HW := Lib.hid (fun W => want_any s k W ⟨by omega, by omega⟩)
      have HU := Lib.hid (fun W => undoes_any k W ⟨by omega, by omega⟩)
      rw [show undoI k = (k - 3, true) by unfold undoI; rw [if_pos (by omega)]] at HU
      have cd := sg_deed HM.out h0 h6
      rw [hh] at cd
      have ce := sg_deed HM.out (k := k - 3) (by omega) (by omega)
      clear hh
      go_enter Tryd.func37, Tryd.ntmps37
      go_wp2_with fail
      refine (HW.out _).mono ?_
      rintro e w1 ⟨rfl, hb⟩
      have HB1 := Lib.hid (bch HB.out hb HB.out.size)
      have HM1 := Lib.hid (heap_keep HM.out hb)
      have HR1 := Lib.hid (heap_keep HR.out hb)
      clear hb cd ce
      have ce := sg_deed HM1.out (k := k - 3) (by omega) (by omega)
      have cc := cell_at HR1.out 2 rfl
      have ca := cell_at HR1.out 3 rfl
      have cq := cell_at HR1.out 4 rfl
      go_wp2_with fail
      refine (HU.out _).mono ?_
      rintro e w2 ⟨rfl, hw⟩; subst hw
      go_wp2_with fail
      go_ret
      exact ⟨ret_int HF.out.symm, HB1.out⟩
    | true =>
      by_cases hc : c = 1
      · subst hc
        have HF := Lib.hid (show kindI s k 1 a q true = 3 by unfold kindI; simp [hh])
        have HB := Lib.hid (below_alloc2 w (.cells (sgA s) tSaga) (.cells #[.int .i64 o, .int .i64 d, .int .i64 1, .int .i64 a, .int .i64 q] tRow0))
        have HM := Lib.hid (heap_keep (heap_new w (.cells (sgA s) tSaga)) (below_alloc _ (.cells #[.int .i64 o, .int .i64 d, .int .i64 1, .int .i64 a, .int .i64 q] tRow0)))
        have HR := Lib.hid (heap_new (w.alloc (.cells (sgA s) tSaga)) (.cells #[.int .i64 o, .int .i64 d, .int .i64 1, .int .i64 a, .int .i64 q] tRow0))
        rw [show (w.alloc (.cells (sgA s) tSaga)).heap.size = w.heap.size + 1 by simp] at HR
        have HW := Lib.hid (fun W => want_any s k W ⟨by omega, by omega⟩)
        have HU := Lib.hid (fun W => undoes_any k W ⟨by omega, by omega⟩)
        rw [show undoI k = (k - 3, true) by unfold undoI; rw [if_pos (by omega)]] at HU
        have cd := sg_deed HM.out h0 h6
        rw [hh] at cd
        have ce := sg_deed HM.out (k := k - 3) (by omega) (by omega)
        clear hh
        go_enter Tryd.func37, Tryd.ntmps37
        go_wp2_with fail
        refine (HW.out _).mono ?_
        rintro e w1 ⟨rfl, hb⟩
        have HB1 := Lib.hid (bch HB.out hb HB.out.size)
        have HM1 := Lib.hid (heap_keep HM.out hb)
        have HR1 := Lib.hid (heap_keep HR.out hb)
        clear hb cd ce
        have ce := sg_deed HM1.out (k := k - 3) (by omega) (by omega)
        have cc := cell_at HR1.out 2 rfl
        have ca := cell_at HR1.out 3 rfl
        have cq := cell_at HR1.out 4 rfl
        go_wp2_with fail
        refine (HU.out _).mono ?_
        rintro e w2 ⟨rfl, hw⟩; subst hw
        go_wp2_with fail
        go_ret
        exact ⟨ret_int HF.out.symm, HB1.out⟩
      · have hc1 := beqF hc
        have HF := Lib.hid (show kindI s k c a q true = 0 by unfold kindI; simp [hh, hc])
        clear hc
        have HB := Lib.hid (below_alloc2 w (.cells (sgA s) tSaga) (.cells #[.int .i64 o, .int .i64 d, .int .i64 c, .int .i64 a, .int .i64 q] tRow0))
        have HM := Lib.hid (heap_keep (heap_new w (.cells (sgA s) tSaga)) (below_alloc _ (.cells #[.int .i64 o, .int .i64 d, .int .i64 c, .int .i64 a, .int .i64 q] tRow0)))
        have HR := Lib.hid (heap_new (w.alloc (.cells (sgA s) tSaga)) (.cells #[.int .i64 o, .int .i64 d, .int .i64 c, .int .i64 a, .int .i64 q] tRow0))
        rw [show (w.alloc (.cells (sgA s) tSaga)).heap.size = w.heap.size + 1 by simp] at HR
        have HW := Lib.hid (fun W => want_any s k W ⟨by omega, by omega⟩)
        have HU := Lib.hid (fun W => undoes_any k W ⟨by omega, by omega⟩)
        rw [show undoI k = (k - 3, true) by unfold undoI; rw [if_pos (by omega)]] at HU
        have cd := sg_deed HM.out h0 h6
        rw [hh] at cd
        have ce := sg_deed HM.out (k := k - 3) (by omega) (by omega)
        clear hh
        go_enter Tryd.func37, Tryd.ntmps37
        go_wp2_with fail
        refine (HW.out _).mono ?_
        rintro e w1 ⟨rfl, hb⟩
        have HB1 := Lib.hid (bch HB.out hb HB.out.size)
        have HM1 := Lib.hid (heap_keep HM.out hb)
        have HR1 := Lib.hid (heap_keep HR.out hb)
        clear hb cd ce
        have ce := sg_deed HM1.out (k := k - 3) (by omega) (by omega)
        have cc := cell_at HR1.out 2 rfl
        have ca := cell_at HR1.out 3 rfl
        have cq := cell_at HR1.out 4 rfl
        go_wp2_with fail
        refine (HU.out _).mono ?_
        rintro e w2 ⟨rfl, hw⟩; subst hw
        go_wp2_with fail
        go_ret
        exact ⟨ret_int HF.out.symm, HB1.out⟩
  · cases ok with
    | false =>
      have HF := Lib.hid (show kindI s k c a q false = 0 by unfold kindI; simp [hh, show ¬ k < 3 by omega])
      have HB := Lib.hid (below_alloc2 w (.cells (sgA s) tSaga) (.cells #[.int .i64 o, .int .i64 d, .int .i64 c, .int .i64 a, .int .i64 q] tRow0))
      have HM := Lib.hid (heap_keep (heap_new w (.cells (sgA s) tSaga)) (below_alloc _ (.cells #[.int .i64 o, .int .i64 d, .int .i64 c, .int .i64 a, .int .i64 q] tRow0)))
      have HR := Lib.hid (heap_new (w.alloc (.cells (sgA s) tSaga)) (.cells #[.int .i64 o, .int .i64 d, .int .i64 c, .int .i64 a, .int .i64 q] tRow0))
      rw [show (w.alloc (.cells (sgA s) tSaga)).heap.size = w.heap.size + 1 by simp] at HR
      have HW := Lib.hid (fun W => want_any s k W ⟨by omega, by omega⟩)
      have HU := Lib.hid (fun W => undoes_any k W ⟨by omega, by omega⟩)
      rw [show undoI k = (k - 3, true) by unfold undoI; rw [if_pos (by omega)]] at HU
      have cd := sg_deed HM.out h0 h6
      rw [hh] at cd
      have ce := sg_deed HM.out (k := k - 3) (by omega) (by omega)
      clear hh
      go_enter Tryd.func37, Tryd.ntmps37
      go_wp2_with fail
      refine (HW.out _).mono ?_
      rintro e w1 ⟨rfl, hb⟩
      have HB1 := Lib.hid (bch HB.out hb HB.out.size)
      have HM1 := Lib.hid (heap_keep HM.out hb)
      have HR1 := Lib.hid (heap_keep HR.out hb)
      clear hb cd ce
      have ce := sg_deed HM1.out (k := k - 3) (by omega) (by omega)
      have cc := cell_at HR1.out 2 rfl
      have ca := cell_at HR1.out 3 rfl
      have cq := cell_at HR1.out 4 rfl
      go_wp2_with fail
      refine (HU.out _).mono ?_
      rintro e w2 ⟨rfl, hw⟩; subst hw
      go_wp2_with fail
      go_ret
      exact ⟨ret_int HF.out.symm, HB1.out⟩
    | true =>
      by_cases hc : c = 1
      · subst hc
        have HF := Lib.hid (show kindI s k 1 a q true = 1 by unfold kindI; simp [hh, show ¬ k < 3 by omega])
        have HB := Lib.hid (below_alloc2 w (.cells (sgA s) tSaga) (.cells #[.int .i64 o, .int .i64 d, .int .i64 1, .int .i64 a, .int .i64 q] tRow0))
        have HM := Lib.hid (heap_keep (heap_new w (.cells (sgA s) tSaga)) (below_alloc _ (.cells #[.int .i64 o, .int .i64 d, .int .i64 1, .int .i64 a, .int .i64 q] tRow0)))
        have HR := Lib.hid (heap_new (w.alloc (.cells (sgA s) tSaga)) (.cells #[.int .i64 o, .int .i64 d, .int .i64 1, .int .i64 a, .int .i64 q] tRow0))
        rw [show (w.alloc (.cells (sgA s) tSaga)).heap.size = w.heap.size + 1 by simp] at HR
        have HW := Lib.hid (fun W => want_any s k W ⟨by omega, by omega⟩)
        have HU := Lib.hid (fun W => undoes_any k W ⟨by omega, by omega⟩)
        rw [show undoI k = (k - 3, true) by unfold undoI; rw [if_pos (by omega)]] at HU
        have cd := sg_deed HM.out h0 h6
        rw [hh] at cd
        have ce := sg_deed HM.out (k := k - 3) (by omega) (by omega)
        clear hh
        go_enter Tryd.func37, Tryd.ntmps37
        go_wp2_with fail
        refine (HW.out _).mono ?_
        rintro e w1 ⟨rfl, hb⟩
        have HB1 := Lib.hid (bch HB.out hb HB.out.size)
        have HM1 := Lib.hid (heap_keep HM.out hb)
        have HR1 := Lib.hid (heap_keep HR.out hb)
        clear hb cd ce
        have ce := sg_deed HM1.out (k := k - 3) (by omega) (by omega)
        have cc := cell_at HR1.out 2 rfl
        have ca := cell_at HR1.out 3 rfl
        have cq := cell_at HR1.out 4 rfl
        go_wp2_with fail
        refine (HU.out _).mono ?_
        rintro e w2 ⟨rfl, hw⟩; subst hw
        go_wp2_with fail
        go_ret
        exact ⟨ret_int HF.out.symm, HB1.out⟩
      · have hc1 := beqF hc
        have HF := Lib.hid (show kindI s k c a q true = 0 by unfold kindI; simp [hh, hc, show ¬ k < 3 by omega])
        clear hc
        have HB := Lib.hid (below_alloc2 w (.cells (sgA s) tSaga) (.cells #[.int .i64 o, .int .i64 d, .int .i64 c, .int .i64 a, .int .i64 q] tRow0))
        have HM := Lib.hid (heap_keep (heap_new w (.cells (sgA s) tSaga)) (below_alloc _ (.cells #[.int .i64 o, .int .i64 d, .int .i64 c, .int .i64 a, .int .i64 q] tRow0)))
        have HR := Lib.hid (heap_new (w.alloc (.cells (sgA s) tSaga)) (.cells #[.int .i64 o, .int .i64 d, .int .i64 c, .int .i64 a, .int .i64 q] tRow0))
        rw [show (w.alloc (.cells (sgA s) tSaga)).heap.size = w.heap.size + 1 by simp] at HR
        have HW := Lib.hid (fun W => want_any s k W ⟨by omega, by omega⟩)
        have HU := Lib.hid (fun W => undoes_any k W ⟨by omega, by omega⟩)
        rw [show undoI k = (k - 3, true) by unfold undoI; rw [if_pos (by omega)]] at HU
        have cd := sg_deed HM.out h0 h6
        rw [hh] at cd
        have ce := sg_deed HM.out (k := k - 3) (by omega) (by omega)
        clear hh
        go_enter Tryd.func37, Tryd.ntmps37
        go_wp2_with fail
        refine (HW.out _).mono ?_
        rintro e w1 ⟨rfl, hb⟩
        have HB1 := Lib.hid (bch HB.out hb HB.out.size)
        have HM1 := Lib.hid (heap_keep HM.out hb)
        have HR1 := Lib.hid (heap_keep HR.out hb)
        clear hb cd ce
        have ce := sg_deed HM1.out (k := k - 3) (by omega) (by omega)
        have cc := cell_at HR1.out 2 rfl
        have ca := cell_at HR1.out 3 rfl
        have cq := cell_at HR1.out 4 rfl
        go_wp2_with fail
        refine (HU.out _).mono ?_
        rintro e w2 ⟨rfl, hw⟩; subst hw
        go_wp2_with fail
        go_ret
        exact ⟨ret_int HF.out.symm, HB1.out⟩
theorem known_any (s : Sg) (k o d c a q : Int) (ok : Bool) (w : World) (h0 : 0 ≤ k) (h6 : k < 6) :
    Calls Tryd.prog 37 #[sgV s, .int .i64 k, .agg #[.int .i64 o, .int .i64 d, .int .i64 c, .int .i64 a, .int .i64 q], .bool ok] w fun e w' => e = .returned (.int .i64 (kindI s k c a q ok)) ∧ Below w.heap.size w w' := by
  by_cases h : k < 3
  · exact known_lo s k o d c a q ok w h0 h
  · exact known_hi s k o d c a q ok w (by omega) h6
set_option linter.unusedSimpArgs false in
set_option linter.unusedVariables false in
set_option maxRecDepth 100000 in
set_option maxHeartbeats 16000000 in
theorem refKind_lo (s : Sg) (k o d c a q : Int) (ok : Bool) (w : World) (h0 : 0 ≤ k) (h3 : k < 3) :
    Calls Tryd.prog 42 #[sgV s, .int .i64 k, .agg #[.int .i64 o, .int .i64 d, .int .i64 c, .int .i64 a, .int .i64 q], .bool ok] w fun e w' => e = .returned (.int .i64 (kindI s k c a q ok)) ∧ Below w.heap.size w w' := by
  have h6 : k < 6 := by omega
  by_cases hl : s.deed k < 0
  · have HF := Lib.hid (show kindI s k c a q ok = 0 by unfold kindI; simp [hl])
    have HB := Lib.hid (below_alloc2 w (.cells (sgA s) tSagaR) (.cells #[.int .i64 o, .int .i64 d, .int .i64 c, .int .i64 a, .int .i64 q] tRow0))
    have HM := Lib.hid (heap_keep (heap_new w (.cells (sgA s) tSagaR)) (below_alloc _ (.cells #[.int .i64 o, .int .i64 d, .int .i64 c, .int .i64 a, .int .i64 q] tRow0)))
    have HR := Lib.hid (heap_new (w.alloc (.cells (sgA s) tSagaR)) (.cells #[.int .i64 o, .int .i64 d, .int .i64 c, .int .i64 a, .int .i64 q] tRow0))
    rw [show (w.alloc (.cells (sgA s) tSagaR)).heap.size = w.heap.size + 1 by simp] at HR
    have HW := Lib.hid (fun W => refWant_any s k W ⟨by omega, by omega⟩)
    have cd := sg_deed HM.out h0 h6
    have ce := sg_deed HM.out (k := k + 3) (by omega) (by omega)
    go_enter Tryd.func42, Tryd.ntmps42
    go_wp2_with fail
    have cc := cell_at HR.out 2 rfl
    go_quiet (fail)
    go_wp2_with fail
    go_ret
    exact ⟨ret_int HF.out.symm, below_drewN' HB.out _⟩
  by_cases hg : 4 < s.deed k
  · have HF := Lib.hid (show kindI s k c a q ok = 0 by unfold kindI; simp [hg])
    have HB := Lib.hid (below_alloc2 w (.cells (sgA s) tSagaR) (.cells #[.int .i64 o, .int .i64 d, .int .i64 c, .int .i64 a, .int .i64 q] tRow0))
    have HM := Lib.hid (heap_keep (heap_new w (.cells (sgA s) tSagaR)) (below_alloc _ (.cells #[.int .i64 o, .int .i64 d, .int .i64 c, .int .i64 a, .int .i64 q] tRow0)))
    have HR := Lib.hid (heap_new (w.alloc (.cells (sgA s) tSagaR)) (.cells #[.int .i64 o, .int .i64 d, .int .i64 c, .int .i64 a, .int .i64 q] tRow0))
    rw [show (w.alloc (.cells (sgA s) tSagaR)).heap.size = w.heap.size + 1 by simp] at HR
    have HW := Lib.hid (fun W => refWant_any s k W ⟨by omega, by omega⟩)
    have cd := sg_deed HM.out h0 h6
    have ce := sg_deed HM.out (k := k + 3) (by omega) (by omega)
    go_enter Tryd.func42, Tryd.ntmps42
    go_wp2_with fail
    have cc := cell_at HR.out 2 rfl
    go_quiet (fail)
    go_wp2_with fail
    go_ret
    exact ⟨ret_int HF.out.symm, below_drewN' HB.out _⟩
  rcases (show s.deed k = 0 ∨ s.deed k = 1 ∨ s.deed k = 2 ∨ s.deed k = 3 ∨ s.deed k = 4 by omega) with hh | hh | hh | hh | hh
  all_goals clear hl hg
  · cases ok with
    | false =>
      have HF := Lib.hid (show kindI s k c a q false = 0 by unfold kindI; simp [hh])
      have HB := Lib.hid (below_alloc2 w (.cells (sgA s) tSagaR) (.cells #[.int .i64 o, .int .i64 d, .int .i64 c, .int .i64 a, .int .i64 q] tRow0))
      have HM := Lib.hid (heap_keep (heap_new w (.cells (sgA s) tSagaR)) (below_alloc _ (.cells #[.int .i64 o, .int .i64 d, .int .i64 c, .int .i64 a, .int .i64 q] tRow0)))
      have HR := Lib.hid (heap_new (w.alloc (.cells (sgA s) tSagaR)) (.cells #[.int .i64 o, .int .i64 d, .int .i64 c, .int .i64 a, .int .i64 q] tRow0))
      rw [show (w.alloc (.cells (sgA s) tSagaR)).heap.size = w.heap.size + 1 by simp] at HR
      have HW := Lib.hid (fun W => refWant_any s k W ⟨by omega, by omega⟩)
      have cd := sg_deed HM.out h0 h6
      rw [hh] at cd
      have ce := sg_deed HM.out (k := k + 3) (by omega) (by omega)
      clear hh
      go_enter Tryd.func42, Tryd.ntmps42
      go_wp2_with fail
      have cc := cell_at HR.out 2 rfl
      go_quiet (fail)
      go_wp2_with fail
      go_ret
      exact ⟨ret_int HF.out.symm, below_drewN' HB.out _⟩
    | true =>
      have HF := Lib.hid (show kindI s k c a q true = 5 by unfold kindI; simp [hh])
      have HB := Lib.hid (below_alloc2 w (.cells (sgA s) tSagaR) (.cells #[.int .i64 o, .int .i64 d, .int .i64 c, .int .i64 a, .int .i64 q] tRow0))
      have HM := Lib.hid (heap_keep (heap_new w (.cells (sgA s) tSagaR)) (below_alloc _ (.cells #[.int .i64 o, .int .i64 d, .int .i64 c, .int .i64 a, .int .i64 q] tRow0)))
      have HR := Lib.hid (heap_new (w.alloc (.cells (sgA s) tSagaR)) (.cells #[.int .i64 o, .int .i64 d, .int .i64 c, .int .i64 a, .int .i64 q] tRow0))
      rw [show (w.alloc (.cells (sgA s) tSagaR)).heap.size = w.heap.size + 1 by simp] at HR
      have HW := Lib.hid (fun W => refWant_any s k W ⟨by omega, by omega⟩)
      have cd := sg_deed HM.out h0 h6
      rw [hh] at cd
      have ce := sg_deed HM.out (k := k + 3) (by omega) (by omega)
      clear hh
      go_enter Tryd.func42, Tryd.ntmps42
      go_wp2_with fail
      have cc := cell_at HR.out 2 rfl
      go_quiet (fail)
      go_wp2_with fail
      go_ret
      exact ⟨ret_int HF.out.symm, below_drewN' HB.out _⟩
  · cases ok with
    | false =>
      have HF := Lib.hid (show kindI s k c a q false = 0 by unfold kindI; simp [hh])
      have HB := Lib.hid (below_alloc2 w (.cells (sgA s) tSagaR) (.cells #[.int .i64 o, .int .i64 d, .int .i64 c, .int .i64 a, .int .i64 q] tRow0))
      have HM := Lib.hid (heap_keep (heap_new w (.cells (sgA s) tSagaR)) (below_alloc _ (.cells #[.int .i64 o, .int .i64 d, .int .i64 c, .int .i64 a, .int .i64 q] tRow0)))
      have HR := Lib.hid (heap_new (w.alloc (.cells (sgA s) tSagaR)) (.cells #[.int .i64 o, .int .i64 d, .int .i64 c, .int .i64 a, .int .i64 q] tRow0))
      rw [show (w.alloc (.cells (sgA s) tSagaR)).heap.size = w.heap.size + 1 by simp] at HR
      have HW := Lib.hid (fun W => refWant_any s k W ⟨by omega, by omega⟩)
      have cd := sg_deed HM.out h0 h6
      rw [hh] at cd
      have ce := sg_deed HM.out (k := k + 3) (by omega) (by omega)
      clear hh
      go_enter Tryd.func42, Tryd.ntmps42
      go_wp2_with fail
      have cc := cell_at HR.out 2 rfl
      go_quiet (fail)
      go_wp2_with fail
      go_ret
      exact ⟨ret_int HF.out.symm, below_drewN' HB.out _⟩
    | true =>
      by_cases hc : c = 1
      · subst hc
        have HF := Lib.hid (show kindI s k 1 a q true = 1 by unfold kindI; simp [hh])
        have HB := Lib.hid (below_alloc2 w (.cells (sgA s) tSagaR) (.cells #[.int .i64 o, .int .i64 d, .int .i64 1, .int .i64 a, .int .i64 q] tRow0))
        have HM := Lib.hid (heap_keep (heap_new w (.cells (sgA s) tSagaR)) (below_alloc _ (.cells #[.int .i64 o, .int .i64 d, .int .i64 1, .int .i64 a, .int .i64 q] tRow0)))
        have HR := Lib.hid (heap_new (w.alloc (.cells (sgA s) tSagaR)) (.cells #[.int .i64 o, .int .i64 d, .int .i64 1, .int .i64 a, .int .i64 q] tRow0))
        rw [show (w.alloc (.cells (sgA s) tSagaR)).heap.size = w.heap.size + 1 by simp] at HR
        have HW := Lib.hid (fun W => refWant_any s k W ⟨by omega, by omega⟩)
        have cd := sg_deed HM.out h0 h6
        rw [hh] at cd
        have ce := sg_deed HM.out (k := k + 3) (by omega) (by omega)
        clear hh
        go_enter Tryd.func42, Tryd.ntmps42
        go_wp2_with fail
        have cc := cell_at HR.out 2 rfl
        go_quiet (fail)
        go_wp2_with fail
        go_ret
        exact ⟨ret_int HF.out.symm, below_drewN' HB.out _⟩
      · have hc1 := beqF hc
        have HF := Lib.hid (show kindI s k c a q true = 0 by unfold kindI; simp [hh, hc])
        clear hc
        have HB := Lib.hid (below_alloc2 w (.cells (sgA s) tSagaR) (.cells #[.int .i64 o, .int .i64 d, .int .i64 c, .int .i64 a, .int .i64 q] tRow0))
        have HM := Lib.hid (heap_keep (heap_new w (.cells (sgA s) tSagaR)) (below_alloc _ (.cells #[.int .i64 o, .int .i64 d, .int .i64 c, .int .i64 a, .int .i64 q] tRow0)))
        have HR := Lib.hid (heap_new (w.alloc (.cells (sgA s) tSagaR)) (.cells #[.int .i64 o, .int .i64 d, .int .i64 c, .int .i64 a, .int .i64 q] tRow0))
        rw [show (w.alloc (.cells (sgA s) tSagaR)).heap.size = w.heap.size + 1 by simp] at HR
        have HW := Lib.hid (fun W => refWant_any s k W ⟨by omega, by omega⟩)
        have cd := sg_deed HM.out h0 h6
        rw [hh] at cd
        have ce := sg_deed HM.out (k := k + 3) (by omega) (by omega)
        clear hh
        go_enter Tryd.func42, Tryd.ntmps42
        go_wp2_with fail
        have cc := cell_at HR.out 2 rfl
        go_quiet (fail)
        go_wp2_with fail
        go_ret
        exact ⟨ret_int HF.out.symm, below_drewN' HB.out _⟩
  · cases ok with
    | false =>
      have HF := Lib.hid (show kindI s k c a q false = 2 by unfold kindI; simp [hh])
      have HB := Lib.hid (below_alloc2 w (.cells (sgA s) tSagaR) (.cells #[.int .i64 o, .int .i64 d, .int .i64 c, .int .i64 a, .int .i64 q] tRow0))
      have HM := Lib.hid (heap_keep (heap_new w (.cells (sgA s) tSagaR)) (below_alloc _ (.cells #[.int .i64 o, .int .i64 d, .int .i64 c, .int .i64 a, .int .i64 q] tRow0)))
      have HR := Lib.hid (heap_new (w.alloc (.cells (sgA s) tSagaR)) (.cells #[.int .i64 o, .int .i64 d, .int .i64 c, .int .i64 a, .int .i64 q] tRow0))
      rw [show (w.alloc (.cells (sgA s) tSagaR)).heap.size = w.heap.size + 1 by simp] at HR
      have HW := Lib.hid (fun W => refWant_any s k W ⟨by omega, by omega⟩)
      have cd := sg_deed HM.out h0 h6
      rw [hh] at cd
      have ce := sg_deed HM.out (k := k + 3) (by omega) (by omega)
      clear hh
      go_enter Tryd.func42, Tryd.ntmps42
      go_wp2_with fail
      have cc := cell_at HR.out 2 rfl
      go_quiet (fail)
      go_wp2_with fail
      go_ret
      exact ⟨ret_int HF.out.symm, below_drewN' HB.out _⟩
    | true =>
      by_cases hc : c = 1
      · subst hc
        by_cases ha : a = (wantI s k).1
        · have ha1 := bneF ha
          have ha2 := beqT ha
          by_cases hq : q = (wantI s k).2
          · have hq1 := bneF hq
            have hq2 := beqT hq
            have HF := Lib.hid (show kindI s k 1 a q true = 0 by unfold kindI; simp [hh, ← ha, ← hq])
            clear ha hq
            have HB := Lib.hid (below_alloc2 w (.cells (sgA s) tSagaR) (.cells #[.int .i64 o, .int .i64 d, .int .i64 1, .int .i64 a, .int .i64 q] tRow0))
            have HM := Lib.hid (heap_keep (heap_new w (.cells (sgA s) tSagaR)) (below_alloc _ (.cells #[.int .i64 o, .int .i64 d, .int .i64 1, .int .i64 a, .int .i64 q] tRow0)))
            have HR := Lib.hid (heap_new (w.alloc (.cells (sgA s) tSagaR)) (.cells #[.int .i64 o, .int .i64 d, .int .i64 1, .int .i64 a, .int .i64 q] tRow0))
            rw [show (w.alloc (.cells (sgA s) tSagaR)).heap.size = w.heap.size + 1 by simp] at HR
            have HW := Lib.hid (fun W => refWant_any s k W ⟨by omega, by omega⟩)
            have cd := sg_deed HM.out h0 h6
            rw [hh] at cd
            have ce := sg_deed HM.out (k := k + 3) (by omega) (by omega)
            clear hh
            go_enter Tryd.func42, Tryd.ntmps42
            go_wp2_with fail
            have cc := cell_at HR.out 2 rfl
            go_quiet (fail)
            go_wp2_with fail
            refine (HW.out _).mono ?_
            rintro e w1 ⟨rfl, hb⟩
            have HB1 := Lib.hid (bch (below_drewN' HB.out _) hb (below_drewN' HB.out _).size)
            have HR1 := Lib.hid (heap_keep (w := World.drewN _ _) HR.out hb)
            clear hb cd ce cc
            have ca := cell_at HR1.out 3 rfl
            have cq := cell_at HR1.out 4 rfl
            go_wp2_with fail
            go_ret
            exact ⟨ret_int HF.out.symm, HB1.out⟩
          · have hq1 := bneT hq
            have hq2 := beqF hq
            have HF := Lib.hid (show kindI s k 1 a q true = 4 by unfold kindI; simp [hh, ← ha, hq, show k < 3 by omega])
            clear ha hq
            have HB := Lib.hid (below_alloc2 w (.cells (sgA s) tSagaR) (.cells #[.int .i64 o, .int .i64 d, .int .i64 1, .int .i64 a, .int .i64 q] tRow0))
            have HM := Lib.hid (heap_keep (heap_new w (.cells (sgA s) tSagaR)) (below_alloc _ (.cells #[.int .i64 o, .int .i64 d, .int .i64 1, .int .i64 a, .int .i64 q] tRow0)))
            have HR := Lib.hid (heap_new (w.alloc (.cells (sgA s) tSagaR)) (.cells #[.int .i64 o, .int .i64 d, .int .i64 1, .int .i64 a, .int .i64 q] tRow0))
            rw [show (w.alloc (.cells (sgA s) tSagaR)).heap.size = w.heap.size + 1 by simp] at HR
            have HW := Lib.hid (fun W => refWant_any s k W ⟨by omega, by omega⟩)
            have cd := sg_deed HM.out h0 h6
            rw [hh] at cd
            have ce := sg_deed HM.out (k := k + 3) (by omega) (by omega)
            clear hh
            go_enter Tryd.func42, Tryd.ntmps42
            go_wp2_with fail
            have cc := cell_at HR.out 2 rfl
            go_quiet (fail)
            go_wp2_with fail
            refine (HW.out _).mono ?_
            rintro e w1 ⟨rfl, hb⟩
            have HB1 := Lib.hid (bch (below_drewN' HB.out _) hb (below_drewN' HB.out _).size)
            have HR1 := Lib.hid (heap_keep (w := World.drewN _ _) HR.out hb)
            clear hb cd ce cc
            have ca := cell_at HR1.out 3 rfl
            have cq := cell_at HR1.out 4 rfl
            go_wp2_with fail
            go_ret
            exact ⟨ret_int HF.out.symm, HB1.out⟩
        · have ha1 := bneT ha
          have ha2 := beqF ha
          have HF := Lib.hid (show kindI s k 1 a q true = 4 by unfold kindI; simp [hh, ha, show k < 3 by omega])
          clear ha
          have HB := Lib.hid (below_alloc2 w (.cells (sgA s) tSagaR) (.cells #[.int .i64 o, .int .i64 d, .int .i64 1, .int .i64 a, .int .i64 q] tRow0))
          have HM := Lib.hid (heap_keep (heap_new w (.cells (sgA s) tSagaR)) (below_alloc _ (.cells #[.int .i64 o, .int .i64 d, .int .i64 1, .int .i64 a, .int .i64 q] tRow0)))
          have HR := Lib.hid (heap_new (w.alloc (.cells (sgA s) tSagaR)) (.cells #[.int .i64 o, .int .i64 d, .int .i64 1, .int .i64 a, .int .i64 q] tRow0))
          rw [show (w.alloc (.cells (sgA s) tSagaR)).heap.size = w.heap.size + 1 by simp] at HR
          have HW := Lib.hid (fun W => refWant_any s k W ⟨by omega, by omega⟩)
          have cd := sg_deed HM.out h0 h6
          rw [hh] at cd
          have ce := sg_deed HM.out (k := k + 3) (by omega) (by omega)
          clear hh
          go_enter Tryd.func42, Tryd.ntmps42
          go_wp2_with fail
          have cc := cell_at HR.out 2 rfl
          go_quiet (fail)
          go_wp2_with fail
          refine (HW.out _).mono ?_
          rintro e w1 ⟨rfl, hb⟩
          have HB1 := Lib.hid (bch (below_drewN' HB.out _) hb (below_drewN' HB.out _).size)
          have HR1 := Lib.hid (heap_keep (w := World.drewN _ _) HR.out hb)
          clear hb cd ce cc
          have ca := cell_at HR1.out 3 rfl
          have cq := cell_at HR1.out 4 rfl
          go_wp2_with fail
          go_ret
          exact ⟨ret_int HF.out.symm, HB1.out⟩
      · have hc1 := beqF hc
        have HF := Lib.hid (show kindI s k c a q true = 3 by unfold kindI; simp [hh, hc])
        clear hc
        have HB := Lib.hid (below_alloc2 w (.cells (sgA s) tSagaR) (.cells #[.int .i64 o, .int .i64 d, .int .i64 c, .int .i64 a, .int .i64 q] tRow0))
        have HM := Lib.hid (heap_keep (heap_new w (.cells (sgA s) tSagaR)) (below_alloc _ (.cells #[.int .i64 o, .int .i64 d, .int .i64 c, .int .i64 a, .int .i64 q] tRow0)))
        have HR := Lib.hid (heap_new (w.alloc (.cells (sgA s) tSagaR)) (.cells #[.int .i64 o, .int .i64 d, .int .i64 c, .int .i64 a, .int .i64 q] tRow0))
        rw [show (w.alloc (.cells (sgA s) tSagaR)).heap.size = w.heap.size + 1 by simp] at HR
        have HW := Lib.hid (fun W => refWant_any s k W ⟨by omega, by omega⟩)
        have cd := sg_deed HM.out h0 h6
        rw [hh] at cd
        have ce := sg_deed HM.out (k := k + 3) (by omega) (by omega)
        clear hh
        go_enter Tryd.func42, Tryd.ntmps42
        go_wp2_with fail
        have cc := cell_at HR.out 2 rfl
        go_quiet (fail)
        go_wp2_with fail
        go_ret
        exact ⟨ret_int HF.out.symm, below_drewN' HB.out _⟩
  · cases ok with
    | false =>
      have HF := Lib.hid (show kindI s k c a q false = 2 by unfold kindI; simp [hh])
      have HB := Lib.hid (below_alloc2 w (.cells (sgA s) tSagaR) (.cells #[.int .i64 o, .int .i64 d, .int .i64 c, .int .i64 a, .int .i64 q] tRow0))
      have HM := Lib.hid (heap_keep (heap_new w (.cells (sgA s) tSagaR)) (below_alloc _ (.cells #[.int .i64 o, .int .i64 d, .int .i64 c, .int .i64 a, .int .i64 q] tRow0)))
      have HR := Lib.hid (heap_new (w.alloc (.cells (sgA s) tSagaR)) (.cells #[.int .i64 o, .int .i64 d, .int .i64 c, .int .i64 a, .int .i64 q] tRow0))
      rw [show (w.alloc (.cells (sgA s) tSagaR)).heap.size = w.heap.size + 1 by simp] at HR
      have HW := Lib.hid (fun W => refWant_any s k W ⟨by omega, by omega⟩)
      have cd := sg_deed HM.out h0 h6
      rw [hh] at cd
      have ce := sg_deed HM.out (k := k + 3) (by omega) (by omega)
      clear hh
      go_enter Tryd.func42, Tryd.ntmps42
      go_wp2_with fail
      have cc := cell_at HR.out 2 rfl
      go_quiet (fail)
      go_wp2_with fail
      go_ret
      exact ⟨ret_int HF.out.symm, below_drewN' HB.out _⟩
    | true =>
      by_cases hc : c = 1
      · subst hc
        have HF := Lib.hid (show kindI s k 1 a q true = 3 by unfold kindI; simp [hh])
        have HB := Lib.hid (below_alloc2 w (.cells (sgA s) tSagaR) (.cells #[.int .i64 o, .int .i64 d, .int .i64 1, .int .i64 a, .int .i64 q] tRow0))
        have HM := Lib.hid (heap_keep (heap_new w (.cells (sgA s) tSagaR)) (below_alloc _ (.cells #[.int .i64 o, .int .i64 d, .int .i64 1, .int .i64 a, .int .i64 q] tRow0)))
        have HR := Lib.hid (heap_new (w.alloc (.cells (sgA s) tSagaR)) (.cells #[.int .i64 o, .int .i64 d, .int .i64 1, .int .i64 a, .int .i64 q] tRow0))
        rw [show (w.alloc (.cells (sgA s) tSagaR)).heap.size = w.heap.size + 1 by simp] at HR
        have HW := Lib.hid (fun W => refWant_any s k W ⟨by omega, by omega⟩)
        have cd := sg_deed HM.out h0 h6
        rw [hh] at cd
        have ce := sg_deed HM.out (k := k + 3) (by omega) (by omega)
        clear hh
        go_enter Tryd.func42, Tryd.ntmps42
        go_wp2_with fail
        have cc := cell_at HR.out 2 rfl
        go_quiet (fail)
        go_wp2_with fail
        go_ret
        exact ⟨ret_int HF.out.symm, below_drewN' HB.out _⟩
      · have hc1 := beqF hc
        have HF := Lib.hid (show kindI s k c a q true = 0 by unfold kindI; simp [hh, hc])
        clear hc
        have HB := Lib.hid (below_alloc2 w (.cells (sgA s) tSagaR) (.cells #[.int .i64 o, .int .i64 d, .int .i64 c, .int .i64 a, .int .i64 q] tRow0))
        have HM := Lib.hid (heap_keep (heap_new w (.cells (sgA s) tSagaR)) (below_alloc _ (.cells #[.int .i64 o, .int .i64 d, .int .i64 c, .int .i64 a, .int .i64 q] tRow0)))
        have HR := Lib.hid (heap_new (w.alloc (.cells (sgA s) tSagaR)) (.cells #[.int .i64 o, .int .i64 d, .int .i64 c, .int .i64 a, .int .i64 q] tRow0))
        rw [show (w.alloc (.cells (sgA s) tSagaR)).heap.size = w.heap.size + 1 by simp] at HR
        have HW := Lib.hid (fun W => refWant_any s k W ⟨by omega, by omega⟩)
        have cd := sg_deed HM.out h0 h6
        rw [hh] at cd
        have ce := sg_deed HM.out (k := k + 3) (by omega) (by omega)
        clear hh
        go_enter Tryd.func42, Tryd.ntmps42
        go_wp2_with fail
        have cc := cell_at HR.out 2 rfl
        go_quiet (fail)
        go_wp2_with fail
        go_ret
        exact ⟨ret_int HF.out.symm, below_drewN' HB.out _⟩
  · by_cases hs : s.deed (k + 3) = 2
    · have hs1 := beqT hs
      have HF := Lib.hid (show kindI s k c a q ok = 0 by unfold kindI; simp [hh, hs, show k < 3 by omega])
      clear hs
      have HB := Lib.hid (below_alloc2 w (.cells (sgA s) tSagaR) (.cells #[.int .i64 o, .int .i64 d, .int .i64 c, .int .i64 a, .int .i64 q] tRow0))
      have HM := Lib.hid (heap_keep (heap_new w (.cells (sgA s) tSagaR)) (below_alloc _ (.cells #[.int .i64 o, .int .i64 d, .int .i64 c, .int .i64 a, .int .i64 q] tRow0)))
      have HR := Lib.hid (heap_new (w.alloc (.cells (sgA s) tSagaR)) (.cells #[.int .i64 o, .int .i64 d, .int .i64 c, .int .i64 a, .int .i64 q] tRow0))
      rw [show (w.alloc (.cells (sgA s) tSagaR)).heap.size = w.heap.size + 1 by simp] at HR
      have HW := Lib.hid (fun W => refWant_any s k W ⟨by omega, by omega⟩)
      have cd := sg_deed HM.out h0 h6
      rw [hh] at cd
      have ce := sg_deed HM.out (k := k + 3) (by omega) (by omega)
      clear hh
      go_enter Tryd.func42, Tryd.ntmps42
      go_wp2_with fail
      have cc := cell_at HR.out 2 rfl
      go_quiet (fail)
      go_wp2_with fail
      go_ret
      exact ⟨ret_int HF.out.symm, below_drewN' HB.out _⟩
    · have hs1 := beqF hs
      cases ok with
      | false =>
        have HF := Lib.hid (show kindI s k c a q false = 0 by unfold kindI; simp [hh, hs, show k < 3 by omega])
        clear hs
        have HB := Lib.hid (below_alloc2 w (.cells (sgA s) tSagaR) (.cells #[.int .i64 o, .int .i64 d, .int .i64 c, .int .i64 a, .int .i64 q] tRow0))
        have HM := Lib.hid (heap_keep (heap_new w (.cells (sgA s) tSagaR)) (below_alloc _ (.cells #[.int .i64 o, .int .i64 d, .int .i64 c, .int .i64 a, .int .i64 q] tRow0)))
        have HR := Lib.hid (heap_new (w.alloc (.cells (sgA s) tSagaR)) (.cells #[.int .i64 o, .int .i64 d, .int .i64 c, .int .i64 a, .int .i64 q] tRow0))
        rw [show (w.alloc (.cells (sgA s) tSagaR)).heap.size = w.heap.size + 1 by simp] at HR
        have HW := Lib.hid (fun W => refWant_any s k W ⟨by omega, by omega⟩)
        have cd := sg_deed HM.out h0 h6
        rw [hh] at cd
        have ce := sg_deed HM.out (k := k + 3) (by omega) (by omega)
        clear hh
        go_enter Tryd.func42, Tryd.ntmps42
        go_wp2_with fail
        have cc := cell_at HR.out 2 rfl
        go_quiet (fail)
        go_wp2_with fail
        go_ret
        exact ⟨ret_int HF.out.symm, below_drewN' HB.out _⟩
      | true =>
        by_cases hc : c = 1
        · subst hc
          have HF := Lib.hid (show kindI s k 1 a q true = 1 by unfold kindI; simp [hh, hs, show k < 3 by omega])
          clear hs
          have HB := Lib.hid (below_alloc2 w (.cells (sgA s) tSagaR) (.cells #[.int .i64 o, .int .i64 d, .int .i64 1, .int .i64 a, .int .i64 q] tRow0))
          have HM := Lib.hid (heap_keep (heap_new w (.cells (sgA s) tSagaR)) (below_alloc _ (.cells #[.int .i64 o, .int .i64 d, .int .i64 1, .int .i64 a, .int .i64 q] tRow0)))
          have HR := Lib.hid (heap_new (w.alloc (.cells (sgA s) tSagaR)) (.cells #[.int .i64 o, .int .i64 d, .int .i64 1, .int .i64 a, .int .i64 q] tRow0))
          rw [show (w.alloc (.cells (sgA s) tSagaR)).heap.size = w.heap.size + 1 by simp] at HR
          have HW := Lib.hid (fun W => refWant_any s k W ⟨by omega, by omega⟩)
          have cd := sg_deed HM.out h0 h6
          rw [hh] at cd
          have ce := sg_deed HM.out (k := k + 3) (by omega) (by omega)
          clear hh
          go_enter Tryd.func42, Tryd.ntmps42
          go_wp2_with fail
          have cc := cell_at HR.out 2 rfl
          go_quiet (fail)
          go_wp2_with fail
          go_ret
          exact ⟨ret_int HF.out.symm, below_drewN' HB.out _⟩
        · have hc1 := beqF hc
          have HF := Lib.hid (show kindI s k c a q true = 0 by unfold kindI; simp [hh, hc, hs, show k < 3 by omega])
          clear hs
          clear hc
          have HB := Lib.hid (below_alloc2 w (.cells (sgA s) tSagaR) (.cells #[.int .i64 o, .int .i64 d, .int .i64 c, .int .i64 a, .int .i64 q] tRow0))
          have HM := Lib.hid (heap_keep (heap_new w (.cells (sgA s) tSagaR)) (below_alloc _ (.cells #[.int .i64 o, .int .i64 d, .int .i64 c, .int .i64 a, .int .i64 q] tRow0)))
          have HR := Lib.hid (heap_new (w.alloc (.cells (sgA s) tSagaR)) (.cells #[.int .i64 o, .int .i64 d, .int .i64 c, .int .i64 a, .int .i64 q] tRow0))
          rw [show (w.alloc (.cells (sgA s) tSagaR)).heap.size = w.heap.size + 1 by simp] at HR
          have HW := Lib.hid (fun W => refWant_any s k W ⟨by omega, by omega⟩)
          have cd := sg_deed HM.out h0 h6
          rw [hh] at cd
          have ce := sg_deed HM.out (k := k + 3) (by omega) (by omega)
          clear hh
          go_enter Tryd.func42, Tryd.ntmps42
          go_wp2_with fail
          have cc := cell_at HR.out 2 rfl
          go_quiet (fail)
          go_wp2_with fail
          go_ret
          exact ⟨ret_int HF.out.symm, below_drewN' HB.out _⟩
set_option linter.unusedSimpArgs false in
set_option linter.unusedVariables false in
set_option maxRecDepth 100000 in
set_option maxHeartbeats 16000000 in
theorem refKind_hi (s : Sg) (k o d c a q : Int) (ok : Bool) (w : World) (h3 : 3 ≤ k) (h6 : k < 6) :
    Calls Tryd.prog 42 #[sgV s, .int .i64 k, .agg #[.int .i64 o, .int .i64 d, .int .i64 c, .int .i64 a, .int .i64 q], .bool ok] w fun e w' => e = .returned (.int .i64 (kindI s k c a q ok)) ∧ Below w.heap.size w w' := by
  have h0 : 0 ≤ k := by omega
  by_cases hl : s.deed k < 0
  · have HF := Lib.hid (show kindI s k c a q ok = 0 by unfold kindI; simp [hl])
    have HB := Lib.hid (below_alloc2 w (.cells (sgA s) tSagaR) (.cells #[.int .i64 o, .int .i64 d, .int .i64 c, .int .i64 a, .int .i64 q] tRow0))
    have HM := Lib.hid (heap_keep (heap_new w (.cells (sgA s) tSagaR)) (below_alloc _ (.cells #[.int .i64 o, .int .i64 d, .int .i64 c, .int .i64 a, .int .i64 q] tRow0)))
    have HR := Lib.hid (heap_new (w.alloc (.cells (sgA s) tSagaR)) (.cells #[.int .i64 o, .int .i64 d, .int .i64 c, .int .i64 a, .int .i64 q] tRow0))
    rw [show (w.alloc (.cells (sgA s) tSagaR)).heap.size = w.heap.size + 1 by simp] at HR
    have HW := Lib.hid (fun W => refWant_any s k W ⟨by omega, by omega⟩)
    have cd := sg_deed HM.out h0 h6
    have ce := sg_deed HM.out (k := k - 3) (by omega) (by omega)
    go_enter Tryd.func42, Tryd.ntmps42
    go_wp2_with fail
    have cc := cell_at HR.out 2 rfl
    go_quiet (fail)
    go_wp2_with fail
    go_ret
    exact ⟨ret_int HF.out.symm, below_drewN' HB.out _⟩
  by_cases hg : 4 < s.deed k
  · have HF := Lib.hid (show kindI s k c a q ok = 0 by unfold kindI; simp [hg])
    have HB := Lib.hid (below_alloc2 w (.cells (sgA s) tSagaR) (.cells #[.int .i64 o, .int .i64 d, .int .i64 c, .int .i64 a, .int .i64 q] tRow0))
    have HM := Lib.hid (heap_keep (heap_new w (.cells (sgA s) tSagaR)) (below_alloc _ (.cells #[.int .i64 o, .int .i64 d, .int .i64 c, .int .i64 a, .int .i64 q] tRow0)))
    have HR := Lib.hid (heap_new (w.alloc (.cells (sgA s) tSagaR)) (.cells #[.int .i64 o, .int .i64 d, .int .i64 c, .int .i64 a, .int .i64 q] tRow0))
    rw [show (w.alloc (.cells (sgA s) tSagaR)).heap.size = w.heap.size + 1 by simp] at HR
    have HW := Lib.hid (fun W => refWant_any s k W ⟨by omega, by omega⟩)
    have cd := sg_deed HM.out h0 h6
    have ce := sg_deed HM.out (k := k - 3) (by omega) (by omega)
    go_enter Tryd.func42, Tryd.ntmps42
    go_wp2_with fail
    have cc := cell_at HR.out 2 rfl
    go_quiet (fail)
    go_wp2_with fail
    go_ret
    exact ⟨ret_int HF.out.symm, below_drewN' HB.out _⟩
  rcases (show s.deed k = 0 ∨ s.deed k = 1 ∨ s.deed k = 2 ∨ s.deed k = 3 ∨ s.deed k = 4 by omega) with hh | hh | hh | hh | hh
  all_goals clear hl hg
  · cases ok with
    | false =>
      have HF := Lib.hid (show kindI s k c a q false = 0 by unfold kindI; simp [hh])
      have HB := Lib.hid (below_alloc2 w (.cells (sgA s) tSagaR) (.cells #[.int .i64 o, .int .i64 d, .int .i64 c, .int .i64 a, .int .i64 q] tRow0))
      have HM := Lib.hid (heap_keep (heap_new w (.cells (sgA s) tSagaR)) (below_alloc _ (.cells #[.int .i64 o, .int .i64 d, .int .i64 c, .int .i64 a, .int .i64 q] tRow0)))
      have HR := Lib.hid (heap_new (w.alloc (.cells (sgA s) tSagaR)) (.cells #[.int .i64 o, .int .i64 d, .int .i64 c, .int .i64 a, .int .i64 q] tRow0))
      rw [show (w.alloc (.cells (sgA s) tSagaR)).heap.size = w.heap.size + 1 by simp] at HR
      have HW := Lib.hid (fun W => refWant_any s k W ⟨by omega, by omega⟩)
      have cd := sg_deed HM.out h0 h6
      rw [hh] at cd
      have ce := sg_deed HM.out (k := k - 3) (by omega) (by omega)
      clear hh
      go_enter Tryd.func42, Tryd.ntmps42
      go_wp2_with fail
      have cc := cell_at HR.out 2 rfl
      go_quiet (fail)
      go_wp2_with fail
      go_ret
      exact ⟨ret_int HF.out.symm, below_drewN' HB.out _⟩
    | true =>
      have HF := Lib.hid (show kindI s k c a q true = 5 by unfold kindI; simp [hh])
      have HB := Lib.hid (below_alloc2 w (.cells (sgA s) tSagaR) (.cells #[.int .i64 o, .int .i64 d, .int .i64 c, .int .i64 a, .int .i64 q] tRow0))
      have HM := Lib.hid (heap_keep (heap_new w (.cells (sgA s) tSagaR)) (below_alloc _ (.cells #[.int .i64 o, .int .i64 d, .int .i64 c, .int .i64 a, .int .i64 q] tRow0)))
      have HR := Lib.hid (heap_new (w.alloc (.cells (sgA s) tSagaR)) (.cells #[.int .i64 o, .int .i64 d, .int .i64 c, .int .i64 a, .int .i64 q] tRow0))
      rw [show (w.alloc (.cells (sgA s) tSagaR)).heap.size = w.heap.size + 1 by simp] at HR
      have HW := Lib.hid (fun W => refWant_any s k W ⟨by omega, by omega⟩)
      have cd := sg_deed HM.out h0 h6
      rw [hh] at cd
      have ce := sg_deed HM.out (k := k - 3) (by omega) (by omega)
      clear hh
      go_enter Tryd.func42, Tryd.ntmps42
      go_wp2_with fail
      have cc := cell_at HR.out 2 rfl
      go_quiet (fail)
      go_wp2_with fail
      go_ret
      exact ⟨ret_int HF.out.symm, below_drewN' HB.out _⟩
  · cases ok with
    | false =>
      have HF := Lib.hid (show kindI s k c a q false = 0 by unfold kindI; simp [hh])
      have HB := Lib.hid (below_alloc2 w (.cells (sgA s) tSagaR) (.cells #[.int .i64 o, .int .i64 d, .int .i64 c, .int .i64 a, .int .i64 q] tRow0))
      have HM := Lib.hid (heap_keep (heap_new w (.cells (sgA s) tSagaR)) (below_alloc _ (.cells #[.int .i64 o, .int .i64 d, .int .i64 c, .int .i64 a, .int .i64 q] tRow0)))
      have HR := Lib.hid (heap_new (w.alloc (.cells (sgA s) tSagaR)) (.cells #[.int .i64 o, .int .i64 d, .int .i64 c, .int .i64 a, .int .i64 q] tRow0))
      rw [show (w.alloc (.cells (sgA s) tSagaR)).heap.size = w.heap.size + 1 by simp] at HR
      have HW := Lib.hid (fun W => refWant_any s k W ⟨by omega, by omega⟩)
      have cd := sg_deed HM.out h0 h6
      rw [hh] at cd
      have ce := sg_deed HM.out (k := k - 3) (by omega) (by omega)
      clear hh
      go_enter Tryd.func42, Tryd.ntmps42
      go_wp2_with fail
      have cc := cell_at HR.out 2 rfl
      go_quiet (fail)
      go_wp2_with fail
      go_ret
      exact ⟨ret_int HF.out.symm, below_drewN' HB.out _⟩
    | true =>
      by_cases hc : c = 1
      · subst hc
        have HF := Lib.hid (show kindI s k 1 a q true = 1 by unfold kindI; simp [hh])
        have HB := Lib.hid (below_alloc2 w (.cells (sgA s) tSagaR) (.cells #[.int .i64 o, .int .i64 d, .int .i64 1, .int .i64 a, .int .i64 q] tRow0))
        have HM := Lib.hid (heap_keep (heap_new w (.cells (sgA s) tSagaR)) (below_alloc _ (.cells #[.int .i64 o, .int .i64 d, .int .i64 1, .int .i64 a, .int .i64 q] tRow0)))
        have HR := Lib.hid (heap_new (w.alloc (.cells (sgA s) tSagaR)) (.cells #[.int .i64 o, .int .i64 d, .int .i64 1, .int .i64 a, .int .i64 q] tRow0))
        rw [show (w.alloc (.cells (sgA s) tSagaR)).heap.size = w.heap.size + 1 by simp] at HR
        have HW := Lib.hid (fun W => refWant_any s k W ⟨by omega, by omega⟩)
        have cd := sg_deed HM.out h0 h6
        rw [hh] at cd
        have ce := sg_deed HM.out (k := k - 3) (by omega) (by omega)
        clear hh
        go_enter Tryd.func42, Tryd.ntmps42
        go_wp2_with fail
        have cc := cell_at HR.out 2 rfl
        go_quiet (fail)
        go_wp2_with fail
        go_ret
        exact ⟨ret_int HF.out.symm, below_drewN' HB.out _⟩
      · have hc1 := beqF hc
        have HF := Lib.hid (show kindI s k c a q true = 0 by unfold kindI; simp [hh, hc])
        clear hc
        have HB := Lib.hid (below_alloc2 w (.cells (sgA s) tSagaR) (.cells #[.int .i64 o, .int .i64 d, .int .i64 c, .int .i64 a, .int .i64 q] tRow0))
        have HM := Lib.hid (heap_keep (heap_new w (.cells (sgA s) tSagaR)) (below_alloc _ (.cells #[.int .i64 o, .int .i64 d, .int .i64 c, .int .i64 a, .int .i64 q] tRow0)))
        have HR := Lib.hid (heap_new (w.alloc (.cells (sgA s) tSagaR)) (.cells #[.int .i64 o, .int .i64 d, .int .i64 c, .int .i64 a, .int .i64 q] tRow0))
        rw [show (w.alloc (.cells (sgA s) tSagaR)).heap.size = w.heap.size + 1 by simp] at HR
        have HW := Lib.hid (fun W => refWant_any s k W ⟨by omega, by omega⟩)
        have cd := sg_deed HM.out h0 h6
        rw [hh] at cd
        have ce := sg_deed HM.out (k := k - 3) (by omega) (by omega)
        clear hh
        go_enter Tryd.func42, Tryd.ntmps42
        go_wp2_with fail
        have cc := cell_at HR.out 2 rfl
        go_quiet (fail)
        go_wp2_with fail
        go_ret
        exact ⟨ret_int HF.out.symm, below_drewN' HB.out _⟩
  · cases ok with
    | false =>
      have HF := Lib.hid (show kindI s k c a q false = 2 by unfold kindI; simp [hh])
      have HB := Lib.hid (below_alloc2 w (.cells (sgA s) tSagaR) (.cells #[.int .i64 o, .int .i64 d, .int .i64 c, .int .i64 a, .int .i64 q] tRow0))
      have HM := Lib.hid (heap_keep (heap_new w (.cells (sgA s) tSagaR)) (below_alloc _ (.cells #[.int .i64 o, .int .i64 d, .int .i64 c, .int .i64 a, .int .i64 q] tRow0)))
      have HR := Lib.hid (heap_new (w.alloc (.cells (sgA s) tSagaR)) (.cells #[.int .i64 o, .int .i64 d, .int .i64 c, .int .i64 a, .int .i64 q] tRow0))
      rw [show (w.alloc (.cells (sgA s) tSagaR)).heap.size = w.heap.size + 1 by simp] at HR
      have HW := Lib.hid (fun W => refWant_any s k W ⟨by omega, by omega⟩)
      have cd := sg_deed HM.out h0 h6
      rw [hh] at cd
      have ce := sg_deed HM.out (k := k - 3) (by omega) (by omega)
      clear hh
      go_enter Tryd.func42, Tryd.ntmps42
      go_wp2_with fail
      have cc := cell_at HR.out 2 rfl
      go_quiet (fail)
      go_wp2_with fail
      go_ret
      exact ⟨ret_int HF.out.symm, below_drewN' HB.out _⟩
    | true =>
      by_cases hc : c = 1
      · subst hc
        by_cases hs : s.deed (k - 3) = 2
        · have hs1 := beqT hs
          by_cases ha : a = (wantI s k).1
          · have ha1 := bneF ha
            have ha2 := beqT ha
            by_cases hq : q = (wantI s k).2
            · have hq1 := bneF hq
              have hq2 := beqT hq
              have HF := Lib.hid (show kindI s k 1 a q true = 0 by unfold kindI; simp [hh, ← ha, ← hq])
              clear ha hq hs
              have HB := Lib.hid (below_alloc2 w (.cells (sgA s) tSagaR) (.cells #[.int .i64 o, .int .i64 d, .int .i64 1, .int .i64 a, .int .i64 q] tRow0))
              have HM := Lib.hid (heap_keep (heap_new w (.cells (sgA s) tSagaR)) (below_alloc _ (.cells #[.int .i64 o, .int .i64 d, .int .i64 1, .int .i64 a, .int .i64 q] tRow0)))
              have HR := Lib.hid (heap_new (w.alloc (.cells (sgA s) tSagaR)) (.cells #[.int .i64 o, .int .i64 d, .int .i64 1, .int .i64 a, .int .i64 q] tRow0))
              rw [show (w.alloc (.cells (sgA s) tSagaR)).heap.size = w.heap.size + 1 by simp] at HR
              have HW := Lib.hid (fun W => refWant_any s k W ⟨by omega, by omega⟩)
              have cd := sg_deed HM.out h0 h6
              rw [hh] at cd
              have ce := sg_deed HM.out (k := k - 3) (by omega) (by omega)
              clear hh
              go_enter Tryd.func42, Tryd.ntmps42
              go_wp2_with fail
              have cc := cell_at HR.out 2 rfl
              go_quiet (fail)
              go_wp2_with fail
              refine (HW.out _).mono ?_
              rintro e w1 ⟨rfl, hb⟩
              have HB1 := Lib.hid (bch (below_drewN' HB.out _) hb (below_drewN' HB.out _).size)
              have HR1 := Lib.hid (heap_keep (w := World.drewN _ _) HR.out hb)
              clear hb cd ce cc
              have ca := cell_at HR1.out 3 rfl
              have cq := cell_at HR1.out 4 rfl
              go_wp2_with fail
              go_ret
              exact ⟨ret_int HF.out.symm, HB1.out⟩
            · have hq1 := bneT hq
              have hq2 := beqF hq
              have HF := Lib.hid (show kindI s k 1 a q true = 4 by unfold kindI; simp [hh, ← ha, hq, hs])
              clear ha hq hs
              have HB := Lib.hid (below_alloc2 w (.cells (sgA s) tSagaR) (.cells #[.int .i64 o, .int .i64 d, .int .i64 1, .int .i64 a, .int .i64 q] tRow0))
              have HM := Lib.hid (heap_keep (heap_new w (.cells (sgA s) tSagaR)) (below_alloc _ (.cells #[.int .i64 o, .int .i64 d, .int .i64 1, .int .i64 a, .int .i64 q] tRow0)))
              have HR := Lib.hid (heap_new (w.alloc (.cells (sgA s) tSagaR)) (.cells #[.int .i64 o, .int .i64 d, .int .i64 1, .int .i64 a, .int .i64 q] tRow0))
              rw [show (w.alloc (.cells (sgA s) tSagaR)).heap.size = w.heap.size + 1 by simp] at HR
              have HW := Lib.hid (fun W => refWant_any s k W ⟨by omega, by omega⟩)
              have cd := sg_deed HM.out h0 h6
              rw [hh] at cd
              have ce := sg_deed HM.out (k := k - 3) (by omega) (by omega)
              clear hh
              go_enter Tryd.func42, Tryd.ntmps42
              go_wp2_with fail
              have cc := cell_at HR.out 2 rfl
              go_quiet (fail)
              go_wp2_with fail
              refine (HW.out _).mono ?_
              rintro e w1 ⟨rfl, hb⟩
              have HB1 := Lib.hid (bch (below_drewN' HB.out _) hb (below_drewN' HB.out _).size)
              have HR1 := Lib.hid (heap_keep (w := World.drewN _ _) HR.out hb)
              clear hb cd ce cc
              have ca := cell_at HR1.out 3 rfl
              have cq := cell_at HR1.out 4 rfl
              go_wp2_with fail
              go_ret
              exact ⟨ret_int HF.out.symm, HB1.out⟩
          · have ha1 := bneT ha
            have ha2 := beqF ha
            have HF := Lib.hid (show kindI s k 1 a q true = 4 by unfold kindI; simp [hh, ha, hs])
            clear ha hs
            have HB := Lib.hid (below_alloc2 w (.cells (sgA s) tSagaR) (.cells #[.int .i64 o, .int .i64 d, .int .i64 1, .int .i64 a, .int .i64 q] tRow0))
            have HM := Lib.hid (heap_keep (heap_new w (.cells (sgA s) tSagaR)) (below_alloc _ (.cells #[.int .i64 o, .int .i64 d, .int .i64 1, .int .i64 a, .int .i64 q] tRow0)))
            have HR := Lib.hid (heap_new (w.alloc (.cells (sgA s) tSagaR)) (.cells #[.int .i64 o, .int .i64 d, .int .i64 1, .int .i64 a, .int .i64 q] tRow0))
            rw [show (w.alloc (.cells (sgA s) tSagaR)).heap.size = w.heap.size + 1 by simp] at HR
            have HW := Lib.hid (fun W => refWant_any s k W ⟨by omega, by omega⟩)
            have cd := sg_deed HM.out h0 h6
            rw [hh] at cd
            have ce := sg_deed HM.out (k := k - 3) (by omega) (by omega)
            clear hh
            go_enter Tryd.func42, Tryd.ntmps42
            go_wp2_with fail
            have cc := cell_at HR.out 2 rfl
            go_quiet (fail)
            go_wp2_with fail
            refine (HW.out _).mono ?_
            rintro e w1 ⟨rfl, hb⟩
            have HB1 := Lib.hid (bch (below_drewN' HB.out _) hb (below_drewN' HB.out _).size)
            have HR1 := Lib.hid (heap_keep (w := World.drewN _ _) HR.out hb)
            clear hb cd ce cc
            have ca := cell_at HR1.out 3 rfl
            have cq := cell_at HR1.out 4 rfl
            go_wp2_with fail
            go_ret
            exact ⟨ret_int HF.out.symm, HB1.out⟩
        · have hs1 := beqF hs
          have HF := Lib.hid (show kindI s k 1 a q true = 0 by unfold kindI; simp [hh, hs, show ¬ k < 3 by omega])
          clear hs
          have HB := Lib.hid (below_alloc2 w (.cells (sgA s) tSagaR) (.cells #[.int .i64 o, .int .i64 d, .int .i64 1, .int .i64 a, .int .i64 q] tRow0))
          have HM := Lib.hid (heap_keep (heap_new w (.cells (sgA s) tSagaR)) (below_alloc _ (.cells #[.int .i64 o, .int .i64 d, .int .i64 1, .int .i64 a, .int .i64 q] tRow0)))
          have HR := Lib.hid (heap_new (w.alloc (.cells (sgA s) tSagaR)) (.cells #[.int .i64 o, .int .i64 d, .int .i64 1, .int .i64 a, .int .i64 q] tRow0))
          rw [show (w.alloc (.cells (sgA s) tSagaR)).heap.size = w.heap.size + 1 by simp] at HR
          have HW := Lib.hid (fun W => refWant_any s k W ⟨by omega, by omega⟩)
          have cd := sg_deed HM.out h0 h6
          rw [hh] at cd
          have ce := sg_deed HM.out (k := k - 3) (by omega) (by omega)
          clear hh
          go_enter Tryd.func42, Tryd.ntmps42
          go_wp2_with fail
          have cc := cell_at HR.out 2 rfl
          go_quiet (fail)
          go_wp2_with fail
          go_ret
          exact ⟨ret_int HF.out.symm, below_drewN' HB.out _⟩
      · have hc1 := beqF hc
        have HF := Lib.hid (show kindI s k c a q true = 3 by unfold kindI; simp [hh, hc])
        clear hc
        have HB := Lib.hid (below_alloc2 w (.cells (sgA s) tSagaR) (.cells #[.int .i64 o, .int .i64 d, .int .i64 c, .int .i64 a, .int .i64 q] tRow0))
        have HM := Lib.hid (heap_keep (heap_new w (.cells (sgA s) tSagaR)) (below_alloc _ (.cells #[.int .i64 o, .int .i64 d, .int .i64 c, .int .i64 a, .int .i64 q] tRow0)))
        have HR := Lib.hid (heap_new (w.alloc (.cells (sgA s) tSagaR)) (.cells #[.int .i64 o, .int .i64 d, .int .i64 c, .int .i64 a, .int .i64 q] tRow0))
        rw [show (w.alloc (.cells (sgA s) tSagaR)).heap.size = w.heap.size + 1 by simp] at HR
        have HW := Lib.hid (fun W => refWant_any s k W ⟨by omega, by omega⟩)
        have cd := sg_deed HM.out h0 h6
        rw [hh] at cd
        have ce := sg_deed HM.out (k := k - 3) (by omega) (by omega)
        clear hh
        go_enter Tryd.func42, Tryd.ntmps42
        go_wp2_with fail
        have cc := cell_at HR.out 2 rfl
        go_quiet (fail)
        go_wp2_with fail
        go_ret
        exact ⟨ret_int HF.out.symm, below_drewN' HB.out _⟩
  · cases ok with
    | false =>
      have HF := Lib.hid (show kindI s k c a q false = 2 by unfold kindI; simp [hh])
      have HB := Lib.hid (below_alloc2 w (.cells (sgA s) tSagaR) (.cells #[.int .i64 o, .int .i64 d, .int .i64 c, .int .i64 a, .int .i64 q] tRow0))
      have HM := Lib.hid (heap_keep (heap_new w (.cells (sgA s) tSagaR)) (below_alloc _ (.cells #[.int .i64 o, .int .i64 d, .int .i64 c, .int .i64 a, .int .i64 q] tRow0)))
      have HR := Lib.hid (heap_new (w.alloc (.cells (sgA s) tSagaR)) (.cells #[.int .i64 o, .int .i64 d, .int .i64 c, .int .i64 a, .int .i64 q] tRow0))
      rw [show (w.alloc (.cells (sgA s) tSagaR)).heap.size = w.heap.size + 1 by simp] at HR
      have HW := Lib.hid (fun W => refWant_any s k W ⟨by omega, by omega⟩)
      have cd := sg_deed HM.out h0 h6
      rw [hh] at cd
      have ce := sg_deed HM.out (k := k - 3) (by omega) (by omega)
      clear hh
      go_enter Tryd.func42, Tryd.ntmps42
      go_wp2_with fail
      have cc := cell_at HR.out 2 rfl
      go_quiet (fail)
      go_wp2_with fail
      go_ret
      exact ⟨ret_int HF.out.symm, below_drewN' HB.out _⟩
    | true =>
      by_cases hc : c = 1
      · subst hc
        have HF := Lib.hid (show kindI s k 1 a q true = 3 by unfold kindI; simp [hh])
        have HB := Lib.hid (below_alloc2 w (.cells (sgA s) tSagaR) (.cells #[.int .i64 o, .int .i64 d, .int .i64 1, .int .i64 a, .int .i64 q] tRow0))
        have HM := Lib.hid (heap_keep (heap_new w (.cells (sgA s) tSagaR)) (below_alloc _ (.cells #[.int .i64 o, .int .i64 d, .int .i64 1, .int .i64 a, .int .i64 q] tRow0)))
        have HR := Lib.hid (heap_new (w.alloc (.cells (sgA s) tSagaR)) (.cells #[.int .i64 o, .int .i64 d, .int .i64 1, .int .i64 a, .int .i64 q] tRow0))
        rw [show (w.alloc (.cells (sgA s) tSagaR)).heap.size = w.heap.size + 1 by simp] at HR
        have HW := Lib.hid (fun W => refWant_any s k W ⟨by omega, by omega⟩)
        have cd := sg_deed HM.out h0 h6
        rw [hh] at cd
        have ce := sg_deed HM.out (k := k - 3) (by omega) (by omega)
        clear hh
        go_enter Tryd.func42, Tryd.ntmps42
        go_wp2_with fail
        have cc := cell_at HR.out 2 rfl
        go_quiet (fail)
        go_wp2_with fail
        go_ret
        exact ⟨ret_int HF.out.symm, below_drewN' HB.out _⟩
      · have hc1 := beqF hc
        have HF := Lib.hid (show kindI s k c a q true = 0 by unfold kindI; simp [hh, hc])
        clear hc
        have HB := Lib.hid (below_alloc2 w (.cells (sgA s) tSagaR) (.cells #[.int .i64 o, .int .i64 d, .int .i64 c, .int .i64 a, .int .i64 q] tRow0))
        have HM := Lib.hid (heap_keep (heap_new w (.cells (sgA s) tSagaR)) (below_alloc _ (.cells #[.int .i64 o, .int .i64 d, .int .i64 c, .int .i64 a, .int .i64 q] tRow0)))
        have HR := Lib.hid (heap_new (w.alloc (.cells (sgA s) tSagaR)) (.cells #[.int .i64 o, .int .i64 d, .int .i64 c, .int .i64 a, .int .i64 q] tRow0))
        rw [show (w.alloc (.cells (sgA s) tSagaR)).heap.size = w.heap.size + 1 by simp] at HR
        have HW := Lib.hid (fun W => refWant_any s k W ⟨by omega, by omega⟩)
        have cd := sg_deed HM.out h0 h6
        rw [hh] at cd
        have ce := sg_deed HM.out (k := k - 3) (by omega) (by omega)
        clear hh
        go_enter Tryd.func42, Tryd.ntmps42
        go_wp2_with fail
        have cc := cell_at HR.out 2 rfl
        go_quiet (fail)
        go_wp2_with fail
        go_ret
        exact ⟨ret_int HF.out.symm, below_drewN' HB.out _⟩
  · cases ok with
    | false =>
      have HF := Lib.hid (show kindI s k c a q false = 0 by unfold kindI; simp [hh, show ¬ k < 3 by omega])
      have HB := Lib.hid (below_alloc2 w (.cells (sgA s) tSagaR) (.cells #[.int .i64 o, .int .i64 d, .int .i64 c, .int .i64 a, .int .i64 q] tRow0))
      have HM := Lib.hid (heap_keep (heap_new w (.cells (sgA s) tSagaR)) (below_alloc _ (.cells #[.int .i64 o, .int .i64 d, .int .i64 c, .int .i64 a, .int .i64 q] tRow0)))
      have HR := Lib.hid (heap_new (w.alloc (.cells (sgA s) tSagaR)) (.cells #[.int .i64 o, .int .i64 d, .int .i64 c, .int .i64 a, .int .i64 q] tRow0))
      rw [show (w.alloc (.cells (sgA s) tSagaR)).heap.size = w.heap.size + 1 by simp] at HR
      have HW := Lib.hid (fun W => refWant_any s k W ⟨by omega, by omega⟩)
      have cd := sg_deed HM.out h0 h6
      rw [hh] at cd
      have ce := sg_deed HM.out (k := k - 3) (by omega) (by omega)
      clear hh
      go_enter Tryd.func42, Tryd.ntmps42
      go_wp2_with fail
      have cc := cell_at HR.out 2 rfl
      go_quiet (fail)
      go_wp2_with fail
      go_ret
      exact ⟨ret_int HF.out.symm, below_drewN' HB.out _⟩
    | true =>
      by_cases hc : c = 1
      · subst hc
        have HF := Lib.hid (show kindI s k 1 a q true = 1 by unfold kindI; simp [hh, show ¬ k < 3 by omega])
        have HB := Lib.hid (below_alloc2 w (.cells (sgA s) tSagaR) (.cells #[.int .i64 o, .int .i64 d, .int .i64 1, .int .i64 a, .int .i64 q] tRow0))
        have HM := Lib.hid (heap_keep (heap_new w (.cells (sgA s) tSagaR)) (below_alloc _ (.cells #[.int .i64 o, .int .i64 d, .int .i64 1, .int .i64 a, .int .i64 q] tRow0)))
        have HR := Lib.hid (heap_new (w.alloc (.cells (sgA s) tSagaR)) (.cells #[.int .i64 o, .int .i64 d, .int .i64 1, .int .i64 a, .int .i64 q] tRow0))
        rw [show (w.alloc (.cells (sgA s) tSagaR)).heap.size = w.heap.size + 1 by simp] at HR
        have HW := Lib.hid (fun W => refWant_any s k W ⟨by omega, by omega⟩)
        have cd := sg_deed HM.out h0 h6
        rw [hh] at cd
        have ce := sg_deed HM.out (k := k - 3) (by omega) (by omega)
        clear hh
        go_enter Tryd.func42, Tryd.ntmps42
        go_wp2_with fail
        have cc := cell_at HR.out 2 rfl
        go_quiet (fail)
        go_wp2_with fail
        go_ret
        exact ⟨ret_int HF.out.symm, below_drewN' HB.out _⟩
      · have hc1 := beqF hc
        have HF := Lib.hid (show kindI s k c a q true = 0 by unfold kindI; simp [hh, hc, show ¬ k < 3 by omega])
        clear hc
        have HB := Lib.hid (below_alloc2 w (.cells (sgA s) tSagaR) (.cells #[.int .i64 o, .int .i64 d, .int .i64 c, .int .i64 a, .int .i64 q] tRow0))
        have HM := Lib.hid (heap_keep (heap_new w (.cells (sgA s) tSagaR)) (below_alloc _ (.cells #[.int .i64 o, .int .i64 d, .int .i64 c, .int .i64 a, .int .i64 q] tRow0)))
        have HR := Lib.hid (heap_new (w.alloc (.cells (sgA s) tSagaR)) (.cells #[.int .i64 o, .int .i64 d, .int .i64 c, .int .i64 a, .int .i64 q] tRow0))
        rw [show (w.alloc (.cells (sgA s) tSagaR)).heap.size = w.heap.size + 1 by simp] at HR
        have HW := Lib.hid (fun W => refWant_any s k W ⟨by omega, by omega⟩)
        have cd := sg_deed HM.out h0 h6
        rw [hh] at cd
        have ce := sg_deed HM.out (k := k - 3) (by omega) (by omega)
        clear hh
        go_enter Tryd.func42, Tryd.ntmps42
        go_wp2_with fail
        have cc := cell_at HR.out 2 rfl
        go_quiet (fail)
        go_wp2_with fail
        go_ret
        exact ⟨ret_int HF.out.symm, below_drewN' HB.out _⟩
theorem refKind_any (s : Sg) (k o d c a q : Int) (ok : Bool) (w : World) (h0 : 0 ≤ k) (h6 : k < 6) :
    Calls Tryd.prog 42 #[sgV s, .int .i64 k, .agg #[.int .i64 o, .int .i64 d, .int .i64 c, .int .i64 a, .int .i64 q], .bool ok] w fun e w' => e = .returned (.int .i64 (kindI s k c a q ok)) ∧ Below w.heap.size w w' := by
  by_cases h : k < 3
  · exact refKind_lo s k o d c a q ok w h0 h
  · exact refKind_hi s k o d c a q ok w (by omega) h6
end Go.Proofs.YtlfibaijpimocaaDoor

/- orders.May: whether a message asks what may be asked. -/
import Derived.Test.YtkmpagijdhhinaaDoorOrdersMay
namespace Go.Proofs.YtkmpagijdhhinaaDoor
open Go.RowKit Key Od

set_option linter.unusedSimpArgs false in
set_option linter.unusedVariables false in
set_option maxRecDepth 100000 in
set_option maxHeartbeats 4000000 in
theorem may_any (w : World) (to o d : Int) (sku : ByteArray) (qty amt cd : Int) (hs : sku.size ≤ 1000000000000) (hP : PT w) :
    Calls Tryd.prog 23 #[.agg #[.int .i64 to, .int .i64 o, .int .i64 d, .string sku, .int .i64 qty, .int .i64 amt, .int .i64 cd]] w fun e w' => e = .returned (.bool (mayB to o d sku.data.toList qty amt cd)) ∧ Below w.heap.size w w' := by
  have HC := Lib.hid (check_any o d)
  have HPT := Lib.hid hP
  have HKb := Lib.hid (heap_new w (.cells #[.int .i64 to, .int .i64 o, .int .i64 d, .string sku, .int .i64 qty, .int .i64 amt, .int .i64 cd] tMsg))
  have HB := Lib.hid (below_alloc w (.cells #[.int .i64 to, .int .i64 o, .int .i64 d, .string sku, .int .i64 qty, .int .i64 amt, .int .i64 cd] tMsg))
  obtain ⟨k0, k1, k2, k3, k4, k5, k6⟩ := cell7 HKb.out
  have HN := Lib.hid (name_any sku)
  obtain ⟨R, hR⟩ : ∃ R, mayB to o d sku.data.toList qty amt cd = R := ⟨_, rfl⟩
  rw [hR]
  have HR := Lib.hid hR
  clear hR hP
  cases hc : chk o d with
  | false =>
    have HF := Lib.hid (HR.out.symm.trans (show mayB to o d sku.data.toList qty amt cd = false by simp [mayB, hc]))
    rw [hc] at HC
    go_enter Tryd.func23, Tryd.ntmps23
    go_wp2_with fail
    refine (HC.out _).mono ?_
    rintro e w1 ⟨rfl, hb⟩
    have HBw := Lib.hid (bch HB.out hb HB.out.size)
    clear hb
    go_wp2_with fail
    go_ret
    exact ⟨by rw [HF.out]; rfl, HBw.out⟩
  | true =>
    rw [hc] at HC
    go_enter Tryd.func23, Tryd.ntmps23
    go_wp2_with fail
    generalize w.alloc (.cells #[.int .i64 to, .int .i64 o, .int .i64 d, .string sku, .int .i64 qty, .int .i64 amt, .int .i64 cd] tMsg) = wb at HKb HB k0 k1 k2 k3 k4 k5 k6 ⊢
    refine (HC.out _).mono ?_
    rintro e w1 ⟨rfl, hb⟩
    have HBw := Lib.hid (bch HB.out hb HB.out.size)
    have HKw := Lib.hid (heap_keep HKb.out hb)
    have HP := Lib.hid (fun W (h : Below w1.heap.size w1 W) => flip_calls (party_any d W ((HPT.out.below HBw.out).below h)))
    clear hb k0 k1 k2 k3 k4 k5 k6
    obtain ⟨c0, c1, c2, c3, c4, c5, c6⟩ := cell7 HKw.out
    go_wp2_with fail
    refine wp_region_still_tail 7 (by kernel_rfl) (by kernel_rfl) ?_
    simp only [List.take_succ_cons, List.take_zero, List.drop_succ_cons, List.drop_zero]
    iterate 5 still_step
    still_call (HP.out _ (below_drew1 (Below.refl _ _)))
    iterate 1 still_step
    refine wpStill_nil ?_
    change wpList _ _ _ _ _ w1.drew
    have HBd := Lib.hid (below_drew1 HBw.out)
    have HKd := Lib.hid (show w1.drew.heap[w.heap.size]? = _ from HKw.out)
    clear HBw HKw c0 c1 c2 c3 c4 c5 c6
    generalize w1.drew = wd at HBd HKd ⊢
    have HBw := HBd
    obtain ⟨c0, c1, c2, c3, c4, c5, c6⟩ := cell7 HKd.out
    by_cases hp : partyI d = to
    · have hp1 := bneF hp.symm
      by_cases hcd : cd = 0
      · have hcd1 := bneF hcd
        have HM := Lib.hid (HR.out.symm.trans (show mayB to o d sku.data.toList qty amt cd = if to = 0 then payB sku.data.toList qty amt else goodsB sku.data.toList qty amt by simp [mayB, hc, hp, hcd]))
        clear hp hcd
        by_cases hto : to = 0
        · have ht := beqT hto
          rw [if_pos hto] at HM
          by_cases h1 : sku.size = 0
          · have g1 := emptyT sku h1
            by_cases h2 : qty = 0
            · have g2 := beqT h2
              by_cases h3 : 1 ≤ amt
              · have g3 : 0 < amt := by omega
                by_cases h4 : amt ≤ 1099511627776
                · skip
                  have HF := Lib.hid (HM.out.trans (show payB sku.data.toList qty amt = true by simp [payB, h1, h2, h3, h4]))
                  go_wp2_with fail
                  go_ret
                  exact ⟨by rw [HF.out]; rfl, HBw.out⟩
                · have HF := Lib.hid (HM.out.trans (show payB sku.data.toList qty amt = false by simp [payB, h4]))
                  have g4 : 1099511627776 < amt := by omega
                  go_wp2_with fail
                  go_ret
                  exact ⟨by rw [HF.out]; rfl, HBw.out⟩
              · have HF := Lib.hid (HM.out.trans (show payB sku.data.toList qty amt = false by simp [payB, h3]))
                have g3 : amt ≤ 0 := by omega
                go_wp2_with fail
                go_ret
                exact ⟨by rw [HF.out]; rfl, HBw.out⟩
            · have HF := Lib.hid (HM.out.trans (show payB sku.data.toList qty amt = false by simp [payB, h2]))
              have g2 := beqF h2
              go_wp2_with fail
              go_ret
              exact ⟨by rw [HF.out]; rfl, HBw.out⟩
          · have HF := Lib.hid (HM.out.trans (show payB sku.data.toList qty amt = false by simp [payB, h1]))
            have g1 := emptyF sku h1
            go_wp2_with fail
            go_ret
            exact ⟨by rw [HF.out]; rfl, HBw.out⟩
        · have ht := beqF hto
          rw [if_neg hto] at HM
          by_cases h1 : 0 < sku.size
          · have g1 := emptyF sku (by omega)
            by_cases h2 : sku.size ≤ 8
            · have g2 : (sku.size : Int) ≤ 8 := by omega
              cases hnm : nameB sku.data.toList with
              | false =>
                have HF := Lib.hid (HM.out.trans (show goodsB sku.data.toList qty amt = false by simp [goodsB, hnm]))
                rw [hnm] at HN
                go_wp2_with fail
                refine (HN.out _ hs).mono ?_
                rintro e w2 ⟨rfl, hb⟩
                have HBz := Lib.hid (bch HBw.out hb HBw.out.size)
                obtain ⟨f0, f1, f2, f3, f4, f5, f6⟩ := cell7 (heap_keep HKd.out hb)
                clear hb
                go_wp2_with fail
                go_ret
                exact ⟨by rw [HF.out]; rfl, HBz.out⟩
              | true =>
                rw [hnm] at HN
                by_cases h3 : 1 ≤ qty
                · have g3 : 0 < qty := by omega
                  by_cases h4 : qty ≤ 999
                  · skip
                    by_cases h5 : amt = 0
                    · have g5 := beqT h5
                      have HF := Lib.hid (HM.out.trans (show goodsB sku.data.toList qty amt = true by simp [goodsB, hnm, h1, h2, h3, h4, h5]))
                      go_wp2_with fail
                      refine (HN.out _ hs).mono ?_
                      rintro e w2 ⟨rfl, hb⟩
                      have HBz := Lib.hid (bch HBw.out hb HBw.out.size)
                      obtain ⟨f0, f1, f2, f3, f4, f5, f6⟩ := cell7 (heap_keep HKd.out hb)
                      clear hb
                      go_wp2_with fail
                      go_ret
                      exact ⟨by rw [HF.out]; rfl, HBz.out⟩
                    · have HF := Lib.hid (HM.out.trans (show goodsB sku.data.toList qty amt = false by simp [goodsB, h5]))
                      have g5 := beqF h5
                      go_wp2_with fail
                      refine (HN.out _ hs).mono ?_
                      rintro e w2 ⟨rfl, hb⟩
                      have HBz := Lib.hid (bch HBw.out hb HBw.out.size)
                      obtain ⟨f0, f1, f2, f3, f4, f5, f6⟩ := cell7 (heap_keep HKd.out hb)
                      clear hb
                      go_wp2_with fail
                      go_ret
                      exact ⟨by rw [HF.out]; rfl, HBz.out⟩
                  · have HF := Lib.hid (HM.out.trans (show goodsB sku.data.toList qty amt = false by simp [goodsB, h4]))
                    have g4 : 999 < qty := by omega
                    go_wp2_with fail
                    refine (HN.out _ hs).mono ?_
                    rintro e w2 ⟨rfl, hb⟩
                    have HBz := Lib.hid (bch HBw.out hb HBw.out.size)
                    obtain ⟨f0, f1, f2, f3, f4, f5, f6⟩ := cell7 (heap_keep HKd.out hb)
                    clear hb
                    go_wp2_with fail
                    go_ret
                    exact ⟨by rw [HF.out]; rfl, HBz.out⟩
                · have HF := Lib.hid (HM.out.trans (show goodsB sku.data.toList qty amt = false by simp [goodsB, h3]))
                  have g3 : qty ≤ 0 := by omega
                  go_wp2_with fail
                  refine (HN.out _ hs).mono ?_
                  rintro e w2 ⟨rfl, hb⟩
                  have HBz := Lib.hid (bch HBw.out hb HBw.out.size)
                  obtain ⟨f0, f1, f2, f3, f4, f5, f6⟩ := cell7 (heap_keep HKd.out hb)
                  clear hb
                  go_wp2_with fail
                  go_ret
                  exact ⟨by rw [HF.out]; rfl, HBz.out⟩
            · have HF := Lib.hid (HM.out.trans (show goodsB sku.data.toList qty amt = false by simp [goodsB, h2]))
              have g2 : 8 < (sku.size : Int) := by omega
              go_wp2_with fail
              go_ret
              exact ⟨by rw [HF.out]; rfl, HBw.out⟩
          · have HF := Lib.hid (HM.out.trans (show goodsB sku.data.toList qty amt = false by simp [goodsB, h1]))
            have g1 := emptyT sku (by omega)
            go_wp2_with fail
            go_ret
            exact ⟨by rw [HF.out]; rfl, HBw.out⟩
      · have HF := Lib.hid (HR.out.symm.trans (show mayB to o d sku.data.toList qty amt cd = false by simp [mayB, hc, hp, hcd]))
        have hcd1 := bneT hcd
        clear hp
        go_wp2_with fail
        go_ret
        exact ⟨by rw [HF.out]; rfl, HBw.out⟩
    · have HF := Lib.hid (HR.out.symm.trans (show mayB to o d sku.data.toList qty amt cd = false by simp [mayB, hc, hp]))
      have hp1 := bneT (fun e : to = partyI d => hp e.symm)
      clear hp
      go_wp2_with fail
      go_ret
      exact ⟨by rw [HF.out]; rfl, HBw.out⟩
end Go.Proofs.YtkmpagijdhhinaaDoor

/- A party's do: charge and ship. -/
import Derived.Test.YtkmpagijdhhinaaDoorPartyDo
namespace Go.Proofs.YtkmpagijdhhinaaDoor
open Go.RowKit Go.Maps Key Od Pa

set_option maxRecDepth 100000 in
set_option maxHeartbeats 4000000 in
theorem do_pay (w : World) (p bk tk wh : Nat) (stock limit seq : Int) (m : Nat) (st : St) (to o : Int) (sku : ByteArray) (qty amt cd : Int) (h : PA w p bk tk wh 0 stock limit seq m st) (hn : st.rows.length < 100000) (hk : chk o 1 = true) (hnew : ∀ y ∈ st.rows, y.1 ≠ (o, 1)) :
    Calls Tryd.prog 32 #[.pointer (some ⟨p, 0, none⟩), .agg #[.int .i64 to, .int .i64 o, .int .i64 1, .string sku, .int .i64 qty, .int .i64 amt, .int .i64 cd]] w fun e w' => e = .returned (.tuple #[]) ∧ PA w' p bk tk wh 0 stock limit seq (m + 1) (doS 0 stock limit st ⟨to, o, 1, sku.data.toList, qty, amt, cd⟩) ∧ Turned (fun i => i = bk ∨ i = tk ∨ i = wh) w w' := by
  have HP := Lib.hid h
  have hl := h.lt
  have HM := Lib.hid (heap_keep (heap_new w (.cells #[.int .i64 to, .int .i64 o, .int .i64 1, .string sku, .int .i64 qty, .int .i64 amt, .int .i64 cd] tMsg)) (below_alloc _ (.cells #[.int .i64 o, .int .i64 1, .int .i64 0, .int .i64 amt, .int .i64 qty] tRow)))
  have hr1 := heap_new (w.alloc (.cells #[.int .i64 to, .int .i64 o, .int .i64 1, .string sku, .int .i64 qty, .int .i64 amt, .int .i64 cd] tMsg)) (.cells #[.int .i64 o, .int .i64 1, .int .i64 0, .int .i64 amt, .int .i64 qty] tRow)
  rw [show (w.alloc (.cells #[.int .i64 to, .int .i64 o, .int .i64 1, .string sku, .int .i64 qty, .int .i64 amt, .int .i64 cd] tMsg)).heap.size = w.heap.size + 1 by simp] at hr1
  have HR := Lib.hid hr1
  have HB := Lib.hid ((below_alloc w (.cells #[.int .i64 to, .int .i64 o, .int .i64 1, .string sku, .int .i64 qty, .int .i64 amt, .int .i64 cd] tMsg)).alloc (by simp) (.cells #[.int .i64 o, .int .i64 1, .int .i64 0, .int .i64 amt, .int .i64 qty] tRow))
  have HNEW := Lib.hid hnew
  clear h hr1 hnew
  go_enter Tryd.func32, Tryd.ntmps32
  go_wp2_with fail
  generalize (w.alloc (.cells #[.int .i64 to, .int .i64 o, .int .i64 1, .string sku, .int .i64 qty, .int .i64 amt, .int .i64 cd] tMsg)).alloc (.cells #[.int .i64 o, .int .i64 1, .int .i64 0, .int .i64 amt, .int .i64 qty] tRow) = w3 at HM HR HB ⊢
  have HP3 := Lib.hid (HP.out.below HB.out)
  obtain ⟨g0, g1, g2, g3, g4, g5, g6⟩ := cell7 HM.out
  obtain ⟨r0, r1, r2, r3, r4⟩ := cell5 HR.out
  obtain ⟨p0, p1, p2, p3, p4, p5, p6⟩ := cell7 HP3.out.hd
  have HB4 := Lib.hid (below_drew1 HB.out)
  have HP4 := Lib.hid (HP3.out.below (below_drew1 (Below.refl _ _)))
  by_cases hen : amt ≤ limit
  · have HDN := Lib.hid (show doneB 0 stock limit st ⟨to, o, 1, sku.data.toList, qty, amt, cd⟩ = true by unfold doneB; simp; exact hen)
    refine wp_region_still_tail 9 (by kernel_rfl) (by kernel_rfl) ?_
    simp only [List.take_succ_cons, List.take_zero, List.drop_succ_cons, List.drop_zero]
    iterate 9 still_step
    refine wpStill_nil ?_
    change wpList _ _ _ _ _ w3.drew
    clear HM HR HB g0 g1 g2 g3 g4 g5 g6 r0 r1 r2 r3 r4 p0 p1 p2 p3 p4 p5 p6 HP3
    generalize w3.drew = w4 at HB4 HP4 ⊢
    go_wp2_with fail
    refine (write_any _ _ _ _ _ _ _ _ _ _ _ _ _ _ _ _ _ HP4.out hn hk HNEW.out).mono ?_
    rintro e w5 ⟨rfl, hp5, ht5⟩
    go_wp2_with fail
    go_end0
    rw [doS, if_pos HDN.out]
    refine ⟨rfl, hp5.more (by omega), ?_⟩
    exact (Turned.of_below HB4.out).far (ht5.mono (fun i hi => .inl (.inl hi)))
  · have HDN := Lib.hid (show doneB 0 stock limit st ⟨to, o, 1, sku.data.toList, qty, amt, cd⟩ = false by unfold doneB; simp; exact Int.not_le.1 hen)
    refine wp_region_still_tail 9 (by kernel_rfl) (by kernel_rfl) ?_
    simp only [List.take_succ_cons, List.take_zero, List.drop_succ_cons, List.drop_zero]
    iterate 9 still_step
    refine wpStill_nil ?_
    change wpList _ _ _ _ _ w3.drew
    clear HM HR HB g0 g1 g2 g3 g4 g5 g6 r0 r1 r2 r3 r4 p0 p1 p2 p3 p4 p5 p6 HP3
    generalize w3.drew = w4 at HB4 HP4 ⊢
    go_wp2_with fail
    refine (write_any _ _ _ _ _ _ _ _ _ _ _ _ _ _ _ _ _ HP4.out hn hk HNEW.out).mono ?_
    rintro e w5 ⟨rfl, hp5, ht5⟩
    go_wp2_with fail
    go_end0
    rw [doS, if_neg (by rw [HDN.out]; simp)]
    refine ⟨rfl, hp5.more (by omega), ?_⟩
    exact (Turned.of_below HB4.out).far (ht5.mono (fun i hi => .inl (.inl hi)))

set_option maxRecDepth 100000 in
set_option maxHeartbeats 4000000 in
theorem do_carry (w : World) (p bk tk wh : Nat) (stock limit seq : Int) (m : Nat) (st : St) (to o : Int) (sku : ByteArray) (qty amt cd : Int) (h : PA w p bk tk wh 2 stock limit seq m st) (hn : st.rows.length < 100000) (hk : chk o 2 = true) (hnew : ∀ y ∈ st.rows, y.1 ≠ (o, 2)) :
    Calls Tryd.prog 32 #[.pointer (some ⟨p, 0, none⟩), .agg #[.int .i64 to, .int .i64 o, .int .i64 2, .string sku, .int .i64 qty, .int .i64 amt, .int .i64 cd]] w fun e w' => e = .returned (.tuple #[]) ∧ PA w' p bk tk wh 2 stock limit seq (m + 1) (doS 2 stock limit st ⟨to, o, 2, sku.data.toList, qty, amt, cd⟩) ∧ Turned (fun i => i = bk ∨ i = tk ∨ i = wh) w w' := by
  have HP := Lib.hid h
  have hl := h.lt
  have HM := Lib.hid (heap_keep (heap_new w (.cells #[.int .i64 to, .int .i64 o, .int .i64 2, .string sku, .int .i64 qty, .int .i64 amt, .int .i64 cd] tMsg)) (below_alloc _ (.cells #[.int .i64 o, .int .i64 2, .int .i64 0, .int .i64 amt, .int .i64 qty] tRow)))
  have hr1 := heap_new (w.alloc (.cells #[.int .i64 to, .int .i64 o, .int .i64 2, .string sku, .int .i64 qty, .int .i64 amt, .int .i64 cd] tMsg)) (.cells #[.int .i64 o, .int .i64 2, .int .i64 0, .int .i64 amt, .int .i64 qty] tRow)
  rw [show (w.alloc (.cells #[.int .i64 to, .int .i64 o, .int .i64 2, .string sku, .int .i64 qty, .int .i64 amt, .int .i64 cd] tMsg)).heap.size = w.heap.size + 1 by simp] at hr1
  have HR := Lib.hid hr1
  have HB := Lib.hid ((below_alloc w (.cells #[.int .i64 to, .int .i64 o, .int .i64 2, .string sku, .int .i64 qty, .int .i64 amt, .int .i64 cd] tMsg)).alloc (by simp) (.cells #[.int .i64 o, .int .i64 2, .int .i64 0, .int .i64 amt, .int .i64 qty] tRow))
  have HNEW := Lib.hid hnew
  clear h hr1 hnew
  go_enter Tryd.func32, Tryd.ntmps32
  go_wp2_with fail
  generalize (w.alloc (.cells #[.int .i64 to, .int .i64 o, .int .i64 2, .string sku, .int .i64 qty, .int .i64 amt, .int .i64 cd] tMsg)).alloc (.cells #[.int .i64 o, .int .i64 2, .int .i64 0, .int .i64 amt, .int .i64 qty] tRow) = w3 at HM HR HB ⊢
  have HP3 := Lib.hid (HP.out.below HB.out)
  obtain ⟨g0, g1, g2, g3, g4, g5, g6⟩ := cell7 HM.out
  obtain ⟨r0, r1, r2, r3, r4⟩ := cell5 HR.out
  obtain ⟨p0, p1, p2, p3, p4, p5, p6⟩ := cell7 HP3.out.hd
  have HB4 := Lib.hid (below_drew1 HB.out)
  have HP4 := Lib.hid (HP3.out.below (below_drew1 (Below.refl _ _)))
  by_cases hen : qty ≤ limit
  · have HDN := Lib.hid (show doneB 2 stock limit st ⟨to, o, 2, sku.data.toList, qty, amt, cd⟩ = true by unfold doneB; simp; exact hen)
    refine wp_region_still_tail 9 (by kernel_rfl) (by kernel_rfl) ?_
    simp only [List.take_succ_cons, List.take_zero, List.drop_succ_cons, List.drop_zero]
    iterate 9 still_step
    refine wpStill_nil ?_
    change wpList _ _ _ _ _ w3.drew
    clear HM HR HB g0 g1 g2 g3 g4 g5 g6 r0 r1 r2 r3 r4 p0 p1 p2 p3 p4 p5 p6 HP3
    generalize w3.drew = w4 at HB4 HP4 ⊢
    go_wp2_with fail
    refine (write_any _ _ _ _ _ _ _ _ _ _ _ _ _ _ _ _ _ HP4.out hn hk HNEW.out).mono ?_
    rintro e w5 ⟨rfl, hp5, ht5⟩
    go_wp2_with fail
    go_end0
    rw [doS, if_pos HDN.out]
    refine ⟨rfl, hp5.more (by omega), ?_⟩
    exact (Turned.of_below HB4.out).far (ht5.mono (fun i hi => .inl (.inl hi)))
  · have HDN := Lib.hid (show doneB 2 stock limit st ⟨to, o, 2, sku.data.toList, qty, amt, cd⟩ = false by unfold doneB; simp; exact Int.not_le.1 hen)
    refine wp_region_still_tail 9 (by kernel_rfl) (by kernel_rfl) ?_
    simp only [List.take_succ_cons, List.take_zero, List.drop_succ_cons, List.drop_zero]
    iterate 9 still_step
    refine wpStill_nil ?_
    change wpList _ _ _ _ _ w3.drew
    clear HM HR HB g0 g1 g2 g3 g4 g5 g6 r0 r1 r2 r3 r4 p0 p1 p2 p3 p4 p5 p6 HP3
    generalize w3.drew = w4 at HB4 HP4 ⊢
    go_wp2_with fail
    refine (write_any _ _ _ _ _ _ _ _ _ _ _ _ _ _ _ _ _ HP4.out hn hk HNEW.out).mono ?_
    rintro e w5 ⟨rfl, hp5, ht5⟩
    go_wp2_with fail
    go_end0
    rw [doS, if_neg (by rw [HDN.out]; simp)]
    refine ⟨rfl, hp5.more (by omega), ?_⟩
    exact (Turned.of_below HB4.out).far (ht5.mono (fun i hi => .inl (.inl hi)))
end Go.Proofs.YtkmpagijdhhinaaDoor

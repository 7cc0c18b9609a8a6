/- The document's waits: Start, Due, Tick: what they compute. -/
import Derived.Test.YtiapahafaoaniaaWaitsRef
namespace Go.Proofs.Ytiapahafaoaniaa
open Go.RowKit Go.Maps Wa Key

theorem refStart_any (w : World) (B : Nat) (v : Value) (l : List W5) (o d now : Int) (h : RWs w B v l) (hl : l.length < 10000) (hB : B ≤ w.heap.size) :
    Calls Try.prog 22 #[v, .agg #[.int .i64 o, .int .i64 d], .int .i64 now] w fun e w' => ∃ v', e = .returned v' ∧ RWs w' B v' (startW l (o, d) now) ∧ Below w.heap.size w w' := by
  obtain ⟨A, c, rfl⟩ := h.shape
  have hkb := heap_new w (.cells #[.int .i64 o, .int .i64 d] tKey)
  have HB0 := Lib.hid (below_alloc w (.cells #[.int .i64 o, .int .i64 d] tKey))
  have HR := Lib.hid (h.below HB0.out)
  obtain ⟨k0, k1, _, _⟩ := cell2 hkb
  have hn := near_bd now
  have hs : B ≤ (w.alloc (.cells #[.int .i64 o, .int .i64 d] tKey)).heap.size := by simp; omega
  clear h hkb
  go_enter Try.func22, Try.ntmps22
  go_wp2_with fail
  generalize w.alloc (.cells #[.int .i64 o, .int .i64 d] tKey) = w1 at HB0 HR k0 k1 hs ⊢
  have G1 := fun W => flip_calls (near_any now W)
  refine wp_region_still_tail 6 (by kernel_rfl) (by kernel_rfl) ?_
  simp only [List.take_succ_cons, List.take_zero, List.drop_succ_cons, List.drop_zero]
  iterate 3 still_step
  still_call (G1 _)
  iterate 2 still_step
  refine wpStill_nil ?_
  change wpList _ _ _ _ _ w1.drew
  go_wp2_with fail
  refine (refPut_any w1.drew B _ l o d 1 (nearI now + 1) false (HR.out.below (below_drew1 (Below.refl _ _))) hl hs).mono ?_
  rintro e w2 ⟨v', rfl, hr, hb⟩
  have HR2 := Lib.hid hr
  have HB2 := Lib.hid (bch (below_drew1 HB0.out) hb HB0.out.size)
  clear hr hb
  go_wp2_with fail
  go_ret
  exact ⟨_, rfl, HR2.out, HB2.out⟩

theorem refDue_any (w : World) (B : Nat) (v : Value) (l : List W5) (o d now : Int) (h : RWs w B v l) (hl : l.length < 10000) (hB : B ≤ w.heap.size) :
    Calls Try.prog 19 #[v, .agg #[.int .i64 o, .int .i64 d], .int .i64 now] w fun e w' => ∃ v', e = .returned v' ∧ RWs w' B v' (dueW l (o, d) now) ∧ Below w.heap.size w w' := by
  obtain ⟨A, c, rfl⟩ := h.shape
  have hkb := heap_new w (.cells #[.int .i64 o, .int .i64 d] tKey)
  have HB0 := Lib.hid (below_alloc w (.cells #[.int .i64 o, .int .i64 d] tKey))
  have HR := Lib.hid (h.below HB0.out)
  obtain ⟨k0, k1, _, _⟩ := cell2 hkb
  have hn := near_bd now
  have hs : B ≤ (w.alloc (.cells #[.int .i64 o, .int .i64 d] tKey)).heap.size := by simp; omega
  clear h hkb
  go_enter Try.func19, Try.ntmps19
  go_wp2_with fail
  generalize w.alloc (.cells #[.int .i64 o, .int .i64 d] tKey) = w1 at HB0 HR k0 k1 hs ⊢
  have G1 := fun W => flip_calls (near_any now W)
  refine wp_region_still_tail 5 (by kernel_rfl) (by kernel_rfl) ?_
  simp only [List.take_succ_cons, List.take_zero, List.drop_succ_cons, List.drop_zero]
  iterate 3 still_step
  still_call (G1 _)
  iterate 1 still_step
  refine wpStill_nil ?_
  change wpList _ _ _ _ _ w1.drew
  go_wp2_with fail
  refine (refPut_any w1.drew B _ l o d 0 (nearI now) false (HR.out.below (below_drew1 (Below.refl _ _))) hl hs).mono ?_
  rintro e w2 ⟨v', rfl, hr, hb⟩
  have HR2 := Lib.hid hr
  have HB2 := Lib.hid (bch (below_drew1 HB0.out) hb HB0.out.size)
  clear hr hb
  go_wp2_with fail
  go_ret
  exact ⟨_, rfl, HR2.out, HB2.out⟩

theorem tick_rel {w wr W0 w2 : World} {u6 u7 : Value} {n6 n7 : Nat} {x6 x7 : List Value} (h6 : wr.ownsRow w.heap.size tRW 5 u6 n6 x6) (h7 : wr.ownsRow w.heap.size tKey 2 u7 n7 x7) (hb : Below w.heap.size w wr) (hA : Below wr.heap.size wr W0) (hg : W0.grownBy w2 u6.ownBlock) :
    w2.ownsRow w.heap.size tKey 2 u7 n7 x7 ∧ Below w.heap.size w w2 :=
  ⟨(own_keep h7 hA).kept hg (own_apart (own_keep h7 hA) (own_keep h6 hA) (by decide)), (bch hb hA hb.size).grown hg (Nat.le_trans hb.size hA.size) (fun j hj => (h6.lt j hj).1)⟩
theorem tick_rel7 {w wr W0 w2 : World} {u6 u7 : Value} {n6 n7 : Nat} {x6 x7 : List Value} (h6 : wr.ownsRow w.heap.size tRW 5 u6 n6 x6) (h7 : wr.ownsRow w.heap.size tKey 2 u7 n7 x7) (hb : Below w.heap.size w wr) (hA : Below wr.heap.size wr W0) (hg : W0.grownBy w2 u7.ownBlock) :
    w2.ownsRow w.heap.size tRW 5 u6 n6 x6 ∧ Below w.heap.size w w2 :=
  ⟨(own_keep h6 hA).kept hg (own_apart (own_keep h6 hA) (own_keep h7 hA) (by decide)), (bch hb hA hb.size).grown hg (Nat.le_trans hb.size hA.size) (fun j hj => (h7.lt j hj).1)⟩
theorem set5_3 {w : World} {b : Nat} {x0 x1 x2 x3 x4 : Value} {T : TypeId} (h : w.heap[b]? = some (.cells #[x0, x1, x2, x3, x4] T (0, 0))) (q : Value) : (w.setCell ⟨b, 3, none⟩ q).heap[b]? = some (.cells #[x0, x1, x2, q, x4] T (0, 0)) := by
  simp [World.setCell, Array.getElem?_modify, h]
theorem own_far {w : World} {B : Nat} {e : TypeId} {z n : Nat} {v : Value} {xs : List Value} (h : w.ownsRow B e z v n xs) {b : Nat} (hb : w.heap.size ≤ b) : some b ≠ v.ownBlock := fun e => by
  have := (h.lt b e.symm).2
  omega
theorem row_next {l : List W5} {m : Int} {k : Nat} {x y : W5} (hx : l[k]? = some x) (hy : tickX m x = y) {w : World} {B : Nat} {v : Value} (h : w.ownsRow B tRW 5 v (((l.take k).map (tickX m)).length + 1) (((l.take k).map (tickX m)).flatMap encW ++ encW y)) : RWs w B v ((l.take (k + 1)).map (tickX m)) := by
  subst hy
  rw [List.take_add_one, hx]
  simpa [RWs] using h

set_option maxRecDepth 100000 in
set_option maxHeartbeats 2000000 in
theorem refTick_any (w : World) (B : Nat) (v : Value) (l : List W5) (now : Int) (h : RWs w B v l) (hl : l.length < 10000) (hgd : Wa.Good l) :
    Calls Try.prog 23 #[v, .int .i64 now] w fun e w' => ∃ v1 v2, e = .returned (.tuple #[v1, v2]) ∧ RWs w' w.heap.size v1 (tickW l now) ∧ w'.ownsRow w.heap.size tKey 2 v2 (toldW l now).length ((toldW l now).flatMap encK) ∧ Below w.heap.size w w' := by
  obtain ⟨i0, hi, hz0, hz1, hz2⟩ := info_parts rw_info
  obtain ⟨j0, hj, hy0, hy1, hy2⟩ := info_parts key_info
  obtain ⟨A, c, rfl⟩ := h.shape
  have HR := Lib.hid h
  have HG := Lib.hid hgd
  have hn := near_any now w
  obtain ⟨m, hm⟩ : ∃ m, nearI now = m := ⟨_, rfl⟩
  have hmb := near_bd now
  rw [hm] at hn hmb
  clear h hgd
  go_enter Try.func23, Try.ntmps23
  go_wp2_with fail
  refine hn.mono ?_
  rintro e w0 ⟨rfl, hw⟩; subst hw
  go_wp2_with fail
  go_loopw [6, 7, 8] (fun u6 u7 i wr => ∃ k : Nat, i = .int .i64 k ∧ k ≤ l.length ∧ RWs wr w.heap.size u6 ((l.take k).map (tickX m)) ∧ wr.ownsRow w.heap.size tKey 2 u7 (toldAt l m k).length ((toldAt l m k).flatMap encK) ∧ Hid (Below w.heap.size w wr)) (fun _ _ i _ => l.length - (intOf i).toNat)
  case atStart => exact ⟨0, rfl, Nat.zero_le _, RWs.nil _ _, by rw [toldAt_zero]; exact World.ownsRow_nil _ _ _ _, Below.refl _ _⟩
  case round =>
    obtain ⟨k, rfl, hk, hrow, htold, HBK⟩ := hrel
    by_cases hkl : k < l.length
    · obtain ⟨x, hx⟩ : ∃ x, l[k]? = some x := ⟨_, List.getElem?_eq_getElem hkl⟩
      obtain ⟨g, rfl, hgl, hlc⟩ := HR.out.ptr (by omega)
      have HRK := Lib.hid (HR.out.below HBK.out)
      have c0 := HRK.out.cells hx 0 (by omega)
      have c1 := HRK.out.cells hx 1 (by omega)
      have c2 := HRK.out.cells hx 2 (by omega)
      have c3 := HRK.out.cells hx 3 (by omega)
      have c4 := HRK.out.cells hx 4 (by omega)
      obtain ⟨⟨o, d⟩, t, n, p⟩ := x
      simp only [encW, List.getElem?_cons_zero, List.getElem?_cons_succ] at c0 c1 c2 c3 c4
      rw [Nat.add_zero] at c0
      have hlt : (k : Int) < l.length := by omega
      have hk0 : (0 : Int) ≤ k := by omega
      have HX := Lib.hid hx
      have hxg := HG.out.bd _ (List.mem_of_getElem? hx)
      simp only [] at hxg
      have htl := toldAt_len l m k
      have hsz := HBK.out.size
      have hl6 : ((l.take k).map (tickX m)).length ≤ k := by simp; omega
      have HROW := Lib.hid hrow
      have HTOLD := Lib.hid htold
      have hrow' : wr.ownsRow w.heap.size tRW 5 u6 ((l.take k).map (tickX m)).length (((l.take k).map (tickX m)).flatMap encW) := hrow
      clear hx hrow
      cases p with
      | true =>
        have HT := Lib.hid (show tickX m ((o, d), t, n, true) = ((o, d), t, n, true) ∧ tellB m ((o, d), t, n, true) = false by simp [tickX, tellB, dueB])
        go_wp2_with (first
          | (at_builtin; (refine wpList_append_own_at _ rfl (.tmp 50) (.tmp 52) tRWs rfl w.heap.size tRW i0 (mkWait ((0, 0), 0, 0, false)) 5 40 Try.underlying43 hi hz0 hz1 hz2 rfl (by decide) u6 _ _ rfl ((hrow'.alloc _).alloc _) ⟨wr.heap.size + 1, 0, none⟩ 1 1 (encW ((o, d), t, n, true)) rfl rfl (five_at _ _ (by simp) _ _ _ _ _ _) (encW_one _) (by unfold maxLen; omega) (by omega) (by simp; omega) ?_; intro v2 w2 ho2 hg2 _ hat2)))
        go_roundw
        case rel =>
          obtain ⟨q1, q2⟩ := tick_rel hrow' HTOLD.out HBK.out ((below_alloc wr _).alloc (by simp) _) hg2
          exact ⟨k + 1, by go_num, by omega, row_next HX.out HT.out.1 ho2, by rw [toldAt_succ HX.out, HT.out.2]; simpa using q1, q2⟩
        case measure => simp [intOf]; omega
      | false =>
        by_cases hnm : n ≤ m
        · by_cases ht5 : 5 ≤ t
          · have HT := Lib.hid (show tickX m ((o, d), t, n, false) = ((o, d), t, n, true) ∧ tellB m ((o, d), t, n, false) = false by simp [tickX, tellB, dueB, hnm, ht5])
            go_wp2_with (first
              | (at_builtin; (refine wpList_append_own_at _ rfl (.tmp 50) (.tmp 52) tRWs rfl w.heap.size tRW i0 (mkWait ((0, 0), 0, 0, false)) 5 40 Try.underlying43 hi hz0 hz1 hz2 rfl (by decide) u6 _ _ rfl ((hrow'.alloc _).alloc _) ⟨wr.heap.size + 1, 0, none⟩ 1 1 (encW ((o, d), t, n, true)) rfl rfl (five_at _ _ (by simp) _ _ _ _ _ _) (encW_one _) (by unfold maxLen; omega) (by omega) (by simp; omega) ?_; intro v2 w2 ho2 hg2 _ hat2)))
            go_roundw
            case rel =>
              obtain ⟨q1, q2⟩ := tick_rel hrow' HTOLD.out HBK.out ((below_alloc wr _).alloc (by simp) _) hg2
              exact ⟨k + 1, by go_num, by omega, row_next HX.out HT.out.1 ho2, by rw [toldAt_succ HX.out, HT.out.2]; simpa using q1, q2⟩
            case measure => simp [intOf]; omega
          · have HT := Lib.hid (show tickX m ((o, d), t, n, false) = ((o, d), t + 1, m + gapI (t + 1), false) ∧ tellB m ((o, d), t, n, false) = true by simp [tickX, tellB, dueB, hnm, ht5, show t < 5 by omega])
            have hgb := gap_bd (t + 1)
            have G1 := Lib.hid (refGap_any (t + 1))
            go_wp2_with fail
            refine (G1.out _).mono ?_
            rintro e w1 ⟨rfl, hb1⟩
            have hx1 := block_new hb1
            obtain ⟨e0, e1, e2, e3, e4⟩ := cell5 hx1
            have hf3 := frozen_at hx1 3
            have HX1 := Lib.hid hx1
            have HW1 := Lib.hid (bch (below_alloc wr _) hb1 (by simp))
            have hw1z := heap_lt hx1
            clear hx1 hb1
            have h7 := own_keep HTOLD.out ((HW1.out.setCell (p := ⟨wr.heap.size, 3, none⟩) (Nat.le_refl _) (.int .i64 (m + gapI (t + 1)))).alloc (by simp; omega) (.cells #[.int .i64 o, .int .i64 d] tKey))
            have hB1 := ((HW1.out.setCell (p := ⟨wr.heap.size, 3, none⟩) (Nat.le_refl _) (.int .i64 (m + gapI (t + 1)))).alloc (by simp; omega) (.cells #[.int .i64 o, .int .i64 d] tKey))
            have HB1 := Lib.hid hB1
            clear hB1
            have HXS := Lib.hid (heap_keep (set5_3 HX1.out (.int .i64 (m + gapI (t + 1)))) (below_alloc _ (.cells #[.int .i64 o, .int .i64 d] tKey)))
            have hfar := own_far HTOLD.out (Nat.le_refl _)
            go_wp2_with (first
              | (at_builtin; (refine wpList_append_own_at _ rfl (.tmp 45) (.tmp 48) 34 rfl w.heap.size tKey j0 (mkKey (0, 0)) 2 16 Try.underlying34 hj hy0 hy1 hy2 rfl (by decide) u7 _ _ rfl h7 ⟨w1.heap.size, 0, none⟩ 1 1 (encK (o, d)) rfl rfl (two_at _ _ (by simp) _ _ _) (by intro u hu; simp [encK] at hu; rcases hu with rfl | rfl <;> rfl) (by unfold maxLen; omega) (by omega) (by simp; omega) ?_; intro v7 w7 ho7 hg7 _ hat7; obtain ⟨f0, f1, f2, f3, f4⟩ := cell5 ((hg7.block wr.heap.size (by simp; omega) hfar).trans HXS.out); obtain ⟨q6, q7⟩ := tick_rel7 hrow' HTOLD.out HBK.out HB1.out hg7; have Q7 := Lib.hid q7; have HO7 := Lib.hid ho7; have hz7 := q7.size; clear q7 ho7 hg7 hat7 hfar h7))
              | (at_builtin; (refine wpList_append_own_at _ rfl (.tmp 50) (.tmp 52) tRWs rfl w.heap.size tRW i0 (mkWait ((0, 0), 0, 0, false)) 5 40 Try.underlying43 hi hz0 hz1 hz2 rfl (by decide) u6 _ _ rfl (q6.alloc _) ⟨w7.heap.size, 0, none⟩ 1 1 (encW ((o, d), t + 1, m + gapI (t + 1), false)) rfl rfl (five_at _ _ rfl _ _ _ _ _ _) (encW_one _) (by unfold maxLen; omega) (by omega) (by simp; omega) ?_; intro v2 w2 ho2 hg2 _ hat2)))
            go_roundw
            case rel =>
              obtain ⟨q1, q2⟩ := tick_rel q6 HO7.out Q7.out (below_alloc w7 _) hg2
              exact ⟨k + 1, by go_num, by omega, row_next HX.out HT.out.1 ho2, by rw [toldAt_succ HX.out, HT.out.2]; simpa [encK] using q1, q2⟩
            case measure => simp [intOf]; omega
        · have HT := Lib.hid (show tickX m ((o, d), t, n, false) = ((o, d), t, n, false) ∧ tellB m ((o, d), t, n, false) = false by simp [tickX, tellB, dueB, hnm])
          have hnm' : m < n := by omega
          go_wp2_with (first
            | (at_builtin; (refine wpList_append_own_at _ rfl (.tmp 50) (.tmp 52) tRWs rfl w.heap.size tRW i0 (mkWait ((0, 0), 0, 0, false)) 5 40 Try.underlying43 hi hz0 hz1 hz2 rfl (by decide) u6 _ _ rfl ((hrow'.alloc _).alloc _) ⟨wr.heap.size + 1, 0, none⟩ 1 1 (encW ((o, d), t, n, false)) rfl rfl (five_at _ _ (by simp) _ _ _ _ _ _) (encW_one _) (by unfold maxLen; omega) (by omega) (by simp; omega) ?_; intro v2 w2 ho2 hg2 _ hat2)))
          go_roundw
          case rel =>
            obtain ⟨q1, q2⟩ := tick_rel hrow' HTOLD.out HBK.out ((below_alloc wr _).alloc (by simp) _) hg2
            exact ⟨k + 1, by go_num, by omega, row_next HX.out HT.out.1 ho2, by rw [toldAt_succ HX.out, HT.out.2]; simpa using q1, q2⟩
          case measure => simp [intOf]; omega
    · obtain rfl : k = l.length := by omega
      have HROW := Lib.hid hrow
      have HTOLD := Lib.hid htold
      clear hrow htold
      go_wp2_with fail
      go_ret2
      have h1 := HROW.out
      have h2 := HTOLD.out
      rw [List.take_length] at h1
      rw [← hm] at h1 h2
      rw [toldAt_all] at h2
      exact ⟨_, _, rfl, h1, h2, HBK.out⟩
end Go.Proofs.Ytiapahafaoaniaa

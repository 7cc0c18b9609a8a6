/- stock's first, last: what they compute. -/
import Derived.Test.YtgpjbigelblanaaGreatDoorStockCell
import Derived.Test.YtgpjbigelblanaaGreatDoorRowValid
import Derived.Deep.Cut
import Derived.Deep.CutRange
namespace Go.Proofs.YtgpjbigelblanaaGreatDoor
open Go.RowKit Go.Maps Key Mon Sk

def rej3 (c k : Nat) : Value := .agg #[.int .i64 0, .int .i64 (c : Int), .int .i64 (k : Int)]
/-- The cell of a field. -/
theorem Strs.at {w W : World} {B : Nat} {A : Option Addr} {n c : Nat} {r : List (List UInt8)} (h : Strs w B (.slice A n c) r) (hb : Below B w W) {k : Nat} {f : List UInt8} (hf : r[k]? = some f) : ∃ b o, A = some ⟨b, o, none⟩ ∧ b < B ∧ W.cell? ⟨b, o + k, none⟩ = some (.string ⟨f.toArray⟩) := by
  obtain ⟨A', n', c', e, _, _, h⟩ := h
  injection e with e1 e2 e3
  subst e1
  obtain ⟨g, hg⟩ : ∃ g, r[0]? = some g := ⟨_, List.getElem?_eq_getElem (by have := (List.getElem?_eq_some_iff.1 hf).1; omega)⟩
  obtain ⟨ad0, u0, e0, _, hc0, _⟩ := h 0 g hg
  obtain ⟨ad, u, rfl, hlt, hc, rfl⟩ := h k f hf
  injection e0 with e0
  subst e0
  have hk := (hb.cell (p := ad.add k) (by rw [block_add]; exact hlt)).trans hc
  rw [Addr.add_zero'] at hc0
  have hsp := World.cell?_spot hc0
  obtain ⟨b, o, sp⟩ := ad
  simp only [] at hsp
  subst hsp
  exact ⟨b, o, rfl, hlt, by rw [Addr.add_lit] at hk; exact hk⟩
theorem Strs.shape {w : World} {B : Nat} {v : Value} {r : List (List UInt8)} (h : Strs w B v r) : ∃ A c, v = .slice A r.length c := by
  obtain ⟨A', n', c', rfl, rfl, _, _⟩ := h
  exact ⟨_, _, rfl⟩
theorem text_ne {a b : List UInt8} (h : a ≠ b) : (a == b) = false := by simpa using h
theorem text_eq {a b : List UInt8} (h : a = b) : (a == b) = true := by simpa using h
def FirstR (r : Line) (e : Ending) : Prop := match Sk.first r with | .inl q => e = .returned (.tuple #[.int .i64 q, rej3 0 0]) | .inr x => e = .returned (.tuple #[.int .i64 0, rej3 x.1 x.2])
set_option maxRecDepth 100000 in
set_option maxHeartbeats 2000000 in
theorem sfirst_any (v : Value) (r : Line) (w : World) (hv : Strs w w.heap.size v r) (h0 : r ≠ []) (hl : r.length ≤ 1000000) (hb8 : ∀ f ∈ r, f.length ≤ 1000000) (hM : MW w) : Calls Tryz.prog 36 #[v] w fun e w' => FirstR r e ∧ Below w.heap.size w w' := by
  obtain ⟨A, c, rfl⟩ := hv.shape
  obtain ⟨f0, hf0⟩ : ∃ f0, r[0]? = some f0 := ⟨_, List.getElem?_eq_getElem (List.length_pos_iff.2 h0)⟩
  have hlen : 0 < r.length := List.length_pos_iff.2 h0
  have hlenI : (0 : Int) < r.length := by omega
  have hhead : r.head? = some f0 := by rw [List.head?_eq_getElem?]; exact hf0
  obtain ⟨b, o, rfl, hbl, _⟩ := hv.at (Below.refl _ _) hf0
  have HW := Lib.hid (fun W k f (hb : Below w.heap.size w W) (hf : r[k]? = some f) => (show W.cell? ⟨b, o + k, none⟩ = some (.string ⟨f.toArray⟩) by obtain ⟨b', o', e, _, h⟩ := hv.at hb hf; cases e; exact h))
  have HA := Lib.hid (below_alloc w (.cells #[.int .i64 0, .int .i64 0, .int .i64 0] tRej))
  have HX := Lib.hid (heap_new w (.cells #[.int .i64 0, .int .i64 0, .int .i64 0] tRej))
  have HM := Lib.hid hM
  clear hv h0 hM
  obtain ⟨wa, hwa⟩ : ∃ wa, w.alloc (.cells #[.int .i64 0, .int .i64 0, .int .i64 0] tRej) = wa := ⟨_, rfl⟩
  rw [hwa] at HA HX
  have hWA := Lib.hid hwa
  clear hwa
  have c0 := HW.out wa 0 f0 HA.out hf0
  rw [Nat.add_zero] at c0
  have HF0 := Lib.hid hf0
  clear hf0
  have HREJ := Lib.hid (fun c k W => sreject_any c k W)
  by_cases hh : f0 = wHead
  · subst hh
    have hq := text_eq (rfl : wHead = wHead)
    by_cases hl2 : r.length = 2
    · have hno : ¬ r.length ≠ 2 := by omega
      obtain ⟨f1, hf1⟩ : ∃ f1, r[1]? = some f1 := ⟨_, List.getElem?_eq_getElem (by omega)⟩
      have hlI : (1 : Int) < r.length := by omega
      have HN := Lib.hid (fun W hM => snumber_any ⟨f1.toArray⟩ 1 1073741824 W (by rw [bytes_size]; exact hb8 f1 (List.mem_of_getElem? hf1)) hM)
      have HWD := Lib.hid (fun W => swide_ok (some ⟨b, o, none⟩) r.length c 2 W (by omega) hl2)
      obtain ⟨x, y, hR⟩ : ∃ x y, getM f1 = (x, y) := ⟨_, _, rfl⟩
      obtain ⟨z, hz⟩ : ∃ z, numB f1 1 1073741824 = z := ⟨_, rfl⟩
      have hF := Lib.hid (show Sk.first r = if z = true then .inl x else .inr (2, 3) by unfold Sk.first; rw [if_neg (by rw [hhead]; simp), if_neg hno, List.getD_eq_getElem?_getD, hf1, Option.getD_some, hR, hz])
      rw [show (⟨f1.toArray⟩ : ByteArray).data.toList = f1 by simp, hR, hz] at HN
      have HF1 := Lib.hid hf1
      clear hR hz hno hf1 hhead hl2
      go_enter Tryz.func36, Tryz.ntmps36
      go_upto_region 1 with (fail)
      rw [hWA.out]
      go_upto_region 3 with (fail)
      go_wp2_with fail
      refine (HWD.out _).mono ?_
      rintro e w1 ⟨rfl, hb1⟩
      have HX1 := Lib.hid (heap_keep HX.out hb1)
      have HB1 := Lib.hid (bch HA.out hb1 HA.out.size)
      clear hb1 c0
      go_upto_region 4 with (fail)
      obtain ⟨w2, hw2⟩ : ∃ w2, w2 = w1.alloc (.cells #[.int .i64 0, .int .i64 0, .int .i64 0] tRej) := ⟨_, rfl⟩
      rw [← hw2]
      have hb2 : Below w1.heap.size w1 w2 := by rw [hw2]; exact below_alloc _ _
      have HX2 := Lib.hid (heap_keep HX1.out hb2); have HB2 := Lib.hid (bch HB1.out hb2 HB1.out.size)
      have HY2 := Lib.hid (show w2.heap[w1.heap.size]? = some (.cells #[.int .i64 0, .int .i64 0, .int .i64 0] tRej (0, 0)) by rw [hw2]; exact heap_new _ _)
      clear hw2 hb2
      obtain ⟨y0, y1, y2, _⟩ := cell3 HY2.out
      have c1 := HW.out w2 1 f1 HB2.out HF1.out
      go_wp2_with fail
      refine (HN.out _ (HM.out.below HB2.out)).mono ?_
      rintro e w3 ⟨rfl, hb3⟩
      have HX3 := Lib.hid (heap_keep HX2.out hb3); have HB3 := Lib.hid (bch HB2.out hb3 HB2.out.size)
      clear hb3 y0 y1 y2 c1
      obtain ⟨d0, d1, d2, e0, e1, e2⟩ := cell3 HX3.out
      cases z with
      | true =>
        go_wp2_with fail
        obtain ⟨m0, m1, m2, _⟩ := cell3 (set3 HX3.out (.int .i64 0) (.int .i64 0) (.int .i64 0))
        refine bodyPost_ret (v := .tuple #[.int .i64 x, .agg #[.int .i64 0, .int .i64 0, .int .i64 0]]) (by simp [results, Tryz.results36, go_sem, m0, m1, m2]) rfl ⟨?_, below_set3 HB3.out (Nat.le_refl _) _ _ _⟩
        unfold FirstR
        rw [hF.out]
        rfl
      | false =>
        go_wp2_with (go_at_call 35; refine (HREJ.out _ _ _).mono ?_; rintro e w4 ⟨rfl, hb⟩; clear d0 d1 d2 e0 e1 e2; have HX4 := Lib.hid (heap_keep HX3.out hb); have HB4 := Lib.hid (bch HB3.out hb HB3.out.size); clear hb; obtain ⟨d0, d1, d2, e0, e1, e2⟩ := cell3 HX4.out)
        obtain ⟨m0, m1, m2, _⟩ := cell3 (set3 HX4.out (.int .i64 0) (.int .i64 2) (.int .i64 3))
        refine bodyPost_ret (v := .tuple #[.int .i64 0, .agg #[.int .i64 0, .int .i64 2, .int .i64 3]]) (by simp [results, Tryz.results36, go_sem, m0, m1, m2]) rfl ⟨?_, below_set3 HB4.out (Nat.le_refl _) _ _ _⟩
        unfold FirstR
        rw [hF.out]
        rfl
    · obtain ⟨m, hm⟩ : ∃ m : Int, m = ((min r.length 2 + 1 : Nat) : Int) := ⟨_, rfl⟩
      have HWD := Lib.hid (fun W => swide_no (some ⟨b, o, none⟩) r.length c 2 W (by omega) (by omega) hl2 m hm)
      have hF := Lib.hid (show Sk.first r = .inr (min r.length 2 + 1, 1) by unfold Sk.first; rw [if_neg (by rw [hhead]; simp), if_pos hl2])
      have hm0 : 0 < m := by omega
      have HMM := Lib.hid hm
      clear hhead hl2 hm
      go_enter Tryz.func36, Tryz.ntmps36
      go_upto_region 1 with (fail)
      rw [hWA.out]
      go_upto_region 3 with (fail)
      go_wp2_with fail
      refine (HWD.out _).mono ?_
      rintro e w1 ⟨rfl, hb1⟩
      have HX1 := Lib.hid (heap_keep HX.out hb1)
      have HB1 := Lib.hid (bch HA.out hb1 HA.out.size)
      have hz1 : w.heap.size < w1.heap.size := heap_lt HX1.out
      clear hb1 c0
      go_upto_region 4 with (fail)
      obtain ⟨w2, hw2⟩ : ∃ w2, w2 = w1.alloc (.cells #[.int .i64 0, .int .i64 m, .int .i64 1] tRej) := ⟨_, rfl⟩
      rw [← hw2]
      have hb2 : Below w1.heap.size w1 w2 := by rw [hw2]; exact below_alloc _ _
      have HX2 := Lib.hid (heap_keep HX1.out hb2); have HB2 := Lib.hid (bch HB1.out hb2 HB1.out.size)
      have HY2 := Lib.hid (show w2.heap[w1.heap.size]? = some (.cells #[.int .i64 0, .int .i64 m, .int .i64 1] tRej (0, 0)) by rw [hw2]; exact heap_new _ _)
      clear hw2 hb2
      generalize w1.heap.size = b1 at HY2 hz1 ⊢
      obtain ⟨y0, y1, y2, _⟩ := cell3 HY2.out
      obtain ⟨d0, d1, d2, e0, e1, e2⟩ := cell3 HX2.out
      go_wp2_with fail
      go_region
      go_wp2_with fail
      obtain ⟨m0, m1, m2, _⟩ := cell3 (set3 HX2.out (.int .i64 0) (.int .i64 m) (.int .i64 1))
      refine bodyPost_ret (v := .tuple #[.int .i64 0, .agg #[.int .i64 0, .int .i64 m, .int .i64 1]]) (by simp [results, Tryz.results36, go_sem, m0, m1, m2]) rfl ⟨?_, below_drew1 (below_set3 HB2.out (Nat.le_refl _) _ _ _)⟩
      unfold FirstR
      rw [hF.out, HMM.out]
      rfl
  · have hF := Lib.hid (show Sk.first r = .inr (1, 7) by unfold Sk.first; rw [if_pos (by rw [hhead]; simpa using hh)])
    have hq := text_ne hh
    unfold wHead at hq
    clear hh
    go_enter Tryz.func36, Tryz.ntmps36
    go_upto_region 1 with (fail)
    rw [hWA.out]
    go_wp2_with (go_at_call 35; refine (HREJ.out _ _ _).mono ?_; rintro e w1 ⟨rfl, hb⟩; have HX1 := Lib.hid (heap_keep HX.out hb); have HB1 := Lib.hid (bch HA.out hb HA.out.size); clear hb; obtain ⟨d0, d1, d2, e0, e1, e2⟩ := cell3 HX1.out)
    obtain ⟨m0, m1, m2, _⟩ := cell3 (set3 HX1.out (.int .i64 0) (.int .i64 1) (.int .i64 7))
    refine bodyPost_ret (v := .tuple #[.int .i64 0, .agg #[.int .i64 0, .int .i64 1, .int .i64 7]]) (by simp [results, Tryz.results36, go_sem, m0, m1, m2]) rfl ⟨?_, below_set3 HB1.out (Nat.le_refl _) _ _ _⟩
    unfold FirstR
    rw [hF.out]
    rfl
/-- What is wrong with an end row. -/
def LastR (r : Line) (many : Nat) (e : Ending) : Prop := match Sk.last r many with | none => e = .returned (rej3 0 0) | some x => e = .returned (rej3 x.1 x.2)
set_option maxRecDepth 100000 in
set_option maxHeartbeats 2000000 in
theorem slast_any (v : Value) (r : Line) (many : Nat) (w : World) (hv : Strs w w.heap.size v r) (hl : r.length ≤ 1000000) (hb8 : ∀ f ∈ r, f.length ≤ 1000000) (_hmany : many ≤ 1000000) (hM : MW w) : Calls Tryz.prog 37 #[v, .int .i64 (many : Int)] w fun e w' => LastR r many e ∧ Below w.heap.size w w' := by
  obtain ⟨A, c, rfl⟩ := hv.shape
  have HA := Lib.hid (below_alloc w (.cells #[.int .i64 0, .int .i64 0, .int .i64 0] tRej))
  have HX := Lib.hid (heap_new w (.cells #[.int .i64 0, .int .i64 0, .int .i64 0] tRej))
  have HM := Lib.hid hM
  clear hM
  obtain ⟨wa, hwa⟩ : ∃ wa, w.alloc (.cells #[.int .i64 0, .int .i64 0, .int .i64 0] tRej) = wa := ⟨_, rfl⟩
  rw [hwa] at HA HX
  have hWA := Lib.hid hwa
  clear hwa
  have HREJ := Lib.hid (fun c k W => sreject_any c k W)
  by_cases hl2 : r.length = 2
  · have hno : ¬ r.length ≠ 2 := by omega
    obtain ⟨f1, hf1⟩ : ∃ f1, r[1]? = some f1 := ⟨_, List.getElem?_eq_getElem (by omega)⟩
    have hlI : (1 : Int) < r.length := by omega
    obtain ⟨b, o, rfl, hbl, _⟩ := hv.at (Below.refl _ _) hf1
    have HW := Lib.hid (fun W k f (hb : Below w.heap.size w W) (hf : r[k]? = some f) => (show W.cell? ⟨b, o + k, none⟩ = some (.string ⟨f.toArray⟩) by obtain ⟨b', o', e, _, h⟩ := hv.at hb hf; cases e; exact h))
    have HN := Lib.hid (fun W hM => get_any ⟨f1.toArray⟩ W (by rw [bytes_size]; exact hb8 f1 (List.mem_of_getElem? hf1)) hM)
    have HWD := Lib.hid (fun W => swide_ok (some ⟨b, o, none⟩) r.length c 2 W (by omega) hl2)
    obtain ⟨x, y, hR⟩ : ∃ x y, getM f1 = (x, y) := ⟨_, _, rfl⟩
    have hF := Lib.hid (show Sk.last r many = if (y && decide (0 ≤ x)) = false then some (2, 3) else if x ≠ many then some (2, 4) else none by unfold Sk.last; rw [if_neg hno, List.getD_eq_getElem?_getD, hf1, Option.getD_some, hR])
    rw [show (⟨f1.toArray⟩ : ByteArray).data.toList = f1 by simp, hR] at HN
    unfold pairV at HN
    have HF1 := Lib.hid hf1
    clear hR hno hf1 hl2 hv
    go_enter Tryz.func37, Tryz.ntmps37
    go_upto_region 1 with (fail)
    rw [hWA.out]
    go_wp2_with fail
    refine (HWD.out _).mono ?_
    rintro e w1 ⟨rfl, hb1⟩
    have HX1 := Lib.hid (heap_keep HX.out hb1)
    have HB1 := Lib.hid (bch HA.out hb1 HA.out.size)
    clear hb1
    go_upto_region 2 with (fail)
    obtain ⟨w2, hw2⟩ : ∃ w2, w2 = w1.alloc (.cells #[.int .i64 0, .int .i64 0, .int .i64 0] tRej) := ⟨_, rfl⟩
    rw [← hw2]
    have hb2 : Below w1.heap.size w1 w2 := by rw [hw2]; exact below_alloc _ _
    have HX2 := Lib.hid (heap_keep HX1.out hb2); have HB2 := Lib.hid (bch HB1.out hb2 HB1.out.size)
    have HY2 := Lib.hid (show w2.heap[w1.heap.size]? = some (.cells #[.int .i64 0, .int .i64 0, .int .i64 0] tRej (0, 0)) by rw [hw2]; exact heap_new _ _)
    clear hw2 hb2
    obtain ⟨y0, y1, y2, _⟩ := cell3 HY2.out
    have c1 := HW.out w2 1 f1 HB2.out HF1.out
    go_wp2_with fail
    refine (HN.out _ (HM.out.below HB2.out)).mono ?_
    rintro e w3 ⟨rfl, hb3⟩
    have HX3 := Lib.hid (heap_keep HX2.out hb3); have HB3 := Lib.hid (bch HB2.out hb3 HB2.out.size)
    clear hb3 y0 y1 y2 c1
    obtain ⟨d0, d1, d2, e0, e1, e2⟩ := cell3 HX3.out
    by_cases hy : (y && decide (0 ≤ x)) = true
    · obtain ⟨rfl, hx0⟩ : y = true ∧ 0 ≤ x := by simpa using hy
      have hx0' := decide_eq_false (show ¬ x < 0 by omega)
      by_cases hxm : x = (many : Int)
      · have hq := bneF hxm
        have hFF := Lib.hid (show Sk.last r many = none by rw [hF.out, if_neg (by rw [hy]; decide), if_neg (by simpa using hxm)])
        clear hxm hy
        go_wp2_with fail
        obtain ⟨m0, m1, m2, _⟩ := cell3 (set3 HX3.out (.int .i64 0) (.int .i64 0) (.int .i64 0))
        refine bodyPost_ret (v := .agg #[.int .i64 0, .int .i64 0, .int .i64 0]) (by simp [results, Tryz.results37, go_sem, m0, m1, m2]) rfl ⟨?_, below_set3 HB3.out (Nat.le_refl _) _ _ _⟩
        unfold LastR
        rw [hFF.out]
        rfl
      · have hq := bneT hxm
        have hFF := Lib.hid (show Sk.last r many = some (2, 4) by rw [hF.out, if_neg (by rw [hy]; decide), if_pos hxm])
        clear hxm hy
        go_wp2_with (go_at_call 35; refine (HREJ.out _ _ _).mono ?_; rintro e w4 ⟨rfl, hb⟩; clear d0 d1 d2 e0 e1 e2; have HX4 := Lib.hid (heap_keep HX3.out hb); have HB4 := Lib.hid (bch HB3.out hb HB3.out.size); clear hb; obtain ⟨d0, d1, d2, e0, e1, e2⟩ := cell3 HX4.out)
        obtain ⟨m0, m1, m2, _⟩ := cell3 (set3 HX4.out (.int .i64 0) (.int .i64 2) (.int .i64 4))
        refine bodyPost_ret (v := .agg #[.int .i64 0, .int .i64 2, .int .i64 4]) (by simp [results, Tryz.results37, go_sem, m0, m1, m2]) rfl ⟨?_, below_set3 HB4.out (Nat.le_refl _) _ _ _⟩
        unfold LastR
        rw [hFF.out]
        rfl
    · have hFF := Lib.hid (show Sk.last r many = some (2, 3) by rw [hF.out, if_pos (by simpa using hy)])
      have hsp : y = false ∨ (y = true ∧ x < 0) := by cases y <;> simp at hy ⊢; exact hy
      clear hy
      rcases hsp with rfl | ⟨rfl, hx0⟩
      · go_wp2_with (go_at_call 35; refine (HREJ.out _ _ _).mono ?_; rintro e w4 ⟨rfl, hb⟩; clear d0 d1 d2 e0 e1 e2; have HX4 := Lib.hid (heap_keep HX3.out hb); have HB4 := Lib.hid (bch HB3.out hb HB3.out.size); clear hb; obtain ⟨d0, d1, d2, e0, e1, e2⟩ := cell3 HX4.out)
        obtain ⟨m0, m1, m2, _⟩ := cell3 (set3 HX4.out (.int .i64 0) (.int .i64 2) (.int .i64 3))
        refine bodyPost_ret (v := .agg #[.int .i64 0, .int .i64 2, .int .i64 3]) (by simp [results, Tryz.results37, go_sem, m0, m1, m2]) rfl ⟨?_, below_set3 HB4.out (Nat.le_refl _) _ _ _⟩
        unfold LastR
        rw [hFF.out]
        rfl
      · have hx0' := decide_eq_true hx0
        go_wp2_with (go_at_call 35; refine (HREJ.out _ _ _).mono ?_; rintro e w4 ⟨rfl, hb⟩; clear d0 d1 d2 e0 e1 e2; have HX4 := Lib.hid (heap_keep HX3.out hb); have HB4 := Lib.hid (bch HB3.out hb HB3.out.size); clear hb; obtain ⟨d0, d1, d2, e0, e1, e2⟩ := cell3 HX4.out)
        obtain ⟨m0, m1, m2, _⟩ := cell3 (set3 HX4.out (.int .i64 0) (.int .i64 2) (.int .i64 3))
        refine bodyPost_ret (v := .agg #[.int .i64 0, .int .i64 2, .int .i64 3]) (by simp [results, Tryz.results37, go_sem, m0, m1, m2]) rfl ⟨?_, below_set3 HB4.out (Nat.le_refl _) _ _ _⟩
        unfold LastR
        rw [hFF.out]
        rfl
  · obtain ⟨m, hm⟩ : ∃ m : Int, m = ((min r.length 2 + 1 : Nat) : Int) := ⟨_, rfl⟩
    have HWD := Lib.hid (fun W => swide_no A r.length c 2 W (by omega) (by omega) hl2 m hm)
    have hF := Lib.hid (show Sk.last r many = some (min r.length 2 + 1, 1) by unfold Sk.last; rw [if_pos hl2])
    have hm0 : 0 < m := by omega
    have HMM := Lib.hid hm
    clear hl2 hm hv
    go_enter Tryz.func37, Tryz.ntmps37
    go_upto_region 1 with (fail)
    rw [hWA.out]
    go_wp2_with fail
    refine (HWD.out _).mono ?_
    rintro e w1 ⟨rfl, hb1⟩
    have HX1 := Lib.hid (heap_keep HX.out hb1)
    have HB1 := Lib.hid (bch HA.out hb1 HA.out.size)
    have hz1 : w.heap.size < w1.heap.size := heap_lt HX1.out
    clear hb1
    go_upto_region 2 with (fail)
    obtain ⟨w2, hw2⟩ : ∃ w2, w2 = w1.alloc (.cells #[.int .i64 0, .int .i64 m, .int .i64 1] tRej) := ⟨_, rfl⟩
    rw [← hw2]
    have hb2 : Below w1.heap.size w1 w2 := by rw [hw2]; exact below_alloc _ _
    have HX2 := Lib.hid (heap_keep HX1.out hb2); have HB2 := Lib.hid (bch HB1.out hb2 HB1.out.size)
    have HY2 := Lib.hid (show w2.heap[w1.heap.size]? = some (.cells #[.int .i64 0, .int .i64 m, .int .i64 1] tRej (0, 0)) by rw [hw2]; exact heap_new _ _)
    clear hw2 hb2
    generalize w1.heap.size = b1 at HY2 hz1 ⊢
    obtain ⟨y0, y1, y2, _⟩ := cell3 HY2.out
    obtain ⟨d0, d1, d2, e0, e1, e2⟩ := cell3 HX2.out
    go_wp2_with fail
    obtain ⟨m0, m1, m2, _⟩ := cell3 (set3 HX2.out (.int .i64 0) (.int .i64 m) (.int .i64 1))
    refine bodyPost_ret (v := .agg #[.int .i64 0, .int .i64 m, .int .i64 1]) (by simp [results, Tryz.results37, go_sem, m0, m1, m2]) rfl ⟨?_, below_set3 HB2.out (Nat.le_refl _) _ _ _⟩
    unfold LastR
    rw [hF.out, HMM.out]
    rfl
end Go.Proofs.YtgpjbigelblanaaGreatDoor

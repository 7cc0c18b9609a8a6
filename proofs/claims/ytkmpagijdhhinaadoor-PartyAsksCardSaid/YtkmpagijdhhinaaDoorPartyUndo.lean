/- A party's undo. -/
import Derived.Test.YtkmpagijdhhinaaDoorPartyDo
namespace Go.Proofs.YtkmpagijdhhinaaDoor
open Go.RowKit Go.Maps Key Od Pa

theorem book_one {l : List R5} (hr : Rise l) {k : Int × Int} {x u : R5} (hf : findR l k = some x) (hu : (k, u) ∈ entR l) : u = x := by
  obtain ⟨h1, h2⟩ := mem_entR.1 hu
  obtain ⟨h3, h4⟩ := find_some hf
  exact hr.uniq h1 h3 (h2.trans h4.symm)
theorem froz5 {w : World} {b : Nat} {cs : Array Value} {T : TypeId} (h : w.heap[b]? = some (.cells cs T (0, 0))) : w.frozen? ⟨b, 0, none⟩ = false ∧ w.frozen? ⟨b, 1, none⟩ = false ∧ w.frozen? ⟨b, 2, none⟩ = false ∧ w.frozen? ⟨b, 3, none⟩ = false ∧ w.frozen? ⟨b, 4, none⟩ = false := ⟨frozen_at h _, frozen_at h _, frozen_at h _, frozen_at h _, frozen_at h _⟩
theorem set5 {w : World} {b : Nat} {x0 x1 x2 x3 x4 : Value} {T : TypeId} (h : w.heap[b]? = some (.cells #[x0, x1, x2, x3, x4] T (0, 0))) (p0 p1 p2 p3 p4 : Value) :
    (((((w.setCell ⟨b, 0, none⟩ p0).setCell ⟨b, 1, none⟩ p1).setCell ⟨b, 2, none⟩ p2).setCell ⟨b, 3, none⟩ p3).setCell ⟨b, 4, none⟩ p4).heap[b]? = some (.cells #[p0, p1, p2, p3, p4] T (0, 0)) := by
  simp [World.setCell, Array.getElem?_modify, h]
theorem turned_set (w : World) (b i : Nat) (v : Value) : Turned (fun j => j = b) w (w.setCell ⟨b, i, none⟩ v) := by
  refine ⟨rfl, rfl, rfl, by simp [World.setCell], fun j _ hj => ?_⟩
  simp [World.setCell, Array.getElem?_modify]
  exact fun e => absurd e.symm hj
theorem turned_set5 (w : World) (b : Nat) (p0 p1 p2 p3 p4 : Value) : Turned (fun j => j = b) w (((((w.setCell ⟨b, 0, none⟩ p0).setCell ⟨b, 1, none⟩ p1).setCell ⟨b, 2, none⟩ p2).setCell ⟨b, 3, none⟩ p3).setCell ⟨b, 4, none⟩ p4) :=
  ((((turned_set w b 0 p0).trans (turned_set _ b 1 p1)).trans (turned_set _ b 2 p2)).trans (turned_set _ b 3 p3)).trans (turned_set _ b 4 p4)
theorem cellN {w : World} {b : Nat} {cs : Array Value} {T : TypeId} {fr : Nat × Nat} (h : w.heap[b]? = some (.cells cs T fr)) {u : World} (hb : Below w.heap.size w u) (i : Nat) {x : Value} (hx : cs[i]? = some x) : u.cell? ⟨b, i, none⟩ = some x := cell_at ((hb.block b (heap_lt h)).trans h) i hx

set_option linter.unusedSimpArgs false in
set_option maxRecDepth 100000 in
set_option maxHeartbeats 4000000 in
theorem undo_row (w : World) (p bk tk wh : Nat) (kind stock limit seq : Int) (m : Nat) (st : St) (to o d : Int) (sku : List UInt8) (qty amt cd : Int) (x : R5) (h : PA w p bk tk wh kind stock limit seq m st) (hn : st.rows.length < 90000)
    (hk : chk o d = true) (hk3 : chk o (d - 3) = true) (hnew : ∀ y ∈ st.rows, y.1 ≠ (o, d)) (hr : Rise st.rows) (hf : findR st.rows (o, d - 3) = some x) (hno : ∀ t, d = 3 → (o, t) ∉ st.rs) (hfg : kind = 1 → freeG st.gs o = st.gs) :
    Calls Tryd.prog 31 #[.pointer (some ⟨p, 0, none⟩), .agg #[.int .i64 o, .int .i64 d], .agg #[.int .i64 o, .int .i64 (d - 3)]] w fun e w' => e = .returned (.tuple #[]) ∧ PA w' p bk tk wh kind stock limit seq (m + 1) (undoS kind st ⟨to, o, d, sku, qty, amt, cd⟩) ∧ Turned (fun i => i = bk ∨ i = tk ∨ i = wh) w w' := by
  have HU := Lib.hid (show undoS kind st ⟨to, o, d, sku, qty, amt, cd⟩ = ⟨insR st.rows ((o, d), 1, x.2.2.1, x.2.2.2), if kind = 1 then freeG st.gs o else st.gs, st.rs⟩ by
    unfold undoS wasR
    simp only [hf, Option.isSome_some, if_true, Option.getD_some])

  have HP := Lib.hid h
  have hl := h.lt
  obtain ⟨d3, hd3⟩ : ∃ d3, d - 3 = d3 := ⟨_, rfl⟩
  rw [hd3] at hk3 hf ⊢
  have HK := Lib.hid (heap_keep (heap_new w (.cells #[.int .i64 o, .int .i64 d] tKey)) (below_alloc _ (.cells #[.int .i64 o, .int .i64 d3] tKey)))
  have hr1 := heap_new (w.alloc (.cells #[.int .i64 o, .int .i64 d] tKey)) (.cells #[.int .i64 o, .int .i64 d3] tKey)
  rw [show (w.alloc (.cells #[.int .i64 o, .int .i64 d] tKey)).heap.size = w.heap.size + 1 by simp] at hr1
  have HW := Lib.hid hr1
  have HB := Lib.hid ((below_alloc w (.cells #[.int .i64 o, .int .i64 d] tKey)).alloc (by simp) (.cells #[.int .i64 o, .int .i64 d3] tKey))
  obtain ⟨kl, hkl⟩ := key_chk (k := (o, d3)) hk3
  have HKL := Lib.hid hkl
  have HF := Lib.hid hf
  have HR := Lib.hid hr
  have HNEW := Lib.hid hnew
  have HFG := Lib.hid hfg
  have HNO := Lib.hid hno
  clear hno
  clear h hr1 hkl hf hnew hr hfg
  go_enter Tryd.func31, Tryd.ntmps31
  go_wp2_with fail
  generalize (w.alloc (.cells #[.int .i64 o, .int .i64 d] tKey)).alloc (.cells #[.int .i64 o, .int .i64 d3] tKey) = w1 at HK HW HB ⊢
  have HP1 := Lib.hid (HP.out.below HB.out)
  obtain ⟨g0, g1, _, _⟩ := cell2 HW.out
  obtain ⟨p0, p1, p2, p3, p4, p5, p6⟩ := cell7 HP1.out.hd
  obtain ⟨xk, xc, xa, xq⟩ := x
  obtain rfl : xk = (o, d3) := (find_some HF.out).2
  have hv : ∀ W, MapL Tryd.prog tKey mkKey mkRow W bk (entR st.rows) → (Instr.lookup tBook (.map (some bk)) (mkKey (o, d3)) true).run Tryd.prog W = .ok (.tuple #[mkRow ((o, d3), xc, xa, xq), .bool true]) W := fun W hW => by
    rcases hW.look lawKey mapBook (zeroRow W) HKL.out (mkKey_inj _) with ⟨u, hu, r, _⟩ | ⟨hno, _⟩
    · rw [book_one HR.out HF.out hu] at r; exact r
    · exact absurd (mem_entR.2 (find_some HF.out)) (fun hx => hno _ hx rfl)
  have hA := hv w1.drew (HP1.out.book.block rfl)
  have hB := hv (w1.alloc (.cells #[.int .i64 0, .int .i64 0, .int .i64 0, .int .i64 0, .int .i64 0] tRow)).drew ((HP1.out.book.alloc _).block rfl)
  have hba := below_alloc w1 (.cells #[.int .i64 0, .int .i64 0, .int .i64 0, .int .i64 0, .int .i64 0] tRow)
  have p3' := (hba.cell (p := ⟨p, 3, none⟩) (heap_lt HP1.out.hd)).trans p3
  have g0' := (hba.cell (p := ⟨w.heap.size + 1, 0, none⟩) (heap_lt HW.out)).trans g0
  have g1' := (hba.cell (p := ⟨w.heap.size + 1, 1, none⟩) (heap_lt HW.out)).trans g1
  simp only [mkKey, mkRow] at hA hB
  clear hv
  go_region
  all_goals
    have hb2 := below_drew1 (below_alloc w1 (.cells #[.int .i64 o, .int .i64 d3, .int .i64 xc, .int .i64 xa, .int .i64 xq] tRow))
    have HRW := Lib.hid (show ((w1.alloc (.cells #[.int .i64 o, .int .i64 d3, .int .i64 xc, .int .i64 xa, .int .i64 xq] tRow)).drew).heap[w1.heap.size]? = _ from heap_new w1 (.cells #[.int .i64 o, .int .i64 d3, .int .i64 xc, .int .i64 xa, .int .i64 xq] tRow))
    have HK2 := Lib.hid (heap_keep HK.out hb2)
    have HW2 := Lib.hid (heap_keep HW.out hb2)
    have HP2 := Lib.hid (HP1.out.below hb2)
    have HB2 := Lib.hid (HB.out.trans (hb2.mono HB.out.size))
    have hz1 := HB.out.size
    have HZ1 := Lib.hid (show w.heap.size + 1 < w1.heap.size from heap_lt HW.out)
    clear hA hB hba p3' g0' g1' g0 g1 p0 p1 p2 p3 p4 p5 p6 hb2 HK HW HP1 HB
    generalize (w1.alloc (.cells #[.int .i64 o, .int .i64 d3, .int .i64 xc, .int .i64 xa, .int .i64 xq] tRow)).drew = w2 at HRW HK2 HW2 HP2 HB2 ⊢
    generalize w1.heap.size = rb at HRW hz1 HZ1 ⊢
    have HP4 := HP2
    have HK4 := HK2
    have HW4 := HW2
    have HRW4 := HRW
    have HTW := Lib.hid (Turned.of_below (S := fun i => i = bk ∨ i = tk ∨ i = wh) HB2.out)
    obtain ⟨w4, hw4⟩ : ∃ w4, w4 = w2 := ⟨_, rfl⟩
    rw [← hw4] at HP4 HK4 HW4 HRW4 HTW ⊢
    clear hw4 HP2 HK2 HW2 HRW HB2
    go_wp2_with fail
    obtain ⟨g0, g1, _, _⟩ := cell2 HW4.out
    obtain ⟨p0, p1, p2, p3, p4, p5, p6⟩ := cell7 HP4.out.hd
    obtain ⟨W, hW, hW', hWm⟩ := HP4.out.what
    have hv : ∀ u, MapL Tryd.prog tKey mkKey mkGoods u wh W → (Instr.lookup tWhat (.map (some wh)) (mkKey (o, d3)) true).run Tryd.prog u = .ok (.tuple #[.agg #[.int .u8 0, .int .u8 0, .int .u8 0, .int .u8 0, .int .u8 0, .int .u8 0, .int .u8 0, .int .u8 0, .int .i64 0], .bool false]) u := fun u hu => by
      rcases hu.look lawKey mapWhat (zeroGoods u) HKL.out (mkKey_inj _) with ⟨t, ht, _⟩ | ⟨_, r, _⟩
      · have := (hW' _ _).1 ht
        exact absurd this.2 (HNO.out t (by simp only [] at this; omega))
      · exact r
    have hA := hv w4.drew (hW.block rfl)
    have hB := hv (w4.alloc (.cells #[.int .u8 0, .int .u8 0, .int .u8 0, .int .u8 0, .int .u8 0, .int .u8 0, .int .u8 0, .int .u8 0, .int .i64 0] tGoods)).drew ((hW.alloc _).block rfl)
    have hba := below_alloc w4 (.cells #[.int .u8 0, .int .u8 0, .int .u8 0, .int .u8 0, .int .u8 0, .int .u8 0, .int .u8 0, .int .u8 0, .int .i64 0] tGoods)
    have p5' := (hba.cell (p := ⟨p, 5, none⟩) (heap_lt HP4.out.hd)).trans p5
    have g0' := (hba.cell (p := ⟨w.heap.size + 1, 0, none⟩) (heap_lt HW4.out)).trans g0
    have g1' := (hba.cell (p := ⟨w.heap.size + 1, 1, none⟩) (heap_lt HW4.out)).trans g1
    simp only [mkKey, mkGoods] at hA hB
    clear hv hW hW' hWm
    go_region
    all_goals
      have hb5 := below_drew1 (below_alloc w4 (.cells #[.int .u8 0, .int .u8 0, .int .u8 0, .int .u8 0, .int .u8 0, .int .u8 0, .int .u8 0, .int .u8 0, .int .i64 0] tGoods))
      have HG5 := Lib.hid (show ((w4.alloc (.cells #[.int .u8 0, .int .u8 0, .int .u8 0, .int .u8 0, .int .u8 0, .int .u8 0, .int .u8 0, .int .u8 0, .int .i64 0] tGoods)).drew).heap[w4.heap.size]? = _ from heap_new w4 (.cells #[.int .u8 0, .int .u8 0, .int .u8 0, .int .u8 0, .int .u8 0, .int .u8 0, .int .u8 0, .int .u8 0, .int .i64 0] tGoods))
      have HK5 := Lib.hid (heap_keep HK4.out hb5)
      have HRW5 := Lib.hid (heap_keep HRW4.out hb5)
      have HP5 := Lib.hid (HP4.out.below hb5)
      have HT5 := Lib.hid (HTW.out.trans (Turned.of_below hb5))
      clear hA hB hba p5' g0' g1' g0 g1 p0 p1 p2 p3 p4 p5 p6 hb5 HK4 HW4 HRW4 HP4 HTW
      generalize (w4.alloc (.cells #[.int .u8 0, .int .u8 0, .int .u8 0, .int .u8 0, .int .u8 0, .int .u8 0, .int .u8 0, .int .u8 0, .int .i64 0] tGoods)).drew = w5 at HG5 HK5 HRW5 HP5 HT5 ⊢
      generalize w4.heap.size = gb at HG5 ⊢
      obtain ⟨k0, k1, _, _⟩ := cell2 HK5.out
      obtain ⟨r0, r1, r2, r3, r4⟩ := cell5 HRW5.out
      go_wp2_with fail
      refine (write_any _ _ _ _ _ _ _ _ _ _ _ _ _ _ _ _ _ HP5.out (by omega) hk HNEW.out).mono ?_
      rintro e w6 ⟨rfl, hp6, ht6⟩
      go_wp2_with fail
      go_end0
      refine ⟨rfl, ?_, HT5.out.trans (ht6.mono (fun i hi => .inl hi))⟩
      rw [HU.out]
      have hfg := HFG.out
      by_cases hki : kind = 1
      · rw [if_pos hki, hfg hki]
        exact hp6.more (by omega)
      · rw [if_neg hki]
        exact hp6.more (by omega)
set_option linter.unusedSimpArgs false in
set_option maxRecDepth 100000 in
set_option maxHeartbeats 4000000 in
theorem undo_none (w : World) (p bk tk wh : Nat) (kind stock limit seq : Int) (m : Nat) (st : St) (to o d : Int) (sku : List UInt8) (qty amt cd : Int) (h : PA w p bk tk wh kind stock limit seq m st) (hn : st.rows.length < 90000)
    (hk : chk o d = true) (hk3 : chk o (d - 3) = true) (hnew : ∀ y ∈ st.rows, y.1 ≠ (o, d)) (hr : Rise st.rows) (hf : findR st.rows (o, d - 3) = none) (hno : ∀ t, d = 3 → (o, t) ∉ st.rs) (hfg : kind = 1 → freeG st.gs o = st.gs) :
    Calls Tryd.prog 31 #[.pointer (some ⟨p, 0, none⟩), .agg #[.int .i64 o, .int .i64 d], .agg #[.int .i64 o, .int .i64 (d - 3)]] w fun e w' => e = .returned (.tuple #[]) ∧ PA w' p bk tk wh kind stock limit seq (m + 1) (undoS kind st ⟨to, o, d, sku, qty, amt, cd⟩) ∧ Turned (fun i => i = bk ∨ i = tk ∨ i = wh) w w' := by
  have HU := Lib.hid (show undoS kind st ⟨to, o, d, sku, qty, amt, cd⟩ = ⟨insR (insR st.rows ((o, d - 3), 2, 0, 0)) ((o, d), 1, 0, 0), if kind = 1 then freeG st.gs o else st.gs, st.rs⟩ by
    unfold undoS wasR
    simp only [hf, Option.isSome_none, Bool.false_eq_true, if_false, Option.getD_none])

  have HP := Lib.hid h
  have hl := h.lt
  obtain ⟨d3, hd3⟩ : ∃ d3, d - 3 = d3 := ⟨_, rfl⟩
  rw [hd3] at hk3 hf HU ⊢
  have HK := Lib.hid (heap_keep (heap_new w (.cells #[.int .i64 o, .int .i64 d] tKey)) (below_alloc _ (.cells #[.int .i64 o, .int .i64 d3] tKey)))
  have hr1 := heap_new (w.alloc (.cells #[.int .i64 o, .int .i64 d] tKey)) (.cells #[.int .i64 o, .int .i64 d3] tKey)
  rw [show (w.alloc (.cells #[.int .i64 o, .int .i64 d] tKey)).heap.size = w.heap.size + 1 by simp] at hr1
  have HW := Lib.hid hr1
  have HB := Lib.hid ((below_alloc w (.cells #[.int .i64 o, .int .i64 d] tKey)).alloc (by simp) (.cells #[.int .i64 o, .int .i64 d3] tKey))
  obtain ⟨kl, hkl⟩ := key_chk (k := (o, d3)) hk3
  have HKL := Lib.hid hkl
  have HF := Lib.hid hf
  have HR := Lib.hid hr
  have HNEW := Lib.hid hnew
  have HFG := Lib.hid hfg
  have HNO := Lib.hid hno
  clear hno
  clear h hr1 hkl hf hnew hr hfg
  go_enter Tryd.func31, Tryd.ntmps31
  go_wp2_with fail
  generalize (w.alloc (.cells #[.int .i64 o, .int .i64 d] tKey)).alloc (.cells #[.int .i64 o, .int .i64 d3] tKey) = w1 at HK HW HB ⊢
  have HP1 := Lib.hid (HP.out.below HB.out)
  obtain ⟨g0, g1, _, _⟩ := cell2 HW.out
  obtain ⟨p0, p1, p2, p3, p4, p5, p6⟩ := cell7 HP1.out.hd
  have hv : ∀ W, MapL Tryd.prog tKey mkKey mkRow W bk (entR st.rows) → (Instr.lookup tBook (.map (some bk)) (mkKey (o, d3)) true).run Tryd.prog W = .ok (.tuple #[mkRow ((0, 0), 0, 0, 0), .bool false]) W := fun W hW => by
    rcases hW.look lawKey mapBook (zeroRow W) HKL.out (mkKey_inj _) with ⟨u, hu, _⟩ | ⟨hno, r, _⟩
    · obtain ⟨h1, h2⟩ := mem_entR.1 hu
      exact absurd h2 (find_none HF.out u h1)
    · exact r
  have hA := hv w1.drew (HP1.out.book.block rfl)
  have hB := hv (w1.alloc (.cells #[.int .i64 0, .int .i64 0, .int .i64 0, .int .i64 0, .int .i64 0] tRow)).drew ((HP1.out.book.alloc _).block rfl)
  have hba := below_alloc w1 (.cells #[.int .i64 0, .int .i64 0, .int .i64 0, .int .i64 0, .int .i64 0] tRow)
  have p3' := (hba.cell (p := ⟨p, 3, none⟩) (heap_lt HP1.out.hd)).trans p3
  have g0' := (hba.cell (p := ⟨w.heap.size + 1, 0, none⟩) (heap_lt HW.out)).trans g0
  have g1' := (hba.cell (p := ⟨w.heap.size + 1, 1, none⟩) (heap_lt HW.out)).trans g1
  simp only [mkKey, mkRow] at hA hB
  clear hv
  go_region
  all_goals
    have hb2 := below_drew1 (below_alloc w1 (.cells #[.int .i64 0, .int .i64 0, .int .i64 0, .int .i64 0, .int .i64 0] tRow))
    have HRW := Lib.hid (show ((w1.alloc (.cells #[.int .i64 0, .int .i64 0, .int .i64 0, .int .i64 0, .int .i64 0] tRow)).drew).heap[w1.heap.size]? = _ from heap_new w1 (.cells #[.int .i64 0, .int .i64 0, .int .i64 0, .int .i64 0, .int .i64 0] tRow))
    have HK2 := Lib.hid (heap_keep HK.out hb2)
    have HW2 := Lib.hid (heap_keep HW.out hb2)
    have HP2 := Lib.hid (HP1.out.below hb2)
    have HB2 := Lib.hid (HB.out.trans (hb2.mono HB.out.size))
    have hz1 := HB.out.size
    have HZ1 := Lib.hid (show w.heap.size + 1 < w1.heap.size from heap_lt HW.out)
    clear hA hB hba p3' g0' g1' g0 g1 p0 p1 p2 p3 p4 p5 p6 hb2 HK HW HP1 HB
    generalize (w1.alloc (.cells #[.int .i64 0, .int .i64 0, .int .i64 0, .int .i64 0, .int .i64 0] tRow)).drew = w2 at HRW HK2 HW2 HP2 HB2 ⊢
    generalize w1.heap.size = rb at HRW hz1 HZ1 ⊢
    obtain ⟨g0, g1, _, _⟩ := cell2 HW2.out
    obtain ⟨r0, r1, r2, r3, r4⟩ := cell5 HRW.out
    obtain ⟨f0, f1, f2, f3, f4⟩ := froz5 HRW.out
    go_wp2_with fail
    have HRW3 := Lib.hid (set5 HRW.out (.int .i64 o) (.int .i64 d3) (.int .i64 0) (.int .i64 0) (.int .i64 0))
    have ht3 : Turned (fun i => i = rb) w2 (((((w2.setCell ⟨rb, 0, none⟩ (.int .i64 o)).setCell ⟨rb, 1, none⟩ (.int .i64 d3)).setCell ⟨rb, 2, none⟩ (.int .i64 0)).setCell ⟨rb, 3, none⟩ (.int .i64 0)).setCell ⟨rb, 4, none⟩ (.int .i64 0)) := turned_set5 ..
    have hne3 := HP.out.lt
    have HP3 := Lib.hid (HP2.out.turned ht3 (by omega) (by omega) (by omega) (by omega))
    have HK3 := Lib.hid ((ht3.block _ (heap_lt HK2.out) (by have := HZ1.out; omega)).trans HK2.out)
    have HW3 := Lib.hid ((ht3.block _ (heap_lt HW2.out) (by have := HZ1.out; omega)).trans HW2.out)
    have HB3 := Lib.hid (Below.turned HB2.out ht3 (fun i hi => by omega) HB2.out.size)
    clear ht3 hne3 HRW HK2 HW2 HP2 HB2 g0 g1 r0 r1 r2 r3 r4 f0 f1 f2 f3 f4
    generalize ((((w2.setCell ⟨rb, 0, none⟩ (.int .i64 o)).setCell ⟨rb, 1, none⟩ (.int .i64 d3)).setCell ⟨rb, 2, none⟩ (.int .i64 0)).setCell ⟨rb, 3, none⟩ (.int .i64 0)).setCell ⟨rb, 4, none⟩ (.int .i64 0) = w3 at HRW3 HP3 HK3 HW3 HB3 ⊢
    obtain ⟨r0, r1, r2, r3, r4⟩ := cell5 HRW3.out
    go_wp2_with fail
    refine (write_any _ _ _ _ _ _ _ _ _ _ _ _ _ _ _ _ _ HP3.out (by omega) hk3 (fun y hy => find_none HF.out y hy)).mono ?_
    rintro e w4 ⟨rfl, hp4, ht4⟩
    have HP4 := Lib.hid hp4
    have hne3 := HP.out.lt
    have HK4 := Lib.hid ((ht4.block _ (heap_lt HK3.out) (by omega)).trans HK3.out)
    have HW4 := Lib.hid ((ht4.block _ (heap_lt HW3.out) (by omega)).trans HW3.out)
    have HRW4 := Lib.hid ((ht4.block _ (heap_lt HRW3.out) (by omega)).trans HRW3.out)
    have HTW := Lib.hid ((Turned.of_below HB3.out).far (S := fun i => i = bk ∨ i = tk ∨ i = wh) (ht4.mono (fun i hi => .inl (.inl hi))))
    clear hp4 ht4 hne3 HRW3 HK3 HW3 HP3 HB3 r0 r1 r2 r3 r4
    go_wp2_with fail
    obtain ⟨g0, g1, _, _⟩ := cell2 HW4.out
    obtain ⟨p0, p1, p2, p3, p4, p5, p6⟩ := cell7 HP4.out.hd
    obtain ⟨W, hW, hW', hWm⟩ := HP4.out.what
    have hv : ∀ u, MapL Tryd.prog tKey mkKey mkGoods u wh W → (Instr.lookup tWhat (.map (some wh)) (mkKey (o, d3)) true).run Tryd.prog u = .ok (.tuple #[.agg #[.int .u8 0, .int .u8 0, .int .u8 0, .int .u8 0, .int .u8 0, .int .u8 0, .int .u8 0, .int .u8 0, .int .i64 0], .bool false]) u := fun u hu => by
      rcases hu.look lawKey mapWhat (zeroGoods u) HKL.out (mkKey_inj _) with ⟨t, ht, _⟩ | ⟨_, r, _⟩
      · have := (hW' _ _).1 ht
        exact absurd this.2 (HNO.out t (by simp only [] at this; omega))
      · exact r
    have hA := hv w4.drew (hW.block rfl)
    have hB := hv (w4.alloc (.cells #[.int .u8 0, .int .u8 0, .int .u8 0, .int .u8 0, .int .u8 0, .int .u8 0, .int .u8 0, .int .u8 0, .int .i64 0] tGoods)).drew ((hW.alloc _).block rfl)
    have hba := below_alloc w4 (.cells #[.int .u8 0, .int .u8 0, .int .u8 0, .int .u8 0, .int .u8 0, .int .u8 0, .int .u8 0, .int .u8 0, .int .i64 0] tGoods)
    have p5' := (hba.cell (p := ⟨p, 5, none⟩) (heap_lt HP4.out.hd)).trans p5
    have g0' := (hba.cell (p := ⟨w.heap.size + 1, 0, none⟩) (heap_lt HW4.out)).trans g0
    have g1' := (hba.cell (p := ⟨w.heap.size + 1, 1, none⟩) (heap_lt HW4.out)).trans g1
    simp only [mkKey, mkGoods] at hA hB
    clear hv hW hW' hWm
    go_region
    all_goals
      have hb5 := below_drew1 (below_alloc w4 (.cells #[.int .u8 0, .int .u8 0, .int .u8 0, .int .u8 0, .int .u8 0, .int .u8 0, .int .u8 0, .int .u8 0, .int .i64 0] tGoods))
      have HG5 := Lib.hid (show ((w4.alloc (.cells #[.int .u8 0, .int .u8 0, .int .u8 0, .int .u8 0, .int .u8 0, .int .u8 0, .int .u8 0, .int .u8 0, .int .i64 0] tGoods)).drew).heap[w4.heap.size]? = _ from heap_new w4 (.cells #[.int .u8 0, .int .u8 0, .int .u8 0, .int .u8 0, .int .u8 0, .int .u8 0, .int .u8 0, .int .u8 0, .int .i64 0] tGoods))
      have HK5 := Lib.hid (heap_keep HK4.out hb5)
      have HRW5 := Lib.hid (heap_keep HRW4.out hb5)
      have HP5 := Lib.hid (HP4.out.below hb5)
      have HT5 := Lib.hid (HTW.out.trans (Turned.of_below hb5))
      clear hA hB hba p5' g0' g1' g0 g1 p0 p1 p2 p3 p4 p5 p6 hb5 HK4 HW4 HRW4 HP4 HTW
      generalize (w4.alloc (.cells #[.int .u8 0, .int .u8 0, .int .u8 0, .int .u8 0, .int .u8 0, .int .u8 0, .int .u8 0, .int .u8 0, .int .i64 0] tGoods)).drew = w5 at HG5 HK5 HRW5 HP5 HT5 ⊢
      generalize w4.heap.size = gb at HG5 ⊢
      obtain ⟨k0, k1, _, _⟩ := cell2 HK5.out
      obtain ⟨r0, r1, r2, r3, r4⟩ := cell5 HRW5.out
      go_wp2_with fail
      refine (write_any _ _ _ _ _ _ _ _ _ _ _ _ _ _ _ _ _ HP5.out (by simp only []; rw [ins_len]; omega) hk (fun y hy => by
          rcases mem_ins.1 hy with rfl | hy
          · exact fun e => by injection e with _ e; omega
          · exact HNEW.out y hy)).mono ?_
      rintro e w6 ⟨rfl, hp6, ht6⟩
      go_wp2_with fail
      go_end0
      refine ⟨rfl, ?_, HT5.out.trans (ht6.mono (fun i hi => .inl hi))⟩
      rw [HU.out]
      have hfg := HFG.out
      by_cases hki : kind = 1
      · rw [if_pos hki, hfg hki]
        exact hp6.more (by omega)
      · rw [if_neg hki]
        exact hp6.more (by omega)
set_option linter.unusedSimpArgs false in
set_option maxRecDepth 100000 in
set_option maxHeartbeats 4000000 in
theorem undo_held (w : World) (p bk tk wh : Nat) (kind stock limit seq : Int) (m : Nat) (st : St) (to o d : Int) (sku : List UInt8) (qty amt cd : Int) (x : R5) (h : PA w p bk tk wh kind stock limit seq m st) (hn : st.rows.length < 90000) (hm : m < 100000)
    (hk : chk o d = true) (hk3 : chk o (d - 3) = true) (hnew : ∀ y ∈ st.rows, y.1 ≠ (o, d)) (hr : Rise st.rows) (hf : findR st.rows (o, d - 3) = some x) (s : List UInt8) (hs8 : s.length ≤ 8) (hrs : (o, s) ∈ st.rs) (h1s : ∀ t, (o, t) ∈ st.rs → t = s) (hd0 : d = 3) (hki : kind = 1) (hfg : ∀ t, used (freeG st.gs o) t = used st.gs t - if s = t then x.2.2.2 else 0) (hu : 0 ≤ used st.gs s ∧ used st.gs s ≤ 1000000000) (hq : 0 ≤ x.2.2.2 ∧ x.2.2.2 ≤ 1000000000) :
    Calls Tryd.prog 31 #[.pointer (some ⟨p, 0, none⟩), .agg #[.int .i64 o, .int .i64 d], .agg #[.int .i64 o, .int .i64 (d - 3)]] w fun e w' => e = .returned (.tuple #[]) ∧ PA w' p bk tk wh kind stock limit seq (m + 1) (undoS kind st ⟨to, o, d, sku, qty, amt, cd⟩) ∧ Turned (fun i => i = bk ∨ i = tk ∨ i = wh) w w' := by
  have HU := Lib.hid (show undoS kind st ⟨to, o, d, sku, qty, amt, cd⟩ = ⟨insR st.rows ((o, d), 1, x.2.2.1, x.2.2.2), if kind = 1 then freeG st.gs o else st.gs, st.rs⟩ by
    unfold undoS wasR
    simp only [hf, Option.isSome_some, if_true, Option.getD_some])

  have HP := Lib.hid h
  have hl := h.lt
  obtain ⟨d3, hd3⟩ : ∃ d3, d - 3 = d3 := ⟨_, rfl⟩
  rw [hd3] at hk3 hf ⊢
  have HK := Lib.hid (heap_keep (heap_new w (.cells #[.int .i64 o, .int .i64 d] tKey)) (below_alloc _ (.cells #[.int .i64 o, .int .i64 d3] tKey)))
  have hr1 := heap_new (w.alloc (.cells #[.int .i64 o, .int .i64 d] tKey)) (.cells #[.int .i64 o, .int .i64 d3] tKey)
  rw [show (w.alloc (.cells #[.int .i64 o, .int .i64 d] tKey)).heap.size = w.heap.size + 1 by simp] at hr1
  have HW := Lib.hid hr1
  have HB := Lib.hid ((below_alloc w (.cells #[.int .i64 o, .int .i64 d] tKey)).alloc (by simp) (.cells #[.int .i64 o, .int .i64 d3] tKey))
  obtain ⟨kl, hkl⟩ := key_chk (k := (o, d3)) hk3
  have HKL := Lib.hid hkl
  have HF := Lib.hid hf
  have HR := Lib.hid hr
  have HNEW := Lib.hid hnew
  have HFG := Lib.hid hfg
  have HRS := Lib.hid hrs
  have H1S := Lib.hid h1s
  have HD0 := Lib.hid hd0
  have HKI := Lib.hid hki
  clear hrs h1s hd0 hki
  clear h hr1 hkl hf hnew hr hfg
  go_enter Tryd.func31, Tryd.ntmps31
  go_wp2_with fail
  generalize (w.alloc (.cells #[.int .i64 o, .int .i64 d] tKey)).alloc (.cells #[.int .i64 o, .int .i64 d3] tKey) = w1 at HK HW HB ⊢
  have HP1 := Lib.hid (HP.out.below HB.out)
  obtain ⟨g0, g1, _, _⟩ := cell2 HW.out
  obtain ⟨p0, p1, p2, p3, p4, p5, p6⟩ := cell7 HP1.out.hd
  obtain ⟨xk, xc, xa, xq⟩ := x
  obtain rfl : xk = (o, d3) := (find_some HF.out).2
  have hv : ∀ W, MapL Tryd.prog tKey mkKey mkRow W bk (entR st.rows) → (Instr.lookup tBook (.map (some bk)) (mkKey (o, d3)) true).run Tryd.prog W = .ok (.tuple #[mkRow ((o, d3), xc, xa, xq), .bool true]) W := fun W hW => by
    rcases hW.look lawKey mapBook (zeroRow W) HKL.out (mkKey_inj _) with ⟨u, hu, r, _⟩ | ⟨hno, _⟩
    · rw [book_one HR.out HF.out hu] at r; exact r
    · exact absurd (mem_entR.2 (find_some HF.out)) (fun hx => hno _ hx rfl)
  have hA := hv w1.drew (HP1.out.book.block rfl)
  have hB := hv (w1.alloc (.cells #[.int .i64 0, .int .i64 0, .int .i64 0, .int .i64 0, .int .i64 0] tRow)).drew ((HP1.out.book.alloc _).block rfl)
  have hba := below_alloc w1 (.cells #[.int .i64 0, .int .i64 0, .int .i64 0, .int .i64 0, .int .i64 0] tRow)
  have p3' := (hba.cell (p := ⟨p, 3, none⟩) (heap_lt HP1.out.hd)).trans p3
  have g0' := (hba.cell (p := ⟨w.heap.size + 1, 0, none⟩) (heap_lt HW.out)).trans g0
  have g1' := (hba.cell (p := ⟨w.heap.size + 1, 1, none⟩) (heap_lt HW.out)).trans g1
  simp only [mkKey, mkRow] at hA hB
  clear hv
  go_region
  · have hb2 := below_drew1 (below_alloc w1 (.cells #[.int .i64 o, .int .i64 d3, .int .i64 xc, .int .i64 xa, .int .i64 xq] tRow))
    have HRW := Lib.hid (show ((w1.alloc (.cells #[.int .i64 o, .int .i64 d3, .int .i64 xc, .int .i64 xa, .int .i64 xq] tRow)).drew).heap[w1.heap.size]? = _ from heap_new w1 (.cells #[.int .i64 o, .int .i64 d3, .int .i64 xc, .int .i64 xa, .int .i64 xq] tRow))
    have HK2 := Lib.hid (heap_keep HK.out hb2)
    have HW2 := Lib.hid (heap_keep HW.out hb2)
    have HP2 := Lib.hid (HP1.out.below hb2)
    have HB2 := Lib.hid (HB.out.trans (hb2.mono HB.out.size))
    have hz1 := HB.out.size
    have HZ1 := Lib.hid (show w.heap.size + 1 < w1.heap.size from heap_lt HW.out)
    clear hA hB hba p3' g0' g1' g0 g1 p0 p1 p2 p3 p4 p5 p6 hb2 HK HW HP1 HB
    generalize (w1.alloc (.cells #[.int .i64 o, .int .i64 d3, .int .i64 xc, .int .i64 xa, .int .i64 xq] tRow)).drew = w2 at HRW HK2 HW2 HP2 HB2 ⊢
    generalize w1.heap.size = rb at HRW hz1 HZ1 ⊢
    have HP4 := HP2
    have HK4 := HK2
    have HW4 := HW2
    have HRW4 := HRW
    have HTW := Lib.hid (Turned.of_below (S := fun i => i = bk ∨ i = tk ∨ i = wh) HB2.out)
    obtain ⟨w4, hw4⟩ : ∃ w4, w4 = w2 := ⟨_, rfl⟩
    rw [← hw4] at HP4 HK4 HW4 HRW4 HTW ⊢
    clear hw4 HP2 HK2 HW2 HRW HB2
    go_wp2_with fail
    obtain ⟨g0, g1, _, _⟩ := cell2 HW4.out
    obtain ⟨p0, p1, p2, p3, p4, p5, p6⟩ := cell7 HP4.out.hd
    obtain ⟨W, hW, hW', hWm⟩ := HP4.out.what
    have hv : ∀ u, MapL Tryd.prog tKey mkKey mkGoods u wh W → (Instr.lookup tWhat (.map (some wh)) (mkKey (o, d3)) true).run Tryd.prog u = .ok (.tuple #[mkGoods s, .bool true]) u := fun u hu => by
      rcases hu.look lawKey mapWhat (zeroGoods u) HKL.out (mkKey_inj _) with ⟨t, ht, r, _⟩ | ⟨hno, _⟩
      · rw [H1S.out t ((hW' _ _).1 ht).2] at r; exact r
      · exact absurd ((hW' (o, d3) s).2 ⟨by have := HD0.out; simp only []; omega, HRS.out⟩) (fun hx => hno _ hx rfl)
    have hA := hv w4.drew (hW.block rfl)
    have hB := hv (w4.alloc (.cells #[.int .u8 0, .int .u8 0, .int .u8 0, .int .u8 0, .int .u8 0, .int .u8 0, .int .u8 0, .int .u8 0, .int .i64 0] tGoods)).drew ((hW.alloc _).block rfl)
    have hba := below_alloc w4 (.cells #[.int .u8 0, .int .u8 0, .int .u8 0, .int .u8 0, .int .u8 0, .int .u8 0, .int .u8 0, .int .u8 0, .int .i64 0] tGoods)
    have p5' := (hba.cell (p := ⟨p, 5, none⟩) (heap_lt HP4.out.hd)).trans p5
    have g0' := (hba.cell (p := ⟨w.heap.size + 1, 0, none⟩) (heap_lt HW4.out)).trans g0
    have g1' := (hba.cell (p := ⟨w.heap.size + 1, 1, none⟩) (heap_lt HW4.out)).trans g1
    simp only [mkKey, mkGoods] at hA hB
    clear hv hW hW' hWm
    go_region
    · have hb5 := below_drew1 (below_alloc w4 (.cells #[.int .u8 (byteI s 0), .int .u8 (byteI s 1), .int .u8 (byteI s 2), .int .u8 (byteI s 3), .int .u8 (byteI s 4), .int .u8 (byteI s 5), .int .u8 (byteI s 6), .int .u8 (byteI s 7), .int .i64 s.length] tGoods))
      have HG5 := Lib.hid (show ((w4.alloc (.cells #[.int .u8 (byteI s 0), .int .u8 (byteI s 1), .int .u8 (byteI s 2), .int .u8 (byteI s 3), .int .u8 (byteI s 4), .int .u8 (byteI s 5), .int .u8 (byteI s 6), .int .u8 (byteI s 7), .int .i64 s.length] tGoods)).drew).heap[w4.heap.size]? = _ from heap_new w4 (.cells #[.int .u8 (byteI s 0), .int .u8 (byteI s 1), .int .u8 (byteI s 2), .int .u8 (byteI s 3), .int .u8 (byteI s 4), .int .u8 (byteI s 5), .int .u8 (byteI s 6), .int .u8 (byteI s 7), .int .i64 s.length] tGoods))
      have HK5 := Lib.hid (heap_keep HK4.out hb5)
      have HRW5 := Lib.hid (heap_keep HRW4.out hb5)
      have HP5 := Lib.hid (HP4.out.below hb5)
      have HT5 := Lib.hid (HTW.out.trans (Turned.of_below hb5))
      clear hA hB hba p5' g0' g1' g0 g1 p0 p1 p2 p3 p4 p5 p6 hb5 HK4 HW4 HRW4 HP4 HTW
      generalize (w4.alloc (.cells #[.int .u8 (byteI s 0), .int .u8 (byteI s 1), .int .u8 (byteI s 2), .int .u8 (byteI s 3), .int .u8 (byteI s 4), .int .u8 (byteI s 5), .int .u8 (byteI s 6), .int .u8 (byteI s 7), .int .i64 s.length] tGoods)).drew = w5 at HG5 HK5 HRW5 HP5 HT5 ⊢
      generalize w4.heap.size = gb at HG5 ⊢
      obtain ⟨k0, k1, _, _⟩ := cell2 HK5.out
      obtain ⟨r0, r1, r2, r3, r4⟩ := cell5 HRW5.out
      go_wp2_with fail
      obtain ⟨T, hT, hT', hTm⟩ := HP5.out.taken
      have HT5m := Lib.hid hT
      have HT' := Lib.hid hT'
      obtain ⟨n, hn'⟩ : ∃ n, used st.gs s = n := ⟨_, rfl⟩
      rw [hn'] at hu
      have hlu : lookT T s = n := (hT'.2 _ hs8).trans hn'
      have HLU := Lib.hid hlu
      have hTT : MapL Tryd.prog tGoods mkGoods mkInt w5.drew tk T := hT.block rfl
      have hl5 := look_taken hTT s hs8
      rw [hlu] at hl5
      obtain ⟨gl, hgl⟩ := goods_reads s hs8
      obtain ⟨v0, sn, w6, hrun, hg6, hz6, hst6⟩ := hTT.entry lawGoodsL mapTaken zeroInt (by unfold maxLen; omega) hgl (mkGoods_inj _ hs8)
      have hlook6 := hTT.entry_look lawGoodsL mapTaken zeroInt (by unfold maxLen; omega) hgl (mkGoods_inj _ hs8) hrun (V := .int .i64 n) hl5
      obtain ⟨w7, hrun7, hm7, hg7, hz7⟩ := hst6 w6 (n - xq) rfl
      have hTd : Turned (fun i => i = tk) w5 w5.drew := ⟨rfl, rfl, rfl, Nat.le_refl _, fun _ _ _ => rfl⟩
      have hT6 : Turned (fun i => i = tk) w5 w6 := hTd.trans (Turned.of_grown hg6 (fun j hj => by cases hj; rfl))
      have hT7 : Turned (fun i => i = tk) w5 w7 := hT6.trans (Turned.of_grown hg7 (fun j hj => by cases hj; rfl))
      have hgn := map_ne hT HG5.out
      have hrn := map_ne hT HRW5.out
      have hkn := map_ne hT HK5.out
      have hpn := map_ne hT HP5.out.hd
      have HH := Lib.hid (fun W (ht : Turned (fun i => i = tk) w5 W) => (⟨Lib.hid ht, cell_at ((ht.block _ (heap_lt HP5.out.hd) hpn).trans HP5.out.hd) 4 rfl, cell_at ((ht.block _ (heap_lt HRW5.out) hrn).trans HRW5.out) 4 rfl, cell9 ((ht.block _ (heap_lt HG5.out) hgn).trans HG5.out)⟩ : (fun w' => Hid (Turned (fun i => i = tk) w5 w') ∧ w'.cell? ⟨p, 4, none⟩ = some (.map (some tk)) ∧ w'.cell? ⟨rb, 4, none⟩ = some (.int .i64 xq) ∧ w'.cell? ⟨gb, 0, none⟩ = some (.int .u8 (byteI s 0)) ∧ w'.cell? ⟨gb, 1, none⟩ = some (.int .u8 (byteI s 1)) ∧ w'.cell? ⟨gb, 2, none⟩ = some (.int .u8 (byteI s 2)) ∧ w'.cell? ⟨gb, 3, none⟩ = some (.int .u8 (byteI s 3)) ∧ w'.cell? ⟨gb, 4, none⟩ = some (.int .u8 (byteI s 4)) ∧ w'.cell? ⟨gb, 5, none⟩ = some (.int .u8 (byteI s 5)) ∧ w'.cell? ⟨gb, 6, none⟩ = some (.int .u8 (byteI s 6)) ∧ w'.cell? ⟨gb, 7, none⟩ = some (.int .u8 (byteI s 7)) ∧ w'.cell? ⟨gb, 8, none⟩ = some (.int .i64 s.length)) W))
      have hwr : IntKind.i64.wrap (n - xq) = n - xq := by have hq' : 0 ≤ xq ∧ xq ≤ 1000000000 := hq; rw [IntKind.wrap_i64]; omega
      simp only [mkGoods, mkInt, goInt] at hrun hrun7 hlook6 hl5
      have HP7 := Lib.hid (show PA w7 p bk tk wh kind stock limit seq (m + 1) { st with gs := freeG st.gs o } by
        obtain ⟨W, hW, hW', hWm⟩ := HP5.out.what
        have hl4 := HP5.out.lt
        have hne := HP5.out.ne
        refine ⟨(hT7.block p hl4.1 hl4.2.2.2.2.2.1).trans HP5.out.hd, HP5.out.book.block (hT7.block bk hl4.2.1 hne.1), ⟨_, hm7, ?_, ?_⟩, ⟨W, hW.block (hT7.block wh hl4.2.2.2.1 (fun e => hne.2.2 e.symm)), hW', by omega⟩, hne⟩
        · have := taken_free HT'.out hs8 xq HFG.out
          rw [HLU.out] at this
          exact this
        · have : (without T s).length ≤ T.length := List.length_filter_le _ _
          simp only [List.length_cons]
          omega)
      have HK7 := Lib.hid ((hT7.block _ (heap_lt HK5.out) hkn).trans HK5.out)
      have HRW7 := Lib.hid ((hT7.block _ (heap_lt HRW5.out) hrn).trans HRW5.out)
      have HT7 := Lib.hid (HT5.out.trans (hT7.mono (S' := fun i => i = bk ∨ i = tk ∨ i = wh) (fun i hi => .inr (.inl hi))))
      obtain ⟨e0, e1, e2, e3, e4, e5, e6, e7, e8⟩ := cell9 HG5.out
      obtain ⟨p0, p1, p2, p3, p4, p5, p6⟩ := cell7 HP5.out.hd
      clear hst6 hm7 hg6 hg7 hgl hTT hgn hrn hkn hpn hT hT' hlu hTm
      refine wp_region_noPanic ?_
      refine wp_region_held_drew (S := (fun w' => Hid (Turned (fun i => i = tk) w5 w') ∧ w'.cell? ⟨p, 4, none⟩ = some (.map (some tk)) ∧ w'.cell? ⟨rb, 4, none⟩ = some (.int .i64 xq) ∧ w'.cell? ⟨gb, 0, none⟩ = some (.int .u8 (byteI s 0)) ∧ w'.cell? ⟨gb, 1, none⟩ = some (.int .u8 (byteI s 1)) ∧ w'.cell? ⟨gb, 2, none⟩ = some (.int .u8 (byteI s 2)) ∧ w'.cell? ⟨gb, 3, none⟩ = some (.int .u8 (byteI s 3)) ∧ w'.cell? ⟨gb, 4, none⟩ = some (.int .u8 (byteI s 4)) ∧ w'.cell? ⟨gb, 5, none⟩ = some (.int .u8 (byteI s 5)) ∧ w'.cell? ⟨gb, 6, none⟩ = some (.int .u8 (byteI s 6)) ∧ w'.cell? ⟨gb, 7, none⟩ = some (.int .u8 (byteI s 7)) ∧ w'.cell? ⟨gb, 8, none⟩ = some (.int .i64 s.length))) (by kernel_rfl) (HH.out _ hTd) (fun hHeld => ?_)
      refine wpAnyH_take (i := 0) (v := ?vr0) rfl (by kernel_rfl) (by kernel_rfl) (by kernel_rfl) (fun _ _ _ h => h) (Or.inl ⟨by rfl, ?hyr0⟩) (by assumption) ?restr0
      case hyr0 => (intro w0 hSw; (try dsimp only at hSw); go_simp; try with_reducible rfl)
      case' restr0 => try simp only [Act.put, List.getElem_toArray, List.getElem_cons_zero, List.getElem_cons_succ, List.setIfInBounds_toArray, List.set_cons_zero, List.set_cons_succ]
      refine wpAnyH_take (i := 1) (v := ?vr1) rfl (by kernel_rfl) (by kernel_rfl) (by kernel_rfl) (fun _ _ _ h => h) (Or.inl ⟨by rfl, ?hyr1⟩) (by assumption) ?restr1
      case hyr1 => (intro w0 hSw; (try dsimp only at hSw); go_simp; try with_reducible rfl)
      case' restr1 => try simp only [Act.put, List.getElem_toArray, List.getElem_cons_zero, List.getElem_cons_succ, List.setIfInBounds_toArray, List.set_cons_zero, List.set_cons_succ]
      refine wpAnyH_take (i := 2) (v := ?vr2) rfl (by kernel_rfl) (by kernel_rfl) (by kernel_rfl) (fun _ _ _ h => h) (Or.inl ⟨by rfl, ?hyr2⟩) (by assumption) ?restr2
      case hyr2 => (intro w0 hSw; (try dsimp only at hSw); go_simp; try with_reducible rfl)
      case' restr2 => try simp only [Act.put, List.getElem_toArray, List.getElem_cons_zero, List.getElem_cons_succ, List.setIfInBounds_toArray, List.set_cons_zero, List.set_cons_succ]
      refine wpAnyH_take (i := 3) (v := ?vr3) rfl (by kernel_rfl) (by kernel_rfl) (by kernel_rfl) (fun _ _ _ h => h) (Or.inl ⟨by rfl, ?hyr3⟩) (by assumption) ?restr3
      case hyr3 => (intro w0 hSw; (try dsimp only at hSw); go_simp; try with_reducible rfl)
      case' restr3 => try simp only [Act.put, List.getElem_toArray, List.getElem_cons_zero, List.getElem_cons_succ, List.setIfInBounds_toArray, List.set_cons_zero, List.set_cons_succ]
      refine wpAnyH_take (i := 4) (v := ?vr4) rfl (by kernel_rfl) (by kernel_rfl) (by kernel_rfl) (fun _ _ _ h => h) (Or.inl ⟨by rfl, ?hyr4⟩) (by assumption) ?restr4
      case hyr4 => (intro w0 hSw; (try dsimp only at hSw); go_simp; try with_reducible rfl)
      case' restr4 => try simp only [Act.put, List.getElem_toArray, List.getElem_cons_zero, List.getElem_cons_succ, List.setIfInBounds_toArray, List.set_cons_zero, List.set_cons_succ]
      refine wpAnyH_take (i := 6) (v := ?vr6) rfl (by kernel_rfl) (by kernel_rfl) (by kernel_rfl) (fun _ _ _ h => h) (Or.inl ⟨by rfl, ?hyr6⟩) (by assumption) ?restr6
      case hyr6 => (intro w0 hSw; (try dsimp only at hSw); go_simp; try with_reducible rfl)
      case' restr6 => try simp only [Act.put, List.getElem_toArray, List.getElem_cons_zero, List.getElem_cons_succ, List.setIfInBounds_toArray, List.set_cons_zero, List.set_cons_succ]
      refine wpAnyH_take (i := 7) (v := ?vr7) rfl (by kernel_rfl) (by kernel_rfl) (by kernel_rfl) (fun _ _ _ h => h) (Or.inl ⟨by rfl, ?hyr7⟩) (by assumption) ?restr7
      case hyr7 => (intro w0 hSw; (try dsimp only at hSw); go_simp; try with_reducible rfl)
      case' restr7 => try simp only [Act.put, List.getElem_toArray, List.getElem_cons_zero, List.getElem_cons_succ, List.setIfInBounds_toArray, List.set_cons_zero, List.set_cons_succ]
      refine wpAnyH_ready (rs := [5, 9]) (by kernel_rfl) (by simp) ?_
      refine AllReadyH.cons rfl (fun K hK => ?_) (AllReadyH.cons rfl (fun K hK => ?_) AllReadyH.nil)
      rotate_left
      · go_simp
        refine hK.out _ _ (HH.out _ hT6) (fun hHeld => ?_)
        clear hK K
        try simp only [Act.put, List.getElem_toArray, List.getElem_cons_zero, List.getElem_cons_succ, List.setIfInBounds_toArray, List.set_cons_zero, List.set_cons_succ]
        refine wpAnyH_take (i := 10) (v := ?vrb10) rfl (by kernel_rfl) (by kernel_rfl) (by kernel_rfl) (fun _ _ _ h => h) (Or.inl ⟨by rfl, ?hyrb10⟩) (by assumption) ?restrb10
        case hyrb10 => (intro w0 hSw; (try dsimp only at hSw); go_simp; try with_reducible rfl)
        case' restrb10 => try simp only [Act.put, List.getElem_toArray, List.getElem_cons_zero, List.getElem_cons_succ, List.setIfInBounds_toArray, List.set_cons_zero, List.set_cons_succ]
        refine wpAnyH_ready (rs := [5]) (by kernel_rfl) (by simp) ?_
        refine AllReadyH.cons rfl (fun K hK => ?_) AllReadyH.nil
        go_simp
        refine hK.out _ _ (by assumption) (fun hHeld => ?_)
        clear hK K
        try simp only [Act.put, List.getElem_toArray, List.getElem_cons_zero, List.getElem_cons_succ, List.setIfInBounds_toArray, List.set_cons_zero, List.set_cons_succ]
        refine wpAnyH_take (i := 8) (v := ?vrb8) rfl (by kernel_rfl) (by kernel_rfl) (by kernel_rfl) (fun _ _ _ h => h) (Or.inl ⟨by rfl, ?hyrb8⟩) (by assumption) ?restrb8
        case hyrb8 => (intro w0 hSw; (try dsimp only at hSw); go_simp; try with_reducible rfl)
        case' restrb8 => try simp only [Act.put, List.getElem_toArray, List.getElem_cons_zero, List.getElem_cons_succ, List.setIfInBounds_toArray, List.set_cons_zero, List.set_cons_succ]
        refine wpAnyH_ready (rs := [11]) (by kernel_rfl) (by simp) ?_
        refine AllReadyH.cons rfl (fun K hK => ?_) AllReadyH.nil
        go_simp
        refine hK.out _ _ (HH.out _ hT7) (fun hHeld => ?_)
        clear hK K
        try simp only [Act.put, List.getElem_toArray, List.getElem_cons_zero, List.getElem_cons_succ, List.setIfInBounds_toArray, List.set_cons_zero, List.set_cons_succ]
        refine wpAnyH_done (by kernel_rfl) ?_ _
        refine NoPanic.normal ?_
        clear hrun hrun7 hlook6 hl5 e0 e1 e2 e3 e4 e5 e6 e7 e8 p0 p1 p2 p3 p4 p5 p6 k0 k1 r0 r1 r2 r3 r4
        obtain ⟨k0, k1, _, _⟩ := cell2 HK7.out
        obtain ⟨r0, r1, r2, r3, r4⟩ := cell5 HRW7.out
        go_wp2_with fail
        refine (write_any _ _ _ _ _ _ _ _ _ _ _ _ _ _ _ _ _ HP7.out (by simp only []; omega) hk HNEW.out).mono ?_
        rintro e w8 ⟨rfl, hp8, ht8⟩
        go_wp2_with fail
        go_end0
        refine ⟨rfl, ?_, HT7.out.trans (ht8.mono (fun i hi => .inl hi))⟩
        rw [HU.out, if_pos HKI.out]
        exact hp8
      · go_simp
        refine hK.out _ _ (by assumption) (fun hHeld => ?_)
        clear hK K
        try simp only [Act.put, List.getElem_toArray, List.getElem_cons_zero, List.getElem_cons_succ, List.setIfInBounds_toArray, List.set_cons_zero, List.set_cons_succ]
        refine wpAnyH_take (i := 8) (v := ?vra8) rfl (by kernel_rfl) (by kernel_rfl) (by kernel_rfl) (fun _ _ _ h => h) (Or.inl ⟨by rfl, ?hyra8⟩) (by assumption) ?restra8
        case hyra8 => (intro w0 hSw; (try dsimp only at hSw); go_simp; try with_reducible rfl)
        case' restra8 => try simp only [Act.put, List.getElem_toArray, List.getElem_cons_zero, List.getElem_cons_succ, List.setIfInBounds_toArray, List.set_cons_zero, List.set_cons_succ]
        refine wpAnyH_ready (rs := [9]) (by kernel_rfl) (by simp) ?_
        refine AllReadyH.cons rfl (fun K hK => ?_) AllReadyH.nil
        go_simp
        refine hK.out _ _ (HH.out _ hT6) (fun hHeld => ?_)
        clear hK K
        try simp only [Act.put, List.getElem_toArray, List.getElem_cons_zero, List.getElem_cons_succ, List.setIfInBounds_toArray, List.set_cons_zero, List.set_cons_succ]
        refine wpAnyH_take (i := 10) (v := ?vra10) rfl (by kernel_rfl) (by kernel_rfl) (by kernel_rfl) (fun _ _ _ h => h) (Or.inl ⟨by rfl, ?hyra10⟩) (by assumption) ?restra10
        case hyra10 => (intro w0 hSw; (try dsimp only at hSw); go_simp; try with_reducible rfl)
        case' restra10 => try simp only [Act.put, List.getElem_toArray, List.getElem_cons_zero, List.getElem_cons_succ, List.setIfInBounds_toArray, List.set_cons_zero, List.set_cons_succ]
        refine wpAnyH_ready (rs := [11]) (by kernel_rfl) (by simp) ?_
        refine AllReadyH.cons rfl (fun K hK => ?_) AllReadyH.nil
        go_simp
        refine hK.out _ _ (HH.out _ hT7) (fun hHeld => ?_)
        clear hK K
        try simp only [Act.put, List.getElem_toArray, List.getElem_cons_zero, List.getElem_cons_succ, List.setIfInBounds_toArray, List.set_cons_zero, List.set_cons_succ]
        refine wpAnyH_done (by kernel_rfl) ?_ _
        refine NoPanic.normal ?_
        clear hrun hrun7 hlook6 hl5 e0 e1 e2 e3 e4 e5 e6 e7 e8 p0 p1 p2 p3 p4 p5 p6 k0 k1 r0 r1 r2 r3 r4
        obtain ⟨k0, k1, _, _⟩ := cell2 HK7.out
        obtain ⟨r0, r1, r2, r3, r4⟩ := cell5 HRW7.out
        go_wp2_with fail
        refine (write_any _ _ _ _ _ _ _ _ _ _ _ _ _ _ _ _ _ HP7.out (by simp only []; omega) hk HNEW.out).mono ?_
        rintro e w8 ⟨rfl, hp8, ht8⟩
        go_wp2_with fail
        go_end0
        refine ⟨rfl, ?_, HT7.out.trans (ht8.mono (fun i hi => .inl hi))⟩
        rw [HU.out, if_pos HKI.out]
        exact hp8
    · have hb5 := below_drew1 (below_alloc w4 (.cells #[.int .u8 (byteI s 0), .int .u8 (byteI s 1), .int .u8 (byteI s 2), .int .u8 (byteI s 3), .int .u8 (byteI s 4), .int .u8 (byteI s 5), .int .u8 (byteI s 6), .int .u8 (byteI s 7), .int .i64 s.length] tGoods))
      have HG5 := Lib.hid (show ((w4.alloc (.cells #[.int .u8 (byteI s 0), .int .u8 (byteI s 1), .int .u8 (byteI s 2), .int .u8 (byteI s 3), .int .u8 (byteI s 4), .int .u8 (byteI s 5), .int .u8 (byteI s 6), .int .u8 (byteI s 7), .int .i64 s.length] tGoods)).drew).heap[w4.heap.size]? = _ from heap_new w4 (.cells #[.int .u8 (byteI s 0), .int .u8 (byteI s 1), .int .u8 (byteI s 2), .int .u8 (byteI s 3), .int .u8 (byteI s 4), .int .u8 (byteI s 5), .int .u8 (byteI s 6), .int .u8 (byteI s 7), .int .i64 s.length] tGoods))
      have HK5 := Lib.hid (heap_keep HK4.out hb5)
      have HRW5 := Lib.hid (heap_keep HRW4.out hb5)
      have HP5 := Lib.hid (HP4.out.below hb5)
      have HT5 := Lib.hid (HTW.out.trans (Turned.of_below hb5))
      clear hA hB hba p5' g0' g1' g0 g1 p0 p1 p2 p3 p4 p5 p6 hb5 HK4 HW4 HRW4 HP4 HTW
      generalize (w4.alloc (.cells #[.int .u8 (byteI s 0), .int .u8 (byteI s 1), .int .u8 (byteI s 2), .int .u8 (byteI s 3), .int .u8 (byteI s 4), .int .u8 (byteI s 5), .int .u8 (byteI s 6), .int .u8 (byteI s 7), .int .i64 s.length] tGoods)).drew = w5 at HG5 HK5 HRW5 HP5 HT5 ⊢
      generalize w4.heap.size = gb at HG5 ⊢
      obtain ⟨k0, k1, _, _⟩ := cell2 HK5.out
      obtain ⟨r0, r1, r2, r3, r4⟩ := cell5 HRW5.out
      go_wp2_with fail
      obtain ⟨T, hT, hT', hTm⟩ := HP5.out.taken
      have HT5m := Lib.hid hT
      have HT' := Lib.hid hT'
      obtain ⟨n, hn'⟩ : ∃ n, used st.gs s = n := ⟨_, rfl⟩
      rw [hn'] at hu
      have hlu : lookT T s = n := (hT'.2 _ hs8).trans hn'
      have HLU := Lib.hid hlu
      have hTT : MapL Tryd.prog tGoods mkGoods mkInt w5.drew tk T := hT.block rfl
      have hl5 := look_taken hTT s hs8
      rw [hlu] at hl5
      obtain ⟨gl, hgl⟩ := goods_reads s hs8
      obtain ⟨v0, sn, w6, hrun, hg6, hz6, hst6⟩ := hTT.entry lawGoodsL mapTaken zeroInt (by unfold maxLen; omega) hgl (mkGoods_inj _ hs8)
      have hlook6 := hTT.entry_look lawGoodsL mapTaken zeroInt (by unfold maxLen; omega) hgl (mkGoods_inj _ hs8) hrun (V := .int .i64 n) hl5
      obtain ⟨w7, hrun7, hm7, hg7, hz7⟩ := hst6 w6 (n - xq) rfl
      have hTd : Turned (fun i => i = tk) w5 w5.drew := ⟨rfl, rfl, rfl, Nat.le_refl _, fun _ _ _ => rfl⟩
      have hT6 : Turned (fun i => i = tk) w5 w6 := hTd.trans (Turned.of_grown hg6 (fun j hj => by cases hj; rfl))
      have hT7 : Turned (fun i => i = tk) w5 w7 := hT6.trans (Turned.of_grown hg7 (fun j hj => by cases hj; rfl))
      have hgn := map_ne hT HG5.out
      have hrn := map_ne hT HRW5.out
      have hkn := map_ne hT HK5.out
      have hpn := map_ne hT HP5.out.hd
      have HH := Lib.hid (fun W (ht : Turned (fun i => i = tk) w5 W) => (⟨Lib.hid ht, cell_at ((ht.block _ (heap_lt HP5.out.hd) hpn).trans HP5.out.hd) 4 rfl, cell_at ((ht.block _ (heap_lt HRW5.out) hrn).trans HRW5.out) 4 rfl, cell9 ((ht.block _ (heap_lt HG5.out) hgn).trans HG5.out)⟩ : (fun w' => Hid (Turned (fun i => i = tk) w5 w') ∧ w'.cell? ⟨p, 4, none⟩ = some (.map (some tk)) ∧ w'.cell? ⟨rb, 4, none⟩ = some (.int .i64 xq) ∧ w'.cell? ⟨gb, 0, none⟩ = some (.int .u8 (byteI s 0)) ∧ w'.cell? ⟨gb, 1, none⟩ = some (.int .u8 (byteI s 1)) ∧ w'.cell? ⟨gb, 2, none⟩ = some (.int .u8 (byteI s 2)) ∧ w'.cell? ⟨gb, 3, none⟩ = some (.int .u8 (byteI s 3)) ∧ w'.cell? ⟨gb, 4, none⟩ = some (.int .u8 (byteI s 4)) ∧ w'.cell? ⟨gb, 5, none⟩ = some (.int .u8 (byteI s 5)) ∧ w'.cell? ⟨gb, 6, none⟩ = some (.int .u8 (byteI s 6)) ∧ w'.cell? ⟨gb, 7, none⟩ = some (.int .u8 (byteI s 7)) ∧ w'.cell? ⟨gb, 8, none⟩ = some (.int .i64 s.length)) W))
      have hwr : IntKind.i64.wrap (n - xq) = n - xq := by have hq' : 0 ≤ xq ∧ xq ≤ 1000000000 := hq; rw [IntKind.wrap_i64]; omega
      simp only [mkGoods, mkInt, goInt] at hrun hrun7 hlook6 hl5
      have HP7 := Lib.hid (show PA w7 p bk tk wh kind stock limit seq (m + 1) { st with gs := freeG st.gs o } by
        obtain ⟨W, hW, hW', hWm⟩ := HP5.out.what
        have hl4 := HP5.out.lt
        have hne := HP5.out.ne
        refine ⟨(hT7.block p hl4.1 hl4.2.2.2.2.2.1).trans HP5.out.hd, HP5.out.book.block (hT7.block bk hl4.2.1 hne.1), ⟨_, hm7, ?_, ?_⟩, ⟨W, hW.block (hT7.block wh hl4.2.2.2.1 (fun e => hne.2.2 e.symm)), hW', by omega⟩, hne⟩
        · have := taken_free HT'.out hs8 xq HFG.out
          rw [HLU.out] at this
          exact this
        · have : (without T s).length ≤ T.length := List.length_filter_le _ _
          simp only [List.length_cons]
          omega)
      have HK7 := Lib.hid ((hT7.block _ (heap_lt HK5.out) hkn).trans HK5.out)
      have HRW7 := Lib.hid ((hT7.block _ (heap_lt HRW5.out) hrn).trans HRW5.out)
      have HT7 := Lib.hid (HT5.out.trans (hT7.mono (S' := fun i => i = bk ∨ i = tk ∨ i = wh) (fun i hi => .inr (.inl hi))))
      obtain ⟨e0, e1, e2, e3, e4, e5, e6, e7, e8⟩ := cell9 HG5.out
      obtain ⟨p0, p1, p2, p3, p4, p5, p6⟩ := cell7 HP5.out.hd
      clear hst6 hm7 hg6 hg7 hgl hTT hgn hrn hkn hpn hT hT' hlu hTm
      refine wp_region_noPanic ?_
      refine wp_region_held_drew (S := (fun w' => Hid (Turned (fun i => i = tk) w5 w') ∧ w'.cell? ⟨p, 4, none⟩ = some (.map (some tk)) ∧ w'.cell? ⟨rb, 4, none⟩ = some (.int .i64 xq) ∧ w'.cell? ⟨gb, 0, none⟩ = some (.int .u8 (byteI s 0)) ∧ w'.cell? ⟨gb, 1, none⟩ = some (.int .u8 (byteI s 1)) ∧ w'.cell? ⟨gb, 2, none⟩ = some (.int .u8 (byteI s 2)) ∧ w'.cell? ⟨gb, 3, none⟩ = some (.int .u8 (byteI s 3)) ∧ w'.cell? ⟨gb, 4, none⟩ = some (.int .u8 (byteI s 4)) ∧ w'.cell? ⟨gb, 5, none⟩ = some (.int .u8 (byteI s 5)) ∧ w'.cell? ⟨gb, 6, none⟩ = some (.int .u8 (byteI s 6)) ∧ w'.cell? ⟨gb, 7, none⟩ = some (.int .u8 (byteI s 7)) ∧ w'.cell? ⟨gb, 8, none⟩ = some (.int .i64 s.length))) (by kernel_rfl) (HH.out _ hTd) (fun hHeld => ?_)
      refine wpAnyH_take (i := 0) (v := ?vq0) rfl (by kernel_rfl) (by kernel_rfl) (by kernel_rfl) (fun _ _ _ h => h) (Or.inl ⟨by rfl, ?hyq0⟩) (by assumption) ?restq0
      case hyq0 => (intro w0 hSw; (try dsimp only at hSw); go_simp; try with_reducible rfl)
      case' restq0 => try simp only [Act.put, List.getElem_toArray, List.getElem_cons_zero, List.getElem_cons_succ, List.setIfInBounds_toArray, List.set_cons_zero, List.set_cons_succ]
      refine wpAnyH_take (i := 1) (v := ?vq1) rfl (by kernel_rfl) (by kernel_rfl) (by kernel_rfl) (fun _ _ _ h => h) (Or.inl ⟨by rfl, ?hyq1⟩) (by assumption) ?restq1
      case hyq1 => (intro w0 hSw; (try dsimp only at hSw); go_simp; try with_reducible rfl)
      case' restq1 => try simp only [Act.put, List.getElem_toArray, List.getElem_cons_zero, List.getElem_cons_succ, List.setIfInBounds_toArray, List.set_cons_zero, List.set_cons_succ]
      refine wpAnyH_take (i := 2) (v := ?vq2) rfl (by kernel_rfl) (by kernel_rfl) (by kernel_rfl) (fun _ _ _ h => h) (Or.inl ⟨by rfl, ?hyq2⟩) (by assumption) ?restq2
      case hyq2 => (intro w0 hSw; (try dsimp only at hSw); go_simp; try with_reducible rfl)
      case' restq2 => try simp only [Act.put, List.getElem_toArray, List.getElem_cons_zero, List.getElem_cons_succ, List.setIfInBounds_toArray, List.set_cons_zero, List.set_cons_succ]
      refine wpAnyH_take (i := 3) (v := ?vq3) rfl (by kernel_rfl) (by kernel_rfl) (by kernel_rfl) (fun _ _ _ h => h) (Or.inl ⟨by rfl, ?hyq3⟩) (by assumption) ?restq3
      case hyq3 => (intro w0 hSw; (try dsimp only at hSw); go_simp; try with_reducible rfl)
      case' restq3 => try simp only [Act.put, List.getElem_toArray, List.getElem_cons_zero, List.getElem_cons_succ, List.setIfInBounds_toArray, List.set_cons_zero, List.set_cons_succ]
      refine wpAnyH_take (i := 4) (v := ?vq4) rfl (by kernel_rfl) (by kernel_rfl) (by kernel_rfl) (fun _ _ _ h => h) (Or.inl ⟨by rfl, ?hyq4⟩) (by assumption) ?restq4
      case hyq4 => (intro w0 hSw; (try dsimp only at hSw); go_simp; try with_reducible rfl)
      case' restq4 => try simp only [Act.put, List.getElem_toArray, List.getElem_cons_zero, List.getElem_cons_succ, List.setIfInBounds_toArray, List.set_cons_zero, List.set_cons_succ]
      refine wpAnyH_take (i := 6) (v := ?vq6) rfl (by kernel_rfl) (by kernel_rfl) (by kernel_rfl) (fun _ _ _ h => h) (Or.inl ⟨by rfl, ?hyq6⟩) (by assumption) ?restq6
      case hyq6 => (intro w0 hSw; (try dsimp only at hSw); go_simp; try with_reducible rfl)
      case' restq6 => try simp only [Act.put, List.getElem_toArray, List.getElem_cons_zero, List.getElem_cons_succ, List.setIfInBounds_toArray, List.set_cons_zero, List.set_cons_succ]
      refine wpAnyH_take (i := 7) (v := ?vq7) rfl (by kernel_rfl) (by kernel_rfl) (by kernel_rfl) (fun _ _ _ h => h) (Or.inl ⟨by rfl, ?hyq7⟩) (by assumption) ?restq7
      case hyq7 => (intro w0 hSw; (try dsimp only at hSw); go_simp; try with_reducible rfl)
      case' restq7 => try simp only [Act.put, List.getElem_toArray, List.getElem_cons_zero, List.getElem_cons_succ, List.setIfInBounds_toArray, List.set_cons_zero, List.set_cons_succ]
      refine wpAnyH_ready (rs := [5, 9]) (by kernel_rfl) (by simp) ?_
      refine AllReadyH.cons rfl (fun K hK => ?_) (AllReadyH.cons rfl (fun K hK => ?_) AllReadyH.nil)
      rotate_left
      · go_simp
        refine hK.out _ _ (HH.out _ hT6) (fun hHeld => ?_)
        clear hK K
        try simp only [Act.put, List.getElem_toArray, List.getElem_cons_zero, List.getElem_cons_succ, List.setIfInBounds_toArray, List.set_cons_zero, List.set_cons_succ]
        refine wpAnyH_take (i := 10) (v := ?vqb10) rfl (by kernel_rfl) (by kernel_rfl) (by kernel_rfl) (fun _ _ _ h => h) (Or.inl ⟨by rfl, ?hyqb10⟩) (by assumption) ?restqb10
        case hyqb10 => (intro w0 hSw; (try dsimp only at hSw); go_simp; try with_reducible rfl)
        case' restqb10 => try simp only [Act.put, List.getElem_toArray, List.getElem_cons_zero, List.getElem_cons_succ, List.setIfInBounds_toArray, List.set_cons_zero, List.set_cons_succ]
        refine wpAnyH_ready (rs := [5]) (by kernel_rfl) (by simp) ?_
        refine AllReadyH.cons rfl (fun K hK => ?_) AllReadyH.nil
        go_simp
        refine hK.out _ _ (by assumption) (fun hHeld => ?_)
        clear hK K
        try simp only [Act.put, List.getElem_toArray, List.getElem_cons_zero, List.getElem_cons_succ, List.setIfInBounds_toArray, List.set_cons_zero, List.set_cons_succ]
        refine wpAnyH_take (i := 8) (v := ?vqb8) rfl (by kernel_rfl) (by kernel_rfl) (by kernel_rfl) (fun _ _ _ h => h) (Or.inl ⟨by rfl, ?hyqb8⟩) (by assumption) ?restqb8
        case hyqb8 => (intro w0 hSw; (try dsimp only at hSw); go_simp; try with_reducible rfl)
        case' restqb8 => try simp only [Act.put, List.getElem_toArray, List.getElem_cons_zero, List.getElem_cons_succ, List.setIfInBounds_toArray, List.set_cons_zero, List.set_cons_succ]
        refine wpAnyH_ready (rs := [11]) (by kernel_rfl) (by simp) ?_
        refine AllReadyH.cons rfl (fun K hK => ?_) AllReadyH.nil
        go_simp
        refine hK.out _ _ (HH.out _ hT7) (fun hHeld => ?_)
        clear hK K
        try simp only [Act.put, List.getElem_toArray, List.getElem_cons_zero, List.getElem_cons_succ, List.setIfInBounds_toArray, List.set_cons_zero, List.set_cons_succ]
        refine wpAnyH_done (by kernel_rfl) ?_ _
        refine NoPanic.normal ?_
        clear hrun hrun7 hlook6 hl5 e0 e1 e2 e3 e4 e5 e6 e7 e8 p0 p1 p2 p3 p4 p5 p6 k0 k1 r0 r1 r2 r3 r4
        obtain ⟨k0, k1, _, _⟩ := cell2 HK7.out
        obtain ⟨r0, r1, r2, r3, r4⟩ := cell5 HRW7.out
        go_wp2_with fail
        refine (write_any _ _ _ _ _ _ _ _ _ _ _ _ _ _ _ _ _ HP7.out (by simp only []; omega) hk HNEW.out).mono ?_
        rintro e w8 ⟨rfl, hp8, ht8⟩
        go_wp2_with fail
        go_end0
        refine ⟨rfl, ?_, HT7.out.trans (ht8.mono (fun i hi => .inl hi))⟩
        rw [HU.out, if_pos HKI.out]
        exact hp8
      · go_simp
        refine hK.out _ _ (by assumption) (fun hHeld => ?_)
        clear hK K
        try simp only [Act.put, List.getElem_toArray, List.getElem_cons_zero, List.getElem_cons_succ, List.setIfInBounds_toArray, List.set_cons_zero, List.set_cons_succ]
        refine wpAnyH_take (i := 8) (v := ?vqa8) rfl (by kernel_rfl) (by kernel_rfl) (by kernel_rfl) (fun _ _ _ h => h) (Or.inl ⟨by rfl, ?hyqa8⟩) (by assumption) ?restqa8
        case hyqa8 => (intro w0 hSw; (try dsimp only at hSw); go_simp; try with_reducible rfl)
        case' restqa8 => try simp only [Act.put, List.getElem_toArray, List.getElem_cons_zero, List.getElem_cons_succ, List.setIfInBounds_toArray, List.set_cons_zero, List.set_cons_succ]
        refine wpAnyH_ready (rs := [9]) (by kernel_rfl) (by simp) ?_
        refine AllReadyH.cons rfl (fun K hK => ?_) AllReadyH.nil
        go_simp
        refine hK.out _ _ (HH.out _ hT6) (fun hHeld => ?_)
        clear hK K
        try simp only [Act.put, List.getElem_toArray, List.getElem_cons_zero, List.getElem_cons_succ, List.setIfInBounds_toArray, List.set_cons_zero, List.set_cons_succ]
        refine wpAnyH_take (i := 10) (v := ?vqa10) rfl (by kernel_rfl) (by kernel_rfl) (by kernel_rfl) (fun _ _ _ h => h) (Or.inl ⟨by rfl, ?hyqa10⟩) (by assumption) ?restqa10
        case hyqa10 => (intro w0 hSw; (try dsimp only at hSw); go_simp; try with_reducible rfl)
        case' restqa10 => try simp only [Act.put, List.getElem_toArray, List.getElem_cons_zero, List.getElem_cons_succ, List.setIfInBounds_toArray, List.set_cons_zero, List.set_cons_succ]
        refine wpAnyH_ready (rs := [11]) (by kernel_rfl) (by simp) ?_
        refine AllReadyH.cons rfl (fun K hK => ?_) AllReadyH.nil
        go_simp
        refine hK.out _ _ (HH.out _ hT7) (fun hHeld => ?_)
        clear hK K
        try simp only [Act.put, List.getElem_toArray, List.getElem_cons_zero, List.getElem_cons_succ, List.setIfInBounds_toArray, List.set_cons_zero, List.set_cons_succ]
        refine wpAnyH_done (by kernel_rfl) ?_ _
        refine NoPanic.normal ?_
        clear hrun hrun7 hlook6 hl5 e0 e1 e2 e3 e4 e5 e6 e7 e8 p0 p1 p2 p3 p4 p5 p6 k0 k1 r0 r1 r2 r3 r4
        obtain ⟨k0, k1, _, _⟩ := cell2 HK7.out
        obtain ⟨r0, r1, r2, r3, r4⟩ := cell5 HRW7.out
        go_wp2_with fail
        refine (write_any _ _ _ _ _ _ _ _ _ _ _ _ _ _ _ _ _ HP7.out (by simp only []; omega) hk HNEW.out).mono ?_
        rintro e w8 ⟨rfl, hp8, ht8⟩
        go_wp2_with fail
        go_end0
        refine ⟨rfl, ?_, HT7.out.trans (ht8.mono (fun i hi => .inl hi))⟩
        rw [HU.out, if_pos HKI.out]
        exact hp8
  · have hb2 := below_drew1 (below_alloc w1 (.cells #[.int .i64 o, .int .i64 d3, .int .i64 xc, .int .i64 xa, .int .i64 xq] tRow))
    have HRW := Lib.hid (show ((w1.alloc (.cells #[.int .i64 o, .int .i64 d3, .int .i64 xc, .int .i64 xa, .int .i64 xq] tRow)).drew).heap[w1.heap.size]? = _ from heap_new w1 (.cells #[.int .i64 o, .int .i64 d3, .int .i64 xc, .int .i64 xa, .int .i64 xq] tRow))
    have HK2 := Lib.hid (heap_keep HK.out hb2)
    have HW2 := Lib.hid (heap_keep HW.out hb2)
    have HP2 := Lib.hid (HP1.out.below hb2)
    have HB2 := Lib.hid (HB.out.trans (hb2.mono HB.out.size))
    have hz1 := HB.out.size
    have HZ1 := Lib.hid (show w.heap.size + 1 < w1.heap.size from heap_lt HW.out)
    clear hA hB hba p3' g0' g1' g0 g1 p0 p1 p2 p3 p4 p5 p6 hb2 HK HW HP1 HB
    generalize (w1.alloc (.cells #[.int .i64 o, .int .i64 d3, .int .i64 xc, .int .i64 xa, .int .i64 xq] tRow)).drew = w2 at HRW HK2 HW2 HP2 HB2 ⊢
    generalize w1.heap.size = rb at HRW hz1 HZ1 ⊢
    have HP4 := HP2
    have HK4 := HK2
    have HW4 := HW2
    have HRW4 := HRW
    have HTW := Lib.hid (Turned.of_below (S := fun i => i = bk ∨ i = tk ∨ i = wh) HB2.out)
    obtain ⟨w4, hw4⟩ : ∃ w4, w4 = w2 := ⟨_, rfl⟩
    rw [← hw4] at HP4 HK4 HW4 HRW4 HTW ⊢
    clear hw4 HP2 HK2 HW2 HRW HB2
    go_wp2_with fail
    obtain ⟨g0, g1, _, _⟩ := cell2 HW4.out
    obtain ⟨p0, p1, p2, p3, p4, p5, p6⟩ := cell7 HP4.out.hd
    obtain ⟨W, hW, hW', hWm⟩ := HP4.out.what
    have hv : ∀ u, MapL Tryd.prog tKey mkKey mkGoods u wh W → (Instr.lookup tWhat (.map (some wh)) (mkKey (o, d3)) true).run Tryd.prog u = .ok (.tuple #[mkGoods s, .bool true]) u := fun u hu => by
      rcases hu.look lawKey mapWhat (zeroGoods u) HKL.out (mkKey_inj _) with ⟨t, ht, r, _⟩ | ⟨hno, _⟩
      · rw [H1S.out t ((hW' _ _).1 ht).2] at r; exact r
      · exact absurd ((hW' (o, d3) s).2 ⟨by have := HD0.out; simp only []; omega, HRS.out⟩) (fun hx => hno _ hx rfl)
    have hA := hv w4.drew (hW.block rfl)
    have hB := hv (w4.alloc (.cells #[.int .u8 0, .int .u8 0, .int .u8 0, .int .u8 0, .int .u8 0, .int .u8 0, .int .u8 0, .int .u8 0, .int .i64 0] tGoods)).drew ((hW.alloc _).block rfl)
    have hba := below_alloc w4 (.cells #[.int .u8 0, .int .u8 0, .int .u8 0, .int .u8 0, .int .u8 0, .int .u8 0, .int .u8 0, .int .u8 0, .int .i64 0] tGoods)
    have p5' := (hba.cell (p := ⟨p, 5, none⟩) (heap_lt HP4.out.hd)).trans p5
    have g0' := (hba.cell (p := ⟨w.heap.size + 1, 0, none⟩) (heap_lt HW4.out)).trans g0
    have g1' := (hba.cell (p := ⟨w.heap.size + 1, 1, none⟩) (heap_lt HW4.out)).trans g1
    simp only [mkKey, mkGoods] at hA hB
    clear hv hW hW' hWm
    go_region
    · have hb5 := below_drew1 (below_alloc w4 (.cells #[.int .u8 (byteI s 0), .int .u8 (byteI s 1), .int .u8 (byteI s 2), .int .u8 (byteI s 3), .int .u8 (byteI s 4), .int .u8 (byteI s 5), .int .u8 (byteI s 6), .int .u8 (byteI s 7), .int .i64 s.length] tGoods))
      have HG5 := Lib.hid (show ((w4.alloc (.cells #[.int .u8 (byteI s 0), .int .u8 (byteI s 1), .int .u8 (byteI s 2), .int .u8 (byteI s 3), .int .u8 (byteI s 4), .int .u8 (byteI s 5), .int .u8 (byteI s 6), .int .u8 (byteI s 7), .int .i64 s.length] tGoods)).drew).heap[w4.heap.size]? = _ from heap_new w4 (.cells #[.int .u8 (byteI s 0), .int .u8 (byteI s 1), .int .u8 (byteI s 2), .int .u8 (byteI s 3), .int .u8 (byteI s 4), .int .u8 (byteI s 5), .int .u8 (byteI s 6), .int .u8 (byteI s 7), .int .i64 s.length] tGoods))
      have HK5 := Lib.hid (heap_keep HK4.out hb5)
      have HRW5 := Lib.hid (heap_keep HRW4.out hb5)
      have HP5 := Lib.hid (HP4.out.below hb5)
      have HT5 := Lib.hid (HTW.out.trans (Turned.of_below hb5))
      clear hA hB hba p5' g0' g1' g0 g1 p0 p1 p2 p3 p4 p5 p6 hb5 HK4 HW4 HRW4 HP4 HTW
      generalize (w4.alloc (.cells #[.int .u8 (byteI s 0), .int .u8 (byteI s 1), .int .u8 (byteI s 2), .int .u8 (byteI s 3), .int .u8 (byteI s 4), .int .u8 (byteI s 5), .int .u8 (byteI s 6), .int .u8 (byteI s 7), .int .i64 s.length] tGoods)).drew = w5 at HG5 HK5 HRW5 HP5 HT5 ⊢
      generalize w4.heap.size = gb at HG5 ⊢
      obtain ⟨k0, k1, _, _⟩ := cell2 HK5.out
      obtain ⟨r0, r1, r2, r3, r4⟩ := cell5 HRW5.out
      go_wp2_with fail
      obtain ⟨T, hT, hT', hTm⟩ := HP5.out.taken
      have HT5m := Lib.hid hT
      have HT' := Lib.hid hT'
      obtain ⟨n, hn'⟩ : ∃ n, used st.gs s = n := ⟨_, rfl⟩
      rw [hn'] at hu
      have hlu : lookT T s = n := (hT'.2 _ hs8).trans hn'
      have HLU := Lib.hid hlu
      have hTT : MapL Tryd.prog tGoods mkGoods mkInt w5.drew tk T := hT.block rfl
      have hl5 := look_taken hTT s hs8
      rw [hlu] at hl5
      obtain ⟨gl, hgl⟩ := goods_reads s hs8
      obtain ⟨v0, sn, w6, hrun, hg6, hz6, hst6⟩ := hTT.entry lawGoodsL mapTaken zeroInt (by unfold maxLen; omega) hgl (mkGoods_inj _ hs8)
      have hlook6 := hTT.entry_look lawGoodsL mapTaken zeroInt (by unfold maxLen; omega) hgl (mkGoods_inj _ hs8) hrun (V := .int .i64 n) hl5
      obtain ⟨w7, hrun7, hm7, hg7, hz7⟩ := hst6 w6 (n - xq) rfl
      have hTd : Turned (fun i => i = tk) w5 w5.drew := ⟨rfl, rfl, rfl, Nat.le_refl _, fun _ _ _ => rfl⟩
      have hT6 : Turned (fun i => i = tk) w5 w6 := hTd.trans (Turned.of_grown hg6 (fun j hj => by cases hj; rfl))
      have hT7 : Turned (fun i => i = tk) w5 w7 := hT6.trans (Turned.of_grown hg7 (fun j hj => by cases hj; rfl))
      have hgn := map_ne hT HG5.out
      have hrn := map_ne hT HRW5.out
      have hkn := map_ne hT HK5.out
      have hpn := map_ne hT HP5.out.hd
      have HH := Lib.hid (fun W (ht : Turned (fun i => i = tk) w5 W) => (⟨Lib.hid ht, cell_at ((ht.block _ (heap_lt HP5.out.hd) hpn).trans HP5.out.hd) 4 rfl, cell_at ((ht.block _ (heap_lt HRW5.out) hrn).trans HRW5.out) 4 rfl, cell9 ((ht.block _ (heap_lt HG5.out) hgn).trans HG5.out)⟩ : (fun w' => Hid (Turned (fun i => i = tk) w5 w') ∧ w'.cell? ⟨p, 4, none⟩ = some (.map (some tk)) ∧ w'.cell? ⟨rb, 4, none⟩ = some (.int .i64 xq) ∧ w'.cell? ⟨gb, 0, none⟩ = some (.int .u8 (byteI s 0)) ∧ w'.cell? ⟨gb, 1, none⟩ = some (.int .u8 (byteI s 1)) ∧ w'.cell? ⟨gb, 2, none⟩ = some (.int .u8 (byteI s 2)) ∧ w'.cell? ⟨gb, 3, none⟩ = some (.int .u8 (byteI s 3)) ∧ w'.cell? ⟨gb, 4, none⟩ = some (.int .u8 (byteI s 4)) ∧ w'.cell? ⟨gb, 5, none⟩ = some (.int .u8 (byteI s 5)) ∧ w'.cell? ⟨gb, 6, none⟩ = some (.int .u8 (byteI s 6)) ∧ w'.cell? ⟨gb, 7, none⟩ = some (.int .u8 (byteI s 7)) ∧ w'.cell? ⟨gb, 8, none⟩ = some (.int .i64 s.length)) W))
      have hwr : IntKind.i64.wrap (n - xq) = n - xq := by have hq' : 0 ≤ xq ∧ xq ≤ 1000000000 := hq; rw [IntKind.wrap_i64]; omega
      simp only [mkGoods, mkInt, goInt] at hrun hrun7 hlook6 hl5
      have HP7 := Lib.hid (show PA w7 p bk tk wh kind stock limit seq (m + 1) { st with gs := freeG st.gs o } by
        obtain ⟨W, hW, hW', hWm⟩ := HP5.out.what
        have hl4 := HP5.out.lt
        have hne := HP5.out.ne
        refine ⟨(hT7.block p hl4.1 hl4.2.2.2.2.2.1).trans HP5.out.hd, HP5.out.book.block (hT7.block bk hl4.2.1 hne.1), ⟨_, hm7, ?_, ?_⟩, ⟨W, hW.block (hT7.block wh hl4.2.2.2.1 (fun e => hne.2.2 e.symm)), hW', by omega⟩, hne⟩
        · have := taken_free HT'.out hs8 xq HFG.out
          rw [HLU.out] at this
          exact this
        · have : (without T s).length ≤ T.length := List.length_filter_le _ _
          simp only [List.length_cons]
          omega)
      have HK7 := Lib.hid ((hT7.block _ (heap_lt HK5.out) hkn).trans HK5.out)
      have HRW7 := Lib.hid ((hT7.block _ (heap_lt HRW5.out) hrn).trans HRW5.out)
      have HT7 := Lib.hid (HT5.out.trans (hT7.mono (S' := fun i => i = bk ∨ i = tk ∨ i = wh) (fun i hi => .inr (.inl hi))))
      obtain ⟨e0, e1, e2, e3, e4, e5, e6, e7, e8⟩ := cell9 HG5.out
      obtain ⟨p0, p1, p2, p3, p4, p5, p6⟩ := cell7 HP5.out.hd
      clear hst6 hm7 hg6 hg7 hgl hTT hgn hrn hkn hpn hT hT' hlu hTm
      refine wp_region_noPanic ?_
      refine wp_region_held_drew (S := (fun w' => Hid (Turned (fun i => i = tk) w5 w') ∧ w'.cell? ⟨p, 4, none⟩ = some (.map (some tk)) ∧ w'.cell? ⟨rb, 4, none⟩ = some (.int .i64 xq) ∧ w'.cell? ⟨gb, 0, none⟩ = some (.int .u8 (byteI s 0)) ∧ w'.cell? ⟨gb, 1, none⟩ = some (.int .u8 (byteI s 1)) ∧ w'.cell? ⟨gb, 2, none⟩ = some (.int .u8 (byteI s 2)) ∧ w'.cell? ⟨gb, 3, none⟩ = some (.int .u8 (byteI s 3)) ∧ w'.cell? ⟨gb, 4, none⟩ = some (.int .u8 (byteI s 4)) ∧ w'.cell? ⟨gb, 5, none⟩ = some (.int .u8 (byteI s 5)) ∧ w'.cell? ⟨gb, 6, none⟩ = some (.int .u8 (byteI s 6)) ∧ w'.cell? ⟨gb, 7, none⟩ = some (.int .u8 (byteI s 7)) ∧ w'.cell? ⟨gb, 8, none⟩ = some (.int .i64 s.length))) (by kernel_rfl) (HH.out _ hTd) (fun hHeld => ?_)
      refine wpAnyH_take (i := 0) (v := ?vs0) rfl (by kernel_rfl) (by kernel_rfl) (by kernel_rfl) (fun _ _ _ h => h) (Or.inl ⟨by rfl, ?hys0⟩) (by assumption) ?rests0
      case hys0 => (intro w0 hSw; (try dsimp only at hSw); go_simp; try with_reducible rfl)
      case' rests0 => try simp only [Act.put, List.getElem_toArray, List.getElem_cons_zero, List.getElem_cons_succ, List.setIfInBounds_toArray, List.set_cons_zero, List.set_cons_succ]
      refine wpAnyH_take (i := 1) (v := ?vs1) rfl (by kernel_rfl) (by kernel_rfl) (by kernel_rfl) (fun _ _ _ h => h) (Or.inl ⟨by rfl, ?hys1⟩) (by assumption) ?rests1
      case hys1 => (intro w0 hSw; (try dsimp only at hSw); go_simp; try with_reducible rfl)
      case' rests1 => try simp only [Act.put, List.getElem_toArray, List.getElem_cons_zero, List.getElem_cons_succ, List.setIfInBounds_toArray, List.set_cons_zero, List.set_cons_succ]
      refine wpAnyH_take (i := 2) (v := ?vs2) rfl (by kernel_rfl) (by kernel_rfl) (by kernel_rfl) (fun _ _ _ h => h) (Or.inl ⟨by rfl, ?hys2⟩) (by assumption) ?rests2
      case hys2 => (intro w0 hSw; (try dsimp only at hSw); go_simp; try with_reducible rfl)
      case' rests2 => try simp only [Act.put, List.getElem_toArray, List.getElem_cons_zero, List.getElem_cons_succ, List.setIfInBounds_toArray, List.set_cons_zero, List.set_cons_succ]
      refine wpAnyH_take (i := 3) (v := ?vs3) rfl (by kernel_rfl) (by kernel_rfl) (by kernel_rfl) (fun _ _ _ h => h) (Or.inl ⟨by rfl, ?hys3⟩) (by assumption) ?rests3
      case hys3 => (intro w0 hSw; (try dsimp only at hSw); go_simp; try with_reducible rfl)
      case' rests3 => try simp only [Act.put, List.getElem_toArray, List.getElem_cons_zero, List.getElem_cons_succ, List.setIfInBounds_toArray, List.set_cons_zero, List.set_cons_succ]
      refine wpAnyH_take (i := 4) (v := ?vs4) rfl (by kernel_rfl) (by kernel_rfl) (by kernel_rfl) (fun _ _ _ h => h) (Or.inl ⟨by rfl, ?hys4⟩) (by assumption) ?rests4
      case hys4 => (intro w0 hSw; (try dsimp only at hSw); go_simp; try with_reducible rfl)
      case' rests4 => try simp only [Act.put, List.getElem_toArray, List.getElem_cons_zero, List.getElem_cons_succ, List.setIfInBounds_toArray, List.set_cons_zero, List.set_cons_succ]
      refine wpAnyH_take (i := 6) (v := ?vs6) rfl (by kernel_rfl) (by kernel_rfl) (by kernel_rfl) (fun _ _ _ h => h) (Or.inl ⟨by rfl, ?hys6⟩) (by assumption) ?rests6
      case hys6 => (intro w0 hSw; (try dsimp only at hSw); go_simp; try with_reducible rfl)
      case' rests6 => try simp only [Act.put, List.getElem_toArray, List.getElem_cons_zero, List.getElem_cons_succ, List.setIfInBounds_toArray, List.set_cons_zero, List.set_cons_succ]
      refine wpAnyH_take (i := 7) (v := ?vs7) rfl (by kernel_rfl) (by kernel_rfl) (by kernel_rfl) (fun _ _ _ h => h) (Or.inl ⟨by rfl, ?hys7⟩) (by assumption) ?rests7
      case hys7 => (intro w0 hSw; (try dsimp only at hSw); go_simp; try with_reducible rfl)
      case' rests7 => try simp only [Act.put, List.getElem_toArray, List.getElem_cons_zero, List.getElem_cons_succ, List.setIfInBounds_toArray, List.set_cons_zero, List.set_cons_succ]
      refine wpAnyH_ready (rs := [5, 9]) (by kernel_rfl) (by simp) ?_
      refine AllReadyH.cons rfl (fun K hK => ?_) (AllReadyH.cons rfl (fun K hK => ?_) AllReadyH.nil)
      rotate_left
      · go_simp
        refine hK.out _ _ (HH.out _ hT6) (fun hHeld => ?_)
        clear hK K
        try simp only [Act.put, List.getElem_toArray, List.getElem_cons_zero, List.getElem_cons_succ, List.setIfInBounds_toArray, List.set_cons_zero, List.set_cons_succ]
        refine wpAnyH_take (i := 10) (v := ?vsb10) rfl (by kernel_rfl) (by kernel_rfl) (by kernel_rfl) (fun _ _ _ h => h) (Or.inl ⟨by rfl, ?hysb10⟩) (by assumption) ?restsb10
        case hysb10 => (intro w0 hSw; (try dsimp only at hSw); go_simp; try with_reducible rfl)
        case' restsb10 => try simp only [Act.put, List.getElem_toArray, List.getElem_cons_zero, List.getElem_cons_succ, List.setIfInBounds_toArray, List.set_cons_zero, List.set_cons_succ]
        refine wpAnyH_ready (rs := [5]) (by kernel_rfl) (by simp) ?_
        refine AllReadyH.cons rfl (fun K hK => ?_) AllReadyH.nil
        go_simp
        refine hK.out _ _ (by assumption) (fun hHeld => ?_)
        clear hK K
        try simp only [Act.put, List.getElem_toArray, List.getElem_cons_zero, List.getElem_cons_succ, List.setIfInBounds_toArray, List.set_cons_zero, List.set_cons_succ]
        refine wpAnyH_take (i := 8) (v := ?vsb8) rfl (by kernel_rfl) (by kernel_rfl) (by kernel_rfl) (fun _ _ _ h => h) (Or.inl ⟨by rfl, ?hysb8⟩) (by assumption) ?restsb8
        case hysb8 => (intro w0 hSw; (try dsimp only at hSw); go_simp; try with_reducible rfl)
        case' restsb8 => try simp only [Act.put, List.getElem_toArray, List.getElem_cons_zero, List.getElem_cons_succ, List.setIfInBounds_toArray, List.set_cons_zero, List.set_cons_succ]
        refine wpAnyH_ready (rs := [11]) (by kernel_rfl) (by simp) ?_
        refine AllReadyH.cons rfl (fun K hK => ?_) AllReadyH.nil
        go_simp
        refine hK.out _ _ (HH.out _ hT7) (fun hHeld => ?_)
        clear hK K
        try simp only [Act.put, List.getElem_toArray, List.getElem_cons_zero, List.getElem_cons_succ, List.setIfInBounds_toArray, List.set_cons_zero, List.set_cons_succ]
        refine wpAnyH_done (by kernel_rfl) ?_ _
        refine NoPanic.normal ?_
        clear hrun hrun7 hlook6 hl5 e0 e1 e2 e3 e4 e5 e6 e7 e8 p0 p1 p2 p3 p4 p5 p6 k0 k1 r0 r1 r2 r3 r4
        obtain ⟨k0, k1, _, _⟩ := cell2 HK7.out
        obtain ⟨r0, r1, r2, r3, r4⟩ := cell5 HRW7.out
        go_wp2_with fail
        refine (write_any _ _ _ _ _ _ _ _ _ _ _ _ _ _ _ _ _ HP7.out (by simp only []; omega) hk HNEW.out).mono ?_
        rintro e w8 ⟨rfl, hp8, ht8⟩
        go_wp2_with fail
        go_end0
        refine ⟨rfl, ?_, HT7.out.trans (ht8.mono (fun i hi => .inl hi))⟩
        rw [HU.out, if_pos HKI.out]
        exact hp8
      · go_simp
        refine hK.out _ _ (by assumption) (fun hHeld => ?_)
        clear hK K
        try simp only [Act.put, List.getElem_toArray, List.getElem_cons_zero, List.getElem_cons_succ, List.setIfInBounds_toArray, List.set_cons_zero, List.set_cons_succ]
        refine wpAnyH_take (i := 8) (v := ?vsa8) rfl (by kernel_rfl) (by kernel_rfl) (by kernel_rfl) (fun _ _ _ h => h) (Or.inl ⟨by rfl, ?hysa8⟩) (by assumption) ?restsa8
        case hysa8 => (intro w0 hSw; (try dsimp only at hSw); go_simp; try with_reducible rfl)
        case' restsa8 => try simp only [Act.put, List.getElem_toArray, List.getElem_cons_zero, List.getElem_cons_succ, List.setIfInBounds_toArray, List.set_cons_zero, List.set_cons_succ]
        refine wpAnyH_ready (rs := [9]) (by kernel_rfl) (by simp) ?_
        refine AllReadyH.cons rfl (fun K hK => ?_) AllReadyH.nil
        go_simp
        refine hK.out _ _ (HH.out _ hT6) (fun hHeld => ?_)
        clear hK K
        try simp only [Act.put, List.getElem_toArray, List.getElem_cons_zero, List.getElem_cons_succ, List.setIfInBounds_toArray, List.set_cons_zero, List.set_cons_succ]
        refine wpAnyH_take (i := 10) (v := ?vsa10) rfl (by kernel_rfl) (by kernel_rfl) (by kernel_rfl) (fun _ _ _ h => h) (Or.inl ⟨by rfl, ?hysa10⟩) (by assumption) ?restsa10
        case hysa10 => (intro w0 hSw; (try dsimp only at hSw); go_simp; try with_reducible rfl)
        case' restsa10 => try simp only [Act.put, List.getElem_toArray, List.getElem_cons_zero, List.getElem_cons_succ, List.setIfInBounds_toArray, List.set_cons_zero, List.set_cons_succ]
        refine wpAnyH_ready (rs := [11]) (by kernel_rfl) (by simp) ?_
        refine AllReadyH.cons rfl (fun K hK => ?_) AllReadyH.nil
        go_simp
        refine hK.out _ _ (HH.out _ hT7) (fun hHeld => ?_)
        clear hK K
        try simp only [Act.put, List.getElem_toArray, List.getElem_cons_zero, List.getElem_cons_succ, List.setIfInBounds_toArray, List.set_cons_zero, List.set_cons_succ]
        refine wpAnyH_done (by kernel_rfl) ?_ _
        refine NoPanic.normal ?_
        clear hrun hrun7 hlook6 hl5 e0 e1 e2 e3 e4 e5 e6 e7 e8 p0 p1 p2 p3 p4 p5 p6 k0 k1 r0 r1 r2 r3 r4
        obtain ⟨k0, k1, _, _⟩ := cell2 HK7.out
        obtain ⟨r0, r1, r2, r3, r4⟩ := cell5 HRW7.out
        go_wp2_with fail
        refine (write_any _ _ _ _ _ _ _ _ _ _ _ _ _ _ _ _ _ HP7.out (by simp only []; omega) hk HNEW.out).mono ?_
        rintro e w8 ⟨rfl, hp8, ht8⟩
        go_wp2_with fail
        go_end0
        refine ⟨rfl, ?_, HT7.out.trans (ht8.mono (fun i hi => .inl hi))⟩
        rw [HU.out, if_pos HKI.out]
        exact hp8
    · have hb5 := below_drew1 (below_alloc w4 (.cells #[.int .u8 (byteI s 0), .int .u8 (byteI s 1), .int .u8 (byteI s 2), .int .u8 (byteI s 3), .int .u8 (byteI s 4), .int .u8 (byteI s 5), .int .u8 (byteI s 6), .int .u8 (byteI s 7), .int .i64 s.length] tGoods))
      have HG5 := Lib.hid (show ((w4.alloc (.cells #[.int .u8 (byteI s 0), .int .u8 (byteI s 1), .int .u8 (byteI s 2), .int .u8 (byteI s 3), .int .u8 (byteI s 4), .int .u8 (byteI s 5), .int .u8 (byteI s 6), .int .u8 (byteI s 7), .int .i64 s.length] tGoods)).drew).heap[w4.heap.size]? = _ from heap_new w4 (.cells #[.int .u8 (byteI s 0), .int .u8 (byteI s 1), .int .u8 (byteI s 2), .int .u8 (byteI s 3), .int .u8 (byteI s 4), .int .u8 (byteI s 5), .int .u8 (byteI s 6), .int .u8 (byteI s 7), .int .i64 s.length] tGoods))
      have HK5 := Lib.hid (heap_keep HK4.out hb5)
      have HRW5 := Lib.hid (heap_keep HRW4.out hb5)
      have HP5 := Lib.hid (HP4.out.below hb5)
      have HT5 := Lib.hid (HTW.out.trans (Turned.of_below hb5))
      clear hA hB hba p5' g0' g1' g0 g1 p0 p1 p2 p3 p4 p5 p6 hb5 HK4 HW4 HRW4 HP4 HTW
      generalize (w4.alloc (.cells #[.int .u8 (byteI s 0), .int .u8 (byteI s 1), .int .u8 (byteI s 2), .int .u8 (byteI s 3), .int .u8 (byteI s 4), .int .u8 (byteI s 5), .int .u8 (byteI s 6), .int .u8 (byteI s 7), .int .i64 s.length] tGoods)).drew = w5 at HG5 HK5 HRW5 HP5 HT5 ⊢
      generalize w4.heap.size = gb at HG5 ⊢
      obtain ⟨k0, k1, _, _⟩ := cell2 HK5.out
      obtain ⟨r0, r1, r2, r3, r4⟩ := cell5 HRW5.out
      go_wp2_with fail
      obtain ⟨T, hT, hT', hTm⟩ := HP5.out.taken
      have HT5m := Lib.hid hT
      have HT' := Lib.hid hT'
      obtain ⟨n, hn'⟩ : ∃ n, used st.gs s = n := ⟨_, rfl⟩
      rw [hn'] at hu
      have hlu : lookT T s = n := (hT'.2 _ hs8).trans hn'
      have HLU := Lib.hid hlu
      have hTT : MapL Tryd.prog tGoods mkGoods mkInt w5.drew tk T := hT.block rfl
      have hl5 := look_taken hTT s hs8
      rw [hlu] at hl5
      obtain ⟨gl, hgl⟩ := goods_reads s hs8
      obtain ⟨v0, sn, w6, hrun, hg6, hz6, hst6⟩ := hTT.entry lawGoodsL mapTaken zeroInt (by unfold maxLen; omega) hgl (mkGoods_inj _ hs8)
      have hlook6 := hTT.entry_look lawGoodsL mapTaken zeroInt (by unfold maxLen; omega) hgl (mkGoods_inj _ hs8) hrun (V := .int .i64 n) hl5
      obtain ⟨w7, hrun7, hm7, hg7, hz7⟩ := hst6 w6 (n - xq) rfl
      have hTd : Turned (fun i => i = tk) w5 w5.drew := ⟨rfl, rfl, rfl, Nat.le_refl _, fun _ _ _ => rfl⟩
      have hT6 : Turned (fun i => i = tk) w5 w6 := hTd.trans (Turned.of_grown hg6 (fun j hj => by cases hj; rfl))
      have hT7 : Turned (fun i => i = tk) w5 w7 := hT6.trans (Turned.of_grown hg7 (fun j hj => by cases hj; rfl))
      have hgn := map_ne hT HG5.out
      have hrn := map_ne hT HRW5.out
      have hkn := map_ne hT HK5.out
      have hpn := map_ne hT HP5.out.hd
      have HH := Lib.hid (fun W (ht : Turned (fun i => i = tk) w5 W) => (⟨Lib.hid ht, cell_at ((ht.block _ (heap_lt HP5.out.hd) hpn).trans HP5.out.hd) 4 rfl, cell_at ((ht.block _ (heap_lt HRW5.out) hrn).trans HRW5.out) 4 rfl, cell9 ((ht.block _ (heap_lt HG5.out) hgn).trans HG5.out)⟩ : (fun w' => Hid (Turned (fun i => i = tk) w5 w') ∧ w'.cell? ⟨p, 4, none⟩ = some (.map (some tk)) ∧ w'.cell? ⟨rb, 4, none⟩ = some (.int .i64 xq) ∧ w'.cell? ⟨gb, 0, none⟩ = some (.int .u8 (byteI s 0)) ∧ w'.cell? ⟨gb, 1, none⟩ = some (.int .u8 (byteI s 1)) ∧ w'.cell? ⟨gb, 2, none⟩ = some (.int .u8 (byteI s 2)) ∧ w'.cell? ⟨gb, 3, none⟩ = some (.int .u8 (byteI s 3)) ∧ w'.cell? ⟨gb, 4, none⟩ = some (.int .u8 (byteI s 4)) ∧ w'.cell? ⟨gb, 5, none⟩ = some (.int .u8 (byteI s 5)) ∧ w'.cell? ⟨gb, 6, none⟩ = some (.int .u8 (byteI s 6)) ∧ w'.cell? ⟨gb, 7, none⟩ = some (.int .u8 (byteI s 7)) ∧ w'.cell? ⟨gb, 8, none⟩ = some (.int .i64 s.length)) W))
      have hwr : IntKind.i64.wrap (n - xq) = n - xq := by have hq' : 0 ≤ xq ∧ xq ≤ 1000000000 := hq; rw [IntKind.wrap_i64]; omega
      simp only [mkGoods, mkInt, goInt] at hrun hrun7 hlook6 hl5
      have HP7 := Lib.hid (show PA w7 p bk tk wh kind stock limit seq (m + 1) { st with gs := freeG st.gs o } by
        obtain ⟨W, hW, hW', hWm⟩ := HP5.out.what
        have hl4 := HP5.out.lt
        have hne := HP5.out.ne
        refine ⟨(hT7.block p hl4.1 hl4.2.2.2.2.2.1).trans HP5.out.hd, HP5.out.book.block (hT7.block bk hl4.2.1 hne.1), ⟨_, hm7, ?_, ?_⟩, ⟨W, hW.block (hT7.block wh hl4.2.2.2.1 (fun e => hne.2.2 e.symm)), hW', by omega⟩, hne⟩
        · have := taken_free HT'.out hs8 xq HFG.out
          rw [HLU.out] at this
          exact this
        · have : (without T s).length ≤ T.length := List.length_filter_le _ _
          simp only [List.length_cons]
          omega)
      have HK7 := Lib.hid ((hT7.block _ (heap_lt HK5.out) hkn).trans HK5.out)
      have HRW7 := Lib.hid ((hT7.block _ (heap_lt HRW5.out) hrn).trans HRW5.out)
      have HT7 := Lib.hid (HT5.out.trans (hT7.mono (S' := fun i => i = bk ∨ i = tk ∨ i = wh) (fun i hi => .inr (.inl hi))))
      obtain ⟨e0, e1, e2, e3, e4, e5, e6, e7, e8⟩ := cell9 HG5.out
      obtain ⟨p0, p1, p2, p3, p4, p5, p6⟩ := cell7 HP5.out.hd
      clear hst6 hm7 hg6 hg7 hgl hTT hgn hrn hkn hpn hT hT' hlu hTm
      refine wp_region_noPanic ?_
      refine wp_region_held_drew (S := (fun w' => Hid (Turned (fun i => i = tk) w5 w') ∧ w'.cell? ⟨p, 4, none⟩ = some (.map (some tk)) ∧ w'.cell? ⟨rb, 4, none⟩ = some (.int .i64 xq) ∧ w'.cell? ⟨gb, 0, none⟩ = some (.int .u8 (byteI s 0)) ∧ w'.cell? ⟨gb, 1, none⟩ = some (.int .u8 (byteI s 1)) ∧ w'.cell? ⟨gb, 2, none⟩ = some (.int .u8 (byteI s 2)) ∧ w'.cell? ⟨gb, 3, none⟩ = some (.int .u8 (byteI s 3)) ∧ w'.cell? ⟨gb, 4, none⟩ = some (.int .u8 (byteI s 4)) ∧ w'.cell? ⟨gb, 5, none⟩ = some (.int .u8 (byteI s 5)) ∧ w'.cell? ⟨gb, 6, none⟩ = some (.int .u8 (byteI s 6)) ∧ w'.cell? ⟨gb, 7, none⟩ = some (.int .u8 (byteI s 7)) ∧ w'.cell? ⟨gb, 8, none⟩ = some (.int .i64 s.length))) (by kernel_rfl) (HH.out _ hTd) (fun hHeld => ?_)
      refine wpAnyH_take (i := 0) (v := ?vu0) rfl (by kernel_rfl) (by kernel_rfl) (by kernel_rfl) (fun _ _ _ h => h) (Or.inl ⟨by rfl, ?hyu0⟩) (by assumption) ?restu0
      case hyu0 => (intro w0 hSw; (try dsimp only at hSw); go_simp; try with_reducible rfl)
      case' restu0 => try simp only [Act.put, List.getElem_toArray, List.getElem_cons_zero, List.getElem_cons_succ, List.setIfInBounds_toArray, List.set_cons_zero, List.set_cons_succ]
      refine wpAnyH_take (i := 1) (v := ?vu1) rfl (by kernel_rfl) (by kernel_rfl) (by kernel_rfl) (fun _ _ _ h => h) (Or.inl ⟨by rfl, ?hyu1⟩) (by assumption) ?restu1
      case hyu1 => (intro w0 hSw; (try dsimp only at hSw); go_simp; try with_reducible rfl)
      case' restu1 => try simp only [Act.put, List.getElem_toArray, List.getElem_cons_zero, List.getElem_cons_succ, List.setIfInBounds_toArray, List.set_cons_zero, List.set_cons_succ]
      refine wpAnyH_take (i := 2) (v := ?vu2) rfl (by kernel_rfl) (by kernel_rfl) (by kernel_rfl) (fun _ _ _ h => h) (Or.inl ⟨by rfl, ?hyu2⟩) (by assumption) ?restu2
      case hyu2 => (intro w0 hSw; (try dsimp only at hSw); go_simp; try with_reducible rfl)
      case' restu2 => try simp only [Act.put, List.getElem_toArray, List.getElem_cons_zero, List.getElem_cons_succ, List.setIfInBounds_toArray, List.set_cons_zero, List.set_cons_succ]
      refine wpAnyH_take (i := 3) (v := ?vu3) rfl (by kernel_rfl) (by kernel_rfl) (by kernel_rfl) (fun _ _ _ h => h) (Or.inl ⟨by rfl, ?hyu3⟩) (by assumption) ?restu3
      case hyu3 => (intro w0 hSw; (try dsimp only at hSw); go_simp; try with_reducible rfl)
      case' restu3 => try simp only [Act.put, List.getElem_toArray, List.getElem_cons_zero, List.getElem_cons_succ, List.setIfInBounds_toArray, List.set_cons_zero, List.set_cons_succ]
      refine wpAnyH_take (i := 4) (v := ?vu4) rfl (by kernel_rfl) (by kernel_rfl) (by kernel_rfl) (fun _ _ _ h => h) (Or.inl ⟨by rfl, ?hyu4⟩) (by assumption) ?restu4
      case hyu4 => (intro w0 hSw; (try dsimp only at hSw); go_simp; try with_reducible rfl)
      case' restu4 => try simp only [Act.put, List.getElem_toArray, List.getElem_cons_zero, List.getElem_cons_succ, List.setIfInBounds_toArray, List.set_cons_zero, List.set_cons_succ]
      refine wpAnyH_take (i := 6) (v := ?vu6) rfl (by kernel_rfl) (by kernel_rfl) (by kernel_rfl) (fun _ _ _ h => h) (Or.inl ⟨by rfl, ?hyu6⟩) (by assumption) ?restu6
      case hyu6 => (intro w0 hSw; (try dsimp only at hSw); go_simp; try with_reducible rfl)
      case' restu6 => try simp only [Act.put, List.getElem_toArray, List.getElem_cons_zero, List.getElem_cons_succ, List.setIfInBounds_toArray, List.set_cons_zero, List.set_cons_succ]
      refine wpAnyH_take (i := 7) (v := ?vu7) rfl (by kernel_rfl) (by kernel_rfl) (by kernel_rfl) (fun _ _ _ h => h) (Or.inl ⟨by rfl, ?hyu7⟩) (by assumption) ?restu7
      case hyu7 => (intro w0 hSw; (try dsimp only at hSw); go_simp; try with_reducible rfl)
      case' restu7 => try simp only [Act.put, List.getElem_toArray, List.getElem_cons_zero, List.getElem_cons_succ, List.setIfInBounds_toArray, List.set_cons_zero, List.set_cons_succ]
      refine wpAnyH_ready (rs := [5, 9]) (by kernel_rfl) (by simp) ?_
      refine AllReadyH.cons rfl (fun K hK => ?_) (AllReadyH.cons rfl (fun K hK => ?_) AllReadyH.nil)
      rotate_left
      · go_simp
        refine hK.out _ _ (HH.out _ hT6) (fun hHeld => ?_)
        clear hK K
        try simp only [Act.put, List.getElem_toArray, List.getElem_cons_zero, List.getElem_cons_succ, List.setIfInBounds_toArray, List.set_cons_zero, List.set_cons_succ]
        refine wpAnyH_take (i := 10) (v := ?vub10) rfl (by kernel_rfl) (by kernel_rfl) (by kernel_rfl) (fun _ _ _ h => h) (Or.inl ⟨by rfl, ?hyub10⟩) (by assumption) ?restub10
        case hyub10 => (intro w0 hSw; (try dsimp only at hSw); go_simp; try with_reducible rfl)
        case' restub10 => try simp only [Act.put, List.getElem_toArray, List.getElem_cons_zero, List.getElem_cons_succ, List.setIfInBounds_toArray, List.set_cons_zero, List.set_cons_succ]
        refine wpAnyH_ready (rs := [5]) (by kernel_rfl) (by simp) ?_
        refine AllReadyH.cons rfl (fun K hK => ?_) AllReadyH.nil
        go_simp
        refine hK.out _ _ (by assumption) (fun hHeld => ?_)
        clear hK K
        try simp only [Act.put, List.getElem_toArray, List.getElem_cons_zero, List.getElem_cons_succ, List.setIfInBounds_toArray, List.set_cons_zero, List.set_cons_succ]
        refine wpAnyH_take (i := 8) (v := ?vub8) rfl (by kernel_rfl) (by kernel_rfl) (by kernel_rfl) (fun _ _ _ h => h) (Or.inl ⟨by rfl, ?hyub8⟩) (by assumption) ?restub8
        case hyub8 => (intro w0 hSw; (try dsimp only at hSw); go_simp; try with_reducible rfl)
        case' restub8 => try simp only [Act.put, List.getElem_toArray, List.getElem_cons_zero, List.getElem_cons_succ, List.setIfInBounds_toArray, List.set_cons_zero, List.set_cons_succ]
        refine wpAnyH_ready (rs := [11]) (by kernel_rfl) (by simp) ?_
        refine AllReadyH.cons rfl (fun K hK => ?_) AllReadyH.nil
        go_simp
        refine hK.out _ _ (HH.out _ hT7) (fun hHeld => ?_)
        clear hK K
        try simp only [Act.put, List.getElem_toArray, List.getElem_cons_zero, List.getElem_cons_succ, List.setIfInBounds_toArray, List.set_cons_zero, List.set_cons_succ]
        refine wpAnyH_done (by kernel_rfl) ?_ _
        refine NoPanic.normal ?_
        clear hrun hrun7 hlook6 hl5 e0 e1 e2 e3 e4 e5 e6 e7 e8 p0 p1 p2 p3 p4 p5 p6 k0 k1 r0 r1 r2 r3 r4
        obtain ⟨k0, k1, _, _⟩ := cell2 HK7.out
        obtain ⟨r0, r1, r2, r3, r4⟩ := cell5 HRW7.out
        go_wp2_with fail
        refine (write_any _ _ _ _ _ _ _ _ _ _ _ _ _ _ _ _ _ HP7.out (by simp only []; omega) hk HNEW.out).mono ?_
        rintro e w8 ⟨rfl, hp8, ht8⟩
        go_wp2_with fail
        go_end0
        refine ⟨rfl, ?_, HT7.out.trans (ht8.mono (fun i hi => .inl hi))⟩
        rw [HU.out, if_pos HKI.out]
        exact hp8
      · go_simp
        refine hK.out _ _ (by assumption) (fun hHeld => ?_)
        clear hK K
        try simp only [Act.put, List.getElem_toArray, List.getElem_cons_zero, List.getElem_cons_succ, List.setIfInBounds_toArray, List.set_cons_zero, List.set_cons_succ]
        refine wpAnyH_take (i := 8) (v := ?vua8) rfl (by kernel_rfl) (by kernel_rfl) (by kernel_rfl) (fun _ _ _ h => h) (Or.inl ⟨by rfl, ?hyua8⟩) (by assumption) ?restua8
        case hyua8 => (intro w0 hSw; (try dsimp only at hSw); go_simp; try with_reducible rfl)
        case' restua8 => try simp only [Act.put, List.getElem_toArray, List.getElem_cons_zero, List.getElem_cons_succ, List.setIfInBounds_toArray, List.set_cons_zero, List.set_cons_succ]
        refine wpAnyH_ready (rs := [9]) (by kernel_rfl) (by simp) ?_
        refine AllReadyH.cons rfl (fun K hK => ?_) AllReadyH.nil
        go_simp
        refine hK.out _ _ (HH.out _ hT6) (fun hHeld => ?_)
        clear hK K
        try simp only [Act.put, List.getElem_toArray, List.getElem_cons_zero, List.getElem_cons_succ, List.setIfInBounds_toArray, List.set_cons_zero, List.set_cons_succ]
        refine wpAnyH_take (i := 10) (v := ?vua10) rfl (by kernel_rfl) (by kernel_rfl) (by kernel_rfl) (fun _ _ _ h => h) (Or.inl ⟨by rfl, ?hyua10⟩) (by assumption) ?restua10
        case hyua10 => (intro w0 hSw; (try dsimp only at hSw); go_simp; try with_reducible rfl)
        case' restua10 => try simp only [Act.put, List.getElem_toArray, List.getElem_cons_zero, List.getElem_cons_succ, List.setIfInBounds_toArray, List.set_cons_zero, List.set_cons_succ]
        refine wpAnyH_ready (rs := [11]) (by kernel_rfl) (by simp) ?_
        refine AllReadyH.cons rfl (fun K hK => ?_) AllReadyH.nil
        go_simp
        refine hK.out _ _ (HH.out _ hT7) (fun hHeld => ?_)
        clear hK K
        try simp only [Act.put, List.getElem_toArray, List.getElem_cons_zero, List.getElem_cons_succ, List.setIfInBounds_toArray, List.set_cons_zero, List.set_cons_succ]
        refine wpAnyH_done (by kernel_rfl) ?_ _
        refine NoPanic.normal ?_
        clear hrun hrun7 hlook6 hl5 e0 e1 e2 e3 e4 e5 e6 e7 e8 p0 p1 p2 p3 p4 p5 p6 k0 k1 r0 r1 r2 r3 r4
        obtain ⟨k0, k1, _, _⟩ := cell2 HK7.out
        obtain ⟨r0, r1, r2, r3, r4⟩ := cell5 HRW7.out
        go_wp2_with fail
        refine (write_any _ _ _ _ _ _ _ _ _ _ _ _ _ _ _ _ _ HP7.out (by simp only []; omega) hk HNEW.out).mono ?_
        rintro e w8 ⟨rfl, hp8, ht8⟩
        go_wp2_with fail
        go_end0
        refine ⟨rfl, ?_, HT7.out.trans (ht8.mono (fun i hi => .inl hi))⟩
        rw [HU.out, if_pos HKI.out]
        exact hp8
end Go.Proofs.YtkmpagijdhhinaaDoor

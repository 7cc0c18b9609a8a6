/- party.of: a name's goods. -/
import Derived.Test.YtkmpagijdhhinaaDoorPartySpec
import Derived.Test.YtkmpagijdhhinaaDoorCopyStr
namespace Go.Proofs.YtkmpagijdhhinaaDoor
open Go.RowKit Key Od Pa

theorem goods_cells (w : World) (b : Nat) (s : ByteArray) (n : Int) (hs : s.size ≤ 8) (h : w.heap[b]? = some (.cells #[.int .u8 0, .int .u8 0, .int .u8 0, .int .u8 0, .int .u8 0, .int .u8 0, .int .u8 0, .int .u8 0, .int .i64 n] tGoods (0, 0))) :
    (∀ j, j < 8 → (w.setCells b 0 (byteCells s)).cell? ⟨b, j, none⟩ = some (.int .u8 (byteI s.data.toList j))) ∧ (w.setCells b 0 (byteCells s)).cell? ⟨b, 8, none⟩ = some (.int .i64 n) := by
  have hl := byteCells_length s
  have h0 : ∀ j, j < 8 → w.cell? ⟨b, j, none⟩ = some (.int .u8 0) := fun j hj => by
    refine cell_at h j ?_
    match j, hj with
    | 0, _ => rfl
    | 1, _ => rfl
    | 2, _ => rfl
    | 3, _ => rfl
    | 4, _ => rfl
    | 5, _ => rfl
    | 6, _ => rfl
    | 7, _ => rfl
  refine ⟨fun j hj => ?_, ?_⟩
  · by_cases hjs : j < s.size
    · have := World.cell?_setCells_in b (byteCells s) 0 w (fun i hi => by rw [Nat.zero_add, h0 i (by omega)]; rfl) j (by omega)
      rw [Nat.zero_add] at this
      rw [this]
      have hx := get_list s j hjs
      unfold byteI
      rw [hx]
      simp [byteCells]
      rfl
    · rw [World.cell?_setCells_out b (byteCells s) 0 w ⟨b, j, none⟩ (fun _ _ => .inr (by simp only []; omega)), h0 j hj]
      unfold byteI
      rw [List.getElem?_eq_none (by simp; omega)]
      rfl
  · rw [World.cell?_setCells_out b (byteCells s) 0 w ⟨b, 8, none⟩ (fun _ _ => .inr (by simp only []; omega))]
    exact cell_at h 8 rfl

theorem set9 {w : World} {b : Nat} {x0 x1 x2 x3 x4 x5 x6 x7 x8 : Value} {T : TypeId} (h : w.heap[b]? = some (.cells #[x0, x1, x2, x3, x4, x5, x6, x7, x8] T (0, 0))) (p0 p1 p2 p3 p4 p5 p6 p7 p8 : Value) :
    (((((((((w.setCell ⟨b, 0, none⟩ p0).setCell ⟨b, 1, none⟩ p1).setCell ⟨b, 2, none⟩ p2).setCell ⟨b, 3, none⟩ p3).setCell ⟨b, 4, none⟩ p4).setCell ⟨b, 5, none⟩ p5).setCell ⟨b, 6, none⟩ p6).setCell ⟨b, 7, none⟩ p7).setCell ⟨b, 8, none⟩ p8).heap[b]? = some (.cells #[p0, p1, p2, p3, p4, p5, p6, p7, p8] T (0, 0)) := by
  simp [World.setCell, Array.getElem?_modify, h]
theorem below_set9 {B : Nat} {a w : World} (h : Below B a w) {b : Nat} (hb : B ≤ b) (p0 p1 p2 p3 p4 p5 p6 p7 p8 : Value) : Below B a (((((((((w.setCell ⟨b, 0, none⟩ p0).setCell ⟨b, 1, none⟩ p1).setCell ⟨b, 2, none⟩ p2).setCell ⟨b, 3, none⟩ p3).setCell ⟨b, 4, none⟩ p4).setCell ⟨b, 5, none⟩ p5).setCell ⟨b, 6, none⟩ p6).setCell ⟨b, 7, none⟩ p7).setCell ⟨b, 8, none⟩ p8) :=
  ((((((((h.setCell (p := ⟨b, 0, none⟩) hb _).setCell (p := ⟨b, 1, none⟩) hb _).setCell (p := ⟨b, 2, none⟩) hb _).setCell (p := ⟨b, 3, none⟩) hb _).setCell (p := ⟨b, 4, none⟩) hb _).setCell (p := ⟨b, 5, none⟩) hb _).setCell (p := ⟨b, 6, none⟩) hb _).setCell (p := ⟨b, 7, none⟩) hb _).setCell (p := ⟨b, 8, none⟩) hb _

set_option maxRecDepth 100000 in
set_option maxHeartbeats 1000000 in
theorem of_any (s : ByteArray) (w : World) (hs : s.size ≤ 8) : Calls Tryd.prog 42 #[.string s] w fun e w' => e = .returned (mkGoods s.data.toList) ∧ Below w.heap.size w w' := by
  have HB1 := Lib.hid ((below_alloc w (.cells #[.int .u8 0, .int .u8 0, .int .u8 0, .int .u8 0, .int .u8 0, .int .u8 0, .int .u8 0, .int .u8 0, .int .i64 0] tGoods)).alloc (by simp) (.cells #[.int .u8 0, .int .u8 0, .int .u8 0, .int .u8 0, .int .u8 0, .int .u8 0, .int .u8 0, .int .u8 0, .int .i64 s.size] tGoods))
  have hr1 := heap_keep (heap_new w (.cells #[.int .u8 0, .int .u8 0, .int .u8 0, .int .u8 0, .int .u8 0, .int .u8 0, .int .u8 0, .int .u8 0, .int .i64 0] tGoods)) (below_alloc _ (.cells #[.int .u8 0, .int .u8 0, .int .u8 0, .int .u8 0, .int .u8 0, .int .u8 0, .int .u8 0, .int .u8 0, .int .i64 s.size] tGoods))
  have hg1 := heap_new (w.alloc (.cells #[.int .u8 0, .int .u8 0, .int .u8 0, .int .u8 0, .int .u8 0, .int .u8 0, .int .u8 0, .int .u8 0, .int .i64 0] tGoods)) (.cells #[.int .u8 0, .int .u8 0, .int .u8 0, .int .u8 0, .int .u8 0, .int .u8 0, .int .u8 0, .int .u8 0, .int .i64 s.size] tGoods)
  rw [show (w.alloc (.cells #[.int .u8 0, .int .u8 0, .int .u8 0, .int .u8 0, .int .u8 0, .int .u8 0, .int .u8 0, .int .u8 0, .int .i64 0] tGoods)).heap.size = w.heap.size + 1 by simp] at hg1
  generalize hW : (w.alloc (.cells #[.int .u8 0, .int .u8 0, .int .u8 0, .int .u8 0, .int .u8 0, .int .u8 0, .int .u8 0, .int .u8 0, .int .i64 0] tGoods)).alloc (.cells #[.int .u8 0, .int .u8 0, .int .u8 0, .int .u8 0, .int .u8 0, .int .u8 0, .int .u8 0, .int .u8 0, .int .i64 s.size] tGoods) = W at HB1 hr1 hg1
  have HCE := Lib.hid (show ∀ j, j < s.size → (W.cell? ⟨w.heap.size + 1, 0 + j, none⟩).isSome = true from fun j hj => by
    have : j < 8 := by omega
    rw [Nat.zero_add]
    rw [cell_at hg1 j (x := .int .u8 0) (by
      match j, this with
      | 0, _ => rfl
      | 1, _ => rfl
      | 2, _ => rfl
      | 3, _ => rfl
      | 4, _ => rfl
      | 5, _ => rfl
      | 6, _ => rfl
      | 7, _ => rfl)]
    rfl)
  have HFZ := Lib.hid (show ∀ j, j < s.size → W.frozen? ⟨w.heap.size + 1, 0 + j, none⟩ = false from fun j hj => frozen_at hg1 _)
  obtain ⟨hg2, hg8⟩ := goods_cells W (w.heap.size + 1) s s.size hs hg1
  have hB2 := below_setCells (B := w.heap.size + 1) (Below.refl _ W) (Nat.le_refl _) (byteCells s) 0
  have hr2 := (hB2.block w.heap.size (by omega)).trans hr1
  have HB2 := Lib.hid (HB1.out.trans (hB2.mono (by omega)))
  have hcp := run_copy_text (P := Tryd.prog) W 106 9 3 5 (w.heap.size + 1) 0 8 8 s Tryd.underlying106 (by kernel_rfl) hs HCE.out HFZ.out
  have e0 := hg2 0 (by omega)
  have e1 := hg2 1 (by omega)
  have e2 := hg2 2 (by omega)
  have e3 := hg2 3 (by omega)
  have e4 := hg2 4 (by omega)
  have e5 := hg2 5 (by omega)
  have e6 := hg2 6 (by omega)
  have e7 := hg2 7 (by omega)
  clear hg2 hB2 hr1 HFZ
  generalize W.setCells (w.heap.size + 1) 0 (byteCells s) = W2 at hcp e0 e1 e2 e3 e4 e5 e6 e7 hg8 hr2 HB2
  rw [← hW] at hcp
  clear hW hg1 HCE HB1
  have hf0 := frozen_at hr2 0
  have hf1 := frozen_at hr2 1
  have hf2 := frozen_at hr2 2
  have hf3 := frozen_at hr2 3
  have hf4 := frozen_at hr2 4
  have hf5 := frozen_at hr2 5
  have hf6 := frozen_at hr2 6
  have hf7 := frozen_at hr2 7
  have hf8 := frozen_at hr2 8
  have c0 := cell_at hr2 0 rfl
  have c1 := cell_at hr2 1 rfl
  have c2 := cell_at hr2 2 rfl
  have c3 := cell_at hr2 3 rfl
  have c4 := cell_at hr2 4 rfl
  have c5 := cell_at hr2 5 rfl
  have c6 := cell_at hr2 6 rfl
  have c7 := cell_at hr2 7 rfl
  have c8 := cell_at hr2 8 rfl
  have HR2 := Lib.hid hr2
  clear hr2
  go_enter Tryd.func42, Tryd.ntmps42
  go_wp2_with fail
  have hm := set9 HR2.out (.int .u8 (byteI s.data.toList 0)) (.int .u8 (byteI s.data.toList 1)) (.int .u8 (byteI s.data.toList 2)) (.int .u8 (byteI s.data.toList 3)) (.int .u8 (byteI s.data.toList 4)) (.int .u8 (byteI s.data.toList 5)) (.int .u8 (byteI s.data.toList 6)) (.int .u8 (byteI s.data.toList 7)) (.int .i64 s.size)
  have hbl := below_set9 HB2.out (Nat.le_refl w.heap.size) (.int .u8 (byteI s.data.toList 0)) (.int .u8 (byteI s.data.toList 1)) (.int .u8 (byteI s.data.toList 2)) (.int .u8 (byteI s.data.toList 3)) (.int .u8 (byteI s.data.toList 4)) (.int .u8 (byteI s.data.toList 5)) (.int .u8 (byteI s.data.toList 6)) (.int .u8 (byteI s.data.toList 7)) (.int .i64 s.size)
  have m0 := cell_at hm 0 rfl
  have m1 := cell_at hm 1 rfl
  have m2 := cell_at hm 2 rfl
  have m3 := cell_at hm 3 rfl
  have m4 := cell_at hm 4 rfl
  have m5 := cell_at hm 5 rfl
  have m6 := cell_at hm 6 rfl
  have m7 := cell_at hm 7 rfl
  have m8 := cell_at hm 8 rfl
  refine bodyPost_ret (v := mkGoods s.data.toList) ?_ rfl ⟨rfl, hbl⟩
  clear hm hbl
  simp [results, Tryd.results42, go_sem, m0, m1, m2, m3, m4, m5, m6, m7, m8, mkGoods]
end Go.Proofs.YtkmpagijdhhinaaDoor

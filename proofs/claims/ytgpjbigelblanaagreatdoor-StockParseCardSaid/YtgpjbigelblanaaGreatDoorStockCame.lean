/- A table of fields in memory, made row by row out of literals. -/
import Derived.Test.YtgpjbigelblanaaGreatDoorCsvOwn
import Derived.Test.YtgpjbigelblanaaGreatDoorTurn
import Derived.Test.YtgpjbigelblanaaGreatDoorStockFirst
import Derived.Test.YtgpjbigelblanaaGreatDoorStockForm0
import Derived.Test.YtgpjbigelblanaaGreatDoorCsvParse
import Derived.Deep.QuietTactic
import Derived.BigQuiet
import Derived.WalkKit
import Derived.Test.YtgpjbigelblanaaGreatDoorStockParse
namespace Go.Proofs.YtgpjbigelblanaaGreatDoor
open Go.RowKit

abbrev Lin : Type := List (List UInt8)
/-- A row that was written as a literal. -/
def LitL (w : World) (u : Value) (r : Lin) : Prop := ∃ g, u = .slice (some ⟨g, 0, none⟩) r.length r.length ∧ w.heap[g]? = some (.cells (r.map strV).toArray tFld (0, 0))
theorem LitL.below {w w' : World} {u : Value} {r : Lin} (h : LitL w u r) (hb : Below w.heap.size w w') : LitL w' u r := by
  obtain ⟨g, e, hg⟩ := h
  exact ⟨g, e, heap_keep hg hb⟩
theorem LitL.strs {w : World} {u : Value} {r : Lin} (h : LitL w u r) : Strs w w.heap.size u r := by
  obtain ⟨g, e, hg⟩ := h
  refine ⟨_, _, _, e, rfl, Nat.le_refl _, fun k f hf => ⟨_, strV f, rfl, heap_lt hg, ?_, rfl⟩⟩
  rw [Addr.add_lit, Nat.zero_add]
  exact cell_at hg k (by simp [hf])
theorem LitL.one {w : World} {u : Value} {r : Lin} (h : LitL w u r) : u.oneCell' = true := by
  obtain ⟨g, rfl, _⟩ := h; rfl
theorem own_apartL {w : World} {B : Nat} {e : TypeId} {z n : Nat} {v : Value} {xs : List Value} (h : w.ownsRow B e z v n xs) {r : Nat} {cs : Array Value} {T : TypeId} {fr : Nat × Nat} (hr : w.heap[r]? = some (.cells cs T fr)) (hT : T ≠ e) : v.ownBlock ≠ some r := by
  intro e1
  rcases h.2 with ⟨rfl, _⟩ | ⟨g, cap, cur, rfl, _, hg, _⟩
  · cases e1
  · injection e1 with e1
    have e1 : g = r := e1
    subst e1
    rw [hr] at hg
    injection hg with hg
    injection hg with _ hg
    exact hT hg
theorem heap_turnT {S : Nat → Prop} {a b : World} {i : Nat} {o : Obj} (h : a.heap[i]? = some o) (ht : Turned S a b) (hi : ¬ S i) : b.heap[i]? = some o := (ht.block i (heap_lt h) hi).trans h
/-- A table of the call's own, its rows literals. -/
structure TabO (B : Nat) (w : World) (v : Value) (L : List Lin) (vs : List Value) : Prop where
  own : w.ownsRow B tLine 1 v L.length vs
  each : ∀ (k : Nat) (u : Value) (r : Lin), vs[k]? = some u → L[k]? = some r → LitL w u r
theorem TabO.below {B : Nat} {w w' : World} {v : Value} {L : List Lin} {vs : List Value} (h : TabO B w v L vs) (hb : Below w.heap.size w w') : TabO B w' v L vs :=
  ⟨own_keep h.own hb, fun k u r hu hr => (h.each k u r hu hr).below hb⟩
theorem TabO.len {B : Nat} {w : World} {v : Value} {L : List Lin} {vs : List Value} (h : TabO B w v L vs) : vs.length = L.length := by have := h.own.1; omega
theorem TabO.push {B : Nat} {w w' : World} {v v' u : Value} {L : List Lin} {vs : List Value} {r : Lin} (h : TabO B w v L vs) (hu : LitL w u r) (ho : w'.ownsRow B tLine 1 v' (L.length + 1) (vs ++ [u])) (hg : w.grownBy w' v.ownBlock) : TabO B w' v' (L ++ [r]) (vs ++ [u]) := by
  have keep : ∀ {x : Value} {s : Lin}, LitL w x s → LitL w' x s := fun {x s} hx => by
    obtain ⟨g, e, hgx⟩ := hx
    exact ⟨g, e, (hg.block g (heap_lt hgx) (fun e => own_apartL h.own hgx (by decide) e.symm)).trans hgx⟩
  refine ⟨by simpa using ho, fun k x s hx hs => ?_⟩
  by_cases hk : k < L.length
  · rw [List.getElem?_append_left (by rw [h.len]; exact hk)] at hx
    rw [List.getElem?_append_left hk] at hs
    exact keep (h.each k x s hx hs)
  · rw [List.getElem?_append_right (by rw [h.len]; omega)] at hx
    rw [List.getElem?_append_right (by omega)] at hs
    rw [h.len] at hx
    have h0 : k - L.length = 0 := by
      have := (List.getElem?_eq_some_iff.1 hs).1
      simpa using this
    rw [h0] at hx hs
    simp only [List.getElem?_cons_zero, Option.some.injEq] at hx hs
    subst hx; subst hs
    exact keep hu
theorem TabO.rowz {B : Nat} {w : World} {v : Value} {L : List Lin} {vs : List Value} (h : TabO B w v L vs) : Rowz w w.heap.size v L := by
  rcases h.own.2 with ⟨rfl, h0⟩ | ⟨g, cap, cur, rfl, _, hg, hc, _, hs, hx⟩
  · rw [List.length_eq_zero_iff.1 h0]; exact Sl.nil _ _ _
  · refine ⟨_, _, _, rfl, rfl, hc, fun k r hr => ?_⟩
    have hk := (List.getElem?_eq_some_iff.1 hr).1
    obtain ⟨u, hu⟩ : ∃ u, vs[k]? = some u := ⟨_, List.getElem?_eq_getElem (by rw [h.len]; exact hk)⟩
    refine ⟨_, u, rfl, heap_lt hg, ?_, (h.each k u r hu hr).strs⟩
    rw [Addr.add_lit, Nat.zero_add]
    refine cell_at hg k ?_
    have : (cur.toList.take (L.length * 1))[k]? = some u := by rw [hx]; exact hu
    rw [List.getElem?_take, if_pos (by omega)] at this
    simpa using this
/-- A table of one row, as a literal. -/
theorem TabO.one {B : Nat} {w : World} {r : Lin} {g : Nat} {u : Value} (hu : LitL w u r) (hg : w.heap[g]? = some (.cells #[u] tLine (0, 0))) (hB : B ≤ g) : TabO B w (.slice (some ⟨g, 0, none⟩) 1 1) [r] [u] := by
  refine ⟨⟨by simp, .inr ⟨g, 1, #[u], rfl, hB, hg, Nat.le_refl _, by unfold maxLen; omega, rfl, rfl⟩⟩, fun k x s hx hs => ?_⟩
  match k, hx, hs with
  | 0, hx, hs => simp only [List.getElem?_cons_zero, Option.some.injEq] at hx hs; subst hx; subst hs; exact hu
/-- The literal that has just been made, and a table's row of it. -/
theorem lit_new (w : World) (r : Lin) {xs : Array Value} (hx : xs = (r.map strV).toArray) : LitL (w.alloc (.cells xs tFld)) (.slice (some ⟨w.heap.size, 0, none⟩) r.length r.length) r := ⟨_, rfl, by rw [hx]; exact heap_new _ _⟩
end Go.Proofs.YtgpjbigelblanaaGreatDoor
/- stock.Print: what it computes. -/
namespace Go.Proofs.YtgpjbigelblanaaGreatDoor
open Go.RowKit Go.Maps Key Mon Sk Rw

namespace Sk
theorem fits_table {q : Int} {l : List R5} (h : validB 1 q l = true) : Fits (table q l) := by
  obtain ⟨h1, h2, h3, h4, h5⟩ := valid_parts h
  have hr := room_table h
  refine ⟨by rw [table_len]; omega, fun r hr => ?_, fun r hr f hf => ?_⟩
  · unfold table at hr
    simp only [List.mem_cons, List.mem_append, List.mem_map, List.not_mem_nil, or_false] at hr
    rcases hr with rfl | ⟨x, _, rfl⟩ | rfl <;> simp [rowF]
  · unfold table at hr
    simp only [List.mem_cons, List.mem_append, List.mem_map, List.not_mem_nil, or_false] at hr
    rcases hr with rfl | ⟨x, hx, rfl⟩ | rfl
    · have a := itoa_len (n := q) 9 (by omega) (by simp; omega)
      simp only [List.mem_cons, List.not_mem_nil, or_false] at hf
      rcases hf with rfl | rfl
      · decide
      · omega
    · have := room_row (h4 x hx)
      have := Csv.roomRow_mem _ f hf
      omega
    · have b := itoa_len (n := (l.length : Int)) 2 (by omega) (by simp; omega)
      simp only [List.mem_cons, List.not_mem_nil, or_false] at hf
      rcases hf with rfl | rfl
      · decide
      · omega
end Sk
theorem two_blocks' (w : World) (o p : Obj) {W : World} (h : (w.alloc o).alloc p = W) : Below w.heap.size w W ∧ W.heap[w.heap.size]? = some o ∧ W.heap[w.heap.size + 1]? = some p := by
  subst h
  refine ⟨(below_alloc _ _).alloc (by simp) _, heap_keep (heap_new w o) (below_alloc _ _), ?_⟩
  have := heap_new (w.alloc o) p
  rwa [show (w.alloc o).heap.size = w.heap.size + 1 by simp] at this
/-- What a statement's printing comes to. -/
def printV (r : List UInt8 × Int) : Value := .tuple #[.string ⟨r.1.toArray⟩, .int .i64 r.2]

set_option linter.unusedSimpArgs false in
set_option linter.unusedVariables false in
set_option maxRecDepth 100000 in
set_option maxHeartbeats 4000000 in
theorem sprint_any (v : Value) (p q : Int) (l : List R5) (w : World) (hR : Rd w v l) (hS : SkW w) : Calls Tryz.prog 12 #[.agg #[.int .i64 p, .int .i64 q, v]] w fun e w' => e = .returned (printV (printS p q l)) ∧ Below w.heap.size w w' := by
  obtain ⟨k0, hk0, hz0, hz1, hz2⟩ := info_parts line_info
  obtain ⟨Av, cv, rfl, hcv, hcm⟩ := hR.shape
  obtain ⟨wa, hwa⟩ : ∃ wa, w.alloc (.cells #[.int .i64 p, .int .i64 q, .slice Av l.length cv] tStat) = wa := ⟨_, rfl⟩
  have HA := Lib.hid (show Below w.heap.size w wa by rw [← hwa]; exact below_alloc _ _)
  have HX := Lib.hid (show wa.heap[w.heap.size]? = some (.cells #[.int .i64 p, .int .i64 q, .slice Av l.length cv] tStat (0, 0)) by rw [← hwa]; exact heap_new _ _)
  have hWA := Lib.hid hwa
  have HR := Lib.hid hR; have HS := Lib.hid hS
  clear hwa hR hS
  obtain ⟨m0, m1, m2⟩ := cell3c HX.out
  by_cases hp : p = 1
  · have hpq := bneF hp
    cases hv : validB p q l with
    | false =>
      have HF := Lib.hid (show printS p q l = ([], 2) by unfold printS okP; rw [hv]; simp)
      have HV := Lib.hid (rowsValid_any wa p q (.slice Av l.length cv) l (HR.out.keep HA.out) (HS.out.below HA.out).kw.pt)
      rw [hv] at HV
      clear hp hv
      go_enter Tryz.func12, Tryz.ntmps12
      go_upto_region 1 with (fail)
      rw [hWA.out]
      go_wp2_with (go_at_call 24; refine HV.out.mono ?_; rintro e w1 ⟨rfl, hb⟩; have HB := Lib.hid (bch HA.out hb HA.out.size); clear hb)
      go_ret2
      exact ⟨by rw [HF.out]; rfl, HB.out⟩
    | true =>
      subst hp
      have hf := fits_table hv
      have hvp := valid_parts hv
      have HF := Lib.hid (show printS 1 q l = (Csv.printOf (table q l), 0) by unfold printS okP; rw [hv]; simp)
      have HV := Lib.hid (rowsValid_any wa 1 q (.slice Av l.length cv) l (HR.out.keep HA.out) (HS.out.below HA.out).kw.pt)
      rw [hv] at HV
      have HFIT := Lib.hid hf
      have hl4 := hvp.2.2.1
      have HPUTQ := Lib.hid (fun W hM => sput_any q W (show InR q by unfold InR; have := hvp.1; have := hvp.2.1; omega) hM)
      have HPUTN := Lib.hid (fun W hM => sput_any (l.length : Int) W (show InR _ by unfold InR; omega) hM)
      have HOK := Lib.hid hvp.2.2.2.1
      clear hv hf hvp
      go_enter Tryz.func12, Tryz.ntmps12
      go_upto_region 1 with (fail)
      rw [hWA.out]
      go_upto_region 3 with (go_at_call 24; refine HV.out.mono ?_; rintro e w1 ⟨rfl, hb⟩; have HB1 := Lib.hid (bch HA.out hb HA.out.size); have HX1 := Lib.hid (heap_keep HX.out hb); clear hb m0 m1 m2)
      obtain ⟨m0, m1, m2⟩ := cell3c HX1.out
      go_wp2_with fail
      refine (HPUTQ.out _ (HS.out.below HB1.out).kw.mw).mono ?_
      rintro e w2 ⟨rfl, hb2⟩
      have HB2 := Lib.hid (bch HB1.out hb2 HB1.out.size); have HX2 := Lib.hid (heap_keep HX1.out hb2)
      clear hb2 m0 m1 m2
      go_upto_region 4 with (fail)
      obtain ⟨w3, hw3⟩ : ∃ w3, w3 = (w2.alloc (.cells #[.string ⟨#[115, 116, 111, 99, 107]⟩, .string ⟨(Lib.itoa q).toArray⟩] tFld)).alloc (.cells #[.slice (some ⟨w2.heap.size, 0, none⟩) 2 2] tLine) := ⟨_, rfl⟩
      rw [← hw3]
      have h2 := two_blocks' w2 _ _ hw3.symm
      have HB3 := Lib.hid (bch HB2.out h2.1 HB2.out.size); have HX3 := Lib.hid (heap_keep HX2.out h2.1)
      have HT3 := Lib.hid (show TabO (w.heap.size + 1) w3 (.slice (some ⟨w2.heap.size + 1, 0, none⟩) 1 1) [[wHead, Lib.itoa q]] [.slice (some ⟨w2.heap.size, 0, none⟩) 2 2] from TabO.one ⟨_, rfl, h2.2.1⟩ h2.2.2 (by have := heap_lt HX2.out; omega))
      clear hw3 h2
      generalize w2.heap.size = b2 at HT3 ⊢
      obtain ⟨m0, m1, m2⟩ := cell3c HX3.out
      go_wp2_with fail
      clear m0 m1 m2
      go_loopw [4, 23] (fun v4 i wr => ∃ (k : Nat) (vs : List Value), i = .int .i64 k ∧ k ≤ l.length ∧ Hid (TabO (w.heap.size + 1) wr v4 ([wHead, Lib.itoa q] :: (l.take k).map rowF) vs) ∧ Hid (wr.heap[w.heap.size]? = some (.cells #[.int .i64 1, .int .i64 q, .slice Av l.length cv] tStat (0, 0))) ∧ Hid (Below w.heap.size w wr)) (fun _ i _ => l.length - (intOf i).toNat)
      case atStart => exact ⟨0, _, rfl, by omega, HT3.out, HX3.out, HB3.out⟩
      case round =>
        obtain ⟨k, vs, rfl, hk, HT, HXr, HBr⟩ := hrel
        by_cases hkl : k < l.length
        · obtain ⟨x, hx⟩ : ∃ x, l[k]? = some x := ⟨_, List.getElem?_eq_getElem hkl⟩
          have hok := HOK.out x (List.mem_of_getElem? hx)
          have hrow := row_one hok
          obtain ⟨g, off, n', c', e, d0, d1, d2, d3, d4⟩ := HR.out.cells HBr.out hx
          injection e with e1 e2 e3
          subst e1
          have HTK := Lib.hid (take_succ' hx)
          have hkI : (k : Int) < l.length := by omega
          obtain ⟨A4, c4, rfl, _⟩ := own_slice HT.out.own
          have hlen4 : ([wHead, Lib.itoa q] :: (l.take k).map rowF).length = k + 1 := by simp; omega
          have HT := Lib.hid (show TabO (w.heap.size + 1) wr (.slice A4 (k + 1) c4) ([wHead, Lib.itoa q] :: (l.take k).map rowF) vs by have := HT.out; rw [hlen4] at this; exact this)
          have HP0 := Lib.hid (fun W hM => sput_any x.1.1 W (show InR _ by unfold InR; have := hrow.1; omega) hM)
          have HP3 := Lib.hid (fun W hM => sput_any x.2.2.2 W (show InR _ by unfold InR; have := hrow.2.2.2.2.2.1; omega) hM)
          clear hx hok hrow e2 e3
          go_upto_region 7 with (fail)
          obtain ⟨wq, hW⟩ : ∃ wq, wq = wr.alloc (.cells #[.int .i64 x.1.1, .int .i64 x.1.2, .int .i64 x.2.1, .int .i64 x.2.2.1, .int .i64 x.2.2.2] tRow) := ⟨_, rfl⟩
          rw [← hW]
          have hbW : Below wr.heap.size wr wq := by rw [hW]; exact below_alloc _ _
          have HRW := Lib.hid (show wq.heap[wr.heap.size]? = some (.cells #[.int .i64 x.1.1, .int .i64 x.1.2, .int .i64 x.2.1, .int .i64 x.2.2.1, .int .i64 x.2.2.2] tRow (0, 0)) by rw [hW]; exact heap_new _ _)
          have HTW := Lib.hid (HT.out.below hbW); have HXW := Lib.hid (heap_keep HXr.out hbW); have HBW := Lib.hid (bch HBr.out hbW HBr.out.size)
          clear hW hbW d0 d1 d2 d3 d4
          have hne : ¬ Value.ownBlock (.slice A4 (k + 1) c4) = some wr.heap.size := fun e => by have := (HT.out.own.lt wr.heap.size e).2; omega
          generalize wr.heap.size = br at HRW hne ⊢
          have hne' := hne
          have HH := Lib.hid (fun W' (hb : Turned (fun j => Value.ownBlock (.slice A4 (k + 1) c4) = some j) wq W') => (⟨Lib.hid hb, cell_at (heap_turnT HRW.out hb hne) 0 rfl, cell_at (heap_turnT HRW.out hb hne) 1 rfl, cell_at (heap_turnT HRW.out hb hne) 2 rfl, cell_at (heap_turnT HRW.out hb hne) 4 rfl⟩ : (fun w' => Hid (Turned (fun j => Value.ownBlock (.slice A4 (k + 1) c4) = some j) wq w') ∧ w'.cell? ⟨br, 0, none⟩ = some (.int .i64 x.1.1) ∧ w'.cell? ⟨br, 1, none⟩ = some (.int .i64 x.1.2) ∧ w'.cell? ⟨br, 2, none⟩ = some (.int .i64 x.2.1) ∧ w'.cell? ⟨br, 4, none⟩ = some (.int .i64 x.2.2.2)) W'))
          refine wp_region_noPanic ?_
          refine wp_region_held_drew (S := (fun w' => Hid (Turned (fun j => Value.ownBlock (.slice A4 (k + 1) c4) = some j) wq w') ∧ w'.cell? ⟨br, 0, none⟩ = some (.int .i64 x.1.1) ∧ w'.cell? ⟨br, 1, none⟩ = some (.int .i64 x.1.2) ∧ w'.cell? ⟨br, 2, none⟩ = some (.int .i64 x.2.1) ∧ w'.cell? ⟨br, 4, none⟩ = some (.int .i64 x.2.2.2))) (by kernel_rfl) (HH.out _ ((Turned.refl (fun j => Value.ownBlock (.slice A4 (k + 1) c4) = some j) wq).drew)) (fun hHeld => ?_)
          refine wpAnyH_take (i := 0) (v := ?vc0_1) rfl (by kernel_rfl) (by kernel_rfl) (by kernel_rfl) (fun _ _ _ h => h) (Or.inl ⟨by rfl, ?hyc0_1⟩) (by assumption) ?restc0_1
          case hyc0_1 => (intro w0 hSw; (try dsimp only at hSw); go_simp; try with_reducible rfl)
          case' restc0_1 => try simp only [Act.put, List.getElem_toArray, List.getElem_cons_zero, List.getElem_cons_succ, List.setIfInBounds_toArray, List.set_cons_zero, List.set_cons_succ]
          refine wpAnyH_take (i := 1) (v := ?vc1_2) rfl (by kernel_rfl) (by kernel_rfl) (by kernel_rfl) (fun _ _ _ h => h) (Or.inl ⟨by rfl, ?hyc1_2⟩) (by assumption) ?restc1_2
          case hyc1_2 => (intro w0 hSw; (try dsimp only at hSw); go_simp; try with_reducible rfl)
          case' restc1_2 => try simp only [Act.put, List.getElem_toArray, List.getElem_cons_zero, List.getElem_cons_succ, List.setIfInBounds_toArray, List.set_cons_zero, List.set_cons_succ]
          refine wpAnyH_take (i := 2) (v := ?vc2_3) rfl (by kernel_rfl) (by kernel_rfl) (by kernel_rfl) (fun _ _ _ h => h) (Or.inl ⟨by rfl, ?hyc2_3⟩) (by assumption) ?restc2_3
          case hyc2_3 => (intro w0 hSw; (try dsimp only at hSw); go_simp; try with_reducible rfl)
          case' restc2_3 => try simp only [Act.put, List.getElem_toArray, List.getElem_cons_zero, List.getElem_cons_succ, List.setIfInBounds_toArray, List.set_cons_zero, List.set_cons_succ]
          refine wpAnyH_take (i := 3) (v := ?vc3_4) rfl (by kernel_rfl) (by kernel_rfl) (by kernel_rfl) (fun _ _ _ h => h) (Or.inl ⟨by rfl, ?hyc3_4⟩) (by assumption) ?restc3_4
          case hyc3_4 => (intro w0 hSw; (try dsimp only at hSw); go_simp; try with_reducible rfl)
          case' restc3_4 => try simp only [Act.put, List.getElem_toArray, List.getElem_cons_zero, List.getElem_cons_succ, List.setIfInBounds_toArray, List.set_cons_zero, List.set_cons_succ]
          refine wpAnyH_take (i := 5) (v := ?vc5_5) rfl (by kernel_rfl) (by kernel_rfl) (by kernel_rfl) (fun _ _ _ h => h) (Or.inl ⟨by rfl, ?hyc5_5⟩) (by assumption) ?restc5_5
          case hyc5_5 => (intro w0 hSw; (try dsimp only at hSw); go_simp; try with_reducible rfl)
          case' restc5_5 => try simp only [Act.put, List.getElem_toArray, List.getElem_cons_zero, List.getElem_cons_succ, List.setIfInBounds_toArray, List.set_cons_zero, List.set_cons_succ]
          refine wpAnyH_take (i := 6) (v := ?vc6_6) rfl (by kernel_rfl) (by kernel_rfl) (by kernel_rfl) (fun _ _ _ h => h) (Or.inl ⟨by rfl, ?hyc6_6⟩) (by assumption) ?restc6_6
          case hyc6_6 => (intro w0 hSw; (try dsimp only at hSw); go_simp; try with_reducible rfl)
          case' restc6_6 => try simp only [Act.put, List.getElem_toArray, List.getElem_cons_zero, List.getElem_cons_succ, List.setIfInBounds_toArray, List.set_cons_zero, List.set_cons_succ]
          refine wpAnyH_take (i := 7) (v := ?vc7_7) rfl (by kernel_rfl) (by kernel_rfl) (by kernel_rfl) (fun _ _ _ h => h) (Or.inl ⟨by rfl, ?hyc7_7⟩) (by assumption) ?restc7_7
          case hyc7_7 => (intro w0 hSw; (try dsimp only at hSw); go_simp; try with_reducible rfl)
          case' restc7_7 => try simp only [Act.put, List.getElem_toArray, List.getElem_cons_zero, List.getElem_cons_succ, List.setIfInBounds_toArray, List.set_cons_zero, List.set_cons_succ]
          refine wpAnyH_take (i := 9) (v := ?vc9_8) rfl (by kernel_rfl) (by kernel_rfl) (by kernel_rfl) (fun _ _ _ h => h) (Or.inl ⟨by rfl, ?hyc9_8⟩) (by assumption) ?restc9_8
          case hyc9_8 => (intro w0 hSw; (try dsimp only at hSw); go_simp; try with_reducible rfl)
          case' restc9_8 => try simp only [Act.put, List.getElem_toArray, List.getElem_cons_zero, List.getElem_cons_succ, List.setIfInBounds_toArray, List.set_cons_zero, List.set_cons_succ]
          refine wpAnyH_take (i := 10) (v := ?vc10_9) rfl (by kernel_rfl) (by kernel_rfl) (by kernel_rfl) (fun _ _ _ h => h) (Or.inl ⟨by rfl, ?hyc10_9⟩) (by assumption) ?restc10_9
          case hyc10_9 => (intro w0 hSw; (try dsimp only at hSw); go_simp; try with_reducible rfl)
          case' restc10_9 => try simp only [Act.put, List.getElem_toArray, List.getElem_cons_zero, List.getElem_cons_succ, List.setIfInBounds_toArray, List.set_cons_zero, List.set_cons_succ]
          refine wpAnyH_take (i := 12) (v := ?vc12_10) rfl (by kernel_rfl) (by kernel_rfl) (by kernel_rfl) (fun _ _ _ h => h) (Or.inl ⟨by rfl, ?hyc12_10⟩) (by assumption) ?restc12_10
          case hyc12_10 => (intro w0 hSw; (try dsimp only at hSw); go_simp; try with_reducible rfl)
          case' restc12_10 => try simp only [Act.put, List.getElem_toArray, List.getElem_cons_zero, List.getElem_cons_succ, List.setIfInBounds_toArray, List.set_cons_zero, List.set_cons_succ]
          refine wpAnyH_take (i := 13) (v := ?vc13_11) rfl (by kernel_rfl) (by kernel_rfl) (by kernel_rfl) (fun _ _ _ h => h) (Or.inl ⟨by rfl, ?hyc13_11⟩) (by assumption) ?restc13_11
          case hyc13_11 => (intro w0 hSw; (try dsimp only at hSw); go_simp; try with_reducible rfl)
          case' restc13_11 => try simp only [Act.put, List.getElem_toArray, List.getElem_cons_zero, List.getElem_cons_succ, List.setIfInBounds_toArray, List.set_cons_zero, List.set_cons_succ]
          refine wpAnyH_ready (rs := [4]) (by kernel_rfl) (by simp) ?_
          refine AllReadyH.cons rfl (fun K hK => ?_) AllReadyH.nil
          go_simp
          refine (HP0.out _ ((HS.out.below HBW.out).below (below_drew1 (Below.refl wq.heap.size wq))).kw.mw).mono ?_
          rintro e u1 ⟨rfl, hc1⟩
          have hd1 : Below wq.heap.size wq u1 := bch (below_drew1 (Below.refl wq.heap.size wq)) hc1 (Below.size (below_drew1 (Below.refl wq.heap.size wq)))
          refine hK.out _ _ (HH.out _ (Turned.of_below hd1)) (fun hHeld => ?_)
          clear hK K
          try simp only [Act.put, List.getElem_toArray, List.getElem_cons_zero, List.getElem_cons_succ, List.setIfInBounds_toArray, List.set_cons_zero, List.set_cons_succ]
          refine wpAnyH_ready (rs := [8]) (by kernel_rfl) (by simp) ?_
          refine AllReadyH.cons rfl (fun K hK => ?_) AllReadyH.nil
          go_simp
          refine (word_any x.1.2 _ ((HS.out.below HBW.out).below hd1).kw).mono ?_
          rintro e u2 ⟨rfl, hc2⟩
          have hd2 : Below wq.heap.size wq u2 := bch hd1 hc2 (Below.size hd1)
          refine hK.out _ _ (HH.out _ (Turned.of_below hd2)) (fun hHeld => ?_)
          clear hK K
          try simp only [Act.put, List.getElem_toArray, List.getElem_cons_zero, List.getElem_cons_succ, List.setIfInBounds_toArray, List.set_cons_zero, List.set_cons_succ]
          refine wpAnyH_ready (rs := [11]) (by kernel_rfl) (by simp) ?_
          refine AllReadyH.cons rfl (fun K hK => ?_) AllReadyH.nil
          go_simp
          refine (sword_any x.2.1 _ ((HS.out.below HBW.out).below hd2)).mono ?_
          rintro e u3 ⟨rfl, hc3⟩
          have hd3 : Below wq.heap.size wq u3 := bch hd2 hc3 (Below.size hd2)
          refine hK.out _ _ (HH.out _ (Turned.of_below hd3)) (fun hHeld => ?_)
          clear hK K
          try simp only [Act.put, List.getElem_toArray, List.getElem_cons_zero, List.getElem_cons_succ, List.setIfInBounds_toArray, List.set_cons_zero, List.set_cons_succ]
          refine wpAnyH_ready (rs := [14]) (by kernel_rfl) (by simp) ?_
          refine AllReadyH.cons rfl (fun K hK => ?_) AllReadyH.nil
          go_simp
          refine (HP3.out _ ((HS.out.below HBW.out).below hd3).kw.mw).mono ?_
          rintro e u4 ⟨rfl, hc4⟩
          have hd4 : Below wq.heap.size wq u4 := bch hd3 hc4 (Below.size hd3)
          refine hK.out _ _ (HH.out _ (Turned.of_below hd4)) (fun hHeld => ?_)
          clear hK K
          try simp only [Act.put, List.getElem_toArray, List.getElem_cons_zero, List.getElem_cons_succ, List.setIfInBounds_toArray, List.set_cons_zero, List.set_cons_succ]
          refine wpAnyH_ready (rs := [15]) (by kernel_rfl) (by simp) ?_
          refine AllReadyH.cons rfl (fun K hK => ?_) AllReadyH.nil
          go_simp
          refine hK.out _ _ (HH.out _ (Turned.of_below (hd4.trans ((below_alloc _ _).mono hd4.size)))) (fun hHeld => ?_)
          clear hK K
          try simp only [Act.put, List.getElem_toArray, List.getElem_cons_zero, List.getElem_cons_succ, List.setIfInBounds_toArray, List.set_cons_zero, List.set_cons_succ]
          refine wpAnyH_ready (rs := [16]) (by kernel_rfl) (by simp) ?_
          refine AllReadyH.cons rfl (fun K hK => ?_) AllReadyH.nil
          go_simp
          refine hK.out _ _ (HH.out _ (Turned.of_below ((hd4.alloc hd4.size _).alloc (by have := hd4.size; simp; omega) _))) (fun hHeld => ?_)
          clear hK K
          try simp only [Act.put, List.getElem_toArray, List.getElem_cons_zero, List.getElem_cons_succ, List.setIfInBounds_toArray, List.set_cons_zero, List.set_cons_succ]
          refine wpAnyH_ready (rs := [17]) (by kernel_rfl) (by simp) ?_
          refine AllReadyH.cons rfl (fun K hK => ?_) AllReadyH.nil
          have HTU := Lib.hid (HTW.out.below hd4)
          refine step_append_any _ rfl (.tmp 27) (.tmp 43) 38 rfl (w.heap.size + 1) tLine k0 (.slice none 0 0) 1 24 Tryz.underlying38 hk0 hz0 hz1 hz2 rfl (by decide) (.slice A4 (k + 1) c4) (k + 1) vs rfl ((World.ownsRow.alloc (by have := HTU.out.own; rw [hlen4] at this; exact this) _).alloc _) 1 [.slice (some ⟨u4.heap.size, 0, none⟩) 4 4] (src_blk (xs := [.slice (some ⟨u4.heap.size, 0, none⟩) 4 4]) ((two_blocks' u4 _ _ rfl).2.2) (fun u hu => by simp only [List.mem_singleton] at hu; subst hu; rfl)) (by unfold maxLen; omega) (by omega) (by have := hd4.size; have := heap_lt HXW.out; simp; omega) ?_
          intro v6 w6 ho6 hg6 hat6
          have ht6 : Turned (fun j => Value.ownBlock (.slice A4 (k + 1) c4) = some j) wq w6 := (Turned.of_below ((hd4.alloc hd4.size (.cells #[.string ⟨(Lib.itoa x.1.1).toArray⟩, .string ⟨(wordL x.1.2).toArray⟩, .string ⟨(codeW x.2.1).toArray⟩, .string ⟨(Lib.itoa x.2.2.2).toArray⟩] tFld)).alloc (by have := hd4.size; simp; omega) (.cells #[.slice (some ⟨u4.heap.size, 0, none⟩) 4 4] tLine))).trans (Turned.of_grown hg6 (fun j h => h))
          refine hK.out _ _ (HH.out _ (ht6)) (fun hHeld => ?_)
          clear hK K
          try simp only [Act.put, List.getElem_toArray, List.getElem_cons_zero, List.getElem_cons_succ, List.setIfInBounds_toArray, List.set_cons_zero, List.set_cons_succ]
          refine wpAnyH_take (i := 18) (v := ?vc18_12) rfl (by kernel_rfl) (by kernel_rfl) (by kernel_rfl) (fun _ _ _ h => h) (Or.inl ⟨by rfl, ?hyc18_12⟩) (by assumption) ?restc18_12
          case hyc18_12 => (intro w0 hSw; (try dsimp only at hSw); go_simp; try with_reducible rfl)
          case' restc18_12 => try simp only [Act.put, List.getElem_toArray, List.getElem_cons_zero, List.getElem_cons_succ, List.setIfInBounds_toArray, List.set_cons_zero, List.set_cons_succ]
          refine wpAnyH_done (by kernel_rfl) ?_ _
          refine NoPanic.normal ?_
          have hlit := lit_new u4 (rowF x) (xs := #[.string ⟨(Lib.itoa x.1.1).toArray⟩, .string ⟨(wordL x.1.2).toArray⟩, .string ⟨(codeW x.2.1).toArray⟩, .string ⟨(Lib.itoa x.2.2.2).toArray⟩]) rfl
          have hT6 := ((HTU.out.below (below_alloc _ _)).below (below_alloc _ _)).push (r := rowF x) (hlit.below (below_alloc _ _)) (by rw [hlen4]; exact ho6) hg6
          have HT6 := Lib.hid (show TabO (w.heap.size + 1) w6 v6 ([wHead, Lib.itoa q] :: (l.take (k + 1)).map rowF) _ by rw [HTK.out, List.map_append]; exact hT6)
          have HX6 := Lib.hid (heap_turnT HXW.out ht6 (fun e => by have := (HTW.out.own.lt _ e).1; omega))
          have HB6 := Lib.hid (Below.turned HBW.out ht6 (fun i hi => by have := (HTW.out.own.lt i hi).1; omega) HBW.out.size)
          obtain ⟨A6, c6, rfl, _⟩ := own_slice HT6.out.own
          clear hHeld HH hT6 hlit ht6 ho6 hg6 hat6 HTU hd1 hd2 hd3 hd4 hc1 hc2 hc3 hc4
          go_wp2_with fail
          go_roundw
          case rel => exact ⟨k + 1, _, by go_num, by omega, HT6.out, HX6.out, HB6.out⟩
          case measure => simp [intOf]; omega
        · obtain rfl : k = l.length := by omega
          have hfull : l.take l.length = l := List.take_of_length_le (Nat.le_refl _)
          rw [hfull] at HT
          obtain ⟨A4, c4, rfl, _⟩ := own_slice HT.out.own
          have hlen4 : ([wHead, Lib.itoa q] :: l.map rowF).length = l.length + 1 := by simp
          have HT := Lib.hid (show TabO (w.heap.size + 1) wr (.slice A4 (l.length + 1) c4) ([wHead, Lib.itoa q] :: l.map rowF) vs by have := HT.out; rw [hlen4] at this; exact this)
          obtain ⟨m0, m1, m2⟩ := cell3c HXr.out
          go_wp2_with fail
          refine (HPUTN.out _ (HS.out.below HBr.out).kw.mw).mono ?_
          rintro e u4 ⟨rfl, hc⟩
          have HTU := Lib.hid (HT.out.below hc)
          have HBU := Lib.hid (bch HBr.out hc HBr.out.size)
          have HXU := Lib.hid (heap_keep HXr.out hc)
          clear hc m0 m1 m2 hfull
          go_wp2_with (at_builtin; refine wpList_append_any _ rfl (.tmp 46) (.tmp 52) 38 rfl (w.heap.size + 1) tLine k0 (.slice none 0 0) 1 24 Tryz.underlying38 hk0 hz0 hz1 hz2 rfl (by decide) (.slice A4 (l.length + 1) c4) (l.length + 1) vs rfl ((World.ownsRow.alloc (by have := HTU.out.own; rw [hlen4] at this; exact this) _).alloc _) 1 [.slice (some ⟨u4.heap.size, 0, none⟩) 2 2] (src_blk (xs := [.slice (some ⟨u4.heap.size, 0, none⟩) 2 2]) ((two_blocks' u4 _ _ rfl).2.2) (fun u hu => by simp only [List.mem_singleton] at hu; subst hu; rfl)) (by unfold maxLen; omega) (by omega) (by have := HBU.out.size; have := heap_lt HXU.out; simp; omega) ?_; intro v6 w6 ho6 hg6 hat6)
          have hlit := lit_new u4 [wEnd, Lib.itoa l.length] (xs := #[.string ⟨#[101, 110, 100]⟩, .string ⟨(Lib.itoa (l.length : Int)).toArray⟩]) rfl
          have hT6 := ((HTU.out.below (below_alloc _ _)).below (below_alloc _ _)).push (r := [wEnd, Lib.itoa l.length]) (hlit.below (below_alloc _ _)) (by rw [hlen4]; exact ho6) hg6
          have HT6 := Lib.hid (show TabO (w.heap.size + 1) w6 v6 (table q l) _ from hT6)
          have ht6 : Turned (fun j => Value.ownBlock (.slice A4 (l.length + 1) c4) = some j) u4 w6 := (Turned.of_below (((Below.refl _ u4).alloc (Nat.le_refl _) (.cells #[.string ⟨#[101, 110, 100]⟩, .string ⟨(Lib.itoa (l.length : Int)).toArray⟩] tFld)).alloc (by simp) (.cells #[.slice (some ⟨u4.heap.size, 0, none⟩) 2 2] tLine))).trans (Turned.of_grown hg6 (fun j h => h))
          have HB6 := Lib.hid (Below.turned HBU.out ht6 (fun i hi => by have := (HTU.out.own.lt i hi).1; omega) HBU.out.size)
          have HPR := Lib.hid (print_any v6 (table q l) w6.heap.size w6 HT6.out.rowz (Nat.le_refl _) HFIT.out (HS.out.below HB6.out).mx)
          clear hT6 hlit ht6 ho6 hg6 hat6 HTU
          refine HPR.out.mono ?_
          rintro e w7 ⟨rfl, hb7⟩
          have HB7 := Lib.hid (bch HB6.out hb7 HB6.out.size)
          clear hb7
          go_wp2_with fail
          go_ret2
          exact ⟨by rw [HF.out]; rfl, HB7.out⟩
  · have hpq := bneT hp
    have HF := Lib.hid (show printS p q l = ([], 2) by unfold printS okP; rw [decide_eq_false hp]; simp)
    clear hp
    go_enter Tryz.func12, Tryz.ntmps12
    go_upto_region 1 with (fail)
    rw [hWA.out]
    go_wp2_with fail
    go_ret2
    exact ⟨by rw [HF.out]; rfl, HA.out⟩

end Go.Proofs.YtgpjbigelblanaaGreatDoor
/- Whether two statements are the same, where they are: the document's Same, the program's. -/
namespace Go.Proofs.YtgpjbigelblanaaGreatDoor
open Go.RowKit Go.Maps Key

theorem two_boxes (w : World) (o p : Obj) {W : World} (h : (w.alloc o).alloc p = W) : Below w.heap.size w W ∧ W.heap[w.heap.size]? = some o ∧ W.heap[w.heap.size + 1]? = some p := by
  subst h
  refine ⟨(below_alloc _ _).alloc (by simp) _, heap_keep (heap_new w o) (below_alloc _ _), ?_⟩
  have := heap_new (w.alloc o) p
  rwa [show (w.alloc o).heap.size = w.heap.size + 1 by simp] at this
set_option linter.unusedSimpArgs false in
set_option linter.unusedVariables false in
set_option maxRecDepth 100000 in
set_option maxHeartbeats 2000000 in
theorem refSameT (w : World) (u v : Value) (l : List R5) (pa sq : Int) (hu : Rd w u l) (hv : Rd w v l) (hl : l.length < 100000) :
    Calls Tryz.prog 14 #[.agg #[.int .i64 pa, .int .i64 sq, u], .agg #[.int .i64 pa, .int .i64 sq, v]] w fun e w' => e = .returned (.bool true) ∧ Below w.heap.size w w' := by
  obtain ⟨A, c, rfl, _⟩ := hu.shape
  obtain ⟨A', c', rfl, _⟩ := hv.shape
  obtain ⟨wb, hwb⟩ : ∃ wb, (w.alloc (.cells #[.int .i64 pa, .int .i64 sq, .slice A l.length c] tStat)).alloc (.cells #[.int .i64 pa, .int .i64 sq, .slice A' l.length c'] tStat) = wb := ⟨_, rfl⟩
  have h2 := two_boxes w _ _ hwb
  have HB := Lib.hid h2.1; have HM := Lib.hid h2.2.1; have HM' := Lib.hid h2.2.2
  have HU := Lib.hid (hu.keep h2.1); have HV := Lib.hid (hv.keep h2.1)
  have hWB := Lib.hid hwb
  clear hu hv hwb h2
  obtain ⟨m0, m1, m2⟩ := cell3c HM.out
  obtain ⟨q0, q1, q2⟩ := cell3c HM'.out
  go_enter Tryz.func14, Tryz.ntmps14
  go_upto_region 1 with (fail)
  rw [hWB.out]
  go_wp2_with fail
  clear m0 m1 m2 q0 q1 q2
  go_loopw [5] (fun i wr => ∃ k : Nat, i = .int .i64 k ∧ k ≤ l.length ∧ Hid (Below wb.heap.size wb wr)) (fun i _ => l.length - (intOf i).toNat)
  case atStart => exact ⟨0, rfl, by omega, ⟨rfl, rfl, rfl, Nat.le_refl _, fun _ _ => rfl⟩⟩
  case round =>
    obtain ⟨k, rfl, hk, HBr⟩ := hrel
    obtain ⟨m0, m1, m2⟩ := cell3c (heap_keep HM.out HBr.out)
    obtain ⟨q0, q1, q2⟩ := cell3c (heap_keep HM'.out HBr.out)
    by_cases hkl : k < l.length
    · obtain ⟨x, hx⟩ : ∃ x, l[k]? = some x := ⟨_, List.getElem?_eq_getElem hkl⟩
      obtain ⟨g, off, n', c1, e, c01, c02, c03, c04, c05⟩ := HU.out.cells HBr.out hx
      injection e with e1 e2 e3; subst e1; clear e2 e3
      obtain ⟨g', off', n', c1, e, d01, d02, d03, d04, d05⟩ := HV.out.cells HBr.out hx
      injection e with e1 e2 e3; subst e1; clear e2 e3
      obtain ⟨⟨o, d⟩, t, n, p⟩ := x
      have hlt : (k : Int) < l.length := by omega
      have hk0 : (0 : Int) ≤ k := by omega
      clear hx
      go_wp2_with fail
      go_quiet (fail)
      go_wp2_with fail
      go_roundw
      case rel => exact ⟨k + 1, by go_num, by omega, ⟨HBr.out.os, HBr.out.tape, HBr.out.output, HBr.out.size, HBr.out.block⟩⟩
      case measure => simp [intOf]; omega
    · obtain rfl : k = l.length := by omega
      go_wp2_with fail
      go_ret
      exact ⟨rfl, bch HB.out HBr.out HB.out.size⟩
set_option linter.unusedSimpArgs false in
set_option linter.unusedVariables false in
set_option maxRecDepth 100000 in
set_option maxHeartbeats 2000000 in
theorem eqRowT (w : World) (o d t n p : Int) : Calls Tryz.prog 56 #[.agg #[.int .i64 o, .int .i64 d, .int .i64 t, .int .i64 n, .int .i64 p], .agg #[.int .i64 o, .int .i64 d, .int .i64 t, .int .i64 n, .int .i64 p]] w fun e w' => e = .returned (.bool true) ∧ Below w.heap.size w w' := by
  obtain ⟨wb, hwb⟩ : ∃ wb, (w.alloc (.cells #[.int .i64 o, .int .i64 d, .int .i64 t, .int .i64 n, .int .i64 p] tRow)).alloc (.cells #[.int .i64 o, .int .i64 d, .int .i64 t, .int .i64 n, .int .i64 p] tRow) = wb := ⟨_, rfl⟩
  have h2 := two_boxes w _ _ hwb
  have HB := Lib.hid h2.1
  obtain ⟨m0, m1, m2, m3, m4⟩ := cell5 h2.2.1
  obtain ⟨q0, q1, q2, q3, q4⟩ := cell5 h2.2.2
  have hWB := Lib.hid hwb
  clear hwb h2
  go_enter Tryz.func56, Tryz.ntmps56
  go_upto_region 1 with (fail)
  rw [hWB.out]
  go_wp2_with fail
  go_ret
  exact ⟨rfl, HB.out⟩
set_option linter.unusedSimpArgs false in
set_option linter.unusedVariables false in
set_option maxRecDepth 100000 in
set_option maxHeartbeats 4000000 in
theorem eqFuncT (w : World) (u v : Value) (l : List R5) (hu : Rd w u l) (hv : Rd w v l) (hl : l.length < 100000) :
    Calls Tryz.prog 57 #[u, v, .func (.func 56) #[] #[]] w fun e w' => e = .returned (.bool true) ∧ Below w.heap.size w w' := by
  obtain ⟨A, c, rfl, _⟩ := hu.shape
  obtain ⟨A', c', rfl, _⟩ := hv.shape
  have HU := Lib.hid hu; have HV := Lib.hid hv
  have hq := bneF (show (l.length : Int) = l.length from rfl)
  clear hu hv
  go_enter Tryz.func57, Tryz.ntmps57
  go_wp2_with fail
  go_loopw [17] (fun i wr => ∃ k : Nat, i = .int .i64 k ∧ k ≤ l.length ∧ Hid (Below w.heap.size w wr)) (fun i _ => l.length - (intOf i).toNat)
  case atStart => exact ⟨0, rfl, by omega, Below.refl _ _⟩
  case round =>
    obtain ⟨k, rfl, hk, HBr⟩ := hrel
    by_cases hkl : k < l.length
    · obtain ⟨x, hx⟩ : ∃ x, l[k]? = some x := ⟨_, List.getElem?_eq_getElem hkl⟩
      obtain ⟨g, off, n', c1, e, c01, c02, c03, c04, c05⟩ := HU.out.cells HBr.out hx
      injection e with e1 e2 e3; subst e1; clear e2 e3
      obtain ⟨g', off', n', c1, e, d01, d02, d03, d04, d05⟩ := HV.out.cells HBr.out hx
      injection e with e1 e2 e3; subst e1; clear e2 e3
      obtain ⟨⟨o, d⟩, t, n, p⟩ := x
      have hlt : (k : Int) < l.length := by omega
      have hk0 : (0 : Int) ≤ k := by omega
      go_upto_region 6 with (fail)
      obtain ⟨w2, hw2⟩ : ∃ w2, w2 = wr.alloc (.cells #[.int .i64 o, .int .i64 d, .int .i64 t, .int .i64 n, .int .i64 p] tRow) := ⟨_, rfl⟩
      rw [← hw2]
      have hb2 : Below wr.heap.size wr w2 := by rw [hw2]; exact below_alloc _ _
      have HX2 := Lib.hid (show w2.heap[wr.heap.size]? = some (.cells #[.int .i64 o, .int .i64 d, .int .i64 t, .int .i64 n, .int .i64 p] tRow (0, 0)) by rw [hw2]; exact heap_new _ _)
      have HB2 := Lib.hid (bch HBr.out hb2 HBr.out.size)
      have hlen2 : w.heap.size ≤ wr.heap.size := HBr.out.size
      clear hw2 hb2 c01 c02 c03 c04 c05 d01 d02 d03 d04 d05
      obtain ⟨g2, off2, n', c1, e, d01, d02, d03, d04, d05⟩ := HV.out.cells HB2.out hx
      injection e with e1 e2 e3
      injection e1 with e1
      injection e1 with e1 e4
      subst e1; subst e4
      clear e2 e3 hx
      generalize wr.heap.size = br at HX2 hlen2 ⊢
      obtain ⟨q0, q1, q2, q3, q4⟩ := cell5 HX2.out
      go_upto_region 7 with (fail)
      obtain ⟨w3, hw3⟩ : ∃ w3, w3 = w2.alloc (.cells #[.int .i64 o, .int .i64 d, .int .i64 t, .int .i64 n, .int .i64 p] tRow) := ⟨_, rfl⟩
      rw [← hw3]
      have hb3 : Below w2.heap.size w2 w3 := by rw [hw3]; exact below_alloc _ _
      have HY3 := Lib.hid (show w3.heap[w2.heap.size]? = some (.cells #[.int .i64 o, .int .i64 d, .int .i64 t, .int .i64 n, .int .i64 p] tRow (0, 0)) by rw [hw3]; exact heap_new _ _)
      have HX3 := Lib.hid (heap_keep HX2.out hb3); have HB3 := Lib.hid (bch HB2.out hb3 HB2.out.size)
      clear hw3 hb3 d01 d02 d03 d04 d05 q0 q1 q2 q3 q4
      generalize w2.heap.size = b2 at HY3 ⊢
      obtain ⟨q0, q1, q2, q3, q4⟩ := cell5 HX3.out
      obtain ⟨r0, r1, r2, r3, r4⟩ := cell5 HY3.out
      go_wp2_with fail
      refine (eqRowT w3 o d t n p).mono ?_
      rintro e w4 ⟨rfl, hb4⟩
      have HB4 := Lib.hid (bch HB3.out hb4 HB3.out.size)
      clear hb4 q0 q1 q2 q3 q4 r0 r1 r2 r3 r4
      go_wp2_with fail
      go_roundw
      case rel => exact ⟨k + 1, by go_num, by omega, HB4.out⟩
      case measure => simp [intOf]; omega
    · obtain rfl : k = l.length := by omega
      go_wp2_with fail
      go_ret
      exact ⟨rfl, HBr.out⟩
set_option linter.unusedSimpArgs false in
set_option linter.unusedVariables false in
set_option maxRecDepth 100000 in
set_option maxHeartbeats 4000000 in
theorem rowsSameT (w : World) (u v : Value) (l : List R5) (pa sq : Int) (hu : Rd w u l) (hv : Rd w v l) (hl : l.length < 100000) :
    Calls Tryz.prog 25 #[.agg #[.int .i64 pa, .int .i64 sq, u], .agg #[.int .i64 pa, .int .i64 sq, v]] w fun e w' => e = .returned (.bool true) ∧ Below w.heap.size w w' := by
  obtain ⟨A, c, rfl, _⟩ := hu.shape
  obtain ⟨A', c', rfl, _⟩ := hv.shape
  obtain ⟨wb, hwb⟩ : ∃ wb, (w.alloc (.cells #[.int .i64 pa, .int .i64 sq, .slice A l.length c] tStat)).alloc (.cells #[.int .i64 pa, .int .i64 sq, .slice A' l.length c'] tStat) = wb := ⟨_, rfl⟩
  have h2 := two_boxes w _ _ hwb
  have HB := Lib.hid h2.1
  obtain ⟨m0, m1, m2⟩ := cell3c h2.2.1
  obtain ⟨q0, q1, q2⟩ := cell3c h2.2.2
  have HE := Lib.hid (eqFuncT wb _ _ l (hu.keep h2.1) (hv.keep h2.1) hl)
  have hWB := Lib.hid hwb
  clear hu hv hwb h2
  go_enter Tryz.func25, Tryz.ntmps25
  go_upto_region 1 with (fail)
  rw [hWB.out]
  go_wp2_with fail
  refine HE.out.mono ?_
  rintro e w1 ⟨rfl, hb⟩
  have HB1 := Lib.hid (bch HB.out hb HB.out.size)
  clear hb
  go_wp2_with fail
  go_ret
  exact ⟨rfl, HB1.out⟩
end Go.Proofs.YtgpjbigelblanaaGreatDoor
/- The chapter's file of the warehouse, plain. -/
namespace Go.Proofs.YtgpjbigelblanaaGreatDoor
open Key Mon Rw

namespace Sk
def tA : List UInt8 := [115, 116, 111, 99, 107, 44, 55, 10]
def tB : List UInt8 := [51, 44, 114, 101, 115, 101, 114, 118, 101, 44, 100, 111, 110, 101, 44, 52, 10]
def tC : List UInt8 := [101, 110, 100, 44, 49, 10]
def tE2 : List UInt8 := [101, 110, 100, 44, 50, 10]
def tShip : List UInt8 := [51, 44, 115, 104, 105, 112, 44, 100, 111, 110, 101, 44, 52, 10]
def t03 : List UInt8 := [48, 51, 44, 114, 101, 115, 101, 114, 118, 101, 44, 100, 111, 110, 101, 44, 52, 10]
def t45 : List UInt8 := [51, 44, 114, 101, 115, 101, 114, 118, 101, 44, 100, 111, 110, 101, 44, 52, 44, 53, 10]
def tStack : List UInt8 := [115, 116, 97, 99, 107, 44, 55, 10]
def xRow : R5 := ((3, 0), 1, 0, 4)
def tABC : List UInt8 := [115, 116, 111, 99, 107, 44, 55, 10, 51, 44, 114, 101, 115, 101, 114, 118, 101, 44, 100, 111, 110, 101, 44, 52, 10, 101, 110, 100, 44, 49, 10]
theorem came1 : printS 1 7 [xRow] = (tABC, 0) := by decide +kernel
theorem came2 : parseS (tA ++ tB ++ tC) = ((1, 7, [xRow]), 0, 0, 0) := by kernel_rfl
theorem came3 : parseS (tA ++ tB ++ tE2) = ((0, 0, []), 3, 2, 4) := by kernel_rfl
theorem came4 : parseS (tA ++ tB) = ((0, 0, []), 3, 1, 7) := by kernel_rfl
theorem came5 : parseS (tA ++ tShip ++ tC) = ((0, 0, []), 2, 2, 3) := by kernel_rfl
theorem came6 : parseS (tA ++ t03 ++ tC) = ((0, 0, []), 2, 1, 3) := by kernel_rfl
theorem came7 : parseS (tA ++ t45 ++ tC) = ((0, 0, []), 2, 5, 1) := by kernel_rfl
theorem came8 : parseS (tStack ++ tB ++ tC) = ((0, 0, []), 1, 1, 7) := by kernel_rfl
end Sk
end Go.Proofs.YtgpjbigelblanaaGreatDoor
namespace Go.Proofs.YtgpjbigelblanaaGreatDoor
open Go.RowKit Go.Maps Key Mon Sk Rw

set_option linter.unusedSimpArgs false in
set_option linter.unusedVariables false in
set_option maxRecDepth 100000 in
set_option maxHeartbeats 2000000 in
theorem sbad_any (s : ByteArray) (t : List UInt8) (ht : s.data.toList = t) (a b c : Nat) (ai bi ci : Int) (w : World) (h : parseS t = ((0, 0, []), a, b, c)) (ha : ai = a) (hb : bi = b) (hc : ci = c) (hS : SkW w) :
    Calls Tryz.prog 27 #[.string s, .int .i64 ai, .int .i64 bi, .int .i64 ci] w fun e w' => e = .returned (.bool true) ∧ Below w.heap.size w w' := by
  have HP := Lib.hid ((sparse_any s w hS).mono fun e w' h2 => (show (∃ v, e = .returned (.tuple #[.agg #[.int .i64 0, .int .i64 0, v], .agg #[.int .i64 ai, .int .i64 bi, .int .i64 ci]]) ∧ Rd w' v []) ∧ Below w.heap.size w w' by
    obtain ⟨⟨v, he, hr⟩, hbl⟩ := h2
    rw [ht, h] at he hr
    exact ⟨⟨v, by rw [he, ha, hb, hc]; rfl, hr⟩, hbl⟩))
  clear h ha hb hc hS ht
  go_enter Tryz.func27, Tryz.ntmps27
  go_wp2_with fail
  refine HP.out.mono ?_
  rintro e w1 ⟨⟨v, rfl, hr⟩, hb1⟩
  obtain ⟨A, cc, rfl, _⟩ := hr.shape
  go_upto_region 2 with (fail)
  obtain ⟨w2, hw2⟩ : ∃ w2, w2 = (w1.alloc (.cells #[.int .i64 0, .int .i64 0, .slice A 0 cc] tStat)).alloc (.cells #[.int .i64 ai, .int .i64 bi, .int .i64 ci] tRej) := ⟨_, rfl⟩
  rw [← hw2]
  have h2 := two_boxes w1 _ _ hw2.symm
  have HB2 := Lib.hid (bch hb1 h2.1 hb1.size)
  have HX := Lib.hid h2.2.1; have HY := Lib.hid h2.2.2
  have HR := Lib.hid (hr.keep h2.1)
  clear hw2 h2 hb1 hr
  generalize w1.heap.size = b1 at HX HY ⊢
  obtain ⟨m0, m1, m2⟩ := cell3c HX.out
  go_wp2_with fail
  refine (refSameT w2 (.slice A 0 cc) (.slice none 0 0) [] 0 0 HR.out (Rd.nil _) (by simp)).mono ?_
  rintro e w3 ⟨rfl, hb3⟩
  have HB3 := Lib.hid (bch HB2.out hb3 HB2.out.size)
  obtain ⟨n0, n1, n2⟩ := cell3c (heap_keep HY.out hb3)
  have q1 := beqT (show ai = ai from rfl); have q2 := beqT (show bi = bi from rfl); have q3 := beqT (show ci = ci from rfl)
  clear hb3 m0 m1 m2
  go_wp2_with fail
  go_ret
  exact ⟨rfl, HB3.out⟩
set_option linter.unusedSimpArgs false in
set_option linter.unusedVariables false in
set_option maxRecDepth 100000 in
set_option maxHeartbeats 4000000 in
theorem stocked_any (w : World) (hS : SkW w) : Calls Tryz.prog 11 #[] w fun e w' => e = .returned (.bool true) ∧ Below w.heap.size w w' := by
  have HS := Lib.hid hS
  clear hS
  go_enter Tryz.func11, Tryz.ntmps11
  go_upto_region 2 with (fail)
  obtain ⟨W, hW⟩ : ∃ W, W = (w.alloc (.cells #[.int .i64 3, .int .i64 0, .int .i64 1, .int .i64 0, .int .i64 4] tRow)).alloc (.cells #[.int .i64 1, .int .i64 7, .slice (some ⟨w.heap.size, 0, none⟩) 1 1] tStat) := ⟨_, rfl⟩
  rw [← hW]
  have h2 := two_boxes w _ _ hW.symm
  have HB := Lib.hid h2.1; have HX := Lib.hid h2.2.2
  have HR := Lib.hid (show Rd W (.slice (some ⟨w.heap.size, 0, none⟩) 1 1) [xRow] from rd_own (B := 0) (l := [xRow]) ⟨rfl, .inr ⟨_, 1, _, rfl, Nat.zero_le _, h2.2.1, Nat.le_refl _, by unfold maxLen; omega, rfl, rfl⟩⟩)
  clear hW h2
  generalize hb0 : w.heap.size = b0 at HR HX ⊢
  have HB0 := Lib.hid hb0
  clear hb0
  obtain ⟨m0, m1, m2⟩ := cell3c HX.out
  have HPR := Lib.hid (sprint_any (.slice (some ⟨b0, 0, none⟩) 1 1) 1 7 [xRow] W HR.out (HS.out.below HB.out))
  rw [came1] at HPR
  go_wp2_with fail
  refine HPR.out.mono ?_
  rintro e w1 ⟨rfl, hb1⟩
  unfold printV
  have HB1 := Lib.hid (bch HB.out hb1 HB.out.size); have HR1 := Lib.hid (HR.out.keep hb1); have HX1 := Lib.hid (heap_keep HX.out hb1)
  clear hb1 m0 m1 m2 HPR HX HR HB
  go_wp2_with fail
  have HP2 := Lib.hid (fun (t : ByteArray) (ht : t.data.toList = tA ++ tB ++ tC) => (sparse_any t w1 (HS.out.below HB1.out)).mono fun e w' h2 => (show (∃ v, e = .returned (.tuple #[.agg #[.int .i64 1, .int .i64 7, v], .agg #[.int .i64 0, .int .i64 0, .int .i64 0]]) ∧ Rd w' v [xRow]) ∧ Below w1.heap.size w1 w' by
    obtain ⟨⟨v, he, hr⟩, hbl⟩ := h2
    rw [ht, came2] at he hr
    exact ⟨⟨v, he, hr⟩, hbl⟩))
  refine (HP2.out _ (by kernel_rfl)).mono ?_
  rintro e w2 ⟨⟨v, rfl, hr⟩, hb2⟩
  obtain ⟨A, cc, rfl, _⟩ := hr.shape
  go_upto_region 5 with (fail)
  obtain ⟨w3, hw3⟩ : ∃ w3, w3 = (w2.alloc (.cells #[.int .i64 1, .int .i64 7, .slice A 1 cc] tStat)).alloc (.cells #[.int .i64 0, .int .i64 0, .int .i64 0] tRej) := ⟨_, rfl⟩
  rw [← hw3]
  have h3 := two_boxes w2 _ _ hw3.symm
  have HB3 := Lib.hid (bch (bch HB1.out hb2 HB1.out.size) h3.1 (bch HB1.out hb2 HB1.out.size).size)
  have HX3 := Lib.hid (heap_keep (heap_keep HX1.out hb2) h3.1); have HY3 := Lib.hid h3.2.1; have HZ3 := Lib.hid h3.2.2
  have HR3 := Lib.hid ((HR1.out.keep hb2).keep h3.1); have HS3 := Lib.hid (hr.keep h3.1)
  clear hw3 h3 hb2 hr HX1 HR1 HB1 HP2
  generalize w2.heap.size = b2 at HY3 HZ3 ⊢
  obtain ⟨m0, m1, m2⟩ := cell3c HX3.out
  obtain ⟨n0, n1, n2⟩ := cell3c HY3.out
  have hq : (tABC == ((⟨#[115, 116, 111, 99, 107, 44, 55, 10]⟩ : ByteArray) ++ ⟨#[51, 44, 114, 101, 115, 101, 114, 118, 101, 44, 100, 111, 110, 101, 44, 52, 10]⟩ ++ ⟨#[101, 110, 100, 44, 49, 10]⟩).toList) = true := by kernel_rfl
  go_wp2_with fail
  refine (refSameT w3 (.slice (some ⟨b0, 0, none⟩) 1 1) (.slice A 1 cc) [xRow] 1 7 HR3.out HS3.out (by simp)).mono ?_
  rintro e w4 ⟨rfl, hb4⟩
  have HB4 := Lib.hid (bch HB3.out hb4 HB3.out.size)
  obtain ⟨p0, p1, p2⟩ := cell3c (heap_keep HZ3.out hb4)
  clear hb4 m0 m1 m2 n0 n1 n2 HB3 HX3 HY3 HZ3 HR3 HS3 hq
  go_wp2_with fail
  refine (sbad_any _ (tA ++ tB ++ tE2) (by kernel_rfl) 3 2 4 3 2 4 _ came3 rfl rfl rfl (HS.out.below HB4.out)).mono ?_
  rintro e w5 ⟨rfl, hb⟩
  have HB5 := Lib.hid (bch HB4.out hb HB4.out.size)
  clear hb p0 p1 p2
  go_wp2_with fail
  refine (sbad_any _ (tA ++ tB) (by kernel_rfl) 3 1 7 3 1 7 _ came4 rfl rfl rfl (HS.out.below HB5.out)).mono ?_
  rintro e w6 ⟨rfl, hb⟩
  have HB6 := Lib.hid (bch HB5.out hb HB5.out.size)
  clear hb
  go_wp2_with fail
  refine (sbad_any _ (tA ++ tShip ++ tC) (by kernel_rfl) 2 2 3 2 2 3 _ came5 rfl rfl rfl (HS.out.below HB6.out)).mono ?_
  rintro e w7 ⟨rfl, hb⟩
  have HB7 := Lib.hid (bch HB6.out hb HB6.out.size)
  clear hb
  go_wp2_with fail
  refine (sbad_any _ (tA ++ t03 ++ tC) (by kernel_rfl) 2 1 3 2 1 3 _ came6 rfl rfl rfl (HS.out.below HB7.out)).mono ?_
  rintro e w8 ⟨rfl, hb⟩
  have HB8 := Lib.hid (bch HB7.out hb HB7.out.size)
  clear hb
  go_wp2_with fail
  refine (sbad_any _ (tA ++ t45 ++ tC) (by kernel_rfl) 2 5 1 2 5 1 _ came7 rfl rfl rfl (HS.out.below HB8.out)).mono ?_
  rintro e w9 ⟨rfl, hb⟩
  have HB9 := Lib.hid (bch HB8.out hb HB8.out.size)
  clear hb
  go_wp2_with fail
  refine (sbad_any _ (tStack ++ tB ++ tC) (by kernel_rfl) 1 1 7 1 1 7 _ came8 rfl rfl rfl (HS.out.below HB9.out)).mono ?_
  rintro e w10 ⟨rfl, hb⟩
  have HB10 := Lib.hid (bch HB9.out hb HB9.out.size)
  clear hb
  go_wp2_with fail
  go_ret
  exact ⟨rfl, HB10.out⟩
end Go.Proofs.YtgpjbigelblanaaGreatDoor
namespace Go.Proofs.YtgpjbigelblanaaGreatDoor
open Go.RowKit Go.Maps Key Mon Sk Rw

theorem sparse_is (s : ByteArray) (t : List UInt8) (ht : s.data.toList = t) (p q : Int) (l : List R5) (a b c : Nat) (ai bi ci : Int) (w : World) (h : parseS t = ((p, q, l), a, b, c)) (ha : ai = a) (hb : bi = b) (hc : ci = c) (hS : SkW w) :
    Calls Tryz.prog 15 #[.string s] w fun e w' => (∃ v, e = .returned (.tuple #[.agg #[.int .i64 p, .int .i64 q, v], .agg #[.int .i64 ai, .int .i64 bi, .int .i64 ci]]) ∧ Rd w' v l) ∧ Below w.heap.size w w' :=
  (sparse_any s w hS).mono fun e w' h2 => by
    obtain ⟨⟨v, he, hr⟩, hbl⟩ := h2
    rw [ht, h] at he hr
    exact ⟨⟨v, by rw [he, ha, hb, hc]; rfl, hr⟩, hbl⟩
theorem bytes_list (t : List UInt8) : (⟨t.toArray⟩ : ByteArray).data.toList = t := by simp
/-- A statement's box and a reject's, made one behind the other. -/
theorem two_kept (w w1 : World) (o p : Obj) {W : World} (hb : Below w.heap.size w w1) (h : (w1.alloc o).alloc p = W) : Below w.heap.size w W ∧ W.heap[w1.heap.size]? = some o ∧ W.heap[w1.heap.size + 1]? = some p ∧ Below w1.heap.size w1 W := by
  obtain ⟨h1, h2, h3⟩ := two_boxes w1 o p h
  exact ⟨bch hb h1 hb.size, h2, h3, h1⟩
end Go.Proofs.YtgpjbigelblanaaGreatDoor

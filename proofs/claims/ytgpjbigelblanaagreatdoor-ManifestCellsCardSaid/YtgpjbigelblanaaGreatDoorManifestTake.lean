/- manifest's reader: first, end, order, take: what they compute. -/
import Derived.Test.YtgpjbigelblanaaGreatDoorManifestRead
import Derived.Test.YtgpjbigelblanaaGreatDoorKeysCore
import Derived.Test.YtgpjbigelblanaaGreatDoorRegionTill
namespace Go.Proofs.YtgpjbigelblanaaGreatDoor
open Go.RowKit Go.Maps Key Mon Mf Rw

abbrev tRdr : TypeId := 73
/-- What the reader holds. -/
structure MInv (w : World) (b : Nat) (s : Mf.St) (vr : Value) : Prop where
  box : w.heap[b]? = some (.cells #[.int .i64 2, .int .i64 s.seq, vr, .int .i64 (s.orders : Int), .int .i64 s.last, .int .i64 s.tot, .bool s.ended] tRdr (0, 0))
  own : w.ownsRow (b + 1) tRow 5 vr s.l.length (s.l.flatMap encR)
theorem MInv.lt {w : World} {b : Nat} {s : Mf.St} {vr : Value} (h : MInv w b s vr) : b < w.heap.size := heap_lt h.box
theorem MInv.below {w w' : World} {b : Nat} {s : Mf.St} {vr : Value} (h : MInv w b s vr) (hb : Below w.heap.size w w') : MInv w' b s vr := ⟨heap_keep h.box hb, own_keep h.own hb⟩
theorem MInv.other {w : World} {b c i : Nat} {s : Mf.St} {vr : Value} (h : MInv w b s vr) (hc : c ≠ b) (hv : vr.ownBlock ≠ some c) (x : Value) : MInv (w.setCell ⟨c, i, none⟩ x) b s vr :=
  ⟨set_other h.box hc _, own_turned h.own (turned_set w c i x) (fun j hj e => hv (by rw [hj, e]))⟩
theorem MInv.own_set {w : World} {b i : Nat} {s : Mf.St} {vr : Value} (h : MInv w b s vr) (x : Value) : (w.setCell ⟨b, i, none⟩ x).ownsRow (b + 1) tRow 5 vr s.l.length (s.l.flatMap encR) :=
  own_turned h.own (turned_set w b i x) (fun j hj e => by have := (h.own.lt j hj).1; omega)
theorem MInv.seq {w : World} {b : Nat} {s : Mf.St} {vr : Value} (h : MInv w b s vr) (q : Int) : MInv (w.setCell ⟨b, 1, none⟩ (.int .i64 q)) b { s with seq := q } vr :=
  ⟨by have h := h.box; simp [World.setCell, Array.getElem?_modify, h], h.own_set _⟩
theorem MInv.last {w : World} {b : Nat} {s : Mf.St} {vr : Value} (h : MInv w b s vr) (q : Int) : MInv (w.setCell ⟨b, 4, none⟩ (.int .i64 q)) b { s with last := q } vr :=
  ⟨by have h := h.box; simp [World.setCell, Array.getElem?_modify, h], h.own_set _⟩
theorem MInv.tot {w : World} {b : Nat} {s : Mf.St} {vr : Value} (h : MInv w b s vr) (q : Int) : MInv (w.setCell ⟨b, 5, none⟩ (.int .i64 q)) b { s with tot := q } vr :=
  ⟨by have h := h.box; simp [World.setCell, Array.getElem?_modify, h], h.own_set _⟩
theorem MInv.ended {w : World} {b : Nat} {s : Mf.St} {vr : Value} (h : MInv w b s vr) (q : Bool) : MInv (w.setCell ⟨b, 6, none⟩ (.bool q)) b { s with ended := q } vr :=
  ⟨by have h := h.box; simp [World.setCell, Array.getElem?_modify, h], h.own_set _⟩
theorem MInv.orders {w : World} {b : Nat} {s : Mf.St} {vr : Value} (h : MInv w b s vr) (q : Int) (n : Nat) (hq : q = (n : Int)) : MInv (w.setCell ⟨b, 3, none⟩ (.int .i64 q)) b { s with orders := n } vr :=
  ⟨by have h := h.box; subst hq; simp [World.setCell, Array.getElem?_modify, h], h.own_set _⟩
theorem MInv.push {w w6 : World} {b : Nat} {s : Mf.St} {vr v6 : Value} {y : R5} (h : MInv w b s vr) (ho : w6.ownsRow (b + 1) tRow 5 v6 (s.l.length + 1) (s.l.flatMap encR ++ encR y)) (ht : Turned (fun j => vr.ownBlock = some j) w w6) : MInv (w6.setCell ⟨b, 2, none⟩ v6) b { s with l := s.l ++ [y] } v6 := by
  have hb := heap_turned h.box ht (fun e => by have := (h.own.lt _ e).1; omega)
  refine ⟨by simp [World.setCell, Array.getElem?_modify, hb], ?_⟩
  have : w6.ownsRow (b + 1) tRow 5 v6 (s.l ++ [y]).length ((s.l ++ [y]).flatMap encR) := by rw [List.length_append, List.flatMap_append]; simpa using ho
  exact own_turned this (turned_set w6 b 2 _) (fun j hj e => by have := (ho.lt j hj).1; omega)
theorem MInv.cells {w : World} {b : Nat} {s : Mf.St} {vr : Value} (h : MInv w b s vr) : w.cell? ⟨b, 1, none⟩ = some (.int .i64 s.seq) ∧ w.cell? ⟨b, 2, none⟩ = some vr ∧ w.cell? ⟨b, 3, none⟩ = some (.int .i64 (s.orders : Int)) ∧ w.cell? ⟨b, 4, none⟩ = some (.int .i64 s.last) ∧ w.cell? ⟨b, 5, none⟩ = some (.int .i64 s.tot) ∧ w.cell? ⟨b, 6, none⟩ = some (.bool s.ended) ∧ w.cell? ⟨b, 0, none⟩ = some (.int .i64 2) :=
  ⟨cell_at h.box 1 rfl, cell_at h.box 2 rfl, cell_at h.box 3 rfl, cell_at h.box 4 rfl, cell_at h.box 5 rfl, cell_at h.box 6 rfl, cell_at h.box 0 rfl⟩
theorem MInv.froz {w : World} {b : Nat} {s : Mf.St} {vr : Value} (h : MInv w b s vr) (i : Nat) : w.frozen? ⟨b, i, none⟩ = false := frozen_at h.box i
/-- What holds between two lines. -/
structure Lim (i : Nat) (s : Mf.St) : Prop where
  ok : Mf.Ok s
  tot : s.tot = Mf.total s.l
  ord : s.orders ≤ i
theorem Lim.room {i : Nat} {s : Mf.St} (h : Lim i s) : s.l.length ≤ 120 ∧ 0 ≤ s.tot ∧ s.tot ≤ 119880 := by
  have h1 := h.ok.many
  have h2 := h.ok.top
  have h3 := Mf.total_room h.ok.rows
  have h4 := h.tot
  omega
theorem Lim.zero : Lim 0 Mf.s0 := ⟨⟨by simp [Mf.s0], by simp [Mf.s0], by simp [Mf.s0], by simp [Mf.s0], by simp [Mf.s0], by simp [Mf.s0]⟩, rfl, Nat.le_refl _⟩
theorem Lim.step {i : Nat} {r : Mf.Line} {s s' : Mf.St} (h : Lim i s) (hs : Mf.step i r s = .inl s') : Lim (i + 1) s' := by
  by_cases hi : 1 ≤ i
  · refine ⟨(Mf.step_ok hi h.ok hs).1, ?_, ?_⟩
    all_goals
      unfold Mf.step at hs
      by_cases h1 : s.ended = true
      · rw [if_pos h1] at hs; cases hs
      · rw [if_neg h1, if_neg (by omega)] at hs
        by_cases h3 : r.length ≠ 3
        · rw [if_pos h3] at hs; cases hs
        · rw [if_neg h3] at hs
          by_cases h2 : r.head? = some Sk.wEnd
          · rw [if_pos h2] at hs
            cases hl : Mf.tail (r.getD 1 []) (r.getD 2 []) s.orders s.tot with
            | none => rw [hl] at hs; simp only [Sum.inl.injEq] at hs; subst hs; first | exact h.tot | exact Nat.le_succ_of_le h.ord
            | some x => rw [hl] at hs; cases hs
          · rw [if_neg h2] at hs
            cases ho : Mf.mid (r.getD 0 []) (r.getD 1 []) (r.getD 2 []) s.last with
            | inr x => rw [ho] at hs; cases hs
            | inl x =>
              rw [ho] at hs
              simp only [Sum.inl.injEq] at hs
              subst hs
              first
                | (show s.tot + Mf.total x.2 = Mf.total (s.l ++ x.2); rw [Mf.total_append, h.tot])
                | (show s.orders + 1 ≤ i + 1; have := h.ord; omega)
  · obtain rfl : i = 0 := by omega
    unfold Mf.step at hs
    by_cases h1 : s.ended = true
    · rw [if_pos h1] at hs; cases hs
    · rw [if_neg h1, if_pos rfl] at hs
      cases hf : Mf.first r with
      | inr x => rw [hf] at hs; cases hs
      | inl q =>
        rw [hf] at hs
        simp only [Sum.inl.injEq] at hs
        subst hs
        exact ⟨⟨h.ok.rows, h.ok.rise, h.ok.low, h.ok.pos, h.ok.top, h.ok.many⟩, h.tot, Nat.le_succ_of_le h.ord⟩
/-- Only the reader, and its rows, have turned. -/
def Kept (b : Nat) (vr : Value) (w w' : World) : Prop := Turned (fun j => j = b ∨ vr.ownBlock = some j) w w'
theorem Kept.of_below {b : Nat} {vr : Value} {w w' : World} (h : Below w.heap.size w w') : Kept b vr w w' := Turned.of_below h
theorem Kept.next {b : Nat} {vr : Value} {w w1 w2 : World} (h : Kept b vr w w1) (hb : Below w1.heap.size w1 w2) : Kept b vr w w2 := Turned.trans h (Turned.of_below hb)
theorem Kept.set {b c i : Nat} {vr : Value} {w w1 : World} (h : Kept b vr w w1) (hc : c = b ∨ w.heap.size ≤ c) (x : Value) : Kept b vr w (w1.setCell ⟨c, i, none⟩ x) :=
  Turned.far h ((turned_set w1 c i x).mono fun j hj => by subst hj; exact hc.imp .inl id)
theorem Kept.app {b : Nat} {vr vk : Value} {w w1 w6 : World} (h : Kept b vr w w1) (ht : Turned (fun j => vk.ownBlock = some j) w1 w6) (hv : ∀ j, vk.ownBlock = some j → vr.ownBlock = some j ∨ w.heap.size ≤ j) : Kept b vr w w6 :=
  Turned.far h (ht.mono fun j hj => (hv j hj).imp .inr id)
theorem Kept.drew {b : Nat} {vr : Value} {w w1 : World} (h : Kept b vr w w1) : Kept b vr w w1.drew := Turned.drew h
theorem Kept.below {b : Nat} {vr : Value} {w w1 : World} {s : Mf.St} (h : Kept b vr w w1) (hI : MInv w b s vr) : Below b w w1 :=
  Below.turned (Below.refl b w) h (fun i hi => hi.elim (fun e => by omega) (fun e => by have := (hI.own.lt i e).1; omega)) (by have := hI.lt; omega)
/-- The result box of a reject, behind the call's own blocks. -/
theorem res_new (w : World) : (w.alloc (.cells #[.int .i64 0, .int .i64 0, .int .i64 0] tRej)).heap[w.heap.size]? = some (.cells #[.int .i64 0, .int .i64 0, .int .i64 0] tRej (0, 0)) := heap_new _ _

def MFirstR (r : Mf.Line) (s : Mf.St) (b : Nat) (vr : Value) (e : Ending) (w' : World) : Prop := match Mf.first r with
  | .inl q => e = .returned (rej3 0 0) ∧ MInv w' b { s with seq := q } vr
  | .inr x => e = .returned (rej3 x.1 x.2)
set_option linter.unusedSimpArgs false in
set_option linter.unusedVariables false in
set_option maxRecDepth 100000 in
set_option maxHeartbeats 4000000 in
theorem mfirst_any (b : Nat) (v vr : Value) (r : Mf.Line) (s : Mf.St) (w : World) (hI : MInv w b s vr) (hv : Strs w b v r) (h0 : r ≠ []) (hl : r.length ≤ 1000000) (hb8 : ∀ f ∈ r, f.length ≤ 1000000) (hS : MfW w) : Calls Tryz.prog 79 #[.pointer (some ⟨b, 0, none⟩), v] w fun e w' => MFirstR r s b vr e w' ∧ Kept b vr w w' := by
  obtain ⟨wa, hwa⟩ : ∃ wa, w.alloc (.cells #[.int .i64 0, .int .i64 0, .int .i64 0] tRej) = wa := ⟨_, rfl⟩
  have HA := Lib.hid (show Below w.heap.size w wa by rw [← hwa]; exact below_alloc _ _)
  have HX := Lib.hid (show wa.heap[w.heap.size]? = some (.cells #[.int .i64 0, .int .i64 0, .int .i64 0] tRej (0, 0)) by rw [← hwa]; exact heap_new _ _)
  have hWA := Lib.hid hwa
  have hbl := hI.lt
  have HI := Lib.hid (hI.below HA.out)
  have HM := Lib.hid hS
  have hvb : vr.ownBlock ≠ some w.heap.size := fun e => by have := (hI.own.lt _ e).2; omega
  have HKa := Lib.hid (show Kept b vr w wa from Kept.of_below HA.out)
  clear hwa hI hS
  have HREJ := Lib.hid (fun c k W => mreject_any c k W)
  obtain ⟨A, c, rfl⟩ := hv.shape
  obtain ⟨f0, hf0⟩ : ∃ f0, r[0]? = some f0 := ⟨_, List.getElem?_eq_getElem (List.length_pos_iff.2 h0)⟩
  have hlenI : (0 : Int) < r.length := by have := List.length_pos_iff.2 h0; omega
  have hhead : r.head? = some f0 := by rw [List.head?_eq_getElem?]; exact hf0
  obtain ⟨br, orr, rfl, hbr, _⟩ := hv.at (Below.refl _ _) hf0
  have HW := Lib.hid (fun W k f (hb : Below b w W) (hf : r[k]? = some f) => (show W.cell? ⟨br, orr + k, none⟩ = some (.string ⟨f.toArray⟩) by obtain ⟨b', o', e, _, h⟩ := hv.at hb hf; cases e; exact h))
  clear hv h0
  have HAb := Lib.hid (show Below b w wa from HA.out.mono (by omega))
  have c0 := HW.out wa 0 f0 HAb.out hf0
  rw [Nat.add_zero] at c0
  clear hf0
  by_cases hh : f0 = Mf.wHead
  · subst hh
    have hq := text_eq (rfl : Mf.wHead = Mf.wHead)
    by_cases hl2 : r.length ≠ 2
    · obtain ⟨m, hm⟩ : ∃ m : Int, m = ((min r.length 2 + 1 : Nat) : Int) := ⟨_, rfl⟩
      have hqn := bneT (show ¬ (r.length : Int) = 2 by omega)
      have HMIN := Lib.hid (show min (r.length : Int) 2 + 1 = m by omega)
      have HF := Lib.hid (show Mf.first r = .inr (min r.length 2 + 1, 1) by unfold Mf.first; rw [if_neg (by rw [hhead]; simp), if_pos hl2])
      have HMM := Lib.hid hm
      clear hhead hl2 hm
      go_enter Tryz.func79, Tryz.ntmps79
      go_upto_region 1 with (fail)
      rw [hWA.out]
      go_wp2_with (go_at_call 78; rw [HMIN.out]; refine (HREJ.out _ _ _).mono ?_; rintro e w9 ⟨rfl, hb9⟩; have HX9 := Lib.hid (heap_keep HX.out hb9); have HB9 := Lib.hid (HKa.out.next hb9); clear hb9; obtain ⟨n0, n1, n2, g0, g1, g2⟩ := cell3 HX9.out)
      obtain ⟨wz, hwz⟩ : ∃ wz, wz = ((w9.setCell ⟨w.heap.size, 0, none⟩ (.int .i64 0)).setCell ⟨w.heap.size, 1, none⟩ (.int .i64 m)).setCell ⟨w.heap.size, 2, none⟩ (.int .i64 1) := ⟨_, rfl⟩
      have hxz := set3 HX9.out (.int .i64 0) (.int .i64 m) (.int .i64 1)
      rw [← hwz] at hxz
      have hbz : Kept b vr w wz := by rw [hwz]; exact ((HB9.out.set (.inr (Nat.le_refl _)) _).set (.inr (Nat.le_refl _)) _).set (.inr (Nat.le_refl _)) _
      rw [← hwz]
      clear hwz n0 n1 n2 g0 g1 g2
      obtain ⟨n0, n1, n2, _⟩ := cell3 hxz
      refine bodyPost_ret (v := .agg #[.int .i64 0, .int .i64 m, .int .i64 1]) (by simp [results, Tryz.results79, go_sem, n0, n1, n2]) rfl ⟨?_, hbz⟩
      unfold MFirstR
      rw [HF.out, HMM.out]
      rfl
    · obtain ⟨f1, hf1⟩ : ∃ f1, r[1]? = some f1 := ⟨_, List.getElem?_eq_getElem (by omega)⟩
      have hlI : (1 : Int) < r.length := by omega
      have hq2 := bneF (show (r.length : Int) = 2 by omega)
      have HN := Lib.hid (fun W hM => mnumber_any ⟨f1.toArray⟩ 1 1073741824 W (by rw [bytes_size]; exact hb8 f1 (List.mem_of_getElem? hf1)) hM)
      rw [bytes_list] at HN
      have c1 := HW.out wa 1 f1 HAb.out hf1
      obtain ⟨x, hx⟩ : ∃ x, (getM f1).1 = x := ⟨_, rfl⟩
      obtain ⟨z, hz⟩ : ∃ z, Sk.numB f1 1 1073741824 = z := ⟨_, rfl⟩
      rw [hx, hz] at HN
      cases z with
      | true =>
        have HF := Lib.hid (show Mf.first r = .inl x by unfold Mf.first; rw [if_neg (by rw [hhead]; simp), if_neg (show ¬ r.length ≠ 2 by omega), List.getD_eq_getElem?_getD, hf1, Option.getD_some, hz, if_pos rfl, hx])
        clear hhead hf1 hl2 hz hx
        go_enter Tryz.func79, Tryz.ntmps79
        go_upto_region 1 with (fail)
        rw [hWA.out]
        go_wp2_with fail
        refine (HN.out _ (HM.out.below HA.out).mw).mono ?_
        rintro e w1 ⟨rfl, hb1⟩
        have HX1 := Lib.hid (heap_keep HX.out hb1); have HI1 := Lib.hid (HI.out.below hb1); have HB1 := Lib.hid (HKa.out.next hb1)
        clear hb1 c0 c1
        go_upto_region 8 with (fail)
        obtain ⟨i1, _⟩ := HI1.out.cells
        have j1 := HI1.out.froz 1
        go_upto_region 9 with (fail)
        obtain ⟨w5, hw5⟩ : ∃ w5, w5 = w1.setCell ⟨b, 1, none⟩ (.int .i64 x) := ⟨_, rfl⟩
        rw [← hw5]
        have HX9 := Lib.hid (show w5.heap[w.heap.size]? = some (.cells #[.int .i64 0, .int .i64 0, .int .i64 0] tRej (0, 0)) by rw [hw5]; exact set_other HX1.out (by omega) _)
        have HI5 := Lib.hid (HI1.out.seq x)
        rw [← hw5] at HI5
        have HB5 := Lib.hid (show Kept b vr w w5 by rw [hw5]; exact HB1.out.set (.inl rfl) _)
        clear hw5 i1 j1
        obtain ⟨n0, n1, n2, g0, g1, g2⟩ := cell3 HX9.out
        go_wp2_with fail
        obtain ⟨wz, hwz⟩ : ∃ wz, wz = ((w5.setCell ⟨w.heap.size, 0, none⟩ (.int .i64 0)).setCell ⟨w.heap.size, 1, none⟩ (.int .i64 0)).setCell ⟨w.heap.size, 2, none⟩ (.int .i64 0) := ⟨_, rfl⟩
        have hxz := set3 HX9.out (.int .i64 0) (.int .i64 0) (.int .i64 0)
        rw [← hwz] at hxz
        have hbz : Kept b vr w wz := by rw [hwz]; exact ((HB5.out.set (.inr (Nat.le_refl _)) _).set (.inr (Nat.le_refl _)) _).set (.inr (Nat.le_refl _)) _
        have hiz : MInv wz b { s with seq := x } vr := by rw [hwz]; exact ((HI5.out.other (by omega) hvb _).other (by omega) hvb _).other (by omega) hvb _
        rw [← hwz]
        clear hwz n0 n1 n2 g0 g1 g2
        obtain ⟨n0, n1, n2, _⟩ := cell3 hxz
        refine bodyPost_ret (v := .agg #[.int .i64 0, .int .i64 0, .int .i64 0]) (by simp [results, Tryz.results79, go_sem, n0, n1, n2]) rfl ⟨?_, hbz⟩
        unfold MFirstR
        rw [HF.out]
        exact ⟨rfl, hiz⟩
      | false =>
        have HF := Lib.hid (show Mf.first r = .inr (2, 3) by unfold Mf.first; rw [if_neg (by rw [hhead]; simp), if_neg (show ¬ r.length ≠ 2 by omega), List.getD_eq_getElem?_getD, hf1, Option.getD_some, hz, if_neg (by decide)])
        clear hhead hf1 hl2 hz hx
        go_enter Tryz.func79, Tryz.ntmps79
        go_upto_region 1 with (fail)
        rw [hWA.out]
        go_wp2_with fail
        refine (HN.out _ (HM.out.below HA.out).mw).mono ?_
        rintro e w1 ⟨rfl, hb1⟩
        have HX1 := Lib.hid (heap_keep HX.out hb1); have HB1 := Lib.hid (HKa.out.next hb1)
        clear hb1 c0 c1
        go_wp2_with (go_at_call 78; refine (HREJ.out _ _ _).mono ?_; rintro e w9 ⟨rfl, hb9⟩; have HX9 := Lib.hid (heap_keep HX1.out hb9); have HB9 := Lib.hid (HB1.out.next hb9); clear hb9; obtain ⟨n0, n1, n2, g0, g1, g2⟩ := cell3 HX9.out)
        obtain ⟨wz, hwz⟩ : ∃ wz, wz = ((w9.setCell ⟨w.heap.size, 0, none⟩ (.int .i64 0)).setCell ⟨w.heap.size, 1, none⟩ (.int .i64 2)).setCell ⟨w.heap.size, 2, none⟩ (.int .i64 3) := ⟨_, rfl⟩
        have hxz := set3 HX9.out (.int .i64 0) (.int .i64 2) (.int .i64 3)
        rw [← hwz] at hxz
        have hbz : Kept b vr w wz := by rw [hwz]; exact ((HB9.out.set (.inr (Nat.le_refl _)) _).set (.inr (Nat.le_refl _)) _).set (.inr (Nat.le_refl _)) _
        rw [← hwz]
        clear hwz n0 n1 n2 g0 g1 g2
        obtain ⟨n0, n1, n2, _⟩ := cell3 hxz
        refine bodyPost_ret (v := .agg #[.int .i64 0, .int .i64 2, .int .i64 3]) (by simp [results, Tryz.results79, go_sem, n0, n1, n2]) rfl ⟨?_, hbz⟩
        unfold MFirstR
        rw [HF.out]
        rfl
  · have HF := Lib.hid (show Mf.first r = .inr (1, 7) by unfold Mf.first; rw [if_pos (by rw [hhead]; simpa using hh)])
    have hq := text_ne hh
    unfold Mf.wHead at hq
    clear hh hhead
    go_enter Tryz.func79, Tryz.ntmps79
    go_upto_region 1 with (fail)
    rw [hWA.out]
    go_wp2_with (go_at_call 78; refine (HREJ.out _ _ _).mono ?_; rintro e w9 ⟨rfl, hb9⟩; have HX9 := Lib.hid (heap_keep HX.out hb9); have HB9 := Lib.hid (HKa.out.next hb9); clear hb9; obtain ⟨n0, n1, n2, g0, g1, g2⟩ := cell3 HX9.out)
    obtain ⟨wz, hwz⟩ : ∃ wz, wz = ((w9.setCell ⟨w.heap.size, 0, none⟩ (.int .i64 0)).setCell ⟨w.heap.size, 1, none⟩ (.int .i64 1)).setCell ⟨w.heap.size, 2, none⟩ (.int .i64 7) := ⟨_, rfl⟩
    have hxz := set3 HX9.out (.int .i64 0) (.int .i64 1) (.int .i64 7)
    rw [← hwz] at hxz
    have hbz : Kept b vr w wz := by rw [hwz]; exact ((HB9.out.set (.inr (Nat.le_refl _)) _).set (.inr (Nat.le_refl _)) _).set (.inr (Nat.le_refl _)) _
    rw [← hwz]
    clear hwz n0 n1 n2 g0 g1 g2
    obtain ⟨n0, n1, n2, _⟩ := cell3 hxz
    refine bodyPost_ret (v := .agg #[.int .i64 0, .int .i64 1, .int .i64 7]) (by simp [results, Tryz.results79, go_sem, n0, n1, n2]) rfl ⟨?_, hbz⟩
    unfold MFirstR
    rw [HF.out]
    rfl
def MEndR (fb fc : List UInt8) (s : Mf.St) (b : Nat) (vr : Value) (e : Ending) (w' : World) : Prop := match Mf.tail fb fc s.orders s.tot with
  | none => e = .returned (rej3 0 0) ∧ MInv w' b { s with ended := true } vr
  | some x => e = .returned (rej3 x.1 x.2)
set_option linter.unusedSimpArgs false in
set_option linter.unusedVariables false in
set_option maxRecDepth 100000 in
set_option maxHeartbeats 4000000 in
theorem mend_any (b : Nat) (v vr : Value) (fa fb fc : List UInt8) (s : Mf.St) (w : World) (hI : MInv w b s vr) (hv : Strs w b v [fa, fb, fc]) (hl1 : fb.length ≤ 1000000) (hl2 : fc.length ≤ 1000000) (hS : MfW w) : Calls Tryz.prog 80 #[.pointer (some ⟨b, 0, none⟩), v] w fun e w' => MEndR fb fc s b vr e w' ∧ Kept b vr w w' := by
  obtain ⟨wa, hwa⟩ : ∃ wa, w.alloc (.cells #[.int .i64 0, .int .i64 0, .int .i64 0] tRej) = wa := ⟨_, rfl⟩
  have HA := Lib.hid (show Below w.heap.size w wa by rw [← hwa]; exact below_alloc _ _)
  have HX := Lib.hid (show wa.heap[w.heap.size]? = some (.cells #[.int .i64 0, .int .i64 0, .int .i64 0] tRej (0, 0)) by rw [← hwa]; exact heap_new _ _)
  have hWA := Lib.hid hwa
  have hbl := hI.lt
  have HI := Lib.hid (hI.below HA.out)
  have HM := Lib.hid hS
  have hvb : vr.ownBlock ≠ some w.heap.size := fun e => by have := (hI.own.lt _ e).2; omega
  have HKa := Lib.hid (show Kept b vr w wa from Kept.of_below HA.out)
  clear hwa hI hS
  have HREJ := Lib.hid (fun c k W => mreject_any c k W)
  obtain ⟨A, c, rfl⟩ := hv.shape
  obtain ⟨br, orr, rfl, hbr, _⟩ := hv.at (k := 1) (Below.refl _ _) rfl
  have HW := Lib.hid (fun W k f (hb : Below b w W) (hf : [fa, fb, fc][k]? = some f) => (show W.cell? ⟨br, orr + k, none⟩ = some (.string ⟨f.toArray⟩) by obtain ⟨b', o', e, _, h⟩ := hv.at hb hf; cases e; exact h))
  clear hv
  have HAb := Lib.hid (show Below b w wa from HA.out.mono (by omega))
  have c1 := HW.out wa 1 fb HAb.out rfl
  have HG1 := Lib.hid (fun W hM => get_any ⟨fb.toArray⟩ W (by rw [bytes_size]; exact hl1) hM)
  have HG2 := Lib.hid (fun W hM => get_any ⟨fc.toArray⟩ W (by rw [bytes_size]; exact hl2) hM)
  rw [bytes_list] at HG1 HG2
  obtain ⟨x1, y1, h1⟩ : ∃ x y, getM fb = (x, y) := ⟨_, _, rfl⟩
  obtain ⟨x2, y2, h2⟩ : ∃ x y, getM fc = (x, y) := ⟨_, _, rfl⟩
  rw [h1] at HG1
  rw [h2] at HG2
  unfold pairV at HG1 HG2
  have HF := Lib.hid (show Mf.tail fb fc s.orders s.tot = if (y1 && decide (0 ≤ x1)) = false then some (2, 3) else if x1 ≠ s.orders then some (2, 4) else if (y2 && decide (0 ≤ x2)) = false then some (3, 3) else if x2 ≠ s.tot then some (3, 5) else none by unfold Mf.tail Mf.getB; rw [h1, h2])
  clear h1 h2
  go_enter Tryz.func80, Tryz.ntmps80
  go_upto_region 1 with (fail)
  rw [hWA.out]
  go_wp2_with fail
  refine (HG1.out _ (HM.out.below HA.out).mw).mono ?_
  rintro e w1 ⟨rfl, hb1⟩
  have HX1 := Lib.hid (heap_keep HX.out hb1); have HI1 := Lib.hid (HI.out.below hb1); have HB1 := Lib.hid (show Below w.heap.size w w1 from bch HA.out hb1 HA.out.size)
  clear hb1 c1
  have c2 := HW.out w1 2 fc (HB1.out.mono (by omega)) rfl
  go_wp2_with fail
  refine (HG2.out _ (HM.out.below HB1.out).mw).mono ?_
  rintro e w2 ⟨rfl, hb2⟩
  have HX2 := Lib.hid (heap_keep HX1.out hb2); have HI2 := Lib.hid (HI1.out.below hb2); have HB2 := Lib.hid (show Kept b vr w w2 from (Kept.of_below HB1.out).next hb2); have hz2 : w.heap.size ≤ w2.heap.size := by have := HB1.out.size; have := hb2.size; omega
  clear hb2 c2
  obtain ⟨i1, i2, i3, i4, i5, i6, i0⟩ := HI2.out.cells
  cases y1 with
  | false =>
    have HFF := Lib.hid (show Mf.tail fb fc s.orders s.tot = some (2, 3) by rw [HF.out]; simp)
    go_wp2_with (go_at_call 78; refine (HREJ.out _ _ _).mono ?_; rintro e w9 ⟨rfl, hb9⟩; have HX9 := Lib.hid (heap_keep HX2.out hb9); have HB9 := Lib.hid (HB2.out.next hb9); clear hb9; clear i1 i2 i3 i4 i5 i6 i0; obtain ⟨n0, n1, n2, g0, g1, g2⟩ := cell3 HX9.out)
    obtain ⟨wz, hwz⟩ : ∃ wz, wz = ((w9.setCell ⟨w.heap.size, 0, none⟩ (.int .i64 0)).setCell ⟨w.heap.size, 1, none⟩ (.int .i64 2)).setCell ⟨w.heap.size, 2, none⟩ (.int .i64 3) := ⟨_, rfl⟩
    have hxz := set3 HX9.out (.int .i64 0) (.int .i64 2) (.int .i64 3)
    rw [← hwz] at hxz
    have hbz : Kept b vr w wz := by rw [hwz]; exact ((HB9.out.set (.inr (Nat.le_refl _)) _).set (.inr (Nat.le_refl _)) _).set (.inr (Nat.le_refl _)) _
    rw [← hwz]
    clear hwz n0 n1 n2 g0 g1 g2
    obtain ⟨n0, n1, n2, _⟩ := cell3 hxz
    refine bodyPost_ret (v := .agg #[.int .i64 0, .int .i64 2, .int .i64 3]) (by simp [results, Tryz.results80, go_sem, n0, n1, n2]) rfl ⟨?_, hbz⟩
    unfold MEndR
    rw [HFF.out]
    rfl
  | true =>
    by_cases e1 : x1 < 0
    · have k1 := decide_eq_true e1
      have HFF := Lib.hid (show Mf.tail fb fc s.orders s.tot = some (2, 3) by rw [HF.out]; rw [if_pos (by simp; omega)])
      go_wp2_with (go_at_call 78; refine (HREJ.out _ _ _).mono ?_; rintro e w9 ⟨rfl, hb9⟩; have HX9 := Lib.hid (heap_keep HX2.out hb9); have HB9 := Lib.hid (HB2.out.next hb9); clear hb9; clear i1 i2 i3 i4 i5 i6 i0; obtain ⟨n0, n1, n2, g0, g1, g2⟩ := cell3 HX9.out)
      obtain ⟨wz, hwz⟩ : ∃ wz, wz = ((w9.setCell ⟨w.heap.size, 0, none⟩ (.int .i64 0)).setCell ⟨w.heap.size, 1, none⟩ (.int .i64 2)).setCell ⟨w.heap.size, 2, none⟩ (.int .i64 3) := ⟨_, rfl⟩
      have hxz := set3 HX9.out (.int .i64 0) (.int .i64 2) (.int .i64 3)
      rw [← hwz] at hxz
      have hbz : Kept b vr w wz := by rw [hwz]; exact ((HB9.out.set (.inr (Nat.le_refl _)) _).set (.inr (Nat.le_refl _)) _).set (.inr (Nat.le_refl _)) _
      rw [← hwz]
      clear hwz n0 n1 n2 g0 g1 g2
      obtain ⟨n0, n1, n2, _⟩ := cell3 hxz
      refine bodyPost_ret (v := .agg #[.int .i64 0, .int .i64 2, .int .i64 3]) (by simp [results, Tryz.results80, go_sem, n0, n1, n2]) rfl ⟨?_, hbz⟩
      unfold MEndR
      rw [HFF.out]
      rfl
    · have k1 := decide_eq_false e1
      by_cases e2 : x1 = (s.orders : Int)
      · have q1 := bneF e2
        cases y2 with
        | false =>
          have HFF := Lib.hid (show Mf.tail fb fc s.orders s.tot = some (3, 3) by rw [HF.out]; rw [if_neg (by simp; omega), if_neg (by simpa using e2)]; simp)
          go_wp2_with (go_at_call 78; refine (HREJ.out _ _ _).mono ?_; rintro e w9 ⟨rfl, hb9⟩; have HX9 := Lib.hid (heap_keep HX2.out hb9); have HB9 := Lib.hid (HB2.out.next hb9); clear hb9; clear i1 i2 i3 i4 i5 i6 i0; obtain ⟨n0, n1, n2, g0, g1, g2⟩ := cell3 HX9.out)
          obtain ⟨wz, hwz⟩ : ∃ wz, wz = ((w9.setCell ⟨w.heap.size, 0, none⟩ (.int .i64 0)).setCell ⟨w.heap.size, 1, none⟩ (.int .i64 3)).setCell ⟨w.heap.size, 2, none⟩ (.int .i64 3) := ⟨_, rfl⟩
          have hxz := set3 HX9.out (.int .i64 0) (.int .i64 3) (.int .i64 3)
          rw [← hwz] at hxz
          have hbz : Kept b vr w wz := by rw [hwz]; exact ((HB9.out.set (.inr (Nat.le_refl _)) _).set (.inr (Nat.le_refl _)) _).set (.inr (Nat.le_refl _)) _
          rw [← hwz]
          clear hwz n0 n1 n2 g0 g1 g2
          obtain ⟨n0, n1, n2, _⟩ := cell3 hxz
          refine bodyPost_ret (v := .agg #[.int .i64 0, .int .i64 3, .int .i64 3]) (by simp [results, Tryz.results80, go_sem, n0, n1, n2]) rfl ⟨?_, hbz⟩
          unfold MEndR
          rw [HFF.out]
          rfl
        | true =>
          by_cases e3 : x2 < 0
          · have k2 := decide_eq_true e3
            have HFF := Lib.hid (show Mf.tail fb fc s.orders s.tot = some (3, 3) by rw [HF.out]; rw [if_neg (by simp; omega), if_neg (by simpa using e2), if_pos (by simp; omega)])
            go_wp2_with (go_at_call 78; refine (HREJ.out _ _ _).mono ?_; rintro e w9 ⟨rfl, hb9⟩; have HX9 := Lib.hid (heap_keep HX2.out hb9); have HB9 := Lib.hid (HB2.out.next hb9); clear hb9; clear i1 i2 i3 i4 i5 i6 i0; obtain ⟨n0, n1, n2, g0, g1, g2⟩ := cell3 HX9.out)
            obtain ⟨wz, hwz⟩ : ∃ wz, wz = ((w9.setCell ⟨w.heap.size, 0, none⟩ (.int .i64 0)).setCell ⟨w.heap.size, 1, none⟩ (.int .i64 3)).setCell ⟨w.heap.size, 2, none⟩ (.int .i64 3) := ⟨_, rfl⟩
            have hxz := set3 HX9.out (.int .i64 0) (.int .i64 3) (.int .i64 3)
            rw [← hwz] at hxz
            have hbz : Kept b vr w wz := by rw [hwz]; exact ((HB9.out.set (.inr (Nat.le_refl _)) _).set (.inr (Nat.le_refl _)) _).set (.inr (Nat.le_refl _)) _
            rw [← hwz]
            clear hwz n0 n1 n2 g0 g1 g2
            obtain ⟨n0, n1, n2, _⟩ := cell3 hxz
            refine bodyPost_ret (v := .agg #[.int .i64 0, .int .i64 3, .int .i64 3]) (by simp [results, Tryz.results80, go_sem, n0, n1, n2]) rfl ⟨?_, hbz⟩
            unfold MEndR
            rw [HFF.out]
            rfl
          · have k2 := decide_eq_false e3
            by_cases e4 : x2 = s.tot
            · have q2 := bneF e4
              have HFF := Lib.hid (show Mf.tail fb fc s.orders s.tot = none by rw [HF.out]; rw [if_neg (by simp; omega), if_neg (by simpa using e2), if_neg (by simp; omega), if_neg (by simpa using e4)])
              have k2 := decide_eq_false (show ¬ x2 < 0 by omega)
              have j6 := HI2.out.froz 6
              go_upto_region 12 with (fail)
              obtain ⟨w5, hw5⟩ : ∃ w5, w5 = w2.setCell ⟨b, 6, none⟩ (.bool true) := ⟨_, rfl⟩
              rw [← hw5]
              have HX9 := Lib.hid (show w5.heap[w.heap.size]? = some (.cells #[.int .i64 0, .int .i64 0, .int .i64 0] tRej (0, 0)) by rw [hw5]; exact set_other HX2.out (by omega) _)
              have HI5 := Lib.hid (HI2.out.ended true)
              rw [← hw5] at HI5
              have HB5 := Lib.hid (show Kept b vr w w5 by rw [hw5]; exact HB2.out.set (.inl rfl) _)
              clear hw5 i1 i2 i3 i4 i5 i6 i0 j6
              obtain ⟨n0, n1, n2, g0, g1, g2⟩ := cell3 HX9.out
              go_wp2_with fail
              obtain ⟨wz, hwz⟩ : ∃ wz, wz = ((w5.setCell ⟨w.heap.size, 0, none⟩ (.int .i64 0)).setCell ⟨w.heap.size, 1, none⟩ (.int .i64 0)).setCell ⟨w.heap.size, 2, none⟩ (.int .i64 0) := ⟨_, rfl⟩
              have hxz := set3 HX9.out (.int .i64 0) (.int .i64 0) (.int .i64 0)
              rw [← hwz] at hxz
              have hbz : Kept b vr w wz := by rw [hwz]; exact ((HB5.out.set (.inr (Nat.le_refl _)) _).set (.inr (Nat.le_refl _)) _).set (.inr (Nat.le_refl _)) _
              have hiz : MInv wz b { s with ended := true } vr := by rw [hwz]; exact ((HI5.out.other (by omega) hvb _).other (by omega) hvb _).other (by omega) hvb _
              rw [← hwz]
              clear hwz n0 n1 n2 g0 g1 g2
              obtain ⟨n0, n1, n2, _⟩ := cell3 hxz
              refine bodyPost_ret (v := .agg #[.int .i64 0, .int .i64 0, .int .i64 0]) (by simp [results, Tryz.results80, go_sem, n0, n1, n2]) rfl ⟨?_, hbz⟩
              unfold MEndR
              rw [HFF.out]
              exact ⟨rfl, hiz⟩
            · have q2 := bneT e4
              have HFF := Lib.hid (show Mf.tail fb fc s.orders s.tot = some (3, 5) by rw [HF.out]; rw [if_neg (by simp; omega), if_neg (by simpa using e2), if_neg (by simp; omega), if_pos e4])
              go_wp2_with (go_at_call 78; refine (HREJ.out _ _ _).mono ?_; rintro e w9 ⟨rfl, hb9⟩; have HX9 := Lib.hid (heap_keep HX2.out hb9); have HB9 := Lib.hid (HB2.out.next hb9); clear hb9; clear i1 i2 i3 i4 i5 i6 i0; obtain ⟨n0, n1, n2, g0, g1, g2⟩ := cell3 HX9.out)
              obtain ⟨wz, hwz⟩ : ∃ wz, wz = ((w9.setCell ⟨w.heap.size, 0, none⟩ (.int .i64 0)).setCell ⟨w.heap.size, 1, none⟩ (.int .i64 3)).setCell ⟨w.heap.size, 2, none⟩ (.int .i64 5) := ⟨_, rfl⟩
              have hxz := set3 HX9.out (.int .i64 0) (.int .i64 3) (.int .i64 5)
              rw [← hwz] at hxz
              have hbz : Kept b vr w wz := by rw [hwz]; exact ((HB9.out.set (.inr (Nat.le_refl _)) _).set (.inr (Nat.le_refl _)) _).set (.inr (Nat.le_refl _)) _
              rw [← hwz]
              clear hwz n0 n1 n2 g0 g1 g2
              obtain ⟨n0, n1, n2, _⟩ := cell3 hxz
              refine bodyPost_ret (v := .agg #[.int .i64 0, .int .i64 3, .int .i64 5]) (by simp [results, Tryz.results80, go_sem, n0, n1, n2]) rfl ⟨?_, hbz⟩
              unfold MEndR
              rw [HFF.out]
              rfl
      · have q1 := bneT e2
        have HFF := Lib.hid (show Mf.tail fb fc s.orders s.tot = some (2, 4) by rw [HF.out]; rw [if_neg (by simp; omega), if_pos e2])
        go_wp2_with (go_at_call 78; refine (HREJ.out _ _ _).mono ?_; rintro e w9 ⟨rfl, hb9⟩; have HX9 := Lib.hid (heap_keep HX2.out hb9); have HB9 := Lib.hid (HB2.out.next hb9); clear hb9; clear i1 i2 i3 i4 i5 i6 i0; obtain ⟨n0, n1, n2, g0, g1, g2⟩ := cell3 HX9.out)
        obtain ⟨wz, hwz⟩ : ∃ wz, wz = ((w9.setCell ⟨w.heap.size, 0, none⟩ (.int .i64 0)).setCell ⟨w.heap.size, 1, none⟩ (.int .i64 2)).setCell ⟨w.heap.size, 2, none⟩ (.int .i64 4) := ⟨_, rfl⟩
        have hxz := set3 HX9.out (.int .i64 0) (.int .i64 2) (.int .i64 4)
        rw [← hwz] at hxz
        have hbz : Kept b vr w wz := by rw [hwz]; exact ((HB9.out.set (.inr (Nat.le_refl _)) _).set (.inr (Nat.le_refl _)) _).set (.inr (Nat.le_refl _)) _
        rw [← hwz]
        clear hwz n0 n1 n2 g0 g1 g2
        obtain ⟨n0, n1, n2, _⟩ := cell3 hxz
        refine bodyPost_ret (v := .agg #[.int .i64 0, .int .i64 2, .int .i64 4]) (by simp [results, Tryz.results80, go_sem, n0, n1, n2]) rfl ⟨?_, hbz⟩
        unfold MEndR
        rw [HFF.out]
        rfl
def MOrderR (fa fb fc : List UInt8) (s : Mf.St) (b : Nat) (e : Ending) (w' : World) : Prop := match Mf.mid fa fb fc s.last with
  | .inl x => e = .returned (rej3 0 0) ∧ ∃ vr', MInv w' b { s with l := s.l ++ x.2, orders := s.orders + 1, last := x.1, tot := s.tot + Mf.total x.2 } vr'
  | .inr x => e = .returned (rej3 x.1 x.2)
theorem ixr0 (a0 a1 a2 a3 a4 b0 b1 b2 b3 b4 : Int) (W : World) : (Instr.index 125 (.agg #[.int .i64 a0, .int .i64 a1, .int .i64 a2, .int .i64 a3, .int .i64 a4, .int .i64 b0, .int .i64 b1, .int .i64 b2, .int .i64 b3, .int .i64 b4]) (.int .i64 0)).run Tryz.prog W = .ok (.agg #[.int .i64 a0, .int .i64 a1, .int .i64 a2, .int .i64 a3, .int .i64 a4]) W := by kernel_rfl
theorem ixr1 (a0 a1 a2 a3 a4 b0 b1 b2 b3 b4 : Int) (W : World) : (Instr.index 125 (.agg #[.int .i64 a0, .int .i64 a1, .int .i64 a2, .int .i64 a3, .int .i64 a4, .int .i64 b0, .int .i64 b1, .int .i64 b2, .int .i64 b3, .int .i64 b4]) (.int .i64 1)).run Tryz.prog W = .ok (.agg #[.int .i64 b0, .int .i64 b1, .int .i64 b2, .int .i64 b3, .int .i64 b4]) W := by kernel_rfl
/-- What is held when so many of an order's two rows are in. -/
def SK (s : Mf.St) (o : Int) (u1 u2 : Mf.Say) (k : Nat) : Mf.St := { s with l := s.l ++ (match k with | 0 => [] | 1 => Mf.rowS o 2 u1 | _ => Mf.two o u1 u2), tot := s.tot + Mf.total (match k with | 0 => [] | 1 => Mf.rowS o 2 u1 | _ => Mf.two o u1 u2) }
theorem SK_zero (s : Mf.St) (o : Int) (u1 u2 : Mf.Say) : SK s o u1 u2 0 = s := by unfold SK; simp [Mf.total]
theorem SK_len (s : Mf.St) (o : Int) (u1 u2 : Mf.Say) (k : Nat) : (SK s o u1 u2 k).l.length ≤ s.l.length + 2 := by
  unfold SK Mf.two Mf.rowS
  simp only [List.length_append]
  have : ∀ (a b : List R5), a.length ≤ 1 → b.length ≤ 1 → (match k with | 0 => [] | 1 => a | _ => a ++ b : List R5).length ≤ 2 := fun a b ha hb => by
    split
    · simp
    · omega
    · rw [List.length_append]; omega
  have h1 := this (if u1.1 = 0 then [] else [((o, 2), u1.1, 0, u1.2)]) (if u2.1 = 0 then [] else [((o, 5), u2.1, 0, u2.2)]) (by split <;> simp) (by split <;> simp)
  omega
theorem SK_tot (s : Mf.St) (o : Int) (u1 u2 : Mf.Say) (k : Nat) (h1 : Mf.OkSay u1) (h2 : Mf.OkSay u2) : s.tot ≤ (SK s o u1 u2 k).tot ∧ (SK s o u1 u2 k).tot ≤ s.tot + 1998 := by
  have a := h1.many
  have b := h2.many
  have e1 := Mf.total_rowS o 2 h1
  have e2 := Mf.total_two o h1 h2
  have e0 : Mf.total [] = 0 := rfl
  unfold SK
  simp only []
  split <;> omega
theorem SK_no0 {s : Mf.St} {o : Int} {u1 u2 : Mf.Say} (h : u1.1 = 0) : SK s o u1 u2 1 = SK s o u1 u2 0 := by unfold SK Mf.rowS; simp [h]
theorem SK_no1 {s : Mf.St} {o : Int} {u1 u2 : Mf.Say} (h : u2.1 = 0) : SK s o u1 u2 2 = SK s o u1 u2 1 := by unfold SK Mf.two Mf.rowS; simp [h]
theorem SK_yes0 {s : Mf.St} {o : Int} {u1 u2 : Mf.Say} (h : ¬ u1.1 = 0) : SK s o u1 u2 1 = { SK s o u1 u2 0 with l := (SK s o u1 u2 0).l ++ [((o, 2), u1.1, 0, u1.2)], tot := (SK s o u1 u2 0).tot + u1.2 } := by unfold SK Mf.rowS Mf.total; simp [h]
theorem SK_yes1 {s : Mf.St} {o : Int} {u1 u2 : Mf.Say} (h : ¬ u2.1 = 0) : SK s o u1 u2 2 = { SK s o u1 u2 1 with l := (SK s o u1 u2 1).l ++ [((o, 5), u2.1, 0, u2.2)], tot := (SK s o u1 u2 1).tot + u2.2 } := by unfold SK Mf.two Mf.rowS Mf.total; simp [h, Int.add_assoc]
/-- A cell's reading, whatever it says. -/
theorem readR_any {t : List UInt8} {o d : Int} {e : Ending} (h : ReadR t o d e) : ∃ (y : R5) (p q : Bool), e = .returned (.tuple #[mkRow y, .bool p, .bool q]) ∧ (match cellR t with | none => q = false | some x => q = true ∧ p = decide (x.1 ≠ 0) ∧ y = if x.1 = 0 then ((0, 0), 0, 0, 0) else ((o, d), x.1, 0, x.2)) := by
  unfold ReadR at h
  cases hc : cellR t with
  | none => rw [hc] at h; obtain ⟨y, h⟩ := h; exact ⟨y, _, _, h, rfl⟩
  | some x => rw [hc] at h; exact ⟨_, _, _, h, rfl, rfl, rfl⟩

set_option linter.unusedSimpArgs false in
set_option linter.unusedVariables false in
set_option maxRecDepth 100000 in
set_option maxHeartbeats 4000000 in
theorem morder_any (b : Nat) (v vr : Value) (fa fb fc : List UInt8) (s : Mf.St) (i : Nat) (w : World) (hI : MInv w b s vr) (hL : Lim i s) (hi : i ≤ 65536) (hv : Strs w b v [fa, fb, fc]) (hl0 : fa.length ≤ 1000000) (hl1 : fb.length ≤ 1000000) (hl2 : fc.length ≤ 1000000) (hS : MfW w) : Calls Tryz.prog 81 #[.pointer (some ⟨b, 0, none⟩), v] w fun e w' => MOrderR fa fb fc s b e w' ∧ Kept b vr w w' := by
  obtain ⟨wa, hwa⟩ : ∃ wa, w.alloc (.cells #[.int .i64 0, .int .i64 0, .int .i64 0] tRej) = wa := ⟨_, rfl⟩
  have HA := Lib.hid (show Below w.heap.size w wa by rw [← hwa]; exact below_alloc _ _)
  have HX := Lib.hid (show wa.heap[w.heap.size]? = some (.cells #[.int .i64 0, .int .i64 0, .int .i64 0] tRej (0, 0)) by rw [← hwa]; exact heap_new _ _)
  have hWA := Lib.hid hwa
  have hbl := hI.lt
  have HI := Lib.hid (hI.below HA.out)
  have HM := Lib.hid hS
  have hvb : vr.ownBlock ≠ some w.heap.size := fun e => by have := (hI.own.lt _ e).2; omega
  have HKa := Lib.hid (show Kept b vr w wa from Kept.of_below HA.out)
  clear hwa hI hS
  have HREJ := Lib.hid (fun c k W => mreject_any c k W)
  obtain ⟨info0, hinfo, hz0, hz1, hz2⟩ := info_parts row_info
  obtain ⟨hlen, ht0, ht1⟩ := hL.room
  have hord := hL.ord
  have hlast0 := hL.ok.pos
  have hlast1 := hL.ok.top
  clear hL
  obtain ⟨A, c, rfl⟩ := hv.shape
  obtain ⟨br, orr, rfl, hbr, _⟩ := hv.at (k := 1) (Below.refl _ _) rfl
  have HW := Lib.hid (fun W k f (hb : Below b w W) (hf : [fa, fb, fc][k]? = some f) => (show W.cell? ⟨br, orr + k, none⟩ = some (.string ⟨f.toArray⟩) by obtain ⟨b', o', e, _, h⟩ := hv.at hb hf; cases e; exact h))
  clear hv
  have HAb := Lib.hid (show Below b w wa from HA.out.mono (by omega))
  have c0 := HW.out wa 0 fa HAb.out rfl
  rw [Nat.add_zero] at c0
  have HN := Lib.hid (fun W hM => mnumber_any ⟨fa.toArray⟩ 1 60 W (by rw [bytes_size]; exact hl0) hM)
  rw [bytes_list] at HN
  obtain ⟨o, ho⟩ : ∃ o, (getM fa).1 = o := ⟨_, rfl⟩
  obtain ⟨z, hz⟩ : ∃ z, Sk.numB fa 1 60 = z := ⟨_, rfl⟩
  rw [ho, hz] at HN
  have HZ := Lib.hid (show z = true → 1 ≤ o ∧ o ≤ 60 from fun h => by rw [h] at hz; have := Sk.num_of hz; rw [ho] at this; exact this)
  have HF := Lib.hid (show Mf.mid fa fb fc s.last = if z = false then .inr (1, 3) else match cellR fb with | none => .inr (2, 3) | some x => match cellR fc with | none => .inr (3, 3) | some y => if x.1 = 0 ∧ y.1 = 0 then .inr (2, 3) else if o ≤ s.last then .inr (1, 6) else .inl (o, Mf.two o x y) by unfold Mf.mid; rw [hz, ho]; rfl)
  clear ho hz
  have HR1 := Lib.hid (fun W hM => mread_any fb o 2 W hl1 hM)
  have HR2 := Lib.hid (fun W hM => mread_any fc o 5 W hl2 hM)
  go_enter Tryz.func81, Tryz.ntmps81
  go_upto_region 1 with (fail)
  rw [hWA.out]
  go_wp2_with fail
  refine (HN.out _ (HM.out.below HA.out).mw).mono ?_
  rintro e w1 ⟨rfl, hb1⟩
  have HX1 := Lib.hid (heap_keep HX.out hb1); have HI1 := Lib.hid (HI.out.below hb1); have HB1 := Lib.hid (show Below w.heap.size w w1 from bch HA.out hb1 HA.out.size)
  clear hb1 c0
  have c1 := HW.out w1 1 fb (HB1.out.mono (by omega)) rfl
  go_wp2_with fail
  refine (HR1.out _ (HM.out.below HB1.out)).mono ?_
  rintro e w2 ⟨hr1, hb2⟩
  obtain ⟨⟨⟨yo, yd⟩, yc, ya, yq⟩, p1, q1, rfl, hs1⟩ := readR_any hr1
  unfold mkRow
  dsimp only
  have HX2 := Lib.hid (heap_keep HX1.out hb2); have HI2 := Lib.hid (HI1.out.below hb2); have HB2 := Lib.hid (bch HB1.out hb2 HB1.out.size)
  have HS1 := Lib.hid hs1
  clear hb2 c1 hr1 hs1
  go_upto_region 3 with (fail)
  obtain ⟨w3, hw3⟩ : ∃ w3, w3 = w2.alloc (.cells #[.int .i64 yo, .int .i64 yd, .int .i64 yc, .int .i64 ya, .int .i64 yq] tRow) := ⟨_, rfl⟩
  rw [← hw3]
  have hb3 : Below w2.heap.size w2 w3 := by rw [hw3]; exact below_alloc _ _
  have HY3 := Lib.hid (show w3.heap[w2.heap.size]? = some (.cells #[.int .i64 yo, .int .i64 yd, .int .i64 yc, .int .i64 ya, .int .i64 yq] tRow (0, 0)) by rw [hw3]; exact heap_new _ _)
  have HX3 := Lib.hid (heap_keep HX2.out hb3); have HI3 := Lib.hid (HI2.out.below hb3); have HB3 := Lib.hid (bch HB2.out hb3 HB2.out.size)
  clear hw3 hb3
  generalize w2.heap.size = b2 at HY3 ⊢
  have c2 := HW.out w3 2 fc (HB3.out.mono (by omega)) rfl
  go_wp2_with fail
  refine (HR2.out _ (HM.out.below HB3.out)).mono ?_
  rintro e w4 ⟨hr2, hb4⟩
  obtain ⟨⟨⟨zo, zd⟩, zc, za, zq⟩, p2, q2, rfl, hs2⟩ := readR_any hr2
  unfold mkRow
  dsimp only
  have HY4 := Lib.hid (heap_keep HY3.out hb4); have HX4 := Lib.hid (heap_keep HX3.out hb4); have HI4 := Lib.hid (HI3.out.below hb4); have HB4 := Lib.hid (bch HB3.out hb4 HB3.out.size)
  have HS2 := Lib.hid hs2
  clear hb4 c2 hr2 hs2
  go_upto_region 4 with (fail)
  obtain ⟨w5, hw5⟩ : ∃ w5, w5 = w4.alloc (.cells #[.int .i64 zo, .int .i64 zd, .int .i64 zc, .int .i64 za, .int .i64 zq] tRow) := ⟨_, rfl⟩
  rw [← hw5]
  have hb5 : Below w4.heap.size w4 w5 := by rw [hw5]; exact below_alloc _ _
  have HZ5 := Lib.hid (show w5.heap[w4.heap.size]? = some (.cells #[.int .i64 zo, .int .i64 zd, .int .i64 zc, .int .i64 za, .int .i64 zq] tRow (0, 0)) by rw [hw5]; exact heap_new _ _)
  have HY5 := Lib.hid (heap_keep HY4.out hb5); have HX5 := Lib.hid (heap_keep HX4.out hb5); have HI5 := Lib.hid (HI4.out.below hb5); have HB5 := Lib.hid (bch HB4.out hb5 HB4.out.size)
  clear hw5 hb5
  generalize w4.heap.size = b4 at HZ5 ⊢
  have HBb := Lib.hid (show Kept b vr w w5 from Kept.of_below HB5.out)
  have hz5 : w.heap.size ≤ w5.heap.size := HB5.out.size
  clear HX1 HX2 HX3 HX4 HI1 HI2 HI3 HI4 HB1 HB2 HB3 HB4 HY3 HY4
  cases z with
  | false =>
    have HFF := Lib.hid (show Mf.mid fa fb fc s.last = .inr (1, 3) by rw [HF.out]; simp)
    go_wp2_with (go_at_call 78; refine (HREJ.out _ _ _).mono ?_; rintro e w9 ⟨rfl, hb9⟩; have HX9 := Lib.hid (heap_keep HX5.out hb9); have HB9 := Lib.hid (HBb.out.next hb9); clear hb9; obtain ⟨n0, n1, n2, g0, g1, g2⟩ := cell3 HX9.out)
    obtain ⟨wz, hwz⟩ : ∃ wz, wz = ((w9.setCell ⟨w.heap.size, 0, none⟩ (.int .i64 0)).setCell ⟨w.heap.size, 1, none⟩ (.int .i64 1)).setCell ⟨w.heap.size, 2, none⟩ (.int .i64 3) := ⟨_, rfl⟩
    have hxz := set3 HX9.out (.int .i64 0) (.int .i64 1) (.int .i64 3)
    rw [← hwz] at hxz
    have hbz : Kept b vr w wz := by rw [hwz]; exact ((HB9.out.set (.inr (Nat.le_refl _)) _).set (.inr (Nat.le_refl _)) _).set (.inr (Nat.le_refl _)) _
    rw [← hwz]
    clear hwz n0 n1 n2 g0 g1 g2
    obtain ⟨n0, n1, n2, _⟩ := cell3 hxz
    refine bodyPost_ret (v := .agg #[.int .i64 0, .int .i64 1, .int .i64 3]) (by simp [results, Tryz.results81, go_sem, n0, n1, n2]) rfl ⟨?_, hbz⟩
    unfold MOrderR
    rw [HFF.out]
    rfl
  | true =>
    obtain ⟨ho1, ho2⟩ := HZ.out rfl
    have hs1 := HS1.out
    cases h1 : cellR fb with
    | none =>
      rw [h1] at hs1
      simp only [] at hs1
      subst hs1
      have HFF := Lib.hid (show Mf.mid fa fb fc s.last = .inr (2, 3) by rw [HF.out]; rw [if_neg (by decide), h1])
      go_wp2_with (go_at_call 78; refine (HREJ.out _ _ _).mono ?_; rintro e w9 ⟨rfl, hb9⟩; have HX9 := Lib.hid (heap_keep HX5.out hb9); have HB9 := Lib.hid (HBb.out.next hb9); clear hb9; obtain ⟨n0, n1, n2, g0, g1, g2⟩ := cell3 HX9.out)
      obtain ⟨wz, hwz⟩ : ∃ wz, wz = ((w9.setCell ⟨w.heap.size, 0, none⟩ (.int .i64 0)).setCell ⟨w.heap.size, 1, none⟩ (.int .i64 2)).setCell ⟨w.heap.size, 2, none⟩ (.int .i64 3) := ⟨_, rfl⟩
      have hxz := set3 HX9.out (.int .i64 0) (.int .i64 2) (.int .i64 3)
      rw [← hwz] at hxz
      have hbz : Kept b vr w wz := by rw [hwz]; exact ((HB9.out.set (.inr (Nat.le_refl _)) _).set (.inr (Nat.le_refl _)) _).set (.inr (Nat.le_refl _)) _
      rw [← hwz]
      clear hwz n0 n1 n2 g0 g1 g2
      obtain ⟨n0, n1, n2, _⟩ := cell3 hxz
      refine bodyPost_ret (v := .agg #[.int .i64 0, .int .i64 2, .int .i64 3]) (by simp [results, Tryz.results81, go_sem, n0, n1, n2]) rfl ⟨?_, hbz⟩
      unfold MOrderR
      rw [HFF.out]
      rfl
    | some u1 =>
      rw [h1] at hs1
      obtain ⟨hq1, hp1, hy1⟩ := hs1
      subst hq1
      have HO1 := Lib.hid (cellR_ok h1)
      have hs2 := HS2.out
      cases h2 : cellR fc with
      | none =>
        rw [h2] at hs2
        simp only [] at hs2
        subst hs2
        have HFF := Lib.hid (show Mf.mid fa fb fc s.last = .inr (3, 3) by rw [HF.out]; rw [if_neg (by decide), h1, h2])
        go_wp2_with (go_at_call 78; refine (HREJ.out _ _ _).mono ?_; rintro e w9 ⟨rfl, hb9⟩; have HX9 := Lib.hid (heap_keep HX5.out hb9); have HB9 := Lib.hid (HBb.out.next hb9); clear hb9; obtain ⟨n0, n1, n2, g0, g1, g2⟩ := cell3 HX9.out)
        obtain ⟨wz, hwz⟩ : ∃ wz, wz = ((w9.setCell ⟨w.heap.size, 0, none⟩ (.int .i64 0)).setCell ⟨w.heap.size, 1, none⟩ (.int .i64 3)).setCell ⟨w.heap.size, 2, none⟩ (.int .i64 3) := ⟨_, rfl⟩
        have hxz := set3 HX9.out (.int .i64 0) (.int .i64 3) (.int .i64 3)
        rw [← hwz] at hxz
        have hbz : Kept b vr w wz := by rw [hwz]; exact ((HB9.out.set (.inr (Nat.le_refl _)) _).set (.inr (Nat.le_refl _)) _).set (.inr (Nat.le_refl _)) _
        rw [← hwz]
        clear hwz n0 n1 n2 g0 g1 g2
        obtain ⟨n0, n1, n2, _⟩ := cell3 hxz
        refine bodyPost_ret (v := .agg #[.int .i64 0, .int .i64 3, .int .i64 3]) (by simp [results, Tryz.results81, go_sem, n0, n1, n2]) rfl ⟨?_, hbz⟩
        unfold MOrderR
        rw [HFF.out]
        rfl
      | some u2 =>
        rw [h2] at hs2
        obtain ⟨hq2, hp2, hy2⟩ := hs2
        subst hq2
        have HO2 := Lib.hid (cellR_ok h2)
        by_cases hu1 : u1.1 = 0
        · have hp1' : p1 = false := by rw [hp1]; simp [hu1]
          subst hp1'
          by_cases hu2 : u2.1 = 0
          · have hp2' : p2 = false := by rw [hp2]; simp [hu2]
            subst hp2'
            have HFF := Lib.hid (show Mf.mid fa fb fc s.last = .inr (2, 3) by rw [HF.out]; rw [if_neg (by decide), h1, h2]; simp only []; rw [if_pos ⟨hu1, hu2⟩])
            clear hp1 hp2 hy1 hy2 hu1 hu2 h1 h2
            go_wp2_with (go_at_call 78; refine (HREJ.out _ _ _).mono ?_; rintro e w9 ⟨rfl, hb9⟩; have HX9 := Lib.hid (heap_keep HX5.out hb9); have HB9 := Lib.hid (HBb.out.next hb9); clear hb9; obtain ⟨n0, n1, n2, g0, g1, g2⟩ := cell3 HX9.out)
            obtain ⟨wz, hwz⟩ : ∃ wz, wz = ((w9.setCell ⟨w.heap.size, 0, none⟩ (.int .i64 0)).setCell ⟨w.heap.size, 1, none⟩ (.int .i64 2)).setCell ⟨w.heap.size, 2, none⟩ (.int .i64 3) := ⟨_, rfl⟩
            have hxz := set3 HX9.out (.int .i64 0) (.int .i64 2) (.int .i64 3)
            rw [← hwz] at hxz
            have hbz : Kept b vr w wz := by rw [hwz]; exact ((HB9.out.set (.inr (Nat.le_refl _)) _).set (.inr (Nat.le_refl _)) _).set (.inr (Nat.le_refl _)) _
            rw [← hwz]
            clear hwz n0 n1 n2 g0 g1 g2
            obtain ⟨n0, n1, n2, _⟩ := cell3 hxz
            refine bodyPost_ret (v := .agg #[.int .i64 0, .int .i64 2, .int .i64 3]) (by simp [results, Tryz.results81, go_sem, n0, n1, n2]) rfl ⟨?_, hbz⟩
            unfold MOrderR
            rw [HFF.out]
            rfl
          · have hp2' : p2 = true := by rw [hp2]; simp [hu2]
            subst hp2'
            by_cases hol : o ≤ s.last
            · have i4 := HI5.out.cells.2.2.2.1
              have HFF := Lib.hid (show Mf.mid fa fb fc s.last = .inr (1, 6) by rw [HF.out]; rw [if_neg (by decide), h1, h2]; simp only []; rw [if_neg (by omega)]; rw [if_pos hol])
              clear hp1 hp2 hy1 hy2 hu1 hu2 h1 h2
              go_wp2_with (go_at_call 78; refine (HREJ.out _ _ _).mono ?_; rintro e w9 ⟨rfl, hb9⟩; have HX9 := Lib.hid (heap_keep HX5.out hb9); have HB9 := Lib.hid (HBb.out.next hb9); clear hb9; clear i4; obtain ⟨n0, n1, n2, g0, g1, g2⟩ := cell3 HX9.out)
              obtain ⟨wz, hwz⟩ : ∃ wz, wz = ((w9.setCell ⟨w.heap.size, 0, none⟩ (.int .i64 0)).setCell ⟨w.heap.size, 1, none⟩ (.int .i64 1)).setCell ⟨w.heap.size, 2, none⟩ (.int .i64 6) := ⟨_, rfl⟩
              have hxz := set3 HX9.out (.int .i64 0) (.int .i64 1) (.int .i64 6)
              rw [← hwz] at hxz
              have hbz : Kept b vr w wz := by rw [hwz]; exact ((HB9.out.set (.inr (Nat.le_refl _)) _).set (.inr (Nat.le_refl _)) _).set (.inr (Nat.le_refl _)) _
              rw [← hwz]
              clear hwz n0 n1 n2 g0 g1 g2
              obtain ⟨n0, n1, n2, _⟩ := cell3 hxz
              refine bodyPost_ret (v := .agg #[.int .i64 0, .int .i64 1, .int .i64 6]) (by simp [results, Tryz.results81, go_sem, n0, n1, n2]) rfl ⟨?_, hbz⟩
              unfold MOrderR
              rw [HFF.out]
              rfl
            · have HFF := Lib.hid (show Mf.mid fa fb fc s.last = .inl (o, Mf.two o u1 u2) by rw [HF.out]; rw [if_neg (by decide), h1, h2]; simp only []; rw [if_neg (by omega)]; rw [if_neg hol])
              have i4 := HI5.out.cells.2.2.2.1
              have hy0 : yo = 0 ∧ yd = 0 ∧ yc = 0 ∧ ya = 0 ∧ yq = 0 := by rw [if_pos hu1] at hy1; simp only [Prod.mk.injEq] at hy1; exact ⟨hy1.1.1, hy1.1.2, hy1.2.1, hy1.2.2.1, hy1.2.2.2⟩
              have hz0' : zo = o ∧ zd = 5 ∧ zc = u2.1 ∧ za = 0 ∧ zq = u2.2 := by rw [if_neg hu2] at hy2; simp only [Prod.mk.injEq] at hy2; exact ⟨hy2.1.1, hy2.1.2, hy2.2.1, hy2.2.2.1, hy2.2.2.2⟩
              have HE1 := Lib.hid (show chk yo yd = false ∧ SK s o u1 u2 1 = SK s o u1 u2 0 from ⟨by rw [hy0.1, hy0.2.1]; decide, SK_no0 hu1⟩)
              have HE2 := Lib.hid (show chk zo zd = true ∧ (0 ≤ zq ∧ zq ≤ 999) ∧ SK s o u1 u2 2 = { SK s o u1 u2 1 with l := (SK s o u1 u2 1).l ++ [((zo, zd), zc, za, zq)], tot := (SK s o u1 u2 1).tot + zq } from ⟨by rw [hz0'.1, hz0'.2.1]; exact chk_iff.2 (by omega), by rw [hz0'.2.2.2.2]; exact HO2.out.many, by rw [hz0'.1, hz0'.2.1, hz0'.2.2.1, hz0'.2.2.2.1, hz0'.2.2.2.2]; exact SK_yes1 hu2⟩)
              clear hp1 hp2
              clear hy1 hy2 hy0 hz0' hu1 hu2 h1 h2
              obtain ⟨y0, y1, y2, y3, y4⟩ := cell5 HY5.out
              obtain ⟨x0, x1, x2, x3, x4⟩ := cell5 HZ5.out
              go_upto_region 15 with (fail)
              clear y0 y1 y2 y3 y4 x0 x1 x2 x3 x4
              go_loopw [73] (fun i wr => ∃ (k : Nat) (vk : Value), i = .int .i64 k ∧ k ≤ 2 ∧ Hid (MInv wr b (SK s o u1 u2 k) vk) ∧ Hid (wr.heap[w.heap.size]? = some (.cells #[.int .i64 0, .int .i64 0, .int .i64 0] tRej (0, 0))) ∧ Hid (Kept b vr w wr) ∧ Hid (vk.ownBlock ≠ some w.heap.size) ∧ Hid (∀ j, vk.ownBlock = some j → vr.ownBlock = some j ∨ w.heap.size ≤ j)) (fun i _ => 2 - (intOf i).toNat)
              case atStart => exact ⟨0, vr, rfl, by omega, by rw [SK_zero]; exact HI5.out, HX5.out, HBb.out, hvb, fun j h => .inl h⟩
              case round =>
                obtain ⟨k, vk, rfl, hk, HIr, HXr, HBr, HNk, HVk⟩ := hrel
                match k, hk with
                | 0, hk =>
                  have hix := ixr0 yo yd yc ya yq zo zd zc za zq
                  go_upto_region 17 with (fail)
                  clear hix
                  obtain ⟨wq, hwq⟩ : ∃ wq, wq = wr.alloc (.cells #[.int .i64 yo, .int .i64 yd, .int .i64 yc, .int .i64 ya, .int .i64 yq] tRow) := ⟨_, rfl⟩
                  rw [← hwq]
                  have hbq : Below wr.heap.size wr wq := by rw [hwq]; exact below_alloc _ _
                  have HRq := Lib.hid (show wq.heap[wr.heap.size]? = some (.cells #[.int .i64 yo, .int .i64 yd, .int .i64 yc, .int .i64 ya, .int .i64 yq] tRow (0, 0)) by rw [hwq]; exact heap_new _ _)
                  have HXq := Lib.hid (heap_keep HXr.out hbq); have HIq := Lib.hid (HIr.out.below hbq); have HBq := Lib.hid (HBr.out.next hbq)
                  have HNq := Lib.hid (show vk.ownBlock ≠ some wr.heap.size from fun e => by have := (HIr.out.own.lt _ e).2; omega)
                  have hzr : b < wr.heap.size := HIr.out.lt
                  clear hwq hbq
                  generalize wr.heap.size = bq at HRq HNq hzr ⊢
                  obtain ⟨r0, r1, r2, r3, r4⟩ := cell5 HRq.out
                  have HC := Lib.hid (fun W => (check_any yo yd W).mono fun e w' h => (show e = .returned (.bool false) ∧ Below W.heap.size W w' from ⟨by rw [h.1, HE1.out.1], h.2⟩))
                  go_wp2_with (go_at_call 97; refine (HC.out _).mono ?_; rintro e w9 ⟨rfl, hb⟩; have HX9 := Lib.hid (heap_keep HXq.out hb); have HI9 := Lib.hid (HIq.out.below hb); have HB9 := Lib.hid (HBq.out.next hb); clear hb r0 r1 r2 r3 r4)
                  have HSK := Lib.hid (show SK s o u1 u2 1 = SK s o u1 u2 0 from HE1.out.2)
                  go_roundw
                  case rel => exact ⟨1, vk, by go_num, by omega, by rw [HSK.out]; exact HI9.out, HX9.out, HB9.out, HNk.out, HVk.out⟩
                  case measure => simp [intOf]; try omega
                | 1, hk =>
                  have hix := ixr1 yo yd yc ya yq zo zd zc za zq
                  go_upto_region 17 with (fail)
                  clear hix
                  obtain ⟨wq, hwq⟩ : ∃ wq, wq = wr.alloc (.cells #[.int .i64 zo, .int .i64 zd, .int .i64 zc, .int .i64 za, .int .i64 zq] tRow) := ⟨_, rfl⟩
                  rw [← hwq]
                  have hbq : Below wr.heap.size wr wq := by rw [hwq]; exact below_alloc _ _
                  have HRq := Lib.hid (show wq.heap[wr.heap.size]? = some (.cells #[.int .i64 zo, .int .i64 zd, .int .i64 zc, .int .i64 za, .int .i64 zq] tRow (0, 0)) by rw [hwq]; exact heap_new _ _)
                  have HXq := Lib.hid (heap_keep HXr.out hbq); have HIq := Lib.hid (HIr.out.below hbq); have HBq := Lib.hid (HBr.out.next hbq)
                  have HNq := Lib.hid (show vk.ownBlock ≠ some wr.heap.size from fun e => by have := (HIr.out.own.lt _ e).2; omega)
                  have hzr : b < wr.heap.size := HIr.out.lt
                  clear hwq hbq
                  generalize wr.heap.size = bq at HRq HNq hzr ⊢
                  obtain ⟨r0, r1, r2, r3, r4⟩ := cell5 HRq.out
                  have HC := Lib.hid (fun W => (check_any zo zd W).mono fun e w' h => (show e = .returned (.bool true) ∧ Below W.heap.size W w' from ⟨by rw [h.1, HE2.out.1], h.2⟩))
                  go_upto_region 18 with (go_at_call 97; refine (HC.out _).mono ?_; rintro e w7 ⟨rfl, hb⟩; have HR7 := Lib.hid (heap_keep HRq.out hb); have HX7 := Lib.hid (heap_keep HXq.out hb); have HI7 := Lib.hid (HIq.out.below hb); have HB7 := Lib.hid (HBq.out.next hb); clear hb r0 r1 r2 r3 r4)
                  obtain ⟨r0, r1, r2, r3, r4⟩ := cell5 HR7.out
                  obtain ⟨Ak, ck, rfl, _⟩ := own_slice HI7.out.own
                  have i2 := HI7.out.cells.2.1
                  have hlk : (SK s o u1 u2 1).l.length ≤ 122 := by have := SK_len s o u1 u2 1; omega
                  have HH := Lib.hid (fun W (hb : Turned (fun j => (Value.ownBlock (.slice Ak (SK s o u1 u2 1).l.length ck)) = some j) w7 W) => (⟨Lib.hid hb, (cell_at (heap_turned HI7.out.box hb (fun e => by have := (HI7.out.own.lt _ e).1; omega)) 2 rfl), (cell_at (heap_turned HR7.out hb HNq.out) 0 rfl), (cell_at (heap_turned HR7.out hb HNq.out) 1 rfl), (cell_at (heap_turned HR7.out hb HNq.out) 2 rfl), (cell_at (heap_turned HR7.out hb HNq.out) 3 rfl), (cell_at (heap_turned HR7.out hb HNq.out) 4 rfl)⟩ : (fun w' => Hid (Turned (fun j => (Value.ownBlock (.slice Ak (SK s o u1 u2 1).l.length ck)) = some j) w7 w') ∧ w'.cell? ⟨b, 2, none⟩ = some (.slice Ak (SK s o u1 u2 1).l.length ck) ∧ w'.cell? ⟨bq, 0, none⟩ = some (.int .i64 zo) ∧ w'.cell? ⟨bq, 1, none⟩ = some (.int .i64 zd) ∧ w'.cell? ⟨bq, 2, none⟩ = some (.int .i64 zc) ∧ w'.cell? ⟨bq, 3, none⟩ = some (.int .i64 za) ∧ w'.cell? ⟨bq, 4, none⟩ = some (.int .i64 zq)) W))
                  refine wp_region_noPanic ?_
                  refine wp_region_till 12 (fun _ => True) (fun w' => Hid (Turned (fun j => (Value.ownBlock (.slice Ak (SK s o u1 u2 1).l.length ck)) = some j) w7 w') ∧ w'.cell? ⟨b, 2, none⟩ = some (.slice Ak (SK s o u1 u2 1).l.length ck) ∧ w'.cell? ⟨bq, 0, none⟩ = some (.int .i64 zo) ∧ w'.cell? ⟨bq, 1, none⟩ = some (.int .i64 zd) ∧ w'.cell? ⟨bq, 2, none⟩ = some (.int .i64 zc) ∧ w'.cell? ⟨bq, 3, none⟩ = some (.int .i64 za) ∧ w'.cell? ⟨bq, 4, none⟩ = some (.int .i64 zq)) (by kernel_rfl) (HH.out _ (((Turned.refl (fun j => (Value.ownBlock (.slice Ak (SK s o u1 u2 1).l.length ck)) = some j) w7).drew))) (fun hHeld => ?_)
                  refine wpAnyT_go (i := 0) (v := ?vt0_1) rfl (by kernel_rfl) (by kernel_rfl) (by kernel_rfl) (fun _ _ _ h => h) (by kernel_rfl) (Or.inl ⟨by rfl, ?hyt0_1⟩) (by assumption) ?restt0_1
                  case hyt0_1 => (intro w0 hSw; (try dsimp only at hSw); go_simp; try with_reducible rfl)
                  case' restt0_1 => try simp only [Act.put, List.getElem_toArray, List.getElem_cons_zero, List.getElem_cons_succ, List.setIfInBounds_toArray, List.set_cons_zero, List.set_cons_succ]
                  refine wpAnyT_go (i := 1) (v := ?vt1_2) rfl (by kernel_rfl) (by kernel_rfl) (by kernel_rfl) (fun _ _ _ h => h) (by kernel_rfl) (Or.inl ⟨by rfl, ?hyt1_2⟩) (by assumption) ?restt1_2
                  case hyt1_2 => (intro w0 hSw; (try dsimp only at hSw); go_simp; try with_reducible rfl)
                  case' restt1_2 => try simp only [Act.put, List.getElem_toArray, List.getElem_cons_zero, List.getElem_cons_succ, List.setIfInBounds_toArray, List.set_cons_zero, List.set_cons_succ]
                  refine wpAnyT_go (i := 2) (v := ?vt2_3) rfl (by kernel_rfl) (by kernel_rfl) (by kernel_rfl) (fun _ _ _ h => h) (by kernel_rfl) (Or.inl ⟨by rfl, ?hyt2_3⟩) (by assumption) ?restt2_3
                  case hyt2_3 => (intro w0 hSw; (try dsimp only at hSw); go_simp; try with_reducible rfl)
                  case' restt2_3 => try simp only [Act.put, List.getElem_toArray, List.getElem_cons_zero, List.getElem_cons_succ, List.setIfInBounds_toArray, List.set_cons_zero, List.set_cons_succ]
                  refine wpAnyT_go (i := 3) (v := ?vt3_4) rfl (by kernel_rfl) (by kernel_rfl) (by kernel_rfl) (fun _ _ _ h => h) (by kernel_rfl) (Or.inl ⟨by rfl, ?hyt3_4⟩) (by assumption) ?restt3_4
                  case hyt3_4 => (intro w0 hSw; (try dsimp only at hSw); go_simp; try with_reducible rfl)
                  case' restt3_4 => try simp only [Act.put, List.getElem_toArray, List.getElem_cons_zero, List.getElem_cons_succ, List.setIfInBounds_toArray, List.set_cons_zero, List.set_cons_succ]
                  refine wpAnyT_go (i := 4) (v := ?vt4_5) rfl (by kernel_rfl) (by kernel_rfl) (by kernel_rfl) (fun _ _ _ h => h) (by kernel_rfl) (Or.inl ⟨by rfl, ?hyt4_5⟩) (by assumption) ?restt4_5
                  case hyt4_5 => (intro w0 hSw; (try dsimp only at hSw); go_simp; try with_reducible rfl)
                  case' restt4_5 => try simp only [Act.put, List.getElem_toArray, List.getElem_cons_zero, List.getElem_cons_succ, List.setIfInBounds_toArray, List.set_cons_zero, List.set_cons_succ]
                  refine wpAnyT_go (i := 5) (v := ?vt5_6) rfl (by kernel_rfl) (by kernel_rfl) (by kernel_rfl) (fun _ _ _ h => h) (by kernel_rfl) (Or.inl ⟨by rfl, ?hyt5_6⟩) (by assumption) ?restt5_6
                  case hyt5_6 => (intro w0 hSw; (try dsimp only at hSw); go_simp; try with_reducible rfl)
                  case' restt5_6 => try simp only [Act.put, List.getElem_toArray, List.getElem_cons_zero, List.getElem_cons_succ, List.setIfInBounds_toArray, List.set_cons_zero, List.set_cons_succ]
                  refine wpAnyT_go (i := 6) (v := ?vt6_7) rfl (by kernel_rfl) (by kernel_rfl) (by kernel_rfl) (fun _ _ _ h => h) (by kernel_rfl) (Or.inl ⟨by rfl, ?hyt6_7⟩) (by assumption) ?restt6_7
                  case hyt6_7 => (intro w0 hSw; (try dsimp only at hSw); go_simp; try with_reducible rfl)
                  case' restt6_7 => try simp only [Act.put, List.getElem_toArray, List.getElem_cons_zero, List.getElem_cons_succ, List.setIfInBounds_toArray, List.set_cons_zero, List.set_cons_succ]
                  refine wpAnyT_ready (rs := [7]) (by kernel_rfl) (by simp) ?_
                  refine AllReadyT.cons rfl (by kernel_rfl) (fun K hK => ?_) AllReadyT.nil
                  go_simp
                  refine hK.out _ _ (HH.out _ (Turned.of_below (((below_drew1 (Below.refl w7.heap.size w7)).alloc (Nat.le_refl _) (.cells #[.int .i64 zo, .int .i64 zd, .int .i64 zc, .int .i64 za, .int .i64 zq] tRow))))) (fun hHeld => ?_)
                  clear hK K
                  try simp only [Act.put, List.getElem_toArray, List.getElem_cons_zero, List.getElem_cons_succ, List.setIfInBounds_toArray, List.set_cons_zero, List.set_cons_succ]
                  refine wpAnyT_ready (rs := [8]) (by kernel_rfl) (by simp) ?_
                  refine AllReadyT.cons rfl (by kernel_rfl) (fun K hK => ?_) AllReadyT.nil
                  refine step_append_any _ rfl (.tmp 84) (.tmp 86) tRows rfl (b + 1) tRow info0 (mkRow ((0, 0), 0, 0, 0)) 5 40 Tryz.underlying22 hinfo hz0 hz1 hz2 rfl (by decide) (.slice Ak (SK s o u1 u2 1).l.length ck) (SK s o u1 u2 1).l.length ((SK s o u1 u2 1).l.flatMap encR) rfl (own_keep HI7.out.own (((below_drew1 (Below.refl w7.heap.size w7)).alloc (Nat.le_refl _) (.cells #[.int .i64 zo, .int .i64 zd, .int .i64 zc, .int .i64 za, .int .i64 zq] tRow)))) 1 (encR ((zo, zd), zc, za, zq)) (src_blk (xs := encR ((zo, zd), zc, za, zq)) (heap_new _ _) (encR_one _)) (by unfold maxLen; omega) (by omega) (by have := HI7.out.lt; simp; omega) ?_
                  intro v6 w6 ho6 hg6 hat6
                  obtain ⟨A6, c6, rfl, _⟩ := own_slice ho6
                  have ht6 : Turned (fun j => (Value.ownBlock (.slice Ak (SK s o u1 u2 1).l.length ck)) = some j) w7 w6 := (Turned.of_below (((below_drew1 (Below.refl w7.heap.size w7)).alloc (Nat.le_refl _) (.cells #[.int .i64 zo, .int .i64 zd, .int .i64 zc, .int .i64 za, .int .i64 zq] tRow)))).trans (Turned.of_grown hg6 (fun j h => h))
                  refine hK.out _ _ (HH.out _ (ht6)) (fun hHeld => ?_)
                  clear hK K
                  try simp only [Act.put, List.getElem_toArray, List.getElem_cons_zero, List.getElem_cons_succ, List.setIfInBounds_toArray, List.set_cons_zero, List.set_cons_succ]
                  have HP := Lib.hid (HI7.out.push ho6 ht6)
                  have hbx := heap_turned HI7.out.box ht6 (fun e => by have := (HI7.out.own.lt _ e).1; omega)
                  have HX6 := Lib.hid (heap_turned HX7.out ht6 HNk.out); have HR6 := Lib.hid (heap_turned HR7.out ht6 HNq.out)
                  have HB6 := Lib.hid (HB7.out.app ht6 HVk.out)
                  have HN6 := Lib.hid (show Value.ownBlock (.slice A6 _ c6) ≠ some w.heap.size from fun e => by rcases hat6 with h | h; exact HNk.out (h.symm.trans e); (rw [e] at h; injection h with h; have := heap_lt HX7.out; simp at h; omega))
                  have HV6 := Lib.hid (show ∀ j, Value.ownBlock (.slice A6 ((SK s o u1 u2 1).l.length + 1) c6) = some j → vr.ownBlock = some j ∨ w.heap.size ≤ j from fun j e => by rcases hat6 with h | h; exact HVk.out j (h.symm.trans e); (rw [e] at h; injection h with h; have := heap_lt HX7.out; simp at h; exact .inr (by omega)))
                  have e2 := cell_at hbx 2 rfl
                  have f2 := frozen_at hbx 2
                  clear ho6 hg6 hat6 ht6 hbx r0 r1 r2 r3 r4 i2
                  refine wpAnyT_go (i := 9) (v := ?vt9_8) rfl (by kernel_rfl) (by kernel_rfl) (by kernel_rfl) (fun _ _ _ h => h) (by kernel_rfl) (Or.inl ⟨by rfl, ?hyt9_8⟩) (by assumption) ?restt9_8
                  case hyt9_8 => (intro w0 hSw; (try dsimp only at hSw); go_simp; try with_reducible rfl)
                  case' restt9_8 => try simp only [Act.put, List.getElem_toArray, List.getElem_cons_zero, List.getElem_cons_succ, List.setIfInBounds_toArray, List.set_cons_zero, List.set_cons_succ]
                  refine wpAnyT_go (i := 10) (v := ?vt10_9) rfl (by kernel_rfl) (by kernel_rfl) (by kernel_rfl) (fun _ _ _ h => h) (by kernel_rfl) (Or.inl ⟨by rfl, ?hyt10_9⟩) (by assumption) ?restt10_9
                  case hyt10_9 => (intro w0 hSw; (try dsimp only at hSw); go_simp; try with_reducible rfl)
                  case' restt10_9 => try simp only [Act.put, List.getElem_toArray, List.getElem_cons_zero, List.getElem_cons_succ, List.setIfInBounds_toArray, List.set_cons_zero, List.set_cons_succ]
                  refine wpAnyT_go (i := 11) (v := ?vt11_10) rfl (by kernel_rfl) (by kernel_rfl) (by kernel_rfl) (fun _ _ _ h => h) (by kernel_rfl) (Or.inl ⟨by rfl, ?hyt11_10⟩) (by assumption) ?restt11_10
                  case hyt11_10 => (intro w0 hSw; (try dsimp only at hSw); go_simp; try with_reducible rfl)
                  case' restt11_10 => try simp only [Act.put, List.getElem_toArray, List.getElem_cons_zero, List.getElem_cons_succ, List.setIfInBounds_toArray, List.set_cons_zero, List.set_cons_succ]
                  refine wpAnyT_ready (rs := [12]) (by kernel_rfl) (by simp) ?_
                  refine AllReadyT.last rfl (by kernel_rfl) (fun K hK => ?_) AllReadyT.nil
                  go_simp
                  refine hK.out _ _ trivial (fun hHeld => ?_)
                  clear hK K
                  try simp only [Act.put, List.getElem_toArray, List.getElem_cons_zero, List.getElem_cons_succ, List.setIfInBounds_toArray, List.set_cons_zero, List.set_cons_succ]
                  refine wpAnyT_done (by kernel_rfl) ?_ _
                  refine NoPanic.normal ?_
                  clear hHeld HH
                  obtain ⟨w8, hw8⟩ : ∃ w8, w8 = w6.setCell ⟨b, 2, none⟩ (.slice A6 ((SK s o u1 u2 1).l.length + 1) c6) := ⟨_, rfl⟩
                  rw [← hw8] at HP ⊢
                  have HX8 := Lib.hid (show w8.heap[w.heap.size]? = some (.cells #[.int .i64 0, .int .i64 0, .int .i64 0] tRej (0, 0)) by rw [hw8]; exact set_other HX6.out (by omega) _)
                  have HR8 := Lib.hid (show w8.heap[bq]? = some (.cells #[.int .i64 zo, .int .i64 zd, .int .i64 zc, .int .i64 za, .int .i64 zq] tRow (0, 0)) by rw [hw8]; exact set_other HR6.out (by omega) _)
                  have HB8 := Lib.hid (show Kept b vr w w8 by rw [hw8]; exact HB6.out.set (.inl rfl) _)
                  clear hw8 e2 f2 HX6 HR6 HB6
                  obtain ⟨i1, i2, i3, i4, i5, i6, i0⟩ := HP.out.cells
                  have j5 := HP.out.froz 5
                  obtain ⟨r0, r1, r2, r3, r4⟩ := cell5 HR8.out
                  have hwrap : IntKind.i64.wrap ((SK s o u1 u2 1).tot + zq) = (SK s o u1 u2 1).tot + zq := IntWalk.i64_in _ (by have := SK_tot s o u1 u2 1 HO1.out HO2.out; have := HE2.out.2.1; omega)
                  go_upto_region 19 with (fail)
                  go_region
                  go_wp2_with fail
                  obtain ⟨w9, hw9⟩ : ∃ w9, w9 = w8.setCell ⟨b, 5, none⟩ (.int .i64 ((SK s o u1 u2 1).tot + zq)) := ⟨_, rfl⟩
                  have hi9 := HP.out.tot ((SK s o u1 u2 1).tot + zq)
                  rw [← hw9] at hi9
                  have HSK := Lib.hid (show SK s o u1 u2 2 = { SK s o u1 u2 1 with l := (SK s o u1 u2 1).l ++ [((zo, zd), zc, za, zq)], tot := (SK s o u1 u2 1).tot + zq } from HE2.out.2.2)
                  rw [← HSK.out] at hi9
                  have hx9 : w9.heap[w.heap.size]? = some (.cells #[.int .i64 0, .int .i64 0, .int .i64 0] tRej (0, 0)) := by rw [hw9]; exact set_other HX8.out (by omega) _
                  have hb9 : Kept b vr w w9 := by rw [hw9]; exact HB8.out.set (.inl rfl) _
                  rw [← hw9]
                  clear hw9 i1 i2 i3 i4 i5 i6 i0 j5 r0 r1 r2 r3 r4 hwrap
                  go_roundw
                  case rel => exact ⟨2, _, by go_num, by omega, hi9.below (below_drew1 (Below.refl _ _)), heap_keep hx9 (below_drew1 (Below.refl _ _)), hb9.drew, HN6.out, HV6.out⟩
                  case measure => simp [intOf]; try omega
                | 2, hk =>
                  obtain ⟨i1, i2, i3, i4, i5, i6, i0⟩ := HIr.out.cells
                  have j3 := HIr.out.froz 3
                  have j4 := HIr.out.froz 4
                  have hso : (SK s o u1 u2 2).orders = s.orders := rfl
                  have hwo : IntKind.i64.wrap (((SK s o u1 u2 2).orders : Int) + 1) = ((SK s o u1 u2 2).orders : Int) + 1 := IntWalk.i64_in _ (by rw [hso]; omega)
                  have HSO := Lib.hid hso
                  clear hso
                  go_upto_region 22 with (fail)
                  obtain ⟨w8, hw8⟩ : ∃ w8, w8 = wr.setCell ⟨b, 4, none⟩ (.int .i64 o) := ⟨_, rfl⟩
                  rw [← hw8]
                  have HI8 := Lib.hid (HIr.out.last o)
                  rw [← hw8] at HI8
                  have HX8 := Lib.hid (show w8.heap[w.heap.size]? = some (.cells #[.int .i64 0, .int .i64 0, .int .i64 0] tRej (0, 0)) by rw [hw8]; exact set_other HXr.out (by omega) _)
                  have HB8 := Lib.hid (show Kept b vr w w8 by rw [hw8]; exact HBr.out.set (.inl rfl) _)
                  clear hw8 i1 i2 i3 i4 i5 i6 i0 j3 j4
                  obtain ⟨i1, i2, i3, i4, i5, i6, i0⟩ := HI8.out.cells
                  have j3 := HI8.out.froz 3
                  go_upto_region 23 with (fail)
                  obtain ⟨w9, hw9⟩ : ∃ w9, w9 = w8.setCell ⟨b, 3, none⟩ (.int .i64 (((SK s o u1 u2 2).orders : Int) + 1)) := ⟨_, rfl⟩
                  rw [← hw9]
                  have HI9 := Lib.hid (HI8.out.orders (((SK s o u1 u2 2).orders : Int) + 1) (s.orders + 1) (by rw [HSO.out]; omega))
                  rw [← hw9] at HI9
                  have HX9 := Lib.hid (show w9.heap[w.heap.size]? = some (.cells #[.int .i64 0, .int .i64 0, .int .i64 0] tRej (0, 0)) by rw [hw9]; exact set_other HX8.out (by omega) _)
                  have HB9 := Lib.hid (show Kept b vr w w9 by rw [hw9]; exact HB8.out.set (.inl rfl) _)
                  clear hw9 i1 i2 i3 i4 i5 i6 i0 j3
                  obtain ⟨n0, n1, n2, g0, g1, g2⟩ := cell3 HX9.out
                  go_wp2_with fail
                  obtain ⟨wz, hwz⟩ : ∃ wz, wz = ((w9.setCell ⟨w.heap.size, 0, none⟩ (.int .i64 0)).setCell ⟨w.heap.size, 1, none⟩ (.int .i64 0)).setCell ⟨w.heap.size, 2, none⟩ (.int .i64 0) := ⟨_, rfl⟩
                  have hxz := set3 HX9.out (.int .i64 0) (.int .i64 0) (.int .i64 0)
                  rw [← hwz] at hxz
                  have hbz : Kept b vr w wz := by rw [hwz]; exact ((HB9.out.set (.inr (Nat.le_refl _)) _).set (.inr (Nat.le_refl _)) _).set (.inr (Nat.le_refl _)) _
                  have hiz : MInv wz b { SK s o u1 u2 2 with last := o, orders := s.orders + 1 } vk := by rw [hwz]; exact ((HI9.out.other (by omega) HNk.out _).other (by omega) HNk.out _).other (by omega) HNk.out _
                  rw [← hwz]
                  clear hwz n0 n1 n2 g0 g1 g2
                  obtain ⟨n0, n1, n2, _⟩ := cell3 hxz
                  refine bodyPost_ret (v := .agg #[.int .i64 0, .int .i64 0, .int .i64 0]) (by simp [results, Tryz.results81, go_sem, n0, n1, n2]) rfl ⟨?_, hbz⟩
                  unfold MOrderR
                  rw [HFF.out]
                  exact ⟨rfl, vk, hiz⟩
        · have hp1' : p1 = true := by rw [hp1]; simp [hu1]
          subst hp1'
          by_cases hol : o ≤ s.last
          · have i4 := HI5.out.cells.2.2.2.1
            have HFF := Lib.hid (show Mf.mid fa fb fc s.last = .inr (1, 6) by rw [HF.out]; rw [if_neg (by decide), h1, h2]; simp only []; rw [if_neg (by omega)]; rw [if_pos hol])
            clear hp1 hp2 hy1 hy2 hu1 h1 h2
            go_wp2_with (go_at_call 78; refine (HREJ.out _ _ _).mono ?_; rintro e w9 ⟨rfl, hb9⟩; have HX9 := Lib.hid (heap_keep HX5.out hb9); have HB9 := Lib.hid (HBb.out.next hb9); clear hb9; clear i4; obtain ⟨n0, n1, n2, g0, g1, g2⟩ := cell3 HX9.out)
            obtain ⟨wz, hwz⟩ : ∃ wz, wz = ((w9.setCell ⟨w.heap.size, 0, none⟩ (.int .i64 0)).setCell ⟨w.heap.size, 1, none⟩ (.int .i64 1)).setCell ⟨w.heap.size, 2, none⟩ (.int .i64 6) := ⟨_, rfl⟩
            have hxz := set3 HX9.out (.int .i64 0) (.int .i64 1) (.int .i64 6)
            rw [← hwz] at hxz
            have hbz : Kept b vr w wz := by rw [hwz]; exact ((HB9.out.set (.inr (Nat.le_refl _)) _).set (.inr (Nat.le_refl _)) _).set (.inr (Nat.le_refl _)) _
            rw [← hwz]
            clear hwz n0 n1 n2 g0 g1 g2
            obtain ⟨n0, n1, n2, _⟩ := cell3 hxz
            refine bodyPost_ret (v := .agg #[.int .i64 0, .int .i64 1, .int .i64 6]) (by simp [results, Tryz.results81, go_sem, n0, n1, n2]) rfl ⟨?_, hbz⟩
            unfold MOrderR
            rw [HFF.out]
            rfl
          · have HFF := Lib.hid (show Mf.mid fa fb fc s.last = .inl (o, Mf.two o u1 u2) by rw [HF.out]; rw [if_neg (by decide), h1, h2]; simp only []; rw [if_neg (by omega)]; rw [if_neg hol])
            have i4 := HI5.out.cells.2.2.2.1
            have hy0 : yo = o ∧ yd = 2 ∧ yc = u1.1 ∧ ya = 0 ∧ yq = u1.2 := by rw [if_neg hu1] at hy1; simp only [Prod.mk.injEq] at hy1; exact ⟨hy1.1.1, hy1.1.2, hy1.2.1, hy1.2.2.1, hy1.2.2.2⟩
            have HE1 := Lib.hid (show chk yo yd = true ∧ (0 ≤ yq ∧ yq ≤ 999) ∧ SK s o u1 u2 1 = { SK s o u1 u2 0 with l := (SK s o u1 u2 0).l ++ [((yo, yd), yc, ya, yq)], tot := (SK s o u1 u2 0).tot + yq } from ⟨by rw [hy0.1, hy0.2.1]; exact chk_iff.2 (by omega), by rw [hy0.2.2.2.2]; exact HO1.out.many, by rw [hy0.1, hy0.2.1, hy0.2.2.1, hy0.2.2.2.1, hy0.2.2.2.2]; exact SK_yes0 hu1⟩)
            by_cases hu2 : u2.1 = 0
            · have hz0' : zo = 0 ∧ zd = 0 ∧ zc = 0 ∧ za = 0 ∧ zq = 0 := by rw [if_pos hu2] at hy2; simp only [Prod.mk.injEq] at hy2; exact ⟨hy2.1.1, hy2.1.2, hy2.2.1, hy2.2.2.1, hy2.2.2.2⟩
              have HE2 := Lib.hid (show chk zo zd = false ∧ SK s o u1 u2 2 = SK s o u1 u2 1 from ⟨by rw [hz0'.1, hz0'.2.1]; decide, SK_no1 hu2⟩)
              clear hp1 hp2
              clear hy1 hy2 hy0 hz0' hu1 hu2 h1 h2
              obtain ⟨y0, y1, y2, y3, y4⟩ := cell5 HY5.out
              obtain ⟨x0, x1, x2, x3, x4⟩ := cell5 HZ5.out
              go_upto_region 15 with (fail)
              clear y0 y1 y2 y3 y4 x0 x1 x2 x3 x4
              go_loopw [73] (fun i wr => ∃ (k : Nat) (vk : Value), i = .int .i64 k ∧ k ≤ 2 ∧ Hid (MInv wr b (SK s o u1 u2 k) vk) ∧ Hid (wr.heap[w.heap.size]? = some (.cells #[.int .i64 0, .int .i64 0, .int .i64 0] tRej (0, 0))) ∧ Hid (Kept b vr w wr) ∧ Hid (vk.ownBlock ≠ some w.heap.size) ∧ Hid (∀ j, vk.ownBlock = some j → vr.ownBlock = some j ∨ w.heap.size ≤ j)) (fun i _ => 2 - (intOf i).toNat)
              case atStart => exact ⟨0, vr, rfl, by omega, by rw [SK_zero]; exact HI5.out, HX5.out, HBb.out, hvb, fun j h => .inl h⟩
              case round =>
                obtain ⟨k, vk, rfl, hk, HIr, HXr, HBr, HNk, HVk⟩ := hrel
                match k, hk with
                | 0, hk =>
                  have hix := ixr0 yo yd yc ya yq zo zd zc za zq
                  go_upto_region 17 with (fail)
                  clear hix
                  obtain ⟨wq, hwq⟩ : ∃ wq, wq = wr.alloc (.cells #[.int .i64 yo, .int .i64 yd, .int .i64 yc, .int .i64 ya, .int .i64 yq] tRow) := ⟨_, rfl⟩
                  rw [← hwq]
                  have hbq : Below wr.heap.size wr wq := by rw [hwq]; exact below_alloc _ _
                  have HRq := Lib.hid (show wq.heap[wr.heap.size]? = some (.cells #[.int .i64 yo, .int .i64 yd, .int .i64 yc, .int .i64 ya, .int .i64 yq] tRow (0, 0)) by rw [hwq]; exact heap_new _ _)
                  have HXq := Lib.hid (heap_keep HXr.out hbq); have HIq := Lib.hid (HIr.out.below hbq); have HBq := Lib.hid (HBr.out.next hbq)
                  have HNq := Lib.hid (show vk.ownBlock ≠ some wr.heap.size from fun e => by have := (HIr.out.own.lt _ e).2; omega)
                  have hzr : b < wr.heap.size := HIr.out.lt
                  clear hwq hbq
                  generalize wr.heap.size = bq at HRq HNq hzr ⊢
                  obtain ⟨r0, r1, r2, r3, r4⟩ := cell5 HRq.out
                  have HC := Lib.hid (fun W => (check_any yo yd W).mono fun e w' h => (show e = .returned (.bool true) ∧ Below W.heap.size W w' from ⟨by rw [h.1, HE1.out.1], h.2⟩))
                  go_upto_region 18 with (go_at_call 97; refine (HC.out _).mono ?_; rintro e w7 ⟨rfl, hb⟩; have HR7 := Lib.hid (heap_keep HRq.out hb); have HX7 := Lib.hid (heap_keep HXq.out hb); have HI7 := Lib.hid (HIq.out.below hb); have HB7 := Lib.hid (HBq.out.next hb); clear hb r0 r1 r2 r3 r4)
                  obtain ⟨r0, r1, r2, r3, r4⟩ := cell5 HR7.out
                  obtain ⟨Ak, ck, rfl, _⟩ := own_slice HI7.out.own
                  have i2 := HI7.out.cells.2.1
                  have hlk : (SK s o u1 u2 0).l.length ≤ 122 := by have := SK_len s o u1 u2 0; omega
                  have HH := Lib.hid (fun W (hb : Turned (fun j => (Value.ownBlock (.slice Ak (SK s o u1 u2 0).l.length ck)) = some j) w7 W) => (⟨Lib.hid hb, (cell_at (heap_turned HI7.out.box hb (fun e => by have := (HI7.out.own.lt _ e).1; omega)) 2 rfl), (cell_at (heap_turned HR7.out hb HNq.out) 0 rfl), (cell_at (heap_turned HR7.out hb HNq.out) 1 rfl), (cell_at (heap_turned HR7.out hb HNq.out) 2 rfl), (cell_at (heap_turned HR7.out hb HNq.out) 3 rfl), (cell_at (heap_turned HR7.out hb HNq.out) 4 rfl)⟩ : (fun w' => Hid (Turned (fun j => (Value.ownBlock (.slice Ak (SK s o u1 u2 0).l.length ck)) = some j) w7 w') ∧ w'.cell? ⟨b, 2, none⟩ = some (.slice Ak (SK s o u1 u2 0).l.length ck) ∧ w'.cell? ⟨bq, 0, none⟩ = some (.int .i64 yo) ∧ w'.cell? ⟨bq, 1, none⟩ = some (.int .i64 yd) ∧ w'.cell? ⟨bq, 2, none⟩ = some (.int .i64 yc) ∧ w'.cell? ⟨bq, 3, none⟩ = some (.int .i64 ya) ∧ w'.cell? ⟨bq, 4, none⟩ = some (.int .i64 yq)) W))
                  refine wp_region_noPanic ?_
                  refine wp_region_till 12 (fun _ => True) (fun w' => Hid (Turned (fun j => (Value.ownBlock (.slice Ak (SK s o u1 u2 0).l.length ck)) = some j) w7 w') ∧ w'.cell? ⟨b, 2, none⟩ = some (.slice Ak (SK s o u1 u2 0).l.length ck) ∧ w'.cell? ⟨bq, 0, none⟩ = some (.int .i64 yo) ∧ w'.cell? ⟨bq, 1, none⟩ = some (.int .i64 yd) ∧ w'.cell? ⟨bq, 2, none⟩ = some (.int .i64 yc) ∧ w'.cell? ⟨bq, 3, none⟩ = some (.int .i64 ya) ∧ w'.cell? ⟨bq, 4, none⟩ = some (.int .i64 yq)) (by kernel_rfl) (HH.out _ (((Turned.refl (fun j => (Value.ownBlock (.slice Ak (SK s o u1 u2 0).l.length ck)) = some j) w7).drew))) (fun hHeld => ?_)
                  refine wpAnyT_go (i := 0) (v := ?vt0_11) rfl (by kernel_rfl) (by kernel_rfl) (by kernel_rfl) (fun _ _ _ h => h) (by kernel_rfl) (Or.inl ⟨by rfl, ?hyt0_11⟩) (by assumption) ?restt0_11
                  case hyt0_11 => (intro w0 hSw; (try dsimp only at hSw); go_simp; try with_reducible rfl)
                  case' restt0_11 => try simp only [Act.put, List.getElem_toArray, List.getElem_cons_zero, List.getElem_cons_succ, List.setIfInBounds_toArray, List.set_cons_zero, List.set_cons_succ]
                  refine wpAnyT_go (i := 1) (v := ?vt1_12) rfl (by kernel_rfl) (by kernel_rfl) (by kernel_rfl) (fun _ _ _ h => h) (by kernel_rfl) (Or.inl ⟨by rfl, ?hyt1_12⟩) (by assumption) ?restt1_12
                  case hyt1_12 => (intro w0 hSw; (try dsimp only at hSw); go_simp; try with_reducible rfl)
                  case' restt1_12 => try simp only [Act.put, List.getElem_toArray, List.getElem_cons_zero, List.getElem_cons_succ, List.setIfInBounds_toArray, List.set_cons_zero, List.set_cons_succ]
                  refine wpAnyT_go (i := 2) (v := ?vt2_13) rfl (by kernel_rfl) (by kernel_rfl) (by kernel_rfl) (fun _ _ _ h => h) (by kernel_rfl) (Or.inl ⟨by rfl, ?hyt2_13⟩) (by assumption) ?restt2_13
                  case hyt2_13 => (intro w0 hSw; (try dsimp only at hSw); go_simp; try with_reducible rfl)
                  case' restt2_13 => try simp only [Act.put, List.getElem_toArray, List.getElem_cons_zero, List.getElem_cons_succ, List.setIfInBounds_toArray, List.set_cons_zero, List.set_cons_succ]
                  refine wpAnyT_go (i := 3) (v := ?vt3_14) rfl (by kernel_rfl) (by kernel_rfl) (by kernel_rfl) (fun _ _ _ h => h) (by kernel_rfl) (Or.inl ⟨by rfl, ?hyt3_14⟩) (by assumption) ?restt3_14
                  case hyt3_14 => (intro w0 hSw; (try dsimp only at hSw); go_simp; try with_reducible rfl)
                  case' restt3_14 => try simp only [Act.put, List.getElem_toArray, List.getElem_cons_zero, List.getElem_cons_succ, List.setIfInBounds_toArray, List.set_cons_zero, List.set_cons_succ]
                  refine wpAnyT_go (i := 4) (v := ?vt4_15) rfl (by kernel_rfl) (by kernel_rfl) (by kernel_rfl) (fun _ _ _ h => h) (by kernel_rfl) (Or.inl ⟨by rfl, ?hyt4_15⟩) (by assumption) ?restt4_15
                  case hyt4_15 => (intro w0 hSw; (try dsimp only at hSw); go_simp; try with_reducible rfl)
                  case' restt4_15 => try simp only [Act.put, List.getElem_toArray, List.getElem_cons_zero, List.getElem_cons_succ, List.setIfInBounds_toArray, List.set_cons_zero, List.set_cons_succ]
                  refine wpAnyT_go (i := 5) (v := ?vt5_16) rfl (by kernel_rfl) (by kernel_rfl) (by kernel_rfl) (fun _ _ _ h => h) (by kernel_rfl) (Or.inl ⟨by rfl, ?hyt5_16⟩) (by assumption) ?restt5_16
                  case hyt5_16 => (intro w0 hSw; (try dsimp only at hSw); go_simp; try with_reducible rfl)
                  case' restt5_16 => try simp only [Act.put, List.getElem_toArray, List.getElem_cons_zero, List.getElem_cons_succ, List.setIfInBounds_toArray, List.set_cons_zero, List.set_cons_succ]
                  refine wpAnyT_go (i := 6) (v := ?vt6_17) rfl (by kernel_rfl) (by kernel_rfl) (by kernel_rfl) (fun _ _ _ h => h) (by kernel_rfl) (Or.inl ⟨by rfl, ?hyt6_17⟩) (by assumption) ?restt6_17
                  case hyt6_17 => (intro w0 hSw; (try dsimp only at hSw); go_simp; try with_reducible rfl)
                  case' restt6_17 => try simp only [Act.put, List.getElem_toArray, List.getElem_cons_zero, List.getElem_cons_succ, List.setIfInBounds_toArray, List.set_cons_zero, List.set_cons_succ]
                  refine wpAnyT_ready (rs := [7]) (by kernel_rfl) (by simp) ?_
                  refine AllReadyT.cons rfl (by kernel_rfl) (fun K hK => ?_) AllReadyT.nil
                  go_simp
                  refine hK.out _ _ (HH.out _ (Turned.of_below (((below_drew1 (Below.refl w7.heap.size w7)).alloc (Nat.le_refl _) (.cells #[.int .i64 yo, .int .i64 yd, .int .i64 yc, .int .i64 ya, .int .i64 yq] tRow))))) (fun hHeld => ?_)
                  clear hK K
                  try simp only [Act.put, List.getElem_toArray, List.getElem_cons_zero, List.getElem_cons_succ, List.setIfInBounds_toArray, List.set_cons_zero, List.set_cons_succ]
                  refine wpAnyT_ready (rs := [8]) (by kernel_rfl) (by simp) ?_
                  refine AllReadyT.cons rfl (by kernel_rfl) (fun K hK => ?_) AllReadyT.nil
                  refine step_append_any _ rfl (.tmp 84) (.tmp 86) tRows rfl (b + 1) tRow info0 (mkRow ((0, 0), 0, 0, 0)) 5 40 Tryz.underlying22 hinfo hz0 hz1 hz2 rfl (by decide) (.slice Ak (SK s o u1 u2 0).l.length ck) (SK s o u1 u2 0).l.length ((SK s o u1 u2 0).l.flatMap encR) rfl (own_keep HI7.out.own (((below_drew1 (Below.refl w7.heap.size w7)).alloc (Nat.le_refl _) (.cells #[.int .i64 yo, .int .i64 yd, .int .i64 yc, .int .i64 ya, .int .i64 yq] tRow)))) 1 (encR ((yo, yd), yc, ya, yq)) (src_blk (xs := encR ((yo, yd), yc, ya, yq)) (heap_new _ _) (encR_one _)) (by unfold maxLen; omega) (by omega) (by have := HI7.out.lt; simp; omega) ?_
                  intro v6 w6 ho6 hg6 hat6
                  obtain ⟨A6, c6, rfl, _⟩ := own_slice ho6
                  have ht6 : Turned (fun j => (Value.ownBlock (.slice Ak (SK s o u1 u2 0).l.length ck)) = some j) w7 w6 := (Turned.of_below (((below_drew1 (Below.refl w7.heap.size w7)).alloc (Nat.le_refl _) (.cells #[.int .i64 yo, .int .i64 yd, .int .i64 yc, .int .i64 ya, .int .i64 yq] tRow)))).trans (Turned.of_grown hg6 (fun j h => h))
                  refine hK.out _ _ (HH.out _ (ht6)) (fun hHeld => ?_)
                  clear hK K
                  try simp only [Act.put, List.getElem_toArray, List.getElem_cons_zero, List.getElem_cons_succ, List.setIfInBounds_toArray, List.set_cons_zero, List.set_cons_succ]
                  have HP := Lib.hid (HI7.out.push ho6 ht6)
                  have hbx := heap_turned HI7.out.box ht6 (fun e => by have := (HI7.out.own.lt _ e).1; omega)
                  have HX6 := Lib.hid (heap_turned HX7.out ht6 HNk.out); have HR6 := Lib.hid (heap_turned HR7.out ht6 HNq.out)
                  have HB6 := Lib.hid (HB7.out.app ht6 HVk.out)
                  have HN6 := Lib.hid (show Value.ownBlock (.slice A6 _ c6) ≠ some w.heap.size from fun e => by rcases hat6 with h | h; exact HNk.out (h.symm.trans e); (rw [e] at h; injection h with h; have := heap_lt HX7.out; simp at h; omega))
                  have HV6 := Lib.hid (show ∀ j, Value.ownBlock (.slice A6 ((SK s o u1 u2 0).l.length + 1) c6) = some j → vr.ownBlock = some j ∨ w.heap.size ≤ j from fun j e => by rcases hat6 with h | h; exact HVk.out j (h.symm.trans e); (rw [e] at h; injection h with h; have := heap_lt HX7.out; simp at h; exact .inr (by omega)))
                  have e2 := cell_at hbx 2 rfl
                  have f2 := frozen_at hbx 2
                  clear ho6 hg6 hat6 ht6 hbx r0 r1 r2 r3 r4 i2
                  refine wpAnyT_go (i := 9) (v := ?vt9_18) rfl (by kernel_rfl) (by kernel_rfl) (by kernel_rfl) (fun _ _ _ h => h) (by kernel_rfl) (Or.inl ⟨by rfl, ?hyt9_18⟩) (by assumption) ?restt9_18
                  case hyt9_18 => (intro w0 hSw; (try dsimp only at hSw); go_simp; try with_reducible rfl)
                  case' restt9_18 => try simp only [Act.put, List.getElem_toArray, List.getElem_cons_zero, List.getElem_cons_succ, List.setIfInBounds_toArray, List.set_cons_zero, List.set_cons_succ]
                  refine wpAnyT_go (i := 10) (v := ?vt10_19) rfl (by kernel_rfl) (by kernel_rfl) (by kernel_rfl) (fun _ _ _ h => h) (by kernel_rfl) (Or.inl ⟨by rfl, ?hyt10_19⟩) (by assumption) ?restt10_19
                  case hyt10_19 => (intro w0 hSw; (try dsimp only at hSw); go_simp; try with_reducible rfl)
                  case' restt10_19 => try simp only [Act.put, List.getElem_toArray, List.getElem_cons_zero, List.getElem_cons_succ, List.setIfInBounds_toArray, List.set_cons_zero, List.set_cons_succ]
                  refine wpAnyT_go (i := 11) (v := ?vt11_20) rfl (by kernel_rfl) (by kernel_rfl) (by kernel_rfl) (fun _ _ _ h => h) (by kernel_rfl) (Or.inl ⟨by rfl, ?hyt11_20⟩) (by assumption) ?restt11_20
                  case hyt11_20 => (intro w0 hSw; (try dsimp only at hSw); go_simp; try with_reducible rfl)
                  case' restt11_20 => try simp only [Act.put, List.getElem_toArray, List.getElem_cons_zero, List.getElem_cons_succ, List.setIfInBounds_toArray, List.set_cons_zero, List.set_cons_succ]
                  refine wpAnyT_ready (rs := [12]) (by kernel_rfl) (by simp) ?_
                  refine AllReadyT.last rfl (by kernel_rfl) (fun K hK => ?_) AllReadyT.nil
                  go_simp
                  refine hK.out _ _ trivial (fun hHeld => ?_)
                  clear hK K
                  try simp only [Act.put, List.getElem_toArray, List.getElem_cons_zero, List.getElem_cons_succ, List.setIfInBounds_toArray, List.set_cons_zero, List.set_cons_succ]
                  refine wpAnyT_done (by kernel_rfl) ?_ _
                  refine NoPanic.normal ?_
                  clear hHeld HH
                  obtain ⟨w8, hw8⟩ : ∃ w8, w8 = w6.setCell ⟨b, 2, none⟩ (.slice A6 ((SK s o u1 u2 0).l.length + 1) c6) := ⟨_, rfl⟩
                  rw [← hw8] at HP ⊢
                  have HX8 := Lib.hid (show w8.heap[w.heap.size]? = some (.cells #[.int .i64 0, .int .i64 0, .int .i64 0] tRej (0, 0)) by rw [hw8]; exact set_other HX6.out (by omega) _)
                  have HR8 := Lib.hid (show w8.heap[bq]? = some (.cells #[.int .i64 yo, .int .i64 yd, .int .i64 yc, .int .i64 ya, .int .i64 yq] tRow (0, 0)) by rw [hw8]; exact set_other HR6.out (by omega) _)
                  have HB8 := Lib.hid (show Kept b vr w w8 by rw [hw8]; exact HB6.out.set (.inl rfl) _)
                  clear hw8 e2 f2 HX6 HR6 HB6
                  obtain ⟨i1, i2, i3, i4, i5, i6, i0⟩ := HP.out.cells
                  have j5 := HP.out.froz 5
                  obtain ⟨r0, r1, r2, r3, r4⟩ := cell5 HR8.out
                  have hwrap : IntKind.i64.wrap ((SK s o u1 u2 0).tot + yq) = (SK s o u1 u2 0).tot + yq := IntWalk.i64_in _ (by have := SK_tot s o u1 u2 0 HO1.out HO2.out; have := HE1.out.2.1; omega)
                  go_upto_region 19 with (fail)
                  go_region
                  go_wp2_with fail
                  obtain ⟨w9, hw9⟩ : ∃ w9, w9 = w8.setCell ⟨b, 5, none⟩ (.int .i64 ((SK s o u1 u2 0).tot + yq)) := ⟨_, rfl⟩
                  have hi9 := HP.out.tot ((SK s o u1 u2 0).tot + yq)
                  rw [← hw9] at hi9
                  have HSK := Lib.hid (show SK s o u1 u2 1 = { SK s o u1 u2 0 with l := (SK s o u1 u2 0).l ++ [((yo, yd), yc, ya, yq)], tot := (SK s o u1 u2 0).tot + yq } from HE1.out.2.2)
                  rw [← HSK.out] at hi9
                  have hx9 : w9.heap[w.heap.size]? = some (.cells #[.int .i64 0, .int .i64 0, .int .i64 0] tRej (0, 0)) := by rw [hw9]; exact set_other HX8.out (by omega) _
                  have hb9 : Kept b vr w w9 := by rw [hw9]; exact HB8.out.set (.inl rfl) _
                  rw [← hw9]
                  clear hw9 i1 i2 i3 i4 i5 i6 i0 j5 r0 r1 r2 r3 r4 hwrap
                  go_roundw
                  case rel => exact ⟨1, _, by go_num, by omega, hi9.below (below_drew1 (Below.refl _ _)), heap_keep hx9 (below_drew1 (Below.refl _ _)), hb9.drew, HN6.out, HV6.out⟩
                  case measure => simp [intOf]; try omega
                | 1, hk =>
                  have hix := ixr1 yo yd yc ya yq zo zd zc za zq
                  go_upto_region 17 with (fail)
                  clear hix
                  obtain ⟨wq, hwq⟩ : ∃ wq, wq = wr.alloc (.cells #[.int .i64 zo, .int .i64 zd, .int .i64 zc, .int .i64 za, .int .i64 zq] tRow) := ⟨_, rfl⟩
                  rw [← hwq]
                  have hbq : Below wr.heap.size wr wq := by rw [hwq]; exact below_alloc _ _
                  have HRq := Lib.hid (show wq.heap[wr.heap.size]? = some (.cells #[.int .i64 zo, .int .i64 zd, .int .i64 zc, .int .i64 za, .int .i64 zq] tRow (0, 0)) by rw [hwq]; exact heap_new _ _)
                  have HXq := Lib.hid (heap_keep HXr.out hbq); have HIq := Lib.hid (HIr.out.below hbq); have HBq := Lib.hid (HBr.out.next hbq)
                  have HNq := Lib.hid (show vk.ownBlock ≠ some wr.heap.size from fun e => by have := (HIr.out.own.lt _ e).2; omega)
                  have hzr : b < wr.heap.size := HIr.out.lt
                  clear hwq hbq
                  generalize wr.heap.size = bq at HRq HNq hzr ⊢
                  obtain ⟨r0, r1, r2, r3, r4⟩ := cell5 HRq.out
                  have HC := Lib.hid (fun W => (check_any zo zd W).mono fun e w' h => (show e = .returned (.bool false) ∧ Below W.heap.size W w' from ⟨by rw [h.1, HE2.out.1], h.2⟩))
                  go_wp2_with (go_at_call 97; refine (HC.out _).mono ?_; rintro e w9 ⟨rfl, hb⟩; have HX9 := Lib.hid (heap_keep HXq.out hb); have HI9 := Lib.hid (HIq.out.below hb); have HB9 := Lib.hid (HBq.out.next hb); clear hb r0 r1 r2 r3 r4)
                  have HSK := Lib.hid (show SK s o u1 u2 2 = SK s o u1 u2 1 from HE2.out.2)
                  go_roundw
                  case rel => exact ⟨2, vk, by go_num, by omega, by rw [HSK.out]; exact HI9.out, HX9.out, HB9.out, HNk.out, HVk.out⟩
                  case measure => simp [intOf]; try omega
                | 2, hk =>
                  obtain ⟨i1, i2, i3, i4, i5, i6, i0⟩ := HIr.out.cells
                  have j3 := HIr.out.froz 3
                  have j4 := HIr.out.froz 4
                  have hso : (SK s o u1 u2 2).orders = s.orders := rfl
                  have hwo : IntKind.i64.wrap (((SK s o u1 u2 2).orders : Int) + 1) = ((SK s o u1 u2 2).orders : Int) + 1 := IntWalk.i64_in _ (by rw [hso]; omega)
                  have HSO := Lib.hid hso
                  clear hso
                  go_upto_region 22 with (fail)
                  obtain ⟨w8, hw8⟩ : ∃ w8, w8 = wr.setCell ⟨b, 4, none⟩ (.int .i64 o) := ⟨_, rfl⟩
                  rw [← hw8]
                  have HI8 := Lib.hid (HIr.out.last o)
                  rw [← hw8] at HI8
                  have HX8 := Lib.hid (show w8.heap[w.heap.size]? = some (.cells #[.int .i64 0, .int .i64 0, .int .i64 0] tRej (0, 0)) by rw [hw8]; exact set_other HXr.out (by omega) _)
                  have HB8 := Lib.hid (show Kept b vr w w8 by rw [hw8]; exact HBr.out.set (.inl rfl) _)
                  clear hw8 i1 i2 i3 i4 i5 i6 i0 j3 j4
                  obtain ⟨i1, i2, i3, i4, i5, i6, i0⟩ := HI8.out.cells
                  have j3 := HI8.out.froz 3
                  go_upto_region 23 with (fail)
                  obtain ⟨w9, hw9⟩ : ∃ w9, w9 = w8.setCell ⟨b, 3, none⟩ (.int .i64 (((SK s o u1 u2 2).orders : Int) + 1)) := ⟨_, rfl⟩
                  rw [← hw9]
                  have HI9 := Lib.hid (HI8.out.orders (((SK s o u1 u2 2).orders : Int) + 1) (s.orders + 1) (by rw [HSO.out]; omega))
                  rw [← hw9] at HI9
                  have HX9 := Lib.hid (show w9.heap[w.heap.size]? = some (.cells #[.int .i64 0, .int .i64 0, .int .i64 0] tRej (0, 0)) by rw [hw9]; exact set_other HX8.out (by omega) _)
                  have HB9 := Lib.hid (show Kept b vr w w9 by rw [hw9]; exact HB8.out.set (.inl rfl) _)
                  clear hw9 i1 i2 i3 i4 i5 i6 i0 j3
                  obtain ⟨n0, n1, n2, g0, g1, g2⟩ := cell3 HX9.out
                  go_wp2_with fail
                  obtain ⟨wz, hwz⟩ : ∃ wz, wz = ((w9.setCell ⟨w.heap.size, 0, none⟩ (.int .i64 0)).setCell ⟨w.heap.size, 1, none⟩ (.int .i64 0)).setCell ⟨w.heap.size, 2, none⟩ (.int .i64 0) := ⟨_, rfl⟩
                  have hxz := set3 HX9.out (.int .i64 0) (.int .i64 0) (.int .i64 0)
                  rw [← hwz] at hxz
                  have hbz : Kept b vr w wz := by rw [hwz]; exact ((HB9.out.set (.inr (Nat.le_refl _)) _).set (.inr (Nat.le_refl _)) _).set (.inr (Nat.le_refl _)) _
                  have hiz : MInv wz b { SK s o u1 u2 2 with last := o, orders := s.orders + 1 } vk := by rw [hwz]; exact ((HI9.out.other (by omega) HNk.out _).other (by omega) HNk.out _).other (by omega) HNk.out _
                  rw [← hwz]
                  clear hwz n0 n1 n2 g0 g1 g2
                  obtain ⟨n0, n1, n2, _⟩ := cell3 hxz
                  refine bodyPost_ret (v := .agg #[.int .i64 0, .int .i64 0, .int .i64 0]) (by simp [results, Tryz.results81, go_sem, n0, n1, n2]) rfl ⟨?_, hbz⟩
                  unfold MOrderR
                  rw [HFF.out]
                  exact ⟨rfl, vk, hiz⟩
            · have hz0' : zo = o ∧ zd = 5 ∧ zc = u2.1 ∧ za = 0 ∧ zq = u2.2 := by rw [if_neg hu2] at hy2; simp only [Prod.mk.injEq] at hy2; exact ⟨hy2.1.1, hy2.1.2, hy2.2.1, hy2.2.2.1, hy2.2.2.2⟩
              have HE2 := Lib.hid (show chk zo zd = true ∧ (0 ≤ zq ∧ zq ≤ 999) ∧ SK s o u1 u2 2 = { SK s o u1 u2 1 with l := (SK s o u1 u2 1).l ++ [((zo, zd), zc, za, zq)], tot := (SK s o u1 u2 1).tot + zq } from ⟨by rw [hz0'.1, hz0'.2.1]; exact chk_iff.2 (by omega), by rw [hz0'.2.2.2.2]; exact HO2.out.many, by rw [hz0'.1, hz0'.2.1, hz0'.2.2.1, hz0'.2.2.2.1, hz0'.2.2.2.2]; exact SK_yes1 hu2⟩)
              clear hp1 hp2
              clear hy1 hy2 hy0 hz0' hu1 hu2 h1 h2
              obtain ⟨y0, y1, y2, y3, y4⟩ := cell5 HY5.out
              obtain ⟨x0, x1, x2, x3, x4⟩ := cell5 HZ5.out
              go_upto_region 15 with (fail)
              clear y0 y1 y2 y3 y4 x0 x1 x2 x3 x4
              go_loopw [73] (fun i wr => ∃ (k : Nat) (vk : Value), i = .int .i64 k ∧ k ≤ 2 ∧ Hid (MInv wr b (SK s o u1 u2 k) vk) ∧ Hid (wr.heap[w.heap.size]? = some (.cells #[.int .i64 0, .int .i64 0, .int .i64 0] tRej (0, 0))) ∧ Hid (Kept b vr w wr) ∧ Hid (vk.ownBlock ≠ some w.heap.size) ∧ Hid (∀ j, vk.ownBlock = some j → vr.ownBlock = some j ∨ w.heap.size ≤ j)) (fun i _ => 2 - (intOf i).toNat)
              case atStart => exact ⟨0, vr, rfl, by omega, by rw [SK_zero]; exact HI5.out, HX5.out, HBb.out, hvb, fun j h => .inl h⟩
              case round =>
                obtain ⟨k, vk, rfl, hk, HIr, HXr, HBr, HNk, HVk⟩ := hrel
                match k, hk with
                | 0, hk =>
                  have hix := ixr0 yo yd yc ya yq zo zd zc za zq
                  go_upto_region 17 with (fail)
                  clear hix
                  obtain ⟨wq, hwq⟩ : ∃ wq, wq = wr.alloc (.cells #[.int .i64 yo, .int .i64 yd, .int .i64 yc, .int .i64 ya, .int .i64 yq] tRow) := ⟨_, rfl⟩
                  rw [← hwq]
                  have hbq : Below wr.heap.size wr wq := by rw [hwq]; exact below_alloc _ _
                  have HRq := Lib.hid (show wq.heap[wr.heap.size]? = some (.cells #[.int .i64 yo, .int .i64 yd, .int .i64 yc, .int .i64 ya, .int .i64 yq] tRow (0, 0)) by rw [hwq]; exact heap_new _ _)
                  have HXq := Lib.hid (heap_keep HXr.out hbq); have HIq := Lib.hid (HIr.out.below hbq); have HBq := Lib.hid (HBr.out.next hbq)
                  have HNq := Lib.hid (show vk.ownBlock ≠ some wr.heap.size from fun e => by have := (HIr.out.own.lt _ e).2; omega)
                  have hzr : b < wr.heap.size := HIr.out.lt
                  clear hwq hbq
                  generalize wr.heap.size = bq at HRq HNq hzr ⊢
                  obtain ⟨r0, r1, r2, r3, r4⟩ := cell5 HRq.out
                  have HC := Lib.hid (fun W => (check_any yo yd W).mono fun e w' h => (show e = .returned (.bool true) ∧ Below W.heap.size W w' from ⟨by rw [h.1, HE1.out.1], h.2⟩))
                  go_upto_region 18 with (go_at_call 97; refine (HC.out _).mono ?_; rintro e w7 ⟨rfl, hb⟩; have HR7 := Lib.hid (heap_keep HRq.out hb); have HX7 := Lib.hid (heap_keep HXq.out hb); have HI7 := Lib.hid (HIq.out.below hb); have HB7 := Lib.hid (HBq.out.next hb); clear hb r0 r1 r2 r3 r4)
                  obtain ⟨r0, r1, r2, r3, r4⟩ := cell5 HR7.out
                  obtain ⟨Ak, ck, rfl, _⟩ := own_slice HI7.out.own
                  have i2 := HI7.out.cells.2.1
                  have hlk : (SK s o u1 u2 0).l.length ≤ 122 := by have := SK_len s o u1 u2 0; omega
                  have HH := Lib.hid (fun W (hb : Turned (fun j => (Value.ownBlock (.slice Ak (SK s o u1 u2 0).l.length ck)) = some j) w7 W) => (⟨Lib.hid hb, (cell_at (heap_turned HI7.out.box hb (fun e => by have := (HI7.out.own.lt _ e).1; omega)) 2 rfl), (cell_at (heap_turned HR7.out hb HNq.out) 0 rfl), (cell_at (heap_turned HR7.out hb HNq.out) 1 rfl), (cell_at (heap_turned HR7.out hb HNq.out) 2 rfl), (cell_at (heap_turned HR7.out hb HNq.out) 3 rfl), (cell_at (heap_turned HR7.out hb HNq.out) 4 rfl)⟩ : (fun w' => Hid (Turned (fun j => (Value.ownBlock (.slice Ak (SK s o u1 u2 0).l.length ck)) = some j) w7 w') ∧ w'.cell? ⟨b, 2, none⟩ = some (.slice Ak (SK s o u1 u2 0).l.length ck) ∧ w'.cell? ⟨bq, 0, none⟩ = some (.int .i64 yo) ∧ w'.cell? ⟨bq, 1, none⟩ = some (.int .i64 yd) ∧ w'.cell? ⟨bq, 2, none⟩ = some (.int .i64 yc) ∧ w'.cell? ⟨bq, 3, none⟩ = some (.int .i64 ya) ∧ w'.cell? ⟨bq, 4, none⟩ = some (.int .i64 yq)) W))
                  refine wp_region_noPanic ?_
                  refine wp_region_till 12 (fun _ => True) (fun w' => Hid (Turned (fun j => (Value.ownBlock (.slice Ak (SK s o u1 u2 0).l.length ck)) = some j) w7 w') ∧ w'.cell? ⟨b, 2, none⟩ = some (.slice Ak (SK s o u1 u2 0).l.length ck) ∧ w'.cell? ⟨bq, 0, none⟩ = some (.int .i64 yo) ∧ w'.cell? ⟨bq, 1, none⟩ = some (.int .i64 yd) ∧ w'.cell? ⟨bq, 2, none⟩ = some (.int .i64 yc) ∧ w'.cell? ⟨bq, 3, none⟩ = some (.int .i64 ya) ∧ w'.cell? ⟨bq, 4, none⟩ = some (.int .i64 yq)) (by kernel_rfl) (HH.out _ (((Turned.refl (fun j => (Value.ownBlock (.slice Ak (SK s o u1 u2 0).l.length ck)) = some j) w7).drew))) (fun hHeld => ?_)
                  refine wpAnyT_go (i := 0) (v := ?vt0_21) rfl (by kernel_rfl) (by kernel_rfl) (by kernel_rfl) (fun _ _ _ h => h) (by kernel_rfl) (Or.inl ⟨by rfl, ?hyt0_21⟩) (by assumption) ?restt0_21
                  case hyt0_21 => (intro w0 hSw; (try dsimp only at hSw); go_simp; try with_reducible rfl)
                  case' restt0_21 => try simp only [Act.put, List.getElem_toArray, List.getElem_cons_zero, List.getElem_cons_succ, List.setIfInBounds_toArray, List.set_cons_zero, List.set_cons_succ]
                  refine wpAnyT_go (i := 1) (v := ?vt1_22) rfl (by kernel_rfl) (by kernel_rfl) (by kernel_rfl) (fun _ _ _ h => h) (by kernel_rfl) (Or.inl ⟨by rfl, ?hyt1_22⟩) (by assumption) ?restt1_22
                  case hyt1_22 => (intro w0 hSw; (try dsimp only at hSw); go_simp; try with_reducible rfl)
                  case' restt1_22 => try simp only [Act.put, List.getElem_toArray, List.getElem_cons_zero, List.getElem_cons_succ, List.setIfInBounds_toArray, List.set_cons_zero, List.set_cons_succ]
                  refine wpAnyT_go (i := 2) (v := ?vt2_23) rfl (by kernel_rfl) (by kernel_rfl) (by kernel_rfl) (fun _ _ _ h => h) (by kernel_rfl) (Or.inl ⟨by rfl, ?hyt2_23⟩) (by assumption) ?restt2_23
                  case hyt2_23 => (intro w0 hSw; (try dsimp only at hSw); go_simp; try with_reducible rfl)
                  case' restt2_23 => try simp only [Act.put, List.getElem_toArray, List.getElem_cons_zero, List.getElem_cons_succ, List.setIfInBounds_toArray, List.set_cons_zero, List.set_cons_succ]
                  refine wpAnyT_go (i := 3) (v := ?vt3_24) rfl (by kernel_rfl) (by kernel_rfl) (by kernel_rfl) (fun _ _ _ h => h) (by kernel_rfl) (Or.inl ⟨by rfl, ?hyt3_24⟩) (by assumption) ?restt3_24
                  case hyt3_24 => (intro w0 hSw; (try dsimp only at hSw); go_simp; try with_reducible rfl)
                  case' restt3_24 => try simp only [Act.put, List.getElem_toArray, List.getElem_cons_zero, List.getElem_cons_succ, List.setIfInBounds_toArray, List.set_cons_zero, List.set_cons_succ]
                  refine wpAnyT_go (i := 4) (v := ?vt4_25) rfl (by kernel_rfl) (by kernel_rfl) (by kernel_rfl) (fun _ _ _ h => h) (by kernel_rfl) (Or.inl ⟨by rfl, ?hyt4_25⟩) (by assumption) ?restt4_25
                  case hyt4_25 => (intro w0 hSw; (try dsimp only at hSw); go_simp; try with_reducible rfl)
                  case' restt4_25 => try simp only [Act.put, List.getElem_toArray, List.getElem_cons_zero, List.getElem_cons_succ, List.setIfInBounds_toArray, List.set_cons_zero, List.set_cons_succ]
                  refine wpAnyT_go (i := 5) (v := ?vt5_26) rfl (by kernel_rfl) (by kernel_rfl) (by kernel_rfl) (fun _ _ _ h => h) (by kernel_rfl) (Or.inl ⟨by rfl, ?hyt5_26⟩) (by assumption) ?restt5_26
                  case hyt5_26 => (intro w0 hSw; (try dsimp only at hSw); go_simp; try with_reducible rfl)
                  case' restt5_26 => try simp only [Act.put, List.getElem_toArray, List.getElem_cons_zero, List.getElem_cons_succ, List.setIfInBounds_toArray, List.set_cons_zero, List.set_cons_succ]
                  refine wpAnyT_go (i := 6) (v := ?vt6_27) rfl (by kernel_rfl) (by kernel_rfl) (by kernel_rfl) (fun _ _ _ h => h) (by kernel_rfl) (Or.inl ⟨by rfl, ?hyt6_27⟩) (by assumption) ?restt6_27
                  case hyt6_27 => (intro w0 hSw; (try dsimp only at hSw); go_simp; try with_reducible rfl)
                  case' restt6_27 => try simp only [Act.put, List.getElem_toArray, List.getElem_cons_zero, List.getElem_cons_succ, List.setIfInBounds_toArray, List.set_cons_zero, List.set_cons_succ]
                  refine wpAnyT_ready (rs := [7]) (by kernel_rfl) (by simp) ?_
                  refine AllReadyT.cons rfl (by kernel_rfl) (fun K hK => ?_) AllReadyT.nil
                  go_simp
                  refine hK.out _ _ (HH.out _ (Turned.of_below (((below_drew1 (Below.refl w7.heap.size w7)).alloc (Nat.le_refl _) (.cells #[.int .i64 yo, .int .i64 yd, .int .i64 yc, .int .i64 ya, .int .i64 yq] tRow))))) (fun hHeld => ?_)
                  clear hK K
                  try simp only [Act.put, List.getElem_toArray, List.getElem_cons_zero, List.getElem_cons_succ, List.setIfInBounds_toArray, List.set_cons_zero, List.set_cons_succ]
                  refine wpAnyT_ready (rs := [8]) (by kernel_rfl) (by simp) ?_
                  refine AllReadyT.cons rfl (by kernel_rfl) (fun K hK => ?_) AllReadyT.nil
                  refine step_append_any _ rfl (.tmp 84) (.tmp 86) tRows rfl (b + 1) tRow info0 (mkRow ((0, 0), 0, 0, 0)) 5 40 Tryz.underlying22 hinfo hz0 hz1 hz2 rfl (by decide) (.slice Ak (SK s o u1 u2 0).l.length ck) (SK s o u1 u2 0).l.length ((SK s o u1 u2 0).l.flatMap encR) rfl (own_keep HI7.out.own (((below_drew1 (Below.refl w7.heap.size w7)).alloc (Nat.le_refl _) (.cells #[.int .i64 yo, .int .i64 yd, .int .i64 yc, .int .i64 ya, .int .i64 yq] tRow)))) 1 (encR ((yo, yd), yc, ya, yq)) (src_blk (xs := encR ((yo, yd), yc, ya, yq)) (heap_new _ _) (encR_one _)) (by unfold maxLen; omega) (by omega) (by have := HI7.out.lt; simp; omega) ?_
                  intro v6 w6 ho6 hg6 hat6
                  obtain ⟨A6, c6, rfl, _⟩ := own_slice ho6
                  have ht6 : Turned (fun j => (Value.ownBlock (.slice Ak (SK s o u1 u2 0).l.length ck)) = some j) w7 w6 := (Turned.of_below (((below_drew1 (Below.refl w7.heap.size w7)).alloc (Nat.le_refl _) (.cells #[.int .i64 yo, .int .i64 yd, .int .i64 yc, .int .i64 ya, .int .i64 yq] tRow)))).trans (Turned.of_grown hg6 (fun j h => h))
                  refine hK.out _ _ (HH.out _ (ht6)) (fun hHeld => ?_)
                  clear hK K
                  try simp only [Act.put, List.getElem_toArray, List.getElem_cons_zero, List.getElem_cons_succ, List.setIfInBounds_toArray, List.set_cons_zero, List.set_cons_succ]
                  have HP := Lib.hid (HI7.out.push ho6 ht6)
                  have hbx := heap_turned HI7.out.box ht6 (fun e => by have := (HI7.out.own.lt _ e).1; omega)
                  have HX6 := Lib.hid (heap_turned HX7.out ht6 HNk.out); have HR6 := Lib.hid (heap_turned HR7.out ht6 HNq.out)
                  have HB6 := Lib.hid (HB7.out.app ht6 HVk.out)
                  have HN6 := Lib.hid (show Value.ownBlock (.slice A6 _ c6) ≠ some w.heap.size from fun e => by rcases hat6 with h | h; exact HNk.out (h.symm.trans e); (rw [e] at h; injection h with h; have := heap_lt HX7.out; simp at h; omega))
                  have HV6 := Lib.hid (show ∀ j, Value.ownBlock (.slice A6 ((SK s o u1 u2 0).l.length + 1) c6) = some j → vr.ownBlock = some j ∨ w.heap.size ≤ j from fun j e => by rcases hat6 with h | h; exact HVk.out j (h.symm.trans e); (rw [e] at h; injection h with h; have := heap_lt HX7.out; simp at h; exact .inr (by omega)))
                  have e2 := cell_at hbx 2 rfl
                  have f2 := frozen_at hbx 2
                  clear ho6 hg6 hat6 ht6 hbx r0 r1 r2 r3 r4 i2
                  refine wpAnyT_go (i := 9) (v := ?vt9_28) rfl (by kernel_rfl) (by kernel_rfl) (by kernel_rfl) (fun _ _ _ h => h) (by kernel_rfl) (Or.inl ⟨by rfl, ?hyt9_28⟩) (by assumption) ?restt9_28
                  case hyt9_28 => (intro w0 hSw; (try dsimp only at hSw); go_simp; try with_reducible rfl)
                  case' restt9_28 => try simp only [Act.put, List.getElem_toArray, List.getElem_cons_zero, List.getElem_cons_succ, List.setIfInBounds_toArray, List.set_cons_zero, List.set_cons_succ]
                  refine wpAnyT_go (i := 10) (v := ?vt10_29) rfl (by kernel_rfl) (by kernel_rfl) (by kernel_rfl) (fun _ _ _ h => h) (by kernel_rfl) (Or.inl ⟨by rfl, ?hyt10_29⟩) (by assumption) ?restt10_29
                  case hyt10_29 => (intro w0 hSw; (try dsimp only at hSw); go_simp; try with_reducible rfl)
                  case' restt10_29 => try simp only [Act.put, List.getElem_toArray, List.getElem_cons_zero, List.getElem_cons_succ, List.setIfInBounds_toArray, List.set_cons_zero, List.set_cons_succ]
                  refine wpAnyT_go (i := 11) (v := ?vt11_30) rfl (by kernel_rfl) (by kernel_rfl) (by kernel_rfl) (fun _ _ _ h => h) (by kernel_rfl) (Or.inl ⟨by rfl, ?hyt11_30⟩) (by assumption) ?restt11_30
                  case hyt11_30 => (intro w0 hSw; (try dsimp only at hSw); go_simp; try with_reducible rfl)
                  case' restt11_30 => try simp only [Act.put, List.getElem_toArray, List.getElem_cons_zero, List.getElem_cons_succ, List.setIfInBounds_toArray, List.set_cons_zero, List.set_cons_succ]
                  refine wpAnyT_ready (rs := [12]) (by kernel_rfl) (by simp) ?_
                  refine AllReadyT.last rfl (by kernel_rfl) (fun K hK => ?_) AllReadyT.nil
                  go_simp
                  refine hK.out _ _ trivial (fun hHeld => ?_)
                  clear hK K
                  try simp only [Act.put, List.getElem_toArray, List.getElem_cons_zero, List.getElem_cons_succ, List.setIfInBounds_toArray, List.set_cons_zero, List.set_cons_succ]
                  refine wpAnyT_done (by kernel_rfl) ?_ _
                  refine NoPanic.normal ?_
                  clear hHeld HH
                  obtain ⟨w8, hw8⟩ : ∃ w8, w8 = w6.setCell ⟨b, 2, none⟩ (.slice A6 ((SK s o u1 u2 0).l.length + 1) c6) := ⟨_, rfl⟩
                  rw [← hw8] at HP ⊢
                  have HX8 := Lib.hid (show w8.heap[w.heap.size]? = some (.cells #[.int .i64 0, .int .i64 0, .int .i64 0] tRej (0, 0)) by rw [hw8]; exact set_other HX6.out (by omega) _)
                  have HR8 := Lib.hid (show w8.heap[bq]? = some (.cells #[.int .i64 yo, .int .i64 yd, .int .i64 yc, .int .i64 ya, .int .i64 yq] tRow (0, 0)) by rw [hw8]; exact set_other HR6.out (by omega) _)
                  have HB8 := Lib.hid (show Kept b vr w w8 by rw [hw8]; exact HB6.out.set (.inl rfl) _)
                  clear hw8 e2 f2 HX6 HR6 HB6
                  obtain ⟨i1, i2, i3, i4, i5, i6, i0⟩ := HP.out.cells
                  have j5 := HP.out.froz 5
                  obtain ⟨r0, r1, r2, r3, r4⟩ := cell5 HR8.out
                  have hwrap : IntKind.i64.wrap ((SK s o u1 u2 0).tot + yq) = (SK s o u1 u2 0).tot + yq := IntWalk.i64_in _ (by have := SK_tot s o u1 u2 0 HO1.out HO2.out; have := HE1.out.2.1; omega)
                  go_upto_region 19 with (fail)
                  go_region
                  go_wp2_with fail
                  obtain ⟨w9, hw9⟩ : ∃ w9, w9 = w8.setCell ⟨b, 5, none⟩ (.int .i64 ((SK s o u1 u2 0).tot + yq)) := ⟨_, rfl⟩
                  have hi9 := HP.out.tot ((SK s o u1 u2 0).tot + yq)
                  rw [← hw9] at hi9
                  have HSK := Lib.hid (show SK s o u1 u2 1 = { SK s o u1 u2 0 with l := (SK s o u1 u2 0).l ++ [((yo, yd), yc, ya, yq)], tot := (SK s o u1 u2 0).tot + yq } from HE1.out.2.2)
                  rw [← HSK.out] at hi9
                  have hx9 : w9.heap[w.heap.size]? = some (.cells #[.int .i64 0, .int .i64 0, .int .i64 0] tRej (0, 0)) := by rw [hw9]; exact set_other HX8.out (by omega) _
                  have hb9 : Kept b vr w w9 := by rw [hw9]; exact HB8.out.set (.inl rfl) _
                  rw [← hw9]
                  clear hw9 i1 i2 i3 i4 i5 i6 i0 j5 r0 r1 r2 r3 r4 hwrap
                  go_roundw
                  case rel => exact ⟨1, _, by go_num, by omega, hi9.below (below_drew1 (Below.refl _ _)), heap_keep hx9 (below_drew1 (Below.refl _ _)), hb9.drew, HN6.out, HV6.out⟩
                  case measure => simp [intOf]; try omega
                | 1, hk =>
                  have hix := ixr1 yo yd yc ya yq zo zd zc za zq
                  go_upto_region 17 with (fail)
                  clear hix
                  obtain ⟨wq, hwq⟩ : ∃ wq, wq = wr.alloc (.cells #[.int .i64 zo, .int .i64 zd, .int .i64 zc, .int .i64 za, .int .i64 zq] tRow) := ⟨_, rfl⟩
                  rw [← hwq]
                  have hbq : Below wr.heap.size wr wq := by rw [hwq]; exact below_alloc _ _
                  have HRq := Lib.hid (show wq.heap[wr.heap.size]? = some (.cells #[.int .i64 zo, .int .i64 zd, .int .i64 zc, .int .i64 za, .int .i64 zq] tRow (0, 0)) by rw [hwq]; exact heap_new _ _)
                  have HXq := Lib.hid (heap_keep HXr.out hbq); have HIq := Lib.hid (HIr.out.below hbq); have HBq := Lib.hid (HBr.out.next hbq)
                  have HNq := Lib.hid (show vk.ownBlock ≠ some wr.heap.size from fun e => by have := (HIr.out.own.lt _ e).2; omega)
                  have hzr : b < wr.heap.size := HIr.out.lt
                  clear hwq hbq
                  generalize wr.heap.size = bq at HRq HNq hzr ⊢
                  obtain ⟨r0, r1, r2, r3, r4⟩ := cell5 HRq.out
                  have HC := Lib.hid (fun W => (check_any zo zd W).mono fun e w' h => (show e = .returned (.bool true) ∧ Below W.heap.size W w' from ⟨by rw [h.1, HE2.out.1], h.2⟩))
                  go_upto_region 18 with (go_at_call 97; refine (HC.out _).mono ?_; rintro e w7 ⟨rfl, hb⟩; have HR7 := Lib.hid (heap_keep HRq.out hb); have HX7 := Lib.hid (heap_keep HXq.out hb); have HI7 := Lib.hid (HIq.out.below hb); have HB7 := Lib.hid (HBq.out.next hb); clear hb r0 r1 r2 r3 r4)
                  obtain ⟨r0, r1, r2, r3, r4⟩ := cell5 HR7.out
                  obtain ⟨Ak, ck, rfl, _⟩ := own_slice HI7.out.own
                  have i2 := HI7.out.cells.2.1
                  have hlk : (SK s o u1 u2 1).l.length ≤ 122 := by have := SK_len s o u1 u2 1; omega
                  have HH := Lib.hid (fun W (hb : Turned (fun j => (Value.ownBlock (.slice Ak (SK s o u1 u2 1).l.length ck)) = some j) w7 W) => (⟨Lib.hid hb, (cell_at (heap_turned HI7.out.box hb (fun e => by have := (HI7.out.own.lt _ e).1; omega)) 2 rfl), (cell_at (heap_turned HR7.out hb HNq.out) 0 rfl), (cell_at (heap_turned HR7.out hb HNq.out) 1 rfl), (cell_at (heap_turned HR7.out hb HNq.out) 2 rfl), (cell_at (heap_turned HR7.out hb HNq.out) 3 rfl), (cell_at (heap_turned HR7.out hb HNq.out) 4 rfl)⟩ : (fun w' => Hid (Turned (fun j => (Value.ownBlock (.slice Ak (SK s o u1 u2 1).l.length ck)) = some j) w7 w') ∧ w'.cell? ⟨b, 2, none⟩ = some (.slice Ak (SK s o u1 u2 1).l.length ck) ∧ w'.cell? ⟨bq, 0, none⟩ = some (.int .i64 zo) ∧ w'.cell? ⟨bq, 1, none⟩ = some (.int .i64 zd) ∧ w'.cell? ⟨bq, 2, none⟩ = some (.int .i64 zc) ∧ w'.cell? ⟨bq, 3, none⟩ = some (.int .i64 za) ∧ w'.cell? ⟨bq, 4, none⟩ = some (.int .i64 zq)) W))
                  refine wp_region_noPanic ?_
                  refine wp_region_till 12 (fun _ => True) (fun w' => Hid (Turned (fun j => (Value.ownBlock (.slice Ak (SK s o u1 u2 1).l.length ck)) = some j) w7 w') ∧ w'.cell? ⟨b, 2, none⟩ = some (.slice Ak (SK s o u1 u2 1).l.length ck) ∧ w'.cell? ⟨bq, 0, none⟩ = some (.int .i64 zo) ∧ w'.cell? ⟨bq, 1, none⟩ = some (.int .i64 zd) ∧ w'.cell? ⟨bq, 2, none⟩ = some (.int .i64 zc) ∧ w'.cell? ⟨bq, 3, none⟩ = some (.int .i64 za) ∧ w'.cell? ⟨bq, 4, none⟩ = some (.int .i64 zq)) (by kernel_rfl) (HH.out _ (((Turned.refl (fun j => (Value.ownBlock (.slice Ak (SK s o u1 u2 1).l.length ck)) = some j) w7).drew))) (fun hHeld => ?_)
                  refine wpAnyT_go (i := 0) (v := ?vt0_31) rfl (by kernel_rfl) (by kernel_rfl) (by kernel_rfl) (fun _ _ _ h => h) (by kernel_rfl) (Or.inl ⟨by rfl, ?hyt0_31⟩) (by assumption) ?restt0_31
                  case hyt0_31 => (intro w0 hSw; (try dsimp only at hSw); go_simp; try with_reducible rfl)
                  case' restt0_31 => try simp only [Act.put, List.getElem_toArray, List.getElem_cons_zero, List.getElem_cons_succ, List.setIfInBounds_toArray, List.set_cons_zero, List.set_cons_succ]
                  refine wpAnyT_go (i := 1) (v := ?vt1_32) rfl (by kernel_rfl) (by kernel_rfl) (by kernel_rfl) (fun _ _ _ h => h) (by kernel_rfl) (Or.inl ⟨by rfl, ?hyt1_32⟩) (by assumption) ?restt1_32
                  case hyt1_32 => (intro w0 hSw; (try dsimp only at hSw); go_simp; try with_reducible rfl)
                  case' restt1_32 => try simp only [Act.put, List.getElem_toArray, List.getElem_cons_zero, List.getElem_cons_succ, List.setIfInBounds_toArray, List.set_cons_zero, List.set_cons_succ]
                  refine wpAnyT_go (i := 2) (v := ?vt2_33) rfl (by kernel_rfl) (by kernel_rfl) (by kernel_rfl) (fun _ _ _ h => h) (by kernel_rfl) (Or.inl ⟨by rfl, ?hyt2_33⟩) (by assumption) ?restt2_33
                  case hyt2_33 => (intro w0 hSw; (try dsimp only at hSw); go_simp; try with_reducible rfl)
                  case' restt2_33 => try simp only [Act.put, List.getElem_toArray, List.getElem_cons_zero, List.getElem_cons_succ, List.setIfInBounds_toArray, List.set_cons_zero, List.set_cons_succ]
                  refine wpAnyT_go (i := 3) (v := ?vt3_34) rfl (by kernel_rfl) (by kernel_rfl) (by kernel_rfl) (fun _ _ _ h => h) (by kernel_rfl) (Or.inl ⟨by rfl, ?hyt3_34⟩) (by assumption) ?restt3_34
                  case hyt3_34 => (intro w0 hSw; (try dsimp only at hSw); go_simp; try with_reducible rfl)
                  case' restt3_34 => try simp only [Act.put, List.getElem_toArray, List.getElem_cons_zero, List.getElem_cons_succ, List.setIfInBounds_toArray, List.set_cons_zero, List.set_cons_succ]
                  refine wpAnyT_go (i := 4) (v := ?vt4_35) rfl (by kernel_rfl) (by kernel_rfl) (by kernel_rfl) (fun _ _ _ h => h) (by kernel_rfl) (Or.inl ⟨by rfl, ?hyt4_35⟩) (by assumption) ?restt4_35
                  case hyt4_35 => (intro w0 hSw; (try dsimp only at hSw); go_simp; try with_reducible rfl)
                  case' restt4_35 => try simp only [Act.put, List.getElem_toArray, List.getElem_cons_zero, List.getElem_cons_succ, List.setIfInBounds_toArray, List.set_cons_zero, List.set_cons_succ]
                  refine wpAnyT_go (i := 5) (v := ?vt5_36) rfl (by kernel_rfl) (by kernel_rfl) (by kernel_rfl) (fun _ _ _ h => h) (by kernel_rfl) (Or.inl ⟨by rfl, ?hyt5_36⟩) (by assumption) ?restt5_36
                  case hyt5_36 => (intro w0 hSw; (try dsimp only at hSw); go_simp; try with_reducible rfl)
                  case' restt5_36 => try simp only [Act.put, List.getElem_toArray, List.getElem_cons_zero, List.getElem_cons_succ, List.setIfInBounds_toArray, List.set_cons_zero, List.set_cons_succ]
                  refine wpAnyT_go (i := 6) (v := ?vt6_37) rfl (by kernel_rfl) (by kernel_rfl) (by kernel_rfl) (fun _ _ _ h => h) (by kernel_rfl) (Or.inl ⟨by rfl, ?hyt6_37⟩) (by assumption) ?restt6_37
                  case hyt6_37 => (intro w0 hSw; (try dsimp only at hSw); go_simp; try with_reducible rfl)
                  case' restt6_37 => try simp only [Act.put, List.getElem_toArray, List.getElem_cons_zero, List.getElem_cons_succ, List.setIfInBounds_toArray, List.set_cons_zero, List.set_cons_succ]
                  refine wpAnyT_ready (rs := [7]) (by kernel_rfl) (by simp) ?_
                  refine AllReadyT.cons rfl (by kernel_rfl) (fun K hK => ?_) AllReadyT.nil
                  go_simp
                  refine hK.out _ _ (HH.out _ (Turned.of_below (((below_drew1 (Below.refl w7.heap.size w7)).alloc (Nat.le_refl _) (.cells #[.int .i64 zo, .int .i64 zd, .int .i64 zc, .int .i64 za, .int .i64 zq] tRow))))) (fun hHeld => ?_)
                  clear hK K
                  try simp only [Act.put, List.getElem_toArray, List.getElem_cons_zero, List.getElem_cons_succ, List.setIfInBounds_toArray, List.set_cons_zero, List.set_cons_succ]
                  refine wpAnyT_ready (rs := [8]) (by kernel_rfl) (by simp) ?_
                  refine AllReadyT.cons rfl (by kernel_rfl) (fun K hK => ?_) AllReadyT.nil
                  refine step_append_any _ rfl (.tmp 84) (.tmp 86) tRows rfl (b + 1) tRow info0 (mkRow ((0, 0), 0, 0, 0)) 5 40 Tryz.underlying22 hinfo hz0 hz1 hz2 rfl (by decide) (.slice Ak (SK s o u1 u2 1).l.length ck) (SK s o u1 u2 1).l.length ((SK s o u1 u2 1).l.flatMap encR) rfl (own_keep HI7.out.own (((below_drew1 (Below.refl w7.heap.size w7)).alloc (Nat.le_refl _) (.cells #[.int .i64 zo, .int .i64 zd, .int .i64 zc, .int .i64 za, .int .i64 zq] tRow)))) 1 (encR ((zo, zd), zc, za, zq)) (src_blk (xs := encR ((zo, zd), zc, za, zq)) (heap_new _ _) (encR_one _)) (by unfold maxLen; omega) (by omega) (by have := HI7.out.lt; simp; omega) ?_
                  intro v6 w6 ho6 hg6 hat6
                  obtain ⟨A6, c6, rfl, _⟩ := own_slice ho6
                  have ht6 : Turned (fun j => (Value.ownBlock (.slice Ak (SK s o u1 u2 1).l.length ck)) = some j) w7 w6 := (Turned.of_below (((below_drew1 (Below.refl w7.heap.size w7)).alloc (Nat.le_refl _) (.cells #[.int .i64 zo, .int .i64 zd, .int .i64 zc, .int .i64 za, .int .i64 zq] tRow)))).trans (Turned.of_grown hg6 (fun j h => h))
                  refine hK.out _ _ (HH.out _ (ht6)) (fun hHeld => ?_)
                  clear hK K
                  try simp only [Act.put, List.getElem_toArray, List.getElem_cons_zero, List.getElem_cons_succ, List.setIfInBounds_toArray, List.set_cons_zero, List.set_cons_succ]
                  have HP := Lib.hid (HI7.out.push ho6 ht6)
                  have hbx := heap_turned HI7.out.box ht6 (fun e => by have := (HI7.out.own.lt _ e).1; omega)
                  have HX6 := Lib.hid (heap_turned HX7.out ht6 HNk.out); have HR6 := Lib.hid (heap_turned HR7.out ht6 HNq.out)
                  have HB6 := Lib.hid (HB7.out.app ht6 HVk.out)
                  have HN6 := Lib.hid (show Value.ownBlock (.slice A6 _ c6) ≠ some w.heap.size from fun e => by rcases hat6 with h | h; exact HNk.out (h.symm.trans e); (rw [e] at h; injection h with h; have := heap_lt HX7.out; simp at h; omega))
                  have HV6 := Lib.hid (show ∀ j, Value.ownBlock (.slice A6 ((SK s o u1 u2 1).l.length + 1) c6) = some j → vr.ownBlock = some j ∨ w.heap.size ≤ j from fun j e => by rcases hat6 with h | h; exact HVk.out j (h.symm.trans e); (rw [e] at h; injection h with h; have := heap_lt HX7.out; simp at h; exact .inr (by omega)))
                  have e2 := cell_at hbx 2 rfl
                  have f2 := frozen_at hbx 2
                  clear ho6 hg6 hat6 ht6 hbx r0 r1 r2 r3 r4 i2
                  refine wpAnyT_go (i := 9) (v := ?vt9_38) rfl (by kernel_rfl) (by kernel_rfl) (by kernel_rfl) (fun _ _ _ h => h) (by kernel_rfl) (Or.inl ⟨by rfl, ?hyt9_38⟩) (by assumption) ?restt9_38
                  case hyt9_38 => (intro w0 hSw; (try dsimp only at hSw); go_simp; try with_reducible rfl)
                  case' restt9_38 => try simp only [Act.put, List.getElem_toArray, List.getElem_cons_zero, List.getElem_cons_succ, List.setIfInBounds_toArray, List.set_cons_zero, List.set_cons_succ]
                  refine wpAnyT_go (i := 10) (v := ?vt10_39) rfl (by kernel_rfl) (by kernel_rfl) (by kernel_rfl) (fun _ _ _ h => h) (by kernel_rfl) (Or.inl ⟨by rfl, ?hyt10_39⟩) (by assumption) ?restt10_39
                  case hyt10_39 => (intro w0 hSw; (try dsimp only at hSw); go_simp; try with_reducible rfl)
                  case' restt10_39 => try simp only [Act.put, List.getElem_toArray, List.getElem_cons_zero, List.getElem_cons_succ, List.setIfInBounds_toArray, List.set_cons_zero, List.set_cons_succ]
                  refine wpAnyT_go (i := 11) (v := ?vt11_40) rfl (by kernel_rfl) (by kernel_rfl) (by kernel_rfl) (fun _ _ _ h => h) (by kernel_rfl) (Or.inl ⟨by rfl, ?hyt11_40⟩) (by assumption) ?restt11_40
                  case hyt11_40 => (intro w0 hSw; (try dsimp only at hSw); go_simp; try with_reducible rfl)
                  case' restt11_40 => try simp only [Act.put, List.getElem_toArray, List.getElem_cons_zero, List.getElem_cons_succ, List.setIfInBounds_toArray, List.set_cons_zero, List.set_cons_succ]
                  refine wpAnyT_ready (rs := [12]) (by kernel_rfl) (by simp) ?_
                  refine AllReadyT.last rfl (by kernel_rfl) (fun K hK => ?_) AllReadyT.nil
                  go_simp
                  refine hK.out _ _ trivial (fun hHeld => ?_)
                  clear hK K
                  try simp only [Act.put, List.getElem_toArray, List.getElem_cons_zero, List.getElem_cons_succ, List.setIfInBounds_toArray, List.set_cons_zero, List.set_cons_succ]
                  refine wpAnyT_done (by kernel_rfl) ?_ _
                  refine NoPanic.normal ?_
                  clear hHeld HH
                  obtain ⟨w8, hw8⟩ : ∃ w8, w8 = w6.setCell ⟨b, 2, none⟩ (.slice A6 ((SK s o u1 u2 1).l.length + 1) c6) := ⟨_, rfl⟩
                  rw [← hw8] at HP ⊢
                  have HX8 := Lib.hid (show w8.heap[w.heap.size]? = some (.cells #[.int .i64 0, .int .i64 0, .int .i64 0] tRej (0, 0)) by rw [hw8]; exact set_other HX6.out (by omega) _)
                  have HR8 := Lib.hid (show w8.heap[bq]? = some (.cells #[.int .i64 zo, .int .i64 zd, .int .i64 zc, .int .i64 za, .int .i64 zq] tRow (0, 0)) by rw [hw8]; exact set_other HR6.out (by omega) _)
                  have HB8 := Lib.hid (show Kept b vr w w8 by rw [hw8]; exact HB6.out.set (.inl rfl) _)
                  clear hw8 e2 f2 HX6 HR6 HB6
                  obtain ⟨i1, i2, i3, i4, i5, i6, i0⟩ := HP.out.cells
                  have j5 := HP.out.froz 5
                  obtain ⟨r0, r1, r2, r3, r4⟩ := cell5 HR8.out
                  have hwrap : IntKind.i64.wrap ((SK s o u1 u2 1).tot + zq) = (SK s o u1 u2 1).tot + zq := IntWalk.i64_in _ (by have := SK_tot s o u1 u2 1 HO1.out HO2.out; have := HE2.out.2.1; omega)
                  go_upto_region 19 with (fail)
                  go_region
                  go_wp2_with fail
                  obtain ⟨w9, hw9⟩ : ∃ w9, w9 = w8.setCell ⟨b, 5, none⟩ (.int .i64 ((SK s o u1 u2 1).tot + zq)) := ⟨_, rfl⟩
                  have hi9 := HP.out.tot ((SK s o u1 u2 1).tot + zq)
                  rw [← hw9] at hi9
                  have HSK := Lib.hid (show SK s o u1 u2 2 = { SK s o u1 u2 1 with l := (SK s o u1 u2 1).l ++ [((zo, zd), zc, za, zq)], tot := (SK s o u1 u2 1).tot + zq } from HE2.out.2.2)
                  rw [← HSK.out] at hi9
                  have hx9 : w9.heap[w.heap.size]? = some (.cells #[.int .i64 0, .int .i64 0, .int .i64 0] tRej (0, 0)) := by rw [hw9]; exact set_other HX8.out (by omega) _
                  have hb9 : Kept b vr w w9 := by rw [hw9]; exact HB8.out.set (.inl rfl) _
                  rw [← hw9]
                  clear hw9 i1 i2 i3 i4 i5 i6 i0 j5 r0 r1 r2 r3 r4 hwrap
                  go_roundw
                  case rel => exact ⟨2, _, by go_num, by omega, hi9.below (below_drew1 (Below.refl _ _)), heap_keep hx9 (below_drew1 (Below.refl _ _)), hb9.drew, HN6.out, HV6.out⟩
                  case measure => simp [intOf]; try omega
                | 2, hk =>
                  obtain ⟨i1, i2, i3, i4, i5, i6, i0⟩ := HIr.out.cells
                  have j3 := HIr.out.froz 3
                  have j4 := HIr.out.froz 4
                  have hso : (SK s o u1 u2 2).orders = s.orders := rfl
                  have hwo : IntKind.i64.wrap (((SK s o u1 u2 2).orders : Int) + 1) = ((SK s o u1 u2 2).orders : Int) + 1 := IntWalk.i64_in _ (by rw [hso]; omega)
                  have HSO := Lib.hid hso
                  clear hso
                  go_upto_region 22 with (fail)
                  obtain ⟨w8, hw8⟩ : ∃ w8, w8 = wr.setCell ⟨b, 4, none⟩ (.int .i64 o) := ⟨_, rfl⟩
                  rw [← hw8]
                  have HI8 := Lib.hid (HIr.out.last o)
                  rw [← hw8] at HI8
                  have HX8 := Lib.hid (show w8.heap[w.heap.size]? = some (.cells #[.int .i64 0, .int .i64 0, .int .i64 0] tRej (0, 0)) by rw [hw8]; exact set_other HXr.out (by omega) _)
                  have HB8 := Lib.hid (show Kept b vr w w8 by rw [hw8]; exact HBr.out.set (.inl rfl) _)
                  clear hw8 i1 i2 i3 i4 i5 i6 i0 j3 j4
                  obtain ⟨i1, i2, i3, i4, i5, i6, i0⟩ := HI8.out.cells
                  have j3 := HI8.out.froz 3
                  go_upto_region 23 with (fail)
                  obtain ⟨w9, hw9⟩ : ∃ w9, w9 = w8.setCell ⟨b, 3, none⟩ (.int .i64 (((SK s o u1 u2 2).orders : Int) + 1)) := ⟨_, rfl⟩
                  rw [← hw9]
                  have HI9 := Lib.hid (HI8.out.orders (((SK s o u1 u2 2).orders : Int) + 1) (s.orders + 1) (by rw [HSO.out]; omega))
                  rw [← hw9] at HI9
                  have HX9 := Lib.hid (show w9.heap[w.heap.size]? = some (.cells #[.int .i64 0, .int .i64 0, .int .i64 0] tRej (0, 0)) by rw [hw9]; exact set_other HX8.out (by omega) _)
                  have HB9 := Lib.hid (show Kept b vr w w9 by rw [hw9]; exact HB8.out.set (.inl rfl) _)
                  clear hw9 i1 i2 i3 i4 i5 i6 i0 j3
                  obtain ⟨n0, n1, n2, g0, g1, g2⟩ := cell3 HX9.out
                  go_wp2_with fail
                  obtain ⟨wz, hwz⟩ : ∃ wz, wz = ((w9.setCell ⟨w.heap.size, 0, none⟩ (.int .i64 0)).setCell ⟨w.heap.size, 1, none⟩ (.int .i64 0)).setCell ⟨w.heap.size, 2, none⟩ (.int .i64 0) := ⟨_, rfl⟩
                  have hxz := set3 HX9.out (.int .i64 0) (.int .i64 0) (.int .i64 0)
                  rw [← hwz] at hxz
                  have hbz : Kept b vr w wz := by rw [hwz]; exact ((HB9.out.set (.inr (Nat.le_refl _)) _).set (.inr (Nat.le_refl _)) _).set (.inr (Nat.le_refl _)) _
                  have hiz : MInv wz b { SK s o u1 u2 2 with last := o, orders := s.orders + 1 } vk := by rw [hwz]; exact ((HI9.out.other (by omega) HNk.out _).other (by omega) HNk.out _).other (by omega) HNk.out _
                  rw [← hwz]
                  clear hwz n0 n1 n2 g0 g1 g2
                  obtain ⟨n0, n1, n2, _⟩ := cell3 hxz
                  refine bodyPost_ret (v := .agg #[.int .i64 0, .int .i64 0, .int .i64 0]) (by simp [results, Tryz.results81, go_sem, n0, n1, n2]) rfl ⟨?_, hbz⟩
                  unfold MOrderR
                  rw [HFF.out]
                  exact ⟨rfl, vk, hiz⟩
/-- What a line's taking comes to. -/
def MTookR (i : Nat) (r : Mf.Line) (s : Mf.St) (b : Nat) (e : Ending) (w' : World) : Prop := match Mf.step i r s with
  | .inl s' => e = .returned (rej3 0 0) ∧ ∃ vr', MInv w' b s' vr'
  | .inr x => e = .returned (rej3 x.1 x.2)
theorem MInv.own_ne {w' : World} {b : Nat} {s' : Mf.St} {vr' : Value} (h' : MInv w' b s' vr') {c : Nat} {x0 x1 x2 : Value} (hc : w'.heap[c]? = some (.cells #[x0, x1, x2] tRej (0, 0))) : vr'.ownBlock ≠ some c := fun e => by
  rcases h'.own.2 with ⟨rfl, _⟩ | ⟨g, cap, cur, rfl, _, hg, _⟩
  · cases e
  · injection e with e
    have e : g = c := e
    subst e
    rw [hc] at hg
    injection hg with hg
    injection hg with _ hg
    exact absurd hg (by decide)
set_option linter.unusedSimpArgs false in
set_option linter.unusedVariables false in
set_option maxRecDepth 100000 in
set_option maxHeartbeats 4000000 in
theorem mtake_any (b i : Nat) (v vr : Value) (r : Mf.Line) (s : Mf.St) (w : World) (hI : MInv w b s vr) (hL : Lim i s) (hi : i ≤ 65536) (hv : Strs w b v r) (h0 : r ≠ []) (hl : r.length ≤ 1000000) (hb8 : ∀ f ∈ r, f.length ≤ 1000000) (hS : MfW w) : Calls Tryz.prog 50 #[.pointer (some ⟨b, 0, none⟩), .int .i64 (i : Int), v] w fun e w' => MTookR i r s b e w' ∧ Kept b vr w w' := by
  have HI0 := Lib.hid hI
  obtain ⟨wa, hwa⟩ : ∃ wa, w.alloc (.cells #[.int .i64 0, .int .i64 0, .int .i64 0] tRej) = wa := ⟨_, rfl⟩
  have HA := Lib.hid (show Below w.heap.size w wa by rw [← hwa]; exact below_alloc _ _)
  have HX := Lib.hid (show wa.heap[w.heap.size]? = some (.cells #[.int .i64 0, .int .i64 0, .int .i64 0] tRej (0, 0)) by rw [← hwa]; exact heap_new _ _)
  have hWA := Lib.hid hwa
  have hbl := hI.lt
  have HI := Lib.hid (hI.below HA.out)
  have HM := Lib.hid hS
  have hvb : vr.ownBlock ≠ some w.heap.size := fun e => by have := (hI.own.lt _ e).2; omega
  have HKa := Lib.hid (show Kept b vr w wa from Kept.of_below HA.out)
  clear hwa hI hS
  have HREJ := Lib.hid (fun c k W => mreject_any c k W)
  have HLi := Lib.hid hL
  have HAb := Lib.hid (show Below b w wa from HA.out.mono (by omega))
  have HV := Lib.hid (show Strs wa b v r from Sl.mono hv HAb.out (Nat.le_refl _) (fun _ _ _ h => h))
  obtain ⟨A, c, rfl⟩ := hv.shape
  obtain ⟨i1, i2, i3, i4, i5, i6, i0⟩ := HI.out.cells
  clear hL hv
  cases hen : s.ended with
  | true =>
    rw [hen] at i6
    have HF := Lib.hid (show Mf.step i r s = .inr (1, 7) by unfold Mf.step; rw [if_pos hen])
    clear hen
    go_enter Tryz.func50, Tryz.ntmps50
    go_upto_region 1 with (fail)
    rw [hWA.out]
    go_wp2_with (go_at_call 78; refine (HREJ.out _ _ _).mono ?_; rintro e w9 ⟨rfl, hb9⟩; have HX9 := Lib.hid (heap_keep HX.out hb9); have HB9 := Lib.hid (HKa.out.next hb9); clear hb9; clear i1 i2 i3 i4 i5 i6 i0; obtain ⟨n0, n1, n2, g0, g1, g2⟩ := cell3 HX9.out)
    obtain ⟨wz, hwz⟩ : ∃ wz, wz = ((w9.setCell ⟨w.heap.size, 0, none⟩ (.int .i64 0)).setCell ⟨w.heap.size, 1, none⟩ (.int .i64 1)).setCell ⟨w.heap.size, 2, none⟩ (.int .i64 7) := ⟨_, rfl⟩
    have hxz := set3 HX9.out (.int .i64 0) (.int .i64 1) (.int .i64 7)
    rw [← hwz] at hxz
    have hbz : Kept b vr w wz := by rw [hwz]; exact ((HB9.out.set (.inr (Nat.le_refl _)) _).set (.inr (Nat.le_refl _)) _).set (.inr (Nat.le_refl _)) _
    rw [← hwz]
    clear hwz n0 n1 n2 g0 g1 g2
    obtain ⟨n0, n1, n2, _⟩ := cell3 hxz
    refine bodyPost_ret (v := .agg #[.int .i64 0, .int .i64 1, .int .i64 7]) (by simp [results, Tryz.results50, go_sem, n0, n1, n2]) rfl ⟨?_, hbz⟩
    unfold MTookR
    rw [HF.out]
    rfl
  | false =>
    rw [hen] at i6
    go_enter Tryz.func50, Tryz.ntmps50
    go_upto_region 1 with (fail)
    rw [hWA.out]
    by_cases hz : i = 0
    · have hk0 : (i : Int) = 0 := by omega
      have hq0 := beqT hk0
      clear hk0
      go_wp2_with fail
      refine (mfirst_any b (.slice A r.length c) vr r s wa HI.out HV.out h0 hl hb8 (HM.out.below HA.out)).mono ?_
      rintro e w9 ⟨hr9, hb9⟩
      have HX9 := Lib.hid (heap_turned HX.out hb9 (fun h => h.elim (fun e => by omega) (fun e => hvb e)))
      have HB9 := Lib.hid (show Kept b vr w w9 from Turned.far HKa.out (hb9.mono fun j hj => .inl hj))
      clear hb9 i1 i2 i3 i4 i5 i6 i0
      obtain ⟨n0, n1, n2, g0, g1, g2⟩ := cell3 HX9.out
      unfold MFirstR rej3 at hr9
      cases hf : Mf.first r with
      | inl q =>
        rw [hf] at hr9
        obtain ⟨rfl, hi9⟩ := hr9
        have HF := Lib.hid (show Mf.step i r s = .inl { s with seq := q } by unfold Mf.step; rw [if_neg (by rw [hen]; decide), if_pos hz, hf])
        have HN9 := Lib.hid (hi9.own_ne HX9.out)
        have HI9 := Lib.hid hi9
        clear hf hi9 hen hz
        go_wp2_with fail
        obtain ⟨wz, hwz⟩ : ∃ wz, wz = ((w9.setCell ⟨w.heap.size, 0, none⟩ (.int .i64 0)).setCell ⟨w.heap.size, 1, none⟩ (.int .i64 0)).setCell ⟨w.heap.size, 2, none⟩ (.int .i64 0) := ⟨_, rfl⟩
        have hxz := set3 HX9.out (.int .i64 0) (.int .i64 0) (.int .i64 0)
        rw [← hwz] at hxz
        have hbz : Kept b vr w wz := by rw [hwz]; exact ((HB9.out.set (.inr (Nat.le_refl _)) _).set (.inr (Nat.le_refl _)) _).set (.inr (Nat.le_refl _)) _
        have hiz : MInv wz b { s with seq := q } vr := by rw [hwz]; exact ((HI9.out.other (by omega) HN9.out _).other (by omega) HN9.out _).other (by omega) HN9.out _
        rw [← hwz]
        clear hwz n0 n1 n2 g0 g1 g2
        obtain ⟨n0, n1, n2, _⟩ := cell3 hxz
        refine bodyPost_ret (v := .agg #[.int .i64 0, .int .i64 0, .int .i64 0]) (by simp [results, Tryz.results50, go_sem, n0, n1, n2]) rfl ⟨?_, hbz⟩
        unfold MTookR
        rw [HF.out]
        exact ⟨rfl, vr, hiz⟩
      | inr x =>
        rw [hf] at hr9
        obtain rfl := hr9
        have HF := Lib.hid (show Mf.step i r s = .inr x by unfold Mf.step; rw [if_neg (by rw [hen]; decide), if_pos hz, hf])
        obtain ⟨ci, hci⟩ : ∃ ci : Int, (x.1 : Int) = ci := ⟨_, rfl⟩
        obtain ⟨ki, hki⟩ : ∃ ki : Int, (x.2 : Int) = ki := ⟨_, rfl⟩
        rw [hci, hki]
        have HCI := Lib.hid hci; have HKI := Lib.hid hki
        clear hci hki hf hen hz
        go_wp2_with fail
        obtain ⟨wz, hwz⟩ : ∃ wz, wz = ((w9.setCell ⟨w.heap.size, 0, none⟩ (.int .i64 0)).setCell ⟨w.heap.size, 1, none⟩ (.int .i64 ci)).setCell ⟨w.heap.size, 2, none⟩ (.int .i64 ki) := ⟨_, rfl⟩
        have hxz := set3 HX9.out (.int .i64 0) (.int .i64 ci) (.int .i64 ki)
        rw [← hwz] at hxz
        have hbz : Kept b vr w wz := by rw [hwz]; exact ((HB9.out.set (.inr (Nat.le_refl _)) _).set (.inr (Nat.le_refl _)) _).set (.inr (Nat.le_refl _)) _
        rw [← hwz]
        clear hwz n0 n1 n2 g0 g1 g2
        obtain ⟨n0, n1, n2, _⟩ := cell3 hxz
        refine bodyPost_ret (v := .agg #[.int .i64 0, .int .i64 ci, .int .i64 ki]) (by simp [results, Tryz.results50, go_sem, n0, n1, n2]) rfl ⟨?_, hbz⟩
        unfold MTookR
        rw [HF.out]
        show _ = Ending.returned (rej3 x.1 x.2)
        unfold rej3
        rw [HCI.out, HKI.out]
    · have hk0 : ¬ (i : Int) = 0 := by omega
      have hq0 := beqF hk0
      clear hk0
      by_cases hw : r.length ≠ 3
      · obtain ⟨m, hm⟩ : ∃ m : Int, m = ((min r.length 3 + 1 : Nat) : Int) := ⟨_, rfl⟩
        have hqn := bneT (show ¬ (r.length : Int) = 3 by omega)
        have HMIN := Lib.hid (show min (r.length : Int) 3 + 1 = m by omega)
        have HF := Lib.hid (show Mf.step i r s = .inr (min r.length 3 + 1, 1) by unfold Mf.step; rw [if_neg (by rw [hen]; decide), if_neg hz, if_pos hw])
        have HMM := Lib.hid hm
        clear hen hw hm
        go_wp2_with (go_at_call 78; rw [HMIN.out]; refine (HREJ.out _ _ _).mono ?_; rintro e w9 ⟨rfl, hb9⟩; have HX9 := Lib.hid (heap_keep HX.out hb9); have HB9 := Lib.hid (HKa.out.next hb9); clear hb9; clear i1 i2 i3 i4 i5 i6 i0; obtain ⟨n0, n1, n2, g0, g1, g2⟩ := cell3 HX9.out)
        obtain ⟨wz, hwz⟩ : ∃ wz, wz = ((w9.setCell ⟨w.heap.size, 0, none⟩ (.int .i64 0)).setCell ⟨w.heap.size, 1, none⟩ (.int .i64 m)).setCell ⟨w.heap.size, 2, none⟩ (.int .i64 1) := ⟨_, rfl⟩
        have hxz := set3 HX9.out (.int .i64 0) (.int .i64 m) (.int .i64 1)
        rw [← hwz] at hxz
        have hbz : Kept b vr w wz := by rw [hwz]; exact ((HB9.out.set (.inr (Nat.le_refl _)) _).set (.inr (Nat.le_refl _)) _).set (.inr (Nat.le_refl _)) _
        rw [← hwz]
        clear hwz n0 n1 n2 g0 g1 g2
        obtain ⟨n0, n1, n2, _⟩ := cell3 hxz
        refine bodyPost_ret (v := .agg #[.int .i64 0, .int .i64 m, .int .i64 1]) (by simp [results, Tryz.results50, go_sem, n0, n1, n2]) rfl ⟨?_, hbz⟩
        unfold MTookR
        rw [HF.out, HMM.out]
        rfl
      · obtain ⟨fa, fb, fc, rfl⟩ := list3 (show r.length = 3 by omega)
        obtain ⟨br, orr, rfl, hbr, c0⟩ := HV.out.at (k := 0) (Below.refl _ _) rfl
        rw [Nat.add_zero] at c0
        clear hw
        by_cases hh : fa = Sk.wEnd
        · have hq := text_eq hh
          unfold Sk.wEnd at hq
          go_wp2_with fail
          refine (mend_any b (.slice (some ⟨br, orr, none⟩) 3 c) vr fa fb fc s wa HI.out HV.out (hb8 fb (by simp)) (hb8 fc (by simp)) (HM.out.below HA.out)).mono ?_
          rintro e w9 ⟨hr9, hb9⟩
          have HX9 := Lib.hid (heap_turned HX.out hb9 (fun h => h.elim (fun e => by omega) (fun e => hvb e)))
          have HB9 := Lib.hid (show Kept b vr w w9 from Turned.far HKa.out (hb9.mono fun j hj => .inl hj))
          clear hb9 i1 i2 i3 i4 i5 i6 i0
          obtain ⟨n0, n1, n2, g0, g1, g2⟩ := cell3 HX9.out
          unfold MEndR rej3 at hr9
          cases hf : Mf.tail fb fc s.orders s.tot with
          | none =>
            rw [hf] at hr9
            obtain ⟨rfl, hi9⟩ := hr9
            have HF := Lib.hid (show Mf.step i [fa, fb, fc] s = .inl { s with ended := true } by unfold Mf.step; rw [if_neg (by rw [hen]; decide), if_neg hz, if_neg (by simp), if_pos (show [fa, fb, fc].head? = some Sk.wEnd by rw [hh]; rfl)]; simp only [List.getD_cons_succ, List.getD_cons_zero]; rw [hf])
            have HN9 := Lib.hid (hi9.own_ne HX9.out)
            have HI9 := Lib.hid hi9
            clear hf hi9 hen hz hh
            go_wp2_with fail
            obtain ⟨wz, hwz⟩ : ∃ wz, wz = ((w9.setCell ⟨w.heap.size, 0, none⟩ (.int .i64 0)).setCell ⟨w.heap.size, 1, none⟩ (.int .i64 0)).setCell ⟨w.heap.size, 2, none⟩ (.int .i64 0) := ⟨_, rfl⟩
            have hxz := set3 HX9.out (.int .i64 0) (.int .i64 0) (.int .i64 0)
            rw [← hwz] at hxz
            have hbz : Kept b vr w wz := by rw [hwz]; exact ((HB9.out.set (.inr (Nat.le_refl _)) _).set (.inr (Nat.le_refl _)) _).set (.inr (Nat.le_refl _)) _
            have hiz : MInv wz b { s with ended := true } vr := by rw [hwz]; exact ((HI9.out.other (by omega) HN9.out _).other (by omega) HN9.out _).other (by omega) HN9.out _
            rw [← hwz]
            clear hwz n0 n1 n2 g0 g1 g2
            obtain ⟨n0, n1, n2, _⟩ := cell3 hxz
            refine bodyPost_ret (v := .agg #[.int .i64 0, .int .i64 0, .int .i64 0]) (by simp [results, Tryz.results50, go_sem, n0, n1, n2]) rfl ⟨?_, hbz⟩
            unfold MTookR
            rw [HF.out]
            exact ⟨rfl, vr, hiz⟩
          | some x =>
            rw [hf] at hr9
            obtain rfl := hr9
            have HF := Lib.hid (show Mf.step i [fa, fb, fc] s = .inr x by unfold Mf.step; rw [if_neg (by rw [hen]; decide), if_neg hz, if_neg (by simp), if_pos (show [fa, fb, fc].head? = some Sk.wEnd by rw [hh]; rfl)]; simp only [List.getD_cons_succ, List.getD_cons_zero]; rw [hf])
            obtain ⟨ci, hci⟩ : ∃ ci : Int, (x.1 : Int) = ci := ⟨_, rfl⟩
            obtain ⟨ki, hki⟩ : ∃ ki : Int, (x.2 : Int) = ki := ⟨_, rfl⟩
            rw [hci, hki]
            have HCI := Lib.hid hci; have HKI := Lib.hid hki
            clear hci hki hf hen hz hh
            go_wp2_with fail
            obtain ⟨wz, hwz⟩ : ∃ wz, wz = ((w9.setCell ⟨w.heap.size, 0, none⟩ (.int .i64 0)).setCell ⟨w.heap.size, 1, none⟩ (.int .i64 ci)).setCell ⟨w.heap.size, 2, none⟩ (.int .i64 ki) := ⟨_, rfl⟩
            have hxz := set3 HX9.out (.int .i64 0) (.int .i64 ci) (.int .i64 ki)
            rw [← hwz] at hxz
            have hbz : Kept b vr w wz := by rw [hwz]; exact ((HB9.out.set (.inr (Nat.le_refl _)) _).set (.inr (Nat.le_refl _)) _).set (.inr (Nat.le_refl _)) _
            rw [← hwz]
            clear hwz n0 n1 n2 g0 g1 g2
            obtain ⟨n0, n1, n2, _⟩ := cell3 hxz
            refine bodyPost_ret (v := .agg #[.int .i64 0, .int .i64 ci, .int .i64 ki]) (by simp [results, Tryz.results50, go_sem, n0, n1, n2]) rfl ⟨?_, hbz⟩
            unfold MTookR
            rw [HF.out]
            show _ = Ending.returned (rej3 x.1 x.2)
            unfold rej3
            rw [HCI.out, HKI.out]
        · have hq := text_ne hh
          unfold Sk.wEnd at hq
          go_wp2_with fail
          refine (morder_any b (.slice (some ⟨br, orr, none⟩) 3 c) vr fa fb fc s i wa HI.out HLi.out hi HV.out (hb8 fa (by simp)) (hb8 fb (by simp)) (hb8 fc (by simp)) (HM.out.below HA.out)).mono ?_
          rintro e w9 ⟨hr9, hb9⟩
          have HX9 := Lib.hid (heap_turned HX.out hb9 (fun h => h.elim (fun e => by omega) (fun e => hvb e)))
          have HB9 := Lib.hid (show Kept b vr w w9 from Turned.far HKa.out (hb9.mono fun j hj => .inl hj))
          clear hb9 i1 i2 i3 i4 i5 i6 i0
          obtain ⟨n0, n1, n2, g0, g1, g2⟩ := cell3 HX9.out
          unfold MOrderR rej3 at hr9
          cases hf : Mf.mid fa fb fc s.last with
          | inl x =>
            rw [hf] at hr9
            obtain ⟨rfl, v9, hi9⟩ := hr9
            have HF := Lib.hid (show Mf.step i [fa, fb, fc] s = .inl { s with l := s.l ++ x.2, orders := s.orders + 1, last := x.1, tot := s.tot + Mf.total x.2 } by unfold Mf.step; rw [if_neg (by rw [hen]; decide), if_neg hz, if_neg (by simp), if_neg (show ¬ [fa, fb, fc].head? = some Sk.wEnd from fun e => hh (Option.some.inj e))]; simp only [List.getD_cons_succ, List.getD_cons_zero]; rw [hf])
            have HN9 := Lib.hid (hi9.own_ne HX9.out)
            have HI9 := Lib.hid hi9
            clear hf hi9 hen hz hh
            go_wp2_with fail
            obtain ⟨wz, hwz⟩ : ∃ wz, wz = ((w9.setCell ⟨w.heap.size, 0, none⟩ (.int .i64 0)).setCell ⟨w.heap.size, 1, none⟩ (.int .i64 0)).setCell ⟨w.heap.size, 2, none⟩ (.int .i64 0) := ⟨_, rfl⟩
            have hxz := set3 HX9.out (.int .i64 0) (.int .i64 0) (.int .i64 0)
            rw [← hwz] at hxz
            have hbz : Kept b vr w wz := by rw [hwz]; exact ((HB9.out.set (.inr (Nat.le_refl _)) _).set (.inr (Nat.le_refl _)) _).set (.inr (Nat.le_refl _)) _
            have hiz : MInv wz b { s with l := s.l ++ x.2, orders := s.orders + 1, last := x.1, tot := s.tot + Mf.total x.2 } v9 := by rw [hwz]; exact ((HI9.out.other (by omega) HN9.out _).other (by omega) HN9.out _).other (by omega) HN9.out _
            rw [← hwz]
            clear hwz n0 n1 n2 g0 g1 g2
            obtain ⟨n0, n1, n2, _⟩ := cell3 hxz
            refine bodyPost_ret (v := .agg #[.int .i64 0, .int .i64 0, .int .i64 0]) (by simp [results, Tryz.results50, go_sem, n0, n1, n2]) rfl ⟨?_, hbz⟩
            unfold MTookR
            rw [HF.out]
            exact ⟨rfl, v9, hiz⟩
          | inr x =>
            rw [hf] at hr9
            obtain rfl := hr9
            have HF := Lib.hid (show Mf.step i [fa, fb, fc] s = .inr x by unfold Mf.step; rw [if_neg (by rw [hen]; decide), if_neg hz, if_neg (by simp), if_neg (show ¬ [fa, fb, fc].head? = some Sk.wEnd from fun e => hh (Option.some.inj e))]; simp only [List.getD_cons_succ, List.getD_cons_zero]; rw [hf])
            obtain ⟨ci, hci⟩ : ∃ ci : Int, (x.1 : Int) = ci := ⟨_, rfl⟩
            obtain ⟨ki, hki⟩ : ∃ ki : Int, (x.2 : Int) = ki := ⟨_, rfl⟩
            rw [hci, hki]
            have HCI := Lib.hid hci; have HKI := Lib.hid hki
            clear hci hki hf hen hz hh
            go_wp2_with fail
            obtain ⟨wz, hwz⟩ : ∃ wz, wz = ((w9.setCell ⟨w.heap.size, 0, none⟩ (.int .i64 0)).setCell ⟨w.heap.size, 1, none⟩ (.int .i64 ci)).setCell ⟨w.heap.size, 2, none⟩ (.int .i64 ki) := ⟨_, rfl⟩
            have hxz := set3 HX9.out (.int .i64 0) (.int .i64 ci) (.int .i64 ki)
            rw [← hwz] at hxz
            have hbz : Kept b vr w wz := by rw [hwz]; exact ((HB9.out.set (.inr (Nat.le_refl _)) _).set (.inr (Nat.le_refl _)) _).set (.inr (Nat.le_refl _)) _
            rw [← hwz]
            clear hwz n0 n1 n2 g0 g1 g2
            obtain ⟨n0, n1, n2, _⟩ := cell3 hxz
            refine bodyPost_ret (v := .agg #[.int .i64 0, .int .i64 ci, .int .i64 ki]) (by simp [results, Tryz.results50, go_sem, n0, n1, n2]) rfl ⟨?_, hbz⟩
            unfold MTookR
            rw [HF.out]
            show _ = Ending.returned (rej3 x.1 x.2)
            unfold rej3
            rw [HCI.out, HKI.out]
end Go.Proofs.YtgpjbigelblanaaGreatDoor

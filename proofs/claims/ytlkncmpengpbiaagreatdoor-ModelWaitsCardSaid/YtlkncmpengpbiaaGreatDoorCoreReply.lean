/- A core takes an order. -/
import Derived.Test.YtlkncmpengpbiaaGreatDoorCoreBase
import Derived.Test.YtlkncmpengpbiaaGreatDoorIntakeNet
import Derived.Deep.QuietTactic
import Derived.BigQuiet
import Derived.Test.YtlkncmpengpbiaaGreatDoorShort
namespace Go.Proofs.YtlkncmpengpbiaaGreatDoor
open Go.RowKit Go.Maps Co Key Rw Sa Od
set_option linter.unusedSimpArgs false
set_option linter.unusedVariables false
set_option maxRecDepth 100000
set_option maxHeartbeats 8000000

namespace Co
def hasB (l : List Sg) (r : List UInt8) : Bool := l.any fun s => decide (s.ref = r)
def placeE (c : Cor) (o : Ord5) : Int :=
 if codeO o.1 o.2.1 o.2.2.1 o.2.2.2.1 o.2.2.2.2 ≠ 0 then codeO o.1 o.2.1 o.2.2.1 o.2.2.2.1 o.2.2.2.2
 else if hasB c.l o.2.1 = true then 91 else if 60 ≤ c.l.length then 60 else if o.1 ≠ (c.l.length : Int) + 1 then 2 else 0
def placeC (c : Cor) (o : Ord5) : Cor := if placeE c o = 0 then { c with l := c.l ++ [beginI o.1 o.2.1 o.2.2.1 o.2.2.2.1 o.2.2.2.2] } else c
theorem has_succ {l : List Sg} {k : Nat} {s : Sg} (h : l[k]? = some s) (r : List UInt8) : hasB (l.take (k + 1)) r = (hasB (l.take k) r || decide (s.ref = r)) := by
 unfold hasB; rw [List.take_add_one, h, List.any_append]; simp
theorem has_hit {l : List Sg} {k : Nat} {s : Sg} (h : l[k]? = some s) {r : List UInt8} (hr : s.ref = r) : hasB l r = true := List.any_eq_true.2 ⟨s, List.mem_of_getElem? h, by simpa using hr⟩
end Co
theorem cw_set0 {w : World} {b : Nat} {v p q : Value} {arr : Array Value} {T : TypeId} (h : w.heap[b]? = some (.cells (#[v, p] ++ arr) T (0, 0))) : (w.setCell ⟨b, 0, none⟩ q).heap[b]? = some (.cells (#[q, p] ++ arr) T (0, 0)) := by
 simp [World.setCell, Array.getElem?_modify, h]
theorem str_eqT {a b : List UInt8} (h : a = b) : (a == b) = true := by simp [h]
theorem str_eqF {a b : List UInt8} (h : ¬ a = b) : (a == b) = false := by simpa using h
theorem chas_any {B : Nat} {w : World} {cb bb pm bm : Nat} {vl vb vI : Value} {c : Cor} (h : Cw B w cb bb pm bm vl vb vI c) (r : List UInt8) (hl : c.l.length ≤ 100000) :
  Calls Tryz.prog 96 #[.pointer (some ⟨cb, 0, none⟩), .string ⟨r.toArray⟩] w fun e w' => e = .returned (.bool (hasB c.l r)) ∧ Below w.heap.size w w' := by
 obtain ⟨A, cl, rfl, _⟩ := own_slice h.ol
 have HC := Hd h
 clear h
 obtain ⟨c0, c1⟩ := HC.out.c01
 go_enter Tryz.func96, Tryz.ntmps96
 go_wp2_with fail
 go_loopw [12] (fun i wr => ∃ k : Nat, i = .int .i64 k ∧ k ≤ c.l.length ∧ Hid (hasB (c.l.take k) r = false) ∧ Hid (Below w.heap.size w wr)) (fun i _ => c.l.length - (intOf i).toNat)
 case atStart => exact ⟨0, rfl, Nat.zero_le _, rfl, Below.refl _ _⟩
 case round =>
  obtain ⟨k, rfl, hk, HN, HBr⟩ := hrel
  by_cases hkl : k < c.l.length
  ·obtain ⟨s, hs⟩ : ∃ s, c.l[k]? = some s := ⟨_, List.getElem?_eq_getElem hkl⟩
   obtain ⟨g, off, n', c', e, d0, d1, d2, d3, d4, d5, d6, d7, d8, d9, d10, d11⟩ := (sgs_own HC.out.ol).cells HBr.out hs
   injection e with e1 e2 e3; subst e1; clear e2 e3
   have hlt : (k : Int) < c.l.length := by omega
   have hk0 : (0 : Int) ≤ k := by omega
   have HSK := Hd hs
   clear hs
   go_upto_region 4 with (fail)
   obtain ⟨w1, hw1⟩ : ∃ w1, w1 = wr.alloc (.cells (sgA s) tSaga) := ⟨_, rfl⟩
   rw [← hw1]
   have HB1 := Hd (show Below w.heap.size w w1 by rw [hw1]; exact HBr.out.alloc HBr.out.size _)
   have hx1 : w1.heap[wr.heap.size]? = some (.cells (sgA s) tSaga (0, 0)) := by rw [hw1]; exact heap_new _ _
   obtain ⟨m0, m1, m2, m3, m4, m5, m6, m7, m8, m9, m10, m11⟩ := sg_box hx1
   clear hw1 hx1 d0 d1 d2 d3 d4 d5 d6 d7 d8 d9 d10 d11
   by_cases he : s.ref = r
   ·have HF := Hd (has_hit HSK.out he)
    have hq := str_eqT he
    clear he
    go_wp2_with fail
    go_ret
    exact ⟨by rw [HF.out]; rfl, HB1.out⟩
   ·have HF := Hd (show hasB (c.l.take (k + 1)) r = false by rw [has_succ HSK.out, HN.out]; simpa using he)
    have hq := str_eqF he
    clear he
    go_wp2_with fail
    go_roundw
    case rel => exact ⟨k + 1, by go_num, by omega, HF.out, HB1.out⟩
    case measure => simp [intOf]; omega
  ·obtain rfl : k = c.l.length := by omega
   have HF := Hd (show hasB c.l r = false by have := HN.out; rwa [List.take_length] at this)
   go_wp2_with fail
   go_ret
   exact ⟨by rw [HF.out]; rfl, HBr.out⟩
theorem cplace_any {B : Nat} {w : World} {cb bb pm bm : Nat} {vl vb vI : Value} {c : Cor} (h : Cw B w cb bb pm bm vl vb vI c) (o : Ord5) (hl : c.l.length ≤ 100000) :
  Calls Tryz.prog 57 #[.pointer (some ⟨cb, 0, none⟩), .agg #[.int .i64 o.1, .string ⟨o.2.1.toArray⟩, .string ⟨o.2.2.1.toArray⟩, .int .i64 o.2.2.2.1, .int .i64 o.2.2.2.2]] w fun e w' => ∃ vl', e = .returned (.int .i64 (placeE c o)) ∧ Cw B w' cb bb pm bm vl' vb vI (placeC c o) ∧ Turned (Cs cb bb pm bm vl vb) w w' ∧ ∀ j, vl'.ownBlock = some j → vl.ownBlock = some j ∨ w.heap.size ≤ j := by
 obtain ⟨i0, hi, hz0, hz1, hz2⟩ := info_parts saga_info
 obtain ⟨A, cl, rfl, _⟩ := own_slice h.ol
 have HC0 := Hd h
 obtain ⟨wa, hA⟩ : ∃ wa, wa = w.alloc (.cells #[.int .i64 o.1, .string ⟨o.2.1.toArray⟩, .string ⟨o.2.2.1.toArray⟩, .int .i64 o.2.2.2.1, .int .i64 o.2.2.2.2] tOrder) := ⟨_, rfl⟩
 have hB : Below w.heap.size w wa := by rw [hA]; exact below_alloc _ _
 have hX : wa.heap[w.heap.size]? = some (.cells #[.int .i64 o.1, .string ⟨o.2.1.toArray⟩, .string ⟨o.2.2.1.toArray⟩, .int .i64 o.2.2.2.1, .int .i64 o.2.2.2.2] tOrder (0, 0)) := by rw [hA]; exact heap_new _ _
 have HC := Hd (h.below hB)
 have HA := Hd hA; have HB := Hd hB; have HX := Hd hX
 clear hA hB hX h
 obtain ⟨m0, m1, m2, m3, m4⟩ := cell5 HX.out
 go_enter Tryz.func57, Tryz.ntmps57
 go_upto_region 1 with (fail)
 rw [← HA.out]
 go_wp2_with fail
 refine (ocheck_any wa o.1 o.2.2.2.1 o.2.2.2.2 o.2.1 o.2.2.1).mono ?_
 rintro e w1 ⟨rfl, hb⟩
 have HX1 := Hd (heap_keep HX.out hb); have HB1 := Hd (bch HB.out hb HB.out.size); have HC1 := Hd (HC.out.below hb)
 clear hb m0 m1 m2 m3 m4 HX HB HC HA
 obtain ⟨m0, m1, m2, m3, m4⟩ := cell5 HX1.out
 by_cases he : codeO o.1 o.2.1 o.2.2.1 o.2.2.2.1 o.2.2.2.2 = 0
 ·have hn := bneF he
  go_wp2_with fail
  refine (chas_any HC1.out o.2.1 hl).mono ?_
  rintro e w2 ⟨rfl, hb⟩
  have HX2 := Hd (heap_keep HX1.out hb); have HB2 := Hd (bch HB1.out hb HB1.out.size); have HC2 := Hd (HC1.out.below hb)
  clear hb m0 m1 m2 m3 m4 HX1 HB1 HC1
  obtain ⟨m0, m1, m2, m3, m4⟩ := cell5 HX2.out
  obtain ⟨c0, c1⟩ := HC2.out.c01
  have hE0 : ¬ (codeO o.1 o.2.1 o.2.2.1 o.2.2.2.1 o.2.2.2.2 ≠ 0) := by omega
  cases hh : hasB c.l o.2.1 with
  | true =>
   have HE := Hd (show placeE c o = 91 by unfold placeE; rw [if_neg hE0, if_pos hh])
   have HCC := Hd (show placeC c o = c by unfold placeC; rw [if_neg (by rw [HE.out]; decide)])
   go_wp2_with fail
   go_ret
   exact ⟨_, by rw [HE.out]; rfl, by rw [HCC.out]; exact HC2.out, Turned.of_below HB2.out, fun j h => .inl h⟩
  | false =>
   by_cases hf : 60 ≤ c.l.length
   ·have hf' : (60 : Int) ≤ c.l.length := by omega
    have HE := Hd (show placeE c o = 60 by unfold placeE; rw [if_neg hE0, hh, if_neg (by decide), if_pos hf])
    have HCC := Hd (show placeC c o = c by unfold placeC; rw [if_neg (by rw [HE.out]; decide)])
    go_wp2_with fail
    go_ret
    exact ⟨_, by rw [HE.out]; rfl, by rw [HCC.out]; exact HC2.out, Turned.of_below HB2.out, fun j h => .inl h⟩
   ·have hf' : ¬ (60 : Int) ≤ c.l.length := by omega
    have hw1 : IntKind.i64.wrap ((c.l.length : Int) + 1) = (c.l.length : Int) + 1 := IntWalk.i64_in _ (by omega)
    by_cases hid : o.1 = (c.l.length : Int) + 1
    ·have hi1 := bneF hid
     have HE := Hd (show placeE c o = 0 by unfold placeE; rw [if_neg hE0, hh, if_neg (by decide), if_neg hf, if_neg (by omega)])
     have HCC := Hd (show placeC c o = { c with l := c.l ++ [beginI o.1 o.2.1 o.2.2.1 o.2.2.2.1 o.2.2.2.2] } by unfold placeC; rw [if_pos HE.out])
     clear hid
     go_wp2_with fail
     go_quiet (fail)
     go_wp2_with fail
     obtain ⟨w3, hw3⟩ : ∃ w3, w3 = w2.drewN nq := ⟨_, rfl⟩
     rw [← hw3]
     have hb3 : Below w2.heap.size w2 w3 := by rw [hw3]; exact below_drewN (Below.refl _ w2) nq
     have HX3 := Hd (heap_keep HX2.out hb3); have HB3 := Hd (bch HB2.out hb3 HB2.out.size); have HC3 := Hd (HC2.out.below hb3)
     clear hw3 hb3 m0 m1 m2 m3 m4 c0 c1 HX2 HB2 HC2
     have hs3 : w.heap.size ≤ w3.heap.size := HB3.out.size
     have hxo : ¬ Value.ownBlock (.slice A c.l.length cl) = some w.heap.size := fun e => by have := (HC0.out.ol.lt _ e).2; omega
     have hbo : ¬ Value.ownBlock (.slice A c.l.length cl) = some cb := fun e => (HC0.out.nl _ e).1 rfl
     have HH := Hd (fun W (hb : Turned (fun j => Value.ownBlock (.slice A c.l.length cl) = some j) w3 W) => (⟨Hd hb, cell_at (heap_turned HC3.out.hc hb hbo) 0 (by simp [Array.getElem?_append]), cell_at (heap_turned HX3.out hb hxo) 0 rfl, cell_at (heap_turned HX3.out hb hxo) 1 rfl, cell_at (heap_turned HX3.out hb hxo) 2 rfl, cell_at (heap_turned HX3.out hb hxo) 3 rfl, cell_at (heap_turned HX3.out hb hxo) 4 rfl⟩ : (fun w' => Hid (Turned (fun j => Value.ownBlock (.slice A c.l.length cl) = some j) w3 w') ∧ w'.cell? ⟨cb, 0, none⟩ = some (.slice A c.l.length cl) ∧ w'.cell? ⟨w.heap.size, 0, none⟩ = some (.int .i64 o.1) ∧ w'.cell? ⟨w.heap.size, 1, none⟩ = some (.string ⟨o.2.1.toArray⟩) ∧ w'.cell? ⟨w.heap.size, 2, none⟩ = some (.string ⟨o.2.2.1.toArray⟩) ∧ w'.cell? ⟨w.heap.size, 3, none⟩ = some (.int .i64 o.2.2.2.1) ∧ w'.cell? ⟨w.heap.size, 4, none⟩ = some (.int .i64 o.2.2.2.2)) W))
     refine wp_region_noPanic ?_
     refine wp_region_till 11 (fun _ => True) (fun w' => Hid (Turned (fun j => Value.ownBlock (.slice A c.l.length cl) = some j) w3 w') ∧ w'.cell? ⟨cb, 0, none⟩ = some (.slice A c.l.length cl) ∧ w'.cell? ⟨w.heap.size, 0, none⟩ = some (.int .i64 o.1) ∧ w'.cell? ⟨w.heap.size, 1, none⟩ = some (.string ⟨o.2.1.toArray⟩) ∧ w'.cell? ⟨w.heap.size, 2, none⟩ = some (.string ⟨o.2.2.1.toArray⟩) ∧ w'.cell? ⟨w.heap.size, 3, none⟩ = some (.int .i64 o.2.2.2.1) ∧ w'.cell? ⟨w.heap.size, 4, none⟩ = some (.int .i64 o.2.2.2.2)) (by kernel_rfl) (HH.out _ ((Turned.refl _ w3).drew)) (fun hHeld => ?_)
     refine wpAnyT_go (i := 0) (v := ?vt0_1) rfl (by kernel_rfl) (by kernel_rfl) (by kernel_rfl) (fun _ _ _ h => h) (by kernel_rfl) (Or.inl ⟨by rfl, ?hyt0_1⟩) (by assumption) ?restt0_1
     case hyt0_1 => (intro w0 hSw; (try dsimp only at hSw); go_simp; try with_reducible rfl)
     case' restt0_1 => (try simp only [gx1, gx2, gx3]); try go_frame
     refine wpAnyT_go (i := 1) (v := ?vt1_2) rfl (by kernel_rfl) (by kernel_rfl) (by kernel_rfl) (fun _ _ _ h => h) (by kernel_rfl) (Or.inl ⟨by rfl, ?hyt1_2⟩) (by assumption) ?restt1_2
     case hyt1_2 => (intro w0 hSw; (try dsimp only at hSw); go_simp; try with_reducible rfl)
     case' restt1_2 => (try simp only [gx1, gx2, gx3]); try go_frame
     refine wpAnyT_go (i := 2) (v := ?vt2_3) rfl (by kernel_rfl) (by kernel_rfl) (by kernel_rfl) (fun _ _ _ h => h) (by kernel_rfl) (Or.inl ⟨by rfl, ?hyt2_3⟩) (by assumption) ?restt2_3
     case hyt2_3 => (intro w0 hSw; (try dsimp only at hSw); go_simp; try with_reducible rfl)
     case' restt2_3 => (try simp only [gx1, gx2, gx3]); try go_frame
     refine wpAnyT_go (i := 3) (v := ?vt3_4) rfl (by kernel_rfl) (by kernel_rfl) (by kernel_rfl) (fun _ _ _ h => h) (by kernel_rfl) (Or.inl ⟨by rfl, ?hyt3_4⟩) (by assumption) ?restt3_4
     case hyt3_4 => (intro w0 hSw; (try dsimp only at hSw); go_simp; try with_reducible rfl)
     case' restt3_4 => (try simp only [gx1, gx2, gx3]); try go_frame
     refine wpAnyT_go (i := 4) (v := ?vt4_5) rfl (by kernel_rfl) (by kernel_rfl) (by kernel_rfl) (fun _ _ _ h => h) (by kernel_rfl) (Or.inl ⟨by rfl, ?hyt4_5⟩) (by assumption) ?restt4_5
     case hyt4_5 => (intro w0 hSw; (try dsimp only at hSw); go_simp; try with_reducible rfl)
     case' restt4_5 => (try simp only [gx1, gx2, gx3]); try go_frame
     refine wpAnyT_go (i := 5) (v := ?vt5_6) rfl (by kernel_rfl) (by kernel_rfl) (by kernel_rfl) (fun _ _ _ h => h) (by kernel_rfl) (Or.inl ⟨by rfl, ?hyt5_6⟩) (by assumption) ?restt5_6
     case hyt5_6 => (intro w0 hSw; (try dsimp only at hSw); go_simp; try with_reducible rfl)
     case' restt5_6 => (try simp only [gx1, gx2, gx3]); try go_frame
     refine wpAnyT_ready (rs := [6]) (by kernel_rfl) (by simp) ?_
     refine AllReadyT.cons rfl (by kernel_rfl) (fun K hK => ?_) AllReadyT.nil
     go_simp
     refine (begin_any o.1 o.2.1 o.2.2.1 o.2.2.2.1 o.2.2.2.2 _).mono ?_
     rintro e w4 ⟨rfl, hb4⟩
     have ht4 : Turned (fun j => Value.ownBlock (.slice A c.l.length cl) = some j) w3 w4 := (Turned.refl _ w3).drew.trans (Turned.of_below hb4)
     refine hK.out _ _ (HH.out _ (ht4)) (fun hHeld => ?_)
     clear hK K
     (try simp only [gx1, gx2, gx3]); try go_frame
     refine wpAnyT_ready (rs := [7]) (by kernel_rfl) (by simp) ?_
     refine AllReadyT.cons rfl (by kernel_rfl) (fun K hK => ?_) AllReadyT.nil
     go_simp
     refine hK.out _ _ (HH.out _ (ht4.trans (Turned.of_below (below_alloc _ _)))) (fun hHeld => ?_)
     clear hK K
     (try simp only [gx1, gx2, gx3]); try go_frame
     refine wpAnyT_ready (rs := [8]) (by kernel_rfl) (by simp) ?_
     refine AllReadyT.cons rfl (by kernel_rfl) (fun K hK => ?_) AllReadyT.nil
     refine step_append_any _ rfl (.tmp 38) (.tmp 41) tSagas rfl B tSaga i0 (.agg #[.int .i64 0, .string ⟨#[]⟩, .string ⟨#[]⟩, .int .i64 0, .int .i64 0, .int .i64 0, .int .i64 0, .int .i64 0, .int .i64 0, .int .i64 0, .int .i64 0, .bool false]) 12 112 Tryz.underlying80 hi hz0 hz1 hz2 rfl (by decide) (.slice A c.l.length cl) c.l.length (c.l.flatMap encS) rfl (World.ownsRow.alloc (own_keep (w := w3.drew) (own_turned HC3.out.ol (Turned.refl (fun _ => False) w3).drew (fun _ _ h => h)) hb4) _) 1 (encS (beginI o.1 o.2.1 o.2.2.1 o.2.2.2.1 o.2.2.2.2)) (src_blk (xs := encS (beginI o.1 o.2.1 o.2.2.1 o.2.2.2.1 o.2.2.2.2)) (heap_new _ _) (encS_one _)) (by unfold maxLen; omega) (by omega) (by have := HC0.out.ge; have := heap_lt HC0.out.hc; have := ht4.size; simp; omega) ?_
     intro v6 w6 ho6 hg6 hat6
     have ht6 : Turned (fun j => Value.ownBlock (.slice A c.l.length cl) = some j) w3 w6 := (ht4.trans (Turned.of_below (below_alloc _ _))).trans (Turned.of_grown hg6 (fun j h => h))
     obtain ⟨A6, c6, rfl, _⟩ := own_slice ho6
     refine hK.out _ _ (HH.out _ (ht6)) (fun hHeld => ?_)
     clear hK K
     (try simp only [gx1, gx2, gx3]); try go_frame
     refine wpAnyT_go (i := 9) (v := ?vt9_7) rfl (by kernel_rfl) (by kernel_rfl) (by kernel_rfl) (fun _ _ _ h => h) (by kernel_rfl) (Or.inl ⟨by rfl, ?hyt9_7⟩) (by assumption) ?restt9_7
     case hyt9_7 => (intro w0 hSw; (try dsimp only at hSw); go_simp; try with_reducible rfl)
     case' restt9_7 => (try simp only [gx1, gx2, gx3]); try go_frame
     refine wpAnyT_go (i := 10) (v := ?vt10_8) rfl (by kernel_rfl) (by kernel_rfl) (by kernel_rfl) (fun _ _ _ h => h) (by kernel_rfl) (Or.inl ⟨by rfl, ?hyt10_8⟩) (by assumption) ?restt10_8
     case hyt10_8 => (intro w0 hSw; (try dsimp only at hSw); go_simp; try with_reducible rfl)
     case' restt10_8 => (try simp only [gx1, gx2, gx3]); try go_frame
     have HD6 := Hd (heap_turned HC3.out.hc ht6 hbo)
     have y0 : w6.cell? ⟨cb, 0, none⟩ = some (.slice A c.l.length cl) := cell_at HD6.out 0 (by simp [Array.getElem?_append])
     have f0 := frozen_at HD6.out 0
     refine wpAnyT_ready (rs := [11]) (by kernel_rfl) (by simp) ?_
     refine AllReadyT.last rfl (by kernel_rfl) (fun K hK => ?_) AllReadyT.nil
     go_simp
     refine hK.out _ _ trivial (fun hHeld => ?_)
     clear hK K
     (try simp only [gx1, gx2, gx3]); try go_frame
     refine wpAnyT_done (by kernel_rfl) ?_ _
     refine NoPanic.normal ?_
     have ht7 := turned_set w6 cb 0 (.slice A6 (c.l.length + 1) c6)
     have hsz4 := ht4.size
     have hfar6 : ∀ j, Value.ownBlock (.slice A6 (c.l.length + 1) c6) = some j → Value.ownBlock (.slice A c.l.length cl) = some j ∨ w.heap.size ≤ j := fun j hj => by rcases hat6 with h | h; (exact .inl (by rw [← h]; exact hj)); (right; rw [hj] at h; injection h with h; simp at h; omega)
     have hTT : Turned (fun j => j = cb ∨ Value.ownBlock (.slice A c.l.length cl) = some j) w3 (w6.setCell ⟨cb, 0, none⟩ (.slice A6 (c.l.length + 1) c6)) := (ht6.mono (fun i h => .inr h)).trans (ht7.mono (fun i h => .inl h))
     have HNEW := Hd (show Cw B (w6.setCell ⟨cb, 0, none⟩ (.slice A6 (c.l.length + 1) c6)) cb bb pm bm (.slice A6 (c.l.length + 1) c6) vb vI { c with l := c.l ++ [(beginI o.1 o.2.1 o.2.2.1 o.2.2.2.1 o.2.2.2.2)] } from {
      hc := cw_set0 HD6.out
      ol := own_turned (by show w6.ownsRow B tSaga 12 (.slice A6 (c.l.length + 1) c6) (c.l ++ [(beginI o.1 o.2.1 o.2.2.1 o.2.2.2.1 o.2.2.2.2)]).length ((c.l ++ [(beginI o.1 o.2.1 o.2.2.1 o.2.2.2.1 o.2.2.2.2)]).flatMap encS); rw [List.length_append, List.flatMap_append]; simpa using ho6) ht7 (fun j hj hs => by rcases hfar6 j hj with h | h; (exact (HC0.out.nl j h).1 hs); (have := heap_lt HC0.out.hc; omega))
      bk := HC3.out.bk.kept hTT (fun j hj hs => by rcases hs with rfl | hs; (rcases hj with h | h | h | h; exact HC0.out.nc.1 h; exact HC0.out.nc.2.1 h; exact HC0.out.nc.2.2.1 h; exact HC0.out.nc.2.2.2 h); exact (HC0.out.nl j hs).2 hj)
      ii := HC3.out.ii.turned hTT (fun j hs => by rcases hs with rfl | hs; exact HC3.out.av _ (.inl rfl); exact HC3.out.av _ (.inr (.inr hs)))
      fi := HC3.out.fi
      av := fun j hj => by rcases hj with rfl | hj | hj; exact HC0.out.av _ (.inl rfl); exact HC0.out.av _ (.inr (.inl hj)); (rcases hfar6 j hj with h | h; exact HC0.out.av _ (.inr (.inr h)); exact Av.far HC0.out.ii h)
      ge := HC0.out.ge
      nc := HC0.out.nc
      nl := fun j hj => by rcases hfar6 j hj with h | h; exact HC0.out.nl j h; exact ⟨by have := heap_lt HC0.out.hc; omega, fun hs => by have := (HC0.out.bk.ls hs).2; omega⟩ })
     have HTN := Hd ((Turned.of_below HB3.out).trans (hTT.mono (fun i h => (h.elim (fun h => .inl h) (fun h => .inr (.inr h)) : Cs cb bb pm bm (.slice A c.l.length cl) vb i))))
     have HFR := Hd hfar6
     clear hHeld HH ht6 ht7 ho6 hg6 hat6 y0 f0 hfar6 hTT ht4 hb4
     go_wp2_with fail
     go_ret
     exact ⟨_, by rw [HE.out]; rfl, by rw [HCC.out]; exact HNEW.out, HTN.out, HFR.out⟩
    ·have hi1 := bneT hid
     have HE := Hd (show placeE c o = 2 by unfold placeE; rw [if_neg hE0, hh, if_neg (by decide), if_neg hf, if_pos hid])
     have HCC := Hd (show placeC c o = c by unfold placeC; rw [if_neg (by rw [HE.out]; decide)])
     go_wp2_with fail
     go_quiet (fail)
     go_wp2_with fail
     go_ret
     exact ⟨_, by rw [HE.out]; rfl, by rw [HCC.out]; exact HC2.out.below (below_drewN (Below.refl _ w2) nq), Turned.of_below (below_drewN HB2.out nq), fun j h => .inl h⟩
 ·have hn := bneT he
  have HE := Hd (show placeE c o = codeO o.1 o.2.1 o.2.2.1 o.2.2.2.1 o.2.2.2.2 by unfold placeE; rw [if_pos he])
  have HCC := Hd (show placeC c o = c by unfold placeC; rw [if_neg (by rw [HE.out]; exact he)])
  generalize codeO o.1 o.2.1 o.2.2.1 o.2.2.2.1 o.2.2.2.2 = ee at hn HE ⊢
  clear he
  go_wp2_with fail
  go_ret
  exact ⟨_, by rw [HE.out]; rfl, by rw [HCC.out]; exact HC1.out, Turned.of_below HB1.out, fun j h => .inl h⟩
end Go.Proofs.YtlkncmpengpbiaaGreatDoor
/- A core's saga is put in another one's place. -/
namespace Go.Proofs.YtlkncmpengpbiaaGreatDoor
open Go.RowKit Go.Maps Co Key Rw Sa Od

theorem set_mid {A M : List Value} {n i : Nat} (h : A.length = n) (v : Value) : (A ++ M).set (n + i) v = A ++ M.set i v := by
  rw [List.set_append_right _ _ (by omega), h, Nat.add_sub_cancel_left]
theorem set_flat {l : List Sg} {k : Nat} (hk : k < l.length) (s : Sg) :
    (((((((((((((l.flatMap encS).set (k * 12 + 0) (.int .i64 s.id)).set (k * 12 + 1) (.string ⟨s.ref.toArray⟩)).set (k * 12 + 2) (.string ⟨s.sku.toArray⟩)).set (k * 12 + 3) (.int .i64 s.qty)).set (k * 12 + 4) (.int .i64 s.amt)).set (k * 12 + 5) (.int .i64 s.d0)).set (k * 12 + 6) (.int .i64 s.d1)).set (k * 12 + 7) (.int .i64 s.d2)).set (k * 12 + 8) (.int .i64 s.d3)).set (k * 12 + 9) (.int .i64 s.d4)).set (k * 12 + 10) (.int .i64 s.d5)).set (k * 12 + 11) (.bool s.can)) = (l.set k s).flatMap encS := by
  have hA : ((l.take k).flatMap encS).length = k * 12 := by
    have : ∀ m : List Sg, (m.flatMap encS).length = m.length * 12 := fun m => by
      induction m with
      | nil => rfl
      | cons x m ih => rw [List.flatMap_cons, List.length_append, ih, encS_len, List.length_cons]; omega
    rw [this, List.length_take, Nat.min_eq_left (by omega)]
  have e1 : l.flatMap encS = (l.take k).flatMap encS ++ (encS l[k] ++ (l.drop (k + 1)).flatMap encS) := by
    conv => lhs; rw [← List.take_append_drop k l, List.drop_eq_getElem_cons hk]
    rw [List.flatMap_append, List.flatMap_cons]
  have e2 : (l.set k s).flatMap encS = (l.take k).flatMap encS ++ (encS s ++ (l.drop (k + 1)).flatMap encS) := by
    rw [List.set_eq_take_append_cons_drop, if_pos hk, List.flatMap_append, List.flatMap_cons]
  rw [e1, e2]
  generalize (l.take k).flatMap encS = A at hA ⊢
  generalize (l.drop (k + 1)).flatMap encS = C
  simp only [set_mid hA]
  rfl
/-- The twelve cells of an element. -/
abbrev set12k (w : World) (g k : Nat) (s : Sg) : World := (((((((((((w.setCell ⟨g, k * 12 + 0, none⟩ (.int .i64 s.id)).setCell ⟨g, k * 12 + 1, none⟩ (.string ⟨s.ref.toArray⟩)).setCell ⟨g, k * 12 + 2, none⟩ (.string ⟨s.sku.toArray⟩)).setCell ⟨g, k * 12 + 3, none⟩ (.int .i64 s.qty)).setCell ⟨g, k * 12 + 4, none⟩ (.int .i64 s.amt)).setCell ⟨g, k * 12 + 5, none⟩ (.int .i64 s.d0)).setCell ⟨g, k * 12 + 6, none⟩ (.int .i64 s.d1)).setCell ⟨g, k * 12 + 7, none⟩ (.int .i64 s.d2)).setCell ⟨g, k * 12 + 8, none⟩ (.int .i64 s.d3)).setCell ⟨g, k * 12 + 9, none⟩ (.int .i64 s.d4)).setCell ⟨g, k * 12 + 10, none⟩ (.int .i64 s.d5)).setCell ⟨g, k * 12 + 11, none⟩ (.bool s.can)
theorem turned_set12k (w : World) (g k : Nat) (s : Sg) : Turned (fun j => j = g) w (set12k w g k s) :=
  (((((((((((turned_set w g _ _).trans (turned_set _ g _ _)).trans (turned_set _ g _ _)).trans (turned_set _ g _ _)).trans (turned_set _ g _ _)).trans (turned_set _ g _ _)).trans (turned_set _ g _ _)).trans (turned_set _ g _ _)).trans (turned_set _ g _ _)).trans (turned_set _ g _ _)).trans (turned_set _ g _ _)).trans (turned_set _ g _ _)
theorem own_set12 {w : World} {B g cl : Nat} {l : List Sg} (h : w.ownsRow B tSaga 12 (.slice (some ⟨g, 0, none⟩) l.length cl) l.length (l.flatMap encS)) {k : Nat} (hk : k < l.length) (s : Sg) : (set12k w g k s).ownsRow B tSaga 12 (.slice (some ⟨g, 0, none⟩) l.length cl) l.length ((l.set k s).flatMap encS) := by
  rw [← set_flat hk s]
  exact ((((((((((((h.stored (k * 12 + 0) _).1.stored (k * 12 + 1) _).1.stored (k * 12 + 2) _).1.stored (k * 12 + 3) _).1.stored (k * 12 + 4) _).1.stored (k * 12 + 5) _).1.stored (k * 12 + 6) _).1.stored (k * 12 + 7) _).1.stored (k * 12 + 8) _).1.stored (k * 12 + 9) _).1.stored (k * 12 + 10) _).1.stored (k * 12 + 11) _).1
theorem Cw.setSaga {B : Nat} {w : World} {cb bb pm bm : Nat} {vb vI : Value} {c : Cor} {g cl : Nat} (h : Cw B w cb bb pm bm (.slice (some ⟨g, 0, none⟩) c.l.length cl) vb vI c) {k : Nat} (hk : k < c.l.length) (s : Sg) :
    Cw B (set12k w g k s) cb bb pm bm (.slice (some ⟨g, 0, none⟩) c.l.length cl) vb vI { c with l := c.l.set k s } := by
  have ht := turned_set12k w g k s
  have hg : Value.ownBlock (.slice (some ⟨g, 0, none⟩) c.l.length cl) = some g := rfl
  have hn := h.nl g hg
  exact ⟨(ht.block _ (heap_lt h.hc) (fun e => hn.1 e.symm)).trans h.hc, by have := own_set12 h.ol hk s; simpa using this, h.bk.kept ht (fun j hj e => hn.2 (by rw [← e]; exact hj)), h.ii.turned ht (fun j e => h.av j (.inr (.inr (by rw [e]; rfl)))), h.fi, h.av, h.ge, h.nc, h.nl⟩
end Go.Proofs.YtlkncmpengpbiaaGreatDoor
/- A core takes a reply. -/
namespace Go.Proofs.YtlkncmpengpbiaaGreatDoor
open Go.RowKit Go.Maps Co Key Rw Sa Od
set_option linter.unusedSimpArgs false
set_option linter.unusedVariables false
set_option maxRecDepth 100000
set_option maxHeartbeats 16000000

namespace Co
def replyE (c : Cor) (o d code : Int) : Int :=
 if o < 1 ∨ (c.l.length : Int) < o then 4 else match c.l[o.toNat - 1]? with | none => 4 | some s => if replyB s d code = true then 0 else 92
def postBy (o d by_ : Int) : List Po := if 0 < by_ then [⟨putK o d, o, 1, 0, by_⟩] else if by_ < 0 then [⟨putK o d, o, 3, 1, -by_⟩] else []
def postR (c : Cor) (o d code : Int) : List Po := match c.l[o.toNat - 1]? with | none => [] | some s => postBy o d (Sa.netI (replyI s d code) - Sa.netI s)
def replyC (c : Cor) (o d code : Int) : Cor := if replyE c o d code = 0 then
  (match c.l[o.toNat - 1]? with | none => c | some s => { c with l := c.l.set (o.toNat - 1) (replyI s d code), b := c.b ++ postR c o d code }) else c
theorem net_bd {s : Sg} (h : 0 ≤ s.amt ∧ s.amt ≤ 1099511627776) : 0 ≤ Sa.netI s ∧ Sa.netI s ≤ 1099511627776 := by unfold Sa.netI; split <;> omega
end Co
theorem Cw.post {B : Nat} {w w' : World} {cb bb pm bm : Nat} {vl vb vb' vI : Value} {c : Cor} {b' : List Po} (h : Cw B w cb bb pm bm vl vb vI c) (hn : Bw B w' bb pm bm vb' b') (ht : Turned (Bs bb pm bm vb) w w') (hf : ∀ j, vb'.ownBlock = some j → vb.ownBlock = some j ∨ w.heap.size ≤ j) :
  Cw B w' cb bb pm bm vl vb' vI { c with b := b' } := by
 have hcb : ¬ Bs bb pm bm vb cb := fun hs => by
  rcases hs with e | e | e | e
  ·exact h.nc.1 e
  ·exact h.nc.2.1 e
  ·exact h.nc.2.2.1 e
  ·exact h.nc.2.2.2 e
 have hlt := heap_lt h.hc
 refine ⟨(ht.block _ hlt hcb).trans h.hc, own_turned h.ol ht (fun j hj => (h.nl j hj).2), hn, h.ii.turned ht (fun j hj => h.av j (.inr (.inl hj))), h.fi, fun j hj => ?_, h.ge, ⟨h.nc.1, h.nc.2.1, h.nc.2.2.1, fun e => ?_⟩, fun j hj => ⟨(h.nl j hj).1, fun hs => ?_⟩⟩
 ·rcases hj with rfl | hj | hj
  ·exact h.av _ (.inl rfl)
  ·rcases hj with hj | hj | hj | hj
   ·exact h.av _ (.inr (.inl (.inl hj)))
   ·exact h.av _ (.inr (.inl (.inr (.inl hj))))
   ·exact h.av _ (.inr (.inl (.inr (.inr (.inl hj)))))
   ·rcases hf j hj with hj | hj
    ·exact h.av _ (.inr (.inl (.inr (.inr (.inr hj)))))
    ·exact Av.far h.ii hj
  ·exact h.av _ (.inr (.inr hj))
 ·rcases hf cb e with e | e
  ·exact h.nc.2.2.2 e
  ·omega
 ·have hjl := (h.ol.lt j hj).2
  rcases hs with hs | hs | hs | hs
  ·exact (h.nl j hj).2 (.inl hs)
  ·exact (h.nl j hj).2 (.inr (.inl hs))
  ·exact (h.nl j hj).2 (.inr (.inr (.inl hs)))
  ·rcases hf j hs with hs | hs
   ·exact (h.nl j hj).2 (.inr (.inr (.inr hs)))
   ·omega
theorem Cw.cbB {B : Nat} {w : World} {cb bb pm bm : Nat} {vl vb vI : Value} {c : Cor} (h : Cw B w cb bb pm bm vl vb vI c) : ¬ Bs bb pm bm vb cb := fun hs => by
 rcases hs with e | e | e | e
 ·exact h.nc.1 e
 ·exact h.nc.2.1 e
 ·exact h.nc.2.2.1 e
 ·exact h.nc.2.2.2 e
theorem post_pos {o d b : Int} (h : 0 < b) : postBy o d b = [⟨putK o d, o, 1, 0, b⟩] := by unfold postBy; rw [if_pos h]
theorem post_neg {o d b : Int} (h : b < 0) : postBy o d b = [⟨putK o d, o, 3, 1, -b⟩] := by unfold postBy; rw [if_neg (by omega), if_pos h]
theorem post_nil {o d b : Int} (h1 : ¬ 0 < b) (h2 : ¬ b < 0) : postBy o d b = [] := by unfold postBy; rw [if_neg h1, if_neg h2]
theorem creply_any {B : Nat} {w : World} {cb bb pm bm : Nat} {vl vb vI : Value} {c : Cor} (h : Cw B w cb bb pm bm vl vb vI c) (o d code : Int) (ho : -9223372036854775808 ≤ o ∧ o ≤ 9223372036854775807) (hl : c.l.length ≤ 100000) (hbl : c.b.length ≤ 100000) (ham : ∀ s ∈ c.l, 0 ≤ s.amt ∧ s.amt ≤ 1099511627776)
  (hp : replyE c o d code = 0 → ∀ p ∈ postR c o d code, mayP p ∧ ∀ x ∈ c.b, x.id ≠ p.id) (hput : ∀ W, Below B w W → Calls Tryz.prog 102 #[.agg #[.int .i64 o, .int .i64 d]] W fun e w' => e = .returned (.string ⟨(putK o d).toArray⟩) ∧ Below W.heap.size W w') :
  Calls Tryz.prog 59 #[.pointer (some ⟨cb, 0, none⟩), .agg #[.int .i64 o, .int .i64 d], .int .i64 code] w fun e w' => ∃ vb', e = .returned (.int .i64 (replyE c o d code)) ∧ Cw B w' cb bb pm bm vl vb' vI (replyC c o d code) ∧ Turned (Cs cb bb pm bm vl vb) w w' ∧ ∀ j, vb'.ownBlock = some j → vb.ownBlock = some j ∨ w.heap.size ≤ j := by
 obtain ⟨A, cl, rfl, _⟩ := own_slice h.ol
 have HC0 := Hd h
 obtain ⟨wa, hA⟩ : ∃ wa, wa = w.alloc (.cells #[.int .i64 o, .int .i64 d] tKey) := ⟨_, rfl⟩
 have hB : Below w.heap.size w wa := by rw [hA]; exact below_alloc _ _
 have hX : wa.heap[w.heap.size]? = some (.cells #[.int .i64 o, .int .i64 d] tKey (0, 0)) := by rw [hA]; exact heap_new _ _
 have HC := Hd (h.below hB)
 have HA := Hd hA; have HB := Hd hB; have HX := Hd hX; have HPUT := Hd hput; have HPP := Hd hp; have HAM := Hd ham
 clear hA hB hX h hput hp ham
 obtain ⟨k0, k1, _, _⟩ := cell2 HX.out
 go_enter Tryz.func59, Tryz.ntmps59
 go_upto_region 1 with (fail)
 rw [← HA.out]
 go_wp2_with fail
 refine (corder_any HC.out o ho hl).mono ?_
 rintro e w1 ⟨hyes, hno, hb⟩
 have HX1 := Hd (heap_keep HX.out hb); have HB1 := Hd (bch HB.out hb HB.out.size); have HC1 := Hd (HC.out.below hb)
 clear hb k0 k1 HX HB HC HA
 obtain ⟨k0, k1, _, _⟩ := cell2 HX1.out
 by_cases hn : o < 1 ∨ (c.l.length : Int) < o
 ·obtain rfl := hno hn
  have HE := Hd (show replyE c o d code = 4 by unfold replyE; rw [if_pos hn])
  have HCC := Hd (show replyC c o d code = c by unfold replyC; rw [if_neg (by rw [HE.out]; decide)])
  clear hyes hno hn
  go_upto_region 2 with (fail)
  obtain ⟨w2, hw2⟩ : ∃ w2, w2 = w1.alloc (.cells (sgA sg0) tSaga) := ⟨_, rfl⟩
  rw [← hw2]
  have hb2 : Below w1.heap.size w1 w2 := by rw [hw2]; exact below_alloc _ _
  have HB2 := Hd (bch HB1.out hb2 HB1.out.size); have HC2 := Hd (HC1.out.below hb2)
  clear hw2 hb2
  go_wp2_with fail
  go_ret
  exact ⟨vb, by rw [HE.out]; rfl, by rw [HCC.out]; exact HC2.out, Turned.of_below HB2.out, fun j h => .inl h⟩
 ·have ho1 : 1 ≤ o := by omega
  obtain ⟨s, hs⟩ : ∃ s, c.l[o.toNat - 1]? = some s := ⟨_, List.getElem?_eq_getElem (by omega)⟩
  obtain rfl := hyes s ho1 hs
  obtain ⟨kk, rfl⟩ : ∃ kk : Nat, o = (kk : Int) + 1 := ⟨(o - 1).toNat, by omega⟩
  have hkk : ((kk : Int) + 1).toNat - 1 = kk := by omega
  rw [hkk] at hs
  have hkl : kk < c.l.length := (List.getElem?_eq_some_iff.1 hs).1
  have HS := Hd hs
  have hsa := HAM.out s (List.mem_of_getElem? hs)
  have HR := Hd (show replyE c ((kk : Int) + 1) d code = if replyB s d code = true then 0 else 92 by unfold replyE; rw [if_neg hn, hkk, hs])
  clear hyes hno hn hs
  go_upto_region 4 with (fail)
  obtain ⟨w2, hw2⟩ : ∃ w2, w2 = w1.alloc (.cells (sgA s) tSaga) := ⟨_, rfl⟩
  rw [← hw2]
  have hb2 : Below w1.heap.size w1 w2 := by rw [hw2]; exact below_alloc _ _
  have HS2 := Hd (show w2.heap[w1.heap.size]? = some (.cells (sgA s) tSaga (0, 0)) by rw [hw2]; exact heap_new _ _)
  have HX2 := Hd (heap_keep HX1.out hb2); have HB2 := Hd (bch HB1.out hb2 HB1.out.size); have HC2 := Hd (HC1.out.below hb2)
  have hz1 : w.heap.size < w1.heap.size := heap_lt HX1.out
  clear hw2 hb2 k0 k1 HX1 HB1 HC1
  generalize w1.heap.size = b7 at HS2 hz1 ⊢
  obtain ⟨k0, k1, _, _⟩ := cell2 HX2.out
  obtain ⟨c0, c1, c2, c3, c4, c5, c6, c7, c8, c9, c10, c11⟩ := sg_box HS2.out
  go_wp2_with fail
  cases hr : replyB s d code with
  | false =>
   refine (reply_no s d code w2 hr).mono ?_
   rintro e w3 ⟨rfl, hb⟩
   have HE := Hd (show replyE c ((kk : Int) + 1) d code = 92 by rw [HR.out, hr]; rfl)
   have HCC := Hd (show replyC c ((kk : Int) + 1) d code = c by unfold replyC; rw [if_neg (by rw [HE.out]; decide)])
   have HB3 := Hd (bch HB2.out hb HB2.out.size); have HC3 := Hd (HC2.out.below hb)
   clear hb k0 k1 c0 c1 c2 c3 c4 c5 c6 c7 c8 c9 c10 c11 HB2 HC2
   go_upto_region 5 with (fail)
   obtain ⟨w4, hw4⟩ : ∃ w4, w4 = w3.alloc (.cells (sgA sg0) tSaga) := ⟨_, rfl⟩
   rw [← hw4]
   have hb4 : Below w3.heap.size w3 w4 := by rw [hw4]; exact below_alloc _ _
   have HB4 := Hd (bch HB3.out hb4 HB3.out.size); have HC4 := Hd (HC3.out.below hb4)
   clear hw4 hb4
   go_wp2_with fail
   go_ret
   exact ⟨vb, by rw [HE.out]; rfl, by rw [HCC.out]; exact HC4.out, Turned.of_below HB4.out, fun j h => .inl h⟩
  | true =>
   refine (reply_yes s d code w2 hr).mono ?_
   obtain ⟨t, ht0⟩ : ∃ t, replyI s d code = t := ⟨_, rfl⟩
   rw [ht0]
   rintro e w3 ⟨rfl, hb⟩
   have HE := Hd (show replyE c ((kk : Int) + 1) d code = 0 by rw [HR.out, hr]; rfl)
   have HPP := Hd (HPP.out HE.out)
   have HPR := Hd (show postR c ((kk : Int) + 1) d code = postBy ((kk : Int) + 1) d (Sa.netI t - Sa.netI s) by unfold postR; rw [hkk, HS.out]; simp only [ht0])
   have HCC := Hd (show replyC c ((kk : Int) + 1) d code = { c with l := c.l.set kk t, b := c.b ++ postBy ((kk : Int) + 1) d (Sa.netI t - Sa.netI s) } by unfold replyC; rw [if_pos HE.out, hkk, HS.out]; simp only [ht0, HPR.out])
   have hta : t.amt = s.amt := by rw [← ht0]; unfold replyI; exact (onI_keeps _).2.2.trans (setI_keeps s d (code + 1)).2.2
   have hnt := net_bd (s := t) (by rw [hta]; exact hsa)
   have hns := net_bd hsa
   clear ht0 hta hr
   have HX3 := Hd (heap_keep HX2.out hb); have HS3 := Hd (heap_keep HS2.out hb); have HB3 := Hd (bch HB2.out hb HB2.out.size); have HC3 := Hd (HC2.out.below hb)
   clear hb k0 k1 c0 c1 c2 c3 c4 c5 c6 c7 c8 c9 c10 c11 HX2 HS2 HB2 HC2
   go_upto_region 7 with (fail)
   obtain ⟨w4, hw4⟩ : ∃ w4, w4 = w3.alloc (.cells (sgA t) tSaga) := ⟨_, rfl⟩
   rw [← hw4]
   have hb4 : Below w3.heap.size w3 w4 := by rw [hw4]; exact below_alloc _ _
   have HT4 := Hd (show w4.heap[w3.heap.size]? = some (.cells (sgA t) tSaga (0, 0)) by rw [hw4]; exact heap_new _ _)
   have HX4 := Hd (heap_keep HX3.out hb4); have HS4 := Hd (heap_keep HS3.out hb4); have HB4 := Hd (bch HB3.out hb4 HB3.out.size); have HC4 := Hd (HC3.out.below hb4)
   have hz3 : b7 < w3.heap.size := heap_lt HS3.out
   clear hw4 hb4 HX3 HS3 HB3 HC3
   generalize w3.heap.size = b9 at HT4 hz3 ⊢
   rcases own_ptr HC0.out.ol with ⟨_, h0⟩ | ⟨g, c2', es, hgB, hgl, hgc⟩
   ·omega
   injection es with es1 es2 es3; subst es1; clear es2 es3
   obtain ⟨k0, k1, _, _⟩ := cell2 HX4.out
   obtain ⟨c0, c1, c2, c3, c4, c5, c6, c7, c8, c9, c10, c11⟩ := sg_box HT4.out
   obtain ⟨y0, y1⟩ := HC4.out.c01
   have r0 := own_cellK encS_len (by decide) HC4.out.ol HS.out 0 (by decide)
   have r1 := own_cellK encS_len (by decide) HC4.out.ol HS.out 1 (by decide)
   have r2 := own_cellK encS_len (by decide) HC4.out.ol HS.out 2 (by decide)
   have r3 := own_cellK encS_len (by decide) HC4.out.ol HS.out 3 (by decide)
   have r4 := own_cellK encS_len (by decide) HC4.out.ol HS.out 4 (by decide)
   have r5 := own_cellK encS_len (by decide) HC4.out.ol HS.out 5 (by decide)
   have r6 := own_cellK encS_len (by decide) HC4.out.ol HS.out 6 (by decide)
   have r7 := own_cellK encS_len (by decide) HC4.out.ol HS.out 7 (by decide)
   have r8 := own_cellK encS_len (by decide) HC4.out.ol HS.out 8 (by decide)
   have r9 := own_cellK encS_len (by decide) HC4.out.ol HS.out 9 (by decide)
   have r10 := own_cellK encS_len (by decide) HC4.out.ol HS.out 10 (by decide)
   have r11 := own_cellK encS_len (by decide) HC4.out.ol HS.out 11 (by decide)
   simp only [encS, sgA, List.getElem?_cons_zero, List.getElem?_cons_succ, Nat.add_zero] at r0 r1 r2 r3 r4 r5 r6 r7 r8 r9 r10 r11
   have q0 := HC4.out.ol.frozenAt (kk * 12)
   have q1 := HC4.out.ol.frozenAt (kk * 12 + 1)
   have q2 := HC4.out.ol.frozenAt (kk * 12 + 2)
   have q3 := HC4.out.ol.frozenAt (kk * 12 + 3)
   have q4 := HC4.out.ol.frozenAt (kk * 12 + 4)
   have q5 := HC4.out.ol.frozenAt (kk * 12 + 5)
   have q6 := HC4.out.ol.frozenAt (kk * 12 + 6)
   have q7 := HC4.out.ol.frozenAt (kk * 12 + 7)
   have q8 := HC4.out.ol.frozenAt (kk * 12 + 8)
   have q9 := HC4.out.ol.frozenAt (kk * 12 + 9)
   have q10 := HC4.out.ol.frozenAt (kk * 12 + 10)
   have q11 := HC4.out.ol.frozenAt (kk * 12 + 11)
   have hw1 : IntKind.i64.wrap ((kk : Int) + 1 - 1) = kk := by rw [show (kk : Int) + 1 - 1 = kk by omega]; exact IntWalk.i64_in _ (by omega)
   have hkI : (kk : Int) < c.l.length := by omega
   have hkI0 : (0 : Int) ≤ kk := by omega
   have hgne : g ≠ b9 ∧ g ≠ b7 ∧ g ≠ w.heap.size := by omega
   go_region
   go_wp2_with fail
   obtain ⟨w5, hw5⟩ : ∃ w5, w5 = (set12k w4 g kk t).drew := ⟨_, rfl⟩
   rw [show ((((((((((((w4.setCell ⟨g, kk * 12, none⟩ (.int .i64 t.id)).setCell ⟨g, kk * 12 + 1, none⟩ (.string ⟨t.ref.toArray⟩)).setCell ⟨g, kk * 12 + 2, none⟩ (.string ⟨t.sku.toArray⟩)).setCell ⟨g, kk * 12 + 3, none⟩ (.int .i64 t.qty)).setCell ⟨g, kk * 12 + 4, none⟩ (.int .i64 t.amt)).setCell ⟨g, kk * 12 + 5, none⟩ (.int .i64 t.d0)).setCell ⟨g, kk * 12 + 6, none⟩ (.int .i64 t.d1)).setCell ⟨g, kk * 12 + 7, none⟩ (.int .i64 t.d2)).setCell ⟨g, kk * 12 + 8, none⟩ (.int .i64 t.d3)).setCell ⟨g, kk * 12 + 9, none⟩ (.int .i64 t.d4)).setCell ⟨g, kk * 12 + 10, none⟩ (.int .i64 t.d5)).setCell ⟨g, kk * 12 + 11, none⟩ (.bool t.can)).drew = w5 from hw5.symm]
   have ht5 : Turned (fun j => j = g) w4 w5 := by rw [hw5]; exact (turned_set12k w4 g kk t).drew
   have HC5 := Hd (show Cw B w5 cb bb pm bm (.slice (some ⟨g, 0, none⟩) c.l.length cl) vb vI { c with l := c.l.set kk t } by rw [hw5]; exact (show Cw B (set12k w4 g kk t) cb bb pm bm (.slice (some ⟨g, 0, none⟩) c.l.length cl) vb vI { c with l := c.l.set kk t } from HC4.out.setSaga hkl t).below (below_drew1 (Below.refl _ _)))
   have HX5 := Hd (heap_turned HX4.out ht5 (fun e => hgne.2.2 e.symm)); have HS5 := Hd (heap_turned HS4.out ht5 (fun e => hgne.2.1 e.symm)); have HT5 := Hd (heap_turned HT4.out ht5 (fun e => hgne.1 e.symm))
   have HTT := Hd (show Turned (Cs cb bb pm bm (.slice (some ⟨g, 0, none⟩) c.l.length cl) vb) w w5 from (Turned.of_below HB4.out).trans (ht5.mono (fun i h => .inr (.inr (by rw [h]; rfl)))))
   clear hw5 ht5 HX4 HS4 HT4 HC4 HB4 k0 k1 y0 y1 c0 c1 c2 c3 c4 c5 c6 c7 c8 c9 c10 c11 r0 r1 r2 r3 r4 r5 r6 r7 r8 r9 r10 r11 q0 q1 q2 q3 q4 q5 q6 q7 q8 q9 q10 q11
   obtain ⟨c0, c1, c2, c3, c4, c5, c6, c7, c8, c9, c10, c11⟩ := sg_box HT5.out
   obtain ⟨e0, e1, e2, e3, e4, e5, e6, e7, e8, e9, e10, e11⟩ := sg_box HS5.out
   have HH := Hd (fun W (hb : Below w5.heap.size w5 W) => (⟨Hd hb, kc hb c0, kc hb c1, kc hb c2, kc hb c3, kc hb c4, kc hb c5, kc hb c6, kc hb c7, kc hb c8, kc hb c9, kc hb c10, kc hb c11, kc hb e0, kc hb e1, kc hb e2, kc hb e3, kc hb e4, kc hb e5, kc hb e6, kc hb e7, kc hb e8, kc hb e9, kc hb e10, kc hb e11⟩ : (fun w' => Hid (Below w5.heap.size w5 w') ∧ w'.cell? ⟨b9, 0, none⟩ = some (.int .i64 t.id) ∧ w'.cell? ⟨b9, 1, none⟩ = some (.string ⟨t.ref.toArray⟩) ∧ w'.cell? ⟨b9, 2, none⟩ = some (.string ⟨t.sku.toArray⟩) ∧ w'.cell? ⟨b9, 3, none⟩ = some (.int .i64 t.qty) ∧ w'.cell? ⟨b9, 4, none⟩ = some (.int .i64 t.amt) ∧ w'.cell? ⟨b9, 5, none⟩ = some (.int .i64 t.d0) ∧ w'.cell? ⟨b9, 6, none⟩ = some (.int .i64 t.d1) ∧ w'.cell? ⟨b9, 7, none⟩ = some (.int .i64 t.d2) ∧ w'.cell? ⟨b9, 8, none⟩ = some (.int .i64 t.d3) ∧ w'.cell? ⟨b9, 9, none⟩ = some (.int .i64 t.d4) ∧ w'.cell? ⟨b9, 10, none⟩ = some (.int .i64 t.d5) ∧ w'.cell? ⟨b9, 11, none⟩ = some (.bool t.can) ∧ w'.cell? ⟨b7, 0, none⟩ = some (.int .i64 s.id) ∧ w'.cell? ⟨b7, 1, none⟩ = some (.string ⟨s.ref.toArray⟩) ∧ w'.cell? ⟨b7, 2, none⟩ = some (.string ⟨s.sku.toArray⟩) ∧ w'.cell? ⟨b7, 3, none⟩ = some (.int .i64 s.qty) ∧ w'.cell? ⟨b7, 4, none⟩ = some (.int .i64 s.amt) ∧ w'.cell? ⟨b7, 5, none⟩ = some (.int .i64 s.d0) ∧ w'.cell? ⟨b7, 6, none⟩ = some (.int .i64 s.d1) ∧ w'.cell? ⟨b7, 7, none⟩ = some (.int .i64 s.d2) ∧ w'.cell? ⟨b7, 8, none⟩ = some (.int .i64 s.d3) ∧ w'.cell? ⟨b7, 9, none⟩ = some (.int .i64 s.d4) ∧ w'.cell? ⟨b7, 10, none⟩ = some (.int .i64 s.d5) ∧ w'.cell? ⟨b7, 11, none⟩ = some (.bool s.can)) W))
   refine wp_region_noPanic ?_
   refine wp_region_held_drew (S := (fun w' => Hid (Below w5.heap.size w5 w') ∧ w'.cell? ⟨b9, 0, none⟩ = some (.int .i64 t.id) ∧ w'.cell? ⟨b9, 1, none⟩ = some (.string ⟨t.ref.toArray⟩) ∧ w'.cell? ⟨b9, 2, none⟩ = some (.string ⟨t.sku.toArray⟩) ∧ w'.cell? ⟨b9, 3, none⟩ = some (.int .i64 t.qty) ∧ w'.cell? ⟨b9, 4, none⟩ = some (.int .i64 t.amt) ∧ w'.cell? ⟨b9, 5, none⟩ = some (.int .i64 t.d0) ∧ w'.cell? ⟨b9, 6, none⟩ = some (.int .i64 t.d1) ∧ w'.cell? ⟨b9, 7, none⟩ = some (.int .i64 t.d2) ∧ w'.cell? ⟨b9, 8, none⟩ = some (.int .i64 t.d3) ∧ w'.cell? ⟨b9, 9, none⟩ = some (.int .i64 t.d4) ∧ w'.cell? ⟨b9, 10, none⟩ = some (.int .i64 t.d5) ∧ w'.cell? ⟨b9, 11, none⟩ = some (.bool t.can) ∧ w'.cell? ⟨b7, 0, none⟩ = some (.int .i64 s.id) ∧ w'.cell? ⟨b7, 1, none⟩ = some (.string ⟨s.ref.toArray⟩) ∧ w'.cell? ⟨b7, 2, none⟩ = some (.string ⟨s.sku.toArray⟩) ∧ w'.cell? ⟨b7, 3, none⟩ = some (.int .i64 s.qty) ∧ w'.cell? ⟨b7, 4, none⟩ = some (.int .i64 s.amt) ∧ w'.cell? ⟨b7, 5, none⟩ = some (.int .i64 s.d0) ∧ w'.cell? ⟨b7, 6, none⟩ = some (.int .i64 s.d1) ∧ w'.cell? ⟨b7, 7, none⟩ = some (.int .i64 s.d2) ∧ w'.cell? ⟨b7, 8, none⟩ = some (.int .i64 s.d3) ∧ w'.cell? ⟨b7, 9, none⟩ = some (.int .i64 s.d4) ∧ w'.cell? ⟨b7, 10, none⟩ = some (.int .i64 s.d5) ∧ w'.cell? ⟨b7, 11, none⟩ = some (.bool s.can))) (by kernel_rfl) (HH.out _ (below_drew1 (Below.refl w5.heap.size w5))) (fun hHeld => ?_)
   refine tk 0 rfl rfl ‹_› ?_; try go_frame
   refine tk 2 rfl rfl ‹_› ?_; try go_frame
   refine rdy 1 rfl (fun K hK => ?_)
   go_simp
   refine (net_any t _).mono ?_
   rintro e w6 ⟨rfl, hb6⟩
   have HB6 := Hd (bch (below_drew1 (Below.refl w5.heap.size w5)) hb6 (Below.size (below_drew1 (Below.refl w5.heap.size w5))))
   clear hb6
   refine hK.out _ _ (HH.out _ (HB6.out)) (fun hHeld => ?_)
   clear hK K
   (try simp only [gx1, gx2, gx3]); try go_frame
   refine rdy 3 rfl (fun K hK => ?_)
   go_simp
   refine (net_any s _).mono ?_
   rintro e w7 ⟨rfl, hb7⟩
   have HB7 := Hd (bch HB6.out hb7 HB6.out.size)
   clear hb7
   refine hK.out _ _ (HH.out _ (HB7.out)) (fun hHeld => ?_)
   clear hK K
   (try simp only [gx1, gx2, gx3]); try go_frame
   refine tk 4 rfl rfl ‹_› ?_; try go_frame
   refine tk 5 rfl rfl ‹_› ?_; try go_frame
   refine wpAnyH_done (by kernel_rfl) ?_ _
   refine NoPanic.normal ?_
   have HX7 := Hd (heap_keep HX5.out HB7.out); have HC7 := Hd (HC5.out.below HB7.out); have HT7 := Hd (HTT.out.trans (Turned.of_below HB7.out))
   clear hHeld HH HB6 HB7 HX5 HS5 HT5 HC5 HTT c0 c1 c2 c3 c4 c5 c6 c7 c8 c9 c10 c11 e0 e1 e2 e3 e4 e5 e6 e7 e8 e9 e10 e11
   rw [HPR.out] at HPP
   obtain ⟨by_, hby⟩ : ∃ b, Sa.netI t - Sa.netI s = b := ⟨_, rfl⟩
   rw [hby] at HPP HCC ⊢
   have hbyb : -1099511627776 ≤ by_ ∧ by_ ≤ 1099511627776 := by omega
   clear hby HPR hnt hns
   rw [show IntKind.i64.wrap by_ = by_ from IntWalk.i64_in _ (by omega)]
   have hwn : IntKind.i64.wrap (-by_) = -by_ := IntWalk.i64_in _ (by omega)
   have hBw : B ≤ w.heap.size := by have := HC0.out.ge; have := heap_lt HC0.out.hc; omega
   have HBB := Hd (Below.turned (Below.refl B w) HT7.out (fun i hi => (HC0.out.ls hi).1) hBw)
   have hsw : w.heap.size ≤ w7.heap.size := HT7.out.size
   have hcbB := HC7.out.cbB
   have hxB : ¬ Bs bb pm bm vb w.heap.size := fun hs => by have := (HC0.out.bk.ls hs).2; omega
   by_cases hpos : 0 < by_
   ·have HPB := Hd (post_pos (o := (kk : Int) + 1) (d := d) hpos)
    rw [HPB.out] at HPP HCC
    obtain ⟨hm, hf⟩ := HPP.out _ (List.mem_singleton.2 rfl)
    have HM := Hd hm; have HF := Hd hf
    clear hm hf
    go_wp2_with fail
    have HH := Hd (fun W' (hb : Turned (Bs bb pm bm vb) w7 W') => (⟨Hd hb, cell_at (heap_turned HC7.out.hc hb hcbB) 1 (by simp [Array.getElem?_append]), cell_at (heap_turned HX7.out hb hxB) 0 rfl, cell_at (heap_turned HX7.out hb hxB) 1 rfl⟩ : (fun w' => Hid (Turned (Bs bb pm bm vb) w7 w') ∧ w'.cell? ⟨cb, 1, none⟩ = some (.pointer (some ⟨bb, 0, none⟩)) ∧ w'.cell? ⟨w.heap.size, 0, none⟩ = some (.int .i64 ((kk : Int) + 1)) ∧ w'.cell? ⟨w.heap.size, 1, none⟩ = some (.int .i64 d)) W'))
    refine wp_region_noPanic ?_
    refine wp_region_held_drew (S := (fun w' => Hid (Turned (Bs bb pm bm vb) w7 w') ∧ w'.cell? ⟨cb, 1, none⟩ = some (.pointer (some ⟨bb, 0, none⟩)) ∧ w'.cell? ⟨w.heap.size, 0, none⟩ = some (.int .i64 ((kk : Int) + 1)) ∧ w'.cell? ⟨w.heap.size, 1, none⟩ = some (.int .i64 d))) (by kernel_rfl) (HH.out _ ((Turned.refl _ w7).drew)) (fun hHeld => ?_)
    refine tk 0 rfl rfl ‹_› ?_; try go_frame
    refine tk 1 rfl rfl ‹_› ?_; try go_frame
    refine tk 2 rfl rfl ‹_› ?_; try go_frame
    refine tk 3 rfl rfl ‹_› ?_; try go_frame
    refine tk 4 rfl rfl ‹_› ?_; try go_frame
    refine tk 6 rfl rfl ‹_› ?_; try go_frame
    refine tk 7 rfl rfl ‹_› ?_; try go_frame
    refine tk 8 rfl rfl ‹_› ?_; try go_frame
    refine rdy 5 rfl (fun K hK => ?_)
    go_simp
    refine (HPUT.out _ (below_drew1' HBB.out)).mono ?_
    rintro e w8 ⟨rfl, hb8⟩
    have HB8 := Hd (bch (below_drew1 (Below.refl w7.heap.size w7)) hb8 (Nat.le_refl _))
    clear hb8
    refine hK.out _ _ (HH.out _ ((Turned.of_below HB8.out))) (fun hHeld => ?_)
    clear hK K
    (try simp only [gx1, gx2, gx3]); try go_frame
    refine tk 9 rfl rfl ‹_› ?_; try go_frame
    refine rdy 10 rfl (fun K hK => ?_)
    go_simp
    refine (bpost_any (HC7.out.bk.below HB8.out) ⟨putK ((kk : Int) + 1) d, (kk : Int) + 1, 1, 0, by_⟩ HM.out HF.out hbl).mono ?_
    rintro e w9 ⟨vb', rfl, hnew, ht9, hfar⟩
    have HN9 := Hd hnew; have HT9 := Hd ht9; have HF9 := Hd hfar
    clear hnew ht9 hfar
    refine hK.out _ _ (HH.out _ ((Turned.of_below HB8.out).trans HT9.out)) (fun hHeld => ?_)
    clear hK K
    (try simp only [gx1, gx2, gx3]); try go_frame
    refine wpAnyH_done (by kernel_rfl) ?_ _
    refine NoPanic.normal ?_
    clear hHeld HH
    go_wp2_with fail
    go_ret
    have hA1 : Cw B w9 cb bb pm bm (.slice (some ⟨g, 0, none⟩) c.l.length cl) vb' vI (replyC c ((kk : Int) + 1) d code) := by rw [HCC.out]; exact (HC7.out.below HB8.out).post HN9.out HT9.out HF9.out
    have hA2 := (HT7.out.trans (Turned.of_below HB8.out)).trans (HT9.out.mono (S' := Cs cb bb pm bm (.slice (some ⟨g, 0, none⟩) c.l.length cl) vb) (fun i h => .inr (.inl h)))
    have hA3 : ∀ j, vb'.ownBlock = some j → vb.ownBlock = some j ∨ w.heap.size ≤ j := fun j hj => (HF9.out j hj).imp id (fun h => by have := HB8.out.size; omega)
    first | refine ⟨vb', ?_, hA1, hA2, hA3⟩ | refine ⟨?_, vb', hA1, hA2, hA3⟩
    rw [HE.out]; rfl
   ·by_cases hneg : by_ < 0
    ·have HPB := Hd (post_neg (o := (kk : Int) + 1) (d := d) hneg)
     rw [HPB.out] at HPP HCC
     obtain ⟨hm, hf⟩ := HPP.out _ (List.mem_singleton.2 rfl)
     have HM := Hd hm; have HF := Hd hf
     clear hm hf
     go_wp2_with fail
     have HH := Hd (fun W' (hb : Turned (Bs bb pm bm vb) w7 W') => (⟨Hd hb, cell_at (heap_turned HC7.out.hc hb hcbB) 1 (by simp [Array.getElem?_append]), cell_at (heap_turned HX7.out hb hxB) 0 rfl, cell_at (heap_turned HX7.out hb hxB) 1 rfl⟩ : (fun w' => Hid (Turned (Bs bb pm bm vb) w7 w') ∧ w'.cell? ⟨cb, 1, none⟩ = some (.pointer (some ⟨bb, 0, none⟩)) ∧ w'.cell? ⟨w.heap.size, 0, none⟩ = some (.int .i64 ((kk : Int) + 1)) ∧ w'.cell? ⟨w.heap.size, 1, none⟩ = some (.int .i64 d)) W'))
     refine wp_region_noPanic ?_
     refine wp_region_held_drew (S := (fun w' => Hid (Turned (Bs bb pm bm vb) w7 w') ∧ w'.cell? ⟨cb, 1, none⟩ = some (.pointer (some ⟨bb, 0, none⟩)) ∧ w'.cell? ⟨w.heap.size, 0, none⟩ = some (.int .i64 ((kk : Int) + 1)) ∧ w'.cell? ⟨w.heap.size, 1, none⟩ = some (.int .i64 d))) (by kernel_rfl) (HH.out _ ((Turned.refl _ w7).drew)) (fun hHeld => ?_)
     refine tk 0 rfl rfl ‹_› ?_; try go_frame
     refine tk 1 rfl rfl ‹_› ?_; try go_frame
     refine tk 2 rfl rfl ‹_› ?_; try go_frame
     refine tk 3 rfl rfl ‹_› ?_; try go_frame
     refine tk 4 rfl rfl ‹_› ?_; try go_frame
     refine tk 6 rfl rfl ‹_› ?_; try go_frame
     refine tk 7 rfl rfl ‹_› ?_; try go_frame
     refine tk 8 rfl rfl ‹_› ?_; try go_frame
     refine tk 9 rfl rfl ‹_› ?_; try go_frame
     refine rdy 5 rfl (fun K hK => ?_)
     go_simp
     refine (HPUT.out _ (below_drew1' HBB.out)).mono ?_
     rintro e w8 ⟨rfl, hb8⟩
     have HB8 := Hd (bch (below_drew1 (Below.refl w7.heap.size w7)) hb8 (Nat.le_refl _))
     clear hb8
     refine hK.out _ _ (HH.out _ ((Turned.of_below HB8.out))) (fun hHeld => ?_)
     clear hK K
     (try simp only [gx1, gx2, gx3]); try go_frame
     refine tk 10 rfl rfl ‹_› ?_; try go_frame
     refine rdy 11 rfl (fun K hK => ?_)
     go_simp
     refine (bpost_any (HC7.out.bk.below HB8.out) ⟨putK ((kk : Int) + 1) d, (kk : Int) + 1, 3, 1, -by_⟩ HM.out HF.out hbl).mono ?_
     rintro e w9 ⟨vb', rfl, hnew, ht9, hfar⟩
     have HN9 := Hd hnew; have HT9 := Hd ht9; have HF9 := Hd hfar
     clear hnew ht9 hfar
     refine hK.out _ _ (HH.out _ ((Turned.of_below HB8.out).trans HT9.out)) (fun hHeld => ?_)
     clear hK K
     (try simp only [gx1, gx2, gx3]); try go_frame
     refine wpAnyH_done (by kernel_rfl) ?_ _
     refine NoPanic.normal ?_
     clear hHeld HH
     go_wp2_with fail
     go_ret
     have hA1 : Cw B w9 cb bb pm bm (.slice (some ⟨g, 0, none⟩) c.l.length cl) vb' vI (replyC c ((kk : Int) + 1) d code) := by rw [HCC.out]; exact (HC7.out.below HB8.out).post HN9.out HT9.out HF9.out
     have hA2 := (HT7.out.trans (Turned.of_below HB8.out)).trans (HT9.out.mono (S' := Cs cb bb pm bm (.slice (some ⟨g, 0, none⟩) c.l.length cl) vb) (fun i h => .inr (.inl h)))
     have hA3 : ∀ j, vb'.ownBlock = some j → vb.ownBlock = some j ∨ w.heap.size ≤ j := fun j hj => (HF9.out j hj).imp id (fun h => by have := HB8.out.size; omega)
     first | refine ⟨vb', ?_, hA1, hA2, hA3⟩ | refine ⟨?_, vb', hA1, hA2, hA3⟩
     rw [HE.out]; rfl
    ·have HPB := Hd (post_nil (o := (kk : Int) + 1) (d := d) hpos hneg)
     rw [HPB.out, List.append_nil] at HCC
     go_wp2_with fail
     go_ret
     first | exact ⟨vb, by rw [HE.out]; rfl, by rw [HCC.out]; exact HC7.out, HT7.out, fun j hj => .inl hj⟩ | exact ⟨by rw [HE.out]; rfl, vb, by rw [HCC.out]; exact HC7.out, HT7.out, fun j hj => .inl hj⟩
end Go.Proofs.YtlkncmpengpbiaaGreatDoor

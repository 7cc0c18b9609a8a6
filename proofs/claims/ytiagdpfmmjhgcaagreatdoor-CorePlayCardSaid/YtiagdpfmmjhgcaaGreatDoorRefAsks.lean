/- The document's core in memory: New, has, set, post, Net, digits. -/
import Derived.Test.YtiagdpfmmjhgcaaGreatDoorRefOCk
import Derived.Test.YtiagdpfmmjhgcaaGreatDoorIntakeRef
import Derived.Test.YtiagdpfmmjhgcaaGreatDoorEntRows
import Derived.Test.YtiagdpfmmjhgcaaGreatDoorRefSaga2
import Derived.Test.YtiagdpfmmjhgcaaGreatDoorShort
import Derived.Test.YtiagdpfmmjhgcaaGreatDoorKeyMap
import Derived.Test.YtiagdpfmmjhgcaaGreatDoorRowApp
import Derived.Test.YtiagdpfmmjhgcaaGreatDoorSrcOf
import Derived.Test.YtiagdpfmmjhgcaaGreatDoorRefPutK
import Derived.Test.YtiagdpfmmjhgcaaGreatDoorMatchRef
namespace Go.Proofs.YtiagdpfmmjhgcaaGreatDoor
open Go.RowKit Go.Maps Co Key Rw Sa Od
set_option linter.unusedSimpArgs false
set_option linter.unusedVariables false
set_option maxRecDepth 100000
set_option maxHeartbeats 16000000

abbrev tCoreR : TypeId := 54
abbrev tSagasR : TypeId := 48
theorem sagaR_info : (Tryz.prog.info? tSagaR).map (fun i => (i.zero, i.size, i.bytes)) = some (some (.agg #[.int .i64 0, .string ⟨#[]⟩, .string ⟨#[]⟩, .int .i64 0, .int .i64 0, .int .i64 0, .int .i64 0, .int .i64 0, .int .i64 0, .int .i64 0, .int .i64 0, .bool false]), 12, 112) := by kernel_rfl
/-- What is read stands, where other blocks turn. -/
theorem SlK.turned {α : Type} {w w' : World} {k : Nat} {R : List Value → α → Prop} {v : Value} {L : List α} (h : SlK w w.heap.size k R v L) {S : Nat → Prop} (ht : Turned S w w') (hS : ∀ b, S b → OffL b v L.length) : SlK w' w'.heap.size k R v L := by
 obtain ⟨A, n, c, rfl, hl, hn, hm, hc⟩ := h
 refine ⟨A, n, c, rfl, hl, hn, hm, fun i x hi => ?_⟩
 obtain ⟨b, o, cs, e, hlt, hk, hcell, hr⟩ := hc i x hi
 have hp : 0 < L.length := by have := (List.getElem?_eq_some_iff.1 hi).1; omega
 refine ⟨b, o, cs, e, Nat.lt_of_lt_of_le hlt ht.size, hk, fun j u hj => ?_, hr⟩
 have hb := ht.block b hlt (fun hs => hS b hs ⟨b, o, none⟩ n c (by rw [e]) hp rfl)
 have := hcell j u hj
 unfold World.cell? at this ⊢
 rw [hb]
 exact this
theorem SlK.farL {α : Type} {w : World} {k : Nat} {R : List Value → α → Prop} {v : Value} {L : List α} (h : SlK w w.heap.size k R v L) {b : Nat} (hb : w.heap.size ≤ b) : OffL b v L.length := by
 obtain ⟨A, n, c, rfl, hl, hn, hm, hc⟩ := h
 intro ad m c' e hp hh
 obtain ⟨g, o, cs, e2, hlt, _⟩ := hc 0 L[0] (List.getElem?_eq_getElem hp)
 injection e with e1 _ _
 rw [e1] at e2
 injection e2 with e2
 rw [e2] at hh
 simp only [] at hh
 omega
theorem src_enc {α : Type} {enc : α → List Value} {w : World} {B z : Nat} {v : Value} {l : List α} (h0 : 0 < z) (h1 : ∀ x, ∀ u ∈ enc x, u.oneCell' = true) (h : SlK w B z (fun cs x => cs = enc x) v l) (hn : NilOk v) : SrcL w v l.length z (l.flatMap enc) := by
 obtain ⟨C, hl, hk, hR, hs⟩ := slk_src h h0 hn (fun cs x e u hu => by rw [e] at hu; exact h1 x u hu)
 have : C = l.map enc := by
  apply List.ext_getElem?
  intro i
  rw [List.getElem?_map]
  cases hx : l[i]? with
  | none => rw [List.getElem?_eq_none (by have := List.getElem?_eq_none_iff.1 hx; omega)]; rfl
  | some x =>
   have hi := (List.getElem?_eq_some_iff.1 hx).1
   have hc : C[i]? = some (C[i]'(by omega)) := List.getElem?_eq_getElem (by omega)
   rw [hc, hR i _ x hc hx]; rfl
 rw [this] at hs
 rwa [List.flatMap_def]
theorem src_sgs {w : World} {v : Value} {l : List Sg} (h : Sgs w v l) : SrcL w v l.length 12 (l.flatMap encS) := src_enc (by decide) encS_one h.1 h.2
theorem src_pos {w : World} {v : Value} {l : List Po} (h : Pos w v l) : SrcL w v l.length 5 (l.flatMap encP) := src_enc (by decide) encP_one h.1 h.2
theorem Sgs.turned {w w' : World} {v : Value} {l : List Sg} (h : Sgs w v l) {S : Nat → Prop} (ht : Turned S w w') (hS : ∀ b, S b → OffL b v l.length) : Sgs w' v l := ⟨h.1.turned ht hS, h.2⟩
theorem Pos.turned {w w' : World} {v : Value} {l : List Po} (h : Pos w v l) {S : Nat → Prop} (ht : Turned S w w') (hS : ∀ b, S b → OffL b v l.length) : Pos w' v l := ⟨h.1.turned ht hS, h.2⟩
theorem AvR.far {w : World} {v : Value} {I : In.Inn} (h : InR w v I) {b : Nat} (hb : w.heap.size ≤ b) : AvR b v I := by
 obtain ⟨A0, n0, c0, A1, n1, c1, A2, n2, c2, rfl, h0, h1, h2⟩ := h
 exact AvR.of (h0.1.farL hb) (h1.1.farL hb) (h2.1.farL hb)
/-- The block rb holds the document's core. -/
structure Rr (w : World) (rb : Nat) (vL vB vI : Value) (c : Cor) : Prop where
 hc : w.heap[rb]? = some (.cells (#[vL, vB] ++ inn10 vI) tCoreR (0, 0))
 l : Sgs w vL c.l
 b : Pos w vB c.b
 i : InR w vI c.inn
 f : In.Fine c.inn
 nr : OffL rb vL c.l.length ∧ OffL rb vB c.b.length ∧ AvR rb vI c.inn
/-- Block j is none of the document's core. -/
def RAv (j rb : Nat) (vL vB vI : Value) (c : Cor) : Prop := j ≠ rb ∧ OffL j vL c.l.length ∧ OffL j vB c.b.length ∧ AvR j vI c.inn
theorem Rr.turned {w w' : World} {rb : Nat} {vL vB vI : Value} {c : Cor} (h : Rr w rb vL vB vI c) {S : Nat → Prop} (ht : Turned S w w') (hS : ∀ j, S j → RAv j rb vL vB vI c) : Rr w' rb vL vB vI c :=
 ⟨(ht.block _ (heap_lt h.hc) (fun hs => (hS _ hs).1 rfl)).trans h.hc, h.l.turned ht (fun j hj => (hS j hj).2.1), h.b.turned ht (fun j hj => (hS j hj).2.2.1), h.i.turned ht (fun j hj => (hS j hj).2.2.2), h.f, h.nr⟩
theorem Rr.below {w w' : World} {rb : Nat} {vL vB vI : Value} {c : Cor} (h : Rr w rb vL vB vI c) (hb : Below w.heap.size w w') : Rr w' rb vL vB vI c := h.turned (S := fun _ => False) (Turned.of_below hb) (fun _ h => h.elim)
theorem Rr.far {w : World} {rb : Nat} {vL vB vI : Value} {c : Cor} (h : Rr w rb vL vB vI c) {j : Nat} (hj : w.heap.size ≤ j) : RAv j rb vL vB vI c :=
 ⟨by have := heap_lt h.hc; omega, h.l.1.farL hj, h.b.1.farL hj, AvR.far h.i hj⟩
theorem Rr.c01 {w : World} {rb : Nat} {vL vB vI : Value} {c : Cor} (h : Rr w rb vL vB vI c) : w.cell? ⟨rb, 0, none⟩ = some vL ∧ w.cell? ⟨rb, 1, none⟩ = some vB := by
 have h' := h.hc
 exact ⟨cell_at h' 0 (by simp [Array.getElem?_append]), cell_at h' 1 (by simp [Array.getElem?_append])⟩
theorem Rr.froz {w : World} {rb : Nat} {vL vB vI : Value} {c : Cor} (h : Rr w rb vL vB vI c) (i : Nat) : w.frozen? ⟨rb, i, none⟩ = false := frozen_at h.hc i
/-- A step of the document's core: what it is then; no other old block turned; what was none of it is none of it. -/
structure RStp (Q : Nat → Prop) (w w' : World) (rb : Nat) (vL vB vI : Value) (c : Cor) (vL' vB' vI' : Value) (c' : Cor) : Prop where
 r : Rr w' rb vL' vB' vI' c'
 t : Turned (fun j => j = rb) w w'
 a : ∀ j, j < w.heap.size → Q j → RAv j rb vL vB vI c → RAv j rb vL' vB' vI' c'
theorem RStp.refl {Q : Nat → Prop} {w : World} {rb : Nat} {vL vB vI : Value} {c : Cor} (h : Rr w rb vL vB vI c) : RStp Q w w rb vL vB vI c vL vB vI c := ⟨h, Turned.refl _ _, fun _ _ _ h => h⟩
theorem RStp.below {Q : Nat → Prop} {w w' W : World} {rb : Nat} {vL vB vI vL' vB' vI' : Value} {c c' : Cor} (h : RStp Q w w' rb vL vB vI c vL' vB' vI' c') (hb : Below w'.heap.size w' W) : RStp Q w W rb vL vB vI c vL' vB' vI' c' :=
 ⟨h.r.below hb, h.t.trans (Turned.of_below hb), h.a⟩
theorem RStp.trans {Q : Nat → Prop} {w w' W : World} {rb : Nat} {vL vB vI vL' vB' vI' vL2 vB2 vI2 : Value} {c c' c2 : Cor} (h : RStp Q w w' rb vL vB vI c vL' vB' vI' c') (k : RStp Q w' W rb vL' vB' vI' c' vL2 vB2 vI2 c2) : RStp Q w W rb vL vB vI c vL2 vB2 vI2 c2 :=
 ⟨k.r, h.t.trans k.t, fun j hj hq ha => k.a j (Nat.lt_of_lt_of_le hj h.t.size) hq (h.a j hj hq ha)⟩
theorem RStp.after {Q : Nat → Prop} {w w' W : World} {rb : Nat} {vL vB vI vL' vB' vI' : Value} {c c' : Cor} (hb : Below w.heap.size w w') (k : RStp Q w' W rb vL vB vI c vL' vB' vI' c') : RStp Q w W rb vL vB vI c vL' vB' vI' c' :=
 ⟨k.r, (Turned.of_below hb).trans k.t, fun j hj hq ha => k.a j (Nat.lt_of_lt_of_le hj hb.size) hq ha⟩
theorem off_ge {B g n k c j : Nat} (hg : B ≤ g) (hj : j < B) : OffL j (.slice (some ⟨g, 0, none⟩) n c) k := by
 intro ad m c' e _ h
 injection e with e _ _
 injection e with e
 subst e
 simp only [] at h
 omega
theorem own_offL {w : World} {B : Nat} {e : TypeId} {z n k j : Nat} {v : Value} {xs : List Value} (h : w.ownsRow B e z v n xs) (hj : j < B) : OffL j v k := by
 rcases own_ptr h with ⟨rfl, _⟩ | ⟨g, c, rfl, hg, _⟩
 ·intro ad m c' e; cases e
 ·exact off_ge hg hj
theorem own_setR {w : World} {B g cl : Nat} {T : TypeId} {l : List Sg} (h : w.ownsRow B T 12 (.slice (some ⟨g, 0, none⟩) l.length cl) l.length (l.flatMap encS)) {k : Nat} (hk : k < l.length) (s : Sg) : (set12k w g k s).ownsRow B T 12 (.slice (some ⟨g, 0, none⟩) l.length cl) l.length ((l.set k s).flatMap encS) := by
 rw [← set_flat hk s]
 exact ((((((((((((h.stored (k * 12 + 0) _).1.stored (k * 12 + 1) _).1.stored (k * 12 + 2) _).1.stored (k * 12 + 3) _).1.stored (k * 12 + 4) _).1.stored (k * 12 + 5) _).1.stored (k * 12 + 6) _).1.stored (k * 12 + 7) _).1.stored (k * 12 + 8) _).1.stored (k * 12 + 9) _).1.stored (k * 12 + 10) _).1.stored (k * 12 + 11) _).1
theorem cw_set1 {w : World} {b : Nat} {v p q : Value} {arr : Array Value} {T : TypeId} (h : w.heap[b]? = some (.cells (#[v, p] ++ arr) T (0, 0))) : (w.setCell ⟨b, 1, none⟩ q).heap[b]? = some (.cells (#[v, q] ++ arr) T (0, 0)) := by
 simp [World.setCell, Array.getElem?_modify, h]
theorem rnew_any (w : World) : Calls Tryz.prog 7 #[] w fun e w' => e = .returned (.pointer (some ⟨w.heap.size, 0, none⟩)) ∧ Rr w' w.heap.size (.slice none 0 0) (.slice none 0 0) vInR0 nilC ∧ Below w.heap.size w w' := by
 have HB := Hd (below_alloc w (.cells #[.slice none 0 0, .slice none 0 0, .int .i64 0, .int .i64 0, .slice none 0 0, .int .i64 0, .int .i64 0, .slice none 0 0, .int .i64 0, .int .i64 0, .slice none 0 0] tCoreR))
 have HX := Hd (heap_new w (.cells #[.slice none 0 0, .slice none 0 0, .int .i64 0, .int .i64 0, .slice none 0 0, .int .i64 0, .int .i64 0, .slice none 0 0, .int .i64 0, .int .i64 0, .slice none 0 0] tCoreR))
 go_enter Tryz.func7, Tryz.ntmps7
 go_wp2_with fail
 go_ret
 exact ⟨rfl, ⟨HX.out, Sgs.nil _, ⟨SlK.nil _ _ _ _, fun n c e => by injection e with _ _ e; exact e.symm⟩, InR.nil _, In.Fine.nil, ⟨fun _ _ _ e => (by cases e), fun _ _ _ e => (by cases e), AvR.nil _⟩⟩, HB.out⟩
theorem rhas_any {w : World} {rb : Nat} {vL vB vI : Value} {c : Cor} (h : Rr w rb vL vB vI c) (r : List UInt8) (hl : c.l.length ≤ 100000) :
  Calls Tryz.prog 25 #[.pointer (some ⟨rb, 0, none⟩), .string ⟨r.toArray⟩] w fun e w' => e = .returned (.bool (hasB c.l r)) ∧ w = w' := by
 obtain ⟨A, cl, rfl, hlc, hcm⟩ := h.l.shape
 have HR := Hd h
 have y0 := h.c01.1
 clear h
 go_enter Tryz.func25, Tryz.ntmps25
 go_wp2_with fail
 go_loop [5] (fun i => ∃ k : Nat, i = .int .i64 k ∧ k ≤ c.l.length ∧ Hid (hasB (c.l.take k) r = false)) (fun i => c.l.length - (intOf i).toNat)
 case atStart => exact ⟨0, rfl, Nat.zero_le _, rfl⟩
 case round =>
  obtain ⟨k, rfl, hk, HN⟩ := hrel
  by_cases hkl : k < c.l.length
  ·obtain ⟨s, hs⟩ : ∃ s, c.l[k]? = some s := ⟨_, List.getElem?_eq_getElem hkl⟩
   obtain ⟨g, off, n', c', e, d0, d1, d2, d3, d4, d5, d6, d7, d8, d9, d10, d11⟩ := HR.out.l.cells (Below.refl _ _) hs
   injection e with e1 e2 e3; subst e1; clear e2 e3
   have hlt : (k : Int) < c.l.length := by omega
   have hk0 : (0 : Int) ≤ k := by omega
   have HSK := Hd hs
   clear hs
   by_cases he : s.ref = r
   ·have HF := Hd (has_hit HSK.out he)
    have hq := str_eqT he
    clear he
    go_wp2_with fail
    go_ret
    exact ⟨by rw [HF.out]; rfl, rfl⟩
   ·have HF := Hd (show hasB (c.l.take (k + 1)) r = false by rw [has_succ HSK.out, HN.out]; simpa using he)
    have hq := str_eqF he
    clear he
    go_wp2_with fail
    go_round
    case rel => exact ⟨k + 1, by go_num, by omega, HF.out⟩
    case measure => simp [intOf]; omega
  ·obtain rfl : k = c.l.length := by omega
   have HF := Hd (show hasB c.l r = false by have := HN.out; rwa [List.take_length] at this)
   go_wp2_with fail
   go_ret
   exact ⟨by rw [HF.out]; rfl, rfl⟩
theorem rset_any {w : World} {rb : Nat} {vL vB vI : Value} {c : Cor} (h : Rr w rb vL vB vI c) (s : Sg) (kk : Nat) (hid : s.id = (kk : Int) + 1) (hkk : kk < c.l.length) (hl : c.l.length ≤ 100000) (Q : Nat → Prop) :
  Calls Tryz.prog 28 #[.pointer (some ⟨rb, 0, none⟩), sgV s] w fun e w' => ∃ vL', (∃ v, e = .returned v) ∧ RStp Q w w' rb vL vB vI c vL' vB vI { c with l := c.l.set kk s } := by
 obtain ⟨i0, hi, hz0, hz1, hz2⟩ := info_parts sagaR_info
 obtain ⟨A, cl, rfl, hlc, hcm⟩ := h.l.shape
 have hrb := heap_lt h.hc
 have HNE := Hd (show w.heap.size ≠ rb by omega)
 obtain ⟨wa, hA⟩ : ∃ wa, wa = w.alloc (.cells (sgA s) tSagaR) := ⟨_, rfl⟩
 have hB : Below w.heap.size w wa := by rw [hA]; exact below_alloc _ _
 have HX := Hd (show wa.heap[w.heap.size]? = some (.cells (sgA s) tSagaR (0, 0)) by rw [hA]; exact heap_new _ _)
 have HR := Hd (h.below hB)
 have HSRC := Hd (src_sgs (h.l.keep hB))
 have HB := Hd hB; have HA := Hd hA
 have hws : w.heap.size < wa.heap.size := heap_lt HX.out
 clear hA hB h
 have y0 := HR.out.c01.1
 obtain ⟨c0, c1, c2, c3, c4, c5, c6, c7, c8, c9, c10, c11⟩ := sg_box HX.out
 go_enter Tryz.func28, Tryz.ntmps28
 go_upto_region 1 with (fail)
 rw [← HA.out]
 go_upto_region 2 with ((at_builtin; refine wpList_append_any _ rfl (.const (.slice none 0 0)) (.tmp 8) tSagasR rfl wa.heap.size tSagaR i0 (.agg #[.int .i64 0, .string ⟨#[]⟩, .string ⟨#[]⟩, .int .i64 0, .int .i64 0, .int .i64 0, .int .i64 0, .int .i64 0, .int .i64 0, .int .i64 0, .int .i64 0, .bool false]) 12 112 Tryz.underlying48 hi hz0 hz1 hz2 rfl (by decide) (.slice none 0 0) 0 [] rfl (World.ownsRow_nil _ _ _ _) c.l.length (c.l.flatMap encS) HSRC.out (by unfold maxLen; omega) (by omega) (Nat.le_refl _) ?_; intro v1 w1 ho1 hg1 hat1; rw [Nat.zero_add, List.nil_append] at ho1; obtain ⟨g, cl2, hv1, hgB, hgl, hgc⟩ := (own_ptr ho1).resolve_left (fun h => by have := h.2; omega); subst hv1; have HO1 := Hd ho1; have HB1 := Hd (below_of_grown hg1); have HR1 := Hd (HR.out.below HB1.out); have HX1 := Hd (heap_keep HX.out HB1.out); clear ho1 hg1 hat1 y0 c0 c1 c2 c3 c4 c5 c6 c7 c8 c9 c10 c11; obtain ⟨y0, y1⟩ := HR1.out.c01; have f0 := HR1.out.froz 0))
 have hF := HR.out.far hgB
 obtain ⟨w2, hw2⟩ : ∃ w2, w2 = w1.setCell ⟨rb, 0, none⟩ (.slice (some ⟨g, 0, none⟩) c.l.length cl2) := ⟨_, rfl⟩
 rw [← hw2]
 have ht2 : Turned (fun j => j = rb) w1 w2 := by rw [hw2]; exact turned_set _ _ _ _
 have HO2 := Hd (own_turned HO1.out ht2 (fun j hj e => by have := (HO1.out.lt j hj).1; omega))
 have HX2 := Hd (heap_turned' HX1.out ht2 HNE.out)
 have HR2 := Hd (show Rr w2 rb (.slice (some ⟨g, 0, none⟩) c.l.length cl2) vB vI c from ⟨by rw [hw2]; exact cw_set0 HR1.out.hc, sgs_own HO2.out, HR1.out.b.turned ht2 (fun j hj => by rw [hj]; exact HR1.out.nr.2.1), HR1.out.i.turned ht2 (fun j hj => by rw [hj]; exact HR1.out.nr.2.2), HR1.out.f, ⟨off_ge hgB (by omega), HR1.out.nr.2⟩⟩)
 have HS2 := Hd (show RStp Q w w2 rb (.slice A c.l.length cl) vB vI c (.slice (some ⟨g, 0, none⟩) c.l.length cl2) vB vI c from ⟨HR2.out, (Turned.of_below (bch HB.out HB1.out HB.out.size)).trans ht2, fun j hj _ ha => ⟨ha.1, off_ge hgB (by omega), ha.2.2⟩⟩)
 clear hw2 y0 y1 f0 HR1 HX1 HO1
 obtain ⟨y0, y1⟩ := HR2.out.c01
 obtain ⟨c0, c1, c2, c3, c4, c5, c6, c7, c8, c9, c10, c11⟩ := sg_box HX2.out
 have r0 := own_cellK encS_len (by decide) HO2.out (List.getElem?_eq_getElem hkk) 0 (by decide)
 have r1 := own_cellK encS_len (by decide) HO2.out (List.getElem?_eq_getElem hkk) 1 (by decide)
 have r2 := own_cellK encS_len (by decide) HO2.out (List.getElem?_eq_getElem hkk) 2 (by decide)
 have r3 := own_cellK encS_len (by decide) HO2.out (List.getElem?_eq_getElem hkk) 3 (by decide)
 have r4 := own_cellK encS_len (by decide) HO2.out (List.getElem?_eq_getElem hkk) 4 (by decide)
 have r5 := own_cellK encS_len (by decide) HO2.out (List.getElem?_eq_getElem hkk) 5 (by decide)
 have r6 := own_cellK encS_len (by decide) HO2.out (List.getElem?_eq_getElem hkk) 6 (by decide)
 have r7 := own_cellK encS_len (by decide) HO2.out (List.getElem?_eq_getElem hkk) 7 (by decide)
 have r8 := own_cellK encS_len (by decide) HO2.out (List.getElem?_eq_getElem hkk) 8 (by decide)
 have r9 := own_cellK encS_len (by decide) HO2.out (List.getElem?_eq_getElem hkk) 9 (by decide)
 have r10 := own_cellK encS_len (by decide) HO2.out (List.getElem?_eq_getElem hkk) 10 (by decide)
 have r11 := own_cellK encS_len (by decide) HO2.out (List.getElem?_eq_getElem hkk) 11 (by decide)
 simp only [encS, sgA, List.getElem?_cons_zero, List.getElem?_cons_succ, Nat.add_zero] at r0 r1 r2 r3 r4 r5 r6 r7 r8 r9 r10 r11
 have q0 := HO2.out.frozenAt (kk * 12)
 have q1 := HO2.out.frozenAt (kk * 12 + 1)
 have q2 := HO2.out.frozenAt (kk * 12 + 2)
 have q3 := HO2.out.frozenAt (kk * 12 + 3)
 have q4 := HO2.out.frozenAt (kk * 12 + 4)
 have q5 := HO2.out.frozenAt (kk * 12 + 5)
 have q6 := HO2.out.frozenAt (kk * 12 + 6)
 have q7 := HO2.out.frozenAt (kk * 12 + 7)
 have q8 := HO2.out.frozenAt (kk * 12 + 8)
 have q9 := HO2.out.frozenAt (kk * 12 + 9)
 have q10 := HO2.out.frozenAt (kk * 12 + 10)
 have q11 := HO2.out.frozenAt (kk * 12 + 11)
 rw [hid] at c0
 have hw1 : IntKind.i64.wrap ((kk : Int) + 1 - 1) = kk := by rw [show (kk : Int) + 1 - 1 = kk by omega]; exact IntWalk.i64_in _ (by omega)
 have hkI : (kk : Int) < c.l.length := by omega
 have hkI0 : (0 : Int) ≤ kk := by omega
 have hgne : g ≠ w.heap.size ∧ g ≠ rb := by omega
 go_region
 go_wp2_with fail
 obtain ⟨w5, hw5⟩ : ∃ w5, w5 = (set12k w2 g kk s).drew := ⟨_, rfl⟩
 rw [show ((((((((((((w2.setCell ⟨g, kk * 12, none⟩ (.int .i64 ((kk : Int) + 1))).setCell ⟨g, kk * 12 + 1, none⟩ (.string ⟨s.ref.toArray⟩)).setCell ⟨g, kk * 12 + 2, none⟩ (.string ⟨s.sku.toArray⟩)).setCell ⟨g, kk * 12 + 3, none⟩ (.int .i64 s.qty)).setCell ⟨g, kk * 12 + 4, none⟩ (.int .i64 s.amt)).setCell ⟨g, kk * 12 + 5, none⟩ (.int .i64 s.d0)).setCell ⟨g, kk * 12 + 6, none⟩ (.int .i64 s.d1)).setCell ⟨g, kk * 12 + 7, none⟩ (.int .i64 s.d2)).setCell ⟨g, kk * 12 + 8, none⟩ (.int .i64 s.d3)).setCell ⟨g, kk * 12 + 9, none⟩ (.int .i64 s.d4)).setCell ⟨g, kk * 12 + 10, none⟩ (.int .i64 s.d5)).setCell ⟨g, kk * 12 + 11, none⟩ (.bool s.can)).drew = w5 by rw [hw5, ← hid]; rfl]
 have ht5 : Turned (fun j => j = g) w2 w5 := by rw [hw5]; exact (turned_set12k w2 g kk s).drew
 have HO5 := Hd (show w5.ownsRow wa.heap.size tSagaR 12 (.slice (some ⟨g, 0, none⟩) (c.l.set kk s).length cl2) (c.l.set kk s).length ((c.l.set kk s).flatMap encS) by rw [List.length_set, hw5]; exact own_keep (own_setR HO2.out hkk s) (below_drew1 (Below.refl _ _)))
 have HR5 := Hd (show Rr w5 rb (.slice (some ⟨g, 0, none⟩) (c.l.set kk s).length cl2) vB vI { c with l := c.l.set kk s } from ⟨by have := heap_turned' HR2.out.hc ht5 (fun e => hgne.2 e.symm); rwa [List.length_set], sgs_own HO5.out, HR2.out.b.turned ht5 (fun j hj => by rw [hj]; exact hF.2.2.1), HR2.out.i.turned ht5 (fun j hj => by rw [hj]; exact hF.2.2.2), HR2.out.f, ⟨off_ge hgB (by omega), HR2.out.nr.2⟩⟩)
 go_end0
 refine ⟨.slice (some ⟨g, 0, none⟩) (c.l.set kk s).length cl2, ⟨_, rfl⟩, HR5.out, ?_, fun j hj _ ha => ⟨ha.1, off_ge hgB (by omega), ha.2.2⟩⟩
 exact HS2.out.t.far (ht5.mono (fun j hj => .inr (by omega)))
theorem rpost_any {w : World} {rb : Nat} {vL vB vI : Value} {c : Cor} (h : Rr w rb vL vB vI c) (p : Po) (hbl : c.b.length ≤ 100000) (Q : Nat → Prop) :
  Calls Tryz.prog 33 #[.pointer (some ⟨rb, 0, none⟩), .string ⟨p.id.toArray⟩, .int .i64 p.ord, .int .i64 p.deb, .int .i64 p.cre, .int .i64 p.amt] w fun e w' => ∃ vB', (∃ v, e = .returned v) ∧ RStp Q w w' rb vL vB vI c vL vB' vI { c with b := c.b ++ [p] } := by
 obtain ⟨j0, ji, jz0, jz1, jz2⟩ := info_parts post_info
 obtain ⟨A, cp, rfl, hlc, hcm⟩ := h.b.shape
 have hrb := heap_lt h.hc
 have HSRC := Hd (src_pos h.b)
 have HR := Hd h
 have y1 := h.c01.2
 clear h
 go_enter Tryz.func33, Tryz.ntmps33
 go_wp2_with (first | (at_builtin; refine wpList_append_any _ rfl (.const (.slice none 0 0)) (.tmp 16) tPosts rfl w.heap.size tPost j0 (mkPost ⟨[], 0, 0, 0, 0⟩) 5 48 Tryz.underlying49 ji jz0 jz1 jz2 rfl (by decide) (.slice none 0 0) 0 [] rfl (World.ownsRow_nil _ _ _ _) c.b.length (c.b.flatMap encP) HSRC.out (by unfold maxLen; omega) (by omega) (Nat.le_refl _) ?_; intro v1 w1 ho1 hg1 hat1; rw [Nat.zero_add, List.nil_append] at ho1; obtain ⟨A1, cc1, rfl, _⟩ := own_slice ho1; have HO1 := Hd ho1; have HB1 := Hd (below_of_grown hg1); clear ho1 hg1 hat1 y1) | (at_builtin; refine wpList_append_any _ rfl (.tmp 17) (.tmp 24) tPosts rfl w.heap.size tPost j0 (mkPost ⟨[], 0, 0, 0, 0⟩) 5 48 Tryz.underlying49 ji jz0 jz1 jz2 rfl (by decide) (.slice A1 c.b.length cc1) c.b.length (c.b.flatMap encP) rfl (World.ownsRow.alloc HO1.out _) 1 (encP p) (src_blk (xs := encP p) (heap_new _ _) (encP_one _)) (by unfold maxLen; omega) (by omega) (by have := HB1.out.size; simp; omega) ?_; intro v2 w2 ho2 hg2 hat2; obtain ⟨A2, cc2, rfl, _⟩ := own_slice ho2; have HB2 := Hd (Below.grown (HB1.out.alloc HB1.out.size (.cells #[.string ⟨p.id.toArray⟩, .int .i64 p.ord, .int .i64 p.deb, .int .i64 p.cre, .int .i64 p.amt] tPost)) hg2 (by have := HB1.out.size; simp; omega) (fun j hj => (HO1.out.lt j hj).1)); have HO2 := Hd ho2; have HR2 := Hd (HR.out.below HB2.out); clear ho2 hg2 hat2; have y1 := HR2.out.c01.2; have f1 := HR2.out.froz 1))
 obtain ⟨w3, hw3⟩ : ∃ w3, w3 = w2.setCell ⟨rb, 1, none⟩ (.slice A2 (c.b.length + 1) cc2) := ⟨_, rfl⟩
 rw [← hw3]
 have ht3 : Turned (fun j => j = rb) w2 w3 := by rw [hw3]; exact turned_set _ _ _ _
 have HO3 := Hd (show w3.ownsRow w.heap.size tPost 5 (.slice A2 (c.b ++ [p]).length cc2) (c.b ++ [p]).length ((c.b ++ [p]).flatMap encP) by have := own_turned HO2.out ht3 (fun j hj e => by have := (HO2.out.lt j hj).1; omega); rw [List.length_append, List.flatMap_append]; simpa using this)
 have HR3 := Hd (show Rr w3 rb vL (.slice A2 (c.b ++ [p]).length cc2) vI { c with b := c.b ++ [p] } from ⟨by have := cw_set1 (q := .slice A2 (c.b.length + 1) cc2) HR2.out.hc; rw [← hw3] at this; rw [List.length_append]; exact this, HR2.out.l.turned ht3 (fun j hj => by rw [hj]; exact HR2.out.nr.1), pos_own HO3.out, HR2.out.i.turned ht3 (fun j hj => by rw [hj]; exact HR2.out.nr.2.2), HR2.out.f, ⟨HR2.out.nr.1, own_offL HO3.out hrb, HR2.out.nr.2.2⟩⟩)
 go_end0
 exact ⟨.slice A2 (c.b ++ [p]).length cc2, ⟨_, rfl⟩, HR3.out, (Turned.of_below HB2.out).trans ht3, fun j hj _ ha => ⟨ha.1, ha.2.1, own_offL HO3.out hj, ha.2.2.2⟩⟩
end Go.Proofs.YtiagdpfmmjhgcaaGreatDoor
/- What a core waits for: Asks; Orders. -/
namespace Go.Proofs.YtiagdpfmmjhgcaaGreatDoor
open Go.RowKit Go.Maps Co Key Rw Sa Od
set_option linter.unusedSimpArgs false
set_option linter.unusedVariables false
set_option maxRecDepth 100000
set_option maxHeartbeats 16000000

namespace Co
/-- What is waited for. -/
def asksI (l : List Sg) : List (Int × Int) := l.filterMap fun s => if Sa.waitsB s = true then some (s.id, Sa.waitsN s) else none
theorem asks_succ {l : List Sg} {k : Nat} {s : Sg} (h : l[k]? = some s) : asksI (l.take (k + 1)) = asksI (l.take k) ++ (if Sa.waitsB s = true then [(s.id, Sa.waitsN s)] else []) := by
 unfold asksI
 rw [List.take_add_one, h, List.filterMap_append]
 congr 1
 by_cases hw : Sa.waitsB s = true <;> simp [hw]
theorem asks_len (l : List Sg) : (asksI l).length ≤ l.length := List.length_filterMap_le _ _
theorem asks_len' (l : List Sg) (k : Nat) : (asksI (l.take k)).length ≤ l.length := Nat.le_trans (asks_len _) (by rw [List.length_take]; exact Nat.min_le_right _ _)
end Co
theorem encK_one (x : Int × Int) : ∀ u ∈ encK x, u.oneCell' = true := by intro u hu; simp [encK] at hu; rcases hu with rfl | rfl <;> rfl
abbrev tKeysC : TypeId := 87
theorem casks_any {B : Nat} {w : World} {cb bb pm bm : Nat} {vl vb vI : Value} {c : Cor} (h : Cw B w cb bb pm bm vl vb vI c) (hid : ∀ (k : Nat) s, c.l[k]? = some s → s.id = (k : Int) + 1) (hl : c.l.length ≤ 1000) :
  Calls Tryz.prog 37 #[.pointer (some ⟨cb, 0, none⟩)] w fun e w' => ∃ v, e = .returned v ∧ w'.ownsRow w.heap.size tKey 2 v (asksI c.l).length ((asksI c.l).flatMap encK) ∧ Below w.heap.size w w' := by
 obtain ⟨i0, hi, hz0, hz1, hz2⟩ := info_parts key_info
 obtain ⟨A, cl, rfl, _⟩ := own_slice h.ol
 have HR := Hd h; have HID := Hd hid
 obtain ⟨y0, y1⟩ := h.c01
 clear h hid
 go_enter Tryz.func37, Tryz.ntmps37
 go_wp2_with (go_at_call 18; refine (cnone_any HR.out).mono ?_; rintro e w1 ⟨rfl, hb⟩; subst hb)
 go_loopw [3, 15] (fun v i wr => ∃ k : Nat, i = .int .i64 k ∧ k ≤ c.l.length ∧ Hid (wr.ownsRow w.heap.size tKey 2 v (asksI (c.l.take k)).length ((asksI (c.l.take k)).flatMap encK)) ∧ Hid (Below w.heap.size w wr)) (fun _ i _ => c.l.length - (intOf i).toNat)
 case atStart => exact ⟨0, rfl, Nat.zero_le _, World.ownsRow_nil _ _ _ _, Below.refl _ _⟩
 case round =>
  obtain ⟨k, rfl, hk, HO, HB⟩ := hrel
  obtain ⟨y0, y1⟩ := (HR.out.below HB.out).c01
  by_cases hkl : k < c.l.length
  ·obtain ⟨s, hs⟩ : ∃ s, c.l[k]? = some s := ⟨_, List.getElem?_eq_getElem hkl⟩
   obtain ⟨g, off, n', c', e, d0, d1, d2, d3, d4, d5, d6, d7, d8, d9, d10, d11⟩ := (sgs_own HR.out.ol).cells HB.out hs
   injection e with e1 e2 e3; subst e1; clear e2 e3
   have hlt : (k : Int) < c.l.length := by omega
   have hk0 : (0 : Int) ≤ k := by omega
   have HSK := Hd (asks_succ hs)
   have hsid : s.id = (k : Int) + 1 := HID.out k s hs
   have HSID := Hd hsid
   have hal := asks_len' c.l k
   clear hs hsid
   go_upto_region 7 with (fail)
   obtain ⟨wb, hwb⟩ : ∃ wb, wb = wr.alloc (.cells (sgA s) tSaga) := ⟨_, rfl⟩
   rw [← hwb]
   have hbb : Below wr.heap.size wr wb := by rw [hwb]; exact below_alloc _ _
   have HX := Hd (show wb.heap[wr.heap.size]? = some (.cells (sgA s) tSaga (0, 0)) by rw [hwb]; exact heap_new _ _)
   have HOb := Hd (own_keep HO.out hbb)
   have HBb := Hd (bch HB.out hbb HB.out.size)
   clear hwb hbb d0 d1 d2 d3 d4 d5 d6 d7 d8 d9 d10 d11
   obtain ⟨d0, d1, d2, d3, d4, d5, d6, d7, d8, d9, d10, d11⟩ := sg_box HX.out
   go_wp2_with fail
   refine (waits_any s _).mono ?_
   rintro e w1 ⟨rfl, hb⟩
   have HO1 := Hd (own_keep HOb.out hb); have HB1 := Hd (bch HBb.out hb HBb.out.size)
   have HX1 := Hd (heap_keep HX.out hb)
   have hs1 := HB1.out.size
   clear hb d0 d1 d2 d3 d4 d5 d6 d7 d8 d9 d10 d11
   cases hw : Sa.waitsB s with
   | false =>
    have HF := Hd (show asksI (c.l.take (k + 1)) = asksI (c.l.take k) by rw [HSK.out, hw]; simp)
    clear hw
    go_wp2_with fail
    go_roundw
    case rel => exact ⟨k + 1, by go_num, by omega, by rw [HF.out]; exact HO1.out, HB1.out⟩
    case measure => simp [intOf]; omega
   | true =>
    have HF := Hd (show asksI (c.l.take (k + 1)) = asksI (c.l.take k) ++ [(s.id, Sa.waitsN s)] by rw [HSK.out, hw]; simp [HSID.out])
    clear hw
    obtain ⟨d0, d1, d2, d3, d4, d5, d6, d7, d8, d9, d10, d11⟩ := sg_box HX1.out
    go_wp2_with (at_builtin; refine wpList_append_any _ rfl (.tmp 25) (.tmp 31) tKeysC rfl w.heap.size tKey i0 (mkKey (0, 0)) 2 16 Tryz.underlying87 hi hz0 hz1 hz2 rfl (by decide) _ _ _ rfl (World.ownsRow.alloc HO1.out _) 1 (encK (s.id, Sa.waitsN s)) (src_blk (xs := encK (s.id, Sa.waitsN s)) (heap_new _ _) (encK_one _)) (by unfold maxLen; omega) (by omega) (by have := HB1.out.size; simp; omega) ?_; intro v2 w2 ho2 hg2 hat2)
    have HO2 := Hd (show w2.ownsRow w.heap.size tKey 2 v2 (asksI (c.l.take (k + 1))).length ((asksI (c.l.take (k + 1))).flatMap encK) by rw [HF.out, List.length_append, List.flatMap_append]; simpa using ho2)
    have HB2 := Hd (Below.grown (HB1.out.alloc HB1.out.size (.cells #[.int .i64 s.id, .int .i64 (Sa.waitsN s)] tKey)) hg2 (by have := HB1.out.size; simp; omega) (fun j hj => (HO1.out.lt j hj).1))
    clear ho2 hg2 hat2
    go_roundw
    case rel => exact ⟨k + 1, by go_num, by omega, HO2.out, HB2.out⟩
    case measure => simp [intOf]; omega
  ·obtain rfl : k = c.l.length := by omega
   have HO2 := Hd (show wr.ownsRow w.heap.size tKey 2 u3 (asksI c.l).length ((asksI c.l).flatMap encK) by have := HO.out; rwa [List.take_length] at this)
   go_wp2_with fail
   go_ret
   exact ⟨_, rfl, HO2.out, HB.out⟩
theorem corders_any {B : Nat} {w : World} {cb bb pm bm : Nat} {vl vb vI : Value} {c : Cor} (h : Cw B w cb bb pm bm vl vb vI c) : Calls Tryz.prog 35 #[.pointer (some ⟨cb, 0, none⟩)] w fun e w' => e = .returned (.int .i64 c.l.length) ∧ w = w' := by
 obtain ⟨A, cl, rfl, _⟩ := own_slice h.ol
 have HR := Hd h
 obtain ⟨y0, y1⟩ := h.c01
 clear h
 go_enter Tryz.func35, Tryz.ntmps35
 go_wp2_with (go_at_call 18; refine (cnone_any HR.out).mono ?_; rintro e w1 ⟨rfl, hb⟩; subst hb)
 go_ret
 exact ⟨rfl, rfl⟩
end Go.Proofs.YtiagdpfmmjhgcaaGreatDoor
/- Net, digits, Balance of the document's core; what both cores ask for, and how they differ: Asks, Diffs. -/
namespace Go.Proofs.YtiagdpfmmjhgcaaGreatDoor
open Go.RowKit Go.Maps Co Key Rw Sa Od Ma
set_option linter.unusedSimpArgs false
set_option linter.unusedVariables false
set_option maxRecDepth 100000
set_option maxHeartbeats 16000000

theorem amt_row (I : In.Inn) (o d : Int) : In.amtI I o d = if (rowD (In.rowOf I (o, d))).2.1 = 1 then (rowD (In.rowOf I (o, d))).2.2.1 else 0 := by
 unfold In.amtI rowD
 cases In.rowOf I (o, d) <;> simp
theorem rinet_any (w : World) (v : Value) (I : In.Inn) (o : Int) (h : InR w v I) (hg : In.Fine I) :
  Calls Tryz.prog 31 #[v, .int .i64 o] w fun e w' => e = .returned (.int .i64 (In.netI I o)) ∧ Below w.heap.size w w' := by
 have HG := Hd hg
 have HII := Hd h
 obtain ⟨A0, n0, c0, A1, n1, c1, A2, n2, c2, rfl, h0, h1, h2⟩ := h
 obtain ⟨wa, hA⟩ : ∃ wa, wa = w.alloc (.cells #[.int .i64 I.a.1, .int .i64 I.a.2.1, .slice A0 n0 c0, .int .i64 I.b.1, .int .i64 I.b.2.1, .slice A1 n1 c1, .int .i64 I.c.1, .int .i64 I.c.2.1, .slice A2 n2 c2] tInR) := ⟨_, rfl⟩
 have hB : Below w.heap.size w wa := by rw [hA]; exact below_alloc _ _
 have HX := Hd (show wa.heap[w.heap.size]? = some (.cells #[.int .i64 I.a.1, .int .i64 I.a.2.1, .slice A0 n0 c0, .int .i64 I.b.1, .int .i64 I.b.2.1, .slice A1 n1 c1, .int .i64 I.c.1, .int .i64 I.c.2.1, .slice A2 n2 c2] tInR (0, 0)) by rw [hA]; exact heap_new _ _)
 have HB := Hd hB; have HA := Hd hA
 have hb1 := amt_bd hg o 1; have hb4 := amt_bd hg o 4
 have HE := Hd (show In.netI I o = In.amtI I o 1 - In.amtI I o 4 from rfl)
 rw [amt_row] at hb1 hb4
 rw [amt_row, amt_row] at HE
 clear hA hB h0 h1 h2 hg
 have HR1 := Hd (fun W (hb : Below w.heap.size w W) => refRow_any W _ I o 1 (HII.out.below hb) HG.out); have HR4 := Hd (fun W (hb : Below w.heap.size w W) => refRow_any W _ I o 4 (HII.out.below hb) HG.out)
 obtain ⟨x, hx⟩ : ∃ x, rowD (In.rowOf I (o, 1)) = x := ⟨_, rfl⟩
 obtain ⟨y, hy⟩ : ∃ y, rowD (In.rowOf I (o, 4)) = y := ⟨_, rfl⟩
 rw [hx] at hb1 HR1; rw [hy] at hb4 HR4; rw [hx, hy] at HE
 clear hx hy
 obtain ⟨⟨xo, xd⟩, xc, xa, xq⟩ := x
 obtain ⟨⟨yo, yd⟩, yc, ya, yq⟩ := y
 simp only [] at hb1 hb4 HE HR1 HR4
 obtain ⟨bx, hbx⟩ : ∃ b, (In.rowOf I (o, 1)).isSome = b := ⟨_, rfl⟩
 obtain ⟨by_, hby⟩ : ∃ b, (In.rowOf I (o, 4)).isSome = b := ⟨_, rfl⟩
 rw [hbx] at HR1; rw [hby] at HR4
 clear hbx hby
 obtain ⟨i0, i1, i2, i3, i4, i5, i6, i7, i8⟩ := cell9 HX.out
 go_enter Tryz.func31, Tryz.ntmps31
 go_upto_region 1 with (fail)
 rw [← HA.out]
 go_wp2_with fail
 refine (HR1.out _ HB.out).mono ?_
 rintro e w1 ⟨rfl, hb⟩
 go_upto_region 2 with (fail)
 obtain ⟨w2, hw2⟩ : ∃ w2, w2 = w1.alloc (.cells #[.int .i64 xo, .int .i64 xd, .int .i64 xc, .int .i64 xa, .int .i64 xq] tRow) := ⟨_, rfl⟩
 rw [← hw2]
 have hb2 : Below w1.heap.size w1 w2 := by rw [hw2]; exact below_alloc _ _
 have HB2 := Hd (bch (bch HB.out hb HB.out.size) hb2 (bch HB.out hb HB.out.size).size)
 have HX2 := Hd (heap_keep (heap_keep HX.out hb) hb2)
 have HX1 := Hd (show w2.heap[w1.heap.size]? = some (.cells #[.int .i64 xo, .int .i64 xd, .int .i64 xc, .int .i64 xa, .int .i64 xq] tRow (0, 0)) by rw [hw2]; exact heap_new _ _)
 clear hw2 hb hb2 HX HB HA i0 i1 i2 i3 i4 i5 i6 i7 i8
 generalize w1.heap.size = b1 at HX1 ⊢
 obtain ⟨i0, i1, i2, i3, i4, i5, i6, i7, i8⟩ := cell9 HX2.out
 go_wp2_with fail
 refine (HR4.out _ HB2.out).mono ?_
 rintro e w3 ⟨rfl, hb⟩
 go_upto_region 3 with (fail)
 obtain ⟨w4, hw4⟩ : ∃ w4, w4 = w3.alloc (.cells #[.int .i64 yo, .int .i64 yd, .int .i64 yc, .int .i64 ya, .int .i64 yq] tRow) := ⟨_, rfl⟩
 rw [← hw4]
 have hb4' : Below w3.heap.size w3 w4 := by rw [hw4]; exact below_alloc _ _
 have HB4 := Hd (bch (bch HB2.out hb HB2.out.size) hb4' (bch HB2.out hb HB2.out.size).size)
 have HX3 := Hd (heap_keep (heap_keep HX1.out hb) hb4')
 have HX4 := Hd (show w4.heap[w3.heap.size]? = some (.cells #[.int .i64 yo, .int .i64 yd, .int .i64 yc, .int .i64 ya, .int .i64 yq] tRow (0, 0)) by rw [hw4]; exact heap_new _ _)
 clear hw4 hb hb4' HX1 HX2 HB2 HR1 HR4 i0 i1 i2 i3 i4 i5 i6 i7 i8
 generalize w3.heap.size = b3 at HX4 ⊢
 obtain ⟨m0, m1, m2, m3, m4⟩ := cell5 HX3.out
 obtain ⟨k0, k1, k2, k3, k4⟩ := cell5 HX4.out
 by_cases hxc : xc = 1
 ·have q1 := beqT hxc
  by_cases hyc : yc = 1
  ·have q2 := beqT hyc
   have HF := Hd (show In.netI I o = xa - ya by rw [HE.out]; simp [*])
   have hw : IntKind.i64.wrap (xa - ya) = xa - ya := IntWalk.i64_in _ (by simp [*] at hb1 hb4; omega)
   clear hxc hyc hb1 hb4
   go_wp2_with fail
   go_ret
   exact ⟨ret_int HF.out.symm, HB4.out⟩
  ·have q2 := beqF hyc
   have HF := Hd (show In.netI I o = xa by rw [HE.out]; simp [*])
   clear hxc hyc hb1 hb4
   go_wp2_with fail
   go_ret
   exact ⟨ret_int HF.out.symm, HB4.out⟩
 ·have q1 := beqF hxc
  by_cases hyc : yc = 1
  ·have q2 := beqT hyc
   have HF := Hd (show In.netI I o = -ya by rw [HE.out]; simp [*])
   have hw : IntKind.i64.wrap (-ya) = -ya := IntWalk.i64_in _ (by simp [*] at hb4; omega)
   have hw' : IntKind.i64.wrap (0 - ya) = -ya := by rw [show (0 : Int) - ya = -ya by omega]; exact hw
   clear hxc hyc hb1 hb4
   go_wp2_with fail
   go_ret
   exact ⟨ret_int HF.out.symm, HB4.out⟩
  ·have q2 := beqF hyc
   have HF := Hd (show In.netI I o = 0 by rw [HE.out]; simp [*])
   clear hxc hyc hb1 hb4
   go_wp2_with fail
   go_ret
   exact ⟨ret_int HF.out.symm, HB4.out⟩
theorem rdig_any : ∀ (m n : Nat) (w : World), n < m → n ≤ 1073741824 → Calls Tryz.prog 32 #[.int .i64 n] w fun e w' => e = .returned (.string ⟨(Lib.decDigits n).toArray⟩) ∧ Below w.heap.size w w' := by
 intro m
 induction m with
 | zero => intro n w h; omega
 | succ m ih =>
  intro n w hnm hn
  obtain ⟨c, hc, hci⟩ := Mon.digit_is n
  have hcv := fun W => conv_one W (48 + (n : Int) % 10) c hci
  have HD := Hd (Mon.dec_snoc n)
  have HC := Hd hc
  by_cases h10 : n < 10
  ·have h10' : ¬ (10 : Int) ≤ n := by omega
   clear hc hci ih
   go_enter Tryz.func32, Tryz.ntmps32
   go_wp2_with fail
   go_ret
   exact ⟨by rw [HD.out, if_pos h10, HC.out]; rfl, below_alloc _ _⟩
  ·have h10' : (10 : Int) ≤ n := by omega
   have HI := Hd (fun W => show Calls Tryz.prog 32 #[.int .i64 ((n : Int) / 10)] W fun e w' => e = .returned (.string ⟨(Lib.decDigits (n / 10)).toArray⟩) ∧ Below W.heap.size W w' by rw [show ((n : Int) / 10) = ((n / 10 : Nat) : Int) by omega]; exact ih (n / 10) W (by omega) (by omega))
   have hl : (Lib.decDigits (n / 10)).length ≤ 20 := by rw [Lib.decDigits_length]; exact Lib.nDigits_le20 _ (by omega)
   clear hc hci ih
   generalize hq : Lib.decDigits (n / 10) = q at HI hl HD
   clear hq
   go_enter Tryz.func32, Tryz.ntmps32
   go_wp2_with fail
   refine (HI.out _).mono ?_
   rintro e w1 ⟨rfl, hb⟩
   have HB := Hd (bch (below_alloc _ _) hb (below_alloc _ _).size)
   clear hb
   go_wp2_with fail
   go_ret
   exact ⟨by rw [HD.out, if_neg h10, HC.out]; exact congrArg Ending.returned (congrArg Value.string (join_bytes q [UInt8.ofNat (48 + n % 10)])), HB.out⟩
theorem ritoa_any (n : Int) (w : World) (h0 : 0 ≤ n) (h1 : n ≤ 1073741824) : Calls Tryz.prog 32 #[.int .i64 n] w fun e w' => e = .returned (.string ⟨(Lib.itoa n).toArray⟩) ∧ Below w.heap.size w w' := by
 obtain ⟨k, rfl⟩ : ∃ k : Nat, n = k := ⟨n.toNat, by omega⟩
 rw [show Lib.itoa (k : Int) = Lib.decDigits k by unfold Lib.itoa; rw [if_neg (by omega)]; simp]
 exact rdig_any (k + 1) k w (by omega) (by omega)
theorem bal_take {b : List Po} {k : Nat} {x : Po} (h : b[k]? = some x) (a o : Int) : balI (b.take (k + 1)) a o = balI (b.take k) a o + (if o = 0 ∨ x.ord = o then movI x a else 0) := by
 rw [List.take_add_one, h]; exact bal_snoc _ _ _ _
theorem bal_take_bd {b : List Po} (h : ∀ p ∈ b, mayP p) (hl : b.length ≤ 100000) (k : Nat) (a o : Int) : -439804651110400000 ≤ balI (b.take k) a o ∧ balI (b.take k) a o ≤ 439804651110400000 := by
 have := bal_bd (b := b.take k) (fun p hp => h p (List.mem_of_mem_take hp)) a o
 have h2 : (b.take k).length ≤ 100000 := by rw [List.length_take]; omega
 omega
theorem rbal_any {w : World} {rb : Nat} {vL vB vI : Value} {c : Cor} (h : Rr w rb vL vB vI c) (a o : Int) (hm : ∀ p ∈ c.b, mayP p) (hbl : c.b.length ≤ 100000) :
  Calls Tryz.prog 14 #[.pointer (some ⟨rb, 0, none⟩), .int .i64 a, .int .i64 o] w fun e w' => e = .returned (.int .i64 (balI c.b a o)) ∧ w = w' := by
 obtain ⟨A, cp, rfl, hlc, hcm⟩ := h.b.shape
 have HR := Hd h; have HM := Hd hm
 have y1 := h.c01.2
 clear h hm
 go_enter Tryz.func14, Tryz.ntmps14
 go_wp2_with fail
 go_loop [7, 8] (fun v i => ∃ (k : Nat) (n : Int), i = .int .i64 k ∧ k ≤ c.b.length ∧ v = .int .i64 n ∧ Hid (n = balI (c.b.take k) a o)) (fun _ i => c.b.length - (intOf i).toNat)
 case atStart => exact ⟨0, 0, rfl, Nat.zero_le _, rfl, rfl⟩
 case round =>
  obtain ⟨k, n, rfl, hk, rfl, HN⟩ := hrel
  by_cases hkl : k < c.b.length
  ·obtain ⟨x, hx⟩ : ∃ x, c.b[k]? = some x := ⟨_, List.getElem?_eq_getElem hkl⟩
   obtain ⟨g, off, n', c', e, d0, d1, d2, d3, d4⟩ := HR.out.b.cells (Below.refl _ _) hx
   injection e with e1 e2 e3; subst e1; clear e2 e3
   have hlt : (k : Int) < c.b.length := by omega
   have hk0 : (0 : Int) ≤ k := by omega
   have hmx := HM.out x (List.mem_of_getElem? hx)
   obtain ⟨_, _, _, _, _, _, _, _, hne, ha0, ha1⟩ := hmx
   have hnb := bal_take_bd HM.out hbl k a o
   have HT := Hd (bal_take hx a o)
   rw [← HN.out] at hnb
   rw [← HN.out] at HT
   clear hx
   by_cases ho : o = 0
   ·by_cases hd : x.deb = a
    ·have g0 := bneF ho
     have hc2 : ¬ x.cre = a := fun e => hne (hd.trans e.symm)
     have g1 := beqT hd; have g2 := beqF hc2
     have HF := Hd (show balI (c.b.take (k + 1)) a o = n + x.amt by rw [HT.out]; unfold movI; rw [if_pos (.inl ho), if_pos hd, if_neg hc2]; omega)
     have hw : IntKind.i64.wrap (n + x.amt) = n + x.amt := IntWalk.i64_in _ (by omega)
     clear ho hd hc2 hne
     go_wp2_with fail
     go_round
     case rel => exact ⟨k + 1, _, by go_num, by omega, rfl, HF.out.symm⟩
     case measure => simp [intOf]; omega
    ·have g0 := bneF ho
     have g1 := beqF hd
     by_cases hc2 : x.cre = a
     ·have g2 := beqT hc2
      have HF := Hd (show balI (c.b.take (k + 1)) a o = n - x.amt by rw [HT.out]; unfold movI; rw [if_pos (.inl ho), if_neg hd, if_pos hc2]; omega)
      have hw : IntKind.i64.wrap (n - x.amt) = n - x.amt := IntWalk.i64_in _ (by omega)
      clear ho hd hc2 hne
      go_wp2_with fail
      go_round
      case rel => exact ⟨k + 1, _, by go_num, by omega, rfl, HF.out.symm⟩
      case measure => simp [intOf]; omega
     ·have g2 := beqF hc2
      have HF := Hd (show balI (c.b.take (k + 1)) a o = n by rw [HT.out]; unfold movI; rw [if_pos (.inl ho), if_neg hd, if_neg hc2]; omega)
      clear ho hd hc2 hne
      go_wp2_with fail
      go_round
      case rel => exact ⟨k + 1, _, by go_num, by omega, rfl, HF.out.symm⟩
      case measure => simp [intOf]; omega
   ·have g0 := bneT ho
    by_cases hx2 : x.ord = o
    ·by_cases hd : x.deb = a
     ·have g3 := bneF hx2
      have hc2 : ¬ x.cre = a := fun e => hne (hd.trans e.symm)
      have g1 := beqT hd; have g2 := beqF hc2
      have HF := Hd (show balI (c.b.take (k + 1)) a o = n + x.amt by rw [HT.out]; unfold movI; rw [if_pos (.inr hx2), if_pos hd, if_neg hc2]; omega)
      have hw : IntKind.i64.wrap (n + x.amt) = n + x.amt := IntWalk.i64_in _ (by omega)
      clear ho hx2 hd hc2 hne
      go_wp2_with fail
      go_round
      case rel => exact ⟨k + 1, _, by go_num, by omega, rfl, HF.out.symm⟩
      case measure => simp [intOf]; omega
     ·have g3 := bneF hx2
      have g1 := beqF hd
      by_cases hc2 : x.cre = a
      ·have g2 := beqT hc2
       have HF := Hd (show balI (c.b.take (k + 1)) a o = n - x.amt by rw [HT.out]; unfold movI; rw [if_pos (.inr hx2), if_neg hd, if_pos hc2]; omega)
       have hw : IntKind.i64.wrap (n - x.amt) = n - x.amt := IntWalk.i64_in _ (by omega)
       clear ho hx2 hd hc2 hne
       go_wp2_with fail
       go_round
       case rel => exact ⟨k + 1, _, by go_num, by omega, rfl, HF.out.symm⟩
       case measure => simp [intOf]; omega
      ·have g2 := beqF hc2
       have HF := Hd (show balI (c.b.take (k + 1)) a o = n by rw [HT.out]; unfold movI; rw [if_pos (.inr hx2), if_neg hd, if_neg hc2]; omega)
       clear ho hx2 hd hc2 hne
       go_wp2_with fail
       go_round
       case rel => exact ⟨k + 1, _, by go_num, by omega, rfl, HF.out.symm⟩
       case measure => simp [intOf]; omega
    ·have g3 := bneT hx2
     have HF := Hd (show balI (c.b.take (k + 1)) a o = n by rw [HT.out]; unfold movI; rw [if_neg (by rintro (e | e); exact ho e; exact hx2 e)]; omega)
     clear ho hx2 hne
     go_wp2_with fail
     go_round
     case rel => exact ⟨k + 1, _, by go_num, by omega, rfl, HF.out.symm⟩
     case measure => simp [intOf]; omega
  ·obtain rfl : k = c.b.length := by omega
   have HF := Hd (show n = balI c.b a o by have := HN.out; rwa [List.take_length] at this)
   go_wp2_with fail
   go_ret
   exact ⟨ret_int HF.out, rfl⟩
theorem rasks_any {w : World} {rb : Nat} {vL vB vI : Value} {c : Cor} (h : Rr w rb vL vB vI c) (hid : ∀ (k : Nat) s, c.l[k]? = some s → s.id = (k : Int) + 1) (hl : c.l.length ≤ 1000) :
  Calls Tryz.prog 38 #[.pointer (some ⟨rb, 0, none⟩)] w fun e w' => ∃ v, e = .returned v ∧ w'.ownsRow w.heap.size tKey 2 v (asksI c.l).length ((asksI c.l).flatMap encK) ∧ Below w.heap.size w w' := by
 obtain ⟨i0, hi, hz0, hz1, hz2⟩ := info_parts key_info
 obtain ⟨A, cl, rfl, hlc, hcm⟩ := h.l.shape
 have HR := Hd h; have HID := Hd hid
 have y0 := h.c01.1
 clear h hid
 go_enter Tryz.func38, Tryz.ntmps38
 go_wp2_with fail
 go_loopw [3, 4] (fun v i wr => ∃ k : Nat, i = .int .i64 k ∧ k ≤ c.l.length ∧ Hid (wr.ownsRow w.heap.size tKey 2 v (asksI (c.l.take k)).length ((asksI (c.l.take k)).flatMap encK)) ∧ Hid (Below w.heap.size w wr)) (fun _ i _ => c.l.length - (intOf i).toNat)
 case atStart => exact ⟨0, rfl, Nat.zero_le _, World.ownsRow_nil _ _ _ _, Below.refl _ _⟩
 case round =>
  obtain ⟨k, rfl, hk, HO, HB⟩ := hrel
  have y0 := (HR.out.below HB.out).c01.1
  by_cases hkl : k < c.l.length
  ·obtain ⟨s, hs⟩ : ∃ s, c.l[k]? = some s := ⟨_, List.getElem?_eq_getElem hkl⟩
   obtain ⟨g, off, n', c', e, d0, d1, d2, d3, d4, d5, d6, d7, d8, d9, d10, d11⟩ := HR.out.l.cells HB.out hs
   injection e with e1 e2 e3; subst e1; clear e2 e3
   have hlt : (k : Int) < c.l.length := by omega
   have hk0 : (0 : Int) ≤ k := by omega
   have HSK := Hd (asks_succ hs)
   have hsid : s.id = (k : Int) + 1 := HID.out k s hs
   have HSID := Hd hsid
   have hal := asks_len' c.l k
   clear hs hsid
   go_wp2_with fail
   refine (rwaits_any s _).mono ?_
   rintro e w1 ⟨rfl, hb⟩
   have HO1 := Hd (own_keep HO.out hb); have HB1 := Hd (bch HB.out hb HB.out.size)
   have hs1 := HB1.out.size
   clear hb d0 d1 d2 d3 d4 d5 d6 d7 d8 d9 d10 d11
   cases hw : Sa.waitsB s with
   | false =>
    have HF := Hd (show asksI (c.l.take (k + 1)) = asksI (c.l.take k) by rw [HSK.out, hw]; simp)
    clear hw
    go_wp2_with fail
    go_roundw
    case rel => exact ⟨k + 1, by go_num, by omega, by rw [HF.out]; exact HO1.out, HB1.out⟩
    case measure => simp [intOf]; omega
   | true =>
    have HF := Hd (show asksI (c.l.take (k + 1)) = asksI (c.l.take k) ++ [(((k : Int) + 1), Sa.waitsN s)] by rw [HSK.out, hw]; simp [HSID.out])
    clear hw
    go_wp2_with (at_builtin; refine wpList_append_any _ rfl (.tmp 28) (.tmp 33) tKeysC rfl w.heap.size tKey i0 (mkKey (0, 0)) 2 16 Tryz.underlying87 hi hz0 hz1 hz2 rfl (by decide) _ _ _ rfl (World.ownsRow.alloc HO1.out _) 1 (encK (((k : Int) + 1), Sa.waitsN s)) (src_blk (xs := encK (((k : Int) + 1), Sa.waitsN s)) (heap_new _ _) (encK_one _)) (by unfold maxLen; omega) (by omega) (by have := HB1.out.size; simp; omega) ?_; intro v2 w2 ho2 hg2 hat2)
    have HO2 := Hd (show w2.ownsRow w.heap.size tKey 2 v2 (asksI (c.l.take (k + 1))).length ((asksI (c.l.take (k + 1))).flatMap encK) by rw [HF.out, List.length_append, List.flatMap_append]; simpa using ho2)
    have HB2 := Hd (Below.grown (HB1.out.alloc HB1.out.size (.cells #[.int .i64 ((k : Int) + 1), .int .i64 (Sa.waitsN s)] tKey)) hg2 (by have := HB1.out.size; simp; omega) (fun j hj => (HO1.out.lt j hj).1))
    clear ho2 hg2 hat2
    go_roundw
    case rel => exact ⟨k + 1, by go_num, by omega, HO2.out, HB2.out⟩
    case measure => simp [intOf]; omega
  ·obtain rfl : k = c.l.length := by omega
   have HO2 := Hd (show wr.ownsRow w.heap.size tKey 2 u3 (asksI c.l).length ((asksI c.l).flatMap encK) by have := HO.out; rwa [List.take_length] at this)
   go_wp2_with fail
   go_ret
   exact ⟨_, rfl, HO2.out, HB.out⟩
theorem rdiffs_any {w : World} {rb : Nat} {vL vB vI : Value} {c : Cor} (h : Rr w rb vL vB vI c) (hl : c.l.length ≤ 60) :
  Calls Tryz.prog 41 #[.pointer (some ⟨rb, 0, none⟩)] w fun e w' => ∃ v, e = .returned v ∧ RDs w' w.heap.size v (findD c.l c.inn) ∧ Below w.heap.size w w' := by
 have HR := Hd h
 have HI := Hd h.i
 have HH := Hd h.hc
 obtain ⟨A0, n0, c0, A1, n1, c1, A2, n2, c2, rfl, _⟩ := h.i
 obtain ⟨A, cl, rfl, hlc, hcm⟩ := h.l.shape
 clear h
 obtain ⟨m0, m1, m2, m3, m4, m5, m6, m7, m8, m9, m10⟩ := cell11 HH.out
 go_enter Tryz.func41, Tryz.ntmps41
 go_wp2_with fail
 have HHH := Hd (fun W (hb : Below w.heap.size w W) => (⟨Hd hb, kc hb m0, kc hb m1, kc hb m2, kc hb m3, kc hb m4, kc hb m5, kc hb m6, kc hb m7, kc hb m8, kc hb m9, kc hb m10⟩ : (fun w' => Hid (Below w.heap.size w w') ∧ w'.cell? ⟨rb, 0, none⟩ = some (.slice A c.l.length cl) ∧ w'.cell? ⟨rb, 1, none⟩ = some (vB) ∧ w'.cell? ⟨rb, 2, none⟩ = some (.int .i64 c.inn.a.1) ∧ w'.cell? ⟨rb, 3, none⟩ = some (.int .i64 c.inn.a.2.1) ∧ w'.cell? ⟨rb, 4, none⟩ = some (.slice A0 n0 c0) ∧ w'.cell? ⟨rb, 5, none⟩ = some (.int .i64 c.inn.b.1) ∧ w'.cell? ⟨rb, 6, none⟩ = some (.int .i64 c.inn.b.2.1) ∧ w'.cell? ⟨rb, 7, none⟩ = some (.slice A1 n1 c1) ∧ w'.cell? ⟨rb, 8, none⟩ = some (.int .i64 c.inn.c.1) ∧ w'.cell? ⟨rb, 9, none⟩ = some (.int .i64 c.inn.c.2.1) ∧ w'.cell? ⟨rb, 10, none⟩ = some (.slice A2 n2 c2)) W))
 refine wp_region_noPanic ?_
 refine wp_region_held_drew (S := (fun w' => Hid (Below w.heap.size w w') ∧ w'.cell? ⟨rb, 0, none⟩ = some (.slice A c.l.length cl) ∧ w'.cell? ⟨rb, 1, none⟩ = some (vB) ∧ w'.cell? ⟨rb, 2, none⟩ = some (.int .i64 c.inn.a.1) ∧ w'.cell? ⟨rb, 3, none⟩ = some (.int .i64 c.inn.a.2.1) ∧ w'.cell? ⟨rb, 4, none⟩ = some (.slice A0 n0 c0) ∧ w'.cell? ⟨rb, 5, none⟩ = some (.int .i64 c.inn.b.1) ∧ w'.cell? ⟨rb, 6, none⟩ = some (.int .i64 c.inn.b.2.1) ∧ w'.cell? ⟨rb, 7, none⟩ = some (.slice A1 n1 c1) ∧ w'.cell? ⟨rb, 8, none⟩ = some (.int .i64 c.inn.c.1) ∧ w'.cell? ⟨rb, 9, none⟩ = some (.int .i64 c.inn.c.2.1) ∧ w'.cell? ⟨rb, 10, none⟩ = some (.slice A2 n2 c2))) (by kernel_rfl) (HHH.out _ (below_drew1 (Below.refl w.heap.size w))) (fun hHeld => ?_)
 refine tk 0 rfl rfl ‹_› ?_; try go_frame
 refine tk 1 rfl rfl ‹_› ?_; try go_frame
 refine tk 2 rfl rfl ‹_› ?_; try go_frame
 refine tk 3 rfl rfl ‹_› ?_; try go_frame
 refine tk 4 rfl rfl ‹_› ?_; try go_frame
 refine tk 5 rfl rfl ‹_› ?_; try go_frame
 refine tk 6 rfl rfl ‹_› ?_; try go_frame
 refine tk 7 rfl rfl ‹_› ?_; try go_frame
 refine rdy 8 rfl (fun K hK => ?_)
 go_simp
 refine (refFind_any _ _ _ c.l c.inn (by omega) (HR.out.l.keep (below_drew1 (Below.refl _ w))) (HI.out.below (below_drew1 (Below.refl _ w))) HR.out.f).mono ?_
 rintro e w1 ⟨v1, rfl, ho, hb⟩
 have HO := Hd ho; have HB := Hd (show Below w.heap.size w w1 from bch (below_drew1 (Below.refl _ w)) hb (Nat.le_refl _))
 clear ho hb
 refine hK.out _ _ (HHH.out _ (HB.out)) (fun hHeld => ?_)
 clear hK K
 (try simp only [gx1, gx2, gx3]); try go_frame
 refine tk 9 rfl rfl ‹_› ?_; try go_frame
 refine wpAnyH_done (by kernel_rfl) ?_ _
 refine NoPanic.normal ?_
 clear hHeld
 go_wp2_with fail
 go_ret
 exact ⟨_, rfl, HO.out, HB.out⟩
theorem cdiffs_any {B : Nat} {w : World} {cb bb pm bm : Nat} {vl vb vI : Value} {c : Cor} (h : Cw B w cb bb pm bm vl vb vI c) (hl : c.l.length ≤ 60) (hid : ∀ s ∈ c.l, -9223372036854775808 ≤ s.id ∧ s.id ≤ 9223372036854775807) (hT : PT w) :
  Calls Tryz.prog 40 #[.pointer (some ⟨cb, 0, none⟩)] w fun e w' => ∃ v, e = .returned v ∧ w'.ownsRow w.heap.size tDiff 3 v (findD c.l c.inn).length ((findD c.l c.inn).flatMap encD) ∧ Below w.heap.size w w' := by
 have HR := Hd h
 have HI := Hd h.ii
 have HH := Hd h.hc
 have HID := Hd hid; have HT := Hd hT
 obtain ⟨A0, n0, c0, A1, n1, c1, A2, n2, c2, m, rfl, _⟩ := h.ii
 obtain ⟨A, cl, rfl, _⟩ := own_slice h.ol
 clear h hid hT
 obtain ⟨m0, m1, m2, m3, m4, m5, m6, m7, m8, m9, m10, m11⟩ := cell12 HH.out
 go_enter Tryz.func40, Tryz.ntmps40
 go_wp2_with (go_at_call 18; refine (cnone_any HR.out).mono ?_; rintro e w1 ⟨rfl, hb⟩; subst hb)
 have HHH := Hd (fun W (hb : Below w.heap.size w W) => (⟨Hd hb, kc hb m0, kc hb m1, kc hb m2, kc hb m3, kc hb m4, kc hb m5, kc hb m6, kc hb m7, kc hb m8, kc hb m9, kc hb m10, kc hb m11⟩ : (fun w' => Hid (Below w.heap.size w w') ∧ w'.cell? ⟨cb, 0, none⟩ = some (.slice A c.l.length cl) ∧ w'.cell? ⟨cb, 1, none⟩ = some (.pointer (some ⟨bb, 0, none⟩)) ∧ w'.cell? ⟨cb, 2, none⟩ = some (.int .i64 c.inn.a.1) ∧ w'.cell? ⟨cb, 3, none⟩ = some (.int .i64 c.inn.a.2.1) ∧ w'.cell? ⟨cb, 4, none⟩ = some (.slice A0 n0 c0) ∧ w'.cell? ⟨cb, 5, none⟩ = some (.int .i64 c.inn.b.1) ∧ w'.cell? ⟨cb, 6, none⟩ = some (.int .i64 c.inn.b.2.1) ∧ w'.cell? ⟨cb, 7, none⟩ = some (.slice A1 n1 c1) ∧ w'.cell? ⟨cb, 8, none⟩ = some (.int .i64 c.inn.c.1) ∧ w'.cell? ⟨cb, 9, none⟩ = some (.int .i64 c.inn.c.2.1) ∧ w'.cell? ⟨cb, 10, none⟩ = some (.slice A2 n2 c2) ∧ w'.cell? ⟨cb, 11, none⟩ = some (.map m)) W))
 refine wp_region_noPanic ?_
 refine wp_region_held_drew (S := (fun w' => Hid (Below w.heap.size w w') ∧ w'.cell? ⟨cb, 0, none⟩ = some (.slice A c.l.length cl) ∧ w'.cell? ⟨cb, 1, none⟩ = some (.pointer (some ⟨bb, 0, none⟩)) ∧ w'.cell? ⟨cb, 2, none⟩ = some (.int .i64 c.inn.a.1) ∧ w'.cell? ⟨cb, 3, none⟩ = some (.int .i64 c.inn.a.2.1) ∧ w'.cell? ⟨cb, 4, none⟩ = some (.slice A0 n0 c0) ∧ w'.cell? ⟨cb, 5, none⟩ = some (.int .i64 c.inn.b.1) ∧ w'.cell? ⟨cb, 6, none⟩ = some (.int .i64 c.inn.b.2.1) ∧ w'.cell? ⟨cb, 7, none⟩ = some (.slice A1 n1 c1) ∧ w'.cell? ⟨cb, 8, none⟩ = some (.int .i64 c.inn.c.1) ∧ w'.cell? ⟨cb, 9, none⟩ = some (.int .i64 c.inn.c.2.1) ∧ w'.cell? ⟨cb, 10, none⟩ = some (.slice A2 n2 c2) ∧ w'.cell? ⟨cb, 11, none⟩ = some (.map m))) (by kernel_rfl) (HHH.out _ (below_drew1 (Below.refl w.heap.size w))) (fun hHeld => ?_)
 refine tk 0 rfl rfl ‹_› ?_; try go_frame
 refine tk 1 rfl rfl ‹_› ?_; try go_frame
 refine tk 2 rfl rfl ‹_› ?_; try go_frame
 refine tk 3 rfl rfl ‹_› ?_; try go_frame
 refine tk 4 rfl rfl ‹_› ?_; try go_frame
 refine tk 5 rfl rfl ‹_› ?_; try go_frame
 refine tk 6 rfl rfl ‹_› ?_; try go_frame
 refine tk 7 rfl rfl ‹_› ?_; try go_frame
 refine rdy 8 rfl (fun K hK => ?_)
 go_simp
 refine (find_any _ _ _ c.l c.inn (by omega) HID.out ((sgs_own HR.out.ol).keep (below_drew1 (Below.refl _ w))) (HI.out.below (below_drew1 (Below.refl _ w))) HR.out.fi (HT.out.below (below_drew1 (Below.refl _ w)))).mono ?_
 rintro e w1 ⟨v1, rfl, ho, hb⟩
 have HO := Hd ho; have HB := Hd (show Below w.heap.size w w1 from bch (below_drew1 (Below.refl _ w)) hb (Nat.le_refl _))
 clear ho hb
 refine hK.out _ _ (HHH.out _ (HB.out)) (fun hHeld => ?_)
 clear hK K
 (try simp only [gx1, gx2, gx3]); try go_frame
 refine tk 9 rfl rfl ‹_› ?_; try go_frame
 refine wpAnyH_done (by kernel_rfl) ?_ _
 refine NoPanic.normal ?_
 clear hHeld
 go_wp2_with fail
 go_ret
 exact ⟨_, rfl, HO.out, HB.out⟩
end Go.Proofs.YtiagdpfmmjhgcaaGreatDoor

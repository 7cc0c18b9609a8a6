/- A core cancels an order. -/
import Derived.Test.YtlkncmpengpbiaaGreatDoorCoreReply
import Derived.Test.YtlkncmpengpbiaaGreatDoorCoreBase
import Derived.Test.YtlkncmpengpbiaaGreatDoorIntakeTell
import Derived.Test.YtlkncmpengpbiaaGreatDoorSrcOf
import Derived.Deep.CutRange
import Derived.Test.YtlkncmpengpbiaaGreatDoorShort
namespace Go.Proofs.YtlkncmpengpbiaaGreatDoor
open Go.RowKit Go.Maps Co Key Rw Sa Od

namespace Co
def cstopE (c : Cor) (o : Int) : Int :=
  if o < 1 ∨ (c.l.length : Int) < o then 4 else match c.l[o.toNat - 1]? with | none => 4 | some s => if goingB s = true then 0 else 92
def cstopC (c : Cor) (o : Int) : Cor := if cstopE c o = 0 then
    (match c.l[o.toNat - 1]? with | none => c | some s => { c with l := c.l.set (o.toNat - 1) (Sa.stopI s) }) else c
end Co
set_option linter.unusedSimpArgs false in
set_option linter.unusedVariables false in
set_option maxRecDepth 100000 in
set_option maxHeartbeats 16000000 in
theorem cstop_any {B : Nat} {w : World} {cb bb pm bm : Nat} {vl vb vI : Value} {c : Cor} (h : Cw B w cb bb pm bm vl vb vI c) (o : Int) (ho : -9223372036854775808 ≤ o ∧ o ≤ 9223372036854775807) (hl : c.l.length ≤ 100000) :
    Calls Tryz.prog 58 #[.pointer (some ⟨cb, 0, none⟩), .int .i64 o] w fun e w' => e = .returned (.int .i64 (cstopE c o)) ∧ Cw B w' cb bb pm bm vl vb vI (cstopC c o) ∧ Turned (Cs cb bb pm bm vl vb) w w' := by
  obtain ⟨A, cl, rfl, _⟩ := own_slice h.ol
  have HC := Lib.hid h
  clear h
  go_enter Tryz.func58, Tryz.ntmps58
  go_wp2_with fail
  refine (corder_any HC.out o ho hl).mono ?_
  rintro e w1 ⟨hyes, hno, hb⟩
  have HB1 := Lib.hid hb; have HC1 := Lib.hid (HC.out.below hb)
  clear hb
  by_cases hn : o < 1 ∨ (c.l.length : Int) < o
  · obtain rfl := hno hn
    have HE := Lib.hid (show cstopE c o = 4 by unfold cstopE; rw [if_pos hn])
    have HCC := Lib.hid (show cstopC c o = c by unfold cstopC; rw [if_neg (by rw [HE.out]; decide)])
    clear hyes hno hn
    go_upto_region 2 with (fail)
    obtain ⟨w2, hw2⟩ : ∃ w2, w2 = w1.alloc (.cells (sgA sg0) tSaga) := ⟨_, rfl⟩
    rw [← hw2]
    have hb2 : Below w1.heap.size w1 w2 := by rw [hw2]; exact below_alloc _ _
    have HB2 := Lib.hid (bch HB1.out hb2 HB1.out.size); have HC2 := Lib.hid (HC1.out.below hb2)
    clear hw2 hb2
    go_wp2_with fail
    go_ret
    exact ⟨by rw [HE.out]; rfl, by rw [HCC.out]; exact HC2.out, Turned.of_below HB2.out⟩
  · have ho1 : 1 ≤ o := by omega
    obtain ⟨s, hs⟩ : ∃ s, c.l[o.toNat - 1]? = some s := ⟨_, List.getElem?_eq_getElem (by omega)⟩
    obtain rfl := hyes s ho1 hs
    obtain ⟨kk, rfl⟩ : ∃ kk : Nat, o = (kk : Int) + 1 := ⟨(o - 1).toNat, by omega⟩
    have hkk : ((kk : Int) + 1).toNat - 1 = kk := by omega
    rw [hkk] at hs
    have hkl : kk < c.l.length := (List.getElem?_eq_some_iff.1 hs).1
    have HS := Lib.hid hs
    have HR := Lib.hid (show cstopE c ((kk : Int) + 1) = if goingB s = true then 0 else 92 by unfold cstopE; rw [if_neg hn, hkk, hs])
    clear hyes hno hn hs
    go_upto_region 4 with (fail)
    obtain ⟨w2, hw2⟩ : ∃ w2, w2 = w1.alloc (.cells (sgA s) tSaga) := ⟨_, rfl⟩
    rw [← hw2]
    have hb2 : Below w1.heap.size w1 w2 := by rw [hw2]; exact below_alloc _ _
    have HS2 := Lib.hid (show w2.heap[w1.heap.size]? = some (.cells (sgA s) tSaga (0, 0)) by rw [hw2]; exact heap_new _ _)
    have HB2 := Lib.hid (bch HB1.out hb2 HB1.out.size); have HC2 := Lib.hid (HC1.out.below hb2)
    have hz1 : w.heap.size ≤ w1.heap.size := HB1.out.size
    clear hw2 hb2
    generalize w1.heap.size = b5 at HS2 hz1 ⊢
    obtain ⟨c0, c1, c2, c3, c4, c5, c6, c7, c8, c9, c10, c11⟩ := sg_box HS2.out
    go_wp2_with fail
    cases hr : goingB s with
    | false =>
      refine (stop_no s w2 hr).mono ?_
      rintro e w3 ⟨rfl, hb⟩
      have HE := Lib.hid (show cstopE c ((kk : Int) + 1) = 92 by rw [HR.out, hr]; rfl)
      have HCC := Lib.hid (show cstopC c ((kk : Int) + 1) = c by unfold cstopC; rw [if_neg (by rw [HE.out]; decide)])
      have HS3 := Lib.hid (heap_keep HS2.out hb); have HB3 := Lib.hid (bch HB2.out hb HB2.out.size); have HC3 := Lib.hid (HC2.out.below hb)
      clear hb c0 c1 c2 c3 c4 c5 c6 c7 c8 c9 c10 c11 HS2 HB2
      obtain ⟨c0, c1, c2, c3, c4, c5, c6, c7, c8, c9, c10, c11⟩ := cell12 HS3.out
      obtain ⟨f0, f1, f2, f3, f4, f5, f6, f7, f8, f9, f10, f11⟩ := froz12 HS3.out
      go_upto_region 5 with (fail)
      obtain ⟨w4, hw4⟩ : ∃ w4, w4 = set12w w3 b5 (.int .i64 0) (.string ⟨#[]⟩) (.string ⟨#[]⟩) (.int .i64 0) (.int .i64 0) (.int .i64 0) (.int .i64 0) (.int .i64 0) (.int .i64 0) (.int .i64 0) (.int .i64 0) (.bool false) := ⟨_, rfl⟩
      rw [show (((((((((((w3.setCell ⟨b5, 0, none⟩ (.int .i64 0)).setCell ⟨b5, 1, none⟩ (.string ⟨#[]⟩)).setCell ⟨b5, 2, none⟩ (.string ⟨#[]⟩)).setCell ⟨b5, 3, none⟩ (.int .i64 0)).setCell ⟨b5, 4, none⟩ (.int .i64 0)).setCell ⟨b5, 5, none⟩ (.int .i64 0)).setCell ⟨b5, 6, none⟩ (.int .i64 0)).setCell ⟨b5, 7, none⟩ (.int .i64 0)).setCell ⟨b5, 8, none⟩ (.int .i64 0)).setCell ⟨b5, 9, none⟩ (.int .i64 0)).setCell ⟨b5, 10, none⟩ (.int .i64 0)).setCell ⟨b5, 11, none⟩ (.bool false) = w4 from hw4.symm]
      have ht4 : Turned (fun j => j = b5) w3 w4 := by rw [hw4]; exact turned_set12 _ _ _ _ _ _ _ _ _ _ _ _ _ _
      have HS4 := Lib.hid (show w4.heap[b5]? = some (.cells #[.int .i64 0, .string ⟨#[]⟩, .string ⟨#[]⟩, .int .i64 0, .int .i64 0, .int .i64 0, .int .i64 0, .int .i64 0, .int .i64 0, .int .i64 0, .int .i64 0, .bool false] tSaga (0, 0)) by rw [hw4]; exact set12 HS3.out _ _ _ _ _ _ _ _ _ _ _ _)
      have HB4 := Lib.hid (Below.turned HB3.out ht4 (fun i h => by omega) HB3.out.size)
      have HC4 := Lib.hid (HC.out.below HB4.out)
      clear hw4 ht4 c0 c1 c2 c3 c4 c5 c6 c7 c8 c9 c10 c11 f0 f1 f2 f3 f4 f5 f6 f7 f8 f9 f10 f11 HS3 HB3 HC3 HC2
      go_wp2_with fail
      go_ret
      exact ⟨by rw [HE.out]; rfl, by rw [HCC.out]; exact HC4.out, Turned.of_below HB4.out⟩
    | true =>
      refine (stop_yes s w2 hr).mono ?_
      obtain ⟨t, ht0⟩ : ∃ t, Sa.stopI s = t := ⟨_, rfl⟩
      rw [ht0]
      rintro e w3 ⟨rfl, hb⟩
      have HE := Lib.hid (show cstopE c ((kk : Int) + 1) = 0 by rw [HR.out, hr]; rfl)
      have HCC := Lib.hid (show cstopC c ((kk : Int) + 1) = { c with l := c.l.set kk t } by unfold cstopC; rw [if_pos HE.out, hkk, HS.out]; simp only [ht0])
      clear ht0 hr
      have HS3 := Lib.hid (heap_keep HS2.out hb); have HB3 := Lib.hid (bch HB2.out hb HB2.out.size); have HC3 := Lib.hid (HC2.out.below hb)
      clear hb c0 c1 c2 c3 c4 c5 c6 c7 c8 c9 c10 c11 HS2 HB2
      obtain ⟨c0, c1, c2, c3, c4, c5, c6, c7, c8, c9, c10, c11⟩ := cell12 HS3.out
      obtain ⟨f0, f1, f2, f3, f4, f5, f6, f7, f8, f9, f10, f11⟩ := froz12 HS3.out
      go_upto_region 5 with (fail)
      obtain ⟨w4, hw4⟩ : ∃ w4, w4 = set12w w3 b5 (.int .i64 t.id) (.string ⟨t.ref.toArray⟩) (.string ⟨t.sku.toArray⟩) (.int .i64 t.qty) (.int .i64 t.amt) (.int .i64 t.d0) (.int .i64 t.d1) (.int .i64 t.d2) (.int .i64 t.d3) (.int .i64 t.d4) (.int .i64 t.d5) (.bool t.can) := ⟨_, rfl⟩
      rw [show (((((((((((w3.setCell ⟨b5, 0, none⟩ (.int .i64 t.id)).setCell ⟨b5, 1, none⟩ (.string ⟨t.ref.toArray⟩)).setCell ⟨b5, 2, none⟩ (.string ⟨t.sku.toArray⟩)).setCell ⟨b5, 3, none⟩ (.int .i64 t.qty)).setCell ⟨b5, 4, none⟩ (.int .i64 t.amt)).setCell ⟨b5, 5, none⟩ (.int .i64 t.d0)).setCell ⟨b5, 6, none⟩ (.int .i64 t.d1)).setCell ⟨b5, 7, none⟩ (.int .i64 t.d2)).setCell ⟨b5, 8, none⟩ (.int .i64 t.d3)).setCell ⟨b5, 9, none⟩ (.int .i64 t.d4)).setCell ⟨b5, 10, none⟩ (.int .i64 t.d5)).setCell ⟨b5, 11, none⟩ (.bool t.can) = w4 from hw4.symm]
      have ht4 : Turned (fun j => j = b5) w3 w4 := by rw [hw4]; exact turned_set12 _ _ _ _ _ _ _ _ _ _ _ _ _ _
      have HS4 := Lib.hid (show w4.heap[b5]? = some (.cells #[.int .i64 t.id, .string ⟨t.ref.toArray⟩, .string ⟨t.sku.toArray⟩, .int .i64 t.qty, .int .i64 t.amt, .int .i64 t.d0, .int .i64 t.d1, .int .i64 t.d2, .int .i64 t.d3, .int .i64 t.d4, .int .i64 t.d5, .bool t.can] tSaga (0, 0)) by rw [hw4]; exact set12 HS3.out _ _ _ _ _ _ _ _ _ _ _ _)
      have HB4 := Lib.hid (Below.turned HB3.out ht4 (fun i h => by omega) HB3.out.size)
      have HC4 := Lib.hid (HC.out.below HB4.out)
      clear hw4 ht4 c0 c1 c2 c3 c4 c5 c6 c7 c8 c9 c10 c11 f0 f1 f2 f3 f4 f5 f6 f7 f8 f9 f10 f11 HS3 HB3 HC3 HC2
      rcases own_ptr HC.out.ol with ⟨_, h0⟩ | ⟨g, c2', es, hgB, hgl, hgc⟩
      · omega
      injection es with es1 es2 es3; subst es1; clear es2 es3
      obtain ⟨c0, c1, c2, c3, c4, c5, c6, c7, c8, c9, c10, c11⟩ := cell12 HS4.out
      obtain ⟨y0, y1⟩ := HC4.out.c01
      have r0 := own_cellK encS_len (by decide) HC4.out.ol HS.out 0 (by decide)
      have r1 := own_cellK encS_len (by decide) HC4.out.ol HS.out 1 (by decide)
      have r2 := own_cellK encS_len (by decide) HC4.out.ol HS.out 2 (by decide)
      have r3 := own_cellK encS_len (by decide) HC4.out.ol HS.out 3 (by decide)
      have r4 := own_cellK encS_len (by decide) HC4.out.ol HS.out 4 (by decide)
      have r5 := own_cellK encS_len (by decide) HC4.out.ol HS.out 5 (by decide)
      have r6 := own_cellK encS_len (by decide) HC4.out.ol HS.out 6 (by decide)
      have r7 := own_cellK encS_len (by decide) HC4.out.ol HS.out 7 (by decide)
      have r8 := own_cellK encS_len (by decide) HC4.out.ol HS.out 8 (by decide)
      have r9 := own_cellK encS_len (by decide) HC4.out.ol HS.out 9 (by decide)
      have r10 := own_cellK encS_len (by decide) HC4.out.ol HS.out 10 (by decide)
      have r11 := own_cellK encS_len (by decide) HC4.out.ol HS.out 11 (by decide)
      simp only [encS, sgA, List.getElem?_cons_zero, List.getElem?_cons_succ, Nat.add_zero] at r0 r1 r2 r3 r4 r5 r6 r7 r8 r9 r10 r11
      have q0 := HC4.out.ol.frozenAt (kk * 12)
      have q1 := HC4.out.ol.frozenAt (kk * 12 + 1)
      have q2 := HC4.out.ol.frozenAt (kk * 12 + 2)
      have q3 := HC4.out.ol.frozenAt (kk * 12 + 3)
      have q4 := HC4.out.ol.frozenAt (kk * 12 + 4)
      have q5 := HC4.out.ol.frozenAt (kk * 12 + 5)
      have q6 := HC4.out.ol.frozenAt (kk * 12 + 6)
      have q7 := HC4.out.ol.frozenAt (kk * 12 + 7)
      have q8 := HC4.out.ol.frozenAt (kk * 12 + 8)
      have q9 := HC4.out.ol.frozenAt (kk * 12 + 9)
      have q10 := HC4.out.ol.frozenAt (kk * 12 + 10)
      have q11 := HC4.out.ol.frozenAt (kk * 12 + 11)
      have hw1 : IntKind.i64.wrap ((kk : Int) + 1 - 1) = kk := by rw [show (kk : Int) + 1 - 1 = kk by omega]; exact IntWalk.i64_in _ (by omega)
      have hkI : (kk : Int) < c.l.length := by omega
      have hkI0 : (0 : Int) ≤ kk := by omega
      have hgne : g ≠ b5 := by omega
      go_wp2_with fail
      go_region
      go_wp2_with fail
      obtain ⟨w5, hw5⟩ : ∃ w5, w5 = (set12k w4 g kk t).drew := ⟨_, rfl⟩
      rw [show ((((((((((((w4.setCell ⟨g, kk * 12, none⟩ (.int .i64 t.id)).setCell ⟨g, kk * 12 + 1, none⟩ (.string ⟨t.ref.toArray⟩)).setCell ⟨g, kk * 12 + 2, none⟩ (.string ⟨t.sku.toArray⟩)).setCell ⟨g, kk * 12 + 3, none⟩ (.int .i64 t.qty)).setCell ⟨g, kk * 12 + 4, none⟩ (.int .i64 t.amt)).setCell ⟨g, kk * 12 + 5, none⟩ (.int .i64 t.d0)).setCell ⟨g, kk * 12 + 6, none⟩ (.int .i64 t.d1)).setCell ⟨g, kk * 12 + 7, none⟩ (.int .i64 t.d2)).setCell ⟨g, kk * 12 + 8, none⟩ (.int .i64 t.d3)).setCell ⟨g, kk * 12 + 9, none⟩ (.int .i64 t.d4)).setCell ⟨g, kk * 12 + 10, none⟩ (.int .i64 t.d5)).setCell ⟨g, kk * 12 + 11, none⟩ (.bool t.can)).drew = w5 from hw5.symm]
      have ht5 : Turned (fun j => j = g) w4 w5 := by rw [hw5]; exact (turned_set12k w4 g kk t).drew
      have HC5 := Lib.hid (show Cw B w5 cb bb pm bm (.slice (some ⟨g, 0, none⟩) c.l.length cl) vb vI { c with l := c.l.set kk t } by rw [hw5]; exact (show Cw B (set12k w4 g kk t) cb bb pm bm (.slice (some ⟨g, 0, none⟩) c.l.length cl) vb vI { c with l := c.l.set kk t } from HC4.out.setSaga hkl t).below (below_drew1 (Below.refl _ _)))
      go_ret
      exact ⟨by rw [HE.out]; rfl, by rw [HCC.out]; exact HC5.out, (Turned.of_below HB4.out).trans (ht5.mono (fun i h => .inr (.inr (by rw [h]; rfl))))⟩
end Go.Proofs.YtlkncmpengpbiaaGreatDoor
/- What a core is made of: Parts. -/
namespace Go.Proofs.YtlkncmpengpbiaaGreatDoor
open Go.RowKit Go.Maps Key Rw Sa Co
set_option linter.unusedSimpArgs false
set_option linter.unusedVariables false
set_option maxRecDepth 100000
set_option maxHeartbeats 16000000

abbrev tPartsC : TypeId := 141
abbrev tSagasC : TypeId := 80
theorem own_base {w : World} {B B' : Nat} {e : TypeId} {z n : Nat} {v : Value} {xs : List Value} (h : w.ownsRow B e z v n xs) (hB : B' ≤ B) : w.ownsRow B' e z v n xs :=
 ⟨h.1, h.2.imp id fun ⟨g, cap, cur, e, hb, r⟩ => ⟨g, cap, cur, e, Nat.le_trans hB hb, r⟩⟩
theorem bclone_any {B : Nat} (w : World) (v : Value) (b : List Po) (h : w.ownsRow B tPost 5 v b.length (b.flatMap encP)) (hl : b.length ≤ 100000) (base : Nat) (hbase : base ≤ w.heap.size) :
  Calls Tryz.prog 109 #[v] w fun e w' => ∃ v', e = .returned v' ∧ w'.ownsRow base tPost 5 v' b.length (b.flatMap encP) ∧ Below w.heap.size w w' := by
 obtain ⟨i0, hi, hz0, hz1, hz2⟩ := info_parts post_info
 have q22 : ∀ (w : World) (a : Option Addr) (n c n' c' : Nat), (binOp .eql tPosts (.slice a n c) (.slice none n' c')).run Tryz.prog w = .ok (.bool a.isNone) w := fun w a n c n' c' => Lib.run_eql_slice_nil w _ _ a n c n' c' Tryz.underlying95
 rcases own_ptr h with ⟨rfl, h0⟩ | ⟨g, c, rfl, hgB, hgl, hgc⟩
 ·obtain rfl : b = [] := List.length_eq_zero_iff.1 h0
  clear h
  go_enter Tryz.func109, Tryz.ntmps109
  go_wp2_with fail
  go_ret
  exact ⟨_, rfl, World.ownsRow_nil _ _ _ _, Below.refl _ _⟩
 ·have HS := Hd (src_own (enc := encP) (z := 5) encP_len (by decide) encP_one h)
  have hb1 := below_alloc w (.cells #[] tPost)
  have HS1 := Hd (src_own (enc := encP) (z := 5) encP_len (by decide) encP_one (own_keep h hb1))
  have HB1 := Hd hb1
  clear h hb1
  go_enter Tryz.func109, Tryz.ntmps109
  go_wp2_with (at_builtin; refine wpList_append_any _ rfl (.tmp 5) (.tmp 6) tPosts rfl base tPost i0 (mkPost ⟨[], 0, 0, 0, 0⟩) 5 48 Tryz.underlying95 hi hz0 hz1 hz2 rfl (by decide) (.slice (some ⟨w.heap.size, 0, none⟩) 0 0) 0 [] rfl (World.ownsRow_made w #[] 0 hbase (Nat.zero_le _) rfl) b.length (b.flatMap encP) HS1.out (by unfold maxLen; omega) (by omega) (by simp; omega) ?_; intro v2 w2 ho2 hg2 hat2; rw [Nat.zero_add, List.nil_append] at ho2; have HO2 := Hd ho2; have HG2 := Hd hg2; clear ho2 hg2 hat2)
  go_ret
  exact ⟨_, rfl, HO2.out, Below.grown HB1.out HG2.out HB1.out.size (fun j hj => by have e : j = w.heap.size := (by simpa [Value.ownBlock] using hj.symm); omega)⟩
theorem blist_any {B : Nat} {w : World} {bb pm bm : Nat} {vb : Value} {b : List Po} (h : Bw B w bb pm bm vb b) (hl : b.length ≤ 100000) (base : Nat) (hbase : base ≤ w.heap.size) :
  Calls Tryz.prog 123 #[.pointer (some ⟨bb, 0, none⟩)] w fun e w' => ∃ v', e = .returned v' ∧ w'.ownsRow base tPost 5 v' b.length (b.flatMap encP) ∧ Below w.heap.size w w' := by
 have c0 := cell_at h.hd 0 rfl
 have HH := Hd h
 clear h
 go_enter Tryz.func123, Tryz.ntmps123
 go_wp2_with (first
  | (go_at_call 108; refine (bnone_any HH.out).mono ?_; rintro e w1 ⟨rfl, hb⟩; subst hb)
  | (go_at_call 109; refine (bclone_any _ vb b HH.out.ob hl base hbase).mono ?_; rintro e w1 ⟨v', rfl, ho, hb⟩; have HO := Hd ho; have HB := Hd hb; clear ho hb))
 go_ret
 exact ⟨_, rfl, HO.out, HB.out⟩
/-- The block of an own row is none that holds other things. -/
theorem own_off {w : World} {B : Nat} {e T : TypeId} {z n b : Nat} {v : Value} {xs : List Value} {cs : Array Value} {fr : Nat × Nat} (h : w.ownsRow B e z v n xs) (hb : w.heap[b]? = some (.cells cs T fr)) (hT : e ≠ T) : ∀ j, v.ownBlock = some j → j = b → False := by
 intro j hj e
 subst e
 rcases h.2 with ⟨rfl, _⟩ | ⟨g, cap, cur, rfl, _, hg, _⟩
 ·cases hj
 ·obtain rfl : g = j := by simpa [Value.ownBlock] using hj
  rw [hb] at hg
  injection hg with hg
  injection hg with _ hg _
  exact hT hg.symm
/-- A statement that stands in a box of parts; its rows' memory is made behind it. -/
structure StO (w : World) (bp : Nat) (x : In.Stm) (p s : Int) (A : Option Addr) (n c : Nat) : Prop where
 ep : p = x.1
 es : s = x.2.1
 en : n = x.2.2.length
 rd : Rd w (.slice A n c) x.2.2
 off : ∀ ad n' c', Value.slice A n c = .slice (some ad) n' c' → 0 < x.2.2.length → bp < ad.block
theorem StO.step {w w5 w6 : World} {bp bz : Nat} {x : In.Stm} {p s : Int} {A : Option Addr} {n c : Nat} (h : StO w bz x p s A n c) (hle : bp ≤ bz) (hb : Below w.heap.size w w5) (ht : Turned (fun j => j = bp) w5 w6) : StO w6 bz x p s A n c :=
 ⟨h.ep, h.es, h.en, (h.rd.keep hb).turned ht (fun ad n' c' e hl => by have := h.off ad n' c' e hl; omega), h.off⟩
theorem cparts_any {B : Nat} {w : World} {cb bb pm bm : Nat} {vl vb vI : Value} {c : Cor} (h : Cw B w cb bb pm bm vl vb vI c) (hl : c.l.length ≤ 100000) (hbl : c.b.length ≤ 100000) :
  Calls Tryz.prog 90 #[.pointer (some ⟨cb, 0, none⟩)] w fun e w' => ∃ As cs Ap cp A0 c0 A1 c1 A2 c2, e = .returned (.agg #[.slice As c.l.length cs, .slice Ap c.b.length cp, .int .i64 c.inn.a.1, .int .i64 c.inn.a.2.1, .slice A0 c.inn.a.2.2.length c0, .int .i64 c.inn.b.1, .int .i64 c.inn.b.2.1, .slice A1 c.inn.b.2.2.length c1, .int .i64 c.inn.c.1, .int .i64 c.inn.c.2.1, .slice A2 c.inn.c.2.2.length c2]) ∧ w'.ownsRow w.heap.size tSaga 12 (.slice As c.l.length cs) c.l.length (c.l.flatMap encS) ∧ w'.ownsRow w.heap.size tPost 5 (.slice Ap c.b.length cp) c.b.length (c.b.flatMap encP) ∧ Rd w' (.slice A0 c.inn.a.2.2.length c0) c.inn.a.2.2 ∧ Rd w' (.slice A1 c.inn.b.2.2.length c1) c.inn.b.2.2 ∧ Rd w' (.slice A2 c.inn.c.2.2.length c2) c.inn.c.2.2 ∧ Below w.heap.size w w' ∧ ∃ bz, w.heap.size ≤ bz ∧ (∀ j, Value.ownBlock (.slice As c.l.length cs) = some j → j ≤ bz) ∧ (∀ j, Value.ownBlock (.slice Ap c.b.length cp) = some j → j ≤ bz) ∧ (∀ ad, A0 = some ad → 0 < c.inn.a.2.2.length → bz < ad.block) ∧ (∀ ad, A1 = some ad → 0 < c.inn.b.2.2.length → bz < ad.block) ∧ ∀ ad, A2 = some ad → 0 < c.inn.c.2.2.length → bz < ad.block := by
 obtain ⟨i0, hi, hz0, hz1, hz2⟩ := info_parts saga_info
 obtain ⟨A, cl, rfl, _⟩ := own_slice h.ol
 obtain ⟨wa, hA⟩ : ∃ wa, wa = w.alloc (.cells #[.slice none 0 0, .slice none 0 0, .int .i64 0, .int .i64 0, .slice none 0 0, .int .i64 0, .int .i64 0, .slice none 0 0, .int .i64 0, .int .i64 0, .slice none 0 0] tPartsC) := ⟨_, rfl⟩
 have hB : Below w.heap.size w wa := by rw [hA]; exact below_alloc _ _
 have HX := Hd (show wa.heap[w.heap.size]? = some (.cells #[.slice none 0 0, .slice none 0 0, .int .i64 0, .int .i64 0, .slice none 0 0, .int .i64 0, .int .i64 0, .slice none 0 0, .int .i64 0, .int .i64 0, .slice none 0 0] tPartsC (0, 0)) by rw [hA]; exact heap_new _ _)
 have HWS := Hd (show wa.heap.size = w.heap.size + 1 by rw [hA]; simp)
 have HC := Hd (h.below hB); have HA := Hd hA; have HB := Hd hB
 clear hA hB h
 obtain ⟨I0, In0, Ic0, I1, In1, Ic1, I2, In2, Ic2, m, rfl, _⟩ := HC.out.ii
 have HSRC := Hd (fun W (hb : Below wa.heap.size wa W) => src_own (enc := encS) (z := 12) encS_len (by decide) encS_one (own_keep HC.out.ol hb))
 have HLI := Hd (fun W (hb : Below wa.heap.size wa W) => blist_any (HC.out.bk.below hb) hbl wa.heap.size hb.size)
 obtain ⟨y0, y1⟩ := HC.out.c01
 go_enter Tryz.func90, Tryz.ntmps90
 go_upto_region 1 with (fail)
 rw [← HA.out]
 go_upto_region 3 with (go_at_call 39; refine (cnone_any HC.out).mono ?_; rintro e w1 ⟨rfl, hb⟩; subst hb)
 go_cut [3] from 8 to 18 (fun p wx => ∃ bp Ac cc Ad cd, p = .pointer (some ⟨bp, 0, none⟩) ∧ wx.heap[bp]? = some (.cells #[.slice Ac c.l.length cc, .slice Ad c.b.length cd, .int .i64 0, .int .i64 0, .slice none 0 0, .int .i64 0, .int .i64 0, .slice none 0 0, .int .i64 0, .int .i64 0, .slice none 0 0] tPartsC (0, 0)) ∧ wx.ownsRow wa.heap.size tSaga 12 (.slice Ac c.l.length cc) c.l.length (c.l.flatMap encS) ∧ wx.ownsRow wa.heap.size tPost 5 (.slice Ad c.b.length cd) c.b.length (c.b.flatMap encP) ∧ wa.heap.size ≤ bp ∧ Below wa.heap.size wa wx)
 case first =>
  have HH := Hd (fun W (hb : Below wa.heap.size wa W) => (⟨Hd hb, kc hb y0, kc hb y1⟩ : (fun w' => Hid (Below wa.heap.size wa w') ∧ w'.cell? ⟨cb, 0, none⟩ = some (.slice A c.l.length cl) ∧ w'.cell? ⟨cb, 1, none⟩ = some (.pointer (some ⟨bb, 0, none⟩))) W))
  refine wp_region_noPanic ?_
  refine wp_region_held_drew (S := (fun w' => Hid (Below wa.heap.size wa w') ∧ w'.cell? ⟨cb, 0, none⟩ = some (.slice A c.l.length cl) ∧ w'.cell? ⟨cb, 1, none⟩ = some (.pointer (some ⟨bb, 0, none⟩)))) (by kernel_rfl) (HH.out _ (below_drew1 (Below.refl wa.heap.size wa))) (fun hHeld => ?_)
  refine tk 0 rfl rfl ‹_› ?_; try go_frame
  refine tk 1 rfl rfl ‹_› ?_; try go_frame
  refine tk 2 rfl rfl ‹_› ?_; try go_frame
  refine tk 3 rfl rfl ‹_› ?_; try go_frame
  refine tk 5 rfl rfl ‹_› ?_; try go_frame
  refine tk 6 rfl rfl ‹_› ?_; try go_frame
  refine tk 7 rfl rfl ‹_› ?_; try go_frame
  refine tk 8 rfl rfl ‹_› ?_; try go_frame
  refine wpAnyH_ready (rs := [4, 11]) (by kernel_rfl) (by simp) ?_
  refine AllReadyH.cons rfl (fun K hK => ?_) (AllReadyH.cons rfl (fun K hK => ?_) AllReadyH.nil)
  ·refine step_append_any _ rfl (.const (.slice none 0 0)) (.tmp 11) tSagasC rfl wa.heap.size tSaga i0 (.agg #[.int .i64 0, .string ⟨#[]⟩, .string ⟨#[]⟩, .int .i64 0, .int .i64 0, .int .i64 0, .int .i64 0, .int .i64 0, .int .i64 0, .int .i64 0, .int .i64 0, .bool false]) 12 112 Tryz.underlying80 hi hz0 hz1 hz2 rfl (by decide) (.slice none 0 0) 0 [] rfl (World.ownsRow_nil _ _ _ _) c.l.length (c.l.flatMap encS) (HSRC.out _ (below_drew1 (Below.refl wa.heap.size wa))) (by unfold maxLen; omega) (by omega) (Below.size (below_drew1 (Below.refl wa.heap.size wa))) ?_
   intro v1 w101 ho hg hat
   rw [Nat.zero_add, List.nil_append] at ho
   obtain ⟨Ac, cc, rfl, _⟩ := own_slice ho
   have hbn := below_of_grown hg
   have HOC := Hd ho
   have HB101 := Hd (bch (below_drew1 (Below.refl wa.heap.size wa)) hbn (Below.size (below_drew1 (Below.refl wa.heap.size wa))))
   clear ho hg hat hbn
   refine hK.out _ _ (HH.out _ HB101.out) (fun hHeld => ?_)
   clear hK K
   (try simp only [gx1, gx2, gx3]); try go_frame
   refine wpAnyH_ready (rs := [9, 11]) (by kernel_rfl) (by simp) ?_
   refine AllReadyH.cons rfl (fun K hK => ?_) (AllReadyH.cons rfl (fun K hK => ?_) AllReadyH.nil)
   ·go_simp
    refine (HLI.out _ HB101.out).mono ?_
    rintro e w102 ⟨v2, rfl, ho, hbn⟩
    obtain ⟨Ad, cd, rfl, _⟩ := own_slice ho
    have HOD := Hd ho
    have HB102 := Hd (bch HB101.out hbn (Below.size HB101.out))
    have HOC := Hd (own_keep HOC.out hbn)
    clear ho hbn
    refine hK.out _ _ (HH.out _ HB102.out) (fun hHeld => ?_)
    clear hK K
    (try simp only [gx1, gx2, gx3]); try go_frame
    refine tk 10 rfl rfl ‹_› ?_; try go_frame
    refine rdy 11 rfl (fun K hK => ?_)
    go_simp
    obtain ⟨w103, hn3⟩ : ∃ W, W = (w102.alloc (.cells #[.slice none 0 0, .slice none 0 0, .int .i64 0, .int .i64 0, .slice none 0 0, .int .i64 0, .int .i64 0, .slice none 0 0, .int .i64 0, .int .i64 0, .slice none 0 0] tPartsC)) := ⟨_, rfl⟩
    have hbn : Below w102.heap.size w102 w103 := by rw [hn3]; exact below_alloc _ _
    have HPX := Hd (show w103.heap[w102.heap.size]? = some (.cells #[.slice none 0 0, .slice none 0 0, .int .i64 0, .int .i64 0, .slice none 0 0, .int .i64 0, .int .i64 0, .slice none 0 0, .int .i64 0, .int .i64 0, .slice none 0 0] tPartsC (0, 0)) by rw [hn3]; exact heap_new _ _)
    have HB103 := Hd (bch HB102.out hbn (Below.size HB102.out))
    have HOC := Hd (own_keep HOC.out hbn)
    have HOD := Hd (own_keep HOD.out hbn)
    rw [← hn3]
    obtain ⟨bp, hbpd⟩ : ∃ bp, bp = w102.heap.size := ⟨_, rfl⟩
    have hbp : wa.heap.size ≤ bp := by have := Below.size HB102.out; omega
    clear hbn hn3
    rw [← hbpd] at HPX
    rw [← hbpd]
    clear hbpd
    refine hK.out _ _ (HH.out _ HB103.out) (fun hHeld => ?_)
    clear hK K
    (try simp only [gx1, gx2, gx3]); try go_frame
    obtain ⟨m0, m1, m2, m3, m4, m5, m6, m7, m8, m9, m10⟩ := cell11 HPX.out
    obtain ⟨f0, f1, f2, f3, f4, f5, f6, f7, f8, f9, f10⟩ := froz11 HPX.out
    refine rdy 12 rfl (fun K hK => ?_)
    go_simp
    have HBZ := Hd (Below.turned HB103.out (turned_set11 w103 bp (.slice Ac c.l.length cc) (.slice Ad c.b.length cd) (.int .i64 0) (.int .i64 0) (.slice none 0 0) (.int .i64 0) (.int .i64 0) (.slice none 0 0) (.int .i64 0) (.int .i64 0) (.slice none 0 0)) (fun i h => by omega) (Below.size HB103.out))
    refine hK.out _ _ (HH.out _ HBZ.out) (fun hHeld => ?_)
    clear hK K
    (try simp only [gx1, gx2, gx3]); try go_frame
    refine wpAnyH_done (by kernel_rfl) ?_ _
    refine NoPanic.normal ?_
    go_wp2_with fail
    go_meet
    have htz := turned_set11 w103 bp (.slice Ac c.l.length cc) (.slice Ad c.b.length cd) (.int .i64 0) (.int .i64 0) (.slice none 0 0) (.int .i64 0) (.int .i64 0) (.slice none 0 0) (.int .i64 0) (.int .i64 0) (.slice none 0 0)
    exact ⟨bp, Ac, cc, Ad, cd, rfl, set11 HPX.out _ _ _ _ _ _ _ _ _ _ _, own_turned HOC.out htz (fun j hj e => own_off HOC.out HPX.out (by decide) j hj e), own_turned HOD.out htz (fun j hj e => own_off HOD.out HPX.out (by decide) j hj e), hbp, HBZ.out⟩
   ·go_simp
    obtain ⟨w104, hn4⟩ : ∃ W, W = (w101.alloc (.cells #[.slice none 0 0, .slice none 0 0, .int .i64 0, .int .i64 0, .slice none 0 0, .int .i64 0, .int .i64 0, .slice none 0 0, .int .i64 0, .int .i64 0, .slice none 0 0] tPartsC)) := ⟨_, rfl⟩
    have hbn : Below w101.heap.size w101 w104 := by rw [hn4]; exact below_alloc _ _
    have HPX := Hd (show w104.heap[w101.heap.size]? = some (.cells #[.slice none 0 0, .slice none 0 0, .int .i64 0, .int .i64 0, .slice none 0 0, .int .i64 0, .int .i64 0, .slice none 0 0, .int .i64 0, .int .i64 0, .slice none 0 0] tPartsC (0, 0)) by rw [hn4]; exact heap_new _ _)
    have HB104 := Hd (bch HB101.out hbn (Below.size HB101.out))
    have HOC := Hd (own_keep HOC.out hbn)
    rw [← hn4]
    obtain ⟨bp, hbpd⟩ : ∃ bp, bp = w101.heap.size := ⟨_, rfl⟩
    have hbp : wa.heap.size ≤ bp := by have := Below.size HB101.out; omega
    clear hbn hn4
    rw [← hbpd] at HPX
    rw [← hbpd]
    clear hbpd
    refine hK.out _ _ (HH.out _ HB104.out) (fun hHeld => ?_)
    clear hK K
    (try simp only [gx1, gx2, gx3]); try go_frame
    refine rdy 9 rfl (fun K hK => ?_)
    go_simp
    refine (HLI.out _ HB104.out).mono ?_
    rintro e w105 ⟨v5, rfl, ho, hbn⟩
    obtain ⟨Ad, cd, rfl, _⟩ := own_slice ho
    have HOD := Hd ho
    have HB105 := Hd (bch HB104.out hbn (Below.size HB104.out))
    have HOC := Hd (own_keep HOC.out hbn)
    have HPX := Hd (heap_keep HPX.out hbn)
    clear ho hbn
    refine hK.out _ _ (HH.out _ HB105.out) (fun hHeld => ?_)
    clear hK K
    (try simp only [gx1, gx2, gx3]); try go_frame
    refine tk 10 rfl rfl ‹_› ?_; try go_frame
    obtain ⟨m0, m1, m2, m3, m4, m5, m6, m7, m8, m9, m10⟩ := cell11 HPX.out
    obtain ⟨f0, f1, f2, f3, f4, f5, f6, f7, f8, f9, f10⟩ := froz11 HPX.out
    refine rdy 12 rfl (fun K hK => ?_)
    go_simp
    have HBZ := Hd (Below.turned HB105.out (turned_set11 w105 bp (.slice Ac c.l.length cc) (.slice Ad c.b.length cd) (.int .i64 0) (.int .i64 0) (.slice none 0 0) (.int .i64 0) (.int .i64 0) (.slice none 0 0) (.int .i64 0) (.int .i64 0) (.slice none 0 0)) (fun i h => by omega) (Below.size HB105.out))
    refine hK.out _ _ (HH.out _ HBZ.out) (fun hHeld => ?_)
    clear hK K
    (try simp only [gx1, gx2, gx3]); try go_frame
    refine wpAnyH_done (by kernel_rfl) ?_ _
    refine NoPanic.normal ?_
    go_wp2_with fail
    go_meet
    have htz := turned_set11 w105 bp (.slice Ac c.l.length cc) (.slice Ad c.b.length cd) (.int .i64 0) (.int .i64 0) (.slice none 0 0) (.int .i64 0) (.int .i64 0) (.slice none 0 0) (.int .i64 0) (.int .i64 0) (.slice none 0 0)
    exact ⟨bp, Ac, cc, Ad, cd, rfl, set11 HPX.out _ _ _ _ _ _ _ _ _ _ _, own_turned HOC.out htz (fun j hj e => own_off HOC.out HPX.out (by decide) j hj e), own_turned HOD.out htz (fun j hj e => own_off HOD.out HPX.out (by decide) j hj e), hbp, HBZ.out⟩
  ·go_simp
   obtain ⟨w106, hn6⟩ : ∃ W, W = (wa.alloc (.cells #[.slice none 0 0, .slice none 0 0, .int .i64 0, .int .i64 0, .slice none 0 0, .int .i64 0, .int .i64 0, .slice none 0 0, .int .i64 0, .int .i64 0, .slice none 0 0] tPartsC)).drew := ⟨_, rfl⟩
   have hbn : Below wa.heap.size wa w106 := by rw [hn6]; exact below_drew1 (below_alloc wa _)
   have HPX := Hd (show w106.heap[wa.heap.size]? = some (.cells #[.slice none 0 0, .slice none 0 0, .int .i64 0, .int .i64 0, .slice none 0 0, .int .i64 0, .int .i64 0, .slice none 0 0, .int .i64 0, .int .i64 0, .slice none 0 0] tPartsC (0, 0)) by rw [hn6]; exact heap_new _ _)
   have HB106 := Hd (hbn)
   rw [← hn6]
   obtain ⟨bp, hbpd⟩ : ∃ bp, bp = wa.heap.size := ⟨_, rfl⟩
   have hbp : wa.heap.size ≤ bp := by have := Nat.le_refl wa.heap.size; omega
   clear hbn hn6
   rw [← hbpd] at HPX
   rw [← hbpd]
   clear hbpd
   refine hK.out _ _ (HH.out _ HB106.out) (fun hHeld => ?_)
   clear hK K
   (try simp only [gx1, gx2, gx3]); try go_frame
   refine rdy 4 rfl (fun K hK => ?_)
   refine step_append_any _ rfl (.const (.slice none 0 0)) (.tmp 11) tSagasC rfl wa.heap.size tSaga i0 (.agg #[.int .i64 0, .string ⟨#[]⟩, .string ⟨#[]⟩, .int .i64 0, .int .i64 0, .int .i64 0, .int .i64 0, .int .i64 0, .int .i64 0, .int .i64 0, .int .i64 0, .bool false]) 12 112 Tryz.underlying80 hi hz0 hz1 hz2 rfl (by decide) (.slice none 0 0) 0 [] rfl (World.ownsRow_nil _ _ _ _) c.l.length (c.l.flatMap encS) (HSRC.out _ HB106.out) (by unfold maxLen; omega) (by omega) (Below.size HB106.out) ?_
   intro v7 w107 ho hg hat
   rw [Nat.zero_add, List.nil_append] at ho
   obtain ⟨Ac, cc, rfl, _⟩ := own_slice ho
   have hbn := below_of_grown hg
   have HOC := Hd ho
   have HB107 := Hd (bch HB106.out hbn (Below.size HB106.out))
   have HPX := Hd (heap_keep HPX.out hbn)
   clear ho hg hat hbn
   refine hK.out _ _ (HH.out _ HB107.out) (fun hHeld => ?_)
   clear hK K
   (try simp only [gx1, gx2, gx3]); try go_frame
   refine rdy 9 rfl (fun K hK => ?_)
   go_simp
   refine (HLI.out _ HB107.out).mono ?_
   rintro e w108 ⟨v8, rfl, ho, hbn⟩
   obtain ⟨Ad, cd, rfl, _⟩ := own_slice ho
   have HOD := Hd ho
   have HB108 := Hd (bch HB107.out hbn (Below.size HB107.out))
   have HOC := Hd (own_keep HOC.out hbn)
   have HPX := Hd (heap_keep HPX.out hbn)
   clear ho hbn
   refine hK.out _ _ (HH.out _ HB108.out) (fun hHeld => ?_)
   clear hK K
   (try simp only [gx1, gx2, gx3]); try go_frame
   refine tk 10 rfl rfl ‹_› ?_; try go_frame
   obtain ⟨m0, m1, m2, m3, m4, m5, m6, m7, m8, m9, m10⟩ := cell11 HPX.out
   obtain ⟨f0, f1, f2, f3, f4, f5, f6, f7, f8, f9, f10⟩ := froz11 HPX.out
   refine rdy 12 rfl (fun K hK => ?_)
   go_simp
   have HBZ := Hd (Below.turned HB108.out (turned_set11 w108 bp (.slice Ac c.l.length cc) (.slice Ad c.b.length cd) (.int .i64 0) (.int .i64 0) (.slice none 0 0) (.int .i64 0) (.int .i64 0) (.slice none 0 0) (.int .i64 0) (.int .i64 0) (.slice none 0 0)) (fun i h => by omega) (Below.size HB108.out))
   refine hK.out _ _ (HH.out _ HBZ.out) (fun hHeld => ?_)
   clear hK K
   (try simp only [gx1, gx2, gx3]); try go_frame
   refine wpAnyH_done (by kernel_rfl) ?_ _
   refine NoPanic.normal ?_
   go_wp2_with fail
   go_meet
   have htz := turned_set11 w108 bp (.slice Ac c.l.length cc) (.slice Ad c.b.length cd) (.int .i64 0) (.int .i64 0) (.slice none 0 0) (.int .i64 0) (.int .i64 0) (.slice none 0 0) (.int .i64 0) (.int .i64 0) (.slice none 0 0)
   exact ⟨bp, Ac, cc, Ad, cd, rfl, set11 HPX.out _ _ _ _ _ _ _ _ _ _ _, own_turned HOC.out htz (fun j hj e => own_off HOC.out HPX.out (by decide) j hj e), own_turned HOD.out htz (fun j hj e => own_off HOD.out HPX.out (by decide) j hj e), hbp, HBZ.out⟩
 case rest =>
  obtain ⟨bp, Ac, cc, Ad, cd, rfl, hp, ho1, ho2, hbp, hbl⟩ := hcut
  obtain ⟨bz, hbz⟩ : ∃ bz, wc.heap.size = bz + 1 := ⟨wc.heap.size - 1, by have := heap_lt hp; omega⟩
  have hbpz : bp ≤ bz := by have := heap_lt hp; omega
  have HOZ := Hd (show (∀ j, Value.ownBlock (.slice Ac c.l.length cc) = some j → j ≤ bz) ∧ ∀ j, Value.ownBlock (.slice Ad c.b.length cd) = some j → j ≤ bz from ⟨fun j hj => by have := (ho1.lt j hj).2; omega, fun j hj => by have := (ho2.lt j hj).2; omega⟩)
  have HP := Hd hp; have HO1 := Hd ho1; have HO2 := Hd ho2; have HBL := Hd hbl
  clear hp ho1 ho2 hbl HSRC HLI y0 y1 HA
  go_wp2_with fail
  go_loopw [19] (fun i wr => ∃ (k : Nat) (p0 s0 : Int) (A0 : Option Addr) (n0 c0 : Nat) (p1 s1 : Int) (A1 : Option Addr) (n1 c1 : Nat) (p2 s2 : Int) (A2 : Option Addr) (n2 c2 : Nat), i = .int .i64 k ∧ k ≤ 3 ∧ Hid (wr.heap[bp]? = some (.cells #[.slice Ac c.l.length cc, .slice Ad c.b.length cd, .int .i64 p0, .int .i64 s0, .slice A0 n0 c0, .int .i64 p1, .int .i64 s1, .slice A1 n1 c1, .int .i64 p2, .int .i64 s2, .slice A2 n2 c2] tPartsC (0, 0))) ∧ Hid (0 < k → StO wr bz c.inn.a p0 s0 A0 n0 c0) ∧ Hid (1 < k → StO wr bz c.inn.b p1 s1 A1 n1 c1) ∧ Hid (2 < k → StO wr bz c.inn.c p2 s2 A2 n2 c2) ∧ Hid (wr.ownsRow wa.heap.size tSaga 12 (.slice Ac c.l.length cc) c.l.length (c.l.flatMap encS)) ∧ Hid (wr.ownsRow wa.heap.size tPost 5 (.slice Ad c.b.length cd) c.b.length (c.b.flatMap encP)) ∧ Hid (Below wa.heap.size wa wr) ∧ bz < wr.heap.size) (fun i _ => 3 - (intOf i).toNat)
  case atStart => exact ⟨0, 0, 0, none, 0, 0, 0, 0, none, 0, 0, 0, 0, none, 0, 0, rfl, by omega, HP.out, fun h => absurd h (by omega), fun h => absurd h (by omega), fun h => absurd h (by omega), HO1.out, HO2.out, HBL.out, by omega⟩
  case round =>
   obtain ⟨k, p0, s0, A0, n0, c0, p1, s1, A1, n1, c1, p2, s2, A2, n2, c2, rfl, hk, HPr, S0, S1, S2, HO1, HO2, HBL, hbw⟩ := hrel
   have HCr := Hd (HC.out.below HBL.out)
   have HCC := Hd (show wr.heap[cb]? = some (.cells #[.slice A c.l.length cl, .pointer (some ⟨bb, 0, none⟩), .int .i64 c.inn.a.1, .int .i64 c.inn.a.2.1, .slice I0 In0 Ic0, .int .i64 c.inn.b.1, .int .i64 c.inn.b.2.1, .slice I1 In1 Ic1, .int .i64 c.inn.c.1, .int .i64 c.inn.c.2.1, .slice I2 In2 Ic2, .map m] tCore (0, 0)) by simpa [inn10] using HCr.out.hc)
   obtain ⟨y0, y1, y2, y3, y4, y5, y6, y7, y8, y9, y10, y11⟩ := cell12 HCC.out
   obtain ⟨m0, m1, m2, m3, m4, m5, m6, m7, m8, m9, m10⟩ := cell11 HPr.out
   rcases (show k = 0 ∨ k = 1 ∨ k = 2 ∨ k = 3 by omega) with rfl | rfl | rfl | rfl
   ·go_wp2_with (go_at_call 124; refine (newest_any wr (.agg #[.int .i64 c.inn.a.1, .int .i64 c.inn.a.2.1, .slice I0 In0 Ic0, .int .i64 c.inn.b.1, .int .i64 c.inn.b.2.1, .slice I1 In1 Ic1, .int .i64 c.inn.c.1, .int .i64 c.inn.c.2.1, .slice I2 In2 Ic2, .map m]) c.inn 0 (by decide) (by decide) HCr.out.ii HCr.out.fi).mono ?_; rintro e w5 ⟨A5, c5, rfl, hrd, hfar, hb5⟩; have HRD := Hd hrd; have HFAR := Hd hfar; have HB5 := Hd hb5; have HP5 := Hd (heap_keep HPr.out hb5); clear hrd hfar hb5 m0 m1 m2 m3 m4 m5 m6 m7 m8 m9 m10; obtain ⟨m0, m1, m2, m3, m4, m5, m6, m7, m8, m9, m10⟩ := cell11 HP5.out; obtain ⟨f0, f1, f2, f3, f4, f5, f6, f7, f8, f9, f10⟩ := froz11 HP5.out)
    obtain ⟨w6, hw6⟩ : ∃ w6, w6 = ((w5.setCell ⟨bp, 2, none⟩ (.int .i64 (c.inn.at 0).1)).setCell ⟨bp, 3, none⟩ (.int .i64 (c.inn.at 0).2.1)).setCell ⟨bp, 4, none⟩ (.slice A5 (c.inn.at 0).2.2.length c5) := ⟨_, rfl⟩
    have ht6 : Turned (fun j => j = bp) w5 w6 := by rw [hw6]; exact ((turned_set w5 bp _ _).trans (turned_set _ bp _ _)).trans (turned_set _ bp _ _)
    have hlt : bp < wr.heap.size := heap_lt HPr.out
    have HP6 : w6.heap[bp]? = some (.cells #[.slice Ac c.l.length cc, .slice Ad c.b.length cd, .int .i64 c.inn.a.1, .int .i64 c.inn.a.2.1, .slice A5 c.inn.a.2.2.length c5, .int .i64 p1, .int .i64 s1, .slice A1 n1 c1, .int .i64 p2, .int .i64 s2, .slice A2 n2 c2] tPartsC (0, 0)) := by rw [hw6]; simp [World.setCell, Array.getElem?_modify, HP5.out, In.Inn.at]
    have HB6 : Below wa.heap.size wa w6 := Below.turned (bch HBL.out HB5.out HBL.out.size) ht6 (fun i h => by omega) (Nat.le_trans HBL.out.size HB5.out.size)
    have HO16 := own_turned (own_keep HO1.out HB5.out) ht6 (fun j hj e => own_off (own_keep HO1.out HB5.out) HP5.out (by decide) j hj e)
    have HO26 := own_turned (own_keep HO2.out HB5.out) ht6 (fun j hj e => own_off (own_keep HO2.out HB5.out) HP5.out (by decide) j hj e)
    have HN : StO w6 bz c.inn.a c.inn.a.1 c.inn.a.2.1 A5 c.inn.a.2.2.length c5 := ⟨rfl, rfl, rfl, HRD.out.turned ht6 (fun ad n c' e hl => by have := HFAR.out ad n c' e hl; omega), fun ad n c' e hl => by have := HFAR.out ad n c' e hl; omega⟩
    go_roundw
    case rel =>
     rw [show _ = w6 from hw6.symm]
     exact ⟨1, _, _, _, _, _, _, _, _, _, _, _, _, _, _, _, by go_num, by omega, HP6, fun _ => HN, fun h => absurd h (by omega), fun h => absurd h (by omega), HO16, HO26, HB6, by have := ht6.size; have := HB5.out.size; omega⟩
    case measure => simp [intOf]
   ·go_wp2_with (go_at_call 124; refine (newest_any wr (.agg #[.int .i64 c.inn.a.1, .int .i64 c.inn.a.2.1, .slice I0 In0 Ic0, .int .i64 c.inn.b.1, .int .i64 c.inn.b.2.1, .slice I1 In1 Ic1, .int .i64 c.inn.c.1, .int .i64 c.inn.c.2.1, .slice I2 In2 Ic2, .map m]) c.inn 1 (by decide) (by decide) HCr.out.ii HCr.out.fi).mono ?_; rintro e w5 ⟨A5, c5, rfl, hrd, hfar, hb5⟩; have HRD := Hd hrd; have HFAR := Hd hfar; have HB5 := Hd hb5; have HP5 := Hd (heap_keep HPr.out hb5); clear hrd hfar hb5 m0 m1 m2 m3 m4 m5 m6 m7 m8 m9 m10; obtain ⟨m0, m1, m2, m3, m4, m5, m6, m7, m8, m9, m10⟩ := cell11 HP5.out; obtain ⟨f0, f1, f2, f3, f4, f5, f6, f7, f8, f9, f10⟩ := froz11 HP5.out)
    obtain ⟨w6, hw6⟩ : ∃ w6, w6 = ((w5.setCell ⟨bp, 5, none⟩ (.int .i64 (c.inn.at 1).1)).setCell ⟨bp, 6, none⟩ (.int .i64 (c.inn.at 1).2.1)).setCell ⟨bp, 7, none⟩ (.slice A5 (c.inn.at 1).2.2.length c5) := ⟨_, rfl⟩
    have ht6 : Turned (fun j => j = bp) w5 w6 := by rw [hw6]; exact ((turned_set w5 bp _ _).trans (turned_set _ bp _ _)).trans (turned_set _ bp _ _)
    have hlt : bp < wr.heap.size := heap_lt HPr.out
    have HP6 : w6.heap[bp]? = some (.cells #[.slice Ac c.l.length cc, .slice Ad c.b.length cd, .int .i64 p0, .int .i64 s0, .slice A0 n0 c0, .int .i64 c.inn.b.1, .int .i64 c.inn.b.2.1, .slice A5 c.inn.b.2.2.length c5, .int .i64 p2, .int .i64 s2, .slice A2 n2 c2] tPartsC (0, 0)) := by rw [hw6]; simp [World.setCell, Array.getElem?_modify, HP5.out, In.Inn.at]
    have HB6 : Below wa.heap.size wa w6 := Below.turned (bch HBL.out HB5.out HBL.out.size) ht6 (fun i h => by omega) (Nat.le_trans HBL.out.size HB5.out.size)
    have HO16 := own_turned (own_keep HO1.out HB5.out) ht6 (fun j hj e => own_off (own_keep HO1.out HB5.out) HP5.out (by decide) j hj e)
    have HO26 := own_turned (own_keep HO2.out HB5.out) ht6 (fun j hj e => own_off (own_keep HO2.out HB5.out) HP5.out (by decide) j hj e)
    have HN : StO w6 bz c.inn.b c.inn.b.1 c.inn.b.2.1 A5 c.inn.b.2.2.length c5 := ⟨rfl, rfl, rfl, HRD.out.turned ht6 (fun ad n c' e hl => by have := HFAR.out ad n c' e hl; omega), fun ad n c' e hl => by have := HFAR.out ad n c' e hl; omega⟩
    go_roundw
    case rel =>
     rw [show _ = w6 from hw6.symm]
     exact ⟨2, _, _, _, _, _, _, _, _, _, _, _, _, _, _, _, by go_num, by omega, HP6, fun _ => (S0.out (by omega)).step hbpz HB5.out ht6, fun _ => HN, fun h => absurd h (by omega), HO16, HO26, HB6, by have := ht6.size; have := HB5.out.size; omega⟩
    case measure => simp [intOf]
   ·go_wp2_with (go_at_call 124; refine (newest_any wr (.agg #[.int .i64 c.inn.a.1, .int .i64 c.inn.a.2.1, .slice I0 In0 Ic0, .int .i64 c.inn.b.1, .int .i64 c.inn.b.2.1, .slice I1 In1 Ic1, .int .i64 c.inn.c.1, .int .i64 c.inn.c.2.1, .slice I2 In2 Ic2, .map m]) c.inn 2 (by decide) (by decide) HCr.out.ii HCr.out.fi).mono ?_; rintro e w5 ⟨A5, c5, rfl, hrd, hfar, hb5⟩; have HRD := Hd hrd; have HFAR := Hd hfar; have HB5 := Hd hb5; have HP5 := Hd (heap_keep HPr.out hb5); clear hrd hfar hb5 m0 m1 m2 m3 m4 m5 m6 m7 m8 m9 m10; obtain ⟨m0, m1, m2, m3, m4, m5, m6, m7, m8, m9, m10⟩ := cell11 HP5.out; obtain ⟨f0, f1, f2, f3, f4, f5, f6, f7, f8, f9, f10⟩ := froz11 HP5.out)
    obtain ⟨w6, hw6⟩ : ∃ w6, w6 = ((w5.setCell ⟨bp, 8, none⟩ (.int .i64 (c.inn.at 2).1)).setCell ⟨bp, 9, none⟩ (.int .i64 (c.inn.at 2).2.1)).setCell ⟨bp, 10, none⟩ (.slice A5 (c.inn.at 2).2.2.length c5) := ⟨_, rfl⟩
    have ht6 : Turned (fun j => j = bp) w5 w6 := by rw [hw6]; exact ((turned_set w5 bp _ _).trans (turned_set _ bp _ _)).trans (turned_set _ bp _ _)
    have hlt : bp < wr.heap.size := heap_lt HPr.out
    have HP6 : w6.heap[bp]? = some (.cells #[.slice Ac c.l.length cc, .slice Ad c.b.length cd, .int .i64 p0, .int .i64 s0, .slice A0 n0 c0, .int .i64 p1, .int .i64 s1, .slice A1 n1 c1, .int .i64 c.inn.c.1, .int .i64 c.inn.c.2.1, .slice A5 c.inn.c.2.2.length c5] tPartsC (0, 0)) := by rw [hw6]; simp [World.setCell, Array.getElem?_modify, HP5.out, In.Inn.at]
    have HB6 : Below wa.heap.size wa w6 := Below.turned (bch HBL.out HB5.out HBL.out.size) ht6 (fun i h => by omega) (Nat.le_trans HBL.out.size HB5.out.size)
    have HO16 := own_turned (own_keep HO1.out HB5.out) ht6 (fun j hj e => own_off (own_keep HO1.out HB5.out) HP5.out (by decide) j hj e)
    have HO26 := own_turned (own_keep HO2.out HB5.out) ht6 (fun j hj e => own_off (own_keep HO2.out HB5.out) HP5.out (by decide) j hj e)
    have HN : StO w6 bz c.inn.c c.inn.c.1 c.inn.c.2.1 A5 c.inn.c.2.2.length c5 := ⟨rfl, rfl, rfl, HRD.out.turned ht6 (fun ad n c' e hl => by have := HFAR.out ad n c' e hl; omega), fun ad n c' e hl => by have := HFAR.out ad n c' e hl; omega⟩
    go_roundw
    case rel =>
     rw [show _ = w6 from hw6.symm]
     exact ⟨3, _, _, _, _, _, _, _, _, _, _, _, _, _, _, _, by go_num, by omega, HP6, fun _ => (S0.out (by omega)).step hbpz HB5.out ht6, fun _ => (S1.out (by omega)).step hbpz HB5.out ht6, fun _ => HN, HO16, HO26, HB6, by have := ht6.size; have := HB5.out.size; omega⟩
    case measure => simp [intOf]
   ·obtain ⟨rfl, rfl, rfl, hr0, hf0⟩ := S0.out (by omega)
    obtain ⟨rfl, rfl, rfl, hr1, hf1⟩ := S1.out (by omega)
    obtain ⟨rfl, rfl, rfl, hr2, hf2⟩ := S2.out (by omega)
    have HXr := Hd (heap_keep HX.out (HBL.out))
    obtain ⟨x0, x1, x2, x3, x4, x5, x6, x7, x8, x9, x10⟩ := cell11 HXr.out
    have hws := HWS.out
    have hf0x := fun (ad : Addr) (n c' : Nat) (e : Value.slice A0 c.inn.a.2.2.length c0 = .slice (some ad) n c') (hl : 0 < c.inn.a.2.2.length) => (by have := hf0 ad n c' e hl; omega : ad.block ≠ w.heap.size)
    have hf1x := fun (ad : Addr) (n c' : Nat) (e : Value.slice A1 c.inn.b.2.2.length c1 = .slice (some ad) n c') (hl : 0 < c.inn.b.2.2.length) => (by have := hf1 ad n c' e hl; omega : ad.block ≠ w.heap.size)
    have hf2x := fun (ad : Addr) (n c' : Nat) (e : Value.slice A2 c.inn.c.2.2.length c2 = .slice (some ad) n c') (hl : 0 < c.inn.c.2.2.length) => (by have := hf2 ad n c' e hl; omega : ad.block ≠ w.heap.size)
    clear hws
    obtain ⟨g0, g1, g2, g3, g4, g5, g6, g7, g8, g9, g10⟩ := froz11 HXr.out
    have HR0 := Hd hr0; have HR1 := Hd hr1; have HR2 := Hd hr2
    clear hr0 hr1 hr2 S0 S1 S2
    go_wp2_with fail
    refine bodyPost_ret (v := .agg #[.slice Ac c.l.length cc, .slice Ad c.b.length cd, .int .i64 c.inn.a.1, .int .i64 c.inn.a.2.1, .slice A0 c.inn.a.2.2.length c0, .int .i64 c.inn.b.1, .int .i64 c.inn.b.2.1, .slice A1 c.inn.b.2.2.length c1, .int .i64 c.inn.c.1, .int .i64 c.inn.c.2.1, .slice A2 c.inn.c.2.2.length c2]) (by simp [results, Tryz.results90, go_sem, x0, x1, x2, x3, x4, x5, x6, x7, x8, x9, x10]) rfl ?_
    have htz := turned_set11 wr w.heap.size (.slice Ac c.l.length cc) (.slice Ad c.b.length cd) (.int .i64 c.inn.a.1) (.int .i64 c.inn.a.2.1) (.slice A0 c.inn.a.2.2.length c0) (.int .i64 c.inn.b.1) (.int .i64 c.inn.b.2.1) (.slice A1 c.inn.b.2.2.length c1) (.int .i64 c.inn.c.1) (.int .i64 c.inn.c.2.1) (.slice A2 c.inn.c.2.2.length c2)
    have hws := HWS.out
    exact ⟨Ac, cc, Ad, cd, A0, c0, A1, c1, A2, c2, rfl, own_base (own_turned HO1.out htz (fun j hj e => by have := (HO1.out.lt j hj).1; omega)) (by omega), own_base (own_turned HO2.out htz (fun j hj e => by have := (HO2.out.lt j hj).1; omega)) (by omega), HR0.out.turned htz hf0x, HR1.out.turned htz hf1x, HR2.out.turned htz hf2x, Below.turned (bch HB.out HBL.out HB.out.size) htz (fun i h => by omega) (Nat.le_trans HB.out.size HBL.out.size), bz, by omega, HOZ.out.1, HOZ.out.2, fun ad e hl => hf0 ad _ _ (by rw [e]) hl, fun ad e hl => hf1 ad _ _ (by rw [e]) hl, fun ad e hl => hf2 ad _ _ (by rw [e]) hl⟩
end Go.Proofs.YtlkncmpengpbiaaGreatDoor

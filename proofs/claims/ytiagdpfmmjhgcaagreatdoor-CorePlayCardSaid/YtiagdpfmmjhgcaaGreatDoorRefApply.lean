/- The document's core takes a reply. -/
import Derived.Test.YtiagdpfmmjhgcaaGreatDoorRefAsks
import Derived.Test.YtiagdpfmmjhgcaaGreatDoorCoreCame
import Derived.Test.YtiagdpfmmjhgcaaGreatDoorRefPutK
import Derived.Test.YtiagdpfmmjhgcaaGreatDoorShort
namespace Go.Proofs.YtiagdpfmmjhgcaaGreatDoor
open Go.RowKit Go.Maps Co Key Rw Sa Od Ma
set_option linter.unusedSimpArgs false
set_option linter.unusedVariables false
set_option maxRecDepth 100000
set_option maxHeartbeats 16000000

theorem reply_id (s : Sg) (d code : Int) : (replyI s d code).id = s.id := congrArg (fun o : Ord5 => o.1) (reply_ord s d code)
theorem stop_id (s : Sg) : (Sa.stopI s).id = s.id := congrArg (fun o : Ord5 => o.1) (stop_ord s)
theorem rreply_any {w : World} {rb : Nat} {vL vB vI : Value} {c : Cor} (h : Rr w rb vL vB vI c) (o d code : Int) (hl : c.l.length ≤ 1000) (hbl : c.b.length ≤ 90000) (ham : ∀ s ∈ c.l, 0 ≤ s.amt ∧ s.amt ≤ 1099511627776) (hid : ∀ (k : Nat) s, c.l[k]? = some s → s.id = (k : Int) + 1) (Q : Nat → Prop) :
  Calls Tryz.prog 29 #[.pointer (some ⟨rb, 0, none⟩), .agg #[.int .i64 o, .int .i64 d], .int .i64 code] w fun e w' => ∃ vL' vB', e = .returned (.int .i64 (replyE c o d code)) ∧ RStp Q w w' rb vL vB vI c vL' vB' vI (replyC c o d code) := by
 obtain ⟨A, cl, rfl, hlc, hcm⟩ := h.l.shape
 have hrb := heap_lt h.hc
 have HR0 := Hd h
 obtain ⟨wa, hA⟩ : ∃ wa, wa = w.alloc (.cells #[.int .i64 o, .int .i64 d] tKey) := ⟨_, rfl⟩
 have hB : Below w.heap.size w wa := by rw [hA]; exact below_alloc _ _
 have hX : wa.heap[w.heap.size]? = some (.cells #[.int .i64 o, .int .i64 d] tKey (0, 0)) := by rw [hA]; exact heap_new _ _
 have HR := Hd (h.below hB); have HA := Hd hA; have HB := Hd hB; have HX := Hd hX; have HAM := Hd ham; have HID := Hd hid
 have hws : w.heap.size < wa.heap.size := heap_lt hX
 clear hA hB hX h ham hid
 obtain ⟨k0, k1, _, _⟩ := cell2 HX.out
 have y0 := HR.out.c01.1
 go_enter Tryz.func29, Tryz.ntmps29
 go_upto_region 1 with (fail)
 rw [← HA.out]
 have HC4 := Hd (fun (hn : o < 1 ∨ (c.l.length : Int) < o) => (⟨by unfold replyE; rw [if_pos hn], by unfold replyC; rw [if_neg (by unfold replyE; rw [if_pos hn]; decide)]⟩ : replyE c o d code = 4 ∧ replyC c o d code = c))
 by_cases h1 : o < 1
 ·have q1 := decide_eq_true h1
  obtain ⟨he, hc⟩ := HC4.out (by omega)
  have HE := Hd he; have HCC := Hd hc
  clear he hc HC4
  go_quiet (fail)
  go_wp2_with fail
  go_ret
  rw [HCC.out]
  first
   | exact ⟨_, _, by rw [HE.out]; rfl, RStp.after HB.out ((RStp.refl HR.out).below (below_drewN (Below.refl _ _) _))⟩
   | exact ⟨_, by rw [HE.out]; rfl, _, RStp.after HB.out ((RStp.refl HR.out).below (below_drewN (Below.refl _ _) _))⟩
   | exact ⟨by rw [HE.out]; rfl, _, _, RStp.after HB.out ((RStp.refl HR.out).below (below_drewN (Below.refl _ _) _))⟩
 ·have q1 := decide_eq_false h1
  by_cases h2 : (c.l.length : Int) < o
  ·have q2 := decide_eq_true h2
   obtain ⟨he, hc⟩ := HC4.out (by omega)
   have HE := Hd he; have HCC := Hd hc
   clear he hc HC4
   go_quiet (fail)
   go_wp2_with fail
   go_ret
   rw [HCC.out]
   first
    | exact ⟨_, _, by rw [HE.out]; rfl, RStp.after HB.out ((RStp.refl HR.out).below (below_drewN (Below.refl _ _) _))⟩
    | exact ⟨_, by rw [HE.out]; rfl, _, RStp.after HB.out ((RStp.refl HR.out).below (below_drewN (Below.refl _ _) _))⟩
    | exact ⟨by rw [HE.out]; rfl, _, _, RStp.after HB.out ((RStp.refl HR.out).below (below_drewN (Below.refl _ _) _))⟩
  ·have q2 := decide_eq_false h2
   obtain ⟨kk, rfl⟩ : ∃ kk : Nat, o = (kk : Int) + 1 := ⟨(o - 1).toNat, by omega⟩
   have hkk : ((kk : Int) + 1).toNat - 1 = kk := by omega
   have hkl : kk < c.l.length := by omega
   obtain ⟨s, hs⟩ : ∃ s, c.l[kk]? = some s := ⟨_, List.getElem?_eq_getElem hkl⟩
   have hsa := HAM.out s (List.mem_of_getElem? hs)
   have HSID := Hd (HID.out kk s hs)
   have HS := Hd hs
   have HRE := Hd (show replyE c ((kk : Int) + 1) d code = if replyB s d code = true then 0 else 92 by unfold replyE; rw [if_neg (by omega), hkk, hs])
   go_quiet (fail)
   go_wp2_with fail
   obtain ⟨w1, hw1⟩ : ∃ w1, w1 = wa.drewN nq := ⟨_, rfl⟩
   rw [← hw1]
   have hbd : Below wa.heap.size wa w1 := by rw [hw1]; exact below_drewN (Below.refl _ _) _
   have HR1 := Hd (HR.out.below hbd); have HX1 := Hd (heap_keep HX.out hbd); have HB1 := Hd (bch HB.out hbd HB.out.size)
   clear hw1 hbd HR HX HB HA k0 k1 y0 HC4
   obtain ⟨k0, k1, _, _⟩ := cell2 HX1.out
   have y0 := HR1.out.c01.1
   obtain ⟨g, off, n', c', e, d0, d1, d2, d3, d4, d5, d6, d7, d8, d9, d10, d11⟩ := HR1.out.l.cells (Below.refl _ _) hs
   injection e with e1 e2 e3; subst e1; clear e2 e3 hs
   have hkI : (kk : Int) < c.l.length := by omega
   have hkI0 : (0 : Int) ≤ kk := by omega
   have hw1 : IntKind.i64.wrap ((kk : Int) + 1 - 1) = kk := by rw [show (kk : Int) + 1 - 1 = kk by omega]; exact IntWalk.i64_in _ (by omega)
   have hw2 : IntKind.i64.wrap (kk : Int) = kk := IntWalk.i64_in _ (by omega)
   have HH := Hd (fun W (hb : Below w1.heap.size w1 W) => (⟨Hd hb, kc hb y0, kc hb k0, kc hb d0, kc hb d1, kc hb d2, kc hb d3, kc hb d4, kc hb d5, kc hb d6, kc hb d7, kc hb d8, kc hb d9, kc hb d10, kc hb d11⟩ : (fun w' => Hid (Below w1.heap.size w1 w') ∧ w'.cell? ⟨rb, 0, none⟩ = some (.slice (some ⟨g, off, none⟩) c.l.length cl) ∧ w'.cell? ⟨w.heap.size, 0, none⟩ = some (.int .i64 ((kk : Int) + 1)) ∧ w'.cell? ⟨g, off + kk * 12, none⟩ = some (.int .i64 s.id) ∧ w'.cell? ⟨g, off + kk * 12 + 1, none⟩ = some (.string ⟨s.ref.toArray⟩) ∧ w'.cell? ⟨g, off + kk * 12 + 2, none⟩ = some (.string ⟨s.sku.toArray⟩) ∧ w'.cell? ⟨g, off + kk * 12 + 3, none⟩ = some (.int .i64 s.qty) ∧ w'.cell? ⟨g, off + kk * 12 + 4, none⟩ = some (.int .i64 s.amt) ∧ w'.cell? ⟨g, off + kk * 12 + 5, none⟩ = some (.int .i64 s.d0) ∧ w'.cell? ⟨g, off + kk * 12 + 6, none⟩ = some (.int .i64 s.d1) ∧ w'.cell? ⟨g, off + kk * 12 + 7, none⟩ = some (.int .i64 s.d2) ∧ w'.cell? ⟨g, off + kk * 12 + 8, none⟩ = some (.int .i64 s.d3) ∧ w'.cell? ⟨g, off + kk * 12 + 9, none⟩ = some (.int .i64 s.d4) ∧ w'.cell? ⟨g, off + kk * 12 + 10, none⟩ = some (.int .i64 s.d5) ∧ w'.cell? ⟨g, off + kk * 12 + 11, none⟩ = some (.bool s.can)) W))
   refine wp_region_noPanic ?_
   refine wp_region_held_drew (S := (fun w' => Hid (Below w1.heap.size w1 w') ∧ w'.cell? ⟨rb, 0, none⟩ = some (.slice (some ⟨g, off, none⟩) c.l.length cl) ∧ w'.cell? ⟨w.heap.size, 0, none⟩ = some (.int .i64 ((kk : Int) + 1)) ∧ w'.cell? ⟨g, off + kk * 12, none⟩ = some (.int .i64 s.id) ∧ w'.cell? ⟨g, off + kk * 12 + 1, none⟩ = some (.string ⟨s.ref.toArray⟩) ∧ w'.cell? ⟨g, off + kk * 12 + 2, none⟩ = some (.string ⟨s.sku.toArray⟩) ∧ w'.cell? ⟨g, off + kk * 12 + 3, none⟩ = some (.int .i64 s.qty) ∧ w'.cell? ⟨g, off + kk * 12 + 4, none⟩ = some (.int .i64 s.amt) ∧ w'.cell? ⟨g, off + kk * 12 + 5, none⟩ = some (.int .i64 s.d0) ∧ w'.cell? ⟨g, off + kk * 12 + 6, none⟩ = some (.int .i64 s.d1) ∧ w'.cell? ⟨g, off + kk * 12 + 7, none⟩ = some (.int .i64 s.d2) ∧ w'.cell? ⟨g, off + kk * 12 + 8, none⟩ = some (.int .i64 s.d3) ∧ w'.cell? ⟨g, off + kk * 12 + 9, none⟩ = some (.int .i64 s.d4) ∧ w'.cell? ⟨g, off + kk * 12 + 10, none⟩ = some (.int .i64 s.d5) ∧ w'.cell? ⟨g, off + kk * 12 + 11, none⟩ = some (.bool s.can))) (by kernel_rfl) (HH.out _ (below_drew1 (Below.refl w1.heap.size w1))) (fun hHeld => ?_)
   refine tk 0 rfl rfl ‹_› ?_; try go_frame
   refine tk 1 rfl rfl ‹_› ?_; try go_frame
   refine tk 2 rfl rfl ‹_› ?_; try go_frame
   refine tk 3 rfl rfl ‹_› ?_; try go_frame
   refine tk 4 rfl rfl ‹_› ?_; try go_frame
   refine tk 5 rfl rfl ‹_› ?_; try go_frame
   refine tk 6 rfl rfl ‹_› ?_; try go_frame
   refine tk 7 rfl rfl ‹_› ?_; try go_frame
   refine tk 8 rfl rfl ‹_› ?_; try go_frame
   refine rdy 9 rfl (fun K hK => ?_)
   go_simp
   refine hK.out _ _ (HH.out _ (bch (below_drew1 (Below.refl w1.heap.size w1)) (below_alloc w1.drew _) (Nat.le_refl _))) (fun hHeld => ?_)
   clear hK K
   (try simp only [gx1, gx2, gx3]); try go_frame
   refine rdy 10 rfl (fun K hK => ?_)
   go_simp
   refine hK.out _ _ (HH.out _ (bch (below_drew1 (Below.refl w1.heap.size w1)) (below_alloc w1.drew _) (Nat.le_refl _))) (fun hHeld => ?_)
   clear hK K
   (try simp only [gx1, gx2, gx3]); try go_frame
   refine wpAnyH_done (by kernel_rfl) ?_ _
   refine NoPanic.normal ?_
   clear hHeld HH
   go_upto_region 4 with (fail)
   obtain ⟨w2, hw2⟩ : ∃ w2, w2 = (w1.alloc (.cells (sgA s) tSagaR)).drew := ⟨_, rfl⟩
   rw [← hw2]
   have hb2 : Below w1.heap.size w1 w2 := by rw [hw2]; exact below_drew1 (below_alloc _ _)
   have HS2 := Hd (show w2.heap[w1.heap.size]? = some (.cells (sgA s) tSagaR (0, 0)) by rw [hw2]; exact heap_new _ _)
   have HX2 := Hd (heap_keep HX1.out hb2); have HB2 := Hd (bch HB1.out hb2 HB1.out.size); have HR2 := Hd (HR1.out.below hb2)
   have hz1 : w.heap.size < w1.heap.size := heap_lt HX1.out
   have hz2 : rb < w1.heap.size := heap_lt HR1.out.hc
   clear hw2 hb2 k0 k1 y0 HX1 HB1 HR1 d0 d1 d2 d3 d4 d5 d6 d7 d8 d9 d10 d11
   generalize w1.heap.size = b7 at HS2 hz1 hz2 ⊢
   obtain ⟨k0, k1, _, _⟩ := cell2 HX2.out
   obtain ⟨c0, c1, c2, c3, c4, c5, c6, c7, c8, c9, c10, c11⟩ := sg_box HS2.out
   go_wp2_with fail
   cases hr : replyB s d code with
   | false =>
    refine (rreply_no s d code w2 hr).mono ?_
    rintro e w3 ⟨rfl, hb⟩
    have HE := Hd (show replyE c ((kk : Int) + 1) d code = 92 by rw [HRE.out, hr]; rfl)
    have HCC := Hd (show replyC c ((kk : Int) + 1) d code = c by unfold replyC; rw [if_neg (by rw [HE.out]; decide)])
    have HB3 := Hd (bch HB2.out hb HB2.out.size); have HR3 := Hd (HR2.out.below hb)
    clear hb k0 k1 c0 c1 c2 c3 c4 c5 c6 c7 c8 c9 c10 c11 HB2 HR2
    go_upto_region 5 with (fail)
    obtain ⟨w4, hw4⟩ : ∃ w4, w4 = w3.alloc (.cells (sgA sg0) tSagaR) := ⟨_, rfl⟩
    rw [← hw4]
    have hb4 : Below w3.heap.size w3 w4 := by rw [hw4]; exact below_alloc _ _
    have HB4 := Hd (bch HB3.out hb4 HB3.out.size); have HR4 := Hd (HR3.out.below hb4)
    clear hw4 hb4
    go_wp2_with fail
    go_ret
    rw [HCC.out]
    first
     | exact ⟨_, _, by rw [HE.out]; rfl, RStp.after HB4.out (RStp.refl HR4.out)⟩
     | exact ⟨_, by rw [HE.out]; rfl, _, RStp.after HB4.out (RStp.refl HR4.out)⟩
     | exact ⟨by rw [HE.out]; rfl, _, _, RStp.after HB4.out (RStp.refl HR4.out)⟩
   | true =>
    refine (rreply_yes s d code w2 hr).mono ?_
    have htid : (replyI s d code).id = (kk : Int) + 1 := (reply_id s d code).trans HSID.out
    obtain ⟨t, ht0⟩ : ∃ t, replyI s d code = t := ⟨_, rfl⟩
    rw [ht0] at htid ⊢
    have HTID := Hd htid
    clear htid
    rintro e w3 ⟨rfl, hb⟩
    have HE := Hd (show replyE c ((kk : Int) + 1) d code = 0 by rw [HRE.out, hr]; rfl)
    have HPR := Hd (show postR c ((kk : Int) + 1) d code = postBy ((kk : Int) + 1) d (Sa.netI t - Sa.netI s) by unfold postR; rw [hkk, HS.out]; simp only [ht0])
    have HCC := Hd (show replyC c ((kk : Int) + 1) d code = { c with l := c.l.set kk t, b := c.b ++ postBy ((kk : Int) + 1) d (Sa.netI t - Sa.netI s) } by unfold replyC; rw [if_pos HE.out, hkk, HS.out]; simp only [ht0, HPR.out])
    have hta : t.amt = s.amt := by rw [← ht0]; unfold replyI; exact (onI_keeps _).2.2.trans (setI_keeps s d (code + 1)).2.2
    have hnt := net_bd (s := t) (by rw [hta]; exact hsa)
    have hns := net_bd hsa
    clear ht0 hta hr
    have HX3 := Hd (heap_keep HX2.out hb); have HS3 := Hd (heap_keep HS2.out hb); have HB3 := Hd (bch HB2.out hb HB2.out.size); have HR3 := Hd (HR2.out.below hb)
    clear hb k0 k1 c0 c1 c2 c3 c4 c5 c6 c7 c8 c9 c10 c11 HX2 HS2 HB2 HR2
    go_upto_region 5 with (fail)
    obtain ⟨w4, hw4⟩ : ∃ w4, w4 = w3.alloc (.cells (sgA t) tSagaR) := ⟨_, rfl⟩
    rw [← hw4]
    have hb4 : Below w3.heap.size w3 w4 := by rw [hw4]; exact below_alloc _ _
    have HT4 := Hd (show w4.heap[w3.heap.size]? = some (.cells (sgA t) tSagaR (0, 0)) by rw [hw4]; exact heap_new _ _)
    have HX4 := Hd (heap_keep HX3.out hb4); have HS4 := Hd (heap_keep HS3.out hb4); have HB4 := Hd (bch HB3.out hb4 HB3.out.size); have HR4 := Hd (HR3.out.below hb4)
    have hz3 : b7 < w3.heap.size := heap_lt HS3.out
    clear hw4 hb4 HX3 HS3 HB3 HR3
    generalize w3.heap.size = b9 at HT4 hz3 ⊢
    obtain ⟨c0, c1, c2, c3, c4, c5, c6, c7, c8, c9, c10, c11⟩ := sg_box HT4.out
    go_wp2_with fail
    refine (rset_any HR4.out t kk HTID.out hkl (by omega) Q).mono ?_
    rintro e w5 ⟨vL', ⟨v5, rfl⟩, hstp⟩
    have HST := Hd (RStp.after HB4.out hstp)
    have HR5 := Hd hstp.r
    have HX5 := Hd (heap_turned' HX4.out hstp.t (by omega)); have HS5 := Hd (heap_turned' HS4.out hstp.t (by omega)); have HT5 := Hd (heap_turned' HT4.out hstp.t (by omega))
    clear hstp HX4 HS4 HT4 HR4 HB4 c0 c1 c2 c3 c4 c5 c6 c7 c8 c9 c10 c11
    go_upto_region 8 with (fail)
    obtain ⟨c0, c1, c2, c3, c4, c5, c6, c7, c8, c9, c10, c11⟩ := sg_box HT5.out
    obtain ⟨e0, e1, e2, e3, e4, e5, e6, e7, e8, e9, e10, e11⟩ := sg_box HS5.out
    have HH := Hd (fun W (hb : Below w5.heap.size w5 W) => (⟨Hd hb, kc hb c0, kc hb c1, kc hb c2, kc hb c3, kc hb c4, kc hb c5, kc hb c6, kc hb c7, kc hb c8, kc hb c9, kc hb c10, kc hb c11, kc hb e0, kc hb e1, kc hb e2, kc hb e3, kc hb e4, kc hb e5, kc hb e6, kc hb e7, kc hb e8, kc hb e9, kc hb e10, kc hb e11⟩ : (fun w' => Hid (Below w5.heap.size w5 w') ∧ w'.cell? ⟨b9, 0, none⟩ = some (.int .i64 t.id) ∧ w'.cell? ⟨b9, 1, none⟩ = some (.string ⟨t.ref.toArray⟩) ∧ w'.cell? ⟨b9, 2, none⟩ = some (.string ⟨t.sku.toArray⟩) ∧ w'.cell? ⟨b9, 3, none⟩ = some (.int .i64 t.qty) ∧ w'.cell? ⟨b9, 4, none⟩ = some (.int .i64 t.amt) ∧ w'.cell? ⟨b9, 5, none⟩ = some (.int .i64 t.d0) ∧ w'.cell? ⟨b9, 6, none⟩ = some (.int .i64 t.d1) ∧ w'.cell? ⟨b9, 7, none⟩ = some (.int .i64 t.d2) ∧ w'.cell? ⟨b9, 8, none⟩ = some (.int .i64 t.d3) ∧ w'.cell? ⟨b9, 9, none⟩ = some (.int .i64 t.d4) ∧ w'.cell? ⟨b9, 10, none⟩ = some (.int .i64 t.d5) ∧ w'.cell? ⟨b9, 11, none⟩ = some (.bool t.can) ∧ w'.cell? ⟨b7, 0, none⟩ = some (.int .i64 s.id) ∧ w'.cell? ⟨b7, 1, none⟩ = some (.string ⟨s.ref.toArray⟩) ∧ w'.cell? ⟨b7, 2, none⟩ = some (.string ⟨s.sku.toArray⟩) ∧ w'.cell? ⟨b7, 3, none⟩ = some (.int .i64 s.qty) ∧ w'.cell? ⟨b7, 4, none⟩ = some (.int .i64 s.amt) ∧ w'.cell? ⟨b7, 5, none⟩ = some (.int .i64 s.d0) ∧ w'.cell? ⟨b7, 6, none⟩ = some (.int .i64 s.d1) ∧ w'.cell? ⟨b7, 7, none⟩ = some (.int .i64 s.d2) ∧ w'.cell? ⟨b7, 8, none⟩ = some (.int .i64 s.d3) ∧ w'.cell? ⟨b7, 9, none⟩ = some (.int .i64 s.d4) ∧ w'.cell? ⟨b7, 10, none⟩ = some (.int .i64 s.d5) ∧ w'.cell? ⟨b7, 11, none⟩ = some (.bool s.can)) W))
    refine wp_region_noPanic ?_
    refine wp_region_held_drew (S := (fun w' => Hid (Below w5.heap.size w5 w') ∧ w'.cell? ⟨b9, 0, none⟩ = some (.int .i64 t.id) ∧ w'.cell? ⟨b9, 1, none⟩ = some (.string ⟨t.ref.toArray⟩) ∧ w'.cell? ⟨b9, 2, none⟩ = some (.string ⟨t.sku.toArray⟩) ∧ w'.cell? ⟨b9, 3, none⟩ = some (.int .i64 t.qty) ∧ w'.cell? ⟨b9, 4, none⟩ = some (.int .i64 t.amt) ∧ w'.cell? ⟨b9, 5, none⟩ = some (.int .i64 t.d0) ∧ w'.cell? ⟨b9, 6, none⟩ = some (.int .i64 t.d1) ∧ w'.cell? ⟨b9, 7, none⟩ = some (.int .i64 t.d2) ∧ w'.cell? ⟨b9, 8, none⟩ = some (.int .i64 t.d3) ∧ w'.cell? ⟨b9, 9, none⟩ = some (.int .i64 t.d4) ∧ w'.cell? ⟨b9, 10, none⟩ = some (.int .i64 t.d5) ∧ w'.cell? ⟨b9, 11, none⟩ = some (.bool t.can) ∧ w'.cell? ⟨b7, 0, none⟩ = some (.int .i64 s.id) ∧ w'.cell? ⟨b7, 1, none⟩ = some (.string ⟨s.ref.toArray⟩) ∧ w'.cell? ⟨b7, 2, none⟩ = some (.string ⟨s.sku.toArray⟩) ∧ w'.cell? ⟨b7, 3, none⟩ = some (.int .i64 s.qty) ∧ w'.cell? ⟨b7, 4, none⟩ = some (.int .i64 s.amt) ∧ w'.cell? ⟨b7, 5, none⟩ = some (.int .i64 s.d0) ∧ w'.cell? ⟨b7, 6, none⟩ = some (.int .i64 s.d1) ∧ w'.cell? ⟨b7, 7, none⟩ = some (.int .i64 s.d2) ∧ w'.cell? ⟨b7, 8, none⟩ = some (.int .i64 s.d3) ∧ w'.cell? ⟨b7, 9, none⟩ = some (.int .i64 s.d4) ∧ w'.cell? ⟨b7, 10, none⟩ = some (.int .i64 s.d5) ∧ w'.cell? ⟨b7, 11, none⟩ = some (.bool s.can))) (by kernel_rfl) (HH.out _ (below_drew1 (Below.refl w5.heap.size w5))) (fun hHeld => ?_)
    refine tk 0 rfl rfl ‹_› ?_; try go_frame
    refine tk 2 rfl rfl ‹_› ?_; try go_frame
    refine rdy 1 rfl (fun K hK => ?_)
    go_simp
    refine (rnet_any s _).mono ?_
    rintro e w6 ⟨rfl, hb6⟩
    have HB6 := Hd (bch (below_drew1 (Below.refl w5.heap.size w5)) hb6 (Below.size (below_drew1 (Below.refl w5.heap.size w5))))
    clear hb6
    refine hK.out _ _ (HH.out _ (HB6.out)) (fun hHeld => ?_)
    clear hK K
    (try simp only [gx1, gx2, gx3]); try go_frame
    refine rdy 3 rfl (fun K hK => ?_)
    go_simp
    refine (rnet_any t _).mono ?_
    rintro e w7 ⟨rfl, hb7⟩
    have HB7 := Hd (bch HB6.out hb7 HB6.out.size)
    clear hb7
    refine hK.out _ _ (HH.out _ (HB7.out)) (fun hHeld => ?_)
    clear hK K
    (try simp only [gx1, gx2, gx3]); try go_frame
    refine tk 4 rfl rfl ‹_› ?_; try go_frame
    refine tk 5 rfl rfl ‹_› ?_; try go_frame
    refine wpAnyH_done (by kernel_rfl) ?_ _
    refine NoPanic.normal ?_
    have HX7 := Hd (heap_keep HX5.out HB7.out); have HR7 := Hd (HR5.out.below HB7.out); have HST7 := Hd (HST.out.below HB7.out)
    clear hHeld HH HB6 HB7 HX5 HS5 HT5 HR5 HST c0 c1 c2 c3 c4 c5 c6 c7 c8 c9 c10 c11 e0 e1 e2 e3 e4 e5 e6 e7 e8 e9 e10 e11
    obtain ⟨nt, hnt0⟩ : ∃ n, Sa.netI t = n := ⟨_, rfl⟩
    obtain ⟨ns, hns0⟩ : ∃ n, Sa.netI s = n := ⟨_, rfl⟩
    rw [hnt0] at hnt; rw [hns0] at hns
    rw [hnt0, hns0] at HCC ⊢
    clear hnt0 hns0 HPR
    have hwn : IntKind.i64.wrap (nt - ns) = nt - ns := IntWalk.i64_in _ (by omega)
    have hwm : IntKind.i64.wrap (ns - nt) = ns - nt := IntWalk.i64_in _ (by omega)
    have hxr : ¬ w.heap.size = rb := by omega
    by_cases hpos : ns < nt
    ·have hneg : ¬ nt < ns := by omega
     have HPB := Hd (show postBy ((kk : Int) + 1) d (nt - ns) = [⟨putK ((kk : Int) + 1) d, (kk : Int) + 1, 1, 0, nt - ns⟩] by rw [post_pos (by omega)])
     rw [HPB.out] at HCC
     go_upto_region 10 with (fail)
     have HH := Hd (fun W' (hb : Turned (fun j => j = rb) w7 W') => (⟨Hd hb, cell_at (heap_turned' HX7.out hb hxr) 0 rfl, cell_at (heap_turned' HX7.out hb hxr) 1 rfl⟩ : (fun w' => Hid (Turned (fun j => j = rb) w7 w') ∧ w'.cell? ⟨w.heap.size, 0, none⟩ = some (.int .i64 ((kk : Int) + 1)) ∧ w'.cell? ⟨w.heap.size, 1, none⟩ = some (.int .i64 d)) W'))
     refine wp_region_noPanic ?_
     refine wp_region_held_drew (S := (fun w' => Hid (Turned (fun j => j = rb) w7 w') ∧ w'.cell? ⟨w.heap.size, 0, none⟩ = some (.int .i64 ((kk : Int) + 1)) ∧ w'.cell? ⟨w.heap.size, 1, none⟩ = some (.int .i64 d))) (by kernel_rfl) (HH.out _ ((Turned.refl _ w7).drew)) (fun hHeld => ?_)
     refine tk 0 rfl rfl ‹_› ?_; try go_frame
     refine tk 1 rfl rfl ‹_› ?_; try go_frame
     refine tk 3 rfl rfl ‹_› ?_; try go_frame
     refine tk 4 rfl rfl ‹_› ?_; try go_frame
     refine tk 5 rfl rfl ‹_› ?_; try go_frame
     refine tk 6 rfl rfl ‹_› ?_; try go_frame
     refine tk 7 rfl rfl ‹_› ?_; try go_frame
     refine rdy 2 rfl (fun K hK => ?_)
     go_simp
     refine (refPutK_any _ d _).mono ?_
     rintro e w8 ⟨rfl, hb8⟩
     have HB8 := Hd (bch (below_drew1 (Below.refl w7.heap.size w7)) hb8 (Nat.le_refl _))
     clear hb8
     refine hK.out _ _ (HH.out _ ((Turned.of_below HB8.out))) (fun hHeld => ?_)
     clear hK K
     (try simp only [gx1, gx2, gx3]); try go_frame
     refine rdy 8 rfl (fun K hK => ?_)
     go_simp
     refine (rpost_any (HR7.out.below HB8.out) ⟨putK ((kk : Int) + 1) d, (kk : Int) + 1, 1, 0, nt - ns⟩ (by show c.b.length ≤ _; omega) Q).mono ?_
     rintro e w9 ⟨vB', ⟨v9, rfl⟩, hstp⟩
     have HS9 := Hd (RStp.trans (HST7.out.below HB8.out) hstp)
     have HT9 := Hd ((Turned.of_below HB8.out).trans hstp.t)
     clear hstp
     refine hK.out _ _ (HH.out _ (HT9.out)) (fun hHeld => ?_)
     clear hK K
     (try simp only [gx1, gx2, gx3]); try go_frame
     refine wpAnyH_done (by kernel_rfl) ?_ _
     refine NoPanic.normal ?_
     clear hHeld HH
     go_wp2_with fail
     go_ret
     rw [HCC.out]
     first
      | exact ⟨_, _, by rw [HE.out]; rfl, HS9.out⟩
      | exact ⟨_, by rw [HE.out]; rfl, _, HS9.out⟩
      | exact ⟨by rw [HE.out]; rfl, _, _, HS9.out⟩
    ·by_cases hneg : nt < ns
     ·have HPB := Hd (show postBy ((kk : Int) + 1) d (nt - ns) = [⟨putK ((kk : Int) + 1) d, (kk : Int) + 1, 3, 1, ns - nt⟩] by rw [post_neg (by omega)]; congr 2; omega)
      rw [HPB.out] at HCC
      go_upto_region 12 with (fail)
      have HH := Hd (fun W' (hb : Turned (fun j => j = rb) w7 W') => (⟨Hd hb, cell_at (heap_turned' HX7.out hb hxr) 0 rfl, cell_at (heap_turned' HX7.out hb hxr) 1 rfl⟩ : (fun w' => Hid (Turned (fun j => j = rb) w7 w') ∧ w'.cell? ⟨w.heap.size, 0, none⟩ = some (.int .i64 ((kk : Int) + 1)) ∧ w'.cell? ⟨w.heap.size, 1, none⟩ = some (.int .i64 d)) W'))
      refine wp_region_noPanic ?_
      refine wp_region_held_drew (S := (fun w' => Hid (Turned (fun j => j = rb) w7 w') ∧ w'.cell? ⟨w.heap.size, 0, none⟩ = some (.int .i64 ((kk : Int) + 1)) ∧ w'.cell? ⟨w.heap.size, 1, none⟩ = some (.int .i64 d))) (by kernel_rfl) (HH.out _ ((Turned.refl _ w7).drew)) (fun hHeld => ?_)
      refine tk 0 rfl rfl ‹_› ?_; try go_frame
      refine tk 1 rfl rfl ‹_› ?_; try go_frame
      refine tk 3 rfl rfl ‹_› ?_; try go_frame
      refine tk 4 rfl rfl ‹_› ?_; try go_frame
      refine tk 5 rfl rfl ‹_› ?_; try go_frame
      refine tk 6 rfl rfl ‹_› ?_; try go_frame
      refine tk 7 rfl rfl ‹_› ?_; try go_frame
      refine rdy 2 rfl (fun K hK => ?_)
      go_simp
      refine (refPutK_any _ d _).mono ?_
      rintro e w8 ⟨rfl, hb8⟩
      have HB8 := Hd (bch (below_drew1 (Below.refl w7.heap.size w7)) hb8 (Nat.le_refl _))
      clear hb8
      refine hK.out _ _ (HH.out _ ((Turned.of_below HB8.out))) (fun hHeld => ?_)
      clear hK K
      (try simp only [gx1, gx2, gx3]); try go_frame
      refine rdy 8 rfl (fun K hK => ?_)
      go_simp
      refine (rpost_any (HR7.out.below HB8.out) ⟨putK ((kk : Int) + 1) d, (kk : Int) + 1, 3, 1, ns - nt⟩ (by show c.b.length ≤ _; omega) Q).mono ?_
      rintro e w9 ⟨vB', ⟨v9, rfl⟩, hstp⟩
      have HS9 := Hd (RStp.trans (HST7.out.below HB8.out) hstp)
      have HT9 := Hd ((Turned.of_below HB8.out).trans hstp.t)
      clear hstp
      refine hK.out _ _ (HH.out _ (HT9.out)) (fun hHeld => ?_)
      clear hK K
      (try simp only [gx1, gx2, gx3]); try go_frame
      refine wpAnyH_done (by kernel_rfl) ?_ _
      refine NoPanic.normal ?_
      clear hHeld HH
      go_wp2_with fail
      go_ret
      rw [HCC.out]
      first
       | exact ⟨_, _, by rw [HE.out]; rfl, HS9.out⟩
       | exact ⟨_, by rw [HE.out]; rfl, _, HS9.out⟩
       | exact ⟨by rw [HE.out]; rfl, _, _, HS9.out⟩
     ·have HPB := Hd (post_nil (o := (kk : Int) + 1) (d := d) (b := nt - ns) (by omega) (by omega))
      rw [HPB.out, List.append_nil] at HCC
      go_wp2_with fail
      go_ret
      rw [HCC.out]
      first
       | exact ⟨_, _, by rw [HE.out]; rfl, HST7.out⟩
       | exact ⟨_, by rw [HE.out]; rfl, _, HST7.out⟩
       | exact ⟨by rw [HE.out]; rfl, _, _, HST7.out⟩
end Go.Proofs.YtiagdpfmmjhgcaaGreatDoor
/- The document's core takes an entry. -/
namespace Go.Proofs.YtiagdpfmmjhgcaaGreatDoor
open Go.RowKit Go.Maps Co Key Rw Sa Od Ma
set_option linter.unusedSimpArgs false
set_option linter.unusedVariables false
set_option maxRecDepth 100000
set_option maxHeartbeats 16000000

theorem apply_at {c : Cor} {e : Ent} : (e.kind = 1 → applyE c e = placeE c e.o ∧ applyC c e = placeC c e.o) ∧ (e.kind = 2 → applyE c e = cstopE c e.k.1 ∧ applyC c e = cstopC c e.k.1) ∧ (e.kind = 3 → applyE c e = replyE c e.k.1 e.k.2 e.code ∧ applyC c e = replyC c e.k.1 e.k.2 e.code) ∧ (e.kind = 4 → applyE c e = In.accE c.inn e.s ∧ applyC c e = stmC c e.s) := by
 refine ⟨fun h => ?_, fun h => ?_, fun h => ?_, fun h => ?_⟩ <;> (unfold applyE applyC; simp [h])
theorem place_no {c : Cor} {o : Ord5} (h : placeE c o ≠ 0) : placeC c o = c := by unfold placeC; rw [if_neg h]
theorem refock_at {id q a n : Int} {r s : List UInt8} (h : codeO id r s q a = n) (w : World) : Calls Tryz.prog 24 #[.agg #[.int .i64 id, .string ⟨r.toArray⟩, .string ⟨s.toArray⟩, .int .i64 q, .int .i64 a]] w fun e w' => e = .returned (.int .i64 n) ∧ Below w.heap.size w w' := by rw [← h]; exact refock_any w id q a r s
theorem turned_in9 (w : World) (b : Nat) (p0 p1 p2 p3 p4 p5 p6 p7 p8 : Value) : Turned (fun j => j = b) w (((((((((w.setCell ⟨b, 2, none⟩ p0).setCell ⟨b, 3, none⟩ p1).setCell ⟨b, 4, none⟩ p2).setCell ⟨b, 5, none⟩ p3).setCell ⟨b, 6, none⟩ p4).setCell ⟨b, 7, none⟩ p5).setCell ⟨b, 8, none⟩ p6).setCell ⟨b, 9, none⟩ p7).setCell ⟨b, 10, none⟩ p8) := (((((((((turned_set w b 2 p0).trans (turned_set _ b 3 p1)).trans (turned_set _ b 4 p2)).trans (turned_set _ b 5 p3)).trans (turned_set _ b 6 p4)).trans (turned_set _ b 7 p5)).trans (turned_set _ b 8 p6)).trans (turned_set _ b 9 p7)).trans (turned_set _ b 10 p8))
theorem set_in9 {w : World} {b : Nat} {x0 x1 x2 x3 x4 x5 x6 x7 x8 x9 x10 : Value} {T : TypeId} (h : w.heap[b]? = some (.cells #[x0, x1, x2, x3, x4, x5, x6, x7, x8, x9, x10] T (0, 0))) (p0 p1 p2 p3 p4 p5 p6 p7 p8 : Value) : (((((((((w.setCell ⟨b, 2, none⟩ p0).setCell ⟨b, 3, none⟩ p1).setCell ⟨b, 4, none⟩ p2).setCell ⟨b, 5, none⟩ p3).setCell ⟨b, 6, none⟩ p4).setCell ⟨b, 7, none⟩ p5).setCell ⟨b, 8, none⟩ p6).setCell ⟨b, 9, none⟩ p7).setCell ⟨b, 10, none⟩ p8).heap[b]? = some (.cells #[x0, x1, p0, p1, p2, p3, p4, p5, p6, p7, p8] T (0, 0)) := by
 simp [World.setCell, Array.getElem?_modify, h]
theorem rapply1_any {w : World} {rb : Nat} {vL vB vI : Value} {c : Cor} (h : Rr w rb vL vB vI c) (e : Ent) (Au : Option Addr) (cu : Nat) (hu : Rd w (.slice Au e.s.2.2.length cu) e.s.2.2) (hl : c.l.length ≤ 60) (hbl : c.b.length ≤ 80000) (ham : ∀ s ∈ c.l, 0 ≤ s.amt ∧ s.amt ≤ 1099511627776) (hid : ∀ (k : Nat) s, c.l[k]? = some s → s.id = (k : Int) + 1) (hk : e.kind = 1) :
  Calls Tryz.prog 10 #[.pointer (some ⟨rb, 0, none⟩), .agg #[.int .i64 e.kind, .int .i64 e.o.1, .string ⟨e.o.2.1.toArray⟩, .string ⟨e.o.2.2.1.toArray⟩, .int .i64 e.o.2.2.2.1, .int .i64 e.o.2.2.2.2, .int .i64 e.k.1, .int .i64 e.k.2, .int .i64 e.code, .int .i64 e.s.1, .int .i64 e.s.2.1, .slice Au e.s.2.2.length cu]] w fun e2 w' => ∃ vL' vB' vI', e2 = .returned (.int .i64 (applyE c e)) ∧ RStp (fun j => OffL j (.slice Au e.s.2.2.length cu) e.s.2.2.length) w w' rb vL vB vI c vL' vB' vI' (applyC c e) := by
 have HKK := Hd hk
 clear hk
 obtain ⟨A, cl, rfl, hlc, hcm⟩ := h.l.shape
 have hrb := heap_lt h.hc
 have HAP := Hd (apply_at (c := c) (e := e))
 obtain ⟨wa, hA⟩ : ∃ wa, wa = w.alloc (.cells #[.int .i64 e.kind, .int .i64 e.o.1, .string ⟨e.o.2.1.toArray⟩, .string ⟨e.o.2.2.1.toArray⟩, .int .i64 e.o.2.2.2.1, .int .i64 e.o.2.2.2.2, .int .i64 e.k.1, .int .i64 e.k.2, .int .i64 e.code, .int .i64 e.s.1, .int .i64 e.s.2.1, .slice Au e.s.2.2.length cu] tEnt) := ⟨_, rfl⟩
 have hB : Below w.heap.size w wa := by rw [hA]; exact below_alloc _ _
 have HX := Hd (show wa.heap[w.heap.size]? = some (.cells #[.int .i64 e.kind, .int .i64 e.o.1, .string ⟨e.o.2.1.toArray⟩, .string ⟨e.o.2.2.1.toArray⟩, .int .i64 e.o.2.2.2.1, .int .i64 e.o.2.2.2.2, .int .i64 e.k.1, .int .i64 e.k.2, .int .i64 e.code, .int .i64 e.s.1, .int .i64 e.s.2.1, .slice Au e.s.2.2.length cu] tEnt (0, 0)) by rw [hA]; exact heap_new _ _)
 have HR := Hd (h.below hB); have HA := Hd hA; have HB := Hd hB; have HU := Hd (hu.keep hB); have HID := Hd hid; have HAM := Hd ham
 have hws : w.heap.size < wa.heap.size := heap_lt HX.out
 clear hA hB h hu hid ham
 obtain ⟨m0, m1, m2, m3, m4, m5, m6, m7, m8, m9, m10, m11⟩ := cell12 HX.out
 have y0 := HR.out.c01.1
 go_enter Tryz.func10, Tryz.ntmps10
 go_upto_region 1 with (fail)
 rw [← HA.out]
 have hk := HKK.out
 have q1 := beqT hk
 obtain ⟨he0, hc0⟩ := HAP.out.1 hk
 have HE0 := Hd he0; have HC0 := Hd hc0
 clear he0 hc0 hk HAP
 obtain ⟨n, hn⟩ : ∃ n, codeO e.o.1 e.o.2.1 e.o.2.2.1 e.o.2.2.2.1 e.o.2.2.2.2 = n := ⟨_, rfl⟩
 have HK := Hd (refock_at hn)
 have HN := Hd hn
 clear hn
 go_wp2_with fail
 refine (HK.out _).mono ?_
 rintro r w1 ⟨rfl, hb⟩
 have HX1 := Hd (heap_keep HX.out hb); have HB1 := Hd (bch HB.out hb HB.out.size); have HR1 := Hd (HR.out.below hb)
 have hs1 : wa.heap.size ≤ w1.heap.size := hb.size
 clear hb m0 m1 m2 m3 m4 m5 m6 m7 m8 m9 m10 m11 y0 HX HB HR HA HK
 obtain ⟨m0, m1, m2, m3, m4, m5, m6, m7, m8, m9, m10, m11⟩ := cell12 HX1.out
 have y0 := HR1.out.c01.1
 by_cases hn0 : n = 0
 ·subst hn0
  go_wp2_with fail
  refine (rhas_any HR1.out e.o.2.1 (by omega)).mono ?_
  rintro r w2 ⟨rfl, hb⟩; subst hb
  cases hh : hasB c.l e.o.2.1 with
  | true =>
   have HPE := Hd (show placeE c e.o = 91 by unfold placeE; rw [HN.out, if_neg (by decide), if_pos hh])
   have HE := Hd (HE0.out.trans HPE.out)
   have HCC := Hd (HC0.out.trans (place_no (by rw [HPE.out]; first | decide | assumption)))
   go_wp2_with fail
   go_ret
   rw [HCC.out]
   first
    | exact ⟨_, _, _, by rw [HE.out]; rfl, RStp.after HB1.out (RStp.refl HR1.out)⟩
    | exact ⟨_, _, by rw [HE.out]; rfl, _, RStp.after HB1.out (RStp.refl HR1.out)⟩
    | exact ⟨_, by rw [HE.out]; rfl, _, _, RStp.after HB1.out (RStp.refl HR1.out)⟩
    | exact ⟨by rw [HE.out]; rfl, _, _, _, RStp.after HB1.out (RStp.refl HR1.out)⟩
  | false =>
   by_cases h60 : 60 ≤ c.l.length
   ·have h60' : (60 : Int) ≤ c.l.length := by omega
    have HPE := Hd (show placeE c e.o = 60 by unfold placeE; rw [HN.out, if_neg (by decide), if_neg (by rw [hh]; decide), if_pos h60])
    have HE := Hd (HE0.out.trans HPE.out)
    have HCC := Hd (HC0.out.trans (place_no (by rw [HPE.out]; first | decide | assumption)))
    go_wp2_with fail
    go_ret
    rw [HCC.out]
    first
     | exact ⟨_, _, _, by rw [HE.out]; rfl, RStp.after HB1.out (RStp.refl HR1.out)⟩
     | exact ⟨_, _, by rw [HE.out]; rfl, _, RStp.after HB1.out (RStp.refl HR1.out)⟩
     | exact ⟨_, by rw [HE.out]; rfl, _, _, RStp.after HB1.out (RStp.refl HR1.out)⟩
     | exact ⟨by rw [HE.out]; rfl, _, _, _, RStp.after HB1.out (RStp.refl HR1.out)⟩
   ·have h60' : ¬ (60 : Int) ≤ c.l.length := by omega
    go_wp2_with fail
    by_cases hi : e.o.1 = (c.l.length : Int) + 1
    ·have hi1 := bneF hi
     have HPE := Hd (show placeE c e.o = 0 by unfold placeE; rw [HN.out, if_neg (by decide), if_neg (by rw [hh]; decide), if_neg h60, if_neg (fun h => h hi)])
     have HE := Hd (HE0.out.trans HPE.out)
     have HCC := Hd (HC0.out.trans (show placeC c e.o = { c with l := c.l ++ [beginI e.o.1 e.o.2.1 e.o.2.2.1 e.o.2.2.2.1 e.o.2.2.2.2] } by unfold placeC; rw [if_pos HPE.out]))
     have HI1 := Hd hi1
     clear hh hi hi1
     obtain ⟨i0, hi0, hz0, hz1, hz2⟩ := info_parts sagaR_info
     have hi1 := HI1.out
     go_quiet (fail)
     go_wp2_with fail
     obtain ⟨w2, hw2⟩ : ∃ w2, w2 = w1.drewN nq := ⟨_, rfl⟩
     rw [← hw2]
     have hbd : Below w1.heap.size w1 w2 := by rw [hw2]; exact below_drewN (Below.refl _ _) _
     have HX2 := Hd (heap_keep HX1.out hbd); have HB2 := Hd (bch HB1.out hbd HB1.out.size); have HR2 := Hd (HR1.out.below hbd)
     have hs2 : w1.heap.size ≤ w2.heap.size := hbd.size
     clear hw2 hbd hi1 m0 m1 m2 m3 m4 m5 m6 m7 m8 m9 m10 m11 y0 HX1 HB1 HR1
     obtain ⟨m0, m1, m2, m3, m4, m5, m6, m7, m8, m9, m10, m11⟩ := cell12 HX2.out
     have y0 := HR2.out.c01.1
     have HSRC := Hd (fun W (hW : Below w2.heap.size w2 W) => src_sgs (HR2.out.l.keep hW))
     have hrw : ¬ w.heap.size = rb := by omega
     have HHA := Hd (fun W (hb : Below w2.heap.size w2 W) => (⟨Hd hb, kc hb y0, kc hb m1, kc hb m2, kc hb m3, kc hb m4, kc hb m5⟩ : (fun w' => Hid (Below w2.heap.size w2 w') ∧ w'.cell? ⟨rb, 0, none⟩ = some (.slice A c.l.length cl) ∧ w'.cell? ⟨w.heap.size, 1, none⟩ = some (.int .i64 e.o.1) ∧ w'.cell? ⟨w.heap.size, 2, none⟩ = some (.string ⟨e.o.2.1.toArray⟩) ∧ w'.cell? ⟨w.heap.size, 3, none⟩ = some (.string ⟨e.o.2.2.1.toArray⟩) ∧ w'.cell? ⟨w.heap.size, 4, none⟩ = some (.int .i64 e.o.2.2.2.1) ∧ w'.cell? ⟨w.heap.size, 5, none⟩ = some (.int .i64 e.o.2.2.2.2)) W))
     refine wp_region_noPanic ?_
     refine wp_region_till 13 (fun _ => True) (fun w' => Hid (Below w2.heap.size w2 w') ∧ w'.cell? ⟨rb, 0, none⟩ = some (.slice A c.l.length cl) ∧ w'.cell? ⟨w.heap.size, 1, none⟩ = some (.int .i64 e.o.1) ∧ w'.cell? ⟨w.heap.size, 2, none⟩ = some (.string ⟨e.o.2.1.toArray⟩) ∧ w'.cell? ⟨w.heap.size, 3, none⟩ = some (.string ⟨e.o.2.2.1.toArray⟩) ∧ w'.cell? ⟨w.heap.size, 4, none⟩ = some (.int .i64 e.o.2.2.2.1) ∧ w'.cell? ⟨w.heap.size, 5, none⟩ = some (.int .i64 e.o.2.2.2.2)) (by kernel_rfl) (HHA.out _ ((below_drew1 (Below.refl w2.heap.size w2)))) (fun hHeld => ?_)
     refine wpAnyT_go (i := 0) (v := ?vt0_1) rfl (by kernel_rfl) (by kernel_rfl) (by kernel_rfl) (fun _ _ _ h => h) (by kernel_rfl) (Or.inl ⟨by rfl, ?hyt0_1⟩) (by assumption) ?restt0_1
     case hyt0_1 => (intro w0 hSw; (try dsimp only at hSw); go_simp; try with_reducible rfl)
     case' restt0_1 => (try simp only [gx1, gx2, gx3]); try go_frame
     refine wpAnyT_go (i := 1) (v := ?vt1_2) rfl (by kernel_rfl) (by kernel_rfl) (by kernel_rfl) (fun _ _ _ h => h) (by kernel_rfl) (Or.inl ⟨by rfl, ?hyt1_2⟩) (by assumption) ?restt1_2
     case hyt1_2 => (intro w0 hSw; (try dsimp only at hSw); go_simp; try with_reducible rfl)
     case' restt1_2 => (try simp only [gx1, gx2, gx3]); try go_frame
     refine wpAnyT_go (i := 2) (v := ?vt2_3) rfl (by kernel_rfl) (by kernel_rfl) (by kernel_rfl) (fun _ _ _ h => h) (by kernel_rfl) (Or.inl ⟨by rfl, ?hyt2_3⟩) (by assumption) ?restt2_3
     case hyt2_3 => (intro w0 hSw; (try dsimp only at hSw); go_simp; try with_reducible rfl)
     case' restt2_3 => (try simp only [gx1, gx2, gx3]); try go_frame
     refine wpAnyT_go (i := 3) (v := ?vt3_4) rfl (by kernel_rfl) (by kernel_rfl) (by kernel_rfl) (fun _ _ _ h => h) (by kernel_rfl) (Or.inl ⟨by rfl, ?hyt3_4⟩) (by assumption) ?restt3_4
     case hyt3_4 => (intro w0 hSw; (try dsimp only at hSw); go_simp; try with_reducible rfl)
     case' restt3_4 => (try simp only [gx1, gx2, gx3]); try go_frame
     refine wpAnyT_go (i := 4) (v := ?vt4_5) rfl (by kernel_rfl) (by kernel_rfl) (by kernel_rfl) (fun _ _ _ h => h) (by kernel_rfl) (Or.inl ⟨by rfl, ?hyt4_5⟩) (by assumption) ?restt4_5
     case hyt4_5 => (intro w0 hSw; (try dsimp only at hSw); go_simp; try with_reducible rfl)
     case' restt4_5 => (try simp only [gx1, gx2, gx3]); try go_frame
     refine wpAnyT_go (i := 6) (v := ?vt6_6) rfl (by kernel_rfl) (by kernel_rfl) (by kernel_rfl) (fun _ _ _ h => h) (by kernel_rfl) (Or.inl ⟨by rfl, ?hyt6_6⟩) (by assumption) ?restt6_6
     case hyt6_6 => (intro w0 hSw; (try dsimp only at hSw); go_simp; try with_reducible rfl)
     case' restt6_6 => (try simp only [gx1, gx2, gx3]); try go_frame
     refine wpAnyT_go (i := 7) (v := ?vt7_7) rfl (by kernel_rfl) (by kernel_rfl) (by kernel_rfl) (fun _ _ _ h => h) (by kernel_rfl) (Or.inl ⟨by rfl, ?hyt7_7⟩) (by assumption) ?restt7_7
     case hyt7_7 => (intro w0 hSw; (try dsimp only at hSw); go_simp; try with_reducible rfl)
     case' restt7_7 => (try simp only [gx1, gx2, gx3]); try go_frame
     refine wpAnyT_ready (rs := [5]) (by kernel_rfl) (by simp) ?_
     refine AllReadyT.cons rfl (by kernel_rfl) (fun K hK => ?_) AllReadyT.nil
     refine step_append_any _ rfl (.const (.slice none 0 0)) (.tmp 48) tSagasR rfl w2.heap.size tSagaR i0 (.agg #[.int .i64 0, .string ⟨#[]⟩, .string ⟨#[]⟩, .int .i64 0, .int .i64 0, .int .i64 0, .int .i64 0, .int .i64 0, .int .i64 0, .int .i64 0, .int .i64 0, .bool false]) 12 112 Tryz.underlying48 hi0 hz0 hz1 hz2 rfl (by decide) (.slice none 0 0) 0 [] rfl (World.ownsRow_nil _ _ _ _) c.l.length (c.l.flatMap encS) (HSRC.out _ (below_drew1 (Below.refl w2.heap.size w2))) (by unfold maxLen; omega) (by omega) (Nat.le_refl _) ?_
     intro v3 w3 ho3 hg3 hat3
     rw [Nat.zero_add, List.nil_append] at ho3
     obtain ⟨A3, c3, rfl, _⟩ := own_slice ho3
     have HO3 := Hd ho3; have HB3 := Hd (bch (below_drew1 (Below.refl w2.heap.size w2)) (below_of_grown hg3) (Nat.le_refl _) : Below w2.heap.size w2 w3)
     clear ho3 hg3 hat3
     refine hK.out _ _ (HHA.out _ (HB3.out)) (fun hHeld => ?_)
     clear hK K
     (try simp only [gx1, gx2, gx3]); try go_frame
     refine wpAnyT_ready (rs := [8]) (by kernel_rfl) (by simp) ?_
     refine AllReadyT.cons rfl (by kernel_rfl) (fun K hK => ?_) AllReadyT.nil
     go_simp
     refine (rbegin_any e.o.1 e.o.2.1 e.o.2.2.1 e.o.2.2.2.1 e.o.2.2.2.2 _).mono ?_
     rintro r w4 ⟨rfl, hb4⟩
     have HB4 := Hd (bch HB3.out hb4 HB3.out.size); have HO4 := Hd (own_keep HO3.out hb4)
     clear hb4
     refine hK.out _ _ (HHA.out _ (HB4.out)) (fun hHeld => ?_)
     clear hK K
     (try simp only [gx1, gx2, gx3]); try go_frame
     refine wpAnyT_ready (rs := [9]) (by kernel_rfl) (by simp) ?_
     refine AllReadyT.cons rfl (by kernel_rfl) (fun K hK => ?_) AllReadyT.nil
     go_simp
     refine hK.out _ _ (HHA.out _ (bch HB4.out (below_alloc w4 _) HB4.out.size)) (fun hHeld => ?_)
     clear hK K
     (try simp only [gx1, gx2, gx3]); try go_frame
     have hs4 := HB4.out.size
     refine wpAnyT_ready (rs := [10]) (by kernel_rfl) (by simp) ?_
     refine AllReadyT.cons rfl (by kernel_rfl) (fun K hK => ?_) AllReadyT.nil
     refine step_append_any _ rfl (.tmp 49) (.tmp 53) tSagasR rfl w2.heap.size tSagaR i0 (.agg #[.int .i64 0, .string ⟨#[]⟩, .string ⟨#[]⟩, .int .i64 0, .int .i64 0, .int .i64 0, .int .i64 0, .int .i64 0, .int .i64 0, .int .i64 0, .int .i64 0, .bool false]) 12 112 Tryz.underlying48 hi0 hz0 hz1 hz2 rfl (by decide) (.slice A3 c.l.length c3) c.l.length (c.l.flatMap encS) rfl (World.ownsRow.alloc HO4.out _) 1 (encS (beginI e.o.1 e.o.2.1 e.o.2.2.1 e.o.2.2.2.1 e.o.2.2.2.2)) (src_blk (xs := encS (beginI e.o.1 e.o.2.1 e.o.2.2.1 e.o.2.2.2.1 e.o.2.2.2.2)) (heap_new _ _) (encS_one _)) (by unfold maxLen; omega) (by omega) (by simp; omega) ?_
     intro v5 w5 ho5 hg5 hat5
     obtain ⟨A5, c5, rfl, _⟩ := own_slice ho5
     have HO5 := Hd ho5; have HB5 := Hd (Below.grown (HB4.out.alloc HB4.out.size (.cells (sgA (beginI e.o.1 e.o.2.1 e.o.2.2.1 e.o.2.2.2.1 e.o.2.2.2.2)) tSagaR)) hg5 (by simp; omega) (fun j hj => (HO4.out.lt j hj).1))
     clear ho5 hg5 hat5
     refine hK.out _ _ (HHA.out _ (HB5.out)) (fun hHeld => ?_)
     clear hK K
     (try simp only [gx1, gx2, gx3]); try go_frame
     refine wpAnyT_go (i := 11) (v := ?vt11_8) rfl (by kernel_rfl) (by kernel_rfl) (by kernel_rfl) (fun _ _ _ h => h) (by kernel_rfl) (Or.inl ⟨by rfl, ?hyt11_8⟩) (by assumption) ?restt11_8
     case hyt11_8 => (intro w0 hSw; (try dsimp only at hSw); go_simp; try with_reducible rfl)
     case' restt11_8 => (try simp only [gx1, gx2, gx3]); try go_frame
     refine wpAnyT_go (i := 12) (v := ?vt12_9) rfl (by kernel_rfl) (by kernel_rfl) (by kernel_rfl) (fun _ _ _ h => h) (by kernel_rfl) (Or.inl ⟨by rfl, ?hyt12_9⟩) (by assumption) ?restt12_9
     case hyt12_9 => (intro w0 hSw; (try dsimp only at hSw); go_simp; try with_reducible rfl)
     case' restt12_9 => (try simp only [gx1, gx2, gx3]); try go_frame
     have HR5 := Hd (HR2.out.below HB5.out)
     have z0 := HR5.out.c01.1
     have f0 := HR5.out.froz 0
     have hrb2 := heap_lt HR2.out.hc
     refine wpAnyT_ready (rs := [13]) (by kernel_rfl) (by simp) ?_
     refine AllReadyT.last rfl (by kernel_rfl) (fun K hK => ?_) AllReadyT.nil
     go_simp
     refine hK.out _ _ trivial (fun hHeld => ?_)
     clear hK K
     (try simp only [gx1, gx2, gx3]); try go_frame
     refine wpAnyT_done (by kernel_rfl) ?_ _
     refine NoPanic.normal ?_
     obtain ⟨w6, hw6⟩ : ∃ w6, w6 = w5.setCell ⟨rb, 0, none⟩ (.slice A5 (c.l.length + 1) c5) := ⟨_, rfl⟩
     rw [← hw6]
     have ht6 : Turned (fun j => j = rb) w5 w6 := by rw [hw6]; exact turned_set _ _ _ _
     have HO6 := Hd (show w6.ownsRow w2.heap.size tSagaR 12 (.slice A5 (c.l ++ [beginI e.o.1 e.o.2.1 e.o.2.2.1 e.o.2.2.2.1 e.o.2.2.2.2]).length c5) (c.l ++ [beginI e.o.1 e.o.2.1 e.o.2.2.1 e.o.2.2.2.1 e.o.2.2.2.2]).length ((c.l ++ [beginI e.o.1 e.o.2.1 e.o.2.2.1 e.o.2.2.2.1 e.o.2.2.2.2]).flatMap encS) by have := own_turned HO5.out ht6 (fun j hj e => by have := (HO5.out.lt j hj).1; omega); rw [List.length_append, List.flatMap_append]; simpa using this)
     have HR6 := Hd (show Rr w6 rb (.slice A5 (c.l ++ [beginI e.o.1 e.o.2.1 e.o.2.2.1 e.o.2.2.2.1 e.o.2.2.2.2]).length c5) vB vI { c with l := (c.l ++ [beginI e.o.1 e.o.2.1 e.o.2.2.1 e.o.2.2.2.1 e.o.2.2.2.2]) } from ⟨by have := cw_set0 (q := .slice A5 (c.l.length + 1) c5) HR5.out.hc; rw [← hw6] at this; rw [List.length_append]; exact this, sgs_own HO6.out, HR5.out.b.turned ht6 (fun j hj => by rw [hj]; exact HR5.out.nr.2.1), HR5.out.i.turned ht6 (fun j hj => by rw [hj]; exact HR5.out.nr.2.2), HR5.out.f, ⟨own_offL HO6.out hrb2, HR5.out.nr.2⟩⟩)
     have HST := Hd (show RStp (fun j => OffL j (.slice Au e.s.2.2.length cu) e.s.2.2.length) w w6 rb (.slice A c.l.length cl) vB vI c (.slice A5 (c.l ++ [beginI e.o.1 e.o.2.1 e.o.2.2.1 e.o.2.2.2.1 e.o.2.2.2.2]).length c5) vB vI { c with l := (c.l ++ [beginI e.o.1 e.o.2.1 e.o.2.2.1 e.o.2.2.2.1 e.o.2.2.2.2]) } from ⟨HR6.out, (Turned.of_below (bch HB2.out HB5.out HB2.out.size)).trans ht6, fun j hj _ ha => ⟨ha.1, own_offL HO6.out (by have := HB2.out.size; omega), ha.2.2⟩⟩)
     clear hw6 HO6 HR6 z0 f0
     clear hHeld HHA
     go_wp2_with fail
     go_ret
     rw [HCC.out]
     first
      | exact ⟨_, _, _, by rw [HE.out]; rfl, HST.out⟩
      | exact ⟨_, _, by rw [HE.out]; rfl, _, HST.out⟩
      | exact ⟨_, by rw [HE.out]; rfl, _, _, HST.out⟩
      | exact ⟨by rw [HE.out]; rfl, _, _, _, HST.out⟩
    ·have hi1 := bneT hi
     have HPE := Hd (show placeE c e.o = 2 by unfold placeE; rw [HN.out, if_neg (by decide), if_neg (by rw [hh]; decide), if_neg h60, if_pos hi])
     have HE := Hd (HE0.out.trans HPE.out)
     have HCC := Hd (HC0.out.trans (place_no (by rw [HPE.out]; first | decide | assumption)))
     go_quiet (fail)
     go_wp2_with fail
     go_ret
     rw [HCC.out]
     first
      | exact ⟨_, _, _, by rw [HE.out]; rfl, RStp.after HB1.out ((RStp.refl HR1.out).below (below_drewN (Below.refl _ _) _))⟩
      | exact ⟨_, _, by rw [HE.out]; rfl, _, RStp.after HB1.out ((RStp.refl HR1.out).below (below_drewN (Below.refl _ _) _))⟩
      | exact ⟨_, by rw [HE.out]; rfl, _, _, RStp.after HB1.out ((RStp.refl HR1.out).below (below_drewN (Below.refl _ _) _))⟩
      | exact ⟨by rw [HE.out]; rfl, _, _, _, RStp.after HB1.out ((RStp.refl HR1.out).below (below_drewN (Below.refl _ _) _))⟩
 ·have hne := bneT hn0
  have HPE := Hd (show placeE c e.o = n by unfold placeE; rw [HN.out, if_pos hn0])
  have HE := Hd (HE0.out.trans HPE.out)
  have HCC := Hd (HC0.out.trans (place_no (by rw [HPE.out]; first | decide | assumption)))
  go_wp2_with fail
  go_ret
  rw [HCC.out]
  first
   | exact ⟨_, _, _, by rw [HE.out]; rfl, RStp.after HB1.out (RStp.refl HR1.out)⟩
   | exact ⟨_, _, by rw [HE.out]; rfl, _, RStp.after HB1.out (RStp.refl HR1.out)⟩
   | exact ⟨_, by rw [HE.out]; rfl, _, _, RStp.after HB1.out (RStp.refl HR1.out)⟩
   | exact ⟨by rw [HE.out]; rfl, _, _, _, RStp.after HB1.out (RStp.refl HR1.out)⟩
theorem rapply2_any {w : World} {rb : Nat} {vL vB vI : Value} {c : Cor} (h : Rr w rb vL vB vI c) (e : Ent) (Au : Option Addr) (cu : Nat) (hu : Rd w (.slice Au e.s.2.2.length cu) e.s.2.2) (hl : c.l.length ≤ 60) (hbl : c.b.length ≤ 80000) (ham : ∀ s ∈ c.l, 0 ≤ s.amt ∧ s.amt ≤ 1099511627776) (hid : ∀ (k : Nat) s, c.l[k]? = some s → s.id = (k : Int) + 1) (hk : e.kind = 2) :
  Calls Tryz.prog 10 #[.pointer (some ⟨rb, 0, none⟩), .agg #[.int .i64 e.kind, .int .i64 e.o.1, .string ⟨e.o.2.1.toArray⟩, .string ⟨e.o.2.2.1.toArray⟩, .int .i64 e.o.2.2.2.1, .int .i64 e.o.2.2.2.2, .int .i64 e.k.1, .int .i64 e.k.2, .int .i64 e.code, .int .i64 e.s.1, .int .i64 e.s.2.1, .slice Au e.s.2.2.length cu]] w fun e2 w' => ∃ vL' vB' vI', e2 = .returned (.int .i64 (applyE c e)) ∧ RStp (fun j => OffL j (.slice Au e.s.2.2.length cu) e.s.2.2.length) w w' rb vL vB vI c vL' vB' vI' (applyC c e) := by
 have HKK := Hd hk
 clear hk
 obtain ⟨A, cl, rfl, hlc, hcm⟩ := h.l.shape
 have hrb := heap_lt h.hc
 have HAP := Hd (apply_at (c := c) (e := e))
 obtain ⟨wa, hA⟩ : ∃ wa, wa = w.alloc (.cells #[.int .i64 e.kind, .int .i64 e.o.1, .string ⟨e.o.2.1.toArray⟩, .string ⟨e.o.2.2.1.toArray⟩, .int .i64 e.o.2.2.2.1, .int .i64 e.o.2.2.2.2, .int .i64 e.k.1, .int .i64 e.k.2, .int .i64 e.code, .int .i64 e.s.1, .int .i64 e.s.2.1, .slice Au e.s.2.2.length cu] tEnt) := ⟨_, rfl⟩
 have hB : Below w.heap.size w wa := by rw [hA]; exact below_alloc _ _
 have HX := Hd (show wa.heap[w.heap.size]? = some (.cells #[.int .i64 e.kind, .int .i64 e.o.1, .string ⟨e.o.2.1.toArray⟩, .string ⟨e.o.2.2.1.toArray⟩, .int .i64 e.o.2.2.2.1, .int .i64 e.o.2.2.2.2, .int .i64 e.k.1, .int .i64 e.k.2, .int .i64 e.code, .int .i64 e.s.1, .int .i64 e.s.2.1, .slice Au e.s.2.2.length cu] tEnt (0, 0)) by rw [hA]; exact heap_new _ _)
 have HR := Hd (h.below hB); have HA := Hd hA; have HB := Hd hB; have HU := Hd (hu.keep hB); have HID := Hd hid; have HAM := Hd ham
 have hws : w.heap.size < wa.heap.size := heap_lt HX.out
 clear hA hB h hu hid ham
 obtain ⟨m0, m1, m2, m3, m4, m5, m6, m7, m8, m9, m10, m11⟩ := cell12 HX.out
 have y0 := HR.out.c01.1
 go_enter Tryz.func10, Tryz.ntmps10
 go_upto_region 1 with (fail)
 rw [← HA.out]
 have hk := HKK.out
 have q1 := beqF (show ¬ e.kind = 1 by omega)
 have q2 := beqT hk
 obtain ⟨he0, hc0⟩ := HAP.out.2.1 hk
 have HE0 := Hd he0; have HC0 := Hd hc0
 clear he0 hc0 hk HAP
 obtain ⟨o, ho⟩ : ∃ o, e.k.1 = o := ⟨_, rfl⟩
 rw [ho] at m6 HE0 HC0
 have HC4 := Hd (fun (hn : o < 1 ∨ (c.l.length : Int) < o) => (⟨by unfold cstopE; rw [if_pos hn], by unfold cstopC; rw [if_neg (by unfold cstopE; rw [if_pos hn]; decide)]⟩ : cstopE c o = 4 ∧ cstopC c o = c))
 go_wp2_with fail
 by_cases h1 : o < 1
 ·have q7 := decide_eq_true h1
  obtain ⟨he, hc⟩ := HC4.out (by omega)
  have HE := Hd (HE0.out.trans he); have HCC := Hd (HC0.out.trans hc)
  clear he hc HC4
  go_quiet (fail)
  go_wp2_with fail
  go_ret
  rw [HCC.out]
  first
   | exact ⟨_, _, _, by rw [HE.out]; rfl, RStp.after HB.out ((RStp.refl HR.out).below (below_drewN (Below.refl _ _) _))⟩
   | exact ⟨_, _, by rw [HE.out]; rfl, _, RStp.after HB.out ((RStp.refl HR.out).below (below_drewN (Below.refl _ _) _))⟩
   | exact ⟨_, by rw [HE.out]; rfl, _, _, RStp.after HB.out ((RStp.refl HR.out).below (below_drewN (Below.refl _ _) _))⟩
   | exact ⟨by rw [HE.out]; rfl, _, _, _, RStp.after HB.out ((RStp.refl HR.out).below (below_drewN (Below.refl _ _) _))⟩
 ·have q7 := decide_eq_false h1
  by_cases h2 : (c.l.length : Int) < o
  ·have q8 := decide_eq_true h2
   obtain ⟨he, hc⟩ := HC4.out (by omega)
   have HE := Hd (HE0.out.trans he); have HCC := Hd (HC0.out.trans hc)
   clear he hc HC4
   go_quiet (fail)
   go_wp2_with fail
   go_ret
   rw [HCC.out]
   first
    | exact ⟨_, _, _, by rw [HE.out]; rfl, RStp.after HB.out ((RStp.refl HR.out).below (below_drewN (Below.refl _ _) _))⟩
    | exact ⟨_, _, by rw [HE.out]; rfl, _, RStp.after HB.out ((RStp.refl HR.out).below (below_drewN (Below.refl _ _) _))⟩
    | exact ⟨_, by rw [HE.out]; rfl, _, _, RStp.after HB.out ((RStp.refl HR.out).below (below_drewN (Below.refl _ _) _))⟩
    | exact ⟨by rw [HE.out]; rfl, _, _, _, RStp.after HB.out ((RStp.refl HR.out).below (below_drewN (Below.refl _ _) _))⟩
  ·have q8 := decide_eq_false h2
   obtain ⟨kk, hokk⟩ : ∃ kk : Nat, o = (kk : Int) + 1 := ⟨(o - 1).toNat, by omega⟩
   subst hokk
   have hkk : ((kk : Int) + 1).toNat - 1 = kk := by omega
   have hkl : kk < c.l.length := by omega
   obtain ⟨s, hs⟩ : ∃ s, c.l[kk]? = some s := ⟨_, List.getElem?_eq_getElem hkl⟩
   have HSID := Hd (HID.out kk s hs)
   have HS := Hd hs
   have HRE := Hd (show cstopE c ((kk : Int) + 1) = if goingB s = true then 0 else 92 by unfold cstopE; rw [if_neg (by omega), hkk, hs])
   go_quiet (fail)
   go_wp2_with fail
   obtain ⟨w1, hw1⟩ : ∃ w1, w1 = wa.drewN nq := ⟨_, rfl⟩
   rw [← hw1]
   have hbd : Below wa.heap.size wa w1 := by rw [hw1]; exact below_drewN (Below.refl _ _) _
   have HR1 := Hd (HR.out.below hbd)
   have HB1 := Hd (bch HB.out hbd HB.out.size); have HX1 := Hd (heap_keep HX.out hbd)
   have hs1 : wa.heap.size ≤ w1.heap.size := hbd.size
   clear hw1 hbd HR HB HA HC4 y0 HX m0 m1 m2 m3 m4 m5 m6 m7 m8 m9 m10 m11
   have m6 := cell_at HX1.out 6 rfl
   rw [ho] at m6
   have y0 := HR1.out.c01.1
   obtain ⟨g, off, n', c', e1, d0, d1, d2, d3, d4, d5, d6, d7, d8, d9, d10, d11⟩ := HR1.out.l.cells (Below.refl _ _) hs
   injection e1 with e1 e2 e3; subst e1; clear e2 e3 hs
   have hkI : (kk : Int) < c.l.length := by omega
   have hkI0 : (0 : Int) ≤ kk := by omega
   have hw1 : IntKind.i64.wrap ((kk : Int) + 1 - 1) = kk := by rw [show (kk : Int) + 1 - 1 = kk by omega]; exact IntWalk.i64_in _ (by omega)
   have hw2 : IntKind.i64.wrap (kk : Int) = kk := IntWalk.i64_in _ (by omega)
   have hrb1 := heap_lt HR1.out.hc
   cases hg : goingB s with
   | false =>
    have HST := Hd (fun W => rstop_no s W hg)
    have HE := Hd (HE0.out.trans (show cstopE c ((kk : Int) + 1) = 92 by rw [HRE.out, hg]; rfl))
    have HCC := Hd (HC0.out.trans (show cstopC c ((kk : Int) + 1) = c by unfold cstopC; rw [if_neg (by rw [HRE.out, hg]; decide)]))
    obtain ⟨t, ht⟩ : ∃ t, sg0 = t := ⟨_, rfl⟩
    rw [ht] at HST
    clear ht hg
    go_cut [6, 7] from 74 to 87 (fun p ee wx => ∃ b5, p = .pointer (some ⟨b5, 0, none⟩) ∧ ee = .int .i64 92 ∧ w1.heap.size ≤ b5 ∧ wx.heap[b5]? = some (.cells (sgA t) tSagaR (0, 0)) ∧ Below w1.heap.size w1 wx)
    case first =>
     have HH := Hd (fun W (hb : Below w1.heap.size w1 W) => (⟨Hd hb, kc hb y0, kc hb m6, kc hb d0, kc hb d1, kc hb d2, kc hb d3, kc hb d4, kc hb d5, kc hb d6, kc hb d7, kc hb d8, kc hb d9, kc hb d10, kc hb d11⟩ : (fun w' => Hid (Below w1.heap.size w1 w') ∧ w'.cell? ⟨rb, 0, none⟩ = some (.slice (some ⟨g, off, none⟩) c.l.length cl) ∧ w'.cell? ⟨w.heap.size, 6, none⟩ = some (.int .i64 ((kk : Int) + 1)) ∧ w'.cell? ⟨g, off + kk * 12, none⟩ = some (.int .i64 s.id) ∧ w'.cell? ⟨g, off + kk * 12 + 1, none⟩ = some (.string ⟨s.ref.toArray⟩) ∧ w'.cell? ⟨g, off + kk * 12 + 2, none⟩ = some (.string ⟨s.sku.toArray⟩) ∧ w'.cell? ⟨g, off + kk * 12 + 3, none⟩ = some (.int .i64 s.qty) ∧ w'.cell? ⟨g, off + kk * 12 + 4, none⟩ = some (.int .i64 s.amt) ∧ w'.cell? ⟨g, off + kk * 12 + 5, none⟩ = some (.int .i64 s.d0) ∧ w'.cell? ⟨g, off + kk * 12 + 6, none⟩ = some (.int .i64 s.d1) ∧ w'.cell? ⟨g, off + kk * 12 + 7, none⟩ = some (.int .i64 s.d2) ∧ w'.cell? ⟨g, off + kk * 12 + 8, none⟩ = some (.int .i64 s.d3) ∧ w'.cell? ⟨g, off + kk * 12 + 9, none⟩ = some (.int .i64 s.d4) ∧ w'.cell? ⟨g, off + kk * 12 + 10, none⟩ = some (.int .i64 s.d5) ∧ w'.cell? ⟨g, off + kk * 12 + 11, none⟩ = some (.bool s.can)) W))
     refine wp_region_noPanic ?_
     refine wp_region_held_drew (S := (fun w' => Hid (Below w1.heap.size w1 w') ∧ w'.cell? ⟨rb, 0, none⟩ = some (.slice (some ⟨g, off, none⟩) c.l.length cl) ∧ w'.cell? ⟨w.heap.size, 6, none⟩ = some (.int .i64 ((kk : Int) + 1)) ∧ w'.cell? ⟨g, off + kk * 12, none⟩ = some (.int .i64 s.id) ∧ w'.cell? ⟨g, off + kk * 12 + 1, none⟩ = some (.string ⟨s.ref.toArray⟩) ∧ w'.cell? ⟨g, off + kk * 12 + 2, none⟩ = some (.string ⟨s.sku.toArray⟩) ∧ w'.cell? ⟨g, off + kk * 12 + 3, none⟩ = some (.int .i64 s.qty) ∧ w'.cell? ⟨g, off + kk * 12 + 4, none⟩ = some (.int .i64 s.amt) ∧ w'.cell? ⟨g, off + kk * 12 + 5, none⟩ = some (.int .i64 s.d0) ∧ w'.cell? ⟨g, off + kk * 12 + 6, none⟩ = some (.int .i64 s.d1) ∧ w'.cell? ⟨g, off + kk * 12 + 7, none⟩ = some (.int .i64 s.d2) ∧ w'.cell? ⟨g, off + kk * 12 + 8, none⟩ = some (.int .i64 s.d3) ∧ w'.cell? ⟨g, off + kk * 12 + 9, none⟩ = some (.int .i64 s.d4) ∧ w'.cell? ⟨g, off + kk * 12 + 10, none⟩ = some (.int .i64 s.d5) ∧ w'.cell? ⟨g, off + kk * 12 + 11, none⟩ = some (.bool s.can))) (by kernel_rfl) (HH.out _ (below_drew1 (Below.refl w1.heap.size w1))) (fun hHeld => ?_)
     refine tk 0 rfl rfl ‹_› ?_; try go_frame
     refine tk 1 rfl rfl ‹_› ?_; try go_frame
     refine tk 2 rfl rfl ‹_› ?_; try go_frame
     refine tk 3 rfl rfl ‹_› ?_; try go_frame
     refine tk 4 rfl rfl ‹_› ?_; try go_frame
     refine tk 5 rfl rfl ‹_› ?_; try go_frame
     refine tk 6 rfl rfl ‹_› ?_; try go_frame
     refine tk 7 rfl rfl ‹_› ?_; try go_frame
     refine tk 8 rfl rfl ‹_› ?_; try go_frame
     refine tk 9 rfl rfl ‹_› ?_; try go_frame
     refine wpAnyH_ready (rs := [10, 14]) (by kernel_rfl) (by simp) ?_
     refine AllReadyH.cons rfl (fun K hK => ?_) (AllReadyH.cons rfl (fun K hK => ?_) AllReadyH.nil)
     ·go_simp
      refine (HST.out _).mono ?_
      rintro r w2 ⟨rfl, hb⟩
      have HW1 := Hd (bch (below_drew1 (Below.refl w1.heap.size w1)) hb (Below.size (below_drew1 (Below.refl w1.heap.size w1))))
      refine hK.out _ _ (HH.out _ (HW1.out)) (fun hHeld => ?_)
      clear hK K
      (try simp only [gx1, gx2, gx3]); try go_frame
      refine tk 11 rfl rfl ‹_› ?_; try go_frame
      refine tk 12 rfl rfl ‹_› ?_; try go_frame
      refine tk 13 rfl rfl ‹_› ?_; try go_frame
      refine rdy 14 rfl (fun K hK => ?_)
      go_simp
      refine hK.out _ _ (HH.out _ (bch HW1.out (below_alloc w2 _) HW1.out.size)) (fun hHeld => ?_)
      clear hK K
      (try simp only [gx1, gx2, gx3]); try go_frame
      refine rdy 15 rfl (fun K hK => ?_)
      go_simp
      refine hK.out _ _ (HH.out _ (bch HW1.out (below_alloc w2 _) HW1.out.size)) (fun hHeld => ?_)
      clear hK K
      (try simp only [gx1, gx2, gx3]); try go_frame
      refine tk 16 rfl rfl ‹_› ?_; try go_frame
      refine wpAnyH_done (by kernel_rfl) ?_ _
      refine NoPanic.normal ?_
      go_wp2_with fail
      go_meet
      exact ⟨w2.heap.size, rfl, rfl, HW1.out.size, heap_new _ _, bch HW1.out (below_alloc w2 _) HW1.out.size⟩
     ·go_simp
      refine hK.out _ _ (HH.out _ (bch (below_drew1 (Below.refl w1.heap.size w1)) (below_alloc w1.drew _) (Nat.le_refl _))) (fun hHeld => ?_)
      clear hK K
      (try simp only [gx1, gx2, gx3]); try go_frame
      refine rdy 10 rfl (fun K hK => ?_)
      go_simp
      have HBd := Hd (bch (below_drew1 (Below.refl w1.heap.size w1)) (below_alloc w1.drew (.cells (sgA sg0) tSagaR)) (Nat.le_refl _))
      refine (HST.out _).mono ?_
      rintro r w2 ⟨rfl, hb⟩
      have HW1 := Hd (bch HBd.out hb HBd.out.size)
      refine hK.out _ _ (HH.out _ (HW1.out)) (fun hHeld => ?_)
      clear hK K
      (try simp only [gx1, gx2, gx3]); try go_frame
      refine tk 11 rfl rfl ‹_› ?_; try go_frame
      refine tk 12 rfl rfl ‹_› ?_; try go_frame
      refine tk 13 rfl rfl ‹_› ?_; try go_frame
      have HZ0 := Hd (show w2.heap[w1.heap.size]? = some (.cells (sgA sg0) tSagaR (0, 0)) from heap_keep (heap_new w1.drew (.cells (sgA sg0) tSagaR)) hb)
      obtain ⟨z0, z1, z2, z3, z4, z5, z6, z7, z8, z9, z10, z11⟩ := cell12 HZ0.out
      obtain ⟨f0, f1, f2, f3, f4, f5, f6, f7, f8, f9, f10, f11⟩ := froz12 HZ0.out
      have HTu := Hd (turned_set12 w2 w1.heap.size (.int .i64 t.id) (.string ⟨t.ref.toArray⟩) (.string ⟨t.sku.toArray⟩) (.int .i64 t.qty) (.int .i64 t.amt) (.int .i64 t.d0) (.int .i64 t.d1) (.int .i64 t.d2) (.int .i64 t.d3) (.int .i64 t.d4) (.int .i64 t.d5) (.bool t.can))
      have HSET := Hd (set12 HZ0.out (.int .i64 t.id) (.string ⟨t.ref.toArray⟩) (.string ⟨t.sku.toArray⟩) (.int .i64 t.qty) (.int .i64 t.amt) (.int .i64 t.d0) (.int .i64 t.d1) (.int .i64 t.d2) (.int .i64 t.d3) (.int .i64 t.d4) (.int .i64 t.d5) (.bool t.can))
      unfold set12w at HSET HTu
      have HWs := Hd (Below.turned HW1.out HTu.out (fun i hi => by omega) (Below.size HW1.out))
      refine rdy 15 rfl (fun K hK => ?_)
      go_simp
      refine hK.out _ _ (HH.out _ (HWs.out)) (fun hHeld => ?_)
      clear hK K
      (try simp only [gx1, gx2, gx3]); try go_frame
      refine tk 16 rfl rfl ‹_› ?_; try go_frame
      refine wpAnyH_done (by kernel_rfl) ?_ _
      refine NoPanic.normal ?_
      go_wp2_with fail
      go_meet
      exact ⟨w1.heap.size, rfl, rfl, Nat.le_refl _, HSET.out, HWs.out⟩
    case rest =>
     obtain ⟨b5, rfl, rfl, hb5, hbx, hbl⟩ := hcut
     have HBX := Hd hbx; have HRc := Hd (HR1.out.below hbl); have HBc := Hd (bch HB1.out hbl HB1.out.size)
     clear hbx hbl y0 m6 d0 d1 d2 d3 d4 d5 d6 d7 d8 d9 d10 d11 HR1 HB1 HX1 HST
     go_wp2_with fail
     go_ret
     rw [HCC.out]
     first
      | exact ⟨_, _, _, by rw [HE.out]; rfl, RStp.after HBc.out (RStp.refl HRc.out)⟩
      | exact ⟨_, _, by rw [HE.out]; rfl, _, RStp.after HBc.out (RStp.refl HRc.out)⟩
      | exact ⟨_, by rw [HE.out]; rfl, _, _, RStp.after HBc.out (RStp.refl HRc.out)⟩
      | exact ⟨by rw [HE.out]; rfl, _, _, _, RStp.after HBc.out (RStp.refl HRc.out)⟩
   | true =>
    have HST := Hd (fun W => rstop_yes s W hg)
    have HE := Hd (HE0.out.trans (show cstopE c ((kk : Int) + 1) = 0 by rw [HRE.out, hg]; rfl))
    have HCC := Hd (HC0.out.trans (show cstopC c ((kk : Int) + 1) = { c with l := c.l.set kk (Sa.stopI s) } by unfold cstopC; rw [if_pos (by rw [HRE.out, hg]; rfl), hkk, HS.out]))
    obtain ⟨t, ht⟩ : ∃ t, Sa.stopI s = t := ⟨_, rfl⟩
    have HTID := Hd (show t.id = (kk : Int) + 1 by rw [← ht]; exact (stop_id s).trans HSID.out)
    rw [ht] at HST HCC
    clear ht hg
    go_cut [6, 7] from 74 to 87 (fun p ee wx => ∃ b5, p = .pointer (some ⟨b5, 0, none⟩) ∧ ee = .int .i64 0 ∧ w1.heap.size ≤ b5 ∧ wx.heap[b5]? = some (.cells (sgA t) tSagaR (0, 0)) ∧ Below w1.heap.size w1 wx)
    case first =>
     have HH := Hd (fun W (hb : Below w1.heap.size w1 W) => (⟨Hd hb, kc hb y0, kc hb m6, kc hb d0, kc hb d1, kc hb d2, kc hb d3, kc hb d4, kc hb d5, kc hb d6, kc hb d7, kc hb d8, kc hb d9, kc hb d10, kc hb d11⟩ : (fun w' => Hid (Below w1.heap.size w1 w') ∧ w'.cell? ⟨rb, 0, none⟩ = some (.slice (some ⟨g, off, none⟩) c.l.length cl) ∧ w'.cell? ⟨w.heap.size, 6, none⟩ = some (.int .i64 ((kk : Int) + 1)) ∧ w'.cell? ⟨g, off + kk * 12, none⟩ = some (.int .i64 s.id) ∧ w'.cell? ⟨g, off + kk * 12 + 1, none⟩ = some (.string ⟨s.ref.toArray⟩) ∧ w'.cell? ⟨g, off + kk * 12 + 2, none⟩ = some (.string ⟨s.sku.toArray⟩) ∧ w'.cell? ⟨g, off + kk * 12 + 3, none⟩ = some (.int .i64 s.qty) ∧ w'.cell? ⟨g, off + kk * 12 + 4, none⟩ = some (.int .i64 s.amt) ∧ w'.cell? ⟨g, off + kk * 12 + 5, none⟩ = some (.int .i64 s.d0) ∧ w'.cell? ⟨g, off + kk * 12 + 6, none⟩ = some (.int .i64 s.d1) ∧ w'.cell? ⟨g, off + kk * 12 + 7, none⟩ = some (.int .i64 s.d2) ∧ w'.cell? ⟨g, off + kk * 12 + 8, none⟩ = some (.int .i64 s.d3) ∧ w'.cell? ⟨g, off + kk * 12 + 9, none⟩ = some (.int .i64 s.d4) ∧ w'.cell? ⟨g, off + kk * 12 + 10, none⟩ = some (.int .i64 s.d5) ∧ w'.cell? ⟨g, off + kk * 12 + 11, none⟩ = some (.bool s.can)) W))
     refine wp_region_noPanic ?_
     refine wp_region_held_drew (S := (fun w' => Hid (Below w1.heap.size w1 w') ∧ w'.cell? ⟨rb, 0, none⟩ = some (.slice (some ⟨g, off, none⟩) c.l.length cl) ∧ w'.cell? ⟨w.heap.size, 6, none⟩ = some (.int .i64 ((kk : Int) + 1)) ∧ w'.cell? ⟨g, off + kk * 12, none⟩ = some (.int .i64 s.id) ∧ w'.cell? ⟨g, off + kk * 12 + 1, none⟩ = some (.string ⟨s.ref.toArray⟩) ∧ w'.cell? ⟨g, off + kk * 12 + 2, none⟩ = some (.string ⟨s.sku.toArray⟩) ∧ w'.cell? ⟨g, off + kk * 12 + 3, none⟩ = some (.int .i64 s.qty) ∧ w'.cell? ⟨g, off + kk * 12 + 4, none⟩ = some (.int .i64 s.amt) ∧ w'.cell? ⟨g, off + kk * 12 + 5, none⟩ = some (.int .i64 s.d0) ∧ w'.cell? ⟨g, off + kk * 12 + 6, none⟩ = some (.int .i64 s.d1) ∧ w'.cell? ⟨g, off + kk * 12 + 7, none⟩ = some (.int .i64 s.d2) ∧ w'.cell? ⟨g, off + kk * 12 + 8, none⟩ = some (.int .i64 s.d3) ∧ w'.cell? ⟨g, off + kk * 12 + 9, none⟩ = some (.int .i64 s.d4) ∧ w'.cell? ⟨g, off + kk * 12 + 10, none⟩ = some (.int .i64 s.d5) ∧ w'.cell? ⟨g, off + kk * 12 + 11, none⟩ = some (.bool s.can))) (by kernel_rfl) (HH.out _ (below_drew1 (Below.refl w1.heap.size w1))) (fun hHeld => ?_)
     refine tk 0 rfl rfl ‹_› ?_; try go_frame
     refine tk 1 rfl rfl ‹_› ?_; try go_frame
     refine tk 2 rfl rfl ‹_› ?_; try go_frame
     refine tk 3 rfl rfl ‹_› ?_; try go_frame
     refine tk 4 rfl rfl ‹_› ?_; try go_frame
     refine tk 5 rfl rfl ‹_› ?_; try go_frame
     refine tk 6 rfl rfl ‹_› ?_; try go_frame
     refine tk 7 rfl rfl ‹_› ?_; try go_frame
     refine tk 8 rfl rfl ‹_› ?_; try go_frame
     refine tk 9 rfl rfl ‹_› ?_; try go_frame
     refine wpAnyH_ready (rs := [10, 14]) (by kernel_rfl) (by simp) ?_
     refine AllReadyH.cons rfl (fun K hK => ?_) (AllReadyH.cons rfl (fun K hK => ?_) AllReadyH.nil)
     ·go_simp
      refine (HST.out _).mono ?_
      rintro r w2 ⟨rfl, hb⟩
      have HW1 := Hd (bch (below_drew1 (Below.refl w1.heap.size w1)) hb (Below.size (below_drew1 (Below.refl w1.heap.size w1))))
      refine hK.out _ _ (HH.out _ (HW1.out)) (fun hHeld => ?_)
      clear hK K
      (try simp only [gx1, gx2, gx3]); try go_frame
      refine tk 11 rfl rfl ‹_› ?_; try go_frame
      refine tk 12 rfl rfl ‹_› ?_; try go_frame
      refine tk 13 rfl rfl ‹_› ?_; try go_frame
      refine rdy 14 rfl (fun K hK => ?_)
      go_simp
      refine hK.out _ _ (HH.out _ (bch HW1.out (below_alloc w2 _) HW1.out.size)) (fun hHeld => ?_)
      clear hK K
      (try simp only [gx1, gx2, gx3]); try go_frame
      refine rdy 15 rfl (fun K hK => ?_)
      go_simp
      refine hK.out _ _ (HH.out _ (bch HW1.out (below_alloc w2 _) HW1.out.size)) (fun hHeld => ?_)
      clear hK K
      (try simp only [gx1, gx2, gx3]); try go_frame
      refine tk 16 rfl rfl ‹_› ?_; try go_frame
      refine wpAnyH_done (by kernel_rfl) ?_ _
      refine NoPanic.normal ?_
      go_wp2_with fail
      go_meet
      exact ⟨w2.heap.size, rfl, rfl, HW1.out.size, heap_new _ _, bch HW1.out (below_alloc w2 _) HW1.out.size⟩
     ·go_simp
      refine hK.out _ _ (HH.out _ (bch (below_drew1 (Below.refl w1.heap.size w1)) (below_alloc w1.drew _) (Nat.le_refl _))) (fun hHeld => ?_)
      clear hK K
      (try simp only [gx1, gx2, gx3]); try go_frame
      refine rdy 10 rfl (fun K hK => ?_)
      go_simp
      have HBd := Hd (bch (below_drew1 (Below.refl w1.heap.size w1)) (below_alloc w1.drew (.cells (sgA sg0) tSagaR)) (Nat.le_refl _))
      refine (HST.out _).mono ?_
      rintro r w2 ⟨rfl, hb⟩
      have HW1 := Hd (bch HBd.out hb HBd.out.size)
      refine hK.out _ _ (HH.out _ (HW1.out)) (fun hHeld => ?_)
      clear hK K
      (try simp only [gx1, gx2, gx3]); try go_frame
      refine tk 11 rfl rfl ‹_› ?_; try go_frame
      refine tk 12 rfl rfl ‹_› ?_; try go_frame
      refine tk 13 rfl rfl ‹_› ?_; try go_frame
      have HZ0 := Hd (show w2.heap[w1.heap.size]? = some (.cells (sgA sg0) tSagaR (0, 0)) from heap_keep (heap_new w1.drew (.cells (sgA sg0) tSagaR)) hb)
      obtain ⟨z0, z1, z2, z3, z4, z5, z6, z7, z8, z9, z10, z11⟩ := cell12 HZ0.out
      obtain ⟨f0, f1, f2, f3, f4, f5, f6, f7, f8, f9, f10, f11⟩ := froz12 HZ0.out
      have HTu := Hd (turned_set12 w2 w1.heap.size (.int .i64 t.id) (.string ⟨t.ref.toArray⟩) (.string ⟨t.sku.toArray⟩) (.int .i64 t.qty) (.int .i64 t.amt) (.int .i64 t.d0) (.int .i64 t.d1) (.int .i64 t.d2) (.int .i64 t.d3) (.int .i64 t.d4) (.int .i64 t.d5) (.bool t.can))
      have HSET := Hd (set12 HZ0.out (.int .i64 t.id) (.string ⟨t.ref.toArray⟩) (.string ⟨t.sku.toArray⟩) (.int .i64 t.qty) (.int .i64 t.amt) (.int .i64 t.d0) (.int .i64 t.d1) (.int .i64 t.d2) (.int .i64 t.d3) (.int .i64 t.d4) (.int .i64 t.d5) (.bool t.can))
      unfold set12w at HSET HTu
      have HWs := Hd (Below.turned HW1.out HTu.out (fun i hi => by omega) (Below.size HW1.out))
      refine rdy 15 rfl (fun K hK => ?_)
      go_simp
      refine hK.out _ _ (HH.out _ (HWs.out)) (fun hHeld => ?_)
      clear hK K
      (try simp only [gx1, gx2, gx3]); try go_frame
      refine tk 16 rfl rfl ‹_› ?_; try go_frame
      refine wpAnyH_done (by kernel_rfl) ?_ _
      refine NoPanic.normal ?_
      go_wp2_with fail
      go_meet
      exact ⟨w1.heap.size, rfl, rfl, Nat.le_refl _, HSET.out, HWs.out⟩
    case rest =>
     obtain ⟨b5, rfl, rfl, hb5, hbx, hbl⟩ := hcut
     have HBX := Hd hbx; have HRc := Hd (HR1.out.below hbl); have HBc := Hd (bch HB1.out hbl HB1.out.size)
     clear hbx hbl y0 m6 d0 d1 d2 d3 d4 d5 d6 d7 d8 d9 d10 d11 HR1 HB1 HX1 HST
     obtain ⟨c0, c1, c2, c3, c4, c5, c6, c7, c8, c9, c10, c11⟩ := sg_box HBX.out
     go_wp2_with fail
     refine (rset_any HRc.out t kk HTID.out hkl (by omega) (fun j => OffL j (.slice Au e.s.2.2.length cu) e.s.2.2.length)).mono ?_
     rintro r w5 ⟨vL', ⟨v5, rfl⟩, hstp⟩
     have HSS := Hd (RStp.after HBc.out hstp)
     clear hstp c0 c1 c2 c3 c4 c5 c6 c7 c8 c9 c10 c11
     go_wp2_with fail
     go_ret
     rw [HCC.out]
     first
      | exact ⟨_, _, _, by rw [HE.out]; rfl, HSS.out⟩
      | exact ⟨_, _, by rw [HE.out]; rfl, _, HSS.out⟩
      | exact ⟨_, by rw [HE.out]; rfl, _, _, HSS.out⟩
      | exact ⟨by rw [HE.out]; rfl, _, _, _, HSS.out⟩
theorem rapply3_any {w : World} {rb : Nat} {vL vB vI : Value} {c : Cor} (h : Rr w rb vL vB vI c) (e : Ent) (Au : Option Addr) (cu : Nat) (hu : Rd w (.slice Au e.s.2.2.length cu) e.s.2.2) (hl : c.l.length ≤ 60) (hbl : c.b.length ≤ 80000) (ham : ∀ s ∈ c.l, 0 ≤ s.amt ∧ s.amt ≤ 1099511627776) (hid : ∀ (k : Nat) s, c.l[k]? = some s → s.id = (k : Int) + 1) (hk : e.kind = 3) :
  Calls Tryz.prog 10 #[.pointer (some ⟨rb, 0, none⟩), .agg #[.int .i64 e.kind, .int .i64 e.o.1, .string ⟨e.o.2.1.toArray⟩, .string ⟨e.o.2.2.1.toArray⟩, .int .i64 e.o.2.2.2.1, .int .i64 e.o.2.2.2.2, .int .i64 e.k.1, .int .i64 e.k.2, .int .i64 e.code, .int .i64 e.s.1, .int .i64 e.s.2.1, .slice Au e.s.2.2.length cu]] w fun e2 w' => ∃ vL' vB' vI', e2 = .returned (.int .i64 (applyE c e)) ∧ RStp (fun j => OffL j (.slice Au e.s.2.2.length cu) e.s.2.2.length) w w' rb vL vB vI c vL' vB' vI' (applyC c e) := by
 have HKK := Hd hk
 clear hk
 obtain ⟨A, cl, rfl, hlc, hcm⟩ := h.l.shape
 have hrb := heap_lt h.hc
 have HAP := Hd (apply_at (c := c) (e := e))
 obtain ⟨wa, hA⟩ : ∃ wa, wa = w.alloc (.cells #[.int .i64 e.kind, .int .i64 e.o.1, .string ⟨e.o.2.1.toArray⟩, .string ⟨e.o.2.2.1.toArray⟩, .int .i64 e.o.2.2.2.1, .int .i64 e.o.2.2.2.2, .int .i64 e.k.1, .int .i64 e.k.2, .int .i64 e.code, .int .i64 e.s.1, .int .i64 e.s.2.1, .slice Au e.s.2.2.length cu] tEnt) := ⟨_, rfl⟩
 have hB : Below w.heap.size w wa := by rw [hA]; exact below_alloc _ _
 have HX := Hd (show wa.heap[w.heap.size]? = some (.cells #[.int .i64 e.kind, .int .i64 e.o.1, .string ⟨e.o.2.1.toArray⟩, .string ⟨e.o.2.2.1.toArray⟩, .int .i64 e.o.2.2.2.1, .int .i64 e.o.2.2.2.2, .int .i64 e.k.1, .int .i64 e.k.2, .int .i64 e.code, .int .i64 e.s.1, .int .i64 e.s.2.1, .slice Au e.s.2.2.length cu] tEnt (0, 0)) by rw [hA]; exact heap_new _ _)
 have HR := Hd (h.below hB); have HA := Hd hA; have HB := Hd hB; have HU := Hd (hu.keep hB); have HID := Hd hid; have HAM := Hd ham
 have hws : w.heap.size < wa.heap.size := heap_lt HX.out
 clear hA hB h hu hid ham
 obtain ⟨m0, m1, m2, m3, m4, m5, m6, m7, m8, m9, m10, m11⟩ := cell12 HX.out
 have y0 := HR.out.c01.1
 go_enter Tryz.func10, Tryz.ntmps10
 go_upto_region 1 with (fail)
 rw [← HA.out]
 have hk := HKK.out
 have q1 := beqF (show ¬ e.kind = 1 by omega)
 have q2 := beqF (show ¬ e.kind = 2 by omega)
 have q3 := beqT hk
 obtain ⟨he0, hc0⟩ := HAP.out.2.2.1 hk
 have HE := Hd he0; have HCC := Hd hc0
 clear he0 hc0 hk HAP
 go_wp2_with fail
 refine (rreply_any HR.out e.k.1 e.k.2 e.code (by omega) (by omega) HAM.out HID.out (fun j => OffL j (.slice Au e.s.2.2.length cu) e.s.2.2.length)).mono ?_
 rintro r w1 ⟨vL', vB', rfl, hstp⟩
 have HSS := Hd (RStp.after HB.out hstp)
 clear hstp
 go_wp2_with fail
 go_ret
 rw [HCC.out]
 first
  | exact ⟨_, _, _, by rw [HE.out]; rfl, HSS.out⟩
  | exact ⟨_, _, by rw [HE.out]; rfl, _, HSS.out⟩
  | exact ⟨_, by rw [HE.out]; rfl, _, _, HSS.out⟩
  | exact ⟨by rw [HE.out]; rfl, _, _, _, HSS.out⟩
theorem rapply4_any {w : World} {rb : Nat} {vL vB vI : Value} {c : Cor} (h : Rr w rb vL vB vI c) (e : Ent) (Au : Option Addr) (cu : Nat) (hu : Rd w (.slice Au e.s.2.2.length cu) e.s.2.2) (hl : c.l.length ≤ 60) (hbl : c.b.length ≤ 80000) (ham : ∀ s ∈ c.l, 0 ≤ s.amt ∧ s.amt ≤ 1099511627776) (hid : ∀ (k : Nat) s, c.l[k]? = some s → s.id = (k : Int) + 1) (hq : OffL rb (.slice Au e.s.2.2.length cu) e.s.2.2.length) (hk : e.kind = 4) :
  Calls Tryz.prog 10 #[.pointer (some ⟨rb, 0, none⟩), .agg #[.int .i64 e.kind, .int .i64 e.o.1, .string ⟨e.o.2.1.toArray⟩, .string ⟨e.o.2.2.1.toArray⟩, .int .i64 e.o.2.2.2.1, .int .i64 e.o.2.2.2.2, .int .i64 e.k.1, .int .i64 e.k.2, .int .i64 e.code, .int .i64 e.s.1, .int .i64 e.s.2.1, .slice Au e.s.2.2.length cu]] w fun e2 w' => ∃ vL' vB' vI', e2 = .returned (.int .i64 (applyE c e)) ∧ RStp (fun j => OffL j (.slice Au e.s.2.2.length cu) e.s.2.2.length) w w' rb vL vB vI c vL' vB' vI' (applyC c e) := by
 have HKK := Hd hk
 clear hk
 have HQU := Hd hq
 clear hq
 obtain ⟨A, cl, rfl, hlc, hcm⟩ := h.l.shape
 have hrb := heap_lt h.hc
 have HAP := Hd (apply_at (c := c) (e := e))
 obtain ⟨wa, hA⟩ : ∃ wa, wa = w.alloc (.cells #[.int .i64 e.kind, .int .i64 e.o.1, .string ⟨e.o.2.1.toArray⟩, .string ⟨e.o.2.2.1.toArray⟩, .int .i64 e.o.2.2.2.1, .int .i64 e.o.2.2.2.2, .int .i64 e.k.1, .int .i64 e.k.2, .int .i64 e.code, .int .i64 e.s.1, .int .i64 e.s.2.1, .slice Au e.s.2.2.length cu] tEnt) := ⟨_, rfl⟩
 have hB : Below w.heap.size w wa := by rw [hA]; exact below_alloc _ _
 have HX := Hd (show wa.heap[w.heap.size]? = some (.cells #[.int .i64 e.kind, .int .i64 e.o.1, .string ⟨e.o.2.1.toArray⟩, .string ⟨e.o.2.2.1.toArray⟩, .int .i64 e.o.2.2.2.1, .int .i64 e.o.2.2.2.2, .int .i64 e.k.1, .int .i64 e.k.2, .int .i64 e.code, .int .i64 e.s.1, .int .i64 e.s.2.1, .slice Au e.s.2.2.length cu] tEnt (0, 0)) by rw [hA]; exact heap_new _ _)
 have HR := Hd (h.below hB); have HA := Hd hA; have HB := Hd hB; have HU := Hd (hu.keep hB); have HID := Hd hid; have HAM := Hd ham
 have hws : w.heap.size < wa.heap.size := heap_lt HX.out
 clear hA hB h hu hid ham
 obtain ⟨m0, m1, m2, m3, m4, m5, m6, m7, m8, m9, m10, m11⟩ := cell12 HX.out
 have y0 := HR.out.c01.1
 go_enter Tryz.func10, Tryz.ntmps10
 go_upto_region 1 with (fail)
 rw [← HA.out]
 have hk := HKK.out
 have q1 := beqF (show ¬ e.kind = 1 by omega)
 have q2 := beqF (show ¬ e.kind = 2 by omega)
 have q3 := beqF (show ¬ e.kind = 3 by omega)
 have q4 := beqT hk
 obtain ⟨he0, hc0⟩ := HAP.out.2.2.2 hk
 have HE := Hd he0; have HC0 := Hd hc0
 clear he0 hc0 hk HAP
 obtain ⟨A0, n0, c0, A1, n1, c1, A2, n2, c2, rfl, _⟩ := HR.out.i
 have HH := Hd (show wa.heap[rb]? = some (.cells #[.slice A c.l.length cl, vB, .int .i64 c.inn.a.1, .int .i64 c.inn.a.2.1, .slice A0 n0 c0, .int .i64 c.inn.b.1, .int .i64 c.inn.b.2.1, .slice A1 n1 c1, .int .i64 c.inn.c.1, .int .i64 c.inn.c.2.1, .slice A2 n2 c2] tCoreR (0, 0)) by simpa [inn10] using HR.out.hc)
 obtain ⟨y0, y1, y2, y3, y4, y5, y6, y7, y8, y9, y10⟩ := cell11 HH.out
 have HQ0 := Hd HR.out.f
 go_wp2_with fail
 by_cases he : In.accE c.inn e.s = 0
 ·have HUR := Hd (show OffL rb (.slice Au e.s.2.2.length cu) e.s.2.2.length from HQU.out)
  have HE4 := Hd he
  obtain ⟨J, hJ⟩ : ∃ J, In.accI c.inn e.s = J := ⟨_, rfl⟩
  have HFJ := Hd (show In.Fine J by rw [← hJ]; exact HQ0.out.acc e.s)
  have HJ := Hd hJ
  have HACC := Hd (fun W (hW : Below wa.heap.size wa W) => hJ ▸ refAccept_ok W _ c.inn e.s _ (HR.out.i.below hW) (HU.out.keep hW) he)
  clear hJ
  clear he
  go_cut [8, 9] from 104 to 113 (fun p ee wx => ∃ b5 C0 p0 e0 C1 p1 e1 C2 p2 e2, p = .pointer (some ⟨b5, 0, none⟩) ∧ ee = .int .i64 0 ∧ wa.heap.size ≤ b5 ∧ wx.heap[b5]? = some (.cells #[.int .i64 J.a.1, .int .i64 J.a.2.1, .slice C0 p0 e0, .int .i64 J.b.1, .int .i64 J.b.2.1, .slice C1 p1 e1, .int .i64 J.c.1, .int .i64 J.c.2.1, .slice C2 p2 e2] tInR (0, 0)) ∧ InR wx (.agg #[.int .i64 J.a.1, .int .i64 J.a.2.1, .slice C0 p0 e0, .int .i64 J.b.1, .int .i64 J.b.2.1, .slice C1 p1 e1, .int .i64 J.c.1, .int .i64 J.c.2.1, .slice C2 p2 e2]) J ∧ (∀ j, AvR j (.agg #[.int .i64 c.inn.a.1, .int .i64 c.inn.a.2.1, .slice A0 n0 c0, .int .i64 c.inn.b.1, .int .i64 c.inn.b.2.1, .slice A1 n1 c1, .int .i64 c.inn.c.1, .int .i64 c.inn.c.2.1, .slice A2 n2 c2]) c.inn → OffL j (.slice Au e.s.2.2.length cu) e.s.2.2.length → AvR j (.agg #[.int .i64 J.a.1, .int .i64 J.a.2.1, .slice C0 p0 e0, .int .i64 J.b.1, .int .i64 J.b.2.1, .slice C1 p1 e1, .int .i64 J.c.1, .int .i64 J.c.2.1, .slice C2 p2 e2]) J) ∧ Below wa.heap.size wa wx)
  case first =>
   have HH := Hd (fun W (hb : Below wa.heap.size wa W) => (⟨Hd hb, kc hb y2, kc hb y3, kc hb y4, kc hb y5, kc hb y6, kc hb y7, kc hb y8, kc hb y9, kc hb y10, kc hb m9, kc hb m10, kc hb m11⟩ : (fun w' => Hid (Below wa.heap.size wa w') ∧ w'.cell? ⟨rb, 2, none⟩ = some (.int .i64 c.inn.a.1) ∧ w'.cell? ⟨rb, 3, none⟩ = some (.int .i64 c.inn.a.2.1) ∧ w'.cell? ⟨rb, 4, none⟩ = some (.slice A0 n0 c0) ∧ w'.cell? ⟨rb, 5, none⟩ = some (.int .i64 c.inn.b.1) ∧ w'.cell? ⟨rb, 6, none⟩ = some (.int .i64 c.inn.b.2.1) ∧ w'.cell? ⟨rb, 7, none⟩ = some (.slice A1 n1 c1) ∧ w'.cell? ⟨rb, 8, none⟩ = some (.int .i64 c.inn.c.1) ∧ w'.cell? ⟨rb, 9, none⟩ = some (.int .i64 c.inn.c.2.1) ∧ w'.cell? ⟨rb, 10, none⟩ = some (.slice A2 n2 c2) ∧ w'.cell? ⟨w.heap.size, 9, none⟩ = some (.int .i64 e.s.1) ∧ w'.cell? ⟨w.heap.size, 10, none⟩ = some (.int .i64 e.s.2.1) ∧ w'.cell? ⟨w.heap.size, 11, none⟩ = some (.slice Au e.s.2.2.length cu)) W))
   refine wp_region_noPanic ?_
   refine wp_region_held_drew (S := (fun w' => Hid (Below wa.heap.size wa w') ∧ w'.cell? ⟨rb, 2, none⟩ = some (.int .i64 c.inn.a.1) ∧ w'.cell? ⟨rb, 3, none⟩ = some (.int .i64 c.inn.a.2.1) ∧ w'.cell? ⟨rb, 4, none⟩ = some (.slice A0 n0 c0) ∧ w'.cell? ⟨rb, 5, none⟩ = some (.int .i64 c.inn.b.1) ∧ w'.cell? ⟨rb, 6, none⟩ = some (.int .i64 c.inn.b.2.1) ∧ w'.cell? ⟨rb, 7, none⟩ = some (.slice A1 n1 c1) ∧ w'.cell? ⟨rb, 8, none⟩ = some (.int .i64 c.inn.c.1) ∧ w'.cell? ⟨rb, 9, none⟩ = some (.int .i64 c.inn.c.2.1) ∧ w'.cell? ⟨rb, 10, none⟩ = some (.slice A2 n2 c2) ∧ w'.cell? ⟨w.heap.size, 9, none⟩ = some (.int .i64 e.s.1) ∧ w'.cell? ⟨w.heap.size, 10, none⟩ = some (.int .i64 e.s.2.1) ∧ w'.cell? ⟨w.heap.size, 11, none⟩ = some (.slice Au e.s.2.2.length cu))) (by kernel_rfl) (HH.out _ (below_drew1 (Below.refl wa.heap.size wa))) (fun hHeld => ?_)
   refine tk 0 rfl rfl ‹_› ?_; try go_frame
   refine tk 1 rfl rfl ‹_› ?_; try go_frame
   refine tk 2 rfl rfl ‹_› ?_; try go_frame
   refine tk 3 rfl rfl ‹_› ?_; try go_frame
   refine tk 4 rfl rfl ‹_› ?_; try go_frame
   refine tk 5 rfl rfl ‹_› ?_; try go_frame
   refine wpAnyH_ready (rs := [6, 10]) (by kernel_rfl) (by simp) ?_
   refine AllReadyH.cons rfl (fun K hK => ?_) (AllReadyH.cons rfl (fun K hK => ?_) AllReadyH.nil)
   ·go_simp
    refine (HACC.out _ (below_drew1 (Below.refl wa.heap.size wa))).mono ?_
    rintro r w1 ⟨v1, rfl, hv, hav, hb⟩
    have HV1 := Hd hv; have HAV1 := Hd hav
    obtain ⟨C0, p0, e0, C1, p1, e1, C2, p2, e2, rfl, _⟩ := hv
    clear hav
    have HW1 := Hd (bch (below_drew1 (Below.refl wa.heap.size wa)) hb (Below.size (below_drew1 (Below.refl wa.heap.size wa))))
    refine hK.out _ _ (HH.out _ (HW1.out)) (fun hHeld => ?_)
    clear hK K
    (try simp only [gx1, gx2, gx3]); try go_frame
    refine tk 7 rfl rfl ‹_› ?_; try go_frame
    refine tk 8 rfl rfl ‹_› ?_; try go_frame
    refine tk 9 rfl rfl ‹_› ?_; try go_frame
    refine rdy 10 rfl (fun K hK => ?_)
    go_simp
    refine hK.out _ _ (HH.out _ (bch HW1.out (below_alloc w1 _) HW1.out.size)) (fun hHeld => ?_)
    clear hK K
    (try simp only [gx1, gx2, gx3]); try go_frame
    refine rdy 11 rfl (fun K hK => ?_)
    go_simp
    refine hK.out _ _ (HH.out _ (bch HW1.out (below_alloc w1 _) HW1.out.size)) (fun hHeld => ?_)
    clear hK K
    (try simp only [gx1, gx2, gx3]); try go_frame
    refine tk 12 rfl rfl ‹_› ?_; try go_frame
    refine wpAnyH_done (by kernel_rfl) ?_ _
    refine NoPanic.normal ?_
    go_wp2_with fail
    go_meet
    exact ⟨w1.heap.size, _, _, _, _, _, _, _, _, _, rfl, rfl, HW1.out.size, heap_new _ _, HV1.out.below (below_alloc _ _), HAV1.out, bch HW1.out (below_alloc w1 _) HW1.out.size⟩
   ·go_simp
    refine hK.out _ _ (HH.out _ (bch (below_drew1 (Below.refl wa.heap.size wa)) (below_alloc wa.drew _) (Nat.le_refl _))) (fun hHeld => ?_)
    clear hK K
    (try simp only [gx1, gx2, gx3]); try go_frame
    refine rdy 6 rfl (fun K hK => ?_)
    go_simp
    have HBd := Hd (bch (below_drew1 (Below.refl wa.heap.size wa)) (below_alloc wa.drew (.cells zInR tInR)) (Nat.le_refl _))
    refine (HACC.out _ HBd.out).mono ?_
    rintro r w1 ⟨v1, rfl, hv, hav, hb⟩
    have HV1 := Hd hv; have HAV1 := Hd hav
    obtain ⟨C0, p0, e0, C1, p1, e1, C2, p2, e2, rfl, _⟩ := hv
    clear hav
    have HW1 := Hd (bch HBd.out hb HBd.out.size)
    refine hK.out _ _ (HH.out _ (HW1.out)) (fun hHeld => ?_)
    clear hK K
    (try simp only [gx1, gx2, gx3]); try go_frame
    refine tk 7 rfl rfl ‹_› ?_; try go_frame
    refine tk 8 rfl rfl ‹_› ?_; try go_frame
    refine tk 9 rfl rfl ‹_› ?_; try go_frame
    have HZ0 := Hd (show w1.heap[wa.heap.size]? = some (.cells zInR tInR (0, 0)) from heap_keep (heap_new wa.drew (.cells zInR tInR)) hb)
    obtain ⟨z0, z1, z2, z3, z4, z5, z6, z7, z8⟩ := cell9 HZ0.out
    obtain ⟨f0, f1, f2, f3, f4, f5, f6, f7, f8⟩ := froz9 HZ0.out
    have HTu := Hd (turned_set9 w1 wa.heap.size (.int .i64 J.a.1) (.int .i64 J.a.2.1) (.slice C0 p0 e0) (.int .i64 J.b.1) (.int .i64 J.b.2.1) (.slice C1 p1 e1) (.int .i64 J.c.1) (.int .i64 J.c.2.1) (.slice C2 p2 e2))
    have HSET := Hd (set9 HZ0.out (.int .i64 J.a.1) (.int .i64 J.a.2.1) (.slice C0 p0 e0) (.int .i64 J.b.1) (.int .i64 J.b.2.1) (.slice C1 p1 e1) (.int .i64 J.c.1) (.int .i64 J.c.2.1) (.slice C2 p2 e2))
    unfold set9w at HSET HTu
    have HWs := Hd (Below.turned HW1.out HTu.out (fun i hi => by omega) (Below.size HW1.out))
    refine rdy 11 rfl (fun K hK => ?_)
    go_simp
    refine hK.out _ _ (HH.out _ (HWs.out)) (fun hHeld => ?_)
    clear hK K
    (try simp only [gx1, gx2, gx3]); try go_frame
    refine tk 12 rfl rfl ‹_› ?_; try go_frame
    refine wpAnyH_done (by kernel_rfl) ?_ _
    refine NoPanic.normal ?_
    go_wp2_with fail
    go_meet
    have hAvz := HAV1.out wa.heap.size (AvR.far HR.out.i (Nat.le_refl _)) (HU.out.1.farL (Nat.le_refl _))
    exact ⟨wa.heap.size, _, _, _, _, _, _, _, _, _, rfl, rfl, Nat.le_refl _, HSET.out, HV1.out.turned HTu.out (fun b hb => by rw [hb]; exact hAvz), HAV1.out, HWs.out⟩
  case rest =>
   obtain ⟨b5, C0, p0, e0, C1, p1, e1, C2, p2, e2, rfl, rfl, hb5, hbx, hv1, hav, hbl⟩ := hcut
   have HV2 := Hd hv1; have HBX := Hd hbx; have HAV := Hd hav; have HX2 := Hd (heap_keep HX.out hbl)
   have HS2 := Hd (show RStp (fun j => OffL j (.slice Au e.s.2.2.length cu) e.s.2.2.length) w wc rb (.slice A c.l.length cl) vB (.agg #[.int .i64 c.inn.a.1, .int .i64 c.inn.a.2.1, .slice A0 n0 c0, .int .i64 c.inn.b.1, .int .i64 c.inn.b.2.1, .slice A1 n1 c1, .int .i64 c.inn.c.1, .int .i64 c.inn.c.2.1, .slice A2 n2 c2]) c (.slice A c.l.length cl) vB (.agg #[.int .i64 c.inn.a.1, .int .i64 c.inn.a.2.1, .slice A0 n0 c0, .int .i64 c.inn.b.1, .int .i64 c.inn.b.2.1, .slice A1 n1 c1, .int .i64 c.inn.c.1, .int .i64 c.inn.c.2.1, .slice A2 n2 c2]) { c with b := c.b ++ stmPs c.inn J e.s.2.1 0 } by rw [show stmPs c.inn J e.s.2.1 0 = [] from rfl, List.append_nil]; exact RStp.after (bch HB.out hbl HB.out.size) (RStp.refl (HR.out.below hbl)))
   have hrb5 : rb < wa.heap.size := heap_lt HR.out.hc
   have HF0 := Hd (HR.out.f)
   clear hbx hv1 hav hbl HR HB HX HH HACC HA HU y0 y1 y2 y3 y4 y5 y6 y7 y8 y9 y10 m0 m1 m2 m3 m4 m5 m6 m7 m8 m9 m10 m11
   have hq0 : 0 ≤ e.s.2.1 ∧ e.s.2.1 ≤ 1073741824 := by have := HE4.out; unfold In.accE at this; split at this; cases this; rename_i hv; have := In.valid_seq (by simpa using hv); omega
   go_wp2_with fail
   go_loopw [10] (fun i wr => ∃ (n : Nat) (vB' : Value), i = .int .i64 ((n : Int) + 1) ∧ n ≤ 60 ∧ Hid (RStp (fun j => OffL j (.slice Au e.s.2.2.length cu) e.s.2.2.length) w wr rb (.slice A c.l.length cl) vB (.agg #[.int .i64 c.inn.a.1, .int .i64 c.inn.a.2.1, .slice A0 n0 c0, .int .i64 c.inn.b.1, .int .i64 c.inn.b.2.1, .slice A1 n1 c1, .int .i64 c.inn.c.1, .int .i64 c.inn.c.2.1, .slice A2 n2 c2]) c (.slice A c.l.length cl) vB' (.agg #[.int .i64 c.inn.a.1, .int .i64 c.inn.a.2.1, .slice A0 n0 c0, .int .i64 c.inn.b.1, .int .i64 c.inn.b.2.1, .slice A1 n1 c1, .int .i64 c.inn.c.1, .int .i64 c.inn.c.2.1, .slice A2 n2 c2]) { c with b := c.b ++ stmPs c.inn J e.s.2.1 n }) ∧ Hid (wr.heap[b5]? = some (.cells #[.int .i64 J.a.1, .int .i64 J.a.2.1, .slice C0 p0 e0, .int .i64 J.b.1, .int .i64 J.b.2.1, .slice C1 p1 e1, .int .i64 J.c.1, .int .i64 J.c.2.1, .slice C2 p2 e2] tInR (0, 0))) ∧ Hid (wr.heap[w.heap.size]? = some (.cells #[.int .i64 e.kind, .int .i64 e.o.1, .string ⟨e.o.2.1.toArray⟩, .string ⟨e.o.2.2.1.toArray⟩, .int .i64 e.o.2.2.2.1, .int .i64 e.o.2.2.2.2, .int .i64 e.k.1, .int .i64 e.k.2, .int .i64 e.code, .int .i64 e.s.1, .int .i64 e.s.2.1, .slice Au e.s.2.2.length cu] tEnt (0, 0))) ∧ Hid (InR wr (.agg #[.int .i64 J.a.1, .int .i64 J.a.2.1, .slice C0 p0 e0, .int .i64 J.b.1, .int .i64 J.b.2.1, .slice C1 p1 e1, .int .i64 J.c.1, .int .i64 J.c.2.1, .slice C2 p2 e2]) J) ∧ Hid (AvR rb (.agg #[.int .i64 J.a.1, .int .i64 J.a.2.1, .slice C0 p0 e0, .int .i64 J.b.1, .int .i64 J.b.2.1, .slice C1 p1 e1, .int .i64 J.c.1, .int .i64 J.c.2.1, .slice C2 p2 e2]) J)) (fun i _ => 61 - (intOf i).toNat)
   case atStart => exact ⟨0, vB, rfl, by omega, HS2.out, HBX.out, HX2.out, HV2.out, HAV.out rb HS2.out.r.nr.2.2 (HUR.out)⟩
   case round =>
    obtain ⟨n, vB', rfl, hn, HSr, HBr, HXr, HVr, HAr⟩ := hrel
    have HHr := Hd (show wr.heap[rb]? = some (.cells #[.slice A c.l.length cl, vB', .int .i64 c.inn.a.1, .int .i64 c.inn.a.2.1, .slice A0 n0 c0, .int .i64 c.inn.b.1, .int .i64 c.inn.b.2.1, .slice A1 n1 c1, .int .i64 c.inn.c.1, .int .i64 c.inn.c.2.1, .slice A2 n2 c2] tCoreR (0, 0)) by simpa [inn10] using HSr.out.r.hc)
    by_cases hn60 : n < 60
    ·have hn60' : (n : Int) + 1 ≤ 60 := by omega
     have hn0 : (0 : Int) ≤ (n : Int) + 1 := by omega
     obtain ⟨y0, y1, y2, y3, y4, y5, y6, y7, y8, y9, y10⟩ := cell11 HHr.out
     obtain ⟨i0, i1, i2, i3, i4, i5, i6, i7, i8⟩ := cell9 HBr.out
     have hbd1 := inet_bd HFJ.out ((n : Int) + 1)
     have hbd2 := inet_bd HF0.out ((n : Int) + 1)
     have hl1 := Lib.itoa_length_le e.s.2.1 (by omega) (by omega)
     have hl2 := Lib.itoa_length_le ((n : Int) + 1) (by omega) (by omega)
     have hw2 : IntKind.i64.wrap (In.netI J ((n : Int) + 1) - In.netI c.inn ((n : Int) + 1)) = In.netI J ((n : Int) + 1) - In.netI c.inn ((n : Int) + 1) := IntWalk.i64_in _ (by omega)
     have HP1 := Hd (show stmP1 c.inn J e.s.2.1 ((n : Int) + 1) = stmBy e.s.2.1 ((n : Int) + 1) (In.netI J ((n : Int) + 1) - In.netI c.inn ((n : Int) + 1)) from rfl)
     have hblen : (c.b ++ stmPs c.inn J e.s.2.1 n).length ≤ 90000 := by rw [List.length_append]; have := stmPs_len c.inn J e.s.2.1 n; omega
     go_upto_region 30 with (fail)
     have HH := Hd (fun W (hb : Below wr.heap.size wr W) => (⟨Hd hb, kc hb i0, kc hb i1, kc hb i2, kc hb i3, kc hb i4, kc hb i5, kc hb i6, kc hb i7, kc hb i8, kc hb y2, kc hb y3, kc hb y4, kc hb y5, kc hb y6, kc hb y7, kc hb y8, kc hb y9, kc hb y10⟩ : (fun w' => Hid (Below wr.heap.size wr w') ∧ w'.cell? ⟨b5, 0, none⟩ = some (.int .i64 J.a.1) ∧ w'.cell? ⟨b5, 1, none⟩ = some (.int .i64 J.a.2.1) ∧ w'.cell? ⟨b5, 2, none⟩ = some (.slice C0 p0 e0) ∧ w'.cell? ⟨b5, 3, none⟩ = some (.int .i64 J.b.1) ∧ w'.cell? ⟨b5, 4, none⟩ = some (.int .i64 J.b.2.1) ∧ w'.cell? ⟨b5, 5, none⟩ = some (.slice C1 p1 e1) ∧ w'.cell? ⟨b5, 6, none⟩ = some (.int .i64 J.c.1) ∧ w'.cell? ⟨b5, 7, none⟩ = some (.int .i64 J.c.2.1) ∧ w'.cell? ⟨b5, 8, none⟩ = some (.slice C2 p2 e2) ∧ w'.cell? ⟨rb, 2, none⟩ = some (.int .i64 c.inn.a.1) ∧ w'.cell? ⟨rb, 3, none⟩ = some (.int .i64 c.inn.a.2.1) ∧ w'.cell? ⟨rb, 4, none⟩ = some (.slice A0 n0 c0) ∧ w'.cell? ⟨rb, 5, none⟩ = some (.int .i64 c.inn.b.1) ∧ w'.cell? ⟨rb, 6, none⟩ = some (.int .i64 c.inn.b.2.1) ∧ w'.cell? ⟨rb, 7, none⟩ = some (.slice A1 n1 c1) ∧ w'.cell? ⟨rb, 8, none⟩ = some (.int .i64 c.inn.c.1) ∧ w'.cell? ⟨rb, 9, none⟩ = some (.int .i64 c.inn.c.2.1) ∧ w'.cell? ⟨rb, 10, none⟩ = some (.slice A2 n2 c2)) W))
     refine wp_region_noPanic ?_
     refine wp_region_held_drew (S := (fun w' => Hid (Below wr.heap.size wr w') ∧ w'.cell? ⟨b5, 0, none⟩ = some (.int .i64 J.a.1) ∧ w'.cell? ⟨b5, 1, none⟩ = some (.int .i64 J.a.2.1) ∧ w'.cell? ⟨b5, 2, none⟩ = some (.slice C0 p0 e0) ∧ w'.cell? ⟨b5, 3, none⟩ = some (.int .i64 J.b.1) ∧ w'.cell? ⟨b5, 4, none⟩ = some (.int .i64 J.b.2.1) ∧ w'.cell? ⟨b5, 5, none⟩ = some (.slice C1 p1 e1) ∧ w'.cell? ⟨b5, 6, none⟩ = some (.int .i64 J.c.1) ∧ w'.cell? ⟨b5, 7, none⟩ = some (.int .i64 J.c.2.1) ∧ w'.cell? ⟨b5, 8, none⟩ = some (.slice C2 p2 e2) ∧ w'.cell? ⟨rb, 2, none⟩ = some (.int .i64 c.inn.a.1) ∧ w'.cell? ⟨rb, 3, none⟩ = some (.int .i64 c.inn.a.2.1) ∧ w'.cell? ⟨rb, 4, none⟩ = some (.slice A0 n0 c0) ∧ w'.cell? ⟨rb, 5, none⟩ = some (.int .i64 c.inn.b.1) ∧ w'.cell? ⟨rb, 6, none⟩ = some (.int .i64 c.inn.b.2.1) ∧ w'.cell? ⟨rb, 7, none⟩ = some (.slice A1 n1 c1) ∧ w'.cell? ⟨rb, 8, none⟩ = some (.int .i64 c.inn.c.1) ∧ w'.cell? ⟨rb, 9, none⟩ = some (.int .i64 c.inn.c.2.1) ∧ w'.cell? ⟨rb, 10, none⟩ = some (.slice A2 n2 c2))) (by kernel_rfl) (HH.out _ (below_drew1 (Below.refl wr.heap.size wr))) (fun hHeld => ?_)
     refine tk 0 rfl rfl ‹_› ?_; try go_frame
     refine tk 1 rfl rfl ‹_› ?_; try go_frame
     refine tk 3 rfl rfl ‹_› ?_; try go_frame
     refine tk 4 rfl rfl ‹_› ?_; try go_frame
     refine tk 5 rfl rfl ‹_› ?_; try go_frame
     refine tk 6 rfl rfl ‹_› ?_; try go_frame
     refine tk 7 rfl rfl ‹_› ?_; try go_frame
     refine rdy 2 rfl (fun K hK => ?_)
     go_simp
     refine (rinet_any _ _ J ((n : Int) + 1) (HVr.out.below (below_drew1 (Below.refl wr.heap.size wr))) HFJ.out).mono ?_
     rintro r w6 ⟨rfl, hb6⟩
     have HB6 := Hd (bch (below_drew1 (Below.refl wr.heap.size wr)) hb6 (Below.size (below_drew1 (Below.refl wr.heap.size wr))))
     clear hb6
     refine hK.out _ _ (HH.out _ (HB6.out)) (fun hHeld => ?_)
     clear hK K
     (try simp only [gx1, gx2, gx3]); try go_frame
     refine rdy 8 rfl (fun K hK => ?_)
     go_simp
     refine (rinet_any _ _ c.inn ((n : Int) + 1) (HSr.out.r.i.below HB6.out) HF0.out).mono ?_
     rintro r w7 ⟨rfl, hb7⟩
     have HB7 := Hd (bch HB6.out hb7 HB6.out.size)
     clear hb7
     refine hK.out _ _ (HH.out _ (HB7.out)) (fun hHeld => ?_)
     clear hK K
     (try simp only [gx1, gx2, gx3]); try go_frame
     refine tk 9 rfl rfl ‹_› ?_; try go_frame
     refine tk 10 rfl rfl ‹_› ?_; try go_frame
     refine wpAnyH_done (by kernel_rfl) ?_ _
     refine NoPanic.normal ?_
     have HS7 := Hd (HSr.out.below HB7.out); have HB57 := Hd (heap_keep HBr.out HB7.out); have HX7 := Hd (heap_keep HXr.out HB7.out); have HV7 := Hd (HVr.out.below HB7.out)
     clear hHeld HB6 HB7 HSr HBr HXr HVr HHr HH y0 y1 y2 y3 y4 y5 y6 y7 y8 y9 y10 i0 i1 i2 i3 i4 i5 i6 i7 i8
     obtain ⟨by_, hby⟩ : ∃ b, In.netI J ((n : Int) + 1) - In.netI c.inn ((n : Int) + 1) = b := ⟨_, rfl⟩
     rw [hby] at HP1 hw2 ⊢
     have hbyb : -2199023255552 ≤ by_ ∧ by_ ≤ 2199023255552 := by omega
     have hwn : IntKind.i64.wrap (-by_) = -by_ := IntWalk.i64_in _ (by omega)
     clear hby
     obtain ⟨m0, m1, m2, m3, m4, m5, m6, m7, m8, m9, m10, m11⟩ := cell12 HX7.out
     go_wp2_with fail
     refine (ritoa_any e.s.2.1 _ hq0.1 hq0.2).mono ?_
     rintro r w8 ⟨rfl, hb8⟩
     have HB8 := Hd hb8
     clear hb8 m0 m1 m2 m3 m4 m5 m6 m7 m8 m9 m10 m11
     go_wp2_with fail
     refine (ritoa_any ((n : Int) + 1) _ (by omega) (by omega)).mono ?_
     rintro r w9 ⟨rfl, hb9⟩
     have HB9 := Hd (bch HB8.out hb9 HB8.out.size)
     have HS9 := Hd (HS7.out.below HB9.out); have HB59 := Hd (heap_keep HB57.out HB9.out); have HX9 := Hd (heap_keep HX7.out HB9.out); have HV9 := Hd (HV7.out.below HB9.out)
     clear hb9 HB8 HB9 HS7 HB57 HX7 HV7
     go_upto_region 32 with (fail)
     simp only [sid_join]
     by_cases hpos : 0 < by_
     ·have hneg : ¬ by_ < 0 := by omega
      have HPB := Hd (show stmPs c.inn J e.s.2.1 (n + 1) = stmPs c.inn J e.s.2.1 n ++ [⟨sidL e.s.2.1 ((n : Int) + 1), (n : Int) + 1, 2, 1, by_⟩] by rw [stmPs_succ, HP1.out, stm_pos hpos])
      go_wp2_with fail
      refine (rpost_any HS9.out.r ⟨sidL e.s.2.1 ((n : Int) + 1), (n : Int) + 1, 2, 1, by_⟩ (by show (c.b ++ stmPs c.inn J e.s.2.1 n).length ≤ _; omega) (fun j => OffL j (.slice Au e.s.2.2.length cu) e.s.2.2.length)).mono ?_
      rintro r w10 ⟨vB2, ⟨v10, rfl⟩, hstp⟩
      have hne5 : ¬ b5 = rb := by omega
      have HS10 := Hd (show RStp (fun j => OffL j (.slice Au e.s.2.2.length cu) e.s.2.2.length) w w10 rb (.slice A c.l.length cl) vB (.agg #[.int .i64 c.inn.a.1, .int .i64 c.inn.a.2.1, .slice A0 n0 c0, .int .i64 c.inn.b.1, .int .i64 c.inn.b.2.1, .slice A1 n1 c1, .int .i64 c.inn.c.1, .int .i64 c.inn.c.2.1, .slice A2 n2 c2]) c (.slice A c.l.length cl) vB2 (.agg #[.int .i64 c.inn.a.1, .int .i64 c.inn.a.2.1, .slice A0 n0 c0, .int .i64 c.inn.b.1, .int .i64 c.inn.b.2.1, .slice A1 n1 c1, .int .i64 c.inn.c.1, .int .i64 c.inn.c.2.1, .slice A2 n2 c2]) { c with b := c.b ++ stmPs c.inn J e.s.2.1 (n + 1) } by rw [HPB.out, ← List.append_assoc]; exact HS9.out.trans hstp)
      have HB510 := Hd (heap_turned' HB59.out hstp.t hne5); have HX10 := Hd (heap_turned' HX9.out hstp.t (by omega)); have HV10 := Hd (HV9.out.turned hstp.t (fun j hj => by rw [hj]; exact HAr.out))
      clear hstp
      go_wp2_with fail
      go_roundw
      case rel => exact ⟨n + 1, vB2, by go_num, by omega, HS10.out, HB510.out, HX10.out, HV10.out, HAr.out⟩
      case measure => simp [intOf]; omega
     ·by_cases hneg : by_ < 0
      ·have HPB := Hd (show stmPs c.inn J e.s.2.1 (n + 1) = stmPs c.inn J e.s.2.1 n ++ [⟨sidL e.s.2.1 ((n : Int) + 1), (n : Int) + 1, 1, 2, -by_⟩] by rw [stmPs_succ, HP1.out, stm_neg hneg])
       go_wp2_with fail
       refine (rpost_any HS9.out.r ⟨sidL e.s.2.1 ((n : Int) + 1), (n : Int) + 1, 1, 2, -by_⟩ (by show (c.b ++ stmPs c.inn J e.s.2.1 n).length ≤ _; omega) (fun j => OffL j (.slice Au e.s.2.2.length cu) e.s.2.2.length)).mono ?_
       rintro r w10 ⟨vB2, ⟨v10, rfl⟩, hstp⟩
       have hne5 : ¬ b5 = rb := by omega
       have HS10 := Hd (show RStp (fun j => OffL j (.slice Au e.s.2.2.length cu) e.s.2.2.length) w w10 rb (.slice A c.l.length cl) vB (.agg #[.int .i64 c.inn.a.1, .int .i64 c.inn.a.2.1, .slice A0 n0 c0, .int .i64 c.inn.b.1, .int .i64 c.inn.b.2.1, .slice A1 n1 c1, .int .i64 c.inn.c.1, .int .i64 c.inn.c.2.1, .slice A2 n2 c2]) c (.slice A c.l.length cl) vB2 (.agg #[.int .i64 c.inn.a.1, .int .i64 c.inn.a.2.1, .slice A0 n0 c0, .int .i64 c.inn.b.1, .int .i64 c.inn.b.2.1, .slice A1 n1 c1, .int .i64 c.inn.c.1, .int .i64 c.inn.c.2.1, .slice A2 n2 c2]) { c with b := c.b ++ stmPs c.inn J e.s.2.1 (n + 1) } by rw [HPB.out, ← List.append_assoc]; exact HS9.out.trans hstp)
       have HB510 := Hd (heap_turned' HB59.out hstp.t hne5); have HX10 := Hd (heap_turned' HX9.out hstp.t (by omega)); have HV10 := Hd (HV9.out.turned hstp.t (fun j hj => by rw [hj]; exact HAr.out))
       clear hstp
       go_wp2_with fail
       go_roundw
       case rel => exact ⟨n + 1, vB2, by go_num, by omega, HS10.out, HB510.out, HX10.out, HV10.out, HAr.out⟩
       case measure => simp [intOf]; omega
      ·have HPB := Hd (show stmPs c.inn J e.s.2.1 (n + 1) = stmPs c.inn J e.s.2.1 n by rw [stmPs_succ, HP1.out, stm_nil hpos hneg, List.append_nil])
       go_wp2_with fail
       go_roundw
       case rel => exact ⟨n + 1, vB', by go_num, by omega, by rw [HPB.out]; exact HS9.out, HB59.out, HX9.out, HV9.out, HAr.out⟩
       case measure => simp [intOf]; omega
    ·obtain rfl : n = 60 := by omega
     obtain ⟨i0, i1, i2, i3, i4, i5, i6, i7, i8⟩ := cell9 HBr.out
     obtain ⟨y0, y1, y2, y3, y4, y5, y6, y7, y8, y9, y10⟩ := cell11 HHr.out
     obtain ⟨g0, g1, g2, g3, g4, g5, g6, g7, g8, g9, g10⟩ := froz11 HHr.out
     go_upto_region 37 with (fail)
     obtain ⟨w9, hw9⟩ : ∃ w9, w9 = (((((((((wr.setCell ⟨rb, 2, none⟩ (.int .i64 J.a.1)).setCell ⟨rb, 3, none⟩ (.int .i64 J.a.2.1)).setCell ⟨rb, 4, none⟩ (.slice C0 p0 e0)).setCell ⟨rb, 5, none⟩ (.int .i64 J.b.1)).setCell ⟨rb, 6, none⟩ (.int .i64 J.b.2.1)).setCell ⟨rb, 7, none⟩ (.slice C1 p1 e1)).setCell ⟨rb, 8, none⟩ (.int .i64 J.c.1)).setCell ⟨rb, 9, none⟩ (.int .i64 J.c.2.1)).setCell ⟨rb, 10, none⟩ (.slice C2 p2 e2)) := ⟨_, rfl⟩
     rw [← hw9]
     have ht9 : Turned (fun j => j = rb) wr w9 := by rw [hw9]; exact turned_in9 _ _ _ _ _ _ _ _ _ _ _
     have HH9 := Hd (show w9.heap[rb]? = some (.cells #[.slice A c.l.length cl, vB', .int .i64 J.a.1, .int .i64 J.a.2.1, .slice C0 p0 e0, .int .i64 J.b.1, .int .i64 J.b.2.1, .slice C1 p1 e1, .int .i64 J.c.1, .int .i64 J.c.2.1, .slice C2 p2 e2] tCoreR (0, 0)) by rw [hw9]; exact set_in9 HHr.out (.int .i64 J.a.1) (.int .i64 J.a.2.1) (.slice C0 p0 e0) (.int .i64 J.b.1) (.int .i64 J.b.2.1) (.slice C1 p1 e1) (.int .i64 J.c.1) (.int .i64 J.c.2.1) (.slice C2 p2 e2))
     clear hw9 i0 i1 i2 i3 i4 i5 i6 i7 i8 y0 y1 y2 y3 y4 y5 y6 y7 y8 y9 y10 g0 g1 g2 g3 g4 g5 g6 g7 g8 g9 g10
     have HCC := Hd (show stmC c e.s = { c with b := c.b ++ stmPs c.inn J e.s.2.1 60, inn := J } by unfold stmC; rw [if_pos HE4.out, HJ.out])
     have HR9 := Hd (show Rr w9 rb (.slice A c.l.length cl) vB' (.agg #[.int .i64 J.a.1, .int .i64 J.a.2.1, .slice C0 p0 e0, .int .i64 J.b.1, .int .i64 J.b.2.1, .slice C1 p1 e1, .int .i64 J.c.1, .int .i64 J.c.2.1, .slice C2 p2 e2]) { c with b := c.b ++ stmPs c.inn J e.s.2.1 60, inn := J } from ⟨by simpa [inn10] using HH9.out, HSr.out.r.l.turned ht9 (fun j hj => by rw [hj]; exact HSr.out.r.nr.1), HSr.out.r.b.turned ht9 (fun j hj => by rw [hj]; exact HSr.out.r.nr.2.1), HVr.out.turned ht9 (fun j hj => by rw [hj]; exact HAr.out), HFJ.out, ⟨HSr.out.r.nr.1, HSr.out.r.nr.2.1, HAr.out⟩⟩)
     have HT9 := Hd (HSr.out.t.trans ht9)
     clear ht9
     go_wp2_with fail
     go_ret
     rw [HC0.out, HCC.out]
     first
      | exact ⟨_, _, _, by rw [HE.out, HE4.out]; rfl, ⟨HR9.out, HT9.out, fun j hj hq ha => by have h2 := HSr.out.a j hj hq ha; exact ⟨h2.1, h2.2.1, h2.2.2.1, HAV.out j ha.2.2.2 hq⟩⟩⟩
      | exact ⟨_, _, by rw [HE.out, HE4.out]; rfl, _, ⟨HR9.out, HT9.out, fun j hj hq ha => by have h2 := HSr.out.a j hj hq ha; exact ⟨h2.1, h2.2.1, h2.2.2.1, HAV.out j ha.2.2.2 hq⟩⟩⟩
      | exact ⟨_, by rw [HE.out, HE4.out]; rfl, _, _, ⟨HR9.out, HT9.out, fun j hj hq ha => by have h2 := HSr.out.a j hj hq ha; exact ⟨h2.1, h2.2.1, h2.2.2.1, HAV.out j ha.2.2.2 hq⟩⟩⟩
      | exact ⟨by rw [HE.out, HE4.out]; rfl, _, _, _, ⟨HR9.out, HT9.out, fun j hj hq ha => by have h2 := HSr.out.a j hj hq ha; exact ⟨h2.1, h2.2.1, h2.2.2.1, HAV.out j ha.2.2.2 hq⟩⟩⟩
 ·have HNE := Hd he
  have HACC := Hd (fun W (hW : Below wa.heap.size wa W) => refAccept_no W _ c.inn e.s _ (HR.out.i.below hW) (HU.out.keep hW) he)
  clear he
  go_cut [8, 9] from 104 to 113 (fun p ee wx => ∃ b5, p = .pointer (some ⟨b5, 0, none⟩) ∧ ee = .int .i64 (In.accE c.inn e.s) ∧ Below wa.heap.size wa wx)
  case first =>
   have HH := Hd (fun W (hb : Below wa.heap.size wa W) => (⟨Hd hb, kc hb y2, kc hb y3, kc hb y4, kc hb y5, kc hb y6, kc hb y7, kc hb y8, kc hb y9, kc hb y10, kc hb m9, kc hb m10, kc hb m11⟩ : (fun w' => Hid (Below wa.heap.size wa w') ∧ w'.cell? ⟨rb, 2, none⟩ = some (.int .i64 c.inn.a.1) ∧ w'.cell? ⟨rb, 3, none⟩ = some (.int .i64 c.inn.a.2.1) ∧ w'.cell? ⟨rb, 4, none⟩ = some (.slice A0 n0 c0) ∧ w'.cell? ⟨rb, 5, none⟩ = some (.int .i64 c.inn.b.1) ∧ w'.cell? ⟨rb, 6, none⟩ = some (.int .i64 c.inn.b.2.1) ∧ w'.cell? ⟨rb, 7, none⟩ = some (.slice A1 n1 c1) ∧ w'.cell? ⟨rb, 8, none⟩ = some (.int .i64 c.inn.c.1) ∧ w'.cell? ⟨rb, 9, none⟩ = some (.int .i64 c.inn.c.2.1) ∧ w'.cell? ⟨rb, 10, none⟩ = some (.slice A2 n2 c2) ∧ w'.cell? ⟨w.heap.size, 9, none⟩ = some (.int .i64 e.s.1) ∧ w'.cell? ⟨w.heap.size, 10, none⟩ = some (.int .i64 e.s.2.1) ∧ w'.cell? ⟨w.heap.size, 11, none⟩ = some (.slice Au e.s.2.2.length cu)) W))
   refine wp_region_noPanic ?_
   refine wp_region_held_drew (S := (fun w' => Hid (Below wa.heap.size wa w') ∧ w'.cell? ⟨rb, 2, none⟩ = some (.int .i64 c.inn.a.1) ∧ w'.cell? ⟨rb, 3, none⟩ = some (.int .i64 c.inn.a.2.1) ∧ w'.cell? ⟨rb, 4, none⟩ = some (.slice A0 n0 c0) ∧ w'.cell? ⟨rb, 5, none⟩ = some (.int .i64 c.inn.b.1) ∧ w'.cell? ⟨rb, 6, none⟩ = some (.int .i64 c.inn.b.2.1) ∧ w'.cell? ⟨rb, 7, none⟩ = some (.slice A1 n1 c1) ∧ w'.cell? ⟨rb, 8, none⟩ = some (.int .i64 c.inn.c.1) ∧ w'.cell? ⟨rb, 9, none⟩ = some (.int .i64 c.inn.c.2.1) ∧ w'.cell? ⟨rb, 10, none⟩ = some (.slice A2 n2 c2) ∧ w'.cell? ⟨w.heap.size, 9, none⟩ = some (.int .i64 e.s.1) ∧ w'.cell? ⟨w.heap.size, 10, none⟩ = some (.int .i64 e.s.2.1) ∧ w'.cell? ⟨w.heap.size, 11, none⟩ = some (.slice Au e.s.2.2.length cu))) (by kernel_rfl) (HH.out _ (below_drew1 (Below.refl wa.heap.size wa))) (fun hHeld => ?_)
   refine tk 0 rfl rfl ‹_› ?_; try go_frame
   refine tk 1 rfl rfl ‹_› ?_; try go_frame
   refine tk 2 rfl rfl ‹_› ?_; try go_frame
   refine tk 3 rfl rfl ‹_› ?_; try go_frame
   refine tk 4 rfl rfl ‹_› ?_; try go_frame
   refine tk 5 rfl rfl ‹_› ?_; try go_frame
   refine wpAnyH_ready (rs := [6, 10]) (by kernel_rfl) (by simp) ?_
   refine AllReadyH.cons rfl (fun K hK => ?_) (AllReadyH.cons rfl (fun K hK => ?_) AllReadyH.nil)
   ·go_simp
    refine (HACC.out _ (below_drew1 (Below.refl wa.heap.size wa))).mono ?_
    rintro r w1 ⟨rfl, hb⟩
    have HW1 := Hd (bch (below_drew1 (Below.refl wa.heap.size wa)) hb (Below.size (below_drew1 (Below.refl wa.heap.size wa))))
    refine hK.out _ _ (HH.out _ (HW1.out)) (fun hHeld => ?_)
    clear hK K
    (try simp only [gx1, gx2, gx3]); try go_frame
    refine tk 7 rfl rfl ‹_› ?_; try go_frame
    refine tk 8 rfl rfl ‹_› ?_; try go_frame
    refine tk 9 rfl rfl ‹_› ?_; try go_frame
    refine rdy 10 rfl (fun K hK => ?_)
    go_simp
    refine hK.out _ _ (HH.out _ (bch HW1.out (below_alloc w1 _) HW1.out.size)) (fun hHeld => ?_)
    clear hK K
    (try simp only [gx1, gx2, gx3]); try go_frame
    refine rdy 11 rfl (fun K hK => ?_)
    go_simp
    refine hK.out _ _ (HH.out _ (bch HW1.out (below_alloc w1 _) HW1.out.size)) (fun hHeld => ?_)
    clear hK K
    (try simp only [gx1, gx2, gx3]); try go_frame
    refine tk 12 rfl rfl ‹_› ?_; try go_frame
    refine wpAnyH_done (by kernel_rfl) ?_ _
    refine NoPanic.normal ?_
    go_wp2_with fail
    go_meet
    exact ⟨w1.heap.size, rfl, rfl, bch HW1.out (below_alloc w1 _) HW1.out.size⟩
   ·go_simp
    refine hK.out _ _ (HH.out _ (bch (below_drew1 (Below.refl wa.heap.size wa)) (below_alloc wa.drew _) (Nat.le_refl _))) (fun hHeld => ?_)
    clear hK K
    (try simp only [gx1, gx2, gx3]); try go_frame
    refine rdy 6 rfl (fun K hK => ?_)
    go_simp
    have HBd := Hd (bch (below_drew1 (Below.refl wa.heap.size wa)) (below_alloc wa.drew (.cells zInR tInR)) (Nat.le_refl _))
    refine (HACC.out _ HBd.out).mono ?_
    rintro r w1 ⟨rfl, hb⟩
    have HW1 := Hd (bch HBd.out hb HBd.out.size)
    refine hK.out _ _ (HH.out _ (HW1.out)) (fun hHeld => ?_)
    clear hK K
    (try simp only [gx1, gx2, gx3]); try go_frame
    refine tk 7 rfl rfl ‹_› ?_; try go_frame
    refine tk 8 rfl rfl ‹_› ?_; try go_frame
    refine tk 9 rfl rfl ‹_› ?_; try go_frame
    have HZ0 := Hd (show w1.heap[wa.heap.size]? = some (.cells zInR tInR (0, 0)) from heap_keep (heap_new wa.drew (.cells zInR tInR)) hb)
    obtain ⟨z0, z1, z2, z3, z4, z5, z6, z7, z8⟩ := cell9 HZ0.out
    obtain ⟨f0, f1, f2, f3, f4, f5, f6, f7, f8⟩ := froz9 HZ0.out
    have HTu := Hd (turned_set9 w1 wa.heap.size (.int .i64 0) (.int .i64 0) (.slice none 0 0) (.int .i64 0) (.int .i64 0) (.slice none 0 0) (.int .i64 0) (.int .i64 0) (.slice none 0 0))
    have HSET := Hd (set9 HZ0.out (.int .i64 0) (.int .i64 0) (.slice none 0 0) (.int .i64 0) (.int .i64 0) (.slice none 0 0) (.int .i64 0) (.int .i64 0) (.slice none 0 0))
    unfold set9w at HSET HTu
    have HWs := Hd (Below.turned HW1.out HTu.out (fun i hi => by omega) (Below.size HW1.out))
    refine rdy 11 rfl (fun K hK => ?_)
    go_simp
    refine hK.out _ _ (HH.out _ (HWs.out)) (fun hHeld => ?_)
    clear hK K
    (try simp only [gx1, gx2, gx3]); try go_frame
    refine tk 12 rfl rfl ‹_› ?_; try go_frame
    refine wpAnyH_done (by kernel_rfl) ?_ _
    refine NoPanic.normal ?_
    go_wp2_with fail
    go_meet
    exact ⟨wa.heap.size, rfl, rfl, HWs.out⟩
  case rest =>
   obtain ⟨b5, rfl, rfl, hbl⟩ := hcut
   have HRc := Hd (HR.out.below hbl); have HBc := Hd (bch HB.out hbl HB.out.size)
   clear hbl
   have hne := bneT HNE.out
   go_wp2_with fail
   go_ret
   rw [HC0.out, show stmC c e.s = c by unfold stmC; rw [if_neg HNE.out]]
   first
    | exact ⟨_, _, _, by rw [HE.out]; rfl, RStp.after HBc.out (RStp.refl HRc.out)⟩
    | exact ⟨_, _, by rw [HE.out]; rfl, _, RStp.after HBc.out (RStp.refl HRc.out)⟩
    | exact ⟨_, by rw [HE.out]; rfl, _, _, RStp.after HBc.out (RStp.refl HRc.out)⟩
    | exact ⟨by rw [HE.out]; rfl, _, _, _, RStp.after HBc.out (RStp.refl HRc.out)⟩
theorem rapply_any {w : World} {rb : Nat} {vL vB vI : Value} {c : Cor} (h : Rr w rb vL vB vI c) (e : Ent) (Au : Option Addr) (cu : Nat) (hu : Rd w (.slice Au e.s.2.2.length cu) e.s.2.2) (hl : c.l.length ≤ 60) (hbl : c.b.length ≤ 80000) (ham : ∀ s ∈ c.l, 0 ≤ s.amt ∧ s.amt ≤ 1099511627776) (hid : ∀ (k : Nat) s, c.l[k]? = some s → s.id = (k : Int) + 1) (hq : OffL rb (.slice Au e.s.2.2.length cu) e.s.2.2.length) :
  Calls Tryz.prog 10 #[.pointer (some ⟨rb, 0, none⟩), .agg #[.int .i64 e.kind, .int .i64 e.o.1, .string ⟨e.o.2.1.toArray⟩, .string ⟨e.o.2.2.1.toArray⟩, .int .i64 e.o.2.2.2.1, .int .i64 e.o.2.2.2.2, .int .i64 e.k.1, .int .i64 e.k.2, .int .i64 e.code, .int .i64 e.s.1, .int .i64 e.s.2.1, .slice Au e.s.2.2.length cu]] w fun e2 w' => ∃ vL' vB' vI', e2 = .returned (.int .i64 (applyE c e)) ∧ RStp (fun j => OffL j (.slice Au e.s.2.2.length cu) e.s.2.2.length) w w' rb vL vB vI c vL' vB' vI' (applyC c e) := by
 by_cases h1 : e.kind = 1
 ·exact rapply1_any h e Au cu hu hl hbl ham hid h1
 by_cases h2 : e.kind = 2
 ·exact rapply2_any h e Au cu hu hl hbl ham hid h2
 by_cases h3 : e.kind = 3
 ·exact rapply3_any h e Au cu hu hl hbl ham hid h3
 by_cases h4 : e.kind = 4
 ·exact rapply4_any h e Au cu hu hl hbl ham hid hq h4
 have HE := Hd (show applyE c e = 2 by unfold applyE; rw [if_neg h1, if_neg h2, if_neg h3, if_neg h4])
 have HCC := Hd (show applyC c e = c by unfold applyC; rw [if_neg h1, if_neg h2, if_neg h3, if_neg h4])
 obtain ⟨A, cl, rfl, hlc, hcm⟩ := h.l.shape
 have hrb := heap_lt h.hc
 have HAP := Hd (apply_at (c := c) (e := e))
 obtain ⟨wa, hA⟩ : ∃ wa, wa = w.alloc (.cells #[.int .i64 e.kind, .int .i64 e.o.1, .string ⟨e.o.2.1.toArray⟩, .string ⟨e.o.2.2.1.toArray⟩, .int .i64 e.o.2.2.2.1, .int .i64 e.o.2.2.2.2, .int .i64 e.k.1, .int .i64 e.k.2, .int .i64 e.code, .int .i64 e.s.1, .int .i64 e.s.2.1, .slice Au e.s.2.2.length cu] tEnt) := ⟨_, rfl⟩
 have hB : Below w.heap.size w wa := by rw [hA]; exact below_alloc _ _
 have HX := Hd (show wa.heap[w.heap.size]? = some (.cells #[.int .i64 e.kind, .int .i64 e.o.1, .string ⟨e.o.2.1.toArray⟩, .string ⟨e.o.2.2.1.toArray⟩, .int .i64 e.o.2.2.2.1, .int .i64 e.o.2.2.2.2, .int .i64 e.k.1, .int .i64 e.k.2, .int .i64 e.code, .int .i64 e.s.1, .int .i64 e.s.2.1, .slice Au e.s.2.2.length cu] tEnt (0, 0)) by rw [hA]; exact heap_new _ _)
 have HR := Hd (h.below hB); have HA := Hd hA; have HB := Hd hB; have HU := Hd (hu.keep hB); have HID := Hd hid; have HAM := Hd ham
 have hws : w.heap.size < wa.heap.size := heap_lt HX.out
 clear hA hB h hu hid ham
 obtain ⟨m0, m1, m2, m3, m4, m5, m6, m7, m8, m9, m10, m11⟩ := cell12 HX.out
 have y0 := HR.out.c01.1
 go_enter Tryz.func10, Tryz.ntmps10
 go_upto_region 1 with (fail)
 rw [← HA.out]
 have q1 := beqF h1; have q2 := beqF h2; have q3 := beqF h3; have q4 := beqF h4
 clear h1 h2 h3 h4
 go_wp2_with fail
 go_ret
 rw [HCC.out]
 first
  | exact ⟨_, _, _, by rw [HE.out]; rfl, RStp.after HB.out (RStp.refl HR.out)⟩
  | exact ⟨_, _, by rw [HE.out]; rfl, _, RStp.after HB.out (RStp.refl HR.out)⟩
  | exact ⟨_, by rw [HE.out]; rfl, _, _, RStp.after HB.out (RStp.refl HR.out)⟩
  | exact ⟨by rw [HE.out]; rfl, _, _, _, RStp.after HB.out (RStp.refl HR.out)⟩
end Go.Proofs.YtiagdpfmmjhgcaaGreatDoor

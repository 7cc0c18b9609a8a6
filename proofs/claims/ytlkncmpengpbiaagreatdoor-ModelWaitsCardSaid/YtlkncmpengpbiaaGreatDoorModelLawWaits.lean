/- law18: Keys, where they agree. -/
import Derived.Test.YtlkncmpengpbiaaGreatDoorWaitsStart
import Derived.Test.YtlkncmpengpbiaaGreatDoorShort
import Derived.Test.YtlkncmpengpbiaaGreatDoorSrcOf
import Derived.BigQuiet
import Derived.Test.YtlkncmpengpbiaaGreatDoorActs
import Derived.Deep.CutBlock
import Derived.Deep.CutRange
namespace Go.Proofs.YtlkncmpengpbiaaGreatDoor
open Go.RowKit Go.Maps Key
set_option linter.unusedSimpArgs false
set_option linter.unusedVariables false
set_option maxRecDepth 100000
set_option maxHeartbeats 4000000
theorem keys_true (w : World) (B B' : Nat) (u v : Value) (l : List (Int × Int)) (hu : w.ownsRow B tKey 2 u l.length (l.flatMap encK)) (hv : w.ownsRow B' tKey 2 v l.length (l.flatMap encK)) (hl : l.length < 10000) :
  Calls Tryz.prog 42 #[u, v] w fun e w' => e = .returned (.bool true) ∧ Below w.heap.size w w' := by
 obtain ⟨A, c, rfl, hA⟩ := own_slice hu
 obtain ⟨A', c', rfl, hA'⟩ := own_slice hv
 have HU := Hd hu
 have HV := Hd hv
 clear hu hv
 have HA := Hd hA
 have HA' := Hd hA'
 clear hA hA'
 go_enter Tryz.func42, Tryz.ntmps42
 go_wp2_with fail
 go_loopw [5] (fun i wr => ∃ k : Nat, i = .int .i64 k ∧ k ≤ l.length ∧ Hid (Below w.heap.size w wr)) (fun i _ => l.length - (intOf i).toNat)
 case atStart => exact ⟨0, rfl, by omega, Below.refl _ _⟩
 case round =>
  obtain ⟨k, rfl, hk, HB⟩ := hrel
  by_cases hkl : k < l.length
  ·obtain ⟨x, hx⟩ : ∃ x, l[k]? = some x := ⟨_, List.getElem?_eq_getElem hkl⟩
   obtain ⟨g, rfl, _, _⟩ := HA.out (by omega)
   obtain ⟨g', rfl, _, _⟩ := HA'.out (by omega)
   have c0 := own_cellK encK_len (by omega) (own_keep HU.out HB.out) hx 0 (by omega)
   have c1 := own_cellK encK_len (by omega) (own_keep HU.out HB.out) hx 1 (by omega)
   have d0 := own_cellK encK_len (by omega) (own_keep HV.out HB.out) hx 0 (by omega)
   have d1 := own_cellK encK_len (by omega) (own_keep HV.out HB.out) hx 1 (by omega)
   obtain ⟨o, d⟩ := x
   simp only [encK, List.getElem?_cons_zero, List.getElem?_cons_succ] at c0 c1 d0 d1
   rw [Nat.add_zero] at c0 d0
   have hlt : (k : Int) < l.length := by omega
   have hk0 : (0 : Int) ≤ k := by omega
   clear hx
   go_wp2_with fail
   go_quiet (fail)
   go_wp2_with fail
   go_roundw
   case rel => exact ⟨k + 1, by go_num, by omega, ⟨HB.out.os, HB.out.tape, HB.out.output, HB.out.size, HB.out.block⟩⟩
   case measure => simp [intOf]; omega
  ·obtain rfl : k = l.length := by omega
   go_wp2_with fail
   go_ret
   exact ⟨rfl, HB.out⟩
end Go.Proofs.YtlkncmpengpbiaaGreatDoor
/- law26: ModelWaits. -/
namespace Go.Proofs.YtlkncmpengpbiaaGreatDoor
open Go.RowKit Go.Maps Co Key Rw Sa Od Mo Wa

theorem same_true (w : World) (B B' : Nat) (u v : Value) (l : List (Int × Int)) (hu : w.ownsRow B tKey 2 u l.length (l.flatMap encK)) (hv : w.ownsRow B' tKey 2 v l.length (l.flatMap encK)) (hl : l.length < 10000) :
  Calls Tryz.prog 16 #[u, v] w fun e w' => e = .returned (.bool true) ∧ Below w.heap.size w w' := by
 have HK := Hd (keys_true w B B' u v l hu hv hl)
 clear hu hv
 go_enter Tryz.func16, Tryz.ntmps16
 go_wp2_with fail
 refine HK.out.mono ?_
 rintro e w1 ⟨rfl, hb⟩
 go_wp2_with fail
 go_ret
 exact ⟨rfl, hb⟩
theorem ask_key {c : Cor} (h : CoH c) {k : Int × Int} (hk : k ∈ askC c) : (askI c k).2.1 = k.1 ∧ (askI c k).2.2.1 = k.2 := by
 obtain ⟨i, s, _, _, h1, h2, _, _, h3⟩ := ask_in h hk
 rw [h3]
 unfold msgO
 split
 ·exact ⟨by rw [h1]; exact h2, rfl⟩
 ·exact ⟨by rw [h1]; exact h2, rfl⟩
theorem told_in {m : Mod} (h : MoI m) {now : Int} {x : Int × Int} (hx : x ∈ toldW m.w now) : x ∈ askC m.c := by rw [← h.k]; exact told_ks hx
/-- Is it among the first ones? -/
def amid (K : List (Int × Int)) (n : Nat) (x : Int × Int) : Bool := decide (x ∈ K.take n)
theorem amid_succ {K : List (Int × Int)} {n : Nat} {y : Int × Int} (h : K[n]? = some y) (x : Int × Int) : amid K (n + 1) x = (amid K n x || decide (y = x)) := by
 unfold amid
 rw [List.take_add_one, h, Option.toList_some]
 by_cases h1 : x ∈ K.take n
 ·simp [h1]
 ·simp [h1, eq_comm]
theorem i_place {id q a : Int} {r s : List UInt8} (h1 : I64 id) (hq : I64 q) (ha : I64 a) (hr : r.length ≤ maxLen) (hs : s.length ≤ maxLen) : EntI ⟨1, (id, r, s, q, a), (0, 0), 0, (0, 0, [])⟩ := by
 have z : I64 0 := ⟨by decide, by decide⟩
 exact ⟨(⟨by decide, by decide⟩ : I64 1), h1, hq, ha, z, z, z, z, z, hr, hs⟩
theorem toldW_len (W : List W5) (now : Int) : (toldW W now).length ≤ W.length := by unfold toldW; rw [List.length_map]; exact List.length_filter_le _ _
theorem do_len {w1 w w' : World} {mb cb bb pm bm wb wm mb' cb' bb' pm' bm' wb' wm' : Nat} {vl vb vI vl' vb' vI' : Value} {m : Mod} {e : Ent} {n n' : Nat} (_h : St w1 w mb cb bb pm bm wb wm vl vb vI m n) (h' : St w1 w' mb' cb' bb' pm' bm' wb' wm' vl' vb' vI' (doM m e) n') : (doK m e).length ≤ 200 := by
 have hb := h'.bounds.2.2
 rw [applyC_do] at hb
 unfold doK
 split
 ·have h1 : (news (askC m.c) (askC (applyC m.c e))).length ≤ (askC (applyC m.c e)).length := List.length_filter_le _ _
  have h2 : (planL (askC (applyC m.c e)) e.s.1).length ≤ (askC (applyC m.c e)).length := List.length_filter_le _ _
  rw [List.length_append]
  split
  ·omega
  ·simp; omega
 ·simp
set_option linter.unusedSimpArgs false in
set_option linter.unusedVariables false in
set_option maxRecDepth 100000 in
set_option maxHeartbeats 16000000 in
theorem lawModelWaits_walk (w : World) (hK : KW w) (v : Value) (l : List Act2) (hl : Acts w v l) :
  Calls Tryz.prog 3 #[v] w fun e w' => e = .returned (.bool true) ∧ Below w.heap.size w w' := by
 obtain ⟨A, cl, rfl, hlc, hcm⟩ := SlK.shape hl
 have HL := Hd hl; have HK := Hd hK
 clear hl hK
 go_enter Tryz.func3, Tryz.ntmps3
 go_wp2_with fail
 refine (agreats_any w _ l 80 HL.out).mono ?_
 rintro r w1 ⟨rfl, hb⟩
 have HB1 := Hd hb; have HK1 := Hd (HK.out.below hb); have HL1 := Hd (HL.out.keep hb)
 clear hb HL HK
 cases hG : actsG l 80 with
 | true =>
   go_wp2_with fail
   refine (masks_at _ HK1.out).mono ?_
   rintro r w2 ⟨rfl, hb⟩
   have HB2 := Hd (bch HB1.out hb HB1.out.size)
   clear hb
   go_wp2_with fail
   go_ret
   exact ⟨rfl, HB2.out⟩
 | false =>
   have hlen := (actsG_not hG).2
   clear hG
   go_wp2_with fail
   refine (st_new HK1.out (Below.refl _ _)).mono ?_
   rintro r w2 ⟨mb, cb, bb, pm, bm, wb, wm, vl, vb, rfl, hst, hb, _⟩
   have HS := Hd hst
   clear hst hb
   go_wp2_with fail
   go_loopw [3, 4] (fun p i wr => ∃ (k mb cb bb pm bm wb wm : Nat) (vl vb vI : Value) (m : Mod), p = .pointer (some ⟨mb, 0, none⟩) ∧ i = .int .i64 k ∧ k ≤ l.length ∧ Hid (St w1 wr mb cb bb pm bm wb wm vl vb vI m k)) (fun _ i _ => l.length - (intOf i).toNat)
   case atStart => exact ⟨0, _, _, _, _, _, _, _, _, _, _, _, rfl, rfl, Nat.zero_le _, HS.out⟩
   case round =>
     clear HS
     obtain ⟨k, mb, cb, bb, pm, bm, wb, wm, vl, vb, vI, m, rfl, rfl, hk, HSr⟩ := hrel
     have hk0 : (0 : Int) ≤ k := by omega
     by_cases hkl : k < l.length
     · obtain ⟨x, hxx⟩ : ∃ x, l[k]? = some x := ⟨_, List.getElem?_eq_getElem hkl⟩
       have hlt : (k : Int) < l.length := by omega
       obtain ⟨g, off, n', c', Ax, cx, e, hg, hrx, hx8, hd⟩ := HL1.out.cells hxx
       injection e with e1 e2 e3; subst e1; clear e2 e3
       have HD := Hd hd; have HRX := Hd hrx
       clear hd hrx hxx
       have hn9 : k ≤ 900 := by omega
       obtain ⟨kd, e⟩ := x
       simp only at HD HRX hx8
       obtain ⟨km, hkm⟩ : ∃ km, Int.tmod kd 11 = km := ⟨_, rfl⟩
       have hkmb : 0 ≤ km ∧ km < 11 := by rw [← hkm, Int.tmod_eq_emod_of_nonneg hx8.1]; omega
       have hwk : IntKind.u8.wrap km = km := by rw [IntKind.wrap_u8]; omega
       obtain ⟨d0, d1, d2, d3, d4, d5, d6, d7, d8, d9, d10, d11, d12⟩ := HD.out _ HSr.out.bel
       go_upto_block 2 with (fail)
       go_cut [3, 5] from 29 to 64 (fun p s wx => ∃ (mb cb bb pm bm wb wm : Nat) (vl vb vI : Value) (m : Mod) (K : List (Int × Int)), p = .pointer (some ⟨mb, 0, none⟩) ∧ Hid (wx.ownsRow w1.heap.size tMsgM 7 s (K.map (askI m.c)).length ((K.map (askI m.c)).flatMap encM)) ∧ Hid (∀ x ∈ K, x ∈ askC m.c) ∧ K.length ≤ 200 ∧ Hid (St w1 wx mb cb bb pm bm wb wm vl vb vI m (k + 1)))
       case first =>
         by_cases h0 : km = 0
         · subst h0
           go_wp2_with fail
           refine (mplace_any HSr.out.mw (by have := HSr.out.bounds; omega) e.o.1 e.o.2.2.2.1 e.o.2.2.2.2 e.o.2.1 e.o.2.2.1).mono ?_
           rintro r w4 ⟨rfl, hb⟩
           have HS4 := Hd (HSr.out.below hb)
           clear hb
           have hbd := HS4.out.bounds
           go_wp2_with fail
           refine (st_do HS4.out hn9 ⟨1, ((m.c.l.length : Int) + 1, e.o.2.1, e.o.2.2.1, e.o.2.2.2.1, e.o.2.2.2.2), (0, 0), 0, (0, 0, [])⟩ (.slice none 0 0) ⟨Rd.nil _, i_place ⟨by omega, by omega⟩ HRX.out.nn.qt HRX.out.nn.am HRX.out.nn.rf HRX.out.nn.sk⟩).mono ?_
           rintro r w5 ⟨v5, vl', vb', vI', rfl, ho, hst, _⟩
           have HO := Hd ho; have HS5 := Hd hst; have HBZ := Hd HS4.out.bel.size
           clear ho hst d0 d1 d2 d3 d4 d5 d6 d7 d8 d9 d10 d11 d12
           go_wp2_with fail
           go_meet
           exact ⟨_, _, _, _, _, _, _, _, _, _, doM m ⟨1, ((m.c.l.length : Int) + 1, e.o.2.1, e.o.2.2.1, e.o.2.2.2.1, e.o.2.2.2.2), (0, 0), 0, (0, 0, [])⟩, doK m ⟨1, ((m.c.l.length : Int) + 1, e.o.2.1, e.o.2.2.1, e.o.2.2.2.1, e.o.2.2.2.2), (0, 0), 0, (0, 0, [])⟩, rfl, own_base HO.out HBZ.out, fun x hx => sent_in x hx, do_len HS4.out HS5.out, HS5.out⟩
         have q0 := beqF h0
         by_cases h7 : km = 7
         · subst h7
           go_wp2_with fail
           refine (st_tick HSr.out hn9).mono ?_
           rintro r w5 ⟨v5, rfl, ho, hst, _⟩
           have HO := Hd ho; have HS5 := Hd hst; have HBZ := Hd HSr.out.bel.size
           clear ho hst d0 d1 d2 d3 d4 d5 d6 d7 d8 d9 d10 d11 d12
           go_wp2_with fail
           go_meet
           exact ⟨_, _, _, _, _, _, _, _, _, _, tickM m, toldW m.w (m.now + 1), rfl, own_base HO.out HBZ.out, fun x hx => told_in HSr.out.mi hx, by have := HSr.out.bounds; have h2 := toldW_len m.w (m.now + 1); omega, HS5.out⟩
         have q7 := beqF h7
         by_cases h8 : km = 8
         · subst h8
           go_wp2_with fail
           refine (st_tick HSr.out hn9).mono ?_
           rintro r w5 ⟨v5, rfl, ho, hst, _⟩
           have HO := Hd ho; have HS5 := Hd hst; have HBZ := Hd HSr.out.bel.size
           clear ho hst d0 d1 d2 d3 d4 d5 d6 d7 d8 d9 d10 d11 d12
           go_wp2_with fail
           go_meet
           exact ⟨_, _, _, _, _, _, _, _, _, _, tickM m, toldW m.w (m.now + 1), rfl, own_base HO.out HBZ.out, fun x hx => told_in HSr.out.mi hx, by have := HSr.out.bounds; have h2 := toldW_len m.w (m.now + 1); omega, HS5.out⟩
         have q8 := beqF h8
         by_cases h9 : km = 9
         · subst h9
           go_wp2_with fail
           refine (st_tick HSr.out hn9).mono ?_
           rintro r w5 ⟨v5, rfl, ho, hst, _⟩
           have HO := Hd ho; have HS5 := Hd hst; have HBZ := Hd HSr.out.bel.size
           clear ho hst d0 d1 d2 d3 d4 d5 d6 d7 d8 d9 d10 d11 d12
           go_wp2_with fail
           go_meet
           exact ⟨_, _, _, _, _, _, _, _, _, _, tickM m, toldW m.w (m.now + 1), rfl, own_base HO.out HBZ.out, fun x hx => told_in HSr.out.mi hx, by have := HSr.out.bounds; have h2 := toldW_len m.w (m.now + 1); omega, HS5.out⟩
         have q9 := beqF h9
         by_cases h10 : km = 10
         · subst h10
           go_wp2_with fail
           refine (st_core HSr.out hn9).mono ?_
           rintro r w4 ⟨c2, b2, p2, m2, vl2, vb2, rfl, hc, hb⟩
           have HC4 := Hd hc; have HB4 := Hd (bch HSr.out.bel hb HSr.out.bel.size)
           clear hc hb d0 d1 d2 d3 d4 d5 d6 d7 d8 d9 d10 d11 d12
           go_wp2_with fail
           refine (st_of HC4.out HSr.out.ci HSr.out.ch hn9 HSr.out.kw HB4.out).mono ?_
           rintro r w5 ⟨mb2, cb2, b3, p3, m3, wb2, wm2, vl3, vb3, rfl, hst, _, _⟩
           have HS5 := Hd hst.more
           clear hst
           go_wp2_with fail
           go_meet
           exact ⟨_, _, _, _, _, _, _, _, _, _, _, [], rfl, World.ownsRow_nil _ _ _ _, fun x hx => (by cases hx), by decide, HS5.out⟩
         have q10 := beqF h10
         clear h0 h7 h8 h9 h10 hkm
         go_wp2_with fail
         refine (st_do HSr.out hn9 e _ (HRX.out.below HSr.out.bel)).mono ?_
         rintro r w5 ⟨v5, vl', vb', vI', rfl, ho, hst, _⟩
         have HO := Hd ho; have HS5 := Hd hst; have HBZ := Hd HSr.out.bel.size
         clear ho hst d0 d1 d2 d3 d4 d5 d6 d7 d8 d9 d10 d11 d12
         go_wp2_with fail
         go_meet
         exact ⟨_, _, _, _, _, _, _, _, _, _, doM m e, doK m e, rfl, own_base HO.out HBZ.out, fun x hx => sent_in x hx, do_len HSr.out HS5.out, HS5.out⟩
       case rest =>
         clear HSr HD HRX
         obtain ⟨mb, cb, bb, pm, bm, wb, wm, vl, vb, vI, m, K, rfl, HO, HKI, hKl, HS⟩ := hcut
         have hbd := HS.out.bounds
         obtain ⟨AS, cS, rfl, hAS⟩ := own_slice HO.out
         have HAS := Hd hAS
         clear hAS
         go_wp2_with fail
         refine (st_core HS.out (n := k + 1) (by omega)).mono ?_
         rintro r w4 ⟨c2, b2, p2, m2, vl2, vb2, rfl, hc, hb⟩
         have HC4 := Hd hc; have HS4 := Hd (HS.out.below hb); have HO4 := Hd (own_keep HO.out hb)
         clear hc hb HS HO
         go_wp2_with fail
         refine (casks_any HC4.out (fun k s hs => (HS4.out.ch.at1 k s hs).1) (by omega)).mono ?_
         rintro r w5 ⟨v5, rfl, ho, hb⟩
         have HKS := Hd (show w5.ownsRow w4.heap.size tKey 2 v5 (askC m.c).length ((askC m.c).flatMap encK) from ho); have HS5 := Hd (HS4.out.below hb); have HO5 := Hd (own_keep HO4.out hb)
         clear ho hb HC4 HS4 HO4
         go_wp2_with fail
         refine (st_waits HS5.out).mono ?_
         rintro r w6 ⟨v6, rfl, ho, hb⟩
         obtain ⟨A6, c6, rfl, hA6⟩ := own_slice ho
         have HA6 := Hd hA6
         have HW6 := Hd ho; have HS6 := Hd (HS5.out.below hb); have HO6 := Hd (own_keep HO5.out hb); have HKS6 := Hd (own_keep HKS.out hb)
         clear ho hb hA6 HS5 HO5 HKS
         obtain ⟨ki0, hki, hk0', hk1', hk2'⟩ := info_parts key_info
         go_wp2_with fail
         go_loopw [7, 9] (fun v i wr => ∃ n : Nat, i = .int .i64 n ∧ n ≤ m.w.length ∧ Hid (wr.ownsRow w6.heap.size tKey 2 v (ks (m.w.take n)).length ((ks (m.w.take n)).flatMap encK)) ∧ Hid (Below w6.heap.size w6 wr)) (fun _ i _ => m.w.length - (intOf i).toNat)
         case atStart => exact ⟨0, rfl, Nat.zero_le _, World.ownsRow_nil _ _ _ _, Below.refl _ _⟩
         case round =>
           obtain ⟨n, rfl, hn, HV, HBn⟩ := hrel
           have hn0 : (0 : Int) ≤ n := by omega
           by_cases hnl : n < m.w.length
           · obtain ⟨y, hy⟩ : ∃ y, m.w[n]? = some y := ⟨_, List.getElem?_eq_getElem hnl⟩
             obtain ⟨g6, rfl, _, _⟩ := HA6.out (by omega)
             have hlt : (n : Int) < m.w.length := by omega
             have HWr := own_keep HW6.out HBn.out
             have r0 := own_cellK encW_len (by decide) HWr hy 0 (by decide)
             have r1 := own_cellK encW_len (by decide) HWr hy 1 (by decide)
             have HY := Hd hy
             obtain ⟨⟨o, d⟩, yr⟩ := y
             simp only [encW, List.getElem?_cons_zero, List.getElem?_cons_succ, Nat.add_zero] at r0 r1
             clear hy HWr
             have hkl2 : (ks (m.w.take n)).length ≤ 60 := by unfold ks; rw [List.length_map, List.length_take]; omega
             have hsz := HBn.out.size
             go_wp2_with (at_builtin; refine wpList_append_any _ rfl (.tmp 76) (.tmp 82) tKeysC rfl w6.heap.size tKey ki0 (.agg #[.int .i64 0, .int .i64 0]) 2 16 Tryz.underlying47 hki hk0' hk1' hk2' rfl (by decide) _ _ _ rfl (World.ownsRow.alloc HV.out _) 1 [.int .i64 o, .int .i64 d] (src_blk (xs := [.int .i64 o, .int .i64 d]) (heap_new _ _) (by intro u hu; simp at hu; rcases hu with rfl | rfl <;> rfl)) (by unfold maxLen; omega) (by omega) (by simp; omega) ?_; intro v7 w7 ho7 hg7 hat7)
             have HV7 := Hd (show w7.ownsRow w6.heap.size tKey 2 v7 (ks (m.w.take (n + 1))).length ((ks (m.w.take (n + 1))).flatMap encK) by unfold ks at ho7 ⊢; rw [List.take_add_one, HY.out, Option.toList_some, List.map_append, List.length_append, List.flatMap_append]; simpa [encK] using ho7)
             have HB7 := Hd (Below.grown (HBn.out.alloc HBn.out.size (.cells #[.int .i64 o, .int .i64 d] tKey)) hg7 (by simp; omega) (fun j hj => (HV.out.lt j hj).1))
             clear ho7 hg7 hat7 r0 r1
             go_roundw
             case rel => exact ⟨n + 1, by go_num, by omega, HV7.out, HB7.out⟩
             case measure => simp [intOf]; omega
           · obtain rfl : n = m.w.length := by omega
             obtain ⟨wE, rfl⟩ : ∃ wE, wE = wr := ⟨_, rfl⟩
             have hv := HV.out
             rw [List.take_length, HS6.out.mi.k] at hv
             have HVE := Hd hv; have HSE := Hd (HS6.out.below HBn.out); have HOE := Hd (own_keep HO6.out HBn.out); have HKE := Hd (own_keep HKS6.out HBn.out)
             clear hv HV HS6 HO6 HKS6 HBn HW6 HA6 hnl
             go_wp2_with fail
             refine (same_true _ _ _ _ _ (askC m.c) HKE.out HVE.out (by omega)).mono ?_
             rintro r w8 ⟨rfl, hb⟩
             have HS8 := Hd (HSE.out.below hb); have HO8 := Hd (own_keep HOE.out hb); have HK8 := Hd (own_keep HKE.out hb)
             clear hb HSE HOE HKE HVE
             obtain ⟨AK, cK, rfl, hAK⟩ := own_slice HK8.out
             have HAK := Hd hAK
             clear hAK
             have hml : (K.map (askI m.c)).length = K.length := by rw [List.length_map]
             have HML := Hd hml
             rw [hml] at HO8 HAS
             clear hml
             try rw [HML.out]
             go_wp2_with fail
             go_loopw [10] (fun i wr => ∃ n : Nat, i = .int .i64 n ∧ n ≤ K.length ∧ Hid (Below w8.heap.size w8 wr)) (fun i _ => K.length - (intOf i).toNat)
             case atStart => exact ⟨0, rfl, Nat.zero_le _, Below.refl _ _⟩
             case round =>
               obtain ⟨n, rfl, hn, HBn⟩ := hrel
               have hn0 : (0 : Int) ≤ n := by omega
               by_cases hnl : n < K.length
               · obtain ⟨x, hx⟩ : ∃ x, K[n]? = some x := ⟨_, List.getElem?_eq_getElem hnl⟩
                 have hlt : (n : Int) < K.length := by omega
                 have hxm := HKI.out x (List.mem_of_getElem? hx)
                 obtain ⟨gS, rfl, _, _⟩ := HAS.out (by omega)
                 obtain ⟨hk1, hk2⟩ := ask_key HS8.out.ch hxm
                 have hxs : (K.map (askI m.c))[n]? = some (askI m.c x) := by rw [List.getElem?_map, hx]; rfl
                 have HX := Hd hxs
                 have HXM := Hd hxm; have HK1x := Hd hk1; have HK2x := Hd hk2
                 clear hx hxm hxs hk1 hk2
                 obtain ⟨wE, rfl⟩ : ∃ wE, wE = wr := ⟨_, rfl⟩
                 go_wp2_with fail
                 go_loopw [11, 12] (fun b j wr => ∃ q : Nat, j = .int .i64 q ∧ q ≤ (askC m.c).length ∧ b = .bool (amid (askC m.c) q x) ∧ Hid (Below w8.heap.size w8 wr)) (fun _ j _ => (askC m.c).length - (intOf j).toNat)
                 case atStart => exact ⟨0, rfl, Nat.zero_le _, rfl, HBn.out⟩
                 case round =>
                   obtain ⟨q, rfl, hq, rfl, HBq⟩ := hrel
                   have hq0 : (0 : Int) ≤ q := by omega
                   by_cases hql : q < (askC m.c).length
                   · obtain ⟨y, hy⟩ : ∃ y, (askC m.c)[q]? = some y := ⟨_, List.getElem?_eq_getElem hql⟩
                     obtain ⟨gK, rfl, _, _⟩ := HAK.out (by omega)
                     have hltq : (q : Int) < (askC m.c).length := by omega
                     have HE := Hd (amid_succ hy x)
                     have r0 := own_cellK encK_len (by decide) (own_keep HK8.out HBq.out) hy 0 (by decide)
                     have r1 := own_cellK encK_len (by decide) (own_keep HK8.out HBq.out) hy 1 (by decide)
                     clear hy
                     have HOr := own_keep HO8.out HBq.out
                     rw [← HML.out] at HOr
                     have s0 := own_cellK encM_len (by decide) HOr HX.out 1 (by decide)
                     have s1 := own_cellK encM_len (by decide) HOr HX.out 2 (by decide)
                     simp only [encM, List.getElem?_cons_zero, List.getElem?_cons_succ] at s0 s1
                     rw [HK1x.out] at s0
                     rw [HK2x.out] at s1
                     clear HOr
                     simp only [encK, List.getElem?_cons_zero, List.getElem?_cons_succ, Nat.add_zero] at r0 r1
                     obtain ⟨o, d⟩ := x
                     obtain ⟨o', d'⟩ := y
                     simp only at r0 r1 s0 s1
                     cases hia : amid (askC m.c) q (o, d) with
                     | true =>
                       rw [hia] at HE
                       clear hia
                       have HE2 := Hd (show amid (askC m.c) (q + 1) (o, d) = true by rw [HE.out]; rfl)
                       go_wp2_with fail
                       go_quiet (fail)
                       go_wp2_with fail
                       go_roundw
                       case rel => exact ⟨q + 1, by go_num, by omega, by rw [HE2.out], below_drewN HBq.out _⟩
                       case measure => simp [intOf]; omega
                     | false =>
                       rw [hia] at HE
                       clear hia
                       by_cases h1 : o' = o
                       · subst h1
                         by_cases h2 : d' = d
                         · subst h2
                           have HE2 := Hd (show amid (askC m.c) (q + 1) (o', d') = true by rw [HE.out]; simp)
                           go_wp2_with fail
                           go_quiet (fail)
                           go_wp2_with fail
                           go_roundw
                           case rel => exact ⟨q + 1, by go_num, by omega, by rw [HE2.out], below_drewN HBq.out _⟩
                           case measure => simp [intOf]; omega
                         · have q2 := beqF h2
                           have HE2 := Hd (show amid (askC m.c) (q + 1) (o', d) = false by rw [HE.out]; simp [h2])
                           clear h2
                           go_wp2_with fail
                           go_quiet (fail)
                           go_wp2_with fail
                           go_roundw
                           case rel => exact ⟨q + 1, by go_num, by omega, by rw [HE2.out], below_drewN HBq.out _⟩
                           case measure => simp [intOf]; omega
                       · have q1 := beqF h1
                         have HE2 := Hd (show amid (askC m.c) (q + 1) (o, d) = false by rw [HE.out]; simp [h1])
                         clear h1
                         go_wp2_with fail
                         go_quiet (fail)
                         go_wp2_with fail
                         go_roundw
                         case rel => exact ⟨q + 1, by go_num, by omega, by rw [HE2.out], below_drewN HBq.out _⟩
                         case measure => simp [intOf]; omega
                   · obtain rfl : q = (askC m.c).length := by omega
                     have HE := Hd (show amid (askC m.c) (askC m.c).length x = true by unfold amid; rw [List.take_length]; exact decide_eq_true HXM.out)
                     rw [HE.out]
                     go_wp2_with fail
                     go_roundw
                     case rel => exact ⟨n + 1, by go_num, by omega, HBq.out⟩
                     case measure => simp [intOf]; omega
               · obtain rfl : n = K.length := by omega
                 go_wp2_with fail
                 go_roundw
                 case rel => exact ⟨k + 1, _, _, _, _, _, _, _, _, _, _, _, rfl, by go_num, by omega, HS8.out.below HBn.out⟩
                 case measure => simp [intOf]; omega
     · obtain rfl : k = l.length := by omega
       go_wp2_with fail
       refine (masks_at _ (HSr.out.kw.below HSr.out.bel)).mono ?_
       rintro r w4 ⟨rfl, hb⟩
       have HB4 := Hd (bch HB1.out (bch HSr.out.bel hb HSr.out.bel.size) HB1.out.size)
       clear hb
       go_wp2_with fail
       go_ret
       exact ⟨rfl, HB4.out⟩
end Go.Proofs.YtlkncmpengpbiaaGreatDoor

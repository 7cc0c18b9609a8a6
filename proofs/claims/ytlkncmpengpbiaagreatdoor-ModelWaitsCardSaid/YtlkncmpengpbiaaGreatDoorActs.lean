/- What the laid tables give: keys.Put, strconv.Itoa; the law's came. -/
import Derived.Test.YtlkncmpengpbiaaGreatDoorCoreCame
import Derived.Test.YtlkncmpengpbiaaGreatDoorCorePut
import Derived.Test.YtlkncmpengpbiaaGreatDoorShelf
import Derived.Test.YtlkncmpengpbiaaGreatDoorModelDo
import Derived.Test.YtlkncmpengpbiaaGreatDoorCoreGreat
namespace Go.Proofs.YtlkncmpengpbiaaGreatDoor
open Go.RowKit Go.Maps Co Key Rw Sa Od

theorem kw_pt {w : World} (h : KW w) : PT w := h.tab
theorem kw_itoa {w : World} (h : KW w) (n : Int) (W : World) (h0 : 0 ≤ n) (h1 : n ≤ 1073741824) (hW : Below w.heap.size w W) : Calls Tryz.prog 104 #[.int .i64 n] W fun e w' => e = .returned (.string ⟨(Lib.itoa n).toArray⟩) ∧ Below W.heap.size W w' := by
  refine (Tryz.strconv_Itoa n (by omega) (by omega) W (h.below hW).mw.tab).mono ?_
  rintro e w' ⟨rfl, k, os, rfl⟩
  exact ⟨rfl, below_growN _ _ _⟩
end Go.Proofs.YtlkncmpengpbiaaGreatDoor
/- What a law over models holds between two acts, and how its acts keep it. -/
namespace Go.Proofs.YtlkncmpengpbiaaGreatDoor
open Go.RowKit Go.Maps Co Key Rw Sa Od Mo Wa
set_option linter.unusedVariables false
set_option maxRecDepth 100000
set_option maxHeartbeats 4000000

theorem applyC_do (m : Mod) (e : Ent) : (doM m e).c = applyC m.c e := by
 by_cases h : applyE m.c e = 0
 ·unfold doM; rw [if_pos h]
 ·unfold doM; rw [if_neg h, apply_fail h]
theorem doM_now (m : Mod) (e : Ent) : (doM m e).now = m.now := by unfold doM; split <;> rfl
/-- A law's model behind n acts; the tables as they lay in w1. -/
structure St (w1 w : World) (mb cb bb pm bm wb wm : Nat) (vl vb vI : Value) (m : Mod) (n : Nat) : Prop where
 mw : MdW w1.heap.size w mb cb bb pm bm wb wm vl vb vI m
 ci : CoI m.c n
 ch : CoH m.c
 mi : MoI m
 now : 0 ≤ m.now ∧ m.now ≤ n
 kw : KW w1
 bel : Below w1.heap.size w1 w
section
variable {w1 w w' : World} {mb cb bb pm bm wb wm : Nat} {vl vb vI : Value} {m : Mod} {n : Nat}
theorem St.below (h : St w1 w mb cb bb pm bm wb wm vl vb vI m n) (hb : Below w.heap.size w w') : St w1 w' mb cb bb pm bm wb wm vl vb vI m n :=
 ⟨h.mw.below hb, h.ci, h.ch, h.mi, h.now, h.kw, bch h.bel hb h.bel.size⟩
theorem St.more (h : St w1 w mb cb bb pm bm wb wm vl vb vI m n) : St w1 w mb cb bb pm bm wb wm vl vb vI m (n + 1) :=
 ⟨h.mw, h.ci.more, h.ch, h.mi, by have := h.now; omega, h.kw, h.bel⟩
theorem St.far (h : St w1 w mb cb bb pm bm wb wm vl vb vI m n) (hb : Below w1.heap.size w w') {S : Nat → Prop} (ht : Turned S w w') (hS : ∀ j, S j → ¬ Ms mb cb bb pm bm wb wm vl vb j ∧ Av j vI m.c.inn) : St w1 w' mb cb bb pm bm wb wm vl vb vI m n :=
 ⟨h.mw.kept ht (fun j hj hs => (hS j hs).1 hj) (fun j hs => (hS j hs).2), h.ci, h.ch, h.mi, h.now, h.kw, h.bel.trans hb⟩
theorem St.tabs (h : St w1 w mb cb bb pm bm wb wm vl vb vI m n) {W : World} (hb : Below w1.heap.size w W) : KW W := h.kw.below (h.bel.trans hb)
theorem St.bounds (h : St w1 w mb cb bb pm bm wb wm vl vb vI m n) : m.c.l.length ≤ 60 ∧ m.w.length ≤ 60 ∧ (askC m.c).length ≤ 60 := by
 have h1 := h.ci.le; have h2 := MoI.len h.mi; have h3 := askC_len m.c; omega
theorem St.ls (h : St w1 w mb cb bb pm bm wb wm vl vb vI m n) : ∀ j, Ms mb cb bb pm bm wb wm vl vb j → w1.heap.size ≤ j ∧ j < w.heap.size := fun j hj => h.mw.ls hj
theorem St.turned (h : St w1 w mb cb bb pm bm wb wm vl vb vI m n) (ht : Turned (Ms mb cb bb pm bm wb wm vl vb) w w') : Below w1.heap.size w w' :=
 Below.turned (Below.refl w1.heap.size w) ht (fun j hj => (h.ls j hj).1) h.bel.size
theorem st_do (h : St w1 w mb cb bb pm bm wb wm vl vb vI m n) (hn : n ≤ 900) (e : Ent) (U : Value) (hu : EntAt w U e) :
  Calls Tryz.prog 9 #[.pointer (some ⟨mb, 0, none⟩), .agg #[.int .i64 e.kind, .int .i64 e.o.1, .string ⟨e.o.2.1.toArray⟩, .string ⟨e.o.2.2.1.toArray⟩, .int .i64 e.o.2.2.2.1, .int .i64 e.o.2.2.2.2, .int .i64 e.k.1, .int .i64 e.k.2, .int .i64 e.code, .int .i64 e.s.1, .int .i64 e.s.2.1, U]] w fun r w' => ∃ v vl' vb' vI', r = .returned (.tuple #[v, .int .i64 (doE m e)]) ∧ w'.ownsRow w.heap.size tMsgM 7 v (doMs m e).length ((doMs m e).flatMap encM) ∧ St w1 w' mb cb bb pm bm wb wm vl' vb' vI' (doM m e) (n + 1) ∧ Turned (Ms mb cb bb pm bm wb wm vl vb) w w' := by
 refine (mdo_any h.mw h.ci hn h.ch h.mi (by have := h.now; omega) h.bel.size (fun W hW => kw_pt (h.tabs hW)) e U hu.rd hu.nn.ko (fun W hW => putK_any _ _ W (h.tabs hW)) (fun n W h0 h1 hW => kw_itoa (h.tabs hW) n W h0 h1 (Below.refl _ _))).mono ?_
 rintro r w' ⟨v, vl', vb', vI', rfl, ho, hm, ht⟩
 have hci : CoI (doM m e).c (n + 1) := by rw [applyC_do]; exact h.ci.apply e
 have hch : CoH (doM m e).c := by rw [applyC_do]; exact h.ch.apply h.ci e
 exact ⟨v, vl', vb', vI', rfl, ho, ⟨hm, hci, hch, h.mi.doM (by rw [← applyC_do]; exact hch) (by rw [← applyC_do]; exact hci.le), by rw [doM_now]; have := h.now; omega, h.kw, h.bel.trans (h.turned ht)⟩, ht⟩
theorem st_tick (h : St w1 w mb cb bb pm bm wb wm vl vb vI m n) (hn : n ≤ 900) :
  Calls Tryz.prog 11 #[.pointer (some ⟨mb, 0, none⟩)] w fun e w' => ∃ v, e = .returned v ∧ w'.ownsRow w.heap.size tMsgM 7 v (tickMs m).length ((tickMs m).flatMap encM) ∧ St w1 w' mb cb bb pm bm wb wm vl vb vI (tickM m) (n + 1) ∧ Turned (fun j => j = mb ∨ j = wm) w w' := by
 refine (mtick_any h.mw h.mi h.ch h.bounds.1 (kw_pt (h.tabs (Below.refl _ _))) (by have := h.now; omega) h.bel.size (fun W hW => kw_pt (h.tabs hW))).mono ?_
 rintro r w' ⟨v, rfl, ho, hm, ht⟩
 exact ⟨v, rfl, ho, ⟨hm, h.ci.more, h.ch, h.mi.tick, by have := h.now; show 0 ≤ m.now + 1 ∧ m.now + 1 ≤ ((n + 1 : Nat) : Int); omega, h.kw, h.bel.trans (h.turned (ht.mono (fun j hj => by rcases hj with e | e; exact .inr (.inl e); exact .inr (.inr (.inr e)))))⟩, ht⟩
theorem st_new (hK : KW w1) (hb : Below w1.heap.size w1 w) : Calls Tryz.prog 8 #[] w fun e w' => ∃ mb2 cb2 b2 p2 m2 wb2 wm2 vl2 vb2, e = .returned (.pointer (some ⟨mb2, 0, none⟩)) ∧ St w1 w' mb2 cb2 b2 p2 m2 wb2 wm2 vl2 vb2 vIn0 (ofM nilC) 0 ∧ Below w.heap.size w w' ∧ ∀ j, Ms mb2 cb2 b2 p2 m2 wb2 wm2 vl2 vb2 j → w.heap.size ≤ j := by
 refine (mnew_any w).mono ?_
 rintro e w' ⟨mb2, cb2, b2, p2, m2, wb2, wm2, vl2, vb2, rfl, hm, hbl⟩
 exact ⟨_, _, _, _, _, _, _, _, _, rfl, ⟨hm.base hb.size, CoI.nil, CoH.nil, MoI.ofM CoH.nil (by decide), ⟨Int.le_refl _, Int.le_refl _⟩, hK, bch hb hbl hb.size⟩, hbl, fun j hj => (hm.ls hj).1⟩
/-- The model anew of its core. -/
theorem st_core (h : St w1 w mb cb bb pm bm wb wm vl vb vI m n) (hn : n ≤ 900) : Calls Tryz.prog 13 #[.pointer (some ⟨mb, 0, none⟩)] w fun e w' => ∃ c2 b2 p2 m2 vl2 vb2, e = .returned (.pointer (some ⟨c2, 0, none⟩)) ∧ Cw w.heap.size w' c2 b2 p2 m2 vl2 vb2 vI m.c ∧ Below w.heap.size w w' := by
 have h1 := h.ci.le; have h2 := h.ci.bl
 exact mcore_any h.mw (by omega) (by omega)
theorem st_of {c : Cor} {B : Nat} {c2 b2 p2 m2 : Nat} {vl2 vb2 : Value} (hC : Cw B w c2 b2 p2 m2 vl2 vb2 vI c) (hci : CoI c n) (hch : CoH c) (hn : n ≤ 900) (hK : KW w1) (hb : Below w1.heap.size w1 w) : Calls Tryz.prog 12 #[.pointer (some ⟨c2, 0, none⟩)] w fun e w' => ∃ mb2 cb2 b2 p2 m2 wb2 wm2 vl2 vb2, e = .returned (.pointer (some ⟨mb2, 0, none⟩)) ∧ St w1 w' mb2 cb2 b2 p2 m2 wb2 wm2 vl2 vb2 vI (ofM c) n ∧ Below w.heap.size w w' ∧ ∀ j, Ms mb2 cb2 b2 p2 m2 wb2 wm2 vl2 vb2 j → w.heap.size ≤ j := by
 have h1 := hci.le; have h2 := hci.bl
 refine (mof_any hC hch (by omega) (by omega)).mono ?_
 rintro e w' ⟨mb2, cb2, b2, p2, m2, wb2, wm2, vl2, vb2, rfl, hm, hbl⟩
 exact ⟨_, _, _, _, _, _, _, _, _, rfl, ⟨hm.base hb.size, hci, hch, MoI.ofM hch hci.le, ⟨Int.le_refl _, by show (0 : Int) ≤ n; omega⟩, hK, bch hb hbl hb.size⟩, hbl, fun j hj => (hm.ls hj).1⟩
theorem st_waits (h : St w1 w mb cb bb pm bm wb wm vl vb vI m n) : Calls Tryz.prog 15 #[.pointer (some ⟨mb, 0, none⟩)] w fun e w' => ∃ v, e = .returned v ∧ w'.ownsRow w.heap.size tWait 5 v m.w.length (m.w.flatMap encW) ∧ Below w.heap.size w w' := by
 have := h.bounds
 exact mwaits_any h.mw h.mi.g (by omega)
end
end Go.Proofs.YtlkncmpengpbiaaGreatDoor
/- The chapter's order, at a model: the law's asks. -/
namespace Go.Proofs.YtlkncmpengpbiaaGreatDoor
open Go.RowKit Go.Maps Co Key Rw Sa Od Mo Wa

namespace Mo
def eC2 : Ent := ⟨2, o0, (2, 0), 0, s0⟩
def msgA : M7 := (1, 1, 0, [98], 2, 0, 0)
def mA0 : Mod := ofM nilC
def mT : Nat → Mod
 | 0 => doM mA0 eM1
 | k + 1 => tickM (mT k)
theorem aD1 : doE mA0 eM1 = 0 := by decide +kernel
theorem aD2 : doMs mA0 eM1 = [msgA] := by kernel_rfl
theorem aT0 : tickMs (mT 0) = [msgA] := by kernel_rfl
theorem aT1 : tickMs (mT 1) = [] := by kernel_rfl
theorem aT2 : tickMs (mT 2) = [msgA] := by kernel_rfl
theorem aT3 : tickMs (mT 3) = [] := by kernel_rfl
theorem aT4 : tickMs (mT 4) = [] := by kernel_rfl
theorem aD5 : doE (mT 5) eC2 = 4 := by decide +kernel
theorem aN5 : (doM (mT 5) eC2).now = 5 := by decide +kernel
end Mo
theorem ent_of (w : World) (e : Ent) (h : EntI e) (hs : e.s.2.2 = []) : EntAt w (.slice none 0 0) e := ⟨by rw [hs]; exact Rd.nil _, h⟩
theorem i_eM1 : EntI eM1 := ⟨⟨by decide, by decide⟩, ⟨by decide, by decide⟩, ⟨by decide, by decide⟩, ⟨by decide, by decide⟩, ⟨by decide, by decide⟩, ⟨by decide, by decide⟩, ⟨by decide, by decide⟩, ⟨by decide, by decide⟩, ⟨by decide, by decide⟩, by decide, by decide⟩
theorem i_eC2 : EntI eC2 := ⟨⟨by decide, by decide⟩, ⟨by decide, by decide⟩, ⟨by decide, by decide⟩, ⟨by decide, by decide⟩, ⟨by decide, by decide⟩, ⟨by decide, by decide⟩, ⟨by decide, by decide⟩, ⟨by decide, by decide⟩, ⟨by decide, by decide⟩, by decide, by decide⟩
/-- The one message's cells. -/
theorem msg_cells {w : World} {B : Nat} {v : Value} (h : w.ownsRow B tMsgM 7 v [msgA].length ([msgA].flatMap encM)) : ∃ g c, v = .slice (some ⟨g, 0, none⟩) 1 c ∧ w.cell? ⟨g, 0, none⟩ = some (.int .i64 1) ∧ w.cell? ⟨g, 1, none⟩ = some (.int .i64 1) ∧ w.cell? ⟨g, 2, none⟩ = some (.int .i64 0) ∧ w.cell? ⟨g, 3, none⟩ = some (.string ⟨#[98]⟩) ∧ w.cell? ⟨g, 4, none⟩ = some (.int .i64 2) ∧ w.cell? ⟨g, 5, none⟩ = some (.int .i64 0) ∧ w.cell? ⟨g, 6, none⟩ = some (.int .i64 0) := by
 obtain ⟨A, c, rfl, hA⟩ := own_slice h
 obtain ⟨g, rfl, _, _⟩ := hA (by decide)
 have hc := fun j (hj : j < 7) => own_cellK (l := [msgA]) encM_len (by decide) h (i := 0) (x := msgA) rfl j hj
 exact ⟨g, c, rfl, hc 0 (by decide), hc 1 (by decide), hc 2 (by decide), hc 3 (by decide), hc 4 (by decide), hc 5 (by decide), hc 6 (by decide)⟩
set_option linter.unusedSimpArgs false in
set_option linter.unusedVariables false in
set_option maxRecDepth 100000 in
set_option maxHeartbeats 8000000 in
theorem masks_at (w : World) (hK : KW w) : Calls Tryz.prog 7 #[] w fun e w' => e = .returned (.bool true) ∧ Below w.heap.size w w' := by
 have HK := Hd hK
 clear hK
 go_enter Tryz.func7, Tryz.ntmps7
 go_wp2_with fail
 refine (st_new HK.out (Below.refl _ _)).mono ?_
 rintro e w1 ⟨mb, cb, bb, pm, bm, wb, wm, vl, vb, rfl, hst, hb, _⟩
 have HS := Hd hst; have HB := Hd hb
 clear hst hb
 go_wp2_with fail
 refine (mplace_any HS.out.mw (by decide) 0 2 500 [97] [98]).mono ?_
 rintro e w2 ⟨rfl, hb⟩
 have HS2 := Hd (HS.out.below hb); have HB2 := Hd (bch HB.out hb HB.out.size)
 have HMW0 := Hd (fun j (h : j = mb ∨ j = wm) => (HS2.out.ls j (by rcases h with e | e; exact .inr (.inl e); exact .inr (.inr (.inr e)))).2)
 clear hb HS
 go_wp2_with fail
 refine (st_do HS2.out (by decide) eM1 (.slice none 0 0) (ent_of _ _ i_eM1 rfl)).mono ?_
 rintro r w3 ⟨v, vl', vb', vI', he, ho, hst, ht⟩
 rw [show doE (ofM nilC) eM1 = 0 from aD1] at he
 subst he
 rw [show doMs (ofM nilC) eM1 = [msgA] from aD2] at ho
 have HO := Hd ho; have HS3 := Hd (show St w w3 mb cb bb pm bm wb wm vl' vb' vI' (mT 0) 1 from hst); have HB3 := Hd (HS2.out.bel.trans (HS2.out.turned ht))
 clear ho hst ht HS2
 obtain ⟨g, c, rfl, d0, d1, d2, d3, d4, d5, d6⟩ := msg_cells HO.out
 go_wp2_with fail
 clear d0 d1 d2 d3 d4 d5 d6
 have HMW := Hd (show ∀ j, (j = mb ∨ j = wm) → j < w2.heap.size from HMW0.out)
 go_loopw [4, 5] (fun i _ wr => ∃ k : Nat, i = .int .i64 ((k : Int) + 1) ∧ k ≤ 5 ∧ Hid (wr.ownsRow w2.heap.size tMsgM 7 (.slice (some ⟨g, 0, none⟩) 1 c) [msgA].length ([msgA].flatMap encM)) ∧ Hid (St w wr mb cb bb pm bm wb wm vl' vb' vI' (mT k) (k + 1))) (fun i _ _ => 6 - (intOf i).toNat)
 case atStart => exact ⟨0, by go_num, by decide, HO.out, HS3.out⟩
 case round =>
   obtain ⟨k, rfl, hk, HOr, HSr⟩ := hrel
   obtain rfl | rfl | rfl | rfl | rfl | rfl : k = 0 ∨ k = 1 ∨ k = 2 ∨ k = 3 ∨ k = 4 ∨ k = 5 := by omega
   · rw [show (((0 : Nat) : Int) + 1) = 1 from rfl]
     go_wp2_with fail
     refine (st_tick HSr.out (by decide)).mono ?_
     rintro r w4 ⟨v4, rfl, ho, hst, ht⟩
     rw [aT0] at ho
     have HO4 := Hd (own_turned HOr.out ht (fun j hj e => by have h1 := (HOr.out.lt j hj).1; have h2 := HMW.out j e; omega))
     have HS4 := Hd (show St w w4 mb cb bb pm bm wb wm vl' vb' vI' (mT 1) 2 from hst)
     obtain ⟨g4, c4, rfl, t0, t1, t2, t3, t4, t5, t6⟩ := msg_cells ho
     obtain ⟨g5, c5, e5, d0, d1, d2, d3, d4, d5, d6⟩ := msg_cells HO4.out
     injection e5 with e5 e6 e7; injection e5 with e5; injection e5 with e5; subst e5; subst e7
     clear ho hst ht
     go_wp2_with fail
     go_quiet (fail)
     go_wp2_with fail
     go_roundw
     case rel => exact ⟨1, by go_num, by decide, own_keep HO4.out (below_drewN (Below.refl _ w4) _), HS4.out.below (below_drewN (Below.refl _ w4) _)⟩
     case measure => simp [intOf]
   · rw [show (((1 : Nat) : Int) + 1) = 2 from rfl]
     go_wp2_with fail
     refine (st_tick HSr.out (by decide)).mono ?_
     rintro r w4 ⟨v4, rfl, ho, hst, ht⟩
     rw [aT1] at ho
     have HO4 := Hd (own_turned HOr.out ht (fun j hj e => by have h1 := (HOr.out.lt j hj).1; have h2 := HMW.out j e; omega))
     have HS4 := Hd (show St w w4 mb cb bb pm bm wb wm vl' vb' vI' (mT 2) 3 from hst)
     obtain ⟨A4, c4, rfl, _⟩ := own_slice ho
     clear ho hst ht
     go_wp2_with fail
     go_quiet (fail)
     go_wp2_with fail
     go_roundw
     case rel => exact ⟨2, by go_num, by decide, own_keep HO4.out (below_drewN (Below.refl _ w4) _), HS4.out.below (below_drewN (Below.refl _ w4) _)⟩
     case measure => simp [intOf]
   · rw [show (((2 : Nat) : Int) + 1) = 3 from rfl]
     go_wp2_with fail
     refine (st_tick HSr.out (by decide)).mono ?_
     rintro r w4 ⟨v4, rfl, ho, hst, ht⟩
     rw [aT2] at ho
     have HO4 := Hd (own_turned HOr.out ht (fun j hj e => by have h1 := (HOr.out.lt j hj).1; have h2 := HMW.out j e; omega))
     have HS4 := Hd (show St w w4 mb cb bb pm bm wb wm vl' vb' vI' (mT 3) 4 from hst)
     obtain ⟨g4, c4, rfl, t0, t1, t2, t3, t4, t5, t6⟩ := msg_cells ho
     obtain ⟨g5, c5, e5, d0, d1, d2, d3, d4, d5, d6⟩ := msg_cells HO4.out
     injection e5 with e5 e6 e7; injection e5 with e5; injection e5 with e5; subst e5; subst e7
     clear ho hst ht
     go_wp2_with fail
     go_quiet (fail)
     go_wp2_with fail
     go_roundw
     case rel => exact ⟨3, by go_num, by decide, own_keep HO4.out (below_drewN (Below.refl _ w4) _), HS4.out.below (below_drewN (Below.refl _ w4) _)⟩
     case measure => simp [intOf]
   · rw [show (((3 : Nat) : Int) + 1) = 4 from rfl]
     go_wp2_with fail
     refine (st_tick HSr.out (by decide)).mono ?_
     rintro r w4 ⟨v4, rfl, ho, hst, ht⟩
     rw [aT3] at ho
     have HO4 := Hd (own_turned HOr.out ht (fun j hj e => by have h1 := (HOr.out.lt j hj).1; have h2 := HMW.out j e; omega))
     have HS4 := Hd (show St w w4 mb cb bb pm bm wb wm vl' vb' vI' (mT 4) 5 from hst)
     obtain ⟨A4, c4, rfl, _⟩ := own_slice ho
     clear ho hst ht
     go_wp2_with fail
     go_quiet (fail)
     go_wp2_with fail
     go_roundw
     case rel => exact ⟨4, by go_num, by decide, own_keep HO4.out (below_drewN (Below.refl _ w4) _), HS4.out.below (below_drewN (Below.refl _ w4) _)⟩
     case measure => simp [intOf]
   · rw [show (((4 : Nat) : Int) + 1) = 5 from rfl]
     go_wp2_with fail
     refine (st_tick HSr.out (by decide)).mono ?_
     rintro r w4 ⟨v4, rfl, ho, hst, ht⟩
     rw [aT4] at ho
     have HO4 := Hd (own_turned HOr.out ht (fun j hj e => by have h1 := (HOr.out.lt j hj).1; have h2 := HMW.out j e; omega))
     have HS4 := Hd (show St w w4 mb cb bb pm bm wb wm vl' vb' vI' (mT 5) 6 from hst)
     obtain ⟨A4, c4, rfl, _⟩ := own_slice ho
     clear ho hst ht
     go_wp2_with fail
     go_quiet (fail)
     go_wp2_with fail
     go_roundw
     case rel => exact ⟨5, by go_num, by decide, own_keep HO4.out (below_drewN (Below.refl _ w4) _), HS4.out.below (below_drewN (Below.refl _ w4) _)⟩
     case measure => simp [intOf]
   · rw [show (((5 : Nat) : Int) + 1) = 6 from rfl]
     go_wp2_with fail
     refine (st_do HSr.out (by decide) eC2 (.slice none 0 0) (ent_of _ _ i_eC2 rfl)).mono ?_
     rintro r w4 ⟨v4, vl4, vb4, vI4, he, ho, hst, ht⟩
     rw [aD5] at he
     subst he
     have HS4 := Hd hst
     clear ho hst ht
     go_wp2_with fail
     refine (mnow_any HS4.out.mw).mono ?_
     rintro r w5 ⟨he, hb⟩; subst hb
     rw [aN5] at he
     subst he
     go_wp2_with fail
     go_ret
     exact ⟨rfl, HS4.out.bel⟩
end Go.Proofs.YtlkncmpengpbiaaGreatDoor
/- What is done with a model, as a caller hands it over; is it too great? -/
namespace Go.Proofs.YtlkncmpengpbiaaGreatDoor
open Go.RowKit Go.Maps Go.ChangeShapes Go.WideShapes Go.Deep Go.Joins Key Rw Sa Co

abbrev tAct : TypeId := 38
abbrev Act2 : Type := Int × Ent
section
variable {H : Type} {enc : TypeId × Value → H}
/-- An act, as a caller hands it over. -/
def IsAct (w : World) (B : Nat) (cs : List Value) (a : Act2) : Prop := ∃ ce, cs = .int .u8 a.1 :: ce ∧ (0 ≤ a.1 ∧ a.1 ≤ 255) ∧ IsEnt w B ce a.2
theorem opens_act : Opens enc Tryz.prog tAct Act2 fun w B cs a => IsAct w B cs a :=
  (opens_struct Tryz.underlying38 (k := 13) (by kernel_rfl) (opens_cons (k := 1) (by kernel_rfl) (opens_int Tryz.underlying5) (opens_cons (k := 12) (by kernel_rfl) opens_ent opens_nil))).imp fun w B cs a h => by
    obtain ⟨hl, h0, h1, _⟩ := h
    match cs, hl with
    | [x0, x1, x2, x3, x4, x5, x6, x7, x8, x9, x10, x11, x12], _ =>
      simp only [List.drop_zero, List.take_succ_cons, List.take_zero, List.drop_succ_cons, List.cons.injEq, and_true] at h0 h1
      exact ⟨(a.1, a.2.1), _, by rw [h0.1], by have := h0.2; simpa [Lit.wf, IntKind.min, IntKind.max, IntKind.signed, IntKind.bits] using this, h1⟩
end
theorem act_keep {w w' : World} {cs : List Value} {a : Act2} (h : IsAct w w.heap.size cs a) (hb : Below w.heap.size w w') : IsAct w' w'.heap.size cs a := by
  obtain ⟨ce, hc, hi, he⟩ := h
  exact ⟨ce, hc, hi, ent_keep he hb⟩
/-- Acts that came in. -/
def Acts (w : World) (v : Value) (l : List Act2) : Prop := SlK w w.heap.size 13 (fun cs a => IsAct w w.heap.size cs a) v l
theorem Acts.keep {w w' : World} {v : Value} {l : List Act2} (h : Acts w v l) (hb : Below w.heap.size w w') : Acts w' v l := SlK.mono h hb hb.size (fun _ _ _ h => act_keep h hb)
theorem Acts.cells {w : World} {v : Value} {l : List Act2} (h : Acts w v l) {k : Nat} {e : Act2} (hx : l[k]? = some e) : ∃ g off n c A c', v = .slice (some ⟨g, off, none⟩) n c ∧ g < w.heap.size ∧ EntAt w (.slice A e.2.s.2.2.length c') e.2 ∧ (0 ≤ e.1 ∧ e.1 ≤ 255) ∧
    ∀ W, Below w.heap.size w W → W.cell? ⟨g, off + k * 13, none⟩ = some (.int .u8 e.1) ∧ W.cell? ⟨g, off + k * 13 + 1, none⟩ = some (.int .i64 e.2.kind) ∧ W.cell? ⟨g, off + k * 13 + 2, none⟩ = some (.int .i64 e.2.o.1) ∧ W.cell? ⟨g, off + k * 13 + 3, none⟩ = some (.string ⟨e.2.o.2.1.toArray⟩) ∧ W.cell? ⟨g, off + k * 13 + 4, none⟩ = some (.string ⟨e.2.o.2.2.1.toArray⟩) ∧ W.cell? ⟨g, off + k * 13 + 5, none⟩ = some (.int .i64 e.2.o.2.2.2.1) ∧ W.cell? ⟨g, off + k * 13 + 6, none⟩ = some (.int .i64 e.2.o.2.2.2.2) ∧ W.cell? ⟨g, off + k * 13 + 7, none⟩ = some (.int .i64 e.2.k.1) ∧ W.cell? ⟨g, off + k * 13 + 8, none⟩ = some (.int .i64 e.2.k.2) ∧ W.cell? ⟨g, off + k * 13 + 9, none⟩ = some (.int .i64 e.2.code) ∧ W.cell? ⟨g, off + k * 13 + 10, none⟩ = some (.int .i64 e.2.s.1) ∧ W.cell? ⟨g, off + k * 13 + 11, none⟩ = some (.int .i64 e.2.s.2.1) ∧ W.cell? ⟨g, off + k * 13 + 12, none⟩ = some (.slice A e.2.s.2.2.length c') := by
  obtain ⟨A, c, rfl, _⟩ := SlK.shape h
  obtain ⟨g, off, cs, rfl, hgl, hcl, hcell, ce, rfl, hk8, he⟩ := SlK.at h hx
  obtain ⟨A', c', rfl, hr⟩ := he.at
  exact ⟨g, off, _, _, A', c', rfl, hgl, hr, hk8, fun W hb => by
    have hk := fun j u hj => (hb.cell (p := ⟨g, off + k * 13 + j, none⟩) hgl).trans (hcell j u hj)
    exact ⟨hk 0 _ rfl, hk 1 _ rfl, hk 2 _ rfl, hk 3 _ rfl, hk 4 _ rfl, hk 5 _ rfl, hk 6 _ rfl, hk 7 _ rfl, hk 8 _ rfl, hk 9 _ rfl, hk 10 _ rfl, hk 11 _ rfl, hk 12 _ rfl⟩⟩
namespace Co
def actsTo (l : List Act2) (k : Nat) : Bool := (l.take k).any fun a => entGG a.2
def actsG (l : List Act2) (most : Int) : Bool := (l.any fun a => entGG a.2) || decide (most < l.length)
theorem actsTo_succ {l : List Act2} {k : Nat} {e : Act2} (h : l[k]? = some e) : actsTo l (k + 1) = (actsTo l k || entGG e.2) := by
  unfold actsTo; rw [List.take_add_one, h, List.any_append]; simp
theorem actsG_hit {l : List Act2} {k : Nat} {e : Act2} (h : l[k]? = some e) (hx : entGG e.2 = true) (m : Int) : actsG l m = true := by
  unfold actsG
  rw [List.any_eq_true.2 ⟨e, List.mem_of_getElem? h, hx⟩]
  rfl
theorem actsG_not {l : List Act2} {m : Int} (h : actsG l m = false) : (∀ a ∈ l, a.2.o.2.1.length ≤ 200 ∧ a.2.o.2.2.1.length ≤ 200 ∧ a.2.s.2.2.length ≤ 60) ∧ (l.length : Int) ≤ m := by
  unfold actsG entGG entG at h
  simp only [Bool.or_eq_false_iff, List.any_eq_false, decide_eq_true_eq, decide_eq_false_iff_not, Bool.or_eq_true, not_or] at h
  exact ⟨fun x hx => by have := h.1 x hx; omega, by omega⟩
end Co
set_option linter.unusedSimpArgs false in
set_option linter.unusedVariables false in
set_option maxRecDepth 100000 in
set_option maxHeartbeats 8000000 in
theorem agreats_any (w : World) (v : Value) (l : List Act2) (most : Int) (hS : Acts w v l) :
    Calls Tryz.prog 6 #[v, .int .i64 most] w fun e w' => e = .returned (.bool (actsG l most)) ∧ Below w.heap.size w w' := by
  obtain ⟨A, c, rfl, hlc, hcm⟩ := SlK.shape hS
  have HS := Lib.hid hS
  have hl63 : (l.length : Int) ≤ 9223372036854775807 := by unfold maxLen at hcm; omega
  clear hS
  go_enter Tryz.func6, Tryz.ntmps6
  go_wp2_with fail
  go_loopw [5] (fun i wr => ∃ k : Nat, i = .int .i64 k ∧ k ≤ l.length ∧ Hid (actsTo l k = false) ∧ Hid (Below w.heap.size w wr)) (fun i _ => l.length - (intOf i).toNat)
  case atStart => exact ⟨0, rfl, Nat.zero_le _, rfl, Below.refl _ _⟩
  case round =>
    obtain ⟨k, rfl, hk, HG, HBr⟩ := hrel
    by_cases hkl : k < l.length
    · obtain ⟨x, hx⟩ : ∃ x, l[k]? = some x := ⟨_, List.getElem?_eq_getElem hkl⟩
      obtain ⟨g, off, n', c', A', cc, e, hg, hr, _, hd⟩ := HS.out.cells hx
      obtain ⟨d0, d1, d2, d3, d4, d5, d6, d7, d8, d9, d10, d11, d12⟩ := hd _ HBr.out
      injection e with e1 e2 e3; subst e1; clear e2 e3
      have HR := Lib.hid (hr.below HBr.out)
      have hr63 : (x.2.s.2.2.length : Int) ≤ 9223372036854775807 := by obtain ⟨_, _, e, h2, h3⟩ := SlK.shape hr.rd.1; unfold maxLen at h3; omega
      have HX := Lib.hid hx; have HD := Lib.hid hd
      have hlt : (k : Int) < l.length := by omega
      have hk0 : (0 : Int) ≤ k := by omega
      clear hx hr hd
      cases hG : entG x.2 with
      | true =>
        have HT := Lib.hid hG
        have HF := Lib.hid (actsG_hit HX.out (show entGG x.2 = true by unfold entGG; rw [hG]; rfl) most)
        clear hG
        go_wp2_with (go_at_call 26; refine (egreat_any _ x.2 _ HR.out).mono ?_; rintro e w1 ⟨rfl, hb⟩; rw [HT.out]; have HB1 := Lib.hid (bch HBr.out hb HBr.out.size); clear hb)
        go_ret
        exact ⟨by rw [HF.out]; rfl, HB1.out⟩
      | false =>
        have HT := Lib.hid hG
        clear hG
        by_cases h6 : 60 < x.2.s.2.2.length
        · have h6' : (60 : Int) < x.2.s.2.2.length := by omega
          have HF := Lib.hid (actsG_hit HX.out (show entGG x.2 = true by unfold entGG; rw [decide_eq_true h6, Bool.or_true]) most)
          go_wp2_with (go_at_call 26; refine (egreat_any _ x.2 _ HR.out).mono ?_; rintro e w1 ⟨rfl, hb⟩; rw [HT.out]; have HB1 := Lib.hid (bch HBr.out hb HBr.out.size); clear hb; obtain ⟨c0, c1, c2, c3, c4, c5, c6, c7, c8, c9, c10, c11, c12⟩ := HD.out _ HB1.out)
          go_ret
          exact ⟨by rw [HF.out]; rfl, HB1.out⟩
        · have h6' : ¬ (60 : Int) < x.2.s.2.2.length := by omega
          have HF := Lib.hid (show actsTo l (k + 1) = false by rw [actsTo_succ HX.out, HG.out]; unfold entGG; rw [HT.out, decide_eq_false h6]; rfl)
          go_wp2_with (go_at_call 26; refine (egreat_any _ x.2 _ HR.out).mono ?_; rintro e w1 ⟨rfl, hb⟩; rw [HT.out]; have HB1 := Lib.hid (bch HBr.out hb HBr.out.size); clear hb; obtain ⟨c0, c1, c2, c3, c4, c5, c6, c7, c8, c9, c10, c11, c12⟩ := HD.out _ HB1.out)
          go_roundw
          case rel => exact ⟨k + 1, by go_num, by omega, HF.out, HB1.out⟩
          case measure => simp [intOf]; omega
    · obtain rfl : k = l.length := by omega
      have HF := Lib.hid (show actsG l most = decide (most < (l.length : Int)) by unfold actsG; rw [show (l.any fun a => entGG a.2) = false from by have := HG.out; unfold actsTo at this; rwa [List.take_length] at this, Bool.false_or])
      by_cases hm : most < (l.length : Int)
      · have HF2 := Lib.hid (HF.out.trans (show decide (most < (l.length : Int)) = true by simpa using hm))
        go_wp2_with fail
        go_ret
        exact ⟨by rw [HF2.out]; rfl, HBr.out⟩
      · have HF2 := Lib.hid (HF.out.trans (show decide (most < (l.length : Int)) = false by simpa using hm))
        go_wp2_with fail
        go_ret
        exact ⟨by rw [HF2.out]; rfl, HBr.out⟩
end Go.Proofs.YtlkncmpengpbiaaGreatDoor

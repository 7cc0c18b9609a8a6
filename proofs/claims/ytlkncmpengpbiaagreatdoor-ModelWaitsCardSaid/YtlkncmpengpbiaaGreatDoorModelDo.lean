/- The model's Do. -/
import Derived.Test.YtlkncmpengpbiaaGreatDoorModelWas
namespace Go.Proofs.YtlkncmpengpbiaaGreatDoor
open Go.RowKit Go.Maps Co Key Rw Sa Od Mo Wa
set_option linter.unusedSimpArgs false
set_option linter.unusedVariables false
set_option maxRecDepth 100000
set_option maxHeartbeats 4000000
theorem bneT' {a b : Int} (h : ¬ a = b) : (a != b) = true := by simp [h]
theorem apply_fail {c : Cor} {e : Ent} (h : ¬ applyE c e = 0) : applyC c e = c := by
 unfold applyE at h
 unfold applyC
 split
 ·rename_i h1; rw [if_pos h1] at h; unfold placeC; rw [if_neg h]
 ·rename_i h1; rw [if_neg h1] at h
  split
  ·rename_i h2; rw [if_pos h2] at h; unfold cstopC; rw [if_neg h]
  ·rename_i h2; rw [if_neg h2] at h
   split
   ·rename_i h3; rw [if_pos h3] at h; unfold replyC; rw [if_neg h]
   ·rename_i h3; rw [if_neg h3] at h
    split
    ·rename_i h4; rw [if_pos h4] at h; unfold stmC; rw [if_neg h]
    ·rfl
theorem nodup_take {A : List (Int × Int)} (h : A.Pairwise lessK) {k : Nat} {x : Int × Int} (hx : A[k]? = some x) : x ∉ A.take k := by
 intro hm
 obtain ⟨i, hi⟩ := List.getElem?_of_mem hm
 have hik : i < k := by have := (List.getElem?_eq_some_iff.1 hi).1; rw [List.length_take] at this; omega
 rw [List.getElem?_take_of_lt hik] at hi
 obtain ⟨h1, e1⟩ := List.getElem?_eq_some_iff.1 hi
 obtain ⟨h2, e2⟩ := List.getElem?_eq_some_iff.1 hx
 have := List.pairwise_iff_getElem.1 h i k h1 h2 hik
 rw [e1, e2] at this
 exact lessK_ne this rfl
theorem encM_len (m : M7) : (encM m).length = 7 := rfl
theorem beqF4 {a : Int} (h : ¬ a = 4) : (a == 4) = false := by simp [h]
/-- What an act sends. -/
def doMs (m : Mod) (e : Ent) : List M7 := (doK m e).map (askI (doM m e).c)
theorem doM_4 {m : Mod} {e : Ent} (h : applyE m.c e = 0) (h4 : e.kind = 4) : doM m e = ⟨applyC m.c e, startL (stopped m (applyC m.c e)) (planL (askC (applyC m.c e)) e.s.1) m.now, m.now⟩ := by unfold doM; rw [if_pos h, if_pos h4]
theorem doM_n {m : Mod} {e : Ent} (h : applyE m.c e = 0) (h4 : ¬ e.kind = 4) : doM m e = ⟨applyC m.c e, stopped m (applyC m.c e), m.now⟩ := by unfold doM; rw [if_pos h, if_neg h4]
theorem doMs_4 {m : Mod} {e : Ent} (h : applyE m.c e = 0) (h4 : e.kind = 4) : doMs m e = (news (askC m.c) (askC (applyC m.c e))).map (askI (applyC m.c e)) ++ againMs ⟨applyC m.c e, stopped m (applyC m.c e), m.now⟩ e.s.1 := by
 unfold doMs doK againMs
 rw [doM_4 h h4, if_pos h, if_pos h4, List.map_append]
theorem doMs_n {m : Mod} {e : Ent} (h : applyE m.c e = 0) (h4 : ¬ e.kind = 4) : doMs m e = (news (askC m.c) (askC (applyC m.c e))).map (askI (applyC m.c e)) := by
 unfold doMs doK
 rw [doM_n h h4, if_pos h, if_neg h4, List.append_nil]
theorem mdo_any {B : Nat} {w : World} {mb cb bb pm bm wb wm : Nat} {vl vb vI : Value} {m : Mod} (h : MdW B w mb cb bb pm bm wb wm vl vb vI m) {n : Nat} (hC : CoI m.c n) (hn : n ≤ 900) (hH : CoH m.c) (hI : MoI m) (hnow : 0 ≤ m.now ∧ m.now ≤ 1000000) (hB : B ≤ w.heap.size) (hPB : ∀ W, Below B w W → PT W) (e : Ent) (U : Value) (hu : Rd w U e.s.2.2) (hek : -9223372036854775808 ≤ e.k.1 ∧ e.k.1 ≤ 9223372036854775807) (hput : ∀ W, Below B w W → Calls Tryz.prog 102 #[.agg #[.int .i64 e.k.1, .int .i64 e.k.2]] W fun e2 w' => e2 = .returned (.string ⟨(putK e.k.1 e.k.2).toArray⟩) ∧ Below W.heap.size W w') (hito : ∀ (n : Int) W, 0 ≤ n → n ≤ 1073741824 → Below B w W → Calls Tryz.prog 104 #[.int .i64 n] W fun e w' => e = .returned (.string ⟨(Lib.itoa n).toArray⟩) ∧ Below W.heap.size W w') : Calls Tryz.prog 9 #[.pointer (some ⟨mb, 0, none⟩), .agg #[.int .i64 e.kind, .int .i64 e.o.1, .string ⟨e.o.2.1.toArray⟩, .string ⟨e.o.2.2.1.toArray⟩, .int .i64 e.o.2.2.2.1, .int .i64 e.o.2.2.2.2, .int .i64 e.k.1, .int .i64 e.k.2, .int .i64 e.code, .int .i64 e.s.1, .int .i64 e.s.2.1, U]] w fun r w' => ∃ v vl' vb' vI', r = .returned (.tuple #[v, .int .i64 (doE m e)]) ∧ w'.ownsRow w.heap.size tMsgM 7 v (doMs m e).length ((doMs m e).flatMap encM) ∧ MdW B w' mb cb bb pm bm wb wm vl' vb' vI' (doM m e) ∧ Turned (Ms mb cb bb pm bm wb wm vl vb) w w' := by
 obtain ⟨Au, cu, rfl, _⟩ := hu.shape
 have hE0 : wm < w.heap.size := (h.ls (.inr (.inr (.inr rfl)))).2
 have hnE : ¬ Cs cb bb pm bm vl vb w.heap.size := fun hj => by have := (h.c.ls hj).2; omega
 have HPUT := Hd hput; have HITO := Hd hito
 clear hput hito
 have hl := hC.le
 have hal := askC_len m.c
 obtain ⟨wa, hA⟩ : ∃ wa, wa = w.alloc (.cells #[.int .i64 e.kind, .int .i64 e.o.1, .string ⟨e.o.2.1.toArray⟩, .string ⟨e.o.2.2.1.toArray⟩, .int .i64 e.o.2.2.2.1, .int .i64 e.o.2.2.2.2, .int .i64 e.k.1, .int .i64 e.k.2, .int .i64 e.code, .int .i64 e.s.1, .int .i64 e.s.2.1, .slice Au e.s.2.2.length cu] tEnt) := ⟨_, rfl⟩
 have hb : Below w.heap.size w wa := by rw [hA]; exact below_alloc _ _
 have HE := Hd (show wa.heap[w.heap.size]? = some (.cells #[.int .i64 e.kind, .int .i64 e.o.1, .string ⟨e.o.2.1.toArray⟩, .string ⟨e.o.2.2.1.toArray⟩, .int .i64 e.o.2.2.2.1, .int .i64 e.o.2.2.2.2, .int .i64 e.k.1, .int .i64 e.k.2, .int .i64 e.code, .int .i64 e.s.1, .int .i64 e.s.2.1, .slice Au e.s.2.2.length cu] tEnt (0, 0)) by rw [hA]; exact heap_new _ _)
 have HM := Hd (h.below hb); have HB := Hd hb; have HA := Hd hA; have HC := Hd hC; have HH := Hd hH; have HI := Hd hI; have HPB := Hd hPB; have HU := Hd (hu.keep hb)
 clear h hb hA hC hH hI hPB hu
 obtain ⟨y0, y1, y2⟩ := HM.out.cells
 have hmm := @run_makeMap Tryz.prog
 go_enter Tryz.func9, Tryz.ntmps9
 go_upto_region 1 with (fail)
 rw [← HA.out]
 go_upto_region 4 with (go_at_call 28; refine (mnone_any HM.out).mono ?_; rintro e w1 ⟨rfl, hb⟩; subst hb)
 obtain ⟨wq, hwq⟩ : ∃ wq, wq = wa.alloc (.map #[] 0) := ⟨_, rfl⟩
 try rw [← hwq]
 have hbq : Below wa.heap.size wa wq := by rw [hwq]; exact below_alloc _ _
 have HQ := Hd (show Was wq wa.heap.size [] by rw [hwq]; exact MapL.made _ _ _ _ _)
 have HMq := Hd (HM.out.below hbq)
 have hsq := hbq.size
 clear hwq y0 y1 y2 hmm
 generalize hmq : wa.heap.size = mq at HQ ⊢
 obtain ⟨y0, y1, y2⟩ := HMq.out.cells
 go_wp2_with fail
 refine (casks_any HMq.out.c (fun k s hs => (HH.out.at1 k s hs).1) (by omega)).mono ?_
 rintro r w1 ⟨v, rfl, ho, hb1⟩
 obtain ⟨A, cl, rfl, hA1⟩ := own_slice ho
 have HBA := Hd (bch hbq hb1 hbq.size); have HB1 := Hd (bch HB.out (bch hbq hb1 hbq.size) HB.out.size); have HE1 := Hd (heap_keep HE.out (bch hbq hb1 hbq.size))
 have HO1 := Hd (show w1.ownsRow wq.heap.size tKey 2 (.slice A (askC m.c).length cl) (askC m.c).length ((askC m.c).flatMap encK) from ho); have HA1 := Hd (show 0 < (askC m.c).length → ∃ g, A = some ⟨g, 0, none⟩ ∧ wq.heap.size ≤ g ∧ g < w1.heap.size from hA1); have HM1 := Hd (HMq.out.below hb1); have HQ1 := Hd (HQ.out.below hb1)
 have hqlt := HQ.out.lt
 clear ho hA1 hb1 HQ
 rw [show (asksI m.c.l).length = (askC m.c).length from rfl]
 go_wp2_with fail
 go_loopw [23] (fun i wr => ∃ k : Nat, i = .int .i64 k ∧ k ≤ (askC m.c).length ∧ Hid (Was wr mq ((askC m.c).take k)) ∧ Hid (Turned (fun j => j = mq) w1 wr)) (fun i _ => (askC m.c).length - (intOf i).toNat)
 case atStart => exact ⟨0, rfl, Nat.zero_le _, HQ1.out, Turned.refl _ _⟩
 case round =>
  obtain ⟨k, rfl, hk, HWr, HTr⟩ := hrel
  by_cases hkl : k < (askC m.c).length
  ·obtain ⟨x, hx⟩ : ∃ x, (askC m.c)[k]? = some x := ⟨_, List.getElem?_eq_getElem hkl⟩
   obtain ⟨g, rfl, hgB, hgl⟩ := HA1.out (by omega)
   have HOr := own_turned HO1.out HTr.out (fun j hj e => by have e' : j = mq := e; have hj' : g = j := (by simpa [Value.ownBlock] using hj); omega)
   have r0 := own_cellK encK_len (by decide) HOr hx 0 (by decide)
   have r1 := own_cellK encK_len (by decide) HOr hx 1 (by decide)
   have HX := Hd hx
   have hrd := chk_iff.1 (show chk x.1 x.2 = true from asks_chk HH.out hl x (List.mem_of_getElem? hx))
   have hnx : x ∉ (askC m.c).take k := nodup_take (asks_rising (fun k s hs => (HH.out.at1 k s hs).1)) hx
   obtain ⟨o, d⟩ := x
   simp only [encK, List.getElem?_cons_zero, List.getElem?_cons_succ, Nat.add_zero] at r0 r1
   obtain ⟨kl, hkl'⟩ := key_reads (o, d) (by simp only at hrd ⊢; omega)
   have hlt : (k : Int) < (askC m.c).length := by omega
   have hk0 : (0 : Int) ≤ k := by omega
   clear hx HOr
   go_upto_region 7 with (fail)
   obtain ⟨wk, hwk⟩ : ∃ wk, wk = wr.alloc (.cells #[.int .i64 o, .int .i64 d] tKey) := ⟨_, rfl⟩
   rw [← hwk]
   have hbk : Below wr.heap.size wr wk := by rw [hwk]; exact below_alloc _ _
   have HK := Hd (show wk.heap[wr.heap.size]? = some (.cells #[.int .i64 o, .int .i64 d] tKey (0, 0)) by rw [hwk]; exact heap_new _ _)
   have HWk := Hd (show Was wk.drew mq ((askC m.c).take k) from (HWr.out.below hbk).block rfl); have HTk := Hd (HTr.out.trans (Turned.of_below hbk))
   have hnk : ¬ wr.heap.size = mq := by have := HWr.out.lt; omega
   clear hwk hbk r0 r1
   generalize wr.heap.size = bk at HK hnk ⊢
   have hlk := was_look HWk.out hkl'
   rw [if_neg hnx] at hlk
   have hkn : (((askC m.c).take k).map fun k => (k, (1 : Int))).length < maxLen := by rw [List.length_map, List.length_take]; unfold maxLen; omega
   obtain ⟨v0, sn, w5, hrun, hg5, hz5, hst5⟩ := HWk.out.entry lawKeyL mapWas zeroC hkn hkl' (mkKey_inj _)
   have hlk5 := HWk.out.entry_look lawKeyL mapWas zeroC hkn hkl' (mkKey_inj _) hrun hlk
   obtain ⟨w6, hrun6, hm6, hg6, hz6⟩ := hst5 w5 1 rfl
   have HT5 := Hd ((Turned.refl (fun j => j = mq) wk).drew.trans (wm_turned hg5)); have HT6 := Hd (((Turned.refl (fun j => j = mq) wk).drew.trans (wm_turned hg5)).trans (wm_turned hg6))
   have HW7 := Hd (show Was w6 mq ((askC m.c).take (k + 1)) by rw [List.take_add_one, HX.out, Option.toList_some]; exact was_put hnx hm6)
   simp only [mkKey, mkC, goInt] at hlk hrun hrun6 hlk5
   have hw1 : IntKind.i64.wrap 1 = 1 := rfl
   clear hst5 hg5 hz5 hg6 hz6 hm6 hnx hkn hkl'
   have HHR := Hd (fun W' (hb : Turned (fun j => j = mq) wk W') => (⟨Hd hb, kt HK.out hb hnk 0 rfl, kt HK.out hb hnk 1 rfl⟩ : (fun w' => Hid (Turned (fun j => j = mq) wk w') ∧ w'.cell? ⟨bk, 0, none⟩ = some (.int .i64 o) ∧ w'.cell? ⟨bk, 1, none⟩ = some (.int .i64 d)) W'))
   refine wp_region_noPanic ?_
   refine wp_region_held_drew (S := (fun w' => Hid (Turned (fun j => j = mq) wk w') ∧ w'.cell? ⟨bk, 0, none⟩ = some (.int .i64 o) ∧ w'.cell? ⟨bk, 1, none⟩ = some (.int .i64 d))) (by kernel_rfl) (HHR.out _ ((Turned.refl _ wk).drew)) (fun hHeld => ?_)
   refine tk 0 rfl rfl ‹_› ?_; try go_frame
   refine tk 1 rfl rfl ‹_› ?_; try go_frame
   refine wpAnyH_ready (rs := [2, 4]) (by kernel_rfl) (by simp) ?_
   refine AllReadyH.cons rfl (fun K hK => ?_) (AllReadyH.cons rfl (fun K hK => ?_) AllReadyH.nil)
   ·go_simp
    refine hK.out _ _ (by assumption) (fun hHeld => ?_)
    clear hK K
    (try simp only [gx1, gx2, gx3]); try go_frame
    refine tk 3 rfl rfl ‹_› ?_; try go_frame
    refine rdy 4 rfl (fun K hK => ?_)
    go_simp
    refine hK.out _ _ (HHR.out _ HT5.out) (fun hHeld => ?_)
    clear hK K
    (try simp only [gx1, gx2, gx3]); try go_frame
    refine tk 5 rfl rfl ‹_› ?_; try go_frame
    refine rdy 6 rfl (fun K hK => ?_)
    go_simp
    refine hK.out _ _ (HHR.out _ HT6.out) (fun hHeld => ?_)
    clear hK K
    (try simp only [gx1, gx2, gx3]); try go_frame
    refine wpAnyH_done (by kernel_rfl) ?_ _
    refine NoPanic.normal ?_
    clear hHeld HHR
    go_wp2_with fail
    go_roundw
    case rel => exact ⟨k + 1, by go_num, by omega, HW7.out, HTk.out.trans HT6.out⟩
    case measure => simp [intOf]; omega
   ·go_simp
    refine hK.out _ _ (HHR.out _ HT5.out) (fun hHeld => ?_)
    clear hK K
    (try simp only [gx1, gx2, gx3]); try go_frame
    refine tk 5 rfl rfl ‹_› ?_; try go_frame
    refine rdy 2 rfl (fun K hK => ?_)
    go_simp
    refine hK.out _ _ (by assumption) (fun hHeld => ?_)
    clear hK K
    (try simp only [gx1, gx2, gx3]); try go_frame
    refine tk 3 rfl rfl ‹_› ?_; try go_frame
    refine rdy 6 rfl (fun K hK => ?_)
    go_simp
    refine hK.out _ _ (HHR.out _ HT6.out) (fun hHeld => ?_)
    clear hK K
    (try simp only [gx1, gx2, gx3]); try go_frame
    refine wpAnyH_done (by kernel_rfl) ?_ _
    refine NoPanic.normal ?_
    clear hHeld HHR
    go_wp2_with fail
    go_roundw
    case rel => exact ⟨k + 1, by go_num, by omega, HW7.out, HTk.out.trans HT6.out⟩
    case measure => simp [intOf]; omega
  ·obtain rfl : k = (askC m.c).length := by omega
   have hw1 := HWr.out
   rw [List.take_length] at hw1
   have HWz := Hd hw1
   clear hw1
   have HMz := Hd (HM1.out.kept HTr.out (fun j hj e => by have e' : j = mq := e; have := (HM.out.ls hj).2; omega) (fun j e => by have e' : j = mq := e; exact Av.far HM.out.c.ii (by omega)))
   have HBz := Hd (Below.turned HB1.out HTr.out (fun j hj => by have e' : j = mq := hj; have := HB.out.size; omega) HB1.out.size)
   have HEz := Hd (heap_turned HE1.out HTr.out (by have := heap_lt HE.out; omega))
   have HBa := Hd (Below.turned HBA.out HTr.out (fun j hj => by have e' : j = mq := hj; omega) HBA.out.size)
   go_wp2_with fail
   have HHR := Hd (fun W' (hb : Turned (Cs cb bb pm bm vl vb) wr W') => (⟨Hd hb, kt HMz.out.hm hb (HMz.out.off mb (.inl rfl)).1 0 rfl, kt HEz.out hb hnE 0 rfl, kt HEz.out hb hnE 1 rfl, kt HEz.out hb hnE 2 rfl, kt HEz.out hb hnE 3 rfl, kt HEz.out hb hnE 4 rfl, kt HEz.out hb hnE 5 rfl, kt HEz.out hb hnE 6 rfl, kt HEz.out hb hnE 7 rfl, kt HEz.out hb hnE 8 rfl, kt HEz.out hb hnE 9 rfl, kt HEz.out hb hnE 10 rfl, kt HEz.out hb hnE 11 rfl⟩ : (fun w' => Hid (Turned (Cs cb bb pm bm vl vb) wr w') ∧ w'.cell? ⟨mb, 0, none⟩ = some (.pointer (some ⟨cb, 0, none⟩)) ∧ w'.cell? ⟨w.heap.size, 0, none⟩ = some (.int .i64 e.kind) ∧ w'.cell? ⟨w.heap.size, 1, none⟩ = some (.int .i64 e.o.1) ∧ w'.cell? ⟨w.heap.size, 2, none⟩ = some (.string ⟨e.o.2.1.toArray⟩) ∧ w'.cell? ⟨w.heap.size, 3, none⟩ = some (.string ⟨e.o.2.2.1.toArray⟩) ∧ w'.cell? ⟨w.heap.size, 4, none⟩ = some (.int .i64 e.o.2.2.2.1) ∧ w'.cell? ⟨w.heap.size, 5, none⟩ = some (.int .i64 e.o.2.2.2.2) ∧ w'.cell? ⟨w.heap.size, 6, none⟩ = some (.int .i64 e.k.1) ∧ w'.cell? ⟨w.heap.size, 7, none⟩ = some (.int .i64 e.k.2) ∧ w'.cell? ⟨w.heap.size, 8, none⟩ = some (.int .i64 e.code) ∧ w'.cell? ⟨w.heap.size, 9, none⟩ = some (.int .i64 e.s.1) ∧ w'.cell? ⟨w.heap.size, 10, none⟩ = some (.int .i64 e.s.2.1) ∧ w'.cell? ⟨w.heap.size, 11, none⟩ = some (.slice Au e.s.2.2.length cu)) W'))
   refine wp_region_noPanic ?_
   refine wp_region_held_drew (S := (fun w' => Hid (Turned (Cs cb bb pm bm vl vb) wr w') ∧ w'.cell? ⟨mb, 0, none⟩ = some (.pointer (some ⟨cb, 0, none⟩)) ∧ w'.cell? ⟨w.heap.size, 0, none⟩ = some (.int .i64 e.kind) ∧ w'.cell? ⟨w.heap.size, 1, none⟩ = some (.int .i64 e.o.1) ∧ w'.cell? ⟨w.heap.size, 2, none⟩ = some (.string ⟨e.o.2.1.toArray⟩) ∧ w'.cell? ⟨w.heap.size, 3, none⟩ = some (.string ⟨e.o.2.2.1.toArray⟩) ∧ w'.cell? ⟨w.heap.size, 4, none⟩ = some (.int .i64 e.o.2.2.2.1) ∧ w'.cell? ⟨w.heap.size, 5, none⟩ = some (.int .i64 e.o.2.2.2.2) ∧ w'.cell? ⟨w.heap.size, 6, none⟩ = some (.int .i64 e.k.1) ∧ w'.cell? ⟨w.heap.size, 7, none⟩ = some (.int .i64 e.k.2) ∧ w'.cell? ⟨w.heap.size, 8, none⟩ = some (.int .i64 e.code) ∧ w'.cell? ⟨w.heap.size, 9, none⟩ = some (.int .i64 e.s.1) ∧ w'.cell? ⟨w.heap.size, 10, none⟩ = some (.int .i64 e.s.2.1) ∧ w'.cell? ⟨w.heap.size, 11, none⟩ = some (.slice Au e.s.2.2.length cu))) (by kernel_rfl) (HHR.out _ ((Turned.refl _ wr).drew)) (fun hHeld => ?_)
   refine tk 0 rfl rfl ‹_› ?_; try go_frame
   refine tk 1 rfl rfl ‹_› ?_; try go_frame
   refine tk 2 rfl rfl ‹_› ?_; try go_frame
   refine tk 3 rfl rfl ‹_› ?_; try go_frame
   refine tk 4 rfl rfl ‹_› ?_; try go_frame
   refine rdy 5 rfl (fun K hK => ?_)
   go_simp
   refine (capply_any (HMz.out.c.below (below_drew1 (Below.refl _ _))) e (.slice Au e.s.2.2.length cu) ((HU.out.keep HBa.out).keep (below_drew1 (Below.refl _ _))) (HPB.out _ ((HBz.out.trans (below_drew1 (Below.refl _ _)))|>.mono hB)) (HC.out.ok (by omega) e) hek (fun W hW => HPUT.out W (((HBz.out.mono hB).trans (below_drew1 (Below.refl _ _))).trans hW)) (fun n W h0 h1 hW => HITO.out n W h0 h1 (((HBz.out.mono hB).trans (below_drew1 (Below.refl _ _))).trans hW))).mono ?_
   rintro r w2 ⟨vl2, vb2, vI2, rfl, hc2, ht2, hl2, hb2, ha2⟩
   have HT2 := Hd ((Turned.refl (Cs cb bb pm bm vl vb) wr).drew.trans ht2)
   refine hK.out _ _ (HHR.out _ (HT2.out)) (fun hHeld => ?_)
   clear hK K
   (try simp only [gx1, gx2, gx3]); try go_frame
   refine tk 6 rfl rfl ‹_› ?_; try go_frame
   refine wpAnyH_done (by kernel_rfl) ?_ _
   refine NoPanic.normal ?_
   clear hHeld HHR
   have hmc := (HMz.out.below (below_drew1 (Below.refl _ _))).core hc2 ht2 hl2 hb2 ha2
   have HM2 := Hd hmc.1; have HCS := Hd hmc.2
   have HAV2 := Hd ha2
   clear hc2 ht2 hl2 hb2 ha2 hmc
   have HTW := Hd ((Turned.of_below HBz.out).trans (HT2.out.mono (fun _ h => .inl h)) : Turned (Ms mb cb bb pm bm wb wm vl vb) w w2)
   by_cases hE : applyE m.c e = 0
   ·have HC2 := Hd (HC.out.apply e); have HH2 := Hd (HH.out.apply HC.out e)
    have hne : (applyE m.c e != 0) = false := by simp [hE]
    have HE0 := Hd hE
    have hl2' : (applyC m.c e).l.length ≤ 60 := HC2.out.le
    have hal2 := askC_len (applyC m.c e)
    obtain ⟨y0, y1, y2⟩ := HM2.out.cells
    clear hE
    go_wp2_with fail
    refine (casks_any HM2.out.c (fun k s hs => (HH2.out.at1 k s hs).1) (by show (applyC m.c e).l.length ≤ 1000; omega)).mono ?_
    rintro r w3 ⟨v3, rfl, ho3, hb3⟩
    obtain ⟨A3, cl3, rfl, hA3⟩ := own_slice ho3
    have hqC : ¬ Cs cb bb pm bm vl vb mq := fun hj => by have := (HM.out.ls (.inl hj)).2; omega
    have HW3 := Hd (show Was w3 mq ((askC m.c).filter fun k => decide (k ∉ (askC (applyC m.c e)).take 0)) by rw [List.filter_eq_self.2 (fun k _ => by simp)]; exact (HWz.out.block (HT2.out.block mq HWz.out.lt hqC)).below hb3)
    have hmq2 : mq < w2.heap.size := Nat.lt_of_lt_of_le HWz.out.lt HT2.out.size
    have hwm2 := HM2.out.wa.lt
    have HE3 := Hd (heap_keep (heap_turned HEz.out HT2.out hnE) hb3)
    have HM3 := Hd (HM2.out.below hb3); have HTW3 := Hd (HTW.out.trans (Turned.of_below hb3))
    have hs3 := hb3.size
    have HO3 := Hd (show w3.ownsRow w2.heap.size tKey 2 (.slice A3 (askC (applyC m.c e)).length cl3) (askC (applyC m.c e)).length ((askC (applyC m.c e)).flatMap encK) from ho3); have HA3 := Hd (show 0 < (askC (applyC m.c e)).length → ∃ g, A3 = some ⟨g, 0, none⟩ ∧ w2.heap.size ≤ g ∧ g < w3.heap.size from hA3)
    have hqlt2 : mq < wr.heap.size := HWz.out.lt
    have hmls := fun j (hj : Ms mb cb bb pm bm wb wm vl vb j) => (HM.out.ls hj).2
    obtain ⟨hg1, hg2, hg3⟩ := HM.out.ge
    have hwq : w.heap.size < mq := by have := heap_lt HE.out; omega
    have HQM := Hd (show ∀ j, Ms mb cb bb pm bm wb wm vl2 vb2 j → j = mq → False from fun j hj e => by
     subst e
     rcases hj with hj | hj
     ·exact (HCS.out _ hj).elim (fun h1 => hqC h1) (fun h1 => by have h2 : wr.heap.size ≤ j := h1; omega)
     ·have := hmls j (.inr hj); omega)
    have HQA := Hd (show ∀ j, j = mq → Av j vI2 (applyC m.c e).inn from fun j e => by subst e; exact HAV2.out j hqlt2 (Av.far HM.out.c.ii (by omega)))
    have hmqm : ¬ mq = wm := fun e => HQM.out wm (.inr (.inr (.inr rfl))) e.symm
    have HPT := Hd (fun W (hW : Turned (fun j => j = mq ∨ j = wm) w3 W) => HPB.out W (Below.turned (Below.turned (Below.refl B w) HTW3.out (fun j hj => (HM.out.ls hj).1) hB) hW (fun j hj => by rcases hj with e | e <;> omega) (by have := HTW3.out.size; omega)))
    have HAV := Hd (fun j (hj : w3.heap.size ≤ j) => Av.far HM3.out.c.ii hj)
    clear ho3 hA3 hb3 y0 y1 y2 hne
    rw [show (asksI (applyC m.c e).l).length = (askC (applyC m.c e)).length from rfl]
    go_wp2_with fail
    go_loopw [10, 49] (fun v i wr2 => ∃ k : Nat, i = .int .i64 k ∧ k ≤ (askC (applyC m.c e)).length ∧ Hid (wr2.ownsRow w3.heap.size tMsgM 7 v ((news (askC m.c) ((askC (applyC m.c e)).take k)).map (askI (applyC m.c e))).length (((news (askC m.c) ((askC (applyC m.c e)).take k)).map (askI (applyC m.c e))).flatMap encM)) ∧ Hid (Was wr2 mq ((askC m.c).filter fun x => decide (x ∉ (askC (applyC m.c e)).take k))) ∧ Hid (MdW B wr2 mb cb bb pm bm wb wm vl2 vb2 vI2 ⟨applyC m.c e, startL m.w (news (askC m.c) ((askC (applyC m.c e)).take k)) m.now, m.now⟩) ∧ Hid (Turned (fun j => j = mq ∨ j = wm) w3 wr2)) (fun _ i _ => (askC (applyC m.c e)).length - (intOf i).toNat)
    case atStart => exact ⟨0, rfl, Nat.zero_le _, World.ownsRow_nil _ _ _ _, HW3.out, HM3.out, Turned.refl _ _⟩
    case round =>
     obtain ⟨k, rfl, hk, HOM, HWr, HMr, HTr⟩ := hrel
     by_cases hkl : k < (askC (applyC m.c e)).length
     ·obtain ⟨x, hx⟩ : ∃ x, (askC (applyC m.c e))[k]? = some x := ⟨_, List.getElem?_eq_getElem hkl⟩
      obtain ⟨g, rfl, hgB, hgl⟩ := HA3.out (by omega)
      have HOr := own_turned HO3.out HTr.out (fun j hj e => by have hj' : g = j := (by simpa [Value.ownBlock] using hj); rcases e with e | e <;> omega)
      have r0 := own_cellK encK_len (by decide) HOr hx 0 (by decide)
      have r1 := own_cellK encK_len (by decide) HOr hx 1 (by decide)
      have HX := Hd hx
      have hrd := chk_iff.1 (show chk x.1 x.2 = true from asks_chk HH2.out hl2' x (List.mem_of_getElem? hx))
      have HIN := Hd (List.mem_of_getElem? hx)
      have hnx : x ∉ (askC (applyC m.c e)).take k := nodup_take (asks_rising (fun k s hs => (HH2.out.at1 k s hs).1)) hx
      obtain ⟨o, d⟩ := x
      simp only [encK, List.getElem?_cons_zero, List.getElem?_cons_succ, Nat.add_zero] at r0 r1
      obtain ⟨kl, hkl'⟩ := key_reads (o, d) (by simp only at hrd ⊢; omega)
      have hlt : (k : Int) < (askC (applyC m.c e)).length := by omega
      have hk0 : (0 : Int) ≤ k := by omega
      clear hx HOr
      go_upto_region 16 with (fail)
      obtain ⟨wk, hwk⟩ : ∃ wk, wk = wr.alloc (.cells #[.int .i64 o, .int .i64 d] tKey) := ⟨_, rfl⟩
      rw [← hwk]
      have hbk : Below wr.heap.size wr wk := by rw [hwk]; exact below_alloc _ _
      have HK := Hd (show wk.heap[wr.heap.size]? = some (.cells #[.int .i64 o, .int .i64 d] tKey (0, 0)) by rw [hwk]; exact heap_new _ _)
      have HWk := Hd (show Was wk mq ((askC m.c).filter fun x => decide (x ∉ (askC (applyC m.c e)).take k)) from HWr.out.below hbk); have HTk := Hd (HTr.out.trans (Turned.of_below hbk)); have HMk := Hd (HMr.out.below hbk); have HOk := Hd (own_keep HOM.out hbk)
      have hnk : ¬ wr.heap.size = mq ∧ ¬ wr.heap.size = wm := by have := HWr.out.lt; have := HMr.out.wa.lt; omega
      clear hwk hbk r0 r1
      generalize wr.heap.size = bk at HK hnk ⊢
      obtain ⟨k0, k1, _, _⟩ := cell2 HK.out
      have hlk := was_look HWk.out hkl'
      simp only [mkKey, mkC] at hlk
      by_cases hxa : (o, d) ∈ (askC m.c)
      ·rw [if_pos (List.mem_filter.2 ⟨hxa, by simpa using hnx⟩)] at hlk
       obtain ⟨w5, hdel, hm5, ht5⟩ := HWk.out.drop lawKey mapWas hkl' (mkKey_inj _) 0
       simp only [mkKey] at hdel
       have HT5 := Hd (wm_turned ht5.grown)
       have HW5 := Hd (show Was w5 mq ((askC m.c).filter fun x => decide (x ∉ (askC (applyC m.c e)).take (k + 1))) by rw [was_without, List.filter_filter] at hm5; rw [show ((askC m.c).filter fun x => decide (x ∉ (askC (applyC m.c e)).take (k + 1))) = (askC m.c).filter (fun a => decide (a ≠ (o, d)) && decide (a ∉ (askC (applyC m.c e)).take k)) from List.filter_congr (fun y _ => by rw [List.take_add_one, HX.out, Option.toList_some]; by_cases h1 : y ∈ (askC (applyC m.c e)).take k <;> by_cases h2 : y = (o, d) <;> simp [h1, h2])]; exact hm5)
       have HNE := Hd (show news (askC m.c) ((askC (applyC m.c e)).take (k + 1)) = news (askC m.c) ((askC (applyC m.c e)).take k) by rw [List.take_add_one, HX.out, Option.toList_some]; unfold news; rw [List.filter_append]; simp [hxa])
       clear hm5 ht5
       go_wp2_with fail
       go_roundw
       case rel => exact ⟨k + 1, by go_num, by omega, by rw [HNE.out]; exact own_turned HOk.out HT5.out (fun j hj e => by have e' : j = mq := e; have := (HOk.out.lt j hj).1; omega), HW5.out, by rw [HNE.out]; exact HMk.out.kept HT5.out (fun j hj e => by have e' : j = mq := e; exact HQM.out j hj e') (fun j e => by have e' : j = mq := e; exact HQA.out j e'), HTk.out.trans (HT5.out.mono (fun _ h => .inl h))⟩
       case measure => simp [intOf]; omega
      ·rw [if_neg (fun hm => hxa (List.mem_filter.1 hm).1)] at hlk
       have HNE := Hd (show news (askC m.c) ((askC (applyC m.c e)).take (k + 1)) = news (askC m.c) ((askC (applyC m.c e)).take k) ++ [(o, d)] by rw [List.take_add_one, HX.out, Option.toList_some]; unfold news; rw [List.filter_append]; simp [hxa])
       have HWE := Hd (show ((askC m.c).filter fun x => decide (x ∉ (askC (applyC m.c e)).take (k + 1))) = (askC m.c).filter (fun x => decide (x ∉ (askC (applyC m.c e)).take k)) from List.filter_congr (fun y hy => by rw [List.take_add_one, HX.out, Option.toList_some]; have hy' : y ≠ (o, d) := fun e => hxa (e ▸ hy); simp [hy']))
       have hnl : (news (askC m.c) ((askC (applyC m.c e)).take k)).length ≤ 60 := Nat.le_trans (List.length_filter_le _ _) (by rw [List.length_take]; omega)
       have hlenW : (startL m.w (news (askC m.c) ((askC (applyC m.c e)).take k)) m.now).length < 100000 := by have h1 := startL_len m.now (news (askC m.c) ((askC (applyC m.c e)).take k)) m.w; have h2 := MoI.len HI.out; omega
       go_wp2_with fail
       have HHR := Hd (fun W' (hb : Turned (fun j => j = wm) wk W') => (⟨Hd hb, kt HMk.out.hm hb HMk.out.ne.2 1 rfl, kt HMk.out.hm hb HMk.out.ne.2 2 rfl, kt HK.out hb hnk.2 0 rfl, kt HK.out hb hnk.2 1 rfl⟩ : (fun w' => Hid (Turned (fun j => j = wm) wk w') ∧ w'.cell? ⟨mb, 1, none⟩ = some (.pointer (some ⟨wb, 0, none⟩)) ∧ w'.cell? ⟨mb, 2, none⟩ = some (.int .i64 m.now) ∧ w'.cell? ⟨bk, 0, none⟩ = some (.int .i64 o) ∧ w'.cell? ⟨bk, 1, none⟩ = some (.int .i64 d)) W'))
       refine wp_region_noPanic ?_
       refine wp_region_held_drew (S := (fun w' => Hid (Turned (fun j => j = wm) wk w') ∧ w'.cell? ⟨mb, 1, none⟩ = some (.pointer (some ⟨wb, 0, none⟩)) ∧ w'.cell? ⟨mb, 2, none⟩ = some (.int .i64 m.now) ∧ w'.cell? ⟨bk, 0, none⟩ = some (.int .i64 o) ∧ w'.cell? ⟨bk, 1, none⟩ = some (.int .i64 d))) (by kernel_rfl) (HHR.out _ ((Turned.refl _ wk).drew)) (fun hHeld => ?_)
       refine tk 0 rfl rfl ‹_› ?_; try go_frame
       refine tk 1 rfl rfl ‹_› ?_; try go_frame
       refine tk 2 rfl rfl ‹_› ?_; try go_frame
       refine tk 3 rfl rfl ‹_› ?_; try go_frame
       refine tk 4 rfl rfl ‹_› ?_; try go_frame
       refine tk 5 rfl rfl ‹_› ?_; try go_frame
       refine tk 6 rfl rfl ‹_› ?_; try go_frame
       refine tk 7 rfl rfl ‹_› ?_; try go_frame
       refine tk 8 rfl rfl ‹_› ?_; try go_frame
       refine rdy 9 rfl (fun K hK => ?_)
       go_simp
       refine (start_wa _ wb wm _ o d m.now (HMk.out.wa.below (below_drew1 (Below.refl _ _))) hlenW).mono ?_
       rintro r5 w5 ⟨rfl, hwa, hg⟩
       have HW5 := Hd hwa; have HT5 := Hd ((Turned.refl (fun j => j = wm) wk).drew.trans (wm_turned hg))
       clear hwa hg
       refine hK.out _ _ (HHR.out _ (HT5.out)) (fun hHeld => ?_)
       clear hK K
       (try simp only [gx1, gx2, gx3]); try go_frame
       refine wpAnyH_done (by kernel_rfl) ?_ _
       refine NoPanic.normal ?_
       clear hHeld HHR
       have HM6 := Hd (show MdW B w5 mb cb bb pm bm wb wm vl2 vb2 vI2 ⟨applyC m.c e, startL m.w (news (askC m.c) ((askC (applyC m.c e)).take (k + 1))) m.now, m.now⟩ by rw [HNE.out, startL_snoc]; exact HMk.out.waits HW5.out HT5.out)
       have HO6 := Hd (own_turned HOk.out HT5.out (fun j hj e => by have e' : j = wm := e; have := (HOk.out.lt j hj).1; omega))
       have HK6 := Hd (heap_turned HK.out HT5.out hnk.2)
       have HTT6 := Hd (HTk.out.trans (HT5.out.mono (fun _ h => .inr h)))
       have HWs6 := Hd (show Was w5 mq ((askC m.c).filter fun x => decide (x ∉ (askC (applyC m.c e)).take (k + 1))) by rw [HWE.out]; exact HWk.out.block (HT5.out.block mq HWk.out.lt hmqm))
       clear HW5 HT5 HMk HTk HOk HK HWk hlk
       obtain ⟨k0, k1, _, _⟩ := cell2 HK6.out
       go_wp2_with fail
       refine (mask_any HM6.out HH2.out (show (applyC m.c e).l.length ≤ 1000 by omega) (HPT.out _ HTT6.out) o d HIN.out).mono ?_
       rintro r8 w8 ⟨he, hb⟩
       obtain ⟨mm, hmm⟩ : ∃ mm, askI (applyC m.c e) (o, d) = mm := ⟨_, rfl⟩
       rw [show askI (Mod.c ⟨applyC m.c e, startL m.w (news (askC m.c) ((askC (applyC m.c e)).take (k + 1))) m.now, m.now⟩) (o, d) = mm from hmm] at he
       subst he
       have HMM := Hd hmm
       have HM8 := Hd (HM6.out.below hb); have HT8 := Hd (HTT6.out.trans (Turned.of_below hb)); have HO8 := Hd (own_keep HO6.out hb); have HW8 := Hd (HWs6.out.below hb)
       clear hb hmm k0 k1
       obtain ⟨q0, q1, q2, q3, q4, q5, q6⟩ := mm
       unfold msgV
       dsimp only
       have hsz := HT8.out.size
       have hml : ((news (askC m.c) ((askC (applyC m.c e)).take k)).map (askI (applyC m.c e))).length ≤ 60 := by rw [List.length_map]; exact hnl
       obtain ⟨i0, hi, hz0, hz1, hz2⟩ := info_parts msg_info
       go_wp2_with (at_builtin; refine wpList_append_any _ rfl (.tmp 69) (.tmp 73) tMsgs rfl w3.heap.size tMsgM i0 (.agg #[.int .i64 0, .int .i64 0, .int .i64 0, .string ⟨#[]⟩, .int .i64 0, .int .i64 0, .int .i64 0]) 7 64 Tryz.underlying27 hi hz0 hz1 hz2 rfl (by decide) _ _ _ rfl (World.ownsRow.alloc HO8.out _) 1 (encM (q0, q1, q2, q3, q4, q5, q6)) (src_blk (xs := encM (q0, q1, q2, q3, q4, q5, q6)) (heap_new _ _) (encM_one _)) (by unfold maxLen; omega) (by omega) (by have := HT8.out.size; simp; omega) ?_; intro v2 w9 ho2 hg2 hat2)
       have HO9 := Hd (show w9.ownsRow w3.heap.size tMsgM 7 v2 ((news (askC m.c) ((askC (applyC m.c e)).take (k + 1))).map (askI (applyC m.c e))).length (((news (askC m.c) ((askC (applyC m.c e)).take (k + 1))).map (askI (applyC m.c e))).flatMap encM) by rw [HNE.out, List.map_append, List.map_cons, List.map_nil, HMM.out, List.length_append, List.flatMap_append]; simpa using ho2)
       have HB9 := Hd (Below.grown (Below.alloc (Below.refl w3.heap.size w8) HT8.out.size (.cells #[.int .i64 q0, .int .i64 q1, .int .i64 q2, .string ⟨q3.toArray⟩, .int .i64 q4, .int .i64 q5, .int .i64 q6] tMsgM)) hg2 (by have := HT8.out.size; simp; omega) (fun j hj => (HO8.out.lt j hj).1) : Below w3.heap.size w8 w9)
       have HT9 := Hd (show Turned (fun j => j = mq ∨ j = wm) w3 w9 from HT8.out.far ((Turned.of_base HB9.out).mono (fun _ h => .inr h)))
       have HM9 := Hd (HM8.out.kept (S := fun j => w3.heap.size ≤ j) (Turned.of_base HB9.out) (fun j hj h4 => by have := HM3.out.ls hj; omega) (fun j h4 => (HAV.out j h4)))
       have HW9 := Hd (HW8.out.block (HB9.out.block mq (by omega)))
       clear ho2 hg2 hat2
       go_roundw
       case rel => exact ⟨k + 1, by go_num, by omega, HO9.out, HW9.out, HM9.out, HT9.out⟩
       case measure => simp [intOf]; omega
     ·obtain rfl : k = (askC (applyC m.c e)).length := by omega
      have h1 := HOM.out; have h2 := HWr.out; have h3 := HMr.out
      rw [List.take_length] at h1 h2 h3
      obtain ⟨wE, rfl⟩ : ∃ wE, wE = wr := ⟨_, rfl⟩
      obtain ⟨v2, rfl⟩ : ∃ v2, v2 = u10 := ⟨_, rfl⟩
      have HOE := Hd h1; have HWE := Hd (show Was wE mq (olds (askC m.c) (askC (applyC m.c e))) from h2); have HME := Hd h3; have HTE := Hd HTr.out
      have hsE := HTE.out.size
      clear h1 h2 h3 HOM HWr HMr HTr hkl
      go_wp2_with (first | (at_range; refine wpList_rangeL _ rfl _ tWas rfl tKey 3 lawKey mapWas mq ((olds (askC m.c) (askC (applyC m.c e))).map fun k => (k, (1 : Int))) rfl HWE.out ?_; intro w4 cnt0 hrg0 hg0 hs0))
      try go_frame
      have hb0 := below_of_grown hg0
      go_loopw [13] (fun _ wr => ∃ done cnt, RangeL Tryz.prog tKey mkKey mkC wr mq wE.heap.size ((olds (askC m.c) (askC (applyC m.c e))).map fun k => (k, (1 : Int))) done cnt ∧ Hid (wr.ownsRow w3.heap.size tMsgM 7 v2 ((news (askC m.c) (askC (applyC m.c e))).map (askI (applyC m.c e))).length (((news (askC m.c) (askC (applyC m.c e))).map (askI (applyC m.c e))).flatMap encM)) ∧ Hid (MdW B wr mb cb bb pm bm wb wm vl2 vb2 vI2 ⟨applyC m.c e, stopL (startL m.w (news (askC m.c) (askC (applyC m.c e))) m.now) (done.map (·.1)), m.now⟩) ∧ Hid (Turned (fun j => j = mq ∨ j = wm) w3 wr)) (fun _ wr => wr.rangeLeft mq wE.heap.size)
      case atStart => exact ⟨[], cnt0, hrg0, own_keep HOE.out hb0, HME.out.below hb0, HTE.out.trans (Turned.of_below hb0)⟩
      case round =>
       obtain ⟨done, cnt, hrg, HOr, HMr, HTr⟩ := hrel
       go_wp2_with (first | (at_next; refine wpList_nextL _ rfl _ rfl tKey lawKey mq wE.heap.size ((olds (askC m.c) (askC (applyC m.c e))).map fun k => (k, (1 : Int))) done cnt rfl hrg (fun hperm => Hid.out ?_) (fun x v w5 cnt1 hin hnin hrg1 hlt1 hg1 hs1 hen => ?_); rotate_left; (obtain ⟨x1, x2⟩ := x; simp only [mkKey, mkC] at hen ⊢)))
       ·have hx2 : (x1, x2) ∈ olds (askC m.c) (askC (applyC m.c e)) := by obtain ⟨y, hy, e⟩ := List.mem_map.1 hin; injection e with e1 e2; rw [← e1]; exact hy
        have hrng0 := chk_iff.1 (show chk x1 x2 = true from asks_chk HH.out (by omega) (x1, x2) (List.mem_filter.1 hx2).1)
        have hrng : (-9223372036854775808 ≤ x1 ∧ x1 ≤ 9223372036854775807) ∧ (-9223372036854775808 ≤ x2 ∧ x2 ≤ 9223372036854775807) := by omega
        have ht1 : Turned (fun j => j = wE.heap.size) wr w5 := Turned.of_grown hg1 (fun j e => by cases e; rfl)
        have HM5 := Hd (HMr.out.kept ht1 (fun j hj e => by have e' : j = wE.heap.size := e; have := (HME.out.ls hj).2; omega) (fun j e => by have e' : j = wE.heap.size := e; exact Av.far HME.out.c.ii (by omega)))
        have HT5 := Hd (HTr.out.far (ht1.mono (fun j e => .inr (by have e' : j = wE.heap.size := e; omega))))
        have hobE : ∀ j, Value.ownBlock v2 = some j → j < wE.heap.size := fun j hj => by have := HOE.out.lt j hj; omega
        have HO5 := Hd (own_turned HOr.out ht1 (fun j hj e => by have e' : j = wE.heap.size := e; have := hobE j hj; omega))
        clear ht1 hx2 hrng0 hin hnin
        go_upto_region 24 with (fail)
        obtain ⟨wk, hwk⟩ : ∃ wk, wk = w5.alloc (.cells #[.int .i64 x1, .int .i64 x2] tKey) := ⟨_, rfl⟩
        rw [← hwk]
        have hbk : Below w5.heap.size w5 wk := by rw [hwk]; exact below_alloc _ _
        have HK := Hd (show wk.heap[w5.heap.size]? = some (.cells #[.int .i64 x1, .int .i64 x2] tKey (0, 0)) by rw [hwk]; exact heap_new _ _)
        have HR := Hd (show RangeL Tryz.prog tKey mkKey mkC wk mq wE.heap.size ((olds (askC m.c) (askC (applyC m.c e))).map fun k => (k, (1 : Int))) _ cnt1 by rw [hwk]; exact hrg1.alloc _)
        have HMk := Hd (HM5.out.below hbk); have HTk := Hd (HT5.out.trans (Turned.of_below hbk)); have HOk := Hd (own_keep HO5.out hbk)
        have hnk : ¬ w5.heap.size = wm := by have := HM5.out.wa.lt; omega
        clear hwk hbk hen hrg1
        try rw [hs1]
        rw [hs1] at HK hnk
        generalize wr.heap.size = bk at HK hnk ⊢
        have HHR := Hd (fun W' (hb : Turned (fun j => j = wm) wk W') => (⟨Hd hb, kt HMk.out.hm hb HMk.out.ne.2 1 rfl, kt HK.out hb hnk 0 rfl, kt HK.out hb hnk 1 rfl⟩ : (fun w' => Hid (Turned (fun j => j = wm) wk w') ∧ w'.cell? ⟨mb, 1, none⟩ = some (.pointer (some ⟨wb, 0, none⟩)) ∧ w'.cell? ⟨bk, 0, none⟩ = some (.int .i64 x1) ∧ w'.cell? ⟨bk, 1, none⟩ = some (.int .i64 x2)) W'))
        refine wp_region_noPanic ?_
        refine wp_region_held_drew (S := (fun w' => Hid (Turned (fun j => j = wm) wk w') ∧ w'.cell? ⟨mb, 1, none⟩ = some (.pointer (some ⟨wb, 0, none⟩)) ∧ w'.cell? ⟨bk, 0, none⟩ = some (.int .i64 x1) ∧ w'.cell? ⟨bk, 1, none⟩ = some (.int .i64 x2))) (by kernel_rfl) (HHR.out _ ((Turned.refl _ wk).drew)) (fun hHeld => ?_)
        refine tk 0 rfl rfl ‹_› ?_; try go_frame
        refine tk 1 rfl rfl ‹_› ?_; try go_frame
        refine tk 2 rfl rfl ‹_› ?_; try go_frame
        refine tk 3 rfl rfl ‹_› ?_; try go_frame
        refine tk 4 rfl rfl ‹_› ?_; try go_frame
        refine rdy 5 rfl (fun K hK => ?_)
        go_simp
        refine (stop_wa _ wb wm _ x1 x2 (HMk.out.wa.below (below_drew1 (Below.refl _ _))) hrng).mono ?_
        rintro r7 w7 ⟨rfl, hwa, hg⟩
        have HW7 := Hd hwa; have HG7 := Hd (World.grownBy.trans (grown_of_below (below_drew1 (Below.refl wk.heap.size wk)) (some wm)) hg)
        have HT7 := Hd (wm_turned HG7.out)
        clear hwa hg
        refine hK.out _ _ (HHR.out _ (HT7.out)) (fun hHeld => ?_)
        clear hK K
        (try simp only [gx1, gx2, gx3]); try go_frame
        refine wpAnyH_done (by kernel_rfl) ?_ _
        refine NoPanic.normal ?_
        clear hHeld HHR
        have HM7 := Hd (show MdW B w7 mb cb bb pm bm wb wm vl2 vb2 vI2 ⟨applyC m.c e, stopL (startL m.w (news (askC m.c) (askC (applyC m.c e))) m.now) ((done ++ [((x1, x2), v)]).map (·.1)), m.now⟩ by rw [List.map_append]; show MdW B w7 mb cb bb pm bm wb wm vl2 vb2 vI2 ⟨applyC m.c e, stopL (startL m.w (news (askC m.c) (askC (applyC m.c e))) m.now) (done.map (·.1) ++ [(x1, x2)]), m.now⟩; rw [stopL_snoc]; exact HMk.out.waits HW7.out HT7.out)
        have HR7 := Hd (HR.out.kept HG7.out (by simp; omega) (by simp; omega))
        have HO7 := Hd (own_turned HOk.out HT7.out (fun j hj e => by have e' : j = wm := e; have := (HOE.out.lt j hj).1; omega))
        have HT37 := Hd (HTk.out.trans (HT7.out.mono (fun _ h => .inr h)))
        go_wp2_with fail
        go_roundw
        case rel => exact ⟨_, cnt1, HR7.out, HO7.out, HM7.out, HT37.out⟩
        case measure =>
         rw [HR7.out.left, hrg.left]
         exact hlt1
       ·refine Hd ?_
        obtain ⟨wF, rfl⟩ : ∃ wF, wF = wr := ⟨_, rfl⟩
        have hpm : (done.map (·.1)).Perm (olds (askC m.c) (askC (applyC m.c e))) := by have h1 := hperm.map (·.1); rw [List.map_map] at h1; exact (List.map_id' _).subst (motive := fun z => (done.map (·.1)).Perm z) h1
        have HMF := Hd (show MdW B wF mb cb bb pm bm wb wm vl2 vb2 vI2 ⟨applyC m.c e, stopped m (applyC m.c e), m.now⟩ by have h1 := HMr.out; rw [stopL_perm hpm] at h1; exact h1)
        have HOF := Hd HOr.out; have HTF := Hd HTr.out
        have HBF := Hd (Below.turned (Below.turned (Below.refl B w) HTW3.out (fun j hj => (HM.out.ls hj).1) hB) HTF.out (fun j hj => by rcases hj with e | e <;> omega) (by omega) : Below B w wF)
        have HEF := Hd (heap_turned HE3.out HTF.out (fun h => by rcases h with h | h <;> omega))
        have HTA := Hd (HTW3.out.far (HTF.out.mono (fun j e => by rcases e with e | e; exact .inr (by omega); exact .inl (.inr (.inr (.inr e))))))
        have hnol : ((news (askC m.c) (askC (applyC m.c e))).map (askI (applyC m.c e))).length ≤ 60 := by rw [List.length_map]; exact Nat.le_trans (List.length_filter_le _ _) (by omega)
        clear hpm hperm hrg HMr HOr HTr
        have ke0 : wF.cell? ⟨w.heap.size, 0, none⟩ = some (.int .i64 e.kind) := cell_at HEF.out 0 rfl
        by_cases h4 : e.kind = 4
        ·have HD4 := Hd h4
         have h4t : (e.kind == 4) = true := by rw [h4]; rfl
         clear h4
         have hag : (againMs ⟨applyC m.c e, stopped m (applyC m.c e), m.now⟩ e.s.1).length ≤ 60 := by unfold againMs; rw [List.length_map]; have h1 := plan_len (askC (applyC m.c e)) e.s.1; show (planL (askC (applyC m.c e)) e.s.1).length ≤ 60; omega
         have hnEF : ¬ (w.heap.size = wm ∨ Value.ownBlock v2 = some w.heap.size) := fun h => by rcases h with h | h; omega; (have := (HOE.out.lt _ h).1; omega)
         obtain ⟨i0, hi, hz0, hz1, hz2⟩ := info_parts msg_info
         have ke9 : wF.cell? ⟨w.heap.size, 9, none⟩ = some (.int .i64 e.s.1) := cell_at HEF.out 9 rfl
         go_wp2_with fail
         refine (magain_any HMF.out (show MoI ⟨applyC m.c e, stopped m (applyC m.c e), m.now⟩ from ⟨(HI.out.stopped HH2.out hl2').1, (HI.out.stopped HH2.out hl2').2⟩) HH2.out hl2' hnow (Nat.le_trans hB HBF.out.size) (fun W hW => HPB.out W (HBF.out.trans hW)) e.s.1).mono ?_
         rintro r10 w10 ⟨v10, rfl, ho, hm10, ht10⟩
         obtain ⟨A10, c10, rfl, _⟩ := own_slice ho
         have HO10 := Hd ho; have HM10 := Hd hm10; have HT10w := Hd ht10; have HT10 := Hd (HT10w.out.mono (fun _ h => .inl h) : Turned (fun j => j = wm ∨ Value.ownBlock v2 = some j) wF w10)
         clear ho hm10 ht10 ke0 ke9
         go_wp2_with (at_builtin; refine wpList_append_any _ rfl (.tmp 91) (.tmp 96) tMsgs rfl w3.heap.size tMsgM i0 (.agg #[.int .i64 0, .int .i64 0, .int .i64 0, .string ⟨#[]⟩, .int .i64 0, .int .i64 0, .int .i64 0]) 7 64 Tryz.underlying27 hi hz0 hz1 hz2 rfl (by decide) v2 ((news (askC m.c) (askC (applyC m.c e))).map (askI (applyC m.c e))).length (((news (askC m.c) (askC (applyC m.c e))).map (askI (applyC m.c e))).flatMap encM) rfl (own_turned HOF.out HT10w.out (fun j hj e => by have e' : j = wm := e; have := (HOE.out.lt j hj).1; omega)) (againMs ⟨applyC m.c e, stopped m (applyC m.c e), m.now⟩ e.s.1).length ((againMs ⟨applyC m.c e, stopped m (applyC m.c e), m.now⟩ e.s.1).flatMap encM) (src_own (z := 7) encM_len (by decide) encM_one HO10.out) (by unfold maxLen; omega) (by omega) (by have := HTF.out.size; have := HT10.out.size; omega) ?_; intro v11 w11 ho11 hg11 hat11)
         have HT11 := Hd (HT10.out.trans (Turned.of_grown hg11 (fun j h => .inr h)))
         have HO11 := Hd ho11
         have HM11 := Hd (HM10.out.kept (S := fun j => Value.ownBlock v2 = some j) (Turned.of_grown hg11 (fun j h => h)) (fun j hj h => by have := (HOE.out.lt j h).1; have := (HM3.out.ls hj).2; omega) (fun j h => HAV.out j (HOE.out.lt j h).1))
         clear ho11 hg11 hat11
         go_wp2_with fail
         go_ret2
         have HTB := Hd (HTA.out.far (HT11.out.mono (fun j e => by rcases e with e | e; exact .inl (.inr (.inr (.inr e))); (have := (HOE.out.lt j e).1; exact .inr (by omega)))))
         exact ⟨v11, vl2, vb2, vI2, by rw [show doE m e = 0 from HE0.out]; rfl, by rw [doMs_4 HE0.out HD4.out, List.length_append, List.flatMap_append]; exact own_base HO11.out (by omega), by rw [doM_4 HE0.out HD4.out]; exact HM11.out, HTB.out⟩
        ·have HD4 := Hd h4
         have h4f := beqF4 h4
         clear h4
         go_wp2_with fail
         go_ret2
         exact ⟨v2, vl2, vb2, vI2, by rw [show doE m e = 0 from HE0.out]; rfl, by rw [doMs_n HE0.out HD4.out]; exact own_base HOF.out (by omega), by rw [doM_n HE0.out HD4.out]; exact HMF.out, HTA.out⟩
   ·have HEC := Hd (apply_fail hE)
    have hne := bneT' hE
    go_wp2_with fail
    go_ret2
    have HD := Hd (show doM m e = m by unfold doM; rw [if_neg hE])
    exact ⟨_, vl2, vb2, vI2, rfl, by unfold doMs doK; rw [if_neg hE]; exact World.ownsRow_nil _ _ _ _, by rw [HD.out]; have := HM2.out; rw [HEC.out] at this; exact this, HTW.out⟩
end Go.Proofs.YtlkncmpengpbiaaGreatDoor

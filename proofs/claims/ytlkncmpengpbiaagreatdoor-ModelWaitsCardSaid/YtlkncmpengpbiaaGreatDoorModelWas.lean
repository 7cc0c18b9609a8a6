/- A model in memory: its core, what waits, the tick. -/
import Derived.Test.YtlkncmpengpbiaaGreatDoorCoreCopy
import Derived.Test.YtlkncmpengpbiaaGreatDoorWaitsCopy
import Derived.Test.YtlkncmpengpbiaaGreatDoorMapL
import Derived.WideKeyEntry
namespace Go.Proofs.YtlkncmpengpbiaaGreatDoor
open Go.RowKit Go.Maps Co Key Rw Sa Od Mo

/-- The block mb holds a model; all that it owns lies at B or behind. -/
structure MdW (B : Nat) (w : World) (mb cb bb pm bm wb wm : Nat) (vl vb vI : Value) (m : Mod) : Prop where
 hm : w.heap[mb]? = some (.cells #[.pointer (some ⟨cb, 0, none⟩), .pointer (some ⟨wb, 0, none⟩), .int .i64 m.now] tModel (0, 0))
 c : Cw B w cb bb pm bm vl vb vI m.c
 wa : WA w wb wm m.w
 ge : B ≤ mb ∧ B ≤ wb ∧ B ≤ wm
 ne : mb ≠ wb ∧ mb ≠ wm
 off : ∀ j, (j = mb ∨ j = wb ∨ j = wm) → ¬ Cs cb bb pm bm vl vb j ∧ Av j vI m.c.inn
/-- The blocks that a model may turn. -/
def Ms (mb cb bb pm bm wb wm : Nat) (vl vb : Value) (j : Nat) : Prop := Cs cb bb pm bm vl vb j ∨ j = mb ∨ j = wb ∨ j = wm
theorem MdW.ls {B : Nat} {w : World} {mb cb bb pm bm wb wm : Nat} {vl vb vI : Value} {m : Mod} (h : MdW B w mb cb bb pm bm wb wm vl vb vI m) {j : Nat} (hj : Ms mb cb bb pm bm wb wm vl vb j) : B ≤ j ∧ j < w.heap.size := by
 rcases hj with hj | rfl | rfl | rfl
 ·exact h.c.ls hj
 ·exact ⟨h.ge.1, heap_lt h.hm⟩
 ·exact ⟨h.ge.2.1, h.wa.lt.1⟩
 ·exact ⟨h.ge.2.2, h.wa.lt.2.1⟩
theorem WA.turned {w w' : World} {a b : Nat} {l : List W5} (h : WA w a b l) {S : Nat → Prop} (ht : Turned S w w') (ha : ¬ S a) (hb : ¬ S b) : WA w' a b l :=
 ⟨(ht.block a h.lt.1 ha).trans h.hd, h.mp.block (ht.block b h.lt.2.1 hb)⟩
theorem MdW.kept {B : Nat} {w w' : World} {mb cb bb pm bm wb wm : Nat} {vl vb vI : Value} {m : Mod} (h : MdW B w mb cb bb pm bm wb wm vl vb vI m) {S : Nat → Prop} (ht : Turned S w w') (hS : ∀ j, Ms mb cb bb pm bm wb wm vl vb j → ¬ S j) (hI : ∀ j, S j → Av j vI m.c.inn) : MdW B w' mb cb bb pm bm wb wm vl vb vI m :=
 ⟨(ht.block _ (heap_lt h.hm) (hS _ (.inr (.inl rfl)))).trans h.hm, h.c.kept ht (fun j hj => hS j (.inl hj)) hI, h.wa.turned ht (hS _ (.inr (.inr (.inl rfl)))) (hS _ (.inr (.inr (.inr rfl)))), h.ge, h.ne, h.off⟩
theorem MdW.below {B : Nat} {w w' : World} {mb cb bb pm bm wb wm : Nat} {vl vb vI : Value} {m : Mod} (h : MdW B w mb cb bb pm bm wb wm vl vb vI m) (hb : Below w.heap.size w w') : MdW B w' mb cb bb pm bm wb wm vl vb vI m := h.kept (S := fun _ => False) (Turned.of_below hb) (fun _ _ h => h) (fun _ h => h.elim)
theorem MdW.cells {B : Nat} {w : World} {mb cb bb pm bm wb wm : Nat} {vl vb vI : Value} {m : Mod} (h : MdW B w mb cb bb pm bm wb wm vl vb vI m) : w.cell? ⟨mb, 0, none⟩ = some (.pointer (some ⟨cb, 0, none⟩)) ∧ w.cell? ⟨mb, 1, none⟩ = some (.pointer (some ⟨wb, 0, none⟩)) ∧ w.cell? ⟨mb, 2, none⟩ = some (.int .i64 m.now) :=
 ⟨cell_at h.hm 0 rfl, cell_at h.hm 1 rfl, cell_at h.hm 2 rfl⟩
/-- What waits turned. -/
theorem MdW.waits {B : Nat} {w w' : World} {mb cb bb pm bm wb wm : Nat} {vl vb vI : Value} {m : Mod} (h : MdW B w mb cb bb pm bm wb wm vl vb vI m) {W : List W5} (hw : WA w' wb wm W) (ht : Turned (fun j => j = wm) w w') : MdW B w' mb cb bb pm bm wb wm vl vb vI ⟨m.c, W, m.now⟩ := by
 have ho := h.off wm (.inr (.inr rfl))
 exact ⟨(ht.block _ (heap_lt h.hm) h.ne.2).trans h.hm, h.c.kept ht (fun j hj e => ho.1 (e ▸ hj)) (fun j e => by rw [e]; exact ho.2), hw, h.ge, h.ne, h.off⟩
theorem wm_turned {w w' : World} {wm : Nat} (hg : w.grownBy w' (some wm)) : Turned (fun j => j = wm) w w' := Turned.of_grown hg (fun j e => by cases e; rfl)
/-- The core turned. -/
theorem MdW.core {B : Nat} {w w' : World} {mb cb bb pm bm wb wm : Nat} {vl vb vI vl' vb' vI' : Value} {m : Mod} {c' : Cor} (h : MdW B w mb cb bb pm bm wb wm vl vb vI m) (hc : Cw B w' cb bb pm bm vl' vb' vI' c') (ht : Turned (Cs cb bb pm bm vl vb) w w')
  (hl : ∀ j, vl'.ownBlock = some j → vl.ownBlock = some j ∨ w.heap.size ≤ j) (hb : ∀ j, vb'.ownBlock = some j → vb.ownBlock = some j ∨ w.heap.size ≤ j) (ha : ∀ j, j < w.heap.size → Av j vI m.c.inn → Av j vI' c'.inn) : MdW B w' mb cb bb pm bm wb wm vl' vb' vI' ⟨c', m.w, m.now⟩ ∧ ∀ j, Cs cb bb pm bm vl' vb' j → Cs cb bb pm bm vl vb j ∨ w.heap.size ≤ j := by
 have hcs : ∀ j, Cs cb bb pm bm vl' vb' j → Cs cb bb pm bm vl vb j ∨ w.heap.size ≤ j := fun j hj => by
  rcases hj with e | (e | e | e | e) | e
  ·exact .inl (.inl e)
  ·exact .inl (.inr (.inl (.inl e)))
  ·exact .inl (.inr (.inl (.inr (.inl e))))
  ·exact .inl (.inr (.inl (.inr (.inr (.inl e)))))
  ·exact (hb j e).imp (fun h => .inr (.inl (.inr (.inr (.inr h))))) id
  ·exact (hl j e).imp (fun h => .inr (.inr h)) id
 have h1 := (h.off mb (.inl rfl)).1
 have h2 := (h.off wb (.inr (.inl rfl))).1
 have h3 := (h.off wm (.inr (.inr rfl))).1
 refine ⟨⟨(ht.block _ (heap_lt h.hm) h1).trans h.hm, hc, h.wa.turned ht h2 h3, h.ge, h.ne, fun j hj => ?_⟩, hcs⟩
 have hlt := (h.ls (.inr hj)).2
 exact ⟨fun hx => (hcs j hx).elim (h.off j hj).1 (fun h => by omega), ha j hlt (h.off j hj).2⟩
/-- What is asked of an order of the core. -/
def askI (c : Cor) (k : Int × Int) : M7 := match c.l[k.1.toNat - 1]? with
 | some s => msgO s.id s.sku s.qty s.amt k.2
 | none => (0, 0, 0, [], 0, 0, 0)
theorem ask_in {c : Cor} (h : CoH c) {k : Int × Int} (hk : k ∈ askC c) : ∃ (i : Nat) (s : Sg), c.l[i]? = some s ∧ i < c.l.length ∧ k.1 = (i : Int) + 1 ∧ s.id = (i : Int) + 1 ∧ (0 ≤ k.2 ∧ k.2 < 6) ∧ codeO s.id s.ref s.sku s.qty s.amt = 0 ∧ askI c k = msgO s.id s.sku s.qty s.amt k.2 := by
 unfold askC asksI at hk
 obtain ⟨s, hs, hk⟩ := List.mem_filterMap.1 hk
 obtain ⟨i, hi⟩ := List.getElem?_of_mem hs
 have h1 := h.at1 i s hi
 have hil := (List.getElem?_eq_some_iff.1 hi).1
 split at hk
 ·rename_i hw
  injection hk with hk
  subst hk
  have h6 := waits_six hw
  have hid := h1.1
  refine ⟨i, s, hi, hil, hid, hid, h6, h1.2.1, ?_⟩
  unfold askI
  rw [show (s.id, Sa.waitsN s).1.toNat - 1 = i by simp only [hid]; omega, hi]
 ·cases hk
end Go.Proofs.YtlkncmpengpbiaaGreatDoor
/- The model's functions, but for Do. -/
namespace Go.Proofs.YtlkncmpengpbiaaGreatDoor
open Go.RowKit Go.Maps Co Key Rw Sa Od Mo Wa
set_option linter.unusedSimpArgs false
set_option linter.unusedVariables false
set_option maxRecDepth 100000
set_option maxHeartbeats 4000000
/-- A cell stands where other blocks turned. -/
theorem kt {w w' : World} {b : Nat} {cs : Array Value} {T : TypeId} {fr : Nat × Nat} {S : Nat → Prop} (h : w.heap[b]? = some (.cells cs T fr)) (ht : Turned S w w') (hb : ¬ S b) (i : Nat) {v : Value} (hv : cs[i]? = some v) : w'.cell? ⟨b, i, none⟩ = some v :=
 cell_at ((ht.block b (heap_lt h) hb).trans h) i hv
theorem askC_len (c : Cor) : (askC c).length ≤ c.l.length := by
 unfold askC asksI
 exact List.length_filterMap_le _ _
theorem MoI.len {m : Mod} (h : MoI m) : m.w.length ≤ m.c.l.length := by
 have := congrArg List.length h.k
 unfold ks at this
 rw [List.length_map] at this
 have := askC_len m.c
 omega
theorem mnone_any {B : Nat} {w : World} {mb cb bb pm bm wb wm : Nat} {vl vb vI : Value} {m : Mod} (h : MdW B w mb cb bb pm bm wb wm vl vb vI m) : Calls Tryz.prog 28 #[.pointer (some ⟨mb, 0, none⟩)] w fun e w' => e = .returned (.bool false) ∧ w = w' := by
 obtain ⟨c0, c1, c2⟩ := h.cells
 go_enter Tryz.func28, Tryz.ntmps28
 go_wp2_with fail
 go_ret
 exact ⟨rfl, rfl⟩
theorem mnow_any {B : Nat} {w : World} {mb cb bb pm bm wb wm : Nat} {vl vb vI : Value} {m : Mod} (h : MdW B w mb cb bb pm bm wb wm vl vb vI m) : Calls Tryz.prog 17 #[.pointer (some ⟨mb, 0, none⟩)] w fun e w' => e = .returned (.int .i64 m.now) ∧ w = w' := by
 obtain ⟨c0, c1, c2⟩ := h.cells
 have HM := Hd h
 clear h
 go_enter Tryz.func17, Tryz.ntmps17
 go_wp2_with (go_at_call 28; refine (mnone_any HM.out).mono ?_; rintro e w1 ⟨rfl, hb⟩; subst hb)
 go_ret
 exact ⟨rfl, rfl⟩
theorem mcore_any {B : Nat} {w : World} {mb cb bb pm bm wb wm : Nat} {vl vb vI : Value} {m : Mod} (h : MdW B w mb cb bb pm bm wb wm vl vb vI m) (hl : m.c.l.length ≤ 100000) (hbl : m.c.b.length ≤ 100000) : Calls Tryz.prog 13 #[.pointer (some ⟨mb, 0, none⟩)] w fun e w' => ∃ c2 b2 p2 m2 vl2 vb2, e = .returned (.pointer (some ⟨c2, 0, none⟩)) ∧ Cw w.heap.size w' c2 b2 p2 m2 vl2 vb2 vI m.c ∧ Below w.heap.size w w' := by
 obtain ⟨c0, c1, c2⟩ := h.cells
 have HM := Hd h
 clear h
 go_enter Tryz.func13, Tryz.ntmps13
 go_wp2_with (go_at_call 28; refine (mnone_any HM.out).mono ?_; rintro e w1 ⟨rfl, hb⟩; subst hb)
 refine (ccopy_any HM.out.c hl hbl).mono ?_
 rintro e w1 ⟨c2, b2, p2, m2, vl2, vb2, rfl, hc, hb⟩
 have HC := Hd hc; have HB := Hd hb
 clear hc hb
 go_wp2_with fail
 go_ret
 exact ⟨_, _, _, _, _, _, rfl, HC.out, HB.out⟩
theorem mwaits_any {B : Nat} {w : World} {mb cb bb pm bm wb wm : Nat} {vl vb vI : Value} {m : Mod} (h : MdW B w mb cb bb pm bm wb wm vl vb vI m) (hg : Wa.Good m.w) (hl : m.w.length < 100000) : Calls Tryz.prog 15 #[.pointer (some ⟨mb, 0, none⟩)] w fun e w' => ∃ v, e = .returned v ∧ w'.ownsRow w.heap.size tWait 5 v m.w.length (m.w.flatMap encW) ∧ Below w.heap.size w w' := by
 obtain ⟨c0, c1, c2⟩ := h.cells
 have HM := Hd h
 clear h
 go_enter Tryz.func15, Tryz.ntmps15
 go_wp2_with (go_at_call 28; refine (mnone_any HM.out).mono ?_; rintro e w1 ⟨rfl, hb⟩; subst hb)
 refine (list_wa _ wb wm m.w HM.out.wa hg hl).mono ?_
 rintro e w1 ⟨v, rfl, ho, hb⟩
 have HO := Hd ho; have HB := Hd hb
 clear ho hb
 go_wp2_with fail
 go_ret
 exact ⟨_, rfl, HO.out, HB.out⟩
theorem mcopy_any {B : Nat} {w : World} {mb cb bb pm bm wb wm : Nat} {vl vb vI : Value} {m : Mod} (h : MdW B w mb cb bb pm bm wb wm vl vb vI m) (hg : Wa.Good m.w) (hwl : m.w.length < 10000) (hl : m.c.l.length ≤ 100000) (hbl : m.c.b.length ≤ 100000) : Calls Tryz.prog 18 #[.pointer (some ⟨mb, 0, none⟩)] w fun e w' => ∃ mb2 cb2 b2 p2 m2 wb2 wm2 vl2 vb2, e = .returned (.pointer (some ⟨mb2, 0, none⟩)) ∧ MdW w.heap.size w' mb2 cb2 b2 p2 m2 wb2 wm2 vl2 vb2 vI m ∧ Below w.heap.size w w' := by
 obtain ⟨c0, c1, c2⟩ := h.cells
 have HM := Hd h; have HG := Hd hg
 clear h hg
 go_enter Tryz.func18, Tryz.ntmps18
 go_wp2_with (go_at_call 28; refine (mnone_any HM.out).mono ?_; rintro e w1 ⟨rfl, hb⟩; subst hb)
 have HHR := Hd (fun W' (hb : Below w.heap.size w W') => (⟨Hd hb, kc hb c0, kc hb c1, kc hb c2⟩ : (fun w' => Hid (Below w.heap.size w w') ∧ w'.cell? ⟨mb, 0, none⟩ = some (.pointer (some ⟨cb, 0, none⟩)) ∧ w'.cell? ⟨mb, 1, none⟩ = some (.pointer (some ⟨wb, 0, none⟩)) ∧ w'.cell? ⟨mb, 2, none⟩ = some (.int .i64 m.now)) W'))
 refine wp_region_noPanic ?_
 refine wp_region_held_drew (S := (fun w' => Hid (Below w.heap.size w w') ∧ w'.cell? ⟨mb, 0, none⟩ = some (.pointer (some ⟨cb, 0, none⟩)) ∧ w'.cell? ⟨mb, 1, none⟩ = some (.pointer (some ⟨wb, 0, none⟩)) ∧ w'.cell? ⟨mb, 2, none⟩ = some (.int .i64 m.now))) (by kernel_rfl) (HHR.out _ (below_drew1 (Below.refl w.heap.size w))) (fun hHeld => ?_)
 refine tk 0 rfl rfl ‹_› ?_; try go_frame
 refine tk 1 rfl rfl ‹_› ?_; try go_frame
 refine tk 2 rfl rfl ‹_› ?_; try go_frame
 refine tk 3 rfl rfl ‹_› ?_; try go_frame
 refine tk 5 rfl rfl ‹_› ?_; try go_frame
 refine tk 6 rfl rfl ‹_› ?_; try go_frame
 refine tk 7 rfl rfl ‹_› ?_; try go_frame
 refine tk 8 rfl rfl ‹_› ?_; try go_frame
 refine tk 10 rfl rfl ‹_› ?_; try go_frame
 refine tk 11 rfl rfl ‹_› ?_; try go_frame
 refine tk 12 rfl rfl ‹_› ?_; try go_frame
 refine tk 13 rfl rfl ‹_› ?_; try go_frame
 refine rdy 4 rfl (fun K hK => ?_)
 go_simp
 refine (ccopy_any (HM.out.c.below (below_drew1 (Below.refl w.heap.size w))) hl hbl).mono ?_
 rintro e w1 ⟨cb2, b2, p2, m2, vl2, vb2, rfl, hc, hb⟩
 have HC1 := Hd (show Cw w.heap.size w1 cb2 b2 p2 m2 vl2 vb2 vI m.c from hc); have HB1 := Hd (bch (below_drew1 (Below.refl w.heap.size w)) hb (Nat.le_refl _) : Below w.heap.size w w1)
 clear hc hb
 refine hK.out _ _ (HHR.out _ (HB1.out)) (fun hHeld => ?_)
 clear hK K
 (try simp only [gx1, gx2, gx3]); try go_frame
 refine rdy 9 rfl (fun K hK => ?_)
 go_simp
 refine (copy_wa _ wb wm m.w (HM.out.wa.below HB1.out) HG.out hwl).mono ?_
 rintro e w2 ⟨wb2, wm2, rfl, hw, ha, hm, hb⟩
 have HW2 := Hd hw; have HC2 := Hd (HC1.out.below hb); have HB2 := Hd (bch HB1.out hb HB1.out.size)
 have hs2 := hb.size
 clear hw hb
 refine hK.out _ _ (HHR.out _ (HB2.out)) (fun hHeld => ?_)
 clear hK K
 (try simp only [gx1, gx2, gx3]); try go_frame
 refine tk 14 rfl rfl ‹_› ?_; try go_frame
 refine rdy 15 rfl (fun K hK => ?_)
 go_simp
 refine hK.out _ _ (HHR.out _ (bch HB2.out (below_alloc w2 _) HB2.out.size)) (fun hHeld => ?_)
 clear hK K
 (try simp only [gx1, gx2, gx3]); try go_frame
 refine tk 16 rfl rfl ‹_› ?_; try go_frame
 refine wpAnyH_done (by kernel_rfl) ?_ _
 refine NoPanic.normal ?_
 clear hHeld HHR
 obtain ⟨w3, hw3⟩ : ∃ w3, w3 = w2.alloc (.cells #[.pointer (some ⟨cb2, 0, none⟩), .pointer (some ⟨wb2, 0, none⟩), .int .i64 m.now] tModel) := ⟨_, rfl⟩
 rw [← hw3]
 have hb3 : Below w2.heap.size w2 w3 := by rw [hw3]; exact below_alloc _ _
 have hx3 : w3.heap[w2.heap.size]? = some (.cells #[.pointer (some ⟨cb2, 0, none⟩), .pointer (some ⟨wb2, 0, none⟩), .int .i64 m.now] tModel (0, 0)) := by rw [hw3]; exact heap_new _ _
 have hwl := HW2.out.lt; have hs1 := HB1.out.size
 have hcs : ∀ j, Cs cb2 b2 p2 m2 vl2 vb2 j → w.heap.size ≤ j ∧ j < w1.heap.size := fun j hj => HC1.out.ls hj
 have HR := Hd (show MdW w.heap.size w3 w2.heap.size cb2 b2 p2 m2 wb2 wm2 vl2 vb2 vI m from ⟨hx3, HC2.out.below hb3, HW2.out.below hb3, ⟨by omega, by omega, by omega⟩, ⟨by omega, by omega⟩, fun j hj => ⟨fun hs => by have := hcs j hs; omega, Av.far HM.out.c.ii (by omega)⟩⟩)
 have HB3 := Hd (bch HB2.out hb3 HB2.out.size)
 clear hw3 hb3 hx3
 go_wp2_with fail
 go_ret
 exact ⟨_, _, _, _, _, _, _, _, _, rfl, HR.out, HB3.out⟩
theorem dueL_len : ∀ (K : List (Int × Int)) (W : List W5), (dueL W K).length ≤ W.length + K.length
 | [], W => by simp [dueL]
 | k :: K, W => by
  have := dueL_len K (dueW W k 0)
  have h2 := Wa.put_len W (k, 0, nearI 0, false)
  show (dueL (dueW W k 0) K).length ≤ _
  unfold dueW at *
  simp only [List.length_cons]
  omega
theorem mof_any {B : Nat} {w : World} {cb bb pm bm : Nat} {vl vb vI : Value} {c : Cor} (h : Cw B w cb bb pm bm vl vb vI c) (hH : CoH c) (hl : c.l.length ≤ 1000) (hbl : c.b.length ≤ 100000) : Calls Tryz.prog 12 #[.pointer (some ⟨cb, 0, none⟩)] w fun e w' => ∃ mb2 cb2 b2 p2 m2 wb2 wm2 vl2 vb2, e = .returned (.pointer (some ⟨mb2, 0, none⟩)) ∧ MdW w.heap.size w' mb2 cb2 b2 p2 m2 wb2 wm2 vl2 vb2 vI (ofM c) ∧ Below w.heap.size w w' := by
 have HC := Hd h; have HH := Hd hH
 have hal := askC_len c
 clear h hH
 go_enter Tryz.func12, Tryz.ntmps12
 go_wp2_with fail
 refine (ccopy_any HC.out (by omega) hbl).mono ?_
 rintro e w1 ⟨cb2, b2, p2, m2, vl2, vb2, rfl, hc, hb⟩
 have HC1 := Hd hc; have HB1 := Hd hb; have hs1 := hb.size
 clear hc hb
 go_wp2_with fail
 refine (new_wa w1).mono ?_
 rintro e w2 ⟨wb2, wm2, rfl, hwa, hga, hgm, hb⟩
 have HW2 := Hd hwa; have HC2 := Hd (HC1.out.below hb); have HB2 := Hd (bch HB1.out hb hs1); have hs2 := hb.size; have hwl := hwa.lt
 clear hwa hb
 go_wp2_with fail
 obtain ⟨w3, hw3⟩ : ∃ w3, w3 = w2.alloc (.cells #[.pointer (some ⟨cb2, 0, none⟩), .pointer (some ⟨wb2, 0, none⟩), .int .i64 0] tModel) := ⟨_, rfl⟩
 rw [← hw3]
 have hb3 : Below w2.heap.size w2 w3 := by rw [hw3]; exact below_alloc _ _
 have hx3 : w3.heap[w2.heap.size]? = some (.cells #[.pointer (some ⟨cb2, 0, none⟩), .pointer (some ⟨wb2, 0, none⟩), .int .i64 0] tModel (0, 0)) := by rw [hw3]; exact heap_new _ _
 have hcs : ∀ j, Cs cb2 b2 p2 m2 vl2 vb2 j → w.heap.size ≤ j ∧ j < w1.heap.size := fun j hj => HC1.out.ls hj
 have HM3 := Hd (show MdW w.heap.size w3 w2.heap.size cb2 b2 p2 m2 wb2 wm2 vl2 vb2 vI ⟨c, [], 0⟩ from ⟨hx3, HC2.out.below hb3, HW2.out.below hb3, ⟨by omega, by omega, by omega⟩, ⟨by omega, by omega⟩, fun j hj => ⟨fun hs => by have := hcs j hs; omega, Av.far HC.out.ii (by omega)⟩⟩)
 have HB3 := Hd (bch HB2.out hb3 HB2.out.size)
 have hs3 := hb3.size
 have hm3 : w2.heap.size < w3.heap.size := heap_lt hx3
 clear hw3 hb3 hx3 hcs HC1 HC2 HW2
 generalize w2.heap.size = mb2 at HM3 hwl hm3 ⊢
 refine (casks_any HM3.out.c (fun k s hs => (HH.out.at1 k s hs).1) hl).mono ?_
 rintro e w4 ⟨v, rfl, ho, hb⟩
 obtain ⟨A, cl, rfl, hA⟩ := own_slice ho
 have HM4 := Hd (HM3.out.below hb); have HO := Hd (show w4.ownsRow w3.heap.size tKey 2 (.slice A (askC c).length cl) (askC c).length ((askC c).flatMap encK) from ho); have HA := Hd (show 0 < (askC c).length → ∃ g, A = some ⟨g, 0, none⟩ ∧ w3.heap.size ≤ g ∧ g < w4.heap.size from hA); have HB4 := Hd (bch HB3.out hb HB3.out.size)
 have hs4 := hb.size
 clear ho hA hb HM3
 rw [show (asksI c.l).length = (askC c).length from rfl]
 have HMB := Hd HM4.out.hm
 have hne : mb2 ≠ wb2 ∧ ¬ mb2 = wm2 := HM4.out.ne
 go_wp2_with fail
 go_loopw [17] (fun i wr => ∃ k : Nat, i = .int .i64 k ∧ k ≤ (askC c).length ∧ Hid (WA wr wb2 wm2 (dueL [] ((askC c).take k))) ∧ Hid (Turned (fun j => j = wm2) w4 wr)) (fun i _ => (askC c).length - (intOf i).toNat)
 case atStart => exact ⟨0, rfl, Nat.zero_le _, HM4.out.wa, Turned.refl _ _⟩
 case round =>
  obtain ⟨k, rfl, hk, HWr, HTr⟩ := hrel
  by_cases hkl : k < (askC c).length
  ·obtain ⟨x, hx⟩ : ∃ x, (askC c)[k]? = some x := ⟨_, List.getElem?_eq_getElem hkl⟩
   obtain ⟨g, rfl, hgB, hgl⟩ := HA.out (by omega)
   have HOr := own_turned HO.out HTr.out (fun j hj e => by have e' : j = wm2 := e; have hj' : g = j := (by simpa [Value.ownBlock] using hj); omega)
   have r0 := own_cellK encK_len (by decide) HOr hx 0 (by decide)
   have r1 := own_cellK encK_len (by decide) HOr hx 1 (by decide)
   have HX := Hd hx
   obtain ⟨o, d⟩ := x
   simp only [encK, List.getElem?_cons_zero, List.getElem?_cons_succ, Nat.add_zero] at r0 r1
   have hlt : (k : Int) < (askC c).length := by omega
   have hk0 : (0 : Int) ≤ k := by omega
   clear hx HOr
   go_upto_region 8 with (fail)
   obtain ⟨wk, hwk⟩ : ∃ wk, wk = wr.alloc (.cells #[.int .i64 o, .int .i64 d] tKey) := ⟨_, rfl⟩
   rw [← hwk]
   have hbk : Below wr.heap.size wr wk := by rw [hwk]; exact below_alloc _ _
   have HK := Hd (show wk.heap[wr.heap.size]? = some (.cells #[.int .i64 o, .int .i64 d] tKey (0, 0)) by rw [hwk]; exact heap_new _ _)
   have hszr := HTr.out.size
   have HMk := Hd (heap_keep (heap_turned HMB.out HTr.out hne.2) hbk); have HWk := Hd (HWr.out.below hbk); have HTk := Hd (HTr.out.trans (Turned.of_below hbk))
   have hnk : ¬ wr.heap.size = wm2 := by have := HWr.out.lt; omega
   clear hwk hbk r0 r1
   generalize wr.heap.size = bk at HK hnk ⊢
   have HHR := Hd (fun W' (hb : Turned (fun j => j = wm2) wk W') => (⟨Hd hb, kt HMk.out hb hne.2 1 rfl, kt HK.out hb hnk 0 rfl, kt HK.out hb hnk 1 rfl⟩ : (fun w' => Hid (Turned (fun j => j = wm2) wk w') ∧ w'.cell? ⟨mb2, 1, none⟩ = some (.pointer (some ⟨wb2, 0, none⟩)) ∧ w'.cell? ⟨bk, 0, none⟩ = some (.int .i64 o) ∧ w'.cell? ⟨bk, 1, none⟩ = some (.int .i64 d)) W'))
   refine wp_region_noPanic ?_
   refine wp_region_held_drew (S := (fun w' => Hid (Turned (fun j => j = wm2) wk w') ∧ w'.cell? ⟨mb2, 1, none⟩ = some (.pointer (some ⟨wb2, 0, none⟩)) ∧ w'.cell? ⟨bk, 0, none⟩ = some (.int .i64 o) ∧ w'.cell? ⟨bk, 1, none⟩ = some (.int .i64 d))) (by kernel_rfl) (HHR.out _ ((Turned.refl _ wk).drew)) (fun hHeld => ?_)
   refine tk 0 rfl rfl ‹_› ?_; try go_frame
   refine tk 1 rfl rfl ‹_› ?_; try go_frame
   refine tk 2 rfl rfl ‹_› ?_; try go_frame
   refine tk 3 rfl rfl ‹_› ?_; try go_frame
   refine tk 4 rfl rfl ‹_› ?_; try go_frame
   refine rdy 5 rfl (fun K hK => ?_)
   go_simp
   refine (due_wa _ wb2 wm2 _ o d 0 (HWk.out.below (below_drew1 (Below.refl _ _))) (by have := dueL_len ((askC c).take k) []; simp only [List.length_nil, List.length_take] at this; omega)).mono ?_
   rintro e w5 ⟨rfl, hwa, hg⟩
   have HW5 := Hd hwa; have HT5 := Hd ((Turned.refl (fun j => j = wm2) wk).drew.trans (wm_turned hg))
   clear hwa hg
   refine hK.out _ _ (HHR.out _ (HT5.out)) (fun hHeld => ?_)
   clear hK K
   (try simp only [gx1, gx2, gx3]); try go_frame
   refine wpAnyH_done (by kernel_rfl) ?_ _
   refine NoPanic.normal ?_
   clear hHeld HHR
   go_wp2_with fail
   go_roundw
   case rel => exact ⟨k + 1, by go_num, by omega, by rw [List.take_add_one, HX.out, Option.toList_some, dueL_snoc]; exact HW5.out, HTk.out.trans HT5.out⟩
   case measure => simp [intOf]; omega
  ·obtain rfl : k = (askC c).length := by omega
   go_wp2_with fail
   go_ret
   have HWr' := HWr.out
   rw [List.take_length] at HWr'
   exact ⟨_, _, _, _, _, _, _, _, _, rfl, HM4.out.waits HWr' HTr.out, Below.turned HB4.out HTr.out (fun j e => by rw [e]; omega) HB4.out.size⟩
/-- What lies at B lies at less. -/
theorem Cw.base {B B' : Nat} {w : World} {cb bb pm bm : Nat} {vl vb vI : Value} {c : Cor} (h : Cw B w cb bb pm bm vl vb vI c) (hB : B' ≤ B) : Cw B' w cb bb pm bm vl vb vI c :=
 ⟨h.hc, own_base h.ol hB, h.bk.base hB, h.ii, h.fi, h.av, Nat.le_trans hB h.ge, h.nc, h.nl⟩
theorem MdW.base {B B' : Nat} {w : World} {mb cb bb pm bm wb wm : Nat} {vl vb vI : Value} {m : Mod} (h : MdW B w mb cb bb pm bm wb wm vl vb vI m) (hB : B' ≤ B) : MdW B' w mb cb bb pm bm wb wm vl vb vI m :=
 ⟨h.hm, h.c.base hB, h.wa, ⟨Nat.le_trans hB h.ge.1, Nat.le_trans hB h.ge.2.1, Nat.le_trans hB h.ge.2.2⟩, h.ne, h.off⟩
theorem mnew_any (w : World) : Calls Tryz.prog 8 #[] w fun e w' => ∃ mb2 cb2 b2 p2 m2 wb2 wm2 vl2 vb2, e = .returned (.pointer (some ⟨mb2, 0, none⟩)) ∧ MdW w.heap.size w' mb2 cb2 b2 p2 m2 wb2 wm2 vl2 vb2 vIn0 (ofM nilC) ∧ Below w.heap.size w w' := by
 go_enter Tryz.func8, Tryz.ntmps8
 go_wp2_with fail
 refine (cnew_any w).mono ?_
 rintro e w1 ⟨cb, bb, pm, bm, rfl, hc, hb⟩
 have HC := Hd hc; have HB := Hd hb
 clear hc hb
 go_wp2_with fail
 refine (mof_any HC.out CoH.nil (by decide) (by decide)).mono ?_
 rintro e w2 ⟨mb2, cb2, b2, p2, m2, wb2, wm2, vl2, vb2, rfl, hm, hb⟩
 have HM := Hd (hm.base HB.out.size); have HB2 := Hd (bch HB.out hb HB.out.size)
 clear hm hb
 go_wp2_with fail
 go_ret
 exact ⟨_, _, _, _, _, _, _, _, _, rfl, HM.out, HB2.out⟩
end Go.Proofs.YtlkncmpengpbiaaGreatDoor
/- The model's Tick; its ask by the model. -/
namespace Go.Proofs.YtlkncmpengpbiaaGreatDoor
open Go.RowKit Go.Maps Co Key Rw Sa Od Mo Wa
set_option linter.unusedSimpArgs false
set_option linter.unusedVariables false
set_option maxRecDepth 100000
set_option maxHeartbeats 4000000
theorem msg_info : (Tryz.prog.info? tMsgM).map (fun i => (i.zero, i.size, i.bytes)) = some (some (.agg #[.int .i64 0, .int .i64 0, .int .i64 0, .string ⟨#[]⟩, .int .i64 0, .int .i64 0, .int .i64 0]), 7, 64) := by kernel_rfl
abbrev tMsgs : TypeId := 27
theorem encM_one (m : M7) : ∀ u ∈ encM m, u.oneCell' = true := by intro u hu; simp [encM] at hu; rcases hu with rfl | rfl | rfl | rfl | rfl | rfl | rfl <;> rfl
/-- What a tick sends. -/
def tickMs (m : Mod) : List M7 := (toldW m.w (m.now + 1)).map (askI m.c)
theorem mask_any {B : Nat} {w : World} {mb cb bb pm bm wb wm : Nat} {vl vb vI : Value} {m : Mod} (h : MdW B w mb cb bb pm bm wb wm vl vb vI m) (hH : CoH m.c) (hl : m.c.l.length ≤ 1000) (hT : PT w) (o d : Int) (hk : (o, d) ∈ askC m.c) : Calls Tryz.prog 31 #[.pointer (some ⟨mb, 0, none⟩), .agg #[.int .i64 o, .int .i64 d]] w fun e w' => e = .returned (msgV (askI m.c (o, d))) ∧ Below w.heap.size w w' := by
 obtain ⟨i, s, hs, hil, hk1, hid, hd6, hco, hask⟩ := ask_in hH hk
 rw [hask]
 simp only at hk1 hd6
 subst hk1
 exact mask_at h.hm h.c hT hl i s hs hco d hd6
theorem MdW.ticked {B : Nat} {w : World} {mb cb bb pm bm wb wm : Nat} {vl vb vI : Value} {m : Mod} (h : MdW B w mb cb bb pm bm wb wm vl vb vI m) : MdW B (w.setCell ⟨mb, 2, none⟩ (.int .i64 (m.now + 1))) mb cb bb pm bm wb wm vl vb vI ⟨m.c, m.w, m.now + 1⟩ := by
 have ht := turned_set w mb 2 (.int .i64 (m.now + 1))
 have ho := h.off mb (.inl rfl)
 refine ⟨?_, h.c.kept ht (fun j hj e => ho.1 (e ▸ hj)) (fun j e => by rw [e]; exact ho.2), h.wa.turned ht (fun e => h.ne.1 e.symm) (fun e => h.ne.2 e.symm), h.ge, h.ne, h.off⟩
 have := h.hm
 simp [World.setCell, Array.getElem?_modify, this]
theorem mtick_any {B : Nat} {w : World} {mb cb bb pm bm wb wm : Nat} {vl vb vI : Value} {m : Mod} (h : MdW B w mb cb bb pm bm wb wm vl vb vI m) (hI : MoI m) (hH : CoH m.c) (hl : m.c.l.length ≤ 60) (hT : PT w) (hn : 0 ≤ m.now ∧ m.now ≤ 1000000) (hB : B ≤ w.heap.size) (hPB : ∀ W, Below B w W → PT W) : Calls Tryz.prog 11 #[.pointer (some ⟨mb, 0, none⟩)] w fun e w' => ∃ v, e = .returned v ∧ w'.ownsRow w.heap.size tMsgM 7 v (tickMs m).length ((tickMs m).flatMap encM) ∧ MdW B w' mb cb bb pm bm wb wm vl vb vI (tickM m) ∧ Turned (fun j => j = mb ∨ j = wm) w w' := by
 obtain ⟨i0, hi, hz0, hz1, hz2⟩ := info_parts msg_info
 obtain ⟨c0, c1, c2⟩ := h.cells
 have f2 := frozen_at h.hm 2
 have hlen := MoI.len hI
 have hle : (toldW m.w (m.now + 1)).length ≤ m.w.length := by unfold toldW; rw [List.length_map]; exact List.length_filter_le _ _
 obtain ⟨w2, hw2⟩ : ∃ w2, w2 = w.setCell ⟨mb, 2, none⟩ (.int .i64 (m.now + 1)) := ⟨_, rfl⟩
 have HM := Hd h; have HM2 := Hd (show MdW B w2 mb cb bb pm bm wb wm vl vb vI ⟨m.c, m.w, m.now + 1⟩ by rw [hw2]; exact h.ticked); have HT2 := Hd (show Turned (fun j => j = mb) w w2 by rw [hw2]; exact turned_set _ _ _ _); have HI := Hd hI; have HH := Hd hH; have HW2 := Hd hw2; have HPB := Hd hPB
 have hsz2 : w2.heap.size = w.heap.size := by rw [hw2]; simp [World.setCell]
 have HSZ := Hd hsz2
 have hge := h.ge
 clear h hI hH hT hw2 hsz2 hPB
 have hwr : IntKind.i64.wrap (m.now + 1) = m.now + 1 := IntWalk.i64_in _ (by omega)
 go_enter Tryz.func11, Tryz.ntmps11
 go_upto_region 5 with (go_at_call 28; refine (mnone_any HM.out).mono ?_; rintro e w1 ⟨rfl, hb⟩; subst hb)
 rw [← HW2.out]
 clear c0 c1 c2 f2
 have HHR := Hd (fun W' (hb : Turned (fun j => j = wm) w2 W') => (⟨Hd hb, kt HM2.out.hm hb HM2.out.ne.2 1 rfl, kt HM2.out.hm hb HM2.out.ne.2 2 rfl⟩ : (fun w' => Hid (Turned (fun j => j = wm) w2 w') ∧ w'.cell? ⟨mb, 1, none⟩ = some (.pointer (some ⟨wb, 0, none⟩)) ∧ w'.cell? ⟨mb, 2, none⟩ = some (.int .i64 (m.now + 1))) W'))
 refine wp_region_noPanic ?_
 refine wp_region_held_drew (S := (fun w' => Hid (Turned (fun j => j = wm) w2 w') ∧ w'.cell? ⟨mb, 1, none⟩ = some (.pointer (some ⟨wb, 0, none⟩)) ∧ w'.cell? ⟨mb, 2, none⟩ = some (.int .i64 (m.now + 1)))) (by kernel_rfl) (HHR.out _ ((Turned.refl _ w2).drew)) (fun hHeld => ?_)
 refine tk 0 rfl rfl ‹_› ?_; try go_frame
 refine tk 1 rfl rfl ‹_› ?_; try go_frame
 refine tk 2 rfl rfl ‹_› ?_; try go_frame
 refine tk 3 rfl rfl ‹_› ?_; try go_frame
 refine tk 4 rfl rfl ‹_› ?_; try go_frame
 refine tk 5 rfl rfl ‹_› ?_; try go_frame
 refine tk 6 rfl rfl ‹_› ?_; try go_frame
 refine tk 7 rfl rfl ‹_› ?_; try go_frame
 refine tk 10 rfl rfl ‹_› ?_; try go_frame
 refine rdy 8 rfl (fun K hK => ?_)
 go_simp
 refine (tick_wa _ wb wm m.w (m.now + 1) (HM2.out.wa.below (below_drew1 (Below.refl _ _))) HI.out.g (by omega)).mono ?_
 rintro e w3 ⟨v, rfl, ho, hwa, hg⟩
 obtain ⟨A, cl, rfl, hA⟩ := own_slice ho
 have HO := Hd ho; have HWA := Hd hwa; have HA := Hd hA; have HT3 := Hd ((Turned.refl (fun j => j = wm) w2).drew.trans (wm_turned hg))
 clear ho hwa hA hg
 refine hK.out _ _ (HHR.out _ (HT3.out)) (fun hHeld => ?_)
 clear hK K
 (try simp only [gx1, gx2, gx3]); try go_frame
 refine tk 9 rfl rfl ‹_› ?_; try go_frame
 refine wpAnyH_done (by kernel_rfl) ?_ _
 refine NoPanic.normal ?_
 clear hHeld HHR
 obtain ⟨L, hL⟩ : ∃ L, toldW m.w (m.now + 1) = L := ⟨_, rfl⟩
 rw [hL] at HO HA hle ⊢
 have HL := Hd hL
 clear hL
 have hs3 := HT3.out.size
 have HSZ' := HSZ.out
 have HM3 := Hd (show MdW B w3 mb cb bb pm bm wb wm vl vb vI (tickM m) from HM2.out.waits HWA.out HT3.out)
 have HTT := Hd (show Turned (fun j => j = mb ∨ j = wm) w w3 from (HT2.out.mono (fun _ h => .inl h)).trans (HT3.out.mono (fun _ h => .inr h)))
 have HT := Hd (fun W (hW : Below w3.heap.size w3 W) => HPB.out W (Below.turned (Below.refl B w) (HTT.out.trans (Turned.of_below hW)) (fun j hj => by rcases hj with rfl | rfl <;> omega) hB))
 clear HSZ'
 go_wp2_with fail
 go_loopw [3, 25] (fun v i wr => ∃ k : Nat, i = .int .i64 k ∧ k ≤ L.length ∧ Hid (wr.ownsRow w3.heap.size tMsgM 7 v ((L.take k).map (askI m.c)).length (((L.take k).map (askI m.c)).flatMap encM)) ∧ Hid (Below w3.heap.size w3 wr)) (fun _ i _ => L.length - (intOf i).toNat)
 case atStart => exact ⟨0, rfl, Nat.zero_le _, World.ownsRow_nil _ _ _ _, Below.refl _ _⟩
 case round =>
  obtain ⟨k, rfl, hk, HOM, HBr⟩ := hrel
  by_cases hkl : k < L.length
  ·obtain ⟨x, hx⟩ : ∃ x, L[k]? = some x := ⟨_, List.getElem?_eq_getElem hkl⟩
   obtain ⟨g, rfl, hgB, hgl⟩ := HA.out (by omega)
   have HOr := own_keep HO.out HBr.out
   have r0 := own_cellK encK_len (by decide) HOr hx 0 (by decide)
   have r1 := own_cellK encK_len (by decide) HOr hx 1 (by decide)
   have HX := Hd hx
   have HIN := Hd (show x ∈ askC m.c by rw [← HI.out.k]; exact told_ks (now := m.now + 1) (by rw [HL.out]; exact List.mem_of_getElem? hx))
   obtain ⟨o, d⟩ := x
   simp only [encK, List.getElem?_cons_zero, List.getElem?_cons_succ, Nat.add_zero] at r0 r1
   have hlt : (k : Int) < L.length := by omega
   have hk0 : (0 : Int) ≤ k := by omega
   clear hx HOr
   go_upto_region 8 with (fail)
   obtain ⟨wk, hwk⟩ : ∃ wk, wk = wr.alloc (.cells #[.int .i64 o, .int .i64 d] tKey) := ⟨_, rfl⟩
   rw [← hwk]
   have hbk : Below wr.heap.size wr wk := by rw [hwk]; exact below_alloc _ _
   have HK := Hd (show wk.heap[wr.heap.size]? = some (.cells #[.int .i64 o, .int .i64 d] tKey (0, 0)) by rw [hwk]; exact heap_new _ _)
   have HBk := Hd (bch HBr.out hbk HBr.out.size); have HOk := Hd (own_keep HOM.out hbk)
   clear hwk hbk r0 r1
   generalize wr.heap.size = bk at HK ⊢
   obtain ⟨k0, k1, _, _⟩ := cell2 HK.out
   go_wp2_with fail
   refine (mask_any (HM3.out.below HBk.out) HH.out (show m.c.l.length ≤ 1000 by omega) (HT.out _ HBk.out) o d HIN.out).mono ?_
   rintro e w5 ⟨he, hb⟩
   obtain ⟨mm, hmm⟩ : ∃ mm, askI m.c (o, d) = mm := ⟨_, rfl⟩
   rw [show askI (tickM m).c (o, d) = mm from hmm] at he
   subst he
   have HMM := Hd hmm
   have HB2 := Hd (bch HBk.out hb HBk.out.size); have HO2 := Hd (own_keep HOk.out hb)
   clear hb hmm k0 k1
   obtain ⟨q0, q1, q2, q3, q4, q5, q6⟩ := mm
   unfold msgV
   dsimp only
   have hsz := HB2.out.size
   have hml : ((L.take k).map (askI m.c)).length ≤ L.length := by rw [List.length_map, List.length_take]; omega
   go_wp2_with (at_builtin; refine wpList_append_any _ rfl (.tmp 29) (.tmp 33) tMsgs rfl w3.heap.size tMsgM i0 (.agg #[.int .i64 0, .int .i64 0, .int .i64 0, .string ⟨#[]⟩, .int .i64 0, .int .i64 0, .int .i64 0]) 7 64 Tryz.underlying27 hi hz0 hz1 hz2 rfl (by decide) _ _ _ rfl (World.ownsRow.alloc HO2.out _) 1 (encM (q0, q1, q2, q3, q4, q5, q6)) (src_blk (xs := encM (q0, q1, q2, q3, q4, q5, q6)) (heap_new _ _) (encM_one _)) (by unfold maxLen; omega) (by omega) (by have := HB2.out.size; simp; omega) ?_; intro v2 w6 ho2 hg2 hat2)
   have HO6 := Hd (show w6.ownsRow w3.heap.size tMsgM 7 v2 ((L.take (k + 1)).map (askI m.c)).length (((L.take (k + 1)).map (askI m.c)).flatMap encM) by rw [List.take_add_one, HX.out, Option.toList_some, List.map_append, List.map_cons, List.map_nil, HMM.out, List.length_append, List.flatMap_append]; simpa using ho2)
   have HB6 := Hd (Below.grown (HB2.out.alloc HB2.out.size (.cells #[.int .i64 q0, .int .i64 q1, .int .i64 q2, .string ⟨q3.toArray⟩, .int .i64 q4, .int .i64 q5, .int .i64 q6] tMsgM)) hg2 (by have := HB2.out.size; simp; omega) (fun j hj => (HO2.out.lt j hj).1))
   clear ho2 hg2 hat2
   go_roundw
   case rel => exact ⟨k + 1, by go_num, by omega, HO6.out, HB6.out⟩
   case measure => simp [intOf]; omega
  ·obtain rfl : k = L.length := by omega
   have HOM2 := HOM.out
   rw [List.take_length] at HOM2
   have HE := Hd HOM2
   clear HOM2
   go_wp2_with fail
   go_ret
   exact ⟨_, rfl, by unfold tickMs; rw [HL.out]; exact own_base HE.out HTT.out.size, HM3.out.below HBr.out, HTT.out.trans (Turned.of_below HBr.out)⟩
end Go.Proofs.YtlkncmpengpbiaaGreatDoor
/- repair.Plan: which deeds are asked for again. -/
namespace Go.Proofs.YtlkncmpengpbiaaGreatDoor
open Go.RowKit Go.Maps Co Key Rw Sa Od Mo
set_option linter.unusedSimpArgs false
set_option linter.unusedVariables false
set_option maxRecDepth 100000
set_option maxHeartbeats 8000000

theorem plan_len (A : List (Int × Int)) (p : Int) : (planL A p).length ≤ A.length := by unfold planL; exact List.length_filter_le _ _
theorem plan_app (A : List (Int × Int)) (x : Int × Int) (p : Int) : planL (A ++ [x]) p = planL A p ++ (if partyI x.2 = p then [x] else []) := by
 unfold planL
 rw [List.filter_append]
 congr 1
 by_cases h : partyI x.2 = p <;> simp [h]
theorem plan_any (w : World) (B : Nat) (vl : Value) (l : List Sg) (p : Int) (ho : w.ownsRow B tSaga 12 vl l.length (l.flatMap encS)) (hT : PT w) (hl : l.length ≤ 60) (hid : ∀ (k : Nat) s, l[k]? = some s → s.id = (k : Int) + 1) :
  Calls Tryz.prog 67 #[vl, .int .i64 p] w fun e w' => ∃ v, e = .returned v ∧ w'.ownsRow w.heap.size tKey 2 v (planL (asksI l) p).length ((planL (asksI l) p).flatMap encK) ∧ Below w.heap.size w w' := by
 obtain ⟨i0, hi, hz0, hz1, hz2⟩ := info_parts key_info
 obtain ⟨A, cl, rfl, _⟩ := own_slice ho
 have HR := Hd ho; have HID := Hd hid; have HT := Hd hT
 clear ho hid hT
 go_enter Tryz.func67, Tryz.ntmps67
 go_wp2_with fail
 go_loopw [5, 13] (fun v i wr => ∃ k : Nat, i = .int .i64 k ∧ k ≤ l.length ∧ Hid (wr.ownsRow w.heap.size tKey 2 v (planL (asksI (l.take k)) p).length ((planL (asksI (l.take k)) p).flatMap encK)) ∧ Hid (Below w.heap.size w wr)) (fun _ i _ => l.length - (intOf i).toNat)
 case atStart => exact ⟨0, rfl, Nat.zero_le _, World.ownsRow_nil _ _ _ _, Below.refl _ _⟩
 case round =>
  obtain ⟨k, rfl, hk, HO, HB⟩ := hrel
  by_cases hkl : k < l.length
  ·obtain ⟨s, hs⟩ : ∃ s, l[k]? = some s := ⟨_, List.getElem?_eq_getElem hkl⟩
   obtain ⟨g, off, n', c', e, d0, d1, d2, d3, d4, d5, d6, d7, d8, d9, d10, d11⟩ := (sgs_own HR.out).cells HB.out hs
   injection e with e1 e2 e3; subst e1; clear e2 e3
   have hlt : (k : Int) < l.length := by omega
   have hk0 : (0 : Int) ≤ k := by omega
   have HSK := Hd (asks_succ hs)
   have hsid : s.id = (k : Int) + 1 := HID.out k s hs
   have HSID := Hd hsid
   have hal := asks_len' l k
   have hpl := plan_len (asksI (l.take k)) p
   clear hs hsid
   go_upto_region 5 with (fail)
   obtain ⟨wb, hwb⟩ : ∃ wb, wb = wr.alloc (.cells (sgA s) tSaga) := ⟨_, rfl⟩
   rw [← hwb]
   have hbb : Below wr.heap.size wr wb := by rw [hwb]; exact below_alloc _ _
   have HX := Hd (show wb.heap[wr.heap.size]? = some (.cells (sgA s) tSaga (0, 0)) by rw [hwb]; exact heap_new _ _)
   have HOb := Hd (own_keep HO.out hbb)
   have HBb := Hd (bch HB.out hbb HB.out.size)
   clear hwb hbb d0 d1 d2 d3 d4 d5 d6 d7 d8 d9 d10 d11
   obtain ⟨d0, d1, d2, d3, d4, d5, d6, d7, d8, d9, d10, d11⟩ := sg_box HX.out
   go_wp2_with fail
   refine (waits_any s _).mono ?_
   rintro e w1 ⟨rfl, hb⟩
   have HO1 := Hd (own_keep HOb.out hb); have HB1 := Hd (bch HBb.out hb HBb.out.size)
   have HX1 := Hd (heap_keep HX.out hb)
   have hs1 := HB1.out.size
   clear hb d0 d1 d2 d3 d4 d5 d6 d7 d8 d9 d10 d11
   obtain ⟨d0, d1, d2, d3, d4, d5, d6, d7, d8, d9, d10, d11⟩ := sg_box HX1.out
   go_upto_region 7 with (fail)
   obtain ⟨w2, hw2⟩ : ∃ w2, w2 = w1.alloc (.cells #[.int .i64 s.id, .int .i64 (Sa.waitsN s)] tKey) := ⟨_, rfl⟩
   rw [← hw2]
   have hb2 : Below w1.heap.size w1 w2 := by rw [hw2]; exact below_alloc _ _
   have HK2 := Hd (show w2.heap[w1.heap.size]? = some (.cells #[.int .i64 s.id, .int .i64 (Sa.waitsN s)] tKey (0, 0)) by rw [hw2]; exact heap_new _ _)
   have HO2 := Hd (own_keep HO1.out hb2); have HB2 := Hd (bch HB1.out hb2 HB1.out.size)
   clear hw2 hb2 d0 d1 d2 d3 d4 d5 d6 d7 d8 d9 d10 d11 HO1 HB1 HX HX1 HOb HBb
   generalize w1.heap.size = bk at HK2 ⊢
   obtain ⟨k0, k1, _, _⟩ := cell2 HK2.out
   cases hw : Sa.waitsB s with
   | false =>
    have HF := Hd (show asksI (l.take (k + 1)) = asksI (l.take k) by rw [HSK.out, hw]; simp)
    clear hw
    go_wp2_with fail
    go_roundw
    case rel => exact ⟨k + 1, by go_num, by omega, by rw [HF.out]; exact HO2.out, HB2.out⟩
    case measure => simp [intOf]; omega
   | true =>
    have hd6 := waits_six hw
    have HF := Hd (show asksI (l.take (k + 1)) = asksI (l.take k) ++ [(s.id, Sa.waitsN s)] by rw [HSK.out, hw]; simp)
    have HCK := Hd (fun W => (check_any s.id (Sa.waitsN s) W).mono (fun e w' h => (⟨by rw [h.1, show chk s.id (Sa.waitsN s) = true from chk_iff.2 ⟨by rw [HSID.out]; omega, by rw [HSID.out]; omega, hd6.1, hd6.2⟩], h.2⟩ : e = .returned (.bool true) ∧ Below W.heap.size W w')))
    clear hw
    go_wp2_with fail
    refine (HCK.out _).mono ?_
    rintro e w3 ⟨rfl, hb⟩
    have HK3 := Hd (heap_keep HK2.out hb); have HO3 := Hd (own_keep HO2.out hb); have HB3 := Hd (bch HB2.out hb HB2.out.size)
    clear hb k0 k1
    obtain ⟨k0, k1, _, _⟩ := cell2 HK3.out
    by_cases hp : partyI (Sa.waitsN s) = p
    ·have hpt := beqT hp
     have HP := Hd (show planL (asksI (l.take (k + 1))) p = planL (asksI (l.take k)) p ++ [(s.id, Sa.waitsN s)] by rw [HF.out, plan_app, if_pos hp])
     clear hp
     go_wp2_with (first | (go_at_call 107; refine (party_any _ _ (HT.out.below HB3.out)).mono ?_; rintro e w4 ⟨rfl, hw⟩; subst hw) | (at_builtin; refine wpList_append_any _ rfl (.tmp 38) (.tmp 40) tKeysC rfl w.heap.size tKey i0 (mkKey (0, 0)) 2 16 Tryz.underlying47 hi hz0 hz1 hz2 rfl (by decide) _ _ _ rfl (World.ownsRow.alloc HO3.out _) 1 (encK (s.id, Sa.waitsN s)) (src_blk (xs := encK (s.id, Sa.waitsN s)) (heap_new _ _) (encK_one _)) (by unfold maxLen; omega) (by omega) (by have := HB3.out.size; simp; omega) ?_; intro v2 w5 ho2 hg2 hat2))
     have HO5 := Hd (show w5.ownsRow w.heap.size tKey 2 v2 (planL (asksI (l.take (k + 1))) p).length ((planL (asksI (l.take (k + 1))) p).flatMap encK) by rw [HP.out, List.length_append, List.flatMap_append]; simpa using ho2)
     have HB5 := Hd (Below.grown (HB3.out.alloc HB3.out.size (.cells #[.int .i64 s.id, .int .i64 (Sa.waitsN s)] tKey)) hg2 (by have := HB3.out.size; simp; omega) (fun j hj => (HO3.out.lt j hj).1))
     clear ho2 hg2 hat2
     go_roundw
     case rel => exact ⟨k + 1, by go_num, by omega, HO5.out, HB5.out⟩
     case measure => simp [intOf]; omega
    ·have hpf := beqF hp
     have HP := Hd (show planL (asksI (l.take (k + 1))) p = planL (asksI (l.take k)) p by rw [HF.out, plan_app, if_neg hp, List.append_nil])
     clear hp
     go_wp2_with (go_at_call 107; refine (party_any _ _ (HT.out.below HB3.out)).mono ?_; rintro e w4 ⟨rfl, hw⟩; subst hw)
     go_roundw
     case rel => exact ⟨k + 1, by go_num, by omega, by rw [HP.out]; exact HO3.out, HB3.out⟩
     case measure => simp [intOf]; omega
  ·obtain rfl : k = l.length := by omega
   have HO2 := Hd (show wr.ownsRow w.heap.size tKey 2 u5 (planL (asksI l) p).length ((planL (asksI l) p).flatMap encK) by have := HO.out; rwa [List.take_length] at this)
   go_wp2_with fail
   go_ret
   exact ⟨_, rfl, HO2.out, HB.out⟩
end Go.Proofs.YtlkncmpengpbiaaGreatDoor
/- The model's again: what a party has not answered is asked for again. -/
namespace Go.Proofs.YtlkncmpengpbiaaGreatDoor
open Go.RowKit Go.Maps Co Key Rw Sa Od Mo Wa
set_option linter.unusedSimpArgs false
set_option linter.unusedVariables false
set_option maxRecDepth 100000
set_option maxHeartbeats 4000000
theorem startL_len (now : Int) : ∀ (K : List (Int × Int)) (W : List W5), (startL W K now).length ≤ W.length + K.length
 | [], W => by simp [startL]
 | k :: K, W => by
  have := startL_len now K (startW W k now)
  have h2 := Wa.put_len W (k, 1, nearI now + 1, false)
  show (startL (startW W k now) K now).length ≤ _
  unfold startW at *
  simp only [List.length_cons]
  omega
theorem Turned.of_base {B : Nat} {a b : World} (h : Below B a b) : Turned (fun j => B ≤ j) a b := ⟨h.os, h.tape, h.output, h.size, fun i _ hn => h.block i (by omega)⟩
theorem hasW_ks {W : List W5} {k : Int × Int} (h : k ∈ ks W) : hasW W k = true := by
 obtain ⟨x, hx, rfl⟩ := mem_ks.1 h
 unfold hasW
 exact List.any_eq_true.2 ⟨x, hx, by simp⟩
/-- What is sent again. -/
def againMs (m : Mod) (p : Int) : List M7 := (planL (askC m.c) p).map (askI m.c)
theorem magain_any {B : Nat} {w : World} {mb cb bb pm bm wb wm : Nat} {vl vb vI : Value} {m : Mod} (h : MdW B w mb cb bb pm bm wb wm vl vb vI m) (hI : MoI m) (hH : CoH m.c) (hl : m.c.l.length ≤ 60) (hn : 0 ≤ m.now ∧ m.now ≤ 1000000) (hB : B ≤ w.heap.size) (hPB : ∀ W, Below B w W → PT W) (p : Int) : Calls Tryz.prog 33 #[.pointer (some ⟨mb, 0, none⟩), .int .i64 p] w fun e w' => ∃ v, e = .returned v ∧ w'.ownsRow w.heap.size tMsgM 7 v (againMs m p).length ((againMs m p).flatMap encM) ∧ MdW B w' mb cb bb pm bm wb wm vl vb vI ⟨m.c, startL m.w (planL (askC m.c) p) m.now, m.now⟩ ∧ Turned (fun j => j = wm) w w' := by
 obtain ⟨i0, hi, hz0, hz1, hz2⟩ := info_parts msg_info
 obtain ⟨s0, hs, hs0, hs1, hs2⟩ := info_parts saga_info
 have hlen := MoI.len hI
 have HM := Hd h; have HI := Hd hI; have HH := Hd hH; have HPB := Hd hPB
 have hwlt := h.wa.lt
 clear h hI hH hPB
 go_enter Tryz.func33, Tryz.ntmps33
 go_wp2_with fail
 go_loopw [5, 6] (fun v i wr => ∃ k : Nat, i = .int .i64 ((k : Int) + 1) ∧ k ≤ m.c.l.length ∧ Hid (wr.ownsRow w.heap.size tSaga 12 v (m.c.l.take k).length ((m.c.l.take k).flatMap encS)) ∧ Hid (Below w.heap.size w wr)) (fun _ i _ => m.c.l.length + 1 - (intOf i).toNat)
 case atStart => exact ⟨0, by go_num, Nat.zero_le _, World.ownsRow_nil _ _ _ _, Below.refl _ _⟩
 case round =>
  obtain ⟨k, rfl, hk, HO, HB⟩ := hrel
  obtain ⟨y0, _, _⟩ := (HM.out.below HB.out).cells
  by_cases hkl : k < m.c.l.length
  ·obtain ⟨s, hs'⟩ : ∃ s, m.c.l[k]? = some s := ⟨_, List.getElem?_eq_getElem hkl⟩
   have HS := Hd hs'
   have hlt : (k : Int) + 1 ≤ m.c.l.length := by omega
   have hltT := decide_eq_true hlt
   have hwk : IntKind.i64.wrap ((k : Int) + 1 + 1) = (k : Int) + 1 + 1 := IntWalk.i64_in _ (by omega)
   clear hs'
   go_wp2_with (go_at_call 34; refine (corders_any (HM.out.c.below HB.out)).mono ?_; rintro e w1 ⟨rfl, hb⟩; subst hb)
   refine (corder_any (HM.out.c.below HB.out) ((k : Int) + 1) (by omega) (by omega)).mono ?_
   rintro e w2 ⟨hyes, _, hb⟩
   obtain rfl := hyes s (by omega) (by rw [show ((k : Int) + 1).toNat - 1 = k by omega]; exact HS.out)
   go_upto_region 6 with (fail)
   obtain ⟨w3, hw3⟩ : ∃ w3, w3 = w2.alloc (.cells (sgA s) tSaga) := ⟨_, rfl⟩
   rw [← hw3]
   have hb3 : Below w2.heap.size w2 w3 := by rw [hw3]; exact below_alloc _ _
   have HX := Hd (show w3.heap[w2.heap.size]? = some (.cells (sgA s) tSaga (0, 0)) by rw [hw3]; exact heap_new _ _)
   have HB2 := Hd (bch HB.out (bch hb hb3 hb.size) HB.out.size); have HO2 := Hd (own_keep HO.out (bch hb hb3 hb.size))
   clear hyes hb hw3 hb3 y0
   generalize w2.heap.size = bx at HX ⊢
   obtain ⟨d0, d1, d2, d3, d4, d5, d6, d7, d8, d9, d10, d11⟩ := sg_box HX.out
   have hsz := HB2.out.size
   have htl : (m.c.l.take k).length ≤ m.c.l.length := by rw [List.length_take]; omega
   go_wp2_with (at_builtin; refine wpList_append_any _ rfl (.tmp 30) (.tmp 32) tSagasC rfl w.heap.size tSaga s0 (.agg #[.int .i64 0, .string ⟨#[]⟩, .string ⟨#[]⟩, .int .i64 0, .int .i64 0, .int .i64 0, .int .i64 0, .int .i64 0, .int .i64 0, .int .i64 0, .int .i64 0, .bool false]) 12 112 Tryz.underlying80 hs hs0 hs1 hs2 rfl (by decide) _ _ _ rfl (World.ownsRow.alloc HO2.out _) 1 (encS s) (src_blk (xs := encS s) (heap_new _ _) (encS_one _)) (by unfold maxLen; omega) (by omega) (by have := HB2.out.size; simp; omega) ?_; intro v2 w6 ho2 hg2 hat2)
   have HO6 := Hd (show w6.ownsRow w.heap.size tSaga 12 v2 (m.c.l.take (k + 1)).length ((m.c.l.take (k + 1)).flatMap encS) by rw [List.take_add_one, HS.out, Option.toList_some, List.length_append, List.flatMap_append]; simpa using ho2)
   have HB6 := Hd (Below.grown (HB2.out.alloc HB2.out.size (.cells (sgA s) tSaga)) hg2 (by have := HB2.out.size; simp; omega) (fun j hj => (HO2.out.lt j hj).1))
   clear ho2 hg2 hat2 d0 d1 d2 d3 d4 d5 d6 d7 d8 d9 d10 d11
   go_roundw
   case rel => exact ⟨k + 1, by go_num, by omega, HO6.out, HB6.out⟩
   case measure => simp [intOf]; omega
  ·obtain rfl : k = m.c.l.length := by omega
   have hswr := HB.out.size
   have hgtF := decide_eq_false (show ¬ ((m.c.l.length : Nat) : Int) + 1 ≤ m.c.l.length by omega)
   have ho3 := HO.out
   rw [List.take_length] at ho3
   have HOL := Hd ho3
   clear ho3
   go_wp2_with (go_at_call 34; refine (corders_any (HM.out.c.below HB.out)).mono ?_; rintro e w1 ⟨rfl, hb⟩; subst hb)
   refine (plan_any wr w.heap.size _ m.c.l p HOL.out (HPB.out _ (HB.out.mono hB)) hl (fun k s hs => (HH.out.at1 k s hs).1)).mono ?_
   rintro e w4 ⟨v, rfl, ho, hb⟩
   obtain ⟨P, hP⟩ : ∃ P, planL (askC m.c) p = P := ⟨_, rfl⟩
   rw [show planL (asksI m.c.l) p = P from hP] at ho
   obtain ⟨A, cl, rfl, hA⟩ := own_slice ho
   have hpl : P.length ≤ 60 := by have := plan_len (askC m.c) p; have := askC_len m.c; rw [hP] at *; omega
   have HPI := Hd (show ∀ y ∈ P, y ∈ askC m.c by rw [← hP]; intro y hy; exact (List.mem_filter.1 hy).1)
   have HPE := Hd hP; have HOP := Hd ho; have HA := Hd hA; have HB4 := Hd (bch HB.out hb HB.out.size); have HM4 := Hd (HM.out.below HB4.out)
   have hs4 := HB4.out.size
   clear ho hA hb hP HO HOL y0
   have HAV := Hd (fun j (hj : w4.heap.size ≤ j) => Av.far HM4.out.c.ii hj)
   have HT := Hd (fun W (hW : Turned (fun j => j = wm) w4 W) => HPB.out W (Below.turned (HB4.out.mono hB) hW (fun j hj => by have e : j = wm := hj; have := HM.out.ge; omega) (by omega)))
   go_wp2_with fail
   go_loopw [9, 38] (fun v i wr => ∃ k : Nat, i = .int .i64 k ∧ k ≤ P.length ∧ Hid (wr.ownsRow w4.heap.size tMsgM 7 v ((P.take k).map (askI m.c)).length (((P.take k).map (askI m.c)).flatMap encM)) ∧ Hid (MdW B wr mb cb bb pm bm wb wm vl vb vI ⟨m.c, startL m.w (P.take k) m.now, m.now⟩) ∧ Hid (Turned (fun j => j = wm) w4 wr)) (fun _ i _ => P.length - (intOf i).toNat)
   case atStart => exact ⟨0, rfl, Nat.zero_le _, World.ownsRow_nil _ _ _ _, HM4.out, Turned.refl _ _⟩
   case round =>
    obtain ⟨k, rfl, hk, HOM, HMr, HTr⟩ := hrel
    by_cases hkl : k < P.length
    ·obtain ⟨x, hx⟩ : ∃ x, P[k]? = some x := ⟨_, List.getElem?_eq_getElem hkl⟩
     obtain ⟨g, rfl, hgB, hgl⟩ := HA.out (by omega)
     have HOr := own_turned HOP.out HTr.out (fun j hj e => by have e' : j = wm := e; have hj' : g = j := (by simpa [Value.ownBlock] using hj); omega)
     have r0 := own_cellK encK_len (by decide) HOr hx 0 (by decide)
     have r1 := own_cellK encK_len (by decide) HOr hx 1 (by decide)
     have HX := Hd hx
     have HIN := Hd (HPI.out x (List.mem_of_getElem? hx))
     obtain ⟨o, d⟩ := x
     simp only [encK, List.getElem?_cons_zero, List.getElem?_cons_succ, Nat.add_zero] at r0 r1
     have hck : chk o d = true := asks_chk HH.out hl (o, d) HIN.out
     have hrng := chk_iff.1 hck
     have HCK := Hd hck
     have HG := Hd (startL_good m.now (P.take k) HI.out.g)
     have hlenW : (startL m.w (P.take k) m.now).length < 10000 := by have := startL_len m.now (P.take k) m.w; rw [List.length_take] at this; omega
     have HHAS := Hd (hasW_ks (W := startL m.w (P.take k) m.now) (k := (o, d)) ((ks_startL m.now (P.take k) m.w (fun y hy => asks_chk HH.out hl y (HPI.out y (List.mem_of_mem_take hy))) _).2 (.inr (by rw [HI.out.k]; exact HIN.out))))
     have hlt : (k : Int) < P.length := by omega
     have hk0 : (0 : Int) ≤ k := by omega
     clear hx HOr hck
     go_upto_region 11 with (fail)
     obtain ⟨wk, hwk⟩ : ∃ wk, wk = wr.alloc (.cells #[.int .i64 o, .int .i64 d] tKey) := ⟨_, rfl⟩
     rw [← hwk]
     have hbk : Below wr.heap.size wr wk := by rw [hwk]; exact below_alloc _ _
     have HK := Hd (show wk.heap[wr.heap.size]? = some (.cells #[.int .i64 o, .int .i64 d] tKey (0, 0)) by rw [hwk]; exact heap_new _ _)
     have HMk := Hd (HMr.out.below hbk); have HTk := Hd (HTr.out.trans (Turned.of_below hbk)); have HOk := Hd (own_keep HOM.out hbk)
     have hnk : ¬ wr.heap.size = wm := by have := HMr.out.wa.lt; omega
     have hskk := hbk.size
     clear hwk hbk r0 r1
     generalize wr.heap.size = bk at HK hnk hskk ⊢
     have HHR := Hd (fun W' (hb : Turned (fun j => j = wm) wk W') => (⟨Hd hb, kt HMk.out.hm hb HMk.out.ne.2 1 rfl, kt HMk.out.hm hb HMk.out.ne.2 2 rfl, kt HK.out hb hnk 0 rfl, kt HK.out hb hnk 1 rfl⟩ : (fun w' => Hid (Turned (fun j => j = wm) wk w') ∧ w'.cell? ⟨mb, 1, none⟩ = some (.pointer (some ⟨wb, 0, none⟩)) ∧ w'.cell? ⟨mb, 2, none⟩ = some (.int .i64 m.now) ∧ w'.cell? ⟨bk, 0, none⟩ = some (.int .i64 o) ∧ w'.cell? ⟨bk, 1, none⟩ = some (.int .i64 d)) W'))
     refine wp_region_noPanic ?_
     refine wp_region_held_drew (S := (fun w' => Hid (Turned (fun j => j = wm) wk w') ∧ w'.cell? ⟨mb, 1, none⟩ = some (.pointer (some ⟨wb, 0, none⟩)) ∧ w'.cell? ⟨mb, 2, none⟩ = some (.int .i64 m.now) ∧ w'.cell? ⟨bk, 0, none⟩ = some (.int .i64 o) ∧ w'.cell? ⟨bk, 1, none⟩ = some (.int .i64 d))) (by kernel_rfl) (HHR.out _ ((Turned.refl _ wk).drew)) (fun hHeld => ?_)
     refine tk 0 rfl rfl ‹_› ?_; try go_frame
     refine rdy 1 rfl (fun K hK => ?_)
     go_simp
     refine (check_any o d _).mono ?_
     rintro e w5 ⟨rfl, hb⟩
     rw [HCK.out]
     have HT5 := Hd ((Turned.refl (fun j => j = wm) wk).drew.trans (Turned.of_below hb)); have HW5 := Hd ((HMk.out.wa.below (below_drew1 (Below.refl _ _))).below hb)
     clear hb
     refine hK.out _ _ (HHR.out _ (HT5.out)) (fun hHeld => ?_)
     clear hK K
     (try simp only [gx1, gx2, gx3]); try go_frame
     refine tk 2 rfl rfl ‹_› ?_; try go_frame
     refine tk 3 rfl rfl ‹_› ?_; try go_frame
     refine tk 4 rfl rfl ‹_› ?_; try go_frame
     refine tk 5 rfl rfl ‹_› ?_; try go_frame
     refine tk 6 rfl rfl ‹_› ?_; try go_frame
     refine tk 7 rfl rfl ‹_› ?_; try go_frame
     refine tk 8 rfl rfl ‹_› ?_; try go_frame
     refine tk 9 rfl rfl ‹_› ?_; try go_frame
     refine tk 10 rfl rfl ‹_› ?_; try go_frame
     refine tk 11 rfl rfl ‹_› ?_; try go_frame
     refine rdy 12 rfl (fun K hK => ?_)
     go_simp
     refine (again_wa _ wb wm (startL m.w (P.take k) m.now) o d m.now HW5.out HG.out hlenW (by omega)).mono ?_
     rintro e w6 ⟨rfl, hwa, hg⟩
     rw [HHAS.out] at hwa ⊢
     rw [if_pos rfl] at hwa
     have HW6 := Hd hwa; have HT6 := Hd (HT5.out.trans (wm_turned hg))
     clear hwa hg
     refine hK.out _ _ (HHR.out _ (HT6.out)) (fun hHeld => ?_)
     clear hK K
     (try simp only [gx1, gx2, gx3]); try go_frame
     refine tk 13 rfl rfl ‹_› ?_; try go_frame
     refine wpAnyH_done (by kernel_rfl) ?_ _
     refine NoPanic.normal ?_
     clear hHeld HHR
     have HM6 := Hd (show MdW B w6 mb cb bb pm bm wb wm vl vb vI ⟨m.c, startL m.w (P.take (k + 1)) m.now, m.now⟩ by rw [List.take_add_one, HX.out, Option.toList_some, startL_snoc]; exact HMk.out.waits HW6.out HT6.out)
     have HTT6 := Hd (HTk.out.trans HT6.out); have HO6 := Hd (own_turned HOk.out HT6.out (fun j hj e => by have e' : j = wm := e; have := (HOk.out.lt j hj).1; omega)); have HK6 := Hd (heap_turned HK.out HT6.out hnk)
     clear HW5 HW6 HT5 HT6 HMk HTk HOk HK
     obtain ⟨k0, k1, _, _⟩ := cell2 HK6.out
     go_wp2_with fail
     refine (mask_any HM6.out HH.out (show m.c.l.length ≤ 1000 by omega) (HT.out _ HTT6.out) o d HIN.out).mono ?_
     rintro e w8 ⟨he, hb⟩
     obtain ⟨mm, hmm⟩ : ∃ mm, askI m.c (o, d) = mm := ⟨_, rfl⟩
     rw [show askI (Mod.c ⟨m.c, startL m.w (P.take (k + 1)) m.now, m.now⟩) (o, d) = mm from hmm] at he
     subst he
     have HMM := Hd hmm
     have HM8 := Hd (HM6.out.below hb); have HT8 := Hd (HTT6.out.trans (Turned.of_below hb)); have HO8 := Hd (own_keep HO6.out hb)
     clear hb hmm k0 k1
     obtain ⟨q0, q1, q2, q3, q4, q5, q6⟩ := mm
     unfold msgV
     dsimp only
     have hsz := HT8.out.size
     have hml : ((P.take k).map (askI m.c)).length ≤ P.length := by rw [List.length_map, List.length_take]; omega
     go_wp2_with (at_builtin; refine wpList_append_any _ rfl (.tmp 56) (.tmp 60) tMsgs rfl w4.heap.size tMsgM i0 (.agg #[.int .i64 0, .int .i64 0, .int .i64 0, .string ⟨#[]⟩, .int .i64 0, .int .i64 0, .int .i64 0]) 7 64 Tryz.underlying27 hi hz0 hz1 hz2 rfl (by decide) _ _ _ rfl (World.ownsRow.alloc HO8.out _) 1 (encM (q0, q1, q2, q3, q4, q5, q6)) (src_blk (xs := encM (q0, q1, q2, q3, q4, q5, q6)) (heap_new _ _) (encM_one _)) (by unfold maxLen; omega) (by omega) (by have := HT8.out.size; simp; omega) ?_; intro v2 w9 ho2 hg2 hat2)
     have HO9 := Hd (show w9.ownsRow w4.heap.size tMsgM 7 v2 ((P.take (k + 1)).map (askI m.c)).length (((P.take (k + 1)).map (askI m.c)).flatMap encM) by rw [List.take_add_one, HX.out, Option.toList_some, List.map_append, List.map_cons, List.map_nil, HMM.out, List.length_append, List.flatMap_append]; simpa using ho2)
     have HB9 := Hd (Below.grown (Below.alloc (Below.refl w4.heap.size w8) HT8.out.size (.cells #[.int .i64 q0, .int .i64 q1, .int .i64 q2, .string ⟨q3.toArray⟩, .int .i64 q4, .int .i64 q5, .int .i64 q6] tMsgM)) hg2 (by have := HT8.out.size; simp; omega) (fun j hj => (HO8.out.lt j hj).1) : Below w4.heap.size w8 w9)
     have HT9 := Hd (show Turned (fun j => j = wm) w4 w9 from HT8.out.far ((Turned.of_base HB9.out).mono (fun _ h => .inr h)))
     have HM9 := Hd (HM8.out.kept (S := fun j => w4.heap.size ≤ j) (Turned.of_base HB9.out) (fun j hj h4 => by have := HM4.out.ls hj; omega) (fun j h4 => (HAV.out j h4)))
     clear ho2 hg2 hat2
     go_roundw
     case rel => exact ⟨k + 1, by go_num, by omega, HO9.out, HM9.out, HT9.out⟩
     case measure => simp [intOf]; omega
    ·obtain rfl : k = P.length := by omega
     have hom := HOM.out; have hmr := HMr.out
     rw [List.take_length] at hom hmr
     have HE := Hd hom; have HMR := Hd hmr
     clear hom hmr
     go_wp2_with fail
     go_ret
     exact ⟨_, rfl, by unfold againMs; rw [HPE.out]; exact own_base HE.out HB4.out.size, by rw [HPE.out]; exact HMR.out, (Turned.of_below HB4.out).trans HTr.out⟩
end Go.Proofs.YtlkncmpengpbiaaGreatDoor
/- The model's Place: the entry that places an order. -/
namespace Go.Proofs.YtlkncmpengpbiaaGreatDoor
open Go.RowKit Go.Maps Co Key Rw Sa Od Mo Wa
set_option linter.unusedSimpArgs false
set_option linter.unusedVariables false
set_option maxRecDepth 100000
set_option maxHeartbeats 4000000
theorem mplace_any {B : Nat} {w : World} {mb cb bb pm bm wb wm : Nat} {vl vb vI : Value} {m : Mod} (h : MdW B w mb cb bb pm bm wb wm vl vb vI m) (hl : m.c.l.length ≤ 1000) (id q a : Int) (r s : List UInt8) :
  Calls Tryz.prog 10 #[.pointer (some ⟨mb, 0, none⟩), .agg #[.int .i64 id, .string ⟨r.toArray⟩, .string ⟨s.toArray⟩, .int .i64 q, .int .i64 a]] w fun e w' => e = .returned (.agg #[.int .i64 1, .int .i64 ((m.c.l.length : Int) + 1), .string ⟨r.toArray⟩, .string ⟨s.toArray⟩, .int .i64 q, .int .i64 a, .int .i64 0, .int .i64 0, .int .i64 0, .int .i64 0, .int .i64 0, .slice none 0 0]) ∧ Below w.heap.size w w' := by
 obtain ⟨wa, hA⟩ : ∃ wa, wa = (w.alloc (.cells #[.int .i64 id, .string ⟨r.toArray⟩, .string ⟨s.toArray⟩, .int .i64 q, .int .i64 a] 29)).alloc (.cells #[.int .i64 0, .int .i64 0, .string ⟨#[]⟩, .string ⟨#[]⟩, .int .i64 0, .int .i64 0, .int .i64 0, .int .i64 0, .int .i64 0, .int .i64 0, .int .i64 0, .slice none 0 0] 36) := ⟨_, rfl⟩
 have hb : Below w.heap.size w wa := by rw [hA]; exact (below_alloc w _).alloc (by simp) _
 have HO := Hd (show wa.heap[w.heap.size]? = some (.cells #[.int .i64 id, .string ⟨r.toArray⟩, .string ⟨s.toArray⟩, .int .i64 q, .int .i64 a] 29 (0, 0)) by rw [hA]; exact heap_keep (heap_new w _) (below_alloc _ _))
 have HZ := Hd (show wa.heap[w.heap.size + 1]? = some (.cells #[.int .i64 0, .int .i64 0, .string ⟨#[]⟩, .string ⟨#[]⟩, .int .i64 0, .int .i64 0, .int .i64 0, .int .i64 0, .int .i64 0, .int .i64 0, .int .i64 0, .slice none 0 0] 36 (0, 0)) by rw [hA]; have := heap_new (w.alloc (.cells #[.int .i64 id, .string ⟨r.toArray⟩, .string ⟨s.toArray⟩, .int .i64 q, .int .i64 a] 29)) (.cells #[.int .i64 0, .int .i64 0, .string ⟨#[]⟩, .string ⟨#[]⟩, .int .i64 0, .int .i64 0, .int .i64 0, .int .i64 0, .int .i64 0, .int .i64 0, .int .i64 0, .slice none 0 0] 36); rwa [show (w.alloc (.cells #[.int .i64 id, .string ⟨r.toArray⟩, .string ⟨s.toArray⟩, .int .i64 q, .int .i64 a] 29)).heap.size = w.heap.size + 1 by simp] at this)
 have HM := Hd (h.below hb); have HB := Hd hb; have HA := Hd hA
 have hsz := heap_lt HZ.out
 clear h hb hA
 obtain ⟨c0, _, _⟩ := HM.out.cells
 obtain ⟨o0, o1, o2, o3, o4⟩ := cell5 HO.out
 obtain ⟨p0, p1, p2, p3, p4⟩ := froz5 HO.out
 obtain ⟨z0, z1, z2, z3, z4, z5, z6, z7, z8, z9, z10, z11⟩ := cell12 HZ.out
 obtain ⟨f0, f1, f2, f3, f4, f5, f6, f7, f8, f9, f10, f11⟩ := froz12 HZ.out
 have hwr : IntKind.i64.wrap ((m.c.l.length : Int) + 1) = (m.c.l.length : Int) + 1 := IntWalk.i64_in _ (by omega)
 go_enter Tryz.func10, Tryz.ntmps10
 go_upto_region 1 with (fail)
 rw [← HA.out]
 go_wp2_with (first | (go_at_call 28; refine (mnone_any HM.out).mono ?_; rintro e w1 ⟨rfl, hb⟩; subst hb) | (go_at_call 34; refine (corders_any HM.out.c).mono ?_; rintro e w1 ⟨rfl, hb⟩; subst hb))
 refine bodyPost_ret (v := .agg #[.int .i64 1, .int .i64 ((m.c.l.length : Int) + 1), .string ⟨r.toArray⟩, .string ⟨s.toArray⟩, .int .i64 q, .int .i64 a, .int .i64 0, .int .i64 0, .int .i64 0, .int .i64 0, .int .i64 0, .slice none 0 0]) ?_ rfl ⟨rfl, ?_⟩
 ·simp [results, Tryz.results10, go_sem, z0, z1, z2, z3, z4, z5, z6, z7, z8, z9, z10, z11]
 ·exact Below.turned HB.out (S := fun j => j = w.heap.size ∨ j = w.heap.size + 1) (((turned_set wa w.heap.size 0 _).mono (fun _ h => .inl h)).trans ((turned_set12 _ (w.heap.size + 1) _ _ _ _ _ _ _ _ _ _ _ _).mono (fun _ h => .inr h))) (fun i hi => by rcases hi with rfl | rfl <;> omega) HB.out.size
end Go.Proofs.YtlkncmpengpbiaaGreatDoor
/- 'm[k] op= v' at a map that is known as a list of entries: the entry, then the store. Of no program. -/
namespace Go.Proofs.YtlkncmpengpbiaaGreatDoor
open Go.Maps Go.WideShapes Go.WideElems Go.MapKept Go.ChangeMaps
open Go.WideMaps (KeyLaw)

section
variable {P : Program} {k : TypeId} {κ α : Type} {mkK : κ → Value} {mkV : α → Value}

theorem MapL.entry [DecidableEq κ] {t e : TypeId} {w : World} {b : Nat} {E : List (κ × α)} (h : MapL P k mkK mkV w b E) (KL : KeyLaw P k) (ht : P.underlying t = some (.map k e)) {z : Value} (hz : ∀ u : World, (zeroValue e).run P u = .ok z u) (hn : E.length < maxLen) {x : κ} {l : Lit} (hx : keyOf P k (mkK x) = some l) (inj : ∀ y, mkK y = mkK x → y = x) :
    ∃ (v0 : Value) (st : Nat) (w1 : World), (Instr.mapEntry t (.map (some b)) (mkK x)).run P w = .ok (.tuple #[v0, goInt st]) w1 ∧ w.grownBy w1 (some b) ∧ w1.heap.size = w.heap.size ∧
      ∀ (w2 : World) (v : α), w2.heap[b]? = w1.heap[b]? → ∃ w3, (Instr.entryStore t (.map (some b)) (goInt st) (mkV v)).run P w2 = .ok () w3 ∧ MapL P k mkK mkV w3 b ((x, v) :: without E x) ∧ w2.grownBy w3 (some b) ∧ w3.heap.size = w2.heap.size := by
  have K := Keyed.of_law KL
  have hs := fun v => h.store K ht hn hx inj v
  obtain ⟨⟨D, ⟨es, clock, hb, F, hsz, hD⟩, hp⟩, h3, h4⟩ := h
  obtain ⟨v0, st, es1, clock1, hrun, _, hstore⟩ := entry_then_store KL ht hz hb F hx
  refine ⟨v0, st, _, hrun, ⟨rfl, rfl, rfl, by simp [setBlock], fun i _ hi => heap_setBlock_other hb _ (fun e => hi (by rw [e]))⟩, by simp [setBlock], fun w2 v hw2 => ?_⟩
  have hb1 : w2.heap[b]? = some (.map es1 clock1) := hw2.trans (heap_setBlock_same hb _)
  obtain ⟨es', clock', h1, h2⟩ := hstore w2 (mkV v) hb1
  obtain ⟨w', hr, hm, _⟩ := hs v
  rw [h2] at hr
  injection hr with _ hr
  subst hr
  refine ⟨_, h1, hm.block ?_, ⟨rfl, rfl, rfl, by simp [setBlock], fun i _ hi => heap_setBlock_other hb1 _ (fun e => hi (by rw [e]))⟩, by simp [setBlock]⟩
  rw [heap_setBlock_same hb1, heap_setBlock_same hb]

/-- What stands at the key is the same behind the entry. -/
theorem MapL.entry_look [DecidableEq κ] {t e : TypeId} {w w1 : World} {b : Nat} {E : List (κ × α)} (h : MapL P k mkK mkV w b E) (KL : KeyLaw P k) (ht : P.underlying t = some (.map k e)) {z : α} (hz : ∀ u : World, (zeroValue e).run P u = .ok (mkV z) u) (hn : E.length < maxLen) {x : κ} {l : Lit} (hx : keyOf P k (mkK x) = some l) (inj : ∀ y, mkK y = mkK x → y = x) {r V : Value}
    (hrun : (Instr.mapEntry t (.map (some b)) (mkK x)).run P w = .ok r w1) (hV : (Instr.lookup t (.map (some b)) (mkK x) false).run P w = .ok V w) : (Instr.lookup t (.map (some b)) (mkK x) false).run P w1 = .ok V w1 := by
  have K := Keyed.of_law KL
  have hs := h.store K ht hn hx inj z
  obtain ⟨⟨D, ⟨es, clock, hb, F, hsz, hD⟩, hp⟩, h3, h4⟩ := h
  rcases KL.find w hx es.toList F.keys with ⟨h1, h2⟩ | ⟨j, e0, h1, h2, h5⟩
  · have hE : (Instr.mapEntry t (.map (some b)) (mkK x)).run P w = .ok (.tuple #[mkV z, goInt clock]) (setBlock w b (.map (es.push ⟨mkK x, mkV z, clock⟩) (clock + 1))) := by
      simp [Instr.mapEntry, run_underlying ht, MapKept.run_getObj_map hb, KL.check w false hx, h1, hz, MapKept.run_setObj_map _ hb, Result.andThen, setBlock]
    have hU : (Instr.mapUpdate t (.map (some b)) (mkK x) (mkV z)).run P w = .ok () (setBlock w b (.map (es.push ⟨mkK x, mkV z, clock⟩) (clock + 1))) := by
      simp [Instr.mapUpdate, run_underlying ht, MapKept.run_getObj_map hb, KL.check w false hx, h1, MapKept.run_setObj_map _ hb, Result.andThen, setBlock]
    have hL : (Instr.lookup t (.map (some b)) (mkK x) false).run P w = .ok (mkV z) w := by
      simp [Instr.lookup, run_underlying ht, MapKept.run_getObj_map hb, KL.check w es.isEmpty hx, h1, hz, Result.andThen]
    have hrun := (Result.ok.inj (hE.symm.trans hrun)).2
    have hV := (Result.ok.inj (hL.symm.trans hV)).1
    obtain ⟨w', hr, hm, _⟩ := hs
    have hr := (Result.ok.inj (hU.symm.trans hr)).2
    have hww := hr.symm.trans hrun
    clear hr hrun hE hU
    subst hww
    subst hV
    rcases hm.look K ht (hz _) hx inj with ⟨v, hv, _, hr1⟩ | ⟨hno, _, _⟩
    · rcases List.mem_cons.1 hv with e1 | hv
      · have e1 := (Prod.mk.inj e1).2
        subst e1
        exact hr1
      · exact absurd rfl (mem_without.1 hv).2
    · exact absurd rfl (hno _ (List.mem_cons_self ..))
  · have hj : es[j]? = some e0 := by simpa using h2
    have hsame : es.modify j (fun e => { e with key := mkK x }) = es := by
      apply Array.ext'
      rw [Array.toList_modify, modify_eq_set _ _ _ _ h2]
      have : ({ e0 with key := mkK x } : MapEntry) = e0 := by rw [← h5]
      rw [this]
      exact set_self _ _ _ h2
    have hE : (Instr.mapEntry t (.map (some b)) (mkK x)).run P w = .ok (.tuple #[e0.val, goInt e0.born]) (setBlock w b (.map es clock)) := by
      simp [Instr.mapEntry, run_underlying ht, MapKept.run_getObj_map hb, KL.check w false hx, h1, hj, h5, KL.stays w hx, hsame, MapKept.run_setObj_map _ hb, Result.andThen, setBlock]
    have hrun := (Result.ok.inj (hE.symm.trans hrun)).2
    have hw : setBlock w b (.map es clock) = w := by
      unfold setBlock
      obtain ⟨hlt, he⟩ := Array.getElem?_eq_some_iff.1 hb
      rw [show w.heap.setIfInBounds b (.map es clock) = w.heap by
        apply Array.ext'
        rw [Array.toList_setIfInBounds]
        exact set_self _ _ _ (by simpa using hb)]
    rw [hw] at hrun
    subst hrun
    exact hV

/-- What a store at the entry does. -/
def EntryAt (P : Program) (k : TypeId) (mkK : κ → Value) (mkV : α → Value) (t : TypeId) (b st : Nat) (w1 : World) (E : List (κ × α)) (x : κ) : Prop :=
  ∀ (w2 : World) (v : α), w2.heap[b]? = w1.heap[b]? → ∃ w3, (Instr.entryStore t (.map (some b)) (goInt st) (mkV v)).run P w2 = .ok () w3 ∧ MapL P k mkK mkV w3 b ((x, v) :: E) ∧ w2.grownBy w3 (some b) ∧ w3.heap.size = w2.heap.size

variable (w : World) {ops : Array Oper} {rest : List Oper} {o : Oper} {a : Act} {Q : Exit → Act → World → Prop}
theorem wpList_entryL [DecidableEq κ] (hg : o.guard = none) (m x : Operand) (t : TypeId) (hop : o.op = Op.mapEntry t m x) (k e : TypeId) (KL : KeyLaw P k) (ht : P.underlying t = some (.map k e)) {z : Value} (hz : ∀ u : World, (zeroValue e).run P u = .ok z u) (b : Nat) (E : List (κ × α))
    (hm : a.eval m = .map (some b)) (h : MapL P k mkK mkV w b E) (hn : E.length < maxLen) (key : κ) (hx : a.eval x = mkK key) {l : Lit} (hkey : keyOf P k (mkK key) = some l) (inj : ∀ y, mkK y = mkK key → y = key)
    (hK : ∀ (v0 : Value) (st : Nat) (w1 : World), (Instr.mapEntry t (.map (some b)) (mkK key)).run P w = .ok (.tuple #[v0, goInt st]) w1 → EntryAt P k mkK mkV t b st w1 (without E key) key → w.grownBy w1 (some b) → w1.heap.size = w.heap.size → wpList P ops Q rest (a.put o.dst (.tuple #[v0, .int .i64 st])) w1) : wpList P ops Q (o :: rest) a w := by
  refine wpList_plain hg fun K' hK' => ?_
  obtain ⟨v0, st, w1, hrun, h1, h2, h3⟩ := h.entry KL ht hz hn hkey inj
  unfold Oper.wp
  simp [execOp, hop, hm, hx, hrun, Result.andThen]
  exact hK' _ _ (hK v0 st w1 hrun h3 h1 h2)
theorem wpList_entryStoreL (hg : o.guard = none) (m s x : Operand) (t k : TypeId) (hop : o.op = Op.entryStore t m s x) (b st : Nat) (w1 : World) (E : List (κ × α)) (key : κ) (hm : a.eval m = .map (some b)) (hs : a.eval s = .int .i64 st) (v : α) (hx : a.eval x = mkV v) (h : EntryAt P k mkK mkV t b st w1 E key) (hb : w.heap[b]? = w1.heap[b]?)
    (hK : ∀ w3, MapL P k mkK mkV w3 b ((key, v) :: E) → w.grownBy w3 (some b) → w3.heap.size = w.heap.size → wpList P ops Q rest (a.put o.dst undef) w3) : wpList P ops Q (o :: rest) a w := by
  refine wpList_plain hg fun K' hK' => ?_
  obtain ⟨w3, hrun, h1, h2, h3⟩ := h w v hb
  have hrun' : (Instr.entryStore t (.map (some b)) (.int .i64 st) (mkV v)).run P w = .ok () w3 := hrun
  unfold Oper.wp
  simp [execOp, hop, hm, hs, hx, hrun', Result.andThen]
  exact hK' _ _ (hK w3 h1 h2 h3)
end
end Go.Proofs.YtlkncmpengpbiaaGreatDoor
/- What was asked for, as a map of counts. -/
namespace Go.Proofs.YtlkncmpengpbiaaGreatDoor
open Go.RowKit Go.Maps Co Key Rw Sa Od Mo Wa
set_option linter.unusedSimpArgs false
set_option linter.unusedVariables false
set_option maxRecDepth 100000
set_option maxHeartbeats 4000000
abbrev tWas : TypeId := 72
def mkC (n : Int) : Value := .int .i64 n
theorem mapWas : Tryz.prog.underlying tWas = some (.map tKey 3) := by kernel_rfl
theorem zeroC (w : World) : (zeroValue 3).run Tryz.prog w = .ok (mkC 0) w := by kernel_rfl
theorem lawKeyL : Go.WideMaps.KeyLaw Tryz.prog tKey := deep_law_laid (P := Tryz.prog) (show laidOutB Tryz.prog = true by kernel_rfl) (m := 4) (by omega) (k := tKey) (of_decide_eq_true (by kernel_rfl)) (by kernel_rfl) (by kernel_rfl)
abbrev Was (w : World) (b : Nat) (K : List (Int × Int)) : Prop := MapL Tryz.prog tKey mkKey mkC w b (K.map fun k => (k, (1 : Int)))
theorem was_no {K : List (Int × Int)} {x : Int × Int} (h : x ∉ K) : ∀ p ∈ (K.map fun k => (k, (1 : Int))), p.1 ≠ x := by
 intro p hp e
 obtain ⟨k, hk, rfl⟩ := List.mem_map.1 hp
 exact h (e ▸ hk)
theorem was_look {w : World} {b : Nat} {K : List (Int × Int)} (h : Was w b K) {x : Int × Int} {l : Lit} (hx : keyOf Tryz.prog tKey (mkKey x) = some l) : (Instr.lookup tWas (.map (some b)) (mkKey x) false).run Tryz.prog w = .ok (mkC (if x ∈ K then 1 else 0)) w := by
 rcases h.look lawKey mapWas (zeroC w) hx (mkKey_inj _) with ⟨v, hv, _, r⟩ | ⟨hn, _, r⟩
 ·obtain ⟨k, hk, e⟩ := List.mem_map.1 hv
  injection e with e1 e2
  subst e1; subst e2
  rw [if_pos hk]; exact r
 ·rw [if_neg (fun hk => hn (x, 1) (List.mem_map.2 ⟨x, hk, rfl⟩) rfl)]; exact r
theorem was_without {K : List (Int × Int)} {x : Int × Int} : without (K.map fun k => (k, (1 : Int))) x = (K.filter fun k => decide (k ≠ x)).map fun k => (k, (1 : Int)) := by
 unfold without
 rw [List.filter_map]
 rfl
theorem was_put {w : World} {b : Nat} {K : List (Int × Int)} {x : Int × Int} (hx : x ∉ K) (h : MapL Tryz.prog tKey mkKey mkC w b ((x, 1) :: without (K.map fun k => (k, (1 : Int))) x)) : Was w b (K ++ [x]) := by
 rw [was_without, List.filter_eq_self.2 (fun k hk => by simp; exact fun e => hx (e ▸ hk))] at h
 refine h.perm ?_
 rw [List.map_append]
 exact List.perm_append_comm (l₁ := [(x, (1 : Int))])
end Go.Proofs.YtlkncmpengpbiaaGreatDoor

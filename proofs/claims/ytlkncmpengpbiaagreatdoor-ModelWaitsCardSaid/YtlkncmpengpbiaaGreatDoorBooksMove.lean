/- Books in memory: the postings, the maps. -/
import Derived.Test.YtlkncmpengpbiaaGreatDoorCoreSpec
import Derived.Test.YtlkncmpengpbiaaGreatDoorMatchFind
import Derived.Test.YtlkncmpengpbiaaGreatDoorTurn
import Derived.Test.YtlkncmpengpbiaaGreatDoorIntake
import Derived.Test.YtlkncmpengpbiaaGreatDoorSagaWalk
import Derived.Test.YtlkncmpengpbiaaGreatDoorMoneyWalk1
import Derived.Test.YtlkncmpengpbiaaGreatDoorShort
namespace Go.Proofs.YtlkncmpengpbiaaGreatDoor
open Go.RowKit Go.Maps Co

abbrev tPost : TypeId := 149
abbrev tPosts : TypeId := 95
abbrev tBooks : TypeId := 154
abbrev tSlot : TypeId := 170
abbrev tMapS : TypeId := 151
abbrev tMapB : TypeId := 152
abbrev tStrC : TypeId := 9
abbrev tI64 : TypeId := 2
def encP (p : Po) : List Value := [.string ⟨p.id.toArray⟩, .int .i64 p.ord, .int .i64 p.deb, .int .i64 p.cre, .int .i64 p.amt]
abbrev mkPost (p : Po) : Value := .agg #[.string ⟨p.id.toArray⟩, .int .i64 p.ord, .int .i64 p.deb, .int .i64 p.cre, .int .i64 p.amt]
def mkSlot (k : Int × Int) : Value := .agg #[.int .i64 k.1, .int .i64 k.2]
abbrev mkStrC (s : List UInt8) : Value := .string ⟨s.toArray⟩
theorem encP_len (p : Po) : (encP p).length = 5 := rfl
theorem encP_one (p : Po) : ∀ u ∈ encP p, u.oneCell' = true := by
  intro u hu; simp [encP] at hu; rcases hu with rfl | rfl | rfl | rfl | rfl <;> rfl
theorem post_info : (Tryz.prog.info? tPost).map (fun i => (i.zero, i.size, i.bytes)) = some (some (mkPost ⟨[], 0, 0, 0, 0⟩), 5, 48) := by kernel_rfl
theorem mapS : Tryz.prog.underlying tMapS = some (.map tStrC tPost) := by kernel_rfl
theorem mapB : Tryz.prog.underlying tMapB = some (.map tSlot tI64) := by kernel_rfl
theorem zeroPost (w : World) : (zeroValue tPost).run Tryz.prog w = .ok (mkPost ⟨[], 0, 0, 0, 0⟩) w := by kernel_rfl
theorem zeroI64 (w : World) : (zeroValue tI64).run Tryz.prog w = .ok (mkI 0) w := by kernel_rfl
theorem lawStrC : Keyed Tryz.prog tStrC := string_keyed Tryz.underlying9
theorem str_readsC (s : List UInt8) (h : s.length ≤ 1000) : ∃ l, keyOf Tryz.prog tStrC (mkStrC s) = some l := ⟨_, WideMaps.keyOf_string_mk (P := Tryz.prog) (k := tStrC) Tryz.underlying9 (by show s.toArray.size ≤ _; unfold maxLen; simp; omega)⟩
theorem mkStr_injC (k : List UInt8) : ∀ y, mkStrC y = mkStrC k → y = k := by
  intro y h
  injection h with h
  have := congrArg (fun b : ByteArray => b.data.toList) h
  simpa using this
theorem mkSlot_inj (k : Int × Int) : ∀ y, mkSlot y = mkSlot k → y = k := by
  intro y h
  simp [mkSlot] at h
  exact Prod.ext h.1 h.2
theorem lawSlot : Keyed Tryz.prog tSlot := Keyed.of_law (deep_law_laid (P := Tryz.prog) (show laidOutB Tryz.prog = true by kernel_rfl) (m := 4) (by omega) (k := tSlot) (of_decide_eq_true (by kernel_rfl)) (by kernel_rfl) (by kernel_rfl))
theorem slot_reads (k : Int × Int) (h : (-9223372036854775808 ≤ k.1 ∧ k.1 ≤ 9223372036854775807) ∧ (-9223372036854775808 ≤ k.2 ∧ k.2 ≤ 9223372036854775807)) : ∃ l, keyOf Tryz.prog tSlot (mkSlot k) = some l := by
  obtain ⟨a, b⟩ := k
  obtain ⟨⟨h1, h2⟩, h3, h4⟩ := h
  have w1 : (Lit.int .i64 a).wf = true := by simp [Lit.wf, IntKind.min, IntKind.max, IntKind.signed, IntKind.bits]; omega
  have w2 : (Lit.int .i64 b).wf = true := by simp [Lit.wf, IntKind.min, IntKind.max, IntKind.signed, IntKind.bits]; omega
  have hf : (mkSlot (a, b)).formed Tryz.prog tSlot = true := by kernel_rfl
  have hk : Tryz.prog.keyType tSlot = true := by kernel_rfl
  have hc : Tryz.prog.cellsOf tSlot = 2 := by kernel_rfl
  have hi : Tryz.prog.cellsOf 3 = 1 := by kernel_rfl
  obtain ⟨d, hd⟩ : ∃ d, Tryz.prog.types.size = d + 1 := ⟨Tryz.prog.types.size - 1, by have : 0 < Tryz.prog.types.size := of_decide_eq_true (by kernel_rfl); omega⟩
  have hl : Tryz.prog.keyLits (Tryz.prog.types.size + 1) tSlot (mkSlot (a, b)).cells.toList = some [.int .i64 a, .int .i64 b] := by
    rw [hd]
    simp [Program.keyLits, mkSlot, Value.cells, Tryz.underlying170, Tryz.underlying3, hc, hi, w1, w2]
  unfold keyOf
  rw [Tryz.underlying170]
  simp only [hf, hk, hl, Bool.and_self, if_true, Option.map_some]
  exact ⟨_, rfl⟩
theorem slots_nodup {w : World} {b : Nat} {E : List ((Int × Int) × Int)} (h : MapL Tryz.prog tSlot mkSlot mkI w b E) : (E.map (·.1)).Nodup := by
  rw [List.Nodup, List.pairwise_map]
  exact h.apart.imp fun h e => h (by rw [e])

theorem map_nil (pm : Nat) (W : World) : (binOp BinOp.eql tMapS (.map (some pm)) (.map none)).run Tryz.prog W = .ok (.bool false) W := by kernel_rfl

/-- The block bb holds books of these postings; all that they own lies at B or behind. -/
structure Bw (B : Nat) (w : World) (bb pm bm : Nat) (vb : Value) (b : List Po) : Prop where
  hd : w.heap[bb]? = some (.cells #[vb, .map (some pm), .map (some bm)] tBooks (0, 0))
  ob : w.ownsRow B tPost 5 vb b.length (b.flatMap encP)
  mp : ∃ E, MapL Tryz.prog tStrC mkStrC mkPost w pm E ∧ E.length ≤ b.length ∧ ∀ e ∈ E, ∃ p ∈ b, p.id = e.1
  mb : ∃ E, MapL Tryz.prog tSlot mkSlot mkI w bm E ∧ E.length ≤ 4 * b.length ∧ ∀ a o, lk E (a, o) = balI b a o
  ge : B ≤ bb ∧ B ≤ pm ∧ B ≤ bm
  ne : bb ≠ pm ∧ bb ≠ bm ∧ pm ≠ bm
  oo : ∀ j, vb.ownBlock = some j → j ≠ bb ∧ j ≠ pm ∧ j ≠ bm
  ok : ∀ p ∈ b, mayP p
/-- The blocks that books may turn. -/
def Bs (bb pm bm : Nat) (vb : Value) (j : Nat) : Prop := j = bb ∨ j = pm ∨ j = bm ∨ vb.ownBlock = some j
theorem Bw.lt {B : Nat} {w : World} {bb pm bm : Nat} {vb : Value} {b : List Po} (h : Bw B w bb pm bm vb b) : bb < w.heap.size ∧ pm < w.heap.size ∧ bm < w.heap.size := by
  obtain ⟨_, m1, _⟩ := h.mp
  obtain ⟨_, m2, _⟩ := h.mb
  exact ⟨heap_lt h.hd, m1.lt, m2.lt⟩
theorem Bw.ls {B : Nat} {w : World} {bb pm bm : Nat} {vb : Value} {b : List Po} (h : Bw B w bb pm bm vb b) {j : Nat} (hj : Bs bb pm bm vb j) : B ≤ j ∧ j < w.heap.size := by
  have hl := h.lt
  have hg := h.ge
  rcases hj with rfl | rfl | rfl | hj
  · omega
  · omega
  · omega
  · exact h.ob.lt j hj
theorem Bw.kept {B : Nat} {w w' : World} {bb pm bm : Nat} {vb : Value} {b : List Po} (h : Bw B w bb pm bm vb b) {S : Nat → Prop} (ht : Turned S w w') (hS : ∀ j, Bs bb pm bm vb j → ¬ S j) : Bw B w' bb pm bm vb b := by
  have hl := h.lt
  obtain ⟨E1, m1, m2⟩ := h.mp
  obtain ⟨E2, n1, n2⟩ := h.mb
  exact ⟨(ht.block _ hl.1 (hS _ (.inl rfl))).trans h.hd, own_turned h.ob ht (fun j hj => hS j (.inr (.inr (.inr hj)))), ⟨E1, m1.block (ht.block _ hl.2.1 (hS _ (.inr (.inl rfl)))), m2⟩, ⟨E2, n1.block (ht.block _ hl.2.2 (hS _ (.inr (.inr (.inl rfl))))), n2⟩, h.ge, h.ne, h.oo, h.ok⟩
theorem Bw.below {B : Nat} {w w' : World} {bb pm bm : Nat} {vb : Value} {b : List Po} (h : Bw B w bb pm bm vb b) (hb : Below w.heap.size w w') : Bw B w' bb pm bm vb b := h.kept (S := fun _ => False) (Turned.of_below hb) (fun _ _ h => h)
theorem Bw.many {B : Nat} {w : World} {bb pm bm : Nat} {vb : Value} {b : List Po} (h : Bw B w bb pm bm vb b) (hl : b.length ≤ 100000) (a o : Int) : -439804651110400000 ≤ balI b a o ∧ balI b a o ≤ 439804651110400000 := by
  have := bal_bd h.ok a o
  omega

set_option linter.unusedSimpArgs false in
set_option maxRecDepth 100000 in
set_option maxHeartbeats 1000000 in
theorem bnone_any {B : Nat} {w : World} {bb pm bm : Nat} {vb : Value} {b : List Po} (h : Bw B w bb pm bm vb b) : Calls Tryz.prog 108 #[.pointer (some ⟨bb, 0, none⟩)] w fun e w' => e = .returned (.bool false) ∧ w = w' := by
  obtain ⟨c0, c1, c2⟩ := cell3c h.hd
  have hmn := map_nil pm
  go_enter Tryz.func108, Tryz.ntmps108
  go_wp2_with fail
  go_ret
  exact ⟨rfl, rfl⟩
set_option linter.unusedSimpArgs false in
set_option maxHeartbeats 1000000 in
theorem bacc_any (n : Int) (w : World) (h0 : 0 ≤ n) (h4 : n ≤ 4) : Calls Tryz.prog 160 #[.int .i64 n] w fun e w' => e = .returned (.bool true) ∧ w = w' := by
  go_enter Tryz.func160, Tryz.ntmps160
  go_wp2_with fail
  go_ret
  exact ⟨rfl, rfl⟩
theorem po_ne {s : List UInt8} (h : 0 < s.length) : s.isEmpty = false := by cases s with | nil => cases h | cons x s => rfl
set_option linter.unusedSimpArgs false in
set_option linter.unusedVariables false in
set_option maxRecDepth 100000 in
set_option maxHeartbeats 4000000 in
theorem bmay_any (p : Po) (w : World) (h : mayP p) : Calls Tryz.prog 130 #[mkPost p] w fun e w' => e = .returned (.bool true) ∧ Below w.heap.size w w' := by
  obtain ⟨h1, _, h2, _, h3, h4, h5, h6, h7, h8, _⟩ := h
  have g1 := po_ne h1
  have HB := Lib.hid (below_alloc w (.cells #[.string ⟨p.id.toArray⟩, .int .i64 p.ord, .int .i64 p.deb, .int .i64 p.cre, .int .i64 p.amt] tPost))
  have g2 := bneT h7
  have HA := Lib.hid (fun W => bacc_any p.deb W h3 h4)
  have HC := Lib.hid (fun W => bacc_any p.cre W h5 h6)
  have HM := Lib.hid (heap_new w (.cells #[.string ⟨p.id.toArray⟩, .int .i64 p.ord, .int .i64 p.deb, .int .i64 p.cre, .int .i64 p.amt] tPost))
  go_enter Tryz.func130, Tryz.ntmps130
  go_wp2_with fail
  generalize w.alloc (.cells #[.string ⟨p.id.toArray⟩, .int .i64 p.ord, .int .i64 p.deb, .int .i64 p.cre, .int .i64 p.amt] tPost) = wa at HB HM ⊢
  obtain ⟨m0, m1, m2, m3, m4⟩ := cell5 HM.out
  go_wp2_with (go_at_call 160; first | (refine (HA.out _).mono ?_; rintro e w1 ⟨rfl, hb⟩; subst hb) | (refine (HC.out _).mono ?_; rintro e w1 ⟨rfl, hb⟩; subst hb))
  go_ret
  exact ⟨rfl, HB.out⟩
end Go.Proofs.YtlkncmpengpbiaaGreatDoor
/- Books: the balances that a posting changes. -/
namespace Go.Proofs.YtlkncmpengpbiaaGreatDoor
open Go.RowKit Go.Maps Co
set_option linter.unusedSimpArgs false
set_option linter.unusedVariables false
set_option maxRecDepth 100000
set_option maxHeartbeats 8000000

theorem blook {w : World} {bm : Nat} {E : List ((Int × Int) × Int)} (hE : MapL Tryz.prog tSlot mkSlot mkI w bm E) (a o : Int) (ha : -9223372036854775808 ≤ a ∧ a ≤ 9223372036854775807) (ho : -9223372036854775808 ≤ o ∧ o ≤ 9223372036854775807) :
  (Instr.lookup tMapB (.map (some bm)) (.agg #[.int .i64 a, .int .i64 o]) false).run Tryz.prog w = .ok (.int .i64 (lk E (a, o))) w := by
 obtain ⟨l, hl⟩ := slot_reads (a, o) ⟨ha, ho⟩
 rcases hE.look lawSlot mapB (zeroI64 w) hl (mkSlot_inj _) with ⟨v, hv, _, hr⟩ | ⟨hn, _, hr⟩
 ·rw [lk_mem (slots_nodup hE) hv]; exact hr
 ·rw [lk_none hn]; exact hr
theorem ix0 (a b : Int) (W : World) : (Instr.index 220 (.agg #[.int .i64 a, .int .i64 b]) (.int .i64 0)).run Tryz.prog W = .ok (.int .i64 a) W := by kernel_rfl
theorem ix1 (a b : Int) (W : World) : (Instr.index 220 (.agg #[.int .i64 a, .int .i64 b]) (.int .i64 1)).run Tryz.prog W = .ok (.int .i64 b) W := by kernel_rfl
def fourK (b : List Po) (p : Po) (n : Nat) : List ((Int × Int) × Int) := if n = 0 then [] else if n = 1 then [((p.cre, 0), balI b p.cre 0 - p.amt), ((p.deb, 0), balI b p.deb 0 + p.amt)] else four b p
theorem four_one {b : List Po} {p : Po} (h : mayP p) : ((p.cre, (0 : Int)), balI b p.cre 0 - p.amt) :: without (((p.deb, (0 : Int)), balI b p.deb 0 + p.amt) :: without (fourK b p 0) (p.deb, 0)) (p.cre, 0) = fourK b p 1 := by
 have hn : p.deb ≠ p.cre := h.2.2.2.2.2.2.2.2.1
 simp [fourK, without, hn]
theorem four_two {b : List Po} {p : Po} (h : mayP p) : ((p.cre, p.ord), balI b p.cre p.ord - p.amt) :: without (((p.deb, p.ord), balI b p.deb p.ord + p.amt) :: without (fourK b p 1) (p.deb, p.ord)) (p.cre, p.ord) = fourK b p 2 := by
 have hn : p.deb ≠ p.cre := h.2.2.2.2.2.2.2.2.1
 have h0 : (0 : Int) ≠ p.ord := by have := h.2.2.1; omega
 have h1 : p.cre ≠ p.deb := fun e => hn e.symm
 simp [fourK, four, without, hn, h0, h1]
theorem pair_add {a b : Int} (h : -9223372036854775808 ≤ a + b ∧ a + b ≤ 9223372036854775807) : pairV (Mon.addM a b) = .tuple #[.int .i64 (a + b), .bool true] := by
 unfold Mon.addM; rw [if_pos (show Mon.InR (a + b) from h)]; rfl
theorem pair_sub {a b : Int} (h : -9223372036854775808 ≤ a - b ∧ a - b ≤ 9223372036854775807) : pairV (Mon.subM a b) = .tuple #[.int .i64 (a - b), .bool true] := by
 unfold Mon.subM; rw [if_pos (show Mon.InR (a - b) from h)]; rfl
theorem bmoves_any {B : Nat} {w : World} {bb pm bm : Nat} {vb : Value} {b : List Po} (h : Bw B w bb pm bm vb b) (p : Po) (hp : mayP p) (hl : b.length ≤ 100000) :
  Calls Tryz.prog 131 #[.pointer (some ⟨bb, 0, none⟩), mkPost p] w fun e w' => ∃ mo, e = .returned (.tuple #[.map (some mo), .bool true]) ∧ w.heap.size ≤ mo ∧ MapL Tryz.prog tSlot mkSlot mkI w' mo (four b p) ∧ Below w.heap.size w w' := by
 have HP := Hd hp
 obtain ⟨_, _, hp1, hp2, hp3, hp4, hp5, hp6, hp7, hp8, hp9⟩ := hp
 have hbl := h.lt
 obtain ⟨wa, hA⟩ : ∃ wa, wa = (w.alloc (.cells #[.string ⟨p.id.toArray⟩, .int .i64 p.ord, .int .i64 p.deb, .int .i64 p.cre, .int .i64 p.amt] tPost)).alloc (.map #[] 0) := ⟨_, rfl⟩
 have hB : Below w.heap.size w wa := by rw [hA]; exact (below_alloc w _).alloc (by simp) _
 have hX : wa.heap[w.heap.size]? = some (.cells #[.string ⟨p.id.toArray⟩, .int .i64 p.ord, .int .i64 p.deb, .int .i64 p.cre, .int .i64 p.amt] tPost (0, 0)) := by rw [hA]; exact heap_keep (heap_new w _) (below_alloc _ _)
 have hM : MapL Tryz.prog tSlot mkSlot mkI wa (w.heap.size + 1) (fourK b p 0) := by
  rw [hA]
  have := MapL.made Tryz.prog tSlot mkSlot mkI (w.alloc (.cells #[.string ⟨p.id.toArray⟩, .int .i64 p.ord, .int .i64 p.deb, .int .i64 p.cre, .int .i64 p.amt] tPost))
  rwa [show (w.alloc (.cells #[.string ⟨p.id.toArray⟩, .int .i64 p.ord, .int .i64 p.deb, .int .i64 p.cre, .int .i64 p.amt] tPost)).heap.size = w.heap.size + 1 by simp] at this
 have HA := Hd hA; have HB := Hd hB; have HX := Hd hX; have HM := Hd hM; have HW := Hd h
 have hasz := hM.lt
 clear hA hB hX hM h
 have hmm := @run_makeMap Tryz.prog
 have hix0 := ix0
 have hix1 := ix1
 obtain ⟨m0, m1, m2, m3, m4⟩ := cell5 HX.out
 go_enter Tryz.func131, Tryz.ntmps131
 go_upto_region 2 with (fail)
 rw [← HA.out]
 go_wp2_with fail
 go_loopw [19] (fun i wr => ∃ n : Nat, i = .int .i64 n ∧ n ≤ 2 ∧ Hid (Turned (fun j => j = w.heap.size + 1) wa wr) ∧ Hid (MapL Tryz.prog tSlot mkSlot mkI wr (w.heap.size + 1) (fourK b p n))) (fun i _ => 2 - (intOf i).toNat)
 case atStart => exact ⟨0, rfl, by omega, Turned.refl _ _, HM.out⟩
 case round =>
  obtain ⟨n, rfl, hn2, HTr, HMr⟩ := hrel
  have hszr := HTr.out.size
  obtain rfl | rfl | rfl : n = 0 ∨ n = 1 ∨ n = 2 := by omega
  ·have HXr := Hd (heap_turned HX.out HTr.out (by omega))
   have HBr := Hd (show Below w.heap.size w wr from Below.turned HB.out HTr.out (fun i h => by omega) HB.out.size)
   have HWr := Hd (HW.out.below HBr.out)
   have hzlt := heap_lt HXr.out
   obtain ⟨m0, m1, m2, m3, m4⟩ := cell5 HXr.out
   obtain ⟨c0, c1, c2⟩ := cell3c HWr.out.hd
   go_wp2_with fail
   go_region
   ·obtain ⟨w5, hw5⟩ : ∃ w5, w5 = ((wr.alloc (.cells #[.int .i64 p.deb, .int .i64 0] tSlot)).alloc (.cells #[.int .i64 p.cre, .int .i64 0] tSlot)).drew := ⟨_, rfl⟩
    rw [← hw5]
    have hb5 : Below wr.heap.size wr w5 := by rw [hw5]; exact below_drew1' (((below_alloc wr _)).alloc (by simp) _)
    have h51 : w5.heap[wr.heap.size]? = some (.cells #[.int .i64 p.deb, .int .i64 0] tSlot (0, 0)) := by rw [hw5]; exact heap_keep (heap_new wr _) (below_drew1' (below_alloc _ _))
    have h52 : w5.heap[wr.heap.size + 1]? = some (.cells #[.int .i64 p.cre, .int .i64 0] tSlot (0, 0)) := by rw [hw5]; have := heap_new (wr.alloc (.cells #[.int .i64 p.deb, .int .i64 0] tSlot)) (.cells #[.int .i64 p.cre, .int .i64 0] tSlot); rw [show (wr.alloc (.cells #[.int .i64 p.deb, .int .i64 0] tSlot)).heap.size = wr.heap.size + 1 by simp] at this; exact this
    have HT5 := Hd (HTr.out.trans (Turned.of_below hb5)); have HM5 := Hd (HMr.out.below hb5); have HX5 := Hd (heap_keep HXr.out hb5); have HW5 := Hd (HWr.out.below hb5)
    have hzz : w.heap.size + 1 < wr.heap.size := HMr.out.lt
    clear hw5 hb5 m0 m1 m2 m3 m4 c0 c1 c2
    obtain ⟨k1, hk1, hk1'⟩ : ∃ k1, k1 = wr.heap.size ∧ wr.heap.size ≤ k1 := ⟨_, rfl, by omega⟩
    obtain ⟨k2, hk2, hk2'⟩ : ∃ k2, k2 = wr.heap.size + 1 ∧ wr.heap.size ≤ k2 := ⟨_, rfl, by omega⟩
    rw [← hk1] at h51 ⊢; rw [← hk2] at h52; rw [show k1 + 1 = k2 by omega]
    have HK1 := Hd h51; have HK2 := Hd h52
    clear h51 h52 hk1 hk2
    obtain ⟨c0, c1, c2⟩ := cell3c HW5.out.hd
    obtain ⟨m0, m1, m2, m3, m4⟩ := cell5 HX5.out
    obtain ⟨x0, x1, _, _⟩ := cell2 HK1.out
    have HLK := Hd (fun W (hb : Below w5.heap.size w5 W) => (show (Instr.lookup tMapB (.map (some bm)) (.agg #[.int .i64 p.deb, .int .i64 0]) false).run Tryz.prog W = .ok (.int .i64 (balI b p.deb 0)) W by obtain ⟨E, hE, _, hE2⟩ := (HW5.out.below hb).mb; rw [← hE2]; exact blook hE _ _ (by omega) (by omega)))
    have hbd := HW5.out.many hl p.deb 0
    have HCA := Hd (fun W => (show Calls Tryz.prog 161 #[.int .i64 (balI b p.deb 0), .int .i64 p.amt] W fun e w' => e = .returned (.tuple #[.int .i64 (balI b p.deb 0 + p.amt), .bool true]) ∧ W = w' by rw [← pair_add (by omega)]; exact add_any _ _ W ⟨by omega, by omega⟩ ⟨by omega, by omega⟩))
    clear hbd
    go_wp2_with fail
    have HH := Hd (fun W (hb : Below w5.heap.size w5 W) => (⟨Hd hb, kc hb c2, kc hb m4, kc hb x0, kc hb x1⟩ : (fun w' => Hid (Below w5.heap.size w5 w') ∧ w'.cell? ⟨bb, 2, none⟩ = some (.map (some bm)) ∧ w'.cell? ⟨w.heap.size, 4, none⟩ = some (.int .i64 p.amt) ∧ w'.cell? ⟨k1, 0, none⟩ = some (.int .i64 p.deb) ∧ w'.cell? ⟨k1, 1, none⟩ = some (.int .i64 0)) W))
    refine wp_region_noPanic ?_
    refine wp_region_held_drew (S := (fun w' => Hid (Below w5.heap.size w5 w') ∧ w'.cell? ⟨bb, 2, none⟩ = some (.map (some bm)) ∧ w'.cell? ⟨w.heap.size, 4, none⟩ = some (.int .i64 p.amt) ∧ w'.cell? ⟨k1, 0, none⟩ = some (.int .i64 p.deb) ∧ w'.cell? ⟨k1, 1, none⟩ = some (.int .i64 0))) (by kernel_rfl) (HH.out _ (below_drew1 (Below.refl w5.heap.size w5))) (fun hHeld => ?_)
    refine tk 0 rfl rfl ‹_› ?_; try go_frame
    refine tk 1 rfl rfl ‹_› ?_; try go_frame
    refine tk 2 rfl rfl ‹_› ?_; try go_frame
    refine tk 3 rfl rfl ‹_› ?_; try go_frame
    refine tk 4 rfl rfl ‹_› ?_; try go_frame
    refine wpAnyH_take (i := 5) (v := ?vc5_6) rfl (by kernel_rfl) (by kernel_rfl) (by kernel_rfl) (fun _ _ _ h => h) (Or.inl ⟨by rfl, ?hyc5_6⟩) (by assumption) ?restc5_6
    case hyc5_6 => (intro w0 hSw; (try dsimp only at hSw); go_simp; rw [HLK.out w0 (Hid.out hSw.1)]; rfl)
    case' restc5_6 => (try simp only [gx1, gx2, gx3]); try go_frame
    refine tk 6 rfl rfl ‹_› ?_; try go_frame
    refine tk 7 rfl rfl ‹_› ?_; try go_frame
    refine rdy 8 rfl (fun K hK => ?_)
    go_simp
    refine (HCA.out _).mono ?_; rintro e w1 ⟨rfl, hb⟩; subst hb
    refine hK.out _ _ (by assumption) (fun hHeld => ?_)
    clear hK K
    (try simp only [gx1, gx2, gx3]); try go_frame
    refine tk 9 rfl rfl ‹_› ?_; try go_frame
    refine tk 10 rfl rfl ‹_› ?_; try go_frame
    refine tk 11 rfl rfl ‹_› ?_; try go_frame
    refine tk 12 rfl rfl ‹_› ?_; try go_frame
    refine tk 13 rfl rfl ‹_› ?_; try go_frame
    refine wpAnyH_done (by kernel_rfl) ?_ _
    refine NoPanic.normal ?_
    obtain ⟨w6, hw6⟩ : ∃ w6, w6 = w5.drew := ⟨_, rfl⟩
    rw [← hw6]
    have hb6 : Below w5.heap.size w5 w6 := by rw [hw6]; exact below_drew1 (Below.refl _ _)
    have HT6 := Hd (HT5.out.trans (Turned.of_below hb6)); have HM6 := Hd (HM5.out.below hb6); have HX6 := Hd (heap_keep HX5.out hb6); have HW6 := Hd (HW5.out.below hb6); have HK16 := Hd (heap_keep HK1.out hb6); have HK26 := Hd (heap_keep HK2.out hb6)
    clear hw6 hb6 hHeld HH HLK HCA c0 c1 c2 m0 m1 m2 m3 m4 x0 x1 HT5 HM5 HX5 HW5 HK1 HK2
    have HT5 := Hd HT6.out; have HM5 := Hd HM6.out; have HX5 := Hd HX6.out; have HW5 := Hd HW6.out; have HK1 := Hd HK16.out; have HK2 := Hd HK26.out
    clear HT6 HM6 HX6 HW6 HK16 HK26
    generalize w6 = w5 at HT5 HM5 HX5 HW5 HK1 HK2 ⊢
    obtain ⟨c0, c1, c2⟩ := cell3c HW5.out.hd
    obtain ⟨m0, m1, m2, m3, m4⟩ := cell5 HX5.out
    obtain ⟨x0, x1, _, _⟩ := cell2 HK2.out
    have HLK := Hd (fun W (hb : Below w5.heap.size w5 W) => (show (Instr.lookup tMapB (.map (some bm)) (.agg #[.int .i64 p.cre, .int .i64 0]) false).run Tryz.prog W = .ok (.int .i64 (balI b p.cre 0)) W by obtain ⟨E, hE, _, hE2⟩ := (HW5.out.below hb).mb; rw [← hE2]; exact blook hE _ _ (by omega) (by omega)))
    have hbd := HW5.out.many hl p.cre 0
    have HCA := Hd (fun W => (show Calls Tryz.prog 162 #[.int .i64 (balI b p.cre 0), .int .i64 p.amt] W fun e w' => e = .returned (.tuple #[.int .i64 (balI b p.cre 0 - p.amt), .bool true]) ∧ W = w' by rw [← pair_sub (by omega)]; exact sub_any _ _ W ⟨by omega, by omega⟩ ⟨by omega, by omega⟩))
    clear hbd
    go_wp2_with fail
    have HH := Hd (fun W (hb : Below w5.heap.size w5 W) => (⟨Hd hb, kc hb c2, kc hb m4, kc hb x0, kc hb x1⟩ : (fun w' => Hid (Below w5.heap.size w5 w') ∧ w'.cell? ⟨bb, 2, none⟩ = some (.map (some bm)) ∧ w'.cell? ⟨w.heap.size, 4, none⟩ = some (.int .i64 p.amt) ∧ w'.cell? ⟨k2, 0, none⟩ = some (.int .i64 p.cre) ∧ w'.cell? ⟨k2, 1, none⟩ = some (.int .i64 0)) W))
    refine wp_region_noPanic ?_
    refine wp_region_held_drew (S := (fun w' => Hid (Below w5.heap.size w5 w') ∧ w'.cell? ⟨bb, 2, none⟩ = some (.map (some bm)) ∧ w'.cell? ⟨w.heap.size, 4, none⟩ = some (.int .i64 p.amt) ∧ w'.cell? ⟨k2, 0, none⟩ = some (.int .i64 p.cre) ∧ w'.cell? ⟨k2, 1, none⟩ = some (.int .i64 0))) (by kernel_rfl) (HH.out _ (below_drew1 (Below.refl w5.heap.size w5))) (fun hHeld => ?_)
    refine tk 0 rfl rfl ‹_› ?_; try go_frame
    refine tk 1 rfl rfl ‹_› ?_; try go_frame
    refine tk 2 rfl rfl ‹_› ?_; try go_frame
    refine tk 3 rfl rfl ‹_› ?_; try go_frame
    refine tk 4 rfl rfl ‹_› ?_; try go_frame
    refine wpAnyH_take (i := 5) (v := ?vc5_19) rfl (by kernel_rfl) (by kernel_rfl) (by kernel_rfl) (fun _ _ _ h => h) (Or.inl ⟨by rfl, ?hyc5_19⟩) (by assumption) ?restc5_19
    case hyc5_19 => (intro w0 hSw; (try dsimp only at hSw); go_simp; rw [HLK.out w0 (Hid.out hSw.1)]; rfl)
    case' restc5_19 => (try simp only [gx1, gx2, gx3]); try go_frame
    refine tk 6 rfl rfl ‹_› ?_; try go_frame
    refine tk 7 rfl rfl ‹_› ?_; try go_frame
    refine rdy 8 rfl (fun K hK => ?_)
    go_simp
    refine (HCA.out _).mono ?_; rintro e w1 ⟨rfl, hb⟩; subst hb
    refine hK.out _ _ (by assumption) (fun hHeld => ?_)
    clear hK K
    (try simp only [gx1, gx2, gx3]); try go_frame
    refine tk 9 rfl rfl ‹_› ?_; try go_frame
    refine tk 10 rfl rfl ‹_› ?_; try go_frame
    refine tk 11 rfl rfl ‹_› ?_; try go_frame
    refine tk 12 rfl rfl ‹_› ?_; try go_frame
    refine tk 13 rfl rfl ‹_› ?_; try go_frame
    refine wpAnyH_done (by kernel_rfl) ?_ _
    refine NoPanic.normal ?_
    obtain ⟨w6, hw6⟩ : ∃ w6, w6 = w5.drew := ⟨_, rfl⟩
    rw [← hw6]
    have hb6 : Below w5.heap.size w5 w6 := by rw [hw6]; exact below_drew1 (Below.refl _ _)
    have HT6 := Hd (HT5.out.trans (Turned.of_below hb6)); have HM6 := Hd (HM5.out.below hb6); have HX6 := Hd (heap_keep HX5.out hb6); have HW6 := Hd (HW5.out.below hb6); have HK16 := Hd (heap_keep HK1.out hb6); have HK26 := Hd (heap_keep HK2.out hb6)
    clear hw6 hb6 hHeld HH HLK HCA c0 c1 c2 m0 m1 m2 m3 m4 x0 x1 HT5 HM5 HX5 HW5 HK1 HK2
    have HT5 := Hd HT6.out; have HM5 := Hd HM6.out; have HX5 := Hd HX6.out; have HW5 := Hd HW6.out; have HK1 := Hd HK16.out; have HK2 := Hd HK26.out
    clear HT6 HM6 HX6 HW6 HK16 HK26
    generalize w6 = w5 at HT5 HM5 HX5 HW5 HK1 HK2 ⊢
    go_wp2_with fail
    have HM5d := Hd (HM5.out.below (below_drew1 (Below.refl w5.heap.size w5)))
    obtain ⟨l1, hl1⟩ := slot_reads (p.deb, 0) ⟨by omega, by omega⟩
    obtain ⟨l2, hl2⟩ := slot_reads (p.cre, 0) ⟨by omega, by omega⟩
    obtain ⟨w6, hr6, hm6, ht6⟩ := HM5d.out.store lawSlot mapB (by simp [fourK, maxLen]) hl1 (mkSlot_inj _) (balI b p.deb 0 + p.amt)
    obtain ⟨w7, hr7, hm7, ht7⟩ := hm6.store lawSlot mapB (by have h1 := without_len (fourK b p 0) (p.deb, 0); have h2 : (fourK b p 0).length ≤ 2 := (by simp [fourK]); rw [List.length_cons]; unfold maxLen; omega) hl2 (mkSlot_inj _) (balI b p.cre 0 - p.amt)
    rw [four_one HP.out] at hm7
    have HR6 := Hd (show (Instr.mapUpdate tMapB (.map (some (w.heap.size + 1))) (.agg #[.int .i64 p.deb, .int .i64 0]) (.int .i64 (balI b p.deb 0 + p.amt))).run Tryz.prog w5.drew = .ok () w6 from hr6)
    have HR7 := Hd (show (Instr.mapUpdate tMapB (.map (some (w.heap.size + 1))) (.agg #[.int .i64 p.cre, .int .i64 0]) (.int .i64 (balI b p.cre 0 - p.amt))).run Tryz.prog w6 = .ok () w7 from hr7)
    have HM7 := Hd hm7
    have ht56 : Turned (fun j => j = w.heap.size + 1) w5 w6 := (Turned.refl _ w5).drew.trans (Turned.of_grown ht6.grown (fun j h => by injection h with h; exact h.symm))
    have ht57 : Turned (fun j => j = w.heap.size + 1) w5 w7 := ht56.trans (Turned.of_grown ht7.grown (fun j h => by injection h with h; exact h.symm))
    have HT56 := Hd ht56; have HT57 := Hd ht57
    clear hl1 hl2 hr6 hr7 hm6 hm7 ht6 ht7 ht56 ht57
    have hkk : k1 ≠ w.heap.size + 1 ∧ k2 ≠ w.heap.size + 1 := by omega
    have HH := Hd (fun W' (hb : Turned (fun j => j = w.heap.size + 1) w5 W') => (⟨Hd hb, cell_at (heap_turned HK1.out hb hkk.1) 0 rfl, cell_at (heap_turned HK1.out hb hkk.1) 1 rfl, cell_at (heap_turned HK2.out hb hkk.2) 0 rfl, cell_at (heap_turned HK2.out hb hkk.2) 1 rfl⟩ : (fun w' => Hid (Turned (fun j => j = w.heap.size + 1) w5 w') ∧ w'.cell? ⟨k1, 0, none⟩ = some (.int .i64 p.deb) ∧ w'.cell? ⟨k1, 1, none⟩ = some (.int .i64 0) ∧ w'.cell? ⟨k2, 0, none⟩ = some (.int .i64 p.cre) ∧ w'.cell? ⟨k2, 1, none⟩ = some (.int .i64 0)) W'))
    refine wp_region_noPanic ?_
    refine wp_region_held_drew (S := (fun w' => Hid (Turned (fun j => j = w.heap.size + 1) w5 w') ∧ w'.cell? ⟨k1, 0, none⟩ = some (.int .i64 p.deb) ∧ w'.cell? ⟨k1, 1, none⟩ = some (.int .i64 0) ∧ w'.cell? ⟨k2, 0, none⟩ = some (.int .i64 p.cre) ∧ w'.cell? ⟨k2, 1, none⟩ = some (.int .i64 0))) (by kernel_rfl) (HH.out _ ((Turned.refl _ w5).drew)) (fun hHeld => ?_)
    refine tk 0 rfl rfl ‹_› ?_; try go_frame
    refine tk 1 rfl rfl ‹_› ?_; try go_frame
    refine tk 2 rfl rfl ‹_› ?_; try go_frame
    refine tk 3 rfl rfl ‹_› ?_; try go_frame
    refine tk 4 rfl rfl ‹_› ?_; try go_frame
    refine tk 5 rfl rfl ‹_› ?_; try go_frame
    refine rdy 6 rfl (fun K hK => ?_)
    go_simp
    rw [HR6.out]
    refine hK.out _ _ (HH.out _ (HT56.out)) (fun hHeld => ?_)
    clear hK K
    (try simp only [gx1, gx2, gx3]); try go_frame
    refine rdy 7 rfl (fun K hK => ?_)
    go_simp
    rw [HR7.out]
    refine hK.out _ _ (HH.out _ (HT57.out)) (fun hHeld => ?_)
    clear hK K
    (try simp only [gx1, gx2, gx3]); try go_frame
    refine wpAnyH_done (by kernel_rfl) ?_ _
    refine NoPanic.normal ?_
    clear hHeld HH HR6 HR7
    go_wp2_with fail
    go_roundw
    case rel => exact ⟨1, by go_num, by omega, HT5.out.trans HT57.out, HM7.out⟩
    case measure => simp [intOf]
   ·obtain ⟨w5, hw5⟩ : ∃ w5, w5 = ((wr.alloc (.cells #[.int .i64 p.cre, .int .i64 0] tSlot)).alloc (.cells #[.int .i64 p.deb, .int .i64 0] tSlot)).drew := ⟨_, rfl⟩
    rw [← hw5]
    have hb5 : Below wr.heap.size wr w5 := by rw [hw5]; exact below_drew1' (((below_alloc wr _)).alloc (by simp) _)
    have h51 : w5.heap[wr.heap.size]? = some (.cells #[.int .i64 p.cre, .int .i64 0] tSlot (0, 0)) := by rw [hw5]; exact heap_keep (heap_new wr _) (below_drew1' (below_alloc _ _))
    have h52 : w5.heap[wr.heap.size + 1]? = some (.cells #[.int .i64 p.deb, .int .i64 0] tSlot (0, 0)) := by rw [hw5]; have := heap_new (wr.alloc (.cells #[.int .i64 p.cre, .int .i64 0] tSlot)) (.cells #[.int .i64 p.deb, .int .i64 0] tSlot); rw [show (wr.alloc (.cells #[.int .i64 p.cre, .int .i64 0] tSlot)).heap.size = wr.heap.size + 1 by simp] at this; exact this
    have HT5 := Hd (HTr.out.trans (Turned.of_below hb5)); have HM5 := Hd (HMr.out.below hb5); have HX5 := Hd (heap_keep HXr.out hb5); have HW5 := Hd (HWr.out.below hb5)
    have hzz : w.heap.size + 1 < wr.heap.size := HMr.out.lt
    clear hw5 hb5 m0 m1 m2 m3 m4 c0 c1 c2
    obtain ⟨k1, hk1, hk1'⟩ : ∃ k1, k1 = wr.heap.size + 1 ∧ wr.heap.size ≤ k1 := ⟨_, rfl, by omega⟩
    obtain ⟨k2, hk2, hk2'⟩ : ∃ k2, k2 = wr.heap.size ∧ wr.heap.size ≤ k2 := ⟨_, rfl, by omega⟩
    rw [← hk2] at h51 ⊢; rw [← hk1] at h52; rw [show k2 + 1 = k1 by omega]
    have HK1 := Hd h52; have HK2 := Hd h51
    clear h51 h52 hk1 hk2
    obtain ⟨c0, c1, c2⟩ := cell3c HW5.out.hd
    obtain ⟨m0, m1, m2, m3, m4⟩ := cell5 HX5.out
    obtain ⟨x0, x1, _, _⟩ := cell2 HK1.out
    have HLK := Hd (fun W (hb : Below w5.heap.size w5 W) => (show (Instr.lookup tMapB (.map (some bm)) (.agg #[.int .i64 p.deb, .int .i64 0]) false).run Tryz.prog W = .ok (.int .i64 (balI b p.deb 0)) W by obtain ⟨E, hE, _, hE2⟩ := (HW5.out.below hb).mb; rw [← hE2]; exact blook hE _ _ (by omega) (by omega)))
    have hbd := HW5.out.many hl p.deb 0
    have HCA := Hd (fun W => (show Calls Tryz.prog 161 #[.int .i64 (balI b p.deb 0), .int .i64 p.amt] W fun e w' => e = .returned (.tuple #[.int .i64 (balI b p.deb 0 + p.amt), .bool true]) ∧ W = w' by rw [← pair_add (by omega)]; exact add_any _ _ W ⟨by omega, by omega⟩ ⟨by omega, by omega⟩))
    clear hbd
    go_wp2_with fail
    have HH := Hd (fun W (hb : Below w5.heap.size w5 W) => (⟨Hd hb, kc hb c2, kc hb m4, kc hb x0, kc hb x1⟩ : (fun w' => Hid (Below w5.heap.size w5 w') ∧ w'.cell? ⟨bb, 2, none⟩ = some (.map (some bm)) ∧ w'.cell? ⟨w.heap.size, 4, none⟩ = some (.int .i64 p.amt) ∧ w'.cell? ⟨k1, 0, none⟩ = some (.int .i64 p.deb) ∧ w'.cell? ⟨k1, 1, none⟩ = some (.int .i64 0)) W))
    refine wp_region_noPanic ?_
    refine wp_region_held_drew (S := (fun w' => Hid (Below w5.heap.size w5 w') ∧ w'.cell? ⟨bb, 2, none⟩ = some (.map (some bm)) ∧ w'.cell? ⟨w.heap.size, 4, none⟩ = some (.int .i64 p.amt) ∧ w'.cell? ⟨k1, 0, none⟩ = some (.int .i64 p.deb) ∧ w'.cell? ⟨k1, 1, none⟩ = some (.int .i64 0))) (by kernel_rfl) (HH.out _ (below_drew1 (Below.refl w5.heap.size w5))) (fun hHeld => ?_)
    refine tk 0 rfl rfl ‹_› ?_; try go_frame
    refine tk 1 rfl rfl ‹_› ?_; try go_frame
    refine tk 2 rfl rfl ‹_› ?_; try go_frame
    refine tk 3 rfl rfl ‹_› ?_; try go_frame
    refine tk 4 rfl rfl ‹_› ?_; try go_frame
    refine wpAnyH_take (i := 5) (v := ?vc5_38) rfl (by kernel_rfl) (by kernel_rfl) (by kernel_rfl) (fun _ _ _ h => h) (Or.inl ⟨by rfl, ?hyc5_38⟩) (by assumption) ?restc5_38
    case hyc5_38 => (intro w0 hSw; (try dsimp only at hSw); go_simp; rw [HLK.out w0 (Hid.out hSw.1)]; rfl)
    case' restc5_38 => (try simp only [gx1, gx2, gx3]); try go_frame
    refine tk 6 rfl rfl ‹_› ?_; try go_frame
    refine tk 7 rfl rfl ‹_› ?_; try go_frame
    refine rdy 8 rfl (fun K hK => ?_)
    go_simp
    refine (HCA.out _).mono ?_; rintro e w1 ⟨rfl, hb⟩; subst hb
    refine hK.out _ _ (by assumption) (fun hHeld => ?_)
    clear hK K
    (try simp only [gx1, gx2, gx3]); try go_frame
    refine tk 9 rfl rfl ‹_› ?_; try go_frame
    refine tk 10 rfl rfl ‹_› ?_; try go_frame
    refine tk 11 rfl rfl ‹_› ?_; try go_frame
    refine tk 12 rfl rfl ‹_› ?_; try go_frame
    refine tk 13 rfl rfl ‹_› ?_; try go_frame
    refine wpAnyH_done (by kernel_rfl) ?_ _
    refine NoPanic.normal ?_
    obtain ⟨w6, hw6⟩ : ∃ w6, w6 = w5.drew := ⟨_, rfl⟩
    rw [← hw6]
    have hb6 : Below w5.heap.size w5 w6 := by rw [hw6]; exact below_drew1 (Below.refl _ _)
    have HT6 := Hd (HT5.out.trans (Turned.of_below hb6)); have HM6 := Hd (HM5.out.below hb6); have HX6 := Hd (heap_keep HX5.out hb6); have HW6 := Hd (HW5.out.below hb6); have HK16 := Hd (heap_keep HK1.out hb6); have HK26 := Hd (heap_keep HK2.out hb6)
    clear hw6 hb6 hHeld HH HLK HCA c0 c1 c2 m0 m1 m2 m3 m4 x0 x1 HT5 HM5 HX5 HW5 HK1 HK2
    have HT5 := Hd HT6.out; have HM5 := Hd HM6.out; have HX5 := Hd HX6.out; have HW5 := Hd HW6.out; have HK1 := Hd HK16.out; have HK2 := Hd HK26.out
    clear HT6 HM6 HX6 HW6 HK16 HK26
    generalize w6 = w5 at HT5 HM5 HX5 HW5 HK1 HK2 ⊢
    obtain ⟨c0, c1, c2⟩ := cell3c HW5.out.hd
    obtain ⟨m0, m1, m2, m3, m4⟩ := cell5 HX5.out
    obtain ⟨x0, x1, _, _⟩ := cell2 HK2.out
    have HLK := Hd (fun W (hb : Below w5.heap.size w5 W) => (show (Instr.lookup tMapB (.map (some bm)) (.agg #[.int .i64 p.cre, .int .i64 0]) false).run Tryz.prog W = .ok (.int .i64 (balI b p.cre 0)) W by obtain ⟨E, hE, _, hE2⟩ := (HW5.out.below hb).mb; rw [← hE2]; exact blook hE _ _ (by omega) (by omega)))
    have hbd := HW5.out.many hl p.cre 0
    have HCA := Hd (fun W => (show Calls Tryz.prog 162 #[.int .i64 (balI b p.cre 0), .int .i64 p.amt] W fun e w' => e = .returned (.tuple #[.int .i64 (balI b p.cre 0 - p.amt), .bool true]) ∧ W = w' by rw [← pair_sub (by omega)]; exact sub_any _ _ W ⟨by omega, by omega⟩ ⟨by omega, by omega⟩))
    clear hbd
    go_wp2_with fail
    have HH := Hd (fun W (hb : Below w5.heap.size w5 W) => (⟨Hd hb, kc hb c2, kc hb m4, kc hb x0, kc hb x1⟩ : (fun w' => Hid (Below w5.heap.size w5 w') ∧ w'.cell? ⟨bb, 2, none⟩ = some (.map (some bm)) ∧ w'.cell? ⟨w.heap.size, 4, none⟩ = some (.int .i64 p.amt) ∧ w'.cell? ⟨k2, 0, none⟩ = some (.int .i64 p.cre) ∧ w'.cell? ⟨k2, 1, none⟩ = some (.int .i64 0)) W))
    refine wp_region_noPanic ?_
    refine wp_region_held_drew (S := (fun w' => Hid (Below w5.heap.size w5 w') ∧ w'.cell? ⟨bb, 2, none⟩ = some (.map (some bm)) ∧ w'.cell? ⟨w.heap.size, 4, none⟩ = some (.int .i64 p.amt) ∧ w'.cell? ⟨k2, 0, none⟩ = some (.int .i64 p.cre) ∧ w'.cell? ⟨k2, 1, none⟩ = some (.int .i64 0))) (by kernel_rfl) (HH.out _ (below_drew1 (Below.refl w5.heap.size w5))) (fun hHeld => ?_)
    refine tk 0 rfl rfl ‹_› ?_; try go_frame
    refine tk 1 rfl rfl ‹_› ?_; try go_frame
    refine tk 2 rfl rfl ‹_› ?_; try go_frame
    refine tk 3 rfl rfl ‹_› ?_; try go_frame
    refine tk 4 rfl rfl ‹_› ?_; try go_frame
    refine wpAnyH_take (i := 5) (v := ?vc5_51) rfl (by kernel_rfl) (by kernel_rfl) (by kernel_rfl) (fun _ _ _ h => h) (Or.inl ⟨by rfl, ?hyc5_51⟩) (by assumption) ?restc5_51
    case hyc5_51 => (intro w0 hSw; (try dsimp only at hSw); go_simp; rw [HLK.out w0 (Hid.out hSw.1)]; rfl)
    case' restc5_51 => (try simp only [gx1, gx2, gx3]); try go_frame
    refine tk 6 rfl rfl ‹_› ?_; try go_frame
    refine tk 7 rfl rfl ‹_› ?_; try go_frame
    refine rdy 8 rfl (fun K hK => ?_)
    go_simp
    refine (HCA.out _).mono ?_; rintro e w1 ⟨rfl, hb⟩; subst hb
    refine hK.out _ _ (by assumption) (fun hHeld => ?_)
    clear hK K
    (try simp only [gx1, gx2, gx3]); try go_frame
    refine tk 9 rfl rfl ‹_› ?_; try go_frame
    refine tk 10 rfl rfl ‹_› ?_; try go_frame
    refine tk 11 rfl rfl ‹_› ?_; try go_frame
    refine tk 12 rfl rfl ‹_› ?_; try go_frame
    refine tk 13 rfl rfl ‹_› ?_; try go_frame
    refine wpAnyH_done (by kernel_rfl) ?_ _
    refine NoPanic.normal ?_
    obtain ⟨w6, hw6⟩ : ∃ w6, w6 = w5.drew := ⟨_, rfl⟩
    rw [← hw6]
    have hb6 : Below w5.heap.size w5 w6 := by rw [hw6]; exact below_drew1 (Below.refl _ _)
    have HT6 := Hd (HT5.out.trans (Turned.of_below hb6)); have HM6 := Hd (HM5.out.below hb6); have HX6 := Hd (heap_keep HX5.out hb6); have HW6 := Hd (HW5.out.below hb6); have HK16 := Hd (heap_keep HK1.out hb6); have HK26 := Hd (heap_keep HK2.out hb6)
    clear hw6 hb6 hHeld HH HLK HCA c0 c1 c2 m0 m1 m2 m3 m4 x0 x1 HT5 HM5 HX5 HW5 HK1 HK2
    have HT5 := Hd HT6.out; have HM5 := Hd HM6.out; have HX5 := Hd HX6.out; have HW5 := Hd HW6.out; have HK1 := Hd HK16.out; have HK2 := Hd HK26.out
    clear HT6 HM6 HX6 HW6 HK16 HK26
    generalize w6 = w5 at HT5 HM5 HX5 HW5 HK1 HK2 ⊢
    go_wp2_with fail
    have HM5d := Hd (HM5.out.below (below_drew1 (Below.refl w5.heap.size w5)))
    obtain ⟨l1, hl1⟩ := slot_reads (p.deb, 0) ⟨by omega, by omega⟩
    obtain ⟨l2, hl2⟩ := slot_reads (p.cre, 0) ⟨by omega, by omega⟩
    obtain ⟨w6, hr6, hm6, ht6⟩ := HM5d.out.store lawSlot mapB (by simp [fourK, maxLen]) hl1 (mkSlot_inj _) (balI b p.deb 0 + p.amt)
    obtain ⟨w7, hr7, hm7, ht7⟩ := hm6.store lawSlot mapB (by have h1 := without_len (fourK b p 0) (p.deb, 0); have h2 : (fourK b p 0).length ≤ 2 := (by simp [fourK]); rw [List.length_cons]; unfold maxLen; omega) hl2 (mkSlot_inj _) (balI b p.cre 0 - p.amt)
    rw [four_one HP.out] at hm7
    have HR6 := Hd (show (Instr.mapUpdate tMapB (.map (some (w.heap.size + 1))) (.agg #[.int .i64 p.deb, .int .i64 0]) (.int .i64 (balI b p.deb 0 + p.amt))).run Tryz.prog w5.drew = .ok () w6 from hr6)
    have HR7 := Hd (show (Instr.mapUpdate tMapB (.map (some (w.heap.size + 1))) (.agg #[.int .i64 p.cre, .int .i64 0]) (.int .i64 (balI b p.cre 0 - p.amt))).run Tryz.prog w6 = .ok () w7 from hr7)
    have HM7 := Hd hm7
    have ht56 : Turned (fun j => j = w.heap.size + 1) w5 w6 := (Turned.refl _ w5).drew.trans (Turned.of_grown ht6.grown (fun j h => by injection h with h; exact h.symm))
    have ht57 : Turned (fun j => j = w.heap.size + 1) w5 w7 := ht56.trans (Turned.of_grown ht7.grown (fun j h => by injection h with h; exact h.symm))
    have HT56 := Hd ht56; have HT57 := Hd ht57
    clear hl1 hl2 hr6 hr7 hm6 hm7 ht6 ht7 ht56 ht57
    have hkk : k1 ≠ w.heap.size + 1 ∧ k2 ≠ w.heap.size + 1 := by omega
    have HH := Hd (fun W' (hb : Turned (fun j => j = w.heap.size + 1) w5 W') => (⟨Hd hb, cell_at (heap_turned HK1.out hb hkk.1) 0 rfl, cell_at (heap_turned HK1.out hb hkk.1) 1 rfl, cell_at (heap_turned HK2.out hb hkk.2) 0 rfl, cell_at (heap_turned HK2.out hb hkk.2) 1 rfl⟩ : (fun w' => Hid (Turned (fun j => j = w.heap.size + 1) w5 w') ∧ w'.cell? ⟨k1, 0, none⟩ = some (.int .i64 p.deb) ∧ w'.cell? ⟨k1, 1, none⟩ = some (.int .i64 0) ∧ w'.cell? ⟨k2, 0, none⟩ = some (.int .i64 p.cre) ∧ w'.cell? ⟨k2, 1, none⟩ = some (.int .i64 0)) W'))
    refine wp_region_noPanic ?_
    refine wp_region_held_drew (S := (fun w' => Hid (Turned (fun j => j = w.heap.size + 1) w5 w') ∧ w'.cell? ⟨k1, 0, none⟩ = some (.int .i64 p.deb) ∧ w'.cell? ⟨k1, 1, none⟩ = some (.int .i64 0) ∧ w'.cell? ⟨k2, 0, none⟩ = some (.int .i64 p.cre) ∧ w'.cell? ⟨k2, 1, none⟩ = some (.int .i64 0))) (by kernel_rfl) (HH.out _ ((Turned.refl _ w5).drew)) (fun hHeld => ?_)
    refine tk 0 rfl rfl ‹_› ?_; try go_frame
    refine tk 1 rfl rfl ‹_› ?_; try go_frame
    refine tk 2 rfl rfl ‹_› ?_; try go_frame
    refine tk 3 rfl rfl ‹_› ?_; try go_frame
    refine tk 4 rfl rfl ‹_› ?_; try go_frame
    refine tk 5 rfl rfl ‹_› ?_; try go_frame
    refine rdy 6 rfl (fun K hK => ?_)
    go_simp
    rw [HR6.out]
    refine hK.out _ _ (HH.out _ (HT56.out)) (fun hHeld => ?_)
    clear hK K
    (try simp only [gx1, gx2, gx3]); try go_frame
    refine rdy 7 rfl (fun K hK => ?_)
    go_simp
    rw [HR7.out]
    refine hK.out _ _ (HH.out _ (HT57.out)) (fun hHeld => ?_)
    clear hK K
    (try simp only [gx1, gx2, gx3]); try go_frame
    refine wpAnyH_done (by kernel_rfl) ?_ _
    refine NoPanic.normal ?_
    clear hHeld HH HR6 HR7
    go_wp2_with fail
    go_roundw
    case rel => exact ⟨1, by go_num, by omega, HT5.out.trans HT57.out, HM7.out⟩
    case measure => simp [intOf]
  ·have HXr := Hd (heap_turned HX.out HTr.out (by omega))
   have HBr := Hd (show Below w.heap.size w wr from Below.turned HB.out HTr.out (fun i h => by omega) HB.out.size)
   have HWr := Hd (HW.out.below HBr.out)
   have hzlt := heap_lt HXr.out
   obtain ⟨m0, m1, m2, m3, m4⟩ := cell5 HXr.out
   obtain ⟨c0, c1, c2⟩ := cell3c HWr.out.hd
   go_wp2_with fail
   go_region
   ·obtain ⟨w5, hw5⟩ : ∃ w5, w5 = ((wr.alloc (.cells #[.int .i64 p.deb, .int .i64 p.ord] tSlot)).alloc (.cells #[.int .i64 p.cre, .int .i64 p.ord] tSlot)).drew := ⟨_, rfl⟩
    rw [← hw5]
    have hb5 : Below wr.heap.size wr w5 := by rw [hw5]; exact below_drew1' (((below_alloc wr _)).alloc (by simp) _)
    have h51 : w5.heap[wr.heap.size]? = some (.cells #[.int .i64 p.deb, .int .i64 p.ord] tSlot (0, 0)) := by rw [hw5]; exact heap_keep (heap_new wr _) (below_drew1' (below_alloc _ _))
    have h52 : w5.heap[wr.heap.size + 1]? = some (.cells #[.int .i64 p.cre, .int .i64 p.ord] tSlot (0, 0)) := by rw [hw5]; have := heap_new (wr.alloc (.cells #[.int .i64 p.deb, .int .i64 p.ord] tSlot)) (.cells #[.int .i64 p.cre, .int .i64 p.ord] tSlot); rw [show (wr.alloc (.cells #[.int .i64 p.deb, .int .i64 p.ord] tSlot)).heap.size = wr.heap.size + 1 by simp] at this; exact this
    have HT5 := Hd (HTr.out.trans (Turned.of_below hb5)); have HM5 := Hd (HMr.out.below hb5); have HX5 := Hd (heap_keep HXr.out hb5); have HW5 := Hd (HWr.out.below hb5)
    have hzz : w.heap.size + 1 < wr.heap.size := HMr.out.lt
    clear hw5 hb5 m0 m1 m2 m3 m4 c0 c1 c2
    obtain ⟨k1, hk1, hk1'⟩ : ∃ k1, k1 = wr.heap.size ∧ wr.heap.size ≤ k1 := ⟨_, rfl, by omega⟩
    obtain ⟨k2, hk2, hk2'⟩ : ∃ k2, k2 = wr.heap.size + 1 ∧ wr.heap.size ≤ k2 := ⟨_, rfl, by omega⟩
    rw [← hk1] at h51 ⊢; rw [← hk2] at h52; rw [show k1 + 1 = k2 by omega]
    have HK1 := Hd h51; have HK2 := Hd h52
    clear h51 h52 hk1 hk2
    obtain ⟨c0, c1, c2⟩ := cell3c HW5.out.hd
    obtain ⟨m0, m1, m2, m3, m4⟩ := cell5 HX5.out
    obtain ⟨x0, x1, _, _⟩ := cell2 HK1.out
    have HLK := Hd (fun W (hb : Below w5.heap.size w5 W) => (show (Instr.lookup tMapB (.map (some bm)) (.agg #[.int .i64 p.deb, .int .i64 p.ord]) false).run Tryz.prog W = .ok (.int .i64 (balI b p.deb p.ord)) W by obtain ⟨E, hE, _, hE2⟩ := (HW5.out.below hb).mb; rw [← hE2]; exact blook hE _ _ (by omega) (by omega)))
    have hbd := HW5.out.many hl p.deb p.ord
    have HCA := Hd (fun W => (show Calls Tryz.prog 161 #[.int .i64 (balI b p.deb p.ord), .int .i64 p.amt] W fun e w' => e = .returned (.tuple #[.int .i64 (balI b p.deb p.ord + p.amt), .bool true]) ∧ W = w' by rw [← pair_add (by omega)]; exact add_any _ _ W ⟨by omega, by omega⟩ ⟨by omega, by omega⟩))
    clear hbd
    go_wp2_with fail
    have HH := Hd (fun W (hb : Below w5.heap.size w5 W) => (⟨Hd hb, kc hb c2, kc hb m4, kc hb x0, kc hb x1⟩ : (fun w' => Hid (Below w5.heap.size w5 w') ∧ w'.cell? ⟨bb, 2, none⟩ = some (.map (some bm)) ∧ w'.cell? ⟨w.heap.size, 4, none⟩ = some (.int .i64 p.amt) ∧ w'.cell? ⟨k1, 0, none⟩ = some (.int .i64 p.deb) ∧ w'.cell? ⟨k1, 1, none⟩ = some (.int .i64 p.ord)) W))
    refine wp_region_noPanic ?_
    refine wp_region_held_drew (S := (fun w' => Hid (Below w5.heap.size w5 w') ∧ w'.cell? ⟨bb, 2, none⟩ = some (.map (some bm)) ∧ w'.cell? ⟨w.heap.size, 4, none⟩ = some (.int .i64 p.amt) ∧ w'.cell? ⟨k1, 0, none⟩ = some (.int .i64 p.deb) ∧ w'.cell? ⟨k1, 1, none⟩ = some (.int .i64 p.ord))) (by kernel_rfl) (HH.out _ (below_drew1 (Below.refl w5.heap.size w5))) (fun hHeld => ?_)
    refine tk 0 rfl rfl ‹_› ?_; try go_frame
    refine tk 1 rfl rfl ‹_› ?_; try go_frame
    refine tk 2 rfl rfl ‹_› ?_; try go_frame
    refine tk 3 rfl rfl ‹_› ?_; try go_frame
    refine tk 4 rfl rfl ‹_› ?_; try go_frame
    refine wpAnyH_take (i := 5) (v := ?vc5_70) rfl (by kernel_rfl) (by kernel_rfl) (by kernel_rfl) (fun _ _ _ h => h) (Or.inl ⟨by rfl, ?hyc5_70⟩) (by assumption) ?restc5_70
    case hyc5_70 => (intro w0 hSw; (try dsimp only at hSw); go_simp; rw [HLK.out w0 (Hid.out hSw.1)]; rfl)
    case' restc5_70 => (try simp only [gx1, gx2, gx3]); try go_frame
    refine tk 6 rfl rfl ‹_› ?_; try go_frame
    refine tk 7 rfl rfl ‹_› ?_; try go_frame
    refine rdy 8 rfl (fun K hK => ?_)
    go_simp
    refine (HCA.out _).mono ?_; rintro e w1 ⟨rfl, hb⟩; subst hb
    refine hK.out _ _ (by assumption) (fun hHeld => ?_)
    clear hK K
    (try simp only [gx1, gx2, gx3]); try go_frame
    refine tk 9 rfl rfl ‹_› ?_; try go_frame
    refine tk 10 rfl rfl ‹_› ?_; try go_frame
    refine tk 11 rfl rfl ‹_› ?_; try go_frame
    refine tk 12 rfl rfl ‹_› ?_; try go_frame
    refine tk 13 rfl rfl ‹_› ?_; try go_frame
    refine wpAnyH_done (by kernel_rfl) ?_ _
    refine NoPanic.normal ?_
    obtain ⟨w6, hw6⟩ : ∃ w6, w6 = w5.drew := ⟨_, rfl⟩
    rw [← hw6]
    have hb6 : Below w5.heap.size w5 w6 := by rw [hw6]; exact below_drew1 (Below.refl _ _)
    have HT6 := Hd (HT5.out.trans (Turned.of_below hb6)); have HM6 := Hd (HM5.out.below hb6); have HX6 := Hd (heap_keep HX5.out hb6); have HW6 := Hd (HW5.out.below hb6); have HK16 := Hd (heap_keep HK1.out hb6); have HK26 := Hd (heap_keep HK2.out hb6)
    clear hw6 hb6 hHeld HH HLK HCA c0 c1 c2 m0 m1 m2 m3 m4 x0 x1 HT5 HM5 HX5 HW5 HK1 HK2
    have HT5 := Hd HT6.out; have HM5 := Hd HM6.out; have HX5 := Hd HX6.out; have HW5 := Hd HW6.out; have HK1 := Hd HK16.out; have HK2 := Hd HK26.out
    clear HT6 HM6 HX6 HW6 HK16 HK26
    generalize w6 = w5 at HT5 HM5 HX5 HW5 HK1 HK2 ⊢
    obtain ⟨c0, c1, c2⟩ := cell3c HW5.out.hd
    obtain ⟨m0, m1, m2, m3, m4⟩ := cell5 HX5.out
    obtain ⟨x0, x1, _, _⟩ := cell2 HK2.out
    have HLK := Hd (fun W (hb : Below w5.heap.size w5 W) => (show (Instr.lookup tMapB (.map (some bm)) (.agg #[.int .i64 p.cre, .int .i64 p.ord]) false).run Tryz.prog W = .ok (.int .i64 (balI b p.cre p.ord)) W by obtain ⟨E, hE, _, hE2⟩ := (HW5.out.below hb).mb; rw [← hE2]; exact blook hE _ _ (by omega) (by omega)))
    have hbd := HW5.out.many hl p.cre p.ord
    have HCA := Hd (fun W => (show Calls Tryz.prog 162 #[.int .i64 (balI b p.cre p.ord), .int .i64 p.amt] W fun e w' => e = .returned (.tuple #[.int .i64 (balI b p.cre p.ord - p.amt), .bool true]) ∧ W = w' by rw [← pair_sub (by omega)]; exact sub_any _ _ W ⟨by omega, by omega⟩ ⟨by omega, by omega⟩))
    clear hbd
    go_wp2_with fail
    have HH := Hd (fun W (hb : Below w5.heap.size w5 W) => (⟨Hd hb, kc hb c2, kc hb m4, kc hb x0, kc hb x1⟩ : (fun w' => Hid (Below w5.heap.size w5 w') ∧ w'.cell? ⟨bb, 2, none⟩ = some (.map (some bm)) ∧ w'.cell? ⟨w.heap.size, 4, none⟩ = some (.int .i64 p.amt) ∧ w'.cell? ⟨k2, 0, none⟩ = some (.int .i64 p.cre) ∧ w'.cell? ⟨k2, 1, none⟩ = some (.int .i64 p.ord)) W))
    refine wp_region_noPanic ?_
    refine wp_region_held_drew (S := (fun w' => Hid (Below w5.heap.size w5 w') ∧ w'.cell? ⟨bb, 2, none⟩ = some (.map (some bm)) ∧ w'.cell? ⟨w.heap.size, 4, none⟩ = some (.int .i64 p.amt) ∧ w'.cell? ⟨k2, 0, none⟩ = some (.int .i64 p.cre) ∧ w'.cell? ⟨k2, 1, none⟩ = some (.int .i64 p.ord))) (by kernel_rfl) (HH.out _ (below_drew1 (Below.refl w5.heap.size w5))) (fun hHeld => ?_)
    refine tk 0 rfl rfl ‹_› ?_; try go_frame
    refine tk 1 rfl rfl ‹_› ?_; try go_frame
    refine tk 2 rfl rfl ‹_› ?_; try go_frame
    refine tk 3 rfl rfl ‹_› ?_; try go_frame
    refine tk 4 rfl rfl ‹_› ?_; try go_frame
    refine wpAnyH_take (i := 5) (v := ?vc5_83) rfl (by kernel_rfl) (by kernel_rfl) (by kernel_rfl) (fun _ _ _ h => h) (Or.inl ⟨by rfl, ?hyc5_83⟩) (by assumption) ?restc5_83
    case hyc5_83 => (intro w0 hSw; (try dsimp only at hSw); go_simp; rw [HLK.out w0 (Hid.out hSw.1)]; rfl)
    case' restc5_83 => (try simp only [gx1, gx2, gx3]); try go_frame
    refine tk 6 rfl rfl ‹_› ?_; try go_frame
    refine tk 7 rfl rfl ‹_› ?_; try go_frame
    refine rdy 8 rfl (fun K hK => ?_)
    go_simp
    refine (HCA.out _).mono ?_; rintro e w1 ⟨rfl, hb⟩; subst hb
    refine hK.out _ _ (by assumption) (fun hHeld => ?_)
    clear hK K
    (try simp only [gx1, gx2, gx3]); try go_frame
    refine tk 9 rfl rfl ‹_› ?_; try go_frame
    refine tk 10 rfl rfl ‹_› ?_; try go_frame
    refine tk 11 rfl rfl ‹_› ?_; try go_frame
    refine tk 12 rfl rfl ‹_› ?_; try go_frame
    refine tk 13 rfl rfl ‹_› ?_; try go_frame
    refine wpAnyH_done (by kernel_rfl) ?_ _
    refine NoPanic.normal ?_
    obtain ⟨w6, hw6⟩ : ∃ w6, w6 = w5.drew := ⟨_, rfl⟩
    rw [← hw6]
    have hb6 : Below w5.heap.size w5 w6 := by rw [hw6]; exact below_drew1 (Below.refl _ _)
    have HT6 := Hd (HT5.out.trans (Turned.of_below hb6)); have HM6 := Hd (HM5.out.below hb6); have HX6 := Hd (heap_keep HX5.out hb6); have HW6 := Hd (HW5.out.below hb6); have HK16 := Hd (heap_keep HK1.out hb6); have HK26 := Hd (heap_keep HK2.out hb6)
    clear hw6 hb6 hHeld HH HLK HCA c0 c1 c2 m0 m1 m2 m3 m4 x0 x1 HT5 HM5 HX5 HW5 HK1 HK2
    have HT5 := Hd HT6.out; have HM5 := Hd HM6.out; have HX5 := Hd HX6.out; have HW5 := Hd HW6.out; have HK1 := Hd HK16.out; have HK2 := Hd HK26.out
    clear HT6 HM6 HX6 HW6 HK16 HK26
    generalize w6 = w5 at HT5 HM5 HX5 HW5 HK1 HK2 ⊢
    go_wp2_with fail
    have HM5d := Hd (HM5.out.below (below_drew1 (Below.refl w5.heap.size w5)))
    obtain ⟨l1, hl1⟩ := slot_reads (p.deb, p.ord) ⟨by omega, by omega⟩
    obtain ⟨l2, hl2⟩ := slot_reads (p.cre, p.ord) ⟨by omega, by omega⟩
    obtain ⟨w6, hr6, hm6, ht6⟩ := HM5d.out.store lawSlot mapB (by simp [fourK, maxLen]) hl1 (mkSlot_inj _) (balI b p.deb p.ord + p.amt)
    obtain ⟨w7, hr7, hm7, ht7⟩ := hm6.store lawSlot mapB (by have h1 := without_len (fourK b p 1) (p.deb, p.ord); have h2 : (fourK b p 1).length ≤ 2 := (by simp [fourK]); rw [List.length_cons]; unfold maxLen; omega) hl2 (mkSlot_inj _) (balI b p.cre p.ord - p.amt)
    rw [four_two HP.out] at hm7
    have HR6 := Hd (show (Instr.mapUpdate tMapB (.map (some (w.heap.size + 1))) (.agg #[.int .i64 p.deb, .int .i64 p.ord]) (.int .i64 (balI b p.deb p.ord + p.amt))).run Tryz.prog w5.drew = .ok () w6 from hr6)
    have HR7 := Hd (show (Instr.mapUpdate tMapB (.map (some (w.heap.size + 1))) (.agg #[.int .i64 p.cre, .int .i64 p.ord]) (.int .i64 (balI b p.cre p.ord - p.amt))).run Tryz.prog w6 = .ok () w7 from hr7)
    have HM7 := Hd hm7
    have ht56 : Turned (fun j => j = w.heap.size + 1) w5 w6 := (Turned.refl _ w5).drew.trans (Turned.of_grown ht6.grown (fun j h => by injection h with h; exact h.symm))
    have ht57 : Turned (fun j => j = w.heap.size + 1) w5 w7 := ht56.trans (Turned.of_grown ht7.grown (fun j h => by injection h with h; exact h.symm))
    have HT56 := Hd ht56; have HT57 := Hd ht57
    clear hl1 hl2 hr6 hr7 hm6 hm7 ht6 ht7 ht56 ht57
    have hkk : k1 ≠ w.heap.size + 1 ∧ k2 ≠ w.heap.size + 1 := by omega
    have HH := Hd (fun W' (hb : Turned (fun j => j = w.heap.size + 1) w5 W') => (⟨Hd hb, cell_at (heap_turned HK1.out hb hkk.1) 0 rfl, cell_at (heap_turned HK1.out hb hkk.1) 1 rfl, cell_at (heap_turned HK2.out hb hkk.2) 0 rfl, cell_at (heap_turned HK2.out hb hkk.2) 1 rfl⟩ : (fun w' => Hid (Turned (fun j => j = w.heap.size + 1) w5 w') ∧ w'.cell? ⟨k1, 0, none⟩ = some (.int .i64 p.deb) ∧ w'.cell? ⟨k1, 1, none⟩ = some (.int .i64 p.ord) ∧ w'.cell? ⟨k2, 0, none⟩ = some (.int .i64 p.cre) ∧ w'.cell? ⟨k2, 1, none⟩ = some (.int .i64 p.ord)) W'))
    refine wp_region_noPanic ?_
    refine wp_region_held_drew (S := (fun w' => Hid (Turned (fun j => j = w.heap.size + 1) w5 w') ∧ w'.cell? ⟨k1, 0, none⟩ = some (.int .i64 p.deb) ∧ w'.cell? ⟨k1, 1, none⟩ = some (.int .i64 p.ord) ∧ w'.cell? ⟨k2, 0, none⟩ = some (.int .i64 p.cre) ∧ w'.cell? ⟨k2, 1, none⟩ = some (.int .i64 p.ord))) (by kernel_rfl) (HH.out _ ((Turned.refl _ w5).drew)) (fun hHeld => ?_)
    refine tk 0 rfl rfl ‹_› ?_; try go_frame
    refine tk 1 rfl rfl ‹_› ?_; try go_frame
    refine tk 2 rfl rfl ‹_› ?_; try go_frame
    refine tk 3 rfl rfl ‹_› ?_; try go_frame
    refine tk 4 rfl rfl ‹_› ?_; try go_frame
    refine tk 5 rfl rfl ‹_› ?_; try go_frame
    refine rdy 6 rfl (fun K hK => ?_)
    go_simp
    rw [HR6.out]
    refine hK.out _ _ (HH.out _ (HT56.out)) (fun hHeld => ?_)
    clear hK K
    (try simp only [gx1, gx2, gx3]); try go_frame
    refine rdy 7 rfl (fun K hK => ?_)
    go_simp
    rw [HR7.out]
    refine hK.out _ _ (HH.out _ (HT57.out)) (fun hHeld => ?_)
    clear hK K
    (try simp only [gx1, gx2, gx3]); try go_frame
    refine wpAnyH_done (by kernel_rfl) ?_ _
    refine NoPanic.normal ?_
    clear hHeld HH HR6 HR7
    go_wp2_with fail
    go_roundw
    case rel => exact ⟨2, by go_num, by omega, HT5.out.trans HT57.out, HM7.out⟩
    case measure => simp [intOf]
   ·obtain ⟨w5, hw5⟩ : ∃ w5, w5 = ((wr.alloc (.cells #[.int .i64 p.cre, .int .i64 p.ord] tSlot)).alloc (.cells #[.int .i64 p.deb, .int .i64 p.ord] tSlot)).drew := ⟨_, rfl⟩
    rw [← hw5]
    have hb5 : Below wr.heap.size wr w5 := by rw [hw5]; exact below_drew1' (((below_alloc wr _)).alloc (by simp) _)
    have h51 : w5.heap[wr.heap.size]? = some (.cells #[.int .i64 p.cre, .int .i64 p.ord] tSlot (0, 0)) := by rw [hw5]; exact heap_keep (heap_new wr _) (below_drew1' (below_alloc _ _))
    have h52 : w5.heap[wr.heap.size + 1]? = some (.cells #[.int .i64 p.deb, .int .i64 p.ord] tSlot (0, 0)) := by rw [hw5]; have := heap_new (wr.alloc (.cells #[.int .i64 p.cre, .int .i64 p.ord] tSlot)) (.cells #[.int .i64 p.deb, .int .i64 p.ord] tSlot); rw [show (wr.alloc (.cells #[.int .i64 p.cre, .int .i64 p.ord] tSlot)).heap.size = wr.heap.size + 1 by simp] at this; exact this
    have HT5 := Hd (HTr.out.trans (Turned.of_below hb5)); have HM5 := Hd (HMr.out.below hb5); have HX5 := Hd (heap_keep HXr.out hb5); have HW5 := Hd (HWr.out.below hb5)
    have hzz : w.heap.size + 1 < wr.heap.size := HMr.out.lt
    clear hw5 hb5 m0 m1 m2 m3 m4 c0 c1 c2
    obtain ⟨k1, hk1, hk1'⟩ : ∃ k1, k1 = wr.heap.size + 1 ∧ wr.heap.size ≤ k1 := ⟨_, rfl, by omega⟩
    obtain ⟨k2, hk2, hk2'⟩ : ∃ k2, k2 = wr.heap.size ∧ wr.heap.size ≤ k2 := ⟨_, rfl, by omega⟩
    rw [← hk2] at h51 ⊢; rw [← hk1] at h52; rw [show k2 + 1 = k1 by omega]
    have HK1 := Hd h52; have HK2 := Hd h51
    clear h51 h52 hk1 hk2
    obtain ⟨c0, c1, c2⟩ := cell3c HW5.out.hd
    obtain ⟨m0, m1, m2, m3, m4⟩ := cell5 HX5.out
    obtain ⟨x0, x1, _, _⟩ := cell2 HK1.out
    have HLK := Hd (fun W (hb : Below w5.heap.size w5 W) => (show (Instr.lookup tMapB (.map (some bm)) (.agg #[.int .i64 p.deb, .int .i64 p.ord]) false).run Tryz.prog W = .ok (.int .i64 (balI b p.deb p.ord)) W by obtain ⟨E, hE, _, hE2⟩ := (HW5.out.below hb).mb; rw [← hE2]; exact blook hE _ _ (by omega) (by omega)))
    have hbd := HW5.out.many hl p.deb p.ord
    have HCA := Hd (fun W => (show Calls Tryz.prog 161 #[.int .i64 (balI b p.deb p.ord), .int .i64 p.amt] W fun e w' => e = .returned (.tuple #[.int .i64 (balI b p.deb p.ord + p.amt), .bool true]) ∧ W = w' by rw [← pair_add (by omega)]; exact add_any _ _ W ⟨by omega, by omega⟩ ⟨by omega, by omega⟩))
    clear hbd
    go_wp2_with fail
    have HH := Hd (fun W (hb : Below w5.heap.size w5 W) => (⟨Hd hb, kc hb c2, kc hb m4, kc hb x0, kc hb x1⟩ : (fun w' => Hid (Below w5.heap.size w5 w') ∧ w'.cell? ⟨bb, 2, none⟩ = some (.map (some bm)) ∧ w'.cell? ⟨w.heap.size, 4, none⟩ = some (.int .i64 p.amt) ∧ w'.cell? ⟨k1, 0, none⟩ = some (.int .i64 p.deb) ∧ w'.cell? ⟨k1, 1, none⟩ = some (.int .i64 p.ord)) W))
    refine wp_region_noPanic ?_
    refine wp_region_held_drew (S := (fun w' => Hid (Below w5.heap.size w5 w') ∧ w'.cell? ⟨bb, 2, none⟩ = some (.map (some bm)) ∧ w'.cell? ⟨w.heap.size, 4, none⟩ = some (.int .i64 p.amt) ∧ w'.cell? ⟨k1, 0, none⟩ = some (.int .i64 p.deb) ∧ w'.cell? ⟨k1, 1, none⟩ = some (.int .i64 p.ord))) (by kernel_rfl) (HH.out _ (below_drew1 (Below.refl w5.heap.size w5))) (fun hHeld => ?_)
    refine tk 0 rfl rfl ‹_› ?_; try go_frame
    refine tk 1 rfl rfl ‹_› ?_; try go_frame
    refine tk 2 rfl rfl ‹_› ?_; try go_frame
    refine tk 3 rfl rfl ‹_› ?_; try go_frame
    refine tk 4 rfl rfl ‹_› ?_; try go_frame
    refine wpAnyH_take (i := 5) (v := ?vc5_102) rfl (by kernel_rfl) (by kernel_rfl) (by kernel_rfl) (fun _ _ _ h => h) (Or.inl ⟨by rfl, ?hyc5_102⟩) (by assumption) ?restc5_102
    case hyc5_102 => (intro w0 hSw; (try dsimp only at hSw); go_simp; rw [HLK.out w0 (Hid.out hSw.1)]; rfl)
    case' restc5_102 => (try simp only [gx1, gx2, gx3]); try go_frame
    refine tk 6 rfl rfl ‹_› ?_; try go_frame
    refine tk 7 rfl rfl ‹_› ?_; try go_frame
    refine rdy 8 rfl (fun K hK => ?_)
    go_simp
    refine (HCA.out _).mono ?_; rintro e w1 ⟨rfl, hb⟩; subst hb
    refine hK.out _ _ (by assumption) (fun hHeld => ?_)
    clear hK K
    (try simp only [gx1, gx2, gx3]); try go_frame
    refine tk 9 rfl rfl ‹_› ?_; try go_frame
    refine tk 10 rfl rfl ‹_› ?_; try go_frame
    refine tk 11 rfl rfl ‹_› ?_; try go_frame
    refine tk 12 rfl rfl ‹_› ?_; try go_frame
    refine tk 13 rfl rfl ‹_› ?_; try go_frame
    refine wpAnyH_done (by kernel_rfl) ?_ _
    refine NoPanic.normal ?_
    obtain ⟨w6, hw6⟩ : ∃ w6, w6 = w5.drew := ⟨_, rfl⟩
    rw [← hw6]
    have hb6 : Below w5.heap.size w5 w6 := by rw [hw6]; exact below_drew1 (Below.refl _ _)
    have HT6 := Hd (HT5.out.trans (Turned.of_below hb6)); have HM6 := Hd (HM5.out.below hb6); have HX6 := Hd (heap_keep HX5.out hb6); have HW6 := Hd (HW5.out.below hb6); have HK16 := Hd (heap_keep HK1.out hb6); have HK26 := Hd (heap_keep HK2.out hb6)
    clear hw6 hb6 hHeld HH HLK HCA c0 c1 c2 m0 m1 m2 m3 m4 x0 x1 HT5 HM5 HX5 HW5 HK1 HK2
    have HT5 := Hd HT6.out; have HM5 := Hd HM6.out; have HX5 := Hd HX6.out; have HW5 := Hd HW6.out; have HK1 := Hd HK16.out; have HK2 := Hd HK26.out
    clear HT6 HM6 HX6 HW6 HK16 HK26
    generalize w6 = w5 at HT5 HM5 HX5 HW5 HK1 HK2 ⊢
    obtain ⟨c0, c1, c2⟩ := cell3c HW5.out.hd
    obtain ⟨m0, m1, m2, m3, m4⟩ := cell5 HX5.out
    obtain ⟨x0, x1, _, _⟩ := cell2 HK2.out
    have HLK := Hd (fun W (hb : Below w5.heap.size w5 W) => (show (Instr.lookup tMapB (.map (some bm)) (.agg #[.int .i64 p.cre, .int .i64 p.ord]) false).run Tryz.prog W = .ok (.int .i64 (balI b p.cre p.ord)) W by obtain ⟨E, hE, _, hE2⟩ := (HW5.out.below hb).mb; rw [← hE2]; exact blook hE _ _ (by omega) (by omega)))
    have hbd := HW5.out.many hl p.cre p.ord
    have HCA := Hd (fun W => (show Calls Tryz.prog 162 #[.int .i64 (balI b p.cre p.ord), .int .i64 p.amt] W fun e w' => e = .returned (.tuple #[.int .i64 (balI b p.cre p.ord - p.amt), .bool true]) ∧ W = w' by rw [← pair_sub (by omega)]; exact sub_any _ _ W ⟨by omega, by omega⟩ ⟨by omega, by omega⟩))
    clear hbd
    go_wp2_with fail
    have HH := Hd (fun W (hb : Below w5.heap.size w5 W) => (⟨Hd hb, kc hb c2, kc hb m4, kc hb x0, kc hb x1⟩ : (fun w' => Hid (Below w5.heap.size w5 w') ∧ w'.cell? ⟨bb, 2, none⟩ = some (.map (some bm)) ∧ w'.cell? ⟨w.heap.size, 4, none⟩ = some (.int .i64 p.amt) ∧ w'.cell? ⟨k2, 0, none⟩ = some (.int .i64 p.cre) ∧ w'.cell? ⟨k2, 1, none⟩ = some (.int .i64 p.ord)) W))
    refine wp_region_noPanic ?_
    refine wp_region_held_drew (S := (fun w' => Hid (Below w5.heap.size w5 w') ∧ w'.cell? ⟨bb, 2, none⟩ = some (.map (some bm)) ∧ w'.cell? ⟨w.heap.size, 4, none⟩ = some (.int .i64 p.amt) ∧ w'.cell? ⟨k2, 0, none⟩ = some (.int .i64 p.cre) ∧ w'.cell? ⟨k2, 1, none⟩ = some (.int .i64 p.ord))) (by kernel_rfl) (HH.out _ (below_drew1 (Below.refl w5.heap.size w5))) (fun hHeld => ?_)
    refine tk 0 rfl rfl ‹_› ?_; try go_frame
    refine tk 1 rfl rfl ‹_› ?_; try go_frame
    refine tk 2 rfl rfl ‹_› ?_; try go_frame
    refine tk 3 rfl rfl ‹_› ?_; try go_frame
    refine tk 4 rfl rfl ‹_› ?_; try go_frame
    refine wpAnyH_take (i := 5) (v := ?vc5_115) rfl (by kernel_rfl) (by kernel_rfl) (by kernel_rfl) (fun _ _ _ h => h) (Or.inl ⟨by rfl, ?hyc5_115⟩) (by assumption) ?restc5_115
    case hyc5_115 => (intro w0 hSw; (try dsimp only at hSw); go_simp; rw [HLK.out w0 (Hid.out hSw.1)]; rfl)
    case' restc5_115 => (try simp only [gx1, gx2, gx3]); try go_frame
    refine tk 6 rfl rfl ‹_› ?_; try go_frame
    refine tk 7 rfl rfl ‹_› ?_; try go_frame
    refine rdy 8 rfl (fun K hK => ?_)
    go_simp
    refine (HCA.out _).mono ?_; rintro e w1 ⟨rfl, hb⟩; subst hb
    refine hK.out _ _ (by assumption) (fun hHeld => ?_)
    clear hK K
    (try simp only [gx1, gx2, gx3]); try go_frame
    refine tk 9 rfl rfl ‹_› ?_; try go_frame
    refine tk 10 rfl rfl ‹_› ?_; try go_frame
    refine tk 11 rfl rfl ‹_› ?_; try go_frame
    refine tk 12 rfl rfl ‹_› ?_; try go_frame
    refine tk 13 rfl rfl ‹_› ?_; try go_frame
    refine wpAnyH_done (by kernel_rfl) ?_ _
    refine NoPanic.normal ?_
    obtain ⟨w6, hw6⟩ : ∃ w6, w6 = w5.drew := ⟨_, rfl⟩
    rw [← hw6]
    have hb6 : Below w5.heap.size w5 w6 := by rw [hw6]; exact below_drew1 (Below.refl _ _)
    have HT6 := Hd (HT5.out.trans (Turned.of_below hb6)); have HM6 := Hd (HM5.out.below hb6); have HX6 := Hd (heap_keep HX5.out hb6); have HW6 := Hd (HW5.out.below hb6); have HK16 := Hd (heap_keep HK1.out hb6); have HK26 := Hd (heap_keep HK2.out hb6)
    clear hw6 hb6 hHeld HH HLK HCA c0 c1 c2 m0 m1 m2 m3 m4 x0 x1 HT5 HM5 HX5 HW5 HK1 HK2
    have HT5 := Hd HT6.out; have HM5 := Hd HM6.out; have HX5 := Hd HX6.out; have HW5 := Hd HW6.out; have HK1 := Hd HK16.out; have HK2 := Hd HK26.out
    clear HT6 HM6 HX6 HW6 HK16 HK26
    generalize w6 = w5 at HT5 HM5 HX5 HW5 HK1 HK2 ⊢
    go_wp2_with fail
    have HM5d := Hd (HM5.out.below (below_drew1 (Below.refl w5.heap.size w5)))
    obtain ⟨l1, hl1⟩ := slot_reads (p.deb, p.ord) ⟨by omega, by omega⟩
    obtain ⟨l2, hl2⟩ := slot_reads (p.cre, p.ord) ⟨by omega, by omega⟩
    obtain ⟨w6, hr6, hm6, ht6⟩ := HM5d.out.store lawSlot mapB (by simp [fourK, maxLen]) hl1 (mkSlot_inj _) (balI b p.deb p.ord + p.amt)
    obtain ⟨w7, hr7, hm7, ht7⟩ := hm6.store lawSlot mapB (by have h1 := without_len (fourK b p 1) (p.deb, p.ord); have h2 : (fourK b p 1).length ≤ 2 := (by simp [fourK]); rw [List.length_cons]; unfold maxLen; omega) hl2 (mkSlot_inj _) (balI b p.cre p.ord - p.amt)
    rw [four_two HP.out] at hm7
    have HR6 := Hd (show (Instr.mapUpdate tMapB (.map (some (w.heap.size + 1))) (.agg #[.int .i64 p.deb, .int .i64 p.ord]) (.int .i64 (balI b p.deb p.ord + p.amt))).run Tryz.prog w5.drew = .ok () w6 from hr6)
    have HR7 := Hd (show (Instr.mapUpdate tMapB (.map (some (w.heap.size + 1))) (.agg #[.int .i64 p.cre, .int .i64 p.ord]) (.int .i64 (balI b p.cre p.ord - p.amt))).run Tryz.prog w6 = .ok () w7 from hr7)
    have HM7 := Hd hm7
    have ht56 : Turned (fun j => j = w.heap.size + 1) w5 w6 := (Turned.refl _ w5).drew.trans (Turned.of_grown ht6.grown (fun j h => by injection h with h; exact h.symm))
    have ht57 : Turned (fun j => j = w.heap.size + 1) w5 w7 := ht56.trans (Turned.of_grown ht7.grown (fun j h => by injection h with h; exact h.symm))
    have HT56 := Hd ht56; have HT57 := Hd ht57
    clear hl1 hl2 hr6 hr7 hm6 hm7 ht6 ht7 ht56 ht57
    have hkk : k1 ≠ w.heap.size + 1 ∧ k2 ≠ w.heap.size + 1 := by omega
    have HH := Hd (fun W' (hb : Turned (fun j => j = w.heap.size + 1) w5 W') => (⟨Hd hb, cell_at (heap_turned HK1.out hb hkk.1) 0 rfl, cell_at (heap_turned HK1.out hb hkk.1) 1 rfl, cell_at (heap_turned HK2.out hb hkk.2) 0 rfl, cell_at (heap_turned HK2.out hb hkk.2) 1 rfl⟩ : (fun w' => Hid (Turned (fun j => j = w.heap.size + 1) w5 w') ∧ w'.cell? ⟨k1, 0, none⟩ = some (.int .i64 p.deb) ∧ w'.cell? ⟨k1, 1, none⟩ = some (.int .i64 p.ord) ∧ w'.cell? ⟨k2, 0, none⟩ = some (.int .i64 p.cre) ∧ w'.cell? ⟨k2, 1, none⟩ = some (.int .i64 p.ord)) W'))
    refine wp_region_noPanic ?_
    refine wp_region_held_drew (S := (fun w' => Hid (Turned (fun j => j = w.heap.size + 1) w5 w') ∧ w'.cell? ⟨k1, 0, none⟩ = some (.int .i64 p.deb) ∧ w'.cell? ⟨k1, 1, none⟩ = some (.int .i64 p.ord) ∧ w'.cell? ⟨k2, 0, none⟩ = some (.int .i64 p.cre) ∧ w'.cell? ⟨k2, 1, none⟩ = some (.int .i64 p.ord))) (by kernel_rfl) (HH.out _ ((Turned.refl _ w5).drew)) (fun hHeld => ?_)
    refine tk 0 rfl rfl ‹_› ?_; try go_frame
    refine tk 1 rfl rfl ‹_› ?_; try go_frame
    refine tk 2 rfl rfl ‹_› ?_; try go_frame
    refine tk 3 rfl rfl ‹_› ?_; try go_frame
    refine tk 4 rfl rfl ‹_› ?_; try go_frame
    refine tk 5 rfl rfl ‹_› ?_; try go_frame
    refine rdy 6 rfl (fun K hK => ?_)
    go_simp
    rw [HR6.out]
    refine hK.out _ _ (HH.out _ (HT56.out)) (fun hHeld => ?_)
    clear hK K
    (try simp only [gx1, gx2, gx3]); try go_frame
    refine rdy 7 rfl (fun K hK => ?_)
    go_simp
    rw [HR7.out]
    refine hK.out _ _ (HH.out _ (HT57.out)) (fun hHeld => ?_)
    clear hK K
    (try simp only [gx1, gx2, gx3]); try go_frame
    refine wpAnyH_done (by kernel_rfl) ?_ _
    refine NoPanic.normal ?_
    clear hHeld HH HR6 HR7
    go_wp2_with fail
    go_roundw
    case rel => exact ⟨2, by go_num, by omega, HT5.out.trans HT57.out, HM7.out⟩
    case measure => simp [intOf]
  ·go_wp2_with fail
   go_ret2
   exact ⟨_, rfl, by omega, HMr.out, Below.turned HB.out HTr.out (fun i h => by omega) HB.out.size⟩
end Go.Proofs.YtlkncmpengpbiaaGreatDoor

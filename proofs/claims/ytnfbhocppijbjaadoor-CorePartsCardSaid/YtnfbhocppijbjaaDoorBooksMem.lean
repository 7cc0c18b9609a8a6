/- Books in memory: the postings, the maps. -/
import Derived.Test.YtnfbhocppijbjaaDoorCoreSpec
import Derived.Test.YtnfbhocppijbjaaDoorMatchFind
import Derived.Test.YtnfbhocppijbjaaDoorTurn
import Derived.Test.YtnfbhocppijbjaaDoorBoxes
import Derived.Test.YtnfbhocppijbjaaDoorSagaWalk
namespace Go.Proofs.YtnfbhocppijbjaaDoor
open Go.RowKit Go.Maps Co

abbrev tPost : TypeId := 33
abbrev tPosts : TypeId := 39
abbrev tBooks : TypeId := 84
abbrev tSlot : TypeId := 98
abbrev tMapS : TypeId := 81
abbrev tMapB : TypeId := 82
abbrev tStrC : TypeId := 9
abbrev tI64 : TypeId := 2
def encP (p : Po) : List Value := [.string ⟨p.id.toArray⟩, .int .i64 p.ord, .int .i64 p.deb, .int .i64 p.cre, .int .i64 p.amt]
abbrev mkPost (p : Po) : Value := .agg #[.string ⟨p.id.toArray⟩, .int .i64 p.ord, .int .i64 p.deb, .int .i64 p.cre, .int .i64 p.amt]
def mkSlot (k : Int × Int) : Value := .agg #[.int .i64 k.1, .int .i64 k.2]
abbrev mkStrC (s : List UInt8) : Value := .string ⟨s.toArray⟩
theorem encP_len (p : Po) : (encP p).length = 5 := rfl
theorem encP_one (p : Po) : ∀ u ∈ encP p, u.oneCell' = true := by
  intro u hu; simp [encP] at hu; rcases hu with rfl | rfl | rfl | rfl | rfl <;> rfl
theorem post_info : (Tryd.prog.info? tPost).map (fun i => (i.zero, i.size, i.bytes)) = some (some (mkPost ⟨[], 0, 0, 0, 0⟩), 5, 48) := by kernel_rfl
theorem mapS : Tryd.prog.underlying tMapS = some (.map tStrC tPost) := by kernel_rfl
theorem mapB : Tryd.prog.underlying tMapB = some (.map tSlot tI64) := by kernel_rfl
theorem zeroPost (w : World) : (zeroValue tPost).run Tryd.prog w = .ok (mkPost ⟨[], 0, 0, 0, 0⟩) w := by kernel_rfl
theorem zeroI64 (w : World) : (zeroValue tI64).run Tryd.prog w = .ok (mkI 0) w := by kernel_rfl
theorem lawStrC : Keyed Tryd.prog tStrC := string_keyed Tryd.underlying9
theorem str_readsC (s : List UInt8) (h : s.length ≤ 1000) : ∃ l, keyOf Tryd.prog tStrC (mkStrC s) = some l := ⟨_, WideMaps.keyOf_string_mk (P := Tryd.prog) (k := tStrC) Tryd.underlying9 (by show s.toArray.size ≤ _; unfold maxLen; simp; omega)⟩
theorem mkStr_injC (k : List UInt8) : ∀ y, mkStrC y = mkStrC k → y = k := by
  intro y h
  injection h with h
  have := congrArg (fun b : ByteArray => b.data.toList) h
  simpa using this
theorem mkSlot_inj (k : Int × Int) : ∀ y, mkSlot y = mkSlot k → y = k := by
  intro y h
  simp [mkSlot] at h
  exact Prod.ext h.1 h.2
theorem lawSlot : Keyed Tryd.prog tSlot := Keyed.of_law (deep_law_laid (P := Tryd.prog) (show laidOutB Tryd.prog = true by kernel_rfl) (m := 4) (by omega) (k := tSlot) (of_decide_eq_true (by kernel_rfl)) (by kernel_rfl) (by kernel_rfl))
theorem slot_reads (k : Int × Int) (h : (-9223372036854775808 ≤ k.1 ∧ k.1 ≤ 9223372036854775807) ∧ (-9223372036854775808 ≤ k.2 ∧ k.2 ≤ 9223372036854775807)) : ∃ l, keyOf Tryd.prog tSlot (mkSlot k) = some l := by
  obtain ⟨a, b⟩ := k
  obtain ⟨⟨h1, h2⟩, h3, h4⟩ := h
  have w1 : (Lit.int .i64 a).wf = true := by simp [Lit.wf, IntKind.min, IntKind.max, IntKind.signed, IntKind.bits]; omega
  have w2 : (Lit.int .i64 b).wf = true := by simp [Lit.wf, IntKind.min, IntKind.max, IntKind.signed, IntKind.bits]; omega
  have hf : (mkSlot (a, b)).formed Tryd.prog tSlot = true := by kernel_rfl
  have hk : Tryd.prog.keyType tSlot = true := by kernel_rfl
  have hc : Tryd.prog.cellsOf tSlot = 2 := by kernel_rfl
  have hi : Tryd.prog.cellsOf 3 = 1 := by kernel_rfl
  obtain ⟨d, hd⟩ : ∃ d, Tryd.prog.types.size = d + 1 := ⟨Tryd.prog.types.size - 1, by have : 0 < Tryd.prog.types.size := of_decide_eq_true (by kernel_rfl); omega⟩
  have hl : Tryd.prog.keyLits (Tryd.prog.types.size + 1) tSlot (mkSlot (a, b)).cells.toList = some [.int .i64 a, .int .i64 b] := by
    rw [hd]
    simp [Program.keyLits, mkSlot, Value.cells, Tryd.underlying98, Tryd.underlying3, hc, hi, w1, w2]
  unfold keyOf
  rw [Tryd.underlying98]
  simp only [hf, hk, hl, Bool.and_self, if_true, Option.map_some]
  exact ⟨_, rfl⟩
theorem slots_nodup {w : World} {b : Nat} {E : List ((Int × Int) × Int)} (h : MapL Tryd.prog tSlot mkSlot mkI w b E) : (E.map (·.1)).Nodup := by
  rw [List.Nodup, List.pairwise_map]
  exact h.apart.imp fun h e => h (by rw [e])

theorem map_nil (pm : Nat) (W : World) : (binOp BinOp.eql tMapS (.map (some pm)) (.map none)).run Tryd.prog W = .ok (.bool false) W := by kernel_rfl

/-- The block bb holds books of these postings; all that they own lies at B or behind. -/
structure Bw (B : Nat) (w : World) (bb pm bm : Nat) (vb : Value) (b : List Po) : Prop where
  hd : w.heap[bb]? = some (.cells #[vb, .map (some pm), .map (some bm)] tBooks (0, 0))
  ob : w.ownsRow B tPost 5 vb b.length (b.flatMap encP)
  mp : ∃ E, MapL Tryd.prog tStrC mkStrC mkPost w pm E ∧ E.length ≤ b.length ∧ ∀ e ∈ E, ∃ p ∈ b, p.id = e.1
  mb : ∃ E, MapL Tryd.prog tSlot mkSlot mkI w bm E ∧ E.length ≤ 4 * b.length ∧ ∀ a o, lk E (a, o) = balI b a o
  ge : B ≤ bb ∧ B ≤ pm ∧ B ≤ bm
  ne : bb ≠ pm ∧ bb ≠ bm ∧ pm ≠ bm
  oo : ∀ j, vb.ownBlock = some j → j ≠ bb ∧ j ≠ pm ∧ j ≠ bm
  ok : ∀ p ∈ b, mayP p
/-- The blocks that books may turn. -/
def Bs (bb pm bm : Nat) (vb : Value) (j : Nat) : Prop := j = bb ∨ j = pm ∨ j = bm ∨ vb.ownBlock = some j
theorem Bw.lt {B : Nat} {w : World} {bb pm bm : Nat} {vb : Value} {b : List Po} (h : Bw B w bb pm bm vb b) : bb < w.heap.size ∧ pm < w.heap.size ∧ bm < w.heap.size := by
  obtain ⟨_, m1, _⟩ := h.mp
  obtain ⟨_, m2, _⟩ := h.mb
  exact ⟨heap_lt h.hd, m1.lt, m2.lt⟩
theorem Bw.ls {B : Nat} {w : World} {bb pm bm : Nat} {vb : Value} {b : List Po} (h : Bw B w bb pm bm vb b) {j : Nat} (hj : Bs bb pm bm vb j) : B ≤ j ∧ j < w.heap.size := by
  have hl := h.lt
  have hg := h.ge
  rcases hj with rfl | rfl | rfl | hj
  · omega
  · omega
  · omega
  · exact h.ob.lt j hj
theorem Bw.kept {B : Nat} {w w' : World} {bb pm bm : Nat} {vb : Value} {b : List Po} (h : Bw B w bb pm bm vb b) {S : Nat → Prop} (ht : Turned S w w') (hS : ∀ j, Bs bb pm bm vb j → ¬ S j) : Bw B w' bb pm bm vb b := by
  have hl := h.lt
  obtain ⟨E1, m1, m2⟩ := h.mp
  obtain ⟨E2, n1, n2⟩ := h.mb
  exact ⟨(ht.block _ hl.1 (hS _ (.inl rfl))).trans h.hd, own_turned h.ob ht (fun j hj => hS j (.inr (.inr (.inr hj)))), ⟨E1, m1.block (ht.block _ hl.2.1 (hS _ (.inr (.inl rfl)))), m2⟩, ⟨E2, n1.block (ht.block _ hl.2.2 (hS _ (.inr (.inr (.inl rfl))))), n2⟩, h.ge, h.ne, h.oo, h.ok⟩
theorem Bw.below {B : Nat} {w w' : World} {bb pm bm : Nat} {vb : Value} {b : List Po} (h : Bw B w bb pm bm vb b) (hb : Below w.heap.size w w') : Bw B w' bb pm bm vb b := h.kept (S := fun _ => False) (Turned.of_below hb) (fun _ _ h => h)
theorem Bw.many {B : Nat} {w : World} {bb pm bm : Nat} {vb : Value} {b : List Po} (h : Bw B w bb pm bm vb b) (hl : b.length ≤ 100000) (a o : Int) : -439804651110400000 ≤ balI b a o ∧ balI b a o ≤ 439804651110400000 := by
  have := bal_bd h.ok a o
  omega

set_option linter.unusedSimpArgs false in
set_option maxRecDepth 100000 in
set_option maxHeartbeats 1000000 in
theorem bnone_any {B : Nat} {w : World} {bb pm bm : Nat} {vb : Value} {b : List Po} (h : Bw B w bb pm bm vb b) : Calls Tryd.prog 31 #[.pointer (some ⟨bb, 0, none⟩)] w fun e w' => e = .returned (.bool false) ∧ w = w' := by
  obtain ⟨c0, c1, c2⟩ := cell3c h.hd
  have hmn := map_nil pm
  go_enter Tryd.func31, Tryd.ntmps31
  go_wp2_with fail
  go_ret
  exact ⟨rfl, rfl⟩
set_option linter.unusedSimpArgs false in
set_option maxHeartbeats 1000000 in
theorem bacc_any (n : Int) (w : World) (h0 : 0 ≤ n) (h4 : n ≤ 4) : Calls Tryd.prog 51 #[.int .i64 n] w fun e w' => e = .returned (.bool true) ∧ w = w' := by
  go_enter Tryd.func51, Tryd.ntmps51
  go_wp2_with fail
  go_ret
  exact ⟨rfl, rfl⟩
theorem po_ne {s : List UInt8} (h : 0 < s.length) : s.isEmpty = false := by cases s with | nil => cases h | cons x s => rfl
set_option linter.unusedSimpArgs false in
set_option linter.unusedVariables false in
set_option maxRecDepth 100000 in
set_option maxHeartbeats 4000000 in
theorem bmay_any (p : Po) (w : World) (h : mayP p) : Calls Tryd.prog 38 #[mkPost p] w fun e w' => e = .returned (.bool true) ∧ Below w.heap.size w w' := by
  obtain ⟨h1, _, h2, _, h3, h4, h5, h6, h7, h8, _⟩ := h
  have g1 := po_ne h1
  have HB := Lib.hid (below_alloc w (.cells #[.string ⟨p.id.toArray⟩, .int .i64 p.ord, .int .i64 p.deb, .int .i64 p.cre, .int .i64 p.amt] tPost))
  have g2 := bneT h7
  have HA := Lib.hid (fun W => bacc_any p.deb W h3 h4)
  have HC := Lib.hid (fun W => bacc_any p.cre W h5 h6)
  have HM := Lib.hid (heap_new w (.cells #[.string ⟨p.id.toArray⟩, .int .i64 p.ord, .int .i64 p.deb, .int .i64 p.cre, .int .i64 p.amt] tPost))
  go_enter Tryd.func38, Tryd.ntmps38
  go_wp2_with fail
  generalize w.alloc (.cells #[.string ⟨p.id.toArray⟩, .int .i64 p.ord, .int .i64 p.deb, .int .i64 p.cre, .int .i64 p.amt] tPost) = wa at HB HM ⊢
  obtain ⟨m0, m1, m2, m3, m4⟩ := cell5 HM.out
  go_wp2_with (go_at_call 51; first | (refine (HA.out _).mono ?_; rintro e w1 ⟨rfl, hb⟩; subst hb) | (refine (HC.out _).mono ?_; rintro e w1 ⟨rfl, hb⟩; subst hb))
  go_ret
  exact ⟨rfl, HB.out⟩
set_option linter.unusedSimpArgs false in
set_option linter.unusedVariables false in
set_option maxRecDepth 100000 in
set_option maxHeartbeats 4000000 in
theorem bbal_any {B : Nat} {w : World} {bb pm bm : Nat} {vb : Value} {b : List Po} (h : Bw B w bb pm bm vb b) (a o : Int) (ha : -9223372036854775808 ≤ a ∧ a ≤ 9223372036854775807) (ho : -9223372036854775808 ≤ o ∧ o ≤ 9223372036854775807) :
    Calls Tryd.prog 23 #[.pointer (some ⟨bb, 0, none⟩), .int .i64 a, .int .i64 o] w fun e w' => e = .returned (.int .i64 (balI b a o)) ∧ w = w' := by
  have HBW := Lib.hid h
  obtain ⟨c0, c1, c2⟩ := cell3c h.hd
  obtain ⟨E, hE, _, hbal⟩ := h.mb
  obtain ⟨l, hl⟩ := slot_reads (a, o) ⟨ha, ho⟩
  have HE := Lib.hid hE; have HL := Lib.hid hl; have HBAL := Lib.hid hbal
  clear h hE hl hbal
  go_enter Tryd.func23, Tryd.ntmps23
  go_wp2_with (first
    | (go_at_call 31; refine (bnone_any HBW.out).mono ?_; rintro e w1 ⟨rfl, hb⟩; subst hb)
    | (at_lookup; go_loud (refine wpList_lookL _ false rfl (.tmp 12) (.tmp 15) tMapB rfl tSlot tI64 lawSlot mapB 0 (zeroI64 _) bm E rfl HE.out (a, o) rfl HL.out (mkSlot_inj _) (fun x hx => ?_) (fun hn => ?_))))
  all_goals go_ret
  · exact ⟨by rw [← HBAL.out, lk_mem (slots_nodup HE.out) hx]; rfl, rfl⟩
  · exact ⟨by rw [← HBAL.out, lk_none hn]; rfl, rfl⟩
end Go.Proofs.YtnfbhocppijbjaaDoor

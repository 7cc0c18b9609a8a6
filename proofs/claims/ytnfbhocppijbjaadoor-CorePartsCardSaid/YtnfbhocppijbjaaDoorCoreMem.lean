/- A core in memory: its sagas, books, intake. -/
import Derived.Test.YtnfbhocppijbjaaDoorBooksPost
import Derived.Test.YtnfbhocppijbjaaDoorSagaRows
import Derived.Test.YtnfbhocppijbjaaDoorSagaWalk3
import Derived.Test.YtnfbhocppijbjaaDoorIntakeAcc
import Derived.IntWalk
namespace Go.Proofs.YtnfbhocppijbjaaDoor
open Go.RowKit Go.Maps Co Key Rw Sa

abbrev tCore : TypeId := 63
namespace Co
structure Cor where
  l : List Sg
  b : List Po
  inn : In.Inn
def nilC : Cor := ⟨[], [], In.nil⟩
end Co
/-- The cells of an intake that stands in a struct. -/
def inn10 : Value → Array Value
  | .agg a => a
  | _ => #[]
/-- The block cb holds a core; all that it owns lies at B or behind. -/
structure Cw (B : Nat) (w : World) (cb bb pm bm : Nat) (vl vb vI : Value) (c : Cor) : Prop where
  hc : w.heap[cb]? = some (.cells (#[vl, .pointer (some ⟨bb, 0, none⟩)] ++ inn10 vI) tCore (0, 0))
  ol : w.ownsRow B tSaga 12 vl c.l.length (c.l.flatMap encS)
  bk : Bw B w bb pm bm vb c.b
  ii : InP w vI c.inn
  fi : In.Fine c.inn
  av : ∀ j, (j = cb ∨ Bs bb pm bm vb j ∨ vl.ownBlock = some j) → Av j vI c.inn
  ge : B ≤ cb
  nc : cb ≠ bb ∧ cb ≠ pm ∧ cb ≠ bm ∧ vb.ownBlock ≠ some cb
  nl : ∀ j, vl.ownBlock = some j → j ≠ cb ∧ ¬ Bs bb pm bm vb j
/-- The blocks that a core may turn. -/
def Cs (cb bb pm bm : Nat) (vl vb : Value) (j : Nat) : Prop := j = cb ∨ Bs bb pm bm vb j ∨ vl.ownBlock = some j
theorem Cw.ls {B : Nat} {w : World} {cb bb pm bm : Nat} {vl vb vI : Value} {c : Cor} (h : Cw B w cb bb pm bm vl vb vI c) {j : Nat} (hj : Cs cb bb pm bm vl vb j) : B ≤ j ∧ j < w.heap.size := by
  rcases hj with rfl | hj | hj
  · exact ⟨h.ge, heap_lt h.hc⟩
  · exact h.bk.ls hj
  · exact h.ol.lt j hj
theorem Cw.kept {B : Nat} {w w' : World} {cb bb pm bm : Nat} {vl vb vI : Value} {c : Cor} (h : Cw B w cb bb pm bm vl vb vI c) {S : Nat → Prop} (ht : Turned S w w') (hS : ∀ j, Cs cb bb pm bm vl vb j → ¬ S j) (hI : ∀ j, S j → Av j vI c.inn) : Cw B w' cb bb pm bm vl vb vI c :=
  ⟨(ht.block _ (heap_lt h.hc) (hS _ (.inl rfl))).trans h.hc, own_turned h.ol ht (fun j hj => hS j (.inr (.inr hj))), h.bk.kept ht (fun j hj => hS j (.inr (.inl hj))), h.ii.turned ht hI, h.fi, h.av, h.ge, h.nc, h.nl⟩
theorem Cw.below {B : Nat} {w w' : World} {cb bb pm bm : Nat} {vl vb vI : Value} {c : Cor} (h : Cw B w cb bb pm bm vl vb vI c) (hb : Below w.heap.size w w') : Cw B w' cb bb pm bm vl vb vI c := h.kept (S := fun _ => False) (Turned.of_below hb) (fun _ _ h => h) (fun _ h => h.elim)
theorem Cw.c01 {B : Nat} {w : World} {cb bb pm bm : Nat} {vl vb vI : Value} {c : Cor} (h : Cw B w cb bb pm bm vl vb vI c) : w.cell? ⟨cb, 0, none⟩ = some vl ∧ w.cell? ⟨cb, 1, none⟩ = some (.pointer (some ⟨bb, 0, none⟩)) := by
  have h' := h.hc
  exact ⟨cell_at h' 0 (by simp [Array.getElem?_append]), cell_at h' 1 (by simp [Array.getElem?_append])⟩
theorem Cw.froz {B : Nat} {w : World} {cb bb pm bm : Nat} {vl vb vI : Value} {c : Cor} (h : Cw B w cb bb pm bm vl vb vI c) (i : Nat) : w.frozen? ⟨cb, i, none⟩ = false := frozen_at h.hc i

set_option linter.unusedSimpArgs false in
set_option linter.unusedVariables false in
set_option maxRecDepth 100000 in
set_option maxHeartbeats 8000000 in
theorem bnew_any (w : World) : Calls Tryd.prog 30 #[] w fun e w' => ∃ bb pm bm, e = .returned (.pointer (some ⟨bb, 0, none⟩)) ∧ Bw w.heap.size w' bb pm bm (.slice none 0 0) [] ∧ Below w.heap.size w w' := by
  have hmm := @run_makeMap Tryd.prog
  obtain ⟨wa, hA⟩ : ∃ wa, wa = ((w.alloc (.map #[] 0)).alloc (.map #[] 0)).alloc (.cells #[.slice none 0 0, .map (some w.heap.size), .map (some (w.heap.size + 1))] tBooks) := ⟨_, rfl⟩
  have hB : Below w.heap.size w wa := by rw [hA]; exact ((below_alloc w _).alloc (by simp) _).alloc (by simp; omega) _
  have h1 : MapL Tryd.prog tStrC mkStrC mkPost wa w.heap.size [] := by rw [hA]; exact ((MapL.made Tryd.prog tStrC mkStrC mkPost w).alloc _).alloc _
  have h2 : MapL Tryd.prog tSlot mkSlot mkI wa (w.heap.size + 1) [] := by
    rw [hA]
    have := MapL.made Tryd.prog tSlot mkSlot mkI (w.alloc (.map #[] 0))
    rw [show (w.alloc (.map #[] 0)).heap.size = w.heap.size + 1 by simp] at this
    exact this.alloc _
  have h3 : wa.heap[w.heap.size + 2]? = some (.cells #[.slice none 0 0, .map (some w.heap.size), .map (some (w.heap.size + 1))] tBooks (0, 0)) := by
    rw [hA]
    have := heap_new ((w.alloc (.map #[] 0)).alloc (.map #[] 0)) (.cells #[.slice none 0 0, .map (some w.heap.size), .map (some (w.heap.size + 1))] tBooks)
    rwa [show ((w.alloc (.map #[] 0)).alloc (.map #[] 0)).heap.size = w.heap.size + 2 by simp] at this
  have HR := Lib.hid (show Bw w.heap.size wa (w.heap.size + 2) w.heap.size (w.heap.size + 1) (.slice none 0 0) [] from ⟨h3, World.ownsRow_nil _ _ _ _, ⟨[], h1, Nat.le_refl _, fun e h => by cases h⟩, ⟨[], h2, Nat.zero_le _, fun _ _ => rfl⟩, by omega, by omega, fun j h => (by cases h), fun p h => (by cases h)⟩)
  have HA := Lib.hid hA; have HB := Lib.hid hB
  clear hA hB h1 h2 h3
  go_enter Tryd.func30, Tryd.ntmps30
  go_wp2_with fail
  rw [← HA.out]
  go_ret
  exact ⟨_, _, _, rfl, HR.out, HB.out⟩
set_option linter.unusedSimpArgs false in
set_option linter.unusedVariables false in
set_option maxRecDepth 100000 in
set_option maxHeartbeats 8000000 in
theorem cnone_any {B : Nat} {w : World} {cb bb pm bm : Nat} {vl vb vI : Value} {c : Cor} (h : Cw B w cb bb pm bm vl vb vI c) : Calls Tryd.prog 14 #[.pointer (some ⟨cb, 0, none⟩)] w fun e w' => e = .returned (.bool false) ∧ w = w' := by
  obtain ⟨c0, c1⟩ := h.c01
  go_enter Tryd.func14, Tryd.ntmps14
  go_wp2_with fail
  go_ret
  exact ⟨rfl, rfl⟩
set_option linter.unusedSimpArgs false in
set_option linter.unusedVariables false in
set_option maxRecDepth 100000 in
set_option maxHeartbeats 8000000 in
theorem cnew_any (w : World) : Calls Tryd.prog 12 #[] w fun e w' => ∃ cb bb pm bm, e = .returned (.pointer (some ⟨cb, 0, none⟩)) ∧ Cw w.heap.size w' cb bb pm bm (.slice none 0 0) (.slice none 0 0) vIn0 nilC ∧ Below w.heap.size w w' := by
  go_enter Tryd.func12, Tryd.ntmps12
  go_wp2_with fail
  refine (bnew_any w).mono ?_
  rintro e w1 ⟨bb, pm, bm, rfl, hb, hbl⟩
  obtain ⟨wa, hA⟩ : ∃ wa, wa = w1.alloc (.cells #[.slice none 0 0, .pointer (some ⟨bb, 0, none⟩), .int .i64 0, .int .i64 0, .slice none 0 0, .int .i64 0, .int .i64 0, .slice none 0 0, .int .i64 0, .int .i64 0, .slice none 0 0, .map none] tCore) := ⟨_, rfl⟩
  have hba : Below w1.heap.size w1 wa := by rw [hA]; exact below_alloc _ _
  have hx : wa.heap[w1.heap.size]? = some (.cells #[.slice none 0 0, .pointer (some ⟨bb, 0, none⟩), .int .i64 0, .int .i64 0, .slice none 0 0, .int .i64 0, .int .i64 0, .slice none 0 0, .int .i64 0, .int .i64 0, .slice none 0 0, .map none] tCore (0, 0)) := by rw [hA]; exact heap_new _ _
  have hl := hb.lt
  have HR := Lib.hid (show Cw w.heap.size wa w1.heap.size bb pm bm (.slice none 0 0) (.slice none 0 0) vIn0 nilC from ⟨hx, World.ownsRow_nil _ _ _ _, hb.below hba, InP.nil _, In.Fine.nil, fun j _ => Av.nil j, hbl.size, ⟨by omega, by omega, by omega, by simp [Value.ownBlock]⟩, fun j h => by cases h⟩)
  have HB := Lib.hid (bch hbl hba hbl.size); have HA := Lib.hid hA
  clear hA hba hx hb hbl
  go_wp2_with fail
  rw [← HA.out]
  go_ret
  exact ⟨_, _, _, _, rfl, HR.out, HB.out⟩
set_option linter.unusedSimpArgs false in
set_option linter.unusedVariables false in
set_option maxRecDepth 100000 in
set_option maxHeartbeats 8000000 in
theorem cbal_any {B : Nat} {w : World} {cb bb pm bm : Nat} {vl vb vI : Value} {c : Cor} (h : Cw B w cb bb pm bm vl vb vI c) (a o : Int) (ha : -9223372036854775808 ≤ a ∧ a ≤ 9223372036854775807) (ho : -9223372036854775808 ≤ o ∧ o ≤ 9223372036854775807) :
    Calls Tryd.prog 13 #[.pointer (some ⟨cb, 0, none⟩), .int .i64 a, .int .i64 o] w fun e w' => e = .returned (.int .i64 (balI c.b a o)) ∧ w = w' := by
  obtain ⟨c0, c1⟩ := h.c01
  have HC := Lib.hid h
  clear h
  go_enter Tryd.func13, Tryd.ntmps13
  go_wp2_with (first
    | (go_at_call 14; refine (cnone_any HC.out).mono ?_; rintro e w1 ⟨rfl, hb⟩; subst hb)
    | (go_at_call 23; refine (bbal_any HC.out.bk a o ha ho).mono ?_; rintro e w1 ⟨rfl, hb⟩; subst hb))
  go_ret
  exact ⟨rfl, rfl⟩
set_option linter.unusedSimpArgs false in
set_option linter.unusedVariables false in
set_option maxRecDepth 100000 in
set_option maxHeartbeats 8000000 in
theorem corder_any {B : Nat} {w : World} {cb bb pm bm : Nat} {vl vb vI : Value} {c : Cor} (h : Cw B w cb bb pm bm vl vb vI c) (i : Int) (hi : -9223372036854775808 ≤ i ∧ i ≤ 9223372036854775807) (hl : c.l.length ≤ 100000) :
    Calls Tryd.prog 45 #[.pointer (some ⟨cb, 0, none⟩), .int .i64 i] w fun e w' => (∀ s, 1 ≤ i → c.l[i.toNat - 1]? = some s → e = .returned (.tuple #[sgV s, .int .i64 0])) ∧ (i < 1 ∨ (c.l.length : Int) < i → e = .returned (.tuple #[sgV sg0, .int .i64 4])) ∧ Below w.heap.size w w' := by
  obtain ⟨A, cl, rfl, _⟩ := own_slice h.ol
  obtain ⟨wa, hA⟩ : ∃ wa, wa = w.alloc (.cells (sgA sg0) tSaga) := ⟨_, rfl⟩
  have hB : Below w.heap.size w wa := by rw [hA]; exact below_alloc _ _
  have hX : wa.heap[w.heap.size]? = some (.cells (sgA sg0) tSaga (0, 0)) := by rw [hA]; exact heap_new _ _
  have HC := Lib.hid (h.below hB)
  have HA := Lib.hid hA; have HB := Lib.hid hB; have HX := Lib.hid hX
  clear hA hB hX h
  obtain ⟨c0, c1⟩ := HC.out.c01
  obtain ⟨m0, m1, m2, m3, m4, m5, m6, m7, m8, m9, m10, m11⟩ := cell12 HX.out
  obtain ⟨f0, f1, f2, f3, f4, f5, f6, f7, f8, f9, f10, f11⟩ := froz12 HX.out
  by_cases hno : i < 1 ∨ (c.l.length : Int) < i
  · have hsp : i < 1 ∨ (1 ≤ i ∧ (c.l.length : Int) < i) := by omega
    rcases hsp with hi1 | ⟨hi1, hi2⟩
    · have hi1' := decide_eq_true hi1
      go_enter Tryd.func45, Tryd.ntmps45
      go_upto_region 1 with (fail)
      rw [← HA.out]
      go_wp2_with (go_at_call 14; refine (cnone_any HC.out).mono ?_; rintro e w1 ⟨rfl, hb⟩; subst hb)
      refine bodyPost_ret (v := .tuple #[sgV sg0, .int .i64 4]) (by simp [results, Tryd.results45, go_sem, m0, m1, m2, m3, m4, m5, m6, m7, m8, m9, m10, m11]) rfl ⟨fun s h1 h2 => absurd (List.getElem?_eq_some_iff.1 h2).1 (by omega), fun _ => rfl, ?_⟩
      exact Below.turned HB.out (turned_set12 wa w.heap.size _ _ _ _ _ _ _ _ _ _ _ _) (fun i h => by omega) HB.out.size
    · have hi1' := decide_eq_true hi1
      go_enter Tryd.func45, Tryd.ntmps45
      go_upto_region 1 with (fail)
      rw [← HA.out]
      go_wp2_with (go_at_call 14; refine (cnone_any HC.out).mono ?_; rintro e w1 ⟨rfl, hb⟩; subst hb)
      refine bodyPost_ret (v := .tuple #[sgV sg0, .int .i64 4]) (by simp [results, Tryd.results45, go_sem, m0, m1, m2, m3, m4, m5, m6, m7, m8, m9, m10, m11]) rfl ⟨fun s h1 h2 => absurd (List.getElem?_eq_some_iff.1 h2).1 (by omega), fun _ => rfl, ?_⟩
      exact Below.turned HB.out (turned_set12 wa w.heap.size _ _ _ _ _ _ _ _ _ _ _ _) (fun i h => by omega) HB.out.size
  · have hi1 : 1 ≤ i := by omega
    have hi2 : i ≤ c.l.length := by omega
    have hi1' : ¬ i < 1 := by omega
    obtain ⟨s, hs⟩ : ∃ s, c.l[i.toNat - 1]? = some s := ⟨_, List.getElem?_eq_getElem (by omega)⟩
    obtain ⟨g, off, n', c', e, d0, d1, d2, d3, d4, d5, d6, d7, d8, d9, d10, d11⟩ := (sgs_own HC.out.ol).cells (Below.refl _ _) hs
    injection e with e1 e2 e3; subst e1; clear e2 e3
    obtain ⟨k, rfl⟩ : ∃ k : Nat, i = (k : Int) + 1 := ⟨(i - 1).toNat, by omega⟩
    have hk0 : (0 : Int) ≤ k := by omega
    have hkl : (k : Int) < c.l.length := by omega
    have hw1 : IntKind.i64.wrap ((k : Int) + 1 - 1) = k := by rw [show (k : Int) + 1 - 1 = k by omega]; exact IntWalk.i64_in _ (by omega)
    rw [show ((k : Int) + 1).toNat - 1 = k by omega] at hs d0 d1 d2 d3 d4 d5 d6 d7 d8 d9 d10 d11
    have HS := Lib.hid hs
    clear hs
    go_enter Tryd.func45, Tryd.ntmps45
    go_upto_region 1 with (fail)
    rw [← HA.out]
    go_wp2_with (go_at_call 14; refine (cnone_any HC.out).mono ?_; rintro e w1 ⟨rfl, hb⟩; subst hb)
    refine bodyPost_ret (v := .tuple #[sgV s, .int .i64 0]) (by simp [results, Tryd.results45, go_sem, m0, m1, m2, m3, m4, m5, m6, m7, m8, m9, m10, m11]) rfl ⟨fun t h1 h2 => ?_, fun h => by omega, ?_⟩
    · rw [show ((k : Int) + 1).toNat - 1 = k by omega, HS.out] at h2
      rw [Option.some.inj h2]
    · exact Below.turned HB.out (turned_set12 wa w.heap.size _ _ _ _ _ _ _ _ _ _ _ _) (fun i h => by omega) HB.out.size
end Go.Proofs.YtnfbhocppijbjaaDoor

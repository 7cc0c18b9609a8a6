/- 'm[k] op= v' at a map that is known as a list of entries: the entry, then the store. Of no program. -/
import Derived.Test.YtkmpagijdhhinaaDoorMapL
import Derived.WideKeyEntry
namespace Go.Proofs.YtkmpagijdhhinaaDoor
open Go.Maps Go.WideShapes Go.WideElems Go.MapKept Go.ChangeMaps
open Go.WideMaps (KeyLaw)

section
variable {P : Program} {k : TypeId} {κ α : Type} {mkK : κ → Value} {mkV : α → Value}

theorem MapL.entry [DecidableEq κ] {t e : TypeId} {w : World} {b : Nat} {E : List (κ × α)} (h : MapL P k mkK mkV w b E) (KL : KeyLaw P k) (ht : P.underlying t = some (.map k e)) {z : Value} (hz : ∀ u : World, (zeroValue e).run P u = .ok z u) (hn : E.length < maxLen) {x : κ} {l : Lit} (hx : keyOf P k (mkK x) = some l) (inj : ∀ y, mkK y = mkK x → y = x) :
    ∃ (v0 : Value) (st : Nat) (w1 : World), (Instr.mapEntry t (.map (some b)) (mkK x)).run P w = .ok (.tuple #[v0, goInt st]) w1 ∧ w.grownBy w1 (some b) ∧ w1.heap.size = w.heap.size ∧
      ∀ (w2 : World) (v : α), w2.heap[b]? = w1.heap[b]? → ∃ w3, (Instr.entryStore t (.map (some b)) (goInt st) (mkV v)).run P w2 = .ok () w3 ∧ MapL P k mkK mkV w3 b ((x, v) :: without E x) ∧ w2.grownBy w3 (some b) ∧ w3.heap.size = w2.heap.size := by
  have K := Keyed.of_law KL
  have hs := fun v => h.store K ht hn hx inj v
  obtain ⟨⟨D, ⟨es, clock, hb, F, hsz, hD⟩, hp⟩, h3, h4⟩ := h
  obtain ⟨v0, st, es1, clock1, hrun, _, hstore⟩ := entry_then_store KL ht hz hb F hx
  refine ⟨v0, st, _, hrun, ⟨rfl, rfl, rfl, by simp [setBlock], fun i _ hi => heap_setBlock_other hb _ (fun e => hi (by rw [e]))⟩, by simp [setBlock], fun w2 v hw2 => ?_⟩
  have hb1 : w2.heap[b]? = some (.map es1 clock1) := hw2.trans (heap_setBlock_same hb _)
  obtain ⟨es', clock', h1, h2⟩ := hstore w2 (mkV v) hb1
  obtain ⟨w', hr, hm, _⟩ := hs v
  rw [h2] at hr
  injection hr with _ hr
  subst hr
  refine ⟨_, h1, hm.block ?_, ⟨rfl, rfl, rfl, by simp [setBlock], fun i _ hi => heap_setBlock_other hb1 _ (fun e => hi (by rw [e]))⟩, by simp [setBlock]⟩
  rw [heap_setBlock_same hb1, heap_setBlock_same hb]

/-- What stands at the key is the same behind the entry. -/
theorem MapL.entry_look [DecidableEq κ] {t e : TypeId} {w w1 : World} {b : Nat} {E : List (κ × α)} (h : MapL P k mkK mkV w b E) (KL : KeyLaw P k) (ht : P.underlying t = some (.map k e)) {z : α} (hz : ∀ u : World, (zeroValue e).run P u = .ok (mkV z) u) (hn : E.length < maxLen) {x : κ} {l : Lit} (hx : keyOf P k (mkK x) = some l) (inj : ∀ y, mkK y = mkK x → y = x) {r V : Value}
    (hrun : (Instr.mapEntry t (.map (some b)) (mkK x)).run P w = .ok r w1) (hV : (Instr.lookup t (.map (some b)) (mkK x) false).run P w = .ok V w) : (Instr.lookup t (.map (some b)) (mkK x) false).run P w1 = .ok V w1 := by
  have K := Keyed.of_law KL
  have hs := h.store K ht hn hx inj z
  obtain ⟨⟨D, ⟨es, clock, hb, F, hsz, hD⟩, hp⟩, h3, h4⟩ := h
  rcases KL.find w hx es.toList F.keys with ⟨h1, h2⟩ | ⟨j, e0, h1, h2, h5⟩
  · have hE : (Instr.mapEntry t (.map (some b)) (mkK x)).run P w = .ok (.tuple #[mkV z, goInt clock]) (setBlock w b (.map (es.push ⟨mkK x, mkV z, clock⟩) (clock + 1))) := by
      simp [Instr.mapEntry, run_underlying ht, MapKept.run_getObj_map hb, KL.check w false hx, h1, hz, MapKept.run_setObj_map _ hb, Result.andThen, setBlock]
    have hU : (Instr.mapUpdate t (.map (some b)) (mkK x) (mkV z)).run P w = .ok () (setBlock w b (.map (es.push ⟨mkK x, mkV z, clock⟩) (clock + 1))) := by
      simp [Instr.mapUpdate, run_underlying ht, MapKept.run_getObj_map hb, KL.check w false hx, h1, MapKept.run_setObj_map _ hb, Result.andThen, setBlock]
    have hL : (Instr.lookup t (.map (some b)) (mkK x) false).run P w = .ok (mkV z) w := by
      simp [Instr.lookup, run_underlying ht, MapKept.run_getObj_map hb, KL.check w es.isEmpty hx, h1, hz, Result.andThen]
    have hrun := (Result.ok.inj (hE.symm.trans hrun)).2
    have hV := (Result.ok.inj (hL.symm.trans hV)).1
    obtain ⟨w', hr, hm, _⟩ := hs
    have hr := (Result.ok.inj (hU.symm.trans hr)).2
    have hww := hr.symm.trans hrun
    clear hr hrun hE hU
    subst hww
    subst hV
    rcases hm.look K ht (hz _) hx inj with ⟨v, hv, _, hr1⟩ | ⟨hno, _, _⟩
    · rcases List.mem_cons.1 hv with e1 | hv
      · have e1 := (Prod.mk.inj e1).2
        subst e1
        exact hr1
      · exact absurd rfl (mem_without.1 hv).2
    · exact absurd rfl (hno _ (List.mem_cons_self ..))
  · have hj : es[j]? = some e0 := by simpa using h2
    have hsame : es.modify j (fun e => { e with key := mkK x }) = es := by
      apply Array.ext'
      rw [Array.toList_modify, modify_eq_set _ _ _ _ h2]
      have : ({ e0 with key := mkK x } : MapEntry) = e0 := by rw [← h5]
      rw [this]
      exact set_self _ _ _ h2
    have hE : (Instr.mapEntry t (.map (some b)) (mkK x)).run P w = .ok (.tuple #[e0.val, goInt e0.born]) (setBlock w b (.map es clock)) := by
      simp [Instr.mapEntry, run_underlying ht, MapKept.run_getObj_map hb, KL.check w false hx, h1, hj, h5, KL.stays w hx, hsame, MapKept.run_setObj_map _ hb, Result.andThen, setBlock]
    have hrun := (Result.ok.inj (hE.symm.trans hrun)).2
    have hw : setBlock w b (.map es clock) = w := by
      unfold setBlock
      obtain ⟨hlt, he⟩ := Array.getElem?_eq_some_iff.1 hb
      rw [show w.heap.setIfInBounds b (.map es clock) = w.heap by
        apply Array.ext'
        rw [Array.toList_setIfInBounds]
        exact set_self _ _ _ (by simpa using hb)]
    rw [hw] at hrun
    subst hrun
    exact hV

/-- What a store at the entry does. -/
def EntryAt (P : Program) (k : TypeId) (mkK : κ → Value) (mkV : α → Value) (t : TypeId) (b st : Nat) (w1 : World) (E : List (κ × α)) (x : κ) : Prop :=
  ∀ (w2 : World) (v : α), w2.heap[b]? = w1.heap[b]? → ∃ w3, (Instr.entryStore t (.map (some b)) (goInt st) (mkV v)).run P w2 = .ok () w3 ∧ MapL P k mkK mkV w3 b ((x, v) :: E) ∧ w2.grownBy w3 (some b) ∧ w3.heap.size = w2.heap.size

variable (w : World) {ops : Array Oper} {rest : List Oper} {o : Oper} {a : Act} {Q : Exit → Act → World → Prop}
theorem wpList_entryL [DecidableEq κ] (hg : o.guard = none) (m x : Operand) (t : TypeId) (hop : o.op = Op.mapEntry t m x) (k e : TypeId) (KL : KeyLaw P k) (ht : P.underlying t = some (.map k e)) {z : Value} (hz : ∀ u : World, (zeroValue e).run P u = .ok z u) (b : Nat) (E : List (κ × α))
    (hm : a.eval m = .map (some b)) (h : MapL P k mkK mkV w b E) (hn : E.length < maxLen) (key : κ) (hx : a.eval x = mkK key) {l : Lit} (hkey : keyOf P k (mkK key) = some l) (inj : ∀ y, mkK y = mkK key → y = key)
    (hK : ∀ (v0 : Value) (st : Nat) (w1 : World), (Instr.mapEntry t (.map (some b)) (mkK key)).run P w = .ok (.tuple #[v0, goInt st]) w1 → EntryAt P k mkK mkV t b st w1 (without E key) key → w.grownBy w1 (some b) → w1.heap.size = w.heap.size → wpList P ops Q rest (a.put o.dst (.tuple #[v0, .int .i64 st])) w1) : wpList P ops Q (o :: rest) a w := by
  refine wpList_plain hg fun K' hK' => ?_
  obtain ⟨v0, st, w1, hrun, h1, h2, h3⟩ := h.entry KL ht hz hn hkey inj
  unfold Oper.wp
  simp [execOp, hop, hm, hx, hrun, Result.andThen]
  exact hK' _ _ (hK v0 st w1 hrun h3 h1 h2)
theorem wpList_entryStoreL (hg : o.guard = none) (m s x : Operand) (t k : TypeId) (hop : o.op = Op.entryStore t m s x) (b st : Nat) (w1 : World) (E : List (κ × α)) (key : κ) (hm : a.eval m = .map (some b)) (hs : a.eval s = .int .i64 st) (v : α) (hx : a.eval x = mkV v) (h : EntryAt P k mkK mkV t b st w1 E key) (hb : w.heap[b]? = w1.heap[b]?)
    (hK : ∀ w3, MapL P k mkK mkV w3 b ((key, v) :: E) → w.grownBy w3 (some b) → w3.heap.size = w.heap.size → wpList P ops Q rest (a.put o.dst undef) w3) : wpList P ops Q (o :: rest) a w := by
  refine wpList_plain hg fun K' hK' => ?_
  obtain ⟨w3, hrun, h1, h2, h3⟩ := h w v hb
  have hrun' : (Instr.entryStore t (.map (some b)) (.int .i64 st) (mkV v)).run P w = .ok () w3 := hrun
  unfold Oper.wp
  simp [execOp, hop, hm, hs, hx, hrun', Result.andThen]
  exact hK' _ _ (hK w3 h1 h2 h3)
end
end Go.Proofs.YtkmpagijdhhinaaDoor

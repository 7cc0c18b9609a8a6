/- Ranges over a map, known as a list of entries, within a fence. Of no program. -/
import Derived.Test.YtkmpagijdhhinaaDoorMapL
import Derived.Sort.MapsRangeIn
import Derived.RangeFuncSeq
import Derived.RangeFuncGives
namespace Go.Proofs.YtkmpagijdhhinaaDoor
open Go.Maps

section
variable {P : Program} {k : TypeId} {κ α : Type} {mkK : κ → Value} {mkV : α → Value}
theorem RangeL.of_walks {w w' : World} {b r : Nat} {E done : List (κ × α)} {cnt : Nat} (h : RangeL P k mkK mkV w b r E done cnt) (hk : KeepsWalks w w') : RangeL P k mkK mkV w' b r E done cnt := by
  obtain ⟨⟨D, left, h1, h2⟩, h3, h4, h5, h6⟩ := h
  exact ⟨⟨D, left, h1.of_walks hk, h2⟩, h3, h4, h5, h6⟩
theorem RangeL.iter_walk {w : World} {b r : Nat} {E done : List (κ × α)} {cnt : Nat} (h : RangeL P k mkK mkV w b r E done cnt) : ∃ o : Obj, w.heap[r]? = some o ∧ o.isWalk = true := by
  obtain ⟨⟨D, left, h1, _⟩, _⟩ := h
  exact h1.iter_walk

variable {F : Fence} {n : Nat} (w : World) {ops : Array Oper} {rest : List Oper} {o : Oper} {a : Act} {Q : Exit → Act → World → Prop}

theorem wpListIn_rangeL (hg : o.guard = none) (m : Operand) (t : TypeId) (hop : o.op = Op.range t m) (k e : TypeId) (K : Keyed P k) (ht : P.underlying t = some (.map k e)) (b : Nat) (E : List (κ × α))
    (hm : a.eval m = .map (some b)) (h : MapL P k mkK mkV w b E)
    (hK : ∀ w' cnt, RangeL P k mkK mkV w' b w.heap.size E [] cnt → w.grownBy w' none → w'.heap.size = w.heap.size + 1 → wpListIn F n P ops Q rest (a.put o.dst (.pointer (some ⟨w.heap.size, 0, none⟩))) w') : wpListIn F n P ops Q (o :: rest) a w := by
  refine wpListIn_plain hg fun K' hK' => ?_
  obtain ⟨w', cnt, hrun, r1, r2, r3⟩ := h.range K ht
  unfold Oper.wpIn
  refine ⟨by simp [Oper.about, hop], ?_⟩
  rw [Oper.semAt_plain F _ _ (by rw [hop]; intro c hc'; cases hc')]
  simp [execOp, hop, hm, hrun, Result.andThen]
  exact hK' _ _ (hK w' cnt r1 r2 r3)

theorem wpListIn_nextL (hg : o.guard = none) (it : Operand) (hop : o.op = Op.next it false) (k : TypeId) (K : Keyed P k) (b r : Nat) (E done : List (κ × α)) (cnt : Nat)
    (hit : a.eval it = .pointer (some ⟨r, 0, none⟩)) (h : RangeL P k mkK mkV w b r E done cnt)
    (hDone : done.Perm E → wpListIn F n P ops Q rest (a.put o.dst (.tuple #[.bool false])) w)
    (hMore : ∀ x v w' cnt', (x, v) ∈ E → (x, v) ∉ done → RangeL P k mkK mkV w' b r E (done ++ [(x, v)]) cnt' → cnt' < cnt → w.grownBy w' (some r) → w'.heap.size = w.heap.size →
      (Instr.entry (.pointer (some ⟨r, 0, none⟩))).run P w' = .ok (.tuple #[mkK x, mkV v]) w' → wpListIn F n P ops Q rest (a.put o.dst (.tuple #[.bool true, mkK x, mkV v])) w') : wpListIn F n P ops Q (o :: rest) a w := by
  refine wpListIn_plain hg fun K' hK' => ?_
  unfold Oper.wpIn
  refine ⟨by simp [Oper.about, hop], ?_⟩
  rw [Oper.semAt_plain F _ _ (by rw [hop]; intro c hc'; cases hc')]
  rcases h.next K o.type with ⟨hl, hrun⟩ | ⟨x, v, w', cnt', h1, h2, hrun, h3, h4, h5, h6, h7⟩
  · simp [execOp, hop, hit, hrun, Result.andThen]
    exact hK' _ _ (hDone hl)
  · simp [execOp, hop, hit, hrun, Result.andThen]
    exact hK' _ _ (hMore x v w' cnt' h1 h2 h3 h4 h5 h6 h7)
end
end Go.Proofs.YtkmpagijdhhinaaDoor

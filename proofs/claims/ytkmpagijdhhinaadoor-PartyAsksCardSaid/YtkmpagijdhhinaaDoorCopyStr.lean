/- copy from a text into an array's bytes. Of no program. -/
import Derived.Laws.IdiomCopy
import Derived.Deep.AppendSrc
import Derived.Tactics
import Derived.Below
namespace Go.Proofs.YtkmpagijdhhinaaDoor

theorem run_copy_text {P : Program} (w : World) (dT sT ty elem : TypeId) (b o dLen dCap : Nat) (s : ByteArray) (hu : P.underlying dT = some (.slice elem)) (hs : (P.info? elem).map (·.size) = some 1) (hn : s.size ≤ dLen)
    (hc : ∀ j, j < s.size → (w.cell? ⟨b, o + j, none⟩).isSome = true) (hf : ∀ j, j < s.size → w.frozen? ⟨b, o + j, none⟩ = false) :
    (Builtin.copy_ #[dT, sT] ty #[.slice (some ⟨b, o, none⟩) dLen dCap, .string s]).run P w = .ok (goInt s.size) (w.setCells b o (byteCells s)) := by
  have hl : (byteCells s).length = s.size := byteCells_length s
  have h1 : ∀ v ∈ byteCells s, v.oneCell' = true := fun v hv => by
    obtain ⟨_, _, rfl⟩ := List.mem_map.1 hv
    rfl
  have hst := run_storeCells_cells (P := P) b o (byteCells s) 0 w (by rw [hl]; simpa using hc) (by rw [hl]; simpa using hf) h1
  have hfc := firstCells_string (P := P) s w
  cases hq : P.info? elem with
  | none => simp [hq] at hs
  | some i =>
    have hi : i.size = 1 := by simpa [hq] using hs
    simp only [Nat.add_zero] at hst
    simp [Builtin.copy_, run_underlying hu, Builtin.lenOf, sizeOf, typeInfo, hq, hi, Nat.min_eq_left hn, hfc, hst]

theorem wpList_copy_text {P : Program} {w : World} {ops : Array Oper} {rest : List Oper} {o : Oper} {a : Act} {Q : Exit → Act → World → Prop} (hgd : o.guard = none) (d s : Operand) (dT sT : TypeId)
    (ho : o.op = .call { callee := .builtin .copy, args := #[d, s], argTypes := #[dT, sT] }) (elem : TypeId) (hu : P.underlying dT = some (.slice elem)) (hsz : (P.info? elem).map (·.size) = some 1)
    (b off dLen dCap : Nat) (t : ByteArray) (hd : a.eval d = .slice (some ⟨b, off, none⟩) dLen dCap) (hs : a.eval s = .string t) (hn : t.size ≤ dLen)
    (hc : ∀ j, j < t.size → (w.cell? ⟨b, off + j, none⟩).isSome = true) (hf : ∀ j, j < t.size → w.frozen? ⟨b, off + j, none⟩ = false)
    (h : wpList P ops Q rest (a.put o.dst (goInt t.size)) (w.setCells b off (byteCells t))) : wpList P ops Q (o :: rest) a w := by
  refine wpList_plain hgd fun K hK => ?_
  have hrun := run_copy_text (P := P) w dT sT o.type elem b off dLen dCap t hu hsz hn hc hf
  unfold Oper.wp
  simp [execOp, ho, resolve, invoke, builtin, hd, hs, hrun, Result.andThen]
  exact hK _ _ h

open Go.RowKit in
theorem below_setCells {B : Nat} {a w : World} (h : Below B a w) {b : Nat} (hb : B ≤ b) : ∀ (cs : List Value) (o : Nat), Below B a (w.setCells b o cs) := by
  intro cs
  induction cs generalizing w with
  | nil => intro o; exact h
  | cons c cs ih =>
    intro o
    rw [World.setCells]
    exact ih (h.setCell (p := ⟨b, o, none⟩) hb _) _
end Go.Proofs.YtkmpagijdhhinaaDoor

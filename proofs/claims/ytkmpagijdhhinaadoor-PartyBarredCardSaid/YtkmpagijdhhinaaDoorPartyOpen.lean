/- What the laws of parties are handed: messages, firms, orders. -/
import Derived.Test.YtkmpagijdhhinaaDoorOpenK
namespace Go.Proofs.YtkmpagijdhhinaaDoor
open Go.RowKit Go.ChangeShapes Go.WideShapes Go.Deep Go.Joins

/-- A message, as a caller hands it over. -/
def IsMsg (cs : List Value) (x : Int × (Int × Int) × List UInt8 × Int × Int × Int) : Prop :=
  cs = [.int .i64 x.1, .int .i64 x.2.1.1, .int .i64 x.2.1.2, .string ⟨x.2.2.1.toArray⟩, .int .i64 x.2.2.2.1, .int .i64 x.2.2.2.2.1, .int .i64 x.2.2.2.2.2]
def IsFirm (cs : List Value) (x : Int × Int × Int) : Prop := cs = [.int .i64 x.1, .int .i64 x.2.1, .int .i64 x.2.2]
def IsOrder (cs : List Value) (x : Int × List UInt8 × List UInt8 × Int × Int) : Prop :=
  cs = [.int .i64 x.1, .string ⟨x.2.1.toArray⟩, .string ⟨x.2.2.1.toArray⟩, .int .i64 x.2.2.2.1, .int .i64 x.2.2.2.2] ∧ (-9223372036854775808 ≤ x.1 ∧ x.1 ≤ 9223372036854775807) ∧ (-9223372036854775808 ≤ x.2.2.2.1 ∧ x.2.2.2.1 ≤ 9223372036854775807) ∧ (-9223372036854775808 ≤ x.2.2.2.2 ∧ x.2.2.2.2 ≤ 9223372036854775807)
section
variable {H : Type} {enc : TypeId × Value → H}
theorem opens_msg : Opens enc Tryd.prog 35 (Int × (Int × Int) × List UInt8 × Int × Int × Int) fun _ _ cs x => IsMsg cs x :=
  (opens_struct Tryd.underlying35 (k := 7) (by kernel_rfl) (opens_cons (k := 1) (by kernel_rfl) (opens_int Tryd.underlying3) (opens_cons (k := 2) (by kernel_rfl) opens_key (opens_cons (k := 1) (by kernel_rfl) (opens_str Tryd.underlying9) (opens_cons (k := 1) (by kernel_rfl) (opens_int Tryd.underlying3) (opens_cons (k := 1) (by kernel_rfl) (opens_int Tryd.underlying2) (opens_cons (k := 1) (by kernel_rfl) (opens_int Tryd.underlying3) opens_nil))))))).imp fun _ _ cs a h => by
    obtain ⟨hl, h0, h1, h2, h3, h4, h5, _⟩ := h
    obtain ⟨x0, x1, x2, x3, x4, x5, x6, rfl⟩ := list7 hl
    simp only [IsKey, List.drop_zero, List.take_succ_cons, List.take_zero, List.drop_succ_cons, List.cons.injEq, and_true] at h0 h1 h2 h3 h4 h5
    exact ⟨(a.1, a.2.1, a.2.2.1, a.2.2.2.1, a.2.2.2.2.1, a.2.2.2.2.2.1), by unfold IsMsg; rw [h0.1, h1.1.1, h1.1.2, h2.1, h3.1, h4.1, h5.1]⟩
theorem opens_firm : Opens enc Tryd.prog 23 (Int × Int × Int) fun _ _ cs x => IsFirm cs x :=
  (opens_struct Tryd.underlying23 (k := 3) (by kernel_rfl) (opens_cons (k := 1) (by kernel_rfl) (opens_int Tryd.underlying3) (opens_cons (k := 1) (by kernel_rfl) (opens_int Tryd.underlying3) (opens_cons (k := 1) (by kernel_rfl) (opens_int Tryd.underlying2) opens_nil)))).imp fun _ _ cs a h => by
    obtain ⟨hl, h0, h1, h2, _⟩ := h
    obtain ⟨x0, x1, x2, rfl⟩ := list3 hl
    simp only [List.drop_zero, List.take_succ_cons, List.take_zero, List.drop_succ_cons, List.cons.injEq, and_true] at h0 h1 h2
    exact ⟨(a.1, a.2.1, a.2.2.1), by unfold IsFirm; rw [h0.1, h1.1, h2.1]⟩
theorem opens_order : Opens enc Tryd.prog 65 (Int × List UInt8 × List UInt8 × Int × Int) fun _ _ cs x => IsOrder cs x :=
  (opens_struct Tryd.underlying65 (k := 5) (by kernel_rfl) (opens_cons (k := 1) (by kernel_rfl) (opens_int Tryd.underlying3) (opens_cons (k := 1) (by kernel_rfl) (opens_str Tryd.underlying9) (opens_cons (k := 1) (by kernel_rfl) (opens_str Tryd.underlying9) (opens_cons (k := 1) (by kernel_rfl) (opens_int Tryd.underlying3) (opens_cons (k := 1) (by kernel_rfl) (opens_int Tryd.underlying2) opens_nil)))))).imp fun _ _ cs a h => by
    obtain ⟨hl, h0, h1, h2, h3, h4, _⟩ := h
    obtain ⟨x0, x1, x2, x3, x4, rfl⟩ := list5 hl
    simp only [List.drop_zero, List.take_succ_cons, List.take_zero, List.drop_succ_cons, List.cons.injEq, and_true] at h0 h1 h2 h3 h4
    exact ⟨(a.1, a.2.1, a.2.2.1, a.2.2.2.1, a.2.2.2.2.1), by rw [h0.1, h1.1, h2.1, h3.1, h4.1], wf64 h0.2, wf64 h3.2, wf64 h4.2⟩
end
end Go.Proofs.YtkmpagijdhhinaaDoor

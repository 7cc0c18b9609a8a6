/- What the laws of sagas and statements are handed: sagas, statements with their rows, orders. -/
import Derived.Test.YtlfibaijpimocaaDoorOpenK
import Derived.Test.YtlfibaijpimocaaDoorSagaRows
namespace Go.Proofs.YtlfibaijpimocaaDoor
open Go.RowKit Go.ChangeShapes Go.WideShapes Go.Deep Go.Joins Sa

section
variable {H : Type} {enc : TypeId × Value → H} {P : Program}
/-- A slice, and that it has no room where it is nil. -/
theorem opens_sliceN {t e : TypeId} {α : Type} {R : World → Nat → List Value → α → Prop} {k : Nat} (ht : P.underlying t = some (.slice e)) (hk : P.cellsOf e = k) (h0 : 0 < k) (h : Opens enc P e α R) :
    Opens enc P t (List α) fun w B cs L => ∃ v, cs = [v] ∧ SlK w B k (R w B) v L ∧ NilOk v := fun w n cs x B hx hB => by
  obtain ⟨L, v, e1, h1⟩ := opens_slice ht hk h0 h w n cs x B hx hB
  refine ⟨L, v, e1, h1, fun m c e2 => ?_⟩
  rcases open_slice ht hx with ⟨e3, _⟩ | ⟨a, len, cap, m', n', D, Pl, e3, _⟩
  · rw [e1, e2] at e3
    injection e3 with e3
    injection e3 with _ _ e3
  · rw [e1, e2] at e3
    injection e3 with e3
    injection e3 with e3
    cases e3
theorem opens_argN {t e : TypeId} {α : Type} {R : World → Nat → List Value → α → Prop} {k : Nat} {w : World} {r : Reach} {b0 : Nat} {v : Value} {d : DataW H} {p : List MemPlace} (ht : P.underlying t = some (.slice e)) (hk : P.cellsOf e = k) (h0 : 0 < k) (O : Opens enc P e α R)
    (hval : Value.okWide P w r b0 t v) (h : DataW.Trod enc P w 0 (fun _ => true) true t v d p) (hlt : ∀ x ∈ p, x.block < w.heap.size) : ∃ L, SlK w w.heap.size k (R w w.heap.size) v L ∧ NilOk v := by
  obtain ⟨A, n, c, rfl⟩ := okWide_slice ht hval
  obtain ⟨fuel, h⟩ := h
  obtain ⟨L, v', e, hL⟩ := opens_sliceN ht hk h0 O w fuel _ (d, p) w.heap.size h hlt
  have e' : Value.slice A n c = v' := by simpa [Value.cells] using e
  subst e'
  exact ⟨L, hL⟩
def I64 (a : Int) : Prop := -9223372036854775808 ≤ a ∧ a ≤ 9223372036854775807
/-- Six numbers. -/
theorem opens_six {t e : TypeId} (ht : P.underlying t = some (.array 6 e)) (he : P.underlying e = some (.int .i64)) (hk : P.cellsOf t = 6) (hk1 : P.cellsOf e = 1) :
    Opens enc P t (Int × Int × Int × Int × Int × Int) fun _ _ cs x => cs = [.int .i64 x.1, .int .i64 x.2.1, .int .i64 x.2.2.1, .int .i64 x.2.2.2.1, .int .i64 x.2.2.2.2.1, .int .i64 x.2.2.2.2.2] := fun w n cs x B hx hB => by
  obtain ⟨xs, m, _, rfl, hl, hn, hi⟩ := DataW.trod_array ht hx
  rw [hk] at hl
  rw [hk1] at hi
  obtain ⟨x0, x1, x2, x3, x4, x5, rfl⟩ := list6 hl
  have one : ∀ (i : Nat) (u : Value), i < 6 → ((([x0, x1, x2, x3, x4, x5] : List Value).drop (i * 1)).take 1) = [u] → ∃ a, u = .int .i64 a := fun i u h6 hu => by
    have h1 := hi i h6
    rw [hu, List.getElem?_eq_getElem (by omega)] at h1
    obtain ⟨a, e1, _, _⟩ := DataW.trod_int he h1
    injection e1 with e1
    exact ⟨a, e1⟩
  obtain ⟨a0, rfl⟩ := one 0 x0 (by omega) rfl
  obtain ⟨a1, rfl⟩ := one 1 x1 (by omega) rfl
  obtain ⟨a2, rfl⟩ := one 2 x2 (by omega) rfl
  obtain ⟨a3, rfl⟩ := one 3 x3 (by omega) rfl
  obtain ⟨a4, rfl⟩ := one 4 x4 (by omega) rfl
  obtain ⟨a5, rfl⟩ := one 5 x5 (by omega) rfl
  exact ⟨(a0, a1, a2, a3, a4, a5), rfl⟩
end
section
variable {H : Type} {enc : TypeId × Value → H}
/-- An order, as a caller hands it over. -/
def IsOrd (cs : List Value) (x : Int × List UInt8 × List UInt8 × Int × Int) : Prop :=
  cs = [.int .i64 x.1, .string ⟨x.2.1.toArray⟩, .string ⟨x.2.2.1.toArray⟩, .int .i64 x.2.2.2.1, .int .i64 x.2.2.2.2] ∧ I64 x.1 ∧ I64 x.2.2.2.1 ∧ I64 x.2.2.2.2 ∧ x.2.1.length ≤ maxLen ∧ x.2.2.1.length ≤ maxLen
theorem opens_ord : Opens enc Tryd.prog 39 (Int × List UInt8 × List UInt8 × Int × Int) fun _ _ cs x => IsOrd cs x :=
  (opens_struct Tryd.underlying39 (k := 5) (by kernel_rfl) (opens_cons (k := 1) (by kernel_rfl) (opens_int Tryd.underlying3) (opens_cons (k := 1) (by kernel_rfl) (opens_str Tryd.underlying9) (opens_cons (k := 1) (by kernel_rfl) (opens_str Tryd.underlying9) (opens_cons (k := 1) (by kernel_rfl) (opens_int Tryd.underlying3) (opens_cons (k := 1) (by kernel_rfl) (opens_int Tryd.underlying2) opens_nil)))))).imp fun _ _ cs a h => by
    obtain ⟨hl, h0, h1, h2, h3, h4, _⟩ := h
    obtain ⟨x0, x1, x2, x3, x4, rfl⟩ := list5 hl
    simp only [List.drop_zero, List.take_succ_cons, List.take_zero, List.drop_succ_cons, List.cons.injEq, and_true] at h0 h1 h2 h3 h4
    exact ⟨(a.1, a.2.1, a.2.2.1, a.2.2.2.1, a.2.2.2.2.1), by rw [h0.1, h1.1, h2.1, h3.1, h4.1], wf64 h0.2, wf64 h3.2, wf64 h4.2, h1.2, h2.2⟩
def IsSg (cs : List Value) (s : Sg) : Prop := cs = encS s ∧ I64 s.id ∧ I64 s.qty ∧ I64 s.amt
theorem opens_saga : Opens enc Tryd.prog 43 Sg fun _ _ cs x => IsSg cs x :=
  (opens_struct Tryd.underlying43 (k := 12) (by kernel_rfl) (opens_cons (k := 5) (by kernel_rfl) opens_ord (opens_cons (k := 6) (by kernel_rfl) (opens_six Tryd.underlying40 Tryd.underlying3 (by kernel_rfl) (by kernel_rfl)) (opens_cons (k := 1) (by kernel_rfl) (opens_bool Tryd.underlying4) opens_nil)))).imp fun _ _ cs a h => by
    obtain ⟨hl, h0, h1, h2, _⟩ := h
    match cs, hl with
    | [x0, x1, x2, x3, x4, x5, x6, x7, x8, x9, x10, x11], _ =>
      simp only [IsOrd, List.drop_zero, List.take_succ_cons, List.take_zero, List.drop_succ_cons, List.cons.injEq, and_true] at h0 h1 h2
      obtain ⟨⟨rfl, rfl, rfl, rfl, rfl⟩, b0, b1, b2, _⟩ := h0
      obtain ⟨rfl, rfl, rfl, rfl, rfl, rfl⟩ := h1
      subst h2
      exact ⟨⟨a.1.1, a.1.2.1, a.1.2.2.1, a.1.2.2.2.1, a.1.2.2.2.2, a.2.1.1, a.2.1.2.1, a.2.1.2.2.1, a.2.1.2.2.2.1, a.2.1.2.2.2.2.1, a.2.1.2.2.2.2.2, a.2.2.1⟩, rfl, b0, b1, b2⟩
theorem opens_row : Opens enc Tryd.prog 72 R5 fun _ _ cs x => cs = encR x :=
  (opens_struct Tryd.underlying72 (k := 5) (by kernel_rfl) (opens_cons (k := 2) (by kernel_rfl) opens_key (opens_cons (k := 1) (by kernel_rfl) (opens_int Tryd.underlying3) (opens_cons (k := 1) (by kernel_rfl) (opens_int Tryd.underlying2) (opens_cons (k := 1) (by kernel_rfl) (opens_int Tryd.underlying3) opens_nil))))).imp fun _ _ cs a h => by
    obtain ⟨hl, h0, h1, h2, h3, _⟩ := h
    obtain ⟨x0, x1, x2, x3, x4, rfl⟩ := list5 hl
    simp only [IsKey, List.drop_zero, List.take_succ_cons, List.take_zero, List.drop_succ_cons, List.cons.injEq, and_true] at h0 h1 h2 h3
    exact ⟨(a.1, a.2.1, a.2.2.1, a.2.2.2.1), by rw [h0.1.1, h0.1.2, h1.1, h2.1, h3.1]; rfl⟩
/-- A statement, as a caller hands it over. -/
def IsStm (w : World) (B : Nat) (cs : List Value) (x : In.Stm) : Prop := ∃ v, cs = [.int .i64 x.1, .int .i64 x.2.1, v] ∧ I64 x.1 ∧ I64 x.2.1 ∧ SlK w B 5 (fun cs x => cs = encR x) v x.2.2 ∧ NilOk v
theorem opens_stm : Opens enc Tryd.prog 28 In.Stm fun w B cs x => IsStm w B cs x :=
  (opens_struct Tryd.underlying28 (k := 3) (by kernel_rfl) (opens_cons (k := 1) (by kernel_rfl) (opens_int Tryd.underlying3) (opens_cons (k := 1) (by kernel_rfl) (opens_int Tryd.underlying3) (opens_cons (k := 1) (by kernel_rfl) (opens_sliceN Tryd.underlying26 (k := 5) (by kernel_rfl) (by decide) opens_row) opens_nil)))).imp fun w B cs a h => by
    obtain ⟨hl, h0, h1, h2, _⟩ := h
    obtain ⟨x0, x1, x2, rfl⟩ := list3 hl
    simp only [List.drop_zero, List.take_succ_cons, List.take_zero, List.drop_succ_cons, List.cons.injEq, and_true] at h0 h1 h2
    obtain ⟨v, rfl, h3, h4⟩ := h2
    exact ⟨(a.1, a.2.1, a.2.2.1), x2, by rw [h0.1, h1.1], wf64 h0.2, wf64 h1.2, h3, h4⟩
/-- Sagas that came in. -/
theorem sgs_arg {w : World} {v : Value} {l : List Sg} (h : SlK w w.heap.size 12 (fun cs x => IsSg cs x) v l) (hn : NilOk v) : Sgs w v l ∧ ∀ s ∈ l, I64 s.id ∧ I64 s.qty ∧ I64 s.amt := by
  refine ⟨⟨SlK.mono h (Below.refl _ _) (Nat.le_refl _) (fun cs x _ e => e.1), hn⟩, fun s hs => ?_⟩
  obtain ⟨i, hi⟩ := List.getElem?_of_mem hs
  obtain ⟨A, c, rfl, _⟩ := SlK.shape h
  obtain ⟨_, _, _, _, _, _, _, hr⟩ := SlK.at h hi
  exact hr.2
end
end Go.Proofs.YtlfibaijpimocaaDoor

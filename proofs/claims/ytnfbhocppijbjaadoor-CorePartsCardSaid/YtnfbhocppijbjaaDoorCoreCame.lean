/- Arguments that are keys, or bytes. -/
import Derived.Test.YtnfbhocppijbjaaDoorOpenS
import Derived.Test.YtnfbhocppijbjaaDoorSagaRows
import Derived.Test.YtnfbhocppijbjaaDoorCoreOf0
namespace Go.Proofs.YtnfbhocppijbjaaDoor
open Go.RowKit Go.ChangeShapes Go.WideShapes Go.Deep Go.Joins

section
variable {H : Type} {enc : TypeId × Value → H}
theorem wf64 {a : Int} (h : (Lit.int .i64 a).wf = true) : -9223372036854775808 ≤ a ∧ a ≤ 9223372036854775807 := by simpa [Lit.wf, IntKind.min, IntKind.max, IntKind.signed, IntKind.bits] using h
theorem wfu8 {a : Int} (h : (Lit.int .u8 a).wf = true) : 0 ≤ a ∧ a ≤ 255 := by simpa [Lit.wf, IntKind.min, IntKind.max, IntKind.signed, IntKind.bits] using h
def IsKey (cs : List Value) (x : Int × Int) : Prop := cs = [.int .i64 x.1, .int .i64 x.2] ∧ (-9223372036854775808 ≤ x.1 ∧ x.1 ≤ 9223372036854775807) ∧ (-9223372036854775808 ≤ x.2 ∧ x.2 ≤ 9223372036854775807)
def IsByte (cs : List Value) (x : Int) : Prop := cs = [.int .u8 x] ∧ 0 ≤ x ∧ x ≤ 255
theorem opens_key : Opens enc Tryd.prog 26 (Int × Int) fun _ _ cs x => IsKey cs x :=
  (opens_struct Tryd.underlying26 (k := 2) (by kernel_rfl) (opens_cons (k := 1) (by kernel_rfl) (opens_int Tryd.underlying3) (opens_cons (k := 1) (by kernel_rfl) (opens_int Tryd.underlying3) opens_nil))).imp fun _ _ cs a h => by
    obtain ⟨hl, h0, h1, _⟩ := h
    obtain ⟨x0, x1, rfl⟩ := list2 hl
    simp only [List.drop_zero, List.take_succ_cons, List.take_zero, List.drop_succ_cons, List.cons.injEq, and_true] at h0 h1
    exact ⟨(a.1, a.2.1), by rw [h0.1, h1.1], wf64 h0.2, wf64 h1.2⟩
theorem opens_byte : Opens enc Tryd.prog 5 Int fun _ _ cs x => IsByte cs x :=
  (opens_int Tryd.underlying5).imp fun _ _ _ a h => ⟨a, h.1, wfu8 h.2⟩
end
end Go.Proofs.YtnfbhocppijbjaaDoor
/- What the laws of sagas and statements are handed: sagas, statements with their rows, orders. -/
namespace Go.Proofs.YtnfbhocppijbjaaDoor
open Go.RowKit Go.ChangeShapes Go.WideShapes Go.Deep Go.Joins Sa

section
variable {H : Type} {enc : TypeId × Value → H} {P : Program}
/-- A slice, and that it has no room where it is nil. -/
theorem opens_sliceN {t e : TypeId} {α : Type} {R : World → Nat → List Value → α → Prop} {k : Nat} (ht : P.underlying t = some (.slice e)) (hk : P.cellsOf e = k) (h0 : 0 < k) (h : Opens enc P e α R) :
    Opens enc P t (List α) fun w B cs L => ∃ v, cs = [v] ∧ SlK w B k (R w B) v L ∧ NilOk v := fun w n cs x B hx hB => by
  obtain ⟨L, v, e1, h1⟩ := opens_slice ht hk h0 h w n cs x B hx hB
  refine ⟨L, v, e1, h1, fun m c e2 => ?_⟩
  rcases open_slice ht hx with ⟨e3, _⟩ | ⟨a, len, cap, m', n', D, Pl, e3, _⟩
  · rw [e1, e2] at e3
    injection e3 with e3
    injection e3 with _ _ e3
  · rw [e1, e2] at e3
    injection e3 with e3
    injection e3 with e3
    cases e3
theorem opens_argN {t e : TypeId} {α : Type} {R : World → Nat → List Value → α → Prop} {k : Nat} {w : World} {r : Reach} {b0 : Nat} {v : Value} {d : DataW H} {p : List MemPlace} (ht : P.underlying t = some (.slice e)) (hk : P.cellsOf e = k) (h0 : 0 < k) (O : Opens enc P e α R)
    (hval : Value.okWide P w r b0 t v) (h : DataW.Trod enc P w 0 (fun _ => true) true t v d p) (hlt : ∀ x ∈ p, x.block < w.heap.size) : ∃ L, SlK w w.heap.size k (R w w.heap.size) v L ∧ NilOk v := by
  obtain ⟨A, n, c, rfl⟩ := okWide_slice ht hval
  obtain ⟨fuel, h⟩ := h
  obtain ⟨L, v', e, hL⟩ := opens_sliceN ht hk h0 O w fuel _ (d, p) w.heap.size h hlt
  have e' : Value.slice A n c = v' := by simpa [Value.cells] using e
  subst e'
  exact ⟨L, hL⟩
def I64 (a : Int) : Prop := -9223372036854775808 ≤ a ∧ a ≤ 9223372036854775807
/-- Six numbers. -/
theorem opens_six {t e : TypeId} (ht : P.underlying t = some (.array 6 e)) (he : P.underlying e = some (.int .i64)) (hk : P.cellsOf t = 6) (hk1 : P.cellsOf e = 1) :
    Opens enc P t (Int × Int × Int × Int × Int × Int) fun _ _ cs x => cs = [.int .i64 x.1, .int .i64 x.2.1, .int .i64 x.2.2.1, .int .i64 x.2.2.2.1, .int .i64 x.2.2.2.2.1, .int .i64 x.2.2.2.2.2] := fun w n cs x B hx hB => by
  obtain ⟨xs, m, _, rfl, hl, hn, hi⟩ := DataW.trod_array ht hx
  rw [hk] at hl
  rw [hk1] at hi
  obtain ⟨x0, x1, x2, x3, x4, x5, rfl⟩ := list6 hl
  have one : ∀ (i : Nat) (u : Value), i < 6 → ((([x0, x1, x2, x3, x4, x5] : List Value).drop (i * 1)).take 1) = [u] → ∃ a, u = .int .i64 a := fun i u h6 hu => by
    have h1 := hi i h6
    rw [hu, List.getElem?_eq_getElem (by omega)] at h1
    obtain ⟨a, e1, _, _⟩ := DataW.trod_int he h1
    injection e1 with e1
    exact ⟨a, e1⟩
  obtain ⟨a0, rfl⟩ := one 0 x0 (by omega) rfl
  obtain ⟨a1, rfl⟩ := one 1 x1 (by omega) rfl
  obtain ⟨a2, rfl⟩ := one 2 x2 (by omega) rfl
  obtain ⟨a3, rfl⟩ := one 3 x3 (by omega) rfl
  obtain ⟨a4, rfl⟩ := one 4 x4 (by omega) rfl
  obtain ⟨a5, rfl⟩ := one 5 x5 (by omega) rfl
  exact ⟨(a0, a1, a2, a3, a4, a5), rfl⟩
end
section
variable {H : Type} {enc : TypeId × Value → H}
/-- An order, as a caller hands it over. -/
def IsOrd (cs : List Value) (x : Int × List UInt8 × List UInt8 × Int × Int) : Prop :=
  cs = [.int .i64 x.1, .string ⟨x.2.1.toArray⟩, .string ⟨x.2.2.1.toArray⟩, .int .i64 x.2.2.2.1, .int .i64 x.2.2.2.2] ∧ I64 x.1 ∧ I64 x.2.2.2.1 ∧ I64 x.2.2.2.2 ∧ x.2.1.length ≤ maxLen ∧ x.2.2.1.length ≤ maxLen
theorem opens_ord : Opens enc Tryd.prog 24 (Int × List UInt8 × List UInt8 × Int × Int) fun _ _ cs x => IsOrd cs x :=
  (opens_struct Tryd.underlying24 (k := 5) (by kernel_rfl) (opens_cons (k := 1) (by kernel_rfl) (opens_int Tryd.underlying3) (opens_cons (k := 1) (by kernel_rfl) (opens_str Tryd.underlying9) (opens_cons (k := 1) (by kernel_rfl) (opens_str Tryd.underlying9) (opens_cons (k := 1) (by kernel_rfl) (opens_int Tryd.underlying3) (opens_cons (k := 1) (by kernel_rfl) (opens_int Tryd.underlying2) opens_nil)))))).imp fun _ _ cs a h => by
    obtain ⟨hl, h0, h1, h2, h3, h4, _⟩ := h
    obtain ⟨x0, x1, x2, x3, x4, rfl⟩ := list5 hl
    simp only [List.drop_zero, List.take_succ_cons, List.take_zero, List.drop_succ_cons, List.cons.injEq, and_true] at h0 h1 h2 h3 h4
    exact ⟨(a.1, a.2.1, a.2.2.1, a.2.2.2.1, a.2.2.2.2.1), by rw [h0.1, h1.1, h2.1, h3.1, h4.1], wf64 h0.2, wf64 h3.2, wf64 h4.2, h1.2, h2.2⟩
def IsSg (cs : List Value) (s : Sg) : Prop := cs = encS s ∧ I64 s.id ∧ I64 s.qty ∧ I64 s.amt
theorem opens_saga : Opens enc Tryd.prog 51 Sg fun _ _ cs x => IsSg cs x :=
  (opens_struct Tryd.underlying51 (k := 12) (by kernel_rfl) (opens_cons (k := 5) (by kernel_rfl) opens_ord (opens_cons (k := 6) (by kernel_rfl) (opens_six Tryd.underlying49 Tryd.underlying3 (by kernel_rfl) (by kernel_rfl)) (opens_cons (k := 1) (by kernel_rfl) (opens_bool Tryd.underlying4) opens_nil)))).imp fun _ _ cs a h => by
    obtain ⟨hl, h0, h1, h2, _⟩ := h
    match cs, hl with
    | [x0, x1, x2, x3, x4, x5, x6, x7, x8, x9, x10, x11], _ =>
      simp only [IsOrd, List.drop_zero, List.take_succ_cons, List.take_zero, List.drop_succ_cons, List.cons.injEq, and_true] at h0 h1 h2
      obtain ⟨⟨rfl, rfl, rfl, rfl, rfl⟩, b0, b1, b2, _⟩ := h0
      obtain ⟨rfl, rfl, rfl, rfl, rfl, rfl⟩ := h1
      subst h2
      exact ⟨⟨a.1.1, a.1.2.1, a.1.2.2.1, a.1.2.2.2.1, a.1.2.2.2.2, a.2.1.1, a.2.1.2.1, a.2.1.2.2.1, a.2.1.2.2.2.1, a.2.1.2.2.2.2.1, a.2.1.2.2.2.2.2, a.2.2.1⟩, rfl, b0, b1, b2⟩
theorem opens_row : Opens enc Tryd.prog 57 R5 fun _ _ cs x => cs = encR x :=
  (opens_struct Tryd.underlying57 (k := 5) (by kernel_rfl) (opens_cons (k := 2) (by kernel_rfl) opens_key (opens_cons (k := 1) (by kernel_rfl) (opens_int Tryd.underlying3) (opens_cons (k := 1) (by kernel_rfl) (opens_int Tryd.underlying2) (opens_cons (k := 1) (by kernel_rfl) (opens_int Tryd.underlying3) opens_nil))))).imp fun _ _ cs a h => by
    obtain ⟨hl, h0, h1, h2, h3, _⟩ := h
    obtain ⟨x0, x1, x2, x3, x4, rfl⟩ := list5 hl
    simp only [IsKey, List.drop_zero, List.take_succ_cons, List.take_zero, List.drop_succ_cons, List.cons.injEq, and_true] at h0 h1 h2 h3
    exact ⟨(a.1, a.2.1, a.2.2.1, a.2.2.2.1), by rw [h0.1.1, h0.1.2, h1.1, h2.1, h3.1]; rfl⟩
/-- A statement, as a caller hands it over. -/
def IsStm (w : World) (B : Nat) (cs : List Value) (x : In.Stm) : Prop := ∃ v, cs = [.int .i64 x.1, .int .i64 x.2.1, v] ∧ I64 x.1 ∧ I64 x.2.1 ∧ SlK w B 5 (fun cs x => cs = encR x) v x.2.2 ∧ NilOk v
theorem opens_stm : Opens enc Tryd.prog 29 In.Stm fun w B cs x => IsStm w B cs x :=
  (opens_struct Tryd.underlying29 (k := 3) (by kernel_rfl) (opens_cons (k := 1) (by kernel_rfl) (opens_int Tryd.underlying3) (opens_cons (k := 1) (by kernel_rfl) (opens_int Tryd.underlying3) (opens_cons (k := 1) (by kernel_rfl) (opens_sliceN Tryd.underlying27 (k := 5) (by kernel_rfl) (by decide) opens_row) opens_nil)))).imp fun w B cs a h => by
    obtain ⟨hl, h0, h1, h2, _⟩ := h
    obtain ⟨x0, x1, x2, rfl⟩ := list3 hl
    simp only [List.drop_zero, List.take_succ_cons, List.take_zero, List.drop_succ_cons, List.cons.injEq, and_true] at h0 h1 h2
    obtain ⟨v, rfl, h3, h4⟩ := h2
    exact ⟨(a.1, a.2.1, a.2.2.1), x2, by rw [h0.1, h1.1], wf64 h0.2, wf64 h1.2, h3, h4⟩
/-- Sagas that came in. -/
theorem sgs_arg {w : World} {v : Value} {l : List Sg} (h : SlK w w.heap.size 12 (fun cs x => IsSg cs x) v l) (hn : NilOk v) : Sgs w v l ∧ ∀ s ∈ l, I64 s.id ∧ I64 s.qty ∧ I64 s.amt := by
  refine ⟨⟨SlK.mono h (Below.refl _ _) (Nat.le_refl _) (fun cs x _ e => e.1), hn⟩, fun s hs => ?_⟩
  obtain ⟨i, hi⟩ := List.getElem?_of_mem hs
  obtain ⟨A, c, rfl, _⟩ := SlK.shape h
  obtain ⟨_, _, _, _, _, _, _, hr⟩ := SlK.at h hi
  exact hr.2
end
end Go.Proofs.YtnfbhocppijbjaaDoor
/- Entries, as a caller hands them over. -/
namespace Go.Proofs.YtnfbhocppijbjaaDoor
open Go.RowKit Go.ChangeShapes Go.WideShapes Go.Deep Go.Joins Sa Co

section
variable {H : Type} {enc : TypeId × Value → H}
def entV (e : Ent) (v : Value) : List Value := [.int .i64 e.kind, .int .i64 e.o.1, .string ⟨e.o.2.1.toArray⟩, .string ⟨e.o.2.2.1.toArray⟩, .int .i64 e.o.2.2.2.1, .int .i64 e.o.2.2.2.2, .int .i64 e.k.1, .int .i64 e.k.2, .int .i64 e.code, .int .i64 e.s.1, .int .i64 e.s.2.1, v]
/-- The numbers of an entry are numbers. -/
structure EntI (e : Ent) : Prop where
  kd : I64 e.kind
  id : I64 e.o.1
  qt : I64 e.o.2.2.2.1
  am : I64 e.o.2.2.2.2
  ko : I64 e.k.1
  kk : I64 e.k.2
  cd : I64 e.code
  pa : I64 e.s.1
  sq : I64 e.s.2.1
  rf : e.o.2.1.length ≤ maxLen
  sk : e.o.2.2.1.length ≤ maxLen
/-- An entry, as a caller hands it over. -/
def IsEnt (w : World) (B : Nat) (cs : List Value) (e : Ent) : Prop := ∃ v, cs = entV e v ∧ EntI e ∧ SlK w B 5 (fun cs x => cs = encR x) v e.s.2.2 ∧ NilOk v
theorem opens_ent : Opens enc Tryd.prog tEnt Ent fun w B cs e => IsEnt w B cs e :=
  (opens_struct Tryd.underlying31 (k := 12) (by kernel_rfl) (opens_cons (k := 1) (by kernel_rfl) (opens_int Tryd.underlying3) (opens_cons (k := 5) (by kernel_rfl) opens_ord (opens_cons (k := 2) (by kernel_rfl) opens_key (opens_cons (k := 1) (by kernel_rfl) (opens_int Tryd.underlying3) (opens_cons (k := 3) (by kernel_rfl) opens_stm opens_nil)))))).imp fun w B cs a h => by
    obtain ⟨hl, h0, h1, h2, h3, h4, _⟩ := h
    match cs, hl with
    | [x0, x1, x2, x3, x4, x5, x6, x7, x8, x9, x10, x11], _ =>
      simp only [IsOrd, IsKey, IsStm, List.drop_zero, List.take_succ_cons, List.take_zero, List.drop_succ_cons, List.cons.injEq, and_true] at h0 h1 h2 h3 h4
      obtain ⟨⟨rfl, rfl, rfl, rfl, rfl⟩, b0, b1, b2, b3, b4⟩ := h1
      obtain ⟨⟨rfl, rfl⟩, c0, c1⟩ := h2
      obtain ⟨v, ⟨rfl, rfl, rfl⟩, d0, d1, d2, d3⟩ := h4
      exact ⟨⟨a.1, a.2.1, a.2.2.1, a.2.2.2.1, a.2.2.2.2.1⟩, _, by rw [h0.1, h3.1]; rfl, ⟨wf64 h0.2, b0, b1, b2, c0, c1, wf64 h3.2, d0, d1, b3, b4⟩, d2, d3⟩
end
end Go.Proofs.YtnfbhocppijbjaaDoor
/- Entries that came in; are they too great? -/
namespace Go.Proofs.YtnfbhocppijbjaaDoor
open Go.RowKit Go.Maps Key Rw Sa Co

theorem ent_keep {w w' : World} {cs : List Value} {e : Ent} (h : IsEnt w w.heap.size cs e) (hb : Below w.heap.size w w') : IsEnt w' w'.heap.size cs e := by
  obtain ⟨v, hc, hi, hs, hn⟩ := h
  exact ⟨v, hc, hi, SlK.mono hs hb hb.size (fun _ _ _ h => h), hn⟩
/-- An entry that stands in values. -/
structure EntAt (w : World) (v : Value) (e : Ent) : Prop where
  rd : Rd w v e.s.2.2
  nn : EntI e
theorem IsEnt.at {w : World} {cs : List Value} {e : Ent} (h : IsEnt w w.heap.size cs e) : ∃ A c, cs = entV e (.slice A e.s.2.2.length c) ∧ EntAt w (.slice A e.s.2.2.length c) e := by
  obtain ⟨v, hc, hi, hs, hn⟩ := h
  obtain ⟨A, c, rfl, _⟩ := SlK.shape hs
  exact ⟨A, c, hc, ⟨hs, hn⟩, hi⟩
theorem EntAt.below {w w' : World} {v : Value} {e : Ent} (h : EntAt w v e) (hb : Below w.heap.size w w') : EntAt w' v e := ⟨h.rd.keep hb, h.nn⟩
/-- Entries that came in. -/
def Ents (w : World) (v : Value) (l : List Ent) : Prop := SlK w w.heap.size 12 (fun cs e => IsEnt w w.heap.size cs e) v l
theorem Ents.keep {w w' : World} {v : Value} {l : List Ent} (h : Ents w v l) (hb : Below w.heap.size w w') : Ents w' v l := SlK.mono h hb hb.size (fun _ _ _ h => ent_keep h hb)
theorem Ents.cells {w : World} {v : Value} {l : List Ent} (h : Ents w v l) {k : Nat} {e : Ent} (hx : l[k]? = some e) : ∃ g off n c A c', v = .slice (some ⟨g, off, none⟩) n c ∧ g < w.heap.size ∧ EntAt w (.slice A e.s.2.2.length c') e ∧
    ∀ W, Below w.heap.size w W → W.cell? ⟨g, off + k * 12, none⟩ = some (.int .i64 e.kind) ∧ W.cell? ⟨g, off + k * 12 + 1, none⟩ = some (.int .i64 e.o.1) ∧ W.cell? ⟨g, off + k * 12 + 2, none⟩ = some (.string ⟨e.o.2.1.toArray⟩) ∧ W.cell? ⟨g, off + k * 12 + 3, none⟩ = some (.string ⟨e.o.2.2.1.toArray⟩) ∧ W.cell? ⟨g, off + k * 12 + 4, none⟩ = some (.int .i64 e.o.2.2.2.1) ∧ W.cell? ⟨g, off + k * 12 + 5, none⟩ = some (.int .i64 e.o.2.2.2.2) ∧ W.cell? ⟨g, off + k * 12 + 6, none⟩ = some (.int .i64 e.k.1) ∧ W.cell? ⟨g, off + k * 12 + 7, none⟩ = some (.int .i64 e.k.2) ∧ W.cell? ⟨g, off + k * 12 + 8, none⟩ = some (.int .i64 e.code) ∧ W.cell? ⟨g, off + k * 12 + 9, none⟩ = some (.int .i64 e.s.1) ∧ W.cell? ⟨g, off + k * 12 + 10, none⟩ = some (.int .i64 e.s.2.1) ∧ W.cell? ⟨g, off + k * 12 + 11, none⟩ = some (.slice A e.s.2.2.length c') := by
  obtain ⟨A, c, rfl, _⟩ := SlK.shape h
  obtain ⟨g, off, cs, rfl, hgl, hcl, hcell, he⟩ := SlK.at h hx
  obtain ⟨A', c', rfl, hr⟩ := he.at
  exact ⟨g, off, _, _, A', c', rfl, hgl, hr, fun W hb => by
    have hk := fun j u hj => (hb.cell (p := ⟨g, off + k * 12 + j, none⟩) hgl).trans (hcell j u hj)
    exact ⟨hk 0 _ rfl, hk 1 _ rfl, hk 2 _ rfl, hk 3 _ rfl, hk 4 _ rfl, hk 5 _ rfl, hk 6 _ rfl, hk 7 _ rfl, hk 8 _ rfl, hk 9 _ rfl, hk 10 _ rfl, hk 11 _ rfl⟩⟩
namespace Co
def entG (e : Ent) : Bool := decide (200 < e.o.2.1.length) || decide (200 < e.o.2.2.1.length) || decide (100 < e.s.2.2.length)
def entGG (e : Ent) : Bool := entG e || decide (60 < e.s.2.2.length)
def entsG (l : List Ent) (most : Int) : Bool := l.any entGG || decide (most < l.length)
def entsTo (l : List Ent) (k : Nat) : Bool := (l.take k).any entGG
theorem entsTo_succ {l : List Ent} {k : Nat} {e : Ent} (h : l[k]? = some e) : entsTo l (k + 1) = (entsTo l k || entGG e) := by
  unfold entsTo; rw [List.take_add_one, h, List.any_append]; simp
theorem entsG_hit {l : List Ent} {k : Nat} {e : Ent} (h : l[k]? = some e) (hx : entGG e = true) (m : Int) : entsG l m = true := by
  unfold entsG
  rw [List.any_eq_true.2 ⟨e, List.mem_of_getElem? h, hx⟩]
  rfl
theorem entsG_not {l : List Ent} {m : Int} (h : entsG l m = false) : (∀ e ∈ l, e.o.2.1.length ≤ 200 ∧ e.o.2.2.1.length ≤ 200 ∧ e.s.2.2.length ≤ 60) ∧ (l.length : Int) ≤ m := by
  unfold entsG entGG entG at h
  simp only [Bool.or_eq_false_iff, List.any_eq_false, decide_eq_true_eq, decide_eq_false_iff_not, Bool.or_eq_true, not_or] at h
  exact ⟨fun x hx => by have := h.1 x hx; omega, by omega⟩
end Co
set_option linter.unusedSimpArgs false in
set_option linter.unusedVariables false in
set_option maxRecDepth 100000 in
set_option maxHeartbeats 8000000 in
theorem egreat_any (w : World) (e : Ent) (u : Value) (he : EntAt w u e) :
    Calls Tryd.prog 11 #[.agg #[.int .i64 e.kind, .int .i64 e.o.1, .string ⟨e.o.2.1.toArray⟩, .string ⟨e.o.2.2.1.toArray⟩, .int .i64 e.o.2.2.2.1, .int .i64 e.o.2.2.2.2, .int .i64 e.k.1, .int .i64 e.k.2, .int .i64 e.code, .int .i64 e.s.1, .int .i64 e.s.2.1, u]] w fun r w' => r = .returned (.bool (entG e)) ∧ Below w.heap.size w w' := by
  obtain ⟨A, c, rfl, _, hcm⟩ := SlK.shape he.rd.1
  have hn := he.nn.rf; have hn2 := he.nn.sk
  have hr63 : (e.s.2.2.length : Int) ≤ 9223372036854775807 := by unfold maxLen at hcm; omega
  obtain ⟨wa, hA⟩ : ∃ wa, wa = w.alloc (.cells #[.int .i64 e.kind, .int .i64 e.o.1, .string ⟨e.o.2.1.toArray⟩, .string ⟨e.o.2.2.1.toArray⟩, .int .i64 e.o.2.2.2.1, .int .i64 e.o.2.2.2.2, .int .i64 e.k.1, .int .i64 e.k.2, .int .i64 e.code, .int .i64 e.s.1, .int .i64 e.s.2.1, .slice A e.s.2.2.length c] tEnt) := ⟨_, rfl⟩
  have HB := Lib.hid (show Below w.heap.size w wa by rw [hA]; exact below_alloc _ _)
  have HM := Lib.hid (show wa.heap[w.heap.size]? = some (.cells #[.int .i64 e.kind, .int .i64 e.o.1, .string ⟨e.o.2.1.toArray⟩, .string ⟨e.o.2.2.1.toArray⟩, .int .i64 e.o.2.2.2.1, .int .i64 e.o.2.2.2.2, .int .i64 e.k.1, .int .i64 e.k.2, .int .i64 e.code, .int .i64 e.s.1, .int .i64 e.s.2.1, .slice A e.s.2.2.length c] tEnt (0, 0)) by rw [hA]; exact heap_new _ _)
  have HA := Lib.hid hA
  clear hA he
  obtain ⟨m0, m1, m2, m3, m4, m5, m6, m7, m8, m9, m10, m11⟩ := cell12 HM.out
  go_enter Tryd.func11, Tryd.ntmps11
  go_upto_region 1 with (fail)
  rw [← HA.out]
  by_cases h1 : 200 < e.o.2.1.length
  · have q1 : (200 : Int) < e.o.2.1.length := by omega
    have HF := Lib.hid (show entG e = true by unfold entG; rw [decide_eq_true h1]; rfl)
    go_wp2_with fail
    go_ret
    exact ⟨by rw [HF.out]; rfl, HB.out⟩
  · have q1 : ¬ (200 : Int) < e.o.2.1.length := by omega
    by_cases h2 : 200 < e.o.2.2.1.length
    · have q2 : (200 : Int) < e.o.2.2.1.length := by omega
      have HF := Lib.hid (show entG e = true by unfold entG; rw [decide_eq_true h2, Bool.or_true]; rfl)
      go_wp2_with fail
      go_ret
      exact ⟨by rw [HF.out]; rfl, HB.out⟩
    · have q2 : ¬ (200 : Int) < e.o.2.2.1.length := by omega
      have HF := Lib.hid (show entG e = decide ((100 : Int) < e.s.2.2.length) by unfold entG; rw [decide_eq_false h1, decide_eq_false h2]; simp [Int.ofNat_lt]; omega)
      go_wp2_with fail
      go_ret
      exact ⟨by rw [HF.out]; rfl, HB.out⟩
set_option linter.unusedSimpArgs false in
set_option linter.unusedVariables false in
set_option maxRecDepth 100000 in
set_option maxHeartbeats 8000000 in
theorem egreats_any (w : World) (v : Value) (l : List Ent) (most : Int) (hS : Ents w v l) :
    Calls Tryd.prog 4 #[v, .int .i64 most] w fun e w' => e = .returned (.bool (entsG l most)) ∧ Below w.heap.size w w' := by
  obtain ⟨A, c, rfl, hlc, hcm⟩ := SlK.shape hS
  have HS := Lib.hid hS
  have hl63 : (l.length : Int) ≤ 9223372036854775807 := by unfold maxLen at hcm; omega
  clear hS
  go_enter Tryd.func4, Tryd.ntmps4
  go_wp2_with fail
  go_loopw [5] (fun i wr => ∃ k : Nat, i = .int .i64 k ∧ k ≤ l.length ∧ Hid (entsTo l k = false) ∧ Hid (Below w.heap.size w wr)) (fun i _ => l.length - (intOf i).toNat)
  case atStart => exact ⟨0, rfl, Nat.zero_le _, rfl, Below.refl _ _⟩
  case round =>
    obtain ⟨k, rfl, hk, HG, HBr⟩ := hrel
    by_cases hkl : k < l.length
    · obtain ⟨x, hx⟩ : ∃ x, l[k]? = some x := ⟨_, List.getElem?_eq_getElem hkl⟩
      obtain ⟨g, off, n', c', A', cc, e, hg, hr, hd⟩ := HS.out.cells hx
      obtain ⟨d0, d1, d2, d3, d4, d5, d6, d7, d8, d9, d10, d11⟩ := hd _ HBr.out
      injection e with e1 e2 e3; subst e1; clear e2 e3
      have HR := Lib.hid (hr.below HBr.out)
      have hr63 : (x.s.2.2.length : Int) ≤ 9223372036854775807 := by obtain ⟨_, _, e, h2, h3⟩ := SlK.shape hr.rd.1; unfold maxLen at h3; omega
      have HX := Lib.hid hx; have HD := Lib.hid hd
      have hlt : (k : Int) < l.length := by omega
      have hk0 : (0 : Int) ≤ k := by omega
      clear hx hr hd
      cases hG : entG x with
      | true =>
        have HT := Lib.hid hG
        have HF := Lib.hid (entsG_hit HX.out (show entGG x = true by unfold entGG; rw [hG]; rfl) most)
        clear hG
        go_wp2_with (go_at_call 11; refine (egreat_any _ x _ HR.out).mono ?_; rintro e w1 ⟨rfl, hb⟩; rw [HT.out]; have HB1 := Lib.hid (bch HBr.out hb HBr.out.size); clear hb)
        go_ret
        exact ⟨by rw [HF.out]; rfl, HB1.out⟩
      | false =>
        have HT := Lib.hid hG
        clear hG
        by_cases h6 : 60 < x.s.2.2.length
        · have h6' : (60 : Int) < x.s.2.2.length := by omega
          have HF := Lib.hid (entsG_hit HX.out (show entGG x = true by unfold entGG; rw [decide_eq_true h6, Bool.or_true]) most)
          go_wp2_with (go_at_call 11; refine (egreat_any _ x _ HR.out).mono ?_; rintro e w1 ⟨rfl, hb⟩; rw [HT.out]; have HB1 := Lib.hid (bch HBr.out hb HBr.out.size); clear hb; obtain ⟨c0, c1, c2, c3, c4, c5, c6, c7, c8, c9, c10, c11⟩ := HD.out _ HB1.out)
          go_ret
          exact ⟨by rw [HF.out]; rfl, HB1.out⟩
        · have h6' : ¬ (60 : Int) < x.s.2.2.length := by omega
          have HF := Lib.hid (show entsTo l (k + 1) = false by rw [entsTo_succ HX.out, HG.out]; unfold entGG; rw [HT.out, decide_eq_false h6]; rfl)
          go_wp2_with (go_at_call 11; refine (egreat_any _ x _ HR.out).mono ?_; rintro e w1 ⟨rfl, hb⟩; rw [HT.out]; have HB1 := Lib.hid (bch HBr.out hb HBr.out.size); clear hb; obtain ⟨c0, c1, c2, c3, c4, c5, c6, c7, c8, c9, c10, c11⟩ := HD.out _ HB1.out)
          go_roundw
          case rel => exact ⟨k + 1, by go_num, by omega, HF.out, HB1.out⟩
          case measure => simp [intOf]; omega
    · obtain rfl : k = l.length := by omega
      have HF := Lib.hid (show entsG l most = decide (most < (l.length : Int)) by unfold entsG; rw [show l.any entGG = false from by have := HG.out; unfold entsTo at this; rwa [List.take_length] at this, Bool.false_or])
      by_cases hm : most < (l.length : Int)
      · have HF2 := Lib.hid (HF.out.trans (show decide (most < (l.length : Int)) = true by simpa using hm))
        go_wp2_with fail
        go_ret
        exact ⟨by rw [HF2.out]; rfl, HBr.out⟩
      · have HF2 := Lib.hid (HF.out.trans (show decide (most < (l.length : Int)) = false by simpa using hm))
        go_wp2_with fail
        go_ret
        exact ⟨by rw [HF2.out]; rfl, HBr.out⟩
end Go.Proofs.YtnfbhocppijbjaaDoor
/- The chapter's entries, plain: what a core of them comes to. -/
namespace Go.Proofs.YtnfbhocppijbjaaDoor
open Co Key Rw Sa Od

namespace Co
def o0 : Ord5 := (0, [], [], 0, 0)
def s0 : In.Stm := (0, 0, [])
def eM1 : Ent := ⟨1, (1, [97], [98], 2, 500), (0, 0), 0, s0⟩
def eM2 : Ent := ⟨3, o0, (1, 0), 1, s0⟩
def eM3 : Ent := ⟨3, o0, (1, 1), 1, s0⟩
def eM4 : Ent := ⟨4, o0, (0, 0), 0, (0, 1, [((1, 1), 1, 500, 0)])⟩
def eM0 : Ent := ⟨0, o0, (0, 0), 0, s0⟩
def cM1 : Cor := applyC nilC eM1
def cM2 : Cor := applyC cM1 eM2
def cM3 : Cor := applyC cM2 eM3
def cM4 : Cor := applyC cM3 eM4
def cM5 : Cor := applyC cM4 eM1
def cM6 : Cor := applyC cM5 eM2
instance (p : Po) : Decidable (mayP p) := by unfold mayP; infer_instance
theorem aM1 : applyE nilC eM1 = 0 := by decide +kernel
theorem aM2 : applyE cM1 eM2 = 0 := by decide +kernel
theorem aM3 : applyE cM2 eM3 = 0 := by decide +kernel
theorem bM1 : balI cM3.b 1 1 = 500 := by decide +kernel
theorem bM2 : balI cM3.b 0 0 = -500 := by decide +kernel
theorem aM4 : applyE cM3 eM4 = 0 := by decide +kernel
theorem bM3 : balI cM4.b 1 1 = 0 := by decide +kernel
theorem bM4 : balI cM4.b 2 1 = 500 := by decide +kernel
theorem aM5 : applyE cM4 eM1 = 91 := by decide +kernel
theorem aM6 : applyE cM5 eM2 = 92 := by decide +kernel
theorem aM7 : applyE cM6 eM0 = 2 := by decide +kernel
theorem okM1 : ApOk nilC eM1 := ⟨by decide +kernel, by decide +kernel, by decide +kernel, fun h => absurd h (by decide), fun h => absurd h (by decide)⟩
theorem okM2 : ApOk cM1 eM2 := ⟨by decide +kernel, by decide +kernel, by decide +kernel, fun _ => by decide +kernel, fun h => absurd h (by decide)⟩
theorem okM3 : ApOk cM2 eM3 := ⟨by decide +kernel, by decide +kernel, by decide +kernel, fun _ => by decide +kernel, fun h => absurd h (by decide)⟩
theorem okM4 : ApOk cM3 eM4 := ⟨by decide +kernel, by decide +kernel, by decide +kernel, fun h => absurd h (by decide), fun _ _ => by decide +kernel⟩
theorem okM5 : ApOk cM4 eM1 := ⟨by decide +kernel, by decide +kernel, by decide +kernel, fun h => absurd h (by decide), fun h => absurd h (by decide)⟩
theorem okM6 : ApOk cM5 eM2 := ⟨by decide +kernel, by decide +kernel, by decide +kernel, fun _ => by decide +kernel, fun h => absurd h (by decide)⟩
theorem okM7 : ApOk cM6 eM0 := ⟨by decide +kernel, by decide +kernel, by decide +kernel, fun h => absurd h (by decide), fun h => absurd h (by decide)⟩
end Co
end Go.Proofs.YtnfbhocppijbjaaDoor
/- The chapter's order: the law's came. -/
namespace Go.Proofs.YtnfbhocppijbjaaDoor
open Go.RowKit Go.Maps Co Key Rw Sa Od

theorem Cw.off {B : Nat} {w : World} {cb bb pm bm : Nat} {vl vb vI : Value} {c : Cor} (h : Cw B w cb bb pm bm vl vb vI c) {r : Nat} {cs : Array Value} {T : TypeId} {fr : Nat × Nat} (hr : w.heap[r]? = some (.cells cs T fr)) (h1 : T ≠ tSaga) (h2 : T ≠ tPost) (hlt : cb < r ∧ bb < r ∧ pm < r ∧ bm < r) : ¬ Cs cb bb pm bm vl vb r := by
  rintro (e | (e | e | e | e) | e)
  · omega
  · omega
  · omega
  · omega
  · exact own_apartT h.bk.ob hr h2 e
  · exact own_apartT h.ol hr h1 e
/-- What came holds: its core, the blocks of the entries. -/
structure Cam (w W : World) (cb bb pm bm : Nat) (vl vb vI : Value) (c : Cor) (b4 b3 : Nat) (E4 E3 : Array Value) (T4 T3 : TypeId) : Prop where
  c : Cw w.heap.size W cb bb pm bm vl vb vI c
  e4 : W.heap[b4]? = some (.cells E4 T4 (0, 0))
  e3 : W.heap[b3]? = some (.cells E3 T3 (0, 0))
  lt : cb < b4 ∧ bb < b4 ∧ pm < b4 ∧ bm < b4 ∧ cb < b3 ∧ bb < b3 ∧ pm < b3 ∧ bm < b3
  n4 : T4 ≠ tSaga ∧ T4 ≠ tPost
  n3 : T3 ≠ tSaga ∧ T3 ≠ tPost
  bel : Below w.heap.size w W
theorem Cam.step {w W W' : World} {cb bb pm bm : Nat} {vl vb vI vl' vb' vI' : Value} {c c' : Cor} {b4 b3 : Nat} {E4 E3 : Array Value} {T4 T3 : TypeId} (h : Cam w W cb bb pm bm vl vb vI c b4 b3 E4 E3 T4 T3) (hc : Cw w.heap.size W' cb bb pm bm vl' vb' vI' c') (ht : Turned (Cs cb bb pm bm vl vb) W W') : Cam w W' cb bb pm bm vl' vb' vI' c' b4 b3 E4 E3 T4 T3 :=
  ⟨hc, heap_turned h.e4 ht (h.c.off h.e4 h.n4.1 h.n4.2 ⟨h.lt.1, h.lt.2.1, h.lt.2.2.1, h.lt.2.2.2.1⟩), heap_turned h.e3 ht (h.c.off h.e3 h.n3.1 h.n3.2 h.lt.2.2.2.2), h.lt, h.n4, h.n3, Below.turned h.bel ht (fun _ hi => (h.c.ls hi).1) h.bel.size⟩
theorem Cam.below {w W W' : World} {cb bb pm bm : Nat} {vl vb vI : Value} {c : Cor} {b4 b3 : Nat} {E4 E3 : Array Value} {T4 T3 : TypeId} (h : Cam w W cb bb pm bm vl vb vI c b4 b3 E4 E3 T4 T3) (hb : Below W.heap.size W W') : Cam w W' cb bb pm bm vl vb vI c b4 b3 E4 E3 T4 T3 :=
  ⟨h.c.below hb, heap_keep h.e4 hb, heap_keep h.e3 hb, h.lt, h.n4, h.n3, bch h.bel hb h.bel.size⟩
def cK (k : Nat) : Cor := if k = 0 then nilC else if k = 1 then cM1 else if k = 2 then cM2 else cM3
abbrev entCells (e : Ent) : List Value := [.int .i64 e.kind, .int .i64 e.o.1, .string ⟨e.o.2.1.toArray⟩, .string ⟨e.o.2.2.1.toArray⟩, .int .i64 e.o.2.2.2.1, .int .i64 e.o.2.2.2.2, .int .i64 e.k.1, .int .i64 e.k.2, .int .i64 e.code, .int .i64 e.s.1, .int .i64 e.s.2.1, .slice none 0 0]
abbrev E3s : Array Value := #[.int .i64 1, .int .i64 1, .string ⟨#[97]⟩, .string ⟨#[98]⟩, .int .i64 2, .int .i64 500, .int .i64 0, .int .i64 0, .int .i64 0, .int .i64 0, .int .i64 0, .slice none 0 0,
  .int .i64 3, .int .i64 0, .string ⟨#[]⟩, .string ⟨#[]⟩, .int .i64 0, .int .i64 0, .int .i64 1, .int .i64 0, .int .i64 1, .int .i64 0, .int .i64 0, .slice none 0 0,
  .int .i64 3, .int .i64 0, .string ⟨#[]⟩, .string ⟨#[]⟩, .int .i64 0, .int .i64 0, .int .i64 1, .int .i64 1, .int .i64 1, .int .i64 0, .int .i64 0, .slice none 0 0]
set_option linter.unusedSimpArgs false in
set_option linter.unusedVariables false in
set_option maxRecDepth 100000 in
set_option maxHeartbeats 16000000 in
theorem came_any (w : World) (hT : PT w) (hput : ∀ o d W, Below w.heap.size w W → Calls Tryd.prog 46 #[.agg #[.int .i64 o, .int .i64 d]] W fun e w' => e = .returned (.string ⟨(putK o d).toArray⟩) ∧ Below W.heap.size W w')
    (hito : ∀ (n : Int) W, 0 ≤ n → n ≤ 1073741824 → Below w.heap.size w W → Calls Tryd.prog 47 #[.int .i64 n] W fun e w' => e = .returned (.string ⟨(Lib.itoa n).toArray⟩) ∧ Below W.heap.size W w') :
    Calls Tryd.prog 5 #[] w fun e w' => e = .returned (.bool true) ∧ Below w.heap.size w w' := by
  have HT := Lib.hid hT; have HPUT := Lib.hid hput; have HITO := Lib.hid hito
  clear hT hput hito
  go_enter Tryd.func5, Tryd.ntmps5
  go_wp2_with fail
  refine (cnew_any w).mono ?_
  rintro e w1 ⟨cb, bb, pm, bm, rfl, hc, hb⟩
  go_upto_region 5 with (fail)
  obtain ⟨W, hW⟩ : ∃ W, W = ((w1.alloc (.cells #[.int .i64 1, .string ⟨#[97]⟩, .string ⟨#[98]⟩, .int .i64 2, .int .i64 500] tOrder)).alloc (.cells #[.int .i64 1, .int .i64 1] tKey)).alloc (.cells E3s tEnt) := ⟨_, rfl⟩
  rw [← hW]
  obtain ⟨hB, _, hK, hE⟩ := three_new w1 _ _ _ tOrder tKey tEnt hW
  have hl1 := hc.bk.lt
  have hl2 := heap_lt hc.hc
  obtain ⟨b3, hb3⟩ : ∃ b3, w1.heap.size + 1 = b3 := ⟨_, rfl⟩
  obtain ⟨b4, hb4⟩ : ∃ b4, b3 + 1 = b4 := ⟨_, rfl⟩
  rw [hb3] at hK ⊢
  rw [show w1.heap.size + 2 = b4 by omega] at hE
  rw [hb4]
  have H0 := Lib.hid (show Cam w W cb bb pm bm (.slice none 0 0) (.slice none 0 0) vIn0 (cK 0) b4 b3 E3s #[.int .i64 1, .int .i64 1] tEnt tKey from ⟨hc.below hB, hE, hK, by omega, by decide, by decide, bch hb hB hb.size⟩)
  clear hW hB hK hE hl1 hl2 hb3 hb4 hc hb
  go_wp2_with fail
  go_loopw [5] (fun i wr => ∃ (k : Nat) (vl vb vI : Value), i = .int .i64 k ∧ k ≤ 3 ∧ Hid (Cam w wr cb bb pm bm vl vb vI (cK k) b4 b3 E3s #[.int .i64 1, .int .i64 1] tEnt tKey)) (fun i _ => 3 - (intOf i).toNat)
  case atStart => exact ⟨0, _, _, _, rfl, by omega, H0.out⟩
  case round =>
    obtain ⟨k, vl, vb, vI, rfl, hk, H⟩ := hrel
    obtain rfl | rfl | rfl | rfl : k = 0 ∨ k = 1 ∨ k = 2 ∨ k = 3 := by omega
    · have d0 := cell_at H.out.e4 0 rfl
      have d1 := cell_at H.out.e4 1 rfl
      have d2 := cell_at H.out.e4 2 rfl
      have d3 := cell_at H.out.e4 3 rfl
      have d4 := cell_at H.out.e4 4 rfl
      have d5 := cell_at H.out.e4 5 rfl
      have d6 := cell_at H.out.e4 6 rfl
      have d7 := cell_at H.out.e4 7 rfl
      have d8 := cell_at H.out.e4 8 rfl
      have d9 := cell_at H.out.e4 9 rfl
      have d10 := cell_at H.out.e4 10 rfl
      have d11 := cell_at H.out.e4 11 rfl
      have hcm : ApOk (cK 0) eM1 := okM1
      have ham : applyE (cK 0) eM1 = 0 := aM1
      have hap := capply_any H.out.c eM1 (.slice none 0 0) (Rd.nil _) (HT.out.below H.out.bel) hcm ⟨by decide, by decide⟩ (fun W hW => HPUT.out 0 0 W (H.out.bel.trans hW)) (fun n W h0 h1 hW => HITO.out n W h0 h1 (H.out.bel.trans hW))
      rw [ham] at hap
      have HAP := Lib.hid hap
      clear hap
      clear hcm ham
      go_wp2_with fail
      refine HAP.out.mono ?_
      rintro e w2 ⟨vl', vb', vI', rfl, hc2, ht2, _, _⟩
      have H2 := Lib.hid (show Cam w w2 cb bb pm bm vl' vb' vI' (cK 1) b4 b3 E3s #[.int .i64 1, .int .i64 1] tEnt tKey from H.out.step hc2 ht2)
      clear hc2 ht2 HAP d0 d1 d2 d3 d4 d5 d6 d7 d8 d9 d10 d11
      go_wp2_with fail
      go_roundw
      case rel => exact ⟨1, vl', vb', vI', rfl, by omega, H2.out⟩
      case measure => simp [intOf]
    · have d0 := cell_at H.out.e4 12 rfl
      have d1 := cell_at H.out.e4 13 rfl
      have d2 := cell_at H.out.e4 14 rfl
      have d3 := cell_at H.out.e4 15 rfl
      have d4 := cell_at H.out.e4 16 rfl
      have d5 := cell_at H.out.e4 17 rfl
      have d6 := cell_at H.out.e4 18 rfl
      have d7 := cell_at H.out.e4 19 rfl
      have d8 := cell_at H.out.e4 20 rfl
      have d9 := cell_at H.out.e4 21 rfl
      have d10 := cell_at H.out.e4 22 rfl
      have d11 := cell_at H.out.e4 23 rfl
      have hcm : ApOk (cK 1) eM2 := okM2
      have ham : applyE (cK 1) eM2 = 0 := aM2
      have hap := capply_any H.out.c eM2 (.slice none 0 0) (Rd.nil _) (HT.out.below H.out.bel) hcm ⟨by decide, by decide⟩ (fun W hW => HPUT.out 1 0 W (H.out.bel.trans hW)) (fun n W h0 h1 hW => HITO.out n W h0 h1 (H.out.bel.trans hW))
      rw [ham] at hap
      have HAP := Lib.hid hap
      clear hap
      clear hcm ham
      go_wp2_with fail
      refine HAP.out.mono ?_
      rintro e w2 ⟨vl', vb', vI', rfl, hc2, ht2, _, _⟩
      have H2 := Lib.hid (show Cam w w2 cb bb pm bm vl' vb' vI' (cK 2) b4 b3 E3s #[.int .i64 1, .int .i64 1] tEnt tKey from H.out.step hc2 ht2)
      clear hc2 ht2 HAP d0 d1 d2 d3 d4 d5 d6 d7 d8 d9 d10 d11
      go_wp2_with fail
      go_roundw
      case rel => exact ⟨2, vl', vb', vI', rfl, by omega, H2.out⟩
      case measure => simp [intOf]
    · have d0 := cell_at H.out.e4 24 rfl
      have d1 := cell_at H.out.e4 25 rfl
      have d2 := cell_at H.out.e4 26 rfl
      have d3 := cell_at H.out.e4 27 rfl
      have d4 := cell_at H.out.e4 28 rfl
      have d5 := cell_at H.out.e4 29 rfl
      have d6 := cell_at H.out.e4 30 rfl
      have d7 := cell_at H.out.e4 31 rfl
      have d8 := cell_at H.out.e4 32 rfl
      have d9 := cell_at H.out.e4 33 rfl
      have d10 := cell_at H.out.e4 34 rfl
      have d11 := cell_at H.out.e4 35 rfl
      have hcm : ApOk (cK 2) eM3 := okM3
      have ham : applyE (cK 2) eM3 = 0 := aM3
      have hap := capply_any H.out.c eM3 (.slice none 0 0) (Rd.nil _) (HT.out.below H.out.bel) hcm ⟨by decide, by decide⟩ (fun W hW => HPUT.out 1 1 W (H.out.bel.trans hW)) (fun n W h0 h1 hW => HITO.out n W h0 h1 (H.out.bel.trans hW))
      rw [ham] at hap
      have HAP := Lib.hid hap
      clear hap
      clear hcm ham
      go_wp2_with fail
      refine HAP.out.mono ?_
      rintro e w2 ⟨vl', vb', vI', rfl, hc2, ht2, _, _⟩
      have H2 := Lib.hid (show Cam w w2 cb bb pm bm vl' vb' vI' (cK 3) b4 b3 E3s #[.int .i64 1, .int .i64 1] tEnt tKey from H.out.step hc2 ht2)
      clear hc2 ht2 HAP d0 d1 d2 d3 d4 d5 d6 d7 d8 d9 d10 d11
      go_wp2_with fail
      go_roundw
      case rel => exact ⟨3, vl', vb', vI', rfl, by omega, H2.out⟩
      case measure => simp [intOf]
    · have H3 := Lib.hid (show Cam w wr cb bb pm bm vl vb vI cM3 b4 b3 E3s #[.int .i64 1, .int .i64 1] tEnt tKey from H.out)
      clear H
      have k01 := cell_at H3.out.e3 0 rfl
      have k02 := cell_at H3.out.e3 1 rfl
      go_wp2_with fail
      refine (cbal_any H3.out.c 1 1 (by decide) (by decide)).mono ?_
      rintro e w2 ⟨rfl, hb⟩
      subst hb
      rw [show balI _ 1 1 = 500 from bM1]
      go_wp2_with fail
      refine (cbal_any H3.out.c 0 0 (by decide) (by decide)).mono ?_
      rintro e w2 ⟨rfl, hb⟩
      subst hb
      rw [show balI _ 0 0 = -500 from bM2]
      go_wp2_with fail
      clear k01 k02
      obtain ⟨w3, hw3⟩ : ∃ w3, w3 = wr.alloc (.cells #[.int .i64 1, .int .i64 1, .int .i64 1, .int .i64 500, .int .i64 0] tRow) := ⟨_, rfl⟩
      rw [← hw3]
      have hb3' : Below wr.heap.size wr w3 := by rw [hw3]; exact below_alloc _ _
      have hrow : w3.heap[wr.heap.size]? = some (.cells #[.int .i64 1, .int .i64 1, .int .i64 1, .int .i64 500, .int .i64 0] tRow (0, 0)) := by rw [hw3]; exact heap_new _ _
      have H4 := Lib.hid (H3.out.below hb3')
      have HRW := Lib.hid (show Rd w3 (.slice (some ⟨wr.heap.size, 0, none⟩) 1 1) eM4.s.2.2 from rd_block (c := 1) eM4.s.2.2 hrow rfl (by decide) (by decide))
      clear hw3 hb3' hrow
      generalize wr.heap.size = b9 at HRW ⊢
      have hap := capply_any H4.out.c eM4 (.slice (some ⟨b9, 0, none⟩) 1 1) HRW.out (HT.out.below H4.out.bel) okM4 ⟨by decide, by decide⟩ (fun W hW => HPUT.out 0 0 W (H4.out.bel.trans hW)) (fun n W h0 h1 hW => HITO.out n W h0 h1 (H4.out.bel.trans hW))
      rw [aM4] at hap
      have HAP := Lib.hid hap
      clear hap
      refine HAP.out.mono ?_
      rintro e w4 ⟨vl5, vb5, vI5, rfl, hc2, ht2, _, _⟩
      have H5 := Lib.hid (show Cam w w4 cb bb pm bm vl5 vb5 vI5 cM4 b4 b3 E3s #[.int .i64 1, .int .i64 1] tEnt tKey from H4.out.step hc2 ht2)
      clear hc2 ht2 HAP
      have d0 := cell_at H5.out.e4 0 rfl
      have d1 := cell_at H5.out.e4 1 rfl
      have d2 := cell_at H5.out.e4 2 rfl
      have d3 := cell_at H5.out.e4 3 rfl
      have d4 := cell_at H5.out.e4 4 rfl
      have d5 := cell_at H5.out.e4 5 rfl
      have d6 := cell_at H5.out.e4 6 rfl
      have d7 := cell_at H5.out.e4 7 rfl
      have d8 := cell_at H5.out.e4 8 rfl
      have d9 := cell_at H5.out.e4 9 rfl
      have d10 := cell_at H5.out.e4 10 rfl
      have d11 := cell_at H5.out.e4 11 rfl
      go_wp2_with fail
      refine (cbal_any H5.out.c 1 1 (by decide) (by decide)).mono ?_
      rintro e w2 ⟨rfl, hb⟩
      subst hb
      rw [show balI _ 1 1 = 0 from bM3]
      go_wp2_with fail
      refine (cbal_any H5.out.c 2 1 (by decide) (by decide)).mono ?_
      rintro e w2 ⟨rfl, hb⟩
      subst hb
      rw [show balI _ 2 1 = 500 from bM4]
      go_wp2_with fail
      have hap := capply_any H5.out.c eM1 (.slice none 0 0) (Rd.nil _) (HT.out.below H5.out.bel) okM5 ⟨by decide, by decide⟩ (fun W hW => HPUT.out 0 0 W (H5.out.bel.trans hW)) (fun n W h0 h1 hW => HITO.out n W h0 h1 (H5.out.bel.trans hW))
      rw [aM5] at hap
      have HAP := Lib.hid hap
      clear hap
      refine HAP.out.mono ?_
      rintro e w5 ⟨vl6, vb6, vI6, rfl, hc2, ht2, _, _⟩
      have H6 := Lib.hid (show Cam w w5 cb bb pm bm vl6 vb6 vI6 cM5 b4 b3 E3s #[.int .i64 1, .int .i64 1] tEnt tKey from H5.out.step hc2 ht2)
      clear hc2 ht2 HAP
      clear d0 d1 d2 d3 d4 d5 d6 d7 d8 d9 d10 d11
      have d0 := cell_at H6.out.e4 12 rfl
      have d1 := cell_at H6.out.e4 13 rfl
      have d2 := cell_at H6.out.e4 14 rfl
      have d3 := cell_at H6.out.e4 15 rfl
      have d4 := cell_at H6.out.e4 16 rfl
      have d5 := cell_at H6.out.e4 17 rfl
      have d6 := cell_at H6.out.e4 18 rfl
      have d7 := cell_at H6.out.e4 19 rfl
      have d8 := cell_at H6.out.e4 20 rfl
      have d9 := cell_at H6.out.e4 21 rfl
      have d10 := cell_at H6.out.e4 22 rfl
      have d11 := cell_at H6.out.e4 23 rfl
      go_wp2_with fail
      have hap := capply_any H6.out.c eM2 (.slice none 0 0) (Rd.nil _) (HT.out.below H6.out.bel) okM6 ⟨by decide, by decide⟩ (fun W hW => HPUT.out 1 0 W (H6.out.bel.trans hW)) (fun n W h0 h1 hW => HITO.out n W h0 h1 (H6.out.bel.trans hW))
      rw [aM6] at hap
      have HAP := Lib.hid hap
      clear hap
      refine HAP.out.mono ?_
      rintro e w6 ⟨vl7, vb7, vI7, rfl, hc2, ht2, _, _⟩
      have H7 := Lib.hid (show Cam w w6 cb bb pm bm vl7 vb7 vI7 cM6 b4 b3 E3s #[.int .i64 1, .int .i64 1] tEnt tKey from H6.out.step hc2 ht2)
      clear hc2 ht2 HAP
      clear d0 d1 d2 d3 d4 d5 d6 d7 d8 d9 d10 d11
      go_wp2_with fail
      have hap := capply_any H7.out.c eM0 (.slice none 0 0) (Rd.nil _) (HT.out.below H7.out.bel) okM7 ⟨by decide, by decide⟩ (fun W hW => HPUT.out 0 0 W (H7.out.bel.trans hW)) (fun n W h0 h1 hW => HITO.out n W h0 h1 (H7.out.bel.trans hW))
      rw [aM7] at hap
      have HAP := Lib.hid hap
      clear hap
      refine HAP.out.mono ?_
      rintro e w7 ⟨vl8, vb8, vI8, rfl, hc2, ht2, _, _⟩
      have H8 := Lib.hid (show Cam w w7 cb bb pm bm vl8 vb8 vI8 (applyC cM6 eM0) b4 b3 E3s #[.int .i64 1, .int .i64 1] tEnt tKey from H7.out.step hc2 ht2)
      clear hc2 ht2 HAP
      go_wp2_with fail
      go_ret
      exact ⟨rfl, H8.out.bel⟩
end Go.Proofs.YtnfbhocppijbjaaDoor

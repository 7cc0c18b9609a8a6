/- From an argument's reading to words for memory, by types: numbers, truth values, texts, structs, slices of whatever reads. Of no program. -/
import Derived.Test.YtiagdpfmmjhgcaaGreatDoorMem
import Derived.Deep.Slices
import Derived.SliceStrings
import Derived.ProofKit
import Derived.OpenShut
import Derived.Lib.SmallJoins
namespace Go.Proofs.YtiagdpfmmjhgcaaGreatDoor
open Go.ChangeShapes Go.WideShapes Go.Deep Go.Joins Go.RowKit

/-- The slice v reads as the list L, its elements of k cells each by R; its cells lie below block B. -/
def SlK {α : Type} (w : World) (B k : Nat) (R : List Value → α → Prop) (v : Value) (L : List α) : Prop :=
  ∃ A n c, v = .slice A n c ∧ L.length = n ∧ n ≤ c ∧ c ≤ maxLen ∧ ∀ i x, L[i]? = some x → ∃ b o cs, A = some ⟨b, o, none⟩ ∧ b < B ∧ cs.length = k ∧ (∀ j u, cs[j]? = some u → w.cell? ⟨b, o + i * k + j, none⟩ = some u) ∧ R cs x

theorem SlK.mono {α : Type} {w w' : World} {B B' k : Nat} {R R' : List Value → α → Prop} {v : Value} {L : List α} (h : SlK w B k R v L) (hb : Below B w w') (hB : B ≤ B') (hR : ∀ u x, x ∈ L → R u x → R' u x) : SlK w' B' k R' v L := by
  obtain ⟨A, n, c, rfl, hl, hc, hm, h⟩ := h
  refine ⟨A, n, c, rfl, hl, hc, hm, fun i x hi => ?_⟩
  obtain ⟨b, o, cs, rfl, hlt, hk, hcell, hr⟩ := h i x hi
  exact ⟨b, o, cs, rfl, by omega, hk, fun j u hj => (hb.cell hlt).trans (hcell j u hj), hR cs _ (List.mem_of_getElem? hi) hr⟩
theorem SlK.nil {α : Type} (w : World) (B k : Nat) (R : List Value → α → Prop) : SlK w B k R (.slice none 0 0) [] := ⟨none, 0, 0, rfl, rfl, Nat.le_refl _, Nat.zero_le _, fun k x h => by simp at h⟩
/-- An element's cells. -/
theorem SlK.at {α : Type} {w : World} {B k : Nat} {R : List Value → α → Prop} {A : Option Addr} {n c : Nat} {L : List α} (h : SlK w B k R (.slice A n c) L) {i : Nat} {x : α} (hx : L[i]? = some x) :
    ∃ b o cs, A = some ⟨b, o, none⟩ ∧ b < B ∧ cs.length = k ∧ (∀ j u, cs[j]? = some u → w.cell? ⟨b, o + i * k + j, none⟩ = some u) ∧ R cs x := by
  obtain ⟨A', n', c', e, _, _, _, h⟩ := h
  cases e
  exact h i x hx
theorem SlK.shape {α : Type} {w : World} {B k : Nat} {R : List Value → α → Prop} {v : Value} {L : List α} (h : SlK w B k R v L) : ∃ A c, v = .slice A L.length c ∧ L.length ≤ c ∧ c ≤ maxLen := by
  obtain ⟨A, n, c, rfl, rfl, hc, hm, _⟩ := h
  exact ⟨A, c, rfl, hc, hm⟩

section
variable {H : Type} (enc : TypeId × Value → H) (P : Program)

def Opens (t : TypeId) (α : Type) (R : World → Nat → List Value → α → Prop) : Prop :=
  ∀ (w : World) (n : Nat) (cs : List Value) (x : DataW H × List MemPlace) (B : Nat), DataW.trod enc P w 0 (fun _ => true) true n t cs = some x → (∀ y ∈ x.2, y.block < B) → ∃ a, R w B cs a

def OpensF (fs : List Go.Field) (α : Type) (R : World → Nat → List Value → α → Prop) : Prop :=
  ∀ (w : World) (n : Nat) (cs : List Value) (ys : List (DataW H × List MemPlace)) (B : Nat), ys.length = fs.length → (∀ (i : Nat) (f : Go.Field), fs[i]? = some f → DataW.trod enc P w 0 (fun _ => true) true n f.type ((cs.drop f.offset).take (P.cellsOf f.type)) = ys[i]?) → (∀ y ∈ ys, ∀ p ∈ y.2, p.block < B) → ∃ a, R w B cs a
variable {enc P}

theorem Opens.imp {t : TypeId} {α β : Type} {R : World → Nat → List Value → α → Prop} {R' : World → Nat → List Value → β → Prop} (h : Opens enc P t α R) (f : ∀ w B cs a, R w B cs a → ∃ b, R' w B cs b) : Opens enc P t β R' := fun w n cs x B hx hB => by
  obtain ⟨a, ha⟩ := h w n cs x B hx hB
  exact f w B cs a ha
theorem opens_int {t : TypeId} {k : IntKind} (ht : P.underlying t = some (.int k)) : Opens enc P t Int fun _ _ cs a => cs = [.int k a] ∧ (Lit.int k a).wf = true := fun w n cs x B h _ => by
  obtain ⟨a, rfl, _, hw⟩ := DataW.trod_int ht h
  exact ⟨a, rfl, hw⟩
theorem opens_bool {t : TypeId} (ht : P.underlying t = some .bool) : Opens enc P t Bool fun _ _ cs a => cs = [.bool a] := fun w n cs x B h _ => by
  obtain ⟨a, rfl, _⟩ := DataW.trod_bool ht h
  exact ⟨a, rfl⟩
theorem opens_str {t : TypeId} (ht : P.underlying t = some .string) : Opens enc P t (List UInt8) fun _ _ cs a => cs = [.string ⟨a.toArray⟩] ∧ a.length ≤ maxLen := fun w n cs x B h _ => by
  obtain ⟨s, rfl, _, hs⟩ := DataW.trod_string ht h
  exact ⟨s.data.toList, by simp, by simpa using hs⟩
theorem opens_nil : OpensF enc P [] Unit fun _ _ _ _ => True := fun _ _ _ _ _ _ _ _ => ⟨(), trivial⟩
theorem opens_cons {f : Go.Field} {fs : List Go.Field} {α β : Type} {R : World → Nat → List Value → α → Prop} {S : World → Nat → List Value → β → Prop} {k : Nat} (hk : P.cellsOf f.type = k) (h : Opens enc P f.type α R) (hs : OpensF enc P fs β S) :
    OpensF enc P (f :: fs) (α × β) fun w B cs a => R w B ((cs.drop f.offset).take k) a.1 ∧ S w B cs a.2 := fun w n cs ys B hl hy hB => by
  match ys, hl with
  | y :: ys, hl =>
    obtain ⟨a, ha⟩ := h w n _ y B (by have := hy 0 f rfl; simpa using this) (hB y (List.mem_cons_self ..))
    obtain ⟨b, hb⟩ := hs w n cs ys B (by simpa using hl) (fun i f hf => by have := hy (i + 1) f (by simpa using hf); simpa using this) (fun y hy' => hB y (List.mem_cons_of_mem _ hy'))
    exact ⟨(a, b), by rw [← hk]; exact ha, hb⟩
theorem opens_struct {t : TypeId} {fs : Array Go.Field} {α : Type} {R : World → Nat → List Value → α → Prop} {k : Nat} (ht : P.underlying t = some (.struct fs)) (hk : P.cellsOf t = k) (h : OpensF enc P fs.toList α R) : Opens enc P t α fun w B cs a => cs.length = k ∧ R w B cs a := fun w n cs x B hx hB => by
  obtain ⟨xs, m, _, rfl, hl, hlen, hf⟩ := DataW.trod_struct ht hx
  obtain ⟨a, ha⟩ := h w m cs xs B (by simpa using hlen) (fun i f hi => hf i f (by simpa using hi)) (fun y hy p hp => hB p (List.mem_flatMap.2 ⟨y, hy, hp⟩))
  exact ⟨a, hl.trans hk, ha⟩
theorem opens_slice {t e : TypeId} {α : Type} {R : World → Nat → List Value → α → Prop} {k : Nat} (ht : P.underlying t = some (.slice e)) (hk : P.cellsOf e = k) (h0 : 0 < k) (h : Opens enc P e α R) :
    Opens enc P t (List α) fun w B cs L => ∃ v, cs = [v] ∧ SlK w B k (R w B) v L := fun w n cs x B hx hB => by
  rcases open_slice ht hx with ⟨rfl, _⟩ | ⟨a, len, cap, m, n, D, Pl, rfl, _, hl, hc, hm, rfl, hcell⟩
  · exact ⟨[], _, rfl, SlK.nil w B k _⟩
  · simp only [if_true] at hm
    subst hm
    rw [hk] at hcell hB
    have each : ∀ i, i < m → ∃ z : List Value × α, w.cells? 0 (a.add (i * k)) k = some z.1 ∧ R w B z.1 z.2 := fun i hi => by
      obtain ⟨cs', h1, h2⟩ := hcell i hi
      obtain ⟨b, hb⟩ := h w _ cs' _ B h2 (fun y hy => hB y (List.mem_append_right _ (List.mem_flatMap.2 ⟨i, List.mem_range.2 hi, hy⟩)))
      exact ⟨(cs', b), h1, hb⟩
    rcases Nat.eq_zero_or_pos len with h00 | hpos
    · subst h00
      exact ⟨[], _, rfl, some a, 0, m, rfl, rfl, Nat.zero_le _, hc, fun i x hi => by simp at hi⟩
    obtain ⟨z0, _⟩ := each 0 (by omega)
    haveI : Inhabited (List Value × α) := ⟨z0⟩
    obtain ⟨F, hF⟩ := choose_lt (α := List Value × α) (n := m) (p := fun i z => w.cells? 0 (a.add (i * k)) k = some z.1 ∧ R w B z.1 z.2) each
    refine ⟨(List.range len).map fun i => (F i).2, _, rfl, some a, len, m, rfl, by simp, hl, hc, fun i y hi => ?_⟩
    have hil : i < len := by
      have := (List.getElem?_eq_some_iff.1 hi).1
      simpa using this
    have hy : y = (F i).2 := by
      rw [List.getElem?_map, List.getElem?_range hil] at hi
      simpa using hi.symm
    subst hy
    obtain ⟨h1, h2⟩ := hF i (by omega)
    obtain ⟨_, hlen, hcs⟩ := World.cells?_some h1
    have hb : a.block < B := hB (.cell a.block (a.off + i * k)) (List.mem_append_left _ (MemPlace.mem_row.2 ⟨i * k, Nat.mul_lt_mul_of_pos_right (by omega) h0, rfl⟩))
    obtain ⟨_, hlen0, hcs0⟩ := World.cells?_some (hF 0 (by omega)).1
    have hz := hcs0 0 h0
    rw [Nat.zero_mul, Addr.add_zero', Addr.add_zero', List.getElem?_eq_getElem (by omega)] at hz
    have hsp := World.cell?_spot hz
    obtain ⟨b, o, sp⟩ := a
    simp only [] at hsp
    subst hsp
    refine ⟨b, o, (F i).1, rfl, hb, hlen, fun j u hj => ?_, h2⟩
    have := hcs j (by have := (List.getElem?_eq_some_iff.1 hj).1; omega)
    rw [Addr.add_lit, Addr.add_lit, hj] at this
    exact this
theorem opens_arg {t e : TypeId} {α : Type} {R : World → Nat → List Value → α → Prop} {k : Nat} {w : World} {r : Reach} {b0 : Nat} {v : Value} {d : DataW H} {p : List MemPlace} (ht : P.underlying t = some (.slice e)) (hk : P.cellsOf e = k) (h0 : 0 < k) (O : Opens enc P e α R)
    (hval : Value.okWide P w r b0 t v) (h : DataW.Trod enc P w 0 (fun _ => true) true t v d p) (hlt : ∀ x ∈ p, x.block < w.heap.size) : ∃ L, SlK w w.heap.size k (R w w.heap.size) v L := by
  obtain ⟨A, n, c, rfl⟩ := okWide_slice ht hval
  obtain ⟨fuel, h⟩ := h
  obtain ⟨L, v', e, hL⟩ := opens_slice ht hk h0 O w fuel _ (d, p) w.heap.size h hlt
  have e' : Value.slice A n c = v' := by simpa [Value.cells] using e
  subst e'
  exact ⟨L, hL⟩
theorem opens_agg {t : TypeId} {fs : Array Go.Field} {α : Type} {R : World → Nat → List Value → α → Prop} {w : World} {r : Reach} {b0 : Nat} {v : Value} {d : DataW H} {p : List MemPlace} (ht : P.underlying t = some (.struct fs)) (O : Opens enc P t α R)
    (hval : Value.okWide P w r b0 t v) (h : DataW.Trod enc P w 0 (fun _ => true) true t v d p) (hlt : ∀ x ∈ p, x.block < w.heap.size) : ∃ cs a, v = .agg cs ∧ R w w.heap.size cs.toList a := by
  obtain ⟨cs, rfl, _⟩ := okWide_struct ht hval
  obtain ⟨fuel, h⟩ := h
  obtain ⟨a, ha⟩ := O w fuel _ (d, p) w.heap.size h hlt
  exact ⟨cs, a, rfl, ha⟩
end

theorem list1 {α : Type} {l : List α} (h : l.length = 1) : ∃ a, l = [a] := by
  match l, h with
  | [a], _ => exact ⟨a, rfl⟩
theorem list2 {α : Type} {l : List α} (h : l.length = 2) : ∃ a b, l = [a, b] := by
  match l, h with
  | [a, b], _ => exact ⟨a, b, rfl⟩
theorem list3 {α : Type} {l : List α} (h : l.length = 3) : ∃ a b c, l = [a, b, c] := by
  match l, h with
  | [a, b, c], _ => exact ⟨a, b, c, rfl⟩
theorem list4 {α : Type} {l : List α} (h : l.length = 4) : ∃ a b c d, l = [a, b, c, d] := by
  match l, h with
  | [a, b, c, d], _ => exact ⟨a, b, c, d, rfl⟩
theorem list5 {α : Type} {l : List α} (h : l.length = 5) : ∃ a b c d e, l = [a, b, c, d, e] := by
  match l, h with
  | [a, b, c, d, e], _ => exact ⟨a, b, c, d, e, rfl⟩
theorem list6 {α : Type} {l : List α} (h : l.length = 6) : ∃ a b c d e f, l = [a, b, c, d, e, f] := by
  match l, h with
  | [a, b, c, d, e, f], _ => exact ⟨a, b, c, d, e, f, rfl⟩
theorem list7 {α : Type} {l : List α} (h : l.length = 7) : ∃ a b c d e f g, l = [a, b, c, d, e, f, g] := by
  match l, h with
  | [a, b, c, d, e, f, g], _ => exact ⟨a, b, c, d, e, f, g, rfl⟩
end Go.Proofs.YtiagdpfmmjhgcaaGreatDoor

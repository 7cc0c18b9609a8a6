/- A map in memory as a list of its entries, keys and elements by their makers: look-ups, stores, deletes, ranges. Of no program. -/
import Derived.WalkKit
import Derived.Maps.RangeWalk
import Derived.Maps.Ext
import Derived.Lib.Hide
namespace Go.Proofs.YtlkncmpengpbiaaGreatDoor
open Go.Maps Go.WideShapes

/-- An element of a shape reads as itself. -/
noncomputable def heldBy {α : Type} (mkV : α → Value) (v : Value) : Option (DataW Value × List MemPlace) :=
  @ite _ (∃ x, v = mkV x) (Classical.propDecidable _) (some (.held v, [])) none
theorem heldBy_mk {α : Type} (mkV : α → Value) (x : α) : heldBy mkV (mkV x) = some (.held (mkV x), []) := by unfold heldBy; rw [if_pos ⟨x, rfl⟩]
theorem heldBy_inv {α : Type} {mkV : α → Value} {v : Value} {z : DataW Value × List MemPlace} (h : heldBy mkV v = some z) : (∃ x, v = mkV x) ∧ z = (.held v, []) := by
  unfold heldBy at h
  split at h
  · rename_i hx; exact ⟨hx, by injection h with h; exact h.symm⟩
  · cases h

section
variable {P : Program} {k : TypeId} {κ α : Type} {mkK : κ → Value} {mkV : α → Value}

def litOf (P : Program) (k : TypeId) (v : Value) : Lit := (keyOf P k v).getD (.bool false)
theorem litOf_eq {v : Value} {l : Lit} (h : keyOf P k v = some l) : litOf P k v = l := by unfold litOf; rw [h]; rfl
def encE (P : Program) (k : TypeId) (mkK : κ → Value) (mkV : α → Value) (p : κ × α) : Lit × DataW Value := (litOf P k (mkK p.1), .held (mkV p.2))

/-- Block b is a map that holds just these entries. -/
structure MapL (P : Program) (k : TypeId) (mkK : κ → Value) (mkV : α → Value) (w : World) (b : Nat) (E : List (κ × α)) : Prop where
  own : ∃ D, w.ownsMap P k (heldBy mkV) b E.length (.map D) ∧ D.Perm (E.map (encE P k mkK mkV))
  keys : ∀ p ∈ E, ∃ l, keyOf P k (mkK p.1) = some l
  apart : E.Pairwise (fun p q => mkK p.1 ≠ mkK q.1)

theorem ownsMap_size {H : Type} {R : Value → Option (DataW H × List MemPlace)} {w : World} {b n : Nat} {D : DataW H} (h : w.ownsMap P k R b n D) : w.ownsMap P k R b (Maps.size D) D := by
  obtain ⟨es, clock, hb, F, _, rfl⟩ := h
  exact ⟨es, clock, hb, F, by simp [Maps.size, length_sorted], rfl⟩

theorem MapL.made (P : Program) (k : TypeId) (mkK : κ → Value) (mkV : α → Value) (w : World) : MapL P k mkK mkV (w.alloc (.map #[] 0)) w.heap.size [] :=
  ⟨⟨[], World.ownsMap_made w P k _, List.Perm.nil⟩, fun p hp => by simp at hp, List.Pairwise.nil⟩
theorem MapL.lt {w : World} {b : Nat} {E : List (κ × α)} (h : MapL P k mkK mkV w b E) : b < w.heap.size := by
  obtain ⟨⟨D, h1, _⟩, _, _⟩ := h
  exact h1.lt
theorem MapL.kept {w w' : World} {b : Nat} {E : List (κ × α)} {row : Option Nat} (h : MapL P k mkK mkV w b E) (hg : w.grownBy w' row) (hne : some b ≠ row) : MapL P k mkK mkV w' b E := by
  obtain ⟨⟨D, h1, h2⟩, h3, h4⟩ := h
  exact ⟨⟨D, h1.kept hg hne, h2⟩, h3, h4⟩
theorem MapL.block {w w' : World} {b : Nat} {E : List (κ × α)} (h : MapL P k mkK mkV w b E) (hb : w'.heap[b]? = w.heap[b]?) : MapL P k mkK mkV w' b E := by
  obtain ⟨⟨D, ⟨es, clock, h1, h1'⟩, h2⟩, h3, h4⟩ := h
  exact ⟨⟨D, ⟨es, clock, hb.trans h1, h1'⟩, h2⟩, h3, h4⟩
theorem MapL.below {w w' : World} {b : Nat} {E : List (κ × α)} (h : MapL P k mkK mkV w b E) (hb : RowKit.Below w.heap.size w w') : MapL P k mkK mkV w' b E := h.block (hb.block b h.lt)
theorem MapL.alloc {w : World} {b : Nat} {E : List (κ × α)} (h : MapL P k mkK mkV w b E) (o : Obj) : MapL P k mkK mkV (w.alloc o) b E := h.kept (World.grownBy_alloc w o none) (by simp)
theorem MapL.perm {w : World} {b : Nat} {E E' : List (κ × α)} (h : MapL P k mkK mkV w b E) (hp : E.Perm E') : MapL P k mkK mkV w b E' := by
  obtain ⟨⟨D, h1, h2⟩, h3, h4⟩ := h
  exact ⟨⟨D, by rw [← hp.length_eq]; exact h1, h2.trans (hp.map _)⟩, fun p hp' => h3 p (hp.mem_iff.2 hp'), (hp.pairwise_iff (fun {_ _} h => Ne.symm h)).1 h4⟩

theorem litOf_key (K : Keyed P k) {x : κ} {l : Lit} (hx : keyOf P k (mkK x) = some l) {y : κ} {m : Lit} (hy : keyOf P k (mkK y) = some m) (e : litOf P k (mkK y) = l) : mkK y = mkK x := by
  rw [litOf_eq hy] at e
  subst e
  exact K.inj hy hx

/-- What stands at a key. -/
theorem MapL.at_key {E : List (κ × α)} (K : Keyed P k) {x : κ} {l : Lit} (hx : keyOf P k (mkK x) = some l) {D : List (Lit × DataW Value)} (hD : D.Perm (E.map (encE P k mkK mkV))) (hk : ∀ p ∈ E, ∃ l, keyOf P k (mkK p.1) = some l) :
    (∃ y v, (y, v) ∈ E ∧ mkK y = mkK x ∧ Maps.has (.map D) l = true ∧ ∀ zd, (DataW.map D).atKey l zd = .held (mkV v)) ∨ ((∀ p ∈ E, mkK p.1 ≠ mkK x) ∧ Maps.has (.map D) l = false ∧ ∀ zd, (DataW.map D).atKey l zd = zd) := by
  cases hf : D.find? (fun p => p.1.sameKey l) with
  | none =>
    refine .inr ⟨fun p hp e => ?_, ?_, fun zd => ?_⟩
    · obtain ⟨m, hm⟩ := hk p hp
      have := List.find?_eq_none.1 hf (encE P k mkK mkV p) (hD.mem_iff.2 (List.mem_map.2 ⟨p, hp, rfl⟩))
      rw [show (encE P k mkK mkV p).1 = l from by show litOf P k (mkK p.1) = l; rw [e]; exact litOf_eq hx, WideAt.sameKey_self (K.key hx)] at this
      exact this rfl
    · show D.any (fun p => p.1.sameKey l) = false
      rw [List.any_eq_false]
      intro p hp
      simpa using List.find?_eq_none.1 hf p hp
    · simp only [DataW.atKey, hf]
  | some p =>
    have hsk : p.1.sameKey l = true := List.find?_some (p := fun p : Lit × DataW Value => p.1.sameKey l) hf
    have h1 : p.1 = l := WideAt.sameKey_eq hsk
    obtain ⟨⟨y, v⟩, hq, rfl⟩ := List.mem_map.1 (hD.mem_iff.1 (List.mem_of_find?_eq_some hf))
    obtain ⟨m, hm⟩ := hk _ hq
    refine .inl ⟨y, v, hq, litOf_key K hx hm h1, ?_, fun zd => ?_⟩
    · show D.any (fun p => p.1.sameKey l) = true
      exact List.any_eq_true.2 ⟨_, List.mem_of_find?_eq_some hf, hsk⟩
    · simp only [DataW.atKey, hf]
      rfl

theorem MapL.look {t e : TypeId} {w : World} {b : Nat} {E : List (κ × α)} (h : MapL P k mkK mkV w b E) (K : Keyed P k) (ht : P.underlying t = some (.map k e)) {z : α} (hz : (zeroValue e).run P w = .ok (mkV z) w) {x : κ} {l : Lit} (hx : keyOf P k (mkK x) = some l) (inj : ∀ y, mkK y = mkK x → y = x) :
    (∃ v, (x, v) ∈ E ∧ (Instr.lookup t (.map (some b)) (mkK x) true).run P w = .ok (.tuple #[mkV v, .bool true]) w ∧ (Instr.lookup t (.map (some b)) (mkK x) false).run P w = .ok (mkV v) w) ∨
    ((∀ p ∈ E, p.1 ≠ x) ∧ (Instr.lookup t (.map (some b)) (mkK x) true).run P w = .ok (.tuple #[mkV z, .bool false]) w ∧ (Instr.lookup t (.map (some b)) (mkK x) false).run P w = .ok (mkV z) w) := by
  obtain ⟨⟨D, h1, h2⟩, h3, h4⟩ := h
  obtain ⟨v, ps, r1, r2⟩ := h1.look_ok K ht hz (heldBy_mk mkV z) hx
  obtain ⟨v', ps', r1', r2'⟩ := h1.lookup K ht hz (heldBy_mk mkV z) hx
  rcases MapL.at_key K hx h2 h3 with ⟨y, u, hy, hk, hh, ha⟩ | ⟨hn, hh, ha⟩
  · obtain rfl := inj y hk
    rw [ha] at r2 r2'
    have e1 := (heldBy_inv r2).2
    have e2 := (heldBy_inv r2').2
    simp only [Prod.mk.injEq, DataW.held.injEq] at e1 e2
    obtain ⟨rfl, _⟩ := e1
    obtain ⟨rfl, _⟩ := e2
    rw [hh] at r1
    exact .inl ⟨u, hy, r1, r1'⟩
  · rw [ha] at r2 r2'
    have e1 := (heldBy_inv r2).2
    have e2 := (heldBy_inv r2').2
    simp only [Prod.mk.injEq, DataW.held.injEq] at e1 e2
    obtain ⟨rfl, _⟩ := e1
    obtain ⟨rfl, _⟩ := e2
    rw [hh] at r1
    exact .inr ⟨fun p hp e => hn p hp (by rw [e]), r1, r1'⟩

section
variable [DecidableEq κ]
/-- Entries at other keys. -/
def without (E : List (κ × α)) (x : κ) : List (κ × α) := E.filter (fun p => decide (p.1 ≠ x))
theorem filter_enc {E : List (κ × α)} (K : Keyed P k) {x : κ} {l : Lit} (hx : keyOf P k (mkK x) = some l) (hk : ∀ p ∈ E, ∃ l, keyOf P k (mkK p.1) = some l) (inj : ∀ y, mkK y = mkK x → y = x) :
    (E.map (encE P k mkK mkV)).filter (fun p => !p.1.sameKey l) = (without E x).map (encE P k mkK mkV) := by
  unfold without
  rw [List.filter_map]
  congr 1
  apply List.filter_congr
  intro p hp
  obtain ⟨m, hm⟩ := hk p hp
  show (!(litOf P k (mkK p.1)).sameKey l) = decide (p.1 ≠ x)
  by_cases e : p.1 = x
  · rw [e, litOf_eq hx, WideAt.sameKey_self (K.key hx)]; simp
  · rw [Maps.sameKey_ne (fun e2 => e (inj _ (litOf_key K hx hm e2)))]; simp [e]
theorem without_len (E : List (κ × α)) (x : κ) : (without E x).length ≤ E.length := List.length_filter_le _ _
theorem mem_without {E : List (κ × α)} {x : κ} {p : κ × α} : p ∈ without E x ↔ p ∈ E ∧ p.1 ≠ x := by unfold without; simp

theorem MapL.store {t e : TypeId} {w : World} {b : Nat} {E : List (κ × α)} (h : MapL P k mkK mkV w b E) (K : Keyed P k) (ht : P.underlying t = some (.map k e)) (hn : E.length < maxLen) {x : κ} {l : Lit} (hx : keyOf P k (mkK x) = some l) (inj : ∀ y, mkK y = mkK x → y = x) (v : α) :
    ∃ w', (Instr.mapUpdate t (.map (some b)) (mkK x) (mkV v)).run P w = .ok () w' ∧ MapL P k mkK mkV w' b ((x, v) :: without E x) ∧ w.mapTurned w' b := by
  obtain ⟨⟨D, h1, h2⟩, h3, h4⟩ := h
  obtain ⟨w', r1, r2, r3⟩ := h1.store K ht hn hx (heldBy_mk mkV v)
  have hp : (DataW.insert (l, .held (mkV v)) (D.filter fun p => !p.1.sameKey l)).Perm (((x, v) :: without E x).map (encE P k mkK mkV)) := by
    refine (insert_perm _ _).trans ?_
    rw [List.map_cons, ← filter_enc K hx h3 inj, show encE P k mkK mkV (x, v) = (l, .held (mkV v)) from by show (litOf P k (mkK x), _) = _; rw [litOf_eq hx]]
    exact (h2.filter _).cons _
  refine ⟨w', r1, ⟨⟨_, ?_, hp⟩, fun p hp => ?_, List.pairwise_cons.2 ⟨fun q hq e => ?_, h4.filter _⟩⟩, r3⟩
  · have := ownsMap_size r2
    rw [← hp.length_eq.trans (List.length_map _)]
    exact this
  · rcases List.mem_cons.1 hp with rfl | hp
    · exact ⟨l, hx⟩
    · exact h3 p (mem_without.1 hp).1
  · exact (mem_without.1 hq).2 (inj _ e.symm)

theorem MapL.drop {t e : TypeId} {w : World} {b : Nat} {E : List (κ × α)} (h : MapL P k mkK mkV w b E) (K : Keyed P k) (ht : P.underlying t = some (.map k e)) {x : κ} {l : Lit} (hx : keyOf P k (mkK x) = some l) (inj : ∀ y, mkK y = mkK x → y = x) (ty : TypeId) :
    ∃ w', (Builtin.delete_ #[t, k] ty #[.map (some b), mkK x]).run P w = .ok (.tuple #[]) w' ∧ MapL P k mkK mkV w' b (without E x) ∧ w.mapTurned w' b := by
  obtain ⟨⟨D, h1, h2⟩, h3, h4⟩ := h
  obtain ⟨w', r1, r2, r3⟩ := h1.drop K ht hx ty
  have hp : (D.filter fun p => !p.1.sameKey l).Perm ((without E x).map (encE P k mkK mkV)) := by
    rw [← filter_enc K hx h3 inj]
    exact h2.filter _
  refine ⟨w', r1, ⟨⟨_, ?_, hp⟩, fun p hp => h3 p (mem_without.1 hp).1, h4.filter _⟩, r3⟩
  have := ownsMap_size r2
  rw [← hp.length_eq.trans (List.length_map _)]
  exact this
end

/-- A range over such a map, under way: what has come. -/
structure RangeL (P : Program) (k : TypeId) (mkK : κ → Value) (mkV : α → Value) (w : World) (b r : Nat) (E done : List (κ × α)) (cnt : Nat) : Prop where
  rg : ∃ D left, w.ranges P k (heldBy mkV) b r E.length (.map D) left cnt ∧ D.Perm (E.map (encE P k mkK mkV)) ∧ ∀ p ∈ E, left (litOf P k (mkK p.1)) = true ↔ p ∉ done
  keys : ∀ p ∈ E, ∃ l, keyOf P k (mkK p.1) = some l
  apart : E.Pairwise (fun p q => mkK p.1 ≠ mkK q.1)
  sub : ∀ p ∈ done, p ∈ E
  nodup : done.Nodup

theorem RangeL.lt {w : World} {b r : Nat} {E done : List (κ × α)} {cnt : Nat} (h : RangeL P k mkK mkV w b r E done cnt) : r < w.heap.size ∧ b < w.heap.size ∧ r ≠ b := by
  obtain ⟨⟨D, left, h1, _⟩, _⟩ := h
  exact ⟨h1.lt, h1.owns.lt, h1.ne⟩
theorem RangeL.mapL {w : World} {b r : Nat} {E done : List (κ × α)} {cnt : Nat} (h : RangeL P k mkK mkV w b r E done cnt) : MapL P k mkK mkV w b E := by
  obtain ⟨⟨D, left, h1, h2, _⟩, h3, h4, _⟩ := h
  exact ⟨⟨D, h1.owns, h2⟩, h3, h4⟩
theorem RangeL.kept {w w' : World} {b r : Nat} {E done : List (κ × α)} {cnt : Nat} {row : Option Nat} (h : RangeL P k mkK mkV w b r E done cnt) (hg : w.grownBy w' row) (hb : some b ≠ row) (hr : some r ≠ row) : RangeL P k mkK mkV w' b r E done cnt := by
  obtain ⟨⟨D, left, h1, h2⟩, h3⟩ := h
  exact ⟨⟨D, left, h1.kept hg hb hr, h2⟩, by assumption, by assumption, by assumption, by assumption⟩
theorem RangeL.alloc {w : World} {b r : Nat} {E done : List (κ × α)} {cnt : Nat} (h : RangeL P k mkK mkV w b r E done cnt) (o : Obj) : RangeL P k mkK mkV (w.alloc o) b r E done cnt := h.kept (World.grownBy_alloc w o none) (by simp) (by simp)
theorem RangeL.left {w : World} {b r : Nat} {E done : List (κ × α)} {cnt : Nat} (h : RangeL P k mkK mkV w b r E done cnt) : w.rangeLeft b r = cnt := by
  obtain ⟨⟨D, left, h1, _⟩, _⟩ := h
  exact h1.left_eq
theorem RangeL.len {w : World} {b r : Nat} {E done : List (κ × α)} {cnt : Nat} (h : RangeL P k mkK mkV w b r E done cnt) : done.length ≤ E.length :=
  h.nodup.length_le_of_subset h.sub

theorem MapL.range {t e : TypeId} {w : World} {b : Nat} {E : List (κ × α)} (h : MapL P k mkK mkV w b E) (K : Keyed P k) (ht : P.underlying t = some (.map k e)) :
    ∃ w' cnt, (Instr.range t (.map (some b))).run P w = .ok (.pointer (some ⟨w.heap.size, 0, none⟩)) w' ∧ RangeL P k mkK mkV w' b w.heap.size E [] cnt ∧ w.grownBy w' none ∧ w'.heap.size = w.heap.size + 1 := by
  obtain ⟨⟨D, h1, h2⟩, h3, h4⟩ := h
  obtain ⟨w', r1, r2, r3, r4⟩ := h1.range K ht
  refine ⟨w', _, r1, ⟨⟨D, _, r2, h2, fun p hp => ?_⟩, h3, h4, by simp, List.nodup_nil⟩, r3, r4⟩
  obtain ⟨l, hl⟩ := h3 p hp
  simp only [List.not_mem_nil, not_false_eq_true, iff_true]
  refine List.any_eq_true.2 ⟨encE P k mkK mkV p, h2.mem_iff.2 (List.mem_map.2 ⟨p, hp, rfl⟩), ?_⟩
  show (litOf P k (mkK p.1)).sameKey (litOf P k (mkK p.1)) = true
  rw [litOf_eq hl]
  exact WideAt.sameKey_self (K.key hl)

theorem entry_of_lit {E : List (κ × α)} (K : Keyed P k) (h3 : ∀ p ∈ E, ∃ l, keyOf P k (mkK p.1) = some l) (h4 : E.Pairwise (fun p q => mkK p.1 ≠ mkK q.1)) {p q : κ × α} (hp : p ∈ E) (hq : q ∈ E) (e : litOf P k (mkK p.1) = litOf P k (mkK q.1)) : p = q := by
  obtain ⟨l, hl⟩ := h3 p hp
  obtain ⟨m, hm⟩ := h3 q hq
  have hk : mkK p.1 = mkK q.1 := by
    rw [litOf_eq hl, litOf_eq hm] at e
    subst e
    exact K.inj hl hm
  obtain ⟨i, hi⟩ := List.getElem?_of_mem hp
  obtain ⟨j, hj⟩ := List.getElem?_of_mem hq
  obtain ⟨hi1, hi2⟩ := List.getElem?_eq_some_iff.1 hi
  obtain ⟨hj1, hj2⟩ := List.getElem?_eq_some_iff.1 hj
  rcases Nat.lt_trichotomy i j with h | h | h
  · exact absurd hk (by have := List.pairwise_iff_getElem.1 h4 i j hi1 hj1 h; rw [hi2, hj2] at this; exact this)
  · subst h
    rw [hi] at hj
    exact Option.some.inj hj
  · exact absurd hk.symm (by have := List.pairwise_iff_getElem.1 h4 j i hj1 hi1 h; rw [hi2, hj2] at this; exact this)

theorem RangeL.next {w : World} {b r : Nat} {E done : List (κ × α)} {cnt : Nat} (h : RangeL P k mkK mkV w b r E done cnt) (K : Keyed P k) (ty : TypeId) :
    (done.Perm E ∧ (Instr.next (.pointer (some ⟨r, 0, none⟩)) false ty).run P w = .ok (.tuple #[.bool false]) w) ∨
    ∃ x v w' cnt', (x, v) ∈ E ∧ (x, v) ∉ done ∧ (Instr.next (.pointer (some ⟨r, 0, none⟩)) false ty).run P w = .ok (.tuple #[.bool true, mkK x, mkV v]) w' ∧
      RangeL P k mkK mkV w' b r E (done ++ [(x, v)]) cnt' ∧ cnt' < cnt ∧ w.grownBy w' (some r) ∧ w'.heap.size = w.heap.size ∧ (Instr.entry (.pointer (some ⟨r, 0, none⟩))).run P w' = .ok (.tuple #[mkK x, mkV v]) w' := by
  obtain ⟨⟨D, left, h1, h2, hl⟩, h3, h4, h5, h6⟩ := h
  rcases h1.next K ty with ⟨_, hn, hrun⟩ | ⟨key, v, kl, y, w', cnt', hkey, hlk, hv, hat, hrun, hrg, hlt, hgr, hsz, hen⟩
  · exact .inl ⟨(List.perm_ext_iff_of_nodup h6 (h4.imp (fun {a b} h e => h (by rw [e])))).2 fun p => ⟨h5 p, fun hp => Classical.byContradiction fun hnd => by
      have := (hl p hp).2 hnd
      rw [hn] at this
      cases this⟩, hrun⟩
  · have hDk : ∃ p ∈ E, litOf P k (mkK p.1) = kl := by
      obtain ⟨es, clock, since, seen, c0, hb, F, hs, hD, hr, hold, _, _, hl2, _⟩ := h1
      obtain ⟨x, hx, hxk⟩ := hl2 kl hlk
      injection hD with hD
      have : WideElems.rg P k (heldBy mkV) x ∈ D := by rw [hD]; exact mem_sorted.2 (List.mem_map.2 ⟨x, hx, rfl⟩)
      obtain ⟨p, hp, e⟩ := List.mem_map.1 (h2.mem_iff.1 this)
      exact ⟨p, hp, by rw [← hxk, ← e]; rfl⟩
    obtain ⟨⟨x, u⟩, hp, hlit⟩ := hDk
    obtain ⟨m, hm⟩ := h3 _ hp
    rw [litOf_eq hm] at hlit
    subst hlit
    obtain rfl := K.inj hkey hm
    have hu : v = mkV u := by
      rcases MapL.at_key K hkey h2 h3 with ⟨y', u', hy', hk', _, ha⟩ | ⟨hnone, _, _⟩
      · have e1 : (y', u') = (x, u) := entry_of_lit K h3 h4 hy' hp (by show litOf P k (mkK y') = litOf P k (mkK x); rw [hk'])
        injection e1 with _ e1
        subst e1
        have e2 := (hat .nil).symm.trans (ha .nil)
        have e3 := (heldBy_inv hv).2
        rw [e3] at e2
        simpa using e2
      · exact absurd rfl (hnone _ hp)
    subst hu
    have hnd : (x, u) ∉ done := (hl _ hp).1 (by rw [show litOf P k (mkK (x, u).1) = m from litOf_eq hkey]; exact hlk)
    refine .inr ⟨x, u, w', cnt', hp, hnd, hrun, ⟨⟨D, _, hrg, h2, fun q hq => ?_⟩, h3, h4, fun q hq => ?_, ?_⟩, hlt, hgr, hsz, hen⟩
    · show (left (litOf P k (mkK q.1)) && !(litOf P k (mkK q.1)).sameKey m) = true ↔ _
      by_cases e : q = (x, u)
      · subst e
        rw [litOf_eq hkey, WideAt.sameKey_self (K.key hkey)]
        simp
      · have : (litOf P k (mkK q.1)).sameKey m = false := Maps.sameKey_ne fun e2 => e (entry_of_lit K h3 h4 hq hp (by rw [e2]; exact (litOf_eq hkey).symm))
        rw [this]
        simp only [Bool.not_false, Bool.and_true, List.mem_append, List.mem_singleton, not_or]
        rw [hl q hq]
        exact ⟨fun h => ⟨h, e⟩, fun h => h.1⟩
    · rcases List.mem_append.1 hq with hq | hq
      · exact h5 q hq
      · rw [List.mem_singleton.1 hq]; exact hp
    · refine List.nodup_append.2 ⟨h6, by simp, fun a ha b hb e => ?_⟩
      rw [List.mem_singleton.1 hb] at e
      exact hnd (e ▸ ha)
end

/-! ### at the operations -/
section
variable {P : Program} {κ α : Type} {mkK : κ → Value} {mkV : α → Value} (w : World) {ops : Array Oper} {rest : List Oper} {o : Oper} {a : Act} {Q : Exit → Act → World → Prop}

theorem wpList_lookL (ok : Bool) (hg : o.guard = none) (m x : Operand) (t : TypeId) (hop : o.op = Op.lookup t m x ok) (k e : TypeId) (K : Keyed P k) (ht : P.underlying t = some (.map k e)) (z : α) (hz : (zeroValue e).run P w = .ok (mkV z) w) (b : Nat) (E : List (κ × α))
    (hm : a.eval m = .map (some b)) (h : MapL P k mkK mkV w b E) (key : κ) (hx : a.eval x = mkK key) {l : Lit} (hkey : keyOf P k (mkK key) = some l) (inj : ∀ y, mkK y = mkK key → y = key)
    (hHas : ∀ v, (key, v) ∈ E → wpList P ops Q rest (a.put o.dst (if ok then .tuple #[mkV v, .bool true] else mkV v)) w)
    (hNot : (∀ p ∈ E, p.1 ≠ key) → wpList P ops Q rest (a.put o.dst (if ok then .tuple #[mkV z, .bool false] else mkV z)) w) : wpList P ops Q (o :: rest) a w := by
  refine wpList_plain hg fun K' hK' => ?_
  unfold Oper.wp
  rcases h.look K ht hz hkey inj with ⟨v, hv, r1, r2⟩ | ⟨hn, r1, r2⟩
  · cases ok
    · simp [execOp, hop, hm, hx, r2, Result.andThen]
      exact hK' _ _ (hHas v hv)
    · simp [execOp, hop, hm, hx, r1, Result.andThen]
      exact hK' _ _ (hHas v hv)
  · cases ok
    · simp [execOp, hop, hm, hx, r2, Result.andThen]
      exact hK' _ _ (hNot hn)
    · simp [execOp, hop, hm, hx, r1, Result.andThen]
      exact hK' _ _ (hNot hn)

theorem wpList_storeL [DecidableEq κ] (hg : o.guard = none) (m x v : Operand) (t : TypeId) (hop : o.op = Op.mapUpdate t m x v) (k e : TypeId) (K : Keyed P k) (ht : P.underlying t = some (.map k e)) (b : Nat) (E : List (κ × α))
    (hm : a.eval m = .map (some b)) (h : MapL P k mkK mkV w b E) (hn : E.length < maxLen) (key : κ) (val : α) (hx : a.eval x = mkK key) (hv : a.eval v = mkV val) {l : Lit} (hkey : keyOf P k (mkK key) = some l) (inj : ∀ y, mkK y = mkK key → y = key)
    (hK : ∀ w', MapL P k mkK mkV w' b ((key, val) :: without E key) → w.mapTurned w' b → wpList P ops Q rest (a.put o.dst undef) w') : wpList P ops Q (o :: rest) a w := by
  refine wpList_plain hg fun K' hK' => ?_
  obtain ⟨w', hrun, r1, r2⟩ := h.store K ht hn hkey inj val
  unfold Oper.wp
  simp [execOp, hop, hm, hx, hv, hrun, Result.andThen]
  exact hK' _ _ (hK w' r1 r2)

theorem wpList_deleteL [DecidableEq κ] (hg : o.guard = none) (m x : Operand) (t k : TypeId) (hop : o.op = Op.call { callee := Callee.builtin Builtin.delete, args := #[m, x], argTypes := #[t, k] }) (e : TypeId) (K : Keyed P k) (ht : P.underlying t = some (.map k e)) (b : Nat) (E : List (κ × α))
    (hm : a.eval m = .map (some b)) (h : MapL P k mkK mkV w b E) (key : κ) (hx : a.eval x = mkK key) {l : Lit} (hkey : keyOf P k (mkK key) = some l) (inj : ∀ y, mkK y = mkK key → y = key)
    (hK : ∀ w', MapL P k mkK mkV w' b (without E key) → w.mapTurned w' b → wpList P ops Q rest (a.put o.dst (.tuple #[])) w') : wpList P ops Q (o :: rest) a w := by
  refine wpList_plain hg fun K' hK' => ?_
  obtain ⟨w', hrun, r1, r2⟩ := h.drop K ht hkey inj o.type
  unfold Oper.wp
  simp [execOp, hop, resolve, invoke, builtin, hm, hx, hrun, Result.andThen]
  exact hK' _ _ (hK w' r1 r2)

theorem wpList_rangeL (hg : o.guard = none) (m : Operand) (t : TypeId) (hop : o.op = Op.range t m) (k e : TypeId) (K : Keyed P k) (ht : P.underlying t = some (.map k e)) (b : Nat) (E : List (κ × α))
    (hm : a.eval m = .map (some b)) (h : MapL P k mkK mkV w b E)
    (hK : ∀ w' cnt, RangeL P k mkK mkV w' b w.heap.size E [] cnt → w.grownBy w' none → w'.heap.size = w.heap.size + 1 → wpList P ops Q rest (a.put o.dst (.pointer (some ⟨w.heap.size, 0, none⟩))) w') : wpList P ops Q (o :: rest) a w := by
  refine wpList_plain hg fun K' hK' => ?_
  obtain ⟨w', cnt, hrun, r1, r2, r3⟩ := h.range K ht
  unfold Oper.wp
  simp [execOp, hop, hm, hrun, Result.andThen]
  exact hK' _ _ (hK w' cnt r1 r2 r3)

theorem wpList_nextL (hg : o.guard = none) (it : Operand) (hop : o.op = Op.next it false) (k : TypeId) (K : Keyed P k) (b r : Nat) (E done : List (κ × α)) (cnt : Nat)
    (hit : a.eval it = .pointer (some ⟨r, 0, none⟩)) (h : RangeL P k mkK mkV w b r E done cnt)
    (hDone : done.Perm E → wpList P ops Q rest (a.put o.dst (.tuple #[.bool false])) w)
    (hMore : ∀ x v w' cnt', (x, v) ∈ E → (x, v) ∉ done → RangeL P k mkK mkV w' b r E (done ++ [(x, v)]) cnt' → cnt' < cnt → w.grownBy w' (some r) → w'.heap.size = w.heap.size →
      (Instr.entry (.pointer (some ⟨r, 0, none⟩))).run P w' = .ok (.tuple #[mkK x, mkV v]) w' → wpList P ops Q rest (a.put o.dst (.tuple #[.bool true, mkK x, mkV v])) w') : wpList P ops Q (o :: rest) a w := by
  refine wpList_plain hg fun K' hK' => ?_
  unfold Oper.wp
  rcases h.next K o.type with ⟨hl, hrun⟩ | ⟨x, v, w', cnt', h1, h2, hrun, h3, h4, h5, h6, h7⟩
  · simp [execOp, hop, hit, hrun, Result.andThen]
    exact hK' _ _ (hDone hl)
  · simp [execOp, hop, hit, hrun, Result.andThen]
    exact hK' _ _ (hMore x v w' cnt' h1 h2 h3 h4 h5 h6 h7)
end
end Go.Proofs.YtlkncmpengpbiaaGreatDoor

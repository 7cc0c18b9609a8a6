/- The sagas of the law MatchAgree: of orders, and what came of each. -/
import Derived.Test.YtlfibaijpimocaaDoorMatchTold2
import Derived.Test.YtlfibaijpimocaaDoorOrdersCk
import Derived.Test.YtlfibaijpimocaaDoorMatchLawFind
namespace Go.Proofs.YtlfibaijpimocaaDoor
open Go.RowKit Go.Maps Key Rw Sa Ma To Od

abbrev Ord5 : Type := Int × List UInt8 × List UInt8 × Int × Int
namespace Sa
theorem setI_keeps (s : Sg) (k v : Int) : (setI s k v).id = s.id ∧ (setI s k v).qty = s.qty ∧ (setI s k v).amt = s.amt := by
  unfold setI; repeat' (first | exact ⟨rfl, rfl, rfl⟩ | split)
theorem onI_keeps (s : Sg) : (onI s).id = s.id ∧ (onI s).qty = s.qty ∧ (onI s).amt = s.amt := by
  unfold onI; repeat' (first | exact ⟨rfl, rfl, rfl⟩ | split)
theorem wStep_keeps (s : Sg) (b : Int) : (wStep s b).id = s.id ∧ (wStep s b).qty = s.qty ∧ (wStep s b).amt = s.amt := by
  unfold wStep
  split
  · split
    · unfold Sa.stopI
      have h1 := onI_keeps { setI s (waitsI s) 4 with can := true }
      have h2 := setI_keeps s (waitsI s) 4
      exact ⟨h1.1.trans h2.1, h1.2.1.trans h2.2.1, h1.2.2.trans h2.2.2⟩
    · exact ⟨rfl, rfl, rfl⟩
  · unfold replyI
    have h1 := onI_keeps (setI s (waitsI s) (wCode s b + 1))
    have h2 := setI_keeps s (waitsI s) (wCode s b + 1)
    exact ⟨h1.1.trans h2.1, h1.2.1.trans h2.2.1, h1.2.2.trans h2.2.2⟩
theorem wGo_keeps : ∀ (l : List Int) (s : Sg), (wGo l s).id = s.id ∧ (wGo l s).qty = s.qty ∧ (wGo l s).amt = s.amt
  | [], _ => ⟨rfl, rfl, rfl⟩
  | b :: l, s => by
    unfold wGo
    split
    · exact ⟨rfl, rfl, rfl⟩
    · have h1 := wGo_keeps l (wStep s b)
      have h2 := wStep_keeps s b
      exact ⟨h1.1.trans h2.1, h1.2.1.trans h2.2.1, h1.2.2.trans h2.2.2⟩
theorem went_keeps (i : Int) (r k : List UInt8) (q a : Int) (l : List Int) : (wentI i r k q a l).id = i ∧ (wentI i r k q a l).qty = q ∧ (wentI i r k q a l).amt = a := wGo_keeps _ _
end Sa
def sgO (o : Ord5) (i : Nat) (l : List Int) : Sg := wentI ((i : Int) + 1) o.2.1 o.2.2.1 o.2.2.2.1 o.2.2.2.2 l
def agL (O : List Ord5) (Wy : List (List Int)) (n : Nat) : List Sg := (List.range n).map fun i => match O[i]? with | none => sgO (0, [], [], 0, 0) i [] | some o => sgO o i ((Wy[i]?).getD [])
theorem agL_succ {O : List Ord5} {Wy : List (List Int)} {k : Nat} {o : Ord5} (h : O[k]? = some o) : agL O Wy (k + 1) = agL O Wy k ++ [sgO o k ((Wy[k]?).getD [])] := by
  unfold agL; rw [List.range_succ, List.map_append]; simp [h]
theorem agL_len (O : List Ord5) (Wy : List (List Int)) (n : Nat) : (agL O Wy n).length = n := by unfold agL; simp
def AgOk (O : List Ord5) (n : Nat) : Prop := ∀ (j : Nat) (o : Ord5), j < n → O[j]? = some o → 1 ≤ o.2.2.2.1 ∧ o.2.2.2.1 ≤ 999 ∧ 1 ≤ o.2.2.2.2 ∧ o.2.2.2.2 ≤ 1099511627776
theorem AgOk.zero (O : List Ord5) : AgOk O 0 := fun j _ h => absurd h (Nat.not_lt_zero j)
theorem AgOk.succ {O : List Ord5} {k : Nat} (h : AgOk O k) {o : Ord5} (ho : O[k]? = some o) (hc : codeO ((k : Int) + 1) o.2.1 o.2.2.1 o.2.2.2.1 o.2.2.2.2 = 0) : AgOk O (k + 1) := by
  intro j x hj hx
  by_cases e : j = k
  · subst e
    rw [ho] at hx
    obtain rfl := Option.some.inj hx
    have := codeO_ok hc
    exact ⟨this.2.2.1, this.2.2.2.1, this.2.2.2.2.1, this.2.2.2.2.2⟩
  · exact h j x (by omega) hx
theorem agL_numd {O : List Ord5} (Wy : List (List Int)) {n : Nat} (h10 : n ≤ 10) (hn : n ≤ O.length) (h : AgOk O n) : Numd (agL O Wy n) := by
  have hat : ∀ (j : Nat) (s : Sg), (agL O Wy n)[j]? = some s → ∃ o, j < n ∧ O[j]? = some o ∧ s = sgO o j ((Wy[j]?).getD []) := by
    intro j s hj
    have hjn : j < n := by have := (List.getElem?_eq_some_iff.1 hj).1; rwa [agL_len] at this
    have ho : O[j]? = some O[j] := List.getElem?_eq_getElem (by omega)
    refine ⟨_, hjn, ho, ?_⟩
    unfold agL at hj
    rw [List.getElem?_map, List.getElem?_range hjn] at hj
    simp only [Option.map_some, Option.some.injEq, ho] at hj
    exact hj.symm
  refine ⟨by rw [agL_len]; exact h10, fun j s hj => ?_, fun s hs => ?_⟩
  · obtain ⟨o, _, _, rfl⟩ := hat j s hj
    exact (went_keeps _ _ _ _ _ _).1
  · obtain ⟨j, hj⟩ := List.getElem?_of_mem hs
    obtain ⟨o, hjn, ho, rfl⟩ := hat j s hj
    have hk := went_keeps ((j : Int) + 1) o.2.1 o.2.2.1 o.2.2.2.1 o.2.2.2.2 ((Wy[j]?).getD [])
    unfold sgO
    rw [hk.2.1, hk.2.2]
    exact h j o hjn ho

/-- Orders as they come. -/
def Ords (w : World) (v : Value) (O : List Ord5) : Prop := SlK w w.heap.size 5 (fun cs x => IsOrd cs x) v O
theorem Ords.at {w W : World} {A : Option Addr} {n c : Nat} {O : List Ord5} (h : Ords w (.slice A n c) O) (hb : Below w.heap.size w W) {k : Nat} {o : Ord5} (hx : O[k]? = some o) : ∃ g off, A = some ⟨g, off, none⟩ ∧
    W.cell? ⟨g, off + k * 5, none⟩ = some (.int .i64 o.1) ∧ W.cell? ⟨g, off + k * 5 + 1, none⟩ = some (.string ⟨o.2.1.toArray⟩) ∧ W.cell? ⟨g, off + k * 5 + 2, none⟩ = some (.string ⟨o.2.2.1.toArray⟩) ∧ W.cell? ⟨g, off + k * 5 + 3, none⟩ = some (.int .i64 o.2.2.2.1) ∧ W.cell? ⟨g, off + k * 5 + 4, none⟩ = some (.int .i64 o.2.2.2.2) := by
  obtain ⟨g, off, cs, rfl, hgl, hcl, hcell, hcs, _⟩ := SlK.at h hx
  subst hcs
  have hk := fun j u hj => (hb.cell (p := ⟨g, off + k * 5 + j, none⟩) hgl).trans (hcell j u hj)
  exact ⟨g, off, rfl, hk 0 _ rfl, hk 1 _ rfl, hk 2 _ rfl, hk 3 _ rfl, hk 4 _ rfl⟩
/-- What came of them. -/
def Wys (w : World) (u : Value) (Wy : List (List Int)) : Prop := SlK w w.heap.size 1 (fun cs L => ∃ x, cs = [x] ∧ SlK w w.heap.size 1 (fun cs x => IsByte cs x) x L) u Wy
theorem Wys.at {w W : World} {A : Option Addr} {n c : Nat} {Wy : List (List Int)} (h : Wys w (.slice A n c) Wy) (hb : Below w.heap.size w W) {k : Nat} {l : List Int} (hx : Wy[k]? = some l) : ∃ g off x, A = some ⟨g, off, none⟩ ∧
    W.cell? ⟨g, off + k, none⟩ = some x ∧ Bys W x l := by
  obtain ⟨g, off, cs, rfl, hgl, hcl, hcell, x, rfl, hl⟩ := SlK.at h hx
  have := (hb.cell (p := ⟨g, off + k * 1 + 0, none⟩) hgl).trans (hcell 0 _ rfl)
  rw [Nat.mul_one, Nat.add_zero] at this
  exact ⟨g, off, x, rfl, this, Bys.keep (w := w) hl hb⟩
theorem Bys.nil (w : World) : Bys w (.slice none 0 0) [] := SlK.nil _ _ _ _
theorem Rd.takeK {w : World} {g off n c : Nat} {l : List R5} (h : Rd w (.slice (some ⟨g, off, none⟩) n c) l) {k : Nat} (hk : k ≤ l.length) : Rd w (.slice (some ⟨g, off, none⟩) k c) (l.take k) := by
  obtain ⟨⟨A, n', c', e, hl, hc, hm, h⟩, _⟩ := h
  injection e with e1 e2 e3; subst e1; subst e2; subst e3
  refine ⟨⟨_, _, _, rfl, by rw [List.length_take]; omega, by omega, hm, fun i x hi => ?_⟩, fun n c e => by injection e with e; cases e⟩
  have hik : i < k := by have := (List.getElem?_eq_some_iff.1 hi).1; rw [List.length_take] at this; omega
  rw [List.getElem?_take_of_lt hik] at hi
  exact h i x hi
theorem Rd.dropK {w : World} {g off n c : Nat} {l : List R5} (h : Rd w (.slice (some ⟨g, off, none⟩) n c) l) {k m c2 : Nat} {B : Option Addr} (hk : k ≤ l.length) (hm2 : m = l.length - k) (hc2 : m ≤ c2) (hc3 : c2 ≤ maxLen) (hB : 0 < m → B = some ⟨g, off + k * 5, none⟩) (hN : B = none → c2 = 0) : Rd w (.slice B m c2) (l.drop k) := by
  obtain ⟨⟨A, n', c', e, hl, hc, hm, h⟩, _⟩ := h
  injection e with e1 e2 e3; subst e1; subst e2; subst e3
  refine ⟨⟨_, _, _, rfl, by rw [List.length_drop]; omega, hc2, hc3, fun i x hi => ?_⟩, fun n c e => by injection e with e1 e2 e3; rw [← e3]; exact hN e1⟩
  rw [List.getElem?_drop] at hi
  have hil := (List.getElem?_eq_some_iff.1 hi).1
  obtain ⟨b, o, cs, e, hlt, hcl, hcell, hr⟩ := h (k + i) x hi
  injection e with e; injection e with e1 e2 _; subst e1; subst e2
  refine ⟨g, off + k * 5, cs, hB (by omega), hlt, hcl, fun j u hj => ?_, hr⟩
  have := hcell j u hj
  rw [show off + (k + i) * 5 + j = off + k * 5 + i * 5 + j by rw [Nat.add_mul]; omega] at this
  exact this
theorem set5_0 {w : World} {b : Nat} {x0 x1 x2 x3 x4 : Value} {T : TypeId} (h : w.heap[b]? = some (.cells #[x0, x1, x2, x3, x4] T (0, 0))) (p : Value) : (w.setCell ⟨b, 0, none⟩ p).heap[b]? = some (.cells #[p, x1, x2, x3, x4] T (0, 0)) := by
  simp [World.setCell, Array.getElem?_modify, h]
theorem set3_1 {w : World} {b : Nat} {x0 x1 x2 : Value} {T : TypeId} (h : w.heap[b]? = some (.cells #[x0, x1, x2] T (0, 0))) (p : Value) : (w.setCell ⟨b, 1, none⟩ p).heap[b]? = some (.cells #[x0, p, x2] T (0, 0)) := by
  simp [World.setCell, Array.getElem?_modify, h]
abbrev tSagas : TypeId := 22
theorem saga_info : (Tryd.prog.info? tSaga).map (fun i => (i.zero, i.size, i.bytes)) = some (some (.agg #[.int .i64 0, .string ⟨#[]⟩, .string ⟨#[]⟩, .int .i64 0, .int .i64 0, .int .i64 0, .int .i64 0, .int .i64 0, .int .i64 0, .int .i64 0, .int .i64 0, .bool false]), 12, 112) := by kernel_rfl
end Go.Proofs.YtlfibaijpimocaaDoor

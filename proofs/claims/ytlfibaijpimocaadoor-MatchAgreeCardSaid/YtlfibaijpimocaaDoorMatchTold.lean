/- What statements tell that know what sagas know, plain: there is no difference; with a row less, just that one. No Go is in sight. -/
import Derived.Test.YtlfibaijpimocaaDoorMatchSpec
import Derived.Test.YtlfibaijpimocaaDoorRowValid
namespace Go.Proofs.YtlfibaijpimocaaDoor
open Key Rw Sa In Ma

namespace To
/-- Is this deed told, by this party? -/
def toldB (p : Int) (s : Sg) (d : Nat) : Bool := decide (partyI (d : Int) = p) && (decide (s.deed (d : Int) = 2) || decide (s.deed (d : Int) = 3))
def toldRow (s : Sg) (d : Nat) : R5 := ((s.id, (d : Int)), if s.deed (d : Int) = 2 then (1, (wantI s (d : Int)).1, (wantI s (d : Int)).2) else (2, 0, 0))
def rowD1 (p : Int) (s : Sg) (d : Nat) : List R5 := if toldB p s d = true then [toldRow s d] else []
def rowsS (p : Int) (s : Sg) (n : Nat) : List R5 := (List.range n).flatMap (rowD1 p s)
def rowsP (p : Int) (l : List Sg) : List R5 := l.flatMap fun s => rowsS p s 6
def stmP (p : Int) (l : List Sg) : Stm := (p, 1, rowsP p l)
def toldI (l : List Sg) : Inn := ⟨stmP 0 l, stmP 1 l, stmP 2 l⟩
theorem rowsS_succ (p : Int) (s : Sg) (n : Nat) : rowsS p s (n + 1) = rowsS p s n ++ rowD1 p s n := by unfold rowsS; rw [List.range_succ, List.flatMap_append]; simp
theorem rowsP_snoc (p : Int) (l : List Sg) (s : Sg) : rowsP p (l ++ [s]) = rowsP p l ++ rowsS p s 6 := by unfold rowsP; rw [List.flatMap_append]; simp
theorem rowsS_len (p : Int) (s : Sg) (n : Nat) : (rowsS p s n).length ≤ n := by
  induction n with
  | zero => simp [rowsS]
  | succ n ih =>
    rw [rowsS_succ, List.length_append]
    have : (rowD1 p s n).length ≤ 1 := by unfold rowD1; split <;> simp
    omega
theorem rowsP_len (p : Int) (l : List Sg) : (rowsP p l).length ≤ 6 * l.length := by
  induction l with
  | nil => simp [rowsP]
  | cons s l ih =>
    have e : rowsP p (s :: l) = rowsS p s 6 ++ rowsP p l := by unfold rowsP; rw [List.flatMap_cons]
    rw [e, List.length_append, List.length_cons]
    have := rowsS_len p s 6
    omega
theorem mem_rowsP {p : Int} {l : List Sg} {r : R5} : r ∈ rowsP p l ↔ ∃ s ∈ l, ∃ d, d < 6 ∧ toldB p s d = true ∧ r = toldRow s d := by
  unfold rowsP rowsS rowD1
  simp only [List.mem_flatMap, List.mem_range]
  constructor
  · rintro ⟨s, hs, d, hd, h⟩
    split at h
    · rw [List.mem_singleton] at h; exact ⟨s, hs, d, hd, by assumption, h⟩
    · cases h
  · rintro ⟨s, hs, d, hd, h, e⟩
    exact ⟨s, hs, d, hd, by rw [if_pos h, List.mem_singleton]; exact e⟩
/-- What is asked of sagas: they are numbered, and amount to something. -/
structure Numd (l : List Sg) : Prop where
  len : l.length ≤ 10
  ids : ∀ (j : Nat) (s : Sg), l[j]? = some s → s.id = (j : Int) + 1
  bd : ∀ s ∈ l, 1 ≤ s.qty ∧ s.qty ≤ 999 ∧ 1 ≤ s.amt ∧ s.amt ≤ 1099511627776
theorem Numd.rise {l : List Sg} (h : Numd l) : l.Pairwise fun a b => a.id < b.id := by
  refine List.pairwise_iff_getElem.2 fun i j hi hj hij => ?_
  rw [h.ids i _ (List.getElem?_eq_getElem hi), h.ids j _ (List.getElem?_eq_getElem hj)]
  omega
theorem Numd.id {l : List Sg} (h : Numd l) {s : Sg} (hs : s ∈ l) : 1 ≤ s.id ∧ s.id ≤ 10 := by
  obtain ⟨j, hj⟩ := List.getElem?_of_mem hs
  have h1 := h.ids j s hj
  have h2 := (List.getElem?_eq_some_iff.1 hj).1
  have := h.len
  omega
theorem Numd.uniq {l : List Sg} (h : Numd l) {s t : Sg} (hs : s ∈ l) (ht : t ∈ l) (e : s.id = t.id) : s = t := by
  obtain ⟨j, hj⟩ := List.getElem?_of_mem hs
  obtain ⟨k, hk⟩ := List.getElem?_of_mem ht
  have h1 := h.ids j s hj
  have h2 := h.ids k t hk
  have : j = k := by omega
  subst this
  rw [hj] at hk
  exact Option.some.inj hk
theorem want_bd {s : Sg} (hb : 1 ≤ s.qty ∧ s.qty ≤ 999 ∧ 1 ≤ s.amt ∧ s.amt ≤ 1099511627776) (d : Nat) (hd : d < 6) :
    (partyI (d : Int) = 0 → (wantI s d).2 = 0 ∧ 0 ≤ (wantI s d).1 ∧ (wantI s d).1 ≤ 1099511627776) ∧ (partyI (d : Int) ≠ 0 → (wantI s d).1 = 0 ∧ 0 ≤ (wantI s d).2 ∧ (wantI s d).2 ≤ 999) := by
  have : d = 0 ∨ d = 1 ∨ d = 2 ∨ d = 3 ∨ d = 4 ∨ d = 5 := by omega
  rcases this with rfl | rfl | rfl | rfl | rfl | rfl <;> refine ⟨fun hp => ?_, fun hp => ?_⟩ <;> (try (exact absurd hp (by decide))) <;> (unfold wantI; simp; try (split <;> simp)) <;> omega
theorem told_ok {p : Int} {l : List Sg} (h : Numd l) {r : R5} (hr : r ∈ rowsP p l) : okRow p r = true := by
  obtain ⟨s, hs, d, hd, ht, rfl⟩ := mem_rowsP.1 hr
  have hi := h.id hs
  have hb := want_bd (h.bd s hs) d hd
  unfold toldB at ht
  simp only [Bool.and_eq_true, Bool.or_eq_true, decide_eq_true_eq] at ht
  obtain ⟨rfl, ht⟩ := ht
  unfold okRow toldRow chk
  by_cases h2 : s.deed (d : Int) = 2
  · simp only [h2, if_true]
    by_cases hp : partyI (d : Int) = 0
    · have := hb.1 hp; simp [hp, this]; omega
    · have := hb.2 hp; simp [hp, this]; omega
  · simp only [h2, if_false]
    simp; omega
theorem okTo_of {p : Int} {l : List R5} (h1 : ∀ r ∈ l, okRow p r = true) (h2 : l.Pairwise fun x y => lessR x y = true) : okTo p l l.length = true := by
  unfold okTo
  rw [List.all_eq_true]
  intro k hk
  have hk := List.mem_range.1 hk
  have hx := List.getElem?_eq_getElem hk
  cases k with
  | zero => rw [okAt_zero hx]; exact h1 _ (List.getElem_mem _)
  | succ j =>
    rw [okAt_succ hx (List.getElem?_eq_getElem (by omega)), h1 _ (List.getElem_mem _), Bool.true_and]
    exact List.pairwise_iff_getElem.1 h2 j (j + 1) (by omega) hk (by omega)
theorem valid_of {p q : Int} {l : List R5} (hp : 0 ≤ p ∧ p ≤ 2) (hq : 1 ≤ q ∧ q ≤ 1073741824) (hl : l.length ≤ 400) (h1 : ∀ r ∈ l, okRow p r = true) (h2 : l.Pairwise fun x y => lessR x y = true) : validB p q l = true := by
  unfold validB checkB
  rw [okTo_of h1 h2]
  simp; omega
theorem told_rise {p : Int} {l : List Sg} (h : Numd l) : (rowsP p l).Pairwise fun x y => lessR x y = true := by
  unfold rowsP
  rw [List.pairwise_flatMap]
  refine ⟨fun s _ => ?_, h.rise.imp fun {a b} hab x hx y hy => ?_⟩
  · unfold rowsS
    rw [List.pairwise_flatMap]
    refine ⟨fun d _ => by unfold rowD1; split <;> simp, List.pairwise_lt_range.imp fun {a b} hab x hx y hy => ?_⟩
    unfold rowD1 at hx hy
    split at hx
    · split at hy
      · rw [List.mem_singleton] at hx hy; subst hx; subst hy
        unfold lessR lessB toldRow; simp; omega
      · cases hy
    · cases hx
  · unfold rowsS rowD1 at hx hy
    simp only [List.mem_flatMap] at hx hy
    obtain ⟨d, _, hx⟩ := hx
    obtain ⟨e, _, hy⟩ := hy
    split at hx
    · split at hy
      · rw [List.mem_singleton] at hx hy; subst hx; subst hy
        unfold lessR lessB toldRow; simp; omega
      · cases hy
    · cases hx
theorem told_valid {p : Int} (hp : 0 ≤ p ∧ p ≤ 2) {l : List Sg} (h : Numd l) : validB p 1 (rowsP p l) = true :=
  valid_of hp (by decide) (by have := rowsP_len p l; have := h.len; omega) (fun r hr => told_ok h hr) (told_rise h)
theorem told_fine {l : List Sg} (h : Numd l) : Fine (toldI l) := ⟨.inr ⟨rfl, told_valid (by decide) h⟩, .inr ⟨rfl, told_valid (by decide) h⟩, .inr ⟨rfl, told_valid (by decide) h⟩⟩
theorem told_at (l : List Sg) {p : Int} (hp : p = 0 ∨ p = 1 ∨ p = 2) : (toldI l).at p = stmP p l := by rcases hp with rfl | rfl | rfl <;> rfl
/-- What the program's told has behind so many parties. -/
def toldK (l : List Sg) (n : Nat) : Inn := if n = 0 then nil else if n = 1 then ⟨stmP 0 l, noS, noS⟩ else if n = 2 then ⟨stmP 0 l, stmP 1 l, noS⟩ else toldI l
theorem toldK_fine {l : List Sg} (h : Numd l) (n : Nat) : Fine (toldK l n) := by
  have H := told_fine h
  unfold toldK
  split
  · exact Fine.nil
  · split
    · exact ⟨H.a, .inl rfl, .inl rfl⟩
    · split
      · exact ⟨H.a, H.b, .inl rfl⟩
      · exact H
theorem toldK_step {l : List Sg} (h : Numd l) {n : Nat} (hn : n < 3) : accE (toldK l n) (stmP n l) = 0 ∧ accI (toldK l n) (stmP n l) = toldK l (n + 1) := by
  have hv : ∀ p : Int, 0 ≤ p ∧ p ≤ 2 → validB (stmP p l).1 (stmP p l).2.1 (stmP p l).2.2 = true := fun p hp => told_valid hp h
  have : n = 0 ∨ n = 1 ∨ n = 2 := by omega
  have hE : accE (toldK l n) (stmP n l) = 0 := by
    unfold accE
    rw [hv n (by omega)]
    rcases this with rfl | rfl | rfl <;> simp [toldK, stmP, Inn.at, nil, noS]
  refine ⟨hE, ?_⟩
  unfold accI
  rw [if_pos hE]
  rcases this with rfl | rfl | rfl <;> rfl
theorem deed_party {d : Nat} (hd : d < 6) : partyI (d : Int) = 0 ∨ partyI (d : Int) = 1 ∨ partyI (d : Int) = 2 := by
  have : d = 0 ∨ d = 1 ∨ d = 2 ∨ d = 3 ∨ d = 4 ∨ d = 5 := by omega
  rcases this with rfl | rfl | rfl | rfl | rfl | rfl <;> decide
/-- Statements of which each row is one of those that are told, and none twice. -/
structure Tells (l : List Sg) (I : Inn) : Prop where
  fine : Fine I
  seq : ∀ p : Int, p = 0 ∨ p = 1 ∨ p = 2 → (I.at p).2.1 ≠ 0
  sub : ∀ p : Int, p = 0 ∨ p = 1 ∨ p = 2 → ∀ r ∈ (I.at p).2.2, r ∈ rowsP p l
theorem Tells.row {l : List Sg} (hn : Numd l) {I : Inn} (h : Tells l I) {s : Sg} (hs : s ∈ l) {d : Nat} (hd : d < 6) :
    (rowOf I (s.id, (d : Int)) = some (toldRow s d) ∧ toldB (partyI d) s d = true ∧ toldRow s d ∈ (I.at (partyI d)).2.2) ∨ (rowOf I (s.id, (d : Int)) = none ∧ toldRow s d ∉ (I.at (partyI d)).2.2) := by
  have hi := hn.id hs
  have hp := deed_party hd
  rw [h.fine.rowOf_party (k := (s.id, (d : Int))) (chk_iff.2 (by simp only []; omega))]
  by_cases hm : toldRow s d ∈ (I.at (partyI d)).2.2
  · have e := find_of (ok_nodup (h.fine.at hp)) hm
    refine .inl ⟨e, ?_, hm⟩
    obtain ⟨t, ht, d', hd', hb, e⟩ := mem_rowsP.1 (h.sub _ hp _ hm)
    have e1 : s.id = t.id := congrArg (fun r : R5 => r.1.1) e
    have e2 : (d : Int) = d' := congrArg (fun r : R5 => r.1.2) e
    obtain rfl := hn.uniq hs ht e1
    obtain rfl : d = d' := by omega
    exact hb
  · refine .inr ⟨?_, hm⟩
    cases e : findR (I.at (partyI d)).2.2 (s.id, (d : Int)) with
    | none => rfl
    | some r =>
      exfalso
      obtain ⟨h1, h2⟩ := find_mem e
      obtain ⟨t, ht, d', hd', hb, er⟩ := mem_rowsP.1 (h.sub _ hp _ h1)
      have e1 : t.id = s.id := by rw [er] at h2; exact congrArg Prod.fst h2
      have e2 : (d' : Int) = d := by rw [er] at h2; exact congrArg Prod.snd h2
      obtain rfl := hn.uniq ht hs e1
      obtain rfl : d' = d := by omega
      rw [er] at h1
      exact hm h1
theorem kind_told (s : Sg) (d : Nat) {p : Int} (h : toldB p s d = true) : kindI s d (toldRow s d).2.1 (toldRow s d).2.2.1 (toldRow s d).2.2.2 true = 0 := by
  unfold toldB at h
  simp only [Bool.and_eq_true, Bool.or_eq_true, decide_eq_true_eq] at h
  unfold kindI toldRow
  rcases h.2 with h | h <;> simp [h]
theorem kind_none (s : Sg) (d : Nat) : kindI s d 0 0 0 false = 0 ∨ kindI s d 0 0 0 false = 2 ∧ toldB (partyI d) s d = true := by
  unfold kindI toldB
  by_cases h1 : s.deed (d : Int) < 0 ∨ 4 < s.deed d
  · simp [h1]
  · by_cases h2 : s.deed (d : Int) = 0
    · simp [h2]
    · rw [if_neg h1, if_neg h2]
      split
      · exact .inl rfl
      · by_cases h3 : s.deed (d : Int) = 2 ∨ s.deed (d : Int) = 3
        · simp [h3]
        · simp [h3]
theorem kind_gone {s : Sg} {d : Nat} {p : Int} (h : toldB p s d = true) : kindI s d 0 0 0 false = 2 := by
  unfold toldB at h
  simp only [Bool.and_eq_true, Bool.or_eq_true, decide_eq_true_eq] at h
  unfold kindI
  rcases h.2 with h | h <;> simp [h]
/-- Each difference is a row that is missing. -/
theorem Tells.mem {l : List Sg} (hn : Numd l) {I : Inn} (h : Tells l I) {x : D3} :
    x ∈ findD l I ↔ ∃ s ∈ l, ∃ d : Nat, d < 6 ∧ toldB (partyI d) s d = true ∧ toldRow s d ∉ (I.at (partyI d)).2.2 ∧ x = ((s.id, (d : Int)), 2) := by
  rw [(find_perm l I).mem_iff]
  unfold allD
  rw [List.mem_append]
  constructor
  · rintro (hx | hx)
    · obtain ⟨j, s, _, hj, _, hx⟩ := mem_sagas hx
      have hs := List.mem_of_getElem? hj
      obtain ⟨d, hd, hk, hx⟩ := mem_deeds hx
      unfold deedD at hx
      rw [if_neg (h.seq _ (deed_party hd))] at hx
      unfold kindOf at hx
      rcases h.row hn hs hd with ⟨e, hb, hm⟩ | ⟨e, hm⟩
      · rw [e] at hx
        simp only [kind_told s d hb] at hx
        simp at hx
      · rw [e] at hx
        simp only [] at hx
        rcases kind_none s d with e0 | ⟨e0, hb⟩
        · rw [e0] at hx; simp at hx
        · rw [e0] at hx
          simp at hx
          exact ⟨s, hs, d, hd, hb, hm, hx⟩
    · obtain ⟨r, hr, hk, rfl⟩ := mem_rows hx
      exfalso
      unfold rowsAll at hr
      have : ∃ p, (p = 0 ∨ p = 1 ∨ p = 2) ∧ r ∈ (I.at p).2.2 := by
        rcases List.mem_append.1 hr with hr | hr
        · rcases List.mem_append.1 hr with hr | hr
          · exact ⟨0, .inl rfl, hr⟩
          · exact ⟨1, .inr (.inl rfl), hr⟩
        · exact ⟨2, .inr (.inr rfl), hr⟩
      obtain ⟨p, hp, hr⟩ := this
      obtain ⟨t, ht, d, hd, hb, rfl⟩ := mem_rowsP.1 (h.sub p hp r hr)
      unfold knownB at hk
      rw [List.any_eq_false] at hk
      exact hk t ht (by simp [toldRow])
  · rintro ⟨s, hs, d, hd, hb, hm, rfl⟩
    left
    obtain ⟨j, hj⟩ := List.getElem?_of_mem hs
    have hjl := (List.getElem?_eq_some_iff.1 hj).1
    refine List.mem_flatMap.2 ⟨j, List.mem_range.2 hjl, ?_⟩
    unfold sagaD
    rw [hj]
    simp only []
    have hf : firstB l j s.id = true := by
      unfold firstB
      rw [List.all_eq_true]
      intro t ht
      obtain ⟨i, hi⟩ := List.getElem?_of_mem ht
      have hij : i < j := by have := (List.getElem?_eq_some_iff.1 hi).1; rw [List.length_take] at this; omega
      rw [List.getElem?_take_of_lt hij] at hi
      have h1 := hn.ids i t hi
      have h2 := hn.ids j s hj
      simp; omega
    rw [if_pos hf]
    refine List.mem_flatMap.2 ⟨d, List.mem_range.2 hd, ?_⟩
    unfold deedD
    rw [if_neg (h.seq _ (deed_party hd))]
    unfold kindOf
    rcases h.row hn hs hd with ⟨_, _, hm'⟩ | ⟨e, _⟩
    · exact absurd hm' hm
    · rw [e]
      simp only [kind_gone hb]
      simp
theorem told_tells {l : List Sg} (hn : Numd l) : Tells l (toldI l) :=
  ⟨told_fine hn, fun p hp => by rw [told_at l hp]; simp [stmP], fun p hp r hr => by rw [told_at l hp] at hr; exact hr⟩
theorem told_none {l : List Sg} (hn : Numd l) : findD l (toldI l) = [] := by
  apply List.eq_nil_iff_forall_not_mem.2
  intro x hx
  obtain ⟨s, hs, d, hd, hb, hm, _⟩ := ((told_tells hn).mem hn).1 hx
  rw [told_at l (deed_party hd)] at hm
  exact hm (mem_rowsP.2 ⟨s, hs, d, hd, hb, rfl⟩)
/-- The statement with its k-th row left out, of the second number. -/
def goneS (p : Int) (l : List Sg) (k : Nat) : Stm := (p, 2, (rowsP p l).take k ++ (rowsP p l).drop (k + 1))
theorem gone_sub (p : Int) (l : List Sg) (k : Nat) : ((rowsP p l).take k ++ (rowsP p l).drop (k + 1)).Sublist (rowsP p l) := by
  rw [← List.eraseIdx_eq_take_drop_succ]; exact List.eraseIdx_sublist _ _
theorem gone_acc {p : Int} (hp : p = 0 ∨ p = 1 ∨ p = 2) {l : List Sg} (hn : Numd l) (k : Nat) : accE (toldI l) (goneS p l k) = 0 ∧ accI (toldI l) (goneS p l k) = (toldI l).put p (goneS p l k) := by
  have hp2 : 0 ≤ p ∧ p ≤ 2 := by omega
  have hv : validB p 2 ((rowsP p l).take k ++ (rowsP p l).drop (k + 1)) = true :=
    valid_of hp2 (by decide) (by have := (gone_sub p l k).length_le; have := rowsP_len p l; have := hn.len; omega) (fun r hr => told_ok hn ((gone_sub p l k).subset hr)) ((told_rise hn).sublist (gone_sub p l k))
  have hE : accE (toldI l) (goneS p l k) = 0 := by
    unfold accE
    rw [show validB (goneS p l k).1 (goneS p l k).2.1 (goneS p l k).2.2 = true from hv, show ((goneS p l k).1 : Int) = p from rfl, told_at l hp]
    simp [goneS, stmP]
  exact ⟨hE, by unfold accI; rw [if_pos hE]; rfl⟩
theorem put_at (I : Inn) {p q : Int} (hp : p = 0 ∨ p = 1 ∨ p = 2) (hq : q = 0 ∨ q = 1 ∨ q = 2) (x : Stm) : (I.put p x).at q = if q = p then x else I.at q := by
  rcases hp with rfl | rfl | rfl <;> rcases hq with rfl | rfl | rfl <;> rfl
theorem gone_tells {p : Int} (hp : p = 0 ∨ p = 1 ∨ p = 2) {l : List Sg} (hn : Numd l) (k : Nat) : Tells l ((toldI l).put p (goneS p l k)) := by
  refine ⟨?_, fun q hq => ?_, fun q hq r hr => ?_⟩
  · rw [← (gone_acc hp hn k).2]; exact (told_fine hn).acc _
  · rw [put_at _ hp hq]
    split
    · simp [goneS]
    · rw [told_at l hq]; simp [stmP]
  · rw [put_at _ hp hq] at hr
    split at hr
    · rename_i e; subst e; exact (gone_sub q l k).subset hr
    · rw [told_at l hq] at hr; exact hr
theorem gone_find {p : Int} (hp : p = 0 ∨ p = 1 ∨ p = 2) {l : List Sg} (hn : Numd l) {k : Nat} {g : R5} (hg : (rowsP p l)[k]? = some g) : findD l ((toldI l).put p (goneS p l k)) = [(g.1, 2)] := by
  have hp2 : 0 ≤ p ∧ p ≤ 2 := by omega
  have ht := gone_tells hp hn k
  have hnd : ((rowsP p l).map (·.1)).Nodup := ok_nodup (x := stmP p l) (.inr ⟨rfl, told_valid hp2 hn⟩)
  have hkl := (List.getElem?_eq_some_iff.1 hg).1
  have hsplit : rowsP p l = (rowsP p l).take k ++ g :: (rowsP p l).drop (k + 1) := by
    conv => lhs; rw [← List.take_append_drop k (rowsP p l), List.drop_eq_getElem_cons hkl]
    rw [(List.getElem?_eq_some_iff.1 hg).2]
  have hgn : g ∉ (rowsP p l).take k ++ (rowsP p l).drop (k + 1) := by
    intro hm
    rw [hsplit, List.map_append, List.map_cons] at hnd
    have := (List.perm_middle.nodup_iff.1 hnd)
    rw [List.nodup_cons, ← List.map_append] at this
    exact this.1 (List.mem_map.2 ⟨g, hm, rfl⟩)
  obtain ⟨s, hs, d, hd, hb, rfl⟩ := mem_rowsP.1 (List.mem_of_getElem? hg)
  have hpd : partyI (d : Int) = p := by unfold toldB at hb; simp only [Bool.and_eq_true, decide_eq_true_eq] at hb; exact hb.1
  have hall : ∀ x, x ∈ findD l ((toldI l).put p (goneS p l k)) ↔ x = ((toldRow s d).1, 2) := by
    intro x
    rw [ht.mem hn]
    constructor
    · rintro ⟨t, htl, e, he, hbt, hm, rfl⟩
      rw [put_at _ hp (deed_party he)] at hm
      split at hm
      · rename_i ep
        have hin : toldRow t e ∈ rowsP p l := mem_rowsP.2 ⟨t, htl, e, he, by rw [← ep]; exact hbt, rfl⟩
        rw [hsplit] at hin
        rcases List.mem_append.1 hin with h | h
        · exact absurd (List.mem_append.2 (.inl h)) hm
        · rcases List.mem_cons.1 h with h | h
          · rw [← h]; rfl
          · exact absurd (List.mem_append.2 (.inr h)) hm
      · rw [told_at l (deed_party he)] at hm
        exact absurd (mem_rowsP.2 ⟨t, htl, e, he, hbt, rfl⟩) hm
    · rintro rfl
      refine ⟨s, hs, d, hd, by rw [hpd]; exact hb, ?_, rfl⟩
      rw [put_at _ hp (deed_party hd), if_pos hpd]
      exact hgn
  have hnd2 := (find_rise l ht.fine)
  generalize findD l ((toldI l).put p (goneS p l k)) = L at hall hnd2
  match L, hall, hnd2 with
  | [], hall, _ => exact absurd ((hall _).2 rfl) (by simp)
  | [x], hall, _ => rw [(hall x).1 (List.mem_cons_self ..)]
  | x :: y :: L, hall, hr =>
    have hx := (hall x).1 (List.mem_cons_self ..)
    have hy := (hall y).1 (List.mem_cons_of_mem _ (List.mem_cons_self ..))
    have := (List.pairwise_cons.1 hr).1 y (List.mem_cons_self ..)
    rw [hx, hy] at this
    exact absurd rfl (less_ne this)
end To
end Go.Proofs.YtlfibaijpimocaaDoor

/- Slices of sagas, whoever they belong to; what a kind is, of what a row tells. -/
import Derived.Test.YtlkncmpengpbiaaGreatDoorSagaKnown
import Derived.Test.YtlkncmpengpbiaaGreatDoorMatchLay
import Derived.Test.YtlkncmpengpbiaaGreatDoorIntakeRow
import Derived.Test.YtlkncmpengpbiaaGreatDoorShelf
import Derived.Maps.AppendAt
import Derived.Test.YtlkncmpengpbiaaGreatDoorSortK
namespace Go.Proofs.YtlkncmpengpbiaaGreatDoor
open Go.RowKit Go.Maps Key Rw Sa Ma

/-- The slice v reads as these sagas. -/
def Sgs (w : World) (v : Value) (l : List Sg) : Prop := SlK w w.heap.size 12 (fun cs x => cs = encS x) v l ∧ NilOk v
theorem Sgs.keep {w w' : World} {v : Value} {l : List Sg} (h : Sgs w v l) (hb : Below w.heap.size w w') : Sgs w' v l := ⟨SlK.mono h.1 hb hb.size (fun _ _ _ h => h), h.2⟩
theorem Sgs.nil (w : World) : Sgs w (.slice none 0 0) [] := ⟨SlK.nil _ _ _ _, fun n c e => by injection e with _ _ e; exact e.symm⟩
theorem Sgs.shape {w : World} {v : Value} {l : List Sg} (h : Sgs w v l) : ∃ A c, v = .slice A l.length c ∧ l.length ≤ c ∧ c ≤ maxLen := SlK.shape h.1
theorem sgs_own {w : World} {B : Nat} {e : TypeId} {v : Value} {l : List Sg} (h : w.ownsRow B e 12 v l.length (l.flatMap encS)) : Sgs w v l := by
  rcases h.2 with ⟨rfl, h0⟩ | ⟨g, cap, cur, rfl, hB, hg, hc, hm, _⟩
  · rw [List.length_eq_zero_iff.1 h0]; exact Sgs.nil w
  · refine ⟨⟨_, _, _, rfl, rfl, hc, hm, fun i x hi => ⟨g, 0, encS x, rfl, heap_lt hg, rfl, fun j u hj => ?_, rfl⟩⟩, fun n c e => by injection e with e; cases e⟩
    have hj5 : j < 12 := by have := (List.getElem?_eq_some_iff.1 hj).1; simpa [encS_len] using this
    have := own_cellK encS_len (by omega) h hi j hj5
    rw [hj] at this
    rw [Nat.zero_add]
    exact this
/-- The cells of the k-th. -/
theorem Sgs.cells {w W : World} {v : Value} {l : List Sg} (h : Sgs w v l) (hb : Below w.heap.size w W) {k : Nat} {s : Sg} (hx : l[k]? = some s) : ∃ g off n c, v = .slice (some ⟨g, off, none⟩) n c ∧
    W.cell? ⟨g, off + k * 12, none⟩ = some (.int .i64 s.id) ∧ W.cell? ⟨g, off + k * 12 + 1, none⟩ = some (.string ⟨s.ref.toArray⟩) ∧ W.cell? ⟨g, off + k * 12 + 2, none⟩ = some (.string ⟨s.sku.toArray⟩) ∧ W.cell? ⟨g, off + k * 12 + 3, none⟩ = some (.int .i64 s.qty) ∧ W.cell? ⟨g, off + k * 12 + 4, none⟩ = some (.int .i64 s.amt) ∧
    W.cell? ⟨g, off + k * 12 + 5, none⟩ = some (.int .i64 s.d0) ∧ W.cell? ⟨g, off + k * 12 + 6, none⟩ = some (.int .i64 s.d1) ∧ W.cell? ⟨g, off + k * 12 + 7, none⟩ = some (.int .i64 s.d2) ∧ W.cell? ⟨g, off + k * 12 + 8, none⟩ = some (.int .i64 s.d3) ∧ W.cell? ⟨g, off + k * 12 + 9, none⟩ = some (.int .i64 s.d4) ∧ W.cell? ⟨g, off + k * 12 + 10, none⟩ = some (.int .i64 s.d5) ∧ W.cell? ⟨g, off + k * 12 + 11, none⟩ = some (.bool s.can) := by
  obtain ⟨A, c, rfl, _⟩ := h.shape
  obtain ⟨g, off, cs, rfl, hgl, hcl, hcell, hcs⟩ := h.1.at hx
  subst hcs
  have hk := fun j u hj => (hb.cell (p := ⟨g, off + k * 12 + j, none⟩) hgl).trans (hcell j u hj)
  exact ⟨g, off, _, _, rfl, hk 0 _ rfl, hk 1 _ rfl, hk 2 _ rfl, hk 3 _ rfl, hk 4 _ rfl, hk 5 _ rfl, hk 6 _ rfl, hk 7 _ rfl, hk 8 _ rfl, hk 9 _ rfl, hk 10 _ rfl, hk 11 _ rfl⟩
theorem kind_row (I : In.Inn) (s : Sg) (d : Nat) : kindI s d (rowD (In.rowOf I (s.id, (d : Int)))).2.1 (rowD (In.rowOf I (s.id, (d : Int)))).2.2.1 (rowD (In.rowOf I (s.id, (d : Int)))).2.2.2 (In.rowOf I (s.id, (d : Int))).isSome = kindOf I s d := by
  unfold kindOf rowD
  cases In.rowOf I (s.id, (d : Int)) <;> rfl
theorem first_succ {l : List Sg} {k : Nat} {t : Sg} (h : l[k]? = some t) (i : Int) : firstB l (k + 1) i = (firstB l k i && decide (t.id ≠ i)) := by
  unfold firstB
  rw [List.take_add_one, h, List.all_append]
  simp
def knownTo (l : List Sg) (k : Nat) (i : Int) : Bool := (l.take k).any fun s => decide (s.id = i)
theorem known_succ {l : List Sg} {k : Nat} {t : Sg} (h : l[k]? = some t) (i : Int) : knownTo l (k + 1) i = (knownTo l k i || decide (t.id = i)) := by
  unfold knownTo
  rw [List.take_add_one, h, List.any_append]
  simp
theorem known_all (l : List Sg) (i : Int) : knownTo l l.length i = knownB l i := by unfold knownTo knownB; rw [List.take_length]
theorem rowsD_snoc {l : List Sg} {rs : List R5} {j : Nat} {r : R5} (h : rs[j]? = some r) (p : List R5) : rowsD l (p ++ rs.take (j + 1)) = rowsD l (p ++ rs.take j) ++ Ma.rowD l r := by
  unfold rowsD
  rw [List.take_add_one, h, ← List.append_assoc, List.flatMap_append]
  simp
end Go.Proofs.YtlkncmpengpbiaaGreatDoor
/- match.Find: what it collects, sorted. -/
namespace Go.Proofs.YtlkncmpengpbiaaGreatDoor
open Go.RowKit Go.Maps Go.Sort Go.Shelf Go.Lib Key Rw Sa Ma

abbrev tInt : TypeId := 3
abbrev tSeen : TypeId := 214
abbrev mkI (i : Int) : Value := .int .i64 i
theorem mkI_inj (k : Int) : ∀ y, mkI y = mkI k → y = k := by intro y h; simpa [mkI] using h
theorem lawInt : Keyed Tryz.prog tInt := int_keyed Tryz.underlying3
theorem seenMap : Tryz.prog.underlying tSeen = some (.map tInt tInt) := by kernel_rfl
theorem zeroInt (w : World) : (zeroValue tInt).run Tryz.prog w = .ok (mkI 0) w := by kernel_rfl
theorem int_reads (i : Int) (h : -9223372036854775808 ≤ i ∧ i ≤ 9223372036854775807) : ∃ l, keyOf Tryz.prog tInt (mkI i) = some l := by
  have w1 : (Lit.int .i64 i).wf = true := by simp [Lit.wf, IntKind.min, IntKind.max, IntKind.signed, IntKind.bits]; omega
  exact ⟨_, keyOf_int_mk Tryz.underlying3 w1⟩
def cmpD (x y : D3) : Int := if lessD x y then -1 else 1
theorem less_grow (a b c d : Int) (w : World) : Calls Tryz.prog 72 #[.agg #[.int .i64 a, .int .i64 b], .agg #[.int .i64 c, .int .i64 d]] w fun e w' => e = .returned (.bool (lessB a b c d)) ∧ ∃ os, w' = grow w os := by
  by_cases h : a = c
  · by_cases h2 : b < d
    · have HF := Lib.hid (show lessB a b c d = true by unfold lessB; simp; omega)
      have hb := beqT h
      have hb2 := bneF h
      have hl : ¬ a < c := by omega
      clear h
      go_enter Tryz.func72, Tryz.ntmps72
      go_wp2_with fail
      go_ret
      exact ⟨by rw [HF.out]; rfl, _, by rw [alloc_eq_grow, alloc_eq_grow, grow_grow]⟩
    · have HF := Lib.hid (show lessB a b c d = false by unfold lessB; simp; omega)
      have hb := beqT h
      have hb2 := bneF h
      have hl : ¬ a < c := by omega
      clear h
      go_enter Tryz.func72, Tryz.ntmps72
      go_wp2_with fail
      go_ret
      exact ⟨by rw [HF.out]; rfl, _, by rw [alloc_eq_grow, alloc_eq_grow, grow_grow]⟩
  · by_cases h2 : a < c
    · have HF := Lib.hid (show lessB a b c d = true by unfold lessB; simp; omega)
      have hb := beqF h
      have hb2 := bneT h
      go_enter Tryz.func72, Tryz.ntmps72
      go_wp2_with fail
      go_ret
      exact ⟨by rw [HF.out]; rfl, _, by rw [alloc_eq_grow, alloc_eq_grow, grow_grow]⟩
    · have HF := Lib.hid (show lessB a b c d = false by unfold lessB; simp; omega)
      have hb := beqF h
      have hb2 := bneT h
      go_enter Tryz.func72, Tryz.ntmps72
      go_wp2_with fail
      go_ret
      exact ⟨by rw [HF.out]; rfl, _, by rw [alloc_eq_grow, alloc_eq_grow, grow_grow]⟩

theorem lessClosure (x y : D3) (w : World) : Calls Tryz.prog 156 #[.agg (encD x).toArray, .agg (encD y).toArray] w fun e w' => e = .returned (.int .i64 (cmpD x y)) ∧ ∃ q os, w' = grow (w.drewN q) os := by
  obtain ⟨⟨a, b⟩, t⟩ := x
  obtain ⟨⟨c, d⟩, t'⟩ := y
  have HL := Lib.hid (less_grow a b c d)
  change Calls _ _ #[.agg #[.int .i64 a, .int .i64 b, .int .i64 t], .agg #[.int .i64 c, .int .i64 d, .int .i64 t']] _ _
  cases hl : lessB a b c d with
  | true =>
    have HF := Lib.hid (show cmpD ((a, b), t) ((c, d), t') = -1 by unfold cmpD lessD; simp [hl])
    rw [hl] at HL
    go_enter Tryz.func156, Tryz.ntmps156
    go_wp2_with fail
    refine (HL.out _).mono ?_
    rintro e w' ⟨rfl, os, rfl⟩
    go_wp2_with fail
    go_ret
    exact ⟨by rw [HF.out]; rfl, 0, _, by rw [alloc_eq_grow, alloc_eq_grow, grow_grow, grow_grow]; rfl⟩
  | false =>
    have HF := Lib.hid (show cmpD ((a, b), t) ((c, d), t') = 1 by unfold cmpD lessD; simp [hl])
    rw [hl] at HL
    go_enter Tryz.func156, Tryz.ntmps156
    go_wp2_with fail
    refine (HL.out _).mono ?_
    rintro e w' ⟨rfl, os, rfl⟩
    go_wp2_with fail
    go_ret
    exact ⟨by rw [HF.out]; rfl, 0, _, by rw [alloc_eq_grow, alloc_eq_grow, grow_grow, grow_grow]; rfl⟩

theorem swoD : SWO (ltOf cmpD) := by
  have e : ∀ x y : D3, ltOf cmpD x y = lessD x y := by
    intro x y
    unfold ltOf cmpD
    cases lessD x y <;> simp
  refine ⟨fun x => ?_, fun x y z h1 h2 => ?_, fun x y z h1 h2 => ?_⟩
  · rw [e]; unfold lessD lessB; simp
  · rw [e] at *; unfold lessD lessB at *; simp at *; omega
  · rw [e] at *; unfold lessD lessB at *; simp at *; omega

/-- The sort of differences. -/
theorem sortD_any (w : World) (B : Nat) (v : Value) (C : List D3) (h : w.ownsRow B tDiff 3 v C.length (C.flatMap encD)) (hC : C.length < 10000) :
    Calls Tryz.prog 155 #[v, .func (.func 156) #[] #[]] w fun e w' => e = .returned (.tuple #[]) ∧ ∃ L : List D3, L.Perm C ∧ L.Pairwise (fun x y => lessD y x = false) ∧ w'.ownsRow B tDiff 3 v L.length (L.flatMap encD) ∧ Below B w w' := by
  have e : ∀ x y : D3, ltOf cmpD x y = lessD x y := by
    intro x y
    unfold ltOf cmpD
    cases lessD x y <;> simp
  rcases h.2 with ⟨rfl, h0⟩ | ⟨g, cap, cur, rfl, hg, hcur, hn, hcap, _, _⟩
  · refine (AnyF.slices_SortFunc_none Tryz.sortDiff none 0 (.func (.func 156) #[] #[]) w).mono ?_
    rintro e w' ⟨rfl, rfl⟩
    obtain rfl := List.eq_nil_of_length_eq_zero h0
    exact ⟨rfl, [], List.Perm.nil, List.Pairwise.nil, World.ownsRow_nil _ _ _ _, Below.refl _ _⟩
  · have hs := AnyQ.slices_SortFunc Tryz.sortDiff 3 (fun _ => by kernel_rfl) (fun _ => by kernel_rfl) encD encD_len (fun x v hv => by simp [encD] at hv; rcases hv with rfl | rfl | rfl <;> rfl) cmpD swoD 156 #[] g 0 cap C.toArray w (enters_of Tryz.func156 (by kernel_rfl) rfl) (fun _ _ _ _ x y => lessClosure x y _) (own_holdsK encD_len (by omega) h) (heap_lt hcur) (by simp; omega)
    rw [show C.toArray.size = C.length by simp] at hs
    refine hs.mono ?_
    rintro e1 w' ⟨rfl, d', m, os, hp, hsd, rfl⟩
    obtain ⟨x1, x2⟩ := sorted_list (lt := ltOf cmpD) (L := C) (d' := d') (by simpa using hp) (by simpa using hsd)
    have ho := own_sortedK encD_len (by omega) (n := m) (os := os) h (M := d'.toList) (by have := hp.1; simpa using this)
    refine ⟨rfl, d'.toList, x1, x2.imp (fun {a b} h => by rw [← e]; exact h), ?_, ?_⟩
    · rw [show d'.toList.length = C.length from x1.length_eq]
      exact ho
    · have hg2 := grownBy_sortedK (w := w) (g := g) (enc := encD) (k := 3) (n := m) (os := os) d'
      exact ⟨hg2.os, hg2.tape, hg2.output, hg2.size, fun i hi => hg2.block i (by have := heap_lt hcur; omega) (by simp; omega)⟩
end Go.Proofs.YtlkncmpengpbiaaGreatDoor

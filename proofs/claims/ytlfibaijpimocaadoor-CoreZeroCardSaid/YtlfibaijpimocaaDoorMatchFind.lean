/- match.Find: what it collects, sorted. -/
import Derived.Test.YtlfibaijpimocaaDoorSagaRows
import Derived.Test.YtlfibaijpimocaaDoorShelf
import Derived.Maps.AppendAt
namespace Go.Proofs.YtlfibaijpimocaaDoor
open Go.RowKit Go.Maps Go.Sort Go.Shelf Go.Lib Key Rw Sa Ma

abbrev tInt : TypeId := 3
abbrev tSeen : TypeId := 102
abbrev mkI (i : Int) : Value := .int .i64 i
theorem mkI_inj (k : Int) : ∀ y, mkI y = mkI k → y = k := by intro y h; simpa [mkI] using h
theorem lawInt : Keyed Tryd.prog tInt := int_keyed Tryd.underlying3
theorem seenMap : Tryd.prog.underlying tSeen = some (.map tInt tInt) := by kernel_rfl
theorem zeroInt (w : World) : (zeroValue tInt).run Tryd.prog w = .ok (mkI 0) w := by kernel_rfl
theorem int_reads (i : Int) (h : -9223372036854775808 ≤ i ∧ i ≤ 9223372036854775807) : ∃ l, keyOf Tryd.prog tInt (mkI i) = some l := by
  have w1 : (Lit.int .i64 i).wf = true := by simp [Lit.wf, IntKind.min, IntKind.max, IntKind.signed, IntKind.bits]; omega
  exact ⟨_, keyOf_int_mk Tryd.underlying3 w1⟩
def cmpD (x y : D3) : Int := if lessD x y then -1 else 1
theorem less_grow (a b c d : Int) (w : World) : Calls Tryd.prog 17 #[.agg #[.int .i64 a, .int .i64 b], .agg #[.int .i64 c, .int .i64 d]] w fun e w' => e = .returned (.bool (lessB a b c d)) ∧ ∃ os, w' = grow w os := by
  by_cases h : a = c
  · by_cases h2 : b < d
    · have HF := Lib.hid (show lessB a b c d = true by unfold lessB; simp; omega)
      have hb := beqT h
      have hb2 := bneF h
      have hl : ¬ a < c := by omega
      clear h
      go_enter Tryd.func17, Tryd.ntmps17
      go_wp2_with fail
      go_ret
      exact ⟨by rw [HF.out]; rfl, _, by rw [alloc_eq_grow, alloc_eq_grow, grow_grow]⟩
    · have HF := Lib.hid (show lessB a b c d = false by unfold lessB; simp; omega)
      have hb := beqT h
      have hb2 := bneF h
      have hl : ¬ a < c := by omega
      clear h
      go_enter Tryd.func17, Tryd.ntmps17
      go_wp2_with fail
      go_ret
      exact ⟨by rw [HF.out]; rfl, _, by rw [alloc_eq_grow, alloc_eq_grow, grow_grow]⟩
  · by_cases h2 : a < c
    · have HF := Lib.hid (show lessB a b c d = true by unfold lessB; simp; omega)
      have hb := beqF h
      have hb2 := bneT h
      go_enter Tryd.func17, Tryd.ntmps17
      go_wp2_with fail
      go_ret
      exact ⟨by rw [HF.out]; rfl, _, by rw [alloc_eq_grow, alloc_eq_grow, grow_grow]⟩
    · have HF := Lib.hid (show lessB a b c d = false by unfold lessB; simp; omega)
      have hb := beqF h
      have hb2 := bneT h
      go_enter Tryd.func17, Tryd.ntmps17
      go_wp2_with fail
      go_ret
      exact ⟨by rw [HF.out]; rfl, _, by rw [alloc_eq_grow, alloc_eq_grow, grow_grow]⟩

theorem lessClosure (x y : D3) (w : World) : Calls Tryd.prog 39 #[.agg (encD x).toArray, .agg (encD y).toArray] w fun e w' => e = .returned (.int .i64 (cmpD x y)) ∧ ∃ q os, w' = grow (w.drewN q) os := by
  obtain ⟨⟨a, b⟩, t⟩ := x
  obtain ⟨⟨c, d⟩, t'⟩ := y
  have HL := Lib.hid (less_grow a b c d)
  change Calls _ _ #[.agg #[.int .i64 a, .int .i64 b, .int .i64 t], .agg #[.int .i64 c, .int .i64 d, .int .i64 t']] _ _
  cases hl : lessB a b c d with
  | true =>
    have HF := Lib.hid (show cmpD ((a, b), t) ((c, d), t') = -1 by unfold cmpD lessD; simp [hl])
    rw [hl] at HL
    go_enter Tryd.func39, Tryd.ntmps39
    go_wp2_with fail
    refine (HL.out _).mono ?_
    rintro e w' ⟨rfl, os, rfl⟩
    go_wp2_with fail
    go_ret
    exact ⟨by rw [HF.out]; rfl, 0, _, by rw [alloc_eq_grow, alloc_eq_grow, grow_grow, grow_grow]; rfl⟩
  | false =>
    have HF := Lib.hid (show cmpD ((a, b), t) ((c, d), t') = 1 by unfold cmpD lessD; simp [hl])
    rw [hl] at HL
    go_enter Tryd.func39, Tryd.ntmps39
    go_wp2_with fail
    refine (HL.out _).mono ?_
    rintro e w' ⟨rfl, os, rfl⟩
    go_wp2_with fail
    go_ret
    exact ⟨by rw [HF.out]; rfl, 0, _, by rw [alloc_eq_grow, alloc_eq_grow, grow_grow, grow_grow]; rfl⟩

theorem swoD : SWO (ltOf cmpD) := by
  have e : ∀ x y : D3, ltOf cmpD x y = lessD x y := by
    intro x y
    unfold ltOf cmpD
    cases lessD x y <;> simp
  refine ⟨fun x => ?_, fun x y z h1 h2 => ?_, fun x y z h1 h2 => ?_⟩
  · rw [e]; unfold lessD lessB; simp
  · rw [e] at *; unfold lessD lessB at *; simp at *; omega
  · rw [e] at *; unfold lessD lessB at *; simp at *; omega

/-- The sort of differences. -/
theorem sortD_any (w : World) (B : Nat) (v : Value) (C : List D3) (h : w.ownsRow B tDiff 3 v C.length (C.flatMap encD)) (hC : C.length < 10000) :
    Calls Tryd.prog 38 #[v, .func (.func 39) #[] #[]] w fun e w' => e = .returned (.tuple #[]) ∧ ∃ L : List D3, L.Perm C ∧ L.Pairwise (fun x y => lessD y x = false) ∧ w'.ownsRow B tDiff 3 v L.length (L.flatMap encD) ∧ Below B w w' := by
  have e : ∀ x y : D3, ltOf cmpD x y = lessD x y := by
    intro x y
    unfold ltOf cmpD
    cases lessD x y <;> simp
  rcases h.2 with ⟨rfl, h0⟩ | ⟨g, cap, cur, rfl, hg, hcur, hn, hcap, _, _⟩
  · refine (AnyF.slices_SortFunc_none Tryd.sortDiff none 0 (.func (.func 39) #[] #[]) w).mono ?_
    rintro e w' ⟨rfl, rfl⟩
    obtain rfl := List.eq_nil_of_length_eq_zero h0
    exact ⟨rfl, [], List.Perm.nil, List.Pairwise.nil, World.ownsRow_nil _ _ _ _, Below.refl _ _⟩
  · have hs := AnyQ.slices_SortFunc Tryd.sortDiff 3 (fun _ => by kernel_rfl) (fun _ => by kernel_rfl) encD encD_len (fun x v hv => by simp [encD] at hv; rcases hv with rfl | rfl | rfl <;> rfl) cmpD swoD 39 #[] g 0 cap C.toArray w (enters_of Tryd.func39 (by kernel_rfl) rfl) (fun _ _ _ _ x y => lessClosure x y _) (own_holdsK encD_len (by omega) h) (heap_lt hcur) (by simp; omega)
    rw [show C.toArray.size = C.length by simp] at hs
    refine hs.mono ?_
    rintro e1 w' ⟨rfl, d', m, os, hp, hsd, rfl⟩
    obtain ⟨x1, x2⟩ := sorted_list (lt := ltOf cmpD) (L := C) (d' := d') (by simpa using hp) (by simpa using hsd)
    have ho := own_sortedK encD_len (by omega) (n := m) (os := os) h (M := d'.toList) (by have := hp.1; simpa using this)
    refine ⟨rfl, d'.toList, x1, x2.imp (fun {a b} h => by rw [← e]; exact h), ?_, ?_⟩
    · rw [show d'.toList.length = C.length from x1.length_eq]
      exact ho
    · have hg2 := grownBy_sortedK (w := w) (g := g) (enc := encD) (k := 3) (n := m) (os := os) d'
      exact ⟨hg2.os, hg2.tape, hg2.output, hg2.size, fun i hi => hg2.block i (by have := heap_lt hcur; omega) (by simp; omega)⟩
end Go.Proofs.YtlfibaijpimocaaDoor

/- slices.SortedFunc(maps.Keys(m), compare), at keys. -/
import Derived.Test.YtkmpagijdhhinaaDoorPartyIter
import Derived.Test.YtkmpagijdhhinaaDoorShelf
namespace Go.Proofs.YtkmpagijdhhinaaDoor
open Go.RowKit Go.Maps Go.Sort Go.Shelf Go.Lib Key

def cmpK (x y : Int × Int) : Int := if x = y then 0 else if lessB x.1 x.2 y.1 y.2 then -1 else 1
theorem less_grow (a b c d : Int) (w : World) : Calls Tryd.prog 46 #[.agg #[.int .i64 a, .int .i64 b], .agg #[.int .i64 c, .int .i64 d]] w fun e w' => e = .returned (.bool (lessB a b c d)) ∧ ∃ os, w' = grow w os := by
  by_cases h : a = c
  · by_cases h2 : b < d
    · have HF := Lib.hid (show lessB a b c d = true by unfold lessB; simp; omega)
      have hb := beqT h
      have hb2 := bneF h
      have hl : ¬ a < c := by omega
      clear h
      go_enter Tryd.func46, Tryd.ntmps46
      go_wp2_with fail
      go_ret
      exact ⟨by rw [HF.out]; rfl, _, by rw [alloc_eq_grow, alloc_eq_grow, grow_grow]⟩
    · have HF := Lib.hid (show lessB a b c d = false by unfold lessB; simp; omega)
      have hb := beqT h
      have hb2 := bneF h
      have hl : ¬ a < c := by omega
      clear h
      go_enter Tryd.func46, Tryd.ntmps46
      go_wp2_with fail
      go_ret
      exact ⟨by rw [HF.out]; rfl, _, by rw [alloc_eq_grow, alloc_eq_grow, grow_grow]⟩
  · by_cases h2 : a < c
    · have HF := Lib.hid (show lessB a b c d = true by unfold lessB; simp; omega)
      have hb := beqF h
      have hb2 := bneT h
      go_enter Tryd.func46, Tryd.ntmps46
      go_wp2_with fail
      go_ret
      exact ⟨by rw [HF.out]; rfl, _, by rw [alloc_eq_grow, alloc_eq_grow, grow_grow]⟩
    · have HF := Lib.hid (show lessB a b c d = false by unfold lessB; simp; omega)
      have hb := beqF h
      have hb2 := bneT h
      go_enter Tryd.func46, Tryd.ntmps46
      go_wp2_with fail
      go_ret
      exact ⟨by rw [HF.out]; rfl, _, by rw [alloc_eq_grow, alloc_eq_grow, grow_grow]⟩

theorem compare_any (x y : Int × Int) (w : World) : Calls Tryd.prog 41 #[.agg (encK x).toArray, .agg (encK y).toArray] w fun e w' => e = .returned (.int .i64 (cmpK x y)) ∧ ∃ q os, w' = grow (w.drewN q) os := by
  obtain ⟨a, b⟩ := x
  obtain ⟨c, d⟩ := y
  have HL := Lib.hid (less_grow a b c d)
  change Calls _ _ #[.agg #[.int .i64 a, .int .i64 b], .agg #[.int .i64 c, .int .i64 d]] _ _
  by_cases he : ((a, b) : Int × Int) = (c, d)
  · have HF := Lib.hid (show cmpK (a, b) (c, d) = 0 by unfold cmpK; rw [if_pos he])
    injection he with e1 e2
    subst e1; subst e2
    go_enter Tryd.func41, Tryd.ntmps41
    go_wp2_with fail
    go_ret
    exact ⟨by rw [HF.out]; rfl, 0, _, by rw [alloc_eq_grow, alloc_eq_grow, grow_grow]; rfl⟩
  · have hne : (a == c) = false ∨ ((a == c) = true ∧ (b == d) = false) := by
      cases e1 : a == c with
      | false => exact .inl rfl
      | true =>
        cases e2 : b == d with
        | false => exact .inr ⟨rfl, rfl⟩
        | true => exact absurd (by rw [eq_of_beq e1, eq_of_beq e2]) he
    cases hl : lessB a b c d with
    | true =>
      have HF := Lib.hid (show cmpK (a, b) (c, d) = -1 by unfold cmpK; rw [if_neg he, if_pos hl])
      rw [hl] at HL
      clear he
      rcases hne with h1 | ⟨h1, h2⟩
      all_goals
        go_enter Tryd.func41, Tryd.ntmps41
        go_wp2_with fail
        refine (HL.out _).mono ?_
        rintro e w' ⟨rfl, os, rfl⟩
        go_wp2_with fail
        go_ret
        exact ⟨by rw [HF.out]; rfl, 0, _, by rw [alloc_eq_grow, alloc_eq_grow, grow_grow, grow_grow]; rfl⟩
    | false =>
      have HF := Lib.hid (show cmpK (a, b) (c, d) = 1 by unfold cmpK; rw [if_neg he, if_neg (by simp [hl])])
      rw [hl] at HL
      clear he
      rcases hne with h1 | ⟨h1, h2⟩
      all_goals
        go_enter Tryd.func41, Tryd.ntmps41
        go_wp2_with fail
        refine (HL.out _).mono ?_
        rintro e w' ⟨rfl, os, rfl⟩
        go_wp2_with fail
        go_ret
        exact ⟨by rw [HF.out]; rfl, 0, _, by rw [alloc_eq_grow, alloc_eq_grow, grow_grow, grow_grow]; rfl⟩

theorem lt_cmpK (x y : Int × Int) : ltOf cmpK x y = lessB x.1 x.2 y.1 y.2 := by
  unfold ltOf cmpK
  by_cases h : x = y
  · subst h
    rw [if_pos rfl]
    unfold lessB
    simp
  · rw [if_neg h]
    cases lessB x.1 x.2 y.1 y.2 <;> simp
theorem swoK : SWO (ltOf cmpK) := by
  refine ⟨fun x => ?_, fun x y z h1 h2 => ?_, fun x y z h1 h2 => ?_⟩
  · rw [lt_cmpK]; unfold lessB; simp
  · rw [lt_cmpK] at *; unfold lessB at *; simp at *; omega
  · rw [lt_cmpK] at *; unfold lessB at *; simp at *; omega

set_option maxHeartbeats 1000000 in
theorem sorted_any (b Bm : Nat) (E : List ((Int × Int) × R5)) (hE : E.length ≤ 100000) (w : World) (hBm : Bm < w.heap.size) (hm : w.cell? ⟨Bm, 0, none⟩ = some (.map (some b))) (hown : MapL Tryd.prog tKey mkKey mkRow w b E) :
    Calls Tryd.prog 39 #[.func (.func fKeysIt) #[] #[.pointer (some ⟨Bm, 0, none⟩)], .func (.func 41) #[] #[]] w fun e w' => ∃ (v : Value) (ss : List (Int × Int)), e = .returned v ∧ ss.Perm (E.map (·.1)) ∧ ss.Pairwise (fun x y => lessB y.1 y.2 x.1 x.2 = false) ∧ w'.ownsRow w.heap.size tKey 2 v ss.length (ss.flatMap encK) ∧ Below w.heap.size w w' := by
  have HC := Lib.hid (collect_any b Bm E hE w hBm hm hown)
  clear hm hown
  go_enter Tryd.func39, Tryd.ntmps39
  go_wp2_with fail
  refine HC.out.mono ?_
  rintro e w1 ⟨v, ss, rfl, hp, ho, hb⟩
  have HP := Lib.hid hp
  have HB := Lib.hid hb
  have hss : ss.length ≤ 100000 := by rw [hp.length_eq, List.length_map]; exact hE
  clear hp hb
  rcases ho.2 with ⟨rfl, h0⟩ | ⟨g, cap, cur, rfl, hg, hcur, hn, hcap, _, _⟩
  · have hs := AnyF.slices_SortFunc_none Tryd.sortKey none 0 (.func (.func 41) #[] #[]) w1
    obtain rfl := List.eq_nil_of_length_eq_zero h0
    clear ho
    go_wp2_with fail
    refine hs.mono ?_
    rintro e w' ⟨rfl, rfl⟩
    go_wp2_with fail
    go_ret
    exact ⟨_, [], rfl, HP.out, List.Pairwise.nil, World.ownsRow_nil _ _ _ _, HB.out⟩
  · have HR := Lib.hid ho
    have hs := AnyQ.slices_SortFunc Tryd.sortKey 2 (fun _ => by kernel_rfl) (fun _ => by kernel_rfl) encK encK_len (fun x v hv => by simp [encK] at hv; rcases hv with rfl | rfl <;> rfl) cmpK swoK 41 #[] g 0 cap ss.toArray w1 (enters_of Tryd.func41 (by kernel_rfl) rfl) (fun _ _ _ _ x y => compare_any x y _) (own_holdsK encK_len (by omega) ho) (Array.getElem?_eq_some_iff.1 hcur).1 (by simp; omega)
    rw [show ss.toArray.size = ss.length by simp] at hs
    have HS := Lib.hid hs
    clear hs ho hcur
    go_wp2_with fail
    refine HS.out.mono ?_
    rintro e w' ⟨rfl, d', m, os, hp, hsd, rfl⟩
    have HX := Lib.hid (sorted_list (lt := ltOf cmpK) (L := ss) (d' := d') (by simpa using hp) (by simpa using hsd))
    have HO := Lib.hid (own_sortedK encK_len (by omega) (n := m) (os := os) HR.out (M := d'.toList) (by have := hp.1; simpa using this))
    have HB2 := Lib.hid (HB.out.grown (grownBy_sortedK (g := g) (enc := encK) (k := 2) (n := m) (os := os) d') HB.out.size (fun k hk => by cases hk; omega))
    clear hp hsd
    go_wp2_with fail
    go_ret
    obtain ⟨x1, x2⟩ := HX.out
    refine ⟨_, d'.toList, rfl, x1.trans HP.out, x2.imp (fun {a b} h => by rw [← lt_cmpK]; exact h), ?_, HB2.out⟩
    have ho := HO.out
    rw [show d'.toList.length = ss.length from x1.length_eq]
    exact ho
end Go.Proofs.YtkmpagijdhhinaaDoor

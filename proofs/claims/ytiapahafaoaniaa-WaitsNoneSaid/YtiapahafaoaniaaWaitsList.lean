/- waits.List: the closure, the range, the sort. -/
import Derived.Test.YtiapahafaoaniaaWaitsStart
import Derived.Test.YtiapahafaoaniaaSortK
import Derived.Maps.AppendAt
import Derived.Test.YtiapahafaoaniaaShelf
namespace Go.Proofs.Ytiapahafaoaniaa
open Go.RowKit Go.Maps Go.Sort Go.Shelf Go.Lib Wa Key

def encW (x : W5) : List Value := [.int .i64 x.1.1, .int .i64 x.1.2, .int .i64 x.2.1, .int .i64 x.2.2.1, .bool x.2.2.2]
theorem encW_len (x : W5) : (encW x).length = 5 := rfl
def lessW (x y : W5) : Bool := lessB x.1.1 x.1.2 y.1.1 y.1.2
def cmpW (x y : W5) : Int := if lessW x y then -1 else 1
theorem wait_info : (Try.prog.info? tWait).map (fun i => (i.zero, i.size, i.bytes)) = some (some (mkWait ((0, 0), 0, 0, false)), 5, 40) := by kernel_rfl

theorem less_grow (a b c d : Int) (w : World) : Calls Try.prog 33 #[.agg #[.int .i64 a, .int .i64 b], .agg #[.int .i64 c, .int .i64 d]] w fun e w' => e = .returned (.bool (lessB a b c d)) ∧ ∃ os, w' = grow w os := by
  by_cases h : a = c
  · by_cases h2 : b < d
    · have HF := Lib.hid (show lessB a b c d = true by unfold lessB; simp; omega)
      have hb := beqT h
      have hb2 := bneF h
      have hl : ¬ a < c := by omega
      clear h
      go_enter Try.func33, Try.ntmps33
      go_wp2_with fail
      go_ret
      exact ⟨by rw [HF.out]; rfl, _, by rw [alloc_eq_grow, alloc_eq_grow, grow_grow]⟩
    · have HF := Lib.hid (show lessB a b c d = false by unfold lessB; simp; omega)
      have hb := beqT h
      have hb2 := bneF h
      have hl : ¬ a < c := by omega
      clear h
      go_enter Try.func33, Try.ntmps33
      go_wp2_with fail
      go_ret
      exact ⟨by rw [HF.out]; rfl, _, by rw [alloc_eq_grow, alloc_eq_grow, grow_grow]⟩
  · by_cases h2 : a < c
    · have HF := Lib.hid (show lessB a b c d = true by unfold lessB; simp; omega)
      have hb := beqF h
      have hb2 := bneT h
      go_enter Try.func33, Try.ntmps33
      go_wp2_with fail
      go_ret
      exact ⟨by rw [HF.out]; rfl, _, by rw [alloc_eq_grow, alloc_eq_grow, grow_grow]⟩
    · have HF := Lib.hid (show lessB a b c d = false by unfold lessB; simp; omega)
      have hb := beqF h
      have hb2 := bneT h
      go_enter Try.func33, Try.ntmps33
      go_wp2_with fail
      go_ret
      exact ⟨by rw [HF.out]; rfl, _, by rw [alloc_eq_grow, alloc_eq_grow, grow_grow]⟩

theorem lessClosure (x y : W5) (w : World) : Calls Try.prog 32 #[.agg (encW x).toArray, .agg (encW y).toArray] w fun e w' => e = .returned (.int .i64 (cmpW x y)) ∧ ∃ q os, w' = grow (w.drewN q) os := by
  obtain ⟨⟨a, b⟩, t, n, p⟩ := x
  obtain ⟨⟨c, d⟩, t', n', p'⟩ := y
  have HL := Lib.hid (less_grow a b c d)
  change Calls _ _ #[.agg #[.int .i64 a, .int .i64 b, .int .i64 t, .int .i64 n, .bool p], .agg #[.int .i64 c, .int .i64 d, .int .i64 t', .int .i64 n', .bool p']] _ _
  cases hl : lessB a b c d with
  | true =>
    have HF := Lib.hid (show cmpW ((a, b), t, n, p) ((c, d), t', n', p') = -1 by unfold cmpW lessW; simp [hl])
    rw [hl] at HL
    go_enter Try.func32, Try.ntmps32
    go_wp2_with fail
    refine (HL.out _).mono ?_
    rintro e w' ⟨rfl, os, rfl⟩
    go_wp2_with fail
    go_ret
    exact ⟨by rw [HF.out]; rfl, 0, _, by rw [alloc_eq_grow, alloc_eq_grow, grow_grow, grow_grow]; rfl⟩
  | false =>
    have HF := Lib.hid (show cmpW ((a, b), t, n, p) ((c, d), t', n', p') = 1 by unfold cmpW lessW; simp [hl])
    rw [hl] at HL
    go_enter Try.func32, Try.ntmps32
    go_wp2_with fail
    refine (HL.out _).mono ?_
    rintro e w' ⟨rfl, os, rfl⟩
    go_wp2_with fail
    go_ret
    exact ⟨by rw [HF.out]; rfl, 0, _, by rw [alloc_eq_grow, alloc_eq_grow, grow_grow, grow_grow]; rfl⟩

theorem swoW : SWO (ltOf cmpW) := by
  have e : ∀ x y : W5, ltOf cmpW x y = lessW x y := by
    intro x y
    unfold ltOf cmpW
    cases lessW x y <;> simp
  refine ⟨fun x => ?_, fun x y z h1 h2 => ?_, fun x y z h1 h2 => ?_⟩
  · rw [e]; unfold lessW lessB; simp
  · rw [e] at *; unfold lessW lessB at *; simp at *; omega
  · rw [e] at *; unfold lessW lessB at *; simp at *; omega

theorem row_ne {w : World} {base : Nat} {e : TypeId} {size : Nat} {v : Value} {n : Nat} {xs : List Value} (h : w.ownsRow base e size v n xs) {b : Nat} (hb : b < base) : some b ≠ v.ownBlock := fun e1 => by
  have := (h.lt _ e1.symm).1
  omega
theorem own_weak {w : World} {B B' : Nat} {e : TypeId} {z n : Nat} {v : Value} {xs : List Value} (h : w.ownsRow B e z v n xs) (hb : B' ≤ B) : w.ownsRow B' e z v n xs :=
  ⟨h.1, h.2.imp id fun ⟨g, cap, cur, hv, hB, r⟩ => ⟨g, cap, cur, hv, Nat.le_trans hb hB, r⟩⟩
theorem five_new (w : World) (x0 x1 x2 x3 x4 : Value) (T : TypeId) : ∀ j u, [x0, x1, x2, x3, x4][j]? = some u → (w.alloc (.cells #[x0, x1, x2, x3, x4] T)).cell? ((⟨w.heap.size, 0, none⟩ : Addr).add j) = some u := by
  intro j u hj
  match j, hj with
  | 0, hj => simp at hj; subst hj; simp [Addr.add]
  | 1, hj => simp at hj; subst hj; simp [Addr.add]
  | 2, hj => simp at hj; subst hj; simp [Addr.add]
  | 3, hj => simp at hj; subst hj; simp [Addr.add]
  | 4, hj => simp at hj; subst hj; simp [Addr.add]

theorem five_at (w : World) (g : Nat) (hg : g = w.heap.size) (x0 x1 x2 x3 x4 : Value) (T : TypeId) : ∀ j u, [x0, x1, x2, x3, x4][j]? = some u → (w.alloc (.cells #[x0, x1, x2, x3, x4] T)).cell? ((⟨g, 0, none⟩ : Addr).add j) = some u := by
  subst hg
  exact five_new w x0 x1 x2 x3 x4 T

set_option maxHeartbeats 1000000 in
theorem list_any (w : World) (a b : Nat) (E : List ((Int × Int) × W5)) (hc : w.cell? ⟨a, 0, none⟩ = some (.map (some b))) (hm : MapL Try.prog tKey mkKey mkWait w b E) (hE : E.length < 100000) :
    Calls Try.prog 18 #[.pointer (some ⟨a, 0, none⟩)] w fun e w' => ∃ (v : Value) (L : List W5), e = .returned v ∧ L.Perm (E.map (·.2)) ∧ L.Pairwise (fun x y => lessW y x = false) ∧ w'.ownsRow w.heap.size tWait 5 v L.length (L.flatMap encW) ∧ Below w.heap.size w w' := by
  obtain ⟨i0, hi, hz0, hz1, hz2⟩ := info_parts wait_info
  have HM := Lib.hid hm
  have hlt := World.block_lt_of_cell? w _ hc
  simp only [] at hlt
  have hbl : b < w.heap.size := by obtain ⟨⟨D, h1, _⟩, _⟩ := HM.out; exact h1.lt
  clear hm
  go_enter Try.func18, Try.ntmps18
  go_wp2_with fail
  refine (nonep_any _ a b hc).mono ?_
  rintro e w0 ⟨rfl, hw⟩; subst hw
  go_wp2_with (first
    | (at_range; refine wpList_rangeL _ rfl _ tMapW rfl tKey tWait lawKey mapW b E rfl HM.out ?_; intro w0 cnt0 hrg0 hg0 hs0))
  go_frame
  go_loopw [3] (fun v wr => ∃ done cnt, RangeL Try.prog tKey mkKey mkWait wr b w.heap.size E done cnt ∧ wr.ownsRow (w.heap.size + 1) tWait 5 v done.length ((done.map (·.2)).flatMap encW) ∧ Hid (Below w.heap.size w wr)) (fun _ wr => wr.rangeLeft b w.heap.size)
  case atStart =>
    exact ⟨[], cnt0, hrg0, World.ownsRow_nil _ _ _ _, (Below.refl _ _).grown hg0 (Nat.le_refl _) (fun k hk => by cases hk)⟩
  case round =>
    obtain ⟨done, cnt, hrg, hrow, HB⟩ := hrel
    have hsz := HB.out.size
    have hdl := hrg.len
    have hrlt := hrg.lt.1
    go_wp2_with (first
      | (at_next; refine wpList_nextL _ rfl _ rfl tKey lawKey b w.heap.size E done cnt rfl hrg (fun hperm => ?_) (fun x v w1 cnt1 hin hnin hrg1 hlt1 hg1 hs1 hen => ?_); rotate_left; (obtain ⟨x1, x2⟩ := x; obtain ⟨⟨o, d⟩, t, n, p⟩ := v; simp only [mkKey, mkWait] at hen ⊢))
      | (at_builtin; go_loud (refine wpList_append_own_at _ rfl (.tmp 17) (.tmp 19) 37 rfl (w.heap.size + 1) tWait i0 (mkWait ((0, 0), 0, 0, false)) 5 40 Try.underlying37 hi hz0 hz1 hz2 rfl (by decide) u3 done.length ((done.map (·.2)).flatMap encW) rfl (((hrow.kept hg1 (.inr (row_ne hrow (by omega)).symm)).alloc _).alloc _) ⟨wr.heap.size + 1, 0, none⟩ 1 1 (encW ((o, d), t, n, p)) rfl rfl (five_at _ _ (by simp; omega) _ _ _ _ _ _) (by intro u hu; simp [encW] at hu; rcases hu with rfl | rfl | rfl | rfl | rfl <;> rfl) (by unfold maxLen; omega) (by omega) (by simp; omega) ?_; intro v2 w2 ho2 hg2 _ hat2)))
    · go_roundw
      case rel =>
        refine ⟨done ++ [((x1, x2), (o, d), t, n, p)], cnt1, ((hrg1.alloc _).alloc _).kept hg2 (row_ne hrow (by omega)) (row_ne hrow (by omega)), by simpa using ho2, ?_⟩
        exact (((HB.out.grown hg1 hsz (fun k hk => by cases hk; omega)).alloc (by omega) _).alloc (by simp; omega) _).grown hg2 (by simp; omega) (fun k hk => by have := (hrow.lt _ hk).1; omega)
      case measure =>
        have h2 : RangeL Try.prog tKey mkKey mkWait w2 b w.heap.size E _ cnt1 := ((hrg1.alloc _).alloc _).kept hg2 (row_ne hrow (by omega)) (row_ne hrow (by omega))
        rw [h2.left, hrg.left]
        exact hlt1
    · have HP := Lib.hid hperm
      have hlen : (done.map (·.2)).length = done.length := List.length_map _
      rcases hrow.2 with ⟨rfl, h0⟩ | ⟨g, cap, cur, hv, hg, hcur, hn, hcap, _, _⟩
      · have hs := AnyF.slices_SortFunc_none Try.sortWait none 0 (.func (.func 32) #[] #[]) wr
        refine hs.mono ?_
        rintro e w' ⟨rfl, rfl⟩
        have HR := Lib.hid hrow
        clear hs hrow hrg hperm hlen
        go_wp2_with fail
        go_ret
        obtain rfl := List.eq_nil_of_length_eq_zero h0
        have hE0 : E = [] := HP.out.nil_eq.symm
        subst hE0
        exact ⟨_, [], rfl, by simp, List.Pairwise.nil, World.ownsRow_nil _ _ _ _, HB.out⟩
      · subst hv
        have HR := Lib.hid hrow
        have hrow' : wr.ownsRow (w.heap.size + 1) tWait 5 (.slice (some ⟨g, 0, none⟩) (done.map (·.2)).length cap) (done.map (·.2)).length ((done.map (·.2)).flatMap encW) := by rw [hlen]; exact hrow
        have hs := AnyQ.slices_SortFunc Try.sortWait 5 (fun _ => by kernel_rfl) (fun _ => by kernel_rfl) encW encW_len (fun x v hv => by simp [encW] at hv; rcases hv with rfl | rfl | rfl | rfl | rfl <;> rfl) cmpW swoW 32 #[] g 0 cap (done.map (·.2)).toArray wr (enters_of Try.func32 (by kernel_rfl) rfl) (fun _ _ _ _ x y => lessClosure x y _) (own_holdsK encW_len (by omega) hrow') (Array.getElem?_eq_some_iff.1 hcur).1 (by simp; omega)
        rw [show (done.map (·.2)).toArray.size = done.length by simp] at hs
        refine hs.mono ?_
        rintro e w' ⟨rfl, d', m, os, hp, hsd, rfl⟩
        have HX := Lib.hid (sorted_list (lt := ltOf cmpW) (L := done.map (·.2)) (d' := d') (by simpa using hp) (by simpa using hsd))
        have HO := Lib.hid (own_sortedK encW_len (by omega) (n := m) (os := os) hrow' (M := d'.toList) (by have := hp.1; simpa using this))
        have HB2 := Lib.hid (HB.out.grown (grownBy_sortedK (g := g) (enc := encW) (k := 5) (n := m) (os := os) d') hsz (fun k hk => by cases hk; omega))
        clear hs hrow hrow' hrg hperm hp hsd hcur
        go_wp2_with fail
        go_ret
        obtain ⟨x1, x2⟩ := HX.out
        have ho := HO.out
        rw [hlen] at ho
        refine ⟨_, d'.toList, rfl, x1.trans (HP.out.map _), x2.imp (fun {a b} h => ?_), ?_, HB2.out⟩
        · unfold ltOf cmpW at h
          cases hl : lessW b a <;> simp [hl] at h ⊢
        · rw [show d'.toList.length = done.length by rw [x1.length_eq, hlen]]
          exact own_weak (by simpa using ho) (by omega)
end Go.Proofs.Ytiapahafaoaniaa

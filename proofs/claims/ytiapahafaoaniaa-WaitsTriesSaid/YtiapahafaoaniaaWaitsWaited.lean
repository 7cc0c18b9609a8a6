/- law18's waited. -/
import Derived.Test.YtiapahafaoaniaaWaitsTells
namespace Go.Proofs.Ytiapahafaoaniaa
open Go.RowKit Go.Maps Wa Key

namespace Wa
def stAt (n : Nat) : W5 := ((1, 1), if n ≤ 1 then 1 else if n ≤ 3 then 2 else if n ≤ 7 then 3 else if n ≤ 15 then 4 else 5, if n ≤ 1 then 1 else if n ≤ 3 then 3 else if n ≤ 7 then 7 else if n ≤ 15 then 15 else 31, false)
theorem tick_st : ∀ n, n ≤ 30 → tickW [stAt n] n = [stAt (n + 1)] ∧ toldW [stAt n] n = if n = 1 ∨ n = 3 ∨ n = 7 ∨ n = 15 then [(1, 1)] else [] := by
  intro n hn
  have h : ∀ m : Fin 31, tickW [stAt m.1] (m.1 : Nat) = [stAt (m.1 + 1)] ∧ toldW [stAt m.1] (m.1 : Nat) = if m.1 = 1 ∨ m.1 = 3 ∨ m.1 = 7 ∨ m.1 = 15 then [(1, 1)] else [] := by decide
  exact h ⟨n, by omega⟩
theorem good_one {x : W5} (h1 : chkB x.1 = true) (h2 : 0 ≤ x.2.1 ∧ x.2.1 ≤ 5 ∧ 0 ≤ x.2.2.1 ∧ x.2.2.1 ≤ 1099511627792) : Good [x] := ⟨List.pairwise_singleton .., by simpa using h1, by simpa using h2⟩
theorem good_st (n : Nat) : Good [stAt n] := good_one rfl (by unfold stAt; simp only []; repeat' split <;> omega)
end Wa

theorem wrow_one {w : World} {B : Nat} {v : Value} {x : W5} (h : w.ownsRow B tWait 5 v 1 (encW x)) : ∃ g cap, v = .slice (some ⟨g, 0, none⟩) 1 cap ∧ (∀ j, j < 5 → w.cell? ⟨g, j, none⟩ = (encW x)[j]?) ∧ B ≤ g ∧ g < w.heap.size := by
  rcases h.2 with ⟨_, h0⟩ | ⟨g, cap, cur, rfl, hB, hg, _⟩
  · cases h0
  · exact ⟨g, cap, rfl, fun j hj => h.cellAt j (by omega), hB, heap_lt hg⟩

set_option maxRecDepth 100000 in
set_option maxHeartbeats 2000000 in
theorem waited_true (w : World) : Calls Try.prog 10 #[] w fun e w' => e = .returned (.bool true) ∧ Below w.heap.size w w' := by
  go_enter Try.func10, Try.ntmps10
  go_wp2_with fail
  refine (new_wa w).mono ?_
  rintro e w1 ⟨a, b, rfl, hn, ha, hb, hB⟩
  have HN := Lib.hid (hn.below (below_alloc w1 (.cells #[.int .i64 1, .int .i64 1] tKey)))
  have HB := Lib.hid (hB.alloc hB.size (.cells #[.int .i64 1, .int .i64 1] tKey))
  have hk := heap_new w1 (.cells #[.int .i64 1, .int .i64 1] tKey)
  obtain ⟨k0, k1, _, _⟩ := cell2 hk
  have HK := Lib.hid hk
  obtain ⟨z, hz⟩ : ∃ z, w1.heap.size = z := ⟨_, rfl⟩
  have hbz : b < z := by have := hn.lt; omega
  clear hn hB hk
  go_wp2_with fail
  refine (start_wa _ a b [] 1 1 0 HN.out (by simp)).mono ?_
  rintro e w2 ⟨rfl, hw2, hg2⟩
  have HW2 := Lib.hid (show WA w2 a b [stAt 0] from hw2)
  have HK2 := Lib.hid ((hg2.block _ (heap_lt HK.out) (by simp; omega)).trans HK.out)
  have HB2 := Lib.hid (HB.out.grown hg2 HB.out.size (fun k hk => by cases hk; exact hb))
  rw [hz] at HK2
  clear hw2 hg2 k0 k1 HK
  go_wp2_with fail
  try rw [hz]
  go_loopw [3] (fun i wr => ∃ n : Nat, i = .int .i64 n ∧ n ≤ 31 ∧ Hid (WA wr a b [stAt n]) ∧ Hid (wr.heap[z]? = some (.cells #[.int .i64 1, .int .i64 1] tKey (0, 0))) ∧ Hid (Below w.heap.size w wr)) (fun i _ => 31 - (intOf i).toNat)
  case atStart => exact ⟨0, rfl, by omega, HW2, HK2, HB2⟩
  case round =>
    obtain ⟨n, rfl, hn, HW, HZ, HBR⟩ := hrel
    obtain ⟨k0, k1, _, _⟩ := cell2 HZ.out
    by_cases h30 : n ≤ 30
    · have hi : (n : Int) ≤ 30 := by omega
      have HT := Lib.hid (tick_st n h30)
      by_cases hs : n = 1 ∨ n = 3 ∨ n = 7 ∨ n = 15
      · have hY := (tells_yes wr a b [stAt n] 1 1 n HW.out (good_st n) (by simp) (by rw [HT.out.2, if_pos hs]))
        rw [HT.out.1] at hY
        have HY := Lib.hid hY
        clear hY HT
        rcases hs with rfl | rfl | rfl | rfl
        all_goals
          go_wp2_with fail
          refine HY.out.mono ?_
          rintro e w3 ⟨rfl, hw3, hg3⟩
          have HW3 := Lib.hid hw3
          have HK3 := Lib.hid ((hg3.block _ (heap_lt HZ.out) (by simp; omega)).trans HZ.out)
          have HB3 := Lib.hid (HBR.out.grown hg3 HBR.out.size (fun k hk => by cases hk; exact hb))
          clear hw3 hg3
          go_wp2_with fail
          go_roundw
          case rel => exact ⟨_, by go_num, by omega, HW3, HK3, HB3⟩
          case measure => simp [intOf]
      · have hN := (tells_no wr a b [stAt n] 1 1 n HW.out (good_st n) (by simp) (by rw [HT.out.2, if_neg hs]))
        rw [HT.out.1] at hN
        have HY := Lib.hid hN
        have q1 := beqF (show ¬ (n : Int) = 1 by omega)
        have q2 := beqF (show ¬ (n : Int) = 3 by omega)
        have q3 := beqF (show ¬ (n : Int) = 7 by omega)
        have q4 := beqF (show ¬ (n : Int) = 15 by omega)
        clear hN HT hs
        go_wp2_with fail
        refine HY.out.mono ?_
        rintro e w3 ⟨rfl, hw3, hg3⟩
        have HW3 := Lib.hid hw3
        have HK3 := Lib.hid ((hg3.block _ (heap_lt HZ.out) (by simp; omega)).trans HZ.out)
        have HB3 := Lib.hid (HBR.out.grown hg3 HBR.out.size (fun k hk => by cases hk; exact hb))
        clear hw3 hg3
        go_wp2_with fail
        go_roundw
        case rel => exact ⟨n + 1, by go_num, by omega, HW3, HK3, HB3⟩
        case measure => simp [intOf]; omega
    · obtain rfl : n = 31 := by omega
      have hN := (tells_no wr a b [stAt 31] 1 1 31 HW.out (good_st 31) (by simp) (by decide))
      rw [show tickW [stAt 31] 31 = [((1, 1), 5, 31, true)] by decide] at hN
      have HY := Lib.hid hN
      clear hN
      go_wp2_with fail
      refine HY.out.mono ?_
      rintro e w3 ⟨rfl, hw3, hg3⟩
      have HW3 := Lib.hid hw3
      have hk3 := (hg3.block _ (heap_lt HZ.out) (by simp; omega)).trans HZ.out
      have HB3 := Lib.hid (HBR.out.grown hg3 HBR.out.size (fun k hk => by cases hk; exact hb))
      have hlt := HW3.out.lt
      clear hw3 hg3
      have hL := fun W (h : WA W a b [((1, 1), 5, 31, true)]) => list_wa W a b _ h (good_one rfl (by decide)) (by simp)
      go_wp2_with fail
      refine (hL _ HW3.out).mono ?_
      rintro e w4 ⟨v4, rfl, ho4, hb4⟩
      obtain ⟨g4, c4, rfl, _⟩ := wrow_one (by simpa using ho4)
      have HW4 := Lib.hid (HW3.out.below hb4)
      have hk4 := heap_keep hk3 hb4
      have HB4 := Lib.hid (bch HB3.out hb4 HB3.out.size)
      clear ho4 hb4 hk3
      go_wp2_with fail
      refine (hL _ HW4.out).mono ?_
      rintro e w5 ⟨v5, rfl, ho5, hb5⟩
      obtain ⟨g5, c5, rfl, hc5, _⟩ := wrow_one (by simpa using ho5)
      have hp5 : w5.cell? ⟨g5, 4, none⟩ = some (.bool true) := hc5 4 (by omega)
      have HW5 := Lib.hid (HW4.out.below hb5)
      have hk5 := heap_keep hk4 hb5
      obtain ⟨k50, k51, _, _⟩ := cell2 hk5
      have HB5 := Lib.hid (bch HB4.out hb5 HB4.out.size)
      clear ho5 hb5 hk4 hc5
      go_wp2_with fail
      refine (again_wa w5 a b _ 1 1 40 HW5.out (good_one rfl (by decide)) (by simp) (by omega)).mono ?_
      rintro e w6 ⟨rfl, hw6, hg6⟩
      have HW6 := Lib.hid (show WA w6 a b [((1, 1), 1, 41, false)] from hw6)
      have hk6 := (hg6.block _ (heap_lt hk5) (by simp; omega)).trans hk5
      have HB6 := Lib.hid (HB5.out.grown hg6 HB5.out.size (fun k hk => by cases hk; exact hb))
      clear hw6 hg6 hk5 k50 k51
      rw [show hasW [((1, 1), 5, 31, true)] (1, 1) = true by decide]
      go_wp2_with fail
      refine (again_wa w6 a b _ 2 0 40 HW6.out (good_one rfl (by decide)) (by simp) (by omega)).mono ?_
      rintro e w7 ⟨rfl, hw7, hg7⟩
      have HW7 := Lib.hid (show WA w7 a b [((1, 1), 1, 41, false)] from hw7)
      have hk7 := (hg7.block _ (heap_lt hk6) (by simp; omega)).trans hk6
      obtain ⟨k70, k71, _, _⟩ := cell2 hk7
      have HB7 := Lib.hid (HB6.out.grown hg7 HB6.out.size (fun k hk => by cases hk; exact hb))
      clear hw7 hg7 hk6
      rw [show hasW [((1, 1), 1, 41, false)] (2, 0) = false by decide]
      go_wp2_with fail
      refine (tells_yes w7 a b [((1, 1), 1, 41, false)] 1 1 41 HW7.out (good_one rfl (by decide)) (by simp) (by decide)).mono ?_
      rintro e w8 ⟨rfl, hw8, hg8⟩
      have HB8 := Lib.hid (HB7.out.grown hg8 HB7.out.size (fun k hk => by cases hk; exact hb))
      clear hw8 hg8
      go_wp2_with fail
      refine (gap_any 5 w8 (by omega) (by omega)).mono ?_
      rintro e w9 ⟨rfl, hw9⟩
      subst hw9
      go_wp2_with fail
      go_ret
      exact ⟨rfl, HB8.out⟩
end Go.Proofs.Ytiapahafaoaniaa

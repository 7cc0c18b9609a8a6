/- stock's reject, put, wide, number: what they compute. -/
import Derived.Test.YtgpjbigelblanaaGreatDoorStockWord
import Derived.Test.YtgpjbigelblanaaGreatDoorCsvParse
namespace Go.Proofs.YtgpjbigelblanaaGreatDoor
open Go.RowKit Go.Maps Key Mon Sk

theorem sreject_any (c k : Int) (w : World) : Calls Tryz.prog 35 #[.int .i64 c, .int .i64 k] w fun e w' => e = .returned (.agg #[.int .i64 0, .int .i64 c, .int .i64 k]) ∧ Below w.heap.size w w' := by
  go_enter Tryz.func35, Tryz.ntmps35
  go_wp2_with fail
  refine bodyPost_ret (v := .agg #[.int .i64 0, .int .i64 c, .int .i64 k]) (by simp [results, Tryz.results35, go_sem]) rfl ⟨rfl, below_alloc _ _⟩
theorem sput_any (n : Int) (w : World) (hn : InR n) (hM : MW w) : Calls Tryz.prog 28 #[.int .i64 n] w fun e w' => e = .returned (.string ⟨(Lib.itoa n).toArray⟩) ∧ Below w.heap.size w w' := by
  have HP := Lib.hid (put_any n w hn hM)
  clear hM
  obtain ⟨hn1, hn2⟩ := hn
  go_enter Tryz.func28, Tryz.ntmps28
  go_wp2_with fail
  refine HP.out.mono ?_
  rintro e w1 ⟨rfl, hb⟩
  have HB := Lib.hid hb
  clear hb
  go_wp2_with fail
  go_ret
  exact ⟨rfl, HB.out⟩
/-- How wide a row should be. -/
theorem swide_ok (A : Option Addr) (n c k : Nat) (w : World) (_hn : n ≤ 1000000) (h : n = k) : Calls Tryz.prog 69 #[.slice A n c, .int .i64 (k : Int)] w fun e w' => e = .returned (.agg #[.int .i64 0, .int .i64 0, .int .i64 0]) ∧ Below w.heap.size w w' := by
  subst h
  have hq := bneF (show (n : Int) = (n : Int) from rfl)
  go_enter Tryz.func69, Tryz.ntmps69
  go_wp2_with fail
  refine bodyPost_ret (v := .agg #[.int .i64 0, .int .i64 0, .int .i64 0]) (by simp [results, Tryz.results69, go_sem]) rfl ⟨rfl, below_alloc _ _⟩
theorem swide_no (A : Option Addr) (n c k : Nat) (w : World) (_hn : n ≤ 1000000) (hk : k ≤ 1000) (h : ¬ n = k) (m : Int) (hm : m = ((min n k + 1 : Nat) : Int)) : Calls Tryz.prog 69 #[.slice A n c, .int .i64 (k : Int)] w fun e w' => e = .returned (.agg #[.int .i64 0, .int .i64 m, .int .i64 1]) ∧ Below w.heap.size w w' := by
  have HR := Lib.hid (fun W => sreject_any m 1 W)
  have hq := bneT (show ¬ (n : Int) = (k : Int) by omega)
  have HMIN := Lib.hid (show (min (n : Int) (k : Int) + 1) = m by omega)
  clear h hm
  go_enter Tryz.func69, Tryz.ntmps69
  go_wp2_with fail
  rw [HMIN.out]
  refine (HR.out _).mono ?_
  rintro e w1 ⟨rfl, hb⟩
  have HB := Lib.hid (bch (below_alloc w _) hb (by simp))
  have HX := heap_keep (heap_new w (.cells #[.int .i64 0, .int .i64 0, .int .i64 0] tRej)) hb
  obtain ⟨c0, c1, c2, f0, f1, f2⟩ := cell3 HX
  have HX' := Lib.hid HX
  clear hb HX
  go_wp2_with fail
  obtain ⟨m0, m1, m2, _⟩ := cell3 (set3 HX'.out (.int .i64 0) (.int .i64 m) (.int .i64 1))
  refine bodyPost_ret (v := .agg #[.int .i64 0, .int .i64 m, .int .i64 1]) (by simp [results, Tryz.results69, go_sem, m0, m1, m2]) rfl ⟨rfl, ?_⟩
  exact below_set3 HB.out (Nat.le_refl _) _ _ _
theorem snumber_any (s : ByteArray) (a b : Int) (w : World) (hs : s.size ≤ 1000000) (hM : MW w) : Calls Tryz.prog 70 #[.string s, .int .i64 a, .int .i64 b] w fun e w' => e = .returned (.tuple #[.int .i64 (getM s.data.toList).1, .bool (numB s.data.toList a b)]) ∧ Below w.heap.size w w' := by
  obtain ⟨x, y, hR⟩ : ∃ x y, getM s.data.toList = (x, y) := ⟨_, _, rfl⟩
  have HG := Lib.hid (get_any s w hs hM)
  have HN := Lib.hid (show numB s.data.toList a b = (y && decide (a ≤ x) && decide (x ≤ b)) by unfold numB; rw [hR])
  rw [hR] at HG
  unfold pairV at HG
  rw [hR, HN.out]
  clear hR hM
  cases y with
  | false =>
    go_enter Tryz.func70, Tryz.ntmps70
    go_wp2_with fail
    refine HG.out.mono ?_
    rintro e w1 ⟨rfl, hb⟩
    have HB := Lib.hid hb
    clear hb
    go_wp2_with fail
    go_ret2
    exact ⟨rfl, HB.out⟩
  | true =>
    by_cases h1 : a ≤ x
    · have q1 := decide_eq_true h1
      by_cases h2 : x ≤ b
      · have q2 := decide_eq_true h2
        go_enter Tryz.func70, Tryz.ntmps70
        go_wp2_with fail
        refine HG.out.mono ?_
        rintro e w1 ⟨rfl, hb⟩
        have HB := Lib.hid hb
        clear hb
        go_wp2_with fail
        go_ret2
        exact ⟨by rw [q1, q2]; rfl, HB.out⟩
      · have q2 := decide_eq_false h2
        go_enter Tryz.func70, Tryz.ntmps70
        go_wp2_with fail
        refine HG.out.mono ?_
        rintro e w1 ⟨rfl, hb⟩
        have HB := Lib.hid hb
        clear hb
        go_wp2_with fail
        go_ret2
        exact ⟨by rw [q1, q2]; rfl, HB.out⟩
    · have q1 := decide_eq_false h1
      go_enter Tryz.func70, Tryz.ntmps70
      go_wp2_with fail
      refine HG.out.mono ?_
      rintro e w1 ⟨rfl, hb⟩
      have HB := Lib.hid hb
      clear hb
      go_wp2_with fail
      go_ret2
      exact ⟨by rw [q1]; rfl, HB.out⟩
end Go.Proofs.YtgpjbigelblanaaGreatDoor

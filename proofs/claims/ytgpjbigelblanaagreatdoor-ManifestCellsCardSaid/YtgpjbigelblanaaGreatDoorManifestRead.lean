/- manifest's read: what a cell says. -/
import Derived.Test.YtgpjbigelblanaaGreatDoorManifestCell
import Derived.Test.YtgpjbigelblanaaGreatDoorShelf
namespace Go.Proofs.YtgpjbigelblanaaGreatDoor
open Go.RowKit Go.Maps Key Mon Mf Rw

theorem has_done (t : List UInt8) : Lib.hasPrefix t [100, 111, 110, 101, 58] = decide (t.take 5 = wDone) := by
  unfold Lib.hasPrefix
  rw [Bool.eq_iff_iff, List.isPrefixOf_iff_prefix, List.prefix_iff_eq_take, decide_eq_true_eq]
  exact ⟨fun h => h.symm, fun h => h.symm⟩
theorem cut_done (t : List UInt8) (w : World) : Calls Tryz.prog 108 #[.string ⟨t.toArray⟩, .string ⟨#[100, 111, 110, 101, 58]⟩] w fun e w' => e = .returned (.tuple #[.string ⟨(if t.take 5 = wDone then t.drop 5 else t).toArray⟩, .bool (decide (t.take 5 = wDone))]) ∧ w = w' :=
  (Tryz.strings_CutPrefix ⟨t.toArray⟩ ⟨#[100, 111, 110, 101, 58]⟩ w).mono fun e w' ⟨h1, h2⟩ => by
    refine ⟨?_, h2.symm⟩
    rw [h1]
    have e1 : (⟨t.toArray⟩ : ByteArray).data.toList = t := by simp
    have e2 : (⟨#[100, 111, 110, 101, 58]⟩ : ByteArray).data.toList = [100, 111, 110, 101, 58] := rfl
    rw [e1, e2]
    unfold Lib.trimPrefix
    rw [has_done]
    by_cases h : t.take 5 = wDone
    · simp [h]
    · simp [h]
/-- What a cell's reading comes to. -/
def ReadR (t : List UInt8) (o d : Int) (e : Ending) : Prop := match cellR t with
  | none => ∃ y : R5, e = .returned (.tuple #[mkRow y, .bool true, .bool false])
  | some x => e = .returned (.tuple #[mkRow (if x.1 = 0 then ((0, 0), 0, 0, 0) else ((o, d), x.1, 0, x.2)), .bool (decide (x.1 ≠ 0)), .bool true])
set_option linter.unusedSimpArgs false in
set_option linter.unusedVariables false in
set_option maxRecDepth 100000 in
set_option maxHeartbeats 2000000 in
theorem mread_any (t : List UInt8) (o d : Int) (w : World) (ht : t.length ≤ 1000000) (hS : MfW w) : Calls Tryz.prog 96 #[.string ⟨t.toArray⟩, .agg #[.int .i64 o, .int .i64 d]] w fun e w' => ReadR t o d e ∧ Below w.heap.size w w' := by
  obtain ⟨wa, hwa⟩ : ∃ wa, (w.alloc (.cells #[.int .i64 o, .int .i64 d] tKey)).alloc (.cells #[.int .i64 0, .int .i64 0, .int .i64 0, .int .i64 0, .int .i64 0] tRow) = wa := ⟨_, rfl⟩
  have h2 := two_blocks w _ _ hwa
  have HA := Lib.hid h2.1; have HX := Lib.hid h2.2.1; have HY := Lib.hid h2.2.2
  have HS := Lib.hid hS
  have hWA := Lib.hid hwa
  clear h2 hwa hS
  obtain ⟨k0, k1, _, _⟩ := cell2 HX.out
  obtain ⟨x0, x1, x2, x3, x4⟩ := cell5 HY.out
  obtain ⟨f0, f1, f2, f3, f4⟩ := froz5a HY.out
  by_cases h1 : t = wNo
  · have hq := text_eq h1
    unfold wNo at hq
    have HR := Lib.hid (show cellR t = some (0, 0) by unfold cellR; rw [if_pos h1])
    clear h1
    go_enter Tryz.func96, Tryz.ntmps96
    go_upto_region 1 with (fail)
    rw [hWA.out]
    go_wp2_with fail
    obtain ⟨w2, hw2⟩ : ∃ w2, w2 = ((((wa.setCell ⟨w.heap.size + 1, 0, none⟩ (.int .i64 0)).setCell ⟨w.heap.size + 1, 1, none⟩ (.int .i64 0)).setCell ⟨w.heap.size + 1, 2, none⟩ (.int .i64 0)).setCell ⟨w.heap.size + 1, 3, none⟩ (.int .i64 0)).setCell ⟨w.heap.size + 1, 4, none⟩ (.int .i64 0) := ⟨_, rfl⟩
    rw [← hw2]
    have hy2 : w2.heap[w.heap.size + 1]? = some (.cells #[.int .i64 0, .int .i64 0, .int .i64 0, .int .i64 0, .int .i64 0] tRow (0, 0)) := by rw [hw2]; exact set5a HY.out _ _ _ _ _
    have hb2 : Below w.heap.size w w2 := by rw [hw2]; exact Below.turned HA.out (turned_set5 wa (w.heap.size + 1) _ _ _ _ _) (fun i h => by omega) HA.out.size
    clear hw2 x0 x1 x2 x3 x4 f0 f1 f2 f3 f4
    obtain ⟨m0, m1, m2, m3, m4⟩ := cell5 hy2
    refine bodyPost_ret (v := .tuple #[.agg #[.int .i64 0, .int .i64 0, .int .i64 0, .int .i64 0, .int .i64 0], .bool false, .bool true]) (by simp [results, Tryz.results96, go_sem, m0, m1, m2, m3, m4]) rfl ⟨?_, hb2⟩
    unfold ReadR
    rw [HR.out]
    rfl
  · have hq := text_ne h1
    unfold wNo at hq
    by_cases h2 : t = Sk.wRef
    · have hq2 := text_eq h2
      unfold Sk.wRef at hq2
      have HR := Lib.hid (show cellR t = some (2, 0) by unfold cellR; rw [if_neg h1, if_pos h2])
      clear h1 h2
      go_enter Tryz.func96, Tryz.ntmps96
      go_upto_region 1 with (fail)
      rw [hWA.out]
      go_wp2_with fail
      obtain ⟨w2, hw2⟩ : ∃ w2, w2 = ((((wa.setCell ⟨w.heap.size + 1, 0, none⟩ (.int .i64 o)).setCell ⟨w.heap.size + 1, 1, none⟩ (.int .i64 d)).setCell ⟨w.heap.size + 1, 2, none⟩ (.int .i64 2)).setCell ⟨w.heap.size + 1, 3, none⟩ (.int .i64 0)).setCell ⟨w.heap.size + 1, 4, none⟩ (.int .i64 0) := ⟨_, rfl⟩
      rw [← hw2]
      have hy2 : w2.heap[w.heap.size + 1]? = some (.cells #[.int .i64 o, .int .i64 d, .int .i64 2, .int .i64 0, .int .i64 0] tRow (0, 0)) := by rw [hw2]; exact set5a HY.out _ _ _ _ _
      have hb2 : Below w.heap.size w w2 := by rw [hw2]; exact Below.turned HA.out (turned_set5 wa (w.heap.size + 1) _ _ _ _ _) (fun i h => by omega) HA.out.size
      clear hw2 x0 x1 x2 x3 x4 f0 f1 f2 f3 f4
      obtain ⟨m0, m1, m2, m3, m4⟩ := cell5 hy2
      refine bodyPost_ret (v := .tuple #[.agg #[.int .i64 o, .int .i64 d, .int .i64 2, .int .i64 0, .int .i64 0], .bool true, .bool true]) (by simp [results, Tryz.results96, go_sem, m0, m1, m2, m3, m4]) rfl ⟨?_, hb2⟩
      unfold ReadR
      rw [HR.out]
      rfl
    · have hq2 := text_ne h2
      unfold Sk.wRef at hq2
      have HCU := Lib.hid (fun W => cut_done t W)
      obtain ⟨cu, hcu⟩ : ∃ cu : Bool, decide (t.take 5 = wDone) = cu := ⟨_, rfl⟩
      obtain ⟨u, hu⟩ : ∃ u, (if t.take 5 = wDone then t.drop 5 else t) = u := ⟨_, rfl⟩
      rw [hcu, hu] at HCU
      have hul : u.length ≤ 1000000 := by rw [← hu]; split; (rw [List.length_drop]; omega); omega
      obtain ⟨n, hn⟩ : ∃ n, (getM u).1 = n := ⟨_, rfl⟩
      obtain ⟨z, hz⟩ : ∃ z, Sk.numB u 0 999 = z := ⟨_, rfl⟩
      have HN := Lib.hid (fun W hM => mnumber_any ⟨u.toArray⟩ 0 999 W (by rw [bytes_size]; exact hul) hM)
      rw [bytes_list, hn, hz] at HN
      have HR := Lib.hid (show cellR t = if (cu && z) = true then some (1, n) else none by
        unfold cellR
        rw [if_neg h1, if_neg h2]
        by_cases hc : t.take 5 = wDone
        · rw [if_pos hc] at hu
          subst hu
          have : cu = true := by rw [← hcu]; simpa using hc
          subst this
          rw [hz, hn]
          cases z <;> simp [hc]
        · have : cu = false := by rw [← hcu]; simpa using hc
          subst this
          rw [if_neg (fun h => hc h.1)]
          simp)
      clear h1 h2 hcu hu hn hz hul
      go_enter Tryz.func96, Tryz.ntmps96
      go_upto_region 1 with (fail)
      rw [hWA.out]
      go_upto_region 6 with (fail)
      go_wp2_with fail
      refine (HCU.out _).mono ?_
      rintro e w1 ⟨rfl, hw⟩; subst hw
      go_wp2_with fail
      refine (HN.out _ (HS.out.below HA.out).mw).mono ?_
      rintro e w1 ⟨rfl, hb⟩
      have HB1 := Lib.hid (bch HA.out hb HA.out.size)
      have HX1 := Lib.hid (heap_keep HX.out hb); have HY1 := Lib.hid (heap_keep HY.out hb)
      clear hb k0 k1 x0 x1 x2 x3 x4 f0 f1 f2 f3 f4
      obtain ⟨k0, k1, _, _⟩ := cell2 HX1.out
      obtain ⟨x0, x1, x2, x3, x4⟩ := cell5 HY1.out
      obtain ⟨f0, f1, f2, f3, f4⟩ := froz5a HY1.out
      cases cu with
      | true =>
        go_wp2_with fail
        obtain ⟨w2, hw2⟩ : ∃ w2, w2 = ((((w1.setCell ⟨w.heap.size + 1, 0, none⟩ (.int .i64 o)).setCell ⟨w.heap.size + 1, 1, none⟩ (.int .i64 d)).setCell ⟨w.heap.size + 1, 2, none⟩ (.int .i64 1)).setCell ⟨w.heap.size + 1, 3, none⟩ (.int .i64 0)).setCell ⟨w.heap.size + 1, 4, none⟩ (.int .i64 n) := ⟨_, rfl⟩
        rw [← hw2]
        have hy2 : w2.heap[w.heap.size + 1]? = some (.cells #[.int .i64 o, .int .i64 d, .int .i64 1, .int .i64 0, .int .i64 n] tRow (0, 0)) := by rw [hw2]; exact set5a HY1.out _ _ _ _ _
        have hb2 : Below w.heap.size w w2 := by rw [hw2]; exact Below.turned HB1.out (turned_set5 w1 (w.heap.size + 1) _ _ _ _ _) (fun i h => by omega) HB1.out.size
        clear hw2 x0 x1 x2 x3 x4 f0 f1 f2 f3 f4
        obtain ⟨m0, m1, m2, m3, m4⟩ := cell5 hy2
        refine bodyPost_ret (v := .tuple #[.agg #[.int .i64 o, .int .i64 d, .int .i64 1, .int .i64 0, .int .i64 n], .bool true, .bool z]) (by simp [results, Tryz.results96, go_sem, m0, m1, m2, m3, m4]) rfl ⟨?_, hb2⟩
        unfold ReadR
        rw [HR.out]
        cases z
        · exact ⟨((o, d), 1, 0, n), rfl⟩
        · rfl
      | false =>
        go_wp2_with fail
        obtain ⟨w2, hw2⟩ : ∃ w2, w2 = ((((w1.setCell ⟨w.heap.size + 1, 0, none⟩ (.int .i64 o)).setCell ⟨w.heap.size + 1, 1, none⟩ (.int .i64 d)).setCell ⟨w.heap.size + 1, 2, none⟩ (.int .i64 1)).setCell ⟨w.heap.size + 1, 3, none⟩ (.int .i64 0)).setCell ⟨w.heap.size + 1, 4, none⟩ (.int .i64 n) := ⟨_, rfl⟩
        rw [← hw2]
        have hy2 : w2.heap[w.heap.size + 1]? = some (.cells #[.int .i64 o, .int .i64 d, .int .i64 1, .int .i64 0, .int .i64 n] tRow (0, 0)) := by rw [hw2]; exact set5a HY1.out _ _ _ _ _
        have hb2 : Below w.heap.size w w2 := by rw [hw2]; exact Below.turned HB1.out (turned_set5 w1 (w.heap.size + 1) _ _ _ _ _) (fun i h => by omega) HB1.out.size
        clear hw2 x0 x1 x2 x3 x4 f0 f1 f2 f3 f4
        obtain ⟨m0, m1, m2, m3, m4⟩ := cell5 hy2
        refine bodyPost_ret (v := .tuple #[.agg #[.int .i64 o, .int .i64 d, .int .i64 1, .int .i64 0, .int .i64 n], .bool true, .bool false]) (by simp [results, Tryz.results96, go_sem, m0, m1, m2, m3, m4]) rfl ⟨?_, hb2⟩
        unfold ReadR
        rw [HR.out]
        exact ⟨((o, d), 1, 0, n), rfl⟩
end Go.Proofs.YtgpjbigelblanaaGreatDoor

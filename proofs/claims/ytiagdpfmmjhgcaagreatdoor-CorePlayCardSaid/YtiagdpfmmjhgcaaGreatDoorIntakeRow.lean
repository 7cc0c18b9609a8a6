/- The document's intake: Row. -/
import Derived.Test.YtiagdpfmmjhgcaaGreatDoorIntakeRef
import Derived.Test.YtiagdpfmmjhgcaaGreatDoorShort
namespace Go.Proofs.YtiagdpfmmjhgcaaGreatDoor
open Go.RowKit Go.Maps Key Rw
set_option linter.unusedSimpArgs false
set_option linter.unusedVariables false
set_option maxRecDepth 100000
set_option maxHeartbeats 4000000

theorem find_take {L : List R5} {k : Int × Int} {j : Nat} {x : R5} (hx : L[j]? = some x) : In.findR (L.take (j + 1)) k = (In.findR (L.take j) k).or (if x.1 = k then some x else none) := by
 unfold In.findR
 rw [List.take_add_one, hx, List.find?_append]
 by_cases h : x.1 = k <;> simp [h]
theorem find_le {L : List R5} {k : Int × Int} {j : Nat} {x : R5} (h : In.findR (L.take j) k = some x) : In.findR L k = some x := by
 have e : L = L.take j ++ L.drop j := (List.take_append_drop j L).symm
 rw [e]
 unfold In.findR at *
 rw [List.find?_append, h]
 rfl
theorem refCheck_at {o d : Int} {b : Bool} (h : chk o d = b) (W : World) : Calls Tryz.prog 90 #[.agg #[.int .i64 o, .int .i64 d]] W fun e w' => e = .returned (.bool b) ∧ Below W.heap.size W w' := by rw [← h]; exact refCheck_any o d W
theorem refParty_at {d p : Int} (h : partyI d = p) (hd : Mon.InR d) (W : World) : Calls Tryz.prog 94 #[.int .i64 d] W fun e w' => e = .returned (.int .i64 p) ∧ W = w' := by rw [← h]; exact refParty_any d W hd
theorem refRow_no (w : World) (v : Value) (I : In.Inn) (o d : Int) (h : InR w v I) (hg : In.Fine I) (hk : chk o d = false) :
  Calls Tryz.prog 68 #[v, .agg #[.int .i64 o, .int .i64 d]] w fun e w' => e = .returned (.tuple #[.agg #[.int .i64 (rowD (In.rowOf I (o, d))).1.1, .int .i64 (rowD (In.rowOf I (o, d))).1.2, .int .i64 (rowD (In.rowOf I (o, d))).2.1, .int .i64 (rowD (In.rowOf I (o, d))).2.2.1, .int .i64 (rowD (In.rowOf I (o, d))).2.2.2], .bool (In.rowOf I (o, d)).isSome]) ∧ Below w.heap.size w w' := by
 obtain ⟨A0, n0, c0, A1, n1, c1, A2, n2, c2, rfl, h0, h1, h2⟩ := h
 have HE := Hd (In.Fine.rowOf_none hg (k := (o, d)) hk)
 have HC := Hd (refCheck_at hk)
 clear h0 h1 h2 hg hk
 obtain ⟨wa, hA⟩ : ∃ wa, wa = ((w.alloc (.cells #[.int .i64 I.a.1, .int .i64 I.a.2.1, .slice A0 n0 c0, .int .i64 I.b.1, .int .i64 I.b.2.1, .slice A1 n1 c1, .int .i64 I.c.1, .int .i64 I.c.2.1, .slice A2 n2 c2] tInR)).alloc (.cells #[.int .i64 o, .int .i64 d] tKey)).alloc (.cells #[.int .i64 0, .int .i64 0, .int .i64 0, .int .i64 0, .int .i64 0] tRow) := ⟨_, rfl⟩
 obtain ⟨hB, hI, hS, hZ⟩ := three_new w _ _ _ tInR tKey tRow hA
 have HB := Hd hB; have HI := Hd hI; have HS := Hd hS; have HZ := Hd hZ
 have HA := Hd hA
 clear hA hB hI hS hZ
 go_enter Tryz.func68, Tryz.ntmps68
 go_wp2_with fail
 rw [← HA.out]
 refine (HC.out _).mono ?_
 rintro e w1 ⟨rfl, hb⟩
 have HB1 := Hd (bch HB.out hb HB.out.size)
 have HZ1 := Hd (heap_keep HZ.out hb)
 clear hb HA HB HI HS HZ HC
 have hsz2 := heap_lt HZ1.out
 obtain ⟨m0, m1, m2, m3, m4⟩ := cell5 HZ1.out
 obtain ⟨f0, f1, f2, f3, f4⟩ := froz5 HZ1.out
 go_wp2_with fail
 refine bodyPost_ret (v := .tuple #[.agg #[.int .i64 0, .int .i64 0, .int .i64 0, .int .i64 0, .int .i64 0], .bool false]) (by simp [results, Tryz.results68, go_sem, m0, m1, m2, m3, m4]) rfl ⟨by rw [HE.out]; rfl, ?_⟩
 exact Below.turned HB1.out (turned_set5 w1 (w.heap.size + 2) _ _ _ _ _) (fun i h => by omega) HB1.out.size
theorem refRow_0 (w : World) (v : Value) (I : In.Inn) (o d : Int) (h : InR w v I) (hg : In.Fine I) (hk : chk o d = true) (hp : partyI d = 0) :
  Calls Tryz.prog 68 #[v, .agg #[.int .i64 o, .int .i64 d]] w fun e w' => e = .returned (.tuple #[.agg #[.int .i64 (rowD (In.rowOf I (o, d))).1.1, .int .i64 (rowD (In.rowOf I (o, d))).1.2, .int .i64 (rowD (In.rowOf I (o, d))).2.1, .int .i64 (rowD (In.rowOf I (o, d))).2.2.1, .int .i64 (rowD (In.rowOf I (o, d))).2.2.2], .bool (In.rowOf I (o, d)).isSome]) ∧ Below w.heap.size w w' := by
 obtain ⟨A0, n0, c0, A1, n1, c1, A2, n2, c2, rfl, h0, h1, h2⟩ := h
 have HE0 := Hd (show In.rowOf I (o, d) = In.findR I.a.2.2 (o, d) by rw [In.Fine.rowOf_party hg (k := (o, d)) hk, show partyI (o, d).2 = 0 from hp]; rfl)
 have HC := Hd (refCheck_at hk)
 have HP := Hd (refParty_at hp (by unfold chk at hk; simp at hk; exact ⟨by omega, by omega⟩))
 have hll := In.ok_len hg.a
 obtain ⟨A', c', e, hlc, hcm⟩ := h0.shape
 injection e with e1 e2 e3; subst e1; subst e2; subst e3
 have HR := Hd h0
 clear h0 h1 h2 hg hk hp
 obtain ⟨wa, hA⟩ : ∃ wa, wa = ((w.alloc (.cells #[.int .i64 I.a.1, .int .i64 I.a.2.1, .slice A0 I.a.2.2.length c0, .int .i64 I.b.1, .int .i64 I.b.2.1, .slice A1 n1 c1, .int .i64 I.c.1, .int .i64 I.c.2.1, .slice A2 n2 c2] tInR)).alloc (.cells #[.int .i64 o, .int .i64 d] tKey)).alloc (.cells #[.int .i64 0, .int .i64 0, .int .i64 0, .int .i64 0, .int .i64 0] tRow) := ⟨_, rfl⟩
 obtain ⟨hB, hI, hS, hZ⟩ := three_new w _ _ _ tInR tKey tRow hA
 have HB := Hd hB; have HI := Hd hI; have HS := Hd hS; have HZ := Hd hZ
 have HA := Hd hA
 clear hA hB hI hS hZ
 go_enter Tryz.func68, Tryz.ntmps68
 go_wp2_with fail
 rw [← HA.out]
 refine (HC.out _).mono ?_
 rintro e w1 ⟨rfl, hb⟩
 have HB1 := Hd (bch HB.out hb HB.out.size)
 have HZ1 := Hd (heap_keep HZ.out hb)
 have HI1 := Hd (heap_keep HI.out hb)
 have HS1 := Hd (heap_keep HS.out hb)
 clear hb HA HB HI HS HZ HC
 obtain ⟨i0, i1, i2, i3, i4, i5, i6, i7, i8⟩ := cell9 HI1.out
 obtain ⟨k0, k1, _, _⟩ := cell2 HS1.out
 go_wp2_with fail
 refine (HP.out _).mono ?_
 rintro e w2 ⟨rfl, hw⟩; subst hw
 go_wp2_with fail
 clear i0 i1 i2 i3 i4 i5 i6 i7 i8 k0 k1
 go_loopw [7] (fun i wr => ∃ j : Nat, i = .int .i64 j ∧ j ≤ I.a.2.2.length ∧ Hid (In.findR (I.a.2.2.take j) (o, d) = none) ∧ Hid (Below w1.heap.size w1 wr)) (fun i _ => I.a.2.2.length - (intOf i).toNat)
 case atStart => exact ⟨0, rfl, by omega, rfl, Below.refl _ _⟩
 case round =>
  obtain ⟨j, rfl, hj, HF, HBr⟩ := hrel
  have HBw := Hd (bch HB1.out HBr.out HB1.out.size)
  have HZr := Hd (heap_keep HZ1.out HBr.out)
  have HSr := Hd (heap_keep HS1.out HBr.out)
  obtain ⟨k0, k1, _, _⟩ := cell2 HSr.out
  by_cases hjl : j < I.a.2.2.length
  ·obtain ⟨y, hy⟩ : ∃ y, I.a.2.2[j]? = some y := ⟨_, List.getElem?_eq_getElem hjl⟩
   obtain ⟨g, off, n', c', e, d0, d1, d2, d3, d4⟩ := (HR.out.keep HBw.out).cells (Below.refl _ _) hy
   injection e with e1 e2 e3
   subst e1; subst e2; subst e3
   have HT := Hd (find_take (k := (o, d)) hy)
   have hjl' : (j : Int) < I.a.2.2.length := by omega
   have hj0 : (0 : Int) ≤ j := by omega
   clear hy
   obtain ⟨⟨o', d'⟩, t, a, q⟩ := y
   simp only [] at d0 d1 d2 d3 d4
   by_cases he : ((o', d') : Int × Int) = (o, d)
   ·have HE := Hd (show In.rowOf I (o, d) = some ((o', d'), t, a, q) by rw [HE0.out]; exact find_le (j := j + 1) (by rw [HT.out, HF.out, if_pos he]; rfl))
    clear HT
    injection he with e1 e2
    subst e1; subst e2
    obtain ⟨m0, m1, m2, m3, m4⟩ := cell5 HZr.out
    obtain ⟨f0, f1, f2, f3, f4⟩ := froz5 HZr.out
    go_wp2_with fail
    go_quiet (fail)
    go_wp2_with fail
    refine bodyPost_ret (v := .tuple #[.agg #[.int .i64 o', .int .i64 d', .int .i64 t, .int .i64 a, .int .i64 q], .bool true]) (by simp [results, Tryz.results68, go_sem, m0, m1, m2, m3, m4]) rfl ⟨by rw [HE.out]; rfl, ?_⟩
    exact Below.turned (below_drewN HBw.out _) (turned_set5 _ (w.heap.size + 2) _ _ _ _ _) (fun i h => by omega) (below_drewN HBw.out _).size
   ·have HF' := Hd (show In.findR (I.a.2.2.take (j + 1)) (o, d) = none by rw [HT.out, HF.out, if_neg he]; rfl)
    clear HT
    have hne : ¬ o' = o ∨ (o' = o ∧ ¬ d' = d) := by
     by_cases h1 : o' = o
     ·exact .inr ⟨h1, fun h2 => he (by rw [h1, h2])⟩
     ·exact .inl h1
    clear he
    rcases hne with h1 | ⟨rfl, h1⟩
    all_goals
     have hb1 := beqF h1
     have hb2 := bneT h1
     go_wp2_with fail
     go_quiet (fail)
     go_wp2_with fail
     go_roundw
     case rel => exact ⟨j + 1, by go_num, by omega, HF'.out, below_drewN HBr.out _⟩
     case measure => simp [intOf]; omega
  ·have hjl' : (I.a.2.2.length : Int) ≤ j := by omega
   have HE := Hd (show In.rowOf I (o, d) = none by rw [HE0.out]; have := HF.out; rwa [List.take_of_length_le (by omega)] at this)
   obtain ⟨m0, m1, m2, m3, m4⟩ := cell5 HZr.out
   obtain ⟨f0, f1, f2, f3, f4⟩ := froz5 HZr.out
   go_wp2_with fail
   refine bodyPost_ret (v := .tuple #[.agg #[.int .i64 0, .int .i64 0, .int .i64 0, .int .i64 0, .int .i64 0], .bool false]) (by simp [results, Tryz.results68, go_sem, m0, m1, m2, m3, m4]) rfl ⟨by rw [HE.out]; rfl, ?_⟩
   exact Below.turned HBw.out (turned_set5 wr (w.heap.size + 2) _ _ _ _ _) (fun i h => by omega) HBw.out.size
theorem refRow_1 (w : World) (v : Value) (I : In.Inn) (o d : Int) (h : InR w v I) (hg : In.Fine I) (hk : chk o d = true) (hp : partyI d = 1) :
  Calls Tryz.prog 68 #[v, .agg #[.int .i64 o, .int .i64 d]] w fun e w' => e = .returned (.tuple #[.agg #[.int .i64 (rowD (In.rowOf I (o, d))).1.1, .int .i64 (rowD (In.rowOf I (o, d))).1.2, .int .i64 (rowD (In.rowOf I (o, d))).2.1, .int .i64 (rowD (In.rowOf I (o, d))).2.2.1, .int .i64 (rowD (In.rowOf I (o, d))).2.2.2], .bool (In.rowOf I (o, d)).isSome]) ∧ Below w.heap.size w w' := by
 obtain ⟨A0, n0, c0, A1, n1, c1, A2, n2, c2, rfl, h0, h1, h2⟩ := h
 have HE0 := Hd (show In.rowOf I (o, d) = In.findR I.b.2.2 (o, d) by rw [In.Fine.rowOf_party hg (k := (o, d)) hk, show partyI (o, d).2 = 1 from hp]; rfl)
 have HC := Hd (refCheck_at hk)
 have HP := Hd (refParty_at hp (by unfold chk at hk; simp at hk; exact ⟨by omega, by omega⟩))
 have hll := In.ok_len hg.b
 obtain ⟨A', c', e, hlc, hcm⟩ := h1.shape
 injection e with e1 e2 e3; subst e1; subst e2; subst e3
 have HR := Hd h1
 clear h0 h1 h2 hg hk hp
 obtain ⟨wa, hA⟩ : ∃ wa, wa = ((w.alloc (.cells #[.int .i64 I.a.1, .int .i64 I.a.2.1, .slice A0 n0 c0, .int .i64 I.b.1, .int .i64 I.b.2.1, .slice A1 I.b.2.2.length c1, .int .i64 I.c.1, .int .i64 I.c.2.1, .slice A2 n2 c2] tInR)).alloc (.cells #[.int .i64 o, .int .i64 d] tKey)).alloc (.cells #[.int .i64 0, .int .i64 0, .int .i64 0, .int .i64 0, .int .i64 0] tRow) := ⟨_, rfl⟩
 obtain ⟨hB, hI, hS, hZ⟩ := three_new w _ _ _ tInR tKey tRow hA
 have HB := Hd hB; have HI := Hd hI; have HS := Hd hS; have HZ := Hd hZ
 have HA := Hd hA
 clear hA hB hI hS hZ
 go_enter Tryz.func68, Tryz.ntmps68
 go_wp2_with fail
 rw [← HA.out]
 refine (HC.out _).mono ?_
 rintro e w1 ⟨rfl, hb⟩
 have HB1 := Hd (bch HB.out hb HB.out.size)
 have HZ1 := Hd (heap_keep HZ.out hb)
 have HI1 := Hd (heap_keep HI.out hb)
 have HS1 := Hd (heap_keep HS.out hb)
 clear hb HA HB HI HS HZ HC
 obtain ⟨i0, i1, i2, i3, i4, i5, i6, i7, i8⟩ := cell9 HI1.out
 obtain ⟨k0, k1, _, _⟩ := cell2 HS1.out
 go_wp2_with fail
 refine (HP.out _).mono ?_
 rintro e w2 ⟨rfl, hw⟩; subst hw
 go_wp2_with fail
 clear i0 i1 i2 i3 i4 i5 i6 i7 i8 k0 k1
 go_loopw [7] (fun i wr => ∃ j : Nat, i = .int .i64 j ∧ j ≤ I.b.2.2.length ∧ Hid (In.findR (I.b.2.2.take j) (o, d) = none) ∧ Hid (Below w1.heap.size w1 wr)) (fun i _ => I.b.2.2.length - (intOf i).toNat)
 case atStart => exact ⟨0, rfl, by omega, rfl, Below.refl _ _⟩
 case round =>
  obtain ⟨j, rfl, hj, HF, HBr⟩ := hrel
  have HBw := Hd (bch HB1.out HBr.out HB1.out.size)
  have HZr := Hd (heap_keep HZ1.out HBr.out)
  have HSr := Hd (heap_keep HS1.out HBr.out)
  obtain ⟨k0, k1, _, _⟩ := cell2 HSr.out
  by_cases hjl : j < I.b.2.2.length
  ·obtain ⟨y, hy⟩ : ∃ y, I.b.2.2[j]? = some y := ⟨_, List.getElem?_eq_getElem hjl⟩
   obtain ⟨g, off, n', c', e, d0, d1, d2, d3, d4⟩ := (HR.out.keep HBw.out).cells (Below.refl _ _) hy
   injection e with e1 e2 e3
   subst e1; subst e2; subst e3
   have HT := Hd (find_take (k := (o, d)) hy)
   have hjl' : (j : Int) < I.b.2.2.length := by omega
   have hj0 : (0 : Int) ≤ j := by omega
   clear hy
   obtain ⟨⟨o', d'⟩, t, a, q⟩ := y
   simp only [] at d0 d1 d2 d3 d4
   by_cases he : ((o', d') : Int × Int) = (o, d)
   ·have HE := Hd (show In.rowOf I (o, d) = some ((o', d'), t, a, q) by rw [HE0.out]; exact find_le (j := j + 1) (by rw [HT.out, HF.out, if_pos he]; rfl))
    clear HT
    injection he with e1 e2
    subst e1; subst e2
    obtain ⟨m0, m1, m2, m3, m4⟩ := cell5 HZr.out
    obtain ⟨f0, f1, f2, f3, f4⟩ := froz5 HZr.out
    go_wp2_with fail
    go_quiet (fail)
    go_wp2_with fail
    refine bodyPost_ret (v := .tuple #[.agg #[.int .i64 o', .int .i64 d', .int .i64 t, .int .i64 a, .int .i64 q], .bool true]) (by simp [results, Tryz.results68, go_sem, m0, m1, m2, m3, m4]) rfl ⟨by rw [HE.out]; rfl, ?_⟩
    exact Below.turned (below_drewN HBw.out _) (turned_set5 _ (w.heap.size + 2) _ _ _ _ _) (fun i h => by omega) (below_drewN HBw.out _).size
   ·have HF' := Hd (show In.findR (I.b.2.2.take (j + 1)) (o, d) = none by rw [HT.out, HF.out, if_neg he]; rfl)
    clear HT
    have hne : ¬ o' = o ∨ (o' = o ∧ ¬ d' = d) := by
     by_cases h1 : o' = o
     ·exact .inr ⟨h1, fun h2 => he (by rw [h1, h2])⟩
     ·exact .inl h1
    clear he
    rcases hne with h1 | ⟨rfl, h1⟩
    all_goals
     have hb1 := beqF h1
     have hb2 := bneT h1
     go_wp2_with fail
     go_quiet (fail)
     go_wp2_with fail
     go_roundw
     case rel => exact ⟨j + 1, by go_num, by omega, HF'.out, below_drewN HBr.out _⟩
     case measure => simp [intOf]; omega
  ·have hjl' : (I.b.2.2.length : Int) ≤ j := by omega
   have HE := Hd (show In.rowOf I (o, d) = none by rw [HE0.out]; have := HF.out; rwa [List.take_of_length_le (by omega)] at this)
   obtain ⟨m0, m1, m2, m3, m4⟩ := cell5 HZr.out
   obtain ⟨f0, f1, f2, f3, f4⟩ := froz5 HZr.out
   go_wp2_with fail
   refine bodyPost_ret (v := .tuple #[.agg #[.int .i64 0, .int .i64 0, .int .i64 0, .int .i64 0, .int .i64 0], .bool false]) (by simp [results, Tryz.results68, go_sem, m0, m1, m2, m3, m4]) rfl ⟨by rw [HE.out]; rfl, ?_⟩
   exact Below.turned HBw.out (turned_set5 wr (w.heap.size + 2) _ _ _ _ _) (fun i h => by omega) HBw.out.size
theorem refRow_2 (w : World) (v : Value) (I : In.Inn) (o d : Int) (h : InR w v I) (hg : In.Fine I) (hk : chk o d = true) (hp : partyI d = 2) :
  Calls Tryz.prog 68 #[v, .agg #[.int .i64 o, .int .i64 d]] w fun e w' => e = .returned (.tuple #[.agg #[.int .i64 (rowD (In.rowOf I (o, d))).1.1, .int .i64 (rowD (In.rowOf I (o, d))).1.2, .int .i64 (rowD (In.rowOf I (o, d))).2.1, .int .i64 (rowD (In.rowOf I (o, d))).2.2.1, .int .i64 (rowD (In.rowOf I (o, d))).2.2.2], .bool (In.rowOf I (o, d)).isSome]) ∧ Below w.heap.size w w' := by
 obtain ⟨A0, n0, c0, A1, n1, c1, A2, n2, c2, rfl, h0, h1, h2⟩ := h
 have HE0 := Hd (show In.rowOf I (o, d) = In.findR I.c.2.2 (o, d) by rw [In.Fine.rowOf_party hg (k := (o, d)) hk, show partyI (o, d).2 = 2 from hp]; rfl)
 have HC := Hd (refCheck_at hk)
 have HP := Hd (refParty_at hp (by unfold chk at hk; simp at hk; exact ⟨by omega, by omega⟩))
 have hll := In.ok_len hg.c
 obtain ⟨A', c', e, hlc, hcm⟩ := h2.shape
 injection e with e1 e2 e3; subst e1; subst e2; subst e3
 have HR := Hd h2
 clear h0 h1 h2 hg hk hp
 obtain ⟨wa, hA⟩ : ∃ wa, wa = ((w.alloc (.cells #[.int .i64 I.a.1, .int .i64 I.a.2.1, .slice A0 n0 c0, .int .i64 I.b.1, .int .i64 I.b.2.1, .slice A1 n1 c1, .int .i64 I.c.1, .int .i64 I.c.2.1, .slice A2 I.c.2.2.length c2] tInR)).alloc (.cells #[.int .i64 o, .int .i64 d] tKey)).alloc (.cells #[.int .i64 0, .int .i64 0, .int .i64 0, .int .i64 0, .int .i64 0] tRow) := ⟨_, rfl⟩
 obtain ⟨hB, hI, hS, hZ⟩ := three_new w _ _ _ tInR tKey tRow hA
 have HB := Hd hB; have HI := Hd hI; have HS := Hd hS; have HZ := Hd hZ
 have HA := Hd hA
 clear hA hB hI hS hZ
 go_enter Tryz.func68, Tryz.ntmps68
 go_wp2_with fail
 rw [← HA.out]
 refine (HC.out _).mono ?_
 rintro e w1 ⟨rfl, hb⟩
 have HB1 := Hd (bch HB.out hb HB.out.size)
 have HZ1 := Hd (heap_keep HZ.out hb)
 have HI1 := Hd (heap_keep HI.out hb)
 have HS1 := Hd (heap_keep HS.out hb)
 clear hb HA HB HI HS HZ HC
 obtain ⟨i0, i1, i2, i3, i4, i5, i6, i7, i8⟩ := cell9 HI1.out
 obtain ⟨k0, k1, _, _⟩ := cell2 HS1.out
 go_wp2_with fail
 refine (HP.out _).mono ?_
 rintro e w2 ⟨rfl, hw⟩; subst hw
 go_wp2_with fail
 clear i0 i1 i2 i3 i4 i5 i6 i7 i8 k0 k1
 go_loopw [7] (fun i wr => ∃ j : Nat, i = .int .i64 j ∧ j ≤ I.c.2.2.length ∧ Hid (In.findR (I.c.2.2.take j) (o, d) = none) ∧ Hid (Below w1.heap.size w1 wr)) (fun i _ => I.c.2.2.length - (intOf i).toNat)
 case atStart => exact ⟨0, rfl, by omega, rfl, Below.refl _ _⟩
 case round =>
  obtain ⟨j, rfl, hj, HF, HBr⟩ := hrel
  have HBw := Hd (bch HB1.out HBr.out HB1.out.size)
  have HZr := Hd (heap_keep HZ1.out HBr.out)
  have HSr := Hd (heap_keep HS1.out HBr.out)
  obtain ⟨k0, k1, _, _⟩ := cell2 HSr.out
  by_cases hjl : j < I.c.2.2.length
  ·obtain ⟨y, hy⟩ : ∃ y, I.c.2.2[j]? = some y := ⟨_, List.getElem?_eq_getElem hjl⟩
   obtain ⟨g, off, n', c', e, d0, d1, d2, d3, d4⟩ := (HR.out.keep HBw.out).cells (Below.refl _ _) hy
   injection e with e1 e2 e3
   subst e1; subst e2; subst e3
   have HT := Hd (find_take (k := (o, d)) hy)
   have hjl' : (j : Int) < I.c.2.2.length := by omega
   have hj0 : (0 : Int) ≤ j := by omega
   clear hy
   obtain ⟨⟨o', d'⟩, t, a, q⟩ := y
   simp only [] at d0 d1 d2 d3 d4
   by_cases he : ((o', d') : Int × Int) = (o, d)
   ·have HE := Hd (show In.rowOf I (o, d) = some ((o', d'), t, a, q) by rw [HE0.out]; exact find_le (j := j + 1) (by rw [HT.out, HF.out, if_pos he]; rfl))
    clear HT
    injection he with e1 e2
    subst e1; subst e2
    obtain ⟨m0, m1, m2, m3, m4⟩ := cell5 HZr.out
    obtain ⟨f0, f1, f2, f3, f4⟩ := froz5 HZr.out
    go_wp2_with fail
    go_quiet (fail)
    go_wp2_with fail
    refine bodyPost_ret (v := .tuple #[.agg #[.int .i64 o', .int .i64 d', .int .i64 t, .int .i64 a, .int .i64 q], .bool true]) (by simp [results, Tryz.results68, go_sem, m0, m1, m2, m3, m4]) rfl ⟨by rw [HE.out]; rfl, ?_⟩
    exact Below.turned (below_drewN HBw.out _) (turned_set5 _ (w.heap.size + 2) _ _ _ _ _) (fun i h => by omega) (below_drewN HBw.out _).size
   ·have HF' := Hd (show In.findR (I.c.2.2.take (j + 1)) (o, d) = none by rw [HT.out, HF.out, if_neg he]; rfl)
    clear HT
    have hne : ¬ o' = o ∨ (o' = o ∧ ¬ d' = d) := by
     by_cases h1 : o' = o
     ·exact .inr ⟨h1, fun h2 => he (by rw [h1, h2])⟩
     ·exact .inl h1
    clear he
    rcases hne with h1 | ⟨rfl, h1⟩
    all_goals
     have hb1 := beqF h1
     have hb2 := bneT h1
     go_wp2_with fail
     go_quiet (fail)
     go_wp2_with fail
     go_roundw
     case rel => exact ⟨j + 1, by go_num, by omega, HF'.out, below_drewN HBr.out _⟩
     case measure => simp [intOf]; omega
  ·have hjl' : (I.c.2.2.length : Int) ≤ j := by omega
   have HE := Hd (show In.rowOf I (o, d) = none by rw [HE0.out]; have := HF.out; rwa [List.take_of_length_le (by omega)] at this)
   obtain ⟨m0, m1, m2, m3, m4⟩ := cell5 HZr.out
   obtain ⟨f0, f1, f2, f3, f4⟩ := froz5 HZr.out
   go_wp2_with fail
   refine bodyPost_ret (v := .tuple #[.agg #[.int .i64 0, .int .i64 0, .int .i64 0, .int .i64 0, .int .i64 0], .bool false]) (by simp [results, Tryz.results68, go_sem, m0, m1, m2, m3, m4]) rfl ⟨by rw [HE.out]; rfl, ?_⟩
   exact Below.turned HBw.out (turned_set5 wr (w.heap.size + 2) _ _ _ _ _) (fun i h => by omega) HBw.out.size
theorem refRow_any (w : World) (v : Value) (I : In.Inn) (o d : Int) (h : InR w v I) (hg : In.Fine I) :
  Calls Tryz.prog 68 #[v, .agg #[.int .i64 o, .int .i64 d]] w fun e w' => e = .returned (.tuple #[.agg #[.int .i64 (rowD (In.rowOf I (o, d))).1.1, .int .i64 (rowD (In.rowOf I (o, d))).1.2, .int .i64 (rowD (In.rowOf I (o, d))).2.1, .int .i64 (rowD (In.rowOf I (o, d))).2.2.1, .int .i64 (rowD (In.rowOf I (o, d))).2.2.2], .bool (In.rowOf I (o, d)).isSome]) ∧ Below w.heap.size w w' := by
 cases hk : chk o d with
 | false => exact refRow_no w v I o d h hg hk
 | true =>
  have hp : partyI d = 0 ∨ partyI d = 1 ∨ partyI d = 2 := by
   have hk' := hk
   unfold chk at hk'; unfold partyI; simp at hk'; split
   ·omega
   ·split
    ·omega
    ·split
     ·omega
     ·omega
  rcases hp with hp | hp | hp
  ·exact refRow_0 w v I o d h hg hk hp
  ·exact refRow_1 w v I o d h hg hk hp
  ·exact refRow_2 w v I o d h hg hk hp
end Go.Proofs.YtiagdpfmmjhgcaaGreatDoor

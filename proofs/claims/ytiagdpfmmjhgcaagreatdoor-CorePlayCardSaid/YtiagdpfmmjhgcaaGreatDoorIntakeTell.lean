/- intake.Newest, Row: what they tell. -/
import Derived.Test.YtiagdpfmmjhgcaaGreatDoorIntakeAcc
import Derived.Test.YtiagdpfmmjhgcaaGreatDoorShort
namespace Go.Proofs.YtiagdpfmmjhgcaaGreatDoor
open Go.RowKit Go.Maps Key Rw
set_option linter.unusedSimpArgs false
set_option linter.unusedVariables false
set_option maxRecDepth 100000
set_option maxHeartbeats 4000000

/-- Memory that was not there. -/
def Far (w : World) (v : Value) (len : Nat) : Prop := ∀ ad n c, v = .slice (some ad) n c → 0 < len → w.heap.size ≤ ad.block
theorem rd_copy {w w' : World} {v' : Value} {l : List R5} (h : w'.ownsRow w.heap.size tRow 5 v' (0 + l.length) ([] ++ l.flatMap encR)) : ∃ A c, v' = .slice A l.length c ∧ Rd w' (.slice A l.length c) l := by
 rw [Nat.zero_add, List.nil_append] at h
 have hr := rd_own h
 obtain ⟨A, c, rfl, _⟩ := hr.shape
 exact ⟨A, c, rfl, hr⟩
theorem newest0 (w : World) (v : Value) (I : In.Inn) (h : InP w v I) (hg : In.Fine I) :
  Calls Tryz.prog 70 #[v, .int .i64 0] w fun e w' => ∃ A c, e = .returned (.agg #[.int .i64 I.a.1, .int .i64 I.a.2.1, .slice A I.a.2.2.length c]) ∧ Rd w' (.slice A I.a.2.2.length c) I.a.2.2 ∧ Far w (.slice A I.a.2.2.length c) I.a.2.2.length ∧ Below w.heap.size w w' := by
 obtain ⟨A0, n0, c0, A1, n1, c1, A2, n2, c2, m, rfl, h0, h1, h2, h3⟩ := h
 obtain ⟨i0, hi, hz0, hz1, hz2⟩ := info_parts row_info
 have hll := In.ok_len hg.a
 obtain ⟨A, c, e, hlc, hcm⟩ := h0.shape
 injection e with e1 e2 e3; subst e1; subst e2; subst e3
 have HR := Hd h0
 obtain ⟨wa, hA⟩ : ∃ wa, wa = ((w.alloc (.cells #[.int .i64 I.a.1, .int .i64 I.a.2.1, .slice A0 I.a.2.2.length c0, .int .i64 I.b.1, .int .i64 I.b.2.1, .slice A1 n1 c1, .int .i64 I.c.1, .int .i64 I.c.2.1, .slice A2 n2 c2, .map m] tIn)).alloc (.cells #[.int .i64 0, .int .i64 0, .slice none 0 0] tStat)).alloc (.cells #[.int .i64 I.a.1, .int .i64 I.a.2.1, .slice A0 I.a.2.2.length c0] tStat) := ⟨_, rfl⟩
 obtain ⟨hB, hI, hS, hZ⟩ := three_new w _ _ _ tIn tStat tStat hA
 have HB := Hd hB; have HI := Hd hI; have HS := Hd hS; have HZ := Hd hZ
 have HA := Hd hA
 clear hA hB hI hS hZ hg h0 h1 h2 h3
 go_enter Tryz.func70, Tryz.ntmps70
 go_upto_region 4 with (fail)
 rw [← HA.out]
 obtain ⟨k0, k1, k2⟩ := cell3c HZ.out
 obtain ⟨m0, m1, m2⟩ := cell3c HS.out
 go_upto_region 5 with (at_builtin; go_loud (refine wpList_append_any _ rfl (.const (.slice none 0 0)) (.tmp 18) tRows rfl wa.heap.size tRow i0 (mkRow ((0, 0), 0, 0, 0)) 5 40 Tryz.underlying35 hi hz0 hz1 hz2 rfl (by decide) (.slice none 0 0) 0 [] rfl (World.ownsRow_nil _ _ _ _) I.a.2.2.length (I.a.2.2.flatMap encR) (Rd.src (Rd.keep HR.out HB.out)) (by unfold maxLen; omega) (by omega) (Nat.le_refl _) ?_; intro v2 W3 ho3 hg3 hat3; rw [Nat.zero_add, List.nil_append] at ho3; obtain ⟨A3, c3, e3, hp3⟩ := own_slice ho3; subst e3; have hB3 := below_of_grown hg3; have HB3 := Hd (bch HB.out hB3 HB.out.size); have HS3 := Hd (heap_keep HS.out hB3); have HZ3 := Hd (heap_keep HZ.out hB3); have HR3 := Hd (rd_own ho3); have HP3 := Hd (show ∀ ad n c', Value.slice A3 I.a.2.2.length c3 = .slice (some ad) n c' → 0 < I.a.2.2.length → wa.heap.size ≤ ad.block from fun ad n c' e hl => by obtain ⟨g, e', h1, _⟩ := hp3 hl; rw [e'] at e; injection e with e; injection e with e; subst e; exact h1); clear ho3 hg3 hat3 hp3 hB3 k0 k1 k2 m0 m1 m2; obtain ⟨k0, k1, k2⟩ := cell3c HZ3.out; obtain ⟨f0, f1, f2⟩ := froz3 HZ3.out))
 obtain ⟨W4, hW4⟩ : ∃ W4, W4 = W3.setCell ⟨w.heap.size + 2, 2, none⟩ (.slice A3 I.a.2.2.length c3) := ⟨_, rfl⟩
 rw [show W3.setCell ⟨w.heap.size + 1 + 1, 2, none⟩ (.slice A3 I.a.2.2.length c3) = W4 from hW4.symm]
 have hws : w.heap.size + 2 < wa.heap.size := heap_lt HZ.out
 have ht4 : Turned (fun j => j = w.heap.size + 2) W3 W4 := by rw [hW4]; exact turned_set _ _ _ _
 have hZ4 : W4.heap[w.heap.size + 2]? = some (.cells #[.int .i64 I.a.1, .int .i64 I.a.2.1, .slice A3 I.a.2.2.length c3] tStat (0, 0)) := by
  rw [hW4]; have := HZ3.out; simp [World.setCell, Array.getElem?_modify, this]
 have HB4 := Hd (Below.turned HB3.out ht4 (fun i h => by omega) HB3.out.size)
 have HS4 := Hd (heap_turned HS3.out ht4 (by omega))
 have HR4 := Hd (HR3.out.turned ht4 (fun ad n c' e hl => by have := HP3.out ad n c' e hl; omega))
 clear hW4 ht4 HB3 HS3 HR3 HZ3 k0 k1 k2 f0 f1 f2
 obtain ⟨k0, k1, k2⟩ := cell3c hZ4
 obtain ⟨m0, m1, m2⟩ := cell3c HS4.out
 obtain ⟨f0, f1, f2⟩ := froz3 HS4.out
 clear hZ4
 go_wp2_with fail
 have HBf := Hd (Below.turned HB4.out (turned_set3 W4 (w.heap.size + 1) (.int .i64 I.a.1) (.int .i64 I.a.2.1) (.slice A3 I.a.2.2.length c3)) (fun i h => by omega) HB4.out.size)
 refine bodyPost_ret (v := .agg #[.int .i64 I.a.1, .int .i64 I.a.2.1, .slice A3 I.a.2.2.length c3]) (by simp [results, Tryz.results70, go_sem, m0, m1, m2]) rfl ⟨A3, c3, rfl, ?_, fun ad n c' e hl => by have := HP3.out ad n c' e hl; omega, HBf.out⟩
 exact HR4.out.turned (turned_set3 W4 (w.heap.size + 1) _ _ _) (fun ad n c' e hl => by have := HP3.out ad n c' e hl; omega)
theorem newest1 (w : World) (v : Value) (I : In.Inn) (h : InP w v I) (hg : In.Fine I) :
  Calls Tryz.prog 70 #[v, .int .i64 1] w fun e w' => ∃ A c, e = .returned (.agg #[.int .i64 I.b.1, .int .i64 I.b.2.1, .slice A I.b.2.2.length c]) ∧ Rd w' (.slice A I.b.2.2.length c) I.b.2.2 ∧ Far w (.slice A I.b.2.2.length c) I.b.2.2.length ∧ Below w.heap.size w w' := by
 obtain ⟨A0, n0, c0, A1, n1, c1, A2, n2, c2, m, rfl, h0, h1, h2, h3⟩ := h
 obtain ⟨i0, hi, hz0, hz1, hz2⟩ := info_parts row_info
 have hll := In.ok_len hg.b
 obtain ⟨A, c, e, hlc, hcm⟩ := h1.shape
 injection e with e1 e2 e3; subst e1; subst e2; subst e3
 have HR := Hd h1
 obtain ⟨wa, hA⟩ : ∃ wa, wa = ((w.alloc (.cells #[.int .i64 I.a.1, .int .i64 I.a.2.1, .slice A0 n0 c0, .int .i64 I.b.1, .int .i64 I.b.2.1, .slice A1 I.b.2.2.length c1, .int .i64 I.c.1, .int .i64 I.c.2.1, .slice A2 n2 c2, .map m] tIn)).alloc (.cells #[.int .i64 0, .int .i64 0, .slice none 0 0] tStat)).alloc (.cells #[.int .i64 I.b.1, .int .i64 I.b.2.1, .slice A1 I.b.2.2.length c1] tStat) := ⟨_, rfl⟩
 obtain ⟨hB, hI, hS, hZ⟩ := three_new w _ _ _ tIn tStat tStat hA
 have HB := Hd hB; have HI := Hd hI; have HS := Hd hS; have HZ := Hd hZ
 have HA := Hd hA
 clear hA hB hI hS hZ hg h0 h1 h2 h3
 go_enter Tryz.func70, Tryz.ntmps70
 go_upto_region 4 with (fail)
 rw [← HA.out]
 obtain ⟨k0, k1, k2⟩ := cell3c HZ.out
 obtain ⟨m0, m1, m2⟩ := cell3c HS.out
 go_upto_region 5 with (at_builtin; go_loud (refine wpList_append_any _ rfl (.const (.slice none 0 0)) (.tmp 18) tRows rfl wa.heap.size tRow i0 (mkRow ((0, 0), 0, 0, 0)) 5 40 Tryz.underlying35 hi hz0 hz1 hz2 rfl (by decide) (.slice none 0 0) 0 [] rfl (World.ownsRow_nil _ _ _ _) I.b.2.2.length (I.b.2.2.flatMap encR) (Rd.src (Rd.keep HR.out HB.out)) (by unfold maxLen; omega) (by omega) (Nat.le_refl _) ?_; intro v2 W3 ho3 hg3 hat3; rw [Nat.zero_add, List.nil_append] at ho3; obtain ⟨A3, c3, e3, hp3⟩ := own_slice ho3; subst e3; have hB3 := below_of_grown hg3; have HB3 := Hd (bch HB.out hB3 HB.out.size); have HS3 := Hd (heap_keep HS.out hB3); have HZ3 := Hd (heap_keep HZ.out hB3); have HR3 := Hd (rd_own ho3); have HP3 := Hd (show ∀ ad n c', Value.slice A3 I.b.2.2.length c3 = .slice (some ad) n c' → 0 < I.b.2.2.length → wa.heap.size ≤ ad.block from fun ad n c' e hl => by obtain ⟨g, e', h1, _⟩ := hp3 hl; rw [e'] at e; injection e with e; injection e with e; subst e; exact h1); clear ho3 hg3 hat3 hp3 hB3 k0 k1 k2 m0 m1 m2; obtain ⟨k0, k1, k2⟩ := cell3c HZ3.out; obtain ⟨f0, f1, f2⟩ := froz3 HZ3.out))
 obtain ⟨W4, hW4⟩ : ∃ W4, W4 = W3.setCell ⟨w.heap.size + 2, 2, none⟩ (.slice A3 I.b.2.2.length c3) := ⟨_, rfl⟩
 rw [show W3.setCell ⟨w.heap.size + 1 + 1, 2, none⟩ (.slice A3 I.b.2.2.length c3) = W4 from hW4.symm]
 have hws : w.heap.size + 2 < wa.heap.size := heap_lt HZ.out
 have ht4 : Turned (fun j => j = w.heap.size + 2) W3 W4 := by rw [hW4]; exact turned_set _ _ _ _
 have hZ4 : W4.heap[w.heap.size + 2]? = some (.cells #[.int .i64 I.b.1, .int .i64 I.b.2.1, .slice A3 I.b.2.2.length c3] tStat (0, 0)) := by
  rw [hW4]; have := HZ3.out; simp [World.setCell, Array.getElem?_modify, this]
 have HB4 := Hd (Below.turned HB3.out ht4 (fun i h => by omega) HB3.out.size)
 have HS4 := Hd (heap_turned HS3.out ht4 (by omega))
 have HR4 := Hd (HR3.out.turned ht4 (fun ad n c' e hl => by have := HP3.out ad n c' e hl; omega))
 clear hW4 ht4 HB3 HS3 HR3 HZ3 k0 k1 k2 f0 f1 f2
 obtain ⟨k0, k1, k2⟩ := cell3c hZ4
 obtain ⟨m0, m1, m2⟩ := cell3c HS4.out
 obtain ⟨f0, f1, f2⟩ := froz3 HS4.out
 clear hZ4
 go_wp2_with fail
 have HBf := Hd (Below.turned HB4.out (turned_set3 W4 (w.heap.size + 1) (.int .i64 I.b.1) (.int .i64 I.b.2.1) (.slice A3 I.b.2.2.length c3)) (fun i h => by omega) HB4.out.size)
 refine bodyPost_ret (v := .agg #[.int .i64 I.b.1, .int .i64 I.b.2.1, .slice A3 I.b.2.2.length c3]) (by simp [results, Tryz.results70, go_sem, m0, m1, m2]) rfl ⟨A3, c3, rfl, ?_, fun ad n c' e hl => by have := HP3.out ad n c' e hl; omega, HBf.out⟩
 exact HR4.out.turned (turned_set3 W4 (w.heap.size + 1) _ _ _) (fun ad n c' e hl => by have := HP3.out ad n c' e hl; omega)
theorem newest2 (w : World) (v : Value) (I : In.Inn) (h : InP w v I) (hg : In.Fine I) :
  Calls Tryz.prog 70 #[v, .int .i64 2] w fun e w' => ∃ A c, e = .returned (.agg #[.int .i64 I.c.1, .int .i64 I.c.2.1, .slice A I.c.2.2.length c]) ∧ Rd w' (.slice A I.c.2.2.length c) I.c.2.2 ∧ Far w (.slice A I.c.2.2.length c) I.c.2.2.length ∧ Below w.heap.size w w' := by
 obtain ⟨A0, n0, c0, A1, n1, c1, A2, n2, c2, m, rfl, h0, h1, h2, h3⟩ := h
 obtain ⟨i0, hi, hz0, hz1, hz2⟩ := info_parts row_info
 have hll := In.ok_len hg.c
 obtain ⟨A, c, e, hlc, hcm⟩ := h2.shape
 injection e with e1 e2 e3; subst e1; subst e2; subst e3
 have HR := Hd h2
 obtain ⟨wa, hA⟩ : ∃ wa, wa = ((w.alloc (.cells #[.int .i64 I.a.1, .int .i64 I.a.2.1, .slice A0 n0 c0, .int .i64 I.b.1, .int .i64 I.b.2.1, .slice A1 n1 c1, .int .i64 I.c.1, .int .i64 I.c.2.1, .slice A2 I.c.2.2.length c2, .map m] tIn)).alloc (.cells #[.int .i64 0, .int .i64 0, .slice none 0 0] tStat)).alloc (.cells #[.int .i64 I.c.1, .int .i64 I.c.2.1, .slice A2 I.c.2.2.length c2] tStat) := ⟨_, rfl⟩
 obtain ⟨hB, hI, hS, hZ⟩ := three_new w _ _ _ tIn tStat tStat hA
 have HB := Hd hB; have HI := Hd hI; have HS := Hd hS; have HZ := Hd hZ
 have HA := Hd hA
 clear hA hB hI hS hZ hg h0 h1 h2 h3
 go_enter Tryz.func70, Tryz.ntmps70
 go_upto_region 4 with (fail)
 rw [← HA.out]
 obtain ⟨k0, k1, k2⟩ := cell3c HZ.out
 obtain ⟨m0, m1, m2⟩ := cell3c HS.out
 go_upto_region 5 with (at_builtin; go_loud (refine wpList_append_any _ rfl (.const (.slice none 0 0)) (.tmp 18) tRows rfl wa.heap.size tRow i0 (mkRow ((0, 0), 0, 0, 0)) 5 40 Tryz.underlying35 hi hz0 hz1 hz2 rfl (by decide) (.slice none 0 0) 0 [] rfl (World.ownsRow_nil _ _ _ _) I.c.2.2.length (I.c.2.2.flatMap encR) (Rd.src (Rd.keep HR.out HB.out)) (by unfold maxLen; omega) (by omega) (Nat.le_refl _) ?_; intro v2 W3 ho3 hg3 hat3; rw [Nat.zero_add, List.nil_append] at ho3; obtain ⟨A3, c3, e3, hp3⟩ := own_slice ho3; subst e3; have hB3 := below_of_grown hg3; have HB3 := Hd (bch HB.out hB3 HB.out.size); have HS3 := Hd (heap_keep HS.out hB3); have HZ3 := Hd (heap_keep HZ.out hB3); have HR3 := Hd (rd_own ho3); have HP3 := Hd (show ∀ ad n c', Value.slice A3 I.c.2.2.length c3 = .slice (some ad) n c' → 0 < I.c.2.2.length → wa.heap.size ≤ ad.block from fun ad n c' e hl => by obtain ⟨g, e', h1, _⟩ := hp3 hl; rw [e'] at e; injection e with e; injection e with e; subst e; exact h1); clear ho3 hg3 hat3 hp3 hB3 k0 k1 k2 m0 m1 m2; obtain ⟨k0, k1, k2⟩ := cell3c HZ3.out; obtain ⟨f0, f1, f2⟩ := froz3 HZ3.out))
 obtain ⟨W4, hW4⟩ : ∃ W4, W4 = W3.setCell ⟨w.heap.size + 2, 2, none⟩ (.slice A3 I.c.2.2.length c3) := ⟨_, rfl⟩
 rw [show W3.setCell ⟨w.heap.size + 1 + 1, 2, none⟩ (.slice A3 I.c.2.2.length c3) = W4 from hW4.symm]
 have hws : w.heap.size + 2 < wa.heap.size := heap_lt HZ.out
 have ht4 : Turned (fun j => j = w.heap.size + 2) W3 W4 := by rw [hW4]; exact turned_set _ _ _ _
 have hZ4 : W4.heap[w.heap.size + 2]? = some (.cells #[.int .i64 I.c.1, .int .i64 I.c.2.1, .slice A3 I.c.2.2.length c3] tStat (0, 0)) := by
  rw [hW4]; have := HZ3.out; simp [World.setCell, Array.getElem?_modify, this]
 have HB4 := Hd (Below.turned HB3.out ht4 (fun i h => by omega) HB3.out.size)
 have HS4 := Hd (heap_turned HS3.out ht4 (by omega))
 have HR4 := Hd (HR3.out.turned ht4 (fun ad n c' e hl => by have := HP3.out ad n c' e hl; omega))
 clear hW4 ht4 HB3 HS3 HR3 HZ3 k0 k1 k2 f0 f1 f2
 obtain ⟨k0, k1, k2⟩ := cell3c hZ4
 obtain ⟨m0, m1, m2⟩ := cell3c HS4.out
 obtain ⟨f0, f1, f2⟩ := froz3 HS4.out
 clear hZ4
 go_wp2_with fail
 have HBf := Hd (Below.turned HB4.out (turned_set3 W4 (w.heap.size + 1) (.int .i64 I.c.1) (.int .i64 I.c.2.1) (.slice A3 I.c.2.2.length c3)) (fun i h => by omega) HB4.out.size)
 refine bodyPost_ret (v := .agg #[.int .i64 I.c.1, .int .i64 I.c.2.1, .slice A3 I.c.2.2.length c3]) (by simp [results, Tryz.results70, go_sem, m0, m1, m2]) rfl ⟨A3, c3, rfl, ?_, fun ad n c' e hl => by have := HP3.out ad n c' e hl; omega, HBf.out⟩
 exact HR4.out.turned (turned_set3 W4 (w.heap.size + 1) _ _ _) (fun ad n c' e hl => by have := HP3.out ad n c' e hl; omega)
theorem newest_any (w : World) (v : Value) (I : In.Inn) (p : Int) (hp : 0 ≤ p) (hp2 : p ≤ 2) (h : InP w v I) (hg : In.Fine I) :
  Calls Tryz.prog 70 #[v, .int .i64 p] w fun e w' => ∃ A c, e = .returned (.agg #[.int .i64 (I.at p).1, .int .i64 (I.at p).2.1, .slice A (I.at p).2.2.length c]) ∧ Rd w' (.slice A (I.at p).2.2.length c) (I.at p).2.2 ∧ Far w (.slice A (I.at p).2.2.length c) (I.at p).2.2.length ∧ Below w.heap.size w w' := by
 rcases (show p = 0 ∨ p = 1 ∨ p = 2 by omega) with rfl | rfl | rfl
 ·exact newest0 w v I h hg
 ·exact newest1 w v I h hg
 ·exact newest2 w v I h hg

/-- What a look-up tells: the row, or an empty one. -/
def rowD (o : Option R5) : R5 := o.getD ((0, 0), 0, 0, 0)
theorem row_in {I : In.Inn} (hg : In.Fine I) {k : Int × Int} {x : R5} (h : (k, x) ∈ entR (In.rowsAll I)) : In.rowOf I k = some x := by
 obtain ⟨y, hy, e⟩ := List.mem_map.1 h
 injection e with e1 e2
 subst e1; subst e2
 exact In.find_of hg.nodup hy
theorem row_out {I : In.Inn} {k : Int × Int} (h : ∀ q ∈ entR (In.rowsAll I), q.1 ≠ k) : In.rowOf I k = none := by
 unfold In.rowOf In.findR
 rw [List.find?_eq_none]
 intro x hx
 simpa using h (x.1, x) (List.mem_map.2 ⟨x, hx, rfl⟩)
theorem row_any (w : World) (v : Value) (I : In.Inn) (o d : Int) (h : InP w v I) (hg : In.Fine I) (hk : (-9223372036854775808 ≤ o ∧ o ≤ 9223372036854775807) ∧ (-9223372036854775808 ≤ d ∧ d ≤ 9223372036854775807)) :
  Calls Tryz.prog 96 #[v, .agg #[.int .i64 o, .int .i64 d]] w fun e w' => e = .returned (.tuple #[.agg #[.int .i64 (rowD (In.rowOf I (o, d))).1.1, .int .i64 (rowD (In.rowOf I (o, d))).1.2, .int .i64 (rowD (In.rowOf I (o, d))).2.1, .int .i64 (rowD (In.rowOf I (o, d))).2.2.1, .int .i64 (rowD (In.rowOf I (o, d))).2.2.2], .bool (In.rowOf I (o, d)).isSome]) ∧ Below w.heap.size w w' := by
 obtain ⟨A0, n0, c0, A1, n1, c1, A2, n2, c2, m, rfl, h0, h1, h2, h3⟩ := h
 obtain ⟨kl, hkl⟩ := key_reads (o, d) hk
 have HL := Hd hkl
 clear h0 h1 h2 hk hkl
 obtain ⟨wa, hA⟩ : ∃ wa, wa = ((w.alloc (.cells #[.int .i64 I.a.1, .int .i64 I.a.2.1, .slice A0 n0 c0, .int .i64 I.b.1, .int .i64 I.b.2.1, .slice A1 n1 c1, .int .i64 I.c.1, .int .i64 I.c.2.1, .slice A2 n2 c2, .map m] tIn)).alloc (.cells #[.int .i64 o, .int .i64 d] tKey)).alloc (.cells #[.int .i64 0, .int .i64 0, .int .i64 0, .int .i64 0, .int .i64 0] tRow) := ⟨_, rfl⟩
 obtain ⟨hB, hI, hS, hZ⟩ := three_new w _ _ _ tIn tKey tRow hA
 have HB := Hd hB; have HI := Hd hI; have HS := Hd hS; have HZ := Hd hZ
 have HA := Hd hA
 have HM := Hd (h3.below hB)
 clear hA hB hI hS hZ h3
 rcases HM.out with ⟨rfl, he⟩ | ⟨b, rfl, hm⟩
 ·have hr : In.rowOf I (o, d) = none := row_out (fun q hq => by rw [he] at hq; cases hq)
  have HE := Hd hr
  have hlk := Maps.look_nil (P := Tryz.prog) (w := wa) (t := tMapR) true lawKey mapR (zeroRow wa) HL.out
  simp only [mkKey, mkRow] at hlk
  clear hr he
  go_enter Tryz.func96, Tryz.ntmps96
  go_upto_region 1 with (fail)
  rw [← HA.out]
  obtain ⟨_, _, _, _, _, _, _, _, _, i9⟩ := cell10 HI.out
  obtain ⟨k0, k1, _, _⟩ := cell2 HS.out
  go_upto_region 2 with (fail)
  obtain ⟨wb, hwb⟩ : ∃ wb, wb = wa.alloc (.cells #[.int .i64 0, .int .i64 0, .int .i64 0, .int .i64 0, .int .i64 0] tRow) := ⟨_, rfl⟩
  rw [← hwb]
  have HBb := Hd (show Below w.heap.size w wb by rw [hwb]; exact HB.out.alloc HB.out.size _)
  have HXb := Hd (show wb.heap[wa.heap.size]? = some (.cells #[.int .i64 0, .int .i64 0, .int .i64 0, .int .i64 0, .int .i64 0] tRow (0, 0)) by rw [hwb]; exact heap_new _ _)
  have HZb := Hd (heap_keep HZ.out (show Below wa.heap.size wa wb by rw [hwb]; exact below_alloc _ _))
  clear hwb i9 k0 k1
  obtain ⟨m0, m1, m2, m3, m4⟩ := cell5 HZb.out
  obtain ⟨f0, f1, f2, f3, f4⟩ := froz5 HZb.out
  obtain ⟨x0, x1, x2, x3, x4⟩ := cell5 HXb.out
  go_wp2_with fail
  refine bodyPost_ret (v := .tuple #[.agg #[.int .i64 0, .int .i64 0, .int .i64 0, .int .i64 0, .int .i64 0], .bool false]) (by simp [results, Tryz.results96, go_sem, m0, m1, m2, m3, m4]) rfl ⟨by rw [HE.out]; rfl, ?_⟩
  exact Below.turned HBb.out (turned_set5 wb (w.heap.size + 2) _ _ _ _ _) (fun i h => by omega) HBb.out.size
 ·have HMm := Hd hm
  clear hm
  go_enter Tryz.func96, Tryz.ntmps96
  go_upto_region 1 with (fail)
  rw [← HA.out]
  obtain ⟨_, _, _, _, _, _, _, _, _, i9⟩ := cell10 HI.out
  obtain ⟨k0, k1, _, _⟩ := cell2 HS.out
  go_upto_region 2 with (at_lookup; go_loud (refine wpList_lookL _ true rfl (.tmp 10) (.tmp 11) tMapR rfl tKey tRow lawKey mapR ((0, 0), 0, 0, 0) (zeroRow _) b (entR (In.rowsAll I)) rfl HMm.out (o, d) rfl HL.out (mkKey_inj _) (fun x hx => ?_) (fun hn => ?_); rotate_left; (simp only [mkRow]); rotate_left; (obtain ⟨⟨xo, xd⟩, xc, xa, xq⟩ := x; simp only [mkRow])))
  ·have HE := Hd (row_in hg hx)
   clear hx
   obtain ⟨wb, hwb⟩ : ∃ wb, wb = wa.alloc (.cells #[.int .i64 xo, .int .i64 xd, .int .i64 xc, .int .i64 xa, .int .i64 xq] tRow) := ⟨_, rfl⟩
   rw [← hwb]
   have HBb := Hd (show Below w.heap.size w wb by rw [hwb]; exact HB.out.alloc HB.out.size _)
   have HXb := Hd (show wb.heap[wa.heap.size]? = some (.cells #[.int .i64 xo, .int .i64 xd, .int .i64 xc, .int .i64 xa, .int .i64 xq] tRow (0, 0)) by rw [hwb]; exact heap_new _ _)
   have HZb := Hd (heap_keep HZ.out (show Below wa.heap.size wa wb by rw [hwb]; exact below_alloc _ _))
   clear hwb i9 k0 k1
   obtain ⟨m0, m1, m2, m3, m4⟩ := cell5 HZb.out
   obtain ⟨f0, f1, f2, f3, f4⟩ := froz5 HZb.out
   obtain ⟨x0, x1, x2, x3, x4⟩ := cell5 HXb.out
   go_wp2_with fail
   refine bodyPost_ret (v := .tuple #[.agg #[.int .i64 xo, .int .i64 xd, .int .i64 xc, .int .i64 xa, .int .i64 xq], .bool true]) (by simp [results, Tryz.results96, go_sem, m0, m1, m2, m3, m4]) rfl ⟨by rw [HE.out]; rfl, ?_⟩
   exact Below.turned HBb.out (turned_set5 wb (w.heap.size + 2) _ _ _ _ _) (fun i h => by omega) HBb.out.size
  ·have HE := Hd (row_out hn)
   clear hn
   obtain ⟨wb, hwb⟩ : ∃ wb, wb = wa.alloc (.cells #[.int .i64 0, .int .i64 0, .int .i64 0, .int .i64 0, .int .i64 0] tRow) := ⟨_, rfl⟩
   rw [← hwb]
   have HBb := Hd (show Below w.heap.size w wb by rw [hwb]; exact HB.out.alloc HB.out.size _)
   have HXb := Hd (show wb.heap[wa.heap.size]? = some (.cells #[.int .i64 0, .int .i64 0, .int .i64 0, .int .i64 0, .int .i64 0] tRow (0, 0)) by rw [hwb]; exact heap_new _ _)
   have HZb := Hd (heap_keep HZ.out (show Below wa.heap.size wa wb by rw [hwb]; exact below_alloc _ _))
   clear hwb i9 k0 k1
   obtain ⟨m0, m1, m2, m3, m4⟩ := cell5 HZb.out
   obtain ⟨f0, f1, f2, f3, f4⟩ := froz5 HZb.out
   obtain ⟨x0, x1, x2, x3, x4⟩ := cell5 HXb.out
   go_wp2_with fail
   refine bodyPost_ret (v := .tuple #[.agg #[.int .i64 0, .int .i64 0, .int .i64 0, .int .i64 0, .int .i64 0], .bool false]) (by simp [results, Tryz.results96, go_sem, m0, m1, m2, m3, m4]) rfl ⟨by rw [HE.out]; rfl, ?_⟩
   exact Below.turned HBb.out (turned_set5 wb (w.heap.size + 2) _ _ _ _ _) (fun i h => by omega) HBb.out.size
end Go.Proofs.YtiagdpfmmjhgcaaGreatDoor

/- intake.Newest, Row: what they tell. -/
import Derived.Test.YtnfbhocppijbjaaDoorIntakeAcc
namespace Go.Proofs.YtnfbhocppijbjaaDoor
open Go.RowKit Go.Maps Key Rw

/-- Memory that was not there. -/
def Far (w : World) (v : Value) (len : Nat) : Prop := ∀ ad n c, v = .slice (some ad) n c → 0 < len → w.heap.size ≤ ad.block
theorem rd_copy {w w' : World} {v' : Value} {l : List R5} (h : w'.ownsRow w.heap.size tRow 5 v' (0 + l.length) ([] ++ l.flatMap encR)) : ∃ A c, v' = .slice A l.length c ∧ Rd w' (.slice A l.length c) l := by
  rw [Nat.zero_add, List.nil_append] at h
  have hr := rd_own h
  obtain ⟨A, c, rfl, _⟩ := hr.shape
  exact ⟨A, c, rfl, hr⟩
set_option maxRecDepth 100000 in
set_option maxHeartbeats 4000000 in
theorem newest0 (w : World) (v : Value) (I : In.Inn) (h : InP w v I) (hg : In.Fine I) :
    Calls Tryd.prog 16 #[v, .int .i64 0] w fun e w' => ∃ A c, e = .returned (.agg #[.int .i64 I.a.1, .int .i64 I.a.2.1, .slice A I.a.2.2.length c]) ∧ Rd w' (.slice A I.a.2.2.length c) I.a.2.2 ∧ Far w (.slice A I.a.2.2.length c) I.a.2.2.length ∧ Below w.heap.size w w' := by
  obtain ⟨A0, n0, c0, A1, n1, c1, A2, n2, c2, m, rfl, h0, h1, h2, h3⟩ := h
  obtain ⟨i0, hi, hz0, hz1, hz2⟩ := info_parts row_info
  have hll := In.ok_len hg.a
  obtain ⟨A, c, e, hlc, hcm⟩ := h0.shape
  injection e with e1 e2 e3; subst e1; subst e2; subst e3
  have HR := Lib.hid h0
  obtain ⟨wa, hA⟩ : ∃ wa, wa = ((w.alloc (.cells #[.int .i64 I.a.1, .int .i64 I.a.2.1, .slice A0 I.a.2.2.length c0, .int .i64 I.b.1, .int .i64 I.b.2.1, .slice A1 n1 c1, .int .i64 I.c.1, .int .i64 I.c.2.1, .slice A2 n2 c2, .map m] tIn)).alloc (.cells #[.int .i64 0, .int .i64 0, .slice none 0 0] tStat)).alloc (.cells #[.int .i64 I.a.1, .int .i64 I.a.2.1, .slice A0 I.a.2.2.length c0] tStat) := ⟨_, rfl⟩
  obtain ⟨hB, hI, hS, hZ⟩ := three_new w _ _ _ tIn tStat tStat hA
  have HB := Lib.hid hB; have HI := Lib.hid hI; have HS := Lib.hid hS; have HZ := Lib.hid hZ
  have HA := Lib.hid hA
  clear hA hB hI hS hZ hg h0 h1 h2 h3
  go_enter Tryd.func16, Tryd.ntmps16
  go_upto_region 4 with (fail)
  rw [← HA.out]
  obtain ⟨k0, k1, k2⟩ := cell3c HZ.out
  obtain ⟨m0, m1, m2⟩ := cell3c HS.out
  go_upto_region 5 with (at_builtin; go_loud (refine wpList_append_any _ rfl (.const (.slice none 0 0)) (.tmp 18) tRows rfl wa.heap.size tRow i0 (mkRow ((0, 0), 0, 0, 0)) 5 40 Tryd.underlying27 hi hz0 hz1 hz2 rfl (by decide) (.slice none 0 0) 0 [] rfl (World.ownsRow_nil _ _ _ _) I.a.2.2.length (I.a.2.2.flatMap encR) (Rd.src (Rd.keep HR.out HB.out)) (by unfold maxLen; omega) (by omega) (Nat.le_refl _) ?_; intro v2 W3 ho3 hg3 hat3; rw [Nat.zero_add, List.nil_append] at ho3; obtain ⟨A3, c3, e3, hp3⟩ := own_slice ho3; subst e3; have hB3 := below_of_grown hg3; have HB3 := Lib.hid (bch HB.out hB3 HB.out.size); have HS3 := Lib.hid (heap_keep HS.out hB3); have HZ3 := Lib.hid (heap_keep HZ.out hB3); have HR3 := Lib.hid (rd_own ho3); have HP3 := Lib.hid (show ∀ ad n c', Value.slice A3 I.a.2.2.length c3 = .slice (some ad) n c' → 0 < I.a.2.2.length → wa.heap.size ≤ ad.block from fun ad n c' e hl => by obtain ⟨g, e', h1, _⟩ := hp3 hl; rw [e'] at e; injection e with e; injection e with e; subst e; exact h1); clear ho3 hg3 hat3 hp3 hB3 k0 k1 k2 m0 m1 m2; obtain ⟨k0, k1, k2⟩ := cell3c HZ3.out; obtain ⟨f0, f1, f2⟩ := froz3 HZ3.out))
  obtain ⟨W4, hW4⟩ : ∃ W4, W4 = W3.setCell ⟨w.heap.size + 2, 2, none⟩ (.slice A3 I.a.2.2.length c3) := ⟨_, rfl⟩
  rw [show W3.setCell ⟨w.heap.size + 1 + 1, 2, none⟩ (.slice A3 I.a.2.2.length c3) = W4 from hW4.symm]
  have hws : w.heap.size + 2 < wa.heap.size := heap_lt HZ.out
  have ht4 : Turned (fun j => j = w.heap.size + 2) W3 W4 := by rw [hW4]; exact turned_set _ _ _ _
  have hZ4 : W4.heap[w.heap.size + 2]? = some (.cells #[.int .i64 I.a.1, .int .i64 I.a.2.1, .slice A3 I.a.2.2.length c3] tStat (0, 0)) := by
    rw [hW4]; have := HZ3.out; simp [World.setCell, Array.getElem?_modify, this]
  have HB4 := Lib.hid (Below.turned HB3.out ht4 (fun i h => by omega) HB3.out.size)
  have HS4 := Lib.hid (heap_turned HS3.out ht4 (by omega))
  have HR4 := Lib.hid (HR3.out.turned ht4 (fun ad n c' e hl => by have := HP3.out ad n c' e hl; omega))
  clear hW4 ht4 HB3 HS3 HR3 HZ3 k0 k1 k2 f0 f1 f2
  obtain ⟨k0, k1, k2⟩ := cell3c hZ4
  obtain ⟨m0, m1, m2⟩ := cell3c HS4.out
  obtain ⟨f0, f1, f2⟩ := froz3 HS4.out
  clear hZ4
  go_wp2_with fail
  have HBf := Lib.hid (Below.turned HB4.out (turned_set3 W4 (w.heap.size + 1) (.int .i64 I.a.1) (.int .i64 I.a.2.1) (.slice A3 I.a.2.2.length c3)) (fun i h => by omega) HB4.out.size)
  refine bodyPost_ret (v := .agg #[.int .i64 I.a.1, .int .i64 I.a.2.1, .slice A3 I.a.2.2.length c3]) (by simp [results, Tryd.results16, go_sem, m0, m1, m2]) rfl ⟨A3, c3, rfl, ?_, fun ad n c' e hl => by have := HP3.out ad n c' e hl; omega, HBf.out⟩
  exact HR4.out.turned (turned_set3 W4 (w.heap.size + 1) _ _ _) (fun ad n c' e hl => by have := HP3.out ad n c' e hl; omega)
set_option maxRecDepth 100000 in
set_option maxHeartbeats 4000000 in
theorem newest1 (w : World) (v : Value) (I : In.Inn) (h : InP w v I) (hg : In.Fine I) :
    Calls Tryd.prog 16 #[v, .int .i64 1] w fun e w' => ∃ A c, e = .returned (.agg #[.int .i64 I.b.1, .int .i64 I.b.2.1, .slice A I.b.2.2.length c]) ∧ Rd w' (.slice A I.b.2.2.length c) I.b.2.2 ∧ Far w (.slice A I.b.2.2.length c) I.b.2.2.length ∧ Below w.heap.size w w' := by
  obtain ⟨A0, n0, c0, A1, n1, c1, A2, n2, c2, m, rfl, h0, h1, h2, h3⟩ := h
  obtain ⟨i0, hi, hz0, hz1, hz2⟩ := info_parts row_info
  have hll := In.ok_len hg.b
  obtain ⟨A, c, e, hlc, hcm⟩ := h1.shape
  injection e with e1 e2 e3; subst e1; subst e2; subst e3
  have HR := Lib.hid h1
  obtain ⟨wa, hA⟩ : ∃ wa, wa = ((w.alloc (.cells #[.int .i64 I.a.1, .int .i64 I.a.2.1, .slice A0 n0 c0, .int .i64 I.b.1, .int .i64 I.b.2.1, .slice A1 I.b.2.2.length c1, .int .i64 I.c.1, .int .i64 I.c.2.1, .slice A2 n2 c2, .map m] tIn)).alloc (.cells #[.int .i64 0, .int .i64 0, .slice none 0 0] tStat)).alloc (.cells #[.int .i64 I.b.1, .int .i64 I.b.2.1, .slice A1 I.b.2.2.length c1] tStat) := ⟨_, rfl⟩
  obtain ⟨hB, hI, hS, hZ⟩ := three_new w _ _ _ tIn tStat tStat hA
  have HB := Lib.hid hB; have HI := Lib.hid hI; have HS := Lib.hid hS; have HZ := Lib.hid hZ
  have HA := Lib.hid hA
  clear hA hB hI hS hZ hg h0 h1 h2 h3
  go_enter Tryd.func16, Tryd.ntmps16
  go_upto_region 4 with (fail)
  rw [← HA.out]
  obtain ⟨k0, k1, k2⟩ := cell3c HZ.out
  obtain ⟨m0, m1, m2⟩ := cell3c HS.out
  go_upto_region 5 with (at_builtin; go_loud (refine wpList_append_any _ rfl (.const (.slice none 0 0)) (.tmp 18) tRows rfl wa.heap.size tRow i0 (mkRow ((0, 0), 0, 0, 0)) 5 40 Tryd.underlying27 hi hz0 hz1 hz2 rfl (by decide) (.slice none 0 0) 0 [] rfl (World.ownsRow_nil _ _ _ _) I.b.2.2.length (I.b.2.2.flatMap encR) (Rd.src (Rd.keep HR.out HB.out)) (by unfold maxLen; omega) (by omega) (Nat.le_refl _) ?_; intro v2 W3 ho3 hg3 hat3; rw [Nat.zero_add, List.nil_append] at ho3; obtain ⟨A3, c3, e3, hp3⟩ := own_slice ho3; subst e3; have hB3 := below_of_grown hg3; have HB3 := Lib.hid (bch HB.out hB3 HB.out.size); have HS3 := Lib.hid (heap_keep HS.out hB3); have HZ3 := Lib.hid (heap_keep HZ.out hB3); have HR3 := Lib.hid (rd_own ho3); have HP3 := Lib.hid (show ∀ ad n c', Value.slice A3 I.b.2.2.length c3 = .slice (some ad) n c' → 0 < I.b.2.2.length → wa.heap.size ≤ ad.block from fun ad n c' e hl => by obtain ⟨g, e', h1, _⟩ := hp3 hl; rw [e'] at e; injection e with e; injection e with e; subst e; exact h1); clear ho3 hg3 hat3 hp3 hB3 k0 k1 k2 m0 m1 m2; obtain ⟨k0, k1, k2⟩ := cell3c HZ3.out; obtain ⟨f0, f1, f2⟩ := froz3 HZ3.out))
  obtain ⟨W4, hW4⟩ : ∃ W4, W4 = W3.setCell ⟨w.heap.size + 2, 2, none⟩ (.slice A3 I.b.2.2.length c3) := ⟨_, rfl⟩
  rw [show W3.setCell ⟨w.heap.size + 1 + 1, 2, none⟩ (.slice A3 I.b.2.2.length c3) = W4 from hW4.symm]
  have hws : w.heap.size + 2 < wa.heap.size := heap_lt HZ.out
  have ht4 : Turned (fun j => j = w.heap.size + 2) W3 W4 := by rw [hW4]; exact turned_set _ _ _ _
  have hZ4 : W4.heap[w.heap.size + 2]? = some (.cells #[.int .i64 I.b.1, .int .i64 I.b.2.1, .slice A3 I.b.2.2.length c3] tStat (0, 0)) := by
    rw [hW4]; have := HZ3.out; simp [World.setCell, Array.getElem?_modify, this]
  have HB4 := Lib.hid (Below.turned HB3.out ht4 (fun i h => by omega) HB3.out.size)
  have HS4 := Lib.hid (heap_turned HS3.out ht4 (by omega))
  have HR4 := Lib.hid (HR3.out.turned ht4 (fun ad n c' e hl => by have := HP3.out ad n c' e hl; omega))
  clear hW4 ht4 HB3 HS3 HR3 HZ3 k0 k1 k2 f0 f1 f2
  obtain ⟨k0, k1, k2⟩ := cell3c hZ4
  obtain ⟨m0, m1, m2⟩ := cell3c HS4.out
  obtain ⟨f0, f1, f2⟩ := froz3 HS4.out
  clear hZ4
  go_wp2_with fail
  have HBf := Lib.hid (Below.turned HB4.out (turned_set3 W4 (w.heap.size + 1) (.int .i64 I.b.1) (.int .i64 I.b.2.1) (.slice A3 I.b.2.2.length c3)) (fun i h => by omega) HB4.out.size)
  refine bodyPost_ret (v := .agg #[.int .i64 I.b.1, .int .i64 I.b.2.1, .slice A3 I.b.2.2.length c3]) (by simp [results, Tryd.results16, go_sem, m0, m1, m2]) rfl ⟨A3, c3, rfl, ?_, fun ad n c' e hl => by have := HP3.out ad n c' e hl; omega, HBf.out⟩
  exact HR4.out.turned (turned_set3 W4 (w.heap.size + 1) _ _ _) (fun ad n c' e hl => by have := HP3.out ad n c' e hl; omega)
set_option maxRecDepth 100000 in
set_option maxHeartbeats 4000000 in
theorem newest2 (w : World) (v : Value) (I : In.Inn) (h : InP w v I) (hg : In.Fine I) :
    Calls Tryd.prog 16 #[v, .int .i64 2] w fun e w' => ∃ A c, e = .returned (.agg #[.int .i64 I.c.1, .int .i64 I.c.2.1, .slice A I.c.2.2.length c]) ∧ Rd w' (.slice A I.c.2.2.length c) I.c.2.2 ∧ Far w (.slice A I.c.2.2.length c) I.c.2.2.length ∧ Below w.heap.size w w' := by
  obtain ⟨A0, n0, c0, A1, n1, c1, A2, n2, c2, m, rfl, h0, h1, h2, h3⟩ := h
  obtain ⟨i0, hi, hz0, hz1, hz2⟩ := info_parts row_info
  have hll := In.ok_len hg.c
  obtain ⟨A, c, e, hlc, hcm⟩ := h2.shape
  injection e with e1 e2 e3; subst e1; subst e2; subst e3
  have HR := Lib.hid h2
  obtain ⟨wa, hA⟩ : ∃ wa, wa = ((w.alloc (.cells #[.int .i64 I.a.1, .int .i64 I.a.2.1, .slice A0 n0 c0, .int .i64 I.b.1, .int .i64 I.b.2.1, .slice A1 n1 c1, .int .i64 I.c.1, .int .i64 I.c.2.1, .slice A2 I.c.2.2.length c2, .map m] tIn)).alloc (.cells #[.int .i64 0, .int .i64 0, .slice none 0 0] tStat)).alloc (.cells #[.int .i64 I.c.1, .int .i64 I.c.2.1, .slice A2 I.c.2.2.length c2] tStat) := ⟨_, rfl⟩
  obtain ⟨hB, hI, hS, hZ⟩ := three_new w _ _ _ tIn tStat tStat hA
  have HB := Lib.hid hB; have HI := Lib.hid hI; have HS := Lib.hid hS; have HZ := Lib.hid hZ
  have HA := Lib.hid hA
  clear hA hB hI hS hZ hg h0 h1 h2 h3
  go_enter Tryd.func16, Tryd.ntmps16
  go_upto_region 4 with (fail)
  rw [← HA.out]
  obtain ⟨k0, k1, k2⟩ := cell3c HZ.out
  obtain ⟨m0, m1, m2⟩ := cell3c HS.out
  go_upto_region 5 with (at_builtin; go_loud (refine wpList_append_any _ rfl (.const (.slice none 0 0)) (.tmp 18) tRows rfl wa.heap.size tRow i0 (mkRow ((0, 0), 0, 0, 0)) 5 40 Tryd.underlying27 hi hz0 hz1 hz2 rfl (by decide) (.slice none 0 0) 0 [] rfl (World.ownsRow_nil _ _ _ _) I.c.2.2.length (I.c.2.2.flatMap encR) (Rd.src (Rd.keep HR.out HB.out)) (by unfold maxLen; omega) (by omega) (Nat.le_refl _) ?_; intro v2 W3 ho3 hg3 hat3; rw [Nat.zero_add, List.nil_append] at ho3; obtain ⟨A3, c3, e3, hp3⟩ := own_slice ho3; subst e3; have hB3 := below_of_grown hg3; have HB3 := Lib.hid (bch HB.out hB3 HB.out.size); have HS3 := Lib.hid (heap_keep HS.out hB3); have HZ3 := Lib.hid (heap_keep HZ.out hB3); have HR3 := Lib.hid (rd_own ho3); have HP3 := Lib.hid (show ∀ ad n c', Value.slice A3 I.c.2.2.length c3 = .slice (some ad) n c' → 0 < I.c.2.2.length → wa.heap.size ≤ ad.block from fun ad n c' e hl => by obtain ⟨g, e', h1, _⟩ := hp3 hl; rw [e'] at e; injection e with e; injection e with e; subst e; exact h1); clear ho3 hg3 hat3 hp3 hB3 k0 k1 k2 m0 m1 m2; obtain ⟨k0, k1, k2⟩ := cell3c HZ3.out; obtain ⟨f0, f1, f2⟩ := froz3 HZ3.out))
  obtain ⟨W4, hW4⟩ : ∃ W4, W4 = W3.setCell ⟨w.heap.size + 2, 2, none⟩ (.slice A3 I.c.2.2.length c3) := ⟨_, rfl⟩
  rw [show W3.setCell ⟨w.heap.size + 1 + 1, 2, none⟩ (.slice A3 I.c.2.2.length c3) = W4 from hW4.symm]
  have hws : w.heap.size + 2 < wa.heap.size := heap_lt HZ.out
  have ht4 : Turned (fun j => j = w.heap.size + 2) W3 W4 := by rw [hW4]; exact turned_set _ _ _ _
  have hZ4 : W4.heap[w.heap.size + 2]? = some (.cells #[.int .i64 I.c.1, .int .i64 I.c.2.1, .slice A3 I.c.2.2.length c3] tStat (0, 0)) := by
    rw [hW4]; have := HZ3.out; simp [World.setCell, Array.getElem?_modify, this]
  have HB4 := Lib.hid (Below.turned HB3.out ht4 (fun i h => by omega) HB3.out.size)
  have HS4 := Lib.hid (heap_turned HS3.out ht4 (by omega))
  have HR4 := Lib.hid (HR3.out.turned ht4 (fun ad n c' e hl => by have := HP3.out ad n c' e hl; omega))
  clear hW4 ht4 HB3 HS3 HR3 HZ3 k0 k1 k2 f0 f1 f2
  obtain ⟨k0, k1, k2⟩ := cell3c hZ4
  obtain ⟨m0, m1, m2⟩ := cell3c HS4.out
  obtain ⟨f0, f1, f2⟩ := froz3 HS4.out
  clear hZ4
  go_wp2_with fail
  have HBf := Lib.hid (Below.turned HB4.out (turned_set3 W4 (w.heap.size + 1) (.int .i64 I.c.1) (.int .i64 I.c.2.1) (.slice A3 I.c.2.2.length c3)) (fun i h => by omega) HB4.out.size)
  refine bodyPost_ret (v := .agg #[.int .i64 I.c.1, .int .i64 I.c.2.1, .slice A3 I.c.2.2.length c3]) (by simp [results, Tryd.results16, go_sem, m0, m1, m2]) rfl ⟨A3, c3, rfl, ?_, fun ad n c' e hl => by have := HP3.out ad n c' e hl; omega, HBf.out⟩
  exact HR4.out.turned (turned_set3 W4 (w.heap.size + 1) _ _ _) (fun ad n c' e hl => by have := HP3.out ad n c' e hl; omega)
theorem newest_any (w : World) (v : Value) (I : In.Inn) (p : Int) (hp : 0 ≤ p) (hp2 : p ≤ 2) (h : InP w v I) (hg : In.Fine I) :
    Calls Tryd.prog 16 #[v, .int .i64 p] w fun e w' => ∃ A c, e = .returned (.agg #[.int .i64 (I.at p).1, .int .i64 (I.at p).2.1, .slice A (I.at p).2.2.length c]) ∧ Rd w' (.slice A (I.at p).2.2.length c) (I.at p).2.2 ∧ Far w (.slice A (I.at p).2.2.length c) (I.at p).2.2.length ∧ Below w.heap.size w w' := by
  rcases (show p = 0 ∨ p = 1 ∨ p = 2 by omega) with rfl | rfl | rfl
  · exact newest0 w v I h hg
  · exact newest1 w v I h hg
  · exact newest2 w v I h hg

/-- What a look-up tells: the row, or an empty one. -/
def rowD (o : Option R5) : R5 := o.getD ((0, 0), 0, 0, 0)
theorem row_in {I : In.Inn} (hg : In.Fine I) {k : Int × Int} {x : R5} (h : (k, x) ∈ entR (In.rowsAll I)) : In.rowOf I k = some x := by
  obtain ⟨y, hy, e⟩ := List.mem_map.1 h
  injection e with e1 e2
  subst e1; subst e2
  exact In.find_of hg.nodup hy
theorem row_out {I : In.Inn} {k : Int × Int} (h : ∀ q ∈ entR (In.rowsAll I), q.1 ≠ k) : In.rowOf I k = none := by
  unfold In.rowOf In.findR
  rw [List.find?_eq_none]
  intro x hx
  simpa using h (x.1, x) (List.mem_map.2 ⟨x, hx, rfl⟩)
end Go.Proofs.YtnfbhocppijbjaaDoor

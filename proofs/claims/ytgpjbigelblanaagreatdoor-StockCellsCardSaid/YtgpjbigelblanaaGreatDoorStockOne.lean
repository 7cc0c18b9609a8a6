/- stock.one: what it computes. -/
import Derived.Test.YtgpjbigelblanaaGreatDoorStockFirst
import Derived.Deep.RegionWith
import Derived.IntWalk
import Derived.Test.YtgpjbigelblanaaGreatDoorRegionTill
namespace Go.Proofs.YtgpjbigelblanaaGreatDoor
open Go.RowKit Go.Maps Key Mon Sk Rw

/-- What a row says, or what is wrong with it. -/
def OneR (r : Line) (l : List R5) (e : Ending) : Prop := match Sk.one r l with | .inl x => e = .returned (.tuple #[mkRow x, rej3 0 0]) | .inr p => ∃ y : R5, e = .returned (.tuple #[mkRow y, rej3 p.1 p.2])
theorem oneR_bad {r : Line} {l : List R5} {p : Nat × Nat} (h : Sk.one r l = .inr p) (y : R5) {v : Value} (hv : v = .tuple #[mkRow y, rej3 p.1 p.2]) : OneR r l (.returned v) := by unfold OneR; rw [h]; exact ⟨y, by rw [hv]⟩
theorem oneR_ok {r : Line} {l : List R5} {x : R5} (h : Sk.one r l = .inl x) {v : Value} (hv : v = .tuple #[mkRow x, rej3 0 0]) : OneR r l (.returned v) := by unfold OneR; rw [h, hv]
theorem below_dq {B : Nat} {a b : World} (h : Below B a b) (n : Nat) : Below B a (b.drewN n) := ⟨h.os, h.tape, h.output, h.size, h.block⟩
theorem two_blocks (w : World) (o p : Obj) {W : World} (h : (w.alloc o).alloc p = W) : Below w.heap.size w W ∧ W.heap[w.heap.size]? = some o ∧ W.heap[w.heap.size + 1]? = some p := by
  subst h
  refine ⟨(below_alloc _ _).alloc (by simp) _, heap_keep (heap_new w o) (below_alloc _ _), ?_⟩
  have := heap_new (w.alloc o) p
  rwa [show (w.alloc o).heap.size = w.heap.size + 1 by simp] at this
theorem set5a {w : World} {b : Nat} {x0 x1 x2 x3 x4 : Value} {T : TypeId} (h : w.heap[b]? = some (.cells #[x0, x1, x2, x3, x4] T (0, 0))) (p0 p1 p2 p3 p4 : Value) :
    (((((w.setCell ⟨b, 0, none⟩ p0).setCell ⟨b, 1, none⟩ p1).setCell ⟨b, 2, none⟩ p2).setCell ⟨b, 3, none⟩ p3).setCell ⟨b, 4, none⟩ p4).heap[b]? = some (.cells #[p0, p1, p2, p3, p4] T (0, 0)) := by
  simp [World.setCell, Array.getElem?_modify, h]
theorem set_other {w : World} {b c i : Nat} {o : Obj} (h : w.heap[b]? = some o) (hne : c ≠ b) (v : Value) : (w.setCell ⟨c, i, none⟩ v).heap[b]? = some o := by
  have : ¬ c = b := hne
  simp [World.setCell, Array.getElem?_modify, h, this]
theorem below_set5 {B : Nat} {a w : World} (h : Below B a w) {b : Nat} (hb : B ≤ b) (p0 p1 p2 p3 p4 : Value) : Below B a (((((w.setCell ⟨b, 0, none⟩ p0).setCell ⟨b, 1, none⟩ p1).setCell ⟨b, 2, none⟩ p2).setCell ⟨b, 3, none⟩ p3).setCell ⟨b, 4, none⟩ p4) :=
  ((((h.setCell (p := ⟨b, 0, none⟩) hb _).setCell (p := ⟨b, 1, none⟩) hb _).setCell (p := ⟨b, 2, none⟩) hb _).setCell (p := ⟨b, 3, none⟩) hb _).setCell (p := ⟨b, 4, none⟩) hb _
/-- What has been found out at the k-th field. -/
def OneOk (k : Nat) (a b c d : Bool) : Prop := (0 < k → a = true) ∧ (1 < k → b = true) ∧ (2 < k → c = true) ∧ (3 < k → d = true)
theorem froz5a {w : World} {b : Nat} {x0 x1 x2 x3 x4 : Value} {T : TypeId} (h : w.heap[b]? = some (.cells #[x0, x1, x2, x3, x4] T (0, 0))) : w.frozen? ⟨b, 0, none⟩ = false ∧ w.frozen? ⟨b, 1, none⟩ = false ∧ w.frozen? ⟨b, 2, none⟩ = false ∧ w.frozen? ⟨b, 3, none⟩ = false ∧ w.frozen? ⟨b, 4, none⟩ = false :=
  ⟨frozen_at h 0, frozen_at h 1, frozen_at h 2, frozen_at h 3, frozen_at h 4⟩

set_option linter.unusedSimpArgs false in
set_option linter.unusedVariables false in
set_option maxRecDepth 100000 in
set_option maxHeartbeats 4000000 in
theorem sone_any (v u : Value) (r : Line) (l : List R5) (w : World) (hv : Strs w w.heap.size v r) (hu : Rd w u l) (hl : r.length ≤ 1000000) (hb8 : ∀ f ∈ r, f.length ≤ 1000000) (hS : SkW w) : Calls Tryz.prog 38 #[v, u] w fun e w' => OneR r l e ∧ Below w.heap.size w w' := by
  obtain ⟨A, c, rfl⟩ := hv.shape
  obtain ⟨Au, cu, rfl, hlu, hcu⟩ := hu.shape
  have hlm : (l.length : Int) ≤ 9223372036854775807 := by unfold maxLen at hcu; omega
  obtain ⟨n, hn⟩ : ∃ n, l.length = n := ⟨_, rfl⟩
  rw [hn] at hu hlu hlm ⊢
  have HLN := Lib.hid hn
  clear hn
  obtain ⟨wa, hwa⟩ : ∃ wa, (w.alloc (.cells #[.int .i64 0, .int .i64 0, .int .i64 0, .int .i64 0, .int .i64 0] tRow)).alloc (.cells #[.int .i64 0, .int .i64 0, .int .i64 0] tRej) = wa := ⟨_, rfl⟩
  have h2 := two_blocks w _ _ hwa
  have HA := Lib.hid h2.1; have HX := Lib.hid h2.2.1; have HY := Lib.hid h2.2.2
  have HS := Lib.hid hS; have HU := Lib.hid hu
  have hWA := Lib.hid hwa
  clear hwa h2 hS hu hlu hcu
  have HREJ := Lib.hid (fun c k W => sreject_any c k W)
  by_cases h4 : r.length = 4
  · obtain ⟨a, b, cc, d, rfl⟩ : ∃ a b cc d, r = [a, b, cc, d] := by
      match r, h4 with
      | [a, b, cc, d], _ => exact ⟨a, b, cc, d, rfl⟩
    obtain ⟨gb, go_, rfl, hbl, _⟩ := hv.at (Below.refl _ _) (k := 0) (f := a) rfl
    have HW := Lib.hid (fun W k f (hb : Below w.heap.size w W) (hf : [a, b, cc, d][k]? = some f) => (show W.cell? ⟨gb, go_ + k, none⟩ = some (.string ⟨f.toArray⟩) by obtain ⟨b', o', e, _, h⟩ := hv.at hb hf; cases e; exact h))
    have HWD := Lib.hid (fun W => swide_ok (some ⟨gb, go_, none⟩) 4 c 4 W (by omega) rfl)
    have hba : a.length ≤ 1000000 := hb8 a (by simp)
    have hbb : b.length ≤ 1000000 := hb8 b (by simp)
    have hbc : cc.length ≤ 1000000 := hb8 cc (by simp)
    have hbd : d.length ≤ 1000000 := hb8 d (by simp)
    simp only [List.length_cons, List.length_nil, Nat.zero_add, Nat.reduceAdd] at hl h4 ⊢
    clear hv hb8 hl h4
    by_cases hfull : 400 ≤ n
    · have HBAD := Lib.hid (show Sk.one [a, b, cc, d] l = .inr (1, 8) by unfold Sk.one; rw [if_neg (by simp), if_pos (by rw [HLN.out]; exact hfull)])
      have hfI := decide_eq_true (show (400 : Int) ≤ n by omega)
      clear hfull hba hbb hbc hbd
      go_enter Tryz.func38, Tryz.ntmps38
      go_upto_region 1 with (fail)
      rw [hWA.out]
      go_step3
      go_wp2_with fail
      refine (HWD.out _).mono ?_
      rintro e w1 ⟨rfl, hb1⟩
      go_upto_region 2 with (fail)
      obtain ⟨w2, hw2⟩ : ∃ w2, w2 = w1.alloc (.cells #[.int .i64 0, .int .i64 0, .int .i64 0] tRej) := ⟨_, rfl⟩
      rw [← hw2]
      have hb2 : Below w1.heap.size w1 w2 := by rw [hw2]; exact below_alloc _ _
      have HX2 := Lib.hid (heap_keep (heap_keep HX.out hb1) hb2); have HY2 := Lib.hid (heap_keep (heap_keep HY.out hb1) hb2); have HB2 := Lib.hid (bch (bch HA.out hb1 HA.out.size) hb2 (by have := HA.out.size; have := hb1.size; omega))
      have HZ2 := Lib.hid (show w2.heap[w1.heap.size]? = some (.cells #[.int .i64 0, .int .i64 0, .int .i64 0] tRej (0, 0)) by rw [hw2]; exact heap_new _ _)
      clear hw2 hb2 hb1
      generalize w1.heap.size = b1 at HZ2 ⊢
      obtain ⟨q0, q1, q2, _⟩ := cell3 HZ2.out
      generalize hnb : w.heap.size = nb at HX2 HY2 HB2 ⊢
      have HNB := Lib.hid hnb
      clear hnb
      go_wp2_with fail
      clear q0 q1 q2 HZ2
      obtain ⟨m0, m1, m2, m3, m4⟩ := cell5 HX2.out
      have HH := Lib.hid (fun W (hb : Below w2.heap.size w2 W) => (⟨Lib.hid hb, (hb.cell (World.block_lt_of_cell? w2 _ m0)).trans m0, (hb.cell (World.block_lt_of_cell? w2 _ m1)).trans m1, (hb.cell (World.block_lt_of_cell? w2 _ m2)).trans m2, (hb.cell (World.block_lt_of_cell? w2 _ m3)).trans m3, (hb.cell (World.block_lt_of_cell? w2 _ m4)).trans m4⟩ : (fun w' => Hid (Below w2.heap.size w2 w') ∧ w'.cell? ⟨nb, 0, none⟩ = some (.int .i64 0) ∧ w'.cell? ⟨nb, 1, none⟩ = some (.int .i64 0) ∧ w'.cell? ⟨nb, 2, none⟩ = some (.int .i64 0) ∧ w'.cell? ⟨nb, 3, none⟩ = some (.int .i64 0) ∧ w'.cell? ⟨nb, 4, none⟩ = some (.int .i64 0)) W))
      refine wp_region_noPanic ?_
      refine wp_region_till 2 (fun _ => True) (fun w' => Hid (Below w2.heap.size w2 w') ∧ w'.cell? ⟨nb, 0, none⟩ = some (.int .i64 0) ∧ w'.cell? ⟨nb, 1, none⟩ = some (.int .i64 0) ∧ w'.cell? ⟨nb, 2, none⟩ = some (.int .i64 0) ∧ w'.cell? ⟨nb, 3, none⟩ = some (.int .i64 0) ∧ w'.cell? ⟨nb, 4, none⟩ = some (.int .i64 0)) (by kernel_rfl) (HH.out _ ((below_drew1 (Below.refl w2.heap.size w2)))) (fun hHeld => ?_)
      refine wpAnyT_go (i := 0) (v := ?vt0_1) rfl (by kernel_rfl) (by kernel_rfl) (by kernel_rfl) (fun _ _ _ h => h) (by kernel_rfl) (Or.inl ⟨by rfl, ?hyt0_1⟩) (by assumption) ?restt0_1
      case hyt0_1 => (intro w0 hSw; (try dsimp only at hSw); go_simp; try with_reducible rfl)
      case' restt0_1 => try simp only [Act.put, List.getElem_toArray, List.getElem_cons_zero, List.getElem_cons_succ, List.setIfInBounds_toArray, List.set_cons_zero, List.set_cons_succ]
      refine wpAnyT_ready (rs := [1]) (by kernel_rfl) (by simp) ?_
      refine AllReadyT.cons rfl (by kernel_rfl) (fun K hK => ?_) AllReadyT.nil
      go_simp
      refine (HREJ.out _ _ _).mono ?_
      rintro e w5 ⟨rfl, hb5⟩
      have hb9 : Below w2.heap.size w2 w5 := bch (below_drew1 (Below.refl w2.heap.size w2)) hb5 (by simp)
      refine hK.out _ _ (HH.out _ (hb9)) (fun hHeld => ?_)
      clear hK K
      try simp only [Act.put, List.getElem_toArray, List.getElem_cons_zero, List.getElem_cons_succ, List.setIfInBounds_toArray, List.set_cons_zero, List.set_cons_succ]
      have HX6 := Lib.hid (heap_keep HX2.out hb9); have HY6 := Lib.hid (heap_keep HY2.out hb9); have HB6 := Lib.hid (bch HB2.out hb9 (by have := HB2.out.size; have := HNB.out; omega))
      clear hHeld HH m0 m1 m2 m3 m4 hb5 hb9 HX2 HY2 HB2
      obtain ⟨m0, m1, m2, m3, m4⟩ := cell5 HX6.out
      obtain ⟨n0, n1, n2, g0, g1, g2⟩ := cell3 HY6.out
      obtain ⟨f0, f1, f2, f3, f4⟩ := froz5a HX6.out
      refine wpAnyT_ready (rs := [2]) (by kernel_rfl) (by simp) ?_
      refine AllReadyT.last rfl (by kernel_rfl) (fun K hK => ?_) AllReadyT.nil
      go_simp
      refine hK.out _ _ trivial (fun hHeld => ?_)
      clear hK K
      try simp only [Act.put, List.getElem_toArray, List.getElem_cons_zero, List.getElem_cons_succ, List.setIfInBounds_toArray, List.set_cons_zero, List.set_cons_succ]
      refine wpAnyT_ready (rs := [3]) (by kernel_rfl) (by simp) ?_
      refine AllReadyT.last rfl (by kernel_rfl) (fun K hK => ?_) AllReadyT.nil
      go_simp
      refine hK.out _ _ trivial (fun hHeld => ?_)
      clear hK K
      try simp only [Act.put, List.getElem_toArray, List.getElem_cons_zero, List.getElem_cons_succ, List.setIfInBounds_toArray, List.set_cons_zero, List.set_cons_succ]
      refine wpAnyT_done (by kernel_rfl) ?_ _
      refine NoPanic.normal ?_
      go_wp2_with fail
      rw [Exit.noGoto_ret]
      obtain ⟨w7, hw7⟩ : ∃ w7, w7 = (((((w5.setCell ⟨nb, 0, none⟩ (.int .i64 0)).setCell ⟨nb, 1, none⟩ (.int .i64 0)).setCell ⟨nb, 2, none⟩ (.int .i64 0)).setCell ⟨nb, 3, none⟩ (.int .i64 0)).setCell ⟨nb, 4, none⟩ (.int .i64 0)) := ⟨_, rfl⟩
      have hx7 := set5a HX6.out (.int .i64 0) (.int .i64 0) (.int .i64 0) (.int .i64 0) (.int .i64 0)
      rw [← hw7] at hx7
      have hy7 : w7.heap[nb + 1]? = some (.cells #[.int .i64 0, .int .i64 0, .int .i64 0] tRej (0, 0)) := by rw [hw7]; exact set_other (set_other (set_other (set_other (set_other HY6.out (by omega) _) (by omega) _) (by omega) _) (by omega) _) (by omega) _
      have hb7 : Below nb w w7 := by rw [hw7]; exact below_set5 HB6.out (Nat.le_refl _) _ _ _ _ _
      rw [← hw7]
      clear hw7 m0 m1 m2 m3 m4 n0 n1 n2
      obtain ⟨w8, hw8⟩ : ∃ w8, w8 = ((w7.setCell ⟨nb + 1, 0, none⟩ (.int .i64 0)).setCell ⟨nb + 1, 1, none⟩ (.int .i64 1)).setCell ⟨nb + 1, 2, none⟩ (.int .i64 8) := ⟨_, rfl⟩
      have hy8 := set3 hy7 (.int .i64 0) (.int .i64 1) (.int .i64 8)
      rw [← hw8] at hy8
      have hx8 : w8.heap[nb]? = some (.cells #[.int .i64 0, .int .i64 0, .int .i64 0, .int .i64 0, .int .i64 0] tRow (0, 0)) := by rw [hw8]; exact set_other (set_other (set_other hx7 (by omega) _) (by omega) _) (by omega) _
      have hb8 : Below nb w w8 := by rw [hw8]; exact below_set3 hb7 (by omega) _ _ _
      rw [← hw8]
      clear hw8
      obtain ⟨m0, m1, m2, m3, m4⟩ := cell5 hx8
      obtain ⟨n0, n1, n2, _⟩ := cell3 hy8
      refine bodyPost_ret (v := .tuple #[.agg #[.int .i64 0, .int .i64 0, .int .i64 0, .int .i64 0, .int .i64 0], .agg #[.int .i64 0, .int .i64 1, .int .i64 8]]) (by simp [results, Tryz.results38, go_sem, m0, m1, m2, m3, m4, n0, n1, n2]) rfl ⟨?_, HNB.out ▸ hb8⟩
      exact oneR_bad HBAD.out ((0, 0), 0, 0, 0) rfl
    · have hone : Sk.one [a, b, cc, d] l = four a b cc d l := by unfold Sk.one; rw [if_neg (by simp), if_neg (by rw [HLN.out]; exact hfull)]; rfl
      have HONE := Lib.hid hone
      have hfI := decide_eq_false (show ¬ (400 : Int) ≤ n by omega)
      clear hone hfull
      obtain ⟨x0, y0, hR0⟩ : ∃ x y, getM a = (x, y) := ⟨_, _, rfl⟩
      obtain ⟨z0, hz0⟩ : ∃ z, numB a 1 60 = z := ⟨_, rfl⟩
      obtain ⟨x1, y1, hR1⟩ : ∃ x y, deedK b = (x, y) := ⟨_, _, rfl⟩
      obtain ⟨p1, hp1⟩ : ∃ z, partyI x1 = z := ⟨_, rfl⟩
      obtain ⟨x2, y2, hR2⟩ : ∃ x y, codeK cc = (x, y) := ⟨_, _, rfl⟩
      obtain ⟨x3, y3, hR3⟩ : ∃ x y, getM d = (x, y) := ⟨_, _, rfl⟩
      obtain ⟨z3, hz3⟩ : ∃ z, numB d 0 999 = z := ⟨_, rfl⟩
      have bytes : ∀ f : List UInt8, (⟨f.toArray⟩ : ByteArray).data.toList = f := fun f => by simp
      have HN0 := Lib.hid (fun W hM => snumber_any ⟨a.toArray⟩ 1 60 W (by rw [bytes_size]; exact hba) hM)
      have HN3 := Lib.hid (fun W hM => snumber_any ⟨d.toArray⟩ 0 999 W (by rw [bytes_size]; exact hbd) hM)
      have HN1 := Lib.hid (fun W hK => deed_any ⟨b.toArray⟩ W (by rw [bytes_size]; unfold maxLen; omega) hK)
      have HP1 := Lib.hid (fun W hK => party_any x1 W hK)
      have HC2 := Lib.hid (code_at cc)
      have HK2 := Lib.hid (WideMaps.keyOf_string_mk (P := Tryz.prog) (k := tStr) Tryz.underlying9 (s := ⟨cc.toArray⟩) (by rw [bytes_size]; unfold maxLen; omega))
      rw [bytes, hR0, hz0] at HN0
      rw [bytes, hR3, hz3] at HN3
      rw [bytes, hR1] at HN1
      rw [hp1] at HP1
      rw [bytes] at HK2
      rw [hR2] at HC2
      obtain ⟨pb, hpb⟩ : ∃ z, (y1 && decide (p1 = 1)) = z := ⟨_, rfl⟩
      obtain ⟨pd, hpd⟩ : ∃ z, (z3 && (decide (x2 = 1) || decide (x3 = 0))) = z := ⟨_, rfl⟩
      have hfour : four a b cc d l = (if z0 = false then .inr (1, 3) else if pb = false then .inr (2, 3) else if y2 = false then .inr (3, 3) else if pd = false then .inr (4, 3) else match l.getLast? with | none => .inl ((x0, x1), x2, 0, x3) | some y => if lessB y.1.1 y.1.2 x0 x1 = true then .inl ((x0, x1), x2, 0, x3) else .inr (1, 6)) := by
        unfold four
        simp only [hR0, hz0, hR1, hp1, hR2, hR3, hz3, hpb, hpd]
        rfl
      have HPB := Lib.hid hpb; have HPD := Lib.hid hpd
      clear hpb hpd
      have HF := Lib.hid (HONE.out.trans hfour)
      clear hfour hR0 hz0 hR1 hp1 hR2 hR3 hz3 bytes hba hbb hbc hbd HONE
      go_enter Tryz.func38, Tryz.ntmps38
      go_upto_region 1 with (fail)
      rw [hWA.out]
      go_step3
      go_wp2_with fail
      refine (HWD.out _).mono ?_
      rintro e w1 ⟨rfl, hb1⟩
      go_upto_region 2 with (fail)
      obtain ⟨w2, hw2⟩ : ∃ w2, w2 = w1.alloc (.cells #[.int .i64 0, .int .i64 0, .int .i64 0] tRej) := ⟨_, rfl⟩
      rw [← hw2]
      have hb2 : Below w1.heap.size w1 w2 := by rw [hw2]; exact below_alloc _ _
      have HX2 := Lib.hid (heap_keep (heap_keep HX.out hb1) hb2); have HY2 := Lib.hid (heap_keep (heap_keep HY.out hb1) hb2); have HB2 := Lib.hid (bch (bch HA.out hb1 HA.out.size) hb2 (by have := HA.out.size; have := hb1.size; omega))
      have HZ2 := Lib.hid (show w2.heap[w1.heap.size]? = some (.cells #[.int .i64 0, .int .i64 0, .int .i64 0] tRej (0, 0)) by rw [hw2]; exact heap_new _ _)
      clear hw2 hb2 hb1
      generalize w1.heap.size = b1 at HZ2 ⊢
      obtain ⟨q0, q1, q2, _⟩ := cell3 HZ2.out
      go_wp2_with fail
      clear q0 q1 q2 HZ2
      go_step3
      go_wp2_with fail
      generalize hnb : w.heap.size = nb at HX2 HY2 HB2 ⊢
      have HNB := Lib.hid hnb
      clear hnb
      go_loopw [25] (fun i wr => ∃ k : Nat, i = .int .i64 k ∧ k ≤ 4 ∧ Hid (wr.heap[nb]? = some (.cells #[.int .i64 (if 0 < k then x0 else 0), .int .i64 (if 1 < k then x1 else 0), .int .i64 (if 2 < k then x2 else 0), .int .i64 0, .int .i64 (if 3 < k then x3 else 0)] tRow (0, 0))) ∧ Hid (wr.heap[nb + 1]? = some (.cells #[.int .i64 0, .int .i64 0, .int .i64 0] tRej (0, 0))) ∧ Hid (Below nb w wr) ∧ Hid (OneOk k z0 pb y2 pd)) (fun i _ => 4 - (intOf i).toNat)
      case atStart => exact ⟨0, rfl, by omega, HX2.out, HY2.out, HB2.out, ⟨by omega, by omega, by omega, by omega⟩⟩
      case round =>
        obtain ⟨k, rfl, hk, HXr, HYr, HBr, HOK⟩ := hrel
        obtain rfl | rfl | rfl | rfl | rfl : k = 0 ∨ k = 1 ∨ k = 2 ∨ k = 3 ∨ k = 4 := by omega
        · have HXk := Lib.hid (show wr.heap[nb]? = some (.cells #[.int .i64 0, .int .i64 0, .int .i64 0, .int .i64 0, .int .i64 0] tRow (0, 0)) from HXr.out)
          clear HXr
          have c0 := HW.out wr 0 a (by rw [HNB.out]; exact HBr.out) rfl
          rw [Nat.add_zero] at c0
          go_wp2_with fail
          refine (HN0.out _ (HS.out.below (by rw [HNB.out]; exact HBr.out)).kw.mw).mono ?_
          rintro e w3 ⟨rfl, hb3⟩
          have HX3 := Lib.hid (heap_keep HXk.out hb3); have HY3 := Lib.hid (heap_keep HYr.out hb3); have HB3 := Lib.hid (bch HBr.out hb3 (by have := HBr.out.size; have := HNB.out; omega))
          clear hb3 c0
          obtain ⟨f0, f1, f2, f3, f4⟩ := froz5a HX3.out
          obtain ⟨m0, m1, m2, m3, m4⟩ := cell5 HX3.out
          go_upto_region 21 with (fail)
          obtain ⟨w4, hw4⟩ : ∃ w4, w4 = w3.setCell ⟨nb, 0, none⟩ (.int .i64 x0) := ⟨_, rfl⟩
          rw [← hw4]
          have HX4 := Lib.hid (show w4.heap[nb]? = some (.cells #[.int .i64 x0, .int .i64 0, .int .i64 0, .int .i64 0, .int .i64 0] tRow (0, 0)) by rw [hw4]; have h := HX3.out; simp [World.setCell, Array.getElem?_modify, h])
          have HY4 := Lib.hid (show w4.heap[nb + 1]? = some (.cells #[.int .i64 0, .int .i64 0, .int .i64 0] tRej (0, 0)) by rw [hw4]; exact set_other HY3.out (by omega) _)
          have HB4 := Lib.hid (show Below nb w w4 by rw [hw4]; exact HB3.out.setCell (p := ⟨nb, 0, none⟩) (Nat.le_refl _) _)
          clear hw4 HX3 HY3 HB3 f0 f1 f2 f3 f4 m0 m1 m2 m3 m4
          cases z0 with
          | true =>
            have HOK2 := Lib.hid (show OneOk 1 true pb y2 pd from ⟨fun _ => rfl, by omega, by omega, by omega⟩)
            go_wp2_with fail
            go_roundw
            case rel => exact ⟨1, by rfl, by omega, HX4.out, HY4.out, HB4.out, HOK2.out⟩
            case measure => simp [intOf]
          | false =>
            go_wp2_with fail
            refine (HREJ.out _ _ _).mono ?_
            rintro e w5 ⟨rfl, hb5⟩
            have HX5 := Lib.hid (heap_keep HX4.out hb5); have HY5 := Lib.hid (heap_keep HY4.out hb5); have HB5 := Lib.hid (bch HB4.out hb5 (by have := HB4.out.size; have := HNB.out; omega))
            clear hb5 HX4 HY4 HB4
            have HBAD := Lib.hid (show Sk.one [a, b, cc, d] l = .inr (1, 3) by rw [HF.out]; simp)
            obtain ⟨n0, n1, n2, g0, g1, g2⟩ := cell3 HY5.out
            go_upto_region 24 with (fail)
            obtain ⟨w6, hw6⟩ : ∃ w6, w6 = ((w5.setCell ⟨nb + 1, 0, none⟩ (.int .i64 0)).setCell ⟨nb + 1, 1, none⟩ (.int .i64 1)).setCell ⟨nb + 1, 2, none⟩ (.int .i64 3) := ⟨_, rfl⟩
            rw [← hw6]
            have HY6 := Lib.hid (show w6.heap[nb + 1]? = some (.cells #[.int .i64 0, .int .i64 1, .int .i64 3] tRej (0, 0)) by rw [hw6]; exact set3 HY5.out _ _ _)
            have HX6 := Lib.hid (show w6.heap[nb]? = some (.cells #[.int .i64 x0, .int .i64 0, .int .i64 0, .int .i64 0, .int .i64 0] tRow (0, 0)) by rw [hw6]; exact set_other (set_other (set_other HX5.out (by omega) _) (by omega) _) (by omega) _)
            have HB6 := Lib.hid (show Below nb w w6 by rw [hw6]; exact below_set3 HB5.out (by omega) _ _ _)
            clear hw6 HX5 HY5 HB5 n0 n1 n2 g0 g1 g2
            obtain ⟨n0, n1, n2, g0, g1, g2⟩ := cell3 HY6.out
            go_wp2_with fail
            go_quiet (fail)
            go_wp2_with fail
            clear n0 n1 n2 g0 g1 g2
            obtain ⟨w9, hw9⟩ : ∃ w, w = w6.drewN nq := ⟨_, rfl⟩
            rw [← hw9]
            have hb9 : Below w6.heap.size w6 w9 := by rw [hw9]; exact below_dq (Below.refl _ w6) nq
            have HX9 := Lib.hid (heap_keep HX6.out hb9); have HY9 := Lib.hid (heap_keep HY6.out hb9); have HB9 := Lib.hid (bch HB6.out hb9 (by have := HB6.out.size; have := HNB.out; omega))
            clear hw9 hb9 HX6 HY6 HB6
            obtain ⟨m0, m1, m2, m3, m4⟩ := cell5 HX9.out
            obtain ⟨n0, n1, n2, g0, g1, g2⟩ := cell3 HY9.out
            obtain ⟨f0, f1, f2, f3, f4⟩ := froz5a HX9.out
            go_region
            go_wp2_with fail
            rw [Exit.noGoto_ret]
            obtain ⟨w7, hw7⟩ : ∃ w7, w7 = (((((w9.setCell ⟨nb, 0, none⟩ (.int .i64 x0)).setCell ⟨nb, 1, none⟩ (.int .i64 0)).setCell ⟨nb, 2, none⟩ (.int .i64 0)).setCell ⟨nb, 3, none⟩ (.int .i64 0)).setCell ⟨nb, 4, none⟩ (.int .i64 0)) := ⟨_, rfl⟩
            have hx7 := set5a HX9.out (.int .i64 x0) (.int .i64 0) (.int .i64 0) (.int .i64 0) (.int .i64 0)
            rw [← hw7] at hx7
            have hy7 : w7.heap[nb + 1]? = some (.cells #[.int .i64 0, .int .i64 1, .int .i64 3] tRej (0, 0)) := by rw [hw7]; exact set_other (set_other (set_other (set_other (set_other HY9.out (by omega) _) (by omega) _) (by omega) _) (by omega) _) (by omega) _
            have hb7 : Below nb w w7 := by rw [hw7]; exact below_set5 HB9.out (Nat.le_refl _) _ _ _ _ _
            rw [← hw7]
            clear hw7 m0 m1 m2 m3 m4 n0 n1 n2
            obtain ⟨w8, hw8⟩ : ∃ w8, w8 = ((w7.setCell ⟨nb + 1, 0, none⟩ (.int .i64 0)).setCell ⟨nb + 1, 1, none⟩ (.int .i64 1)).setCell ⟨nb + 1, 2, none⟩ (.int .i64 3) := ⟨_, rfl⟩
            have hy8 := set3 hy7 (.int .i64 0) (.int .i64 1) (.int .i64 3)
            rw [← hw8] at hy8
            have hx8 : w8.heap[nb]? = some (.cells #[.int .i64 x0, .int .i64 0, .int .i64 0, .int .i64 0, .int .i64 0] tRow (0, 0)) := by rw [hw8]; exact set_other (set_other (set_other hx7 (by omega) _) (by omega) _) (by omega) _
            have hb8 : Below nb w w8 := by rw [hw8]; exact below_set3 hb7 (by omega) _ _ _
            rw [← hw8]
            clear hw8
            obtain ⟨m0, m1, m2, m3, m4⟩ := cell5 hx8
            obtain ⟨n0, n1, n2, _⟩ := cell3 hy8
            refine bodyPost_ret (v := .tuple #[.agg #[.int .i64 x0, .int .i64 0, .int .i64 0, .int .i64 0, .int .i64 0], .agg #[.int .i64 0, .int .i64 1, .int .i64 3]]) (by simp [results, Tryz.results38, go_sem, m0, m1, m2, m3, m4, n0, n1, n2]) rfl ⟨?_, below_drew1 (HNB.out ▸ hb8)⟩
            exact oneR_bad HBAD.out ((x0, 0), 0, 0, 0) rfl
        · have HXk := Lib.hid (show wr.heap[nb]? = some (.cells #[.int .i64 x0, .int .i64 0, .int .i64 0, .int .i64 0, .int .i64 0] tRow (0, 0)) from HXr.out)
          clear HXr
          have c0 := HW.out wr 1 b (by rw [HNB.out]; exact HBr.out) rfl
          go_wp2_with fail
          refine (HN1.out _ (HS.out.below (by rw [HNB.out]; exact HBr.out)).kw).mono ?_
          rintro e w3 ⟨rfl, hb3⟩; subst hb3
          have HX3 := Lib.hid HXk.out; have HY3 := Lib.hid HYr.out; have HB3 := Lib.hid HBr.out
          clear c0
          obtain ⟨f0, f1, f2, f3, f4⟩ := froz5a HX3.out
          obtain ⟨m0, m1, m2, m3, m4⟩ := cell5 HX3.out
          go_upto_region 15 with (fail)
          obtain ⟨w4, hw4⟩ : ∃ w4, w4 = wr.setCell ⟨nb, 1, none⟩ (.int .i64 x1) := ⟨_, rfl⟩
          rw [← hw4]
          have HX4 := Lib.hid (show w4.heap[nb]? = some (.cells #[.int .i64 x0, .int .i64 x1, .int .i64 0, .int .i64 0, .int .i64 0] tRow (0, 0)) by rw [hw4]; have h := HX3.out; simp [World.setCell, Array.getElem?_modify, h])
          have HY4 := Lib.hid (show w4.heap[nb + 1]? = some (.cells #[.int .i64 0, .int .i64 0, .int .i64 0] tRej (0, 0)) by rw [hw4]; exact set_other HY3.out (by omega) _)
          have HB4 := Lib.hid (show Below nb w w4 by rw [hw4]; exact HB3.out.setCell (p := ⟨nb, 1, none⟩) (Nat.le_refl _) _)
          clear hw4 HX3 HY3 HB3 f0 f1 f2 f3 f4 m0 m1 m2 m3 m4
          obtain ⟨m0, m1, m2, m3, m4⟩ := cell5 HX4.out
          have HPW := Lib.hid (HP1.out w4 (HS.out.below (by rw [HNB.out]; exact HB4.out)).kw.pt)
          cases y1 with
          | false =>
            have hpf : pb = false := by rw [← HPB.out]; rfl
            subst hpf
            go_upto_region 21 with (fail)
            clear m0 m1 m2 m3 m4
            go_wp2_with fail
            refine (HREJ.out _ _ _).mono ?_
            rintro e w5 ⟨rfl, hb5⟩
            have HX5 := Lib.hid (heap_keep HX4.out hb5); have HY5 := Lib.hid (heap_keep HY4.out hb5); have HB5 := Lib.hid (bch HB4.out hb5 (by have := HB4.out.size; have := HNB.out; omega))
            clear hb5 HX4 HY4 HB4
            have HBAD := Lib.hid (show Sk.one [a, b, cc, d] l = .inr (2, 3) by have e1 := HOK.out.1 (by omega); rw [HF.out]; simp [e1])
            obtain ⟨n0, n1, n2, g0, g1, g2⟩ := cell3 HY5.out
            go_upto_region 24 with (fail)
            obtain ⟨w6, hw6⟩ : ∃ w6, w6 = ((w5.setCell ⟨nb + 1, 0, none⟩ (.int .i64 0)).setCell ⟨nb + 1, 1, none⟩ (.int .i64 2)).setCell ⟨nb + 1, 2, none⟩ (.int .i64 3) := ⟨_, rfl⟩
            rw [← hw6]
            have HY6 := Lib.hid (show w6.heap[nb + 1]? = some (.cells #[.int .i64 0, .int .i64 2, .int .i64 3] tRej (0, 0)) by rw [hw6]; exact set3 HY5.out _ _ _)
            have HX6 := Lib.hid (show w6.heap[nb]? = some (.cells #[.int .i64 x0, .int .i64 x1, .int .i64 0, .int .i64 0, .int .i64 0] tRow (0, 0)) by rw [hw6]; exact set_other (set_other (set_other HX5.out (by omega) _) (by omega) _) (by omega) _)
            have HB6 := Lib.hid (show Below nb w w6 by rw [hw6]; exact below_set3 HB5.out (by omega) _ _ _)
            clear hw6 HX5 HY5 HB5 n0 n1 n2 g0 g1 g2
            obtain ⟨n0, n1, n2, g0, g1, g2⟩ := cell3 HY6.out
            go_wp2_with fail
            go_quiet (fail)
            go_wp2_with fail
            clear n0 n1 n2 g0 g1 g2
            obtain ⟨w9, hw9⟩ : ∃ w, w = w6.drewN nq := ⟨_, rfl⟩
            rw [← hw9]
            have hb9 : Below w6.heap.size w6 w9 := by rw [hw9]; exact below_dq (Below.refl _ w6) nq
            have HX9 := Lib.hid (heap_keep HX6.out hb9); have HY9 := Lib.hid (heap_keep HY6.out hb9); have HB9 := Lib.hid (bch HB6.out hb9 (by have := HB6.out.size; have := HNB.out; omega))
            clear hw9 hb9 HX6 HY6 HB6
            obtain ⟨m0, m1, m2, m3, m4⟩ := cell5 HX9.out
            obtain ⟨n0, n1, n2, g0, g1, g2⟩ := cell3 HY9.out
            obtain ⟨f0, f1, f2, f3, f4⟩ := froz5a HX9.out
            go_region
            go_wp2_with fail
            rw [Exit.noGoto_ret]
            obtain ⟨w7, hw7⟩ : ∃ w7, w7 = (((((w9.setCell ⟨nb, 0, none⟩ (.int .i64 x0)).setCell ⟨nb, 1, none⟩ (.int .i64 x1)).setCell ⟨nb, 2, none⟩ (.int .i64 0)).setCell ⟨nb, 3, none⟩ (.int .i64 0)).setCell ⟨nb, 4, none⟩ (.int .i64 0)) := ⟨_, rfl⟩
            have hx7 := set5a HX9.out (.int .i64 x0) (.int .i64 x1) (.int .i64 0) (.int .i64 0) (.int .i64 0)
            rw [← hw7] at hx7
            have hy7 : w7.heap[nb + 1]? = some (.cells #[.int .i64 0, .int .i64 2, .int .i64 3] tRej (0, 0)) := by rw [hw7]; exact set_other (set_other (set_other (set_other (set_other HY9.out (by omega) _) (by omega) _) (by omega) _) (by omega) _) (by omega) _
            have hb7 : Below nb w w7 := by rw [hw7]; exact below_set5 HB9.out (Nat.le_refl _) _ _ _ _ _
            rw [← hw7]
            clear hw7 m0 m1 m2 m3 m4 n0 n1 n2
            obtain ⟨w8, hw8⟩ : ∃ w8, w8 = ((w7.setCell ⟨nb + 1, 0, none⟩ (.int .i64 0)).setCell ⟨nb + 1, 1, none⟩ (.int .i64 2)).setCell ⟨nb + 1, 2, none⟩ (.int .i64 3) := ⟨_, rfl⟩
            have hy8 := set3 hy7 (.int .i64 0) (.int .i64 2) (.int .i64 3)
            rw [← hw8] at hy8
            have hx8 : w8.heap[nb]? = some (.cells #[.int .i64 x0, .int .i64 x1, .int .i64 0, .int .i64 0, .int .i64 0] tRow (0, 0)) := by rw [hw8]; exact set_other (set_other (set_other hx7 (by omega) _) (by omega) _) (by omega) _
            have hb8 : Below nb w w8 := by rw [hw8]; exact below_set3 hb7 (by omega) _ _ _
            rw [← hw8]
            clear hw8
            obtain ⟨m0, m1, m2, m3, m4⟩ := cell5 hx8
            obtain ⟨n0, n1, n2, _⟩ := cell3 hy8
            refine bodyPost_ret (v := .tuple #[.agg #[.int .i64 x0, .int .i64 x1, .int .i64 0, .int .i64 0, .int .i64 0], .agg #[.int .i64 0, .int .i64 2, .int .i64 3]]) (by simp [results, Tryz.results38, go_sem, m0, m1, m2, m3, m4, n0, n1, n2]) rfl ⟨?_, below_drew1 (HNB.out ▸ hb8)⟩
            exact oneR_bad HBAD.out ((x0, x1), 0, 0, 0) rfl
          | true =>
            by_cases hp : p1 = 1
            · have hpq := beqT hp
              have hpf : pb = true := by rw [← HPB.out, hp]; rfl
              subst hpf
              clear hp
              go_upto_region 21 with (go_at_call 73; refine HPW.out.mono ?_; rintro e w9 ⟨rfl, hw9⟩; subst hw9)
              clear m0 m1 m2 m3 m4 hpq
              have HOK2 := Lib.hid (show OneOk 2 z0 true y2 pd from ⟨fun _ => HOK.out.1 (by omega), fun _ => rfl, by omega, by omega⟩)
              go_wp2_with fail
              go_roundw
              case rel => exact ⟨2, by rfl, by omega, HX4.out, HY4.out, HB4.out, HOK2.out⟩
              case measure => simp [intOf]
            · have hpq := beqF hp
              have hpf : pb = false := by rw [← HPB.out]; simpa using hp
              subst hpf
              clear hp
              go_upto_region 21 with (go_at_call 73; refine HPW.out.mono ?_; rintro e w9 ⟨rfl, hw9⟩; subst hw9)
              clear m0 m1 m2 m3 m4 hpq
              go_wp2_with fail
              refine (HREJ.out _ _ _).mono ?_
              rintro e w5 ⟨rfl, hb5⟩
              have HX5 := Lib.hid (heap_keep HX4.out hb5); have HY5 := Lib.hid (heap_keep HY4.out hb5); have HB5 := Lib.hid (bch HB4.out hb5 (by have := HB4.out.size; have := HNB.out; omega))
              clear hb5 HX4 HY4 HB4
              have HBAD := Lib.hid (show Sk.one [a, b, cc, d] l = .inr (2, 3) by have e1 := HOK.out.1 (by omega); rw [HF.out]; simp [e1])
              obtain ⟨n0, n1, n2, g0, g1, g2⟩ := cell3 HY5.out
              go_upto_region 24 with (fail)
              obtain ⟨w6, hw6⟩ : ∃ w6, w6 = ((w5.setCell ⟨nb + 1, 0, none⟩ (.int .i64 0)).setCell ⟨nb + 1, 1, none⟩ (.int .i64 2)).setCell ⟨nb + 1, 2, none⟩ (.int .i64 3) := ⟨_, rfl⟩
              rw [← hw6]
              have HY6 := Lib.hid (show w6.heap[nb + 1]? = some (.cells #[.int .i64 0, .int .i64 2, .int .i64 3] tRej (0, 0)) by rw [hw6]; exact set3 HY5.out _ _ _)
              have HX6 := Lib.hid (show w6.heap[nb]? = some (.cells #[.int .i64 x0, .int .i64 x1, .int .i64 0, .int .i64 0, .int .i64 0] tRow (0, 0)) by rw [hw6]; exact set_other (set_other (set_other HX5.out (by omega) _) (by omega) _) (by omega) _)
              have HB6 := Lib.hid (show Below nb w w6 by rw [hw6]; exact below_set3 HB5.out (by omega) _ _ _)
              clear hw6 HX5 HY5 HB5 n0 n1 n2 g0 g1 g2
              obtain ⟨n0, n1, n2, g0, g1, g2⟩ := cell3 HY6.out
              go_wp2_with fail
              go_quiet (fail)
              go_wp2_with fail
              clear n0 n1 n2 g0 g1 g2
              obtain ⟨w9, hw9⟩ : ∃ w, w = w6.drewN nq := ⟨_, rfl⟩
              rw [← hw9]
              have hb9 : Below w6.heap.size w6 w9 := by rw [hw9]; exact below_dq (Below.refl _ w6) nq
              have HX9 := Lib.hid (heap_keep HX6.out hb9); have HY9 := Lib.hid (heap_keep HY6.out hb9); have HB9 := Lib.hid (bch HB6.out hb9 (by have := HB6.out.size; have := HNB.out; omega))
              clear hw9 hb9 HX6 HY6 HB6
              obtain ⟨m0, m1, m2, m3, m4⟩ := cell5 HX9.out
              obtain ⟨n0, n1, n2, g0, g1, g2⟩ := cell3 HY9.out
              obtain ⟨f0, f1, f2, f3, f4⟩ := froz5a HX9.out
              go_region
              go_wp2_with fail
              rw [Exit.noGoto_ret]
              obtain ⟨w7, hw7⟩ : ∃ w7, w7 = (((((w9.setCell ⟨nb, 0, none⟩ (.int .i64 x0)).setCell ⟨nb, 1, none⟩ (.int .i64 x1)).setCell ⟨nb, 2, none⟩ (.int .i64 0)).setCell ⟨nb, 3, none⟩ (.int .i64 0)).setCell ⟨nb, 4, none⟩ (.int .i64 0)) := ⟨_, rfl⟩
              have hx7 := set5a HX9.out (.int .i64 x0) (.int .i64 x1) (.int .i64 0) (.int .i64 0) (.int .i64 0)
              rw [← hw7] at hx7
              have hy7 : w7.heap[nb + 1]? = some (.cells #[.int .i64 0, .int .i64 2, .int .i64 3] tRej (0, 0)) := by rw [hw7]; exact set_other (set_other (set_other (set_other (set_other HY9.out (by omega) _) (by omega) _) (by omega) _) (by omega) _) (by omega) _
              have hb7 : Below nb w w7 := by rw [hw7]; exact below_set5 HB9.out (Nat.le_refl _) _ _ _ _ _
              rw [← hw7]
              clear hw7 m0 m1 m2 m3 m4 n0 n1 n2
              obtain ⟨w8, hw8⟩ : ∃ w8, w8 = ((w7.setCell ⟨nb + 1, 0, none⟩ (.int .i64 0)).setCell ⟨nb + 1, 1, none⟩ (.int .i64 2)).setCell ⟨nb + 1, 2, none⟩ (.int .i64 3) := ⟨_, rfl⟩
              have hy8 := set3 hy7 (.int .i64 0) (.int .i64 2) (.int .i64 3)
              rw [← hw8] at hy8
              have hx8 : w8.heap[nb]? = some (.cells #[.int .i64 x0, .int .i64 x1, .int .i64 0, .int .i64 0, .int .i64 0] tRow (0, 0)) := by rw [hw8]; exact set_other (set_other (set_other hx7 (by omega) _) (by omega) _) (by omega) _
              have hb8 : Below nb w w8 := by rw [hw8]; exact below_set3 hb7 (by omega) _ _ _
              rw [← hw8]
              clear hw8
              obtain ⟨m0, m1, m2, m3, m4⟩ := cell5 hx8
              obtain ⟨n0, n1, n2, _⟩ := cell3 hy8
              refine bodyPost_ret (v := .tuple #[.agg #[.int .i64 x0, .int .i64 x1, .int .i64 0, .int .i64 0, .int .i64 0], .agg #[.int .i64 0, .int .i64 2, .int .i64 3]]) (by simp [results, Tryz.results38, go_sem, m0, m1, m2, m3, m4, n0, n1, n2]) rfl ⟨?_, below_drew1 (HNB.out ▸ hb8)⟩
              exact oneR_bad HBAD.out ((x0, x1), 0, 0, 0) rfl
        · have HXk := Lib.hid (show wr.heap[nb]? = some (.cells #[.int .i64 x0, .int .i64 x1, .int .i64 0, .int .i64 0, .int .i64 0] tRow (0, 0)) from HXr.out)
          clear HXr
          have c0 := HW.out wr 2 cc (by rw [HNB.out]; exact HBr.out) rfl
          obtain ⟨bw, hcw, _, how⟩ := (HS.out.below (by rw [HNB.out]; exact HBr.out)).wd
          have HOW := Lib.hid how
          clear how
          obtain ⟨f0, f1, f2, f3, f4⟩ := froz5a HXk.out
          obtain ⟨m0, m1, m2, m3, m4⟩ := cell5 HXk.out
          go_upto_region 21 with (at_lookup; refine wpList_lookup_own_ok_int _ rfl _ _ 85 rfl tStr tIntK2 .i64 lawStr Tryz.underlying85 Tryz.underlying3 (zeroIntK2 _) bw 2 D2 rfl HOW.out _ _ rfl HK2.out ?_; intro cx hat hwc; have HAT := Lib.hid hat; clear hat)
          have hcx : x2 = cx := by have h := HAT.out.symm.trans HC2.out.2; simpa using h.symm
          subst hcx
          rw [HC2.out.1]
          clear HAT HOW hcw hwc c0
          have HX3 := Lib.hid HXk.out; have HY3 := Lib.hid HYr.out; have HB3 := Lib.hid HBr.out
          obtain ⟨w4, hw4⟩ : ∃ w4, w4 = wr.setCell ⟨nb, 2, none⟩ (.int .i64 x2) := ⟨_, rfl⟩
          rw [← hw4]
          have HX4 := Lib.hid (show w4.heap[nb]? = some (.cells #[.int .i64 x0, .int .i64 x1, .int .i64 x2, .int .i64 0, .int .i64 0] tRow (0, 0)) by rw [hw4]; have h := HX3.out; simp [World.setCell, Array.getElem?_modify, h])
          have HY4 := Lib.hid (show w4.heap[nb + 1]? = some (.cells #[.int .i64 0, .int .i64 0, .int .i64 0] tRej (0, 0)) by rw [hw4]; exact set_other HY3.out (by omega) _)
          have HB4 := Lib.hid (show Below nb w w4 by rw [hw4]; exact HB3.out.setCell (p := ⟨nb, 2, none⟩) (Nat.le_refl _) _)
          clear hw4 HX3 HY3 HB3 f0 f1 f2 f3 f4 m0 m1 m2 m3 m4
          cases y2 with
          | true =>
            have HOK2 := Lib.hid (show OneOk 3 z0 pb true pd from ⟨fun _ => HOK.out.1 (by omega), fun _ => HOK.out.2.1 (by omega), fun _ => rfl, by omega⟩)
            go_wp2_with fail
            go_roundw
            case rel => exact ⟨3, by rfl, by omega, HX4.out, HY4.out, HB4.out, HOK2.out⟩
            case measure => simp [intOf]
          | false =>
            go_wp2_with fail
            refine (HREJ.out _ _ _).mono ?_
            rintro e w5 ⟨rfl, hb5⟩
            have HX5 := Lib.hid (heap_keep HX4.out hb5); have HY5 := Lib.hid (heap_keep HY4.out hb5); have HB5 := Lib.hid (bch HB4.out hb5 (by have := HB4.out.size; have := HNB.out; omega))
            clear hb5 HX4 HY4 HB4
            have HBAD := Lib.hid (show Sk.one [a, b, cc, d] l = .inr (3, 3) by have e1 := HOK.out.1 (by omega); have e2 := HOK.out.2.1 (by omega); rw [HF.out]; simp [e1, e2])
            obtain ⟨n0, n1, n2, g0, g1, g2⟩ := cell3 HY5.out
            go_upto_region 24 with (fail)
            obtain ⟨w6, hw6⟩ : ∃ w6, w6 = ((w5.setCell ⟨nb + 1, 0, none⟩ (.int .i64 0)).setCell ⟨nb + 1, 1, none⟩ (.int .i64 3)).setCell ⟨nb + 1, 2, none⟩ (.int .i64 3) := ⟨_, rfl⟩
            rw [← hw6]
            have HY6 := Lib.hid (show w6.heap[nb + 1]? = some (.cells #[.int .i64 0, .int .i64 3, .int .i64 3] tRej (0, 0)) by rw [hw6]; exact set3 HY5.out _ _ _)
            have HX6 := Lib.hid (show w6.heap[nb]? = some (.cells #[.int .i64 x0, .int .i64 x1, .int .i64 x2, .int .i64 0, .int .i64 0] tRow (0, 0)) by rw [hw6]; exact set_other (set_other (set_other HX5.out (by omega) _) (by omega) _) (by omega) _)
            have HB6 := Lib.hid (show Below nb w w6 by rw [hw6]; exact below_set3 HB5.out (by omega) _ _ _)
            clear hw6 HX5 HY5 HB5 n0 n1 n2 g0 g1 g2
            obtain ⟨n0, n1, n2, g0, g1, g2⟩ := cell3 HY6.out
            go_wp2_with fail
            go_quiet (fail)
            go_wp2_with fail
            clear n0 n1 n2 g0 g1 g2
            obtain ⟨w9, hw9⟩ : ∃ w, w = w6.drewN nq := ⟨_, rfl⟩
            rw [← hw9]
            have hb9 : Below w6.heap.size w6 w9 := by rw [hw9]; exact below_dq (Below.refl _ w6) nq
            have HX9 := Lib.hid (heap_keep HX6.out hb9); have HY9 := Lib.hid (heap_keep HY6.out hb9); have HB9 := Lib.hid (bch HB6.out hb9 (by have := HB6.out.size; have := HNB.out; omega))
            clear hw9 hb9 HX6 HY6 HB6
            obtain ⟨m0, m1, m2, m3, m4⟩ := cell5 HX9.out
            obtain ⟨n0, n1, n2, g0, g1, g2⟩ := cell3 HY9.out
            obtain ⟨f0, f1, f2, f3, f4⟩ := froz5a HX9.out
            go_region
            go_wp2_with fail
            rw [Exit.noGoto_ret]
            obtain ⟨w7, hw7⟩ : ∃ w7, w7 = (((((w9.setCell ⟨nb, 0, none⟩ (.int .i64 x0)).setCell ⟨nb, 1, none⟩ (.int .i64 x1)).setCell ⟨nb, 2, none⟩ (.int .i64 x2)).setCell ⟨nb, 3, none⟩ (.int .i64 0)).setCell ⟨nb, 4, none⟩ (.int .i64 0)) := ⟨_, rfl⟩
            have hx7 := set5a HX9.out (.int .i64 x0) (.int .i64 x1) (.int .i64 x2) (.int .i64 0) (.int .i64 0)
            rw [← hw7] at hx7
            have hy7 : w7.heap[nb + 1]? = some (.cells #[.int .i64 0, .int .i64 3, .int .i64 3] tRej (0, 0)) := by rw [hw7]; exact set_other (set_other (set_other (set_other (set_other HY9.out (by omega) _) (by omega) _) (by omega) _) (by omega) _) (by omega) _
            have hb7 : Below nb w w7 := by rw [hw7]; exact below_set5 HB9.out (Nat.le_refl _) _ _ _ _ _
            rw [← hw7]
            clear hw7 m0 m1 m2 m3 m4 n0 n1 n2
            obtain ⟨w8, hw8⟩ : ∃ w8, w8 = ((w7.setCell ⟨nb + 1, 0, none⟩ (.int .i64 0)).setCell ⟨nb + 1, 1, none⟩ (.int .i64 3)).setCell ⟨nb + 1, 2, none⟩ (.int .i64 3) := ⟨_, rfl⟩
            have hy8 := set3 hy7 (.int .i64 0) (.int .i64 3) (.int .i64 3)
            rw [← hw8] at hy8
            have hx8 : w8.heap[nb]? = some (.cells #[.int .i64 x0, .int .i64 x1, .int .i64 x2, .int .i64 0, .int .i64 0] tRow (0, 0)) := by rw [hw8]; exact set_other (set_other (set_other hx7 (by omega) _) (by omega) _) (by omega) _
            have hb8 : Below nb w w8 := by rw [hw8]; exact below_set3 hb7 (by omega) _ _ _
            rw [← hw8]
            clear hw8
            obtain ⟨m0, m1, m2, m3, m4⟩ := cell5 hx8
            obtain ⟨n0, n1, n2, _⟩ := cell3 hy8
            refine bodyPost_ret (v := .tuple #[.agg #[.int .i64 x0, .int .i64 x1, .int .i64 x2, .int .i64 0, .int .i64 0], .agg #[.int .i64 0, .int .i64 3, .int .i64 3]]) (by simp [results, Tryz.results38, go_sem, m0, m1, m2, m3, m4, n0, n1, n2]) rfl ⟨?_, below_drew1 (HNB.out ▸ hb8)⟩
            exact oneR_bad HBAD.out ((x0, x1), x2, 0, 0) rfl
        · have HXk := Lib.hid (show wr.heap[nb]? = some (.cells #[.int .i64 x0, .int .i64 x1, .int .i64 x2, .int .i64 0, .int .i64 0] tRow (0, 0)) from HXr.out)
          clear HXr
          have c0 := HW.out wr 3 d (by rw [HNB.out]; exact HBr.out) rfl
          go_wp2_with fail
          refine (HN3.out _ (HS.out.below (by rw [HNB.out]; exact HBr.out)).kw.mw).mono ?_
          rintro e w3 ⟨rfl, hb3⟩
          have HX3 := Lib.hid (heap_keep HXk.out hb3); have HY3 := Lib.hid (heap_keep HYr.out hb3); have HB3 := Lib.hid (bch HBr.out hb3 (by have := HBr.out.size; have := HNB.out; omega))
          clear hb3 c0
          obtain ⟨f0, f1, f2, f3, f4⟩ := froz5a HX3.out
          obtain ⟨m0, m1, m2, m3, m4⟩ := cell5 HX3.out
          go_upto_region 20 with (fail)
          obtain ⟨w4, hw4⟩ : ∃ w4, w4 = w3.setCell ⟨nb, 4, none⟩ (.int .i64 x3) := ⟨_, rfl⟩
          rw [← hw4]
          have HX4 := Lib.hid (show w4.heap[nb]? = some (.cells #[.int .i64 x0, .int .i64 x1, .int .i64 x2, .int .i64 0, .int .i64 x3] tRow (0, 0)) by rw [hw4]; have h := HX3.out; simp [World.setCell, Array.getElem?_modify, h])
          have HY4 := Lib.hid (show w4.heap[nb + 1]? = some (.cells #[.int .i64 0, .int .i64 0, .int .i64 0] tRej (0, 0)) by rw [hw4]; exact set_other HY3.out (by omega) _)
          have HB4 := Lib.hid (show Below nb w w4 by rw [hw4]; exact HB3.out.setCell (p := ⟨nb, 4, none⟩) (Nat.le_refl _) _)
          clear hw4 HX3 HY3 HB3 f0 f1 f2 f3 f4 m0 m1 m2 m3 m4
          obtain ⟨m0, m1, m2, m3, m4⟩ := cell5 HX4.out
          cases z3 with
          | false =>
            have hpf : pd = false := by rw [← HPD.out]; rfl
            subst hpf
            go_upto_region 21 with (fail)
            clear m0 m1 m2 m3 m4
            go_wp2_with fail
            refine (HREJ.out _ _ _).mono ?_
            rintro e w5 ⟨rfl, hb5⟩
            have HX5 := Lib.hid (heap_keep HX4.out hb5); have HY5 := Lib.hid (heap_keep HY4.out hb5); have HB5 := Lib.hid (bch HB4.out hb5 (by have := HB4.out.size; have := HNB.out; omega))
            clear hb5 HX4 HY4 HB4
            have HBAD := Lib.hid (show Sk.one [a, b, cc, d] l = .inr (4, 3) by have e1 := HOK.out.1 (by omega); have e2 := HOK.out.2.1 (by omega); have e3 := HOK.out.2.2.1 (by omega); rw [HF.out]; simp [e1, e2, e3])
            obtain ⟨n0, n1, n2, g0, g1, g2⟩ := cell3 HY5.out
            go_upto_region 24 with (fail)
            obtain ⟨w6, hw6⟩ : ∃ w6, w6 = ((w5.setCell ⟨nb + 1, 0, none⟩ (.int .i64 0)).setCell ⟨nb + 1, 1, none⟩ (.int .i64 4)).setCell ⟨nb + 1, 2, none⟩ (.int .i64 3) := ⟨_, rfl⟩
            rw [← hw6]
            have HY6 := Lib.hid (show w6.heap[nb + 1]? = some (.cells #[.int .i64 0, .int .i64 4, .int .i64 3] tRej (0, 0)) by rw [hw6]; exact set3 HY5.out _ _ _)
            have HX6 := Lib.hid (show w6.heap[nb]? = some (.cells #[.int .i64 x0, .int .i64 x1, .int .i64 x2, .int .i64 0, .int .i64 x3] tRow (0, 0)) by rw [hw6]; exact set_other (set_other (set_other HX5.out (by omega) _) (by omega) _) (by omega) _)
            have HB6 := Lib.hid (show Below nb w w6 by rw [hw6]; exact below_set3 HB5.out (by omega) _ _ _)
            clear hw6 HX5 HY5 HB5 n0 n1 n2 g0 g1 g2
            obtain ⟨n0, n1, n2, g0, g1, g2⟩ := cell3 HY6.out
            go_wp2_with fail
            go_quiet (fail)
            go_wp2_with fail
            clear n0 n1 n2 g0 g1 g2
            obtain ⟨w9, hw9⟩ : ∃ w, w = w6.drewN nq := ⟨_, rfl⟩
            rw [← hw9]
            have hb9 : Below w6.heap.size w6 w9 := by rw [hw9]; exact below_dq (Below.refl _ w6) nq
            have HX9 := Lib.hid (heap_keep HX6.out hb9); have HY9 := Lib.hid (heap_keep HY6.out hb9); have HB9 := Lib.hid (bch HB6.out hb9 (by have := HB6.out.size; have := HNB.out; omega))
            clear hw9 hb9 HX6 HY6 HB6
            obtain ⟨m0, m1, m2, m3, m4⟩ := cell5 HX9.out
            obtain ⟨n0, n1, n2, g0, g1, g2⟩ := cell3 HY9.out
            obtain ⟨f0, f1, f2, f3, f4⟩ := froz5a HX9.out
            go_region
            go_wp2_with fail
            rw [Exit.noGoto_ret]
            obtain ⟨w7, hw7⟩ : ∃ w7, w7 = (((((w9.setCell ⟨nb, 0, none⟩ (.int .i64 x0)).setCell ⟨nb, 1, none⟩ (.int .i64 x1)).setCell ⟨nb, 2, none⟩ (.int .i64 x2)).setCell ⟨nb, 3, none⟩ (.int .i64 0)).setCell ⟨nb, 4, none⟩ (.int .i64 x3)) := ⟨_, rfl⟩
            have hx7 := set5a HX9.out (.int .i64 x0) (.int .i64 x1) (.int .i64 x2) (.int .i64 0) (.int .i64 x3)
            rw [← hw7] at hx7
            have hy7 : w7.heap[nb + 1]? = some (.cells #[.int .i64 0, .int .i64 4, .int .i64 3] tRej (0, 0)) := by rw [hw7]; exact set_other (set_other (set_other (set_other (set_other HY9.out (by omega) _) (by omega) _) (by omega) _) (by omega) _) (by omega) _
            have hb7 : Below nb w w7 := by rw [hw7]; exact below_set5 HB9.out (Nat.le_refl _) _ _ _ _ _
            rw [← hw7]
            clear hw7 m0 m1 m2 m3 m4 n0 n1 n2
            obtain ⟨w8, hw8⟩ : ∃ w8, w8 = ((w7.setCell ⟨nb + 1, 0, none⟩ (.int .i64 0)).setCell ⟨nb + 1, 1, none⟩ (.int .i64 4)).setCell ⟨nb + 1, 2, none⟩ (.int .i64 3) := ⟨_, rfl⟩
            have hy8 := set3 hy7 (.int .i64 0) (.int .i64 4) (.int .i64 3)
            rw [← hw8] at hy8
            have hx8 : w8.heap[nb]? = some (.cells #[.int .i64 x0, .int .i64 x1, .int .i64 x2, .int .i64 0, .int .i64 x3] tRow (0, 0)) := by rw [hw8]; exact set_other (set_other (set_other hx7 (by omega) _) (by omega) _) (by omega) _
            have hb8 : Below nb w w8 := by rw [hw8]; exact below_set3 hb7 (by omega) _ _ _
            rw [← hw8]
            clear hw8
            obtain ⟨m0, m1, m2, m3, m4⟩ := cell5 hx8
            obtain ⟨n0, n1, n2, _⟩ := cell3 hy8
            refine bodyPost_ret (v := .tuple #[.agg #[.int .i64 x0, .int .i64 x1, .int .i64 x2, .int .i64 0, .int .i64 x3], .agg #[.int .i64 0, .int .i64 4, .int .i64 3]]) (by simp [results, Tryz.results38, go_sem, m0, m1, m2, m3, m4, n0, n1, n2]) rfl ⟨?_, below_drew1 (HNB.out ▸ hb8)⟩
            exact oneR_bad HBAD.out ((x0, x1), x2, 0, x3) rfl
          | true =>
            by_cases hp2 : x2 = 1
            · have hpq := beqT hp2
              have hpf : pd = true := by rw [← HPD.out, hp2]; rfl
              subst hpf
              clear hp2
              go_upto_region 21 with (fail)
              clear m0 m1 m2 m3 m4 hpq
              have HOK2 := Lib.hid (show OneOk 4 z0 pb y2 true from ⟨fun _ => HOK.out.1 (by omega), fun _ => HOK.out.2.1 (by omega), fun _ => HOK.out.2.2.1 (by omega), fun _ => rfl⟩)
              go_wp2_with fail
              go_roundw
              case rel => exact ⟨4, by rfl, by omega, HX4.out, HY4.out, HB4.out, HOK2.out⟩
              case measure => simp [intOf]
            · have hpq := beqF hp2
              by_cases hp3 : x3 = 0
              · have hpr := beqT hp3
                have hpf : pd = true := by rw [← HPD.out, hp3]; simp
                subst hpf
                clear hp2 hp3
                go_upto_region 21 with (fail)
                clear m0 m1 m2 m3 m4 hpq hpr
                have HOK2 := Lib.hid (show OneOk 4 z0 pb y2 true from ⟨fun _ => HOK.out.1 (by omega), fun _ => HOK.out.2.1 (by omega), fun _ => HOK.out.2.2.1 (by omega), fun _ => rfl⟩)
                go_wp2_with fail
                go_roundw
                case rel => exact ⟨4, by rfl, by omega, HX4.out, HY4.out, HB4.out, HOK2.out⟩
                case measure => simp [intOf]
              · have hpr := beqF hp3
                have hpf : pd = false := by rw [← HPD.out]; simp [hp2, hp3]
                subst hpf
                clear hp2 hp3
                go_upto_region 21 with (fail)
                clear m0 m1 m2 m3 m4 hpq hpr
                go_wp2_with fail
                refine (HREJ.out _ _ _).mono ?_
                rintro e w5 ⟨rfl, hb5⟩
                have HX5 := Lib.hid (heap_keep HX4.out hb5); have HY5 := Lib.hid (heap_keep HY4.out hb5); have HB5 := Lib.hid (bch HB4.out hb5 (by have := HB4.out.size; have := HNB.out; omega))
                clear hb5 HX4 HY4 HB4
                have HBAD := Lib.hid (show Sk.one [a, b, cc, d] l = .inr (4, 3) by have e1 := HOK.out.1 (by omega); have e2 := HOK.out.2.1 (by omega); have e3 := HOK.out.2.2.1 (by omega); rw [HF.out]; simp [e1, e2, e3])
                obtain ⟨n0, n1, n2, g0, g1, g2⟩ := cell3 HY5.out
                go_upto_region 24 with (fail)
                obtain ⟨w6, hw6⟩ : ∃ w6, w6 = ((w5.setCell ⟨nb + 1, 0, none⟩ (.int .i64 0)).setCell ⟨nb + 1, 1, none⟩ (.int .i64 4)).setCell ⟨nb + 1, 2, none⟩ (.int .i64 3) := ⟨_, rfl⟩
                rw [← hw6]
                have HY6 := Lib.hid (show w6.heap[nb + 1]? = some (.cells #[.int .i64 0, .int .i64 4, .int .i64 3] tRej (0, 0)) by rw [hw6]; exact set3 HY5.out _ _ _)
                have HX6 := Lib.hid (show w6.heap[nb]? = some (.cells #[.int .i64 x0, .int .i64 x1, .int .i64 x2, .int .i64 0, .int .i64 x3] tRow (0, 0)) by rw [hw6]; exact set_other (set_other (set_other HX5.out (by omega) _) (by omega) _) (by omega) _)
                have HB6 := Lib.hid (show Below nb w w6 by rw [hw6]; exact below_set3 HB5.out (by omega) _ _ _)
                clear hw6 HX5 HY5 HB5 n0 n1 n2 g0 g1 g2
                obtain ⟨n0, n1, n2, g0, g1, g2⟩ := cell3 HY6.out
                go_wp2_with fail
                go_quiet (fail)
                go_wp2_with fail
                clear n0 n1 n2 g0 g1 g2
                obtain ⟨w9, hw9⟩ : ∃ w, w = w6.drewN nq := ⟨_, rfl⟩
                rw [← hw9]
                have hb9 : Below w6.heap.size w6 w9 := by rw [hw9]; exact below_dq (Below.refl _ w6) nq
                have HX9 := Lib.hid (heap_keep HX6.out hb9); have HY9 := Lib.hid (heap_keep HY6.out hb9); have HB9 := Lib.hid (bch HB6.out hb9 (by have := HB6.out.size; have := HNB.out; omega))
                clear hw9 hb9 HX6 HY6 HB6
                obtain ⟨m0, m1, m2, m3, m4⟩ := cell5 HX9.out
                obtain ⟨n0, n1, n2, g0, g1, g2⟩ := cell3 HY9.out
                obtain ⟨f0, f1, f2, f3, f4⟩ := froz5a HX9.out
                go_region
                go_wp2_with fail
                rw [Exit.noGoto_ret]
                obtain ⟨w7, hw7⟩ : ∃ w7, w7 = (((((w9.setCell ⟨nb, 0, none⟩ (.int .i64 x0)).setCell ⟨nb, 1, none⟩ (.int .i64 x1)).setCell ⟨nb, 2, none⟩ (.int .i64 x2)).setCell ⟨nb, 3, none⟩ (.int .i64 0)).setCell ⟨nb, 4, none⟩ (.int .i64 x3)) := ⟨_, rfl⟩
                have hx7 := set5a HX9.out (.int .i64 x0) (.int .i64 x1) (.int .i64 x2) (.int .i64 0) (.int .i64 x3)
                rw [← hw7] at hx7
                have hy7 : w7.heap[nb + 1]? = some (.cells #[.int .i64 0, .int .i64 4, .int .i64 3] tRej (0, 0)) := by rw [hw7]; exact set_other (set_other (set_other (set_other (set_other HY9.out (by omega) _) (by omega) _) (by omega) _) (by omega) _) (by omega) _
                have hb7 : Below nb w w7 := by rw [hw7]; exact below_set5 HB9.out (Nat.le_refl _) _ _ _ _ _
                rw [← hw7]
                clear hw7 m0 m1 m2 m3 m4 n0 n1 n2
                obtain ⟨w8, hw8⟩ : ∃ w8, w8 = ((w7.setCell ⟨nb + 1, 0, none⟩ (.int .i64 0)).setCell ⟨nb + 1, 1, none⟩ (.int .i64 4)).setCell ⟨nb + 1, 2, none⟩ (.int .i64 3) := ⟨_, rfl⟩
                have hy8 := set3 hy7 (.int .i64 0) (.int .i64 4) (.int .i64 3)
                rw [← hw8] at hy8
                have hx8 : w8.heap[nb]? = some (.cells #[.int .i64 x0, .int .i64 x1, .int .i64 x2, .int .i64 0, .int .i64 x3] tRow (0, 0)) := by rw [hw8]; exact set_other (set_other (set_other hx7 (by omega) _) (by omega) _) (by omega) _
                have hb8 : Below nb w w8 := by rw [hw8]; exact below_set3 hb7 (by omega) _ _ _
                rw [← hw8]
                clear hw8
                obtain ⟨m0, m1, m2, m3, m4⟩ := cell5 hx8
                obtain ⟨n0, n1, n2, _⟩ := cell3 hy8
                refine bodyPost_ret (v := .tuple #[.agg #[.int .i64 x0, .int .i64 x1, .int .i64 x2, .int .i64 0, .int .i64 x3], .agg #[.int .i64 0, .int .i64 4, .int .i64 3]]) (by simp [results, Tryz.results38, go_sem, m0, m1, m2, m3, m4, n0, n1, n2]) rfl ⟨?_, below_drew1 (HNB.out ▸ hb8)⟩
                exact oneR_bad HBAD.out ((x0, x1), x2, 0, x3) rfl
        · have e1 := HOK.out.1 (by omega)
          have e2 := HOK.out.2.1 (by omega)
          have e3 := HOK.out.2.2.1 (by omega)
          have e4 := HOK.out.2.2.2 (by omega)
          have HF4 := Lib.hid (show Sk.one [a, b, cc, d] l = match l.getLast? with | none => .inl ((x0, x1), x2, 0, x3) | some y => if lessB y.1.1 y.1.2 x0 x1 = true then .inl ((x0, x1), x2, 0, x3) else .inr (1, 6) by rw [HF.out]; simp [e1, e2, e3, e4]; try rfl)
          clear e1 e2 e3 e4
          have HX6 := Lib.hid (show wr.heap[nb]? = some (.cells #[.int .i64 x0, .int .i64 x1, .int .i64 x2, .int .i64 0, .int .i64 x3] tRow (0, 0)) from HXr.out)
          have HY6 := Lib.hid HYr.out; have HB6 := Lib.hid HBr.out
          clear HXr HYr HBr
          by_cases hn0 : n = 0
          · subst hn0
            have hl0 : l = [] := List.eq_nil_of_length_eq_zero HLN.out
            have HGOOD := Lib.hid (show Sk.one [a, b, cc, d] l = .inl ((x0, x1), x2, 0, x3) by rw [HF4.out, hl0]; rfl)
            clear hl0
            obtain ⟨n0, n1, n2, g0, g1, g2⟩ := cell3 HY6.out
            go_wp2_with fail
            go_quiet (fail)
            go_wp2_with fail
            clear n0 n1 n2 g0 g1 g2
            obtain ⟨w9, hw9⟩ : ∃ w, w = wr.drewN nq := ⟨_, rfl⟩
            rw [← hw9]
            have hb9 : Below wr.heap.size wr w9 := by rw [hw9]; exact below_dq (Below.refl _ wr) nq
            have HX9 := Lib.hid (heap_keep HX6.out hb9); have HY9 := Lib.hid (heap_keep HY6.out hb9); have HB9 := Lib.hid (bch HB6.out hb9 (by have := HB6.out.size; have := HNB.out; omega))
            clear hw9 hb9 HX6 HY6 HB6
            obtain ⟨m0, m1, m2, m3, m4⟩ := cell5 HX9.out
            obtain ⟨n0, n1, n2, g0, g1, g2⟩ := cell3 HY9.out
            obtain ⟨f0, f1, f2, f3, f4⟩ := froz5a HX9.out
            go_region
            go_wp2_with fail
            rw [Exit.noGoto_ret]
            obtain ⟨w7, hw7⟩ : ∃ w7, w7 = (((((w9.setCell ⟨nb, 0, none⟩ (.int .i64 x0)).setCell ⟨nb, 1, none⟩ (.int .i64 x1)).setCell ⟨nb, 2, none⟩ (.int .i64 x2)).setCell ⟨nb, 3, none⟩ (.int .i64 0)).setCell ⟨nb, 4, none⟩ (.int .i64 x3)) := ⟨_, rfl⟩
            have hx7 := set5a HX9.out (.int .i64 x0) (.int .i64 x1) (.int .i64 x2) (.int .i64 0) (.int .i64 x3)
            rw [← hw7] at hx7
            have hy7 : w7.heap[nb + 1]? = some (.cells #[.int .i64 0, .int .i64 0, .int .i64 0] tRej (0, 0)) := by rw [hw7]; exact set_other (set_other (set_other (set_other (set_other HY9.out (by omega) _) (by omega) _) (by omega) _) (by omega) _) (by omega) _
            have hb7 : Below nb w w7 := by rw [hw7]; exact below_set5 HB9.out (Nat.le_refl _) _ _ _ _ _
            rw [← hw7]
            clear hw7 m0 m1 m2 m3 m4 n0 n1 n2
            obtain ⟨w8, hw8⟩ : ∃ w8, w8 = ((w7.setCell ⟨nb + 1, 0, none⟩ (.int .i64 0)).setCell ⟨nb + 1, 1, none⟩ (.int .i64 0)).setCell ⟨nb + 1, 2, none⟩ (.int .i64 0) := ⟨_, rfl⟩
            have hy8 := set3 hy7 (.int .i64 0) (.int .i64 0) (.int .i64 0)
            rw [← hw8] at hy8
            have hx8 : w8.heap[nb]? = some (.cells #[.int .i64 x0, .int .i64 x1, .int .i64 x2, .int .i64 0, .int .i64 x3] tRow (0, 0)) := by rw [hw8]; exact set_other (set_other (set_other hx7 (by omega) _) (by omega) _) (by omega) _
            have hb8 : Below nb w w8 := by rw [hw8]; exact below_set3 hb7 (by omega) _ _ _
            rw [← hw8]
            clear hw8
            obtain ⟨m0, m1, m2, m3, m4⟩ := cell5 hx8
            obtain ⟨n0, n1, n2, _⟩ := cell3 hy8
            refine bodyPost_ret (v := .tuple #[.agg #[.int .i64 x0, .int .i64 x1, .int .i64 x2, .int .i64 0, .int .i64 x3], .agg #[.int .i64 0, .int .i64 0, .int .i64 0]]) (by simp [results, Tryz.results38, go_sem, m0, m1, m2, m3, m4, n0, n1, n2]) rfl ⟨?_, below_drew1 (HNB.out ▸ hb8)⟩
            exact oneR_ok HGOOD.out rfl
          · have hn1 : 0 < n := by omega
            obtain ⟨y, hy⟩ : ∃ y, l[n - 1]? = some y := ⟨_, List.getElem?_eq_getElem (by have := HLN.out; omega)⟩
            have hlast : l.getLast? = some y := by rw [List.getLast?_eq_getElem?, HLN.out]; exact hy
            have HF5 := Lib.hid (show Sk.one [a, b, cc, d] l = if lessB y.1.1 y.1.2 x0 x1 = true then .inl ((x0, x1), x2, 0, x3) else .inr (1, 6) by rw [HF4.out, hlast])
            obtain ⟨g, off, n', c', e, d0, d1, _, _, _⟩ := HU.out.cells (by rw [HNB.out]; exact HB6.out) hy
            injection e with e1 e2 e3
            subst e1
            clear hlast e2 e3 hy HF4
            obtain ⟨n0, n1, n2, g0, g1, g2⟩ := cell3 HY6.out
            obtain ⟨m0, m1, m2, m3, m4⟩ := cell5 HX6.out
            have hnI : (0 : Int) < n := by omega
            have hnz := decide_eq_true hnI
            have hw1 : IntKind.i64.wrap ((n : Int) - 1) = (n : Int) - 1 := IntWalk.i64_in _ (by omega)
            have hi0 : (0 : Int) ≤ (n : Int) - 1 := by omega
            have hi3 : (1 : Int) ≤ n := by omega
            have hi1 : (n : Int) - 1 < n := by omega
            have hi2 : ((n : Int) - 1).toNat = n - 1 := by omega
            go_upto_region 25 with (fail)
            have HH := Lib.hid (fun W (hb : Below wr.heap.size wr W) => (⟨Lib.hid hb, (hb.cell (World.block_lt_of_cell? wr _ n1)).trans n1, (hb.cell (World.block_lt_of_cell? wr _ d0)).trans d0, (hb.cell (World.block_lt_of_cell? wr _ d1)).trans d1, (hb.cell (World.block_lt_of_cell? wr _ m0)).trans m0, (hb.cell (World.block_lt_of_cell? wr _ m1)).trans m1⟩ : (fun w' => Hid (Below wr.heap.size wr w') ∧ w'.cell? ⟨nb + 1, 1, none⟩ = some (.int .i64 0) ∧ w'.cell? ⟨g, off + (n - 1) * 5, none⟩ = some (.int .i64 y.1.1) ∧ w'.cell? ⟨g, off + (n - 1) * 5 + 1, none⟩ = some (.int .i64 y.1.2) ∧ w'.cell? ⟨nb, 0, none⟩ = some (.int .i64 x0) ∧ w'.cell? ⟨nb, 1, none⟩ = some (.int .i64 x1)) W))
            refine wp_region_noPanic ?_
            refine wp_region_held_drew (S := (fun w' => Hid (Below wr.heap.size wr w') ∧ w'.cell? ⟨nb + 1, 1, none⟩ = some (.int .i64 0) ∧ w'.cell? ⟨g, off + (n - 1) * 5, none⟩ = some (.int .i64 y.1.1) ∧ w'.cell? ⟨g, off + (n - 1) * 5 + 1, none⟩ = some (.int .i64 y.1.2) ∧ w'.cell? ⟨nb, 0, none⟩ = some (.int .i64 x0) ∧ w'.cell? ⟨nb, 1, none⟩ = some (.int .i64 x1))) (by kernel_rfl) (HH.out _ (below_drew1 (Below.refl wr.heap.size wr))) (fun hHeld => ?_)
            refine wpAnyH_take (i := 0) (v := ?vc0_1) rfl (by kernel_rfl) (by kernel_rfl) (by kernel_rfl) (fun _ _ _ h => h) (Or.inl ⟨by rfl, ?hyc0_1⟩) (by assumption) ?restc0_1
            case hyc0_1 => (intro w0 hSw; (try dsimp only at hSw); go_simp; try with_reducible rfl)
            case' restc0_1 => try simp only [Act.put, List.getElem_toArray, List.getElem_cons_zero, List.getElem_cons_succ, List.setIfInBounds_toArray, List.set_cons_zero, List.set_cons_succ]
            refine wpAnyH_take (i := 1) (v := ?vc1_2) rfl (by kernel_rfl) (by kernel_rfl) (by kernel_rfl) (fun _ _ _ h => h) (Or.inl ⟨by rfl, ?hyc1_2⟩) (by assumption) ?restc1_2
            case hyc1_2 => (intro w0 hSw; (try dsimp only at hSw); go_simp; try with_reducible rfl)
            case' restc1_2 => try simp only [Act.put, List.getElem_toArray, List.getElem_cons_zero, List.getElem_cons_succ, List.setIfInBounds_toArray, List.set_cons_zero, List.set_cons_succ]
            refine wpAnyH_take (i := 2) (v := ?vc2_3) rfl (by kernel_rfl) (by kernel_rfl) (by kernel_rfl) (fun _ _ _ h => h) (Or.inl ⟨by rfl, ?hyc2_3⟩) (by assumption) ?restc2_3
            case hyc2_3 => (intro w0 hSw; (try dsimp only at hSw); go_simp; try with_reducible rfl)
            case' restc2_3 => try simp only [Act.put, List.getElem_toArray, List.getElem_cons_zero, List.getElem_cons_succ, List.setIfInBounds_toArray, List.set_cons_zero, List.set_cons_succ]
            refine wpAnyH_take (i := 3) (v := ?vc3_4) rfl (by kernel_rfl) (by kernel_rfl) (by kernel_rfl) (fun _ _ _ h => h) (Or.inl ⟨by rfl, ?hyc3_4⟩) (by assumption) ?restc3_4
            case hyc3_4 => (intro w0 hSw; (try dsimp only at hSw); go_simp; try with_reducible rfl)
            case' restc3_4 => try simp only [Act.put, List.getElem_toArray, List.getElem_cons_zero, List.getElem_cons_succ, List.setIfInBounds_toArray, List.set_cons_zero, List.set_cons_succ]
            refine wpAnyH_take (i := 4) (v := ?vc4_5) rfl (by kernel_rfl) (by kernel_rfl) (by kernel_rfl) (fun _ _ _ h => h) (Or.inl ⟨by rfl, ?hyc4_5⟩) (by assumption) ?restc4_5
            case hyc4_5 => (intro w0 hSw; (try dsimp only at hSw); go_simp; try with_reducible rfl)
            case' restc4_5 => try simp only [Act.put, List.getElem_toArray, List.getElem_cons_zero, List.getElem_cons_succ, List.setIfInBounds_toArray, List.set_cons_zero, List.set_cons_succ]
            refine wpAnyH_take (i := 5) (v := ?vc5_6) rfl (by kernel_rfl) (by kernel_rfl) (by kernel_rfl) (fun _ _ _ h => h) (Or.inl ⟨by rfl, ?hyc5_6⟩) (by assumption) ?restc5_6
            case hyc5_6 => (intro w0 hSw; (try dsimp only at hSw); go_simp; try with_reducible rfl)
            case' restc5_6 => try simp only [Act.put, List.getElem_toArray, List.getElem_cons_zero, List.getElem_cons_succ, List.setIfInBounds_toArray, List.set_cons_zero, List.set_cons_succ]
            refine wpAnyH_take (i := 6) (v := ?vc6_7) rfl (by kernel_rfl) (by kernel_rfl) (by kernel_rfl) (fun _ _ _ h => h) (Or.inl ⟨by rfl, ?hyc6_7⟩) (by assumption) ?restc6_7
            case hyc6_7 => (intro w0 hSw; (try dsimp only at hSw); go_simp; try with_reducible rfl)
            case' restc6_7 => try simp only [Act.put, List.getElem_toArray, List.getElem_cons_zero, List.getElem_cons_succ, List.setIfInBounds_toArray, List.set_cons_zero, List.set_cons_succ]
            refine wpAnyH_take (i := 7) (v := ?vc7_8) rfl (by kernel_rfl) (by kernel_rfl) (by kernel_rfl) (fun _ _ _ h => h) (Or.inl ⟨by rfl, ?hyc7_8⟩) (by assumption) ?restc7_8
            case hyc7_8 => (intro w0 hSw; (try dsimp only at hSw); go_simp; try with_reducible rfl)
            case' restc7_8 => try simp only [Act.put, List.getElem_toArray, List.getElem_cons_zero, List.getElem_cons_succ, List.setIfInBounds_toArray, List.set_cons_zero, List.set_cons_succ]
            refine wpAnyH_take (i := 8) (v := ?vc8_9) rfl (by kernel_rfl) (by kernel_rfl) (by kernel_rfl) (fun _ _ _ h => h) (Or.inl ⟨by rfl, ?hyc8_9⟩) (by assumption) ?restc8_9
            case hyc8_9 => (intro w0 hSw; (try dsimp only at hSw); go_simp; try with_reducible rfl)
            case' restc8_9 => try simp only [Act.put, List.getElem_toArray, List.getElem_cons_zero, List.getElem_cons_succ, List.setIfInBounds_toArray, List.set_cons_zero, List.set_cons_succ]
            refine wpAnyH_take (i := 9) (v := ?vc9_10) rfl (by kernel_rfl) (by kernel_rfl) (by kernel_rfl) (fun _ _ _ h => h) (Or.inl ⟨by rfl, ?hyc9_10⟩) (by assumption) ?restc9_10
            case hyc9_10 => (intro w0 hSw; (try dsimp only at hSw); go_simp; try with_reducible rfl)
            case' restc9_10 => try simp only [Act.put, List.getElem_toArray, List.getElem_cons_zero, List.getElem_cons_succ, List.setIfInBounds_toArray, List.set_cons_zero, List.set_cons_succ]
            refine wpAnyH_take (i := 10) (v := ?vc10_11) rfl (by kernel_rfl) (by kernel_rfl) (by kernel_rfl) (fun _ _ _ h => h) (Or.inl ⟨by rfl, ?hyc10_11⟩) (by assumption) ?restc10_11
            case hyc10_11 => (intro w0 hSw; (try dsimp only at hSw); go_simp; try with_reducible rfl)
            case' restc10_11 => try simp only [Act.put, List.getElem_toArray, List.getElem_cons_zero, List.getElem_cons_succ, List.setIfInBounds_toArray, List.set_cons_zero, List.set_cons_succ]
            refine wpAnyH_take (i := 11) (v := ?vc11_12) rfl (by kernel_rfl) (by kernel_rfl) (by kernel_rfl) (fun _ _ _ h => h) (Or.inl ⟨by rfl, ?hyc11_12⟩) (by assumption) ?restc11_12
            case hyc11_12 => (intro w0 hSw; (try dsimp only at hSw); go_simp; try with_reducible rfl)
            case' restc11_12 => try simp only [Act.put, List.getElem_toArray, List.getElem_cons_zero, List.getElem_cons_succ, List.setIfInBounds_toArray, List.set_cons_zero, List.set_cons_succ]
            refine wpAnyH_take (i := 12) (v := ?vc12_13) rfl (by kernel_rfl) (by kernel_rfl) (by kernel_rfl) (fun _ _ _ h => h) (Or.inl ⟨by rfl, ?hyc12_13⟩) (by assumption) ?restc12_13
            case hyc12_13 => (intro w0 hSw; (try dsimp only at hSw); go_simp; try with_reducible rfl)
            case' restc12_13 => try simp only [Act.put, List.getElem_toArray, List.getElem_cons_zero, List.getElem_cons_succ, List.setIfInBounds_toArray, List.set_cons_zero, List.set_cons_succ]
            refine wpAnyH_take (i := 13) (v := ?vc13_14) rfl (by kernel_rfl) (by kernel_rfl) (by kernel_rfl) (fun _ _ _ h => h) (Or.inl ⟨by rfl, ?hyc13_14⟩) (by assumption) ?restc13_14
            case hyc13_14 => (intro w0 hSw; (try dsimp only at hSw); go_simp; try with_reducible rfl)
            case' restc13_14 => try simp only [Act.put, List.getElem_toArray, List.getElem_cons_zero, List.getElem_cons_succ, List.setIfInBounds_toArray, List.set_cons_zero, List.set_cons_succ]
            refine wpAnyH_take (i := 14) (v := ?vc14_15) rfl (by kernel_rfl) (by kernel_rfl) (by kernel_rfl) (fun _ _ _ h => h) (Or.inl ⟨by rfl, ?hyc14_15⟩) (by assumption) ?restc14_15
            case hyc14_15 => (intro w0 hSw; (try dsimp only at hSw); go_simp; try with_reducible rfl)
            case' restc14_15 => try simp only [Act.put, List.getElem_toArray, List.getElem_cons_zero, List.getElem_cons_succ, List.setIfInBounds_toArray, List.set_cons_zero, List.set_cons_succ]
            refine wpAnyH_take (i := 15) (v := ?vc15_16) rfl (by kernel_rfl) (by kernel_rfl) (by kernel_rfl) (fun _ _ _ h => h) (Or.inl ⟨by rfl, ?hyc15_16⟩) (by assumption) ?restc15_16
            case hyc15_16 => (intro w0 hSw; (try dsimp only at hSw); go_simp; try with_reducible rfl)
            case' restc15_16 => try simp only [Act.put, List.getElem_toArray, List.getElem_cons_zero, List.getElem_cons_succ, List.setIfInBounds_toArray, List.set_cons_zero, List.set_cons_succ]
            refine wpAnyH_ready (rs := [16]) (by kernel_rfl) (by simp) ?_
            refine AllReadyH.cons rfl (fun K hK => ?_) AllReadyH.nil
            go_simp
            refine (less_any y.1.1 y.1.2 x0 x1 _).mono ?_
            rintro e w4 ⟨rfl, hb4⟩
            refine hK.out _ _ (HH.out _ (bch (below_drew1 (Below.refl wr.heap.size wr)) hb4 (by simp))) (fun hHeld => ?_)
            clear hK K
            try simp only [Act.put, List.getElem_toArray, List.getElem_cons_zero, List.getElem_cons_succ, List.setIfInBounds_toArray, List.set_cons_zero, List.set_cons_succ]
            refine wpAnyH_take (i := 17) (v := ?vc17_17) rfl (by kernel_rfl) (by kernel_rfl) (by kernel_rfl) (fun _ _ _ h => h) (Or.inl ⟨by rfl, ?hyc17_17⟩) (by assumption) ?restc17_17
            case hyc17_17 => (intro w0 hSw; (try dsimp only at hSw); go_simp; try with_reducible rfl)
            case' restc17_17 => try simp only [Act.put, List.getElem_toArray, List.getElem_cons_zero, List.getElem_cons_succ, List.setIfInBounds_toArray, List.set_cons_zero, List.set_cons_succ]
            refine wpAnyH_take (i := 18) (v := ?vc18_18) rfl (by kernel_rfl) (by kernel_rfl) (by kernel_rfl) (fun _ _ _ h => h) (Or.inl ⟨by rfl, ?hyc18_18⟩) (by assumption) ?restc18_18
            case hyc18_18 => (intro w0 hSw; (try dsimp only at hSw); go_simp; try with_reducible rfl)
            case' restc18_18 => try simp only [Act.put, List.getElem_toArray, List.getElem_cons_zero, List.getElem_cons_succ, List.setIfInBounds_toArray, List.set_cons_zero, List.set_cons_succ]
            refine wpAnyH_done (by kernel_rfl) ?_ _
            refine NoPanic.normal ?_
            have hb9 : Below wr.heap.size wr w4 := bch (below_drew1 (Below.refl wr.heap.size wr)) hb4 (by simp)
            clear hHeld HH hb4 n0 n1 n2 g0 g1 g2 m0 m1 m2 m3 m4 d0 d1 hw1 hi3 hi0 hi1 hi2 hnz
            have HX9 := Lib.hid (heap_keep HX6.out hb9); have HY9 := Lib.hid (heap_keep HY6.out hb9); have HB9 := Lib.hid (bch HB6.out hb9 (by have := HB6.out.size; have := HNB.out; omega))
            clear hb9 HX6 HY6 HB6
            cases hls : lessB y.1.1 y.1.2 x0 x1 with
            | true =>
              have HGOOD := Lib.hid (show Sk.one [a, b, cc, d] l = .inl ((x0, x1), x2, 0, x3) by rw [HF5.out, hls]; rfl)
              clear hls
              go_wp2_with fail
              obtain ⟨w9, hw9⟩ : ∃ w9, w9 = w4 := ⟨_, rfl⟩
              rw [← hw9]
              rw [← hw9] at HX9 HY9 HB9
              clear hw9
              obtain ⟨m0, m1, m2, m3, m4⟩ := cell5 HX9.out
              obtain ⟨n0, n1, n2, g0, g1, g2⟩ := cell3 HY9.out
              obtain ⟨f0, f1, f2, f3, f4⟩ := froz5a HX9.out
              go_region
              go_wp2_with fail
              rw [Exit.noGoto_ret]
              obtain ⟨w7, hw7⟩ : ∃ w7, w7 = (((((w9.setCell ⟨nb, 0, none⟩ (.int .i64 x0)).setCell ⟨nb, 1, none⟩ (.int .i64 x1)).setCell ⟨nb, 2, none⟩ (.int .i64 x2)).setCell ⟨nb, 3, none⟩ (.int .i64 0)).setCell ⟨nb, 4, none⟩ (.int .i64 x3)) := ⟨_, rfl⟩
              have hx7 := set5a HX9.out (.int .i64 x0) (.int .i64 x1) (.int .i64 x2) (.int .i64 0) (.int .i64 x3)
              rw [← hw7] at hx7
              have hy7 : w7.heap[nb + 1]? = some (.cells #[.int .i64 0, .int .i64 0, .int .i64 0] tRej (0, 0)) := by rw [hw7]; exact set_other (set_other (set_other (set_other (set_other HY9.out (by omega) _) (by omega) _) (by omega) _) (by omega) _) (by omega) _
              have hb7 : Below nb w w7 := by rw [hw7]; exact below_set5 HB9.out (Nat.le_refl _) _ _ _ _ _
              rw [← hw7]
              clear hw7 m0 m1 m2 m3 m4 n0 n1 n2
              obtain ⟨w8, hw8⟩ : ∃ w8, w8 = ((w7.setCell ⟨nb + 1, 0, none⟩ (.int .i64 0)).setCell ⟨nb + 1, 1, none⟩ (.int .i64 0)).setCell ⟨nb + 1, 2, none⟩ (.int .i64 0) := ⟨_, rfl⟩
              have hy8 := set3 hy7 (.int .i64 0) (.int .i64 0) (.int .i64 0)
              rw [← hw8] at hy8
              have hx8 : w8.heap[nb]? = some (.cells #[.int .i64 x0, .int .i64 x1, .int .i64 x2, .int .i64 0, .int .i64 x3] tRow (0, 0)) := by rw [hw8]; exact set_other (set_other (set_other hx7 (by omega) _) (by omega) _) (by omega) _
              have hb8 : Below nb w w8 := by rw [hw8]; exact below_set3 hb7 (by omega) _ _ _
              rw [← hw8]
              clear hw8
              obtain ⟨m0, m1, m2, m3, m4⟩ := cell5 hx8
              obtain ⟨n0, n1, n2, _⟩ := cell3 hy8
              refine bodyPost_ret (v := .tuple #[.agg #[.int .i64 x0, .int .i64 x1, .int .i64 x2, .int .i64 0, .int .i64 x3], .agg #[.int .i64 0, .int .i64 0, .int .i64 0]]) (by simp [results, Tryz.results38, go_sem, m0, m1, m2, m3, m4, n0, n1, n2]) rfl ⟨?_, below_drew1 (HNB.out ▸ hb8)⟩
              exact oneR_ok HGOOD.out rfl
            | false =>
              have HBAD := Lib.hid (show Sk.one [a, b, cc, d] l = .inr (1, 6) by rw [HF5.out, hls]; rfl)
              clear hls
              go_wp2_with fail
              refine (HREJ.out _ _ _).mono ?_
              rintro e w5 ⟨rfl, hb5⟩
              have HX5 := Lib.hid (heap_keep HX9.out hb5); have HY5 := Lib.hid (heap_keep HY9.out hb5); have HB5 := Lib.hid (bch HB9.out hb5 (by have := HB9.out.size; have := HNB.out; omega))
              clear hb5 HX9 HY9 HB9
              obtain ⟨n0, n1, n2, g0, g1, g2⟩ := cell3 HY5.out
              go_upto_region 27 with (fail)
              obtain ⟨w9, hw9⟩ : ∃ w9, w9 = ((w5.setCell ⟨nb + 1, 0, none⟩ (.int .i64 0)).setCell ⟨nb + 1, 1, none⟩ (.int .i64 1)).setCell ⟨nb + 1, 2, none⟩ (.int .i64 6) := ⟨_, rfl⟩
              rw [← hw9]
              have HY9 := Lib.hid (show w9.heap[nb + 1]? = some (.cells #[.int .i64 0, .int .i64 1, .int .i64 6] tRej (0, 0)) by rw [hw9]; exact set3 HY5.out _ _ _)
              have HX9 := Lib.hid (show w9.heap[nb]? = some (.cells #[.int .i64 x0, .int .i64 x1, .int .i64 x2, .int .i64 0, .int .i64 x3] tRow (0, 0)) by rw [hw9]; exact set_other (set_other (set_other HX5.out (by omega) _) (by omega) _) (by omega) _)
              have HB9 := Lib.hid (show Below nb w w9 by rw [hw9]; exact below_set3 HB5.out (by omega) _ _ _)
              clear hw9 HX5 HY5 HB5 n0 n1 n2 g0 g1 g2
              obtain ⟨m0, m1, m2, m3, m4⟩ := cell5 HX9.out
              obtain ⟨n0, n1, n2, g0, g1, g2⟩ := cell3 HY9.out
              obtain ⟨f0, f1, f2, f3, f4⟩ := froz5a HX9.out
              go_region
              go_wp2_with fail
              rw [Exit.noGoto_ret]
              obtain ⟨w7, hw7⟩ : ∃ w7, w7 = (((((w9.setCell ⟨nb, 0, none⟩ (.int .i64 x0)).setCell ⟨nb, 1, none⟩ (.int .i64 x1)).setCell ⟨nb, 2, none⟩ (.int .i64 x2)).setCell ⟨nb, 3, none⟩ (.int .i64 0)).setCell ⟨nb, 4, none⟩ (.int .i64 x3)) := ⟨_, rfl⟩
              have hx7 := set5a HX9.out (.int .i64 x0) (.int .i64 x1) (.int .i64 x2) (.int .i64 0) (.int .i64 x3)
              rw [← hw7] at hx7
              have hy7 : w7.heap[nb + 1]? = some (.cells #[.int .i64 0, .int .i64 1, .int .i64 6] tRej (0, 0)) := by rw [hw7]; exact set_other (set_other (set_other (set_other (set_other HY9.out (by omega) _) (by omega) _) (by omega) _) (by omega) _) (by omega) _
              have hb7 : Below nb w w7 := by rw [hw7]; exact below_set5 HB9.out (Nat.le_refl _) _ _ _ _ _
              rw [← hw7]
              clear hw7 m0 m1 m2 m3 m4 n0 n1 n2
              obtain ⟨w8, hw8⟩ : ∃ w8, w8 = ((w7.setCell ⟨nb + 1, 0, none⟩ (.int .i64 0)).setCell ⟨nb + 1, 1, none⟩ (.int .i64 1)).setCell ⟨nb + 1, 2, none⟩ (.int .i64 6) := ⟨_, rfl⟩
              have hy8 := set3 hy7 (.int .i64 0) (.int .i64 1) (.int .i64 6)
              rw [← hw8] at hy8
              have hx8 : w8.heap[nb]? = some (.cells #[.int .i64 x0, .int .i64 x1, .int .i64 x2, .int .i64 0, .int .i64 x3] tRow (0, 0)) := by rw [hw8]; exact set_other (set_other (set_other hx7 (by omega) _) (by omega) _) (by omega) _
              have hb8 : Below nb w w8 := by rw [hw8]; exact below_set3 hb7 (by omega) _ _ _
              rw [← hw8]
              clear hw8
              obtain ⟨m0, m1, m2, m3, m4⟩ := cell5 hx8
              obtain ⟨n0, n1, n2, _⟩ := cell3 hy8
              refine bodyPost_ret (v := .tuple #[.agg #[.int .i64 x0, .int .i64 x1, .int .i64 x2, .int .i64 0, .int .i64 x3], .agg #[.int .i64 0, .int .i64 1, .int .i64 6]]) (by simp [results, Tryz.results38, go_sem, m0, m1, m2, m3, m4, n0, n1, n2]) rfl ⟨?_, below_drew1 (HNB.out ▸ hb8)⟩
              exact oneR_bad HBAD.out ((x0, x1), x2, 0, x3) rfl
  · obtain ⟨m, hm⟩ : ∃ m : Int, m = ((min r.length 4 + 1 : Nat) : Int) := ⟨_, rfl⟩
    have HWD := Lib.hid (fun W => swide_no A r.length c 4 W (by omega) (by omega) h4 m hm)
    have HBAD := Lib.hid (show Sk.one r l = .inr (min r.length 4 + 1, 1) by unfold Sk.one; rw [if_pos h4])
    have hm0 : 0 < m := by omega
    have HMM := Lib.hid hm
    clear h4 hm hv hb8
    go_enter Tryz.func38, Tryz.ntmps38
    go_upto_region 1 with (fail)
    rw [hWA.out]
    go_step3
    go_wp2_with fail
    refine (HWD.out _).mono ?_
    rintro e w1 ⟨rfl, hb1⟩
    go_upto_region 2 with (fail)
    obtain ⟨w2, hw2⟩ : ∃ w2, w2 = w1.alloc (.cells #[.int .i64 0, .int .i64 m, .int .i64 1] tRej) := ⟨_, rfl⟩
    rw [← hw2]
    have hb2 : Below w1.heap.size w1 w2 := by rw [hw2]; exact below_alloc _ _
    have HX2 := Lib.hid (heap_keep (heap_keep HX.out hb1) hb2); have HY2 := Lib.hid (heap_keep (heap_keep HY.out hb1) hb2); have HB2 := Lib.hid (bch (bch HA.out hb1 HA.out.size) hb2 (by have := HA.out.size; have := hb1.size; omega))
    have HZ2 := Lib.hid (show w2.heap[w1.heap.size]? = some (.cells #[.int .i64 0, .int .i64 m, .int .i64 1] tRej (0, 0)) by rw [hw2]; exact heap_new _ _)
    have hz1 : w.heap.size + 1 < w1.heap.size := heap_lt (heap_keep HY.out hb1)
    clear hw2 hb2 hb1
    generalize w1.heap.size = b1 at HZ2 hz1 ⊢
    obtain ⟨q0, q1, q2, _⟩ := cell3 HZ2.out
    generalize hnb : w.heap.size = nb at HX2 HY2 HB2 hz1 ⊢
    have HNB := Lib.hid hnb
    clear hnb
    go_wp2_with fail
    have HX6 := Lib.hid HX2.out; have HY6 := Lib.hid HY2.out; have HB6 := Lib.hid HB2.out
    obtain ⟨m0, m1, m2, m3, m4⟩ := cell5 HX6.out
    obtain ⟨n0, n1, n2, g0, g1, g2⟩ := cell3 HY6.out
    obtain ⟨f0, f1, f2, f3, f4⟩ := froz5a HX6.out
    go_region
    go_wp2_with fail
    rw [Exit.noGoto_ret]
    obtain ⟨w7, hw7⟩ : ∃ w7, w7 = (((((w2.setCell ⟨nb, 0, none⟩ (.int .i64 0)).setCell ⟨nb, 1, none⟩ (.int .i64 0)).setCell ⟨nb, 2, none⟩ (.int .i64 0)).setCell ⟨nb, 3, none⟩ (.int .i64 0)).setCell ⟨nb, 4, none⟩ (.int .i64 0)) := ⟨_, rfl⟩
    have hx7 := set5a HX6.out (.int .i64 0) (.int .i64 0) (.int .i64 0) (.int .i64 0) (.int .i64 0)
    rw [← hw7] at hx7
    have hy7 : w7.heap[nb + 1]? = some (.cells #[.int .i64 0, .int .i64 0, .int .i64 0] tRej (0, 0)) := by rw [hw7]; exact set_other (set_other (set_other (set_other (set_other HY6.out (by omega) _) (by omega) _) (by omega) _) (by omega) _) (by omega) _
    have hb7 : Below nb w w7 := by rw [hw7]; exact below_set5 HB6.out (Nat.le_refl _) _ _ _ _ _
    rw [← hw7]
    clear hw7 m0 m1 m2 m3 m4 n0 n1 n2
    obtain ⟨w8, hw8⟩ : ∃ w8, w8 = ((w7.setCell ⟨nb + 1, 0, none⟩ (.int .i64 0)).setCell ⟨nb + 1, 1, none⟩ (.int .i64 m)).setCell ⟨nb + 1, 2, none⟩ (.int .i64 1) := ⟨_, rfl⟩
    have hy8 := set3 hy7 (.int .i64 0) (.int .i64 m) (.int .i64 1)
    rw [← hw8] at hy8
    have hx8 : w8.heap[nb]? = some (.cells #[.int .i64 0, .int .i64 0, .int .i64 0, .int .i64 0, .int .i64 0] tRow (0, 0)) := by rw [hw8]; exact set_other (set_other (set_other hx7 (by omega) _) (by omega) _) (by omega) _
    have hb8 : Below nb w w8 := by rw [hw8]; exact below_set3 hb7 (by omega) _ _ _
    rw [← hw8]
    clear hw8
    obtain ⟨m0, m1, m2, m3, m4⟩ := cell5 hx8
    obtain ⟨n0, n1, n2, _⟩ := cell3 hy8
    refine bodyPost_ret (v := .tuple #[.agg #[.int .i64 0, .int .i64 0, .int .i64 0, .int .i64 0, .int .i64 0], .agg #[.int .i64 0, .int .i64 m, .int .i64 1]]) (by simp [results, Tryz.results38, go_sem, m0, m1, m2, m3, m4, n0, n1, n2]) rfl ⟨?_, below_drew1 (HNB.out ▸ hb8)⟩
    exact oneR_bad HBAD.out ((0, 0), 0, 0, 0) (by rw [HMM.out]; rfl)
end Go.Proofs.YtgpjbigelblanaaGreatDoor

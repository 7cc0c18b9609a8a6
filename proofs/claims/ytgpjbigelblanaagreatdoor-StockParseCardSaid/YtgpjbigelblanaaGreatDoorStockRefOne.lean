/- The document's middle of the warehouse's files: what it computes. -/
import Derived.Test.YtgpjbigelblanaaGreatDoorStockRefCell
import Derived.Test.YtgpjbigelblanaaGreatDoorStockOne
import Derived.IntWalk
namespace Go.Proofs.YtgpjbigelblanaaGreatDoor
open Go.RowKit Go.Maps Key Mon Sk Rw

namespace Sk
theorem deed_two (b : List UInt8) : ((deedK b).2 && decide (partyI (deedK b).1 = 1)) = true ↔ b = wordL 0 ∨ b = wordL 3 := by
  rcases deed_cases b with ⟨d, h1, h2, rfl, hd⟩ | ⟨hn, hd⟩
  · rcases deed6 ⟨h1, h2⟩ with rfl | rfl | rfl | rfl | rfl | rfl <;> decide
  · rw [hd]
    simp only [Bool.false_and, Bool.false_eq_true, false_iff]
    rintro (h | h)
    · exact hn 0 (by omega) h.symm
    · exact hn 3 (by omega) h.symm
end Sk
/-- What the document's row says, or what is wrong with it. -/
def RefOneR (r : Line) (l : List R5) (e : Ending) : Prop := match Sk.one r l with | .inl x => e = .returned (.tuple #[mkRow x, .int .i64 0, .int .i64 0]) | .inr p => ∃ y : R5, e = .returned (.tuple #[mkRow y, .int .i64 (p.1 : Int), .int .i64 (p.2 : Int)])
theorem refOneR_bad {r : Line} {l : List R5} {p : Nat × Nat} (h : Sk.one r l = .inr p) (y : R5) {v : Value} (hv : v = .tuple #[mkRow y, .int .i64 (p.1 : Int), .int .i64 (p.2 : Int)]) : RefOneR r l (.returned v) := by unfold RefOneR; rw [h]; exact ⟨y, by rw [hv]⟩
theorem refOneR_ok {r : Line} {l : List R5} {x : R5} (h : Sk.one r l = .inl x) {v : Value} (hv : v = .tuple #[mkRow x, .int .i64 0, .int .i64 0]) : RefOneR r l (.returned v) := by unfold RefOneR; rw [h, hv]

set_option linter.unusedSimpArgs false in
set_option linter.unusedVariables false in
set_option maxRecDepth 100000 in
set_option maxHeartbeats 4000000 in
theorem rmiddle_any (v u : Value) (r : Line) (l : List R5) (w : World) (hv : Strs w w.heap.size v r) (hu : Rd w u l) (hl : r.length ≤ 1000000) : Calls Tryz.prog 42 #[v, u] w fun e w' => RefOneR r l e ∧ Below w.heap.size w w' := by
  obtain ⟨A, c, rfl⟩ := hv.shape
  obtain ⟨Au, cu, rfl, hlu, hcu⟩ := hu.shape
  have hlm : (l.length : Int) ≤ 9223372036854775807 := by unfold maxLen at hcu; omega
  obtain ⟨n, hn⟩ : ∃ n, l.length = n := ⟨_, rfl⟩
  rw [hn] at hu hlu hlm ⊢
  have HLN := Lib.hid hn
  clear hn
  obtain ⟨wa, hwa⟩ : ∃ wa, (w.alloc (.cells #[.int .i64 0, .int .i64 0, .int .i64 0, .int .i64 0, .int .i64 0] tRow)).alloc (.cells #[.int .i64 0, .int .i64 0, .int .i64 0, .int .i64 0, .int .i64 0] tRow) = wa := ⟨_, rfl⟩
  have h2 := two_blocks w _ _ hwa
  have HB := Lib.hid h2.1; have HX := Lib.hid h2.2.1; have HY := Lib.hid h2.2.2
  have hWA := Lib.hid hwa
  have HU := Lib.hid hu
  clear hwa h2 hu hlu hcu
  generalize hnb : w.heap.size = nb at HX HY HB ⊢
  have HNB := Lib.hid hnb
  by_cases h4 : r.length = 4
  · obtain ⟨a, b, cc, d, rfl⟩ : ∃ a b cc d, r = [a, b, cc, d] := by
      match r, h4 with
      | [a, b, cc, d], _ => exact ⟨a, b, cc, d, rfl⟩
    rw [hnb] at hv
    obtain ⟨gb, go_, rfl, hbl, _⟩ := hv.at (Below.refl _ _) (k := 0) (f := a) rfl
    have HW := Lib.hid (fun W k f (hb : Below nb w W) (hf : [a, b, cc, d][k]? = some f) => (show W.cell? ⟨gb, go_ + k, none⟩ = some (.string ⟨f.toArray⟩) by obtain ⟨b', o', e, _, h⟩ := hv.at hb hf; cases e; exact h))
    have HWD := Lib.hid (fun W => rwide_any (some ⟨gb, go_, none⟩) 4 c 4 W (by omega) (by omega) 0 (by simp))
    simp only [List.length_cons, List.length_nil, Nat.zero_add, Nat.reduceAdd] at hl h4 ⊢
    clear hv hl h4 hnb
    by_cases hfull : 400 ≤ n
    · have HBAD := Lib.hid (show Sk.one [a, b, cc, d] l = .inr (1, 8) by unfold Sk.one; rw [if_neg (by simp), if_pos (by rw [HLN.out]; exact hfull)])
      have hfI := decide_eq_true (show (400 : Int) ≤ n by omega)
      clear hfull
      go_enter Tryz.func42, Tryz.ntmps42
      go_upto_region 2 with (fail)
      rw [HNB.out]
      rw [hWA.out]
      go_wp2_with fail
      refine (HWD.out _).mono ?_
      rintro e w1 ⟨rfl, hb⟩; subst hb
      obtain ⟨m0, m1, m2, m3, m4⟩ := cell5 HX.out
      obtain ⟨f0, f1, f2, f3, f4⟩ := froz5a HX.out
      obtain ⟨y0, y1, y2, y3, y4⟩ := cell5 HY.out
      go_wp2_with fail
      obtain ⟨w7, hw7⟩ : ∃ w7, w7 = (((((wa.setCell ⟨nb, 0, none⟩ (.int .i64 0)).setCell ⟨nb, 1, none⟩ (.int .i64 0)).setCell ⟨nb, 2, none⟩ (.int .i64 0)).setCell ⟨nb, 3, none⟩ (.int .i64 0)).setCell ⟨nb, 4, none⟩ (.int .i64 0)) := ⟨_, rfl⟩
      have hx7 := set5a HX.out (.int .i64 0) (.int .i64 0) (.int .i64 0) (.int .i64 0) (.int .i64 0)
      rw [← hw7] at hx7
      have hb7 : Below nb w w7 := by rw [hw7]; exact below_set5 HB.out (Nat.le_refl _) _ _ _ _ _
      rw [← hw7]
      clear hw7
      obtain ⟨z0, z1, z2, z3, z4⟩ := cell5 hx7
      refine bodyPost_ret (v := .tuple #[.agg #[.int .i64 0, .int .i64 0, .int .i64 0, .int .i64 0, .int .i64 0], .int .i64 1, .int .i64 8]) (by simp [results, Tryz.results42, go_sem, z0, z1, z2, z3, z4]) rfl ⟨?_, hb7⟩
      exact refOneR_bad HBAD.out ((0, 0), 0, 0, 0) rfl
    · have hone : Sk.one [a, b, cc, d] l = four a b cc d l := by unfold Sk.one; rw [if_neg (by simp), if_neg (by rw [HLN.out]; exact hfull)]; rfl
      have HONE := Lib.hid hone
      have hfI := decide_eq_false (show ¬ (400 : Int) ≤ n by omega)
      clear hone hfull
      have HN0 := Lib.hid (fun W => rnumber_any ⟨a.toArray⟩ 60 W)
      have HN3 := Lib.hid (fun W => rnumber_any ⟨d.toArray⟩ 999 W)
      have HD1 := Lib.hid (fun W => refDeed_any ⟨b.toArray⟩ W)
      simp only [show ∀ f : List UInt8, (⟨f.toArray⟩ : ByteArray).data.toList = f from fun f => by simp] at HN0 HN3 HD1
      have hc0 := HW.out wa 0 a HB.out rfl
      have hc1 := HW.out wa 1 b HB.out rfl
      have hc2 := HW.out wa 2 cc HB.out rfl
      have hc3 := HW.out wa 3 d HB.out rfl
      rw [Nat.add_zero] at hc0
      cases hz0 : numB a 1 60 with
      | false =>
        have g0 := numI_low hz0
        have HBAD := Lib.hid (show Sk.one [a, b, cc, d] l = .inr (1, 3) by rw [HONE.out]; unfold four; rw [if_pos hz0])
        obtain ⟨x0, hx0⟩ : ∃ x, numI a 60 = x := ⟨_, rfl⟩
        rw [hx0] at HN0 g0
        clear hx0 hz0
        go_enter Tryz.func42, Tryz.ntmps42
        go_upto_region 2 with (fail)
        rw [HNB.out]
        rw [hWA.out]
        go_wp2_with fail
        refine (HWD.out _).mono ?_
        rintro e w1 ⟨rfl, hb⟩; subst hb
        go_wp2_with fail
        refine (HN0.out _).mono ?_
        rintro e w2 ⟨rfl, hb2⟩
        have HX2 := Lib.hid (heap_keep HX.out hb2); have HY2 := Lib.hid (heap_keep HY.out hb2); have HB2 := Lib.hid (bch HB.out hb2 (by have := HB.out.size; have := HNB.out; omega))
        clear hb2 hc0 hc1 hc2 hc3
        obtain ⟨m0, m1, m2, m3, m4⟩ := cell5 HX2.out
        obtain ⟨f0, f1, f2, f3, f4⟩ := froz5a HX2.out
        obtain ⟨y0, y1, y2, y3, y4⟩ := cell5 HY2.out
        go_wp2_with fail
        obtain ⟨w7, hw7⟩ : ∃ w7, w7 = (((((w2.setCell ⟨nb, 0, none⟩ (.int .i64 0)).setCell ⟨nb, 1, none⟩ (.int .i64 0)).setCell ⟨nb, 2, none⟩ (.int .i64 0)).setCell ⟨nb, 3, none⟩ (.int .i64 0)).setCell ⟨nb, 4, none⟩ (.int .i64 0)) := ⟨_, rfl⟩
        have hx7 := set5a HX2.out (.int .i64 0) (.int .i64 0) (.int .i64 0) (.int .i64 0) (.int .i64 0)
        rw [← hw7] at hx7
        have hb7 : Below nb w w7 := by rw [hw7]; exact below_set5 HB2.out (Nat.le_refl _) _ _ _ _ _
        rw [← hw7]
        clear hw7
        obtain ⟨z0, z1, z2, z3, z4⟩ := cell5 hx7
        refine bodyPost_ret (v := .tuple #[.agg #[.int .i64 0, .int .i64 0, .int .i64 0, .int .i64 0, .int .i64 0], .int .i64 1, .int .i64 3]) (by simp [results, Tryz.results42, go_sem, z0, z1, z2, z3, z4]) rfl ⟨?_, hb7⟩
        exact refOneR_bad HBAD.out ((0, 0), 0, 0, 0) rfl
      | true =>
        obtain ⟨g0, g1, g2⟩ := numI_ok (.inr rfl) hz0
        obtain ⟨x0, hx0⟩ : ∃ x, (getM a).1 = x := ⟨_, rfl⟩
        rw [g0, hx0] at HN0
        rw [hx0] at g1 g2
        have hx1 : ¬ x0 < 1 := by omega
        clear g0
        have HONE2 := Lib.hid (show Sk.one [a, b, cc, d] l = if ((deedK b).2 && decide (partyI (deedK b).1 = 1)) = false then .inr (2, 3) else if (codeK cc).2 = false then .inr (3, 3) else if (numB d 0 999 && (decide ((codeK cc).1 = 1) || decide ((getM d).1 = 0))) = false then .inr (4, 3) else match l.getLast? with | none => .inl ((x0, (deedK b).1), (codeK cc).1, 0, (getM d).1) | some y => if lessB y.1.1 y.1.2 x0 (deedK b).1 = true then .inl ((x0, (deedK b).1), (codeK cc).1, 0, (getM d).1) else .inr (1, 6) by rw [HONE.out]; unfold four; simp only [hz0, hx0]; rfl)
        clear hz0 hx0 HONE
        go_enter Tryz.func42, Tryz.ntmps42
        go_upto_region 2 with (fail)
        rw [HNB.out]
        rw [hWA.out]
        go_wp2_with fail
        refine (HWD.out _).mono ?_
        rintro e w1 ⟨rfl, hb⟩; subst hb
        go_wp2_with fail
        refine (HN0.out _).mono ?_
        rintro e w2 ⟨rfl, hb2⟩
        have HX2 := Lib.hid (heap_keep HX.out hb2); have HY2 := Lib.hid (heap_keep HY.out hb2); have HB2 := Lib.hid (bch HB.out hb2 (by have := HB.out.size; have := HNB.out; omega))
        clear hb2 hc0 hc1 hc2 hc3
        have hc1 := HW.out w2 1 b HB2.out rfl
        have hc2 := HW.out w2 2 cc HB2.out rfl
        have hc3 := HW.out w2 3 d HB2.out rfl
        go_upto_region 9 with (fail)
        by_cases hd : b = wordL 0 ∨ b = wordL 3
        · rcases hd with hd | hd
          · have hdk : deedK b = (0, true) := by rw [hd]; decide
            rw [hdk] at HD1
            have HL2 := Lib.hid (show Sk.one [a, b, cc, d] l = if (codeK cc).2 = false then .inr (3, 3) else if (numB d 0 999 && (decide ((codeK cc).1 = 1) || decide ((getM d).1 = 0))) = false then .inr (4, 3) else match l.getLast? with | none => .inl ((x0, 0), (codeK cc).1, 0, (getM d).1) | some y => if lessB y.1.1 y.1.2 x0 0 = true then .inl ((x0, 0), (codeK cc).1, 0, (getM d).1) else .inr (1, 6) by rw [HONE2.out, hdk]; rfl)
            have e1 := text_eq (show b = [114, 101, 115, 101, 114, 118, 101] from hd)
            clear hd hdk
            go_upto_region 11 with (fail)
            rcases code_cases cc with ⟨cv, hcv, hcw, hck⟩ | ⟨hn1, hn2, hck⟩
            · rcases hcv with rfl | rfl
              · have HL3 := Lib.hid (show Sk.one [a, b, cc, d] l = if (numB d 0 999 && (decide ((1 : Int) = 1) || decide ((getM d).1 = 0))) = false then .inr (4, 3) else match l.getLast? with | none => .inl ((x0, 0), 1, 0, (getM d).1) | some y => if lessB y.1.1 y.1.2 x0 0 = true then .inl ((x0, 0), 1, 0, (getM d).1) else .inr (1, 6) by rw [HL2.out, hck]; rfl)
                have k1 := text_eq hcw.symm
                have k2 := text_ne (show cc ≠ [114, 101, 102, 117, 115, 101, 100] by rw [← hcw]; decide)
                rw [show codeW 1 = [100, 111, 110, 101] from rfl] at k1
                clear hcw hck
                go_upto_region 13 with (fail)
                cases hz3 : numB d 0 999 with
                | false =>
                  have g0 := numI_no hz3
                  have HBAD := Lib.hid (show Sk.one [a, b, cc, d] l = .inr (4, 3) by rw [HL3.out, hz3]; rfl)
                  rw [g0] at HN3
                  clear hz3 g0
                  go_wp2_with fail
                  refine (HN3.out _).mono ?_
                  rintro e w3 ⟨rfl, hb3⟩
                  have HX3 := Lib.hid (heap_keep HX2.out hb3); have HY3 := Lib.hid (heap_keep HY2.out hb3); have HB3 := Lib.hid (bch HB2.out hb3 (by have := HB2.out.size; have := HNB.out; omega))
                  clear hb3 hc1 hc2 hc3
                  have hc1 := HW.out w3 1 b HB3.out rfl
                  have hc2 := HW.out w3 2 cc HB3.out rfl
                  have hc3 := HW.out w3 3 d HB3.out rfl
                  obtain ⟨m0, m1, m2, m3, m4⟩ := cell5 HX3.out
                  obtain ⟨f0, f1, f2, f3, f4⟩ := froz5a HX3.out
                  obtain ⟨y0, y1, y2, y3, y4⟩ := cell5 HY3.out
                  go_wp2_with fail
                  obtain ⟨w7, hw7⟩ : ∃ w7, w7 = (((((w3.setCell ⟨nb, 0, none⟩ (.int .i64 0)).setCell ⟨nb, 1, none⟩ (.int .i64 0)).setCell ⟨nb, 2, none⟩ (.int .i64 0)).setCell ⟨nb, 3, none⟩ (.int .i64 0)).setCell ⟨nb, 4, none⟩ (.int .i64 0)) := ⟨_, rfl⟩
                  have hx7 := set5a HX3.out (.int .i64 0) (.int .i64 0) (.int .i64 0) (.int .i64 0) (.int .i64 0)
                  rw [← hw7] at hx7
                  have hb7 : Below nb w w7 := by rw [hw7]; exact below_set5 HB3.out (Nat.le_refl _) _ _ _ _ _
                  rw [← hw7]
                  clear hw7
                  obtain ⟨z0, z1, z2, z3, z4⟩ := cell5 hx7
                  refine bodyPost_ret (v := .tuple #[.agg #[.int .i64 0, .int .i64 0, .int .i64 0, .int .i64 0, .int .i64 0], .int .i64 4, .int .i64 3]) (by simp [results, Tryz.results42, go_sem, z0, z1, z2, z3, z4]) rfl ⟨?_, hb7⟩
                  exact refOneR_bad HBAD.out ((0, 0), 0, 0, 0) rfl
                | true =>
                  obtain ⟨g0, g1, g2⟩ := numI_ok (.inl rfl) hz3
                  obtain ⟨x3, hx3⟩ : ∃ x, (getM d).1 = x := ⟨_, rfl⟩
                  rw [g0, hx3] at HN3
                  rw [hx3] at g1 g2
                  have q3 : ¬ x3 < 0 := by omega
                  have HL4 := Lib.hid (show Sk.one [a, b, cc, d] l = match l.getLast? with | none => .inl ((x0, 0), 1, 0, x3) | some y => if lessB y.1.1 y.1.2 x0 0 = true then .inl ((x0, 0), 1, 0, x3) else .inr (1, 6) by rw [HL3.out, hz3, hx3]; rfl)
                  clear hz3 g0 hx3
                  go_wp2_with fail
                  refine (HN3.out _).mono ?_
                  rintro e w3 ⟨rfl, hb3⟩
                  have HX3 := Lib.hid (heap_keep HX2.out hb3); have HY3 := Lib.hid (heap_keep HY2.out hb3); have HB3 := Lib.hid (bch HB2.out hb3 (by have := HB2.out.size; have := HNB.out; omega))
                  clear hb3 hc1 hc2 hc3
                  have hc1 := HW.out w3 1 b HB3.out rfl
                  have hc2 := HW.out w3 2 cc HB3.out rfl
                  have hc3 := HW.out w3 3 d HB3.out rfl
                  by_cases q4 : 0 < x3
                  · go_wp2_with fail
                    refine (HD1.out _).mono ?_
                    rintro e w4 ⟨rfl, hb4⟩
                    have HX4 := Lib.hid (heap_keep HX3.out hb4); have HY4 := Lib.hid (heap_keep HY3.out hb4); have HB4 := Lib.hid (bch HB3.out hb4 (by have := HB3.out.size; have := HNB.out; omega))
                    clear hb4 hc1 hc2 hc3
                    have hc2 := HW.out w4 2 cc HB4.out rfl
                    obtain ⟨y0, y1, y2, y3, y4⟩ := cell5 HY4.out
                    obtain ⟨f0, f1, f2, f3, f4⟩ := froz5a HY4.out
                    go_upto_region 18 with (fail)
                    obtain ⟨w6, hw6⟩ : ∃ w6, w6 = (((((w4.setCell ⟨nb + 1, 0, none⟩ (.int .i64 x0)).setCell ⟨nb + 1, 1, none⟩ (.int .i64 0)).setCell ⟨nb + 1, 2, none⟩ (.int .i64 1)).setCell ⟨nb + 1, 3, none⟩ (.int .i64 0)).setCell ⟨nb + 1, 4, none⟩ (.int .i64 x3)) := ⟨_, rfl⟩
                    rw [← hw6]
                    have hy6 := set5a HY4.out (.int .i64 x0) (.int .i64 0) (.int .i64 1) (.int .i64 0) (.int .i64 x3)
                    rw [← hw6] at hy6
                    have hx6 : w6.heap[nb]? = some (.cells #[.int .i64 0, .int .i64 0, .int .i64 0, .int .i64 0, .int .i64 0] tRow (0, 0)) := by rw [hw6]; exact set_other (set_other (set_other (set_other (set_other HX4.out (by omega) _) (by omega) _) (by omega) _) (by omega) _) (by omega) _
                    have hb6 : Below nb w w6 := by rw [hw6]; exact below_set5 HB4.out (by omega) _ _ _ _ _
                    have hc2' : w6.cell? ⟨gb, go_ + 2, none⟩ = some (.string ⟨cc.toArray⟩) := HW.out w6 2 cc hb6 rfl
                    have HX6 := Lib.hid hx6; have HY6 := Lib.hid hy6; have HB6 := Lib.hid hb6
                    clear hw6 hx6 hy6 hb6 y0 y1 y2 y3 y4 f0 f1 f2 f3 f4 hc2
                    obtain ⟨y0, y1, y2, y3, y4⟩ := cell5 HY6.out
                    obtain ⟨f0, f1, f2, f3, f4⟩ := froz5a HY6.out
                    go_upto_region 20 with (fail)
                    clear y0 y1 y2 y3 y4 f0 f1 f2 f3 f4 hc2'
                    by_cases hn0 : n = 0
                    · subst hn0
                      have hl0 : l = [] := List.eq_nil_of_length_eq_zero HLN.out
                      have HOK := Lib.hid (show Sk.one [a, b, cc, d] l = .inl ((x0, 0), 1, 0, x3) by rw [HL4.out, hl0]; rfl)
                      clear hl0
                      go_quiet (fail)
                      go_upto_region 22 with (fail)
                      obtain ⟨w5, hw5⟩ : ∃ w5, w5 = w6.drewN nq := ⟨_, rfl⟩
                      rw [← hw5]
                      have hb5 : Below w6.heap.size w6 w5 := by rw [hw5]; exact below_dq (Below.refl _ _) nq
                      have HX5 := Lib.hid (heap_keep HX6.out hb5); have HY5 := Lib.hid (heap_keep HY6.out hb5); have HB5 := Lib.hid (bch HB6.out hb5 (by have := HB6.out.size; have := HNB.out; omega))
                      clear hw5 hb5
                      obtain ⟨m0, m1, m2, m3, m4⟩ := cell5 HX5.out
                      obtain ⟨f0, f1, f2, f3, f4⟩ := froz5a HX5.out
                      obtain ⟨y0, y1, y2, y3, y4⟩ := cell5 HY5.out
                      go_wp2_with fail
                      obtain ⟨w7, hw7⟩ : ∃ w7, w7 = (((((w5.setCell ⟨nb, 0, none⟩ (.int .i64 x0)).setCell ⟨nb, 1, none⟩ (.int .i64 0)).setCell ⟨nb, 2, none⟩ (.int .i64 1)).setCell ⟨nb, 3, none⟩ (.int .i64 0)).setCell ⟨nb, 4, none⟩ (.int .i64 x3)) := ⟨_, rfl⟩
                      have hx7 := set5a HX5.out (.int .i64 x0) (.int .i64 0) (.int .i64 1) (.int .i64 0) (.int .i64 x3)
                      rw [← hw7] at hx7
                      have hb7 : Below nb w w7 := by rw [hw7]; exact below_set5 HB5.out (Nat.le_refl _) _ _ _ _ _
                      rw [← hw7]
                      clear hw7
                      obtain ⟨z0, z1, z2, z3, z4⟩ := cell5 hx7
                      refine bodyPost_ret (v := .tuple #[.agg #[.int .i64 x0, .int .i64 0, .int .i64 1, .int .i64 0, .int .i64 x3], .int .i64 0, .int .i64 0]) (by simp [results, Tryz.results42, go_sem, z0, z1, z2, z3, z4]) rfl ⟨?_, hb7⟩
                      exact refOneR_ok HOK.out rfl
                    · obtain ⟨y, hy⟩ : ∃ y, l[n - 1]? = some y := ⟨_, List.getElem?_eq_getElem (by have := HLN.out; omega)⟩
                      have hlast : l.getLast? = some y := by rw [List.getLast?_eq_getElem?, HLN.out]; exact hy
                      have HL5 := Lib.hid (show Sk.one [a, b, cc, d] l = if lessB y.1.1 y.1.2 x0 0 = true then .inl ((x0, 0), 1, 0, x3) else .inr (1, 6) by rw [HL4.out, hlast])
                      obtain ⟨g, off, n', c', e, d0, d1, _, _, _⟩ := HU.out.cells (by rw [HNB.out]; exact HB6.out) hy
                      injection e with e1 e2 e3
                      subst e1
                      clear hlast e2 e3 hy
                      obtain ⟨y0, y1, y2, y3, y4⟩ := cell5 HY6.out
                      have hn1 : 0 < n := by omega
                      have hnI : (0 : Int) < n := by omega
                      have hnz := decide_eq_true hnI
                      have hw1 : IntKind.i64.wrap ((n : Int) - 1) = (n : Int) - 1 := IntWalk.i64_in _ (by omega)
                      have hi0 : (0 : Int) ≤ (n : Int) - 1 := by omega
                      have hi3 : (1 : Int) ≤ n := by omega
                      have hi1 : (n : Int) - 1 < n := by omega
                      have hi2 : ((n : Int) - 1).toNat = n - 1 := by omega
                      have HH := Lib.hid (fun W (hb : Below w6.heap.size w6 W) => (⟨Lib.hid hb, (hb.cell (World.block_lt_of_cell? w6 _ d0)).trans d0, (hb.cell (World.block_lt_of_cell? w6 _ d1)).trans d1, (hb.cell (World.block_lt_of_cell? w6 _ y0)).trans y0, (hb.cell (World.block_lt_of_cell? w6 _ y1)).trans y1⟩ : (fun w' => Hid (Below w6.heap.size w6 w') ∧ w'.cell? ⟨g, off + (n - 1) * 5, none⟩ = some (.int .i64 y.1.1) ∧ w'.cell? ⟨g, off + (n - 1) * 5 + 1, none⟩ = some (.int .i64 y.1.2) ∧ w'.cell? ⟨nb + 1, 0, none⟩ = some (.int .i64 x0) ∧ w'.cell? ⟨nb + 1, 1, none⟩ = some (.int .i64 0)) W))
                      refine wp_region_noPanic ?_
                      refine wp_region_held_drew (S := (fun w' => Hid (Below w6.heap.size w6 w') ∧ w'.cell? ⟨g, off + (n - 1) * 5, none⟩ = some (.int .i64 y.1.1) ∧ w'.cell? ⟨g, off + (n - 1) * 5 + 1, none⟩ = some (.int .i64 y.1.2) ∧ w'.cell? ⟨nb + 1, 0, none⟩ = some (.int .i64 x0) ∧ w'.cell? ⟨nb + 1, 1, none⟩ = some (.int .i64 0))) (by kernel_rfl) (HH.out _ (below_drew1 (Below.refl w6.heap.size w6))) (fun hHeld => ?_)
                      refine wpAnyH_take (i := 0) (v := ?vc0_1) rfl (by kernel_rfl) (by kernel_rfl) (by kernel_rfl) (fun _ _ _ h => h) (Or.inl ⟨by rfl, ?hyc0_1⟩) (by assumption) ?restc0_1
                      case hyc0_1 => (intro w0 hSw; (try dsimp only at hSw); go_simp; try with_reducible rfl)
                      case' restc0_1 => try simp only [Act.put, List.getElem_toArray, List.getElem_cons_zero, List.getElem_cons_succ, List.setIfInBounds_toArray, List.set_cons_zero, List.set_cons_succ]
                      refine wpAnyH_take (i := 1) (v := ?vc1_2) rfl (by kernel_rfl) (by kernel_rfl) (by kernel_rfl) (fun _ _ _ h => h) (Or.inl ⟨by rfl, ?hyc1_2⟩) (by assumption) ?restc1_2
                      case hyc1_2 => (intro w0 hSw; (try dsimp only at hSw); go_simp; try with_reducible rfl)
                      case' restc1_2 => try simp only [Act.put, List.getElem_toArray, List.getElem_cons_zero, List.getElem_cons_succ, List.setIfInBounds_toArray, List.set_cons_zero, List.set_cons_succ]
                      refine wpAnyH_take (i := 2) (v := ?vc2_3) rfl (by kernel_rfl) (by kernel_rfl) (by kernel_rfl) (fun _ _ _ h => h) (Or.inl ⟨by rfl, ?hyc2_3⟩) (by assumption) ?restc2_3
                      case hyc2_3 => (intro w0 hSw; (try dsimp only at hSw); go_simp; try with_reducible rfl)
                      case' restc2_3 => try simp only [Act.put, List.getElem_toArray, List.getElem_cons_zero, List.getElem_cons_succ, List.setIfInBounds_toArray, List.set_cons_zero, List.set_cons_succ]
                      refine wpAnyH_take (i := 3) (v := ?vc3_4) rfl (by kernel_rfl) (by kernel_rfl) (by kernel_rfl) (fun _ _ _ h => h) (Or.inl ⟨by rfl, ?hyc3_4⟩) (by assumption) ?restc3_4
                      case hyc3_4 => (intro w0 hSw; (try dsimp only at hSw); go_simp; try with_reducible rfl)
                      case' restc3_4 => try simp only [Act.put, List.getElem_toArray, List.getElem_cons_zero, List.getElem_cons_succ, List.setIfInBounds_toArray, List.set_cons_zero, List.set_cons_succ]
                      refine wpAnyH_take (i := 4) (v := ?vc4_5) rfl (by kernel_rfl) (by kernel_rfl) (by kernel_rfl) (fun _ _ _ h => h) (Or.inl ⟨by rfl, ?hyc4_5⟩) (by assumption) ?restc4_5
                      case hyc4_5 => (intro w0 hSw; (try dsimp only at hSw); go_simp; try with_reducible rfl)
                      case' restc4_5 => try simp only [Act.put, List.getElem_toArray, List.getElem_cons_zero, List.getElem_cons_succ, List.setIfInBounds_toArray, List.set_cons_zero, List.set_cons_succ]
                      refine wpAnyH_take (i := 5) (v := ?vc5_6) rfl (by kernel_rfl) (by kernel_rfl) (by kernel_rfl) (fun _ _ _ h => h) (Or.inl ⟨by rfl, ?hyc5_6⟩) (by assumption) ?restc5_6
                      case hyc5_6 => (intro w0 hSw; (try dsimp only at hSw); go_simp; try with_reducible rfl)
                      case' restc5_6 => try simp only [Act.put, List.getElem_toArray, List.getElem_cons_zero, List.getElem_cons_succ, List.setIfInBounds_toArray, List.set_cons_zero, List.set_cons_succ]
                      refine wpAnyH_take (i := 6) (v := ?vc6_7) rfl (by kernel_rfl) (by kernel_rfl) (by kernel_rfl) (fun _ _ _ h => h) (Or.inl ⟨by rfl, ?hyc6_7⟩) (by assumption) ?restc6_7
                      case hyc6_7 => (intro w0 hSw; (try dsimp only at hSw); go_simp; try with_reducible rfl)
                      case' restc6_7 => try simp only [Act.put, List.getElem_toArray, List.getElem_cons_zero, List.getElem_cons_succ, List.setIfInBounds_toArray, List.set_cons_zero, List.set_cons_succ]
                      refine wpAnyH_take (i := 7) (v := ?vc7_8) rfl (by kernel_rfl) (by kernel_rfl) (by kernel_rfl) (fun _ _ _ h => h) (Or.inl ⟨by rfl, ?hyc7_8⟩) (by assumption) ?restc7_8
                      case hyc7_8 => (intro w0 hSw; (try dsimp only at hSw); go_simp; try with_reducible rfl)
                      case' restc7_8 => try simp only [Act.put, List.getElem_toArray, List.getElem_cons_zero, List.getElem_cons_succ, List.setIfInBounds_toArray, List.set_cons_zero, List.set_cons_succ]
                      refine wpAnyH_take (i := 8) (v := ?vc8_9) rfl (by kernel_rfl) (by kernel_rfl) (by kernel_rfl) (fun _ _ _ h => h) (Or.inl ⟨by rfl, ?hyc8_9⟩) (by assumption) ?restc8_9
                      case hyc8_9 => (intro w0 hSw; (try dsimp only at hSw); go_simp; try with_reducible rfl)
                      case' restc8_9 => try simp only [Act.put, List.getElem_toArray, List.getElem_cons_zero, List.getElem_cons_succ, List.setIfInBounds_toArray, List.set_cons_zero, List.set_cons_succ]
                      refine wpAnyH_take (i := 9) (v := ?vc9_10) rfl (by kernel_rfl) (by kernel_rfl) (by kernel_rfl) (fun _ _ _ h => h) (Or.inl ⟨by rfl, ?hyc9_10⟩) (by assumption) ?restc9_10
                      case hyc9_10 => (intro w0 hSw; (try dsimp only at hSw); go_simp; try with_reducible rfl)
                      case' restc9_10 => try simp only [Act.put, List.getElem_toArray, List.getElem_cons_zero, List.getElem_cons_succ, List.setIfInBounds_toArray, List.set_cons_zero, List.set_cons_succ]
                      refine wpAnyH_take (i := 10) (v := ?vc10_11) rfl (by kernel_rfl) (by kernel_rfl) (by kernel_rfl) (fun _ _ _ h => h) (Or.inl ⟨by rfl, ?hyc10_11⟩) (by assumption) ?restc10_11
                      case hyc10_11 => (intro w0 hSw; (try dsimp only at hSw); go_simp; try with_reducible rfl)
                      case' restc10_11 => try simp only [Act.put, List.getElem_toArray, List.getElem_cons_zero, List.getElem_cons_succ, List.setIfInBounds_toArray, List.set_cons_zero, List.set_cons_succ]
                      refine wpAnyH_take (i := 11) (v := ?vc11_12) rfl (by kernel_rfl) (by kernel_rfl) (by kernel_rfl) (fun _ _ _ h => h) (Or.inl ⟨by rfl, ?hyc11_12⟩) (by assumption) ?restc11_12
                      case hyc11_12 => (intro w0 hSw; (try dsimp only at hSw); go_simp; try with_reducible rfl)
                      case' restc11_12 => try simp only [Act.put, List.getElem_toArray, List.getElem_cons_zero, List.getElem_cons_succ, List.setIfInBounds_toArray, List.set_cons_zero, List.set_cons_succ]
                      refine wpAnyH_take (i := 12) (v := ?vc12_13) rfl (by kernel_rfl) (by kernel_rfl) (by kernel_rfl) (fun _ _ _ h => h) (Or.inl ⟨by rfl, ?hyc12_13⟩) (by assumption) ?restc12_13
                      case hyc12_13 => (intro w0 hSw; (try dsimp only at hSw); go_simp; try with_reducible rfl)
                      case' restc12_13 => try simp only [Act.put, List.getElem_toArray, List.getElem_cons_zero, List.getElem_cons_succ, List.setIfInBounds_toArray, List.set_cons_zero, List.set_cons_succ]
                      refine wpAnyH_ready (rs := [13]) (by kernel_rfl) (by simp) ?_
                      refine AllReadyH.cons rfl (fun K hK => ?_) AllReadyH.nil
                      go_simp
                      refine (refLess_any y.1.1 y.1.2 x0 0 _).mono ?_
                      rintro e w5 ⟨rfl, hb4⟩
                      refine hK.out _ _ (HH.out _ (bch (below_drew1 (Below.refl w6.heap.size w6)) hb4 (by simp))) (fun hHeld => ?_)
                      clear hK K
                      try simp only [Act.put, List.getElem_toArray, List.getElem_cons_zero, List.getElem_cons_succ, List.setIfInBounds_toArray, List.set_cons_zero, List.set_cons_succ]
                      refine wpAnyH_take (i := 14) (v := ?vc14_14) rfl (by kernel_rfl) (by kernel_rfl) (by kernel_rfl) (fun _ _ _ h => h) (Or.inl ⟨by rfl, ?hyc14_14⟩) (by assumption) ?restc14_14
                      case hyc14_14 => (intro w0 hSw; (try dsimp only at hSw); go_simp; try with_reducible rfl)
                      case' restc14_14 => try simp only [Act.put, List.getElem_toArray, List.getElem_cons_zero, List.getElem_cons_succ, List.setIfInBounds_toArray, List.set_cons_zero, List.set_cons_succ]
                      refine wpAnyH_take (i := 15) (v := ?vc15_15) rfl (by kernel_rfl) (by kernel_rfl) (by kernel_rfl) (fun _ _ _ h => h) (Or.inl ⟨by rfl, ?hyc15_15⟩) (by assumption) ?restc15_15
                      case hyc15_15 => (intro w0 hSw; (try dsimp only at hSw); go_simp; try with_reducible rfl)
                      case' restc15_15 => try simp only [Act.put, List.getElem_toArray, List.getElem_cons_zero, List.getElem_cons_succ, List.setIfInBounds_toArray, List.set_cons_zero, List.set_cons_succ]
                      refine wpAnyH_done (by kernel_rfl) ?_ _
                      refine NoPanic.normal ?_
                      have hb5 : Below w6.heap.size w6 w5 := bch (below_drew1 (Below.refl w6.heap.size w6)) hb4 (by simp)
                      clear hHeld HH hb4 y0 y1 y2 y3 y4 d0 d1 hw1 hi0 hi1 hi2 hi3 hnz
                      have HX5 := Lib.hid (heap_keep HX6.out hb5); have HY5 := Lib.hid (heap_keep HY6.out hb5); have HB5 := Lib.hid (bch HB6.out hb5 (by have := HB6.out.size; have := HNB.out; omega))
                      clear hb5
                      cases hls : lessB y.1.1 y.1.2 x0 0 with
                      | true =>
                        have HOK := Lib.hid (show Sk.one [a, b, cc, d] l = .inl ((x0, 0), 1, 0, x3) by rw [HL5.out, hls]; rfl)
                        clear hls
                        obtain ⟨m0, m1, m2, m3, m4⟩ := cell5 HX5.out
                        obtain ⟨f0, f1, f2, f3, f4⟩ := froz5a HX5.out
                        obtain ⟨y0, y1, y2, y3, y4⟩ := cell5 HY5.out
                        go_wp2_with fail
                        obtain ⟨w7, hw7⟩ : ∃ w7, w7 = (((((w5.setCell ⟨nb, 0, none⟩ (.int .i64 x0)).setCell ⟨nb, 1, none⟩ (.int .i64 0)).setCell ⟨nb, 2, none⟩ (.int .i64 1)).setCell ⟨nb, 3, none⟩ (.int .i64 0)).setCell ⟨nb, 4, none⟩ (.int .i64 x3)) := ⟨_, rfl⟩
                        have hx7 := set5a HX5.out (.int .i64 x0) (.int .i64 0) (.int .i64 1) (.int .i64 0) (.int .i64 x3)
                        rw [← hw7] at hx7
                        have hb7 : Below nb w w7 := by rw [hw7]; exact below_set5 HB5.out (Nat.le_refl _) _ _ _ _ _
                        rw [← hw7]
                        clear hw7
                        obtain ⟨z0, z1, z2, z3, z4⟩ := cell5 hx7
                        refine bodyPost_ret (v := .tuple #[.agg #[.int .i64 x0, .int .i64 0, .int .i64 1, .int .i64 0, .int .i64 x3], .int .i64 0, .int .i64 0]) (by simp [results, Tryz.results42, go_sem, z0, z1, z2, z3, z4]) rfl ⟨?_, hb7⟩
                        exact refOneR_ok HOK.out rfl
                      | false =>
                        have HBAD := Lib.hid (show Sk.one [a, b, cc, d] l = .inr (1, 6) by rw [HL5.out, hls]; rfl)
                        clear hls
                        obtain ⟨m0, m1, m2, m3, m4⟩ := cell5 HX5.out
                        obtain ⟨f0, f1, f2, f3, f4⟩ := froz5a HX5.out
                        obtain ⟨y0, y1, y2, y3, y4⟩ := cell5 HY5.out
                        go_wp2_with fail
                        obtain ⟨w7, hw7⟩ : ∃ w7, w7 = (((((w5.setCell ⟨nb, 0, none⟩ (.int .i64 x0)).setCell ⟨nb, 1, none⟩ (.int .i64 0)).setCell ⟨nb, 2, none⟩ (.int .i64 1)).setCell ⟨nb, 3, none⟩ (.int .i64 0)).setCell ⟨nb, 4, none⟩ (.int .i64 x3)) := ⟨_, rfl⟩
                        have hx7 := set5a HX5.out (.int .i64 x0) (.int .i64 0) (.int .i64 1) (.int .i64 0) (.int .i64 x3)
                        rw [← hw7] at hx7
                        have hb7 : Below nb w w7 := by rw [hw7]; exact below_set5 HB5.out (Nat.le_refl _) _ _ _ _ _
                        rw [← hw7]
                        clear hw7
                        obtain ⟨z0, z1, z2, z3, z4⟩ := cell5 hx7
                        refine bodyPost_ret (v := .tuple #[.agg #[.int .i64 x0, .int .i64 0, .int .i64 1, .int .i64 0, .int .i64 x3], .int .i64 1, .int .i64 6]) (by simp [results, Tryz.results42, go_sem, z0, z1, z2, z3, z4]) rfl ⟨?_, hb7⟩
                        exact refOneR_bad HBAD.out ((x0, 0), 1, 0, x3) rfl
                  · go_wp2_with fail
                    refine (HD1.out _).mono ?_
                    rintro e w4 ⟨rfl, hb4⟩
                    have HX4 := Lib.hid (heap_keep HX3.out hb4); have HY4 := Lib.hid (heap_keep HY3.out hb4); have HB4 := Lib.hid (bch HB3.out hb4 (by have := HB3.out.size; have := HNB.out; omega))
                    clear hb4 hc1 hc2 hc3
                    have hc2 := HW.out w4 2 cc HB4.out rfl
                    obtain ⟨y0, y1, y2, y3, y4⟩ := cell5 HY4.out
                    obtain ⟨f0, f1, f2, f3, f4⟩ := froz5a HY4.out
                    go_upto_region 18 with (fail)
                    obtain ⟨w6, hw6⟩ : ∃ w6, w6 = (((((w4.setCell ⟨nb + 1, 0, none⟩ (.int .i64 x0)).setCell ⟨nb + 1, 1, none⟩ (.int .i64 0)).setCell ⟨nb + 1, 2, none⟩ (.int .i64 1)).setCell ⟨nb + 1, 3, none⟩ (.int .i64 0)).setCell ⟨nb + 1, 4, none⟩ (.int .i64 x3)) := ⟨_, rfl⟩
                    rw [← hw6]
                    have hy6 := set5a HY4.out (.int .i64 x0) (.int .i64 0) (.int .i64 1) (.int .i64 0) (.int .i64 x3)
                    rw [← hw6] at hy6
                    have hx6 : w6.heap[nb]? = some (.cells #[.int .i64 0, .int .i64 0, .int .i64 0, .int .i64 0, .int .i64 0] tRow (0, 0)) := by rw [hw6]; exact set_other (set_other (set_other (set_other (set_other HX4.out (by omega) _) (by omega) _) (by omega) _) (by omega) _) (by omega) _
                    have hb6 : Below nb w w6 := by rw [hw6]; exact below_set5 HB4.out (by omega) _ _ _ _ _
                    have hc2' : w6.cell? ⟨gb, go_ + 2, none⟩ = some (.string ⟨cc.toArray⟩) := HW.out w6 2 cc hb6 rfl
                    have HX6 := Lib.hid hx6; have HY6 := Lib.hid hy6; have HB6 := Lib.hid hb6
                    clear hw6 hx6 hy6 hb6 y0 y1 y2 y3 y4 f0 f1 f2 f3 f4 hc2
                    obtain ⟨y0, y1, y2, y3, y4⟩ := cell5 HY6.out
                    obtain ⟨f0, f1, f2, f3, f4⟩ := froz5a HY6.out
                    go_upto_region 20 with (fail)
                    clear y0 y1 y2 y3 y4 f0 f1 f2 f3 f4 hc2'
                    by_cases hn0 : n = 0
                    · subst hn0
                      have hl0 : l = [] := List.eq_nil_of_length_eq_zero HLN.out
                      have HOK := Lib.hid (show Sk.one [a, b, cc, d] l = .inl ((x0, 0), 1, 0, x3) by rw [HL4.out, hl0]; rfl)
                      clear hl0
                      go_quiet (fail)
                      go_upto_region 22 with (fail)
                      obtain ⟨w5, hw5⟩ : ∃ w5, w5 = w6.drewN nq := ⟨_, rfl⟩
                      rw [← hw5]
                      have hb5 : Below w6.heap.size w6 w5 := by rw [hw5]; exact below_dq (Below.refl _ _) nq
                      have HX5 := Lib.hid (heap_keep HX6.out hb5); have HY5 := Lib.hid (heap_keep HY6.out hb5); have HB5 := Lib.hid (bch HB6.out hb5 (by have := HB6.out.size; have := HNB.out; omega))
                      clear hw5 hb5
                      obtain ⟨m0, m1, m2, m3, m4⟩ := cell5 HX5.out
                      obtain ⟨f0, f1, f2, f3, f4⟩ := froz5a HX5.out
                      obtain ⟨y0, y1, y2, y3, y4⟩ := cell5 HY5.out
                      go_wp2_with fail
                      obtain ⟨w7, hw7⟩ : ∃ w7, w7 = (((((w5.setCell ⟨nb, 0, none⟩ (.int .i64 x0)).setCell ⟨nb, 1, none⟩ (.int .i64 0)).setCell ⟨nb, 2, none⟩ (.int .i64 1)).setCell ⟨nb, 3, none⟩ (.int .i64 0)).setCell ⟨nb, 4, none⟩ (.int .i64 x3)) := ⟨_, rfl⟩
                      have hx7 := set5a HX5.out (.int .i64 x0) (.int .i64 0) (.int .i64 1) (.int .i64 0) (.int .i64 x3)
                      rw [← hw7] at hx7
                      have hb7 : Below nb w w7 := by rw [hw7]; exact below_set5 HB5.out (Nat.le_refl _) _ _ _ _ _
                      rw [← hw7]
                      clear hw7
                      obtain ⟨z0, z1, z2, z3, z4⟩ := cell5 hx7
                      refine bodyPost_ret (v := .tuple #[.agg #[.int .i64 x0, .int .i64 0, .int .i64 1, .int .i64 0, .int .i64 x3], .int .i64 0, .int .i64 0]) (by simp [results, Tryz.results42, go_sem, z0, z1, z2, z3, z4]) rfl ⟨?_, hb7⟩
                      exact refOneR_ok HOK.out rfl
                    · obtain ⟨y, hy⟩ : ∃ y, l[n - 1]? = some y := ⟨_, List.getElem?_eq_getElem (by have := HLN.out; omega)⟩
                      have hlast : l.getLast? = some y := by rw [List.getLast?_eq_getElem?, HLN.out]; exact hy
                      have HL5 := Lib.hid (show Sk.one [a, b, cc, d] l = if lessB y.1.1 y.1.2 x0 0 = true then .inl ((x0, 0), 1, 0, x3) else .inr (1, 6) by rw [HL4.out, hlast])
                      obtain ⟨g, off, n', c', e, d0, d1, _, _, _⟩ := HU.out.cells (by rw [HNB.out]; exact HB6.out) hy
                      injection e with e1 e2 e3
                      subst e1
                      clear hlast e2 e3 hy
                      obtain ⟨y0, y1, y2, y3, y4⟩ := cell5 HY6.out
                      have hn1 : 0 < n := by omega
                      have hnI : (0 : Int) < n := by omega
                      have hnz := decide_eq_true hnI
                      have hw1 : IntKind.i64.wrap ((n : Int) - 1) = (n : Int) - 1 := IntWalk.i64_in _ (by omega)
                      have hi0 : (0 : Int) ≤ (n : Int) - 1 := by omega
                      have hi3 : (1 : Int) ≤ n := by omega
                      have hi1 : (n : Int) - 1 < n := by omega
                      have hi2 : ((n : Int) - 1).toNat = n - 1 := by omega
                      have HH := Lib.hid (fun W (hb : Below w6.heap.size w6 W) => (⟨Lib.hid hb, (hb.cell (World.block_lt_of_cell? w6 _ d0)).trans d0, (hb.cell (World.block_lt_of_cell? w6 _ d1)).trans d1, (hb.cell (World.block_lt_of_cell? w6 _ y0)).trans y0, (hb.cell (World.block_lt_of_cell? w6 _ y1)).trans y1⟩ : (fun w' => Hid (Below w6.heap.size w6 w') ∧ w'.cell? ⟨g, off + (n - 1) * 5, none⟩ = some (.int .i64 y.1.1) ∧ w'.cell? ⟨g, off + (n - 1) * 5 + 1, none⟩ = some (.int .i64 y.1.2) ∧ w'.cell? ⟨nb + 1, 0, none⟩ = some (.int .i64 x0) ∧ w'.cell? ⟨nb + 1, 1, none⟩ = some (.int .i64 0)) W))
                      refine wp_region_noPanic ?_
                      refine wp_region_held_drew (S := (fun w' => Hid (Below w6.heap.size w6 w') ∧ w'.cell? ⟨g, off + (n - 1) * 5, none⟩ = some (.int .i64 y.1.1) ∧ w'.cell? ⟨g, off + (n - 1) * 5 + 1, none⟩ = some (.int .i64 y.1.2) ∧ w'.cell? ⟨nb + 1, 0, none⟩ = some (.int .i64 x0) ∧ w'.cell? ⟨nb + 1, 1, none⟩ = some (.int .i64 0))) (by kernel_rfl) (HH.out _ (below_drew1 (Below.refl w6.heap.size w6))) (fun hHeld => ?_)
                      refine wpAnyH_take (i := 0) (v := ?vc0_16) rfl (by kernel_rfl) (by kernel_rfl) (by kernel_rfl) (fun _ _ _ h => h) (Or.inl ⟨by rfl, ?hyc0_16⟩) (by assumption) ?restc0_16
                      case hyc0_16 => (intro w0 hSw; (try dsimp only at hSw); go_simp; try with_reducible rfl)
                      case' restc0_16 => try simp only [Act.put, List.getElem_toArray, List.getElem_cons_zero, List.getElem_cons_succ, List.setIfInBounds_toArray, List.set_cons_zero, List.set_cons_succ]
                      refine wpAnyH_take (i := 1) (v := ?vc1_17) rfl (by kernel_rfl) (by kernel_rfl) (by kernel_rfl) (fun _ _ _ h => h) (Or.inl ⟨by rfl, ?hyc1_17⟩) (by assumption) ?restc1_17
                      case hyc1_17 => (intro w0 hSw; (try dsimp only at hSw); go_simp; try with_reducible rfl)
                      case' restc1_17 => try simp only [Act.put, List.getElem_toArray, List.getElem_cons_zero, List.getElem_cons_succ, List.setIfInBounds_toArray, List.set_cons_zero, List.set_cons_succ]
                      refine wpAnyH_take (i := 2) (v := ?vc2_18) rfl (by kernel_rfl) (by kernel_rfl) (by kernel_rfl) (fun _ _ _ h => h) (Or.inl ⟨by rfl, ?hyc2_18⟩) (by assumption) ?restc2_18
                      case hyc2_18 => (intro w0 hSw; (try dsimp only at hSw); go_simp; try with_reducible rfl)
                      case' restc2_18 => try simp only [Act.put, List.getElem_toArray, List.getElem_cons_zero, List.getElem_cons_succ, List.setIfInBounds_toArray, List.set_cons_zero, List.set_cons_succ]
                      refine wpAnyH_take (i := 3) (v := ?vc3_19) rfl (by kernel_rfl) (by kernel_rfl) (by kernel_rfl) (fun _ _ _ h => h) (Or.inl ⟨by rfl, ?hyc3_19⟩) (by assumption) ?restc3_19
                      case hyc3_19 => (intro w0 hSw; (try dsimp only at hSw); go_simp; try with_reducible rfl)
                      case' restc3_19 => try simp only [Act.put, List.getElem_toArray, List.getElem_cons_zero, List.getElem_cons_succ, List.setIfInBounds_toArray, List.set_cons_zero, List.set_cons_succ]
                      refine wpAnyH_take (i := 4) (v := ?vc4_20) rfl (by kernel_rfl) (by kernel_rfl) (by kernel_rfl) (fun _ _ _ h => h) (Or.inl ⟨by rfl, ?hyc4_20⟩) (by assumption) ?restc4_20
                      case hyc4_20 => (intro w0 hSw; (try dsimp only at hSw); go_simp; try with_reducible rfl)
                      case' restc4_20 => try simp only [Act.put, List.getElem_toArray, List.getElem_cons_zero, List.getElem_cons_succ, List.setIfInBounds_toArray, List.set_cons_zero, List.set_cons_succ]
                      refine wpAnyH_take (i := 5) (v := ?vc5_21) rfl (by kernel_rfl) (by kernel_rfl) (by kernel_rfl) (fun _ _ _ h => h) (Or.inl ⟨by rfl, ?hyc5_21⟩) (by assumption) ?restc5_21
                      case hyc5_21 => (intro w0 hSw; (try dsimp only at hSw); go_simp; try with_reducible rfl)
                      case' restc5_21 => try simp only [Act.put, List.getElem_toArray, List.getElem_cons_zero, List.getElem_cons_succ, List.setIfInBounds_toArray, List.set_cons_zero, List.set_cons_succ]
                      refine wpAnyH_take (i := 6) (v := ?vc6_22) rfl (by kernel_rfl) (by kernel_rfl) (by kernel_rfl) (fun _ _ _ h => h) (Or.inl ⟨by rfl, ?hyc6_22⟩) (by assumption) ?restc6_22
                      case hyc6_22 => (intro w0 hSw; (try dsimp only at hSw); go_simp; try with_reducible rfl)
                      case' restc6_22 => try simp only [Act.put, List.getElem_toArray, List.getElem_cons_zero, List.getElem_cons_succ, List.setIfInBounds_toArray, List.set_cons_zero, List.set_cons_succ]
                      refine wpAnyH_take (i := 7) (v := ?vc7_23) rfl (by kernel_rfl) (by kernel_rfl) (by kernel_rfl) (fun _ _ _ h => h) (Or.inl ⟨by rfl, ?hyc7_23⟩) (by assumption) ?restc7_23
                      case hyc7_23 => (intro w0 hSw; (try dsimp only at hSw); go_simp; try with_reducible rfl)
                      case' restc7_23 => try simp only [Act.put, List.getElem_toArray, List.getElem_cons_zero, List.getElem_cons_succ, List.setIfInBounds_toArray, List.set_cons_zero, List.set_cons_succ]
                      refine wpAnyH_take (i := 8) (v := ?vc8_24) rfl (by kernel_rfl) (by kernel_rfl) (by kernel_rfl) (fun _ _ _ h => h) (Or.inl ⟨by rfl, ?hyc8_24⟩) (by assumption) ?restc8_24
                      case hyc8_24 => (intro w0 hSw; (try dsimp only at hSw); go_simp; try with_reducible rfl)
                      case' restc8_24 => try simp only [Act.put, List.getElem_toArray, List.getElem_cons_zero, List.getElem_cons_succ, List.setIfInBounds_toArray, List.set_cons_zero, List.set_cons_succ]
                      refine wpAnyH_take (i := 9) (v := ?vc9_25) rfl (by kernel_rfl) (by kernel_rfl) (by kernel_rfl) (fun _ _ _ h => h) (Or.inl ⟨by rfl, ?hyc9_25⟩) (by assumption) ?restc9_25
                      case hyc9_25 => (intro w0 hSw; (try dsimp only at hSw); go_simp; try with_reducible rfl)
                      case' restc9_25 => try simp only [Act.put, List.getElem_toArray, List.getElem_cons_zero, List.getElem_cons_succ, List.setIfInBounds_toArray, List.set_cons_zero, List.set_cons_succ]
                      refine wpAnyH_take (i := 10) (v := ?vc10_26) rfl (by kernel_rfl) (by kernel_rfl) (by kernel_rfl) (fun _ _ _ h => h) (Or.inl ⟨by rfl, ?hyc10_26⟩) (by assumption) ?restc10_26
                      case hyc10_26 => (intro w0 hSw; (try dsimp only at hSw); go_simp; try with_reducible rfl)
                      case' restc10_26 => try simp only [Act.put, List.getElem_toArray, List.getElem_cons_zero, List.getElem_cons_succ, List.setIfInBounds_toArray, List.set_cons_zero, List.set_cons_succ]
                      refine wpAnyH_take (i := 11) (v := ?vc11_27) rfl (by kernel_rfl) (by kernel_rfl) (by kernel_rfl) (fun _ _ _ h => h) (Or.inl ⟨by rfl, ?hyc11_27⟩) (by assumption) ?restc11_27
                      case hyc11_27 => (intro w0 hSw; (try dsimp only at hSw); go_simp; try with_reducible rfl)
                      case' restc11_27 => try simp only [Act.put, List.getElem_toArray, List.getElem_cons_zero, List.getElem_cons_succ, List.setIfInBounds_toArray, List.set_cons_zero, List.set_cons_succ]
                      refine wpAnyH_take (i := 12) (v := ?vc12_28) rfl (by kernel_rfl) (by kernel_rfl) (by kernel_rfl) (fun _ _ _ h => h) (Or.inl ⟨by rfl, ?hyc12_28⟩) (by assumption) ?restc12_28
                      case hyc12_28 => (intro w0 hSw; (try dsimp only at hSw); go_simp; try with_reducible rfl)
                      case' restc12_28 => try simp only [Act.put, List.getElem_toArray, List.getElem_cons_zero, List.getElem_cons_succ, List.setIfInBounds_toArray, List.set_cons_zero, List.set_cons_succ]
                      refine wpAnyH_ready (rs := [13]) (by kernel_rfl) (by simp) ?_
                      refine AllReadyH.cons rfl (fun K hK => ?_) AllReadyH.nil
                      go_simp
                      refine (refLess_any y.1.1 y.1.2 x0 0 _).mono ?_
                      rintro e w5 ⟨rfl, hb4⟩
                      refine hK.out _ _ (HH.out _ (bch (below_drew1 (Below.refl w6.heap.size w6)) hb4 (by simp))) (fun hHeld => ?_)
                      clear hK K
                      try simp only [Act.put, List.getElem_toArray, List.getElem_cons_zero, List.getElem_cons_succ, List.setIfInBounds_toArray, List.set_cons_zero, List.set_cons_succ]
                      refine wpAnyH_take (i := 14) (v := ?vc14_29) rfl (by kernel_rfl) (by kernel_rfl) (by kernel_rfl) (fun _ _ _ h => h) (Or.inl ⟨by rfl, ?hyc14_29⟩) (by assumption) ?restc14_29
                      case hyc14_29 => (intro w0 hSw; (try dsimp only at hSw); go_simp; try with_reducible rfl)
                      case' restc14_29 => try simp only [Act.put, List.getElem_toArray, List.getElem_cons_zero, List.getElem_cons_succ, List.setIfInBounds_toArray, List.set_cons_zero, List.set_cons_succ]
                      refine wpAnyH_take (i := 15) (v := ?vc15_30) rfl (by kernel_rfl) (by kernel_rfl) (by kernel_rfl) (fun _ _ _ h => h) (Or.inl ⟨by rfl, ?hyc15_30⟩) (by assumption) ?restc15_30
                      case hyc15_30 => (intro w0 hSw; (try dsimp only at hSw); go_simp; try with_reducible rfl)
                      case' restc15_30 => try simp only [Act.put, List.getElem_toArray, List.getElem_cons_zero, List.getElem_cons_succ, List.setIfInBounds_toArray, List.set_cons_zero, List.set_cons_succ]
                      refine wpAnyH_done (by kernel_rfl) ?_ _
                      refine NoPanic.normal ?_
                      have hb5 : Below w6.heap.size w6 w5 := bch (below_drew1 (Below.refl w6.heap.size w6)) hb4 (by simp)
                      clear hHeld HH hb4 y0 y1 y2 y3 y4 d0 d1 hw1 hi0 hi1 hi2 hi3 hnz
                      have HX5 := Lib.hid (heap_keep HX6.out hb5); have HY5 := Lib.hid (heap_keep HY6.out hb5); have HB5 := Lib.hid (bch HB6.out hb5 (by have := HB6.out.size; have := HNB.out; omega))
                      clear hb5
                      cases hls : lessB y.1.1 y.1.2 x0 0 with
                      | true =>
                        have HOK := Lib.hid (show Sk.one [a, b, cc, d] l = .inl ((x0, 0), 1, 0, x3) by rw [HL5.out, hls]; rfl)
                        clear hls
                        obtain ⟨m0, m1, m2, m3, m4⟩ := cell5 HX5.out
                        obtain ⟨f0, f1, f2, f3, f4⟩ := froz5a HX5.out
                        obtain ⟨y0, y1, y2, y3, y4⟩ := cell5 HY5.out
                        go_wp2_with fail
                        obtain ⟨w7, hw7⟩ : ∃ w7, w7 = (((((w5.setCell ⟨nb, 0, none⟩ (.int .i64 x0)).setCell ⟨nb, 1, none⟩ (.int .i64 0)).setCell ⟨nb, 2, none⟩ (.int .i64 1)).setCell ⟨nb, 3, none⟩ (.int .i64 0)).setCell ⟨nb, 4, none⟩ (.int .i64 x3)) := ⟨_, rfl⟩
                        have hx7 := set5a HX5.out (.int .i64 x0) (.int .i64 0) (.int .i64 1) (.int .i64 0) (.int .i64 x3)
                        rw [← hw7] at hx7
                        have hb7 : Below nb w w7 := by rw [hw7]; exact below_set5 HB5.out (Nat.le_refl _) _ _ _ _ _
                        rw [← hw7]
                        clear hw7
                        obtain ⟨z0, z1, z2, z3, z4⟩ := cell5 hx7
                        refine bodyPost_ret (v := .tuple #[.agg #[.int .i64 x0, .int .i64 0, .int .i64 1, .int .i64 0, .int .i64 x3], .int .i64 0, .int .i64 0]) (by simp [results, Tryz.results42, go_sem, z0, z1, z2, z3, z4]) rfl ⟨?_, hb7⟩
                        exact refOneR_ok HOK.out rfl
                      | false =>
                        have HBAD := Lib.hid (show Sk.one [a, b, cc, d] l = .inr (1, 6) by rw [HL5.out, hls]; rfl)
                        clear hls
                        obtain ⟨m0, m1, m2, m3, m4⟩ := cell5 HX5.out
                        obtain ⟨f0, f1, f2, f3, f4⟩ := froz5a HX5.out
                        obtain ⟨y0, y1, y2, y3, y4⟩ := cell5 HY5.out
                        go_wp2_with fail
                        obtain ⟨w7, hw7⟩ : ∃ w7, w7 = (((((w5.setCell ⟨nb, 0, none⟩ (.int .i64 x0)).setCell ⟨nb, 1, none⟩ (.int .i64 0)).setCell ⟨nb, 2, none⟩ (.int .i64 1)).setCell ⟨nb, 3, none⟩ (.int .i64 0)).setCell ⟨nb, 4, none⟩ (.int .i64 x3)) := ⟨_, rfl⟩
                        have hx7 := set5a HX5.out (.int .i64 x0) (.int .i64 0) (.int .i64 1) (.int .i64 0) (.int .i64 x3)
                        rw [← hw7] at hx7
                        have hb7 : Below nb w w7 := by rw [hw7]; exact below_set5 HB5.out (Nat.le_refl _) _ _ _ _ _
                        rw [← hw7]
                        clear hw7
                        obtain ⟨z0, z1, z2, z3, z4⟩ := cell5 hx7
                        refine bodyPost_ret (v := .tuple #[.agg #[.int .i64 x0, .int .i64 0, .int .i64 1, .int .i64 0, .int .i64 x3], .int .i64 1, .int .i64 6]) (by simp [results, Tryz.results42, go_sem, z0, z1, z2, z3, z4]) rfl ⟨?_, hb7⟩
                        exact refOneR_bad HBAD.out ((x0, 0), 1, 0, x3) rfl
              · have HL3 := Lib.hid (show Sk.one [a, b, cc, d] l = if (numB d 0 999 && (decide ((2 : Int) = 1) || decide ((getM d).1 = 0))) = false then .inr (4, 3) else match l.getLast? with | none => .inl ((x0, 0), 2, 0, (getM d).1) | some y => if lessB y.1.1 y.1.2 x0 0 = true then .inl ((x0, 0), 2, 0, (getM d).1) else .inr (1, 6) by rw [HL2.out, hck]; rfl)
                have k1 := text_eq hcw.symm
                have k2 := text_ne (show cc ≠ [100, 111, 110, 101] by rw [← hcw]; decide)
                rw [show codeW 2 = [114, 101, 102, 117, 115, 101, 100] from rfl] at k1
                clear hcw hck
                go_upto_region 13 with (fail)
                cases hz3 : numB d 0 999 with
                | false =>
                  have g0 := numI_no hz3
                  have HBAD := Lib.hid (show Sk.one [a, b, cc, d] l = .inr (4, 3) by rw [HL3.out, hz3]; rfl)
                  rw [g0] at HN3
                  clear hz3 g0
                  go_wp2_with fail
                  refine (HN3.out _).mono ?_
                  rintro e w3 ⟨rfl, hb3⟩
                  have HX3 := Lib.hid (heap_keep HX2.out hb3); have HY3 := Lib.hid (heap_keep HY2.out hb3); have HB3 := Lib.hid (bch HB2.out hb3 (by have := HB2.out.size; have := HNB.out; omega))
                  clear hb3 hc1 hc2 hc3
                  have hc1 := HW.out w3 1 b HB3.out rfl
                  have hc2 := HW.out w3 2 cc HB3.out rfl
                  have hc3 := HW.out w3 3 d HB3.out rfl
                  obtain ⟨m0, m1, m2, m3, m4⟩ := cell5 HX3.out
                  obtain ⟨f0, f1, f2, f3, f4⟩ := froz5a HX3.out
                  obtain ⟨y0, y1, y2, y3, y4⟩ := cell5 HY3.out
                  go_wp2_with fail
                  obtain ⟨w7, hw7⟩ : ∃ w7, w7 = (((((w3.setCell ⟨nb, 0, none⟩ (.int .i64 0)).setCell ⟨nb, 1, none⟩ (.int .i64 0)).setCell ⟨nb, 2, none⟩ (.int .i64 0)).setCell ⟨nb, 3, none⟩ (.int .i64 0)).setCell ⟨nb, 4, none⟩ (.int .i64 0)) := ⟨_, rfl⟩
                  have hx7 := set5a HX3.out (.int .i64 0) (.int .i64 0) (.int .i64 0) (.int .i64 0) (.int .i64 0)
                  rw [← hw7] at hx7
                  have hb7 : Below nb w w7 := by rw [hw7]; exact below_set5 HB3.out (Nat.le_refl _) _ _ _ _ _
                  rw [← hw7]
                  clear hw7
                  obtain ⟨z0, z1, z2, z3, z4⟩ := cell5 hx7
                  refine bodyPost_ret (v := .tuple #[.agg #[.int .i64 0, .int .i64 0, .int .i64 0, .int .i64 0, .int .i64 0], .int .i64 4, .int .i64 3]) (by simp [results, Tryz.results42, go_sem, z0, z1, z2, z3, z4]) rfl ⟨?_, hb7⟩
                  exact refOneR_bad HBAD.out ((0, 0), 0, 0, 0) rfl
                | true =>
                  obtain ⟨g0, g1, g2⟩ := numI_ok (.inl rfl) hz3
                  obtain ⟨x3, hx3⟩ : ∃ x, (getM d).1 = x := ⟨_, rfl⟩
                  rw [g0, hx3] at HN3
                  rw [hx3] at g1 g2
                  have q3 : ¬ x3 < 0 := by omega
                  by_cases q4 : 0 < x3
                  · have HBAD := Lib.hid (show Sk.one [a, b, cc, d] l = .inr (4, 3) by rw [HL3.out, hz3, hx3]; simp only [Bool.true_and]; rw [if_pos (by simp; omega)])
                    clear hz3 g0 hx3
                    go_wp2_with fail
                    refine (HN3.out _).mono ?_
                    rintro e w3 ⟨rfl, hb3⟩
                    have HX3 := Lib.hid (heap_keep HX2.out hb3); have HY3 := Lib.hid (heap_keep HY2.out hb3); have HB3 := Lib.hid (bch HB2.out hb3 (by have := HB2.out.size; have := HNB.out; omega))
                    clear hb3 hc1 hc2 hc3
                    have hc1 := HW.out w3 1 b HB3.out rfl
                    have hc2 := HW.out w3 2 cc HB3.out rfl
                    have hc3 := HW.out w3 3 d HB3.out rfl
                    obtain ⟨m0, m1, m2, m3, m4⟩ := cell5 HX3.out
                    obtain ⟨f0, f1, f2, f3, f4⟩ := froz5a HX3.out
                    obtain ⟨y0, y1, y2, y3, y4⟩ := cell5 HY3.out
                    go_wp2_with fail
                    obtain ⟨w7, hw7⟩ : ∃ w7, w7 = (((((w3.setCell ⟨nb, 0, none⟩ (.int .i64 0)).setCell ⟨nb, 1, none⟩ (.int .i64 0)).setCell ⟨nb, 2, none⟩ (.int .i64 0)).setCell ⟨nb, 3, none⟩ (.int .i64 0)).setCell ⟨nb, 4, none⟩ (.int .i64 0)) := ⟨_, rfl⟩
                    have hx7 := set5a HX3.out (.int .i64 0) (.int .i64 0) (.int .i64 0) (.int .i64 0) (.int .i64 0)
                    rw [← hw7] at hx7
                    have hb7 : Below nb w w7 := by rw [hw7]; exact below_set5 HB3.out (Nat.le_refl _) _ _ _ _ _
                    rw [← hw7]
                    clear hw7
                    obtain ⟨z0, z1, z2, z3, z4⟩ := cell5 hx7
                    refine bodyPost_ret (v := .tuple #[.agg #[.int .i64 0, .int .i64 0, .int .i64 0, .int .i64 0, .int .i64 0], .int .i64 4, .int .i64 3]) (by simp [results, Tryz.results42, go_sem, z0, z1, z2, z3, z4]) rfl ⟨?_, hb7⟩
                    exact refOneR_bad HBAD.out ((0, 0), 0, 0, 0) rfl
                  · obtain rfl : x3 = 0 := by omega
                    have HL4 := Lib.hid (show Sk.one [a, b, cc, d] l = match l.getLast? with | none => .inl ((x0, 0), 2, 0, 0) | some y => if lessB y.1.1 y.1.2 x0 0 = true then .inl ((x0, 0), 2, 0, 0) else .inr (1, 6) by rw [HL3.out, hz3, hx3]; rfl)
                    clear hz3 g0 hx3
                    go_wp2_with fail
                    refine (HN3.out _).mono ?_
                    rintro e w3 ⟨rfl, hb3⟩
                    have HX3 := Lib.hid (heap_keep HX2.out hb3); have HY3 := Lib.hid (heap_keep HY2.out hb3); have HB3 := Lib.hid (bch HB2.out hb3 (by have := HB2.out.size; have := HNB.out; omega))
                    clear hb3 hc1 hc2 hc3
                    have hc1 := HW.out w3 1 b HB3.out rfl
                    have hc2 := HW.out w3 2 cc HB3.out rfl
                    have hc3 := HW.out w3 3 d HB3.out rfl
                    go_wp2_with fail
                    refine (HD1.out _).mono ?_
                    rintro e w4 ⟨rfl, hb4⟩
                    have HX4 := Lib.hid (heap_keep HX3.out hb4); have HY4 := Lib.hid (heap_keep HY3.out hb4); have HB4 := Lib.hid (bch HB3.out hb4 (by have := HB3.out.size; have := HNB.out; omega))
                    clear hb4 hc1 hc2 hc3
                    have hc2 := HW.out w4 2 cc HB4.out rfl
                    obtain ⟨y0, y1, y2, y3, y4⟩ := cell5 HY4.out
                    obtain ⟨f0, f1, f2, f3, f4⟩ := froz5a HY4.out
                    go_upto_region 18 with (fail)
                    obtain ⟨w6, hw6⟩ : ∃ w6, w6 = (((((w4.setCell ⟨nb + 1, 0, none⟩ (.int .i64 x0)).setCell ⟨nb + 1, 1, none⟩ (.int .i64 0)).setCell ⟨nb + 1, 2, none⟩ (.int .i64 1)).setCell ⟨nb + 1, 3, none⟩ (.int .i64 0)).setCell ⟨nb + 1, 4, none⟩ (.int .i64 0)) := ⟨_, rfl⟩
                    rw [← hw6]
                    have hy6 := set5a HY4.out (.int .i64 x0) (.int .i64 0) (.int .i64 1) (.int .i64 0) (.int .i64 0)
                    rw [← hw6] at hy6
                    have hx6 : w6.heap[nb]? = some (.cells #[.int .i64 0, .int .i64 0, .int .i64 0, .int .i64 0, .int .i64 0] tRow (0, 0)) := by rw [hw6]; exact set_other (set_other (set_other (set_other (set_other HX4.out (by omega) _) (by omega) _) (by omega) _) (by omega) _) (by omega) _
                    have hb6 : Below nb w w6 := by rw [hw6]; exact below_set5 HB4.out (by omega) _ _ _ _ _
                    have hc2' : w6.cell? ⟨gb, go_ + 2, none⟩ = some (.string ⟨cc.toArray⟩) := HW.out w6 2 cc hb6 rfl
                    have HX6 := Lib.hid hx6; have HY6 := Lib.hid hy6; have HB6 := Lib.hid hb6
                    clear hw6 hx6 hy6 hb6 y0 y1 y2 y3 y4 f0 f1 f2 f3 f4 hc2
                    obtain ⟨y0, y1, y2, y3, y4⟩ := cell5 HY6.out
                    obtain ⟨f0, f1, f2, f3, f4⟩ := froz5a HY6.out
                    go_upto_region 20 with (fail)
                    obtain ⟨w8, hw8⟩ : ∃ w8, w8 = w6.setCell ⟨nb + 1, 2, none⟩ (.int .i64 2) := ⟨_, rfl⟩
                    rw [← hw8]
                    have HY8 := Lib.hid (show w8.heap[nb + 1]? = some (.cells #[.int .i64 x0, .int .i64 0, .int .i64 2, .int .i64 0, .int .i64 0] tRow (0, 0)) by rw [hw8]; have h := HY6.out; simp [World.setCell, Array.getElem?_modify, h])
                    have HX8 := Lib.hid (show w8.heap[nb]? = some (.cells #[.int .i64 0, .int .i64 0, .int .i64 0, .int .i64 0, .int .i64 0] tRow (0, 0)) by rw [hw8]; exact set_other HX6.out (by omega) _)
                    have HB8 := Lib.hid (show Below nb w w8 by rw [hw8]; exact HB6.out.setCell (p := ⟨nb + 1, 2, none⟩) (by show nb ≤ nb + 1; omega) _)
                    clear hw8 y0 y1 y2 y3 y4 f0 f1 f2 f3 f4 hc2'
                    by_cases hn0 : n = 0
                    · subst hn0
                      have hl0 : l = [] := List.eq_nil_of_length_eq_zero HLN.out
                      have HOK := Lib.hid (show Sk.one [a, b, cc, d] l = .inl ((x0, 0), 2, 0, 0) by rw [HL4.out, hl0]; rfl)
                      clear hl0
                      go_quiet (fail)
                      go_upto_region 22 with (fail)
                      obtain ⟨w5, hw5⟩ : ∃ w5, w5 = w8.drewN nq := ⟨_, rfl⟩
                      rw [← hw5]
                      have hb5 : Below w8.heap.size w8 w5 := by rw [hw5]; exact below_dq (Below.refl _ _) nq
                      have HX5 := Lib.hid (heap_keep HX8.out hb5); have HY5 := Lib.hid (heap_keep HY8.out hb5); have HB5 := Lib.hid (bch HB8.out hb5 (by have := HB8.out.size; have := HNB.out; omega))
                      clear hw5 hb5
                      obtain ⟨m0, m1, m2, m3, m4⟩ := cell5 HX5.out
                      obtain ⟨f0, f1, f2, f3, f4⟩ := froz5a HX5.out
                      obtain ⟨y0, y1, y2, y3, y4⟩ := cell5 HY5.out
                      go_wp2_with fail
                      obtain ⟨w7, hw7⟩ : ∃ w7, w7 = (((((w5.setCell ⟨nb, 0, none⟩ (.int .i64 x0)).setCell ⟨nb, 1, none⟩ (.int .i64 0)).setCell ⟨nb, 2, none⟩ (.int .i64 2)).setCell ⟨nb, 3, none⟩ (.int .i64 0)).setCell ⟨nb, 4, none⟩ (.int .i64 0)) := ⟨_, rfl⟩
                      have hx7 := set5a HX5.out (.int .i64 x0) (.int .i64 0) (.int .i64 2) (.int .i64 0) (.int .i64 0)
                      rw [← hw7] at hx7
                      have hb7 : Below nb w w7 := by rw [hw7]; exact below_set5 HB5.out (Nat.le_refl _) _ _ _ _ _
                      rw [← hw7]
                      clear hw7
                      obtain ⟨z0, z1, z2, z3, z4⟩ := cell5 hx7
                      refine bodyPost_ret (v := .tuple #[.agg #[.int .i64 x0, .int .i64 0, .int .i64 2, .int .i64 0, .int .i64 0], .int .i64 0, .int .i64 0]) (by simp [results, Tryz.results42, go_sem, z0, z1, z2, z3, z4]) rfl ⟨?_, hb7⟩
                      exact refOneR_ok HOK.out rfl
                    · obtain ⟨y, hy⟩ : ∃ y, l[n - 1]? = some y := ⟨_, List.getElem?_eq_getElem (by have := HLN.out; omega)⟩
                      have hlast : l.getLast? = some y := by rw [List.getLast?_eq_getElem?, HLN.out]; exact hy
                      have HL5 := Lib.hid (show Sk.one [a, b, cc, d] l = if lessB y.1.1 y.1.2 x0 0 = true then .inl ((x0, 0), 2, 0, 0) else .inr (1, 6) by rw [HL4.out, hlast])
                      obtain ⟨g, off, n', c', e, d0, d1, _, _, _⟩ := HU.out.cells (by rw [HNB.out]; exact HB8.out) hy
                      injection e with e1 e2 e3
                      subst e1
                      clear hlast e2 e3 hy
                      obtain ⟨y0, y1, y2, y3, y4⟩ := cell5 HY8.out
                      have hn1 : 0 < n := by omega
                      have hnI : (0 : Int) < n := by omega
                      have hnz := decide_eq_true hnI
                      have hw1 : IntKind.i64.wrap ((n : Int) - 1) = (n : Int) - 1 := IntWalk.i64_in _ (by omega)
                      have hi0 : (0 : Int) ≤ (n : Int) - 1 := by omega
                      have hi3 : (1 : Int) ≤ n := by omega
                      have hi1 : (n : Int) - 1 < n := by omega
                      have hi2 : ((n : Int) - 1).toNat = n - 1 := by omega
                      have HH := Lib.hid (fun W (hb : Below w8.heap.size w8 W) => (⟨Lib.hid hb, (hb.cell (World.block_lt_of_cell? w8 _ d0)).trans d0, (hb.cell (World.block_lt_of_cell? w8 _ d1)).trans d1, (hb.cell (World.block_lt_of_cell? w8 _ y0)).trans y0, (hb.cell (World.block_lt_of_cell? w8 _ y1)).trans y1⟩ : (fun w' => Hid (Below w8.heap.size w8 w') ∧ w'.cell? ⟨g, off + (n - 1) * 5, none⟩ = some (.int .i64 y.1.1) ∧ w'.cell? ⟨g, off + (n - 1) * 5 + 1, none⟩ = some (.int .i64 y.1.2) ∧ w'.cell? ⟨nb + 1, 0, none⟩ = some (.int .i64 x0) ∧ w'.cell? ⟨nb + 1, 1, none⟩ = some (.int .i64 0)) W))
                      refine wp_region_noPanic ?_
                      refine wp_region_held_drew (S := (fun w' => Hid (Below w8.heap.size w8 w') ∧ w'.cell? ⟨g, off + (n - 1) * 5, none⟩ = some (.int .i64 y.1.1) ∧ w'.cell? ⟨g, off + (n - 1) * 5 + 1, none⟩ = some (.int .i64 y.1.2) ∧ w'.cell? ⟨nb + 1, 0, none⟩ = some (.int .i64 x0) ∧ w'.cell? ⟨nb + 1, 1, none⟩ = some (.int .i64 0))) (by kernel_rfl) (HH.out _ (below_drew1 (Below.refl w8.heap.size w8))) (fun hHeld => ?_)
                      refine wpAnyH_take (i := 0) (v := ?vc0_31) rfl (by kernel_rfl) (by kernel_rfl) (by kernel_rfl) (fun _ _ _ h => h) (Or.inl ⟨by rfl, ?hyc0_31⟩) (by assumption) ?restc0_31
                      case hyc0_31 => (intro w0 hSw; (try dsimp only at hSw); go_simp; try with_reducible rfl)
                      case' restc0_31 => try simp only [Act.put, List.getElem_toArray, List.getElem_cons_zero, List.getElem_cons_succ, List.setIfInBounds_toArray, List.set_cons_zero, List.set_cons_succ]
                      refine wpAnyH_take (i := 1) (v := ?vc1_32) rfl (by kernel_rfl) (by kernel_rfl) (by kernel_rfl) (fun _ _ _ h => h) (Or.inl ⟨by rfl, ?hyc1_32⟩) (by assumption) ?restc1_32
                      case hyc1_32 => (intro w0 hSw; (try dsimp only at hSw); go_simp; try with_reducible rfl)
                      case' restc1_32 => try simp only [Act.put, List.getElem_toArray, List.getElem_cons_zero, List.getElem_cons_succ, List.setIfInBounds_toArray, List.set_cons_zero, List.set_cons_succ]
                      refine wpAnyH_take (i := 2) (v := ?vc2_33) rfl (by kernel_rfl) (by kernel_rfl) (by kernel_rfl) (fun _ _ _ h => h) (Or.inl ⟨by rfl, ?hyc2_33⟩) (by assumption) ?restc2_33
                      case hyc2_33 => (intro w0 hSw; (try dsimp only at hSw); go_simp; try with_reducible rfl)
                      case' restc2_33 => try simp only [Act.put, List.getElem_toArray, List.getElem_cons_zero, List.getElem_cons_succ, List.setIfInBounds_toArray, List.set_cons_zero, List.set_cons_succ]
                      refine wpAnyH_take (i := 3) (v := ?vc3_34) rfl (by kernel_rfl) (by kernel_rfl) (by kernel_rfl) (fun _ _ _ h => h) (Or.inl ⟨by rfl, ?hyc3_34⟩) (by assumption) ?restc3_34
                      case hyc3_34 => (intro w0 hSw; (try dsimp only at hSw); go_simp; try with_reducible rfl)
                      case' restc3_34 => try simp only [Act.put, List.getElem_toArray, List.getElem_cons_zero, List.getElem_cons_succ, List.setIfInBounds_toArray, List.set_cons_zero, List.set_cons_succ]
                      refine wpAnyH_take (i := 4) (v := ?vc4_35) rfl (by kernel_rfl) (by kernel_rfl) (by kernel_rfl) (fun _ _ _ h => h) (Or.inl ⟨by rfl, ?hyc4_35⟩) (by assumption) ?restc4_35
                      case hyc4_35 => (intro w0 hSw; (try dsimp only at hSw); go_simp; try with_reducible rfl)
                      case' restc4_35 => try simp only [Act.put, List.getElem_toArray, List.getElem_cons_zero, List.getElem_cons_succ, List.setIfInBounds_toArray, List.set_cons_zero, List.set_cons_succ]
                      refine wpAnyH_take (i := 5) (v := ?vc5_36) rfl (by kernel_rfl) (by kernel_rfl) (by kernel_rfl) (fun _ _ _ h => h) (Or.inl ⟨by rfl, ?hyc5_36⟩) (by assumption) ?restc5_36
                      case hyc5_36 => (intro w0 hSw; (try dsimp only at hSw); go_simp; try with_reducible rfl)
                      case' restc5_36 => try simp only [Act.put, List.getElem_toArray, List.getElem_cons_zero, List.getElem_cons_succ, List.setIfInBounds_toArray, List.set_cons_zero, List.set_cons_succ]
                      refine wpAnyH_take (i := 6) (v := ?vc6_37) rfl (by kernel_rfl) (by kernel_rfl) (by kernel_rfl) (fun _ _ _ h => h) (Or.inl ⟨by rfl, ?hyc6_37⟩) (by assumption) ?restc6_37
                      case hyc6_37 => (intro w0 hSw; (try dsimp only at hSw); go_simp; try with_reducible rfl)
                      case' restc6_37 => try simp only [Act.put, List.getElem_toArray, List.getElem_cons_zero, List.getElem_cons_succ, List.setIfInBounds_toArray, List.set_cons_zero, List.set_cons_succ]
                      refine wpAnyH_take (i := 7) (v := ?vc7_38) rfl (by kernel_rfl) (by kernel_rfl) (by kernel_rfl) (fun _ _ _ h => h) (Or.inl ⟨by rfl, ?hyc7_38⟩) (by assumption) ?restc7_38
                      case hyc7_38 => (intro w0 hSw; (try dsimp only at hSw); go_simp; try with_reducible rfl)
                      case' restc7_38 => try simp only [Act.put, List.getElem_toArray, List.getElem_cons_zero, List.getElem_cons_succ, List.setIfInBounds_toArray, List.set_cons_zero, List.set_cons_succ]
                      refine wpAnyH_take (i := 8) (v := ?vc8_39) rfl (by kernel_rfl) (by kernel_rfl) (by kernel_rfl) (fun _ _ _ h => h) (Or.inl ⟨by rfl, ?hyc8_39⟩) (by assumption) ?restc8_39
                      case hyc8_39 => (intro w0 hSw; (try dsimp only at hSw); go_simp; try with_reducible rfl)
                      case' restc8_39 => try simp only [Act.put, List.getElem_toArray, List.getElem_cons_zero, List.getElem_cons_succ, List.setIfInBounds_toArray, List.set_cons_zero, List.set_cons_succ]
                      refine wpAnyH_take (i := 9) (v := ?vc9_40) rfl (by kernel_rfl) (by kernel_rfl) (by kernel_rfl) (fun _ _ _ h => h) (Or.inl ⟨by rfl, ?hyc9_40⟩) (by assumption) ?restc9_40
                      case hyc9_40 => (intro w0 hSw; (try dsimp only at hSw); go_simp; try with_reducible rfl)
                      case' restc9_40 => try simp only [Act.put, List.getElem_toArray, List.getElem_cons_zero, List.getElem_cons_succ, List.setIfInBounds_toArray, List.set_cons_zero, List.set_cons_succ]
                      refine wpAnyH_take (i := 10) (v := ?vc10_41) rfl (by kernel_rfl) (by kernel_rfl) (by kernel_rfl) (fun _ _ _ h => h) (Or.inl ⟨by rfl, ?hyc10_41⟩) (by assumption) ?restc10_41
                      case hyc10_41 => (intro w0 hSw; (try dsimp only at hSw); go_simp; try with_reducible rfl)
                      case' restc10_41 => try simp only [Act.put, List.getElem_toArray, List.getElem_cons_zero, List.getElem_cons_succ, List.setIfInBounds_toArray, List.set_cons_zero, List.set_cons_succ]
                      refine wpAnyH_take (i := 11) (v := ?vc11_42) rfl (by kernel_rfl) (by kernel_rfl) (by kernel_rfl) (fun _ _ _ h => h) (Or.inl ⟨by rfl, ?hyc11_42⟩) (by assumption) ?restc11_42
                      case hyc11_42 => (intro w0 hSw; (try dsimp only at hSw); go_simp; try with_reducible rfl)
                      case' restc11_42 => try simp only [Act.put, List.getElem_toArray, List.getElem_cons_zero, List.getElem_cons_succ, List.setIfInBounds_toArray, List.set_cons_zero, List.set_cons_succ]
                      refine wpAnyH_take (i := 12) (v := ?vc12_43) rfl (by kernel_rfl) (by kernel_rfl) (by kernel_rfl) (fun _ _ _ h => h) (Or.inl ⟨by rfl, ?hyc12_43⟩) (by assumption) ?restc12_43
                      case hyc12_43 => (intro w0 hSw; (try dsimp only at hSw); go_simp; try with_reducible rfl)
                      case' restc12_43 => try simp only [Act.put, List.getElem_toArray, List.getElem_cons_zero, List.getElem_cons_succ, List.setIfInBounds_toArray, List.set_cons_zero, List.set_cons_succ]
                      refine wpAnyH_ready (rs := [13]) (by kernel_rfl) (by simp) ?_
                      refine AllReadyH.cons rfl (fun K hK => ?_) AllReadyH.nil
                      go_simp
                      refine (refLess_any y.1.1 y.1.2 x0 0 _).mono ?_
                      rintro e w5 ⟨rfl, hb4⟩
                      refine hK.out _ _ (HH.out _ (bch (below_drew1 (Below.refl w8.heap.size w8)) hb4 (by simp))) (fun hHeld => ?_)
                      clear hK K
                      try simp only [Act.put, List.getElem_toArray, List.getElem_cons_zero, List.getElem_cons_succ, List.setIfInBounds_toArray, List.set_cons_zero, List.set_cons_succ]
                      refine wpAnyH_take (i := 14) (v := ?vc14_44) rfl (by kernel_rfl) (by kernel_rfl) (by kernel_rfl) (fun _ _ _ h => h) (Or.inl ⟨by rfl, ?hyc14_44⟩) (by assumption) ?restc14_44
                      case hyc14_44 => (intro w0 hSw; (try dsimp only at hSw); go_simp; try with_reducible rfl)
                      case' restc14_44 => try simp only [Act.put, List.getElem_toArray, List.getElem_cons_zero, List.getElem_cons_succ, List.setIfInBounds_toArray, List.set_cons_zero, List.set_cons_succ]
                      refine wpAnyH_take (i := 15) (v := ?vc15_45) rfl (by kernel_rfl) (by kernel_rfl) (by kernel_rfl) (fun _ _ _ h => h) (Or.inl ⟨by rfl, ?hyc15_45⟩) (by assumption) ?restc15_45
                      case hyc15_45 => (intro w0 hSw; (try dsimp only at hSw); go_simp; try with_reducible rfl)
                      case' restc15_45 => try simp only [Act.put, List.getElem_toArray, List.getElem_cons_zero, List.getElem_cons_succ, List.setIfInBounds_toArray, List.set_cons_zero, List.set_cons_succ]
                      refine wpAnyH_done (by kernel_rfl) ?_ _
                      refine NoPanic.normal ?_
                      have hb5 : Below w8.heap.size w8 w5 := bch (below_drew1 (Below.refl w8.heap.size w8)) hb4 (by simp)
                      clear hHeld HH hb4 y0 y1 y2 y3 y4 d0 d1 hw1 hi0 hi1 hi2 hi3 hnz
                      have HX5 := Lib.hid (heap_keep HX8.out hb5); have HY5 := Lib.hid (heap_keep HY8.out hb5); have HB5 := Lib.hid (bch HB8.out hb5 (by have := HB8.out.size; have := HNB.out; omega))
                      clear hb5
                      cases hls : lessB y.1.1 y.1.2 x0 0 with
                      | true =>
                        have HOK := Lib.hid (show Sk.one [a, b, cc, d] l = .inl ((x0, 0), 2, 0, 0) by rw [HL5.out, hls]; rfl)
                        clear hls
                        obtain ⟨m0, m1, m2, m3, m4⟩ := cell5 HX5.out
                        obtain ⟨f0, f1, f2, f3, f4⟩ := froz5a HX5.out
                        obtain ⟨y0, y1, y2, y3, y4⟩ := cell5 HY5.out
                        go_wp2_with fail
                        obtain ⟨w7, hw7⟩ : ∃ w7, w7 = (((((w5.setCell ⟨nb, 0, none⟩ (.int .i64 x0)).setCell ⟨nb, 1, none⟩ (.int .i64 0)).setCell ⟨nb, 2, none⟩ (.int .i64 2)).setCell ⟨nb, 3, none⟩ (.int .i64 0)).setCell ⟨nb, 4, none⟩ (.int .i64 0)) := ⟨_, rfl⟩
                        have hx7 := set5a HX5.out (.int .i64 x0) (.int .i64 0) (.int .i64 2) (.int .i64 0) (.int .i64 0)
                        rw [← hw7] at hx7
                        have hb7 : Below nb w w7 := by rw [hw7]; exact below_set5 HB5.out (Nat.le_refl _) _ _ _ _ _
                        rw [← hw7]
                        clear hw7
                        obtain ⟨z0, z1, z2, z3, z4⟩ := cell5 hx7
                        refine bodyPost_ret (v := .tuple #[.agg #[.int .i64 x0, .int .i64 0, .int .i64 2, .int .i64 0, .int .i64 0], .int .i64 0, .int .i64 0]) (by simp [results, Tryz.results42, go_sem, z0, z1, z2, z3, z4]) rfl ⟨?_, hb7⟩
                        exact refOneR_ok HOK.out rfl
                      | false =>
                        have HBAD := Lib.hid (show Sk.one [a, b, cc, d] l = .inr (1, 6) by rw [HL5.out, hls]; rfl)
                        clear hls
                        obtain ⟨m0, m1, m2, m3, m4⟩ := cell5 HX5.out
                        obtain ⟨f0, f1, f2, f3, f4⟩ := froz5a HX5.out
                        obtain ⟨y0, y1, y2, y3, y4⟩ := cell5 HY5.out
                        go_wp2_with fail
                        obtain ⟨w7, hw7⟩ : ∃ w7, w7 = (((((w5.setCell ⟨nb, 0, none⟩ (.int .i64 x0)).setCell ⟨nb, 1, none⟩ (.int .i64 0)).setCell ⟨nb, 2, none⟩ (.int .i64 2)).setCell ⟨nb, 3, none⟩ (.int .i64 0)).setCell ⟨nb, 4, none⟩ (.int .i64 0)) := ⟨_, rfl⟩
                        have hx7 := set5a HX5.out (.int .i64 x0) (.int .i64 0) (.int .i64 2) (.int .i64 0) (.int .i64 0)
                        rw [← hw7] at hx7
                        have hb7 : Below nb w w7 := by rw [hw7]; exact below_set5 HB5.out (Nat.le_refl _) _ _ _ _ _
                        rw [← hw7]
                        clear hw7
                        obtain ⟨z0, z1, z2, z3, z4⟩ := cell5 hx7
                        refine bodyPost_ret (v := .tuple #[.agg #[.int .i64 x0, .int .i64 0, .int .i64 2, .int .i64 0, .int .i64 0], .int .i64 1, .int .i64 6]) (by simp [results, Tryz.results42, go_sem, z0, z1, z2, z3, z4]) rfl ⟨?_, hb7⟩
                        exact refOneR_bad HBAD.out ((x0, 0), 2, 0, 0) rfl
            · have HBAD := Lib.hid (show Sk.one [a, b, cc, d] l = .inr (3, 3) by rw [HL2.out, hck]; rfl)
              have k1 := text_ne hn1
              have k2 := text_ne hn2
              unfold wDone at k1
              unfold wRef at k2
              clear hn1 hn2 hck
              obtain ⟨m0, m1, m2, m3, m4⟩ := cell5 HX2.out
              obtain ⟨f0, f1, f2, f3, f4⟩ := froz5a HX2.out
              obtain ⟨y0, y1, y2, y3, y4⟩ := cell5 HY2.out
              go_wp2_with fail
              obtain ⟨w7, hw7⟩ : ∃ w7, w7 = (((((w2.setCell ⟨nb, 0, none⟩ (.int .i64 0)).setCell ⟨nb, 1, none⟩ (.int .i64 0)).setCell ⟨nb, 2, none⟩ (.int .i64 0)).setCell ⟨nb, 3, none⟩ (.int .i64 0)).setCell ⟨nb, 4, none⟩ (.int .i64 0)) := ⟨_, rfl⟩
              have hx7 := set5a HX2.out (.int .i64 0) (.int .i64 0) (.int .i64 0) (.int .i64 0) (.int .i64 0)
              rw [← hw7] at hx7
              have hb7 : Below nb w w7 := by rw [hw7]; exact below_set5 HB2.out (Nat.le_refl _) _ _ _ _ _
              rw [← hw7]
              clear hw7
              obtain ⟨z0, z1, z2, z3, z4⟩ := cell5 hx7
              refine bodyPost_ret (v := .tuple #[.agg #[.int .i64 0, .int .i64 0, .int .i64 0, .int .i64 0, .int .i64 0], .int .i64 3, .int .i64 3]) (by simp [results, Tryz.results42, go_sem, z0, z1, z2, z3, z4]) rfl ⟨?_, hb7⟩
              exact refOneR_bad HBAD.out ((0, 0), 0, 0, 0) rfl
          · have hdk : deedK b = (3, true) := by rw [hd]; decide
            rw [hdk] at HD1
            have HL2 := Lib.hid (show Sk.one [a, b, cc, d] l = if (codeK cc).2 = false then .inr (3, 3) else if (numB d 0 999 && (decide ((codeK cc).1 = 1) || decide ((getM d).1 = 0))) = false then .inr (4, 3) else match l.getLast? with | none => .inl ((x0, 3), (codeK cc).1, 0, (getM d).1) | some y => if lessB y.1.1 y.1.2 x0 3 = true then .inl ((x0, 3), (codeK cc).1, 0, (getM d).1) else .inr (1, 6) by rw [HONE2.out, hdk]; rfl)
            have e1 := text_ne (show b ≠ [114, 101, 115, 101, 114, 118, 101] by rw [hd]; decide)
            have e2 := text_eq (show b = [114, 101, 108, 101, 97, 115, 101] from hd)
            clear hd hdk
            go_upto_region 11 with (fail)
            rcases code_cases cc with ⟨cv, hcv, hcw, hck⟩ | ⟨hn1, hn2, hck⟩
            · rcases hcv with rfl | rfl
              · have HL3 := Lib.hid (show Sk.one [a, b, cc, d] l = if (numB d 0 999 && (decide ((1 : Int) = 1) || decide ((getM d).1 = 0))) = false then .inr (4, 3) else match l.getLast? with | none => .inl ((x0, 3), 1, 0, (getM d).1) | some y => if lessB y.1.1 y.1.2 x0 3 = true then .inl ((x0, 3), 1, 0, (getM d).1) else .inr (1, 6) by rw [HL2.out, hck]; rfl)
                have k1 := text_eq hcw.symm
                have k2 := text_ne (show cc ≠ [114, 101, 102, 117, 115, 101, 100] by rw [← hcw]; decide)
                rw [show codeW 1 = [100, 111, 110, 101] from rfl] at k1
                clear hcw hck
                go_upto_region 13 with (fail)
                cases hz3 : numB d 0 999 with
                | false =>
                  have g0 := numI_no hz3
                  have HBAD := Lib.hid (show Sk.one [a, b, cc, d] l = .inr (4, 3) by rw [HL3.out, hz3]; rfl)
                  rw [g0] at HN3
                  clear hz3 g0
                  go_wp2_with fail
                  refine (HN3.out _).mono ?_
                  rintro e w3 ⟨rfl, hb3⟩
                  have HX3 := Lib.hid (heap_keep HX2.out hb3); have HY3 := Lib.hid (heap_keep HY2.out hb3); have HB3 := Lib.hid (bch HB2.out hb3 (by have := HB2.out.size; have := HNB.out; omega))
                  clear hb3 hc1 hc2 hc3
                  have hc1 := HW.out w3 1 b HB3.out rfl
                  have hc2 := HW.out w3 2 cc HB3.out rfl
                  have hc3 := HW.out w3 3 d HB3.out rfl
                  obtain ⟨m0, m1, m2, m3, m4⟩ := cell5 HX3.out
                  obtain ⟨f0, f1, f2, f3, f4⟩ := froz5a HX3.out
                  obtain ⟨y0, y1, y2, y3, y4⟩ := cell5 HY3.out
                  go_wp2_with fail
                  obtain ⟨w7, hw7⟩ : ∃ w7, w7 = (((((w3.setCell ⟨nb, 0, none⟩ (.int .i64 0)).setCell ⟨nb, 1, none⟩ (.int .i64 0)).setCell ⟨nb, 2, none⟩ (.int .i64 0)).setCell ⟨nb, 3, none⟩ (.int .i64 0)).setCell ⟨nb, 4, none⟩ (.int .i64 0)) := ⟨_, rfl⟩
                  have hx7 := set5a HX3.out (.int .i64 0) (.int .i64 0) (.int .i64 0) (.int .i64 0) (.int .i64 0)
                  rw [← hw7] at hx7
                  have hb7 : Below nb w w7 := by rw [hw7]; exact below_set5 HB3.out (Nat.le_refl _) _ _ _ _ _
                  rw [← hw7]
                  clear hw7
                  obtain ⟨z0, z1, z2, z3, z4⟩ := cell5 hx7
                  refine bodyPost_ret (v := .tuple #[.agg #[.int .i64 0, .int .i64 0, .int .i64 0, .int .i64 0, .int .i64 0], .int .i64 4, .int .i64 3]) (by simp [results, Tryz.results42, go_sem, z0, z1, z2, z3, z4]) rfl ⟨?_, hb7⟩
                  exact refOneR_bad HBAD.out ((0, 0), 0, 0, 0) rfl
                | true =>
                  obtain ⟨g0, g1, g2⟩ := numI_ok (.inl rfl) hz3
                  obtain ⟨x3, hx3⟩ : ∃ x, (getM d).1 = x := ⟨_, rfl⟩
                  rw [g0, hx3] at HN3
                  rw [hx3] at g1 g2
                  have q3 : ¬ x3 < 0 := by omega
                  have HL4 := Lib.hid (show Sk.one [a, b, cc, d] l = match l.getLast? with | none => .inl ((x0, 3), 1, 0, x3) | some y => if lessB y.1.1 y.1.2 x0 3 = true then .inl ((x0, 3), 1, 0, x3) else .inr (1, 6) by rw [HL3.out, hz3, hx3]; rfl)
                  clear hz3 g0 hx3
                  go_wp2_with fail
                  refine (HN3.out _).mono ?_
                  rintro e w3 ⟨rfl, hb3⟩
                  have HX3 := Lib.hid (heap_keep HX2.out hb3); have HY3 := Lib.hid (heap_keep HY2.out hb3); have HB3 := Lib.hid (bch HB2.out hb3 (by have := HB2.out.size; have := HNB.out; omega))
                  clear hb3 hc1 hc2 hc3
                  have hc1 := HW.out w3 1 b HB3.out rfl
                  have hc2 := HW.out w3 2 cc HB3.out rfl
                  have hc3 := HW.out w3 3 d HB3.out rfl
                  by_cases q4 : 0 < x3
                  · go_wp2_with fail
                    refine (HD1.out _).mono ?_
                    rintro e w4 ⟨rfl, hb4⟩
                    have HX4 := Lib.hid (heap_keep HX3.out hb4); have HY4 := Lib.hid (heap_keep HY3.out hb4); have HB4 := Lib.hid (bch HB3.out hb4 (by have := HB3.out.size; have := HNB.out; omega))
                    clear hb4 hc1 hc2 hc3
                    have hc2 := HW.out w4 2 cc HB4.out rfl
                    obtain ⟨y0, y1, y2, y3, y4⟩ := cell5 HY4.out
                    obtain ⟨f0, f1, f2, f3, f4⟩ := froz5a HY4.out
                    go_upto_region 18 with (fail)
                    obtain ⟨w6, hw6⟩ : ∃ w6, w6 = (((((w4.setCell ⟨nb + 1, 0, none⟩ (.int .i64 x0)).setCell ⟨nb + 1, 1, none⟩ (.int .i64 3)).setCell ⟨nb + 1, 2, none⟩ (.int .i64 1)).setCell ⟨nb + 1, 3, none⟩ (.int .i64 0)).setCell ⟨nb + 1, 4, none⟩ (.int .i64 x3)) := ⟨_, rfl⟩
                    rw [← hw6]
                    have hy6 := set5a HY4.out (.int .i64 x0) (.int .i64 3) (.int .i64 1) (.int .i64 0) (.int .i64 x3)
                    rw [← hw6] at hy6
                    have hx6 : w6.heap[nb]? = some (.cells #[.int .i64 0, .int .i64 0, .int .i64 0, .int .i64 0, .int .i64 0] tRow (0, 0)) := by rw [hw6]; exact set_other (set_other (set_other (set_other (set_other HX4.out (by omega) _) (by omega) _) (by omega) _) (by omega) _) (by omega) _
                    have hb6 : Below nb w w6 := by rw [hw6]; exact below_set5 HB4.out (by omega) _ _ _ _ _
                    have hc2' : w6.cell? ⟨gb, go_ + 2, none⟩ = some (.string ⟨cc.toArray⟩) := HW.out w6 2 cc hb6 rfl
                    have HX6 := Lib.hid hx6; have HY6 := Lib.hid hy6; have HB6 := Lib.hid hb6
                    clear hw6 hx6 hy6 hb6 y0 y1 y2 y3 y4 f0 f1 f2 f3 f4 hc2
                    obtain ⟨y0, y1, y2, y3, y4⟩ := cell5 HY6.out
                    obtain ⟨f0, f1, f2, f3, f4⟩ := froz5a HY6.out
                    go_upto_region 20 with (fail)
                    clear y0 y1 y2 y3 y4 f0 f1 f2 f3 f4 hc2'
                    by_cases hn0 : n = 0
                    · subst hn0
                      have hl0 : l = [] := List.eq_nil_of_length_eq_zero HLN.out
                      have HOK := Lib.hid (show Sk.one [a, b, cc, d] l = .inl ((x0, 3), 1, 0, x3) by rw [HL4.out, hl0]; rfl)
                      clear hl0
                      go_quiet (fail)
                      go_upto_region 22 with (fail)
                      obtain ⟨w5, hw5⟩ : ∃ w5, w5 = w6.drewN nq := ⟨_, rfl⟩
                      rw [← hw5]
                      have hb5 : Below w6.heap.size w6 w5 := by rw [hw5]; exact below_dq (Below.refl _ _) nq
                      have HX5 := Lib.hid (heap_keep HX6.out hb5); have HY5 := Lib.hid (heap_keep HY6.out hb5); have HB5 := Lib.hid (bch HB6.out hb5 (by have := HB6.out.size; have := HNB.out; omega))
                      clear hw5 hb5
                      obtain ⟨m0, m1, m2, m3, m4⟩ := cell5 HX5.out
                      obtain ⟨f0, f1, f2, f3, f4⟩ := froz5a HX5.out
                      obtain ⟨y0, y1, y2, y3, y4⟩ := cell5 HY5.out
                      go_wp2_with fail
                      obtain ⟨w7, hw7⟩ : ∃ w7, w7 = (((((w5.setCell ⟨nb, 0, none⟩ (.int .i64 x0)).setCell ⟨nb, 1, none⟩ (.int .i64 3)).setCell ⟨nb, 2, none⟩ (.int .i64 1)).setCell ⟨nb, 3, none⟩ (.int .i64 0)).setCell ⟨nb, 4, none⟩ (.int .i64 x3)) := ⟨_, rfl⟩
                      have hx7 := set5a HX5.out (.int .i64 x0) (.int .i64 3) (.int .i64 1) (.int .i64 0) (.int .i64 x3)
                      rw [← hw7] at hx7
                      have hb7 : Below nb w w7 := by rw [hw7]; exact below_set5 HB5.out (Nat.le_refl _) _ _ _ _ _
                      rw [← hw7]
                      clear hw7
                      obtain ⟨z0, z1, z2, z3, z4⟩ := cell5 hx7
                      refine bodyPost_ret (v := .tuple #[.agg #[.int .i64 x0, .int .i64 3, .int .i64 1, .int .i64 0, .int .i64 x3], .int .i64 0, .int .i64 0]) (by simp [results, Tryz.results42, go_sem, z0, z1, z2, z3, z4]) rfl ⟨?_, hb7⟩
                      exact refOneR_ok HOK.out rfl
                    · obtain ⟨y, hy⟩ : ∃ y, l[n - 1]? = some y := ⟨_, List.getElem?_eq_getElem (by have := HLN.out; omega)⟩
                      have hlast : l.getLast? = some y := by rw [List.getLast?_eq_getElem?, HLN.out]; exact hy
                      have HL5 := Lib.hid (show Sk.one [a, b, cc, d] l = if lessB y.1.1 y.1.2 x0 3 = true then .inl ((x0, 3), 1, 0, x3) else .inr (1, 6) by rw [HL4.out, hlast])
                      obtain ⟨g, off, n', c', e, d0, d1, _, _, _⟩ := HU.out.cells (by rw [HNB.out]; exact HB6.out) hy
                      injection e with e1 e2 e3
                      subst e1
                      clear hlast e2 e3 hy
                      obtain ⟨y0, y1, y2, y3, y4⟩ := cell5 HY6.out
                      have hn1 : 0 < n := by omega
                      have hnI : (0 : Int) < n := by omega
                      have hnz := decide_eq_true hnI
                      have hw1 : IntKind.i64.wrap ((n : Int) - 1) = (n : Int) - 1 := IntWalk.i64_in _ (by omega)
                      have hi0 : (0 : Int) ≤ (n : Int) - 1 := by omega
                      have hi3 : (1 : Int) ≤ n := by omega
                      have hi1 : (n : Int) - 1 < n := by omega
                      have hi2 : ((n : Int) - 1).toNat = n - 1 := by omega
                      have HH := Lib.hid (fun W (hb : Below w6.heap.size w6 W) => (⟨Lib.hid hb, (hb.cell (World.block_lt_of_cell? w6 _ d0)).trans d0, (hb.cell (World.block_lt_of_cell? w6 _ d1)).trans d1, (hb.cell (World.block_lt_of_cell? w6 _ y0)).trans y0, (hb.cell (World.block_lt_of_cell? w6 _ y1)).trans y1⟩ : (fun w' => Hid (Below w6.heap.size w6 w') ∧ w'.cell? ⟨g, off + (n - 1) * 5, none⟩ = some (.int .i64 y.1.1) ∧ w'.cell? ⟨g, off + (n - 1) * 5 + 1, none⟩ = some (.int .i64 y.1.2) ∧ w'.cell? ⟨nb + 1, 0, none⟩ = some (.int .i64 x0) ∧ w'.cell? ⟨nb + 1, 1, none⟩ = some (.int .i64 3)) W))
                      refine wp_region_noPanic ?_
                      refine wp_region_held_drew (S := (fun w' => Hid (Below w6.heap.size w6 w') ∧ w'.cell? ⟨g, off + (n - 1) * 5, none⟩ = some (.int .i64 y.1.1) ∧ w'.cell? ⟨g, off + (n - 1) * 5 + 1, none⟩ = some (.int .i64 y.1.2) ∧ w'.cell? ⟨nb + 1, 0, none⟩ = some (.int .i64 x0) ∧ w'.cell? ⟨nb + 1, 1, none⟩ = some (.int .i64 3))) (by kernel_rfl) (HH.out _ (below_drew1 (Below.refl w6.heap.size w6))) (fun hHeld => ?_)
                      refine wpAnyH_take (i := 0) (v := ?vc0_46) rfl (by kernel_rfl) (by kernel_rfl) (by kernel_rfl) (fun _ _ _ h => h) (Or.inl ⟨by rfl, ?hyc0_46⟩) (by assumption) ?restc0_46
                      case hyc0_46 => (intro w0 hSw; (try dsimp only at hSw); go_simp; try with_reducible rfl)
                      case' restc0_46 => try simp only [Act.put, List.getElem_toArray, List.getElem_cons_zero, List.getElem_cons_succ, List.setIfInBounds_toArray, List.set_cons_zero, List.set_cons_succ]
                      refine wpAnyH_take (i := 1) (v := ?vc1_47) rfl (by kernel_rfl) (by kernel_rfl) (by kernel_rfl) (fun _ _ _ h => h) (Or.inl ⟨by rfl, ?hyc1_47⟩) (by assumption) ?restc1_47
                      case hyc1_47 => (intro w0 hSw; (try dsimp only at hSw); go_simp; try with_reducible rfl)
                      case' restc1_47 => try simp only [Act.put, List.getElem_toArray, List.getElem_cons_zero, List.getElem_cons_succ, List.setIfInBounds_toArray, List.set_cons_zero, List.set_cons_succ]
                      refine wpAnyH_take (i := 2) (v := ?vc2_48) rfl (by kernel_rfl) (by kernel_rfl) (by kernel_rfl) (fun _ _ _ h => h) (Or.inl ⟨by rfl, ?hyc2_48⟩) (by assumption) ?restc2_48
                      case hyc2_48 => (intro w0 hSw; (try dsimp only at hSw); go_simp; try with_reducible rfl)
                      case' restc2_48 => try simp only [Act.put, List.getElem_toArray, List.getElem_cons_zero, List.getElem_cons_succ, List.setIfInBounds_toArray, List.set_cons_zero, List.set_cons_succ]
                      refine wpAnyH_take (i := 3) (v := ?vc3_49) rfl (by kernel_rfl) (by kernel_rfl) (by kernel_rfl) (fun _ _ _ h => h) (Or.inl ⟨by rfl, ?hyc3_49⟩) (by assumption) ?restc3_49
                      case hyc3_49 => (intro w0 hSw; (try dsimp only at hSw); go_simp; try with_reducible rfl)
                      case' restc3_49 => try simp only [Act.put, List.getElem_toArray, List.getElem_cons_zero, List.getElem_cons_succ, List.setIfInBounds_toArray, List.set_cons_zero, List.set_cons_succ]
                      refine wpAnyH_take (i := 4) (v := ?vc4_50) rfl (by kernel_rfl) (by kernel_rfl) (by kernel_rfl) (fun _ _ _ h => h) (Or.inl ⟨by rfl, ?hyc4_50⟩) (by assumption) ?restc4_50
                      case hyc4_50 => (intro w0 hSw; (try dsimp only at hSw); go_simp; try with_reducible rfl)
                      case' restc4_50 => try simp only [Act.put, List.getElem_toArray, List.getElem_cons_zero, List.getElem_cons_succ, List.setIfInBounds_toArray, List.set_cons_zero, List.set_cons_succ]
                      refine wpAnyH_take (i := 5) (v := ?vc5_51) rfl (by kernel_rfl) (by kernel_rfl) (by kernel_rfl) (fun _ _ _ h => h) (Or.inl ⟨by rfl, ?hyc5_51⟩) (by assumption) ?restc5_51
                      case hyc5_51 => (intro w0 hSw; (try dsimp only at hSw); go_simp; try with_reducible rfl)
                      case' restc5_51 => try simp only [Act.put, List.getElem_toArray, List.getElem_cons_zero, List.getElem_cons_succ, List.setIfInBounds_toArray, List.set_cons_zero, List.set_cons_succ]
                      refine wpAnyH_take (i := 6) (v := ?vc6_52) rfl (by kernel_rfl) (by kernel_rfl) (by kernel_rfl) (fun _ _ _ h => h) (Or.inl ⟨by rfl, ?hyc6_52⟩) (by assumption) ?restc6_52
                      case hyc6_52 => (intro w0 hSw; (try dsimp only at hSw); go_simp; try with_reducible rfl)
                      case' restc6_52 => try simp only [Act.put, List.getElem_toArray, List.getElem_cons_zero, List.getElem_cons_succ, List.setIfInBounds_toArray, List.set_cons_zero, List.set_cons_succ]
                      refine wpAnyH_take (i := 7) (v := ?vc7_53) rfl (by kernel_rfl) (by kernel_rfl) (by kernel_rfl) (fun _ _ _ h => h) (Or.inl ⟨by rfl, ?hyc7_53⟩) (by assumption) ?restc7_53
                      case hyc7_53 => (intro w0 hSw; (try dsimp only at hSw); go_simp; try with_reducible rfl)
                      case' restc7_53 => try simp only [Act.put, List.getElem_toArray, List.getElem_cons_zero, List.getElem_cons_succ, List.setIfInBounds_toArray, List.set_cons_zero, List.set_cons_succ]
                      refine wpAnyH_take (i := 8) (v := ?vc8_54) rfl (by kernel_rfl) (by kernel_rfl) (by kernel_rfl) (fun _ _ _ h => h) (Or.inl ⟨by rfl, ?hyc8_54⟩) (by assumption) ?restc8_54
                      case hyc8_54 => (intro w0 hSw; (try dsimp only at hSw); go_simp; try with_reducible rfl)
                      case' restc8_54 => try simp only [Act.put, List.getElem_toArray, List.getElem_cons_zero, List.getElem_cons_succ, List.setIfInBounds_toArray, List.set_cons_zero, List.set_cons_succ]
                      refine wpAnyH_take (i := 9) (v := ?vc9_55) rfl (by kernel_rfl) (by kernel_rfl) (by kernel_rfl) (fun _ _ _ h => h) (Or.inl ⟨by rfl, ?hyc9_55⟩) (by assumption) ?restc9_55
                      case hyc9_55 => (intro w0 hSw; (try dsimp only at hSw); go_simp; try with_reducible rfl)
                      case' restc9_55 => try simp only [Act.put, List.getElem_toArray, List.getElem_cons_zero, List.getElem_cons_succ, List.setIfInBounds_toArray, List.set_cons_zero, List.set_cons_succ]
                      refine wpAnyH_take (i := 10) (v := ?vc10_56) rfl (by kernel_rfl) (by kernel_rfl) (by kernel_rfl) (fun _ _ _ h => h) (Or.inl ⟨by rfl, ?hyc10_56⟩) (by assumption) ?restc10_56
                      case hyc10_56 => (intro w0 hSw; (try dsimp only at hSw); go_simp; try with_reducible rfl)
                      case' restc10_56 => try simp only [Act.put, List.getElem_toArray, List.getElem_cons_zero, List.getElem_cons_succ, List.setIfInBounds_toArray, List.set_cons_zero, List.set_cons_succ]
                      refine wpAnyH_take (i := 11) (v := ?vc11_57) rfl (by kernel_rfl) (by kernel_rfl) (by kernel_rfl) (fun _ _ _ h => h) (Or.inl ⟨by rfl, ?hyc11_57⟩) (by assumption) ?restc11_57
                      case hyc11_57 => (intro w0 hSw; (try dsimp only at hSw); go_simp; try with_reducible rfl)
                      case' restc11_57 => try simp only [Act.put, List.getElem_toArray, List.getElem_cons_zero, List.getElem_cons_succ, List.setIfInBounds_toArray, List.set_cons_zero, List.set_cons_succ]
                      refine wpAnyH_take (i := 12) (v := ?vc12_58) rfl (by kernel_rfl) (by kernel_rfl) (by kernel_rfl) (fun _ _ _ h => h) (Or.inl ⟨by rfl, ?hyc12_58⟩) (by assumption) ?restc12_58
                      case hyc12_58 => (intro w0 hSw; (try dsimp only at hSw); go_simp; try with_reducible rfl)
                      case' restc12_58 => try simp only [Act.put, List.getElem_toArray, List.getElem_cons_zero, List.getElem_cons_succ, List.setIfInBounds_toArray, List.set_cons_zero, List.set_cons_succ]
                      refine wpAnyH_ready (rs := [13]) (by kernel_rfl) (by simp) ?_
                      refine AllReadyH.cons rfl (fun K hK => ?_) AllReadyH.nil
                      go_simp
                      refine (refLess_any y.1.1 y.1.2 x0 3 _).mono ?_
                      rintro e w5 ⟨rfl, hb4⟩
                      refine hK.out _ _ (HH.out _ (bch (below_drew1 (Below.refl w6.heap.size w6)) hb4 (by simp))) (fun hHeld => ?_)
                      clear hK K
                      try simp only [Act.put, List.getElem_toArray, List.getElem_cons_zero, List.getElem_cons_succ, List.setIfInBounds_toArray, List.set_cons_zero, List.set_cons_succ]
                      refine wpAnyH_take (i := 14) (v := ?vc14_59) rfl (by kernel_rfl) (by kernel_rfl) (by kernel_rfl) (fun _ _ _ h => h) (Or.inl ⟨by rfl, ?hyc14_59⟩) (by assumption) ?restc14_59
                      case hyc14_59 => (intro w0 hSw; (try dsimp only at hSw); go_simp; try with_reducible rfl)
                      case' restc14_59 => try simp only [Act.put, List.getElem_toArray, List.getElem_cons_zero, List.getElem_cons_succ, List.setIfInBounds_toArray, List.set_cons_zero, List.set_cons_succ]
                      refine wpAnyH_take (i := 15) (v := ?vc15_60) rfl (by kernel_rfl) (by kernel_rfl) (by kernel_rfl) (fun _ _ _ h => h) (Or.inl ⟨by rfl, ?hyc15_60⟩) (by assumption) ?restc15_60
                      case hyc15_60 => (intro w0 hSw; (try dsimp only at hSw); go_simp; try with_reducible rfl)
                      case' restc15_60 => try simp only [Act.put, List.getElem_toArray, List.getElem_cons_zero, List.getElem_cons_succ, List.setIfInBounds_toArray, List.set_cons_zero, List.set_cons_succ]
                      refine wpAnyH_done (by kernel_rfl) ?_ _
                      refine NoPanic.normal ?_
                      have hb5 : Below w6.heap.size w6 w5 := bch (below_drew1 (Below.refl w6.heap.size w6)) hb4 (by simp)
                      clear hHeld HH hb4 y0 y1 y2 y3 y4 d0 d1 hw1 hi0 hi1 hi2 hi3 hnz
                      have HX5 := Lib.hid (heap_keep HX6.out hb5); have HY5 := Lib.hid (heap_keep HY6.out hb5); have HB5 := Lib.hid (bch HB6.out hb5 (by have := HB6.out.size; have := HNB.out; omega))
                      clear hb5
                      cases hls : lessB y.1.1 y.1.2 x0 3 with
                      | true =>
                        have HOK := Lib.hid (show Sk.one [a, b, cc, d] l = .inl ((x0, 3), 1, 0, x3) by rw [HL5.out, hls]; rfl)
                        clear hls
                        obtain ⟨m0, m1, m2, m3, m4⟩ := cell5 HX5.out
                        obtain ⟨f0, f1, f2, f3, f4⟩ := froz5a HX5.out
                        obtain ⟨y0, y1, y2, y3, y4⟩ := cell5 HY5.out
                        go_wp2_with fail
                        obtain ⟨w7, hw7⟩ : ∃ w7, w7 = (((((w5.setCell ⟨nb, 0, none⟩ (.int .i64 x0)).setCell ⟨nb, 1, none⟩ (.int .i64 3)).setCell ⟨nb, 2, none⟩ (.int .i64 1)).setCell ⟨nb, 3, none⟩ (.int .i64 0)).setCell ⟨nb, 4, none⟩ (.int .i64 x3)) := ⟨_, rfl⟩
                        have hx7 := set5a HX5.out (.int .i64 x0) (.int .i64 3) (.int .i64 1) (.int .i64 0) (.int .i64 x3)
                        rw [← hw7] at hx7
                        have hb7 : Below nb w w7 := by rw [hw7]; exact below_set5 HB5.out (Nat.le_refl _) _ _ _ _ _
                        rw [← hw7]
                        clear hw7
                        obtain ⟨z0, z1, z2, z3, z4⟩ := cell5 hx7
                        refine bodyPost_ret (v := .tuple #[.agg #[.int .i64 x0, .int .i64 3, .int .i64 1, .int .i64 0, .int .i64 x3], .int .i64 0, .int .i64 0]) (by simp [results, Tryz.results42, go_sem, z0, z1, z2, z3, z4]) rfl ⟨?_, hb7⟩
                        exact refOneR_ok HOK.out rfl
                      | false =>
                        have HBAD := Lib.hid (show Sk.one [a, b, cc, d] l = .inr (1, 6) by rw [HL5.out, hls]; rfl)
                        clear hls
                        obtain ⟨m0, m1, m2, m3, m4⟩ := cell5 HX5.out
                        obtain ⟨f0, f1, f2, f3, f4⟩ := froz5a HX5.out
                        obtain ⟨y0, y1, y2, y3, y4⟩ := cell5 HY5.out
                        go_wp2_with fail
                        obtain ⟨w7, hw7⟩ : ∃ w7, w7 = (((((w5.setCell ⟨nb, 0, none⟩ (.int .i64 x0)).setCell ⟨nb, 1, none⟩ (.int .i64 3)).setCell ⟨nb, 2, none⟩ (.int .i64 1)).setCell ⟨nb, 3, none⟩ (.int .i64 0)).setCell ⟨nb, 4, none⟩ (.int .i64 x3)) := ⟨_, rfl⟩
                        have hx7 := set5a HX5.out (.int .i64 x0) (.int .i64 3) (.int .i64 1) (.int .i64 0) (.int .i64 x3)
                        rw [← hw7] at hx7
                        have hb7 : Below nb w w7 := by rw [hw7]; exact below_set5 HB5.out (Nat.le_refl _) _ _ _ _ _
                        rw [← hw7]
                        clear hw7
                        obtain ⟨z0, z1, z2, z3, z4⟩ := cell5 hx7
                        refine bodyPost_ret (v := .tuple #[.agg #[.int .i64 x0, .int .i64 3, .int .i64 1, .int .i64 0, .int .i64 x3], .int .i64 1, .int .i64 6]) (by simp [results, Tryz.results42, go_sem, z0, z1, z2, z3, z4]) rfl ⟨?_, hb7⟩
                        exact refOneR_bad HBAD.out ((x0, 3), 1, 0, x3) rfl
                  · go_wp2_with fail
                    refine (HD1.out _).mono ?_
                    rintro e w4 ⟨rfl, hb4⟩
                    have HX4 := Lib.hid (heap_keep HX3.out hb4); have HY4 := Lib.hid (heap_keep HY3.out hb4); have HB4 := Lib.hid (bch HB3.out hb4 (by have := HB3.out.size; have := HNB.out; omega))
                    clear hb4 hc1 hc2 hc3
                    have hc2 := HW.out w4 2 cc HB4.out rfl
                    obtain ⟨y0, y1, y2, y3, y4⟩ := cell5 HY4.out
                    obtain ⟨f0, f1, f2, f3, f4⟩ := froz5a HY4.out
                    go_upto_region 18 with (fail)
                    obtain ⟨w6, hw6⟩ : ∃ w6, w6 = (((((w4.setCell ⟨nb + 1, 0, none⟩ (.int .i64 x0)).setCell ⟨nb + 1, 1, none⟩ (.int .i64 3)).setCell ⟨nb + 1, 2, none⟩ (.int .i64 1)).setCell ⟨nb + 1, 3, none⟩ (.int .i64 0)).setCell ⟨nb + 1, 4, none⟩ (.int .i64 x3)) := ⟨_, rfl⟩
                    rw [← hw6]
                    have hy6 := set5a HY4.out (.int .i64 x0) (.int .i64 3) (.int .i64 1) (.int .i64 0) (.int .i64 x3)
                    rw [← hw6] at hy6
                    have hx6 : w6.heap[nb]? = some (.cells #[.int .i64 0, .int .i64 0, .int .i64 0, .int .i64 0, .int .i64 0] tRow (0, 0)) := by rw [hw6]; exact set_other (set_other (set_other (set_other (set_other HX4.out (by omega) _) (by omega) _) (by omega) _) (by omega) _) (by omega) _
                    have hb6 : Below nb w w6 := by rw [hw6]; exact below_set5 HB4.out (by omega) _ _ _ _ _
                    have hc2' : w6.cell? ⟨gb, go_ + 2, none⟩ = some (.string ⟨cc.toArray⟩) := HW.out w6 2 cc hb6 rfl
                    have HX6 := Lib.hid hx6; have HY6 := Lib.hid hy6; have HB6 := Lib.hid hb6
                    clear hw6 hx6 hy6 hb6 y0 y1 y2 y3 y4 f0 f1 f2 f3 f4 hc2
                    obtain ⟨y0, y1, y2, y3, y4⟩ := cell5 HY6.out
                    obtain ⟨f0, f1, f2, f3, f4⟩ := froz5a HY6.out
                    go_upto_region 20 with (fail)
                    clear y0 y1 y2 y3 y4 f0 f1 f2 f3 f4 hc2'
                    by_cases hn0 : n = 0
                    · subst hn0
                      have hl0 : l = [] := List.eq_nil_of_length_eq_zero HLN.out
                      have HOK := Lib.hid (show Sk.one [a, b, cc, d] l = .inl ((x0, 3), 1, 0, x3) by rw [HL4.out, hl0]; rfl)
                      clear hl0
                      go_quiet (fail)
                      go_upto_region 22 with (fail)
                      obtain ⟨w5, hw5⟩ : ∃ w5, w5 = w6.drewN nq := ⟨_, rfl⟩
                      rw [← hw5]
                      have hb5 : Below w6.heap.size w6 w5 := by rw [hw5]; exact below_dq (Below.refl _ _) nq
                      have HX5 := Lib.hid (heap_keep HX6.out hb5); have HY5 := Lib.hid (heap_keep HY6.out hb5); have HB5 := Lib.hid (bch HB6.out hb5 (by have := HB6.out.size; have := HNB.out; omega))
                      clear hw5 hb5
                      obtain ⟨m0, m1, m2, m3, m4⟩ := cell5 HX5.out
                      obtain ⟨f0, f1, f2, f3, f4⟩ := froz5a HX5.out
                      obtain ⟨y0, y1, y2, y3, y4⟩ := cell5 HY5.out
                      go_wp2_with fail
                      obtain ⟨w7, hw7⟩ : ∃ w7, w7 = (((((w5.setCell ⟨nb, 0, none⟩ (.int .i64 x0)).setCell ⟨nb, 1, none⟩ (.int .i64 3)).setCell ⟨nb, 2, none⟩ (.int .i64 1)).setCell ⟨nb, 3, none⟩ (.int .i64 0)).setCell ⟨nb, 4, none⟩ (.int .i64 x3)) := ⟨_, rfl⟩
                      have hx7 := set5a HX5.out (.int .i64 x0) (.int .i64 3) (.int .i64 1) (.int .i64 0) (.int .i64 x3)
                      rw [← hw7] at hx7
                      have hb7 : Below nb w w7 := by rw [hw7]; exact below_set5 HB5.out (Nat.le_refl _) _ _ _ _ _
                      rw [← hw7]
                      clear hw7
                      obtain ⟨z0, z1, z2, z3, z4⟩ := cell5 hx7
                      refine bodyPost_ret (v := .tuple #[.agg #[.int .i64 x0, .int .i64 3, .int .i64 1, .int .i64 0, .int .i64 x3], .int .i64 0, .int .i64 0]) (by simp [results, Tryz.results42, go_sem, z0, z1, z2, z3, z4]) rfl ⟨?_, hb7⟩
                      exact refOneR_ok HOK.out rfl
                    · obtain ⟨y, hy⟩ : ∃ y, l[n - 1]? = some y := ⟨_, List.getElem?_eq_getElem (by have := HLN.out; omega)⟩
                      have hlast : l.getLast? = some y := by rw [List.getLast?_eq_getElem?, HLN.out]; exact hy
                      have HL5 := Lib.hid (show Sk.one [a, b, cc, d] l = if lessB y.1.1 y.1.2 x0 3 = true then .inl ((x0, 3), 1, 0, x3) else .inr (1, 6) by rw [HL4.out, hlast])
                      obtain ⟨g, off, n', c', e, d0, d1, _, _, _⟩ := HU.out.cells (by rw [HNB.out]; exact HB6.out) hy
                      injection e with e1 e2 e3
                      subst e1
                      clear hlast e2 e3 hy
                      obtain ⟨y0, y1, y2, y3, y4⟩ := cell5 HY6.out
                      have hn1 : 0 < n := by omega
                      have hnI : (0 : Int) < n := by omega
                      have hnz := decide_eq_true hnI
                      have hw1 : IntKind.i64.wrap ((n : Int) - 1) = (n : Int) - 1 := IntWalk.i64_in _ (by omega)
                      have hi0 : (0 : Int) ≤ (n : Int) - 1 := by omega
                      have hi3 : (1 : Int) ≤ n := by omega
                      have hi1 : (n : Int) - 1 < n := by omega
                      have hi2 : ((n : Int) - 1).toNat = n - 1 := by omega
                      have HH := Lib.hid (fun W (hb : Below w6.heap.size w6 W) => (⟨Lib.hid hb, (hb.cell (World.block_lt_of_cell? w6 _ d0)).trans d0, (hb.cell (World.block_lt_of_cell? w6 _ d1)).trans d1, (hb.cell (World.block_lt_of_cell? w6 _ y0)).trans y0, (hb.cell (World.block_lt_of_cell? w6 _ y1)).trans y1⟩ : (fun w' => Hid (Below w6.heap.size w6 w') ∧ w'.cell? ⟨g, off + (n - 1) * 5, none⟩ = some (.int .i64 y.1.1) ∧ w'.cell? ⟨g, off + (n - 1) * 5 + 1, none⟩ = some (.int .i64 y.1.2) ∧ w'.cell? ⟨nb + 1, 0, none⟩ = some (.int .i64 x0) ∧ w'.cell? ⟨nb + 1, 1, none⟩ = some (.int .i64 3)) W))
                      refine wp_region_noPanic ?_
                      refine wp_region_held_drew (S := (fun w' => Hid (Below w6.heap.size w6 w') ∧ w'.cell? ⟨g, off + (n - 1) * 5, none⟩ = some (.int .i64 y.1.1) ∧ w'.cell? ⟨g, off + (n - 1) * 5 + 1, none⟩ = some (.int .i64 y.1.2) ∧ w'.cell? ⟨nb + 1, 0, none⟩ = some (.int .i64 x0) ∧ w'.cell? ⟨nb + 1, 1, none⟩ = some (.int .i64 3))) (by kernel_rfl) (HH.out _ (below_drew1 (Below.refl w6.heap.size w6))) (fun hHeld => ?_)
                      refine wpAnyH_take (i := 0) (v := ?vc0_61) rfl (by kernel_rfl) (by kernel_rfl) (by kernel_rfl) (fun _ _ _ h => h) (Or.inl ⟨by rfl, ?hyc0_61⟩) (by assumption) ?restc0_61
                      case hyc0_61 => (intro w0 hSw; (try dsimp only at hSw); go_simp; try with_reducible rfl)
                      case' restc0_61 => try simp only [Act.put, List.getElem_toArray, List.getElem_cons_zero, List.getElem_cons_succ, List.setIfInBounds_toArray, List.set_cons_zero, List.set_cons_succ]
                      refine wpAnyH_take (i := 1) (v := ?vc1_62) rfl (by kernel_rfl) (by kernel_rfl) (by kernel_rfl) (fun _ _ _ h => h) (Or.inl ⟨by rfl, ?hyc1_62⟩) (by assumption) ?restc1_62
                      case hyc1_62 => (intro w0 hSw; (try dsimp only at hSw); go_simp; try with_reducible rfl)
                      case' restc1_62 => try simp only [Act.put, List.getElem_toArray, List.getElem_cons_zero, List.getElem_cons_succ, List.setIfInBounds_toArray, List.set_cons_zero, List.set_cons_succ]
                      refine wpAnyH_take (i := 2) (v := ?vc2_63) rfl (by kernel_rfl) (by kernel_rfl) (by kernel_rfl) (fun _ _ _ h => h) (Or.inl ⟨by rfl, ?hyc2_63⟩) (by assumption) ?restc2_63
                      case hyc2_63 => (intro w0 hSw; (try dsimp only at hSw); go_simp; try with_reducible rfl)
                      case' restc2_63 => try simp only [Act.put, List.getElem_toArray, List.getElem_cons_zero, List.getElem_cons_succ, List.setIfInBounds_toArray, List.set_cons_zero, List.set_cons_succ]
                      refine wpAnyH_take (i := 3) (v := ?vc3_64) rfl (by kernel_rfl) (by kernel_rfl) (by kernel_rfl) (fun _ _ _ h => h) (Or.inl ⟨by rfl, ?hyc3_64⟩) (by assumption) ?restc3_64
                      case hyc3_64 => (intro w0 hSw; (try dsimp only at hSw); go_simp; try with_reducible rfl)
                      case' restc3_64 => try simp only [Act.put, List.getElem_toArray, List.getElem_cons_zero, List.getElem_cons_succ, List.setIfInBounds_toArray, List.set_cons_zero, List.set_cons_succ]
                      refine wpAnyH_take (i := 4) (v := ?vc4_65) rfl (by kernel_rfl) (by kernel_rfl) (by kernel_rfl) (fun _ _ _ h => h) (Or.inl ⟨by rfl, ?hyc4_65⟩) (by assumption) ?restc4_65
                      case hyc4_65 => (intro w0 hSw; (try dsimp only at hSw); go_simp; try with_reducible rfl)
                      case' restc4_65 => try simp only [Act.put, List.getElem_toArray, List.getElem_cons_zero, List.getElem_cons_succ, List.setIfInBounds_toArray, List.set_cons_zero, List.set_cons_succ]
                      refine wpAnyH_take (i := 5) (v := ?vc5_66) rfl (by kernel_rfl) (by kernel_rfl) (by kernel_rfl) (fun _ _ _ h => h) (Or.inl ⟨by rfl, ?hyc5_66⟩) (by assumption) ?restc5_66
                      case hyc5_66 => (intro w0 hSw; (try dsimp only at hSw); go_simp; try with_reducible rfl)
                      case' restc5_66 => try simp only [Act.put, List.getElem_toArray, List.getElem_cons_zero, List.getElem_cons_succ, List.setIfInBounds_toArray, List.set_cons_zero, List.set_cons_succ]
                      refine wpAnyH_take (i := 6) (v := ?vc6_67) rfl (by kernel_rfl) (by kernel_rfl) (by kernel_rfl) (fun _ _ _ h => h) (Or.inl ⟨by rfl, ?hyc6_67⟩) (by assumption) ?restc6_67
                      case hyc6_67 => (intro w0 hSw; (try dsimp only at hSw); go_simp; try with_reducible rfl)
                      case' restc6_67 => try simp only [Act.put, List.getElem_toArray, List.getElem_cons_zero, List.getElem_cons_succ, List.setIfInBounds_toArray, List.set_cons_zero, List.set_cons_succ]
                      refine wpAnyH_take (i := 7) (v := ?vc7_68) rfl (by kernel_rfl) (by kernel_rfl) (by kernel_rfl) (fun _ _ _ h => h) (Or.inl ⟨by rfl, ?hyc7_68⟩) (by assumption) ?restc7_68
                      case hyc7_68 => (intro w0 hSw; (try dsimp only at hSw); go_simp; try with_reducible rfl)
                      case' restc7_68 => try simp only [Act.put, List.getElem_toArray, List.getElem_cons_zero, List.getElem_cons_succ, List.setIfInBounds_toArray, List.set_cons_zero, List.set_cons_succ]
                      refine wpAnyH_take (i := 8) (v := ?vc8_69) rfl (by kernel_rfl) (by kernel_rfl) (by kernel_rfl) (fun _ _ _ h => h) (Or.inl ⟨by rfl, ?hyc8_69⟩) (by assumption) ?restc8_69
                      case hyc8_69 => (intro w0 hSw; (try dsimp only at hSw); go_simp; try with_reducible rfl)
                      case' restc8_69 => try simp only [Act.put, List.getElem_toArray, List.getElem_cons_zero, List.getElem_cons_succ, List.setIfInBounds_toArray, List.set_cons_zero, List.set_cons_succ]
                      refine wpAnyH_take (i := 9) (v := ?vc9_70) rfl (by kernel_rfl) (by kernel_rfl) (by kernel_rfl) (fun _ _ _ h => h) (Or.inl ⟨by rfl, ?hyc9_70⟩) (by assumption) ?restc9_70
                      case hyc9_70 => (intro w0 hSw; (try dsimp only at hSw); go_simp; try with_reducible rfl)
                      case' restc9_70 => try simp only [Act.put, List.getElem_toArray, List.getElem_cons_zero, List.getElem_cons_succ, List.setIfInBounds_toArray, List.set_cons_zero, List.set_cons_succ]
                      refine wpAnyH_take (i := 10) (v := ?vc10_71) rfl (by kernel_rfl) (by kernel_rfl) (by kernel_rfl) (fun _ _ _ h => h) (Or.inl ⟨by rfl, ?hyc10_71⟩) (by assumption) ?restc10_71
                      case hyc10_71 => (intro w0 hSw; (try dsimp only at hSw); go_simp; try with_reducible rfl)
                      case' restc10_71 => try simp only [Act.put, List.getElem_toArray, List.getElem_cons_zero, List.getElem_cons_succ, List.setIfInBounds_toArray, List.set_cons_zero, List.set_cons_succ]
                      refine wpAnyH_take (i := 11) (v := ?vc11_72) rfl (by kernel_rfl) (by kernel_rfl) (by kernel_rfl) (fun _ _ _ h => h) (Or.inl ⟨by rfl, ?hyc11_72⟩) (by assumption) ?restc11_72
                      case hyc11_72 => (intro w0 hSw; (try dsimp only at hSw); go_simp; try with_reducible rfl)
                      case' restc11_72 => try simp only [Act.put, List.getElem_toArray, List.getElem_cons_zero, List.getElem_cons_succ, List.setIfInBounds_toArray, List.set_cons_zero, List.set_cons_succ]
                      refine wpAnyH_take (i := 12) (v := ?vc12_73) rfl (by kernel_rfl) (by kernel_rfl) (by kernel_rfl) (fun _ _ _ h => h) (Or.inl ⟨by rfl, ?hyc12_73⟩) (by assumption) ?restc12_73
                      case hyc12_73 => (intro w0 hSw; (try dsimp only at hSw); go_simp; try with_reducible rfl)
                      case' restc12_73 => try simp only [Act.put, List.getElem_toArray, List.getElem_cons_zero, List.getElem_cons_succ, List.setIfInBounds_toArray, List.set_cons_zero, List.set_cons_succ]
                      refine wpAnyH_ready (rs := [13]) (by kernel_rfl) (by simp) ?_
                      refine AllReadyH.cons rfl (fun K hK => ?_) AllReadyH.nil
                      go_simp
                      refine (refLess_any y.1.1 y.1.2 x0 3 _).mono ?_
                      rintro e w5 ⟨rfl, hb4⟩
                      refine hK.out _ _ (HH.out _ (bch (below_drew1 (Below.refl w6.heap.size w6)) hb4 (by simp))) (fun hHeld => ?_)
                      clear hK K
                      try simp only [Act.put, List.getElem_toArray, List.getElem_cons_zero, List.getElem_cons_succ, List.setIfInBounds_toArray, List.set_cons_zero, List.set_cons_succ]
                      refine wpAnyH_take (i := 14) (v := ?vc14_74) rfl (by kernel_rfl) (by kernel_rfl) (by kernel_rfl) (fun _ _ _ h => h) (Or.inl ⟨by rfl, ?hyc14_74⟩) (by assumption) ?restc14_74
                      case hyc14_74 => (intro w0 hSw; (try dsimp only at hSw); go_simp; try with_reducible rfl)
                      case' restc14_74 => try simp only [Act.put, List.getElem_toArray, List.getElem_cons_zero, List.getElem_cons_succ, List.setIfInBounds_toArray, List.set_cons_zero, List.set_cons_succ]
                      refine wpAnyH_take (i := 15) (v := ?vc15_75) rfl (by kernel_rfl) (by kernel_rfl) (by kernel_rfl) (fun _ _ _ h => h) (Or.inl ⟨by rfl, ?hyc15_75⟩) (by assumption) ?restc15_75
                      case hyc15_75 => (intro w0 hSw; (try dsimp only at hSw); go_simp; try with_reducible rfl)
                      case' restc15_75 => try simp only [Act.put, List.getElem_toArray, List.getElem_cons_zero, List.getElem_cons_succ, List.setIfInBounds_toArray, List.set_cons_zero, List.set_cons_succ]
                      refine wpAnyH_done (by kernel_rfl) ?_ _
                      refine NoPanic.normal ?_
                      have hb5 : Below w6.heap.size w6 w5 := bch (below_drew1 (Below.refl w6.heap.size w6)) hb4 (by simp)
                      clear hHeld HH hb4 y0 y1 y2 y3 y4 d0 d1 hw1 hi0 hi1 hi2 hi3 hnz
                      have HX5 := Lib.hid (heap_keep HX6.out hb5); have HY5 := Lib.hid (heap_keep HY6.out hb5); have HB5 := Lib.hid (bch HB6.out hb5 (by have := HB6.out.size; have := HNB.out; omega))
                      clear hb5
                      cases hls : lessB y.1.1 y.1.2 x0 3 with
                      | true =>
                        have HOK := Lib.hid (show Sk.one [a, b, cc, d] l = .inl ((x0, 3), 1, 0, x3) by rw [HL5.out, hls]; rfl)
                        clear hls
                        obtain ⟨m0, m1, m2, m3, m4⟩ := cell5 HX5.out
                        obtain ⟨f0, f1, f2, f3, f4⟩ := froz5a HX5.out
                        obtain ⟨y0, y1, y2, y3, y4⟩ := cell5 HY5.out
                        go_wp2_with fail
                        obtain ⟨w7, hw7⟩ : ∃ w7, w7 = (((((w5.setCell ⟨nb, 0, none⟩ (.int .i64 x0)).setCell ⟨nb, 1, none⟩ (.int .i64 3)).setCell ⟨nb, 2, none⟩ (.int .i64 1)).setCell ⟨nb, 3, none⟩ (.int .i64 0)).setCell ⟨nb, 4, none⟩ (.int .i64 x3)) := ⟨_, rfl⟩
                        have hx7 := set5a HX5.out (.int .i64 x0) (.int .i64 3) (.int .i64 1) (.int .i64 0) (.int .i64 x3)
                        rw [← hw7] at hx7
                        have hb7 : Below nb w w7 := by rw [hw7]; exact below_set5 HB5.out (Nat.le_refl _) _ _ _ _ _
                        rw [← hw7]
                        clear hw7
                        obtain ⟨z0, z1, z2, z3, z4⟩ := cell5 hx7
                        refine bodyPost_ret (v := .tuple #[.agg #[.int .i64 x0, .int .i64 3, .int .i64 1, .int .i64 0, .int .i64 x3], .int .i64 0, .int .i64 0]) (by simp [results, Tryz.results42, go_sem, z0, z1, z2, z3, z4]) rfl ⟨?_, hb7⟩
                        exact refOneR_ok HOK.out rfl
                      | false =>
                        have HBAD := Lib.hid (show Sk.one [a, b, cc, d] l = .inr (1, 6) by rw [HL5.out, hls]; rfl)
                        clear hls
                        obtain ⟨m0, m1, m2, m3, m4⟩ := cell5 HX5.out
                        obtain ⟨f0, f1, f2, f3, f4⟩ := froz5a HX5.out
                        obtain ⟨y0, y1, y2, y3, y4⟩ := cell5 HY5.out
                        go_wp2_with fail
                        obtain ⟨w7, hw7⟩ : ∃ w7, w7 = (((((w5.setCell ⟨nb, 0, none⟩ (.int .i64 x0)).setCell ⟨nb, 1, none⟩ (.int .i64 3)).setCell ⟨nb, 2, none⟩ (.int .i64 1)).setCell ⟨nb, 3, none⟩ (.int .i64 0)).setCell ⟨nb, 4, none⟩ (.int .i64 x3)) := ⟨_, rfl⟩
                        have hx7 := set5a HX5.out (.int .i64 x0) (.int .i64 3) (.int .i64 1) (.int .i64 0) (.int .i64 x3)
                        rw [← hw7] at hx7
                        have hb7 : Below nb w w7 := by rw [hw7]; exact below_set5 HB5.out (Nat.le_refl _) _ _ _ _ _
                        rw [← hw7]
                        clear hw7
                        obtain ⟨z0, z1, z2, z3, z4⟩ := cell5 hx7
                        refine bodyPost_ret (v := .tuple #[.agg #[.int .i64 x0, .int .i64 3, .int .i64 1, .int .i64 0, .int .i64 x3], .int .i64 1, .int .i64 6]) (by simp [results, Tryz.results42, go_sem, z0, z1, z2, z3, z4]) rfl ⟨?_, hb7⟩
                        exact refOneR_bad HBAD.out ((x0, 3), 1, 0, x3) rfl
              · have HL3 := Lib.hid (show Sk.one [a, b, cc, d] l = if (numB d 0 999 && (decide ((2 : Int) = 1) || decide ((getM d).1 = 0))) = false then .inr (4, 3) else match l.getLast? with | none => .inl ((x0, 3), 2, 0, (getM d).1) | some y => if lessB y.1.1 y.1.2 x0 3 = true then .inl ((x0, 3), 2, 0, (getM d).1) else .inr (1, 6) by rw [HL2.out, hck]; rfl)
                have k1 := text_eq hcw.symm
                have k2 := text_ne (show cc ≠ [100, 111, 110, 101] by rw [← hcw]; decide)
                rw [show codeW 2 = [114, 101, 102, 117, 115, 101, 100] from rfl] at k1
                clear hcw hck
                go_upto_region 13 with (fail)
                cases hz3 : numB d 0 999 with
                | false =>
                  have g0 := numI_no hz3
                  have HBAD := Lib.hid (show Sk.one [a, b, cc, d] l = .inr (4, 3) by rw [HL3.out, hz3]; rfl)
                  rw [g0] at HN3
                  clear hz3 g0
                  go_wp2_with fail
                  refine (HN3.out _).mono ?_
                  rintro e w3 ⟨rfl, hb3⟩
                  have HX3 := Lib.hid (heap_keep HX2.out hb3); have HY3 := Lib.hid (heap_keep HY2.out hb3); have HB3 := Lib.hid (bch HB2.out hb3 (by have := HB2.out.size; have := HNB.out; omega))
                  clear hb3 hc1 hc2 hc3
                  have hc1 := HW.out w3 1 b HB3.out rfl
                  have hc2 := HW.out w3 2 cc HB3.out rfl
                  have hc3 := HW.out w3 3 d HB3.out rfl
                  obtain ⟨m0, m1, m2, m3, m4⟩ := cell5 HX3.out
                  obtain ⟨f0, f1, f2, f3, f4⟩ := froz5a HX3.out
                  obtain ⟨y0, y1, y2, y3, y4⟩ := cell5 HY3.out
                  go_wp2_with fail
                  obtain ⟨w7, hw7⟩ : ∃ w7, w7 = (((((w3.setCell ⟨nb, 0, none⟩ (.int .i64 0)).setCell ⟨nb, 1, none⟩ (.int .i64 0)).setCell ⟨nb, 2, none⟩ (.int .i64 0)).setCell ⟨nb, 3, none⟩ (.int .i64 0)).setCell ⟨nb, 4, none⟩ (.int .i64 0)) := ⟨_, rfl⟩
                  have hx7 := set5a HX3.out (.int .i64 0) (.int .i64 0) (.int .i64 0) (.int .i64 0) (.int .i64 0)
                  rw [← hw7] at hx7
                  have hb7 : Below nb w w7 := by rw [hw7]; exact below_set5 HB3.out (Nat.le_refl _) _ _ _ _ _
                  rw [← hw7]
                  clear hw7
                  obtain ⟨z0, z1, z2, z3, z4⟩ := cell5 hx7
                  refine bodyPost_ret (v := .tuple #[.agg #[.int .i64 0, .int .i64 0, .int .i64 0, .int .i64 0, .int .i64 0], .int .i64 4, .int .i64 3]) (by simp [results, Tryz.results42, go_sem, z0, z1, z2, z3, z4]) rfl ⟨?_, hb7⟩
                  exact refOneR_bad HBAD.out ((0, 0), 0, 0, 0) rfl
                | true =>
                  obtain ⟨g0, g1, g2⟩ := numI_ok (.inl rfl) hz3
                  obtain ⟨x3, hx3⟩ : ∃ x, (getM d).1 = x := ⟨_, rfl⟩
                  rw [g0, hx3] at HN3
                  rw [hx3] at g1 g2
                  have q3 : ¬ x3 < 0 := by omega
                  by_cases q4 : 0 < x3
                  · have HBAD := Lib.hid (show Sk.one [a, b, cc, d] l = .inr (4, 3) by rw [HL3.out, hz3, hx3]; simp only [Bool.true_and]; rw [if_pos (by simp; omega)])
                    clear hz3 g0 hx3
                    go_wp2_with fail
                    refine (HN3.out _).mono ?_
                    rintro e w3 ⟨rfl, hb3⟩
                    have HX3 := Lib.hid (heap_keep HX2.out hb3); have HY3 := Lib.hid (heap_keep HY2.out hb3); have HB3 := Lib.hid (bch HB2.out hb3 (by have := HB2.out.size; have := HNB.out; omega))
                    clear hb3 hc1 hc2 hc3
                    have hc1 := HW.out w3 1 b HB3.out rfl
                    have hc2 := HW.out w3 2 cc HB3.out rfl
                    have hc3 := HW.out w3 3 d HB3.out rfl
                    obtain ⟨m0, m1, m2, m3, m4⟩ := cell5 HX3.out
                    obtain ⟨f0, f1, f2, f3, f4⟩ := froz5a HX3.out
                    obtain ⟨y0, y1, y2, y3, y4⟩ := cell5 HY3.out
                    go_wp2_with fail
                    obtain ⟨w7, hw7⟩ : ∃ w7, w7 = (((((w3.setCell ⟨nb, 0, none⟩ (.int .i64 0)).setCell ⟨nb, 1, none⟩ (.int .i64 0)).setCell ⟨nb, 2, none⟩ (.int .i64 0)).setCell ⟨nb, 3, none⟩ (.int .i64 0)).setCell ⟨nb, 4, none⟩ (.int .i64 0)) := ⟨_, rfl⟩
                    have hx7 := set5a HX3.out (.int .i64 0) (.int .i64 0) (.int .i64 0) (.int .i64 0) (.int .i64 0)
                    rw [← hw7] at hx7
                    have hb7 : Below nb w w7 := by rw [hw7]; exact below_set5 HB3.out (Nat.le_refl _) _ _ _ _ _
                    rw [← hw7]
                    clear hw7
                    obtain ⟨z0, z1, z2, z3, z4⟩ := cell5 hx7
                    refine bodyPost_ret (v := .tuple #[.agg #[.int .i64 0, .int .i64 0, .int .i64 0, .int .i64 0, .int .i64 0], .int .i64 4, .int .i64 3]) (by simp [results, Tryz.results42, go_sem, z0, z1, z2, z3, z4]) rfl ⟨?_, hb7⟩
                    exact refOneR_bad HBAD.out ((0, 0), 0, 0, 0) rfl
                  · obtain rfl : x3 = 0 := by omega
                    have HL4 := Lib.hid (show Sk.one [a, b, cc, d] l = match l.getLast? with | none => .inl ((x0, 3), 2, 0, 0) | some y => if lessB y.1.1 y.1.2 x0 3 = true then .inl ((x0, 3), 2, 0, 0) else .inr (1, 6) by rw [HL3.out, hz3, hx3]; rfl)
                    clear hz3 g0 hx3
                    go_wp2_with fail
                    refine (HN3.out _).mono ?_
                    rintro e w3 ⟨rfl, hb3⟩
                    have HX3 := Lib.hid (heap_keep HX2.out hb3); have HY3 := Lib.hid (heap_keep HY2.out hb3); have HB3 := Lib.hid (bch HB2.out hb3 (by have := HB2.out.size; have := HNB.out; omega))
                    clear hb3 hc1 hc2 hc3
                    have hc1 := HW.out w3 1 b HB3.out rfl
                    have hc2 := HW.out w3 2 cc HB3.out rfl
                    have hc3 := HW.out w3 3 d HB3.out rfl
                    go_wp2_with fail
                    refine (HD1.out _).mono ?_
                    rintro e w4 ⟨rfl, hb4⟩
                    have HX4 := Lib.hid (heap_keep HX3.out hb4); have HY4 := Lib.hid (heap_keep HY3.out hb4); have HB4 := Lib.hid (bch HB3.out hb4 (by have := HB3.out.size; have := HNB.out; omega))
                    clear hb4 hc1 hc2 hc3
                    have hc2 := HW.out w4 2 cc HB4.out rfl
                    obtain ⟨y0, y1, y2, y3, y4⟩ := cell5 HY4.out
                    obtain ⟨f0, f1, f2, f3, f4⟩ := froz5a HY4.out
                    go_upto_region 18 with (fail)
                    obtain ⟨w6, hw6⟩ : ∃ w6, w6 = (((((w4.setCell ⟨nb + 1, 0, none⟩ (.int .i64 x0)).setCell ⟨nb + 1, 1, none⟩ (.int .i64 3)).setCell ⟨nb + 1, 2, none⟩ (.int .i64 1)).setCell ⟨nb + 1, 3, none⟩ (.int .i64 0)).setCell ⟨nb + 1, 4, none⟩ (.int .i64 0)) := ⟨_, rfl⟩
                    rw [← hw6]
                    have hy6 := set5a HY4.out (.int .i64 x0) (.int .i64 3) (.int .i64 1) (.int .i64 0) (.int .i64 0)
                    rw [← hw6] at hy6
                    have hx6 : w6.heap[nb]? = some (.cells #[.int .i64 0, .int .i64 0, .int .i64 0, .int .i64 0, .int .i64 0] tRow (0, 0)) := by rw [hw6]; exact set_other (set_other (set_other (set_other (set_other HX4.out (by omega) _) (by omega) _) (by omega) _) (by omega) _) (by omega) _
                    have hb6 : Below nb w w6 := by rw [hw6]; exact below_set5 HB4.out (by omega) _ _ _ _ _
                    have hc2' : w6.cell? ⟨gb, go_ + 2, none⟩ = some (.string ⟨cc.toArray⟩) := HW.out w6 2 cc hb6 rfl
                    have HX6 := Lib.hid hx6; have HY6 := Lib.hid hy6; have HB6 := Lib.hid hb6
                    clear hw6 hx6 hy6 hb6 y0 y1 y2 y3 y4 f0 f1 f2 f3 f4 hc2
                    obtain ⟨y0, y1, y2, y3, y4⟩ := cell5 HY6.out
                    obtain ⟨f0, f1, f2, f3, f4⟩ := froz5a HY6.out
                    go_upto_region 20 with (fail)
                    obtain ⟨w8, hw8⟩ : ∃ w8, w8 = w6.setCell ⟨nb + 1, 2, none⟩ (.int .i64 2) := ⟨_, rfl⟩
                    rw [← hw8]
                    have HY8 := Lib.hid (show w8.heap[nb + 1]? = some (.cells #[.int .i64 x0, .int .i64 3, .int .i64 2, .int .i64 0, .int .i64 0] tRow (0, 0)) by rw [hw8]; have h := HY6.out; simp [World.setCell, Array.getElem?_modify, h])
                    have HX8 := Lib.hid (show w8.heap[nb]? = some (.cells #[.int .i64 0, .int .i64 0, .int .i64 0, .int .i64 0, .int .i64 0] tRow (0, 0)) by rw [hw8]; exact set_other HX6.out (by omega) _)
                    have HB8 := Lib.hid (show Below nb w w8 by rw [hw8]; exact HB6.out.setCell (p := ⟨nb + 1, 2, none⟩) (by show nb ≤ nb + 1; omega) _)
                    clear hw8 y0 y1 y2 y3 y4 f0 f1 f2 f3 f4 hc2'
                    by_cases hn0 : n = 0
                    · subst hn0
                      have hl0 : l = [] := List.eq_nil_of_length_eq_zero HLN.out
                      have HOK := Lib.hid (show Sk.one [a, b, cc, d] l = .inl ((x0, 3), 2, 0, 0) by rw [HL4.out, hl0]; rfl)
                      clear hl0
                      go_quiet (fail)
                      go_upto_region 22 with (fail)
                      obtain ⟨w5, hw5⟩ : ∃ w5, w5 = w8.drewN nq := ⟨_, rfl⟩
                      rw [← hw5]
                      have hb5 : Below w8.heap.size w8 w5 := by rw [hw5]; exact below_dq (Below.refl _ _) nq
                      have HX5 := Lib.hid (heap_keep HX8.out hb5); have HY5 := Lib.hid (heap_keep HY8.out hb5); have HB5 := Lib.hid (bch HB8.out hb5 (by have := HB8.out.size; have := HNB.out; omega))
                      clear hw5 hb5
                      obtain ⟨m0, m1, m2, m3, m4⟩ := cell5 HX5.out
                      obtain ⟨f0, f1, f2, f3, f4⟩ := froz5a HX5.out
                      obtain ⟨y0, y1, y2, y3, y4⟩ := cell5 HY5.out
                      go_wp2_with fail
                      obtain ⟨w7, hw7⟩ : ∃ w7, w7 = (((((w5.setCell ⟨nb, 0, none⟩ (.int .i64 x0)).setCell ⟨nb, 1, none⟩ (.int .i64 3)).setCell ⟨nb, 2, none⟩ (.int .i64 2)).setCell ⟨nb, 3, none⟩ (.int .i64 0)).setCell ⟨nb, 4, none⟩ (.int .i64 0)) := ⟨_, rfl⟩
                      have hx7 := set5a HX5.out (.int .i64 x0) (.int .i64 3) (.int .i64 2) (.int .i64 0) (.int .i64 0)
                      rw [← hw7] at hx7
                      have hb7 : Below nb w w7 := by rw [hw7]; exact below_set5 HB5.out (Nat.le_refl _) _ _ _ _ _
                      rw [← hw7]
                      clear hw7
                      obtain ⟨z0, z1, z2, z3, z4⟩ := cell5 hx7
                      refine bodyPost_ret (v := .tuple #[.agg #[.int .i64 x0, .int .i64 3, .int .i64 2, .int .i64 0, .int .i64 0], .int .i64 0, .int .i64 0]) (by simp [results, Tryz.results42, go_sem, z0, z1, z2, z3, z4]) rfl ⟨?_, hb7⟩
                      exact refOneR_ok HOK.out rfl
                    · obtain ⟨y, hy⟩ : ∃ y, l[n - 1]? = some y := ⟨_, List.getElem?_eq_getElem (by have := HLN.out; omega)⟩
                      have hlast : l.getLast? = some y := by rw [List.getLast?_eq_getElem?, HLN.out]; exact hy
                      have HL5 := Lib.hid (show Sk.one [a, b, cc, d] l = if lessB y.1.1 y.1.2 x0 3 = true then .inl ((x0, 3), 2, 0, 0) else .inr (1, 6) by rw [HL4.out, hlast])
                      obtain ⟨g, off, n', c', e, d0, d1, _, _, _⟩ := HU.out.cells (by rw [HNB.out]; exact HB8.out) hy
                      injection e with e1 e2 e3
                      subst e1
                      clear hlast e2 e3 hy
                      obtain ⟨y0, y1, y2, y3, y4⟩ := cell5 HY8.out
                      have hn1 : 0 < n := by omega
                      have hnI : (0 : Int) < n := by omega
                      have hnz := decide_eq_true hnI
                      have hw1 : IntKind.i64.wrap ((n : Int) - 1) = (n : Int) - 1 := IntWalk.i64_in _ (by omega)
                      have hi0 : (0 : Int) ≤ (n : Int) - 1 := by omega
                      have hi3 : (1 : Int) ≤ n := by omega
                      have hi1 : (n : Int) - 1 < n := by omega
                      have hi2 : ((n : Int) - 1).toNat = n - 1 := by omega
                      have HH := Lib.hid (fun W (hb : Below w8.heap.size w8 W) => (⟨Lib.hid hb, (hb.cell (World.block_lt_of_cell? w8 _ d0)).trans d0, (hb.cell (World.block_lt_of_cell? w8 _ d1)).trans d1, (hb.cell (World.block_lt_of_cell? w8 _ y0)).trans y0, (hb.cell (World.block_lt_of_cell? w8 _ y1)).trans y1⟩ : (fun w' => Hid (Below w8.heap.size w8 w') ∧ w'.cell? ⟨g, off + (n - 1) * 5, none⟩ = some (.int .i64 y.1.1) ∧ w'.cell? ⟨g, off + (n - 1) * 5 + 1, none⟩ = some (.int .i64 y.1.2) ∧ w'.cell? ⟨nb + 1, 0, none⟩ = some (.int .i64 x0) ∧ w'.cell? ⟨nb + 1, 1, none⟩ = some (.int .i64 3)) W))
                      refine wp_region_noPanic ?_
                      refine wp_region_held_drew (S := (fun w' => Hid (Below w8.heap.size w8 w') ∧ w'.cell? ⟨g, off + (n - 1) * 5, none⟩ = some (.int .i64 y.1.1) ∧ w'.cell? ⟨g, off + (n - 1) * 5 + 1, none⟩ = some (.int .i64 y.1.2) ∧ w'.cell? ⟨nb + 1, 0, none⟩ = some (.int .i64 x0) ∧ w'.cell? ⟨nb + 1, 1, none⟩ = some (.int .i64 3))) (by kernel_rfl) (HH.out _ (below_drew1 (Below.refl w8.heap.size w8))) (fun hHeld => ?_)
                      refine wpAnyH_take (i := 0) (v := ?vc0_76) rfl (by kernel_rfl) (by kernel_rfl) (by kernel_rfl) (fun _ _ _ h => h) (Or.inl ⟨by rfl, ?hyc0_76⟩) (by assumption) ?restc0_76
                      case hyc0_76 => (intro w0 hSw; (try dsimp only at hSw); go_simp; try with_reducible rfl)
                      case' restc0_76 => try simp only [Act.put, List.getElem_toArray, List.getElem_cons_zero, List.getElem_cons_succ, List.setIfInBounds_toArray, List.set_cons_zero, List.set_cons_succ]
                      refine wpAnyH_take (i := 1) (v := ?vc1_77) rfl (by kernel_rfl) (by kernel_rfl) (by kernel_rfl) (fun _ _ _ h => h) (Or.inl ⟨by rfl, ?hyc1_77⟩) (by assumption) ?restc1_77
                      case hyc1_77 => (intro w0 hSw; (try dsimp only at hSw); go_simp; try with_reducible rfl)
                      case' restc1_77 => try simp only [Act.put, List.getElem_toArray, List.getElem_cons_zero, List.getElem_cons_succ, List.setIfInBounds_toArray, List.set_cons_zero, List.set_cons_succ]
                      refine wpAnyH_take (i := 2) (v := ?vc2_78) rfl (by kernel_rfl) (by kernel_rfl) (by kernel_rfl) (fun _ _ _ h => h) (Or.inl ⟨by rfl, ?hyc2_78⟩) (by assumption) ?restc2_78
                      case hyc2_78 => (intro w0 hSw; (try dsimp only at hSw); go_simp; try with_reducible rfl)
                      case' restc2_78 => try simp only [Act.put, List.getElem_toArray, List.getElem_cons_zero, List.getElem_cons_succ, List.setIfInBounds_toArray, List.set_cons_zero, List.set_cons_succ]
                      refine wpAnyH_take (i := 3) (v := ?vc3_79) rfl (by kernel_rfl) (by kernel_rfl) (by kernel_rfl) (fun _ _ _ h => h) (Or.inl ⟨by rfl, ?hyc3_79⟩) (by assumption) ?restc3_79
                      case hyc3_79 => (intro w0 hSw; (try dsimp only at hSw); go_simp; try with_reducible rfl)
                      case' restc3_79 => try simp only [Act.put, List.getElem_toArray, List.getElem_cons_zero, List.getElem_cons_succ, List.setIfInBounds_toArray, List.set_cons_zero, List.set_cons_succ]
                      refine wpAnyH_take (i := 4) (v := ?vc4_80) rfl (by kernel_rfl) (by kernel_rfl) (by kernel_rfl) (fun _ _ _ h => h) (Or.inl ⟨by rfl, ?hyc4_80⟩) (by assumption) ?restc4_80
                      case hyc4_80 => (intro w0 hSw; (try dsimp only at hSw); go_simp; try with_reducible rfl)
                      case' restc4_80 => try simp only [Act.put, List.getElem_toArray, List.getElem_cons_zero, List.getElem_cons_succ, List.setIfInBounds_toArray, List.set_cons_zero, List.set_cons_succ]
                      refine wpAnyH_take (i := 5) (v := ?vc5_81) rfl (by kernel_rfl) (by kernel_rfl) (by kernel_rfl) (fun _ _ _ h => h) (Or.inl ⟨by rfl, ?hyc5_81⟩) (by assumption) ?restc5_81
                      case hyc5_81 => (intro w0 hSw; (try dsimp only at hSw); go_simp; try with_reducible rfl)
                      case' restc5_81 => try simp only [Act.put, List.getElem_toArray, List.getElem_cons_zero, List.getElem_cons_succ, List.setIfInBounds_toArray, List.set_cons_zero, List.set_cons_succ]
                      refine wpAnyH_take (i := 6) (v := ?vc6_82) rfl (by kernel_rfl) (by kernel_rfl) (by kernel_rfl) (fun _ _ _ h => h) (Or.inl ⟨by rfl, ?hyc6_82⟩) (by assumption) ?restc6_82
                      case hyc6_82 => (intro w0 hSw; (try dsimp only at hSw); go_simp; try with_reducible rfl)
                      case' restc6_82 => try simp only [Act.put, List.getElem_toArray, List.getElem_cons_zero, List.getElem_cons_succ, List.setIfInBounds_toArray, List.set_cons_zero, List.set_cons_succ]
                      refine wpAnyH_take (i := 7) (v := ?vc7_83) rfl (by kernel_rfl) (by kernel_rfl) (by kernel_rfl) (fun _ _ _ h => h) (Or.inl ⟨by rfl, ?hyc7_83⟩) (by assumption) ?restc7_83
                      case hyc7_83 => (intro w0 hSw; (try dsimp only at hSw); go_simp; try with_reducible rfl)
                      case' restc7_83 => try simp only [Act.put, List.getElem_toArray, List.getElem_cons_zero, List.getElem_cons_succ, List.setIfInBounds_toArray, List.set_cons_zero, List.set_cons_succ]
                      refine wpAnyH_take (i := 8) (v := ?vc8_84) rfl (by kernel_rfl) (by kernel_rfl) (by kernel_rfl) (fun _ _ _ h => h) (Or.inl ⟨by rfl, ?hyc8_84⟩) (by assumption) ?restc8_84
                      case hyc8_84 => (intro w0 hSw; (try dsimp only at hSw); go_simp; try with_reducible rfl)
                      case' restc8_84 => try simp only [Act.put, List.getElem_toArray, List.getElem_cons_zero, List.getElem_cons_succ, List.setIfInBounds_toArray, List.set_cons_zero, List.set_cons_succ]
                      refine wpAnyH_take (i := 9) (v := ?vc9_85) rfl (by kernel_rfl) (by kernel_rfl) (by kernel_rfl) (fun _ _ _ h => h) (Or.inl ⟨by rfl, ?hyc9_85⟩) (by assumption) ?restc9_85
                      case hyc9_85 => (intro w0 hSw; (try dsimp only at hSw); go_simp; try with_reducible rfl)
                      case' restc9_85 => try simp only [Act.put, List.getElem_toArray, List.getElem_cons_zero, List.getElem_cons_succ, List.setIfInBounds_toArray, List.set_cons_zero, List.set_cons_succ]
                      refine wpAnyH_take (i := 10) (v := ?vc10_86) rfl (by kernel_rfl) (by kernel_rfl) (by kernel_rfl) (fun _ _ _ h => h) (Or.inl ⟨by rfl, ?hyc10_86⟩) (by assumption) ?restc10_86
                      case hyc10_86 => (intro w0 hSw; (try dsimp only at hSw); go_simp; try with_reducible rfl)
                      case' restc10_86 => try simp only [Act.put, List.getElem_toArray, List.getElem_cons_zero, List.getElem_cons_succ, List.setIfInBounds_toArray, List.set_cons_zero, List.set_cons_succ]
                      refine wpAnyH_take (i := 11) (v := ?vc11_87) rfl (by kernel_rfl) (by kernel_rfl) (by kernel_rfl) (fun _ _ _ h => h) (Or.inl ⟨by rfl, ?hyc11_87⟩) (by assumption) ?restc11_87
                      case hyc11_87 => (intro w0 hSw; (try dsimp only at hSw); go_simp; try with_reducible rfl)
                      case' restc11_87 => try simp only [Act.put, List.getElem_toArray, List.getElem_cons_zero, List.getElem_cons_succ, List.setIfInBounds_toArray, List.set_cons_zero, List.set_cons_succ]
                      refine wpAnyH_take (i := 12) (v := ?vc12_88) rfl (by kernel_rfl) (by kernel_rfl) (by kernel_rfl) (fun _ _ _ h => h) (Or.inl ⟨by rfl, ?hyc12_88⟩) (by assumption) ?restc12_88
                      case hyc12_88 => (intro w0 hSw; (try dsimp only at hSw); go_simp; try with_reducible rfl)
                      case' restc12_88 => try simp only [Act.put, List.getElem_toArray, List.getElem_cons_zero, List.getElem_cons_succ, List.setIfInBounds_toArray, List.set_cons_zero, List.set_cons_succ]
                      refine wpAnyH_ready (rs := [13]) (by kernel_rfl) (by simp) ?_
                      refine AllReadyH.cons rfl (fun K hK => ?_) AllReadyH.nil
                      go_simp
                      refine (refLess_any y.1.1 y.1.2 x0 3 _).mono ?_
                      rintro e w5 ⟨rfl, hb4⟩
                      refine hK.out _ _ (HH.out _ (bch (below_drew1 (Below.refl w8.heap.size w8)) hb4 (by simp))) (fun hHeld => ?_)
                      clear hK K
                      try simp only [Act.put, List.getElem_toArray, List.getElem_cons_zero, List.getElem_cons_succ, List.setIfInBounds_toArray, List.set_cons_zero, List.set_cons_succ]
                      refine wpAnyH_take (i := 14) (v := ?vc14_89) rfl (by kernel_rfl) (by kernel_rfl) (by kernel_rfl) (fun _ _ _ h => h) (Or.inl ⟨by rfl, ?hyc14_89⟩) (by assumption) ?restc14_89
                      case hyc14_89 => (intro w0 hSw; (try dsimp only at hSw); go_simp; try with_reducible rfl)
                      case' restc14_89 => try simp only [Act.put, List.getElem_toArray, List.getElem_cons_zero, List.getElem_cons_succ, List.setIfInBounds_toArray, List.set_cons_zero, List.set_cons_succ]
                      refine wpAnyH_take (i := 15) (v := ?vc15_90) rfl (by kernel_rfl) (by kernel_rfl) (by kernel_rfl) (fun _ _ _ h => h) (Or.inl ⟨by rfl, ?hyc15_90⟩) (by assumption) ?restc15_90
                      case hyc15_90 => (intro w0 hSw; (try dsimp only at hSw); go_simp; try with_reducible rfl)
                      case' restc15_90 => try simp only [Act.put, List.getElem_toArray, List.getElem_cons_zero, List.getElem_cons_succ, List.setIfInBounds_toArray, List.set_cons_zero, List.set_cons_succ]
                      refine wpAnyH_done (by kernel_rfl) ?_ _
                      refine NoPanic.normal ?_
                      have hb5 : Below w8.heap.size w8 w5 := bch (below_drew1 (Below.refl w8.heap.size w8)) hb4 (by simp)
                      clear hHeld HH hb4 y0 y1 y2 y3 y4 d0 d1 hw1 hi0 hi1 hi2 hi3 hnz
                      have HX5 := Lib.hid (heap_keep HX8.out hb5); have HY5 := Lib.hid (heap_keep HY8.out hb5); have HB5 := Lib.hid (bch HB8.out hb5 (by have := HB8.out.size; have := HNB.out; omega))
                      clear hb5
                      cases hls : lessB y.1.1 y.1.2 x0 3 with
                      | true =>
                        have HOK := Lib.hid (show Sk.one [a, b, cc, d] l = .inl ((x0, 3), 2, 0, 0) by rw [HL5.out, hls]; rfl)
                        clear hls
                        obtain ⟨m0, m1, m2, m3, m4⟩ := cell5 HX5.out
                        obtain ⟨f0, f1, f2, f3, f4⟩ := froz5a HX5.out
                        obtain ⟨y0, y1, y2, y3, y4⟩ := cell5 HY5.out
                        go_wp2_with fail
                        obtain ⟨w7, hw7⟩ : ∃ w7, w7 = (((((w5.setCell ⟨nb, 0, none⟩ (.int .i64 x0)).setCell ⟨nb, 1, none⟩ (.int .i64 3)).setCell ⟨nb, 2, none⟩ (.int .i64 2)).setCell ⟨nb, 3, none⟩ (.int .i64 0)).setCell ⟨nb, 4, none⟩ (.int .i64 0)) := ⟨_, rfl⟩
                        have hx7 := set5a HX5.out (.int .i64 x0) (.int .i64 3) (.int .i64 2) (.int .i64 0) (.int .i64 0)
                        rw [← hw7] at hx7
                        have hb7 : Below nb w w7 := by rw [hw7]; exact below_set5 HB5.out (Nat.le_refl _) _ _ _ _ _
                        rw [← hw7]
                        clear hw7
                        obtain ⟨z0, z1, z2, z3, z4⟩ := cell5 hx7
                        refine bodyPost_ret (v := .tuple #[.agg #[.int .i64 x0, .int .i64 3, .int .i64 2, .int .i64 0, .int .i64 0], .int .i64 0, .int .i64 0]) (by simp [results, Tryz.results42, go_sem, z0, z1, z2, z3, z4]) rfl ⟨?_, hb7⟩
                        exact refOneR_ok HOK.out rfl
                      | false =>
                        have HBAD := Lib.hid (show Sk.one [a, b, cc, d] l = .inr (1, 6) by rw [HL5.out, hls]; rfl)
                        clear hls
                        obtain ⟨m0, m1, m2, m3, m4⟩ := cell5 HX5.out
                        obtain ⟨f0, f1, f2, f3, f4⟩ := froz5a HX5.out
                        obtain ⟨y0, y1, y2, y3, y4⟩ := cell5 HY5.out
                        go_wp2_with fail
                        obtain ⟨w7, hw7⟩ : ∃ w7, w7 = (((((w5.setCell ⟨nb, 0, none⟩ (.int .i64 x0)).setCell ⟨nb, 1, none⟩ (.int .i64 3)).setCell ⟨nb, 2, none⟩ (.int .i64 2)).setCell ⟨nb, 3, none⟩ (.int .i64 0)).setCell ⟨nb, 4, none⟩ (.int .i64 0)) := ⟨_, rfl⟩
                        have hx7 := set5a HX5.out (.int .i64 x0) (.int .i64 3) (.int .i64 2) (.int .i64 0) (.int .i64 0)
                        rw [← hw7] at hx7
                        have hb7 : Below nb w w7 := by rw [hw7]; exact below_set5 HB5.out (Nat.le_refl _) _ _ _ _ _
                        rw [← hw7]
                        clear hw7
                        obtain ⟨z0, z1, z2, z3, z4⟩ := cell5 hx7
                        refine bodyPost_ret (v := .tuple #[.agg #[.int .i64 x0, .int .i64 3, .int .i64 2, .int .i64 0, .int .i64 0], .int .i64 1, .int .i64 6]) (by simp [results, Tryz.results42, go_sem, z0, z1, z2, z3, z4]) rfl ⟨?_, hb7⟩
                        exact refOneR_bad HBAD.out ((x0, 3), 2, 0, 0) rfl
            · have HBAD := Lib.hid (show Sk.one [a, b, cc, d] l = .inr (3, 3) by rw [HL2.out, hck]; rfl)
              have k1 := text_ne hn1
              have k2 := text_ne hn2
              unfold wDone at k1
              unfold wRef at k2
              clear hn1 hn2 hck
              obtain ⟨m0, m1, m2, m3, m4⟩ := cell5 HX2.out
              obtain ⟨f0, f1, f2, f3, f4⟩ := froz5a HX2.out
              obtain ⟨y0, y1, y2, y3, y4⟩ := cell5 HY2.out
              go_wp2_with fail
              obtain ⟨w7, hw7⟩ : ∃ w7, w7 = (((((w2.setCell ⟨nb, 0, none⟩ (.int .i64 0)).setCell ⟨nb, 1, none⟩ (.int .i64 0)).setCell ⟨nb, 2, none⟩ (.int .i64 0)).setCell ⟨nb, 3, none⟩ (.int .i64 0)).setCell ⟨nb, 4, none⟩ (.int .i64 0)) := ⟨_, rfl⟩
              have hx7 := set5a HX2.out (.int .i64 0) (.int .i64 0) (.int .i64 0) (.int .i64 0) (.int .i64 0)
              rw [← hw7] at hx7
              have hb7 : Below nb w w7 := by rw [hw7]; exact below_set5 HB2.out (Nat.le_refl _) _ _ _ _ _
              rw [← hw7]
              clear hw7
              obtain ⟨z0, z1, z2, z3, z4⟩ := cell5 hx7
              refine bodyPost_ret (v := .tuple #[.agg #[.int .i64 0, .int .i64 0, .int .i64 0, .int .i64 0, .int .i64 0], .int .i64 3, .int .i64 3]) (by simp [results, Tryz.results42, go_sem, z0, z1, z2, z3, z4]) rfl ⟨?_, hb7⟩
              exact refOneR_bad HBAD.out ((0, 0), 0, 0, 0) rfl
        · have hdk : ((deedK b).2 && decide (partyI (deedK b).1 = 1)) = false := by cases h : ((deedK b).2 && decide (partyI (deedK b).1 = 1)); rfl; exact absurd ((deed_two b).1 h) hd
          have HBAD := Lib.hid (show Sk.one [a, b, cc, d] l = .inr (2, 3) by rw [HONE2.out, if_pos hdk])
          have e1 := text_ne (fun h => hd (.inl h))
          have e2 := text_ne (fun h => hd (.inr h))
          rw [show wordL 0 = [114, 101, 115, 101, 114, 118, 101] from rfl] at e1
          rw [show wordL 3 = [114, 101, 108, 101, 97, 115, 101] from rfl] at e2
          clear hd hdk
          obtain ⟨m0, m1, m2, m3, m4⟩ := cell5 HX2.out
          obtain ⟨f0, f1, f2, f3, f4⟩ := froz5a HX2.out
          obtain ⟨y0, y1, y2, y3, y4⟩ := cell5 HY2.out
          go_wp2_with fail
          obtain ⟨w7, hw7⟩ : ∃ w7, w7 = (((((w2.setCell ⟨nb, 0, none⟩ (.int .i64 0)).setCell ⟨nb, 1, none⟩ (.int .i64 0)).setCell ⟨nb, 2, none⟩ (.int .i64 0)).setCell ⟨nb, 3, none⟩ (.int .i64 0)).setCell ⟨nb, 4, none⟩ (.int .i64 0)) := ⟨_, rfl⟩
          have hx7 := set5a HX2.out (.int .i64 0) (.int .i64 0) (.int .i64 0) (.int .i64 0) (.int .i64 0)
          rw [← hw7] at hx7
          have hb7 : Below nb w w7 := by rw [hw7]; exact below_set5 HB2.out (Nat.le_refl _) _ _ _ _ _
          rw [← hw7]
          clear hw7
          obtain ⟨z0, z1, z2, z3, z4⟩ := cell5 hx7
          refine bodyPost_ret (v := .tuple #[.agg #[.int .i64 0, .int .i64 0, .int .i64 0, .int .i64 0, .int .i64 0], .int .i64 2, .int .i64 3]) (by simp [results, Tryz.results42, go_sem, z0, z1, z2, z3, z4]) rfl ⟨?_, hb7⟩
          exact refOneR_bad HBAD.out ((0, 0), 0, 0, 0) rfl
  · obtain ⟨m, hm⟩ : ∃ m : Int, m = ((min r.length 4 + 1 : Nat) : Int) := ⟨_, rfl⟩
    have HWD := Lib.hid (fun W => rwide_any A r.length c 4 W (by omega) (by omega) m (by rw [if_pos h4]; exact hm))
    have HBAD := Lib.hid (show Sk.one r l = .inr (min r.length 4 + 1, 1) by unfold Sk.one; rw [if_pos h4])
    have hm0 : 0 < m := by omega
    have HMM := Lib.hid hm
    clear h4 hm hv hnb
    go_enter Tryz.func42, Tryz.ntmps42
    go_upto_region 2 with (fail)
    rw [HNB.out]
    rw [hWA.out]
    go_wp2_with fail
    refine (HWD.out _).mono ?_
    rintro e w1 ⟨rfl, hb⟩; subst hb
    go_upto_region 3 with (fail)
    obtain ⟨y0, y1, y2, y3, y4⟩ := cell5 HY.out
    obtain ⟨m0, m1, m2, m3, m4⟩ := cell5 HX.out
    obtain ⟨f0, f1, f2, f3, f4⟩ := froz5a HX.out
    have HH := Lib.hid (fun W (hb : Below wa.heap.size wa W) => (⟨Lib.hid hb, (hb.cell (World.block_lt_of_cell? wa _ y0)).trans y0, (hb.cell (World.block_lt_of_cell? wa _ y1)).trans y1, (hb.cell (World.block_lt_of_cell? wa _ y2)).trans y2, (hb.cell (World.block_lt_of_cell? wa _ y3)).trans y3, (hb.cell (World.block_lt_of_cell? wa _ y4)).trans y4⟩ : (fun w' => Hid (Below wa.heap.size wa w') ∧ w'.cell? ⟨nb + 1, 0, none⟩ = some (.int .i64 0) ∧ w'.cell? ⟨nb + 1, 1, none⟩ = some (.int .i64 0) ∧ w'.cell? ⟨nb + 1, 2, none⟩ = some (.int .i64 0) ∧ w'.cell? ⟨nb + 1, 3, none⟩ = some (.int .i64 0) ∧ w'.cell? ⟨nb + 1, 4, none⟩ = some (.int .i64 0)) W))
    refine wp_region_noPanic ?_
    refine wp_region_till 3 (fun _ => True) (fun w' => Hid (Below wa.heap.size wa w') ∧ w'.cell? ⟨nb + 1, 0, none⟩ = some (.int .i64 0) ∧ w'.cell? ⟨nb + 1, 1, none⟩ = some (.int .i64 0) ∧ w'.cell? ⟨nb + 1, 2, none⟩ = some (.int .i64 0) ∧ w'.cell? ⟨nb + 1, 3, none⟩ = some (.int .i64 0) ∧ w'.cell? ⟨nb + 1, 4, none⟩ = some (.int .i64 0)) (by kernel_rfl) (HH.out _ ((below_drew1 (Below.refl wa.heap.size wa)))) (fun hHeld => ?_)
    refine wpAnyT_go (i := 0) (v := ?vt0_1) rfl (by kernel_rfl) (by kernel_rfl) (by kernel_rfl) (fun _ _ _ h => h) (by kernel_rfl) (Or.inl ⟨by rfl, ?hyt0_1⟩) (by assumption) ?restt0_1
    case hyt0_1 => (intro w0 hSw; (try dsimp only at hSw); go_simp; try with_reducible rfl)
    case' restt0_1 => try simp only [Act.put, List.getElem_toArray, List.getElem_cons_zero, List.getElem_cons_succ, List.setIfInBounds_toArray, List.set_cons_zero, List.set_cons_succ]
    refine wpAnyT_go (i := 1) (v := ?vt1_2) rfl (by kernel_rfl) (by kernel_rfl) (by kernel_rfl) (fun _ _ _ h => h) (by kernel_rfl) (Or.inl ⟨by rfl, ?hyt1_2⟩) (by assumption) ?restt1_2
    case hyt1_2 => (intro w0 hSw; (try dsimp only at hSw); go_simp; try with_reducible rfl)
    case' restt1_2 => try simp only [Act.put, List.getElem_toArray, List.getElem_cons_zero, List.getElem_cons_succ, List.setIfInBounds_toArray, List.set_cons_zero, List.set_cons_succ]
    refine wpAnyT_ready (rs := [2]) (by kernel_rfl) (by simp) ?_
    refine AllReadyT.cons rfl (by kernel_rfl) (fun K hK => ?_) AllReadyT.nil
    go_simp
    refine (HWD.out _).mono ?_
    rintro e w1 ⟨rfl, hb⟩; subst hb
    refine hK.out _ _ (HH.out _ ((below_drew1 (Below.refl wa.heap.size wa)))) (fun hHeld => ?_)
    clear hK K
    try simp only [Act.put, List.getElem_toArray, List.getElem_cons_zero, List.getElem_cons_succ, List.setIfInBounds_toArray, List.set_cons_zero, List.set_cons_succ]
    refine wpAnyT_ready (rs := [3]) (by kernel_rfl) (by simp) ?_
    refine AllReadyT.last rfl (by kernel_rfl) (fun K hK => ?_) AllReadyT.nil
    go_simp
    refine hK.out _ _ trivial (fun hHeld => ?_)
    clear hK K
    try simp only [Act.put, List.getElem_toArray, List.getElem_cons_zero, List.getElem_cons_succ, List.setIfInBounds_toArray, List.set_cons_zero, List.set_cons_succ]
    refine wpAnyT_ready (rs := [4]) (by kernel_rfl) (by simp) ?_
    refine AllReadyT.last rfl (by kernel_rfl) (fun K hK => ?_) AllReadyT.nil
    go_simp
    refine hK.out _ _ trivial (fun hHeld => ?_)
    clear hK K
    try simp only [Act.put, List.getElem_toArray, List.getElem_cons_zero, List.getElem_cons_succ, List.setIfInBounds_toArray, List.set_cons_zero, List.set_cons_succ]
    refine wpAnyT_ready (rs := [5]) (by kernel_rfl) (by simp) ?_
    refine AllReadyT.last rfl (by kernel_rfl) (fun K hK => ?_) AllReadyT.nil
    go_simp
    refine hK.out _ _ trivial (fun hHeld => ?_)
    clear hK K
    try simp only [Act.put, List.getElem_toArray, List.getElem_cons_zero, List.getElem_cons_succ, List.setIfInBounds_toArray, List.set_cons_zero, List.set_cons_succ]
    refine wpAnyT_done (by kernel_rfl) ?_ _
    refine NoPanic.normal ?_
    go_wp2_with fail
    obtain ⟨w7, hw7⟩ : ∃ w7, w7 = (((((wa.setCell ⟨nb, 0, none⟩ (.int .i64 0)).setCell ⟨nb, 1, none⟩ (.int .i64 0)).setCell ⟨nb, 2, none⟩ (.int .i64 0)).setCell ⟨nb, 3, none⟩ (.int .i64 0)).setCell ⟨nb, 4, none⟩ (.int .i64 0)) := ⟨_, rfl⟩
    have hx7 := set5a HX.out (.int .i64 0) (.int .i64 0) (.int .i64 0) (.int .i64 0) (.int .i64 0)
    rw [← hw7] at hx7
    have hb7 : Below nb w w7 := by rw [hw7]; exact below_set5 HB.out (Nat.le_refl _) _ _ _ _ _
    rw [← hw7]
    clear hw7
    obtain ⟨z0, z1, z2, z3, z4⟩ := cell5 hx7
    refine bodyPost_ret (v := .tuple #[.agg #[.int .i64 0, .int .i64 0, .int .i64 0, .int .i64 0, .int .i64 0], .int .i64 m, .int .i64 1]) (by simp [results, Tryz.results42, go_sem, z0, z1, z2, z3, z4]) rfl ⟨?_, below_drew1 hb7⟩
    exact refOneR_bad HBAD.out ((0, 0), 0, 0, 0) (by rw [HMM.out]; rfl)

end Go.Proofs.YtgpjbigelblanaaGreatDoor

/- ManifestPrint: for every statement the law answers true. -/
import Derived.Test.YtgpjbigelblanaaGreatDoorManifestCame
import Derived.Test.YtgpjbigelblanaaGreatDoorManifestRefPrint
namespace Go.Proofs.YtgpjbigelblanaaGreatDoor
open Go.RowKit Go.Maps Key Mon Mf Rw

set_option linter.unusedSimpArgs false in
set_option linter.unusedVariables false in
set_option maxRecDepth 100000 in
set_option maxHeartbeats 4000000 in
theorem lawManifestPrint_walk (p q : Int) (v : Value) (l : List R5) (w : World) (hR : Rd w v l) (hS : MfW w) : Calls Tryz.prog 6 #[.agg #[.int .i64 p, .int .i64 q, v]] w fun e w' => e = .returned (.bool true) ∧ Below w.heap.size w w' := by
  obtain ⟨i0, hi, hz0, hz1, hz2⟩ := info_parts row_info
  obtain ⟨A, cv, rfl, hcv, hcm⟩ := hR.shape
  obtain ⟨wa, hwa⟩ : ∃ wa, w.alloc (.cells #[.int .i64 p, .int .i64 q, .slice A l.length cv] tStat) = wa := ⟨_, rfl⟩
  have HA := Lib.hid (show Below w.heap.size w wa by rw [← hwa]; exact below_alloc _ _)
  have HX := Lib.hid (show wa.heap[w.heap.size]? = some (.cells #[.int .i64 p, .int .i64 q, .slice A l.length cv] tStat (0, 0)) by rw [← hwa]; exact heap_new _ _)
  have hWA := Lib.hid hwa
  have HR := Lib.hid (hR.keep HA.out); have HS := Lib.hid hS
  have HST := Lib.hid (fun W (hb : Below w.heap.size w W) => carried_any W (hS.below hb))
  clear hwa hR hS
  obtain ⟨m0, m1, m2⟩ := cell3c HX.out
  by_cases hl : (420 : Int) < l.length
  · go_enter Tryz.func6, Tryz.ntmps6
    go_upto_region 1 with (fail)
    rw [hWA.out]
    go_wp2_with fail
    refine (HST.out _ HA.out).mono ?_
    rintro e w1 ⟨rfl, hb⟩
    have HB := Lib.hid (bch HA.out hb HA.out.size)
    clear hb
    go_wp2_with fail
    go_ret
    exact ⟨rfl, HB.out⟩
  · have hl4 : l.length ≤ 420 := by omega
    go_enter Tryz.func6, Tryz.ntmps6
    go_upto_region 1 with (fail)
    rw [hWA.out]
    go_upto_region 4 with (fail)
    obtain ⟨w1, hw1⟩ : ∃ w1, w1 = wa.alloc (.cells #[.int .i64 p, .int .i64 q, .slice A l.length cv] tStat) := ⟨_, rfl⟩
    rw [← hw1]
    have hb1 : Below wa.heap.size wa w1 := by rw [hw1]; exact below_alloc _ _
    have HB1 := Lib.hid hb1; have HX1 := Lib.hid (heap_keep HX.out hb1); have HR1 := Lib.hid (HR.out.keep hb1)
    have HY1 := Lib.hid (show w1.heap[wa.heap.size]? = some (.cells #[.int .i64 p, .int .i64 q, .slice A l.length cv] tStat (0, 0)) by rw [hw1]; exact heap_new _ _)
    have hlt : w.heap.size < wa.heap.size := heap_lt HX.out
    clear hw1 hb1 m0 m1 m2
    generalize hbs : wa.heap.size = bs at HY1 hlt ⊢
    have HBS := Lib.hid hbs
    clear hbs
    obtain ⟨m0, m1, m2⟩ := cell3c HX1.out
    obtain ⟨n0, n1, n2, g0, g1, g2⟩ := cell3 HY1.out
    go_upto_region 5 with (at_builtin; refine wpList_append_any _ rfl (.const (.slice none 0 0)) (.tmp 15) tRows rfl w1.heap.size tRow i0 (mkRow ((0, 0), 0, 0, 0)) 5 40 Tryz.underlying22 hi hz0 hz1 hz2 rfl (by decide) (.slice none 0 0) 0 [] rfl (World.ownsRow_nil _ _ _ _) l.length (l.flatMap encR) HR1.out.src (by unfold maxLen; omega) (by omega) (Nat.le_refl _) ?_; intro v2 w2 ho2 hg2 hat2; rw [Nat.zero_add, List.nil_append] at ho2; obtain ⟨A2, c2, rfl, _⟩ := own_slice ho2; have HO2 := Lib.hid ho2; have HB2 := Lib.hid (show Below w1.heap.size w1 w2 from (Below.refl w1.heap.size w1).grown hg2 (Nat.le_refl _) (fun j hj => by cases hj)); clear ho2 hg2 hat2; have hs2 := heap_keep HY1.out HB2.out; obtain ⟨t0, t1, t2, h0, h1, h2⟩ := cell3 hs2; clear hs2)
    obtain ⟨w3, hw3⟩ : ∃ w3, w3 = w2.setCell ⟨bs, 2, none⟩ (.slice A2 l.length c2) := ⟨_, rfl⟩
    rw [← hw3]
    have hsz1 : bs < w1.heap.size := heap_lt HY1.out
    have hb3 : Below bs wa w3 := by
      have h12 := bch HB1.out HB2.out HB1.out.size
      rw [HBS.out] at h12
      rw [hw3]
      exact h12.setCell (p := ⟨bs, 2, none⟩) (Nat.le_refl _) _
    have HR3 := Lib.hid (HR.out.keep (show Below wa.heap.size wa w3 by rw [HBS.out]; exact hb3))
    have HS3 := Lib.hid (show Rd w3 (.slice A2 l.length c2) l from rd_own (B := w1.heap.size) (by rw [hw3]; exact own_turned HO2.out (turned_set w2 bs 2 _) (fun j hj e => by have := (HO2.out.lt j hj).1; omega)))
    have HX3 := Lib.hid (show w3.heap[w.heap.size]? = some (.cells #[.int .i64 p, .int .i64 q, .slice A l.length cv] tStat (0, 0)) from heap_keep HX.out (by rw [HBS.out]; exact hb3))
    have HY3 := Lib.hid (show w3.heap[bs]? = some (.cells #[.int .i64 p, .int .i64 q, .slice A2 l.length c2] tStat (0, 0)) by rw [hw3]; have h := heap_keep HY1.out HB2.out; simp [World.setCell, Array.getElem?_modify, h])
    have HB3 := Lib.hid (show Below wa.heap.size wa w3 by rw [HBS.out]; exact hb3)
    clear hw3 hb3 m0 m1 m2 n0 n1 n2 g0 g1 g2 t0 t1 t2 h0 h1 h2 HO2 HB2 HY1 HX1 HR1 HB1
    obtain ⟨m0, m1, m2⟩ := cell3c HX3.out
    obtain ⟨n0, n1, n2⟩ := cell3c HY3.out
    obtain ⟨T, E, hTE⟩ : ∃ T E, printS p q l = (T, E) := ⟨_, _, rfl⟩
    have HP := Lib.hid (mprint_any (.slice A2 l.length c2) p q l w3 HS3.out ((HS.out.below HA.out).below HB3.out))
    have HQ := Lib.hid (fun W (hb : Below w3.heap.size w3 W) => mrefPrint_any (.slice A l.length cv) p q l W (HR3.out.keep hb))
    rw [hTE] at HP HQ
    unfold printV at HP HQ
    clear hTE
    go_wp2_with fail
    refine HP.out.mono ?_
    rintro e w4 ⟨rfl, hb4⟩
    have HB4 := Lib.hid hb4
    clear hb4 m0 m1 m2 n0 n1 n2 HP
    obtain ⟨m0, m1, m2⟩ := cell3c (heap_keep HX3.out HB4.out)
    go_wp2_with fail
    refine (HQ.out _ HB4.out).mono ?_
    rintro e w5 ⟨rfl, hb5⟩
    have HB5 := Lib.hid (bch HB4.out hb5 HB4.out.size)
    clear hb5 m0 m1 m2
    obtain ⟨m0, m1, m2⟩ := cell3c (heap_keep HX3.out HB5.out)
    obtain ⟨n0, n1, n2⟩ := cell3c (heap_keep HY3.out HB5.out)
    have q1 := text_eq (rfl : T = T)
    have q2 := beqT (rfl : E = E)
    go_wp2_with fail
    refine (refSameT w5 (.slice A l.length cv) (.slice A2 l.length c2) l p q (HR3.out.keep HB5.out) (HS3.out.keep HB5.out) (by omega)).mono ?_
    rintro e w6 ⟨rfl, hb6⟩
    have HB6 := Lib.hid (bch HA.out (bch HB3.out (bch HB5.out hb6 HB5.out.size) HB3.out.size) HA.out.size)
    clear hb6 m0 m1 m2 n0 n1 n2
    go_wp2_with fail
    refine (HST.out _ HB6.out).mono ?_
    rintro e w7 ⟨rfl, hb7⟩
    have HB7 := Lib.hid (bch HB6.out hb7 HB6.out.size)
    clear hb7
    go_wp2_with fail
    go_ret
    exact ⟨rfl, HB7.out⟩
end Go.Proofs.YtgpjbigelblanaaGreatDoor

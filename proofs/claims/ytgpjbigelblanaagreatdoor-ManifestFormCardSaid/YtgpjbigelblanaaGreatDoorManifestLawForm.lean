/- ManifestForm: for every text the law answers true. -/
import Derived.Test.YtgpjbigelblanaaGreatDoorManifestCame
namespace Go.Proofs.YtgpjbigelblanaaGreatDoor
open Go.RowKit Go.Maps Key Mon Mf Rw

set_option linter.unusedSimpArgs false in
set_option linter.unusedVariables false in
set_option maxRecDepth 100000 in
set_option maxHeartbeats 4000000 in
theorem lawManifestForm_walk (s : ByteArray) (w : World) (hS : MfW w) : Calls Tryz.prog 10 #[.string s] w fun e w' => e = .returned (.bool true) ∧ Below w.heap.size w w' := by
  have HS := Lib.hid hS
  have HST := Lib.hid (fun W (hb : Below w.heap.size w W) => carried_any W (hS.below hb))
  clear hS
  by_cases hl : (2000 : Int) < (s.size : Int)
  · go_enter Tryz.func10, Tryz.ntmps10
    go_wp2_with fail
    refine (HST.out _ (Below.refl _ _)).mono ?_
    rintro e w1 ⟨rfl, hb⟩
    have HB := Lib.hid hb
    clear hb
    go_wp2_with fail
    go_ret
    exact ⟨rfl, HB.out⟩
  · rcases parse_text s.data.toList with ⟨a, b, c, hp, hc, ha, hb⟩ | ⟨q, l, hp, hv⟩
    · obtain ⟨ai, hai⟩ : ∃ ai : Int, ai = a := ⟨_, rfl⟩
      obtain ⟨bi, hbi⟩ : ∃ bi : Int, bi = b := ⟨_, rfl⟩
      obtain ⟨ci, hci⟩ : ∃ ci : Int, ci = c := ⟨_, rfl⟩
      have HP := Lib.hid (mparse_is s _ rfl 0 0 [] a b c ai bi ci w hp hai hbi hci HS.out)
      have q1 := bneT (show ¬ ci = 0 by omega)
      have q2 := decide_eq_true (show 1 ≤ ai by omega)
      have q3 := decide_eq_true (show 1 ≤ bi by omega)
      clear hp hc ha hb hai hbi hci
      go_enter Tryz.func10, Tryz.ntmps10
      go_wp2_with fail
      refine HP.out.mono ?_
      rintro e w1 ⟨⟨v, rfl, hr⟩, hb1⟩
      obtain ⟨A, cc, rfl, _⟩ := hr.shape
      go_upto_region 4 with (fail)
      obtain ⟨w2, hw2⟩ : ∃ w2, w2 = (w1.alloc (.cells #[.int .i64 0, .int .i64 0, .slice A 0 cc] tStat)).alloc (.cells #[.int .i64 ai, .int .i64 bi, .int .i64 ci] tRej) := ⟨_, rfl⟩
      rw [← hw2]
      have h2 := two_kept w w1 _ _ hb1 hw2.symm
      have HB2 := Lib.hid h2.1; have HX := Lib.hid h2.2.1; have HY := Lib.hid h2.2.2.1; have HR := Lib.hid (hr.keep h2.2.2.2)
      clear hw2 h2 hb1 hr HP
      generalize w1.heap.size = b1 at HX HY ⊢
      obtain ⟨m0, m1, m2⟩ := cell3c HX.out
      obtain ⟨n0, n1, n2⟩ := cell3c HY.out
      go_wp2_with fail
      refine (rowsSameT w2 (.slice A 0 cc) (.slice none 0 0) [] 0 0 HR.out (Rd.nil _) (by simp)).mono ?_
      rintro e w3 ⟨rfl, hb3⟩
      have HB3 := Lib.hid (bch HB2.out hb3 HB2.out.size)
      clear hb3 m0 m1 m2 n0 n1 n2
      go_wp2_with fail
      refine (HST.out _ HB3.out).mono ?_
      rintro e w4 ⟨rfl, hb4⟩
      have HB4 := Lib.hid (bch HB3.out hb4 HB3.out.size)
      clear hb4
      go_wp2_with fail
      go_ret
      exact ⟨rfl, HB4.out⟩
    · have HP := Lib.hid (mparse_is s _ rfl 2 q l 0 0 0 0 0 0 w hp rfl rfl rfl HS.out)
      have hl4 := (valid_parts hv).2.2.1
      have HV := Lib.hid hv
      have HPR := Lib.hid (show printS 2 q l = (Csv.printOf (table q l), 0) by unfold printS okP; rw [hv]; simp)
      have HPA := Lib.hid (parse_table hv)
      clear hp hv
      go_enter Tryz.func10, Tryz.ntmps10
      go_wp2_with fail
      refine HP.out.mono ?_
      rintro e w1 ⟨⟨v, rfl, hr⟩, hb1⟩
      obtain ⟨A, cc, rfl, _⟩ := hr.shape
      go_upto_region 4 with (fail)
      obtain ⟨w2, hw2⟩ : ∃ w2, w2 = (w1.alloc (.cells #[.int .i64 2, .int .i64 q, .slice A l.length cc] tStat)).alloc (.cells #[.int .i64 0, .int .i64 0, .int .i64 0] tRej) := ⟨_, rfl⟩
      rw [← hw2]
      have h2 := two_kept w w1 _ _ hb1 hw2.symm
      have HB2 := Lib.hid h2.1; have HX := Lib.hid h2.2.1; have HY := Lib.hid h2.2.2.1; have HR := Lib.hid (hr.keep h2.2.2.2)
      clear hw2 h2 hb1 hr HP
      generalize w1.heap.size = b1 at HX HY ⊢
      obtain ⟨m0, m1, m2⟩ := cell3c HX.out
      obtain ⟨n0, n1, n2⟩ := cell3c HY.out
      have HPQ := Lib.hid (mprint_any (.slice A l.length cc) 2 q l w2 HR.out (HS.out.below HB2.out))
      rw [HPR.out] at HPQ
      unfold printV at HPQ
      go_wp2_with fail
      refine HPQ.out.mono ?_
      rintro e w3 ⟨rfl, hb3⟩
      have HB3 := Lib.hid (bch HB2.out hb3 HB2.out.size); have HX3 := Lib.hid (heap_keep HX.out hb3); have HY3 := Lib.hid (heap_keep HY.out hb3); have HR3 := Lib.hid (HR.out.keep hb3)
      clear hb3 m0 m1 m2 n0 n1 n2 HX HY HR HPQ HPR
      have HP2 := Lib.hid (mparse_is ⟨(Csv.printOf (table q l)).toArray⟩ _ (bytes_list _) 2 q l 0 0 0 0 0 0 w3 HPA.out rfl rfl rfl (HS.out.below HB3.out))
      go_wp2_with fail
      refine HP2.out.mono ?_
      rintro e w4 ⟨⟨v, rfl, hr⟩, hb4⟩
      obtain ⟨A2, c2, rfl, _⟩ := hr.shape
      go_upto_region 8 with (fail)
      obtain ⟨w5, hw5⟩ : ∃ w5, w5 = (w4.alloc (.cells #[.int .i64 2, .int .i64 q, .slice A2 l.length c2] tStat)).alloc (.cells #[.int .i64 0, .int .i64 0, .int .i64 0] tRej) := ⟨_, rfl⟩
      rw [← hw5]
      have h5 := two_kept w3 w4 _ _ hb4 hw5.symm
      have HX5 := Lib.hid (heap_keep HX3.out h5.1); have HY5 := Lib.hid (heap_keep HY3.out h5.1); have HR5 := Lib.hid (HR3.out.keep h5.1); have HB5 := Lib.hid (bch HB3.out h5.1 HB3.out.size)
      have HX6 := Lib.hid h5.2.1; have HY6 := Lib.hid h5.2.2.1; have HR6 := Lib.hid (hr.keep h5.2.2.2)
      clear hw5 h5 hb4 hr HP2 HX3 HY3 HR3 HB3
      generalize w4.heap.size = b4 at HX6 HY6 ⊢
      obtain ⟨m0, m1, m2⟩ := cell3c HX5.out
      obtain ⟨n0, n1, n2⟩ := cell3c HY5.out
      obtain ⟨p0, p1, p2⟩ := cell3c HX6.out
      obtain ⟨q0, q1, q2⟩ := cell3c HY6.out
      go_wp2_with fail
      refine (rowsSameT w5 (.slice A2 l.length c2) (.slice A l.length cc) l 2 q HR6.out HR5.out (by omega)).mono ?_
      rintro e w6 ⟨rfl, hb6⟩
      have HB6 := Lib.hid (bch HB5.out hb6 HB5.out.size)
      clear m0 m1 m2 n0 n1 n2 p0 p1 p2 q0 q1 q2
      obtain ⟨m0, m1, m2⟩ := cell3c (heap_keep HX5.out hb6)
      have HVV := Lib.hid (rowsValid_any w6 2 q (.slice A l.length cc) l (HR5.out.keep hb6) (HS.out.below HB6.out).pt)
      rw [HV.out] at HVV
      clear hb6
      go_wp2_with fail
      refine HVV.out.mono ?_
      rintro e w7 ⟨rfl, hb7⟩
      have HB7 := Lib.hid (bch HB6.out hb7 HB6.out.size)
      clear hb7 m0 m1 m2
      go_wp2_with fail
      refine (HST.out _ HB7.out).mono ?_
      rintro e w8 ⟨rfl, hb8⟩
      have HB8 := Lib.hid (bch HB7.out hb8 HB7.out.size)
      clear hb8
      go_wp2_with fail
      go_ret
      exact ⟨rfl, HB8.out⟩
end Go.Proofs.YtgpjbigelblanaaGreatDoor

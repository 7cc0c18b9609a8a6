/- Whether rows may be a party's: rows.may, Check, Valid. -/
import Derived.Test.YtlkncmpengpbiaaGreatDoorRowMem
import Derived.Test.YtlkncmpengpbiaaGreatDoorKeyTab
import Derived.Test.YtlkncmpengpbiaaGreatDoorShort
namespace Go.Proofs.YtlkncmpengpbiaaGreatDoor
open Go.RowKit Go.Maps Key
set_option linter.unusedSimpArgs false
set_option linter.unusedVariables false
set_option maxRecDepth 100000
set_option maxHeartbeats 8000000

open Rw

theorem rowMay_any (w : World) (o d c a q p : Int) (hT : PT w) :
  Calls Tryz.prog 177 #[.agg #[.int .i64 o, .int .i64 d, .int .i64 c, .int .i64 a, .int .i64 q], .int .i64 p] w fun e w' => e = .returned (.bool (okRow p ((o, d), c, a, q))) ∧ Below w.heap.size w w' := by
 obtain ⟨pd, hpd⟩ : ∃ z, partyI d = z := ⟨_, rfl⟩
 have HP : Hid (∀ W, Below w.heap.size w W → Calls Tryz.prog 107 #[.int .i64 d] W fun e w' => e = .returned (.int .i64 pd) ∧ W = w') := Hd (fun W (hb : Below w.heap.size w W) => (party_any d W (hT.below hb)).mono (fun e w' h => (⟨by rw [h.1, hpd], h.2⟩ : e = .returned (.int .i64 pd) ∧ W = w')))
 have HC := Hd (fun W => check_any o d W)
 clear hT
 cases hc : chk o d with
 | false =>
  rw [hc] at HC
  have HF := Hd (show okRow p ((o, d), c, a, q) = false by simp [okRow, hc, hpd])
  have HB := Hd (below_alloc w (.cells #[.int .i64 o, .int .i64 d, .int .i64 c, .int .i64 a, .int .i64 q] tRow))
  have HM := Hd (heap_new w (.cells #[.int .i64 o, .int .i64 d, .int .i64 c, .int .i64 a, .int .i64 q] tRow))
  go_enter Tryz.func177, Tryz.ntmps177
  go_wp2_with fail
  generalize w.alloc (.cells #[.int .i64 o, .int .i64 d, .int .i64 c, .int .i64 a, .int .i64 q] tRow) = wa at HB HM ⊢
  obtain ⟨m0, m1, m2, m3, m4⟩ := cell5 HM.out
  go_wp2_with fail
  refine (HC.out _).mono ?_
  rintro e w1 ⟨rfl, hb⟩
  have HB1 := Hd (bch HB.out hb HB.out.size)
  have HM1 := Hd (heap_keep HM.out hb)
  clear hb m0 m1 m2 m3 m4
  obtain ⟨m0, m1, m2, m3, m4⟩ := cell5 HM1.out
  go_wp2_with fail
  go_ret
  exact ⟨by rw [HF.out]; rfl, HB1.out⟩
 | true =>
  rw [hc] at HC
  by_cases hp : pd = p
  ·subst hp
   by_cases h2 : c = 2
   ·subst h2
    by_cases h3 : a = 0
    ·subst h3
     by_cases h4 : q = 0
     ·subst h4
      have HF := Hd (show okRow pd ((o, d), 2, 0, 0) = true by simp [okRow, hc, hpd])
      have HB := Hd (below_alloc w (.cells #[.int .i64 o, .int .i64 d, .int .i64 2, .int .i64 0, .int .i64 0] tRow))
      have HM := Hd (heap_new w (.cells #[.int .i64 o, .int .i64 d, .int .i64 2, .int .i64 0, .int .i64 0] tRow))
      go_enter Tryz.func177, Tryz.ntmps177
      go_wp2_with fail
      generalize w.alloc (.cells #[.int .i64 o, .int .i64 d, .int .i64 2, .int .i64 0, .int .i64 0] tRow) = wa at HB HM ⊢
      obtain ⟨m0, m1, m2, m3, m4⟩ := cell5 HM.out
      go_wp2_with fail
      refine (HC.out _).mono ?_
      rintro e w1 ⟨rfl, hb⟩
      have HB1 := Hd (bch HB.out hb HB.out.size)
      have HM1 := Hd (heap_keep HM.out hb)
      clear hb m0 m1 m2 m3 m4
      obtain ⟨m0, m1, m2, m3, m4⟩ := cell5 HM1.out
      go_wp2_with fail
      refine (HP.out _ HB1.out).mono ?_
      rintro e w2 ⟨rfl, hw⟩; subst hw
      go_wp2_with fail
      go_ret
      exact ⟨by rw [HF.out]; rfl, HB1.out⟩
     ·have h4b := beqF h4
      have h4c := bneT h4
      have HF := Hd (show okRow pd ((o, d), 2, 0, q) = false by simp [okRow, hc, hpd, h4])
      have HB := Hd (below_alloc w (.cells #[.int .i64 o, .int .i64 d, .int .i64 2, .int .i64 0, .int .i64 q] tRow))
      have HM := Hd (heap_new w (.cells #[.int .i64 o, .int .i64 d, .int .i64 2, .int .i64 0, .int .i64 q] tRow))
      go_enter Tryz.func177, Tryz.ntmps177
      go_wp2_with fail
      generalize w.alloc (.cells #[.int .i64 o, .int .i64 d, .int .i64 2, .int .i64 0, .int .i64 q] tRow) = wa at HB HM ⊢
      obtain ⟨m0, m1, m2, m3, m4⟩ := cell5 HM.out
      go_wp2_with fail
      refine (HC.out _).mono ?_
      rintro e w1 ⟨rfl, hb⟩
      have HB1 := Hd (bch HB.out hb HB.out.size)
      have HM1 := Hd (heap_keep HM.out hb)
      clear hb m0 m1 m2 m3 m4
      obtain ⟨m0, m1, m2, m3, m4⟩ := cell5 HM1.out
      go_wp2_with fail
      refine (HP.out _ HB1.out).mono ?_
      rintro e w2 ⟨rfl, hw⟩; subst hw
      go_wp2_with fail
      go_ret
      exact ⟨by rw [HF.out]; rfl, HB1.out⟩
    ·have h3b := beqF h3
     have h3c := bneT h3
     have HF := Hd (show okRow pd ((o, d), 2, a, q) = false by simp [okRow, hc, hpd, h3])
     have HB := Hd (below_alloc w (.cells #[.int .i64 o, .int .i64 d, .int .i64 2, .int .i64 a, .int .i64 q] tRow))
     have HM := Hd (heap_new w (.cells #[.int .i64 o, .int .i64 d, .int .i64 2, .int .i64 a, .int .i64 q] tRow))
     go_enter Tryz.func177, Tryz.ntmps177
     go_wp2_with fail
     generalize w.alloc (.cells #[.int .i64 o, .int .i64 d, .int .i64 2, .int .i64 a, .int .i64 q] tRow) = wa at HB HM ⊢
     obtain ⟨m0, m1, m2, m3, m4⟩ := cell5 HM.out
     go_wp2_with fail
     refine (HC.out _).mono ?_
     rintro e w1 ⟨rfl, hb⟩
     have HB1 := Hd (bch HB.out hb HB.out.size)
     have HM1 := Hd (heap_keep HM.out hb)
     clear hb m0 m1 m2 m3 m4
     obtain ⟨m0, m1, m2, m3, m4⟩ := cell5 HM1.out
     go_wp2_with fail
     refine (HP.out _ HB1.out).mono ?_
     rintro e w2 ⟨rfl, hw⟩; subst hw
     go_wp2_with fail
     go_ret
     exact ⟨by rw [HF.out]; rfl, HB1.out⟩
   ·have h2b := beqF h2
    have h2c := bneT h2
    by_cases h1 : c = 1
    ·subst h1
     by_cases h0 : pd = 0
     ·subst h0
      by_cases h4 : q = 0
      ·subst h4
       by_cases h5 : 0 ≤ a
       ·by_cases h6 : a ≤ 1099511627776
        ·have h6b : decide (a ≤ 1099511627776) = true := decide_eq_true h6
         have HF := Hd (show okRow 0 ((o, d), 1, a, 0) = true by simp [okRow, hc, hpd, h5, h6])
         have HB := Hd (below_alloc w (.cells #[.int .i64 o, .int .i64 d, .int .i64 1, .int .i64 a, .int .i64 0] tRow))
         have HM := Hd (heap_new w (.cells #[.int .i64 o, .int .i64 d, .int .i64 1, .int .i64 a, .int .i64 0] tRow))
         go_enter Tryz.func177, Tryz.ntmps177
         go_wp2_with fail
         generalize w.alloc (.cells #[.int .i64 o, .int .i64 d, .int .i64 1, .int .i64 a, .int .i64 0] tRow) = wa at HB HM ⊢
         obtain ⟨m0, m1, m2, m3, m4⟩ := cell5 HM.out
         go_wp2_with fail
         refine (HC.out _).mono ?_
         rintro e w1 ⟨rfl, hb⟩
         have HB1 := Hd (bch HB.out hb HB.out.size)
         have HM1 := Hd (heap_keep HM.out hb)
         clear hb m0 m1 m2 m3 m4
         obtain ⟨m0, m1, m2, m3, m4⟩ := cell5 HM1.out
         go_wp2_with fail
         refine (HP.out _ HB1.out).mono ?_
         rintro e w2 ⟨rfl, hw⟩; subst hw
         go_wp2_with fail
         go_ret
         exact ⟨by rw [HF.out]; rfl, HB1.out⟩
        ·have h6' : 1099511627776 < a := by omega
         have h6b : decide (a ≤ 1099511627776) = false := decide_eq_false h6
         have HF := Hd (show okRow 0 ((o, d), 1, a, 0) = false by simp [okRow, hc, hpd, h6])
         have HB := Hd (below_alloc w (.cells #[.int .i64 o, .int .i64 d, .int .i64 1, .int .i64 a, .int .i64 0] tRow))
         have HM := Hd (heap_new w (.cells #[.int .i64 o, .int .i64 d, .int .i64 1, .int .i64 a, .int .i64 0] tRow))
         go_enter Tryz.func177, Tryz.ntmps177
         go_wp2_with fail
         generalize w.alloc (.cells #[.int .i64 o, .int .i64 d, .int .i64 1, .int .i64 a, .int .i64 0] tRow) = wa at HB HM ⊢
         obtain ⟨m0, m1, m2, m3, m4⟩ := cell5 HM.out
         go_wp2_with fail
         refine (HC.out _).mono ?_
         rintro e w1 ⟨rfl, hb⟩
         have HB1 := Hd (bch HB.out hb HB.out.size)
         have HM1 := Hd (heap_keep HM.out hb)
         clear hb m0 m1 m2 m3 m4
         obtain ⟨m0, m1, m2, m3, m4⟩ := cell5 HM1.out
         go_wp2_with fail
         refine (HP.out _ HB1.out).mono ?_
         rintro e w2 ⟨rfl, hw⟩; subst hw
         go_wp2_with fail
         go_ret
         exact ⟨by rw [HF.out]; rfl, HB1.out⟩
       ·have h5' : a < 0 := by omega
        have HF := Hd (show okRow 0 ((o, d), 1, a, 0) = false by simp [okRow, hc, hpd, h5])
        have HB := Hd (below_alloc w (.cells #[.int .i64 o, .int .i64 d, .int .i64 1, .int .i64 a, .int .i64 0] tRow))
        have HM := Hd (heap_new w (.cells #[.int .i64 o, .int .i64 d, .int .i64 1, .int .i64 a, .int .i64 0] tRow))
        go_enter Tryz.func177, Tryz.ntmps177
        go_wp2_with fail
        generalize w.alloc (.cells #[.int .i64 o, .int .i64 d, .int .i64 1, .int .i64 a, .int .i64 0] tRow) = wa at HB HM ⊢
        obtain ⟨m0, m1, m2, m3, m4⟩ := cell5 HM.out
        go_wp2_with fail
        refine (HC.out _).mono ?_
        rintro e w1 ⟨rfl, hb⟩
        have HB1 := Hd (bch HB.out hb HB.out.size)
        have HM1 := Hd (heap_keep HM.out hb)
        clear hb m0 m1 m2 m3 m4
        obtain ⟨m0, m1, m2, m3, m4⟩ := cell5 HM1.out
        go_wp2_with fail
        refine (HP.out _ HB1.out).mono ?_
        rintro e w2 ⟨rfl, hw⟩; subst hw
        go_wp2_with fail
        go_ret
        exact ⟨by rw [HF.out]; rfl, HB1.out⟩
      ·have h4b := beqF h4
       have h4c := bneT h4
       have HF := Hd (show okRow 0 ((o, d), 1, a, q) = false by simp [okRow, hc, hpd, h4])
       have HB := Hd (below_alloc w (.cells #[.int .i64 o, .int .i64 d, .int .i64 1, .int .i64 a, .int .i64 q] tRow))
       have HM := Hd (heap_new w (.cells #[.int .i64 o, .int .i64 d, .int .i64 1, .int .i64 a, .int .i64 q] tRow))
       go_enter Tryz.func177, Tryz.ntmps177
       go_wp2_with fail
       generalize w.alloc (.cells #[.int .i64 o, .int .i64 d, .int .i64 1, .int .i64 a, .int .i64 q] tRow) = wa at HB HM ⊢
       obtain ⟨m0, m1, m2, m3, m4⟩ := cell5 HM.out
       go_wp2_with fail
       refine (HC.out _).mono ?_
       rintro e w1 ⟨rfl, hb⟩
       have HB1 := Hd (bch HB.out hb HB.out.size)
       have HM1 := Hd (heap_keep HM.out hb)
       clear hb m0 m1 m2 m3 m4
       obtain ⟨m0, m1, m2, m3, m4⟩ := cell5 HM1.out
       go_wp2_with fail
       refine (HP.out _ HB1.out).mono ?_
       rintro e w2 ⟨rfl, hw⟩; subst hw
       go_wp2_with fail
       go_ret
       exact ⟨by rw [HF.out]; rfl, HB1.out⟩
     ·have h0b := beqF h0
      have h0c := bneT h0
      by_cases h3 : a = 0
      ·subst h3
       by_cases h5 : 0 ≤ q
       ·by_cases h6 : q ≤ 999
        ·have h6b : decide (q ≤ 999) = true := decide_eq_true h6
         have HF := Hd (show okRow pd ((o, d), 1, 0, q) = true by simp [okRow, hc, hpd, h0, h5, h6])
         have HB := Hd (below_alloc w (.cells #[.int .i64 o, .int .i64 d, .int .i64 1, .int .i64 0, .int .i64 q] tRow))
         have HM := Hd (heap_new w (.cells #[.int .i64 o, .int .i64 d, .int .i64 1, .int .i64 0, .int .i64 q] tRow))
         go_enter Tryz.func177, Tryz.ntmps177
         go_wp2_with fail
         generalize w.alloc (.cells #[.int .i64 o, .int .i64 d, .int .i64 1, .int .i64 0, .int .i64 q] tRow) = wa at HB HM ⊢
         obtain ⟨m0, m1, m2, m3, m4⟩ := cell5 HM.out
         go_wp2_with fail
         refine (HC.out _).mono ?_
         rintro e w1 ⟨rfl, hb⟩
         have HB1 := Hd (bch HB.out hb HB.out.size)
         have HM1 := Hd (heap_keep HM.out hb)
         clear hb m0 m1 m2 m3 m4
         obtain ⟨m0, m1, m2, m3, m4⟩ := cell5 HM1.out
         go_wp2_with fail
         refine (HP.out _ HB1.out).mono ?_
         rintro e w2 ⟨rfl, hw⟩; subst hw
         go_wp2_with fail
         go_ret
         exact ⟨by rw [HF.out]; rfl, HB1.out⟩
        ·have h6' : 999 < q := by omega
         have h6b : decide (q ≤ 999) = false := decide_eq_false h6
         have HF := Hd (show okRow pd ((o, d), 1, 0, q) = false by simp [okRow, hc, hpd, h0, h6])
         have HB := Hd (below_alloc w (.cells #[.int .i64 o, .int .i64 d, .int .i64 1, .int .i64 0, .int .i64 q] tRow))
         have HM := Hd (heap_new w (.cells #[.int .i64 o, .int .i64 d, .int .i64 1, .int .i64 0, .int .i64 q] tRow))
         go_enter Tryz.func177, Tryz.ntmps177
         go_wp2_with fail
         generalize w.alloc (.cells #[.int .i64 o, .int .i64 d, .int .i64 1, .int .i64 0, .int .i64 q] tRow) = wa at HB HM ⊢
         obtain ⟨m0, m1, m2, m3, m4⟩ := cell5 HM.out
         go_wp2_with fail
         refine (HC.out _).mono ?_
         rintro e w1 ⟨rfl, hb⟩
         have HB1 := Hd (bch HB.out hb HB.out.size)
         have HM1 := Hd (heap_keep HM.out hb)
         clear hb m0 m1 m2 m3 m4
         obtain ⟨m0, m1, m2, m3, m4⟩ := cell5 HM1.out
         go_wp2_with fail
         refine (HP.out _ HB1.out).mono ?_
         rintro e w2 ⟨rfl, hw⟩; subst hw
         go_wp2_with fail
         go_ret
         exact ⟨by rw [HF.out]; rfl, HB1.out⟩
       ·have h5' : q < 0 := by omega
        have HF := Hd (show okRow pd ((o, d), 1, 0, q) = false by simp [okRow, hc, hpd, h0, h5])
        have HB := Hd (below_alloc w (.cells #[.int .i64 o, .int .i64 d, .int .i64 1, .int .i64 0, .int .i64 q] tRow))
        have HM := Hd (heap_new w (.cells #[.int .i64 o, .int .i64 d, .int .i64 1, .int .i64 0, .int .i64 q] tRow))
        go_enter Tryz.func177, Tryz.ntmps177
        go_wp2_with fail
        generalize w.alloc (.cells #[.int .i64 o, .int .i64 d, .int .i64 1, .int .i64 0, .int .i64 q] tRow) = wa at HB HM ⊢
        obtain ⟨m0, m1, m2, m3, m4⟩ := cell5 HM.out
        go_wp2_with fail
        refine (HC.out _).mono ?_
        rintro e w1 ⟨rfl, hb⟩
        have HB1 := Hd (bch HB.out hb HB.out.size)
        have HM1 := Hd (heap_keep HM.out hb)
        clear hb m0 m1 m2 m3 m4
        obtain ⟨m0, m1, m2, m3, m4⟩ := cell5 HM1.out
        go_wp2_with fail
        refine (HP.out _ HB1.out).mono ?_
        rintro e w2 ⟨rfl, hw⟩; subst hw
        go_wp2_with fail
        go_ret
        exact ⟨by rw [HF.out]; rfl, HB1.out⟩
      ·have h3b := beqF h3
       have h3c := bneT h3
       have HF := Hd (show okRow pd ((o, d), 1, a, q) = false by simp [okRow, hc, hpd, h0, h3])
       have HB := Hd (below_alloc w (.cells #[.int .i64 o, .int .i64 d, .int .i64 1, .int .i64 a, .int .i64 q] tRow))
       have HM := Hd (heap_new w (.cells #[.int .i64 o, .int .i64 d, .int .i64 1, .int .i64 a, .int .i64 q] tRow))
       go_enter Tryz.func177, Tryz.ntmps177
       go_wp2_with fail
       generalize w.alloc (.cells #[.int .i64 o, .int .i64 d, .int .i64 1, .int .i64 a, .int .i64 q] tRow) = wa at HB HM ⊢
       obtain ⟨m0, m1, m2, m3, m4⟩ := cell5 HM.out
       go_wp2_with fail
       refine (HC.out _).mono ?_
       rintro e w1 ⟨rfl, hb⟩
       have HB1 := Hd (bch HB.out hb HB.out.size)
       have HM1 := Hd (heap_keep HM.out hb)
       clear hb m0 m1 m2 m3 m4
       obtain ⟨m0, m1, m2, m3, m4⟩ := cell5 HM1.out
       go_wp2_with fail
       refine (HP.out _ HB1.out).mono ?_
       rintro e w2 ⟨rfl, hw⟩; subst hw
       go_wp2_with fail
       go_ret
       exact ⟨by rw [HF.out]; rfl, HB1.out⟩
    ·have h1b := beqF h1
     have h1c := bneT h1
     have HF := Hd (show okRow pd ((o, d), c, a, q) = false by simp [okRow, hc, hpd, h2, h1])
     have HB := Hd (below_alloc w (.cells #[.int .i64 o, .int .i64 d, .int .i64 c, .int .i64 a, .int .i64 q] tRow))
     have HM := Hd (heap_new w (.cells #[.int .i64 o, .int .i64 d, .int .i64 c, .int .i64 a, .int .i64 q] tRow))
     go_enter Tryz.func177, Tryz.ntmps177
     go_wp2_with fail
     generalize w.alloc (.cells #[.int .i64 o, .int .i64 d, .int .i64 c, .int .i64 a, .int .i64 q] tRow) = wa at HB HM ⊢
     obtain ⟨m0, m1, m2, m3, m4⟩ := cell5 HM.out
     go_wp2_with fail
     refine (HC.out _).mono ?_
     rintro e w1 ⟨rfl, hb⟩
     have HB1 := Hd (bch HB.out hb HB.out.size)
     have HM1 := Hd (heap_keep HM.out hb)
     clear hb m0 m1 m2 m3 m4
     obtain ⟨m0, m1, m2, m3, m4⟩ := cell5 HM1.out
     go_wp2_with fail
     refine (HP.out _ HB1.out).mono ?_
     rintro e w2 ⟨rfl, hw⟩; subst hw
     go_wp2_with fail
     go_ret
     exact ⟨by rw [HF.out]; rfl, HB1.out⟩
  ·have hpb := bneT hp
   have HF := Hd (show okRow p ((o, d), c, a, q) = false by simp [okRow, hc, hpd, hp])
   have HB := Hd (below_alloc w (.cells #[.int .i64 o, .int .i64 d, .int .i64 c, .int .i64 a, .int .i64 q] tRow))
   have HM := Hd (heap_new w (.cells #[.int .i64 o, .int .i64 d, .int .i64 c, .int .i64 a, .int .i64 q] tRow))
   go_enter Tryz.func177, Tryz.ntmps177
   go_wp2_with fail
   generalize w.alloc (.cells #[.int .i64 o, .int .i64 d, .int .i64 c, .int .i64 a, .int .i64 q] tRow) = wa at HB HM ⊢
   obtain ⟨m0, m1, m2, m3, m4⟩ := cell5 HM.out
   go_wp2_with fail
   refine (HC.out _).mono ?_
   rintro e w1 ⟨rfl, hb⟩
   have HB1 := Hd (bch HB.out hb HB.out.size)
   have HM1 := Hd (heap_keep HM.out hb)
   clear hb m0 m1 m2 m3 m4
   obtain ⟨m0, m1, m2, m3, m4⟩ := cell5 HM1.out
   go_wp2_with fail
   refine (HP.out _ HB1.out).mono ?_
   rintro e w2 ⟨rfl, hw⟩; subst hw
   go_wp2_with fail
   go_ret
   exact ⟨by rw [HF.out]; rfl, HB1.out⟩
theorem rowsCheck_any (w : World) (v : Value) (l : List R5) (p : Int) (hR : Rd w v l) (hT : PT w) :
  Calls Tryz.prog 164 #[v, .int .i64 p] w fun e w' => e = .returned (.bool (checkB p l)) ∧ Below w.heap.size w w' := by
 obtain ⟨A, c, rfl, hlc, hcm⟩ := hR.shape
 have HR := Hd hR
 have HT := Hd hT
 have hL63 : (l.length : Int) ≤ 9223372036854775807 := by unfold maxLen at hcm; omega
 clear hR hT
 by_cases hp0 : 0 ≤ p
 ·by_cases hp2 : p ≤ 2
  ·by_cases hl4 : l.length ≤ 400
   ·have hl4' : (l.length : Int) ≤ 400 := by omega
    go_enter Tryz.func164, Tryz.ntmps164
    go_wp2_with fail
    go_loopw [5, 6, 20] (fun _ _ i wr => ∃ k : Nat, i = .int .i64 k ∧ k ≤ l.length ∧ Hid (okTo p l k = true) ∧ Hid (Below w.heap.size w wr)) (fun _ _ i _ => l.length - (intOf i).toNat)
    case atStart => exact ⟨0, rfl, by omega, (rfl : okTo p l 0 = true), Below.refl _ _⟩
    case round =>
     obtain ⟨k, rfl, hk, HTO, HBr⟩ := hrel
     by_cases hkl : k < l.length
     ·obtain ⟨x, hx⟩ : ∃ x, l[k]? = some x := ⟨_, List.getElem?_eq_getElem hkl⟩
      obtain ⟨g, off, n0, c0', e, c0, c1, c2, c3, c4⟩ := HR.out.cells HBr.out hx
      injection e with e1 e2 e3
      subst e1; subst e2; subst e3
      obtain ⟨⟨o, d⟩, t, n, q⟩ := x
      simp only [] at c0 c1 c2 c3 c4
      have hlt : (k : Int) < l.length := by omega
      have hk0 : (0 : Int) ≤ k := by omega
      have HX := Hd hx
      clear hx
      have HB1 := Hd (HBr.out.alloc HBr.out.size (.cells #[.int .i64 o, .int .i64 d, .int .i64 t, .int .i64 n, .int .i64 q] tRow))
      have HM1 := Hd (heap_new wr (.cells #[.int .i64 o, .int .i64 d, .int .i64 t, .int .i64 n, .int .i64 q] tRow))
      go_wp2_with fail
      generalize wr.alloc (.cells #[.int .i64 o, .int .i64 d, .int .i64 t, .int .i64 n, .int .i64 q] tRow) = wz at HB1 HM1 ⊢
      have HBz := HB1
      clear c0 c1 c2 c3 c4
      generalize wr.heap.size = b0 at HM1 ⊢
      obtain ⟨bm, hbm⟩ : ∃ bm, okRow p ((o, d), t, n, q) = bm := ⟨_, rfl⟩
      have HMay := Hd (fun W (hb : Below wz.heap.size wz W) => (rowMay_any W o d t n q p (HT.out.below (bch HB1.out hb HB1.out.size))).mono (fun e w' h => (⟨by rw [h.1, hbm], h.2⟩ : e = .returned (.bool bm) ∧ Below W.heap.size W w')))
      have HBM := Hd hbm
      clear hbm
      cases bm with
      | false =>
       have HF := Hd (check_bad hkl (okAt_row HX.out HBM.out))
       refine wp_region_noPanic ?_
       refine wp_region_held_drew (S := (fun w' => Hid (Below wz.heap.size wz w') ∧ w'.cell? ⟨b0, 0, none⟩ = some (.int .i64 o) ∧ w'.cell? ⟨b0, 1, none⟩ = some (.int .i64 d) ∧ w'.cell? ⟨b0, 2, none⟩ = some (.int .i64 t) ∧ w'.cell? ⟨b0, 3, none⟩ = some (.int .i64 n) ∧ w'.cell? ⟨b0, 4, none⟩ = some (.int .i64 q))) (by kernel_rfl) ⟨(below_drew1 (Below.refl _ wz)), cell_at ((((below_drew1 (Below.refl _ wz))).block _ (heap_lt HM1.out)).trans HM1.out) 0 rfl, cell_at ((((below_drew1 (Below.refl _ wz))).block _ (heap_lt HM1.out)).trans HM1.out) 1 rfl, cell_at ((((below_drew1 (Below.refl _ wz))).block _ (heap_lt HM1.out)).trans HM1.out) 2 rfl, cell_at ((((below_drew1 (Below.refl _ wz))).block _ (heap_lt HM1.out)).trans HM1.out) 3 rfl, cell_at ((((below_drew1 (Below.refl _ wz))).block _ (heap_lt HM1.out)).trans HM1.out) 4 rfl⟩ (fun hHeld => ?_)
       refine tk 0 rfl rfl ‹_› ?_; try go_frame
       refine tk 1 rfl rfl ‹_› ?_; try go_frame
       refine rdy 2 rfl (fun K hK => ?_)
       go_simp
       refine (HMay.out _ (Hid.out (And.left (by assumption)))).mono ?_; rintro e w1 ⟨rfl, hb⟩
       have hbk := bch (Hid.out (And.left (by assumption))) hb (Below.size (Hid.out (And.left (by assumption))))
       refine hK.out _ _ ⟨hbk, cell_at (((hbk).block _ (heap_lt HM1.out)).trans HM1.out) 0 rfl, cell_at (((hbk).block _ (heap_lt HM1.out)).trans HM1.out) 1 rfl, cell_at (((hbk).block _ (heap_lt HM1.out)).trans HM1.out) 2 rfl, cell_at (((hbk).block _ (heap_lt HM1.out)).trans HM1.out) 3 rfl, cell_at (((hbk).block _ (heap_lt HM1.out)).trans HM1.out) 4 rfl⟩ (fun hHeld => ?_)
       clear hK K hb hbk
       (try simp only [gx1, gx2, gx3]); try go_frame
       refine tk 3 rfl rfl ‹_› ?_; try go_frame
       refine tk 4 rfl rfl ‹_› ?_; try go_frame
       refine wpAnyH_take (i := 5) (v := undef) rfl (by kernel_rfl) (by kernel_rfl) (by kernel_rfl) (fun _ _ _ h => h) (Or.inr ⟨by rfl, rfl⟩) (by assumption) ?_
       (try simp only [gx1, gx2, gx3]); try go_frame
       refine wpAnyH_take (i := 6) (v := undef) rfl (by kernel_rfl) (by kernel_rfl) (by kernel_rfl) (fun _ _ _ h => h) (Or.inr ⟨by rfl, rfl⟩) (by assumption) ?_
       (try simp only [gx1, gx2, gx3]); try go_frame
       refine wpAnyH_take (i := 7) (v := undef) rfl (by kernel_rfl) (by kernel_rfl) (by kernel_rfl) (fun _ _ _ h => h) (Or.inr ⟨by rfl, rfl⟩) (by assumption) ?_
       (try simp only [gx1, gx2, gx3]); try go_frame
       refine wpAnyH_take (i := 8) (v := undef) rfl (by kernel_rfl) (by kernel_rfl) (by kernel_rfl) (fun _ _ _ h => h) (Or.inr ⟨by rfl, rfl⟩) (by assumption) ?_
       (try simp only [gx1, gx2, gx3]); try go_frame
       refine wpAnyH_take (i := 9) (v := undef) rfl (by kernel_rfl) (by kernel_rfl) (by kernel_rfl) (fun _ _ _ h => h) (Or.inr ⟨by rfl, rfl⟩) (by assumption) ?_
       (try simp only [gx1, gx2, gx3]); try go_frame
       refine wpAnyH_take (i := 10) (v := undef) rfl (by kernel_rfl) (by kernel_rfl) (by kernel_rfl) (fun _ _ _ h => h) (Or.inr ⟨by rfl, rfl⟩) (by assumption) ?_
       (try simp only [gx1, gx2, gx3]); try go_frame
       refine wpAnyH_take (i := 11) (v := undef) rfl (by kernel_rfl) (by kernel_rfl) (by kernel_rfl) (fun _ _ _ h => h) (Or.inr ⟨by rfl, rfl⟩) (by assumption) ?_
       (try simp only [gx1, gx2, gx3]); try go_frame
       refine wpAnyH_take (i := 12) (v := undef) rfl (by kernel_rfl) (by kernel_rfl) (by kernel_rfl) (fun _ _ _ h => h) (Or.inr ⟨by rfl, rfl⟩) (by assumption) ?_
       (try simp only [gx1, gx2, gx3]); try go_frame
       refine wpAnyH_take (i := 13) (v := undef) rfl (by kernel_rfl) (by kernel_rfl) (by kernel_rfl) (fun _ _ _ h => h) (Or.inr ⟨by rfl, rfl⟩) (by assumption) ?_
       (try simp only [gx1, gx2, gx3]); try go_frame
       refine wpAnyH_take (i := 14) (v := undef) rfl (by kernel_rfl) (by kernel_rfl) (by kernel_rfl) (fun _ _ _ h => h) (Or.inr ⟨by rfl, rfl⟩) (by assumption) ?_
       (try simp only [gx1, gx2, gx3]); try go_frame
       refine wpAnyH_take (i := 15) (v := undef) rfl (by kernel_rfl) (by kernel_rfl) (by kernel_rfl) (fun _ _ _ h => h) (Or.inr ⟨by rfl, rfl⟩) (by assumption) ?_
       (try simp only [gx1, gx2, gx3]); try go_frame
       refine wpAnyH_take (i := 16) (v := undef) rfl (by kernel_rfl) (by kernel_rfl) (by kernel_rfl) (fun _ _ _ h => h) (Or.inr ⟨by rfl, rfl⟩) (by assumption) ?_
       (try simp only [gx1, gx2, gx3]); try go_frame
       refine wpAnyH_take (i := 17) (v := undef) rfl (by kernel_rfl) (by kernel_rfl) (by kernel_rfl) (fun _ _ _ h => h) (Or.inr ⟨by rfl, rfl⟩) (by assumption) ?_
       (try simp only [gx1, gx2, gx3]); try go_frame
       refine wpAnyH_take (i := 18) (v := undef) rfl (by kernel_rfl) (by kernel_rfl) (by kernel_rfl) (fun _ _ _ h => h) (Or.inr ⟨by rfl, rfl⟩) (by assumption) ?_
       (try simp only [gx1, gx2, gx3]); try go_frame
       refine tk 19 rfl rfl ‹_› ?_; try go_frame
       refine wpAnyH_done (by kernel_rfl) ?_ _
       refine NoPanic.normal ?_
       have HBx := Hd (bch HB1.out (Hid.out hHeld.1) HB1.out.size)
       clear hHeld
       go_wp2_with fail
       go_ret
       exact ⟨by rw [HF.out]; rfl, HBx.out⟩
      | true =>
       cases k with
       | zero =>
        have HOK := Hd (show okTo p l 1 = true by rw [okTo_succ, HTO.out, okAt_zero HX.out, HBM.out]; rfl)
        rw [show ((0 : Nat) : Int) = 0 from rfl] at hlt hk0 ⊢
        refine wp_region_noPanic ?_
        refine wp_region_held_drew (S := (fun w' => Hid (Below wz.heap.size wz w') ∧ w'.cell? ⟨b0, 0, none⟩ = some (.int .i64 o) ∧ w'.cell? ⟨b0, 1, none⟩ = some (.int .i64 d) ∧ w'.cell? ⟨b0, 2, none⟩ = some (.int .i64 t) ∧ w'.cell? ⟨b0, 3, none⟩ = some (.int .i64 n) ∧ w'.cell? ⟨b0, 4, none⟩ = some (.int .i64 q))) (by kernel_rfl) ⟨(below_drew1 (Below.refl _ wz)), cell_at ((((below_drew1 (Below.refl _ wz))).block _ (heap_lt HM1.out)).trans HM1.out) 0 rfl, cell_at ((((below_drew1 (Below.refl _ wz))).block _ (heap_lt HM1.out)).trans HM1.out) 1 rfl, cell_at ((((below_drew1 (Below.refl _ wz))).block _ (heap_lt HM1.out)).trans HM1.out) 2 rfl, cell_at ((((below_drew1 (Below.refl _ wz))).block _ (heap_lt HM1.out)).trans HM1.out) 3 rfl, cell_at ((((below_drew1 (Below.refl _ wz))).block _ (heap_lt HM1.out)).trans HM1.out) 4 rfl⟩ (fun hHeld => ?_)
        refine tk 0 rfl rfl ‹_› ?_; try go_frame
        refine tk 1 rfl rfl ‹_› ?_; try go_frame
        refine rdy 2 rfl (fun K hK => ?_)
        go_simp
        refine (HMay.out _ (Hid.out (And.left (by assumption)))).mono ?_; rintro e w1 ⟨rfl, hb⟩
        have hbk := bch (Hid.out (And.left (by assumption))) hb (Below.size (Hid.out (And.left (by assumption))))
        refine hK.out _ _ ⟨hbk, cell_at (((hbk).block _ (heap_lt HM1.out)).trans HM1.out) 0 rfl, cell_at (((hbk).block _ (heap_lt HM1.out)).trans HM1.out) 1 rfl, cell_at (((hbk).block _ (heap_lt HM1.out)).trans HM1.out) 2 rfl, cell_at (((hbk).block _ (heap_lt HM1.out)).trans HM1.out) 3 rfl, cell_at (((hbk).block _ (heap_lt HM1.out)).trans HM1.out) 4 rfl⟩ (fun hHeld => ?_)
        clear hK K hb hbk
        (try simp only [gx1, gx2, gx3]); try go_frame
        refine tk 3 rfl rfl ‹_› ?_; try go_frame
        refine tk 4 rfl rfl ‹_› ?_; try go_frame
        refine tk 5 rfl rfl ‹_› ?_; try go_frame
        refine tk 6 rfl rfl ‹_› ?_; try go_frame
        refine tk 7 rfl rfl ‹_› ?_; try go_frame
        refine wpAnyH_take (i := 8) (v := undef) rfl (by kernel_rfl) (by kernel_rfl) (by kernel_rfl) (fun _ _ _ h => h) (Or.inr ⟨by rfl, rfl⟩) (by assumption) ?_
        (try simp only [gx1, gx2, gx3]); try go_frame
        refine wpAnyH_take (i := 9) (v := undef) rfl (by kernel_rfl) (by kernel_rfl) (by kernel_rfl) (fun _ _ _ h => h) (Or.inr ⟨by rfl, rfl⟩) (by assumption) ?_
        (try simp only [gx1, gx2, gx3]); try go_frame
        refine wpAnyH_take (i := 10) (v := undef) rfl (by kernel_rfl) (by kernel_rfl) (by kernel_rfl) (fun _ _ _ h => h) (Or.inr ⟨by rfl, rfl⟩) (by assumption) ?_
        (try simp only [gx1, gx2, gx3]); try go_frame
        refine wpAnyH_take (i := 11) (v := undef) rfl (by kernel_rfl) (by kernel_rfl) (by kernel_rfl) (fun _ _ _ h => h) (Or.inr ⟨by rfl, rfl⟩) (by assumption) ?_
        (try simp only [gx1, gx2, gx3]); try go_frame
        refine wpAnyH_take (i := 12) (v := undef) rfl (by kernel_rfl) (by kernel_rfl) (by kernel_rfl) (fun _ _ _ h => h) (Or.inr ⟨by rfl, rfl⟩) (by assumption) ?_
        (try simp only [gx1, gx2, gx3]); try go_frame
        refine wpAnyH_take (i := 13) (v := undef) rfl (by kernel_rfl) (by kernel_rfl) (by kernel_rfl) (fun _ _ _ h => h) (Or.inr ⟨by rfl, rfl⟩) (by assumption) ?_
        (try simp only [gx1, gx2, gx3]); try go_frame
        refine wpAnyH_take (i := 14) (v := undef) rfl (by kernel_rfl) (by kernel_rfl) (by kernel_rfl) (fun _ _ _ h => h) (Or.inr ⟨by rfl, rfl⟩) (by assumption) ?_
        (try simp only [gx1, gx2, gx3]); try go_frame
        refine wpAnyH_take (i := 15) (v := undef) rfl (by kernel_rfl) (by kernel_rfl) (by kernel_rfl) (fun _ _ _ h => h) (Or.inr ⟨by rfl, rfl⟩) (by assumption) ?_
        (try simp only [gx1, gx2, gx3]); try go_frame
        refine wpAnyH_take (i := 16) (v := undef) rfl (by kernel_rfl) (by kernel_rfl) (by kernel_rfl) (fun _ _ _ h => h) (Or.inr ⟨by rfl, rfl⟩) (by assumption) ?_
        (try simp only [gx1, gx2, gx3]); try go_frame
        refine wpAnyH_take (i := 17) (v := undef) rfl (by kernel_rfl) (by kernel_rfl) (by kernel_rfl) (fun _ _ _ h => h) (Or.inr ⟨by rfl, rfl⟩) (by assumption) ?_
        (try simp only [gx1, gx2, gx3]); try go_frame
        refine tk 18 rfl rfl ‹_› ?_; try go_frame
        refine tk 19 rfl rfl ‹_› ?_; try go_frame
        refine wpAnyH_done (by kernel_rfl) ?_ _
        refine NoPanic.normal ?_
        have HBx := Hd (bch HB1.out (Hid.out hHeld.1) HB1.out.size)
        clear hHeld
        go_wp2_with fail
        go_roundw
        case rel => exact ⟨1, rfl, by omega, HOK, HBx⟩
        case measure => simp [intOf]; omega
       | succ j =>
        obtain ⟨y, hy⟩ : ∃ y, l[j]? = some y := ⟨_, List.getElem?_eq_getElem (by omega)⟩
        have HOK := Hd (okAt_succ (p := p) HX.out hy)
        obtain ⟨⟨o', d'⟩, t', n', q'⟩ := y
        obtain ⟨bl, hbl⟩ : ∃ bl, lessB o' d' o d = bl := ⟨_, rfl⟩
        have HOK' := Hd (show okAt p l (j + 1) = (okRow p ((o, d), t, n, q) && bl) by rw [HOK.out, ← hbl]; rfl)
        have HL := Hd (fun W => (less_any o' d' o d W).mono (fun e w' h => (⟨by rw [h.1, hbl], h.2⟩ : e = .returned (.bool bl) ∧ Below W.heap.size W w')))
        have HD := Hd (fun W (hb : Below wz.heap.size wz W) => (by
         obtain ⟨g', off', n', c', e, d0, d1, _⟩ := HR.out.cells (bch HBz.out hb HBz.out.size) hy
         injection e with e1 e2 e3
         injection e1 with e1
         injection e1 with e1 e4 _
         subst e1; subst e4
         exact ⟨d0, d1⟩ : W.cell? ⟨g, off + j * 5, none⟩ = some (.int .i64 o') ∧ W.cell? ⟨g, off + j * 5 + 1, none⟩ = some (.int .i64 d')))
        clear hy hbl HOK
        have hwr : IntKind.i64.wrap (j : Int) = j := by rw [IntKind.wrap_i64]; omega
        have hjl : j < l.length := by omega
        rw [show ((j + 1 : Nat) : Int) = (j : Int) + 1 from rfl] at hlt hk0 ⊢
        cases bl with
        | false =>
         have HF := Hd (check_bad hkl (HOK'.out.trans (by rw [HBM.out]; rfl)))
         refine wp_region_noPanic ?_
         refine wp_region_held_drew (S := (fun w' => Hid (Below wz.heap.size wz w') ∧ w'.cell? ⟨b0, 0, none⟩ = some (.int .i64 o) ∧ w'.cell? ⟨b0, 1, none⟩ = some (.int .i64 d) ∧ w'.cell? ⟨b0, 2, none⟩ = some (.int .i64 t) ∧ w'.cell? ⟨b0, 3, none⟩ = some (.int .i64 n) ∧ w'.cell? ⟨b0, 4, none⟩ = some (.int .i64 q) ∧ w'.cell? ⟨g, off + j * 5, none⟩ = some (.int .i64 o') ∧ w'.cell? ⟨g, off + j * 5 + 1, none⟩ = some (.int .i64 d'))) (by kernel_rfl) ⟨(below_drew1 (Below.refl _ wz)), cell_at ((((below_drew1 (Below.refl _ wz))).block _ (heap_lt HM1.out)).trans HM1.out) 0 rfl, cell_at ((((below_drew1 (Below.refl _ wz))).block _ (heap_lt HM1.out)).trans HM1.out) 1 rfl, cell_at ((((below_drew1 (Below.refl _ wz))).block _ (heap_lt HM1.out)).trans HM1.out) 2 rfl, cell_at ((((below_drew1 (Below.refl _ wz))).block _ (heap_lt HM1.out)).trans HM1.out) 3 rfl, cell_at ((((below_drew1 (Below.refl _ wz))).block _ (heap_lt HM1.out)).trans HM1.out) 4 rfl, (HD.out _ ((below_drew1 (Below.refl _ wz)))).1, (HD.out _ ((below_drew1 (Below.refl _ wz)))).2⟩ (fun hHeld => ?_)
         refine tk 0 rfl rfl ‹_› ?_; try go_frame
         refine tk 1 rfl rfl ‹_› ?_; try go_frame
         refine rdy 2 rfl (fun K hK => ?_)
         go_simp
         refine (HMay.out _ (Hid.out (And.left (by assumption)))).mono ?_; rintro e w1 ⟨rfl, hb⟩
         have hbk := bch (Hid.out (And.left (by assumption))) hb (Below.size (Hid.out (And.left (by assumption))))
         refine hK.out _ _ ⟨hbk, cell_at (((hbk).block _ (heap_lt HM1.out)).trans HM1.out) 0 rfl, cell_at (((hbk).block _ (heap_lt HM1.out)).trans HM1.out) 1 rfl, cell_at (((hbk).block _ (heap_lt HM1.out)).trans HM1.out) 2 rfl, cell_at (((hbk).block _ (heap_lt HM1.out)).trans HM1.out) 3 rfl, cell_at (((hbk).block _ (heap_lt HM1.out)).trans HM1.out) 4 rfl, (HD.out _ (hbk)).1, (HD.out _ (hbk)).2⟩ (fun hHeld => ?_)
         clear hK K hb hbk
         (try simp only [gx1, gx2, gx3]); try go_frame
         refine tk 3 rfl rfl ‹_› ?_; try go_frame
         refine tk 4 rfl rfl ‹_› ?_; try go_frame
         refine tk 5 rfl rfl ‹_› ?_; try go_frame
         refine tk 6 rfl rfl ‹_› ?_; try go_frame
         refine tk 7 rfl rfl ‹_› ?_; try go_frame
         refine tk 8 rfl rfl ‹_› ?_; try go_frame
         refine tk 9 rfl rfl ‹_› ?_; try go_frame
         refine tk 10 rfl rfl ‹_› ?_; try go_frame
         refine tk 11 rfl rfl ‹_› ?_; try go_frame
         refine tk 12 rfl rfl ‹_› ?_; try go_frame
         refine tk 13 rfl rfl ‹_› ?_; try go_frame
         refine tk 14 rfl rfl ‹_› ?_; try go_frame
         refine tk 15 rfl rfl ‹_› ?_; try go_frame
         refine rdy 16 rfl (fun K hK => ?_)
         go_simp
         refine (HL.out _).mono ?_; rintro e w1 ⟨rfl, hb⟩
         have hbk := bch (Hid.out (And.left (by assumption))) hb (Below.size (Hid.out (And.left (by assumption))))
         refine hK.out _ _ ⟨hbk, cell_at (((hbk).block _ (heap_lt HM1.out)).trans HM1.out) 0 rfl, cell_at (((hbk).block _ (heap_lt HM1.out)).trans HM1.out) 1 rfl, cell_at (((hbk).block _ (heap_lt HM1.out)).trans HM1.out) 2 rfl, cell_at (((hbk).block _ (heap_lt HM1.out)).trans HM1.out) 3 rfl, cell_at (((hbk).block _ (heap_lt HM1.out)).trans HM1.out) 4 rfl, (HD.out _ (hbk)).1, (HD.out _ (hbk)).2⟩ (fun hHeld => ?_)
         clear hK K hb hbk
         (try simp only [gx1, gx2, gx3]); try go_frame
         refine tk 17 rfl rfl ‹_› ?_; try go_frame
         refine tk 18 rfl rfl ‹_› ?_; try go_frame
         refine tk 19 rfl rfl ‹_› ?_; try go_frame
         refine wpAnyH_done (by kernel_rfl) ?_ _
         refine NoPanic.normal ?_
         have HBx := Hd (bch HB1.out (Hid.out hHeld.1) HB1.out.size)
         clear hHeld
         go_wp2_with fail
         go_ret
         exact ⟨by rw [HF.out]; rfl, HBx.out⟩
        | true =>
         have HN := Hd (show okTo p l (j + 2) = true by rw [okTo_succ, HTO.out, HOK'.out, HBM.out]; rfl)
         refine wp_region_noPanic ?_
         refine wp_region_held_drew (S := (fun w' => Hid (Below wz.heap.size wz w') ∧ w'.cell? ⟨b0, 0, none⟩ = some (.int .i64 o) ∧ w'.cell? ⟨b0, 1, none⟩ = some (.int .i64 d) ∧ w'.cell? ⟨b0, 2, none⟩ = some (.int .i64 t) ∧ w'.cell? ⟨b0, 3, none⟩ = some (.int .i64 n) ∧ w'.cell? ⟨b0, 4, none⟩ = some (.int .i64 q) ∧ w'.cell? ⟨g, off + j * 5, none⟩ = some (.int .i64 o') ∧ w'.cell? ⟨g, off + j * 5 + 1, none⟩ = some (.int .i64 d'))) (by kernel_rfl) ⟨(below_drew1 (Below.refl _ wz)), cell_at ((((below_drew1 (Below.refl _ wz))).block _ (heap_lt HM1.out)).trans HM1.out) 0 rfl, cell_at ((((below_drew1 (Below.refl _ wz))).block _ (heap_lt HM1.out)).trans HM1.out) 1 rfl, cell_at ((((below_drew1 (Below.refl _ wz))).block _ (heap_lt HM1.out)).trans HM1.out) 2 rfl, cell_at ((((below_drew1 (Below.refl _ wz))).block _ (heap_lt HM1.out)).trans HM1.out) 3 rfl, cell_at ((((below_drew1 (Below.refl _ wz))).block _ (heap_lt HM1.out)).trans HM1.out) 4 rfl, (HD.out _ ((below_drew1 (Below.refl _ wz)))).1, (HD.out _ ((below_drew1 (Below.refl _ wz)))).2⟩ (fun hHeld => ?_)
         refine tk 0 rfl rfl ‹_› ?_; try go_frame
         refine tk 1 rfl rfl ‹_› ?_; try go_frame
         refine rdy 2 rfl (fun K hK => ?_)
         go_simp
         refine (HMay.out _ (Hid.out (And.left (by assumption)))).mono ?_; rintro e w1 ⟨rfl, hb⟩
         have hbk := bch (Hid.out (And.left (by assumption))) hb (Below.size (Hid.out (And.left (by assumption))))
         refine hK.out _ _ ⟨hbk, cell_at (((hbk).block _ (heap_lt HM1.out)).trans HM1.out) 0 rfl, cell_at (((hbk).block _ (heap_lt HM1.out)).trans HM1.out) 1 rfl, cell_at (((hbk).block _ (heap_lt HM1.out)).trans HM1.out) 2 rfl, cell_at (((hbk).block _ (heap_lt HM1.out)).trans HM1.out) 3 rfl, cell_at (((hbk).block _ (heap_lt HM1.out)).trans HM1.out) 4 rfl, (HD.out _ (hbk)).1, (HD.out _ (hbk)).2⟩ (fun hHeld => ?_)
         clear hK K hb hbk
         (try simp only [gx1, gx2, gx3]); try go_frame
         refine tk 3 rfl rfl ‹_› ?_; try go_frame
         refine tk 4 rfl rfl ‹_› ?_; try go_frame
         refine tk 5 rfl rfl ‹_› ?_; try go_frame
         refine tk 6 rfl rfl ‹_› ?_; try go_frame
         refine tk 7 rfl rfl ‹_› ?_; try go_frame
         refine tk 8 rfl rfl ‹_› ?_; try go_frame
         refine tk 9 rfl rfl ‹_› ?_; try go_frame
         refine tk 10 rfl rfl ‹_› ?_; try go_frame
         refine tk 11 rfl rfl ‹_› ?_; try go_frame
         refine tk 12 rfl rfl ‹_› ?_; try go_frame
         refine tk 13 rfl rfl ‹_› ?_; try go_frame
         refine tk 14 rfl rfl ‹_› ?_; try go_frame
         refine tk 15 rfl rfl ‹_› ?_; try go_frame
         refine rdy 16 rfl (fun K hK => ?_)
         go_simp
         refine (HL.out _).mono ?_; rintro e w1 ⟨rfl, hb⟩
         have hbk := bch (Hid.out (And.left (by assumption))) hb (Below.size (Hid.out (And.left (by assumption))))
         refine hK.out _ _ ⟨hbk, cell_at (((hbk).block _ (heap_lt HM1.out)).trans HM1.out) 0 rfl, cell_at (((hbk).block _ (heap_lt HM1.out)).trans HM1.out) 1 rfl, cell_at (((hbk).block _ (heap_lt HM1.out)).trans HM1.out) 2 rfl, cell_at (((hbk).block _ (heap_lt HM1.out)).trans HM1.out) 3 rfl, cell_at (((hbk).block _ (heap_lt HM1.out)).trans HM1.out) 4 rfl, (HD.out _ (hbk)).1, (HD.out _ (hbk)).2⟩ (fun hHeld => ?_)
         clear hK K hb hbk
         (try simp only [gx1, gx2, gx3]); try go_frame
         refine tk 17 rfl rfl ‹_› ?_; try go_frame
         refine tk 18 rfl rfl ‹_› ?_; try go_frame
         refine tk 19 rfl rfl ‹_› ?_; try go_frame
         refine wpAnyH_done (by kernel_rfl) ?_ _
         refine NoPanic.normal ?_
         have HBx := Hd (bch HB1.out (Hid.out hHeld.1) HB1.out.size)
         clear hHeld
         go_wp2_with fail
         go_roundw
         case rel => exact ⟨j + 2, by go_num, by omega, HN, HBx⟩
         case measure => simp [intOf]; omega
     ·obtain rfl : k = l.length := by omega
      have HF := Hd (show checkB p l = true by unfold checkB; rw [HTO.out]; simp [hp0, hp2, hl4])
      go_wp2_with fail
      go_ret
      exact ⟨by rw [HF.out]; rfl, HBr.out⟩
   ·have hl4' : (400 : Int) < l.length := by omega
    have HF := Hd (show checkB p l = false by unfold checkB; simp; omega)
    go_enter Tryz.func164, Tryz.ntmps164
    go_wp2_with fail
    go_ret
    exact ⟨by rw [HF.out]; rfl, Below.refl _ _⟩
  ·have hp2' : 2 < p := by omega
   have HF := Hd (show checkB p l = false by unfold checkB; simp; omega)
   go_enter Tryz.func164, Tryz.ntmps164
   go_wp2_with fail
   go_ret
   exact ⟨by rw [HF.out]; rfl, Below.refl _ _⟩
 ·have hp0' : p < 0 := by omega
  have HF := Hd (show checkB p l = false by unfold checkB; simp; omega)
  go_enter Tryz.func164, Tryz.ntmps164
  go_wp2_with fail
  go_ret
  exact ⟨by rw [HF.out]; rfl, Below.refl _ _⟩
theorem rowsValid_any (w : World) (p s : Int) (v : Value) (l : List R5) (hR : Rd w v l) (hT : PT w) :
  Calls Tryz.prog 135 #[.agg #[.int .i64 p, .int .i64 s, v]] w fun e w' => e = .returned (.bool (validB p s l)) ∧ Below w.heap.size w w' := by
 have HB := Hd (below_alloc w (.cells #[.int .i64 p, .int .i64 s, v] tStat))
 have HM := Hd (heap_new w (.cells #[.int .i64 p, .int .i64 s, v] tStat))
 have HC := Hd (fun W (hb : Below w.heap.size w W) => rowsCheck_any W v l p (hR.keep hb) (hT.below hb))
 clear hT
 obtain ⟨A, c, rfl, _⟩ := hR.shape
 clear hR
 by_cases h1 : 1 ≤ s
 ·by_cases h2 : s ≤ 1073741824
  ·have HF := Hd (show validB p s l = checkB p l by unfold validB; simp [h1, h2])
   go_enter Tryz.func135, Tryz.ntmps135
   go_wp2_with fail
   generalize w.alloc (.cells #[.int .i64 p, .int .i64 s, .slice A l.length c] tStat) = wa at HB HM ⊢
   obtain ⟨m0, m1, m2⟩ := cell3c HM.out
   go_wp2_with fail
   refine (HC.out _ HB.out).mono ?_
   rintro e w1 ⟨rfl, hb⟩
   go_wp2_with fail
   go_ret
   exact ⟨by rw [HF.out]; rfl, bch HB.out hb HB.out.size⟩
  ·have HF := Hd (show validB p s l = false by unfold validB; simp; omega)
   have h2' : 1073741824 < s := by omega
   go_enter Tryz.func135, Tryz.ntmps135
   go_wp2_with fail
   generalize w.alloc (.cells #[.int .i64 p, .int .i64 s, .slice A l.length c] tStat) = wa at HB HM ⊢
   obtain ⟨m0, m1, m2⟩ := cell3c HM.out
   go_wp2_with fail
   go_ret
   exact ⟨by rw [HF.out]; rfl, HB.out⟩
 ·have HF := Hd (show validB p s l = false by unfold validB; simp; omega)
  have h1' : s < 1 := by omega
  go_enter Tryz.func135, Tryz.ntmps135
  go_wp2_with fail
  generalize w.alloc (.cells #[.int .i64 p, .int .i64 s, .slice A l.length c] tStat) = wa at HB HM ⊢
  obtain ⟨m0, m1, m2⟩ := cell3c HM.out
  go_wp2_with fail
  go_ret
  exact ⟨by rw [HF.out]; rfl, HB.out⟩
end Go.Proofs.YtlkncmpengpbiaaGreatDoor

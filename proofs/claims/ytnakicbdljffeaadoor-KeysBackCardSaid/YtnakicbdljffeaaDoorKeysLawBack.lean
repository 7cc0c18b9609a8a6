/- The walk of consignorlaw10.KeysBack: it answers true, and nothing that was there is written. -/
import Derived.Test.YtnakicbdljffeaaDoorKeysBackA
import Derived.Test.YtnakicbdljffeaaDoorKeysBackB
import Derived.Test.YtnakicbdljffeaaDoorKeysBackS
namespace Go.Proofs.YtnakicbdljffeaaDoor
open Go.RowKit Key Mon

theorem putK_len (o d : Int) : (putK o d).length ≤ 10 := by
  by_cases h : chk o d = true
  · have h1 := put_len h
    have h2 := wordL_len d
    unfold putK
    rw [if_pos h, List.length_append, List.length_cons]
    omega
  · rw [putK_no h]; simp
theorem empty_of (o d : Int) : (putK o d).isEmpty = !chk o d := by
  cases h : chk o d with
  | true => have := putK_ne h; cases hp : putK o d with
    | nil => exact absurd hp this
    | cons _ _ => rfl
  | false => rw [putK_no (by rw [h]; simp)]; rfl
theorem less_self (o d : Int) : lessB o d o d = false := by unfold lessB; simp
theorem less_other {a b c d : Int} (h : ¬ (a = c ∧ b = d)) : lessB c d a b = !lessB a b c d := by
  unfold lessB
  by_cases h1 : a < c ∨ a = c ∧ b < d
  · rw [decide_eq_true h1, decide_eq_false (by omega)]; rfl
  · rw [decide_eq_false h1, decide_eq_true (by omega)]; rfl
theorem texts_ne {a b c d : Int} (h : ¬ (a = c ∧ b = d)) (h1 : chk a b = true) (h2 : chk c d = true) : (putK a b == putK c d) = false := beq_eq_false_iff_ne.2 fun e => h (putK_inj h1 h2 e)

theorem lawKeysBack_walk (ao ad bo bd : Int) (w : World) (hK : KW w) :
    Calls Tryd.prog 5 #[.agg #[.int .i64 ao, .int .i64 ad], .agg #[.int .i64 bo, .int .i64 bd]] w fun e w' => e = .returned (.bool true) ∧ Below w.heap.size w w' := by
  have P1 := Lib.hid (fun W h => putK_any ao ad W h)
  have P2 := Lib.hid (fun W h => putK_any bo bd W h)
  have C1 := Lib.hid (fun W => check_any ao ad W)
  have C2 := Lib.hid (fun W => check_any bo bd W)
  have E1 := empty_of ao ad
  have G : chk ao ad = true → Hid (∀ W, KW W → Calls Tryd.prog 23 #[.string ⟨(putK ao ad).toArray⟩, .agg #[.int .i64 ao, .int .i64 ad], .bool true] W fun e w' => e = .returned (.bool true) ∧ Below W.heap.size W w') := fun h => Lib.hid fun W hW => k_got (putK ao ad) ao ad true (by have := putK_len ao ad; omega) (getK_put h) W hW
  have L3 := Lib.hid (fun W => k_less ao ad ao ad false (less_self ao ad) W)
  by_cases hs : ao = bo ∧ ad = bd
  · obtain ⟨rfl, rfl⟩ := hs
    cases hc : chk ao ad with
    | true => rw [hc] at C1 E1; exact back_s_t ao ad _ w (Lib.hid hK) P1 P1 C1 C1 (G hc) L3 L3 E1
    | false => rw [hc] at C1 E1; exact back_s_f ao ad _ w (Lib.hid hK) P1 P1 C1 C1 L3 L3 E1
  · have T := fun h1 h2 => texts_ne hs h1 h2
    by_cases ho : ao = bo
    · subst ho
      have hd : ¬ ad = bd := fun e => hs ⟨rfl, e⟩
      cases ht : lessB ao ad ao bd with
      | true =>
        have L1 := Lib.hid (fun W => k_less ao ad ao bd true ht W)
        have L2 := Lib.hid (fun W => k_less ao bd ao ad false (by rw [less_other hs, ht]; rfl) W)
        cases hc1 : chk ao ad with
        | true =>
          rw [hc1] at C1 E1
          cases hc2 : chk ao bd with
          | true => rw [hc2] at C2; exact back_n2_ttt ao ad bd _ _ w (Lib.hid hK) P1 P2 C1 C2 (G hc1) L1 L2 L3 E1 (T hc1 hc2) hd
          | false => rw [hc2] at C2; exact back_n2_tft ao ad bd _ _ w (Lib.hid hK) P1 P2 C1 C2 (G hc1) L1 L2 L3 E1 hd
        | false =>
          rw [hc1] at C1 E1
          cases hc2 : chk ao bd with
          | true => rw [hc2] at C2; exact back_n2_ftt ao ad bd _ _ w (Lib.hid hK) P1 P2 C1 C2 L1 L2 L3 E1 hd
          | false => rw [hc2] at C2; exact back_n2_fft ao ad bd _ _ w (Lib.hid hK) P1 P2 C1 C2 L1 L2 L3 E1 hd
      | false =>
        have L1 := Lib.hid (fun W => k_less ao ad ao bd false ht W)
        have L2 := Lib.hid (fun W => k_less ao bd ao ad true (by rw [less_other hs, ht]; rfl) W)
        cases hc1 : chk ao ad with
        | true =>
          rw [hc1] at C1 E1
          cases hc2 : chk ao bd with
          | true => rw [hc2] at C2; exact back_n2_ttf ao ad bd _ _ w (Lib.hid hK) P1 P2 C1 C2 (G hc1) L1 L2 L3 E1 (T hc1 hc2) hd
          | false => rw [hc2] at C2; exact back_n2_tff ao ad bd _ _ w (Lib.hid hK) P1 P2 C1 C2 (G hc1) L1 L2 L3 E1 hd
        | false =>
          rw [hc1] at C1 E1
          cases hc2 : chk ao bd with
          | true => rw [hc2] at C2; exact back_n2_ftf ao ad bd _ _ w (Lib.hid hK) P1 P2 C1 C2 L1 L2 L3 E1 hd
          | false => rw [hc2] at C2; exact back_n2_fff ao ad bd _ _ w (Lib.hid hK) P1 P2 C1 C2 L1 L2 L3 E1 hd
    · cases ht : lessB ao ad bo bd with
      | true =>
        have L1 := Lib.hid (fun W => k_less ao ad bo bd true ht W)
        have L2 := Lib.hid (fun W => k_less bo bd ao ad false (by rw [less_other hs, ht]; rfl) W)
        cases hc1 : chk ao ad with
        | true =>
          rw [hc1] at C1 E1
          cases hc2 : chk bo bd with
          | true => rw [hc2] at C2; exact back_n1_ttt ao ad bo bd _ _ w (Lib.hid hK) P1 P2 C1 C2 (G hc1) L1 L2 L3 E1 (T hc1 hc2) ho
          | false => rw [hc2] at C2; exact back_n1_tft ao ad bo bd _ _ w (Lib.hid hK) P1 P2 C1 C2 (G hc1) L1 L2 L3 E1 ho
        | false =>
          rw [hc1] at C1 E1
          cases hc2 : chk bo bd with
          | true => rw [hc2] at C2; exact back_n1_ftt ao ad bo bd _ _ w (Lib.hid hK) P1 P2 C1 C2 L1 L2 L3 E1 ho
          | false => rw [hc2] at C2; exact back_n1_fft ao ad bo bd _ _ w (Lib.hid hK) P1 P2 C1 C2 L1 L2 L3 E1 ho
      | false =>
        have L1 := Lib.hid (fun W => k_less ao ad bo bd false ht W)
        have L2 := Lib.hid (fun W => k_less bo bd ao ad true (by rw [less_other hs, ht]; rfl) W)
        cases hc1 : chk ao ad with
        | true =>
          rw [hc1] at C1 E1
          cases hc2 : chk bo bd with
          | true => rw [hc2] at C2; exact back_n1_ttf ao ad bo bd _ _ w (Lib.hid hK) P1 P2 C1 C2 (G hc1) L1 L2 L3 E1 (T hc1 hc2) ho
          | false => rw [hc2] at C2; exact back_n1_tff ao ad bo bd _ _ w (Lib.hid hK) P1 P2 C1 C2 (G hc1) L1 L2 L3 E1 ho
        | false =>
          rw [hc1] at C1 E1
          cases hc2 : chk bo bd with
          | true => rw [hc2] at C2; exact back_n1_ftf ao ad bo bd _ _ w (Lib.hid hK) P1 P2 C1 C2 L1 L2 L3 E1 ho
          | false => rw [hc2] at C2; exact back_n1_fff ao ad bo bd _ _ w (Lib.hid hK) P1 P2 C1 C2 L1 L2 L3 E1 ho
end Go.Proofs.YtnakicbdljffeaaDoor

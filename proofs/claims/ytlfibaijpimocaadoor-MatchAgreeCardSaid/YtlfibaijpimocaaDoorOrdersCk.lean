/- What is wrong with an order: the program's orders.Check. -/
import Derived.Test.YtlfibaijpimocaaDoorOrdersName
import Derived.Test.YtlfibaijpimocaaDoorBoxes
namespace Go.Proofs.YtlfibaijpimocaaDoor
open Go.RowKit Od

namespace Od
def codeO (id : Int) (r s : List UInt8) (q a : Int) : Int :=
  if id < 1 ∨ 60 < id ∨ q < 1 ∨ 999 < q ∨ a < 1 ∨ 1099511627776 < a ∨ r.length = 0 ∨ s.length = 0 then 2
  else if 16 < r.length ∨ 8 < s.length then 3 else if nameB r = false ∨ nameB s = false then 2 else 0
theorem codeO_ok {id : Int} {r s : List UInt8} {q a : Int} (h : codeO id r s q a = 0) : 1 ≤ id ∧ id ≤ 60 ∧ 1 ≤ q ∧ q ≤ 999 ∧ 1 ≤ a ∧ a ≤ 1099511627776 := by
  unfold codeO at h
  split at h
  · cases h
  · omega
end Od
set_option linter.unusedSimpArgs false in
set_option linter.unusedVariables false in
set_option maxRecDepth 100000 in
set_option maxHeartbeats 8000000 in
theorem ocheck_any (w : World) (id q a : Int) (r s : List UInt8) :
    Calls Tryd.prog 19 #[.agg #[.int .i64 id, .string ⟨r.toArray⟩, .string ⟨s.toArray⟩, .int .i64 q, .int .i64 a]] w fun e w' => e = .returned (.int .i64 (codeO id r s q a)) ∧ Below w.heap.size w w' := by
  have HB := Lib.hid (below_alloc w (.cells #[.int .i64 id, .string ⟨r.toArray⟩, .string ⟨s.toArray⟩, .int .i64 q, .int .i64 a] 39))
  have HM := Lib.hid (heap_new w (.cells #[.int .i64 id, .string ⟨r.toArray⟩, .string ⟨s.toArray⟩, .int .i64 q, .int .i64 a] 39))
  by_cases h0 : id < 1
  · have q0 := decide_eq_true h0
    have HF := Lib.hid (show codeO id r s q a = 2 by unfold codeO; rw [if_pos (by omega)])
    go_enter Tryd.func19, Tryd.ntmps19
    go_wp2_with fail
    generalize w.alloc (.cells #[.int .i64 id, .string ⟨r.toArray⟩, .string ⟨s.toArray⟩, .int .i64 q, .int .i64 a] 39) = wa at HB HM ⊢
    obtain ⟨m0, m1, m2, m3, m4⟩ := cell5 HM.out
    skip
    go_wp2_with fail
    go_ret
    exact ⟨by rw [HF.out]; rfl, HB.out⟩
  · have q0 := decide_eq_false h0
    by_cases h1 : 60 < id
    · have q1 := decide_eq_true h1
      have HF := Lib.hid (show codeO id r s q a = 2 by unfold codeO; rw [if_pos (by omega)])
      go_enter Tryd.func19, Tryd.ntmps19
      go_wp2_with fail
      generalize w.alloc (.cells #[.int .i64 id, .string ⟨r.toArray⟩, .string ⟨s.toArray⟩, .int .i64 q, .int .i64 a] 39) = wa at HB HM ⊢
      obtain ⟨m0, m1, m2, m3, m4⟩ := cell5 HM.out
      skip
      go_wp2_with fail
      go_ret
      exact ⟨by rw [HF.out]; rfl, HB.out⟩
    · have q1 := decide_eq_false h1
      by_cases h2 : q < 1
      · have q2 := decide_eq_true h2
        have HF := Lib.hid (show codeO id r s q a = 2 by unfold codeO; rw [if_pos (by omega)])
        go_enter Tryd.func19, Tryd.ntmps19
        go_wp2_with fail
        generalize w.alloc (.cells #[.int .i64 id, .string ⟨r.toArray⟩, .string ⟨s.toArray⟩, .int .i64 q, .int .i64 a] 39) = wa at HB HM ⊢
        obtain ⟨m0, m1, m2, m3, m4⟩ := cell5 HM.out
        skip
        go_wp2_with fail
        go_ret
        exact ⟨by rw [HF.out]; rfl, HB.out⟩
      · have q2 := decide_eq_false h2
        by_cases h3 : 999 < q
        · have q3 := decide_eq_true h3
          have HF := Lib.hid (show codeO id r s q a = 2 by unfold codeO; rw [if_pos (by omega)])
          go_enter Tryd.func19, Tryd.ntmps19
          go_wp2_with fail
          generalize w.alloc (.cells #[.int .i64 id, .string ⟨r.toArray⟩, .string ⟨s.toArray⟩, .int .i64 q, .int .i64 a] 39) = wa at HB HM ⊢
          obtain ⟨m0, m1, m2, m3, m4⟩ := cell5 HM.out
          skip
          go_wp2_with fail
          go_ret
          exact ⟨by rw [HF.out]; rfl, HB.out⟩
        · have q3 := decide_eq_false h3
          by_cases h4 : a < 1
          · have q4 := decide_eq_true h4
            have HF := Lib.hid (show codeO id r s q a = 2 by unfold codeO; rw [if_pos (by omega)])
            go_enter Tryd.func19, Tryd.ntmps19
            go_wp2_with fail
            generalize w.alloc (.cells #[.int .i64 id, .string ⟨r.toArray⟩, .string ⟨s.toArray⟩, .int .i64 q, .int .i64 a] 39) = wa at HB HM ⊢
            obtain ⟨m0, m1, m2, m3, m4⟩ := cell5 HM.out
            skip
            go_wp2_with fail
            go_ret
            exact ⟨by rw [HF.out]; rfl, HB.out⟩
          · have q4 := decide_eq_false h4
            by_cases h5 : 1099511627776 < a
            · have q5 := decide_eq_true h5
              have HF := Lib.hid (show codeO id r s q a = 2 by unfold codeO; rw [if_pos (by omega)])
              go_enter Tryd.func19, Tryd.ntmps19
              go_wp2_with fail
              generalize w.alloc (.cells #[.int .i64 id, .string ⟨r.toArray⟩, .string ⟨s.toArray⟩, .int .i64 q, .int .i64 a] 39) = wa at HB HM ⊢
              obtain ⟨m0, m1, m2, m3, m4⟩ := cell5 HM.out
              skip
              go_wp2_with fail
              go_ret
              exact ⟨by rw [HF.out]; rfl, HB.out⟩
            · have q5 := decide_eq_false h5
              by_cases h6 : r.length = 0
              · have hr0 := List.eq_nil_of_length_eq_zero h6
                subst hr0
                have HF := Lib.hid (show codeO id [] s q a = 2 by unfold codeO; rw [if_pos (by simp)])
                go_enter Tryd.func19, Tryd.ntmps19
                go_wp2_with fail
                generalize w.alloc (.cells #[.int .i64 id, .string ⟨([] : List UInt8).toArray⟩, .string ⟨(s : List UInt8).toArray⟩, .int .i64 q, .int .i64 a] 39) = wa at HB HM ⊢
                obtain ⟨m0, m1, m2, m3, m4⟩ := cell5 HM.out
                skip
                go_wp2_with fail
                go_ret
                exact ⟨by rw [HF.out]; rfl, HB.out⟩
              · have g6 : r.isEmpty = false := by cases r with | nil => simp at h6 | cons x r => rfl
                by_cases h7 : s.length = 0
                · have hs0 := List.eq_nil_of_length_eq_zero h7
                  subst hs0
                  have HF := Lib.hid (show codeO id r [] q a = 2 by unfold codeO; rw [if_pos (by simp)])
                  go_enter Tryd.func19, Tryd.ntmps19
                  go_wp2_with fail
                  generalize w.alloc (.cells #[.int .i64 id, .string ⟨(r : List UInt8).toArray⟩, .string ⟨([] : List UInt8).toArray⟩, .int .i64 q, .int .i64 a] 39) = wa at HB HM ⊢
                  obtain ⟨m0, m1, m2, m3, m4⟩ := cell5 HM.out
                  skip
                  go_wp2_with fail
                  go_ret
                  exact ⟨by rw [HF.out]; rfl, HB.out⟩
                · have g7 : s.isEmpty = false := by cases s with | nil => simp at h7 | cons x s => rfl
                  by_cases h8 : 16 < r.length
                  · have q8 : (16 : Int) < r.length := by omega
                    have HF := Lib.hid (show codeO id r s q a = 3 by unfold codeO; rw [if_neg (by omega), if_pos (by omega)])
                    go_enter Tryd.func19, Tryd.ntmps19
                    go_wp2_with fail
                    generalize w.alloc (.cells #[.int .i64 id, .string ⟨r.toArray⟩, .string ⟨s.toArray⟩, .int .i64 q, .int .i64 a] 39) = wa at HB HM ⊢
                    obtain ⟨m0, m1, m2, m3, m4⟩ := cell5 HM.out
                    skip
                    go_wp2_with fail
                    go_ret
                    exact ⟨by rw [HF.out]; rfl, HB.out⟩
                  · have q8 : ¬ (16 : Int) < r.length := by omega
                    by_cases h9 : 8 < s.length
                    · have q9 : (8 : Int) < s.length := by omega
                      have HF := Lib.hid (show codeO id r s q a = 3 by unfold codeO; rw [if_neg (by omega), if_pos (by omega)])
                      go_enter Tryd.func19, Tryd.ntmps19
                      go_wp2_with fail
                      generalize w.alloc (.cells #[.int .i64 id, .string ⟨r.toArray⟩, .string ⟨s.toArray⟩, .int .i64 q, .int .i64 a] 39) = wa at HB HM ⊢
                      obtain ⟨m0, m1, m2, m3, m4⟩ := cell5 HM.out
                      skip
                      go_wp2_with fail
                      go_ret
                      exact ⟨by rw [HF.out]; rfl, HB.out⟩
                    · have q9 : ¬ (8 : Int) < s.length := by omega
                      cases hnr : nameB r with
                      | false =>
                        have HF := Lib.hid (show codeO id r s q a = 2 by unfold codeO; rw [if_neg (by omega), if_neg (by omega)]; simp [hnr])
                        go_enter Tryd.func19, Tryd.ntmps19
                        go_wp2_with fail
                        generalize w.alloc (.cells #[.int .i64 id, .string ⟨r.toArray⟩, .string ⟨s.toArray⟩, .int .i64 q, .int .i64 a] 39) = wa at HB HM ⊢
                        obtain ⟨m0, m1, m2, m3, m4⟩ := cell5 HM.out
                        skip
                        go_wp2_with fail
                        refine (name_any ⟨r.toArray⟩ _ (by show r.toArray.size ≤ _; simp; omega)).mono ?_
                        rintro e w1 ⟨rfl, hb⟩
                        rw [show nameB (⟨r.toArray⟩ : ByteArray).data.toList = false from hnr]
                        have HB1 := Lib.hid (bch HB.out hb HB.out.size)
                        have HM1 := Lib.hid (heap_keep HM.out hb)
                        clear hb m0 m1 m2 m3 m4
                        go_wp2_with fail
                        go_ret
                        exact ⟨by rw [HF.out]; rfl, HB1.out⟩
                      | true =>
                        cases hns : nameB s with
                        | false =>
                          have HF := Lib.hid (show codeO id r s q a = 2 by unfold codeO; rw [if_neg (by omega), if_neg (by omega)]; simp [hnr, hns])
                          go_enter Tryd.func19, Tryd.ntmps19
                          go_wp2_with fail
                          generalize w.alloc (.cells #[.int .i64 id, .string ⟨r.toArray⟩, .string ⟨s.toArray⟩, .int .i64 q, .int .i64 a] 39) = wa at HB HM ⊢
                          obtain ⟨m0, m1, m2, m3, m4⟩ := cell5 HM.out
                          skip
                          go_wp2_with fail
                          refine (name_any ⟨r.toArray⟩ _ (by show r.toArray.size ≤ _; simp; omega)).mono ?_
                          rintro e w1 ⟨rfl, hb⟩
                          rw [show nameB (⟨r.toArray⟩ : ByteArray).data.toList = true from hnr]
                          have HB1 := Lib.hid (bch HB.out hb HB.out.size)
                          have HM1 := Lib.hid (heap_keep HM.out hb)
                          clear hb m0 m1 m2 m3 m4
                          have HB0 := Lib.hid HB1.out
                          clear HB1
                          obtain ⟨m0, m1, m2, m3, m4⟩ := cell5 HM1.out
                          go_wp2_with fail
                          refine (name_any ⟨s.toArray⟩ _ (by show s.toArray.size ≤ _; simp; omega)).mono ?_
                          rintro e w1 ⟨rfl, hb⟩
                          rw [show nameB (⟨s.toArray⟩ : ByteArray).data.toList = false from hns]
                          have HB1 := Lib.hid (bch HB0.out hb HB0.out.size)
                          skip
                          clear hb
                          go_wp2_with fail
                          go_ret
                          exact ⟨by rw [HF.out]; rfl, HB1.out⟩
                        | true =>
                          have HF := Lib.hid (show codeO id r s q a = 0 by unfold codeO; rw [if_neg (by omega), if_neg (by omega)]; simp [hnr, hns])
                          go_enter Tryd.func19, Tryd.ntmps19
                          go_wp2_with fail
                          generalize w.alloc (.cells #[.int .i64 id, .string ⟨r.toArray⟩, .string ⟨s.toArray⟩, .int .i64 q, .int .i64 a] 39) = wa at HB HM ⊢
                          obtain ⟨m0, m1, m2, m3, m4⟩ := cell5 HM.out
                          skip
                          go_wp2_with fail
                          refine (name_any ⟨r.toArray⟩ _ (by show r.toArray.size ≤ _; simp; omega)).mono ?_
                          rintro e w1 ⟨rfl, hb⟩
                          rw [show nameB (⟨r.toArray⟩ : ByteArray).data.toList = true from hnr]
                          have HB1 := Lib.hid (bch HB.out hb HB.out.size)
                          have HM1 := Lib.hid (heap_keep HM.out hb)
                          clear hb m0 m1 m2 m3 m4
                          have HB0 := Lib.hid HB1.out
                          clear HB1
                          obtain ⟨m0, m1, m2, m3, m4⟩ := cell5 HM1.out
                          go_wp2_with fail
                          refine (name_any ⟨s.toArray⟩ _ (by show s.toArray.size ≤ _; simp; omega)).mono ?_
                          rintro e w1 ⟨rfl, hb⟩
                          rw [show nameB (⟨s.toArray⟩ : ByteArray).data.toList = true from hns]
                          have HB1 := Lib.hid (bch HB0.out hb HB0.out.size)
                          skip
                          clear hb
                          go_wp2_with fail
                          go_ret
                          exact ⟨by rw [HF.out]; rfl, HB1.out⟩
end Go.Proofs.YtlfibaijpimocaaDoor

/- The document's words, Word, Deed: what they compute. -/
import Derived.Test.YtnakicbdljffeaaDoorKeysWalk1
import Derived.Test.YtnakicbdljffeaaDoorMoneyPairs
namespace Go.Proofs.YtnakicbdljffeaaDoor
open Go.RowKit Key

def words6 : Value := .agg #[.string ⟨#[114, 101, 115, 101, 114, 118, 101]⟩, .string ⟨#[99, 104, 97, 114, 103, 101]⟩, .string ⟨#[115, 104, 105, 112]⟩, .string ⟨#[114, 101, 108, 101, 97, 115, 101]⟩, .string ⟨#[114, 101, 102, 117, 110, 100]⟩, .string ⟨#[118, 111, 105, 100]⟩]
theorem words_at (d : Int) (h : 0 ≤ d ∧ d < 6) (w : World) : (Instr.index 41 words6 (.int .i64 d)).run Tryd.prog w = .ok (.string ⟨(wordL d).toArray⟩) w := by
  rcases deed6 h with rfl | rfl | rfl | rfl | rfl | rfl
  · exact (show (Instr.index 41 words6 (.int .i64 0)).run Tryd.prog w = .ok (.string ⟨(wordL 0).toArray⟩) w by kernel_rfl)
  · exact (show (Instr.index 41 words6 (.int .i64 1)).run Tryd.prog w = .ok (.string ⟨(wordL 1).toArray⟩) w by kernel_rfl)
  · exact (show (Instr.index 41 words6 (.int .i64 2)).run Tryd.prog w = .ok (.string ⟨(wordL 2).toArray⟩) w by kernel_rfl)
  · exact (show (Instr.index 41 words6 (.int .i64 3)).run Tryd.prog w = .ok (.string ⟨(wordL 3).toArray⟩) w by kernel_rfl)
  · exact (show (Instr.index 41 words6 (.int .i64 4)).run Tryd.prog w = .ok (.string ⟨(wordL 4).toArray⟩) w by kernel_rfl)
  · exact (show (Instr.index 41 words6 (.int .i64 5)).run Tryd.prog w = .ok (.string ⟨(wordL 5).toArray⟩) w by kernel_rfl)

set_option maxHeartbeats 1000000 in
theorem refWords_any (w : World) : Calls Tryd.prog 25 #[] w fun e w' => e = .returned words6 ∧ Below w.heap.size w w' := by
  go_enter Tryd.func25, Tryd.ntmps25
  go_wp2_with fail
  exact bodyPost_ret (v := words6) (by simp [results, Tryd.results25, go_sem]; rfl) rfl ⟨rfl, below_alloc _ _⟩

theorem refWord_any (d : Int) (w : World) : Calls Tryd.prog 12 #[.int .i64 d] w fun e w' => e = .returned (.string ⟨(wordL d).toArray⟩) ∧ Below w.heap.size w w' := by
  by_cases h : 0 ≤ d ∧ d < 6
  · have hidx := fun W => words_at d h W
    obtain ⟨h1, h2⟩ := h
    go_enter Tryd.func12, Tryd.ntmps12
    go_wp2_with fail
    refine (refWords_any _).mono ?_
    rintro e w1 ⟨rfl, hb⟩
    have HB := Lib.hid hb
    clear hb
    go_wp2_with fail
    go_ret
    exact ⟨rfl, HB.out⟩
  · have HF := Lib.hid (word_no h)
    by_cases h1 : d < 0
    · go_enter Tryd.func12, Tryd.ntmps12
      go_wp2_with fail
      go_ret
      exact ⟨by rw [HF.out]; rfl, Below.refl _ _⟩
    · have h2 : 5 < d := by omega
      clear h
      go_enter Tryd.func12, Tryd.ntmps12
      go_wp2_with fail
      go_ret
      exact ⟨by rw [HF.out]; rfl, Below.refl _ _⟩

set_option maxHeartbeats 1000000 in
theorem refDeed_any (s : ByteArray) (w : World) : Calls Tryd.prog 22 #[.string s] w fun e w' => e = .returned (.tuple #[.int .i64 (deedK s.data.toList).1, .bool (deedK s.data.toList).2]) ∧ Below w.heap.size w w' := by
  obtain ⟨x, y, hR⟩ : ∃ x y, deedK s.data.toList = (x, y) := ⟨_, _, rfl⟩
  rw [hR]
  have HR := Lib.hid hR
  clear hR
  go_enter Tryd.func22, Tryd.ntmps22
  go_wp2_with fail
  go_loopw [4] (fun i wr => ∃ j : Int, 0 ≤ j ∧ j ≤ 6 ∧ i = .int .i64 j ∧ Hid (∀ d, 0 ≤ d → d < j → wordL d ≠ s.data.toList) ∧ Hid (Below w.heap.size w wr)) (fun i _ => (6 - intOf i).toNat)
  case atStart => exact ⟨0, by omega, by omega, rfl, fun d h1 h2 => by omega, Below.refl _ _⟩
  case round =>
    obtain ⟨j, hj1, hj2, rfl, HN, HB⟩ := hrel
    by_cases hlt : j < 6
    · have hidx := fun W => words_at j ⟨hj1, hlt⟩ W
      go_wp2_with fail
      refine (refWords_any _).mono ?_
      rintro e w1 ⟨rfl, hb⟩
      have HB1 := Lib.hid (bch HB.out hb HB.out.size)
      clear hb
      by_cases hi : wordL j = s.data.toList
      · have HD := Lib.hid (show (x, y) = (j, true) from HR.out.symm.trans (hi ▸ deed_word ⟨hj1, hlt⟩))
        have q := itoaT _ s hi
        clear hi
        go_wp2_with fail
        go_ret2
        exact ⟨ret_pair HD.out, HB1.out⟩
      · have HN2 := Lib.hid (show ∀ d, 0 ≤ d → d < j + 1 → wordL d ≠ s.data.toList from fun d h1 h2 => by
          by_cases e : d = j
          · rw [e]; exact hi
          · exact HN.out d h1 (by omega))
        have q := itoaF _ s hi
        clear hi
        go_wp2_with fail
        go_roundw
        case rel => exact ⟨j + 1, by omega, by omega, by go_num, HN2.out, HB1.out⟩
        case measure => simp [intOf]; omega
    · have HD := Lib.hid (show (x, y) = (0, false) by
        have h := HR.out
        rcases deed_cases s.data.toList with ⟨d, h1, h2, h3, _⟩ | ⟨_, h3⟩
        · exact absurd h3 (HN.out d h1 (by omega))
        · exact h.symm.trans h3)
      go_wp2_with fail
      go_ret2
      exact ⟨ret_pair HD.out, HB.out⟩
end Go.Proofs.YtnakicbdljffeaaDoor

/- orders.name, and the document's: whether all bytes are a name's. -/
import Derived.Test.YtlkncmpengpbiaaGreatDoorMem
import Derived.Test.YtlkncmpengpbiaaGreatDoorKeysDeed
import Derived.Test.YtlkncmpengpbiaaGreatDoorMoneyWalk1
import Derived.Lib.OthersKept
import Derived.Test.YtlkncmpengpbiaaGreatDoorIntake
import Derived.Test.YtlkncmpengpbiaaGreatDoorShort
import Derived.Test.YtlkncmpengpbiaaGreatDoorIntakeTell
import Derived.IntWalk
namespace Go.Proofs.YtlkncmpengpbiaaGreatDoor
open Go.RowKit

namespace Od
def NameZ (z : Int) : Prop := (65 ≤ z ∧ z ≤ 90) ∨ (97 ≤ z ∧ z ≤ 122) ∨ (48 ≤ z ∧ z ≤ 57) ∨ z = 45 ∨ z = 95
instance (z : Int) : Decidable (NameZ z) := by unfold NameZ; exact inferInstance
def nameB (l : List UInt8) : Bool := l.all fun c => decide (NameZ (c.toNat : Int))
def iterPos (w : World) (b : Nat) : Nat := match w.heap[b]? with | some (.stringIter _ p) => p | _ => 0
theorem iterPos_iter (w : World) (s : ByteArray) (p : Nat) : iterPos (w.iter s p) w.heap.size = p := by unfold iterPos; rw [World.iter_heap]
theorem name_step {s : ByteArray} {p : Nat} (hp : p < s.size) (h : nameB (s.data.toList.take p) = true) : nameB (s.data.toList.take (p + 1)) = decide (NameZ ((s[p]).toNat : Int)) := by
  unfold nameB at *
  rw [take_snoc s p hp, List.all_append, h]
  simp
theorem name_bad {s : ByteArray} {p : Nat} (hp : p < s.size) (h : ¬ NameZ ((s[p]).toNat : Int)) : nameB s.data.toList = false := by
  unfold nameB
  rw [List.all_eq_false]
  exact ⟨_, get_mem s p hp, by simpa using h⟩
theorem name_all {s : ByteArray} (h : nameB (s.data.toList.take s.size) = true) : nameB s.data.toList = true := by rw [take_size] at h; exact h
theorem decode_high (s : ByteArray) (p : Nat) (hp : p < s.size) (h : 128 ≤ (s[p]).toNat) : 128 ≤ (Utf8.decode s p).1 := by
  have e : s.get! (p + 0) = s[p]'hp := by
    show s.get! p = _
    simp [ByteArray.get!, getElem!_pos, hp]
    rfl
  unfold Utf8.decode
  simp only [e]
  rw [if_neg (by omega)]
  repeat' split
  all_goals first | omega | (unfold Utf8.runeError; omega) | (simp at *; omega) | (simp only []; omega)
end Od
open Od

set_option maxHeartbeats 1000000 in
theorem name_any (s : ByteArray) (w : World) (hs : s.size ≤ 1000000000000) : Calls Tryz.prog 127 #[.string s] w fun e w' => e = .returned (.bool (nameB s.data.toList)) ∧ Below w.heap.size w w' := by
  go_enter Tryz.func127, Tryz.ntmps127
  go_wp2_with fail
  go_loopw [4] (fun _ wr => ∃ p : Nat, wr = w.iter s p ∧ p ≤ s.size ∧ nameB (s.data.toList.take p) = true) (fun _ wr => s.size - iterPos wr w.heap.size)
  case atStart => exact ⟨0, rfl, by omega, by simp [nameB]⟩
  case round =>
    obtain ⟨p, rfl, hp, HN⟩ := hrel
    by_cases hlt : p < s.size
    · by_cases ha : (s[p]).toNat < 128
      · have hnx := fun ty => run_next_ascii (P := Tryz.prog) w s p ty hlt ha
        have HST := Lib.hid (name_step hlt HN)
        have HBD := Lib.hid (@name_bad s p hlt)
        obtain ⟨z, hz⟩ : ∃ z : Int, ((s[p]).toNat : Int) = z := ⟨_, rfl⟩
        have hz0 : 0 ≤ z ∧ z < 128 := by omega
        rw [hz] at hnx HST HBD
        clear hz ha HN
        by_cases hn : NameZ z
        · rw [decide_eq_true hn] at HST
          clear HBD
          unfold NameZ at hn
          rcases hn with ⟨h1, h2⟩ | ⟨h1, h2⟩ | ⟨h1, h2⟩ | rfl | rfl
          all_goals
            go_wp2_with fail
            go_roundw
            case rel => exact ⟨p + 1, rfl, by omega, HST.out⟩
            case measure => rw [iterPos_iter, iterPos_iter]; omega
        · have HF := Lib.hid (HBD.out hn)
          clear HST HBD
          unfold NameZ at hn
          have hn' : ¬ (65 ≤ z ∧ z ≤ 90) ∧ ¬ (97 ≤ z ∧ z ≤ 122) ∧ ¬ (48 ≤ z ∧ z ≤ 57) ∧ ¬ z = 45 ∧ ¬ z = 95 := by omega
          clear hn
          go_wp2_with fail
          all_goals go_ret
          all_goals exact ⟨by rw [HF.out]; rfl, (Below.refl _ _).alloc (Nat.le_refl _) _⟩
      · have hnx := fun ty => (Lib.run_next_any_at (P := Tryz.prog) (w.iter s p) w.heap.size s p ty (World.iter_heap w s p) hlt).trans (by rw [show (w.iter s p).iterAt w.heap.size s (p + (Utf8.decode s p).2) = w.iter s (p + (Utf8.decode s p).2) from World.iter_set w s p _])
        have hz0 : (128 : Int) ≤ (Utf8.decode s p).1 := by have := decode_high s p hlt (by omega); omega
        have HF := Lib.hid (name_bad hlt (show ¬ NameZ ((s[p]).toNat : Int) by unfold NameZ; omega))
        generalize ((Utf8.decode s p).1 : Int) = z at hz0 hnx
        generalize p + (Utf8.decode s p).2 = q at hnx
        clear ha HN
        go_wp2_with fail
        all_goals go_ret
        all_goals exact ⟨by rw [HF.out]; rfl, (Below.refl _ _).alloc (Nat.le_refl _) _⟩
    · obtain rfl : p = s.size := by omega
      have hnx := fun ty => run_next_end (P := Tryz.prog) w s s.size ty (by omega)
      have HF := Lib.hid (name_all HN)
      clear HN
      go_wp2_with fail
      go_ret
      exact ⟨by rw [HF.out]; rfl, (Below.refl _ _).alloc (Nat.le_refl _) _⟩

set_option linter.unusedSimpArgs false in
set_option maxHeartbeats 1000000 in
theorem refName_any (s : ByteArray) (w : World) (hs : s.size ≤ 1000000000000) : Calls Tryz.prog 114 #[.string s] w fun e w' => e = .returned (.bool (nameB s.data.toList)) ∧ w = w' := by
  go_enter Tryz.func114, Tryz.ntmps114
  go_wp2_with fail
  go_loopw [3] (fun i wr => ∃ p : Nat, i = .int .i64 p ∧ w = wr ∧ p ≤ s.size ∧ Hid (nameB (s.data.toList.take p) = true)) (fun i _ => s.size - (intOf i).toNat)
  case atStart => exact ⟨0, rfl, rfl, by omega, show nameB _ = true by simp [nameB]⟩
  case round =>
    obtain ⟨p, rfl, rfl, hp, HN⟩ := hrel
    by_cases hlt : p < s.size
    · have hlt' : (p : Int) < s.size := by omega
      have hp0 : (0 : Int) ≤ p := by omega
      have HST := Lib.hid (name_step hlt HN.out)
      have HBD := Lib.hid (@name_bad s p hlt)
      have hz0 : 0 ≤ ((s[p]).toNat : Int) := by omega
      by_cases hn : NameZ ((s[p]).toNat : Int)
      · rw [decide_eq_true hn] at HST
        clear HBD
        unfold NameZ at hn
        rcases hn with ⟨h1, h2⟩ | ⟨h1, h2⟩ | ⟨h1, h2⟩ | h1 | h1
        all_goals
          go_wp2_with fail
          go_roundw
          case rel => exact ⟨p + 1, by go_num, by simp, by omega, HST.out⟩
          case measure => simp [intOf]; omega
      · have HF := Lib.hid (HBD.out hn)
        clear HST HBD
        unfold NameZ at hn
        have hn' : ¬ (65 ≤ ((s[p]).toNat : Int) ∧ ((s[p]).toNat : Int) ≤ 90) ∧ ¬ (97 ≤ ((s[p]).toNat : Int) ∧ ((s[p]).toNat : Int) ≤ 122) ∧ ¬ (48 ≤ ((s[p]).toNat : Int) ∧ ((s[p]).toNat : Int) ≤ 57) ∧ ¬ ((s[p]).toNat : Int) = 45 ∧ ¬ ((s[p]).toNat : Int) = 95 := by omega
        have g1 := beqF hn'.2.2.2.1
        have g2 := beqF hn'.2.2.2.2
        clear hn
        go_wp2_with fail
        all_goals first
          | (exfalso; omega)
          | (exfalso; rename_i hx; simp [g1, g2] at hx; done)
          | (exfalso; rename_i hx; simp [g1, g2] at hx; omega)
          | (go_ret; exact ⟨by rw [HF.out]; rfl, rfl⟩)
    · obtain rfl : p = s.size := by omega
      have HF := Lib.hid (name_all HN.out)
      go_wp2_with fail
      go_ret
      exact ⟨by rw [HF.out]; rfl, rfl⟩
end Go.Proofs.YtlkncmpengpbiaaGreatDoor
/- What is wrong with an order: the program's orders.Check. -/
namespace Go.Proofs.YtlkncmpengpbiaaGreatDoor
open Go.RowKit Od
set_option linter.unusedSimpArgs false
set_option linter.unusedVariables false
set_option maxRecDepth 100000
set_option maxHeartbeats 8000000

namespace Od
def codeO (id : Int) (r s : List UInt8) (q a : Int) : Int :=
 if id < 1 ∨ 60 < id ∨ q < 1 ∨ 999 < q ∨ a < 1 ∨ 1099511627776 < a ∨ r.length = 0 ∨ s.length = 0 then 2
 else if 16 < r.length ∨ 8 < s.length then 3 else if nameB r = false ∨ nameB s = false then 2 else 0
theorem codeO_ok {id : Int} {r s : List UInt8} {q a : Int} (h : codeO id r s q a = 0) : 1 ≤ id ∧ id ≤ 60 ∧ 1 ≤ q ∧ q ≤ 999 ∧ 1 ≤ a ∧ a ≤ 1099511627776 := by
 unfold codeO at h
 split at h
 ·cases h
 ·omega
end Od
theorem ocheck_any (w : World) (id q a : Int) (r s : List UInt8) :
  Calls Tryz.prog 95 #[.agg #[.int .i64 id, .string ⟨r.toArray⟩, .string ⟨s.toArray⟩, .int .i64 q, .int .i64 a]] w fun e w' => e = .returned (.int .i64 (codeO id r s q a)) ∧ Below w.heap.size w w' := by
 have HB := Hd (below_alloc w (.cells #[.int .i64 id, .string ⟨r.toArray⟩, .string ⟨s.toArray⟩, .int .i64 q, .int .i64 a] 29))
 have HM := Hd (heap_new w (.cells #[.int .i64 id, .string ⟨r.toArray⟩, .string ⟨s.toArray⟩, .int .i64 q, .int .i64 a] 29))
 by_cases h0 : id < 1
 ·have q0 := decide_eq_true h0
  have HF := Hd (show codeO id r s q a = 2 by unfold codeO; rw [if_pos (by omega)])
  go_enter Tryz.func95, Tryz.ntmps95
  go_wp2_with fail
  generalize w.alloc (.cells #[.int .i64 id, .string ⟨r.toArray⟩, .string ⟨s.toArray⟩, .int .i64 q, .int .i64 a] 29) = wa at HB HM ⊢
  obtain ⟨m0, m1, m2, m3, m4⟩ := cell5 HM.out
  skip
  go_wp2_with fail
  go_ret
  exact ⟨by rw [HF.out]; rfl, HB.out⟩
 ·have q0 := decide_eq_false h0
  by_cases h1 : 60 < id
  ·have q1 := decide_eq_true h1
   have HF := Hd (show codeO id r s q a = 2 by unfold codeO; rw [if_pos (by omega)])
   go_enter Tryz.func95, Tryz.ntmps95
   go_wp2_with fail
   generalize w.alloc (.cells #[.int .i64 id, .string ⟨r.toArray⟩, .string ⟨s.toArray⟩, .int .i64 q, .int .i64 a] 29) = wa at HB HM ⊢
   obtain ⟨m0, m1, m2, m3, m4⟩ := cell5 HM.out
   skip
   go_wp2_with fail
   go_ret
   exact ⟨by rw [HF.out]; rfl, HB.out⟩
  ·have q1 := decide_eq_false h1
   by_cases h2 : q < 1
   ·have q2 := decide_eq_true h2
    have HF := Hd (show codeO id r s q a = 2 by unfold codeO; rw [if_pos (by omega)])
    go_enter Tryz.func95, Tryz.ntmps95
    go_wp2_with fail
    generalize w.alloc (.cells #[.int .i64 id, .string ⟨r.toArray⟩, .string ⟨s.toArray⟩, .int .i64 q, .int .i64 a] 29) = wa at HB HM ⊢
    obtain ⟨m0, m1, m2, m3, m4⟩ := cell5 HM.out
    skip
    go_wp2_with fail
    go_ret
    exact ⟨by rw [HF.out]; rfl, HB.out⟩
   ·have q2 := decide_eq_false h2
    by_cases h3 : 999 < q
    ·have q3 := decide_eq_true h3
     have HF := Hd (show codeO id r s q a = 2 by unfold codeO; rw [if_pos (by omega)])
     go_enter Tryz.func95, Tryz.ntmps95
     go_wp2_with fail
     generalize w.alloc (.cells #[.int .i64 id, .string ⟨r.toArray⟩, .string ⟨s.toArray⟩, .int .i64 q, .int .i64 a] 29) = wa at HB HM ⊢
     obtain ⟨m0, m1, m2, m3, m4⟩ := cell5 HM.out
     skip
     go_wp2_with fail
     go_ret
     exact ⟨by rw [HF.out]; rfl, HB.out⟩
    ·have q3 := decide_eq_false h3
     by_cases h4 : a < 1
     ·have q4 := decide_eq_true h4
      have HF := Hd (show codeO id r s q a = 2 by unfold codeO; rw [if_pos (by omega)])
      go_enter Tryz.func95, Tryz.ntmps95
      go_wp2_with fail
      generalize w.alloc (.cells #[.int .i64 id, .string ⟨r.toArray⟩, .string ⟨s.toArray⟩, .int .i64 q, .int .i64 a] 29) = wa at HB HM ⊢
      obtain ⟨m0, m1, m2, m3, m4⟩ := cell5 HM.out
      skip
      go_wp2_with fail
      go_ret
      exact ⟨by rw [HF.out]; rfl, HB.out⟩
     ·have q4 := decide_eq_false h4
      by_cases h5 : 1099511627776 < a
      ·have q5 := decide_eq_true h5
       have HF := Hd (show codeO id r s q a = 2 by unfold codeO; rw [if_pos (by omega)])
       go_enter Tryz.func95, Tryz.ntmps95
       go_wp2_with fail
       generalize w.alloc (.cells #[.int .i64 id, .string ⟨r.toArray⟩, .string ⟨s.toArray⟩, .int .i64 q, .int .i64 a] 29) = wa at HB HM ⊢
       obtain ⟨m0, m1, m2, m3, m4⟩ := cell5 HM.out
       skip
       go_wp2_with fail
       go_ret
       exact ⟨by rw [HF.out]; rfl, HB.out⟩
      ·have q5 := decide_eq_false h5
       by_cases h6 : r.length = 0
       ·have hr0 := List.eq_nil_of_length_eq_zero h6
        subst hr0
        have HF := Hd (show codeO id [] s q a = 2 by unfold codeO; rw [if_pos (by simp)])
        go_enter Tryz.func95, Tryz.ntmps95
        go_wp2_with fail
        generalize w.alloc (.cells #[.int .i64 id, .string ⟨([] : List UInt8).toArray⟩, .string ⟨(s : List UInt8).toArray⟩, .int .i64 q, .int .i64 a] 29) = wa at HB HM ⊢
        obtain ⟨m0, m1, m2, m3, m4⟩ := cell5 HM.out
        skip
        go_wp2_with fail
        go_ret
        exact ⟨by rw [HF.out]; rfl, HB.out⟩
       ·have g6 : r.isEmpty = false := by cases r with | nil => simp at h6 | cons x r => rfl
        by_cases h7 : s.length = 0
        ·have hs0 := List.eq_nil_of_length_eq_zero h7
         subst hs0
         have HF := Hd (show codeO id r [] q a = 2 by unfold codeO; rw [if_pos (by simp)])
         go_enter Tryz.func95, Tryz.ntmps95
         go_wp2_with fail
         generalize w.alloc (.cells #[.int .i64 id, .string ⟨(r : List UInt8).toArray⟩, .string ⟨([] : List UInt8).toArray⟩, .int .i64 q, .int .i64 a] 29) = wa at HB HM ⊢
         obtain ⟨m0, m1, m2, m3, m4⟩ := cell5 HM.out
         skip
         go_wp2_with fail
         go_ret
         exact ⟨by rw [HF.out]; rfl, HB.out⟩
        ·have g7 : s.isEmpty = false := by cases s with | nil => simp at h7 | cons x s => rfl
         by_cases h8 : 16 < r.length
         ·have q8 : (16 : Int) < r.length := by omega
          have HF := Hd (show codeO id r s q a = 3 by unfold codeO; rw [if_neg (by omega), if_pos (by omega)])
          go_enter Tryz.func95, Tryz.ntmps95
          go_wp2_with fail
          generalize w.alloc (.cells #[.int .i64 id, .string ⟨r.toArray⟩, .string ⟨s.toArray⟩, .int .i64 q, .int .i64 a] 29) = wa at HB HM ⊢
          obtain ⟨m0, m1, m2, m3, m4⟩ := cell5 HM.out
          skip
          go_wp2_with fail
          go_ret
          exact ⟨by rw [HF.out]; rfl, HB.out⟩
         ·have q8 : ¬ (16 : Int) < r.length := by omega
          by_cases h9 : 8 < s.length
          ·have q9 : (8 : Int) < s.length := by omega
           have HF := Hd (show codeO id r s q a = 3 by unfold codeO; rw [if_neg (by omega), if_pos (by omega)])
           go_enter Tryz.func95, Tryz.ntmps95
           go_wp2_with fail
           generalize w.alloc (.cells #[.int .i64 id, .string ⟨r.toArray⟩, .string ⟨s.toArray⟩, .int .i64 q, .int .i64 a] 29) = wa at HB HM ⊢
           obtain ⟨m0, m1, m2, m3, m4⟩ := cell5 HM.out
           skip
           go_wp2_with fail
           go_ret
           exact ⟨by rw [HF.out]; rfl, HB.out⟩
          ·have q9 : ¬ (8 : Int) < s.length := by omega
           cases hnr : nameB r with
           | false =>
            have HF := Hd (show codeO id r s q a = 2 by unfold codeO; rw [if_neg (by omega), if_neg (by omega)]; simp [hnr])
            go_enter Tryz.func95, Tryz.ntmps95
            go_wp2_with fail
            generalize w.alloc (.cells #[.int .i64 id, .string ⟨r.toArray⟩, .string ⟨s.toArray⟩, .int .i64 q, .int .i64 a] 29) = wa at HB HM ⊢
            obtain ⟨m0, m1, m2, m3, m4⟩ := cell5 HM.out
            skip
            go_wp2_with fail
            refine (name_any ⟨r.toArray⟩ _ (by show r.toArray.size ≤ _; simp; omega)).mono ?_
            rintro e w1 ⟨rfl, hb⟩
            rw [show nameB (⟨r.toArray⟩ : ByteArray).data.toList = false from hnr]
            have HB1 := Hd (bch HB.out hb HB.out.size)
            have HM1 := Hd (heap_keep HM.out hb)
            clear hb m0 m1 m2 m3 m4
            go_wp2_with fail
            go_ret
            exact ⟨by rw [HF.out]; rfl, HB1.out⟩
           | true =>
            cases hns : nameB s with
            | false =>
             have HF := Hd (show codeO id r s q a = 2 by unfold codeO; rw [if_neg (by omega), if_neg (by omega)]; simp [hnr, hns])
             go_enter Tryz.func95, Tryz.ntmps95
             go_wp2_with fail
             generalize w.alloc (.cells #[.int .i64 id, .string ⟨r.toArray⟩, .string ⟨s.toArray⟩, .int .i64 q, .int .i64 a] 29) = wa at HB HM ⊢
             obtain ⟨m0, m1, m2, m3, m4⟩ := cell5 HM.out
             skip
             go_wp2_with fail
             refine (name_any ⟨r.toArray⟩ _ (by show r.toArray.size ≤ _; simp; omega)).mono ?_
             rintro e w1 ⟨rfl, hb⟩
             rw [show nameB (⟨r.toArray⟩ : ByteArray).data.toList = true from hnr]
             have HB1 := Hd (bch HB.out hb HB.out.size)
             have HM1 := Hd (heap_keep HM.out hb)
             clear hb m0 m1 m2 m3 m4
             have HB0 := Hd HB1.out
             clear HB1
             obtain ⟨m0, m1, m2, m3, m4⟩ := cell5 HM1.out
             go_wp2_with fail
             refine (name_any ⟨s.toArray⟩ _ (by show s.toArray.size ≤ _; simp; omega)).mono ?_
             rintro e w1 ⟨rfl, hb⟩
             rw [show nameB (⟨s.toArray⟩ : ByteArray).data.toList = false from hns]
             have HB1 := Hd (bch HB0.out hb HB0.out.size)
             skip
             clear hb
             go_wp2_with fail
             go_ret
             exact ⟨by rw [HF.out]; rfl, HB1.out⟩
            | true =>
             have HF := Hd (show codeO id r s q a = 0 by unfold codeO; rw [if_neg (by omega), if_neg (by omega)]; simp [hnr, hns])
             go_enter Tryz.func95, Tryz.ntmps95
             go_wp2_with fail
             generalize w.alloc (.cells #[.int .i64 id, .string ⟨r.toArray⟩, .string ⟨s.toArray⟩, .int .i64 q, .int .i64 a] 29) = wa at HB HM ⊢
             obtain ⟨m0, m1, m2, m3, m4⟩ := cell5 HM.out
             skip
             go_wp2_with fail
             refine (name_any ⟨r.toArray⟩ _ (by show r.toArray.size ≤ _; simp; omega)).mono ?_
             rintro e w1 ⟨rfl, hb⟩
             rw [show nameB (⟨r.toArray⟩ : ByteArray).data.toList = true from hnr]
             have HB1 := Hd (bch HB.out hb HB.out.size)
             have HM1 := Hd (heap_keep HM.out hb)
             clear hb m0 m1 m2 m3 m4
             have HB0 := Hd HB1.out
             clear HB1
             obtain ⟨m0, m1, m2, m3, m4⟩ := cell5 HM1.out
             go_wp2_with fail
             refine (name_any ⟨s.toArray⟩ _ (by show s.toArray.size ≤ _; simp; omega)).mono ?_
             rintro e w1 ⟨rfl, hb⟩
             rw [show nameB (⟨s.toArray⟩ : ByteArray).data.toList = true from hns]
             have HB1 := Hd (bch HB0.out hb HB0.out.size)
             skip
             clear hb
             go_wp2_with fail
             go_ret
             exact ⟨by rw [HF.out]; rfl, HB1.out⟩
end Go.Proofs.YtlkncmpengpbiaaGreatDoor
/- What the payment's newest statement says that an order came to: intake.Net. -/
namespace Go.Proofs.YtlkncmpengpbiaaGreatDoor
open Go.RowKit Go.Maps Key Rw
set_option linter.unusedSimpArgs false
set_option linter.unusedVariables false
set_option maxRecDepth 100000
set_option maxHeartbeats 8000000

theorem amt_bd {I : In.Inn} (hg : In.Fine I) (o d : Int) : 0 ≤ In.amtI I o d ∧ In.amtI I o d ≤ 1099511627776 := by
 unfold In.amtI
 cases hr : In.rowOf I (o, d) with
 | none => simp
 | some r =>
  have hm : r ∈ In.rowsAll I := List.mem_of_find?_eq_some hr
  have hok : ∃ p, okRow p r = true := by
   unfold In.rowsAll at hm
   rcases List.mem_append.1 hm with hm | hm
   ·rcases List.mem_append.1 hm with hm | hm
    ·exact ⟨0, In.ok_rows hg.a r hm⟩
    ·exact ⟨1, In.ok_rows hg.b r hm⟩
   ·exact ⟨2, In.ok_rows hg.c r hm⟩
  obtain ⟨p, hp⟩ := hok
  simp only []
  split
  ·rename_i h1
   unfold okRow at hp
   simp only [h1] at hp
   simp at hp
   split at hp <;> omega
  ·omega
theorem ilook {w : World} {m : Option Nat} {I : In.Inn} (hm : MP w m (In.rowsAll I)) (hg : In.Fine I) {o d : Int} (hk : (-9223372036854775808 ≤ o ∧ o ≤ 9223372036854775807) ∧ (-9223372036854775808 ≤ d ∧ d ≤ 9223372036854775807)) :
  (Instr.lookup tMapR (.map m) (.agg #[.int .i64 o, .int .i64 d]) true).run Tryz.prog w = .ok (.tuple #[mkRow (rowD (In.rowOf I (o, d))), .bool (In.rowOf I (o, d)).isSome]) w := by
 obtain ⟨kl, hkl⟩ := key_reads (o, d) hk
 rcases hm with ⟨rfl, he⟩ | ⟨b, rfl, hm⟩
 ·rw [show In.rowOf I (o, d) = none from row_out (fun q hq => by rw [he] at hq; cases hq)]
  exact Maps.look_nil (P := Tryz.prog) (w := w) (t := tMapR) true lawKey mapR (zeroRow w) hkl
 ·rcases hm.look lawKey mapR (zeroRow w) hkl (mkKey_inj _) with ⟨v, hv, hr, _⟩ | ⟨hn, hr, _⟩
  ·rw [row_in hg hv]; exact hr
  ·rw [row_out hn]; exact hr
theorem amount_any (w : World) (v : Value) (I : In.Inn) (o d : Int) (h : InP w v I) (hg : In.Fine I) (hk : (-9223372036854775808 ≤ o ∧ o ≤ 9223372036854775807) ∧ (-9223372036854775808 ≤ d ∧ d ≤ 9223372036854775807)) :
  Calls Tryz.prog 137 #[v, .int .i64 o, .int .i64 d] w fun e w' => e = .returned (.int .i64 (In.amtI I o d)) ∧ Below w.heap.size w w' := by
 have hII := h
 obtain ⟨A0, n0, c0, A1, n1, c1, A2, n2, c2, m, rfl, h0, h1, h2, h3⟩ := h
 obtain ⟨wa, hA⟩ : ∃ wa, wa = w.alloc (.cells #[.int .i64 I.a.1, .int .i64 I.a.2.1, .slice A0 n0 c0, .int .i64 I.b.1, .int .i64 I.b.2.1, .slice A1 n1 c1, .int .i64 I.c.1, .int .i64 I.c.2.1, .slice A2 n2 c2, .map m] tIn) := ⟨_, rfl⟩
 have hB : Below w.heap.size w wa := by rw [hA]; exact below_alloc _ _
 have HI := Hd (show wa.heap[w.heap.size]? = some (.cells #[.int .i64 I.a.1, .int .i64 I.a.2.1, .slice A0 n0 c0, .int .i64 I.b.1, .int .i64 I.b.2.1, .slice A1 n1 c1, .int .i64 I.c.1, .int .i64 I.c.2.1, .slice A2 n2 c2, .map m] tIn (0, 0)) by rw [hA]; exact heap_new _ _)
 have hlk := ilook (h3.below hB) hg hk
 have HA := Hd hA; have HB := Hd hB
 clear hA hB hII h0 h1 h2 h3
 obtain ⟨i0, i1, i2, i3, i4, i5, i6, i7, i8, i9⟩ := cell10 HI.out
 cases hr : In.rowOf I (o, d) with
 | none =>
  rw [hr] at hlk
  have HE := Hd (show In.amtI I o d = 0 by unfold In.amtI; rw [hr])
  simp only [rowD, mkRow, Option.isSome] at hlk
  have HLK := Hd hlk
  clear hlk hr
  go_enter Tryz.func137, Tryz.ntmps137
  go_upto_region 1 with (fail)
  rw [← HA.out]
  go_wp2_with fail
  rw [HLK.out]
  go_upto_region 2 with (fail)
  obtain ⟨wb, hwb⟩ : ∃ wb, wb = wa.alloc (.cells #[.int .i64 0, .int .i64 0, .int .i64 0, .int .i64 0, .int .i64 0] tRow) := ⟨_, rfl⟩
  rw [← hwb]
  have HBb := Hd (show Below w.heap.size w wb by rw [hwb]; exact HB.out.alloc HB.out.size _)
  have HXb := Hd (show wb.heap[wa.heap.size]? = some (.cells #[.int .i64 0, .int .i64 0, .int .i64 0, .int .i64 0, .int .i64 0] tRow (0, 0)) by rw [hwb]; exact heap_new _ _)
  clear hwb
  obtain ⟨x0, x1, x2, x3, x4⟩ := cell5 HXb.out
  go_wp2_with fail
  go_ret
  exact ⟨by rw [HE.out]; rfl, HBb.out⟩
 | some r =>
  rw [hr] at hlk
  obtain ⟨⟨xo, xd⟩, xc, xa, xq⟩ := r
  simp only [rowD, mkRow, Option.isSome] at hlk
  have HE := Hd (show In.amtI I o d = if xc = 1 then xa else 0 by unfold In.amtI; rw [hr])
  have HLK := Hd hlk
  clear hlk hr
  go_enter Tryz.func137, Tryz.ntmps137
  go_upto_region 1 with (fail)
  rw [← HA.out]
  go_wp2_with fail
  rw [HLK.out]
  go_upto_region 2 with (fail)
  obtain ⟨wb, hwb⟩ : ∃ wb, wb = wa.alloc (.cells #[.int .i64 xo, .int .i64 xd, .int .i64 xc, .int .i64 xa, .int .i64 xq] tRow) := ⟨_, rfl⟩
  rw [← hwb]
  have HBb := Hd (show Below w.heap.size w wb by rw [hwb]; exact HB.out.alloc HB.out.size _)
  have HXb := Hd (show wb.heap[wa.heap.size]? = some (.cells #[.int .i64 xo, .int .i64 xd, .int .i64 xc, .int .i64 xa, .int .i64 xq] tRow (0, 0)) by rw [hwb]; exact heap_new _ _)
  clear hwb
  obtain ⟨x0, x1, x2, x3, x4⟩ := cell5 HXb.out
  by_cases hc : xc = 1
  ·have hc1 := bneF hc
   have HE2 := Hd (HE.out.trans (if_pos hc))
   clear hc
   go_wp2_with fail
   go_ret
   exact ⟨by rw [HE2.out]; rfl, HBb.out⟩
  ·have hc1 := bneT hc
   have HE2 := Hd (HE.out.trans (if_neg hc))
   clear hc
   go_wp2_with fail
   go_ret
   exact ⟨by rw [HE2.out]; rfl, HBb.out⟩
theorem inet_any (w : World) (v : Value) (I : In.Inn) (o : Int) (h : InP w v I) (hg : In.Fine I) (ho : -9223372036854775808 ≤ o ∧ o ≤ 9223372036854775807) :
  Calls Tryz.prog 105 #[v, .int .i64 o] w fun e w' => e = .returned (.int .i64 (In.netI I o)) ∧ Below w.heap.size w w' := by
 have HII := Hd h
 obtain ⟨A0, n0, c0, A1, n1, c1, A2, n2, c2, m, rfl, _⟩ := h
 obtain ⟨wa, hA⟩ : ∃ wa, wa = w.alloc (.cells #[.int .i64 I.a.1, .int .i64 I.a.2.1, .slice A0 n0 c0, .int .i64 I.b.1, .int .i64 I.b.2.1, .slice A1 n1 c1, .int .i64 I.c.1, .int .i64 I.c.2.1, .slice A2 n2 c2, .map m] tIn) := ⟨_, rfl⟩
 have hB : Below w.heap.size w wa := by rw [hA]; exact below_alloc _ _
 have HI := Hd (show wa.heap[w.heap.size]? = some (.cells #[.int .i64 I.a.1, .int .i64 I.a.2.1, .slice A0 n0 c0, .int .i64 I.b.1, .int .i64 I.b.2.1, .slice A1 n1 c1, .int .i64 I.c.1, .int .i64 I.c.2.1, .slice A2 n2 c2, .map m] tIn (0, 0)) by rw [hA]; exact heap_new _ _)
 have HA := Hd hA; have HB := Hd hB; have HG := Hd hg
 have b1 := amt_bd hg o 1
 have b4 := amt_bd hg o 4
 clear hA hB hg
 obtain ⟨i0, i1, i2, i3, i4, i5, i6, i7, i8, i9⟩ := cell10 HI.out
 go_enter Tryz.func105, Tryz.ntmps105
 go_upto_region 1 with (fail)
 rw [← HA.out]
 have HH := Hd (fun W (hb : Below wa.heap.size wa W) => (⟨Hd hb, kc hb i0, kc hb i1, kc hb i2, kc hb i3, kc hb i4, kc hb i5, kc hb i6, kc hb i7, kc hb i8, kc hb i9⟩ : (fun w' => Hid (Below wa.heap.size wa w') ∧ w'.cell? ⟨w.heap.size, 0, none⟩ = some (.int .i64 I.a.1) ∧ w'.cell? ⟨w.heap.size, 1, none⟩ = some (.int .i64 I.a.2.1) ∧ w'.cell? ⟨w.heap.size, 2, none⟩ = some (.slice A0 n0 c0) ∧ w'.cell? ⟨w.heap.size, 3, none⟩ = some (.int .i64 I.b.1) ∧ w'.cell? ⟨w.heap.size, 4, none⟩ = some (.int .i64 I.b.2.1) ∧ w'.cell? ⟨w.heap.size, 5, none⟩ = some (.slice A1 n1 c1) ∧ w'.cell? ⟨w.heap.size, 6, none⟩ = some (.int .i64 I.c.1) ∧ w'.cell? ⟨w.heap.size, 7, none⟩ = some (.int .i64 I.c.2.1) ∧ w'.cell? ⟨w.heap.size, 8, none⟩ = some (.slice A2 n2 c2) ∧ w'.cell? ⟨w.heap.size, 9, none⟩ = some (.map m)) W))
 refine wp_region_noPanic ?_
 refine wp_region_held_drew (S := (fun w' => Hid (Below wa.heap.size wa w') ∧ w'.cell? ⟨w.heap.size, 0, none⟩ = some (.int .i64 I.a.1) ∧ w'.cell? ⟨w.heap.size, 1, none⟩ = some (.int .i64 I.a.2.1) ∧ w'.cell? ⟨w.heap.size, 2, none⟩ = some (.slice A0 n0 c0) ∧ w'.cell? ⟨w.heap.size, 3, none⟩ = some (.int .i64 I.b.1) ∧ w'.cell? ⟨w.heap.size, 4, none⟩ = some (.int .i64 I.b.2.1) ∧ w'.cell? ⟨w.heap.size, 5, none⟩ = some (.slice A1 n1 c1) ∧ w'.cell? ⟨w.heap.size, 6, none⟩ = some (.int .i64 I.c.1) ∧ w'.cell? ⟨w.heap.size, 7, none⟩ = some (.int .i64 I.c.2.1) ∧ w'.cell? ⟨w.heap.size, 8, none⟩ = some (.slice A2 n2 c2) ∧ w'.cell? ⟨w.heap.size, 9, none⟩ = some (.map m))) (by kernel_rfl) (HH.out _ (below_drew1 (Below.refl wa.heap.size wa))) (fun hHeld => ?_)
 refine tk 0 rfl rfl ‹_› ?_; try go_frame
 refine tk 1 rfl rfl ‹_› ?_; try go_frame
 refine tk 3 rfl rfl ‹_› ?_; try go_frame
 refine tk 4 rfl rfl ‹_› ?_; try go_frame
 refine rdy 2 rfl (fun K hK => ?_)
 go_simp
 refine (amount_any _ _ I o 1 (HII.out.below (bch HB.out (Hid.out (And.left (by assumption))) HB.out.size)) HG.out ⟨ho, by decide⟩).mono ?_
 rintro e w6 ⟨rfl, hb6⟩
 have HB6 := Hd (bch (below_drew1 (Below.refl wa.heap.size wa)) hb6 (Below.size (below_drew1 (Below.refl wa.heap.size wa))))
 clear hb6
 refine hK.out _ _ (HH.out _ (HB6.out)) (fun hHeld => ?_)
 clear hK K
 (try simp only [gx1, gx2, gx3]); try go_frame
 refine rdy 5 rfl (fun K hK => ?_)
 go_simp
 refine (amount_any _ _ I o 4 (HII.out.below (bch HB.out HB6.out HB.out.size)) HG.out ⟨ho, by decide⟩).mono ?_
 rintro e w7 ⟨rfl, hb7⟩
 have HB7 := Hd (bch HB6.out hb7 HB6.out.size)
 clear hb7
 refine hK.out _ _ (HH.out _ (HB7.out)) (fun hHeld => ?_)
 clear hK K
 (try simp only [gx1, gx2, gx3]); try go_frame
 refine tk 6 rfl rfl ‹_› ?_; try go_frame
 refine tk 7 rfl rfl ‹_› ?_; try go_frame
 refine wpAnyH_done (by kernel_rfl) ?_ _
 refine NoPanic.normal ?_
 have hw2 : IntKind.i64.wrap (In.amtI I o 1 - In.amtI I o 4) = In.amtI I o 1 - In.amtI I o 4 := IntWalk.i64_in _ (by omega)
 clear hHeld HH
 rw [hw2]
 go_wp2_with fail
 go_ret
 exact ⟨rfl, bch HB.out HB7.out HB.out.size⟩
end Go.Proofs.YtlkncmpengpbiaaGreatDoor

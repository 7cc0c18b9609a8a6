/- orders.name, and the document's: whether all bytes are a name's. -/
import Derived.Test.YtnfbhocppijbjaaDoorMem
import Derived.Test.YtnfbhocppijbjaaDoorKeysCore
import Derived.Test.YtnfbhocppijbjaaDoorMoneyPairs
import Derived.Lib.OthersKept
import Derived.Test.YtnfbhocppijbjaaDoorBoxes
import Derived.Test.YtnfbhocppijbjaaDoorIntakeTell
import Derived.Test.YtnfbhocppijbjaaDoorCoreMem
import Derived.IntWalk
import Derived.StillTailTactics
import Derived.Test.YtnfbhocppijbjaaDoorRegionTill
import Derived.Deep.QuietTactic
import Derived.BigQuiet
namespace Go.Proofs.YtnfbhocppijbjaaDoor
open Go.RowKit

namespace Od
def NameZ (z : Int) : Prop := (65 ≤ z ∧ z ≤ 90) ∨ (97 ≤ z ∧ z ≤ 122) ∨ (48 ≤ z ∧ z ≤ 57) ∨ z = 45 ∨ z = 95
instance (z : Int) : Decidable (NameZ z) := by unfold NameZ; exact inferInstance
def nameB (l : List UInt8) : Bool := l.all fun c => decide (NameZ (c.toNat : Int))
def iterPos (w : World) (b : Nat) : Nat := match w.heap[b]? with | some (.stringIter _ p) => p | _ => 0
theorem iterPos_iter (w : World) (s : ByteArray) (p : Nat) : iterPos (w.iter s p) w.heap.size = p := by unfold iterPos; rw [World.iter_heap]
theorem name_step {s : ByteArray} {p : Nat} (hp : p < s.size) (h : nameB (s.data.toList.take p) = true) : nameB (s.data.toList.take (p + 1)) = decide (NameZ ((s[p]).toNat : Int)) := by
  unfold nameB at *
  rw [take_snoc s p hp, List.all_append, h]
  simp
theorem name_bad {s : ByteArray} {p : Nat} (hp : p < s.size) (h : ¬ NameZ ((s[p]).toNat : Int)) : nameB s.data.toList = false := by
  unfold nameB
  rw [List.all_eq_false]
  exact ⟨_, get_mem s p hp, by simpa using h⟩
theorem name_all {s : ByteArray} (h : nameB (s.data.toList.take s.size) = true) : nameB s.data.toList = true := by rw [take_size] at h; exact h
theorem decode_high (s : ByteArray) (p : Nat) (hp : p < s.size) (h : 128 ≤ (s[p]).toNat) : 128 ≤ (Utf8.decode s p).1 := by
  have e : s.get! (p + 0) = s[p]'hp := by
    show s.get! p = _
    simp [ByteArray.get!, getElem!_pos, hp]
    rfl
  unfold Utf8.decode
  simp only [e]
  rw [if_neg (by omega)]
  repeat' split
  all_goals first | omega | (unfold Utf8.runeError; omega) | (simp at *; omega) | (simp only []; omega)
end Od
open Od

set_option maxHeartbeats 1000000 in
theorem name_any (s : ByteArray) (w : World) (hs : s.size ≤ 1000000000000) : Calls Tryd.prog 48 #[.string s] w fun e w' => e = .returned (.bool (nameB s.data.toList)) ∧ Below w.heap.size w w' := by
  go_enter Tryd.func48, Tryd.ntmps48
  go_wp2_with fail
  go_loopw [4] (fun _ wr => ∃ p : Nat, wr = w.iter s p ∧ p ≤ s.size ∧ nameB (s.data.toList.take p) = true) (fun _ wr => s.size - iterPos wr w.heap.size)
  case atStart => exact ⟨0, rfl, by omega, by simp [nameB]⟩
  case round =>
    obtain ⟨p, rfl, hp, HN⟩ := hrel
    by_cases hlt : p < s.size
    · by_cases ha : (s[p]).toNat < 128
      · have hnx := fun ty => run_next_ascii (P := Tryd.prog) w s p ty hlt ha
        have HST := Lib.hid (name_step hlt HN)
        have HBD := Lib.hid (@name_bad s p hlt)
        obtain ⟨z, hz⟩ : ∃ z : Int, ((s[p]).toNat : Int) = z := ⟨_, rfl⟩
        have hz0 : 0 ≤ z ∧ z < 128 := by omega
        rw [hz] at hnx HST HBD
        clear hz ha HN
        by_cases hn : NameZ z
        · rw [decide_eq_true hn] at HST
          clear HBD
          unfold NameZ at hn
          rcases hn with ⟨h1, h2⟩ | ⟨h1, h2⟩ | ⟨h1, h2⟩ | rfl | rfl
          all_goals
            go_wp2_with fail
            go_roundw
            case rel => exact ⟨p + 1, rfl, by omega, HST.out⟩
            case measure => rw [iterPos_iter, iterPos_iter]; omega
        · have HF := Lib.hid (HBD.out hn)
          clear HST HBD
          unfold NameZ at hn
          have hn' : ¬ (65 ≤ z ∧ z ≤ 90) ∧ ¬ (97 ≤ z ∧ z ≤ 122) ∧ ¬ (48 ≤ z ∧ z ≤ 57) ∧ ¬ z = 45 ∧ ¬ z = 95 := by omega
          clear hn
          go_wp2_with fail
          all_goals go_ret
          all_goals exact ⟨by rw [HF.out]; rfl, (Below.refl _ _).alloc (Nat.le_refl _) _⟩
      · have hnx := fun ty => (Lib.run_next_any_at (P := Tryd.prog) (w.iter s p) w.heap.size s p ty (World.iter_heap w s p) hlt).trans (by rw [show (w.iter s p).iterAt w.heap.size s (p + (Utf8.decode s p).2) = w.iter s (p + (Utf8.decode s p).2) from World.iter_set w s p _])
        have hz0 : (128 : Int) ≤ (Utf8.decode s p).1 := by have := decode_high s p hlt (by omega); omega
        have HF := Lib.hid (name_bad hlt (show ¬ NameZ ((s[p]).toNat : Int) by unfold NameZ; omega))
        generalize ((Utf8.decode s p).1 : Int) = z at hz0 hnx
        generalize p + (Utf8.decode s p).2 = q at hnx
        clear ha HN
        go_wp2_with fail
        all_goals go_ret
        all_goals exact ⟨by rw [HF.out]; rfl, (Below.refl _ _).alloc (Nat.le_refl _) _⟩
    · obtain rfl : p = s.size := by omega
      have hnx := fun ty => run_next_end (P := Tryd.prog) w s s.size ty (by omega)
      have HF := Lib.hid (name_all HN)
      clear HN
      go_wp2_with fail
      go_ret
      exact ⟨by rw [HF.out]; rfl, (Below.refl _ _).alloc (Nat.le_refl _) _⟩

end Go.Proofs.YtnfbhocppijbjaaDoor
/- What is wrong with an order: the program's orders.Check. -/
namespace Go.Proofs.YtnfbhocppijbjaaDoor
open Go.RowKit Od

namespace Od
def codeO (id : Int) (r s : List UInt8) (q a : Int) : Int :=
  if id < 1 ∨ 60 < id ∨ q < 1 ∨ 999 < q ∨ a < 1 ∨ 1099511627776 < a ∨ r.length = 0 ∨ s.length = 0 then 2
  else if 16 < r.length ∨ 8 < s.length then 3 else if nameB r = false ∨ nameB s = false then 2 else 0
theorem codeO_ok {id : Int} {r s : List UInt8} {q a : Int} (h : codeO id r s q a = 0) : 1 ≤ id ∧ id ≤ 60 ∧ 1 ≤ q ∧ q ≤ 999 ∧ 1 ≤ a ∧ a ≤ 1099511627776 := by
  unfold codeO at h
  split at h
  · cases h
  · omega
end Od
set_option linter.unusedSimpArgs false in
set_option linter.unusedVariables false in
set_option maxRecDepth 100000 in
set_option maxHeartbeats 8000000 in
theorem ocheck_any (w : World) (id q a : Int) (r s : List UInt8) :
    Calls Tryd.prog 33 #[.agg #[.int .i64 id, .string ⟨r.toArray⟩, .string ⟨s.toArray⟩, .int .i64 q, .int .i64 a]] w fun e w' => e = .returned (.int .i64 (codeO id r s q a)) ∧ Below w.heap.size w w' := by
  have HB := Lib.hid (below_alloc w (.cells #[.int .i64 id, .string ⟨r.toArray⟩, .string ⟨s.toArray⟩, .int .i64 q, .int .i64 a] 24))
  have HM := Lib.hid (heap_new w (.cells #[.int .i64 id, .string ⟨r.toArray⟩, .string ⟨s.toArray⟩, .int .i64 q, .int .i64 a] 24))
  by_cases h0 : id < 1
  · have q0 := decide_eq_true h0
    have HF := Lib.hid (show codeO id r s q a = 2 by unfold codeO; rw [if_pos (by omega)])
    go_enter Tryd.func33, Tryd.ntmps33
    go_wp2_with fail
    generalize w.alloc (.cells #[.int .i64 id, .string ⟨r.toArray⟩, .string ⟨s.toArray⟩, .int .i64 q, .int .i64 a] 24) = wa at HB HM ⊢
    obtain ⟨m0, m1, m2, m3, m4⟩ := cell5 HM.out
    skip
    go_wp2_with fail
    go_ret
    exact ⟨by rw [HF.out]; rfl, HB.out⟩
  · have q0 := decide_eq_false h0
    by_cases h1 : 60 < id
    · have q1 := decide_eq_true h1
      have HF := Lib.hid (show codeO id r s q a = 2 by unfold codeO; rw [if_pos (by omega)])
      go_enter Tryd.func33, Tryd.ntmps33
      go_wp2_with fail
      generalize w.alloc (.cells #[.int .i64 id, .string ⟨r.toArray⟩, .string ⟨s.toArray⟩, .int .i64 q, .int .i64 a] 24) = wa at HB HM ⊢
      obtain ⟨m0, m1, m2, m3, m4⟩ := cell5 HM.out
      skip
      go_wp2_with fail
      go_ret
      exact ⟨by rw [HF.out]; rfl, HB.out⟩
    · have q1 := decide_eq_false h1
      by_cases h2 : q < 1
      · have q2 := decide_eq_true h2
        have HF := Lib.hid (show codeO id r s q a = 2 by unfold codeO; rw [if_pos (by omega)])
        go_enter Tryd.func33, Tryd.ntmps33
        go_wp2_with fail
        generalize w.alloc (.cells #[.int .i64 id, .string ⟨r.toArray⟩, .string ⟨s.toArray⟩, .int .i64 q, .int .i64 a] 24) = wa at HB HM ⊢
        obtain ⟨m0, m1, m2, m3, m4⟩ := cell5 HM.out
        skip
        go_wp2_with fail
        go_ret
        exact ⟨by rw [HF.out]; rfl, HB.out⟩
      · have q2 := decide_eq_false h2
        by_cases h3 : 999 < q
        · have q3 := decide_eq_true h3
          have HF := Lib.hid (show codeO id r s q a = 2 by unfold codeO; rw [if_pos (by omega)])
          go_enter Tryd.func33, Tryd.ntmps33
          go_wp2_with fail
          generalize w.alloc (.cells #[.int .i64 id, .string ⟨r.toArray⟩, .string ⟨s.toArray⟩, .int .i64 q, .int .i64 a] 24) = wa at HB HM ⊢
          obtain ⟨m0, m1, m2, m3, m4⟩ := cell5 HM.out
          skip
          go_wp2_with fail
          go_ret
          exact ⟨by rw [HF.out]; rfl, HB.out⟩
        · have q3 := decide_eq_false h3
          by_cases h4 : a < 1
          · have q4 := decide_eq_true h4
            have HF := Lib.hid (show codeO id r s q a = 2 by unfold codeO; rw [if_pos (by omega)])
            go_enter Tryd.func33, Tryd.ntmps33
            go_wp2_with fail
            generalize w.alloc (.cells #[.int .i64 id, .string ⟨r.toArray⟩, .string ⟨s.toArray⟩, .int .i64 q, .int .i64 a] 24) = wa at HB HM ⊢
            obtain ⟨m0, m1, m2, m3, m4⟩ := cell5 HM.out
            skip
            go_wp2_with fail
            go_ret
            exact ⟨by rw [HF.out]; rfl, HB.out⟩
          · have q4 := decide_eq_false h4
            by_cases h5 : 1099511627776 < a
            · have q5 := decide_eq_true h5
              have HF := Lib.hid (show codeO id r s q a = 2 by unfold codeO; rw [if_pos (by omega)])
              go_enter Tryd.func33, Tryd.ntmps33
              go_wp2_with fail
              generalize w.alloc (.cells #[.int .i64 id, .string ⟨r.toArray⟩, .string ⟨s.toArray⟩, .int .i64 q, .int .i64 a] 24) = wa at HB HM ⊢
              obtain ⟨m0, m1, m2, m3, m4⟩ := cell5 HM.out
              skip
              go_wp2_with fail
              go_ret
              exact ⟨by rw [HF.out]; rfl, HB.out⟩
            · have q5 := decide_eq_false h5
              by_cases h6 : r.length = 0
              · have hr0 := List.eq_nil_of_length_eq_zero h6
                subst hr0
                have HF := Lib.hid (show codeO id [] s q a = 2 by unfold codeO; rw [if_pos (by simp)])
                go_enter Tryd.func33, Tryd.ntmps33
                go_wp2_with fail
                generalize w.alloc (.cells #[.int .i64 id, .string ⟨([] : List UInt8).toArray⟩, .string ⟨(s : List UInt8).toArray⟩, .int .i64 q, .int .i64 a] 24) = wa at HB HM ⊢
                obtain ⟨m0, m1, m2, m3, m4⟩ := cell5 HM.out
                skip
                go_wp2_with fail
                go_ret
                exact ⟨by rw [HF.out]; rfl, HB.out⟩
              · have g6 : r.isEmpty = false := by cases r with | nil => simp at h6 | cons x r => rfl
                by_cases h7 : s.length = 0
                · have hs0 := List.eq_nil_of_length_eq_zero h7
                  subst hs0
                  have HF := Lib.hid (show codeO id r [] q a = 2 by unfold codeO; rw [if_pos (by simp)])
                  go_enter Tryd.func33, Tryd.ntmps33
                  go_wp2_with fail
                  generalize w.alloc (.cells #[.int .i64 id, .string ⟨(r : List UInt8).toArray⟩, .string ⟨([] : List UInt8).toArray⟩, .int .i64 q, .int .i64 a] 24) = wa at HB HM ⊢
                  obtain ⟨m0, m1, m2, m3, m4⟩ := cell5 HM.out
                  skip
                  go_wp2_with fail
                  go_ret
                  exact ⟨by rw [HF.out]; rfl, HB.out⟩
                · have g7 : s.isEmpty = false := by cases s with | nil => simp at h7 | cons x s => rfl
                  by_cases h8 : 16 < r.length
                  · have q8 : (16 : Int) < r.length := by omega
                    have HF := Lib.hid (show codeO id r s q a = 3 by unfold codeO; rw [if_neg (by omega), if_pos (by omega)])
                    go_enter Tryd.func33, Tryd.ntmps33
                    go_wp2_with fail
                    generalize w.alloc (.cells #[.int .i64 id, .string ⟨r.toArray⟩, .string ⟨s.toArray⟩, .int .i64 q, .int .i64 a] 24) = wa at HB HM ⊢
                    obtain ⟨m0, m1, m2, m3, m4⟩ := cell5 HM.out
                    skip
                    go_wp2_with fail
                    go_ret
                    exact ⟨by rw [HF.out]; rfl, HB.out⟩
                  · have q8 : ¬ (16 : Int) < r.length := by omega
                    by_cases h9 : 8 < s.length
                    · have q9 : (8 : Int) < s.length := by omega
                      have HF := Lib.hid (show codeO id r s q a = 3 by unfold codeO; rw [if_neg (by omega), if_pos (by omega)])
                      go_enter Tryd.func33, Tryd.ntmps33
                      go_wp2_with fail
                      generalize w.alloc (.cells #[.int .i64 id, .string ⟨r.toArray⟩, .string ⟨s.toArray⟩, .int .i64 q, .int .i64 a] 24) = wa at HB HM ⊢
                      obtain ⟨m0, m1, m2, m3, m4⟩ := cell5 HM.out
                      skip
                      go_wp2_with fail
                      go_ret
                      exact ⟨by rw [HF.out]; rfl, HB.out⟩
                    · have q9 : ¬ (8 : Int) < s.length := by omega
                      cases hnr : nameB r with
                      | false =>
                        have HF := Lib.hid (show codeO id r s q a = 2 by unfold codeO; rw [if_neg (by omega), if_neg (by omega)]; simp [hnr])
                        go_enter Tryd.func33, Tryd.ntmps33
                        go_wp2_with fail
                        generalize w.alloc (.cells #[.int .i64 id, .string ⟨r.toArray⟩, .string ⟨s.toArray⟩, .int .i64 q, .int .i64 a] 24) = wa at HB HM ⊢
                        obtain ⟨m0, m1, m2, m3, m4⟩ := cell5 HM.out
                        skip
                        go_wp2_with fail
                        refine (name_any ⟨r.toArray⟩ _ (by show r.toArray.size ≤ _; simp; omega)).mono ?_
                        rintro e w1 ⟨rfl, hb⟩
                        rw [show nameB (⟨r.toArray⟩ : ByteArray).data.toList = false from hnr]
                        have HB1 := Lib.hid (bch HB.out hb HB.out.size)
                        have HM1 := Lib.hid (heap_keep HM.out hb)
                        clear hb m0 m1 m2 m3 m4
                        go_wp2_with fail
                        go_ret
                        exact ⟨by rw [HF.out]; rfl, HB1.out⟩
                      | true =>
                        cases hns : nameB s with
                        | false =>
                          have HF := Lib.hid (show codeO id r s q a = 2 by unfold codeO; rw [if_neg (by omega), if_neg (by omega)]; simp [hnr, hns])
                          go_enter Tryd.func33, Tryd.ntmps33
                          go_wp2_with fail
                          generalize w.alloc (.cells #[.int .i64 id, .string ⟨r.toArray⟩, .string ⟨s.toArray⟩, .int .i64 q, .int .i64 a] 24) = wa at HB HM ⊢
                          obtain ⟨m0, m1, m2, m3, m4⟩ := cell5 HM.out
                          skip
                          go_wp2_with fail
                          refine (name_any ⟨r.toArray⟩ _ (by show r.toArray.size ≤ _; simp; omega)).mono ?_
                          rintro e w1 ⟨rfl, hb⟩
                          rw [show nameB (⟨r.toArray⟩ : ByteArray).data.toList = true from hnr]
                          have HB1 := Lib.hid (bch HB.out hb HB.out.size)
                          have HM1 := Lib.hid (heap_keep HM.out hb)
                          clear hb m0 m1 m2 m3 m4
                          have HB0 := Lib.hid HB1.out
                          clear HB1
                          obtain ⟨m0, m1, m2, m3, m4⟩ := cell5 HM1.out
                          go_wp2_with fail
                          refine (name_any ⟨s.toArray⟩ _ (by show s.toArray.size ≤ _; simp; omega)).mono ?_
                          rintro e w1 ⟨rfl, hb⟩
                          rw [show nameB (⟨s.toArray⟩ : ByteArray).data.toList = false from hns]
                          have HB1 := Lib.hid (bch HB0.out hb HB0.out.size)
                          skip
                          clear hb
                          go_wp2_with fail
                          go_ret
                          exact ⟨by rw [HF.out]; rfl, HB1.out⟩
                        | true =>
                          have HF := Lib.hid (show codeO id r s q a = 0 by unfold codeO; rw [if_neg (by omega), if_neg (by omega)]; simp [hnr, hns])
                          go_enter Tryd.func33, Tryd.ntmps33
                          go_wp2_with fail
                          generalize w.alloc (.cells #[.int .i64 id, .string ⟨r.toArray⟩, .string ⟨s.toArray⟩, .int .i64 q, .int .i64 a] 24) = wa at HB HM ⊢
                          obtain ⟨m0, m1, m2, m3, m4⟩ := cell5 HM.out
                          skip
                          go_wp2_with fail
                          refine (name_any ⟨r.toArray⟩ _ (by show r.toArray.size ≤ _; simp; omega)).mono ?_
                          rintro e w1 ⟨rfl, hb⟩
                          rw [show nameB (⟨r.toArray⟩ : ByteArray).data.toList = true from hnr]
                          have HB1 := Lib.hid (bch HB.out hb HB.out.size)
                          have HM1 := Lib.hid (heap_keep HM.out hb)
                          clear hb m0 m1 m2 m3 m4
                          have HB0 := Lib.hid HB1.out
                          clear HB1
                          obtain ⟨m0, m1, m2, m3, m4⟩ := cell5 HM1.out
                          go_wp2_with fail
                          refine (name_any ⟨s.toArray⟩ _ (by show s.toArray.size ≤ _; simp; omega)).mono ?_
                          rintro e w1 ⟨rfl, hb⟩
                          rw [show nameB (⟨s.toArray⟩ : ByteArray).data.toList = true from hns]
                          have HB1 := Lib.hid (bch HB0.out hb HB0.out.size)
                          skip
                          clear hb
                          go_wp2_with fail
                          go_ret
                          exact ⟨by rw [HF.out]; rfl, HB1.out⟩
end Go.Proofs.YtnfbhocppijbjaaDoor
/- What the core's texts need of the laws of match. -/
namespace Go.Proofs.YtnfbhocppijbjaaDoor
open Go.RowKit Go.Maps Key Rw Sa Co

abbrev Ord5 : Type := Int × List UInt8 × List UInt8 × Int × Int
namespace Sa
theorem setI_keeps (s : Sg) (k v : Int) : (setI s k v).id = s.id ∧ (setI s k v).qty = s.qty ∧ (setI s k v).amt = s.amt := by
  unfold setI; repeat' (first | exact ⟨rfl, rfl, rfl⟩ | split)
theorem onI_keeps (s : Sg) : (onI s).id = s.id ∧ (onI s).qty = s.qty ∧ (onI s).amt = s.amt := by
  unfold onI; repeat' (first | exact ⟨rfl, rfl, rfl⟩ | split)
end Sa
abbrev tSagas : TypeId := 38
theorem saga_info : (Tryd.prog.info? tSaga).map (fun i => (i.zero, i.size, i.bytes)) = some (some (.agg #[.int .i64 0, .string ⟨#[]⟩, .string ⟨#[]⟩, .int .i64 0, .int .i64 0, .int .i64 0, .int .i64 0, .int .i64 0, .int .i64 0, .int .i64 0, .int .i64 0, .bool false]), 12, 112) := by kernel_rfl
/-- A box holds this value's cells. -/
def Bx (w : World) (b : Nat) (T : TypeId) (v : Value) : Prop := ∃ arr, v = .agg arr ∧ w.heap[b]? = some (.cells arr T (0, 0))
theorem Bx.get {w : World} {b : Nat} {T : TypeId} {arr : Array Value} (h : Bx w b T (.agg arr)) : w.heap[b]? = some (.cells arr T (0, 0)) := by
  obtain ⟨a, e, h⟩ := h
  injection e with e
  subst e
  exact h
theorem Bx.keep {w w' : World} {b : Nat} {T : TypeId} {v : Value} (h : Bx w b T v) (hb : Below w.heap.size w w') : Bx w' b T v := by
  obtain ⟨a, e, h⟩ := h; exact ⟨a, e, heap_keep h hb⟩
theorem Bx.turned {w w' : World} {b : Nat} {T : TypeId} {v : Value} (h : Bx w b T v) {S : Nat → Prop} (ht : Turned S w w') (hS : ¬ S b) : Bx w' b T v := by
  obtain ⟨a, e, h⟩ := h; exact ⟨a, e, heap_turned h ht hS⟩
/-- A block that has been made of elements reads as them. -/
theorem slk_block {α : Type} {enc : α → List Value} {z : Nat} (hz : ∀ x, (enc x).length = z) (h0 : 0 < z) {w : World} {b : Nat} {arr : Array Value} {T : TypeId} {fr : Nat × Nat} (l : List α) {c : Nat} (h : w.heap[b]? = some (.cells arr T fr)) (ha : arr.toList = l.flatMap enc) (hl : l.length ≤ c) (hc : c ≤ maxLen) :
    SlK w w.heap.size z (fun cs x => cs = enc x) (.slice (some ⟨b, 0, none⟩) l.length c) l := by
  refine ⟨_, _, _, rfl, rfl, hl, hc, fun i x hi => ⟨b, 0, enc x, rfl, heap_lt h, hz x, fun j u hj => ?_, rfl⟩⟩
  have hjz : j < z := by have := (List.getElem?_eq_some_iff.1 hj).1; rwa [hz] at this
  refine cell_at h _ ?_
  rw [← Array.getElem?_toList, ha, flat_get hz h0, Nat.zero_add, Nat.mul_comm, Nat.mul_add_div h0, Nat.div_eq_of_lt hjz, Nat.add_zero, Nat.mul_add_mod, Nat.mod_eq_of_lt hjz, hi]
  exact hj
theorem rd_block {w : World} {b : Nat} {arr : Array Value} {T : TypeId} {fr : Nat × Nat} (l : List R5) {c : Nat} (h : w.heap[b]? = some (.cells arr T fr)) (ha : arr.toList = l.flatMap encR) (hl : l.length ≤ c) (hc : c ≤ maxLen) : Rd w (.slice (some ⟨b, 0, none⟩) l.length c) l :=
  ⟨slk_block encR_len (by decide) l h ha hl hc, fun n c e => by injection e with e; cases e⟩
end Go.Proofs.YtnfbhocppijbjaaDoor
/- A core takes an order. -/
namespace Go.Proofs.YtnfbhocppijbjaaDoor
open Go.RowKit Go.Maps Co Key Rw Sa Od

namespace Co
def hasB (l : List Sg) (r : List UInt8) : Bool := l.any fun s => decide (s.ref = r)
def placeE (c : Cor) (o : Ord5) : Int :=
  if codeO o.1 o.2.1 o.2.2.1 o.2.2.2.1 o.2.2.2.2 ≠ 0 then codeO o.1 o.2.1 o.2.2.1 o.2.2.2.1 o.2.2.2.2
  else if hasB c.l o.2.1 = true then 91 else if 60 ≤ c.l.length then 60 else if o.1 ≠ (c.l.length : Int) + 1 then 2 else 0
def placeC (c : Cor) (o : Ord5) : Cor := if placeE c o = 0 then { c with l := c.l ++ [beginI o.1 o.2.1 o.2.2.1 o.2.2.2.1 o.2.2.2.2] } else c
theorem has_succ {l : List Sg} {k : Nat} {s : Sg} (h : l[k]? = some s) (r : List UInt8) : hasB (l.take (k + 1)) r = (hasB (l.take k) r || decide (s.ref = r)) := by
  unfold hasB; rw [List.take_add_one, h, List.any_append]; simp
theorem has_hit {l : List Sg} {k : Nat} {s : Sg} (h : l[k]? = some s) {r : List UInt8} (hr : s.ref = r) : hasB l r = true := List.any_eq_true.2 ⟨s, List.mem_of_getElem? h, by simpa using hr⟩
end Co
theorem cw_set0 {w : World} {b : Nat} {v p q : Value} {arr : Array Value} {T : TypeId} (h : w.heap[b]? = some (.cells (#[v, p] ++ arr) T (0, 0))) : (w.setCell ⟨b, 0, none⟩ q).heap[b]? = some (.cells (#[q, p] ++ arr) T (0, 0)) := by
  simp [World.setCell, Array.getElem?_modify, h]
theorem str_eqT {a b : List UInt8} (h : a = b) : (a == b) = true := by simp [h]
theorem str_eqF {a b : List UInt8} (h : ¬ a = b) : (a == b) = false := by simpa using h
set_option linter.unusedSimpArgs false in
set_option linter.unusedVariables false in
set_option maxRecDepth 100000 in
set_option maxHeartbeats 8000000 in
theorem chas_any {B : Nat} {w : World} {cb bb pm bm : Nat} {vl vb vI : Value} {c : Cor} (h : Cw B w cb bb pm bm vl vb vI c) (r : List UInt8) (hl : c.l.length ≤ 100000) :
    Calls Tryd.prog 18 #[.pointer (some ⟨cb, 0, none⟩), .string ⟨r.toArray⟩] w fun e w' => e = .returned (.bool (hasB c.l r)) ∧ Below w.heap.size w w' := by
  obtain ⟨A, cl, rfl, _⟩ := own_slice h.ol
  have HC := Lib.hid h
  clear h
  obtain ⟨c0, c1⟩ := HC.out.c01
  go_enter Tryd.func18, Tryd.ntmps18
  go_wp2_with fail
  go_loopw [12] (fun i wr => ∃ k : Nat, i = .int .i64 k ∧ k ≤ c.l.length ∧ Hid (hasB (c.l.take k) r = false) ∧ Hid (Below w.heap.size w wr)) (fun i _ => c.l.length - (intOf i).toNat)
  case atStart => exact ⟨0, rfl, Nat.zero_le _, rfl, Below.refl _ _⟩
  case round =>
    obtain ⟨k, rfl, hk, HN, HBr⟩ := hrel
    by_cases hkl : k < c.l.length
    · obtain ⟨s, hs⟩ : ∃ s, c.l[k]? = some s := ⟨_, List.getElem?_eq_getElem hkl⟩
      obtain ⟨g, off, n', c', e, d0, d1, d2, d3, d4, d5, d6, d7, d8, d9, d10, d11⟩ := (sgs_own HC.out.ol).cells HBr.out hs
      injection e with e1 e2 e3; subst e1; clear e2 e3
      have hlt : (k : Int) < c.l.length := by omega
      have hk0 : (0 : Int) ≤ k := by omega
      have HSK := Lib.hid hs
      clear hs
      go_upto_region 4 with (fail)
      obtain ⟨w1, hw1⟩ : ∃ w1, w1 = wr.alloc (.cells (sgA s) tSaga) := ⟨_, rfl⟩
      rw [← hw1]
      have HB1 := Lib.hid (show Below w.heap.size w w1 by rw [hw1]; exact HBr.out.alloc HBr.out.size _)
      have hx1 : w1.heap[wr.heap.size]? = some (.cells (sgA s) tSaga (0, 0)) := by rw [hw1]; exact heap_new _ _
      obtain ⟨m0, m1, m2, m3, m4, m5, m6, m7, m8, m9, m10, m11⟩ := sg_box hx1
      clear hw1 hx1 d0 d1 d2 d3 d4 d5 d6 d7 d8 d9 d10 d11
      by_cases he : s.ref = r
      · have HF := Lib.hid (has_hit HSK.out he)
        have hq := str_eqT he
        clear he
        go_wp2_with fail
        go_ret
        exact ⟨by rw [HF.out]; rfl, HB1.out⟩
      · have HF := Lib.hid (show hasB (c.l.take (k + 1)) r = false by rw [has_succ HSK.out, HN.out]; simpa using he)
        have hq := str_eqF he
        clear he
        go_wp2_with fail
        go_roundw
        case rel => exact ⟨k + 1, by go_num, by omega, HF.out, HB1.out⟩
        case measure => simp [intOf]; omega
    · obtain rfl : k = c.l.length := by omega
      have HF := Lib.hid (show hasB c.l r = false by have := HN.out; rwa [List.take_length] at this)
      go_wp2_with fail
      go_ret
      exact ⟨by rw [HF.out]; rfl, HBr.out⟩
set_option linter.unusedSimpArgs false in
set_option linter.unusedVariables false in
set_option maxRecDepth 100000 in
set_option maxHeartbeats 8000000 in
theorem cplace_any {B : Nat} {w : World} {cb bb pm bm : Nat} {vl vb vI : Value} {c : Cor} (h : Cw B w cb bb pm bm vl vb vI c) (o : Ord5) (hl : c.l.length ≤ 100000) :
    Calls Tryd.prog 26 #[.pointer (some ⟨cb, 0, none⟩), .agg #[.int .i64 o.1, .string ⟨o.2.1.toArray⟩, .string ⟨o.2.2.1.toArray⟩, .int .i64 o.2.2.2.1, .int .i64 o.2.2.2.2]] w fun e w' => ∃ vl', e = .returned (.int .i64 (placeE c o)) ∧ Cw B w' cb bb pm bm vl' vb vI (placeC c o) ∧ Turned (Cs cb bb pm bm vl vb) w w' ∧ ∀ j, vl'.ownBlock = some j → vl.ownBlock = some j ∨ w.heap.size ≤ j := by
  obtain ⟨i0, hi, hz0, hz1, hz2⟩ := info_parts saga_info
  obtain ⟨A, cl, rfl, _⟩ := own_slice h.ol
  have HC0 := Lib.hid h
  obtain ⟨wa, hA⟩ : ∃ wa, wa = w.alloc (.cells #[.int .i64 o.1, .string ⟨o.2.1.toArray⟩, .string ⟨o.2.2.1.toArray⟩, .int .i64 o.2.2.2.1, .int .i64 o.2.2.2.2] tOrder) := ⟨_, rfl⟩
  have hB : Below w.heap.size w wa := by rw [hA]; exact below_alloc _ _
  have hX : wa.heap[w.heap.size]? = some (.cells #[.int .i64 o.1, .string ⟨o.2.1.toArray⟩, .string ⟨o.2.2.1.toArray⟩, .int .i64 o.2.2.2.1, .int .i64 o.2.2.2.2] tOrder (0, 0)) := by rw [hA]; exact heap_new _ _
  have HC := Lib.hid (h.below hB)
  have HA := Lib.hid hA; have HB := Lib.hid hB; have HX := Lib.hid hX
  clear hA hB hX h
  obtain ⟨m0, m1, m2, m3, m4⟩ := cell5 HX.out
  go_enter Tryd.func26, Tryd.ntmps26
  go_upto_region 1 with (fail)
  rw [← HA.out]
  go_wp2_with fail
  refine (ocheck_any wa o.1 o.2.2.2.1 o.2.2.2.2 o.2.1 o.2.2.1).mono ?_
  rintro e w1 ⟨rfl, hb⟩
  have HX1 := Lib.hid (heap_keep HX.out hb); have HB1 := Lib.hid (bch HB.out hb HB.out.size); have HC1 := Lib.hid (HC.out.below hb)
  clear hb m0 m1 m2 m3 m4 HX HB HC HA
  obtain ⟨m0, m1, m2, m3, m4⟩ := cell5 HX1.out
  by_cases he : codeO o.1 o.2.1 o.2.2.1 o.2.2.2.1 o.2.2.2.2 = 0
  · have hn := bneF he
    go_wp2_with fail
    refine (chas_any HC1.out o.2.1 hl).mono ?_
    rintro e w2 ⟨rfl, hb⟩
    have HX2 := Lib.hid (heap_keep HX1.out hb); have HB2 := Lib.hid (bch HB1.out hb HB1.out.size); have HC2 := Lib.hid (HC1.out.below hb)
    clear hb m0 m1 m2 m3 m4 HX1 HB1 HC1
    obtain ⟨m0, m1, m2, m3, m4⟩ := cell5 HX2.out
    obtain ⟨c0, c1⟩ := HC2.out.c01
    have hE0 : ¬ (codeO o.1 o.2.1 o.2.2.1 o.2.2.2.1 o.2.2.2.2 ≠ 0) := by omega
    cases hh : hasB c.l o.2.1 with
    | true =>
      have HE := Lib.hid (show placeE c o = 91 by unfold placeE; rw [if_neg hE0, if_pos hh])
      have HCC := Lib.hid (show placeC c o = c by unfold placeC; rw [if_neg (by rw [HE.out]; decide)])
      go_wp2_with fail
      go_ret
      exact ⟨_, by rw [HE.out]; rfl, by rw [HCC.out]; exact HC2.out, Turned.of_below HB2.out, fun j h => .inl h⟩
    | false =>
      by_cases hf : 60 ≤ c.l.length
      · have hf' : (60 : Int) ≤ c.l.length := by omega
        have HE := Lib.hid (show placeE c o = 60 by unfold placeE; rw [if_neg hE0, hh, if_neg (by decide), if_pos hf])
        have HCC := Lib.hid (show placeC c o = c by unfold placeC; rw [if_neg (by rw [HE.out]; decide)])
        go_wp2_with fail
        go_ret
        exact ⟨_, by rw [HE.out]; rfl, by rw [HCC.out]; exact HC2.out, Turned.of_below HB2.out, fun j h => .inl h⟩
      · have hf' : ¬ (60 : Int) ≤ c.l.length := by omega
        have hw1 : IntKind.i64.wrap ((c.l.length : Int) + 1) = (c.l.length : Int) + 1 := IntWalk.i64_in _ (by omega)
        by_cases hid : o.1 = (c.l.length : Int) + 1
        · have hi1 := bneF hid
          have HE := Lib.hid (show placeE c o = 0 by unfold placeE; rw [if_neg hE0, hh, if_neg (by decide), if_neg hf, if_neg (by omega)])
          have HCC := Lib.hid (show placeC c o = { c with l := c.l ++ [beginI o.1 o.2.1 o.2.2.1 o.2.2.2.1 o.2.2.2.2] } by unfold placeC; rw [if_pos HE.out])
          clear hid
          go_wp2_with fail
          go_quiet (fail)
          go_wp2_with fail
          obtain ⟨w3, hw3⟩ : ∃ w3, w3 = w2.drewN nq := ⟨_, rfl⟩
          rw [← hw3]
          have hb3 : Below w2.heap.size w2 w3 := by rw [hw3]; exact below_drewN (Below.refl _ w2) nq
          have HX3 := Lib.hid (heap_keep HX2.out hb3); have HB3 := Lib.hid (bch HB2.out hb3 HB2.out.size); have HC3 := Lib.hid (HC2.out.below hb3)
          clear hw3 hb3 m0 m1 m2 m3 m4 c0 c1 HX2 HB2 HC2
          have hs3 : w.heap.size ≤ w3.heap.size := HB3.out.size
          have hxo : ¬ Value.ownBlock (.slice A c.l.length cl) = some w.heap.size := fun e => by have := (HC0.out.ol.lt _ e).2; omega
          have hbo : ¬ Value.ownBlock (.slice A c.l.length cl) = some cb := fun e => (HC0.out.nl _ e).1 rfl
          have HH := Lib.hid (fun W (hb : Turned (fun j => Value.ownBlock (.slice A c.l.length cl) = some j) w3 W) => (⟨Lib.hid hb, cell_at (heap_turned HC3.out.hc hb hbo) 0 (by simp [Array.getElem?_append]), cell_at (heap_turned HX3.out hb hxo) 0 rfl, cell_at (heap_turned HX3.out hb hxo) 1 rfl, cell_at (heap_turned HX3.out hb hxo) 2 rfl, cell_at (heap_turned HX3.out hb hxo) 3 rfl, cell_at (heap_turned HX3.out hb hxo) 4 rfl⟩ : (fun w' => Hid (Turned (fun j => Value.ownBlock (.slice A c.l.length cl) = some j) w3 w') ∧ w'.cell? ⟨cb, 0, none⟩ = some (.slice A c.l.length cl) ∧ w'.cell? ⟨w.heap.size, 0, none⟩ = some (.int .i64 o.1) ∧ w'.cell? ⟨w.heap.size, 1, none⟩ = some (.string ⟨o.2.1.toArray⟩) ∧ w'.cell? ⟨w.heap.size, 2, none⟩ = some (.string ⟨o.2.2.1.toArray⟩) ∧ w'.cell? ⟨w.heap.size, 3, none⟩ = some (.int .i64 o.2.2.2.1) ∧ w'.cell? ⟨w.heap.size, 4, none⟩ = some (.int .i64 o.2.2.2.2)) W))
          refine wp_region_noPanic ?_
          refine wp_region_till 11 (fun _ => True) (fun w' => Hid (Turned (fun j => Value.ownBlock (.slice A c.l.length cl) = some j) w3 w') ∧ w'.cell? ⟨cb, 0, none⟩ = some (.slice A c.l.length cl) ∧ w'.cell? ⟨w.heap.size, 0, none⟩ = some (.int .i64 o.1) ∧ w'.cell? ⟨w.heap.size, 1, none⟩ = some (.string ⟨o.2.1.toArray⟩) ∧ w'.cell? ⟨w.heap.size, 2, none⟩ = some (.string ⟨o.2.2.1.toArray⟩) ∧ w'.cell? ⟨w.heap.size, 3, none⟩ = some (.int .i64 o.2.2.2.1) ∧ w'.cell? ⟨w.heap.size, 4, none⟩ = some (.int .i64 o.2.2.2.2)) (by kernel_rfl) (HH.out _ ((Turned.refl _ w3).drew)) (fun hHeld => ?_)
          refine wpAnyT_go (i := 0) (v := ?vt0_1) rfl (by kernel_rfl) (by kernel_rfl) (by kernel_rfl) (fun _ _ _ h => h) (by kernel_rfl) (Or.inl ⟨by rfl, ?hyt0_1⟩) (by assumption) ?restt0_1
          case hyt0_1 => (intro w0 hSw; (try dsimp only at hSw); go_simp; try with_reducible rfl)
          case' restt0_1 => try simp only [Act.put, List.getElem_toArray, List.getElem_cons_zero, List.getElem_cons_succ, List.setIfInBounds_toArray, List.set_cons_zero, List.set_cons_succ]
          refine wpAnyT_go (i := 1) (v := ?vt1_2) rfl (by kernel_rfl) (by kernel_rfl) (by kernel_rfl) (fun _ _ _ h => h) (by kernel_rfl) (Or.inl ⟨by rfl, ?hyt1_2⟩) (by assumption) ?restt1_2
          case hyt1_2 => (intro w0 hSw; (try dsimp only at hSw); go_simp; try with_reducible rfl)
          case' restt1_2 => try simp only [Act.put, List.getElem_toArray, List.getElem_cons_zero, List.getElem_cons_succ, List.setIfInBounds_toArray, List.set_cons_zero, List.set_cons_succ]
          refine wpAnyT_go (i := 2) (v := ?vt2_3) rfl (by kernel_rfl) (by kernel_rfl) (by kernel_rfl) (fun _ _ _ h => h) (by kernel_rfl) (Or.inl ⟨by rfl, ?hyt2_3⟩) (by assumption) ?restt2_3
          case hyt2_3 => (intro w0 hSw; (try dsimp only at hSw); go_simp; try with_reducible rfl)
          case' restt2_3 => try simp only [Act.put, List.getElem_toArray, List.getElem_cons_zero, List.getElem_cons_succ, List.setIfInBounds_toArray, List.set_cons_zero, List.set_cons_succ]
          refine wpAnyT_go (i := 3) (v := ?vt3_4) rfl (by kernel_rfl) (by kernel_rfl) (by kernel_rfl) (fun _ _ _ h => h) (by kernel_rfl) (Or.inl ⟨by rfl, ?hyt3_4⟩) (by assumption) ?restt3_4
          case hyt3_4 => (intro w0 hSw; (try dsimp only at hSw); go_simp; try with_reducible rfl)
          case' restt3_4 => try simp only [Act.put, List.getElem_toArray, List.getElem_cons_zero, List.getElem_cons_succ, List.setIfInBounds_toArray, List.set_cons_zero, List.set_cons_succ]
          refine wpAnyT_go (i := 4) (v := ?vt4_5) rfl (by kernel_rfl) (by kernel_rfl) (by kernel_rfl) (fun _ _ _ h => h) (by kernel_rfl) (Or.inl ⟨by rfl, ?hyt4_5⟩) (by assumption) ?restt4_5
          case hyt4_5 => (intro w0 hSw; (try dsimp only at hSw); go_simp; try with_reducible rfl)
          case' restt4_5 => try simp only [Act.put, List.getElem_toArray, List.getElem_cons_zero, List.getElem_cons_succ, List.setIfInBounds_toArray, List.set_cons_zero, List.set_cons_succ]
          refine wpAnyT_go (i := 5) (v := ?vt5_6) rfl (by kernel_rfl) (by kernel_rfl) (by kernel_rfl) (fun _ _ _ h => h) (by kernel_rfl) (Or.inl ⟨by rfl, ?hyt5_6⟩) (by assumption) ?restt5_6
          case hyt5_6 => (intro w0 hSw; (try dsimp only at hSw); go_simp; try with_reducible rfl)
          case' restt5_6 => try simp only [Act.put, List.getElem_toArray, List.getElem_cons_zero, List.getElem_cons_succ, List.setIfInBounds_toArray, List.set_cons_zero, List.set_cons_succ]
          refine wpAnyT_ready (rs := [6]) (by kernel_rfl) (by simp) ?_
          refine AllReadyT.cons rfl (by kernel_rfl) (fun K hK => ?_) AllReadyT.nil
          go_simp
          refine (begin_any o.1 o.2.1 o.2.2.1 o.2.2.2.1 o.2.2.2.2 _).mono ?_
          rintro e w4 ⟨rfl, hb4⟩
          have ht4 : Turned (fun j => Value.ownBlock (.slice A c.l.length cl) = some j) w3 w4 := (Turned.refl _ w3).drew.trans (Turned.of_below hb4)
          refine hK.out _ _ (HH.out _ (ht4)) (fun hHeld => ?_)
          clear hK K
          try simp only [Act.put, List.getElem_toArray, List.getElem_cons_zero, List.getElem_cons_succ, List.setIfInBounds_toArray, List.set_cons_zero, List.set_cons_succ]
          refine wpAnyT_ready (rs := [7]) (by kernel_rfl) (by simp) ?_
          refine AllReadyT.cons rfl (by kernel_rfl) (fun K hK => ?_) AllReadyT.nil
          go_simp
          refine hK.out _ _ (HH.out _ (ht4.trans (Turned.of_below (below_alloc _ _)))) (fun hHeld => ?_)
          clear hK K
          try simp only [Act.put, List.getElem_toArray, List.getElem_cons_zero, List.getElem_cons_succ, List.setIfInBounds_toArray, List.set_cons_zero, List.set_cons_succ]
          refine wpAnyT_ready (rs := [8]) (by kernel_rfl) (by simp) ?_
          refine AllReadyT.cons rfl (by kernel_rfl) (fun K hK => ?_) AllReadyT.nil
          refine step_append_any _ rfl (.tmp 38) (.tmp 41) tSagas rfl B tSaga i0 (.agg #[.int .i64 0, .string ⟨#[]⟩, .string ⟨#[]⟩, .int .i64 0, .int .i64 0, .int .i64 0, .int .i64 0, .int .i64 0, .int .i64 0, .int .i64 0, .int .i64 0, .bool false]) 12 112 Tryd.underlying38 hi hz0 hz1 hz2 rfl (by decide) (.slice A c.l.length cl) c.l.length (c.l.flatMap encS) rfl (World.ownsRow.alloc (own_keep (w := w3.drew) (own_turned HC3.out.ol (Turned.refl (fun _ => False) w3).drew (fun _ _ h => h)) hb4) _) 1 (encS (beginI o.1 o.2.1 o.2.2.1 o.2.2.2.1 o.2.2.2.2)) (src_blk (xs := encS (beginI o.1 o.2.1 o.2.2.1 o.2.2.2.1 o.2.2.2.2)) (heap_new _ _) (encS_one _)) (by unfold maxLen; omega) (by omega) (by have := HC0.out.ge; have := heap_lt HC0.out.hc; have := ht4.size; simp; omega) ?_
          intro v6 w6 ho6 hg6 hat6
          have ht6 : Turned (fun j => Value.ownBlock (.slice A c.l.length cl) = some j) w3 w6 := (ht4.trans (Turned.of_below (below_alloc _ _))).trans (Turned.of_grown hg6 (fun j h => h))
          obtain ⟨A6, c6, rfl, _⟩ := own_slice ho6
          refine hK.out _ _ (HH.out _ (ht6)) (fun hHeld => ?_)
          clear hK K
          try simp only [Act.put, List.getElem_toArray, List.getElem_cons_zero, List.getElem_cons_succ, List.setIfInBounds_toArray, List.set_cons_zero, List.set_cons_succ]
          refine wpAnyT_go (i := 9) (v := ?vt9_7) rfl (by kernel_rfl) (by kernel_rfl) (by kernel_rfl) (fun _ _ _ h => h) (by kernel_rfl) (Or.inl ⟨by rfl, ?hyt9_7⟩) (by assumption) ?restt9_7
          case hyt9_7 => (intro w0 hSw; (try dsimp only at hSw); go_simp; try with_reducible rfl)
          case' restt9_7 => try simp only [Act.put, List.getElem_toArray, List.getElem_cons_zero, List.getElem_cons_succ, List.setIfInBounds_toArray, List.set_cons_zero, List.set_cons_succ]
          refine wpAnyT_go (i := 10) (v := ?vt10_8) rfl (by kernel_rfl) (by kernel_rfl) (by kernel_rfl) (fun _ _ _ h => h) (by kernel_rfl) (Or.inl ⟨by rfl, ?hyt10_8⟩) (by assumption) ?restt10_8
          case hyt10_8 => (intro w0 hSw; (try dsimp only at hSw); go_simp; try with_reducible rfl)
          case' restt10_8 => try simp only [Act.put, List.getElem_toArray, List.getElem_cons_zero, List.getElem_cons_succ, List.setIfInBounds_toArray, List.set_cons_zero, List.set_cons_succ]
          have HD6 := Lib.hid (heap_turned HC3.out.hc ht6 hbo)
          have y0 : w6.cell? ⟨cb, 0, none⟩ = some (.slice A c.l.length cl) := cell_at HD6.out 0 (by simp [Array.getElem?_append])
          have f0 := frozen_at HD6.out 0
          refine wpAnyT_ready (rs := [11]) (by kernel_rfl) (by simp) ?_
          refine AllReadyT.last rfl (by kernel_rfl) (fun K hK => ?_) AllReadyT.nil
          go_simp
          refine hK.out _ _ trivial (fun hHeld => ?_)
          clear hK K
          try simp only [Act.put, List.getElem_toArray, List.getElem_cons_zero, List.getElem_cons_succ, List.setIfInBounds_toArray, List.set_cons_zero, List.set_cons_succ]
          refine wpAnyT_done (by kernel_rfl) ?_ _
          refine NoPanic.normal ?_
          have ht7 := turned_set w6 cb 0 (.slice A6 (c.l.length + 1) c6)
          have hsz4 := ht4.size
          have hfar6 : ∀ j, Value.ownBlock (.slice A6 (c.l.length + 1) c6) = some j → Value.ownBlock (.slice A c.l.length cl) = some j ∨ w.heap.size ≤ j := fun j hj => by rcases hat6 with h | h; (exact .inl (by rw [← h]; exact hj)); (right; rw [hj] at h; injection h with h; simp at h; omega)
          have hTT : Turned (fun j => j = cb ∨ Value.ownBlock (.slice A c.l.length cl) = some j) w3 (w6.setCell ⟨cb, 0, none⟩ (.slice A6 (c.l.length + 1) c6)) := (ht6.mono (fun i h => .inr h)).trans (ht7.mono (fun i h => .inl h))
          have HNEW := Lib.hid (show Cw B (w6.setCell ⟨cb, 0, none⟩ (.slice A6 (c.l.length + 1) c6)) cb bb pm bm (.slice A6 (c.l.length + 1) c6) vb vI { c with l := c.l ++ [(beginI o.1 o.2.1 o.2.2.1 o.2.2.2.1 o.2.2.2.2)] } from {
            hc := cw_set0 HD6.out
            ol := own_turned (by show w6.ownsRow B tSaga 12 (.slice A6 (c.l.length + 1) c6) (c.l ++ [(beginI o.1 o.2.1 o.2.2.1 o.2.2.2.1 o.2.2.2.2)]).length ((c.l ++ [(beginI o.1 o.2.1 o.2.2.1 o.2.2.2.1 o.2.2.2.2)]).flatMap encS); rw [List.length_append, List.flatMap_append]; simpa using ho6) ht7 (fun j hj hs => by rcases hfar6 j hj with h | h; (exact (HC0.out.nl j h).1 hs); (have := heap_lt HC0.out.hc; omega))
            bk := HC3.out.bk.kept hTT (fun j hj hs => by rcases hs with rfl | hs; (rcases hj with h | h | h | h; exact HC0.out.nc.1 h; exact HC0.out.nc.2.1 h; exact HC0.out.nc.2.2.1 h; exact HC0.out.nc.2.2.2 h); exact (HC0.out.nl j hs).2 hj)
            ii := HC3.out.ii.turned hTT (fun j hs => by rcases hs with rfl | hs; exact HC3.out.av _ (.inl rfl); exact HC3.out.av _ (.inr (.inr hs)))
            fi := HC3.out.fi
            av := fun j hj => by rcases hj with rfl | hj | hj; exact HC0.out.av _ (.inl rfl); exact HC0.out.av _ (.inr (.inl hj)); (rcases hfar6 j hj with h | h; exact HC0.out.av _ (.inr (.inr h)); exact Av.far HC0.out.ii h)
            ge := HC0.out.ge
            nc := HC0.out.nc
            nl := fun j hj => by rcases hfar6 j hj with h | h; exact HC0.out.nl j h; exact ⟨by have := heap_lt HC0.out.hc; omega, fun hs => by have := (HC0.out.bk.ls hs).2; omega⟩ })
          have HTN := Lib.hid ((Turned.of_below HB3.out).trans (hTT.mono (fun i h => (h.elim (fun h => .inl h) (fun h => .inr (.inr h)) : Cs cb bb pm bm (.slice A c.l.length cl) vb i))))
          have HFR := Lib.hid hfar6
          clear hHeld HH ht6 ht7 ho6 hg6 hat6 y0 f0 hfar6 hTT ht4 hb4
          go_wp2_with fail
          go_ret
          exact ⟨_, by rw [HE.out]; rfl, by rw [HCC.out]; exact HNEW.out, HTN.out, HFR.out⟩
        · have hi1 := bneT hid
          have HE := Lib.hid (show placeE c o = 2 by unfold placeE; rw [if_neg hE0, hh, if_neg (by decide), if_neg hf, if_pos hid])
          have HCC := Lib.hid (show placeC c o = c by unfold placeC; rw [if_neg (by rw [HE.out]; decide)])
          go_wp2_with fail
          go_quiet (fail)
          go_wp2_with fail
          go_ret
          exact ⟨_, by rw [HE.out]; rfl, by rw [HCC.out]; exact HC2.out.below (below_drewN (Below.refl _ w2) nq), Turned.of_below (below_drewN HB2.out nq), fun j h => .inl h⟩
  · have hn := bneT he
    have HE := Lib.hid (show placeE c o = codeO o.1 o.2.1 o.2.2.1 o.2.2.2.1 o.2.2.2.2 by unfold placeE; rw [if_pos he])
    have HCC := Lib.hid (show placeC c o = c by unfold placeC; rw [if_neg (by rw [HE.out]; exact he)])
    generalize codeO o.1 o.2.1 o.2.2.1 o.2.2.2.1 o.2.2.2.2 = ee at hn HE ⊢
    clear he
    go_wp2_with fail
    go_ret
    exact ⟨_, by rw [HE.out]; rfl, by rw [HCC.out]; exact HC1.out, Turned.of_below HB1.out, fun j h => .inl h⟩
end Go.Proofs.YtnfbhocppijbjaaDoor
/- A core's saga is put in another one's place. -/
namespace Go.Proofs.YtnfbhocppijbjaaDoor
open Go.RowKit Go.Maps Co Key Rw Sa Od

theorem set_mid {A M : List Value} {n i : Nat} (h : A.length = n) (v : Value) : (A ++ M).set (n + i) v = A ++ M.set i v := by
  rw [List.set_append_right _ _ (by omega), h, Nat.add_sub_cancel_left]
theorem set_flat {l : List Sg} {k : Nat} (hk : k < l.length) (s : Sg) :
    (((((((((((((l.flatMap encS).set (k * 12 + 0) (.int .i64 s.id)).set (k * 12 + 1) (.string ⟨s.ref.toArray⟩)).set (k * 12 + 2) (.string ⟨s.sku.toArray⟩)).set (k * 12 + 3) (.int .i64 s.qty)).set (k * 12 + 4) (.int .i64 s.amt)).set (k * 12 + 5) (.int .i64 s.d0)).set (k * 12 + 6) (.int .i64 s.d1)).set (k * 12 + 7) (.int .i64 s.d2)).set (k * 12 + 8) (.int .i64 s.d3)).set (k * 12 + 9) (.int .i64 s.d4)).set (k * 12 + 10) (.int .i64 s.d5)).set (k * 12 + 11) (.bool s.can)) = (l.set k s).flatMap encS := by
  have hA : ((l.take k).flatMap encS).length = k * 12 := by
    have : ∀ m : List Sg, (m.flatMap encS).length = m.length * 12 := fun m => by
      induction m with
      | nil => rfl
      | cons x m ih => rw [List.flatMap_cons, List.length_append, ih, encS_len, List.length_cons]; omega
    rw [this, List.length_take, Nat.min_eq_left (by omega)]
  have e1 : l.flatMap encS = (l.take k).flatMap encS ++ (encS l[k] ++ (l.drop (k + 1)).flatMap encS) := by
    conv => lhs; rw [← List.take_append_drop k l, List.drop_eq_getElem_cons hk]
    rw [List.flatMap_append, List.flatMap_cons]
  have e2 : (l.set k s).flatMap encS = (l.take k).flatMap encS ++ (encS s ++ (l.drop (k + 1)).flatMap encS) := by
    rw [List.set_eq_take_append_cons_drop, if_pos hk, List.flatMap_append, List.flatMap_cons]
  rw [e1, e2]
  generalize (l.take k).flatMap encS = A at hA ⊢
  generalize (l.drop (k + 1)).flatMap encS = C
  simp only [set_mid hA]
  rfl
/-- The twelve cells of an element. -/
abbrev set12k (w : World) (g k : Nat) (s : Sg) : World := (((((((((((w.setCell ⟨g, k * 12 + 0, none⟩ (.int .i64 s.id)).setCell ⟨g, k * 12 + 1, none⟩ (.string ⟨s.ref.toArray⟩)).setCell ⟨g, k * 12 + 2, none⟩ (.string ⟨s.sku.toArray⟩)).setCell ⟨g, k * 12 + 3, none⟩ (.int .i64 s.qty)).setCell ⟨g, k * 12 + 4, none⟩ (.int .i64 s.amt)).setCell ⟨g, k * 12 + 5, none⟩ (.int .i64 s.d0)).setCell ⟨g, k * 12 + 6, none⟩ (.int .i64 s.d1)).setCell ⟨g, k * 12 + 7, none⟩ (.int .i64 s.d2)).setCell ⟨g, k * 12 + 8, none⟩ (.int .i64 s.d3)).setCell ⟨g, k * 12 + 9, none⟩ (.int .i64 s.d4)).setCell ⟨g, k * 12 + 10, none⟩ (.int .i64 s.d5)).setCell ⟨g, k * 12 + 11, none⟩ (.bool s.can)
theorem turned_set12k (w : World) (g k : Nat) (s : Sg) : Turned (fun j => j = g) w (set12k w g k s) :=
  (((((((((((turned_set w g _ _).trans (turned_set _ g _ _)).trans (turned_set _ g _ _)).trans (turned_set _ g _ _)).trans (turned_set _ g _ _)).trans (turned_set _ g _ _)).trans (turned_set _ g _ _)).trans (turned_set _ g _ _)).trans (turned_set _ g _ _)).trans (turned_set _ g _ _)).trans (turned_set _ g _ _)).trans (turned_set _ g _ _)
theorem own_set12 {w : World} {B g cl : Nat} {l : List Sg} (h : w.ownsRow B tSaga 12 (.slice (some ⟨g, 0, none⟩) l.length cl) l.length (l.flatMap encS)) {k : Nat} (hk : k < l.length) (s : Sg) : (set12k w g k s).ownsRow B tSaga 12 (.slice (some ⟨g, 0, none⟩) l.length cl) l.length ((l.set k s).flatMap encS) := by
  rw [← set_flat hk s]
  exact ((((((((((((h.stored (k * 12 + 0) _).1.stored (k * 12 + 1) _).1.stored (k * 12 + 2) _).1.stored (k * 12 + 3) _).1.stored (k * 12 + 4) _).1.stored (k * 12 + 5) _).1.stored (k * 12 + 6) _).1.stored (k * 12 + 7) _).1.stored (k * 12 + 8) _).1.stored (k * 12 + 9) _).1.stored (k * 12 + 10) _).1.stored (k * 12 + 11) _).1
theorem Cw.setSaga {B : Nat} {w : World} {cb bb pm bm : Nat} {vb vI : Value} {c : Cor} {g cl : Nat} (h : Cw B w cb bb pm bm (.slice (some ⟨g, 0, none⟩) c.l.length cl) vb vI c) {k : Nat} (hk : k < c.l.length) (s : Sg) :
    Cw B (set12k w g k s) cb bb pm bm (.slice (some ⟨g, 0, none⟩) c.l.length cl) vb vI { c with l := c.l.set k s } := by
  have ht := turned_set12k w g k s
  have hg : Value.ownBlock (.slice (some ⟨g, 0, none⟩) c.l.length cl) = some g := rfl
  have hn := h.nl g hg
  exact ⟨(ht.block _ (heap_lt h.hc) (fun e => hn.1 e.symm)).trans h.hc, by have := own_set12 h.ol hk s; simpa using this, h.bk.kept ht (fun j hj e => hn.2 (by rw [← e]; exact hj)), h.ii.turned ht (fun j e => h.av j (.inr (.inr (by rw [e]; rfl)))), h.fi, h.av, h.ge, h.nc, h.nl⟩
end Go.Proofs.YtnfbhocppijbjaaDoor
/- A core takes a reply. -/
namespace Go.Proofs.YtnfbhocppijbjaaDoor
open Go.RowKit Go.Maps Co Key Rw Sa Od

namespace Co
def replyE (c : Cor) (o d code : Int) : Int :=
  if o < 1 ∨ (c.l.length : Int) < o then 4 else match c.l[o.toNat - 1]? with | none => 4 | some s => if replyB s d code = true then 0 else 92
def postBy (o d by_ : Int) : List Po := if 0 < by_ then [⟨putK o d, o, 1, 0, by_⟩] else if by_ < 0 then [⟨putK o d, o, 3, 1, -by_⟩] else []
def postR (c : Cor) (o d code : Int) : List Po := match c.l[o.toNat - 1]? with | none => [] | some s => postBy o d (Sa.netI (replyI s d code) - Sa.netI s)
def replyC (c : Cor) (o d code : Int) : Cor := if replyE c o d code = 0 then
    (match c.l[o.toNat - 1]? with | none => c | some s => { c with l := c.l.set (o.toNat - 1) (replyI s d code), b := c.b ++ postR c o d code }) else c
theorem net_bd {s : Sg} (h : 0 ≤ s.amt ∧ s.amt ≤ 1099511627776) : 0 ≤ Sa.netI s ∧ Sa.netI s ≤ 1099511627776 := by unfold Sa.netI; split <;> omega
end Co
theorem Cw.post {B : Nat} {w w' : World} {cb bb pm bm : Nat} {vl vb vb' vI : Value} {c : Cor} {b' : List Po} (h : Cw B w cb bb pm bm vl vb vI c) (hn : Bw B w' bb pm bm vb' b') (ht : Turned (Bs bb pm bm vb) w w') (hf : ∀ j, vb'.ownBlock = some j → vb.ownBlock = some j ∨ w.heap.size ≤ j) :
    Cw B w' cb bb pm bm vl vb' vI { c with b := b' } := by
  have hcb : ¬ Bs bb pm bm vb cb := fun hs => by
    rcases hs with e | e | e | e
    · exact h.nc.1 e
    · exact h.nc.2.1 e
    · exact h.nc.2.2.1 e
    · exact h.nc.2.2.2 e
  have hlt := heap_lt h.hc
  refine ⟨(ht.block _ hlt hcb).trans h.hc, own_turned h.ol ht (fun j hj => (h.nl j hj).2), hn, h.ii.turned ht (fun j hj => h.av j (.inr (.inl hj))), h.fi, fun j hj => ?_, h.ge, ⟨h.nc.1, h.nc.2.1, h.nc.2.2.1, fun e => ?_⟩, fun j hj => ⟨(h.nl j hj).1, fun hs => ?_⟩⟩
  · rcases hj with rfl | hj | hj
    · exact h.av _ (.inl rfl)
    · rcases hj with hj | hj | hj | hj
      · exact h.av _ (.inr (.inl (.inl hj)))
      · exact h.av _ (.inr (.inl (.inr (.inl hj))))
      · exact h.av _ (.inr (.inl (.inr (.inr (.inl hj)))))
      · rcases hf j hj with hj | hj
        · exact h.av _ (.inr (.inl (.inr (.inr (.inr hj)))))
        · exact Av.far h.ii hj
    · exact h.av _ (.inr (.inr hj))
  · rcases hf cb e with e | e
    · exact h.nc.2.2.2 e
    · omega
  · have hjl := (h.ol.lt j hj).2
    rcases hs with hs | hs | hs | hs
    · exact (h.nl j hj).2 (.inl hs)
    · exact (h.nl j hj).2 (.inr (.inl hs))
    · exact (h.nl j hj).2 (.inr (.inr (.inl hs)))
    · rcases hf j hs with hs | hs
      · exact (h.nl j hj).2 (.inr (.inr (.inr hs)))
      · omega
theorem Cw.cbB {B : Nat} {w : World} {cb bb pm bm : Nat} {vl vb vI : Value} {c : Cor} (h : Cw B w cb bb pm bm vl vb vI c) : ¬ Bs bb pm bm vb cb := fun hs => by
  rcases hs with e | e | e | e
  · exact h.nc.1 e
  · exact h.nc.2.1 e
  · exact h.nc.2.2.1 e
  · exact h.nc.2.2.2 e
theorem post_pos {o d b : Int} (h : 0 < b) : postBy o d b = [⟨putK o d, o, 1, 0, b⟩] := by unfold postBy; rw [if_pos h]
theorem post_neg {o d b : Int} (h : b < 0) : postBy o d b = [⟨putK o d, o, 3, 1, -b⟩] := by unfold postBy; rw [if_neg (by omega), if_pos h]
theorem post_nil {o d b : Int} (h1 : ¬ 0 < b) (h2 : ¬ b < 0) : postBy o d b = [] := by unfold postBy; rw [if_neg h1, if_neg h2]
set_option linter.unusedSimpArgs false in
set_option linter.unusedVariables false in
set_option maxRecDepth 100000 in
set_option maxHeartbeats 16000000 in
theorem creply_any {B : Nat} {w : World} {cb bb pm bm : Nat} {vl vb vI : Value} {c : Cor} (h : Cw B w cb bb pm bm vl vb vI c) (o d code : Int) (ho : -9223372036854775808 ≤ o ∧ o ≤ 9223372036854775807) (hl : c.l.length ≤ 100000) (hbl : c.b.length ≤ 100000) (ham : ∀ s ∈ c.l, 0 ≤ s.amt ∧ s.amt ≤ 1099511627776)
    (hp : replyE c o d code = 0 → ∀ p ∈ postR c o d code, mayP p ∧ ∀ x ∈ c.b, x.id ≠ p.id) (hput : ∀ W, Below B w W → Calls Tryd.prog 46 #[.agg #[.int .i64 o, .int .i64 d]] W fun e w' => e = .returned (.string ⟨(putK o d).toArray⟩) ∧ Below W.heap.size W w') :
    Calls Tryd.prog 28 #[.pointer (some ⟨cb, 0, none⟩), .agg #[.int .i64 o, .int .i64 d], .int .i64 code] w fun e w' => ∃ vb', e = .returned (.int .i64 (replyE c o d code)) ∧ Cw B w' cb bb pm bm vl vb' vI (replyC c o d code) ∧ Turned (Cs cb bb pm bm vl vb) w w' ∧ ∀ j, vb'.ownBlock = some j → vb.ownBlock = some j ∨ w.heap.size ≤ j := by
  obtain ⟨A, cl, rfl, _⟩ := own_slice h.ol
  have HC0 := Lib.hid h
  obtain ⟨wa, hA⟩ : ∃ wa, wa = w.alloc (.cells #[.int .i64 o, .int .i64 d] tKey) := ⟨_, rfl⟩
  have hB : Below w.heap.size w wa := by rw [hA]; exact below_alloc _ _
  have hX : wa.heap[w.heap.size]? = some (.cells #[.int .i64 o, .int .i64 d] tKey (0, 0)) := by rw [hA]; exact heap_new _ _
  have HC := Lib.hid (h.below hB)
  have HA := Lib.hid hA; have HB := Lib.hid hB; have HX := Lib.hid hX; have HPUT := Lib.hid hput; have HPP := Lib.hid hp; have HAM := Lib.hid ham
  clear hA hB hX h hput hp ham
  obtain ⟨k0, k1, _, _⟩ := cell2 HX.out
  go_enter Tryd.func28, Tryd.ntmps28
  go_upto_region 1 with (fail)
  rw [← HA.out]
  go_wp2_with fail
  refine (corder_any HC.out o ho hl).mono ?_
  rintro e w1 ⟨hyes, hno, hb⟩
  have HX1 := Lib.hid (heap_keep HX.out hb); have HB1 := Lib.hid (bch HB.out hb HB.out.size); have HC1 := Lib.hid (HC.out.below hb)
  clear hb k0 k1 HX HB HC HA
  obtain ⟨k0, k1, _, _⟩ := cell2 HX1.out
  by_cases hn : o < 1 ∨ (c.l.length : Int) < o
  · obtain rfl := hno hn
    have HE := Lib.hid (show replyE c o d code = 4 by unfold replyE; rw [if_pos hn])
    have HCC := Lib.hid (show replyC c o d code = c by unfold replyC; rw [if_neg (by rw [HE.out]; decide)])
    clear hyes hno hn
    go_upto_region 2 with (fail)
    obtain ⟨w2, hw2⟩ : ∃ w2, w2 = w1.alloc (.cells (sgA sg0) tSaga) := ⟨_, rfl⟩
    rw [← hw2]
    have hb2 : Below w1.heap.size w1 w2 := by rw [hw2]; exact below_alloc _ _
    have HB2 := Lib.hid (bch HB1.out hb2 HB1.out.size); have HC2 := Lib.hid (HC1.out.below hb2)
    clear hw2 hb2
    go_wp2_with fail
    go_ret
    exact ⟨vb, by rw [HE.out]; rfl, by rw [HCC.out]; exact HC2.out, Turned.of_below HB2.out, fun j h => .inl h⟩
  · have ho1 : 1 ≤ o := by omega
    obtain ⟨s, hs⟩ : ∃ s, c.l[o.toNat - 1]? = some s := ⟨_, List.getElem?_eq_getElem (by omega)⟩
    obtain rfl := hyes s ho1 hs
    obtain ⟨kk, rfl⟩ : ∃ kk : Nat, o = (kk : Int) + 1 := ⟨(o - 1).toNat, by omega⟩
    have hkk : ((kk : Int) + 1).toNat - 1 = kk := by omega
    rw [hkk] at hs
    have hkl : kk < c.l.length := (List.getElem?_eq_some_iff.1 hs).1
    have HS := Lib.hid hs
    have hsa := HAM.out s (List.mem_of_getElem? hs)
    have HR := Lib.hid (show replyE c ((kk : Int) + 1) d code = if replyB s d code = true then 0 else 92 by unfold replyE; rw [if_neg hn, hkk, hs])
    clear hyes hno hn hs
    go_upto_region 4 with (fail)
    obtain ⟨w2, hw2⟩ : ∃ w2, w2 = w1.alloc (.cells (sgA s) tSaga) := ⟨_, rfl⟩
    rw [← hw2]
    have hb2 : Below w1.heap.size w1 w2 := by rw [hw2]; exact below_alloc _ _
    have HS2 := Lib.hid (show w2.heap[w1.heap.size]? = some (.cells (sgA s) tSaga (0, 0)) by rw [hw2]; exact heap_new _ _)
    have HX2 := Lib.hid (heap_keep HX1.out hb2); have HB2 := Lib.hid (bch HB1.out hb2 HB1.out.size); have HC2 := Lib.hid (HC1.out.below hb2)
    have hz1 : w.heap.size < w1.heap.size := heap_lt HX1.out
    clear hw2 hb2 k0 k1 HX1 HB1 HC1
    generalize w1.heap.size = b7 at HS2 hz1 ⊢
    obtain ⟨k0, k1, _, _⟩ := cell2 HX2.out
    obtain ⟨c0, c1, c2, c3, c4, c5, c6, c7, c8, c9, c10, c11⟩ := sg_box HS2.out
    go_wp2_with fail
    cases hr : replyB s d code with
    | false =>
      refine (reply_no s d code w2 hr).mono ?_
      rintro e w3 ⟨rfl, hb⟩
      have HE := Lib.hid (show replyE c ((kk : Int) + 1) d code = 92 by rw [HR.out, hr]; rfl)
      have HCC := Lib.hid (show replyC c ((kk : Int) + 1) d code = c by unfold replyC; rw [if_neg (by rw [HE.out]; decide)])
      have HB3 := Lib.hid (bch HB2.out hb HB2.out.size); have HC3 := Lib.hid (HC2.out.below hb)
      clear hb k0 k1 c0 c1 c2 c3 c4 c5 c6 c7 c8 c9 c10 c11 HB2 HC2
      go_upto_region 5 with (fail)
      obtain ⟨w4, hw4⟩ : ∃ w4, w4 = w3.alloc (.cells (sgA sg0) tSaga) := ⟨_, rfl⟩
      rw [← hw4]
      have hb4 : Below w3.heap.size w3 w4 := by rw [hw4]; exact below_alloc _ _
      have HB4 := Lib.hid (bch HB3.out hb4 HB3.out.size); have HC4 := Lib.hid (HC3.out.below hb4)
      clear hw4 hb4
      go_wp2_with fail
      go_ret
      exact ⟨vb, by rw [HE.out]; rfl, by rw [HCC.out]; exact HC4.out, Turned.of_below HB4.out, fun j h => .inl h⟩
    | true =>
      refine (reply_yes s d code w2 hr).mono ?_
      obtain ⟨t, ht0⟩ : ∃ t, replyI s d code = t := ⟨_, rfl⟩
      rw [ht0]
      rintro e w3 ⟨rfl, hb⟩
      have HE := Lib.hid (show replyE c ((kk : Int) + 1) d code = 0 by rw [HR.out, hr]; rfl)
      have HPP := Lib.hid (HPP.out HE.out)
      have HPR := Lib.hid (show postR c ((kk : Int) + 1) d code = postBy ((kk : Int) + 1) d (Sa.netI t - Sa.netI s) by unfold postR; rw [hkk, HS.out]; simp only [ht0])
      have HCC := Lib.hid (show replyC c ((kk : Int) + 1) d code = { c with l := c.l.set kk t, b := c.b ++ postBy ((kk : Int) + 1) d (Sa.netI t - Sa.netI s) } by unfold replyC; rw [if_pos HE.out, hkk, HS.out]; simp only [ht0, HPR.out])
      have hta : t.amt = s.amt := by rw [← ht0]; unfold replyI; exact (onI_keeps _).2.2.trans (setI_keeps s d (code + 1)).2.2
      have hnt := net_bd (s := t) (by rw [hta]; exact hsa)
      have hns := net_bd hsa
      clear ht0 hta hr
      have HX3 := Lib.hid (heap_keep HX2.out hb); have HS3 := Lib.hid (heap_keep HS2.out hb); have HB3 := Lib.hid (bch HB2.out hb HB2.out.size); have HC3 := Lib.hid (HC2.out.below hb)
      clear hb k0 k1 c0 c1 c2 c3 c4 c5 c6 c7 c8 c9 c10 c11 HX2 HS2 HB2 HC2
      go_upto_region 7 with (fail)
      obtain ⟨w4, hw4⟩ : ∃ w4, w4 = w3.alloc (.cells (sgA t) tSaga) := ⟨_, rfl⟩
      rw [← hw4]
      have hb4 : Below w3.heap.size w3 w4 := by rw [hw4]; exact below_alloc _ _
      have HT4 := Lib.hid (show w4.heap[w3.heap.size]? = some (.cells (sgA t) tSaga (0, 0)) by rw [hw4]; exact heap_new _ _)
      have HX4 := Lib.hid (heap_keep HX3.out hb4); have HS4 := Lib.hid (heap_keep HS3.out hb4); have HB4 := Lib.hid (bch HB3.out hb4 HB3.out.size); have HC4 := Lib.hid (HC3.out.below hb4)
      have hz3 : b7 < w3.heap.size := heap_lt HS3.out
      clear hw4 hb4 HX3 HS3 HB3 HC3
      generalize w3.heap.size = b9 at HT4 hz3 ⊢
      rcases own_ptr HC0.out.ol with ⟨_, h0⟩ | ⟨g, c2', es, hgB, hgl, hgc⟩
      · omega
      injection es with es1 es2 es3; subst es1; clear es2 es3
      obtain ⟨k0, k1, _, _⟩ := cell2 HX4.out
      obtain ⟨c0, c1, c2, c3, c4, c5, c6, c7, c8, c9, c10, c11⟩ := sg_box HT4.out
      obtain ⟨y0, y1⟩ := HC4.out.c01
      have r0 := own_cellK encS_len (by decide) HC4.out.ol HS.out 0 (by decide)
      have r1 := own_cellK encS_len (by decide) HC4.out.ol HS.out 1 (by decide)
      have r2 := own_cellK encS_len (by decide) HC4.out.ol HS.out 2 (by decide)
      have r3 := own_cellK encS_len (by decide) HC4.out.ol HS.out 3 (by decide)
      have r4 := own_cellK encS_len (by decide) HC4.out.ol HS.out 4 (by decide)
      have r5 := own_cellK encS_len (by decide) HC4.out.ol HS.out 5 (by decide)
      have r6 := own_cellK encS_len (by decide) HC4.out.ol HS.out 6 (by decide)
      have r7 := own_cellK encS_len (by decide) HC4.out.ol HS.out 7 (by decide)
      have r8 := own_cellK encS_len (by decide) HC4.out.ol HS.out 8 (by decide)
      have r9 := own_cellK encS_len (by decide) HC4.out.ol HS.out 9 (by decide)
      have r10 := own_cellK encS_len (by decide) HC4.out.ol HS.out 10 (by decide)
      have r11 := own_cellK encS_len (by decide) HC4.out.ol HS.out 11 (by decide)
      simp only [encS, sgA, List.getElem?_cons_zero, List.getElem?_cons_succ, Nat.add_zero] at r0 r1 r2 r3 r4 r5 r6 r7 r8 r9 r10 r11
      have q0 := HC4.out.ol.frozenAt (kk * 12)
      have q1 := HC4.out.ol.frozenAt (kk * 12 + 1)
      have q2 := HC4.out.ol.frozenAt (kk * 12 + 2)
      have q3 := HC4.out.ol.frozenAt (kk * 12 + 3)
      have q4 := HC4.out.ol.frozenAt (kk * 12 + 4)
      have q5 := HC4.out.ol.frozenAt (kk * 12 + 5)
      have q6 := HC4.out.ol.frozenAt (kk * 12 + 6)
      have q7 := HC4.out.ol.frozenAt (kk * 12 + 7)
      have q8 := HC4.out.ol.frozenAt (kk * 12 + 8)
      have q9 := HC4.out.ol.frozenAt (kk * 12 + 9)
      have q10 := HC4.out.ol.frozenAt (kk * 12 + 10)
      have q11 := HC4.out.ol.frozenAt (kk * 12 + 11)
      have hw1 : IntKind.i64.wrap ((kk : Int) + 1 - 1) = kk := by rw [show (kk : Int) + 1 - 1 = kk by omega]; exact IntWalk.i64_in _ (by omega)
      have hkI : (kk : Int) < c.l.length := by omega
      have hkI0 : (0 : Int) ≤ kk := by omega
      have hgne : g ≠ b9 ∧ g ≠ b7 ∧ g ≠ w.heap.size := by omega
      go_region
      go_wp2_with fail
      obtain ⟨w5, hw5⟩ : ∃ w5, w5 = (set12k w4 g kk t).drew := ⟨_, rfl⟩
      rw [show ((((((((((((w4.setCell ⟨g, kk * 12, none⟩ (.int .i64 t.id)).setCell ⟨g, kk * 12 + 1, none⟩ (.string ⟨t.ref.toArray⟩)).setCell ⟨g, kk * 12 + 2, none⟩ (.string ⟨t.sku.toArray⟩)).setCell ⟨g, kk * 12 + 3, none⟩ (.int .i64 t.qty)).setCell ⟨g, kk * 12 + 4, none⟩ (.int .i64 t.amt)).setCell ⟨g, kk * 12 + 5, none⟩ (.int .i64 t.d0)).setCell ⟨g, kk * 12 + 6, none⟩ (.int .i64 t.d1)).setCell ⟨g, kk * 12 + 7, none⟩ (.int .i64 t.d2)).setCell ⟨g, kk * 12 + 8, none⟩ (.int .i64 t.d3)).setCell ⟨g, kk * 12 + 9, none⟩ (.int .i64 t.d4)).setCell ⟨g, kk * 12 + 10, none⟩ (.int .i64 t.d5)).setCell ⟨g, kk * 12 + 11, none⟩ (.bool t.can)).drew = w5 from hw5.symm]
      have ht5 : Turned (fun j => j = g) w4 w5 := by rw [hw5]; exact (turned_set12k w4 g kk t).drew
      have HC5 := Lib.hid (show Cw B w5 cb bb pm bm (.slice (some ⟨g, 0, none⟩) c.l.length cl) vb vI { c with l := c.l.set kk t } by rw [hw5]; exact (show Cw B (set12k w4 g kk t) cb bb pm bm (.slice (some ⟨g, 0, none⟩) c.l.length cl) vb vI { c with l := c.l.set kk t } from HC4.out.setSaga hkl t).below (below_drew1 (Below.refl _ _)))
      have HX5 := Lib.hid (heap_turned HX4.out ht5 (fun e => hgne.2.2 e.symm)); have HS5 := Lib.hid (heap_turned HS4.out ht5 (fun e => hgne.2.1 e.symm)); have HT5 := Lib.hid (heap_turned HT4.out ht5 (fun e => hgne.1 e.symm))
      have HTT := Lib.hid (show Turned (Cs cb bb pm bm (.slice (some ⟨g, 0, none⟩) c.l.length cl) vb) w w5 from (Turned.of_below HB4.out).trans (ht5.mono (fun i h => .inr (.inr (by rw [h]; rfl)))))
      clear hw5 ht5 HX4 HS4 HT4 HC4 HB4 k0 k1 y0 y1 c0 c1 c2 c3 c4 c5 c6 c7 c8 c9 c10 c11 r0 r1 r2 r3 r4 r5 r6 r7 r8 r9 r10 r11 q0 q1 q2 q3 q4 q5 q6 q7 q8 q9 q10 q11
      obtain ⟨c0, c1, c2, c3, c4, c5, c6, c7, c8, c9, c10, c11⟩ := sg_box HT5.out
      obtain ⟨e0, e1, e2, e3, e4, e5, e6, e7, e8, e9, e10, e11⟩ := sg_box HS5.out
      have HH := Lib.hid (fun W (hb : Below w5.heap.size w5 W) => (⟨Lib.hid hb, (hb.cell (World.block_lt_of_cell? w5 _ c0)).trans c0, (hb.cell (World.block_lt_of_cell? w5 _ c1)).trans c1, (hb.cell (World.block_lt_of_cell? w5 _ c2)).trans c2, (hb.cell (World.block_lt_of_cell? w5 _ c3)).trans c3, (hb.cell (World.block_lt_of_cell? w5 _ c4)).trans c4, (hb.cell (World.block_lt_of_cell? w5 _ c5)).trans c5, (hb.cell (World.block_lt_of_cell? w5 _ c6)).trans c6, (hb.cell (World.block_lt_of_cell? w5 _ c7)).trans c7, (hb.cell (World.block_lt_of_cell? w5 _ c8)).trans c8, (hb.cell (World.block_lt_of_cell? w5 _ c9)).trans c9, (hb.cell (World.block_lt_of_cell? w5 _ c10)).trans c10, (hb.cell (World.block_lt_of_cell? w5 _ c11)).trans c11, (hb.cell (World.block_lt_of_cell? w5 _ e0)).trans e0, (hb.cell (World.block_lt_of_cell? w5 _ e1)).trans e1, (hb.cell (World.block_lt_of_cell? w5 _ e2)).trans e2, (hb.cell (World.block_lt_of_cell? w5 _ e3)).trans e3, (hb.cell (World.block_lt_of_cell? w5 _ e4)).trans e4, (hb.cell (World.block_lt_of_cell? w5 _ e5)).trans e5, (hb.cell (World.block_lt_of_cell? w5 _ e6)).trans e6, (hb.cell (World.block_lt_of_cell? w5 _ e7)).trans e7, (hb.cell (World.block_lt_of_cell? w5 _ e8)).trans e8, (hb.cell (World.block_lt_of_cell? w5 _ e9)).trans e9, (hb.cell (World.block_lt_of_cell? w5 _ e10)).trans e10, (hb.cell (World.block_lt_of_cell? w5 _ e11)).trans e11⟩ : (fun w' => Hid (Below w5.heap.size w5 w') ∧ w'.cell? ⟨b9, 0, none⟩ = some (.int .i64 t.id) ∧ w'.cell? ⟨b9, 1, none⟩ = some (.string ⟨t.ref.toArray⟩) ∧ w'.cell? ⟨b9, 2, none⟩ = some (.string ⟨t.sku.toArray⟩) ∧ w'.cell? ⟨b9, 3, none⟩ = some (.int .i64 t.qty) ∧ w'.cell? ⟨b9, 4, none⟩ = some (.int .i64 t.amt) ∧ w'.cell? ⟨b9, 5, none⟩ = some (.int .i64 t.d0) ∧ w'.cell? ⟨b9, 6, none⟩ = some (.int .i64 t.d1) ∧ w'.cell? ⟨b9, 7, none⟩ = some (.int .i64 t.d2) ∧ w'.cell? ⟨b9, 8, none⟩ = some (.int .i64 t.d3) ∧ w'.cell? ⟨b9, 9, none⟩ = some (.int .i64 t.d4) ∧ w'.cell? ⟨b9, 10, none⟩ = some (.int .i64 t.d5) ∧ w'.cell? ⟨b9, 11, none⟩ = some (.bool t.can) ∧ w'.cell? ⟨b7, 0, none⟩ = some (.int .i64 s.id) ∧ w'.cell? ⟨b7, 1, none⟩ = some (.string ⟨s.ref.toArray⟩) ∧ w'.cell? ⟨b7, 2, none⟩ = some (.string ⟨s.sku.toArray⟩) ∧ w'.cell? ⟨b7, 3, none⟩ = some (.int .i64 s.qty) ∧ w'.cell? ⟨b7, 4, none⟩ = some (.int .i64 s.amt) ∧ w'.cell? ⟨b7, 5, none⟩ = some (.int .i64 s.d0) ∧ w'.cell? ⟨b7, 6, none⟩ = some (.int .i64 s.d1) ∧ w'.cell? ⟨b7, 7, none⟩ = some (.int .i64 s.d2) ∧ w'.cell? ⟨b7, 8, none⟩ = some (.int .i64 s.d3) ∧ w'.cell? ⟨b7, 9, none⟩ = some (.int .i64 s.d4) ∧ w'.cell? ⟨b7, 10, none⟩ = some (.int .i64 s.d5) ∧ w'.cell? ⟨b7, 11, none⟩ = some (.bool s.can)) W))
      refine wp_region_noPanic ?_
      refine wp_region_held_drew (S := (fun w' => Hid (Below w5.heap.size w5 w') ∧ w'.cell? ⟨b9, 0, none⟩ = some (.int .i64 t.id) ∧ w'.cell? ⟨b9, 1, none⟩ = some (.string ⟨t.ref.toArray⟩) ∧ w'.cell? ⟨b9, 2, none⟩ = some (.string ⟨t.sku.toArray⟩) ∧ w'.cell? ⟨b9, 3, none⟩ = some (.int .i64 t.qty) ∧ w'.cell? ⟨b9, 4, none⟩ = some (.int .i64 t.amt) ∧ w'.cell? ⟨b9, 5, none⟩ = some (.int .i64 t.d0) ∧ w'.cell? ⟨b9, 6, none⟩ = some (.int .i64 t.d1) ∧ w'.cell? ⟨b9, 7, none⟩ = some (.int .i64 t.d2) ∧ w'.cell? ⟨b9, 8, none⟩ = some (.int .i64 t.d3) ∧ w'.cell? ⟨b9, 9, none⟩ = some (.int .i64 t.d4) ∧ w'.cell? ⟨b9, 10, none⟩ = some (.int .i64 t.d5) ∧ w'.cell? ⟨b9, 11, none⟩ = some (.bool t.can) ∧ w'.cell? ⟨b7, 0, none⟩ = some (.int .i64 s.id) ∧ w'.cell? ⟨b7, 1, none⟩ = some (.string ⟨s.ref.toArray⟩) ∧ w'.cell? ⟨b7, 2, none⟩ = some (.string ⟨s.sku.toArray⟩) ∧ w'.cell? ⟨b7, 3, none⟩ = some (.int .i64 s.qty) ∧ w'.cell? ⟨b7, 4, none⟩ = some (.int .i64 s.amt) ∧ w'.cell? ⟨b7, 5, none⟩ = some (.int .i64 s.d0) ∧ w'.cell? ⟨b7, 6, none⟩ = some (.int .i64 s.d1) ∧ w'.cell? ⟨b7, 7, none⟩ = some (.int .i64 s.d2) ∧ w'.cell? ⟨b7, 8, none⟩ = some (.int .i64 s.d3) ∧ w'.cell? ⟨b7, 9, none⟩ = some (.int .i64 s.d4) ∧ w'.cell? ⟨b7, 10, none⟩ = some (.int .i64 s.d5) ∧ w'.cell? ⟨b7, 11, none⟩ = some (.bool s.can))) (by kernel_rfl) (HH.out _ (below_drew1 (Below.refl w5.heap.size w5))) (fun hHeld => ?_)
      refine wpAnyH_take (i := 0) (v := ?vc0_1) rfl (by kernel_rfl) (by kernel_rfl) (by kernel_rfl) (fun _ _ _ h => h) (Or.inl ⟨by rfl, ?hyc0_1⟩) (by assumption) ?restc0_1
      case hyc0_1 => (intro w0 hSw; (try dsimp only at hSw); go_simp; try with_reducible rfl)
      case' restc0_1 => try simp only [Act.put, List.getElem_toArray, List.getElem_cons_zero, List.getElem_cons_succ, List.setIfInBounds_toArray, List.set_cons_zero, List.set_cons_succ]
      refine wpAnyH_take (i := 2) (v := ?vc2_2) rfl (by kernel_rfl) (by kernel_rfl) (by kernel_rfl) (fun _ _ _ h => h) (Or.inl ⟨by rfl, ?hyc2_2⟩) (by assumption) ?restc2_2
      case hyc2_2 => (intro w0 hSw; (try dsimp only at hSw); go_simp; try with_reducible rfl)
      case' restc2_2 => try simp only [Act.put, List.getElem_toArray, List.getElem_cons_zero, List.getElem_cons_succ, List.setIfInBounds_toArray, List.set_cons_zero, List.set_cons_succ]
      refine wpAnyH_ready (rs := [1]) (by kernel_rfl) (by simp) ?_
      refine AllReadyH.cons rfl (fun K hK => ?_) AllReadyH.nil
      go_simp
      refine (net_any t _).mono ?_
      rintro e w6 ⟨rfl, hb6⟩
      have HB6 := Lib.hid (bch (below_drew1 (Below.refl w5.heap.size w5)) hb6 (Below.size (below_drew1 (Below.refl w5.heap.size w5))))
      clear hb6
      refine hK.out _ _ (HH.out _ (HB6.out)) (fun hHeld => ?_)
      clear hK K
      try simp only [Act.put, List.getElem_toArray, List.getElem_cons_zero, List.getElem_cons_succ, List.setIfInBounds_toArray, List.set_cons_zero, List.set_cons_succ]
      refine wpAnyH_ready (rs := [3]) (by kernel_rfl) (by simp) ?_
      refine AllReadyH.cons rfl (fun K hK => ?_) AllReadyH.nil
      go_simp
      refine (net_any s _).mono ?_
      rintro e w7 ⟨rfl, hb7⟩
      have HB7 := Lib.hid (bch HB6.out hb7 HB6.out.size)
      clear hb7
      refine hK.out _ _ (HH.out _ (HB7.out)) (fun hHeld => ?_)
      clear hK K
      try simp only [Act.put, List.getElem_toArray, List.getElem_cons_zero, List.getElem_cons_succ, List.setIfInBounds_toArray, List.set_cons_zero, List.set_cons_succ]
      refine wpAnyH_take (i := 4) (v := ?vc4_3) rfl (by kernel_rfl) (by kernel_rfl) (by kernel_rfl) (fun _ _ _ h => h) (Or.inl ⟨by rfl, ?hyc4_3⟩) (by assumption) ?restc4_3
      case hyc4_3 => (intro w0 hSw; (try dsimp only at hSw); go_simp; try with_reducible rfl)
      case' restc4_3 => try simp only [Act.put, List.getElem_toArray, List.getElem_cons_zero, List.getElem_cons_succ, List.setIfInBounds_toArray, List.set_cons_zero, List.set_cons_succ]
      refine wpAnyH_take (i := 5) (v := ?vc5_4) rfl (by kernel_rfl) (by kernel_rfl) (by kernel_rfl) (fun _ _ _ h => h) (Or.inl ⟨by rfl, ?hyc5_4⟩) (by assumption) ?restc5_4
      case hyc5_4 => (intro w0 hSw; (try dsimp only at hSw); go_simp; try with_reducible rfl)
      case' restc5_4 => try simp only [Act.put, List.getElem_toArray, List.getElem_cons_zero, List.getElem_cons_succ, List.setIfInBounds_toArray, List.set_cons_zero, List.set_cons_succ]
      refine wpAnyH_done (by kernel_rfl) ?_ _
      refine NoPanic.normal ?_
      have HX7 := Lib.hid (heap_keep HX5.out HB7.out); have HC7 := Lib.hid (HC5.out.below HB7.out); have HT7 := Lib.hid (HTT.out.trans (Turned.of_below HB7.out))
      clear hHeld HH HB6 HB7 HX5 HS5 HT5 HC5 HTT c0 c1 c2 c3 c4 c5 c6 c7 c8 c9 c10 c11 e0 e1 e2 e3 e4 e5 e6 e7 e8 e9 e10 e11
      rw [HPR.out] at HPP
      obtain ⟨by_, hby⟩ : ∃ b, Sa.netI t - Sa.netI s = b := ⟨_, rfl⟩
      rw [hby] at HPP HCC ⊢
      have hbyb : -1099511627776 ≤ by_ ∧ by_ ≤ 1099511627776 := by omega
      clear hby HPR hnt hns
      rw [show IntKind.i64.wrap by_ = by_ from IntWalk.i64_in _ (by omega)]
      have hwn : IntKind.i64.wrap (-by_) = -by_ := IntWalk.i64_in _ (by omega)
      have hBw : B ≤ w.heap.size := by have := HC0.out.ge; have := heap_lt HC0.out.hc; omega
      have HBB := Lib.hid (Below.turned (Below.refl B w) HT7.out (fun i hi => (HC0.out.ls hi).1) hBw)
      have hsw : w.heap.size ≤ w7.heap.size := HT7.out.size
      have hcbB := HC7.out.cbB
      have hxB : ¬ Bs bb pm bm vb w.heap.size := fun hs => by have := (HC0.out.bk.ls hs).2; omega
      by_cases hpos : 0 < by_
      · have HPB := Lib.hid (post_pos (o := (kk : Int) + 1) (d := d) hpos)
        rw [HPB.out] at HPP HCC
        obtain ⟨hm, hf⟩ := HPP.out _ (List.mem_singleton.2 rfl)
        have HM := Lib.hid hm; have HF := Lib.hid hf
        clear hm hf
        go_wp2_with fail
        have HH := Lib.hid (fun W' (hb : Turned (Bs bb pm bm vb) w7 W') => (⟨Lib.hid hb, cell_at (heap_turned HC7.out.hc hb hcbB) 1 (by simp [Array.getElem?_append]), cell_at (heap_turned HX7.out hb hxB) 0 rfl, cell_at (heap_turned HX7.out hb hxB) 1 rfl⟩ : (fun w' => Hid (Turned (Bs bb pm bm vb) w7 w') ∧ w'.cell? ⟨cb, 1, none⟩ = some (.pointer (some ⟨bb, 0, none⟩)) ∧ w'.cell? ⟨w.heap.size, 0, none⟩ = some (.int .i64 ((kk : Int) + 1)) ∧ w'.cell? ⟨w.heap.size, 1, none⟩ = some (.int .i64 d)) W'))
        refine wp_region_noPanic ?_
        refine wp_region_held_drew (S := (fun w' => Hid (Turned (Bs bb pm bm vb) w7 w') ∧ w'.cell? ⟨cb, 1, none⟩ = some (.pointer (some ⟨bb, 0, none⟩)) ∧ w'.cell? ⟨w.heap.size, 0, none⟩ = some (.int .i64 ((kk : Int) + 1)) ∧ w'.cell? ⟨w.heap.size, 1, none⟩ = some (.int .i64 d))) (by kernel_rfl) (HH.out _ ((Turned.refl _ w7).drew)) (fun hHeld => ?_)
        refine wpAnyH_take (i := 0) (v := ?vc0_5) rfl (by kernel_rfl) (by kernel_rfl) (by kernel_rfl) (fun _ _ _ h => h) (Or.inl ⟨by rfl, ?hyc0_5⟩) (by assumption) ?restc0_5
        case hyc0_5 => (intro w0 hSw; (try dsimp only at hSw); go_simp; try with_reducible rfl)
        case' restc0_5 => try simp only [Act.put, List.getElem_toArray, List.getElem_cons_zero, List.getElem_cons_succ, List.setIfInBounds_toArray, List.set_cons_zero, List.set_cons_succ]
        refine wpAnyH_take (i := 1) (v := ?vc1_6) rfl (by kernel_rfl) (by kernel_rfl) (by kernel_rfl) (fun _ _ _ h => h) (Or.inl ⟨by rfl, ?hyc1_6⟩) (by assumption) ?restc1_6
        case hyc1_6 => (intro w0 hSw; (try dsimp only at hSw); go_simp; try with_reducible rfl)
        case' restc1_6 => try simp only [Act.put, List.getElem_toArray, List.getElem_cons_zero, List.getElem_cons_succ, List.setIfInBounds_toArray, List.set_cons_zero, List.set_cons_succ]
        refine wpAnyH_take (i := 2) (v := ?vc2_7) rfl (by kernel_rfl) (by kernel_rfl) (by kernel_rfl) (fun _ _ _ h => h) (Or.inl ⟨by rfl, ?hyc2_7⟩) (by assumption) ?restc2_7
        case hyc2_7 => (intro w0 hSw; (try dsimp only at hSw); go_simp; try with_reducible rfl)
        case' restc2_7 => try simp only [Act.put, List.getElem_toArray, List.getElem_cons_zero, List.getElem_cons_succ, List.setIfInBounds_toArray, List.set_cons_zero, List.set_cons_succ]
        refine wpAnyH_take (i := 3) (v := ?vc3_8) rfl (by kernel_rfl) (by kernel_rfl) (by kernel_rfl) (fun _ _ _ h => h) (Or.inl ⟨by rfl, ?hyc3_8⟩) (by assumption) ?restc3_8
        case hyc3_8 => (intro w0 hSw; (try dsimp only at hSw); go_simp; try with_reducible rfl)
        case' restc3_8 => try simp only [Act.put, List.getElem_toArray, List.getElem_cons_zero, List.getElem_cons_succ, List.setIfInBounds_toArray, List.set_cons_zero, List.set_cons_succ]
        refine wpAnyH_take (i := 4) (v := ?vc4_9) rfl (by kernel_rfl) (by kernel_rfl) (by kernel_rfl) (fun _ _ _ h => h) (Or.inl ⟨by rfl, ?hyc4_9⟩) (by assumption) ?restc4_9
        case hyc4_9 => (intro w0 hSw; (try dsimp only at hSw); go_simp; try with_reducible rfl)
        case' restc4_9 => try simp only [Act.put, List.getElem_toArray, List.getElem_cons_zero, List.getElem_cons_succ, List.setIfInBounds_toArray, List.set_cons_zero, List.set_cons_succ]
        refine wpAnyH_take (i := 6) (v := ?vc6_10) rfl (by kernel_rfl) (by kernel_rfl) (by kernel_rfl) (fun _ _ _ h => h) (Or.inl ⟨by rfl, ?hyc6_10⟩) (by assumption) ?restc6_10
        case hyc6_10 => (intro w0 hSw; (try dsimp only at hSw); go_simp; try with_reducible rfl)
        case' restc6_10 => try simp only [Act.put, List.getElem_toArray, List.getElem_cons_zero, List.getElem_cons_succ, List.setIfInBounds_toArray, List.set_cons_zero, List.set_cons_succ]
        refine wpAnyH_take (i := 7) (v := ?vc7_11) rfl (by kernel_rfl) (by kernel_rfl) (by kernel_rfl) (fun _ _ _ h => h) (Or.inl ⟨by rfl, ?hyc7_11⟩) (by assumption) ?restc7_11
        case hyc7_11 => (intro w0 hSw; (try dsimp only at hSw); go_simp; try with_reducible rfl)
        case' restc7_11 => try simp only [Act.put, List.getElem_toArray, List.getElem_cons_zero, List.getElem_cons_succ, List.setIfInBounds_toArray, List.set_cons_zero, List.set_cons_succ]
        refine wpAnyH_take (i := 8) (v := ?vc8_12) rfl (by kernel_rfl) (by kernel_rfl) (by kernel_rfl) (fun _ _ _ h => h) (Or.inl ⟨by rfl, ?hyc8_12⟩) (by assumption) ?restc8_12
        case hyc8_12 => (intro w0 hSw; (try dsimp only at hSw); go_simp; try with_reducible rfl)
        case' restc8_12 => try simp only [Act.put, List.getElem_toArray, List.getElem_cons_zero, List.getElem_cons_succ, List.setIfInBounds_toArray, List.set_cons_zero, List.set_cons_succ]
        refine wpAnyH_ready (rs := [5]) (by kernel_rfl) (by simp) ?_
        refine AllReadyH.cons rfl (fun K hK => ?_) AllReadyH.nil
        go_simp
        refine (HPUT.out _ (below_drew1' HBB.out)).mono ?_
        rintro e w8 ⟨rfl, hb8⟩
        have HB8 := Lib.hid (bch (below_drew1 (Below.refl w7.heap.size w7)) hb8 (Nat.le_refl _))
        clear hb8
        refine hK.out _ _ (HH.out _ ((Turned.of_below HB8.out))) (fun hHeld => ?_)
        clear hK K
        try simp only [Act.put, List.getElem_toArray, List.getElem_cons_zero, List.getElem_cons_succ, List.setIfInBounds_toArray, List.set_cons_zero, List.set_cons_succ]
        refine wpAnyH_take (i := 9) (v := ?vc9_13) rfl (by kernel_rfl) (by kernel_rfl) (by kernel_rfl) (fun _ _ _ h => h) (Or.inl ⟨by rfl, ?hyc9_13⟩) (by assumption) ?restc9_13
        case hyc9_13 => (intro w0 hSw; (try dsimp only at hSw); go_simp; try with_reducible rfl)
        case' restc9_13 => try simp only [Act.put, List.getElem_toArray, List.getElem_cons_zero, List.getElem_cons_succ, List.setIfInBounds_toArray, List.set_cons_zero, List.set_cons_succ]
        refine wpAnyH_ready (rs := [10]) (by kernel_rfl) (by simp) ?_
        refine AllReadyH.cons rfl (fun K hK => ?_) AllReadyH.nil
        go_simp
        refine (bpost_any (HC7.out.bk.below HB8.out) ⟨putK ((kk : Int) + 1) d, (kk : Int) + 1, 1, 0, by_⟩ HM.out HF.out hbl).mono ?_
        rintro e w9 ⟨vb', rfl, hnew, ht9, hfar⟩
        have HN9 := Lib.hid hnew; have HT9 := Lib.hid ht9; have HF9 := Lib.hid hfar
        clear hnew ht9 hfar
        refine hK.out _ _ (HH.out _ ((Turned.of_below HB8.out).trans HT9.out)) (fun hHeld => ?_)
        clear hK K
        try simp only [Act.put, List.getElem_toArray, List.getElem_cons_zero, List.getElem_cons_succ, List.setIfInBounds_toArray, List.set_cons_zero, List.set_cons_succ]
        refine wpAnyH_done (by kernel_rfl) ?_ _
        refine NoPanic.normal ?_
        clear hHeld HH
        go_wp2_with fail
        go_ret
        have hA1 : Cw B w9 cb bb pm bm (.slice (some ⟨g, 0, none⟩) c.l.length cl) vb' vI (replyC c ((kk : Int) + 1) d code) := by rw [HCC.out]; exact (HC7.out.below HB8.out).post HN9.out HT9.out HF9.out
        have hA2 := (HT7.out.trans (Turned.of_below HB8.out)).trans (HT9.out.mono (S' := Cs cb bb pm bm (.slice (some ⟨g, 0, none⟩) c.l.length cl) vb) (fun i h => .inr (.inl h)))
        have hA3 : ∀ j, vb'.ownBlock = some j → vb.ownBlock = some j ∨ w.heap.size ≤ j := fun j hj => (HF9.out j hj).imp id (fun h => by have := HB8.out.size; omega)
        first | refine ⟨vb', ?_, hA1, hA2, hA3⟩ | refine ⟨?_, vb', hA1, hA2, hA3⟩
        rw [HE.out]; rfl
      · by_cases hneg : by_ < 0
        · have HPB := Lib.hid (post_neg (o := (kk : Int) + 1) (d := d) hneg)
          rw [HPB.out] at HPP HCC
          obtain ⟨hm, hf⟩ := HPP.out _ (List.mem_singleton.2 rfl)
          have HM := Lib.hid hm; have HF := Lib.hid hf
          clear hm hf
          go_wp2_with fail
          have HH := Lib.hid (fun W' (hb : Turned (Bs bb pm bm vb) w7 W') => (⟨Lib.hid hb, cell_at (heap_turned HC7.out.hc hb hcbB) 1 (by simp [Array.getElem?_append]), cell_at (heap_turned HX7.out hb hxB) 0 rfl, cell_at (heap_turned HX7.out hb hxB) 1 rfl⟩ : (fun w' => Hid (Turned (Bs bb pm bm vb) w7 w') ∧ w'.cell? ⟨cb, 1, none⟩ = some (.pointer (some ⟨bb, 0, none⟩)) ∧ w'.cell? ⟨w.heap.size, 0, none⟩ = some (.int .i64 ((kk : Int) + 1)) ∧ w'.cell? ⟨w.heap.size, 1, none⟩ = some (.int .i64 d)) W'))
          refine wp_region_noPanic ?_
          refine wp_region_held_drew (S := (fun w' => Hid (Turned (Bs bb pm bm vb) w7 w') ∧ w'.cell? ⟨cb, 1, none⟩ = some (.pointer (some ⟨bb, 0, none⟩)) ∧ w'.cell? ⟨w.heap.size, 0, none⟩ = some (.int .i64 ((kk : Int) + 1)) ∧ w'.cell? ⟨w.heap.size, 1, none⟩ = some (.int .i64 d))) (by kernel_rfl) (HH.out _ ((Turned.refl _ w7).drew)) (fun hHeld => ?_)
          refine wpAnyH_take (i := 0) (v := ?vc0_14) rfl (by kernel_rfl) (by kernel_rfl) (by kernel_rfl) (fun _ _ _ h => h) (Or.inl ⟨by rfl, ?hyc0_14⟩) (by assumption) ?restc0_14
          case hyc0_14 => (intro w0 hSw; (try dsimp only at hSw); go_simp; try with_reducible rfl)
          case' restc0_14 => try simp only [Act.put, List.getElem_toArray, List.getElem_cons_zero, List.getElem_cons_succ, List.setIfInBounds_toArray, List.set_cons_zero, List.set_cons_succ]
          refine wpAnyH_take (i := 1) (v := ?vc1_15) rfl (by kernel_rfl) (by kernel_rfl) (by kernel_rfl) (fun _ _ _ h => h) (Or.inl ⟨by rfl, ?hyc1_15⟩) (by assumption) ?restc1_15
          case hyc1_15 => (intro w0 hSw; (try dsimp only at hSw); go_simp; try with_reducible rfl)
          case' restc1_15 => try simp only [Act.put, List.getElem_toArray, List.getElem_cons_zero, List.getElem_cons_succ, List.setIfInBounds_toArray, List.set_cons_zero, List.set_cons_succ]
          refine wpAnyH_take (i := 2) (v := ?vc2_16) rfl (by kernel_rfl) (by kernel_rfl) (by kernel_rfl) (fun _ _ _ h => h) (Or.inl ⟨by rfl, ?hyc2_16⟩) (by assumption) ?restc2_16
          case hyc2_16 => (intro w0 hSw; (try dsimp only at hSw); go_simp; try with_reducible rfl)
          case' restc2_16 => try simp only [Act.put, List.getElem_toArray, List.getElem_cons_zero, List.getElem_cons_succ, List.setIfInBounds_toArray, List.set_cons_zero, List.set_cons_succ]
          refine wpAnyH_take (i := 3) (v := ?vc3_17) rfl (by kernel_rfl) (by kernel_rfl) (by kernel_rfl) (fun _ _ _ h => h) (Or.inl ⟨by rfl, ?hyc3_17⟩) (by assumption) ?restc3_17
          case hyc3_17 => (intro w0 hSw; (try dsimp only at hSw); go_simp; try with_reducible rfl)
          case' restc3_17 => try simp only [Act.put, List.getElem_toArray, List.getElem_cons_zero, List.getElem_cons_succ, List.setIfInBounds_toArray, List.set_cons_zero, List.set_cons_succ]
          refine wpAnyH_take (i := 4) (v := ?vc4_18) rfl (by kernel_rfl) (by kernel_rfl) (by kernel_rfl) (fun _ _ _ h => h) (Or.inl ⟨by rfl, ?hyc4_18⟩) (by assumption) ?restc4_18
          case hyc4_18 => (intro w0 hSw; (try dsimp only at hSw); go_simp; try with_reducible rfl)
          case' restc4_18 => try simp only [Act.put, List.getElem_toArray, List.getElem_cons_zero, List.getElem_cons_succ, List.setIfInBounds_toArray, List.set_cons_zero, List.set_cons_succ]
          refine wpAnyH_take (i := 6) (v := ?vc6_19) rfl (by kernel_rfl) (by kernel_rfl) (by kernel_rfl) (fun _ _ _ h => h) (Or.inl ⟨by rfl, ?hyc6_19⟩) (by assumption) ?restc6_19
          case hyc6_19 => (intro w0 hSw; (try dsimp only at hSw); go_simp; try with_reducible rfl)
          case' restc6_19 => try simp only [Act.put, List.getElem_toArray, List.getElem_cons_zero, List.getElem_cons_succ, List.setIfInBounds_toArray, List.set_cons_zero, List.set_cons_succ]
          refine wpAnyH_take (i := 7) (v := ?vc7_20) rfl (by kernel_rfl) (by kernel_rfl) (by kernel_rfl) (fun _ _ _ h => h) (Or.inl ⟨by rfl, ?hyc7_20⟩) (by assumption) ?restc7_20
          case hyc7_20 => (intro w0 hSw; (try dsimp only at hSw); go_simp; try with_reducible rfl)
          case' restc7_20 => try simp only [Act.put, List.getElem_toArray, List.getElem_cons_zero, List.getElem_cons_succ, List.setIfInBounds_toArray, List.set_cons_zero, List.set_cons_succ]
          refine wpAnyH_take (i := 8) (v := ?vc8_21) rfl (by kernel_rfl) (by kernel_rfl) (by kernel_rfl) (fun _ _ _ h => h) (Or.inl ⟨by rfl, ?hyc8_21⟩) (by assumption) ?restc8_21
          case hyc8_21 => (intro w0 hSw; (try dsimp only at hSw); go_simp; try with_reducible rfl)
          case' restc8_21 => try simp only [Act.put, List.getElem_toArray, List.getElem_cons_zero, List.getElem_cons_succ, List.setIfInBounds_toArray, List.set_cons_zero, List.set_cons_succ]
          refine wpAnyH_take (i := 9) (v := ?vc9_22) rfl (by kernel_rfl) (by kernel_rfl) (by kernel_rfl) (fun _ _ _ h => h) (Or.inl ⟨by rfl, ?hyc9_22⟩) (by assumption) ?restc9_22
          case hyc9_22 => (intro w0 hSw; (try dsimp only at hSw); go_simp; try with_reducible rfl)
          case' restc9_22 => try simp only [Act.put, List.getElem_toArray, List.getElem_cons_zero, List.getElem_cons_succ, List.setIfInBounds_toArray, List.set_cons_zero, List.set_cons_succ]
          refine wpAnyH_ready (rs := [5]) (by kernel_rfl) (by simp) ?_
          refine AllReadyH.cons rfl (fun K hK => ?_) AllReadyH.nil
          go_simp
          refine (HPUT.out _ (below_drew1' HBB.out)).mono ?_
          rintro e w8 ⟨rfl, hb8⟩
          have HB8 := Lib.hid (bch (below_drew1 (Below.refl w7.heap.size w7)) hb8 (Nat.le_refl _))
          clear hb8
          refine hK.out _ _ (HH.out _ ((Turned.of_below HB8.out))) (fun hHeld => ?_)
          clear hK K
          try simp only [Act.put, List.getElem_toArray, List.getElem_cons_zero, List.getElem_cons_succ, List.setIfInBounds_toArray, List.set_cons_zero, List.set_cons_succ]
          refine wpAnyH_take (i := 10) (v := ?vc10_23) rfl (by kernel_rfl) (by kernel_rfl) (by kernel_rfl) (fun _ _ _ h => h) (Or.inl ⟨by rfl, ?hyc10_23⟩) (by assumption) ?restc10_23
          case hyc10_23 => (intro w0 hSw; (try dsimp only at hSw); go_simp; try with_reducible rfl)
          case' restc10_23 => try simp only [Act.put, List.getElem_toArray, List.getElem_cons_zero, List.getElem_cons_succ, List.setIfInBounds_toArray, List.set_cons_zero, List.set_cons_succ]
          refine wpAnyH_ready (rs := [11]) (by kernel_rfl) (by simp) ?_
          refine AllReadyH.cons rfl (fun K hK => ?_) AllReadyH.nil
          go_simp
          refine (bpost_any (HC7.out.bk.below HB8.out) ⟨putK ((kk : Int) + 1) d, (kk : Int) + 1, 3, 1, -by_⟩ HM.out HF.out hbl).mono ?_
          rintro e w9 ⟨vb', rfl, hnew, ht9, hfar⟩
          have HN9 := Lib.hid hnew; have HT9 := Lib.hid ht9; have HF9 := Lib.hid hfar
          clear hnew ht9 hfar
          refine hK.out _ _ (HH.out _ ((Turned.of_below HB8.out).trans HT9.out)) (fun hHeld => ?_)
          clear hK K
          try simp only [Act.put, List.getElem_toArray, List.getElem_cons_zero, List.getElem_cons_succ, List.setIfInBounds_toArray, List.set_cons_zero, List.set_cons_succ]
          refine wpAnyH_done (by kernel_rfl) ?_ _
          refine NoPanic.normal ?_
          clear hHeld HH
          go_wp2_with fail
          go_ret
          have hA1 : Cw B w9 cb bb pm bm (.slice (some ⟨g, 0, none⟩) c.l.length cl) vb' vI (replyC c ((kk : Int) + 1) d code) := by rw [HCC.out]; exact (HC7.out.below HB8.out).post HN9.out HT9.out HF9.out
          have hA2 := (HT7.out.trans (Turned.of_below HB8.out)).trans (HT9.out.mono (S' := Cs cb bb pm bm (.slice (some ⟨g, 0, none⟩) c.l.length cl) vb) (fun i h => .inr (.inl h)))
          have hA3 : ∀ j, vb'.ownBlock = some j → vb.ownBlock = some j ∨ w.heap.size ≤ j := fun j hj => (HF9.out j hj).imp id (fun h => by have := HB8.out.size; omega)
          first | refine ⟨vb', ?_, hA1, hA2, hA3⟩ | refine ⟨?_, vb', hA1, hA2, hA3⟩
          rw [HE.out]; rfl
        · have HPB := Lib.hid (post_nil (o := (kk : Int) + 1) (d := d) hpos hneg)
          rw [HPB.out, List.append_nil] at HCC
          go_wp2_with fail
          go_ret
          first | exact ⟨vb, by rw [HE.out]; rfl, by rw [HCC.out]; exact HC7.out, HT7.out, fun j hj => .inl hj⟩ | exact ⟨by rw [HE.out]; rfl, vb, by rw [HCC.out]; exact HC7.out, HT7.out, fun j hj => .inl hj⟩
end Go.Proofs.YtnfbhocppijbjaaDoor
/- What the payment's newest statement says that an order came to: intake.Net. -/
namespace Go.Proofs.YtnfbhocppijbjaaDoor
open Go.RowKit Go.Maps Key Rw

theorem amt_bd {I : In.Inn} (hg : In.Fine I) (o d : Int) : 0 ≤ In.amtI I o d ∧ In.amtI I o d ≤ 1099511627776 := by
  unfold In.amtI
  cases hr : In.rowOf I (o, d) with
  | none => simp
  | some r =>
    have hm : r ∈ In.rowsAll I := List.mem_of_find?_eq_some hr
    have hok : ∃ p, okRow p r = true := by
      unfold In.rowsAll at hm
      rcases List.mem_append.1 hm with hm | hm
      · rcases List.mem_append.1 hm with hm | hm
        · exact ⟨0, In.ok_rows hg.a r hm⟩
        · exact ⟨1, In.ok_rows hg.b r hm⟩
      · exact ⟨2, In.ok_rows hg.c r hm⟩
    obtain ⟨p, hp⟩ := hok
    simp only []
    split
    · rename_i h1
      unfold okRow at hp
      simp only [h1] at hp
      simp at hp
      split at hp <;> omega
    · omega
theorem ilook {w : World} {m : Option Nat} {I : In.Inn} (hm : MP w m (In.rowsAll I)) (hg : In.Fine I) {o d : Int} (hk : (-9223372036854775808 ≤ o ∧ o ≤ 9223372036854775807) ∧ (-9223372036854775808 ≤ d ∧ d ≤ 9223372036854775807)) :
    (Instr.lookup tMapR (.map m) (.agg #[.int .i64 o, .int .i64 d]) true).run Tryd.prog w = .ok (.tuple #[mkRow (rowD (In.rowOf I (o, d))), .bool (In.rowOf I (o, d)).isSome]) w := by
  obtain ⟨kl, hkl⟩ := key_reads (o, d) hk
  rcases hm with ⟨rfl, he⟩ | ⟨b, rfl, hm⟩
  · rw [show In.rowOf I (o, d) = none from row_out (fun q hq => by rw [he] at hq; cases hq)]
    exact Maps.look_nil (P := Tryd.prog) (w := w) (t := tMapR) true lawKey mapR (zeroRow w) hkl
  · rcases hm.look lawKey mapR (zeroRow w) hkl (mkKey_inj _) with ⟨v, hv, hr, _⟩ | ⟨hn, hr, _⟩
    · rw [row_in hg hv]; exact hr
    · rw [row_out hn]; exact hr
set_option linter.unusedSimpArgs false in
set_option linter.unusedVariables false in
set_option maxRecDepth 100000 in
set_option maxHeartbeats 8000000 in
theorem amount_any (w : World) (v : Value) (I : In.Inn) (o d : Int) (h : InP w v I) (hg : In.Fine I) (hk : (-9223372036854775808 ≤ o ∧ o ≤ 9223372036854775807) ∧ (-9223372036854775808 ≤ d ∧ d ≤ 9223372036854775807)) :
    Calls Tryd.prog 42 #[v, .int .i64 o, .int .i64 d] w fun e w' => e = .returned (.int .i64 (In.amtI I o d)) ∧ Below w.heap.size w w' := by
  have hII := h
  obtain ⟨A0, n0, c0, A1, n1, c1, A2, n2, c2, m, rfl, h0, h1, h2, h3⟩ := h
  obtain ⟨wa, hA⟩ : ∃ wa, wa = w.alloc (.cells #[.int .i64 I.a.1, .int .i64 I.a.2.1, .slice A0 n0 c0, .int .i64 I.b.1, .int .i64 I.b.2.1, .slice A1 n1 c1, .int .i64 I.c.1, .int .i64 I.c.2.1, .slice A2 n2 c2, .map m] tIn) := ⟨_, rfl⟩
  have hB : Below w.heap.size w wa := by rw [hA]; exact below_alloc _ _
  have HI := Lib.hid (show wa.heap[w.heap.size]? = some (.cells #[.int .i64 I.a.1, .int .i64 I.a.2.1, .slice A0 n0 c0, .int .i64 I.b.1, .int .i64 I.b.2.1, .slice A1 n1 c1, .int .i64 I.c.1, .int .i64 I.c.2.1, .slice A2 n2 c2, .map m] tIn (0, 0)) by rw [hA]; exact heap_new _ _)
  have hlk := ilook (h3.below hB) hg hk
  have HA := Lib.hid hA; have HB := Lib.hid hB
  clear hA hB hII h0 h1 h2 h3
  obtain ⟨i0, i1, i2, i3, i4, i5, i6, i7, i8, i9⟩ := cell10 HI.out
  cases hr : In.rowOf I (o, d) with
  | none =>
    rw [hr] at hlk
    have HE := Lib.hid (show In.amtI I o d = 0 by unfold In.amtI; rw [hr])
    simp only [rowD, mkRow, Option.isSome] at hlk
    have HLK := Lib.hid hlk
    clear hlk hr
    go_enter Tryd.func42, Tryd.ntmps42
    go_upto_region 1 with (fail)
    rw [← HA.out]
    go_wp2_with fail
    rw [HLK.out]
    go_upto_region 2 with (fail)
    obtain ⟨wb, hwb⟩ : ∃ wb, wb = wa.alloc (.cells #[.int .i64 0, .int .i64 0, .int .i64 0, .int .i64 0, .int .i64 0] tRow) := ⟨_, rfl⟩
    rw [← hwb]
    have HBb := Lib.hid (show Below w.heap.size w wb by rw [hwb]; exact HB.out.alloc HB.out.size _)
    have HXb := Lib.hid (show wb.heap[wa.heap.size]? = some (.cells #[.int .i64 0, .int .i64 0, .int .i64 0, .int .i64 0, .int .i64 0] tRow (0, 0)) by rw [hwb]; exact heap_new _ _)
    clear hwb
    obtain ⟨x0, x1, x2, x3, x4⟩ := cell5 HXb.out
    go_wp2_with fail
    go_ret
    exact ⟨by rw [HE.out]; rfl, HBb.out⟩
  | some r =>
    rw [hr] at hlk
    obtain ⟨⟨xo, xd⟩, xc, xa, xq⟩ := r
    simp only [rowD, mkRow, Option.isSome] at hlk
    have HE := Lib.hid (show In.amtI I o d = if xc = 1 then xa else 0 by unfold In.amtI; rw [hr])
    have HLK := Lib.hid hlk
    clear hlk hr
    go_enter Tryd.func42, Tryd.ntmps42
    go_upto_region 1 with (fail)
    rw [← HA.out]
    go_wp2_with fail
    rw [HLK.out]
    go_upto_region 2 with (fail)
    obtain ⟨wb, hwb⟩ : ∃ wb, wb = wa.alloc (.cells #[.int .i64 xo, .int .i64 xd, .int .i64 xc, .int .i64 xa, .int .i64 xq] tRow) := ⟨_, rfl⟩
    rw [← hwb]
    have HBb := Lib.hid (show Below w.heap.size w wb by rw [hwb]; exact HB.out.alloc HB.out.size _)
    have HXb := Lib.hid (show wb.heap[wa.heap.size]? = some (.cells #[.int .i64 xo, .int .i64 xd, .int .i64 xc, .int .i64 xa, .int .i64 xq] tRow (0, 0)) by rw [hwb]; exact heap_new _ _)
    clear hwb
    obtain ⟨x0, x1, x2, x3, x4⟩ := cell5 HXb.out
    by_cases hc : xc = 1
    · have hc1 := bneF hc
      have HE2 := Lib.hid (HE.out.trans (if_pos hc))
      clear hc
      go_wp2_with fail
      go_ret
      exact ⟨by rw [HE2.out]; rfl, HBb.out⟩
    · have hc1 := bneT hc
      have HE2 := Lib.hid (HE.out.trans (if_neg hc))
      clear hc
      go_wp2_with fail
      go_ret
      exact ⟨by rw [HE2.out]; rfl, HBb.out⟩
set_option linter.unusedSimpArgs false in
set_option linter.unusedVariables false in
set_option maxRecDepth 100000 in
set_option maxHeartbeats 8000000 in
theorem inet_any (w : World) (v : Value) (I : In.Inn) (o : Int) (h : InP w v I) (hg : In.Fine I) (ho : -9223372036854775808 ≤ o ∧ o ≤ 9223372036854775807) :
    Calls Tryd.prog 24 #[v, .int .i64 o] w fun e w' => e = .returned (.int .i64 (In.netI I o)) ∧ Below w.heap.size w w' := by
  have HII := Lib.hid h
  obtain ⟨A0, n0, c0, A1, n1, c1, A2, n2, c2, m, rfl, _⟩ := h
  obtain ⟨wa, hA⟩ : ∃ wa, wa = w.alloc (.cells #[.int .i64 I.a.1, .int .i64 I.a.2.1, .slice A0 n0 c0, .int .i64 I.b.1, .int .i64 I.b.2.1, .slice A1 n1 c1, .int .i64 I.c.1, .int .i64 I.c.2.1, .slice A2 n2 c2, .map m] tIn) := ⟨_, rfl⟩
  have hB : Below w.heap.size w wa := by rw [hA]; exact below_alloc _ _
  have HI := Lib.hid (show wa.heap[w.heap.size]? = some (.cells #[.int .i64 I.a.1, .int .i64 I.a.2.1, .slice A0 n0 c0, .int .i64 I.b.1, .int .i64 I.b.2.1, .slice A1 n1 c1, .int .i64 I.c.1, .int .i64 I.c.2.1, .slice A2 n2 c2, .map m] tIn (0, 0)) by rw [hA]; exact heap_new _ _)
  have HA := Lib.hid hA; have HB := Lib.hid hB; have HG := Lib.hid hg
  have b1 := amt_bd hg o 1
  have b4 := amt_bd hg o 4
  clear hA hB hg
  obtain ⟨i0, i1, i2, i3, i4, i5, i6, i7, i8, i9⟩ := cell10 HI.out
  go_enter Tryd.func24, Tryd.ntmps24
  go_upto_region 1 with (fail)
  rw [← HA.out]
  have HH := Lib.hid (fun W (hb : Below wa.heap.size wa W) => (⟨Lib.hid hb, (hb.cell (World.block_lt_of_cell? wa _ i0)).trans i0, (hb.cell (World.block_lt_of_cell? wa _ i1)).trans i1, (hb.cell (World.block_lt_of_cell? wa _ i2)).trans i2, (hb.cell (World.block_lt_of_cell? wa _ i3)).trans i3, (hb.cell (World.block_lt_of_cell? wa _ i4)).trans i4, (hb.cell (World.block_lt_of_cell? wa _ i5)).trans i5, (hb.cell (World.block_lt_of_cell? wa _ i6)).trans i6, (hb.cell (World.block_lt_of_cell? wa _ i7)).trans i7, (hb.cell (World.block_lt_of_cell? wa _ i8)).trans i8, (hb.cell (World.block_lt_of_cell? wa _ i9)).trans i9⟩ : (fun w' => Hid (Below wa.heap.size wa w') ∧ w'.cell? ⟨w.heap.size, 0, none⟩ = some (.int .i64 I.a.1) ∧ w'.cell? ⟨w.heap.size, 1, none⟩ = some (.int .i64 I.a.2.1) ∧ w'.cell? ⟨w.heap.size, 2, none⟩ = some (.slice A0 n0 c0) ∧ w'.cell? ⟨w.heap.size, 3, none⟩ = some (.int .i64 I.b.1) ∧ w'.cell? ⟨w.heap.size, 4, none⟩ = some (.int .i64 I.b.2.1) ∧ w'.cell? ⟨w.heap.size, 5, none⟩ = some (.slice A1 n1 c1) ∧ w'.cell? ⟨w.heap.size, 6, none⟩ = some (.int .i64 I.c.1) ∧ w'.cell? ⟨w.heap.size, 7, none⟩ = some (.int .i64 I.c.2.1) ∧ w'.cell? ⟨w.heap.size, 8, none⟩ = some (.slice A2 n2 c2) ∧ w'.cell? ⟨w.heap.size, 9, none⟩ = some (.map m)) W))
  refine wp_region_noPanic ?_
  refine wp_region_held_drew (S := (fun w' => Hid (Below wa.heap.size wa w') ∧ w'.cell? ⟨w.heap.size, 0, none⟩ = some (.int .i64 I.a.1) ∧ w'.cell? ⟨w.heap.size, 1, none⟩ = some (.int .i64 I.a.2.1) ∧ w'.cell? ⟨w.heap.size, 2, none⟩ = some (.slice A0 n0 c0) ∧ w'.cell? ⟨w.heap.size, 3, none⟩ = some (.int .i64 I.b.1) ∧ w'.cell? ⟨w.heap.size, 4, none⟩ = some (.int .i64 I.b.2.1) ∧ w'.cell? ⟨w.heap.size, 5, none⟩ = some (.slice A1 n1 c1) ∧ w'.cell? ⟨w.heap.size, 6, none⟩ = some (.int .i64 I.c.1) ∧ w'.cell? ⟨w.heap.size, 7, none⟩ = some (.int .i64 I.c.2.1) ∧ w'.cell? ⟨w.heap.size, 8, none⟩ = some (.slice A2 n2 c2) ∧ w'.cell? ⟨w.heap.size, 9, none⟩ = some (.map m))) (by kernel_rfl) (HH.out _ (below_drew1 (Below.refl wa.heap.size wa))) (fun hHeld => ?_)
  refine wpAnyH_take (i := 0) (v := ?vc0_1) rfl (by kernel_rfl) (by kernel_rfl) (by kernel_rfl) (fun _ _ _ h => h) (Or.inl ⟨by rfl, ?hyc0_1⟩) (by assumption) ?restc0_1
  case hyc0_1 => (intro w0 hSw; (try dsimp only at hSw); go_simp; try with_reducible rfl)
  case' restc0_1 => try simp only [Act.put, List.getElem_toArray, List.getElem_cons_zero, List.getElem_cons_succ, List.setIfInBounds_toArray, List.set_cons_zero, List.set_cons_succ]
  refine wpAnyH_take (i := 1) (v := ?vc1_2) rfl (by kernel_rfl) (by kernel_rfl) (by kernel_rfl) (fun _ _ _ h => h) (Or.inl ⟨by rfl, ?hyc1_2⟩) (by assumption) ?restc1_2
  case hyc1_2 => (intro w0 hSw; (try dsimp only at hSw); go_simp; try with_reducible rfl)
  case' restc1_2 => try simp only [Act.put, List.getElem_toArray, List.getElem_cons_zero, List.getElem_cons_succ, List.setIfInBounds_toArray, List.set_cons_zero, List.set_cons_succ]
  refine wpAnyH_take (i := 3) (v := ?vc3_3) rfl (by kernel_rfl) (by kernel_rfl) (by kernel_rfl) (fun _ _ _ h => h) (Or.inl ⟨by rfl, ?hyc3_3⟩) (by assumption) ?restc3_3
  case hyc3_3 => (intro w0 hSw; (try dsimp only at hSw); go_simp; try with_reducible rfl)
  case' restc3_3 => try simp only [Act.put, List.getElem_toArray, List.getElem_cons_zero, List.getElem_cons_succ, List.setIfInBounds_toArray, List.set_cons_zero, List.set_cons_succ]
  refine wpAnyH_take (i := 4) (v := ?vc4_4) rfl (by kernel_rfl) (by kernel_rfl) (by kernel_rfl) (fun _ _ _ h => h) (Or.inl ⟨by rfl, ?hyc4_4⟩) (by assumption) ?restc4_4
  case hyc4_4 => (intro w0 hSw; (try dsimp only at hSw); go_simp; try with_reducible rfl)
  case' restc4_4 => try simp only [Act.put, List.getElem_toArray, List.getElem_cons_zero, List.getElem_cons_succ, List.setIfInBounds_toArray, List.set_cons_zero, List.set_cons_succ]
  refine wpAnyH_ready (rs := [2]) (by kernel_rfl) (by simp) ?_
  refine AllReadyH.cons rfl (fun K hK => ?_) AllReadyH.nil
  go_simp
  refine (amount_any _ _ I o 1 (HII.out.below (bch HB.out (Hid.out (And.left (by assumption))) HB.out.size)) HG.out ⟨ho, by decide⟩).mono ?_
  rintro e w6 ⟨rfl, hb6⟩
  have HB6 := Lib.hid (bch (below_drew1 (Below.refl wa.heap.size wa)) hb6 (Below.size (below_drew1 (Below.refl wa.heap.size wa))))
  clear hb6
  refine hK.out _ _ (HH.out _ (HB6.out)) (fun hHeld => ?_)
  clear hK K
  try simp only [Act.put, List.getElem_toArray, List.getElem_cons_zero, List.getElem_cons_succ, List.setIfInBounds_toArray, List.set_cons_zero, List.set_cons_succ]
  refine wpAnyH_ready (rs := [5]) (by kernel_rfl) (by simp) ?_
  refine AllReadyH.cons rfl (fun K hK => ?_) AllReadyH.nil
  go_simp
  refine (amount_any _ _ I o 4 (HII.out.below (bch HB.out HB6.out HB.out.size)) HG.out ⟨ho, by decide⟩).mono ?_
  rintro e w7 ⟨rfl, hb7⟩
  have HB7 := Lib.hid (bch HB6.out hb7 HB6.out.size)
  clear hb7
  refine hK.out _ _ (HH.out _ (HB7.out)) (fun hHeld => ?_)
  clear hK K
  try simp only [Act.put, List.getElem_toArray, List.getElem_cons_zero, List.getElem_cons_succ, List.setIfInBounds_toArray, List.set_cons_zero, List.set_cons_succ]
  refine wpAnyH_take (i := 6) (v := ?vc6_5) rfl (by kernel_rfl) (by kernel_rfl) (by kernel_rfl) (fun _ _ _ h => h) (Or.inl ⟨by rfl, ?hyc6_5⟩) (by assumption) ?restc6_5
  case hyc6_5 => (intro w0 hSw; (try dsimp only at hSw); go_simp; try with_reducible rfl)
  case' restc6_5 => try simp only [Act.put, List.getElem_toArray, List.getElem_cons_zero, List.getElem_cons_succ, List.setIfInBounds_toArray, List.set_cons_zero, List.set_cons_succ]
  refine wpAnyH_take (i := 7) (v := ?vc7_6) rfl (by kernel_rfl) (by kernel_rfl) (by kernel_rfl) (fun _ _ _ h => h) (Or.inl ⟨by rfl, ?hyc7_6⟩) (by assumption) ?restc7_6
  case hyc7_6 => (intro w0 hSw; (try dsimp only at hSw); go_simp; try with_reducible rfl)
  case' restc7_6 => try simp only [Act.put, List.getElem_toArray, List.getElem_cons_zero, List.getElem_cons_succ, List.setIfInBounds_toArray, List.set_cons_zero, List.set_cons_succ]
  refine wpAnyH_done (by kernel_rfl) ?_ _
  refine NoPanic.normal ?_
  have hw2 : IntKind.i64.wrap (In.amtI I o 1 - In.amtI I o 4) = In.amtI I o 1 - In.amtI I o 4 := IntWalk.i64_in _ (by omega)
  clear hHeld HH
  rw [hw2]
  go_wp2_with fail
  go_ret
  exact ⟨rfl, bch HB.out HB7.out HB.out.size⟩
end Go.Proofs.YtnfbhocppijbjaaDoor
/- A core cancels an order. -/
namespace Go.Proofs.YtnfbhocppijbjaaDoor
open Go.RowKit Go.Maps Co Key Rw Sa Od

namespace Co
def cstopE (c : Cor) (o : Int) : Int :=
  if o < 1 ∨ (c.l.length : Int) < o then 4 else match c.l[o.toNat - 1]? with | none => 4 | some s => if goingB s = true then 0 else 92
def cstopC (c : Cor) (o : Int) : Cor := if cstopE c o = 0 then
    (match c.l[o.toNat - 1]? with | none => c | some s => { c with l := c.l.set (o.toNat - 1) (Sa.stopI s) }) else c
end Co
set_option linter.unusedSimpArgs false in
set_option linter.unusedVariables false in
set_option maxRecDepth 100000 in
set_option maxHeartbeats 16000000 in
theorem cstop_any {B : Nat} {w : World} {cb bb pm bm : Nat} {vl vb vI : Value} {c : Cor} (h : Cw B w cb bb pm bm vl vb vI c) (o : Int) (ho : -9223372036854775808 ≤ o ∧ o ≤ 9223372036854775807) (hl : c.l.length ≤ 100000) :
    Calls Tryd.prog 27 #[.pointer (some ⟨cb, 0, none⟩), .int .i64 o] w fun e w' => e = .returned (.int .i64 (cstopE c o)) ∧ Cw B w' cb bb pm bm vl vb vI (cstopC c o) ∧ Turned (Cs cb bb pm bm vl vb) w w' := by
  obtain ⟨A, cl, rfl, _⟩ := own_slice h.ol
  have HC := Lib.hid h
  clear h
  go_enter Tryd.func27, Tryd.ntmps27
  go_wp2_with fail
  refine (corder_any HC.out o ho hl).mono ?_
  rintro e w1 ⟨hyes, hno, hb⟩
  have HB1 := Lib.hid hb; have HC1 := Lib.hid (HC.out.below hb)
  clear hb
  by_cases hn : o < 1 ∨ (c.l.length : Int) < o
  · obtain rfl := hno hn
    have HE := Lib.hid (show cstopE c o = 4 by unfold cstopE; rw [if_pos hn])
    have HCC := Lib.hid (show cstopC c o = c by unfold cstopC; rw [if_neg (by rw [HE.out]; decide)])
    clear hyes hno hn
    go_upto_region 2 with (fail)
    obtain ⟨w2, hw2⟩ : ∃ w2, w2 = w1.alloc (.cells (sgA sg0) tSaga) := ⟨_, rfl⟩
    rw [← hw2]
    have hb2 : Below w1.heap.size w1 w2 := by rw [hw2]; exact below_alloc _ _
    have HB2 := Lib.hid (bch HB1.out hb2 HB1.out.size); have HC2 := Lib.hid (HC1.out.below hb2)
    clear hw2 hb2
    go_wp2_with fail
    go_ret
    exact ⟨by rw [HE.out]; rfl, by rw [HCC.out]; exact HC2.out, Turned.of_below HB2.out⟩
  · have ho1 : 1 ≤ o := by omega
    obtain ⟨s, hs⟩ : ∃ s, c.l[o.toNat - 1]? = some s := ⟨_, List.getElem?_eq_getElem (by omega)⟩
    obtain rfl := hyes s ho1 hs
    obtain ⟨kk, rfl⟩ : ∃ kk : Nat, o = (kk : Int) + 1 := ⟨(o - 1).toNat, by omega⟩
    have hkk : ((kk : Int) + 1).toNat - 1 = kk := by omega
    rw [hkk] at hs
    have hkl : kk < c.l.length := (List.getElem?_eq_some_iff.1 hs).1
    have HS := Lib.hid hs
    have HR := Lib.hid (show cstopE c ((kk : Int) + 1) = if goingB s = true then 0 else 92 by unfold cstopE; rw [if_neg hn, hkk, hs])
    clear hyes hno hn hs
    go_upto_region 4 with (fail)
    obtain ⟨w2, hw2⟩ : ∃ w2, w2 = w1.alloc (.cells (sgA s) tSaga) := ⟨_, rfl⟩
    rw [← hw2]
    have hb2 : Below w1.heap.size w1 w2 := by rw [hw2]; exact below_alloc _ _
    have HS2 := Lib.hid (show w2.heap[w1.heap.size]? = some (.cells (sgA s) tSaga (0, 0)) by rw [hw2]; exact heap_new _ _)
    have HB2 := Lib.hid (bch HB1.out hb2 HB1.out.size); have HC2 := Lib.hid (HC1.out.below hb2)
    have hz1 : w.heap.size ≤ w1.heap.size := HB1.out.size
    clear hw2 hb2
    generalize w1.heap.size = b5 at HS2 hz1 ⊢
    obtain ⟨c0, c1, c2, c3, c4, c5, c6, c7, c8, c9, c10, c11⟩ := sg_box HS2.out
    go_wp2_with fail
    cases hr : goingB s with
    | false =>
      refine (stop_no s w2 hr).mono ?_
      rintro e w3 ⟨rfl, hb⟩
      have HE := Lib.hid (show cstopE c ((kk : Int) + 1) = 92 by rw [HR.out, hr]; rfl)
      have HCC := Lib.hid (show cstopC c ((kk : Int) + 1) = c by unfold cstopC; rw [if_neg (by rw [HE.out]; decide)])
      have HS3 := Lib.hid (heap_keep HS2.out hb); have HB3 := Lib.hid (bch HB2.out hb HB2.out.size); have HC3 := Lib.hid (HC2.out.below hb)
      clear hb c0 c1 c2 c3 c4 c5 c6 c7 c8 c9 c10 c11 HS2 HB2
      obtain ⟨c0, c1, c2, c3, c4, c5, c6, c7, c8, c9, c10, c11⟩ := cell12 HS3.out
      obtain ⟨f0, f1, f2, f3, f4, f5, f6, f7, f8, f9, f10, f11⟩ := froz12 HS3.out
      go_upto_region 5 with (fail)
      obtain ⟨w4, hw4⟩ : ∃ w4, w4 = set12w w3 b5 (.int .i64 0) (.string ⟨#[]⟩) (.string ⟨#[]⟩) (.int .i64 0) (.int .i64 0) (.int .i64 0) (.int .i64 0) (.int .i64 0) (.int .i64 0) (.int .i64 0) (.int .i64 0) (.bool false) := ⟨_, rfl⟩
      rw [show (((((((((((w3.setCell ⟨b5, 0, none⟩ (.int .i64 0)).setCell ⟨b5, 1, none⟩ (.string ⟨#[]⟩)).setCell ⟨b5, 2, none⟩ (.string ⟨#[]⟩)).setCell ⟨b5, 3, none⟩ (.int .i64 0)).setCell ⟨b5, 4, none⟩ (.int .i64 0)).setCell ⟨b5, 5, none⟩ (.int .i64 0)).setCell ⟨b5, 6, none⟩ (.int .i64 0)).setCell ⟨b5, 7, none⟩ (.int .i64 0)).setCell ⟨b5, 8, none⟩ (.int .i64 0)).setCell ⟨b5, 9, none⟩ (.int .i64 0)).setCell ⟨b5, 10, none⟩ (.int .i64 0)).setCell ⟨b5, 11, none⟩ (.bool false) = w4 from hw4.symm]
      have ht4 : Turned (fun j => j = b5) w3 w4 := by rw [hw4]; exact turned_set12 _ _ _ _ _ _ _ _ _ _ _ _ _ _
      have HS4 := Lib.hid (show w4.heap[b5]? = some (.cells #[.int .i64 0, .string ⟨#[]⟩, .string ⟨#[]⟩, .int .i64 0, .int .i64 0, .int .i64 0, .int .i64 0, .int .i64 0, .int .i64 0, .int .i64 0, .int .i64 0, .bool false] tSaga (0, 0)) by rw [hw4]; exact set12 HS3.out _ _ _ _ _ _ _ _ _ _ _ _)
      have HB4 := Lib.hid (Below.turned HB3.out ht4 (fun i h => by omega) HB3.out.size)
      have HC4 := Lib.hid (HC.out.below HB4.out)
      clear hw4 ht4 c0 c1 c2 c3 c4 c5 c6 c7 c8 c9 c10 c11 f0 f1 f2 f3 f4 f5 f6 f7 f8 f9 f10 f11 HS3 HB3 HC3 HC2
      go_wp2_with fail
      go_ret
      exact ⟨by rw [HE.out]; rfl, by rw [HCC.out]; exact HC4.out, Turned.of_below HB4.out⟩
    | true =>
      refine (stop_yes s w2 hr).mono ?_
      obtain ⟨t, ht0⟩ : ∃ t, Sa.stopI s = t := ⟨_, rfl⟩
      rw [ht0]
      rintro e w3 ⟨rfl, hb⟩
      have HE := Lib.hid (show cstopE c ((kk : Int) + 1) = 0 by rw [HR.out, hr]; rfl)
      have HCC := Lib.hid (show cstopC c ((kk : Int) + 1) = { c with l := c.l.set kk t } by unfold cstopC; rw [if_pos HE.out, hkk, HS.out]; simp only [ht0])
      clear ht0 hr
      have HS3 := Lib.hid (heap_keep HS2.out hb); have HB3 := Lib.hid (bch HB2.out hb HB2.out.size); have HC3 := Lib.hid (HC2.out.below hb)
      clear hb c0 c1 c2 c3 c4 c5 c6 c7 c8 c9 c10 c11 HS2 HB2
      obtain ⟨c0, c1, c2, c3, c4, c5, c6, c7, c8, c9, c10, c11⟩ := cell12 HS3.out
      obtain ⟨f0, f1, f2, f3, f4, f5, f6, f7, f8, f9, f10, f11⟩ := froz12 HS3.out
      go_upto_region 5 with (fail)
      obtain ⟨w4, hw4⟩ : ∃ w4, w4 = set12w w3 b5 (.int .i64 t.id) (.string ⟨t.ref.toArray⟩) (.string ⟨t.sku.toArray⟩) (.int .i64 t.qty) (.int .i64 t.amt) (.int .i64 t.d0) (.int .i64 t.d1) (.int .i64 t.d2) (.int .i64 t.d3) (.int .i64 t.d4) (.int .i64 t.d5) (.bool t.can) := ⟨_, rfl⟩
      rw [show (((((((((((w3.setCell ⟨b5, 0, none⟩ (.int .i64 t.id)).setCell ⟨b5, 1, none⟩ (.string ⟨t.ref.toArray⟩)).setCell ⟨b5, 2, none⟩ (.string ⟨t.sku.toArray⟩)).setCell ⟨b5, 3, none⟩ (.int .i64 t.qty)).setCell ⟨b5, 4, none⟩ (.int .i64 t.amt)).setCell ⟨b5, 5, none⟩ (.int .i64 t.d0)).setCell ⟨b5, 6, none⟩ (.int .i64 t.d1)).setCell ⟨b5, 7, none⟩ (.int .i64 t.d2)).setCell ⟨b5, 8, none⟩ (.int .i64 t.d3)).setCell ⟨b5, 9, none⟩ (.int .i64 t.d4)).setCell ⟨b5, 10, none⟩ (.int .i64 t.d5)).setCell ⟨b5, 11, none⟩ (.bool t.can) = w4 from hw4.symm]
      have ht4 : Turned (fun j => j = b5) w3 w4 := by rw [hw4]; exact turned_set12 _ _ _ _ _ _ _ _ _ _ _ _ _ _
      have HS4 := Lib.hid (show w4.heap[b5]? = some (.cells #[.int .i64 t.id, .string ⟨t.ref.toArray⟩, .string ⟨t.sku.toArray⟩, .int .i64 t.qty, .int .i64 t.amt, .int .i64 t.d0, .int .i64 t.d1, .int .i64 t.d2, .int .i64 t.d3, .int .i64 t.d4, .int .i64 t.d5, .bool t.can] tSaga (0, 0)) by rw [hw4]; exact set12 HS3.out _ _ _ _ _ _ _ _ _ _ _ _)
      have HB4 := Lib.hid (Below.turned HB3.out ht4 (fun i h => by omega) HB3.out.size)
      have HC4 := Lib.hid (HC.out.below HB4.out)
      clear hw4 ht4 c0 c1 c2 c3 c4 c5 c6 c7 c8 c9 c10 c11 f0 f1 f2 f3 f4 f5 f6 f7 f8 f9 f10 f11 HS3 HB3 HC3 HC2
      rcases own_ptr HC.out.ol with ⟨_, h0⟩ | ⟨g, c2', es, hgB, hgl, hgc⟩
      · omega
      injection es with es1 es2 es3; subst es1; clear es2 es3
      obtain ⟨c0, c1, c2, c3, c4, c5, c6, c7, c8, c9, c10, c11⟩ := cell12 HS4.out
      obtain ⟨y0, y1⟩ := HC4.out.c01
      have r0 := own_cellK encS_len (by decide) HC4.out.ol HS.out 0 (by decide)
      have r1 := own_cellK encS_len (by decide) HC4.out.ol HS.out 1 (by decide)
      have r2 := own_cellK encS_len (by decide) HC4.out.ol HS.out 2 (by decide)
      have r3 := own_cellK encS_len (by decide) HC4.out.ol HS.out 3 (by decide)
      have r4 := own_cellK encS_len (by decide) HC4.out.ol HS.out 4 (by decide)
      have r5 := own_cellK encS_len (by decide) HC4.out.ol HS.out 5 (by decide)
      have r6 := own_cellK encS_len (by decide) HC4.out.ol HS.out 6 (by decide)
      have r7 := own_cellK encS_len (by decide) HC4.out.ol HS.out 7 (by decide)
      have r8 := own_cellK encS_len (by decide) HC4.out.ol HS.out 8 (by decide)
      have r9 := own_cellK encS_len (by decide) HC4.out.ol HS.out 9 (by decide)
      have r10 := own_cellK encS_len (by decide) HC4.out.ol HS.out 10 (by decide)
      have r11 := own_cellK encS_len (by decide) HC4.out.ol HS.out 11 (by decide)
      simp only [encS, sgA, List.getElem?_cons_zero, List.getElem?_cons_succ, Nat.add_zero] at r0 r1 r2 r3 r4 r5 r6 r7 r8 r9 r10 r11
      have q0 := HC4.out.ol.frozenAt (kk * 12)
      have q1 := HC4.out.ol.frozenAt (kk * 12 + 1)
      have q2 := HC4.out.ol.frozenAt (kk * 12 + 2)
      have q3 := HC4.out.ol.frozenAt (kk * 12 + 3)
      have q4 := HC4.out.ol.frozenAt (kk * 12 + 4)
      have q5 := HC4.out.ol.frozenAt (kk * 12 + 5)
      have q6 := HC4.out.ol.frozenAt (kk * 12 + 6)
      have q7 := HC4.out.ol.frozenAt (kk * 12 + 7)
      have q8 := HC4.out.ol.frozenAt (kk * 12 + 8)
      have q9 := HC4.out.ol.frozenAt (kk * 12 + 9)
      have q10 := HC4.out.ol.frozenAt (kk * 12 + 10)
      have q11 := HC4.out.ol.frozenAt (kk * 12 + 11)
      have hw1 : IntKind.i64.wrap ((kk : Int) + 1 - 1) = kk := by rw [show (kk : Int) + 1 - 1 = kk by omega]; exact IntWalk.i64_in _ (by omega)
      have hkI : (kk : Int) < c.l.length := by omega
      have hkI0 : (0 : Int) ≤ kk := by omega
      have hgne : g ≠ b5 := by omega
      go_wp2_with fail
      go_region
      go_wp2_with fail
      obtain ⟨w5, hw5⟩ : ∃ w5, w5 = (set12k w4 g kk t).drew := ⟨_, rfl⟩
      rw [show ((((((((((((w4.setCell ⟨g, kk * 12, none⟩ (.int .i64 t.id)).setCell ⟨g, kk * 12 + 1, none⟩ (.string ⟨t.ref.toArray⟩)).setCell ⟨g, kk * 12 + 2, none⟩ (.string ⟨t.sku.toArray⟩)).setCell ⟨g, kk * 12 + 3, none⟩ (.int .i64 t.qty)).setCell ⟨g, kk * 12 + 4, none⟩ (.int .i64 t.amt)).setCell ⟨g, kk * 12 + 5, none⟩ (.int .i64 t.d0)).setCell ⟨g, kk * 12 + 6, none⟩ (.int .i64 t.d1)).setCell ⟨g, kk * 12 + 7, none⟩ (.int .i64 t.d2)).setCell ⟨g, kk * 12 + 8, none⟩ (.int .i64 t.d3)).setCell ⟨g, kk * 12 + 9, none⟩ (.int .i64 t.d4)).setCell ⟨g, kk * 12 + 10, none⟩ (.int .i64 t.d5)).setCell ⟨g, kk * 12 + 11, none⟩ (.bool t.can)).drew = w5 from hw5.symm]
      have ht5 : Turned (fun j => j = g) w4 w5 := by rw [hw5]; exact (turned_set12k w4 g kk t).drew
      have HC5 := Lib.hid (show Cw B w5 cb bb pm bm (.slice (some ⟨g, 0, none⟩) c.l.length cl) vb vI { c with l := c.l.set kk t } by rw [hw5]; exact (show Cw B (set12k w4 g kk t) cb bb pm bm (.slice (some ⟨g, 0, none⟩) c.l.length cl) vb vI { c with l := c.l.set kk t } from HC4.out.setSaga hkl t).below (below_drew1 (Below.refl _ _)))
      go_ret
      exact ⟨by rw [HE.out]; rfl, by rw [HCC.out]; exact HC5.out, (Turned.of_below HB4.out).trans (ht5.mono (fun i h => .inr (.inr (by rw [h]; rfl))))⟩
end Go.Proofs.YtnfbhocppijbjaaDoor

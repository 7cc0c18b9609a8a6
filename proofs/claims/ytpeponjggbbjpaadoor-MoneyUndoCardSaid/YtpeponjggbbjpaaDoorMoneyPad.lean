/- money.Pad: what it computes. -/
import Derived.Test.YtpeponjggbbjpaaDoorMoneyText
import Derived.Lib.ItoaLen
namespace Go.Proofs.YtpeponjggbbjpaaDoor
open Go.RowKit Mon

theorem padM_no {n width : Int} (h : n < 0 ∨ width < 1 ∨ 18 < width ∨ width < ((Lib.itoa n).length : Int)) : padM n width = [] := by unfold padM; rw [if_pos h]

theorem rep_zero (k : Nat) : Lib.repeatL [48] k = List.replicate k 48 := by
  induction k with
  | zero => rfl
  | succ k ih =>
    show [48] ++ Lib.repeatL [48] k = _
    rw [ih]
    rfl
theorem join_bytes (a b : List UInt8) : (⟨a.toArray⟩ : ByteArray) ++ ⟨b.toArray⟩ = ⟨(a ++ b).toArray⟩ := by
  apply ByteArray.ext
  apply Array.toList_inj.1
  rw [ByteArray.data_append, Array.toList_append]

set_option maxHeartbeats 1000000 in
theorem pad_any (n width : Int) (w : World) (hn : InR n) (hM : MW w) :
    Calls Tryd.prog 14 #[.int .i64 n, .int .i64 width] w fun e w' => e = .returned (.string ⟨(padM n width).toArray⟩) ∧ Below w.heap.size w w' := by
  have HQ := Lib.hid (put_any n w hn hM)
  have hsz : (⟨(Lib.itoa n).toArray⟩ : ByteArray).size = (Lib.itoa n).length := by show (Lib.itoa n).toArray.size = _; simp
  clear hM
  by_cases h : n < 0 ∨ width < 1 ∨ 18 < width ∨ width < ((Lib.itoa n).length : Int)
  · rw [padM_no h]
    have hsz' : ((⟨(Lib.itoa n).toArray⟩ : ByteArray).size : Int) = ((Lib.itoa n).length : Int) := by rw [hsz]
    generalize (⟨(Lib.itoa n).toArray⟩ : ByteArray) = s at HQ hsz hsz'
    rw [← hsz'] at h
    clear hsz hsz'
    go_enter Tryd.func14, Tryd.ntmps14
    go_wp2_with fail
    refine HQ.out.mono ?_
    rintro e w1 ⟨rfl, hb⟩
    have HB := Lib.hid hb
    clear hb
    go_wp2_with fail
    all_goals first
      | omega
      | (go_ret; exact ⟨rfl, HB.out⟩)
  · have hp : padM n width = List.replicate (width.toNat - (Lib.itoa n).length) 48 ++ Lib.itoa n := by unfold padM; rw [if_neg h]
    obtain ⟨c, hc⟩ : ∃ c : Nat, width.toNat - (Lib.itoa n).length = c := ⟨_, rfl⟩
    rw [hc, ← rep_zero] at hp
    rw [hp, ← join_bytes]
    have hc0 : width - ((Lib.itoa n).length : Int) = (c : Int) := by omega
    have hsz' : ((⟨(Lib.itoa n).toArray⟩ : ByteArray).size : Int) = ((Lib.itoa n).length : Int) := by rw [hsz]
    rw [← hsz'] at h hc0
    clear hsz'
    have hsz2 := hsz
    clear hp hc hsz
    generalize (⟨(Lib.itoa n).toArray⟩ : ByteArray) = s at HQ hsz2 h hc0 ⊢
    have HRp : Hid (∀ W : World, Calls Tryd.prog 22 #[.string ⟨#[48]⟩, .int .i64 c] W fun e w' => e = .returned (.string ⟨(Lib.repeatL [48] c).toArray⟩) ∧ Below W.heap.size W w') := fun W => Tryd.strings_Repeat ⟨#[48]⟩ c W (by omega) (by show 1 * c ≤ _; omega)
    clear hsz2
    have n1 : ¬ n < 0 := by omega
    have n2 : ¬ width < 1 := by omega
    have n3 : ¬ 18 < width := by omega
    have n4 : ¬ width < (s.size : Int) := by omega
    have hcat : ¬ 9223372036854775807 < (Lib.repeatL [48] c).length + s.size := by rw [rep_zero, List.length_replicate]; omega
    clear h
    go_enter Tryd.func14, Tryd.ntmps14
    go_wp2_with fail
    refine HQ.out.mono ?_
    rintro e w1 ⟨rfl, hb⟩
    have HB := Lib.hid hb
    clear hb
    go_wp2_with fail
    refine (HRp.out _).mono ?_
    rintro e w2 ⟨rfl, hb2⟩
    have HB2 := Lib.hid (bch HB.out hb2 HB.out.size)
    clear hb2
    go_wp2_with fail
    go_ret
    exact ⟨rfl, HB2.out⟩
end Go.Proofs.YtpeponjggbbjpaaDoor

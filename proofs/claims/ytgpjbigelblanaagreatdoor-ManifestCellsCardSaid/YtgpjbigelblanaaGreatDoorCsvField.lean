/- csv.field: a field, printed. -/
import Derived.Test.YtgpjbigelblanaaGreatDoorCsvPrintSpec
namespace Go.Proofs.YtgpjbigelblanaaGreatDoor
open Go.RowKit

/-- The library's own variable MaxLen holds a number (whichever). -/
def HasMax (w : World) : Prop := ∃ m, w.cell? ⟨3, 0, none⟩ = some (.int .i64 m) ∧ 3 < w.heap.size
theorem HasMax.below {w w' : World} (h : HasMax w) (hb : Below w.heap.size w w') : HasMax w' := by
  obtain ⟨m, h1, h2⟩ := h
  exact ⟨m, (hb.cell h2).trans h1, Nat.lt_of_lt_of_le h2 hb.size⟩
theorem HasMax.to {w w' : World} (h : HasMax w) {B : Nat} (hb : Below B w w') (hB : w.heap.size ≤ B) : HasMax w' := h.below (hb.mono hB)

set_option maxHeartbeats 2000000 in
theorem field_any (s : ByteArray) (w : World) (hs : s.size ≤ 1000000) (hM : HasMax w) :
    Calls Tryz.prog 64 #[.string s] w fun e w' => e = .returned (.string ⟨(Csv.fieldOf s.data.toList).toArray⟩) ∧ Below w.heap.size w w' := by
  have HC : Hid (∀ W : World, Calls Tryz.prog 88 #[.string s, .string ⟨#[44, 34, 13, 10]⟩] W fun e w' => e = .returned (.bool (needs s.data.toList)) ∧ Below W.heap.size W w') := fun W => containsAny_any s W hs
  have HM := Lib.hid hM
  have HR : Hid (∀ W : World, HasMax W → Calls Tryz.prog 89 #[.string s, .string ⟨#[34]⟩, .string ⟨#[34, 34]⟩] W fun e w' => e = .returned (.string ⟨(Csv.dbl s.data.toList).toArray⟩) ∧ Below W.heap.size W w') := by
    rintro W ⟨m, hm, _⟩
    refine (Tryz.strings_ReplaceAll s ⟨#[34]⟩ ⟨#[34, 34]⟩ m W (by omega) hm (by decide) ?_).mono ?_
    · have h1 : Lib.countB s ⟨#[34]⟩ ≤ s.data.toList.length + 1 := Lib.count_le _ _
      have h2 : s.data.toList.length = s.size := by simp
      have h3 : (⟨#[34, 34]⟩ : ByteArray).size = 2 := rfl
      rw [h3]
      omega
    · rintro e w' ⟨rfl, hb⟩
      exact ⟨by rw [show (⟨#[34]⟩ : ByteArray).data.toList = [34] from rfl, show (⟨#[34, 34]⟩ : ByteArray).data.toList = [34, 34] from rfl, Csv.replaceAll_dbl], hb⟩
  have hd := Csv.dbl_len s.data.toList
  have hlen : s.data.toList.length = s.size := by simp
  have hdl : (⟨(Csv.dbl s.data.toList).toArray⟩ : ByteArray).size ≤ 2000000 := by
    show (Csv.dbl s.data.toList).toArray.size ≤ _
    simp
    omega
  obtain ⟨t, ht⟩ : ∃ t, (⟨(Csv.dbl s.data.toList).toArray⟩ : ByteArray) = t := ⟨_, rfl⟩
  have HF := Lib.hid (show Csv.fieldOf s.data.toList = if needs s.data.toList = true then 34 :: (t.data.toList ++ [34]) else s.data.toList by rw [← ht]; rfl)
  rw [ht] at HR hdl
  clear ht hd hlen hM
  obtain ⟨b, hb⟩ : ∃ b, needs s.data.toList = b := ⟨_, rfl⟩
  rw [hb] at HC HF
  clear hb
  cases b
  · go_enter Tryz.func64, Tryz.ntmps64
    go_wp2_with (go_at_call 88; refine (HC.out _).mono ?_; rintro e w1 ⟨rfl, hb1⟩)
    go_ret
    exact ⟨by rw [HF.out]; simp, hb1⟩
  · go_enter Tryz.func64, Tryz.ntmps64
    go_wp2_with (first
      | (go_at_call 88; refine (HC.out _).mono ?_; rintro e w1 ⟨rfl, hb1⟩; have HB1 := Lib.hid hb1; clear hb1)
      | (go_at_call 89; refine (HR.out _ (HM.out.below HB1.out)).mono ?_; rintro e w2 ⟨rfl, hb2⟩; have HB2 := Lib.hid (bch HB1.out hb2 HB1.out.size); clear hb2))
    go_ret
    refine ⟨?_, HB2.out⟩
    rw [HF.out]
    congr 2
end Go.Proofs.YtgpjbigelblanaaGreatDoor

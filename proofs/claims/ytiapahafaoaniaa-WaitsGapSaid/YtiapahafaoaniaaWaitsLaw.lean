/- law18: Same, Keys, WaitsGap. -/
import Derived.Test.YtiapahafaoaniaaWaitsRef2
import Derived.Test.YtiapahafaoaniaaWaitsWaited
namespace Go.Proofs.Ytiapahafaoaniaa
open Go.RowKit Go.Maps Wa Key

theorem lawWaitsGap_walk (t : Int) (w : World) (h1 : -9223372036854775808 ≤ t) (h2 : t ≤ 9223372036854775807) :
    Calls Try.prog 3 #[.int .i64 t] w fun e w' => e = .returned (.bool true) ∧ Below w.heap.size w w' := by
  go_enter Try.func3, Try.ntmps3
  go_wp2_with fail
  go_loopw [3] (fun i wr => ∃ k : Nat, i = .int .i64 ((k : Int) - 1) ∧ k ≤ 41 ∧ Hid (Below w.heap.size w wr)) (fun i _ => 41 - (intOf i + 1).toNat)
  case atStart => exact ⟨0, rfl, by omega, Below.refl _ _⟩
  case round =>
    obtain ⟨k, rfl, hk, HB⟩ := hrel
    by_cases h40 : k < 41
    · have hlt : (k : Int) - 1 < 40 := by omega
      go_wp2_with fail
      refine (gap_any ((k : Int) - 1) wr (by omega) (by omega)).mono ?_
      rintro e w0 ⟨rfl, hw⟩; subst hw
      go_wp2_with fail
      refine (refGap_any ((k : Int) - 1) wr).mono ?_
      rintro e w1 ⟨rfl, hb⟩
      have HB1 := Lib.hid (bch HB.out hb HB.out.size)
      clear hb
      go_wp2_with fail
      go_roundw
      case rel => exact ⟨k + 1, by go_num, by omega, HB1⟩
      case measure => simp [intOf]; omega
    · obtain rfl : k = 41 := by omega
      go_wp2_with fail
      refine (gap_any t wr h1 h2).mono ?_
      rintro e w0 ⟨rfl, hw⟩; subst hw
      go_wp2_with fail
      refine (refGap_any t wr).mono ?_
      rintro e w1 ⟨rfl, hb⟩
      have HB1 := Lib.hid (bch HB.out hb HB.out.size)
      clear hb
      go_wp2_with fail
      refine (waited_true w1).mono ?_
      rintro e w2 ⟨rfl, hb⟩
      have HB2 := Lib.hid (bch HB1.out hb HB1.out.size)
      clear hb
      go_wp2_with fail
      go_ret
      exact ⟨rfl, HB2.out⟩
end Go.Proofs.Ytiapahafaoaniaa

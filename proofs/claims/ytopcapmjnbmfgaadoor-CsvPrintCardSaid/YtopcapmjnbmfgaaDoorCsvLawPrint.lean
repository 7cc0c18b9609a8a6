/- The walk of consignorlaw04.CsvPrint: it answers true, and nothing that was there is written. -/
import Derived.Test.YtopcapmjnbmfgaaDoorCsvGreat
import Derived.Test.YtopcapmjnbmfgaaDoorCsvRefPrint
import Derived.Test.YtopcapmjnbmfgaaDoorCsvRowed
namespace Go.Proofs.YtopcapmjnbmfgaaDoor
open Go.RowKit

set_option maxHeartbeats 4000000 in
theorem lawCsvPrint_walk (v : Value) (L : List (List (List UInt8))) (w : World) (hv : Rowz w w.heap.size v L) (hM : HasMax w) :
    Calls Tryd.prog 3 #[v] w fun e w' => e = .returned (.bool true) ∧ Below w.heap.size w w' := by
  have HG := Lib.hid (great_any v L _ w hv)
  have HV := Lib.hid hv
  have HM := Lib.hid hM
  obtain ⟨A, n, c, rfl, _⟩ := hv
  clear hM
  cases hg : greatB L with
  | true =>
    have HG2 := HG.out
    rw [hg] at HG2
    have HG3 := Lib.hid HG2
    clear hg HG2
    go_enter Tryd.func3, Tryd.ntmps3
    go_wp2_with (first
      | (go_at_call 6; refine HG3.out.mono ?_; rintro e w1 ⟨rfl, rfl⟩)
      | (go_at_call 7; refine (rowed_true _).mono ?_; rintro e w1 ⟨rfl, hb⟩))
    go_ret
    exact ⟨rfl, hb⟩
  | false =>
    have HG2 := HG.out
    rw [hg] at HG2
    have HG3 := Lib.hid HG2
    have HF := Lib.hid (fits_of hg).1
    clear hg HG2
    go_enter Tryd.func3, Tryd.ntmps3
    go_wp2_with (first
      | (go_at_call 6; refine HG3.out.mono ?_; rintro e w1 ⟨rfl, rfl⟩)
      | (go_at_call 8; refine (print_any _ L _ _ HV.out (Nat.le_refl _) HF.out HM.out).mono ?_; rintro e w1 ⟨rfl, hb⟩; have HB1 := Lib.hid hb; clear hb)
      | (go_at_call 9; refine (refPrint_any _ L _ _ (HV.out.below HB1.out (Nat.le_refl _)) HF.out).mono ?_; rintro e w2 ⟨rfl, rfl⟩)
      | (go_at_call 7; refine (rowed_true _).mono ?_; rintro e w3 ⟨rfl, hb⟩; have HB3 := Lib.hid (bch HB1.out hb HB1.out.size); clear hb))
    go_ret
    exact ⟨by simp, HB3.out⟩
end Go.Proofs.YtopcapmjnbmfgaaDoor

/- consignorlaw04.Great: are rows more than is gone through? -/
import Derived.Test.YtopcapmjnbmfgaaDoorCsvPrint
import Derived.Test.YtopcapmjnbmfgaaDoorCsvOwn
namespace Go.Proofs.YtopcapmjnbmfgaaDoor
open Go.RowKit

def longF (f : List UInt8) : Bool := decide (200 < f.length)
def longR (r : List (List UInt8)) : Bool := decide (20 < r.length) || r.any longF
def greatB (L : List (List (List UInt8))) : Bool := decide (40 < L.length) || L.any longR

theorem fits_of {L : List (List (List UInt8))} (h : greatB L = false) : Fits L ∧ L.length ≤ 40 ∧ (∀ r ∈ L, r.length ≤ 20 ∧ ∀ f ∈ r, f.length ≤ 200) := by
  unfold greatB at h
  rw [Bool.or_eq_false_iff] at h
  obtain ⟨h1, h2⟩ := h
  have h1 : L.length ≤ 40 := by simpa using h1
  have h3 : ∀ r ∈ L, r.length ≤ 20 ∧ ∀ f ∈ r, f.length ≤ 200 := by
    intro r hr
    have := List.any_eq_false.1 h2 r hr
    simp only [longR, Bool.or_eq_true, not_or, decide_eq_true_eq, List.any_eq_true, not_exists, not_and, longF] at this
    exact ⟨by omega, fun f hf => by have := this.2 f hf; omega⟩
  exact ⟨⟨by omega, fun r hr => by have := (h3 r hr).1; omega, fun r hr f hf => by have := (h3 r hr).2 f hf; omega⟩, h1, h3⟩

theorem drop_of {α : Type} {L : List α} {j : Nat} {x : α} (h : L[j]? = some x) : L.drop j = x :: L.drop (j + 1) := by
  obtain ⟨hk, e⟩ := List.getElem?_eq_some_iff.1 h
  rw [List.drop_eq_getElem_cons hk, e]

set_option maxHeartbeats 4000000 in
theorem great_any (v : Value) (L : List (List (List UInt8))) (B : Nat) (w : World) (hv : Rowz w B v L) :
    Calls Tryd.prog 6 #[v] w fun e w' => e = .returned (.bool (greatB L)) ∧ w = w' := by
  obtain ⟨A, n, c, rfl, hn, hc, hh⟩ := hv
  have HH := Lib.hid hh; clear hh
  have HL := Lib.hid hn
  clear hn
  by_cases h40 : (40 : Int) < (n : Int)
  · have HG := Lib.hid (show greatB L = true by
      unfold greatB
      have : 40 < L.length := by rw [HL.out]; omega
      simp [this])
    go_enter Tryd.func6, Tryd.ntmps6
    go_wp2
    go_ret
    exact ⟨ret_bool HG.out.symm, rfl⟩
  · have HG := Lib.hid (show greatB L = L.any longR by
      unfold greatB
      have : ¬ 40 < L.length := by rw [HL.out]; omega
      simp [this])
    have hn40 : n ≤ 40 := by omega
    go_enter Tryd.func6, Tryd.ntmps6
    go_wp2_with fail
    go_loop [3] (fun i => ∃ j : Nat, j ≤ n ∧ i = .int .i64 j ∧ Hid (L.any longR = (L.drop j).any longR)) (fun i => n - (intOf i).toNat)
    case atStart => exact ⟨0, Nat.zero_le _, rfl, rfl⟩
    case round =>
      obtain ⟨j, hj, rfl, HA⟩ := hrel
      by_cases hlt : j < n
      · obtain ⟨r, hr⟩ : ∃ x, L[j]? = some x := ⟨_, List.getElem?_eq_getElem (by have := HL.out; omega)⟩
        obtain ⟨ad, u, rfl, had, hcell, hu⟩ := HH.out j r hr
        obtain ⟨Ai, ni, ci, rfl, hni, hci, hh⟩ := hu
        have HI := Lib.hid hh
        have HNI := Lib.hid hni
        have HD := Lib.hid (show L.any longR = (longR r || (L.drop (j + 1)).any longR) by rw [HA.out, drop_of hr]; rfl)
        clear hh hni hr
        by_cases h20 : (20 : Int) < (ni : Int)
        · have HT := Lib.hid (show greatB L = true by
            rw [HG.out, HD.out]
            have : 20 < r.length := by rw [HNI.out]; omega
            simp [longR, this])
          go_wp2_with fail
          go_ret
          exact ⟨ret_bool HT.out.symm, rfl⟩
        · have HR := Lib.hid (show longR r = r.any longF by
            unfold longR
            have : ¬ 20 < r.length := by rw [HNI.out]; omega
            simp [this])
          have hn20 : ni ≤ 20 := by omega
          go_wp2_with fail
          go_loop [4] (fun i => ∃ k : Nat, k ≤ ni ∧ i = .int .i64 k ∧ Hid (r.any longF = (r.drop k).any longF)) (fun i => ni - (intOf i).toNat)
          case atStart => exact ⟨0, Nat.zero_le _, rfl, rfl⟩
          case round =>
            obtain ⟨k, hk, rfl, HB⟩ := hrel
            by_cases hkt : k < ni
            · obtain ⟨f, hf⟩ : ∃ x, r[k]? = some x := ⟨_, List.getElem?_eq_getElem (by have := HNI.out; omega)⟩
              obtain ⟨ad2, u2, rfl, had2, hcell2, hu2⟩ := HI.out k f hf
              subst hu2
              obtain ⟨s, rfl⟩ : ∃ s : ByteArray, f = s.data.toList := ⟨⟨f.toArray⟩, by simp⟩
              have hss : (⟨s.data.toList.toArray⟩ : ByteArray) = s := by simp
              rw [hss] at hcell2
              have hsl : s.data.toList.length = s.size := by simp
              have HE := Lib.hid (show r.any longF = (longF s.data.toList || (r.drop (k + 1)).any longF) by rw [HB.out, drop_of hf]; rfl)
              have HSL := Lib.hid hsl
              clear hf hss hsl
              by_cases h200 : (200 : Int) < (s.size : Int)
              · have HT := Lib.hid (show greatB L = true by
                  rw [HG.out, HD.out, HR.out, HE.out]
                  have : longF s.data.toList = true := by unfold longF; rw [HSL.out, decide_eq_true_eq]; omega
                  rw [this, Bool.true_or, Bool.true_or])
                go_wp2_with fail
                go_ret
                exact ⟨ret_bool HT.out.symm, rfl⟩
              · have HF := Lib.hid (show r.any longF = (r.drop (k + 1)).any longF by
                  rw [HE.out]
                  have : longF s.data.toList = false := by unfold longF; rw [HSL.out, decide_eq_false_iff_not]; omega
                  rw [this, Bool.false_or])
                go_wp2_with fail
                go_round
                case rel => exact ⟨k + 1, by omega, by go_num, HF⟩
                case measure => simp [intOf]; omega
            · have HF := Lib.hid (show L.any longR = (L.drop (j + 1)).any longR by
                rw [HD.out, HR.out, HB.out, List.drop_of_length_le (by have := HNI.out; omega)]
                rfl)
              go_wp2_with fail
              go_round
              case rel => exact ⟨j + 1, by omega, by go_num, HF⟩
              case measure => simp [intOf]; omega
      · have HF := Lib.hid (show greatB L = false by
          rw [HG.out, HA.out, List.drop_of_length_le (by have := HL.out; omega)]
          rfl)
        go_wp2_with fail
        go_ret
        exact ⟨ret_bool HF.out.symm, rfl⟩

/-! ### The law: CsvPrint -/
end Go.Proofs.YtopcapmjnbmfgaaDoor

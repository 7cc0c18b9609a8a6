/- count3: a number's digits. -/
import Derived.Test.YtgpjbigelblanaaDoorStockCountLaw
namespace Go.Proofs.YtgpjbigelblanaaDoor
open Go.RowKit Go.Maps Key Mon Sk Rw

/-- string([]byte{c}). -/
theorem conv_one3 (W : World) (x : Int) (c : UInt8) (h : (c.toNat : Int) = x) : (convert 39 9 (.slice (some ⟨W.heap.size, 0, none⟩) 1 1)).run Tryd.prog (W.alloc (.cells #[.int .u8 x] 5)) = .ok (.string ⟨#[c]⟩) (W.alloc (.cells #[.int .u8 x] 5)) := by
  refine run_convert_bytes_back (P := Tryd.prog) (W.alloc (.cells #[.int .u8 x] 5)) 39 9 5 ⟨W.heap.size, 0, none⟩ 1 [c] Tryd.underlying39 Tryd.underlying5 Tryd.underlying9 (fun j hj => ?_)
  have hj0 : j = 0 := by simpa using hj
  subst hj0
  show _ = some (Value.int .u8 (c.toNat : Int))
  rw [h]
  exact one_new W (.int .u8 x) 5 0 _ rfl
set_option linter.unusedSimpArgs false in
set_option linter.unusedVariables false in
set_option maxRecDepth 100000 in
set_option maxHeartbeats 2000000 in
theorem count3_step (n : Nat) (hn : n < 256) (w : World) (hrec : 10 ≤ n → ∀ W, Calls Tryd.prog 12 #[.int .u8 ((n / 10 : Nat) : Int)] W fun e w' => e = .returned (.string ⟨(Lib.itoa ((n / 10 : Nat) : Int)).toArray⟩) ∧ Below W.heap.size W w') :
    Calls Tryd.prog 12 #[.int .u8 (n : Int)] w fun e w' => e = .returned (.string ⟨(Lib.itoa (n : Int)).toArray⟩) ∧ Below w.heap.size w w' := by
  have hd := digit_last hn
  have HREC := Lib.hid hrec
  clear hrec
  by_cases h10 : 10 ≤ n
  · have h10' : (10 : Int) ≤ (n : Int) := by omega
    obtain ⟨c, hcd, hci⟩ : ∃ c : UInt8, c = UInt8.ofNat (48 + n % 10) ∧ (c.toNat : Int) = 48 + (n : Int) % 10 := ⟨_, rfl, by simp; omega⟩
    have HI := Lib.hid (show Lib.itoa (n : Int) = Lib.itoa ((n / 10 : Nat) : Int) ++ [c] by rw [hcd]; exact hd.2 h10)
    have hcv := fun W => conv_one3 W (48 + (n : Int) % 10) c hci
    obtain ⟨D, hD⟩ : ∃ D, Lib.itoa ((n / 10 : Nat) : Int) = D := ⟨_, rfl⟩
    have hl : D.length ≤ 3 := by rw [← hD]; exact itoa_len 2 (by omega) (by simp; omega)
    simp only [hD] at HREC HI
    clear hd hcd hci hD
    go_enter Tryd.func12, Tryd.ntmps12
    go_wp2_with fail
    rw [show (n : Int) / 10 = ((n / 10 : Nat) : Int) by omega]
    refine (HREC.out h10 _).mono ?_
    rintro e w1 ⟨rfl, hb⟩
    have HB := Lib.hid (bch ((Below.refl w.heap.size w).alloc (Nat.le_refl _) _) hb (by simp))
    clear hb
    go_wp2_with fail
    go_ret
    refine ⟨?_, HB.out⟩
    rw [HI.out]
    exact congrArg (fun v => Ending.returned v) (congrArg Value.string (join_bytes _ [c]))
  · have h10' : ¬ (10 : Int) ≤ (n : Int) := by omega
    obtain ⟨c, hcd, hci⟩ : ∃ c : UInt8, c = UInt8.ofNat (48 + n) ∧ (c.toNat : Int) = 48 + (n : Int) % 10 := ⟨_, rfl, by simp; omega⟩
    have HI := Lib.hid (show Lib.itoa (n : Int) = [c] by rw [hcd]; exact hd.1 (by omega))
    have hcv := fun W => conv_one3 W (48 + (n : Int) % 10) c hci
    clear hd hcd hci
    go_enter Tryd.func12, Tryd.ntmps12
    go_wp2_with fail
    go_ret
    exact ⟨by rw [HI.out]; rfl, (Below.refl w.heap.size w).alloc (Nat.le_refl _) _⟩
theorem count3_any (n : Nat) (hn : n < 256) (w : World) : Calls Tryd.prog 12 #[.int .u8 (n : Int)] w fun e w' => e = .returned (.string ⟨(Lib.itoa (n : Int)).toArray⟩) ∧ Below w.heap.size w w' :=
  count3_step n hn w fun h1 W => count3_step (n / 10) (by omega) W fun h2 W2 => count3_step (n / 10 / 10) (by omega) W2 fun h3 => absurd h3 (by omega)
end Go.Proofs.YtgpjbigelblanaaDoor

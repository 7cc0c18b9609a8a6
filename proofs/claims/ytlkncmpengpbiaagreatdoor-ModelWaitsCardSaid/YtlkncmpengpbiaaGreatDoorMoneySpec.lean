/- What package money computes, as plain functions; no Go is in sight. -/
import Derived.Lib.ItoaNum
import Derived.Lib.ItoaMem
import Derived.Lib.ItoaLen
import Derived.Lib.ParseIntB
namespace Go.Proofs.YtlkncmpengpbiaaGreatDoor
namespace Mon
open Go.Lib

def InR (n : Int) : Prop := -9223372036854775808 ≤ n ∧ n ≤ 9223372036854775807
instance inRDec (n : Int) : Decidable (InR n) := inferInstanceAs (Decidable (_ ∧ _))

def addM (a b : Int) : Int × Bool := if InR (a + b) then (a + b, true) else (0, false)
def subM (a b : Int) : Int × Bool := if InR (a - b) then (a - b, true) else (0, false)

/-- The number that digits say, behind another one. -/
def valFrom (acc : Nat) (l : List UInt8) : Nat := l.foldl (fun a c => a * 10 + (c.toNat - 48)) acc
def Digit (c : UInt8) : Prop := 48 ≤ c.toNat ∧ c.toNat ≤ 57
instance digitDec (c : UInt8) : Decidable (Digit c) := inferInstanceAs (Decidable (_ ∧ _))

theorem valFrom_append (acc : Nat) (l m : List UInt8) : valFrom acc (l ++ m) = valFrom (valFrom acc l) m := by unfold valFrom; rw [List.foldl_append]
theorem valFrom_ge (l : List UInt8) (acc : Nat) : acc ≤ valFrom acc l := by
  induction l generalizing acc with
  | nil => exact Nat.le_refl _
  | cons c r ih => exact Nat.le_trans (by omega) (ih (acc * 10 + (c.toNat - 48)))
theorem valFrom_ge10 (c : UInt8) (l : List UInt8) (acc : Nat) : acc * 10 + (c.toNat - 48) ≤ valFrom acc (c :: l) := valFrom_ge l _

theorem digit_of (i : Nat) (h : i < 10) : (UInt8.ofNat (48 + i)).toNat = 48 + i := by simp; omega

theorem dec_snoc (u : Nat) : decDigits u = (if u < 10 then [] else decDigits (u / 10)) ++ [UInt8.ofNat (48 + u % 10)] := by
  by_cases h : u < 10
  · rw [decDigits_one h, if_pos h, Nat.mod_eq_of_lt h]; rfl
  · rw [if_neg h]
    conv => lhs; rw [decDigits, dif_neg h]

theorem dec_digit (u : Nat) : ∀ c ∈ decDigits u, Digit c := by
  induction u using Nat.strongRecOn with
  | _ u ih =>
    intro c hc
    rw [dec_snoc] at hc
    rcases List.mem_append.1 hc with hc | hc
    · by_cases h : u < 10
      · rw [if_pos h] at hc; cases hc
      · rw [if_neg h] at hc
        exact ih (u / 10) (by omega) c hc
    · simp only [List.mem_singleton] at hc
      subst hc
      unfold Digit
      rw [digit_of _ (Nat.mod_lt _ (by omega))]
      omega
theorem val_dec (u : Nat) : valFrom 0 (decDigits u) = u := by
  induction u using Nat.strongRecOn with
  | _ u ih =>
    rw [dec_snoc, valFrom_append]
    by_cases h : u < 10
    · rw [if_pos h]
      simp only [valFrom, List.foldl_cons, List.foldl_nil]
      rw [digit_of _ (Nat.mod_lt _ (by omega))]
      omega
    · rw [if_neg h, ih (u / 10) (by omega)]
      simp only [valFrom, List.foldl_cons, List.foldl_nil]
      rw [digit_of _ (Nat.mod_lt _ (by omega))]
      omega
theorem dec_ne_nil (u : Nat) : decDigits u ≠ [] := by rw [dec_snoc]; simp

theorem parseUintM_ok (M : Nat) (hM : M < 18446744073709551616) (l : List UInt8) (acc : Nat) (hd : ∀ c ∈ l, Digit c) (hv : valFrom acc l ≤ M) : parseUintM M acc l = .ok (valFrom acc l) := by
  induction l generalizing acc with
  | nil => rfl
  | cons c r ih =>
    have hc : 48 ≤ c.toNat ∧ c.toNat ≤ 57 := hd c (by simp)
    have h1 := valFrom_ge10 c r acc
    rw [parseUintM, if_pos hc, if_neg (by omega), if_neg (by omega)]
    exact ih _ (fun d hd' => hd d (by simp [hd'])) hv

theorem digit_head {c : UInt8} (h : Digit c) : ¬ c.toNat = 43 ∧ ¬ c.toNat = 45 := by unfold Digit at h; omega

theorem parse_itoa (n : Int) (h : InR n) : parseIntB 64 (itoa n) = .ok n := by
  obtain ⟨h0, h1⟩ := h
  by_cases hn : n < 0
  · obtain ⟨u, hu⟩ : ∃ u : Nat, n.natAbs = u := ⟨_, rfl⟩
    have hi : itoa n = 45 :: decDigits u := by unfold itoa; rw [if_pos hn, hu]
    rw [hi]
    unfold parseIntB
    have e45 : (45 : UInt8).toNat = 45 := rfl
    have hp : parseUintB 64 (decDigits u) = .ok u := by
      unfold parseUintB
      rw [if_neg (dec_ne_nil u), parseUintM_ok _ (by decide) _ _ (dec_digit u) (by rw [val_dec]; omega), val_dec]
    have h63 : ¬ (2 ^ 63 < u) := by omega
    have hneg : (-(u : Int)) = n := by omega
    simp [e45, hp, h63, hneg]
  · obtain ⟨u, hu⟩ : ∃ u : Nat, n.toNat = u := ⟨_, rfl⟩
    have hi : itoa n = decDigits u := by unfold itoa; rw [if_neg hn, hu]
    rw [hi]
    have hp : parseUintB 64 (decDigits u) = .ok u := by
      unfold parseUintB
      rw [if_neg (dec_ne_nil u), parseUintM_ok _ (by decide) _ _ (dec_digit u) (by rw [val_dec]; omega), val_dec]
    cases hl : decDigits u with
    | nil => exact absurd hl (dec_ne_nil u)
    | cons c r =>
      have hc := digit_head (dec_digit u c (by rw [hl]; simp))
      rw [hl] at hp
      unfold parseIntB
      have h63 : ¬ (2 ^ 63 ≤ u) := by omega
      have hpos : (u : Int) = n := by omega
      simp [hc.1, hc.2, hp, h63, hpos]

theorem parse_in (l : List UInt8) (n : Int) (h : parseIntB 64 l = .ok n) : InR n := by
  unfold parseIntB at h
  cases l with
  | nil => cases h
  | cons c r =>
    simp only [] at h
    split at h
    · cases h
    · cases h
    · rename_i u hu
      split at h
      · cases h
      · split at h
        · cases h
        · injection h with h
          subst h
          rename_i h1 h2
          unfold InR
          split <;> rename_i h3 <;> simp only [h3, not_true_eq_false, not_false_eq_true, true_and, false_and] at h1 h2 <;> omega

/-- money.Get. -/
def getM (l : List UInt8) : Int × Bool := match parseIntB 64 l with
  | .ok n => if itoa n = l then (n, true) else (0, false)
  | _ => (0, false)
theorem getM_itoa (n : Int) (h : InR n) : getM (itoa n) = (n, true) := by unfold getM; rw [parse_itoa n h]; simp
theorem getM_cases (l : List UInt8) : (∃ n, InR n ∧ itoa n = l ∧ getM l = (n, true)) ∨ ((∀ n, InR n → itoa n ≠ l) ∧ getM l = (0, false)) := by
  by_cases h : ∃ n, InR n ∧ itoa n = l
  · obtain ⟨n, hn, rfl⟩ := h
    exact .inl ⟨n, hn, rfl, getM_itoa n hn⟩
  · refine .inr ⟨fun n hn e => h ⟨n, hn, e⟩, ?_⟩
    unfold getM
    split
    · rename_i n hp
      rw [if_neg (fun e => h ⟨n, parse_in l n hp, e⟩)]
    · rfl

/-- money.Unpad. -/
def unpadM (l : List UInt8) : Int × Bool := if l = [] ∨ 18 < l.length ∨ ¬ ∀ c ∈ l, Digit c then (0, false) else ((valFrom 0 l : Nat), true)
/-- money.Pad. -/
def padM (n width : Int) : List UInt8 :=
  if n < 0 ∨ width < 1 ∨ 18 < width ∨ width < ((itoa n).length : Int) then [] else List.replicate (width.toNat - (itoa n).length) 48 ++ itoa n

theorem valFrom_lt (l : List UInt8) (acc k : Nat) (hd : ∀ c ∈ l, Digit c) (ha : acc < 10 ^ k) : valFrom acc l < 10 ^ (k + l.length) := by
  induction l generalizing acc k with
  | nil => simpa [valFrom] using ha
  | cons c r ih =>
    have hc : 48 ≤ c.toNat ∧ c.toNat ≤ 57 := hd c (by simp)
    have := ih (acc * 10 + (c.toNat - 48)) (k + 1) (fun d hd' => hd d (by simp [hd'])) (by rw [Nat.pow_succ]; omega)
    rw [List.length_cons, show k + (r.length + 1) = k + 1 + r.length from by omega]
    exact this
theorem dec_len (k : Nat) : ∀ u, u < 10 ^ (k + 1) → (decDigits u).length ≤ k + 1 := by
  induction k with
  | zero => intro u hu; rw [decDigits_one (by simpa using hu)]; simp
  | succ k ih =>
    intro u hu
    rw [dec_snoc]
    by_cases h : u < 10
    · rw [if_pos h]; simp
    · rw [if_neg h, List.length_append]
      have := ih (u / 10) (by rw [Nat.pow_succ] at hu; omega)
      simp only [List.length_cons, List.length_nil]
      omega
end Mon
end Go.Proofs.YtlkncmpengpbiaaGreatDoor

/- money.Add, Sub, Neg; the document's Add, Sub: what they compute. -/
import Derived.Test.YtgpjbigelblanaaGreatDoorMoneyPairs
import Derived.Test.YtgpjbigelblanaaGreatDoorMoneyText
import Derived.Lib.ItoaLen
import Derived.Laws.IdiomStrings
namespace Go.Proofs.YtgpjbigelblanaaGreatDoor
open Go.RowKit Mon

theorem addM_ok {a b : Int} (h : InR (a + b)) : addM a b = (a + b, true) := by unfold addM; rw [if_pos h]
theorem addM_no {a b : Int} (h : ¬ InR (a + b)) : addM a b = (0, false) := by unfold addM; rw [if_neg h]
theorem subM_ok {a b : Int} (h : InR (a - b)) : subM a b = (a - b, true) := by unfold subM; rw [if_pos h]
theorem subM_no {a b : Int} (h : ¬ InR (a - b)) : subM a b = (0, false) := by unfold subM; rw [if_neg h]

theorem zero_in : InR 0 := by unfold InR; omega
theorem wrap_cases (x : Int) (h : -18446744073709551616 ≤ x ∧ x ≤ 18446744073709551615) : (-9223372036854775808 ≤ x ∧ x ≤ 9223372036854775807 ∧ wrap64 x = x) ∨ (9223372036854775807 < x ∧ wrap64 x = x - 18446744073709551616) ∨ (x < -9223372036854775808 ∧ wrap64 x = x + 18446744073709551616) := by
  unfold wrap64
  omega
theorem ret2 {r r' : Int × Bool} {c : Int} {d : Bool} (h : r = r') (hc : c = r'.1) (hd : d = r'.2) : Ending.returned (.tuple #[.int .i64 c, .bool d]) = .returned (pairV r) := by subst h; subst hc; subst hd; rfl
end Go.Proofs.YtgpjbigelblanaaGreatDoor
/- money.Unpad; the document's Unpad: what they compute. -/
namespace Go.Proofs.YtgpjbigelblanaaGreatDoor
open Go.RowKit Mon

theorem unpadM_no {l : List UInt8} (h : l = [] ∨ 18 < l.length ∨ ¬ ∀ c ∈ l, Digit c) : unpadM l = (0, false) := by unfold unpadM; rw [if_pos h]
theorem unpadM_ok {l : List UInt8} (h0 : ¬ l = []) (h1 : ¬ 18 < l.length) (h2 : ∀ c ∈ l, Digit c) : unpadM l = (((valFrom 0 l : Nat) : Int), true) := by
  unfold unpadM
  rw [if_neg (by rintro (h | h | h); exact h0 h; exact h1 h; exact h h2)]

end Go.Proofs.YtgpjbigelblanaaGreatDoor
/- money.Pad: what it computes. -/
namespace Go.Proofs.YtgpjbigelblanaaGreatDoor
open Go.RowKit Mon

theorem padM_no {n width : Int} (h : n < 0 ∨ width < 1 ∨ 18 < width ∨ width < ((Lib.itoa n).length : Int)) : padM n width = [] := by unfold padM; rw [if_pos h]

end Go.Proofs.YtgpjbigelblanaaGreatDoor
/- The document's digits, Put: what they compute. -/
namespace Go.Proofs.YtgpjbigelblanaaGreatDoor
open Go.RowKit Mon

namespace Mon
open Go.Lib
/-- The digits so far: what is left of the number, and what was written behind it. -/
def DigInv (u n : Nat) (s : List UInt8) : Prop := (s = [] ∧ n = u) ∨ (s ≠ [] ∧ decDigits u = (if n = 0 then [] else decDigits n) ++ s)
theorem DigInv.start (u : Nat) : DigInv u u [] := .inl ⟨rfl, rfl⟩
theorem DigInv.step {u n : Nat} {s : List UInt8} (h : DigInv u n s) (hn : 0 < n ∨ s = []) : DigInv u (n / 10) (UInt8.ofNat (48 + n % 10) :: s) := by
  refine .inr ⟨by simp, ?_⟩
  have e : (if n / 10 = 0 then [] else decDigits (n / 10)) ++ UInt8.ofNat (48 + n % 10) :: s = decDigits n ++ s := by
    conv => rhs; rw [dec_snoc n]
    rw [List.append_assoc]
    congr 1
    by_cases h10 : n < 10
    · rw [if_pos h10, if_pos (by omega)]
    · rw [if_neg h10, if_neg (by omega)]
  rw [e]
  rcases h with ⟨rfl, rfl⟩ | ⟨h1, h2⟩
  · simp
  · rcases hn with hn | hn
    · rw [h2, if_neg (by omega)]
    · exact absurd hn h1
theorem DigInv.done {u n : Nat} {s : List UInt8} (h : DigInv u n s) (hn : n = 0) (hs : s ≠ []) : decDigits u = s := by
  rcases h with ⟨h1, _⟩ | ⟨_, h2⟩
  · exact absurd h1 hs
  · rw [h2, if_pos hn]; rfl
theorem DigInv.len {u n : Nat} {s : List UInt8} (h : DigInv u n s) (hu : u < 18446744073709551616) : s.length ≤ 20 := by
  rcases h with ⟨rfl, _⟩ | ⟨_, h2⟩
  · simp
  · have h3 := nDigits_le20 u hu
    rw [← decDigits_length, h2, List.length_append] at h3
    omega
theorem digit_is (n : Nat) : ∃ c : UInt8, c = UInt8.ofNat (48 + n % 10) ∧ (c.toNat : Int) = 48 + (n : Int) % 10 :=
  ⟨_, rfl, by rw [digit_of _ (Nat.mod_lt _ (by omega))]; omega⟩
end Mon
def emptyN : Value → Nat
  | .string s => if s.size = 0 then 1 else 0
  | _ => 0
theorem emptyN_cons (c : UInt8) (s : List UInt8) : emptyN (.string ⟨(c :: s).toArray⟩) = 0 := by simp [emptyN, ByteArray.size]
theorem emptyN_nil : emptyN (.string ⟨#[]⟩) = 1 := by simp [emptyN, ByteArray.size]

/-- string([]byte{c}). -/
theorem conv_one (W : World) (x : Int) (c : UInt8) (h : (c.toNat : Int) = x) : (convert 87 9 (.slice (some ⟨W.heap.size, 0, none⟩) 1 1)).run Tryz.prog (W.alloc (.cells #[.int .u8 x] 5)) = .ok (.string ⟨#[c]⟩) (W.alloc (.cells #[.int .u8 x] 5)) := by
  refine run_convert_bytes_back (P := Tryz.prog) (W.alloc (.cells #[.int .u8 x] 5)) 87 9 5 ⟨W.heap.size, 0, none⟩ 1 [c] Tryz.underlying87 Tryz.underlying5 Tryz.underlying9 (fun j hj => ?_)
  have hj0 : j = 0 := by simpa using hj
  subst hj0
  show _ = some (Value.int .u8 (c.toNat : Int))
  rw [h]
  exact one_new W (.int .u8 x) 5 0 _ rfl

set_option maxHeartbeats 1000000 in
theorem digits_any (u : Nat) (w : World) (hu : u < 18446744073709551616) :
    Calls Tryz.prog 92 #[.int .u64 u] w fun e w' => e = .returned (.string ⟨(Lib.decDigits u).toArray⟩) ∧ Below w.heap.size w w' := by
  have HU := Lib.hid hu
  clear hu
  go_enter Tryz.func92, Tryz.ntmps92
  go_wp2_with fail
  go_loopw [0, 3] (fun nv sv wr => ∃ (n : Nat) (s : List UInt8), nv = .int .u64 n ∧ sv = .string ⟨s.toArray⟩ ∧ n ≤ u ∧ Hid (DigInv u n s) ∧ Hid (Below w.heap.size w wr)) (fun nv sv _ => (intOf nv).toNat + emptyN sv)
  case atStart => exact ⟨u, [], rfl, rfl, Nat.le_refl _, DigInv.start u, Below.refl _ _⟩
  case round =>
    obtain ⟨n, s, rfl, rfl, hn, HI, HB⟩ := hrel
    have hU := HU.out
    have hsl := HI.out.len hU
    by_cases hn0 : n = 0
    · by_cases hs : s = []
      · subst hn0; subst hs
        have hcv := fun W => conv_one W 48 48 rfl
        clear hU hn
        go_wp2_with fail
        go_roundw
        case rel => exact ⟨0, [48], rfl, rfl, Nat.zero_le _, HI.out.step (.inr rfl), HB.out.alloc HB.out.size _⟩
        case measure => show _ + emptyN (.string ⟨[48].toArray⟩) < _ + emptyN (.string ⟨#[]⟩); rw [emptyN_cons, emptyN_nil]; simp [intOf]
      · have hz : s.isEmpty = false := by simpa using hs
        have HD := Lib.hid (HI.out.done hn0 hs)
        subst hn0
        clear hs hn hU
        go_wp2_with fail
        go_ret
        exact ⟨by rw [HD.out]; rfl, HB.out⟩
    · have hng : (0 : Int) < (n : Int) := by omega
      obtain ⟨c, hc, hci⟩ := digit_is n
      have hcv := fun W => conv_one W (48 + (n : Int) % 10) c hci
      have HN := Lib.hid hn0
      have HC := Lib.hid hc
      clear hn0 hc hci
      go_wp2_with fail
      go_roundw
      case rel => exact ⟨n / 10, c :: s, rfl, congrArg Value.string (join_bytes [c] s), by omega, by rw [HC.out]; exact HI.out.step (.inl (by omega)), HB.out.alloc HB.out.size _⟩
      case measure =>
        have := HN.out
        have h2 := emptyN_cons c s
        show (intOf (Value.int .u64 ((n : Int) / 10))).toNat + emptyN (.string ⟨(c :: s).toArray⟩) < _
        rw [h2]
        simp only [intOf]; omega

theorem refPut_any (n : Int) (w : World) (hn : InR n) :
    Calls Tryz.prog 67 #[.int .i64 n] w fun e w' => e = .returned (.string ⟨(Lib.itoa n).toArray⟩) ∧ Below w.heap.size w w' := by
  obtain ⟨h1, h2⟩ := hn
  by_cases h : n < 0
  · obtain ⟨u, rfl⟩ : ∃ u : Nat, n = -(u : Int) := ⟨n.natAbs, by omega⟩
    have HQ : Hid (Calls Tryz.prog 92 #[.int .u64 u] w fun e w' => e = .returned (.string ⟨(Lib.decDigits u).toArray⟩) ∧ Below w.heap.size w w') := digits_any u w (by omega)
    rw [Lib.itoa_neg u (by omega)]
    have HL : Hid ((Lib.decDigits u).length ≤ 20) := by have := Lib.nDigits_le20 u (by omega); rw [← Lib.decDigits_length] at this; exact this
    generalize Lib.decDigits u = s at HQ HL ⊢
    go_enter Tryz.func67, Tryz.ntmps67
    go_wp2_with fail
    rw [show (-(-(u : Int) + 1) + 1) = (u : Int) by omega]
    refine HQ.out.mono ?_
    rintro e w1 ⟨rfl, hb⟩
    have HB := Lib.hid hb
    have hl := HL.out
    clear hb
    go_wp2_with fail
    go_ret
    exact ⟨congrArg (fun b => Ending.returned (Value.string b)) (join_bytes [45] s), HB.out⟩
  · obtain ⟨u, rfl⟩ : ∃ u : Nat, n = (u : Int) := ⟨n.toNat, by omega⟩
    have HQ : Hid (Calls Tryz.prog 92 #[.int .u64 u] w fun e w' => e = .returned (.string ⟨(Lib.decDigits u).toArray⟩) ∧ Below w.heap.size w w') := digits_any u w (by omega)
    rw [Lib.itoa_nonneg]
    go_enter Tryz.func67, Tryz.ntmps67
    go_wp2_with fail
    refine HQ.out.mono ?_
    rintro e w1 ⟨rfl, hb⟩
    have HB := Lib.hid hb
    clear hb
    go_wp2_with fail
    go_ret
    exact ⟨rfl, HB.out⟩

end Go.Proofs.YtgpjbigelblanaaGreatDoor
/- The document's Pad: what it computes. -/
namespace Go.Proofs.YtgpjbigelblanaaGreatDoor
open Go.RowKit Mon

end Go.Proofs.YtgpjbigelblanaaGreatDoor
/- The document's Unpad: what it computes. -/
namespace Go.Proofs.YtgpjbigelblanaaGreatDoor
open Go.RowKit Mon

end Go.Proofs.YtgpjbigelblanaaGreatDoor
/- The document's Get: what it computes. -/
namespace Go.Proofs.YtgpjbigelblanaaGreatDoor
open Go.RowKit Mon

namespace Mon
open Go.Lib
/-- What a text that says an amount is like, behind its sign. -/
structure Says (l t : List UInt8) (m : Bool) (n : Int) : Prop where
  dig : ∀ c ∈ t, Digit c
  ne : t ≠ []
  len : t.length ≤ 19
  val : (n : Int) = if m then -(valFrom 0 t : Int) else (valFrom 0 t : Int)
theorem dec_len19 (u : Nat) (h : u ≤ 9223372036854775808) : (decDigits u).length ≤ 19 := dec_len 18 u (by omega)
theorem says_neg {r : List UInt8} {n : Int} (hn : InR n) (h : itoa n = 45 :: r) : Says (45 :: r) r true n := by
  by_cases h0 : n < 0
  · obtain ⟨u, rfl⟩ : ∃ u : Nat, n = -(u : Int) := ⟨n.natAbs, by omega⟩
    rw [itoa_neg u (by omega)] at h
    have h' : decDigits u = r := by simpa using h
    subst h'
    exact ⟨dec_digit u, dec_ne_nil u, dec_len19 u (by have := hn.1; omega), by rw [val_dec]; rfl⟩
  · obtain ⟨u, rfl⟩ : ∃ u : Nat, n = (u : Int) := ⟨n.toNat, by omega⟩
    rw [itoa_nonneg] at h
    have := dec_digit u 45 (by rw [h]; simp)
    unfold Digit at this
    exact absurd this.1 (by decide)
theorem says_pos {l : List UInt8} {n : Int} (hn : InR n) (h : itoa n = l) (hl : l.head? ≠ some 45) : Says l l false n ∧ 0 ≤ n := by
  by_cases h0 : n < 0
  · obtain ⟨u, rfl⟩ : ∃ u : Nat, n = -(u : Int) := ⟨n.natAbs, by omega⟩
    rw [itoa_neg u (by omega)] at h
    subst h
    simp at hl
  · obtain ⟨u, rfl⟩ : ∃ u : Nat, n = (u : Int) := ⟨n.toNat, by omega⟩
    rw [itoa_nonneg] at h
    subst h
    exact ⟨⟨dec_digit u, dec_ne_nil u, dec_len19 u (by have := hn.2; omega), by rw [val_dec]; rfl⟩, by omega⟩
theorem val_take_le (t : List UInt8) (j : Nat) : valFrom 0 (t.take j) ≤ valFrom 0 t := by
  conv => rhs; rw [← List.take_append_drop j t, valFrom_append]
  exact valFrom_ge _ _
theorem getM_none {l : List UInt8} (h : ∀ n, InR n → itoa n ≠ l) : getM l = (0, false) := by
  rcases getM_cases l with ⟨n, hn, he, _⟩ | ⟨_, h2⟩
  · exact absurd he (h n hn)
  · exact h2
end Mon

theorem under (v : Nat) (d : Int) (h0 : 0 ≤ d) (h9 : d ≤ 9) : (-(v : Int) < (-9223372036854775808 + d).tdiv 10) ↔ 9223372036854775808 < (v : Int) * 10 + d := by
  rw [show (-9223372036854775808 + d) = -(9223372036854775808 - d) by omega, Int.neg_tdiv, Int.tdiv_eq_ediv_of_nonneg (by omega)]
  omega
theorem idx (s : ByteArray) (h : 0 < s.size) : s.data.toList.head? = some s[0] := by
  rw [List.head?_eq_getElem?, get_list s 0 h]
theorem ext_list (s : ByteArray) : (s.extract 1 s.size).data.toList = s.data.toList.tail := by
  rw [Lib.extract_data]
  have h : s.data.toList.length = s.size := size_len s
  rw [List.take_of_length_le (by rw [List.length_drop]; omega)]
  simp

theorem noneOf {l t : List UInt8} {m : Bool} (HA : ∀ n, InR n → Lib.itoa n = l → Says l t m n) (bad : ∀ n, InR n → Says l t m n → False) : getM l = (0, false) :=
  getM_none fun n hn e => bad n hn (HA n hn e)

set_option maxHeartbeats 4000000 in
theorem refGet_neg (s : ByteArray) (w : World) (x : Int) (y : Bool) (HR : Hid (getM s.data.toList = (x, y))) (hpos : 0 < s.size) (hm : (((s[0]'hpos).toNat : Int) == 45) = true) (HA0 : ∀ n, InR n → Lib.itoa n = s.data.toList → Says s.data.toList (s.extract 1 s.size).data.toList true n) (HTL : Hid ((s.extract 1 s.size).data.toList.length = s.size - 1)) :
    Calls Tryz.prog 75 #[.string s] w fun e w' => e = .returned (.tuple #[.int .i64 x, .bool y]) ∧ Below w.heap.size w w' := by
  have hpos1 : (0 : Int) < (s.size : Int) := by omega
  have HA := Lib.hid HA0
  clear HA0
  by_cases hl0 : (s.size - 1) = 0
  · have HNO := Lib.hid (HR.out.symm.trans (noneOf HA.out fun n hn h => by
      have := h.ne
      exact this (List.eq_nil_of_length_eq_zero (by rw [HTL.out]; exact hl0))))
    have hc2 : ((((s.size - 1) : Nat) : Int) == 0) = true := by rw [hl0]; rfl
    clear hl0
    go_enter Tryz.func75, Tryz.ntmps75
    go_wp2_with fail
    go_ret2
    exact ⟨ret_pair HNO.out, Below.refl _ _⟩
  by_cases hl1 : 19 < (s.size - 1)
  · have HNO := Lib.hid (HR.out.symm.trans (noneOf HA.out fun n hn h => by
      have h1 := h.len
      have h2 := HTL.out
      omega))
    have hc2 : ((((s.size - 1) : Nat) : Int) == 0) = false := beqF (by omega)
    have hc3 : (19 : Int) < (((s.size - 1) : Nat) : Int) := by omega
    clear hl0 hl1
    go_enter Tryz.func75, Tryz.ntmps75
    go_wp2_with fail
    go_ret2
    exact ⟨ret_pair HNO.out, Below.refl _ _⟩
  have hc2 : ((((s.size - 1) : Nat) : Int) == 0) = false := beqF (by omega)
  have hc3 : ¬ (19 : Int) < (((s.size - 1) : Nat) : Int) := by omega
  clear hl0 hl1
  go_enter Tryz.func75, Tryz.ntmps75
  go_wp2_with fail
  generalize s.extract 1 s.size = t at HA HTL ⊢
  have ht19 : t.size ≤ 19 := by have := HTL.out; rw [size_len] at this; omega
  go_loopw [6, 7, 8] (fun nv i _ wr => ∃ (j v : Nat), j ≤ t.size ∧ i = .int .i64 j ∧ nv = .int .i64 (-(v : Int)) ∧ Hid (v = valFrom 0 (t.data.toList.take j)) ∧ Hid (∀ c ∈ t.data.toList.take j, Digit c) ∧ Hid ((v : Int) ≤ 9223372036854775808) ∧ wr = w) (fun _ i _ _ => t.size - (intOf i).toNat)
  case atStart => exact ⟨0, 0, Nat.zero_le _, rfl, rfl, rfl, fun c hc => by simp at hc, show ((0 : Nat) : Int) ≤ _ by omega, rfl⟩
  case round =>
    obtain ⟨j, v, hj, rfl, rfl, HV, HD, HLE, rfl⟩ := hrel
    by_cases hlt : j < t.size
    · by_cases hd : Digit t[j]
      · obtain ⟨hd1, hd2⟩ := hd
        have c1 : ¬ (t[j].toNat : Int) < 48 := by omega
        have c2 : ¬ (57 : Int) < (t[j].toNat : Int) := by omega
        have hun := under v (t[j].toNat - 48 : Int) (by omega) (by omega)
        have HS := Lib.hid (take_snoc t j hlt)
        have HV1 := Lib.hid (show v * 10 + (t[j].toNat - 48) = valFrom 0 (t.data.toList.take (j + 1)) by rw [HS.out, valFrom_append, ← HV.out]; rfl)
        by_cases hov : -(v : Int) < (-9223372036854775808 + ((t[j].toNat : Int) - 48)).tdiv 10
        · have HNO := Lib.hid (HR.out.symm.trans (noneOf HA.out fun n hn h => by
            have h1 := val_take_le t.data.toList (j + 1)
            rw [← HV1.out] at h1
            have h2 := hun.1 hov
            have h3 := h.val
            obtain ⟨h4, h5⟩ := hn
            simp only [if_true] at h3
            omega))
          clear hun
          go_wp2_with fail
          go_ret2
          exact ⟨ret_pair HNO.out, Below.refl _ _⟩
        · have hle : (v : Int) * 10 + ((t[j].toNat : Int) - 48) ≤ 9223372036854775808 := by
            have := mt hun.2 hov
            omega
          clear hun
          go_wp2_with fail
          go_roundw
          case rel =>
            refine ⟨j + 1, v * 10 + (t[j].toNat - 48), by omega, by go_num, ?_, HV1.out, ?_, ?_, trivial⟩
            · go_num
            · intro c hc
              rw [HS.out] at hc
              rcases List.mem_append.1 hc with hc | hc
              · exact HD.out c hc
              · simp at hc; subst hc; exact ⟨hd1, hd2⟩
            · show ((v * 10 + (t[j].toNat - 48) : Nat) : Int) ≤ _
              omega
          case measure => simp [intOf]; omega
      · have HNO := Lib.hid (HR.out.symm.trans (noneOf HA.out fun n hn h => hd (h.dig _ (get_mem t j hlt))))
        by_cases c1 : (t[j].toNat : Int) < 48
        · go_wp2_with fail
          go_ret2
          exact ⟨ret_pair HNO.out, Below.refl _ _⟩
        · have c2 : (57 : Int) < (t[j].toNat : Int) := by unfold Digit at hd; omega
          go_wp2_with fail
          go_ret2
          exact ⟨ret_pair HNO.out, Below.refl _ _⟩
    · have hj' : j = t.size := by omega
      subst hj'
      have HV1 := Lib.hid (show v = valFrom 0 t.data.toList by rw [HV.out, take_size])
      have hle := HLE.out
      have HP := Lib.hid (refPut_any (-(v : Int)) wr (by unfold InR; omega))
      go_wp2_with fail
      refine HP.out.mono ?_
      rintro e w1 ⟨rfl, hb⟩
      have HB := Lib.hid hb
      clear hb
      by_cases hi : Lib.itoa (-(v : Int)) = s.data.toList
      · have HXY := Lib.hid (HR.out.symm.trans (show getM s.data.toList = (-(v : Int), true) by rw [← hi]; exact getM_itoa _ (by unfold InR; omega)))
        have q := itoaT _ s hi
        clear hi
        go_wp2_with fail
        go_ret2
        exact ⟨ret_pair HXY.out, HB.out⟩
      · have HXY := Lib.hid (HR.out.symm.trans (getM_none fun n hn h => by
          have h1 := (HA.out n hn h).val
          have h2 := HV1.out
          simp only [if_true] at h1
          rw [← h2] at h1
          rw [h1] at h
          exact hi h))
        have q := itoaF _ s hi
        clear hi
        go_wp2_with fail
        go_ret2
        exact ⟨ret_pair HXY.out, HB.out⟩

set_option maxHeartbeats 4000000 in
theorem refGet_pos (s : ByteArray) (w : World) (hz : s.data.toList.length = s.size) (x : Int) (y : Bool) (HR : Hid (getM s.data.toList = (x, y))) (hpos : 0 < s.size) (hm : (((s[0]'hpos).toNat : Int) == 45) = false) (HA0 : ∀ n, InR n → Lib.itoa n = s.data.toList → Says s.data.toList s.data.toList false n) (HTL : Hid (s.data.toList.length = s.size)) :
    Calls Tryz.prog 75 #[.string s] w fun e w' => e = .returned (.tuple #[.int .i64 x, .bool y]) ∧ Below w.heap.size w w' := by
  have hpos1 : (0 : Int) < (s.size : Int) := by omega
  have HA := Lib.hid HA0
  clear HA0
  by_cases hl0 : s.size = 0
  · have HNO := Lib.hid (HR.out.symm.trans (noneOf HA.out fun n hn h => by
      have := h.ne
      exact this (List.eq_nil_of_length_eq_zero (by rw [HTL.out]; exact hl0))))
    have hc2 : (((s.size : Nat) : Int) == 0) = true := by rw [hl0]; rfl
    clear hz hl0
    go_enter Tryz.func75, Tryz.ntmps75
    go_wp2_with fail
    go_ret2
    exact ⟨ret_pair HNO.out, Below.refl _ _⟩
  by_cases hl1 : 19 < s.size
  · have HNO := Lib.hid (HR.out.symm.trans (noneOf HA.out fun n hn h => by
      have h1 := h.len
      have h2 := HTL.out
      omega))
    have hc2 : (((s.size : Nat) : Int) == 0) = false := beqF (by omega)
    have hc3 : (19 : Int) < ((s.size : Nat) : Int) := by omega
    clear hz hl0 hl1
    go_enter Tryz.func75, Tryz.ntmps75
    go_wp2_with fail
    go_ret2
    exact ⟨ret_pair HNO.out, Below.refl _ _⟩
  have hc2 : (((s.size : Nat) : Int) == 0) = false := beqF (by omega)
  have hc3 : ¬ (19 : Int) < ((s.size : Nat) : Int) := by omega
  clear hz hl0 hl1
  go_enter Tryz.func75, Tryz.ntmps75
  go_wp2_with fail
  have ht19 : s.size ≤ 19 := by have := HTL.out; rw [size_len] at this; omega
  go_loopw [6, 7, 8] (fun nv i _ wr => ∃ (j v : Nat), j ≤ s.size ∧ i = .int .i64 j ∧ nv = .int .i64 (-(v : Int)) ∧ Hid (v = valFrom 0 (s.data.toList.take j)) ∧ Hid (∀ c ∈ s.data.toList.take j, Digit c) ∧ Hid ((v : Int) ≤ 9223372036854775808) ∧ wr = w) (fun _ i _ _ => s.size - (intOf i).toNat)
  case atStart => exact ⟨0, 0, Nat.zero_le _, rfl, rfl, rfl, fun c hc => by simp at hc, show ((0 : Nat) : Int) ≤ _ by omega, rfl⟩
  case round =>
    obtain ⟨j, v, hj, rfl, rfl, HV, HD, HLE, rfl⟩ := hrel
    by_cases hlt : j < s.size
    · by_cases hd : Digit s[j]
      · obtain ⟨hd1, hd2⟩ := hd
        have c1 : ¬ (s[j].toNat : Int) < 48 := by omega
        have c2 : ¬ (57 : Int) < (s[j].toNat : Int) := by omega
        have hun := under v (s[j].toNat - 48 : Int) (by omega) (by omega)
        have HS := Lib.hid (take_snoc s j hlt)
        have HV1 := Lib.hid (show v * 10 + (s[j].toNat - 48) = valFrom 0 (s.data.toList.take (j + 1)) by rw [HS.out, valFrom_append, ← HV.out]; rfl)
        by_cases hov : -(v : Int) < (-9223372036854775808 + ((s[j].toNat : Int) - 48)).tdiv 10
        · have HNO := Lib.hid (HR.out.symm.trans (noneOf HA.out fun n hn h => by
            have h1 := val_take_le s.data.toList (j + 1)
            rw [← HV1.out] at h1
            have h2 := hun.1 hov
            have h3 := h.val
            obtain ⟨h4, h5⟩ := hn
            simp only [Bool.false_eq_true, if_false] at h3
            omega))
          clear hun
          go_wp2_with fail
          go_ret2
          exact ⟨ret_pair HNO.out, Below.refl _ _⟩
        · have hle : (v : Int) * 10 + ((s[j].toNat : Int) - 48) ≤ 9223372036854775808 := by
            have := mt hun.2 hov
            omega
          clear hun
          go_wp2_with fail
          go_roundw
          case rel =>
            refine ⟨j + 1, v * 10 + (s[j].toNat - 48), by omega, by go_num, ?_, HV1.out, ?_, ?_, trivial⟩
            · go_num
            · intro c hc
              rw [HS.out] at hc
              rcases List.mem_append.1 hc with hc | hc
              · exact HD.out c hc
              · simp at hc; subst hc; exact ⟨hd1, hd2⟩
            · show ((v * 10 + (s[j].toNat - 48) : Nat) : Int) ≤ _
              omega
          case measure => simp [intOf]; omega
      · have HNO := Lib.hid (HR.out.symm.trans (noneOf HA.out fun n hn h => hd (h.dig _ (get_mem s j hlt))))
        by_cases c1 : (s[j].toNat : Int) < 48
        · go_wp2_with fail
          go_ret2
          exact ⟨ret_pair HNO.out, Below.refl _ _⟩
        · have c2 : (57 : Int) < (s[j].toNat : Int) := by unfold Digit at hd; omega
          go_wp2_with fail
          go_ret2
          exact ⟨ret_pair HNO.out, Below.refl _ _⟩
    · have hj' : j = s.size := by omega
      subst hj'
      have HV1 := Lib.hid (show v = valFrom 0 s.data.toList by rw [HV.out, take_size])
      have hle := HLE.out
      by_cases hmax : (v : Int) = 9223372036854775808
      · have HNO := Lib.hid (HR.out.symm.trans (noneOf HA.out fun n hn h => by
          have h3 := h.val
          obtain ⟨h4, h5⟩ := hn
          have h6 := HV1.out
          simp only [Bool.false_eq_true, if_false] at h3
          omega))
        have hmx : (-(v : Int) == -9223372036854775808) = true := beqT (by omega)
        clear hmax hle
        go_wp2_with fail
        go_ret2
        exact ⟨ret_pair HNO.out, Below.refl _ _⟩
      have hmx : (-(v : Int) == -9223372036854775808) = false := beqF (by omega)
      have hle2 : (v : Int) ≤ 9223372036854775807 := by omega
      clear hle hmax
      have HP := Lib.hid (refPut_any ((v : Int)) wr (by unfold InR; omega))
      go_wp2_with fail
      refine HP.out.mono ?_
      rintro e w1 ⟨rfl, hb⟩
      have HB := Lib.hid hb
      clear hb
      by_cases hi : Lib.itoa ((v : Int)) = s.data.toList
      · have HXY := Lib.hid (HR.out.symm.trans (show getM s.data.toList = ((v : Int), true) by rw [← hi]; exact getM_itoa _ (by unfold InR; omega)))
        have q := itoaT _ s hi
        clear hi
        go_wp2_with fail
        go_ret2
        exact ⟨ret_pair HXY.out, HB.out⟩
      · have HXY := Lib.hid (HR.out.symm.trans (getM_none fun n hn h => by
          have h1 := (HA.out n hn h).val
          have h2 := HV1.out
          simp only [Bool.false_eq_true, if_false] at h1
          rw [← h2] at h1
          rw [h1] at h
          exact hi h))
        have q := itoaF _ s hi
        clear hi
        go_wp2_with fail
        go_ret2
        exact ⟨ret_pair HXY.out, HB.out⟩

theorem refGet_any (s : ByteArray) (w : World) :
    Calls Tryz.prog 75 #[.string s] w fun e w' => e = .returned (pairV (getM s.data.toList)) ∧ Below w.heap.size w w' := by
  have hz := size_len s
  obtain ⟨x, y, hR⟩ : ∃ x y, getM s.data.toList = (x, y) := ⟨_, _, rfl⟩
  rw [hR]
  unfold pairV
  have HR := Lib.hid hR
  clear hR
  by_cases h0 : s.size = 0
  · have HNO := Lib.hid (HR.out.symm.trans (getM_none fun n hn e => by
      have := (says_pos hn e (by rw [List.eq_nil_of_length_eq_zero (by omega : s.data.toList.length = 0)]; simp)).1.ne
      exact this (List.eq_nil_of_length_eq_zero (by omega))))
    have hc0 : ((s.size : Int) == 0) = true := by simp [h0]
    have hc1 : ¬ (0 : Int) < (s.size : Int) := by omega
    clear h0 hz
    go_enter Tryz.func75, Tryz.ntmps75
    go_wp2_with fail
    go_ret2
    exact ⟨ret_pair HNO.out, Below.refl _ _⟩
  · have hpos : 0 < s.size := Nat.pos_of_ne_zero h0
    by_cases hm : s[0]'hpos = 45
    · refine refGet_neg s w x y HR hpos (by rw [hm]; rfl) (fun n hn e => ?_) (Lib.hid (by rw [ext_list, List.length_tail, hz]))
      have hh := idx s hpos
      rw [hm] at hh
      rw [ext_list]
      cases hl : s.data.toList with
      | nil => rw [hl] at hh; simp at hh
      | cons a r =>
        rw [hl] at hh e
        simp only [List.head?_cons, Option.some.injEq] at hh
        subst hh
        exact says_neg hn e
    · refine refGet_pos s w hz x y HR hpos (beqF fun e => hm (UInt8.toNat_inj.1 (by have h45 : (45 : UInt8).toNat = 45 := rfl; omega))) (fun n hn e => (says_pos hn e (by rw [idx s hpos]; simpa using hm)).1) (Lib.hid hz)
end Go.Proofs.YtgpjbigelblanaaGreatDoor

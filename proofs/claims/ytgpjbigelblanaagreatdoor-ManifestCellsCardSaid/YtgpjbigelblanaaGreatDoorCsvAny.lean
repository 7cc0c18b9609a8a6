/- strings.ContainsAny, at any text and four ASCII bytes: commas, quotes, bytes 13 and 10. -/
import Derived.Test.YtgpjbigelblanaaGreatDoorMem
import Derived.Test.YtgpjbigelblanaaGreatDoorShelf
import Derived.Test.YtgpjbigelblanaaGreatDoorCsvWalk1
import Derived.Laws.Runes
import Derived.Lib.OthersKept
import Derived.Deep.QuietTactic
import Derived.BigQuiet
import Derived.Deep.LoopGhost
namespace Go.Proofs.YtgpjbigelblanaaGreatDoor
open Go.RowKit

def charsB : ByteArray := ⟨#[44, 34, 13, 10]⟩
theorem chars_ascii : ∀ b ∈ charsB.data.toList, b.toNat < 128 := by decide
theorem chars_size : charsB.size = 4 := rfl

set_option maxRecDepth 100000 in
set_option maxHeartbeats 8000000 in
theorem indexRune_err (w : World) :
    Calls Tryz.prog 114 #[.string charsB, .int .i32 65533] w fun e w' => e = .returned (.int .i64 (-1)) ∧ Below w.heap.size w w' := by
  obtain ⟨s, hs⟩ : ∃ s, charsB = s := ⟨_, rfl⟩
  have ha := chars_ascii
  rw [hs] at ha ⊢
  clear hs
  have HA := Lib.hid ha; clear ha
  go_enter Tryz.func114, Tryz.ntmps114
  go_wp2_with fail
  go_loopg [5, 6] s.size (fun g _ _ wx => ∃ i : Nat, i + g = s.size ∧ wx = w.iter s i)
  case atStart => exact ⟨0, by omega, rfl⟩
  case round =>
    obtain ⟨i, hig, rfl⟩ := hrel
    cases gk with
    | zero =>
      obtain rfl : i = s.size := by omega
      have hnx := run_next_end (P := Tryz.prog) w s s.size
      go_wp2_with fail
      go_ret
      exact ⟨rfl, (Below.refl _ _).alloc (Nat.le_refl _) _⟩
    | succ g =>
      have hi : i < s.size := by omega
      obtain ⟨x, hx⟩ : ∃ x : UInt8, s[i]'hi = x := ⟨_, rfl⟩
      have hx128 : x.toNat < 128 := HA.out x (by rw [← hx]; exact Array.getElem_mem_toList (xs := s.data) (by simpa using hi))
      have hnx := fun ty => run_next_ascii (P := Tryz.prog) w s i ty hi (by rw [hx]; exact hx128)
      rw [hx] at hnx
      have hne := beqF (show ¬ (x.toNat : Int) = 65533 by omega)
      clear hx
      go_wp2_with fail
      go_roundg g
      case measure => omega
      case rel => exact ⟨i + 1, by omega, rfl⟩

theorem indexByte_out (l : List UInt8) (c : UInt8) (h : c ∉ l) : Lib.indexByte l c = -1 := by
  have h1 := Lib.indexByte_ge l c
  by_cases h0 : 0 ≤ Lib.indexByte l c
  · obtain ⟨o, ho⟩ := Int.eq_ofNat_of_zero_le h0
    exact absurd (List.mem_of_getElem? (Lib.indexByte_some ho).1) h
  · omega
set_option maxRecDepth 100000 in
set_option maxHeartbeats 8000000 in
theorem indexRune_hi (r : Int) (w : World) (hv : Utf8.valid r = true) (h128 : 128 ≤ r) (hr : ¬ r = 65533) :
    Calls Tryz.prog 114 #[.string charsB, .int .i32 r] w fun e w' => e = .returned (.int .i64 (-1)) ∧ Below w.heap.size w w' := by
  obtain ⟨s, hs⟩ : ∃ s, charsB = s := ⟨_, rfl⟩
  have ha := chars_ascii
  have hsz := chars_size
  rw [hs] at ha hsz ⊢
  clear hs
  obtain ⟨h2, h4, hl⟩ := encode_facts r hv h128
  obtain ⟨rs, hrs⟩ : ∃ rs, Utf8.encode r = rs := ⟨_, rfl⟩
  have hcv : ∀ W : World, (convert 21 9 (.int .i32 r)).run Tryz.prog W = .ok (.string rs) W := fun W => by rw [run_convert_int_string W 21 9 .i32 r (by rw [Tryz.underlying21]; rfl) Tryz.underlying9, hrs]
  rw [hrs] at h2 h4 hl
  have hvr : Lib.validRune r = true := by
    rw [Lib.validRune, decide_eq_true_iff]
    simp [Utf8.valid] at hv
    omega
  have hlast := hl (by omega)
  have hlt : rs.size - 1 < s.size := by omega
  have hsx : s[rs.size - 1].toNat < 128 := ha _ (Array.getElem_mem_toList (xs := s.data) (by simpa using hlt))
  have hne := bneT (show ¬ ((s[rs.size - 1]'hlt).toNat : Int) = ((rs[rs.size - 1]'(by omega)).toNat : Int) by omega)
  have hr' := beqF hr
  have hge : ¬ (r < 128) := by omega
  obtain ⟨k, hk⟩ : ∃ k, rs.size - 1 = k := ⟨_, rfl⟩
  have hsz1 : ((rs.size : Int) - 1) = (k : Int) := by omega
  have hks : k < s.size := by omega
  have hkr : k < rs.size := by omega
  have hk4 : (k : Int) < 4 := by omega
  have hne' : ((s[k].toNat : Int) != (rs[k].toNat : Int)) = true := by
    subst hk
    exact hne
  have hlast' : 128 ≤ rs[k].toNat := by
    subst hk
    exact hlast
  have HV := Lib.hid hvr
  have HIB := Lib.hid (show ∀ W : World, Calls Tryz.prog 135 #[.string (s.extract (k + 1) 4), .int .u8 (rs[k].toNat : Int)] W fun e w' => e = .returned (.int .i64 (-1)) ∧ w' = W from fun W => by
    refine (Tryz.strings_IndexByte _ _ W).mono ?_
    rintro e w' ⟨rfl, rfl⟩
    refine ⟨ret_int ?_, rfl⟩
    rw [show ((rs[k].toNat : Int)).toNat.toUInt8 = rs[k] from by simp]
    exact indexByte_out _ _ (fun h => by have := ha _ (mem_extract h); omega))
  clear hv ha hl hrs h128 hne hlast hk hlt hsx
  go_enter Tryz.func114, Tryz.ntmps114
  go_wp2_with (go_at_call 136; refine (Tryz.utf8_ValidRune r _).mono ?_; rintro e w' ⟨rfl, hw⟩; rw [hw, HV.out]; clear hw)
  go_step3
  go_wp2_with fail
  refine wp_loop_rounds 1 ?_
  rw [rounds_succ]
  go_wp2_with fail
  go_step3
  go_wp2_with fail
  go_quiet (fail)
  go_wp2_with fail
  generalize hw1 : w.drewN nq = w1
  have HW1 := Lib.hid hw1; clear hw1
  go_quiet ((go_at_call 135; exact Calls.quiet_of_same (HIB.out _)))
  go_wp2_with fail
  simp only [Exit.inBlock, Exit.then, Exit.noGoto_ret]
  go_ret
  exact ⟨rfl, by rw [← HW1.out]; exact ⟨rfl, rfl, rfl, Nat.le_refl _, fun _ _ => rfl⟩⟩

/-! ### Decoding: what is no ASCII byte reads as no ASCII rune -/
theorem decode_hi (s : ByteArray) (i : Nat) (h : i < s.size) (hb : ¬ (s[i]'h).toNat < 128) :
    1 ≤ (Utf8.decode s i).2 ∧ i + (Utf8.decode s i).2 ≤ s.size ∧ (∀ j, i ≤ j → j < i + (Utf8.decode s i).2 → ∀ h' : j < s.size, 128 ≤ (s[j]'h').toNat) ∧
      ((Utf8.decode s i).1 = 65533 ∨ (Utf8.valid (Utf8.decode s i).1 = true ∧ 128 ≤ (Utf8.decode s i).1)) := by
  have get : ∀ j (hj : j < s.size), s.get! j = s[j] := fun j hj => by
    show s.data[j]! = s[j]
    rw [getElem!_pos s.data j (by simpa using hj)]
    rfl
  have hb0 : ¬ (s.get! (i + 0)).toNat < 128 := by rw [get (i + 0) (by omega)]; exact hb
  have c : ∀ k, (decide (i + k < s.size) && (s.get! (i + k)).toNat / 64 == 2) = true → ∃ h' : i + k < s.size, 128 ≤ (s[i + k]'h').toNat := by
    intro k hk
    simp only [Bool.and_eq_true, decide_eq_true_eq, beq_iff_eq] at hk
    refine ⟨hk.1, ?_⟩
    rw [← get _ hk.1]
    omega
  have one : 1 ≤ 1 ∧ i + 1 ≤ s.size ∧ (∀ j, i ≤ j → j < i + 1 → ∀ h' : j < s.size, 128 ≤ (s[j]'h').toNat) :=
    ⟨Nat.le_refl _, by omega, fun j h1 h2 h' => by obtain rfl : j = i := by omega
                                                   omega⟩
  have bad : ∀ r : Nat × Nat, r = (Utf8.runeError, 1) → 1 ≤ r.2 ∧ i + r.2 ≤ s.size ∧ (∀ j, i ≤ j → j < i + r.2 → ∀ h' : j < s.size, 128 ≤ (s[j]'h').toNat) ∧ (r.1 = 65533 ∨ (Utf8.valid r.1 = true ∧ 128 ≤ r.1)) := by
    rintro r rfl
    exact ⟨one.1, one.2.1, one.2.2, .inl rfl⟩
  unfold Utf8.decode
  simp only []
  rw [if_neg hb0]
  split
  · rename_i h1
    simp only [Bool.and_eq_true] at h1
    obtain ⟨e1, f1⟩ := c 1 (by simpa using h1.2)
    split
    · rename_i h2
      refine ⟨by show 1 ≤ 2; omega, by show i + 2 ≤ s.size; omega, fun j h3 h4 h' => ?_, .inr ⟨?_, h2⟩⟩
      · change j < i + 2 at h4
        obtain rfl | rfl : j = i ∨ j = i + 1 := by omega
        · omega
        · exact f1
      · have : (s.get! (i + 0)).toNat < 256 := (s.get! (i + 0)).toNat_lt
        have hlt : (s.get! (i + 0)).toNat % 32 * 64 + (s.get! (i + 1)).toNat % 64 < 2048 := by omega
        rw [validRune_eq, validRune, decide_eq_true_iff]
        simp only []
        omega
    · exact bad _ rfl
  · split
    · rename_i h1
      simp only [Bool.and_eq_true] at h1
      obtain ⟨e1, f1⟩ := c 1 (by simpa using h1.1.2)
      obtain ⟨e2, f2⟩ := c 2 (by simpa using h1.2)
      split
      · rename_i h2
        simp only [Bool.and_eq_true, decide_eq_true_eq] at h2
        refine ⟨by show 1 ≤ 3; omega, by show i + 3 ≤ s.size; omega, fun j h3 h4 h' => ?_, .inr ⟨h2.2, by simp only []; omega⟩⟩
        change j < i + 3 at h4
        obtain rfl | rfl | rfl : j = i ∨ j = i + 1 ∨ j = i + 2 := by omega
        · omega
        · exact f1
        · exact f2
      · exact bad _ rfl
    · split
      · rename_i h1
        simp only [Bool.and_eq_true] at h1
        obtain ⟨e1, f1⟩ := c 1 (by simpa using h1.1.1.2)
        obtain ⟨e2, f2⟩ := c 2 (by simpa using h1.1.2)
        obtain ⟨e3, f3⟩ := c 3 (by simpa using h1.2)
        split
        · rename_i h2
          simp only [Bool.and_eq_true, decide_eq_true_eq] at h2
          refine ⟨by show 1 ≤ 4; omega, by show i + 4 ≤ s.size; omega, fun j h3 h4 h' => ?_, .inr ⟨h2.2, by simp only []; omega⟩⟩
          change j < i + 4 at h4
          obtain rfl | rfl | rfl | rfl : j = i ∨ j = i + 1 ∨ j = i + 2 ∨ j = i + 3 := by omega
          · omega
          · exact f1
          · exact f2
          · exact f3
        · exact bad _ rfl
      · exact bad _ rfl

theorem noAny_more {s : ByteArray} {chars : List UInt8} {i n : Nat} (h : Lib.NoAny s.data.toList chars i) (ha : ∀ b ∈ chars, b.toNat < 128) (hn : ∀ j, i ≤ j → j < i + n → ∀ h' : j < s.size, 128 ≤ (s[j]'h').toNat) : Lib.NoAny s.data.toList chars (i + n) := by
  intro j b hj hb
  by_cases hji : j < i
  · exact h j b hji hb
  · have hlt : j < s.size := by
      have := (List.getElem?_eq_some_iff.1 hb).1
      simpa using this
    have hbj : b = s[j] := by
      rw [List.getElem?_eq_getElem (by simpa using hlt)] at hb
      exact (Option.some.inj hb).symm
    have h128 := hn j (by omega) hj hlt
    cases hc : chars.contains b with
    | false => rfl
    | true =>
      have := ha b (by simpa using hc)
      rw [hbj] at this
      omega

theorem below_iterAt {B : Nat} {a w : World} (h : Below B a w) {k : Nat} (hk : B ≤ k) (s : ByteArray) (pos : Nat) : Below B a (w.iterAt k s pos) :=
  h.trans ⟨rfl, rfl, rfl, by simp [World.iterAt], fun j hj => by
    show (w.heap.setIfInBounds k _)[j]? = _
    rw [Array.getElem?_setIfInBounds_ne (by omega)]⟩
set_option maxHeartbeats 8000000 in
theorem indexAny_short (s : ByteArray) (w : World) (h8 : s.size ≤ 8) :
    Calls Tryz.prog 104 #[.string s, .string charsB] w fun e w' => e = .returned (.int .i64 (Lib.indexAny s.data.toList charsB.data.toList)) ∧ Below w.heap.size w w' := by
  have h8z : decide ((8 : Int) < (s.size : Int)) = false := decide_eq_false (by omega)
  obtain ⟨cb, hcb⟩ : ∃ c, charsB = c := ⟨_, rfl⟩
  have hemp : cb.toList.isEmpty = false := by rw [← hcb]; decide +kernel
  have hn1 : ((cb.size : Int) == 1) = false := by rw [← hcb]; decide
  have HCB := Lib.hid hcb
  rw [hcb]
  clear hcb
  go_enter Tryz.func104, Tryz.ntmps104
  go_wp2_with (go_at_call 115; refine (Tryz.strings_shouldUseASCIISet _ _).mono ?_; rintro e w' ⟨rfl, hw⟩; rw [hw, h8z]; clear hw)
  go_loopg [9, 10] s.size (fun g _ _ wx => ∃ i : Nat, i + g = s.size ∧ Hid (wx.heap[w.heap.size]? = some (.stringIter s i)) ∧ Hid (Below w.heap.size w wx) ∧ Hid (Lib.NoAny s.data.toList cb.data.toList i))
  case atStart => exact ⟨0, by omega, heap_alloc_new w _, (Below.refl _ _).alloc (Nat.le_refl _) _, Lib.NoAny.zero _ _⟩
  case round =>
    obtain ⟨i, hig, HI, HW, HN⟩ := hrel
    by_cases hi : i < s.size
    · have hz := HW.out.size
      by_cases hx128 : (s[i]'hi).toNat < 128
      · obtain ⟨x, hx⟩ : ∃ x : UInt8, s[i]'hi = x := ⟨_, rfl⟩
        have hxl : s.data.toList[i]? = some x := by rw [← hx, List.getElem?_eq_getElem (by simpa using hi)]; rfl
        have hnx := fun ty => Lib.run_next_ascii_at (P := Tryz.prog) wr w.heap.size s i ty HI.out hi hx128
        have HI2 := Lib.hid (Lib.iterAt_heap wr w.heap.size s i (i + 1) HI.out)
        have HW2 := Lib.hid (below_iterAt HW.out (Nat.le_refl _) s (i + 1))
        rw [hx] at hnx hx128
        have Hx := Lib.hid hxl
        clear hxl hx
        have hcon := Lib.contains_iff_indexByte cb.data.toList x
        have hback : ((x.toNat : Int)).toNat.toUInt8 = x := by simp
        cases hin : cb.data.toList.contains x
        · rw [hin] at hcon
          have hlt : ¬ ((0 : Int) ≤ Lib.indexByte cb.data.toList x) := of_decide_eq_false hcon.symm
          have HIN := Lib.hid hin
          clear hcon hin
          go_wp2_with (go_at_call 114; refine (Tryz.strings_IndexRune_ascii _ _ _ (by omega) (by omega)).mono ?_; rintro e w' ⟨rfl, hw⟩; rw [hw, hback]; clear hw)
          go_roundg (s.size - (i + 1))
          case measure => omega
          case rel => exact ⟨i + 1, by omega, HI2, HW2, HN.out.succ Hx.out HIN.out⟩
        · rw [hin] at hcon
          have hge : (0 : Int) ≤ Lib.indexByte cb.data.toList x := of_decide_eq_true hcon.symm
          have HIN := Lib.hid hin
          clear hcon hin
          go_wp2_with (go_at_call 114; refine (Tryz.strings_IndexRune_ascii _ _ _ (by omega) (by omega)).mono ?_; rintro e w' ⟨rfl, hw⟩; rw [hw, hback]; clear hw)
          go_ret
          exact ⟨by rw [Lib.indexAny_hit HN.out Hx.out HIN.out]; rfl, HW2.out⟩
      · have hnx := fun ty => Lib.run_next_any_at (P := Tryz.prog) wr w.heap.size s i ty HI.out hi
        obtain ⟨d1, d2, d3, d4⟩ := decode_hi s i hi hx128
        have HI2 := Lib.hid (Lib.iterAt_heap wr w.heap.size s i (i + (Utf8.decode s i).2) HI.out)
        have HW2 := Lib.hid (below_iterAt HW.out (Nat.le_refl _) s (i + (Utf8.decode s i).2))
        have HN2 := Lib.hid (noAny_more HN.out (by rw [← HCB.out]; exact chars_ascii) d3)
        have hzi : (wr.iterAt w.heap.size s (i + (Utf8.decode s i).2)).heap.size = wr.heap.size := by simp [World.iterAt]
        obtain ⟨r, hr⟩ : ∃ r, (Utf8.decode s i).1 = r := ⟨_, rfl⟩
        obtain ⟨n, hn⟩ : ∃ r, (Utf8.decode s i).2 = r := ⟨_, rfl⟩
        rw [hr] at hnx d4
        rw [hn] at hnx d1 d2 HI2 HW2 HN2 hzi
        have HC : Hid (∀ W : World, Calls Tryz.prog 114 #[.string cb, .int .i32 (r : Int)] W fun e w' => e = .returned (.int .i64 (-1)) ∧ Below W.heap.size W w') := by
          intro W
          rw [← HCB.out]
          by_cases he : (r : Int) = 65533
          · rw [he]; exact indexRune_err W
          · rcases d4 with d4 | ⟨d4, d5⟩
            · omega
            · exact indexRune_hi r W d4 (by omega) he
        clear d3 d4 hr hn HCB
        go_wp2_with (go_at_call 114; refine (HC.out _).mono ?_; rintro e w2 ⟨rfl, hb2⟩; have HI3 := Lib.hid (heap_keep HI2.out hb2); have HW3 := Lib.hid (bch HW2.out hb2 (by rw [hzi]; omega)); clear hb2)
        go_roundg (s.size - (i + n))
        case measure => omega
        case rel => exact ⟨i + n, by omega, HI3, HW3, HN2⟩
    · have hnx := fun ty => Lib.run_next_end_at (P := Tryz.prog) wr w.heap.size s i ty HI.out hi
      go_wp2_with fail
      go_ret
      have hle : s.data.toList.length ≤ i := by simp; omega
      exact ⟨by rw [Lib.indexAny_none (fun j b hj hb => HN.out j b (by omega) hb)]; rfl, HW.out⟩

/-- Has a text a byte for which it is printed in quotes? -/
def needs (l : List UInt8) : Bool := l.any fun c => c = 44 || c = 34 || c = 10 || c = 13

theorem needs_index (l : List UInt8) : decide (0 ≤ Lib.indexAny l charsB.data.toList) = needs l := by
  induction l with
  | nil => rfl
  | cons c r ih =>
    have hge := Lib.indexAny_ge charsB.data.toList r
    have hc : charsB.data.toList.contains c = (c = 44 || c = 34 || c = 10 || c = 13) := by
      show ([44, 34, 13, 10] : List UInt8).contains c = _
      simp only [List.contains_cons, List.contains_nil, Bool.or_false]
      by_cases h1 : c = 44 <;> by_cases h2 : c = 34 <;> by_cases h3 : c = 10 <;> by_cases h4 : c = 13 <;> simp [h1, h2, h3, h4]
    unfold needs at ih ⊢
    rw [Lib.indexAny, hc, List.any_cons, ← ih]
    by_cases h : (decide (c = 44) || decide (c = 34) || decide (c = 10) || decide (c = 13)) = true
    · rw [if_pos h, h]; simp
    · rw [if_neg h]
      have hf : (decide (c = 44) || decide (c = 34) || decide (c = 10) || decide (c = 13)) = false := by simpa using h
      rw [hf, Bool.false_or]
      split
      · rename_i he
        rw [beq_iff_eq.1 he]
      · rename_i he
        have : ¬ Lib.indexAny r charsB.data.toList = -1 := fun e => he (beq_iff_eq.2 e)
        have hp : 0 ≤ Lib.indexAny r charsB.data.toList := by omega
        rw [decide_eq_true hp, decide_eq_true (by omega)]

theorem set_info : (Tryz.prog.info? 139).map (fun i => (i.zero, i.size)) = some (some (.agg (Array.replicate 256 (.bool false))), 256) := by kernel_rfl

set_option maxRecDepth 100000 in
set_option maxHeartbeats 1000000 in
theorem containsAny_any (s : ByteArray) (w : World) (hs : s.size ≤ 1000000) :
    Calls Tryz.prog 88 #[.string s, .string charsB] w fun e w' => e = .returned (.bool (needs s.data.toList)) ∧ Below w.heap.size w w' := by
  have HC := Lib.hid (show Calls Tryz.prog 104 #[.string s, .string charsB] w fun e w' => e = .returned (.int .i64 (Lib.indexAny s.data.toList charsB.data.toList)) ∧ Below w.heap.size w w' from by
    by_cases h8 : s.size ≤ 8
    · exact indexAny_short s w h8
    · refine (Tryz.strings_IndexAny_long (zero_of_info set_info).1 s charsB w (by decide) (by omega) (by omega) (by decide) (fun j b hj => chars_ascii b (List.mem_of_getElem? hj))).mono ?_
      rintro e w' ⟨rfl, rfl⟩
      exact ⟨rfl, ((Below.refl _ _).alloc (Nat.le_refl _) _).alloc (by simp) _⟩)
  have HN := Lib.hid (needs_index s.data.toList)
  obtain ⟨n, hn⟩ : ∃ n, Lib.indexAny s.data.toList charsB.data.toList = n := ⟨_, rfl⟩
  rw [hn] at HC HN
  clear hn
  obtain ⟨cb, hcb⟩ : ∃ c, charsB = c := ⟨_, rfl⟩
  rw [hcb] at HC ⊢
  clear hcb
  go_enter Tryz.func88, Tryz.ntmps88
  go_wp2_with (go_at_call 104; refine HC.out.mono ?_; rintro e w1 ⟨rfl, hb⟩)
  go_ret
  exact ⟨ret_bool HN.out, hb⟩
end Go.Proofs.YtgpjbigelblanaaGreatDoor

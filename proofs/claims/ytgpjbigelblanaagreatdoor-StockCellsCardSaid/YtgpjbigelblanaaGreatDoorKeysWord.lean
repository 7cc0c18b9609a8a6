/- keys.Party, Word, Deed; the document's words, Word, Deed, beside the texts of rows: what they compute. -/
import Derived.Test.YtgpjbigelblanaaGreatDoorKeysDeed
import Derived.Test.YtgpjbigelblanaaGreatDoorKeyTab
import Derived.Test.YtgpjbigelblanaaGreatDoorMoneyText
import Derived.Maps.RangeWalk
import Derived.Sort.KeysCollected
import Derived.Lib.LaidTab
namespace Go.Proofs.YtgpjbigelblanaaGreatDoor
open Go.RowKit Go.Maps Key Mon

abbrev tStr : TypeId := 9
abbrev tIntK2 : TypeId := 3
/-- The deeds, as the package's map has them. -/
def D6 : DataW Unit := .map [(.string [99, 104, 97, 114, 103, 101], .lit (.int .i64 1)), (.string [114, 101, 102, 117, 110, 100], .lit (.int .i64 4)), (.string [114, 101, 108, 101, 97, 115, 101], .lit (.int .i64 3)), (.string [114, 101, 115, 101, 114, 118, 101], .lit (.int .i64 0)), (.string [115, 104, 105, 112], .lit (.int .i64 2)), (.string [118, 111, 105, 100], .lit (.int .i64 5))]
/-- What keys asks of the world. -/
structure KW (w : World) : Prop where
  mw : MW w
  tab : Lib.TabIs Tryz.prog w "consignor/keys.parties" .i64 [1, 0, 2, 1, 0, 2]
  deeds : ∃ b, w.cell? ⟨0, 0, none⟩ = some (.map (some b)) ∧ 0 < w.heap.size ∧ w.ownsMap Tryz.prog tStr (plainElem Tryz.prog tIntK2) b 6 D6
theorem owns_below {H : Type} {P : Program} {k : TypeId} {R : Value → Option (DataW H × List MemPlace)} {w w' : World} {b n : Nat} {D : DataW H} (h : w.ownsMap P k R b n D) (hb : Below w.heap.size w w') : w'.ownsMap P k R b n D := by
  have hlt := h.lt
  obtain ⟨es, clock, h1, h2⟩ := h
  exact ⟨es, clock, (hb.block b hlt).trans h1, h2⟩
theorem KW.below {w w' : World} (h : KW w) (hb : Below w.heap.size w w') : KW w' := by
  obtain ⟨h1, h4, ⟨b, h5, h6, h7⟩⟩ := h
  exact ⟨h1.below hb, var_below h4 hb, ⟨b, (hb.cell h6).trans h5, Nat.lt_of_lt_of_le h6 hb.size, owns_below h7 hb⟩⟩

theorem gPartiesK2 : Tryz.prog.globalNamed "consignor/keys.parties" = some 2 := by kernel_rfl
theorem lawStr : Keyed Tryz.prog tStr := string_keyed Tryz.underlying9
theorem zeroIntK2 (w : World) : (zeroValue tIntK2).run Tryz.prog w = .ok (.int .i64 0) w := by kernel_rfl

theorem party_anyK2 (d : Int) (w : World) (hK : KW w) : Calls Tryz.prog 73 #[.int .i64 d] w fun e w' => e = .returned (.int .i64 (partyI d)) ∧ w = w' := by
  have HT := Lib.hid hK.tab
  clear hK
  by_cases h : 0 ≤ d ∧ d < 6
  · have HI := Lib.hid (show ∀ W, Calls Tryz.prog 94 #[.int .i64 d] W fun e w' => e = .returned (.bool true) ∧ W = w' from fun W => by
      have := is_call d W
      rw [show isK d = true by unfold isK; simpa using h] at this
      exact this)
    have hc : w.cell? ⟨2, d.toNat, none⟩ = some (.int .i64 (partyI d)) := by
      rcases deed6 h with rfl | rfl | rfl | rfl | rfl | rfl
      · exact HT.out.cell gPartiesK2 0 (by decide)
      · exact HT.out.cell gPartiesK2 1 (by decide)
      · exact HT.out.cell gPartiesK2 2 (by decide)
      · exact HT.out.cell gPartiesK2 3 (by decide)
      · exact HT.out.cell gPartiesK2 4 (by decide)
      · exact HT.out.cell gPartiesK2 5 (by decide)
    obtain ⟨h1, h2⟩ := h
    go_enter Tryz.func73, Tryz.ntmps73
    go_wp2_with fail
    refine (HI.out _).mono ?_
    rintro e w1 ⟨rfl, hw⟩; subst hw
    go_wp2_with fail
    go_ret
    exact ⟨rfl, rfl⟩
  · have HI := Lib.hid (show ∀ W, Calls Tryz.prog 94 #[.int .i64 d] W fun e w' => e = .returned (.bool false) ∧ W = w' from fun W => by
      have := is_call d W
      rw [show isK d = false by unfold isK; simpa using h] at this
      exact this)
    have HF := Lib.hid (show partyI d = -1 by unfold partyI; rw [if_neg (by omega), if_neg (by omega), if_neg (by omega)])
    go_enter Tryz.func73, Tryz.ntmps73
    go_wp2_with fail
    refine (HI.out _).mono ?_
    rintro e w1 ⟨rfl, hw⟩; subst hw
    go_wp2_with fail
    go_ret
    exact ⟨by rw [HF.out]; rfl, rfl⟩

theorem deed_at (s : List UInt8) : Maps.has D6 (.string s) = (deedK s).2 ∧ D6.atKey (.string s) (.lit (.int .i64 0)) = .lit (.int .i64 (deedK s).1) := by
  rcases deed_cases s with ⟨d, h1, h2, rfl, _⟩ | ⟨hn, hd⟩
  · rcases deed6 ⟨h1, h2⟩ with rfl | rfl | rfl | rfl | rfl | rfl <;> exact ⟨rfl, rfl⟩
  · have hs : ∀ p ∈ [(Lit.string [99, 104, 97, 114, 103, 101], (DataW.lit (.int .i64 1) : DataW Unit)), (.string [114, 101, 102, 117, 110, 100], .lit (.int .i64 4)), (.string [114, 101, 108, 101, 97, 115, 101], .lit (.int .i64 3)), (.string [114, 101, 115, 101, 114, 118, 101], .lit (.int .i64 0)), (.string [115, 104, 105, 112], .lit (.int .i64 2)), (.string [118, 111, 105, 100], .lit (.int .i64 5))], p.1.sameKey (.string s) = false := by
      intro p hp
      refine Maps.sameKey_ne fun e => ?_
      simp only [List.mem_cons, List.not_mem_nil, or_false] at hp
      rcases hp with rfl | rfl | rfl | rfl | rfl | rfl <;> simp only [Lit.string.injEq] at e
      · exact hn 1 (by omega) e
      · exact hn 4 (by omega) e
      · exact hn 3 (by omega) e
      · exact hn 0 (by omega) e
      · exact hn 2 (by omega) e
      · exact hn 5 (by omega) e
    rw [hd]
    refine ⟨?_, ?_⟩
    · show List.any _ _ = false
      rw [List.any_eq_false]
      intro p hp
      rw [hs p hp]; simp
    · unfold D6
      simp only [DataW.atKey]
      rw [List.find?_eq_none.2 (fun p hp => by rw [hs p hp]; simp)]

set_option maxHeartbeats 1000000 in
theorem deed_any (s : ByteArray) (w : World) (hs : s.size ≤ maxLen) (hK : KW w) : Calls Tryz.prog 72 #[.string s] w fun e w' => e = .returned (.tuple #[.int .i64 (deedK s.data.toList).1, .bool (deedK s.data.toList).2]) ∧ w = w' := by
  obtain ⟨b, hc, _, ho⟩ := hK.deeds
  have HO := Lib.hid ho
  have HK := Lib.hid (WideMaps.keyOf_string_mk (P := Tryz.prog) (k := tStr) Tryz.underlying9 hs)
  have HD := Lib.hid (deed_at s.data.toList)
  clear ho hK hs
  go_enter Tryz.func72, Tryz.ntmps72
  go_wp2_with (at_lookup; refine wpList_lookup_own_ok_int _ rfl _ _ 85 rfl tStr tIntK2 .i64 lawStr Tryz.underlying85 Tryz.underlying3 (zeroIntK2 _) b 6 D6 rfl HO.out _ _ rfl HK.out ?_; intro c hat hwc; have HAT := Lib.hid hat; clear hat)
  have HC := Lib.hid (show c = (deedK s.data.toList).1 by
    have h := HAT.out.symm.trans HD.out.2
    simpa using h)
  go_ret2
  exact ⟨by rw [HC.out, ← HD.out.1]; rfl, rfl⟩

/-- The walk over the words: none that has come has this number. -/
def NoWord (d : Int) (left : Lit → Bool) : Prop := ∀ s : List UInt8, Maps.has D6 (.string s) = true → left (.string s) = false → (deedK s).1 ≠ d
theorem NoWord.start (d : Int) : NoWord d (Maps.has D6) := fun s h1 h2 => by rw [h1] at h2; cases h2
theorem NoWord.step {d : Int} {left : Lit → Bool} {x : List UInt8} (h : NoWord d left) (hx : (deedK x).1 ≠ d) : NoWord d (fun z => left z && !z.sameKey (.string x)) := by
  intro s h1 h2
  by_cases e : s = x
  · rw [e]; exact hx
  · have h3 : (Lit.string s).sameKey (.string x) = false := Maps.sameKey_ne (fun h => e (by injection h))
    exact h s h1 (by simpa [h3] using h2)
theorem NoWord.done {d : Int} {left : Lit → Bool} (h : NoWord d left) (hl : ∀ kl, left kl = false) : wordL d = [] := by
  by_cases hd : 0 ≤ d ∧ d < 6
  · have h1 := deed_word hd
    exact absurd (by rw [h1]) (h (wordL d) (by rw [(deed_at _).1, h1]) (hl _))
  · exact word_no hd
theorem word_of {x : List UInt8} {c : Int} (h : Maps.has D6 (.string x) = true) (hat : ∀ zd, D6.atKey (.string x) zd = .lit (.int .i64 c)) : (deedK x).1 = c ∧ wordL c = x := by
  have h1 := (deed_at x).2
  rw [hat] at h1
  have h2 : c = (deedK x).1 := by simpa using h1
  rw [(deed_at x).1] at h
  rcases deed_cases x with ⟨e, _, _, hw, he⟩ | ⟨_, he⟩
  · rw [he] at h2
    subst h2
    exact ⟨by rw [he], hw⟩
  · rw [he] at h; cases h

set_option maxHeartbeats 1000000 in
theorem word_any (d : Int) (w : World) (hK : KW w) : Calls Tryz.prog 29 #[.int .i64 d] w fun e w' => e = .returned (.string ⟨(wordL d).toArray⟩) ∧ Below w.heap.size w w' := by
  obtain ⟨b, hc, _, ho⟩ := hK.deeds
  have HO := Lib.hid ho
  have HBL := Lib.hid ho.lt
  clear ho hK
  go_enter Tryz.func29, Tryz.ntmps29
  go_wp2_with (at_range; refine wpList_range_own _ rfl _ 85 rfl tStr tIntK2 lawStr Tryz.underlying85 _ b 6 D6 rfl HO.out ?_; intro w0 hrg0 hg0 hs0)
  go_frame
  have HRG0 := Lib.hid hrg0
  have HB0 := Lib.hid ((Below.refl w.heap.size w).grown hg0 (Nat.le_refl _) (fun j hj => by cases hj))
  clear hrg0 hg0 hs0
  go_loopw [3, 4] (fun _ _ wr => ∃ left cnt, Hid (wr.ranges Tryz.prog tStr (plainElem Tryz.prog tIntK2) b w.heap.size 6 D6 left cnt) ∧ Hid (NoWord d left) ∧ Hid (Below w.heap.size w wr)) (fun _ _ wr => wr.rangeLeft b w.heap.size)
  case atStart => exact ⟨_, _, HRG0.out, NoWord.start d, HB0.out⟩
  case round =>
    obtain ⟨left, cnt, HR, HN, HB⟩ := hrel
    go_wp2_with (at_next; refine wpList_next_ranges _ rfl _ rfl tStr lawStr (plainElem Tryz.prog tIntK2) encStr (Value.int .i64) (fun key kl hk => by obtain ⟨x, hx, _⟩ := Maps.keyOf_str Tryz.underlying9 hk; exact ⟨x, hx⟩) (fun v y hv => by obtain ⟨c, rfl, _⟩ := plainElem_int_inv Tryz.underlying3 hv; exact ⟨c, rfl⟩) b w.heap.size 6 D6 left cnt rfl HR.out ?_ ?_)
    · intro _ hl
      have HW := Lib.hid (HN.out.done hl)
      clear hl
      go_wp2_with fail
      go_ret
      exact ⟨by rw [HW.out]; rfl, HB.out⟩
    · intro x c kl yd yp w2 cnt2 hkey hlk hv hat hrg2 hlt hg2 hs2 hen
      obtain ⟨x', ex, rfl, hxl⟩ := Maps.keyOf_str Tryz.underlying9 hkey
      obtain rfl : x = x' := encStr_inj ex
      obtain ⟨c', ec, ey, _⟩ := plainElem_int_inv Tryz.underlying3 hv
      injection ec with _ ec
      subst ec
      simp only [Prod.mk.injEq] at ey
      obtain ⟨ey, _⟩ := ey
      subst ey
      have HH := Lib.hid (show Maps.has D6 (.string x) = true from Maps.has_true_of_atKey hat)
      have HX := Lib.hid (word_of HH.out hat)
      have HR2 := Lib.hid hrg2
      have HLT := Lib.hid hlt
      have HB2 := Lib.hid (HB.out.grown hg2 HB.out.size (fun j hj => by cases hj; exact Nat.le_refl _))
      clear hkey hlk hv hat hrg2 hlt hg2 hs2 hxl
      by_cases hcd : c = d
      · have hq := beqT hcd
        have HW := Lib.hid (show wordL d = x by rw [← hcd]; exact HX.out.2)
        clear hcd
        go_wp2_with fail
        go_ret
        exact ⟨by rw [HW.out]; rfl, HB2.out⟩
      · have hq := beqF hcd
        have HN2 := Lib.hid (HN.out.step (x := x) (by rw [HX.out.1]; exact hcd))
        clear hcd
        go_wp2_with fail
        go_roundw
        case rel => exact ⟨_, cnt2, HR2, HN2, HB2⟩
        case measure => rw [HR2.out.left_eq, HR.out.left_eq]; exact HLT.out


def words6 : Value := .agg #[.string ⟨#[114, 101, 115, 101, 114, 118, 101]⟩, .string ⟨#[99, 104, 97, 114, 103, 101]⟩, .string ⟨#[115, 104, 105, 112]⟩, .string ⟨#[114, 101, 108, 101, 97, 115, 101]⟩, .string ⟨#[114, 101, 102, 117, 110, 100]⟩, .string ⟨#[118, 111, 105, 100]⟩]
theorem words_at (d : Int) (h : 0 ≤ d ∧ d < 6) (w : World) : (Instr.index 97 words6 (.int .i64 d)).run Tryz.prog w = .ok (.string ⟨(wordL d).toArray⟩) w := by
  rcases deed6 h with rfl | rfl | rfl | rfl | rfl | rfl
  · exact (show (Instr.index 97 words6 (.int .i64 0)).run Tryz.prog w = .ok (.string ⟨(wordL 0).toArray⟩) w by kernel_rfl)
  · exact (show (Instr.index 97 words6 (.int .i64 1)).run Tryz.prog w = .ok (.string ⟨(wordL 1).toArray⟩) w by kernel_rfl)
  · exact (show (Instr.index 97 words6 (.int .i64 2)).run Tryz.prog w = .ok (.string ⟨(wordL 2).toArray⟩) w by kernel_rfl)
  · exact (show (Instr.index 97 words6 (.int .i64 3)).run Tryz.prog w = .ok (.string ⟨(wordL 3).toArray⟩) w by kernel_rfl)
  · exact (show (Instr.index 97 words6 (.int .i64 4)).run Tryz.prog w = .ok (.string ⟨(wordL 4).toArray⟩) w by kernel_rfl)
  · exact (show (Instr.index 97 words6 (.int .i64 5)).run Tryz.prog w = .ok (.string ⟨(wordL 5).toArray⟩) w by kernel_rfl)

set_option maxHeartbeats 1000000 in
theorem refWords_any (w : World) : Calls Tryz.prog 68 #[] w fun e w' => e = .returned words6 ∧ Below w.heap.size w w' := by
  go_enter Tryz.func68, Tryz.ntmps68
  go_wp2_with fail
  exact bodyPost_ret (v := words6) (by simp [results, Tryz.results68, go_sem]; rfl) rfl ⟨rfl, below_alloc _ _⟩

theorem refWord_any (d : Int) (w : World) : Calls Tryz.prog 34 #[.int .i64 d] w fun e w' => e = .returned (.string ⟨(wordL d).toArray⟩) ∧ Below w.heap.size w w' := by
  by_cases h : 0 ≤ d ∧ d < 6
  · have hidx := fun W => words_at d h W
    obtain ⟨h1, h2⟩ := h
    go_enter Tryz.func34, Tryz.ntmps34
    go_wp2_with fail
    refine (refWords_any _).mono ?_
    rintro e w1 ⟨rfl, hb⟩
    have HB := Lib.hid hb
    clear hb
    go_wp2_with fail
    go_ret
    exact ⟨rfl, HB.out⟩
  · have HF := Lib.hid (word_no h)
    by_cases h1 : d < 0
    · go_enter Tryz.func34, Tryz.ntmps34
      go_wp2_with fail
      go_ret
      exact ⟨by rw [HF.out]; rfl, Below.refl _ _⟩
    · have h2 : 5 < d := by omega
      clear h
      go_enter Tryz.func34, Tryz.ntmps34
      go_wp2_with fail
      go_ret
      exact ⟨by rw [HF.out]; rfl, Below.refl _ _⟩

set_option maxHeartbeats 1000000 in
theorem refDeed_any (s : ByteArray) (w : World) : Calls Tryz.prog 76 #[.string s] w fun e w' => e = .returned (.tuple #[.int .i64 (deedK s.data.toList).1, .bool (deedK s.data.toList).2]) ∧ Below w.heap.size w w' := by
  obtain ⟨x, y, hR⟩ : ∃ x y, deedK s.data.toList = (x, y) := ⟨_, _, rfl⟩
  rw [hR]
  have HR := Lib.hid hR
  clear hR
  go_enter Tryz.func76, Tryz.ntmps76
  go_wp2_with fail
  go_loopw [4] (fun i wr => ∃ j : Int, 0 ≤ j ∧ j ≤ 6 ∧ i = .int .i64 j ∧ Hid (∀ d, 0 ≤ d → d < j → wordL d ≠ s.data.toList) ∧ Hid (Below w.heap.size w wr)) (fun i _ => (6 - intOf i).toNat)
  case atStart => exact ⟨0, by omega, by omega, rfl, fun d h1 h2 => by omega, Below.refl _ _⟩
  case round =>
    obtain ⟨j, hj1, hj2, rfl, HN, HB⟩ := hrel
    by_cases hlt : j < 6
    · have hidx := fun W => words_at j ⟨hj1, hlt⟩ W
      go_wp2_with fail
      refine (refWords_any _).mono ?_
      rintro e w1 ⟨rfl, hb⟩
      have HB1 := Lib.hid (bch HB.out hb HB.out.size)
      clear hb
      by_cases hi : wordL j = s.data.toList
      · have HD := Lib.hid (show (x, y) = (j, true) from HR.out.symm.trans (hi ▸ deed_word ⟨hj1, hlt⟩))
        have q := itoaT _ s hi
        clear hi
        go_wp2_with fail
        go_ret2
        exact ⟨ret_pair HD.out, HB1.out⟩
      · have HN2 := Lib.hid (show ∀ d, 0 ≤ d → d < j + 1 → wordL d ≠ s.data.toList from fun d h1 h2 => by
          by_cases e : d = j
          · rw [e]; exact hi
          · exact HN.out d h1 (by omega))
        have q := itoaF _ s hi
        clear hi
        go_wp2_with fail
        go_roundw
        case rel => exact ⟨j + 1, by omega, by omega, by go_num, HN2.out, HB1.out⟩
        case measure => simp [intOf]; omega
    · have HD := Lib.hid (show (x, y) = (0, false) by
        have h := HR.out
        rcases deed_cases s.data.toList with ⟨d, h1, h2, h3, _⟩ | ⟨_, h3⟩
        · exact absurd h3 (HN.out d h1 (by omega))
        · exact h.symm.trans h3)
      go_wp2_with fail
      go_ret2
      exact ⟨ret_pair HD.out, HB.out⟩

/-- The table of parties, of the two. -/
theorem KW.pt {w : World} (h : KW w) : PT w := h.tab
end Go.Proofs.YtgpjbigelblanaaGreatDoor

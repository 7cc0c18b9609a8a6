/- The document's digits, Put: what they compute. -/
import Derived.Test.YtlkncmpengpbiaaGreatDoorMoneyWalk1
import Derived.Lib.ItoaLen
import Derived.Laws.IdiomStrings
import Derived.Test.YtlkncmpengpbiaaGreatDoorShelf
import Derived.Lib.SmallJoins
import Derived.Test.YtlkncmpengpbiaaGreatDoorKeysDeed
import Derived.Test.YtlkncmpengpbiaaGreatDoorKeyTab
import Derived.Maps.RangeWalk
import Derived.Sort.KeysCollected
import Derived.Lib.LaidTab
import Derived.Deep.RegionWith
import Derived.Deep.RegionHeld3
namespace Go.Proofs.YtlkncmpengpbiaaGreatDoor
open Go.RowKit Mon

namespace Mon
open Go.Lib
/-- The digits so far: what is left of the number, and what was written behind it. -/
def DigInv (u n : Nat) (s : List UInt8) : Prop := (s = [] ∧ n = u) ∨ (s ≠ [] ∧ decDigits u = (if n = 0 then [] else decDigits n) ++ s)
theorem DigInv.start (u : Nat) : DigInv u u [] := .inl ⟨rfl, rfl⟩
theorem DigInv.step {u n : Nat} {s : List UInt8} (h : DigInv u n s) (hn : 0 < n ∨ s = []) : DigInv u (n / 10) (UInt8.ofNat (48 + n % 10) :: s) := by
  refine .inr ⟨by simp, ?_⟩
  have e : (if n / 10 = 0 then [] else decDigits (n / 10)) ++ UInt8.ofNat (48 + n % 10) :: s = decDigits n ++ s := by
    conv => rhs; rw [dec_snoc n]
    rw [List.append_assoc]
    congr 1
    by_cases h10 : n < 10
    · rw [if_pos h10, if_pos (by omega)]
    · rw [if_neg h10, if_neg (by omega)]
  rw [e]
  rcases h with ⟨rfl, rfl⟩ | ⟨h1, h2⟩
  · simp
  · rcases hn with hn | hn
    · rw [h2, if_neg (by omega)]
    · exact absurd hn h1
theorem DigInv.done {u n : Nat} {s : List UInt8} (h : DigInv u n s) (hn : n = 0) (hs : s ≠ []) : decDigits u = s := by
  rcases h with ⟨h1, _⟩ | ⟨_, h2⟩
  · exact absurd h1 hs
  · rw [h2, if_pos hn]; rfl
theorem DigInv.len {u n : Nat} {s : List UInt8} (h : DigInv u n s) (hu : u < 18446744073709551616) : s.length ≤ 20 := by
  rcases h with ⟨rfl, _⟩ | ⟨_, h2⟩
  · simp
  · have h3 := nDigits_le20 u hu
    rw [← decDigits_length, h2, List.length_append] at h3
    omega
theorem digit_is (n : Nat) : ∃ c : UInt8, c = UInt8.ofNat (48 + n % 10) ∧ (c.toNat : Int) = 48 + (n : Int) % 10 :=
  ⟨_, rfl, by rw [digit_of _ (Nat.mod_lt _ (by omega))]; omega⟩
end Mon
def emptyN : Value → Nat
  | .string s => if s.size = 0 then 1 else 0
  | _ => 0
theorem emptyN_cons (c : UInt8) (s : List UInt8) : emptyN (.string ⟨(c :: s).toArray⟩) = 0 := by simp [emptyN, ByteArray.size]
theorem emptyN_nil : emptyN (.string ⟨#[]⟩) = 1 := by simp [emptyN, ByteArray.size]

/-- string([]byte{c}). -/
theorem conv_one (W : World) (x : Int) (c : UInt8) (h : (c.toNat : Int) = x) : (convert 184 9 (.slice (some ⟨W.heap.size, 0, none⟩) 1 1)).run Tryz.prog (W.alloc (.cells #[.int .u8 x] 5)) = .ok (.string ⟨#[c]⟩) (W.alloc (.cells #[.int .u8 x] 5)) := by
  refine run_convert_bytes_back (P := Tryz.prog) (W.alloc (.cells #[.int .u8 x] 5)) 184 9 5 ⟨W.heap.size, 0, none⟩ 1 [c] Tryz.underlying184 Tryz.underlying5 Tryz.underlying9 (fun j hj => ?_)
  have hj0 : j = 0 := by simpa using hj
  subst hj0
  show _ = some (Value.int .u8 (c.toNat : Int))
  rw [h]
  exact one_new W (.int .u8 x) 5 0 _ rfl

set_option maxHeartbeats 1000000 in
theorem digits_any (u : Nat) (w : World) (hu : u < 18446744073709551616) :
    Calls Tryz.prog 171 #[.int .u64 u] w fun e w' => e = .returned (.string ⟨(Lib.decDigits u).toArray⟩) ∧ Below w.heap.size w w' := by
  have HU := Lib.hid hu
  clear hu
  go_enter Tryz.func171, Tryz.ntmps171
  go_wp2_with fail
  go_loopw [0, 3] (fun nv sv wr => ∃ (n : Nat) (s : List UInt8), nv = .int .u64 n ∧ sv = .string ⟨s.toArray⟩ ∧ n ≤ u ∧ Hid (DigInv u n s) ∧ Hid (Below w.heap.size w wr)) (fun nv sv _ => (intOf nv).toNat + emptyN sv)
  case atStart => exact ⟨u, [], rfl, rfl, Nat.le_refl _, DigInv.start u, Below.refl _ _⟩
  case round =>
    obtain ⟨n, s, rfl, rfl, hn, HI, HB⟩ := hrel
    have hU := HU.out
    have hsl := HI.out.len hU
    by_cases hn0 : n = 0
    · by_cases hs : s = []
      · subst hn0; subst hs
        have hcv := fun W => conv_one W 48 48 rfl
        clear hU hn
        go_wp2_with fail
        go_roundw
        case rel => exact ⟨0, [48], rfl, rfl, Nat.zero_le _, HI.out.step (.inr rfl), HB.out.alloc HB.out.size _⟩
        case measure => show _ + emptyN (.string ⟨[48].toArray⟩) < _ + emptyN (.string ⟨#[]⟩); rw [emptyN_cons, emptyN_nil]; simp [intOf]
      · have hz : s.isEmpty = false := by simpa using hs
        have HD := Lib.hid (HI.out.done hn0 hs)
        subst hn0
        clear hs hn hU
        go_wp2_with fail
        go_ret
        exact ⟨by rw [HD.out]; rfl, HB.out⟩
    · have hng : (0 : Int) < (n : Int) := by omega
      obtain ⟨c, hc, hci⟩ := digit_is n
      have hcv := fun W => conv_one W (48 + (n : Int) % 10) c hci
      have HN := Lib.hid hn0
      have HC := Lib.hid hc
      clear hn0 hc hci
      go_wp2_with fail
      go_roundw
      case rel => exact ⟨n / 10, c :: s, rfl, congrArg Value.string (join_bytes [c] s), by omega, by rw [HC.out]; exact HI.out.step (.inl (by omega)), HB.out.alloc HB.out.size _⟩
      case measure =>
        have := HN.out
        have h2 := emptyN_cons c s
        show (intOf (Value.int .u64 ((n : Int) / 10))).toNat + emptyN (.string ⟨(c :: s).toArray⟩) < _
        rw [h2]
        simp only [intOf]; omega

theorem refPut_any (n : Int) (w : World) (hn : InR n) :
    Calls Tryz.prog 150 #[.int .i64 n] w fun e w' => e = .returned (.string ⟨(Lib.itoa n).toArray⟩) ∧ Below w.heap.size w w' := by
  obtain ⟨h1, h2⟩ := hn
  by_cases h : n < 0
  · obtain ⟨u, rfl⟩ : ∃ u : Nat, n = -(u : Int) := ⟨n.natAbs, by omega⟩
    have HQ : Hid (Calls Tryz.prog 171 #[.int .u64 u] w fun e w' => e = .returned (.string ⟨(Lib.decDigits u).toArray⟩) ∧ Below w.heap.size w w') := digits_any u w (by omega)
    rw [Lib.itoa_neg u (by omega)]
    have HL : Hid ((Lib.decDigits u).length ≤ 20) := by have := Lib.nDigits_le20 u (by omega); rw [← Lib.decDigits_length] at this; exact this
    generalize Lib.decDigits u = s at HQ HL ⊢
    go_enter Tryz.func150, Tryz.ntmps150
    go_wp2_with fail
    rw [show (-(-(u : Int) + 1) + 1) = (u : Int) by omega]
    refine HQ.out.mono ?_
    rintro e w1 ⟨rfl, hb⟩
    have HB := Lib.hid hb
    have hl := HL.out
    clear hb
    go_wp2_with fail
    go_ret
    exact ⟨congrArg (fun b => Ending.returned (Value.string b)) (join_bytes [45] s), HB.out⟩
  · obtain ⟨u, rfl⟩ : ∃ u : Nat, n = (u : Int) := ⟨n.toNat, by omega⟩
    have HQ : Hid (Calls Tryz.prog 171 #[.int .u64 u] w fun e w' => e = .returned (.string ⟨(Lib.decDigits u).toArray⟩) ∧ Below w.heap.size w w') := digits_any u w (by omega)
    rw [Lib.itoa_nonneg]
    go_enter Tryz.func150, Tryz.ntmps150
    go_wp2_with fail
    refine HQ.out.mono ?_
    rintro e w1 ⟨rfl, hb⟩
    have HB := Lib.hid hb
    clear hb
    go_wp2_with fail
    go_ret
    exact ⟨rfl, HB.out⟩

end Go.Proofs.YtlkncmpengpbiaaGreatDoor
/- money.Put, Get: what they compute, in a world that holds the library's table and its two errors. -/
namespace Go.Proofs.YtlkncmpengpbiaaGreatDoor
open Go.RowKit Go.Sort Mon

/-- What the texts of amounts ask of the world. -/
structure MW (w : World) : Prop where
  tab : Lib.TabIs Tryz.prog w "internal/strconv.uint64pow10" .u64 Lib.pow10Tab
  syn : ∃ tp p, w.var? Tryz.prog "strconv.ErrSyntax" = some #[.iface tp p]
  rng : ∃ tp p, w.var? Tryz.prog "strconv.ErrRange" = some #[.iface tp p]

theorem var_below {w w' : World} {name : String} {cs : Array Value} (h : w.var? Tryz.prog name = some cs) (hb : Below w.heap.size w w') : w'.var? Tryz.prog name = some cs := by
  unfold World.var? at h ⊢
  cases hg : Tryz.prog.globalNamed name with
  | none => rw [hg] at h; simp at h
  | some g =>
    rw [hg] at h
    simp only [Option.bind_some] at h ⊢
    by_cases hl : g < w.heap.size
    · rw [hb.block g hl]
      exact h
    · rw [Array.getElem?_eq_none (by omega)] at h
      simp at h
theorem MW.below {w w' : World} (h : MW w) (hb : Below w.heap.size w w') : MW w' := by
  obtain ⟨h1, ⟨a, b, h2⟩, ⟨c, d, h3⟩⟩ := h
  exact ⟨var_below h1 hb, ⟨a, b, var_below h2 hb⟩, ⟨c, d, var_below h3 hb⟩⟩
theorem below_growN (w : World) (k : Nat) (os : Array Obj) : Below w.heap.size w (grow (w.drewN k) os) :=
  ⟨rfl, rfl, rfl, by simp [grow], fun i hi => by
    show ((w.drewN k).heap ++ os)[i]? = _
    exact Array.getElem?_append_left hi⟩

theorem put_any (n : Int) (w : World) (hn : InR n) (hM : MW w) :
    Calls Tryz.prog 133 #[.int .i64 n] w fun e w' => e = .returned (.string ⟨(Lib.itoa n).toArray⟩) ∧ Below w.heap.size w w' := by
  have HF := Lib.hid (Tryz.strconv_FormatInt_10 n hn.1 hn.2 w hM.tab)
  clear hM hn
  go_enter Tryz.func133, Tryz.ntmps133
  go_wp2_with fail
  refine HF.out.mono ?_
  rintro e w1 ⟨rfl, k, os, hw⟩
  have HB := Lib.hid (show Below w.heap.size w w1 by rw [hw]; exact below_growN w k os)
  clear hw
  go_wp2_with fail
  go_ret
  exact ⟨rfl, HB.out⟩

theorem getM_ok {l : List UInt8} {n : Int} (h : Lib.parseIntB 64 l = .ok n) : getM l = if Lib.itoa n = l then (n, true) else (0, false) := by unfold getM; rw [h]
theorem getM_no {l : List UInt8} (h : ∀ m, Lib.parseIntB 64 l ≠ .ok m) : getM l = (0, false) := by
  unfold getM
  rcases h' : Lib.parseIntB 64 l with v | _ | _
  · exact absurd h' (h v)
  · rfl
  · rfl
end Go.Proofs.YtlkncmpengpbiaaGreatDoor
/- keys.Put, beside the texts of match: what it computes. -/
namespace Go.Proofs.YtlkncmpengpbiaaGreatDoor
open Go.RowKit Go.Maps Key Mon
/-- The table that numbers' texts want. -/
structure MWc (w : World) : Prop where
  tab : Lib.TabIs Tryz.prog w "internal/strconv.uint64pow10" .u64 Lib.pow10Tab
theorem MWc.below {w w' : World} (h : MWc w) (hb : Below w.heap.size w w') : MWc w' := ⟨var_below h.tab hb⟩
set_option maxHeartbeats 1000000 in
theorem putc_any (n : Int) (w : World) (hn : InR n) (hM : MWc w) :
    Calls Tryz.prog 133 #[.int .i64 n] w fun e w' => e = .returned (.string ⟨(Lib.itoa n).toArray⟩) ∧ Below w.heap.size w w' := by
  have HF := Lib.hid (Tryz.strconv_FormatInt_10 n hn.1 hn.2 w hM.tab)
  clear hM hn
  go_enter Tryz.func133, Tryz.ntmps133
  go_wp2_with fail
  refine HF.out.mono ?_
  rintro e w1 ⟨rfl, k, os, hw⟩
  have HB := Lib.hid (show Below w.heap.size w w1 by rw [hw]; exact below_growN w k os)
  clear hw
  go_wp2_with fail
  go_ret
  exact ⟨rfl, HB.out⟩

abbrev tStr : TypeId := 9
abbrev tIntK2 : TypeId := 3
/-- The deeds, as the package's map has them. -/
def D6 : DataW Unit := .map [(.string [99, 104, 97, 114, 103, 101], .lit (.int .i64 1)), (.string [114, 101, 102, 117, 110, 100], .lit (.int .i64 4)), (.string [114, 101, 108, 101, 97, 115, 101], .lit (.int .i64 3)), (.string [114, 101, 115, 101, 114, 118, 101], .lit (.int .i64 0)), (.string [115, 104, 105, 112], .lit (.int .i64 2)), (.string [118, 111, 105, 100], .lit (.int .i64 5))]
/-- What keys asks of the world. -/
structure KW (w : World) : Prop where
  mw : MWc w
  tab : Lib.TabIs Tryz.prog w "consignor/keys.parties" .i64 [1, 0, 2, 1, 0, 2]
  deeds : ∃ b, w.cell? ⟨1, 0, none⟩ = some (.map (some b)) ∧ 1 < w.heap.size ∧ w.ownsMap Tryz.prog tStr (plainElem Tryz.prog tIntK2) b 6 D6
theorem owns_below {H : Type} {P : Program} {k : TypeId} {R : Value → Option (DataW H × List MemPlace)} {w w' : World} {b n : Nat} {D : DataW H} (h : w.ownsMap P k R b n D) (hb : Below w.heap.size w w') : w'.ownsMap P k R b n D := by
  have hlt := h.lt
  obtain ⟨es, clock, h1, h2⟩ := h
  exact ⟨es, clock, (hb.block b hlt).trans h1, h2⟩
theorem KW.below {w w' : World} (h : KW w) (hb : Below w.heap.size w w') : KW w' := by
  obtain ⟨h1, h4, ⟨b, h5, h6, h7⟩⟩ := h
  exact ⟨h1.below hb, var_below h4 hb, ⟨b, (hb.cell h6).trans h5, Nat.lt_of_lt_of_le h6 hb.size, owns_below h7 hb⟩⟩

theorem gPartiesK2 : Tryz.prog.globalNamed "consignor/keys.parties" = some 0 := by kernel_rfl
theorem lawStr : Keyed Tryz.prog tStr := string_keyed Tryz.underlying9
theorem zeroIntK2 (w : World) : (zeroValue tIntK2).run Tryz.prog w = .ok (.int .i64 0) w := by kernel_rfl

theorem party_anyK2 (d : Int) (w : World) (hK : KW w) : Calls Tryz.prog 107 #[.int .i64 d] w fun e w' => e = .returned (.int .i64 (partyI d)) ∧ w = w' := by
  have HT := Lib.hid hK.tab
  clear hK
  by_cases h : 0 ≤ d ∧ d < 6
  · have HI := Lib.hid (show ∀ W, Calls Tryz.prog 106 #[.int .i64 d] W fun e w' => e = .returned (.bool true) ∧ W = w' from fun W => by
      have := is_call d W
      rw [show isK d = true by unfold isK; simpa using h] at this
      exact this)
    have hc : w.cell? ⟨0, d.toNat, none⟩ = some (.int .i64 (partyI d)) := by
      rcases deed6 h with rfl | rfl | rfl | rfl | rfl | rfl
      · exact HT.out.cell gPartiesK2 0 (by decide)
      · exact HT.out.cell gPartiesK2 1 (by decide)
      · exact HT.out.cell gPartiesK2 2 (by decide)
      · exact HT.out.cell gPartiesK2 3 (by decide)
      · exact HT.out.cell gPartiesK2 4 (by decide)
      · exact HT.out.cell gPartiesK2 5 (by decide)
    obtain ⟨h1, h2⟩ := h
    go_enter Tryz.func107, Tryz.ntmps107
    go_wp2_with fail
    refine (HI.out _).mono ?_
    rintro e w1 ⟨rfl, hw⟩; subst hw
    go_wp2_with fail
    go_ret
    exact ⟨rfl, rfl⟩
  · have HI := Lib.hid (show ∀ W, Calls Tryz.prog 106 #[.int .i64 d] W fun e w' => e = .returned (.bool false) ∧ W = w' from fun W => by
      have := is_call d W
      rw [show isK d = false by unfold isK; simpa using h] at this
      exact this)
    have HF := Lib.hid (show partyI d = -1 by unfold partyI; rw [if_neg (by omega), if_neg (by omega), if_neg (by omega)])
    go_enter Tryz.func107, Tryz.ntmps107
    go_wp2_with fail
    refine (HI.out _).mono ?_
    rintro e w1 ⟨rfl, hw⟩; subst hw
    go_wp2_with fail
    go_ret
    exact ⟨by rw [HF.out]; rfl, rfl⟩

theorem deed_at (s : List UInt8) : Maps.has D6 (.string s) = (deedK s).2 ∧ D6.atKey (.string s) (.lit (.int .i64 0)) = .lit (.int .i64 (deedK s).1) := by
  rcases deed_cases s with ⟨d, h1, h2, rfl, _⟩ | ⟨hn, hd⟩
  · rcases deed6 ⟨h1, h2⟩ with rfl | rfl | rfl | rfl | rfl | rfl <;> exact ⟨rfl, rfl⟩
  · have hs : ∀ p ∈ [(Lit.string [99, 104, 97, 114, 103, 101], (DataW.lit (.int .i64 1) : DataW Unit)), (.string [114, 101, 102, 117, 110, 100], .lit (.int .i64 4)), (.string [114, 101, 108, 101, 97, 115, 101], .lit (.int .i64 3)), (.string [114, 101, 115, 101, 114, 118, 101], .lit (.int .i64 0)), (.string [115, 104, 105, 112], .lit (.int .i64 2)), (.string [118, 111, 105, 100], .lit (.int .i64 5))], p.1.sameKey (.string s) = false := by
      intro p hp
      refine Maps.sameKey_ne fun e => ?_
      simp only [List.mem_cons, List.not_mem_nil, or_false] at hp
      rcases hp with rfl | rfl | rfl | rfl | rfl | rfl <;> simp only [Lit.string.injEq] at e
      · exact hn 1 (by omega) e
      · exact hn 4 (by omega) e
      · exact hn 3 (by omega) e
      · exact hn 0 (by omega) e
      · exact hn 2 (by omega) e
      · exact hn 5 (by omega) e
    rw [hd]
    refine ⟨?_, ?_⟩
    · show List.any _ _ = false
      rw [List.any_eq_false]
      intro p hp
      rw [hs p hp]; simp
    · unfold D6
      simp only [DataW.atKey]
      rw [List.find?_eq_none.2 (fun p hp => by rw [hs p hp]; simp)]


/-- The walk over the words: none that has come has this number. -/
def NoWord (d : Int) (left : Lit → Bool) : Prop := ∀ s : List UInt8, Maps.has D6 (.string s) = true → left (.string s) = false → (deedK s).1 ≠ d
theorem NoWord.start (d : Int) : NoWord d (Maps.has D6) := fun s h1 h2 => by rw [h1] at h2; cases h2
theorem NoWord.step {d : Int} {left : Lit → Bool} {x : List UInt8} (h : NoWord d left) (hx : (deedK x).1 ≠ d) : NoWord d (fun z => left z && !z.sameKey (.string x)) := by
  intro s h1 h2
  by_cases e : s = x
  · rw [e]; exact hx
  · have h3 : (Lit.string s).sameKey (.string x) = false := Maps.sameKey_ne (fun h => e (by injection h))
    exact h s h1 (by simpa [h3] using h2)
theorem NoWord.done {d : Int} {left : Lit → Bool} (h : NoWord d left) (hl : ∀ kl, left kl = false) : wordL d = [] := by
  by_cases hd : 0 ≤ d ∧ d < 6
  · have h1 := deed_word hd
    exact absurd (by rw [h1]) (h (wordL d) (by rw [(deed_at _).1, h1]) (hl _))
  · exact word_no hd
theorem word_of {x : List UInt8} {c : Int} (h : Maps.has D6 (.string x) = true) (hat : ∀ zd, D6.atKey (.string x) zd = .lit (.int .i64 c)) : (deedK x).1 = c ∧ wordL c = x := by
  have h1 := (deed_at x).2
  rw [hat] at h1
  have h2 : c = (deedK x).1 := by simpa using h1
  rw [(deed_at x).1] at h
  rcases deed_cases x with ⟨e, _, _, hw, he⟩ | ⟨_, he⟩
  · rw [he] at h2
    subst h2
    exact ⟨by rw [he], hw⟩
  · rw [he] at h; cases h

set_option maxHeartbeats 1000000 in
theorem word_any (d : Int) (w : World) (hK : KW w) : Calls Tryz.prog 134 #[.int .i64 d] w fun e w' => e = .returned (.string ⟨(wordL d).toArray⟩) ∧ Below w.heap.size w w' := by
  obtain ⟨b, hc, _, ho⟩ := hK.deeds
  have HO := Lib.hid ho
  have HBL := Lib.hid ho.lt
  clear ho hK
  go_enter Tryz.func134, Tryz.ntmps134
  go_wp2_with (at_range; refine wpList_range_own _ rfl _ 224 rfl tStr tIntK2 lawStr Tryz.underlying224 _ b 6 D6 rfl HO.out ?_; intro w0 hrg0 hg0 hs0)
  go_frame
  have HRG0 := Lib.hid hrg0
  have HB0 := Lib.hid ((Below.refl w.heap.size w).grown hg0 (Nat.le_refl _) (fun j hj => by cases hj))
  clear hrg0 hg0 hs0
  go_loopw [3, 4] (fun _ _ wr => ∃ left cnt, Hid (wr.ranges Tryz.prog tStr (plainElem Tryz.prog tIntK2) b w.heap.size 6 D6 left cnt) ∧ Hid (NoWord d left) ∧ Hid (Below w.heap.size w wr)) (fun _ _ wr => wr.rangeLeft b w.heap.size)
  case atStart => exact ⟨_, _, HRG0.out, NoWord.start d, HB0.out⟩
  case round =>
    obtain ⟨left, cnt, HR, HN, HB⟩ := hrel
    go_wp2_with (at_next; refine wpList_next_ranges _ rfl _ rfl tStr lawStr (plainElem Tryz.prog tIntK2) encStr (Value.int .i64) (fun key kl hk => by obtain ⟨x, hx, _⟩ := Maps.keyOf_str Tryz.underlying9 hk; exact ⟨x, hx⟩) (fun v y hv => by obtain ⟨c, rfl, _⟩ := plainElem_int_inv Tryz.underlying3 hv; exact ⟨c, rfl⟩) b w.heap.size 6 D6 left cnt rfl HR.out ?_ ?_)
    · intro _ hl
      have HW := Lib.hid (HN.out.done hl)
      clear hl
      go_wp2_with fail
      go_ret
      exact ⟨by rw [HW.out]; rfl, HB.out⟩
    · intro x c kl yd yp w2 cnt2 hkey hlk hv hat hrg2 hlt hg2 hs2 hen
      obtain ⟨x', ex, rfl, hxl⟩ := Maps.keyOf_str Tryz.underlying9 hkey
      obtain rfl : x = x' := encStr_inj ex
      obtain ⟨c', ec, ey, _⟩ := plainElem_int_inv Tryz.underlying3 hv
      injection ec with _ ec
      subst ec
      simp only [Prod.mk.injEq] at ey
      obtain ⟨ey, _⟩ := ey
      subst ey
      have HH := Lib.hid (show Maps.has D6 (.string x) = true from Maps.has_true_of_atKey hat)
      have HX := Lib.hid (word_of HH.out hat)
      have HR2 := Lib.hid hrg2
      have HLT := Lib.hid hlt
      have HB2 := Lib.hid (HB.out.grown hg2 HB.out.size (fun j hj => by cases hj; exact Nat.le_refl _))
      clear hkey hlk hv hat hrg2 hlt hg2 hs2 hxl
      by_cases hcd : c = d
      · have hq := beqT hcd
        have HW := Lib.hid (show wordL d = x by rw [← hcd]; exact HX.out.2)
        clear hcd
        go_wp2_with fail
        go_ret
        exact ⟨by rw [HW.out]; rfl, HB2.out⟩
      · have hq := beqF hcd
        have HN2 := Lib.hid (HN.out.step (x := x) (by rw [HX.out.1]; exact hcd))
        clear hcd
        go_wp2_with fail
        go_roundw
        case rel => exact ⟨_, cnt2, HR2, HN2, HB2⟩
        case measure => rw [HR2.out.left_eq, HR.out.left_eq]; exact HLT.out


theorem bcell {W w1 : World} (hb : Below W.heap.size W w1) : (∀ b o, b < W.heap.size → w1.cell? ⟨b, o, none⟩ = W.cell? ⟨b, o, none⟩) ∧ (∀ b o, b < W.heap.size → w1.frozen? ⟨b, o, none⟩ = W.frozen? ⟨b, o, none⟩) :=
  ⟨fun b o h => hb.cell (p := ⟨b, o, none⟩) h, fun b o h => hb.frozen (p := ⟨b, o, none⟩) h⟩
theorem belowD {B : Nat} {a b : World} (h : Below B a b) : Below B a b.drew := ⟨h.os, h.tape, h.output, h.size, h.block⟩
theorem cat3 (a b c : List UInt8) : Ending.returned (.string ((⟨a.toArray⟩ : ByteArray) ++ ⟨b.toArray⟩ ++ ⟨c.toArray⟩)) = .returned (.string ⟨(a ++ b ++ c).toArray⟩) := by rw [join_bytes, join_bytes]
theorem put_len {o d : Int} (h : chk o d = true) : (Lib.itoa o).length ≤ 2 := by
  have hc := chk_iff.1 h
  obtain ⟨u, rfl⟩ : ∃ u : Nat, o = (u : Int) := ⟨o.toNat, by omega⟩
  rw [Lib.itoa_nonneg]
  exact dec_len 1 u (by omega)

set_option maxHeartbeats 1000000 in
theorem putK_any (o d : Int) (w : World) (hK : KW w) : Calls Tryz.prog 102 #[.agg #[.int .i64 o, .int .i64 d]] w fun e w' => e = .returned (.string ⟨(putK o d).toArray⟩) ∧ Below w.heap.size w w' := by
  have HK := Lib.hid hK
  clear hK
  cases hc : chk o d with
  | false =>
    have HF := Lib.hid (putK_no (o := o) (d := d) (by rw [hc]; simp))
    have HC := Lib.hid (show ∀ W, Calls Tryz.prog 62 #[.agg #[.int .i64 o, .int .i64 d]] W fun e w' => e = .returned (.bool false) ∧ Below W.heap.size W w' from fun W => by have := check_any o d W; rw [hc] at this; exact this)
    clear hc
    go_enter Tryz.func102, Tryz.ntmps102
    go_wp2_with fail
    refine (HC.out _).mono ?_
    rintro e w1 ⟨rfl, hb⟩
    have HB := Lib.hid (bch (below_alloc w _) hb (by simp))
    clear hb
    go_wp2_with fail
    go_ret
    exact ⟨by rw [HF.out]; rfl, HB.out⟩
  | true =>
    have HF := Lib.hid (show putK o d = Lib.itoa o ++ [45] ++ wordL d by unfold putK; rw [if_pos hc, List.append_assoc]; rfl)
    have HC := Lib.hid (show ∀ W, Calls Tryz.prog 62 #[.agg #[.int .i64 o, .int .i64 d]] W fun e w' => e = .returned (.bool true) ∧ Below W.heap.size W w' from fun W => by have := check_any o d W; rw [hc] at this; exact this)
    have HP := Lib.hid (fun W (h : KW W) => putc_any o W (chk_in hc) h.mw)
    have HW := Lib.hid (fun W (h : KW W) => word_any d W h)
    have hl1 := put_len hc
    have hl2 := wordL_len d
    rw [HF.out]
    clear hc
    generalize Lib.itoa o = L1 at HP hl1 ⊢
    generalize wordL d = L2 at HW hl2 ⊢
    go_enter Tryz.func102, Tryz.ntmps102
    go_wp2_with fail
    refine (HC.out _).mono ?_
    rintro e w1 ⟨rfl, hb⟩
    have HB := Lib.hid (bch (below_alloc w _) hb (by simp))
    obtain ⟨c0, c1, hz⟩ := cells2 hb
    have HPq := Lib.hid (fun W (hW : Below w1.heap.size w1 W) => (HP.out W ((HK.out.below HB.out).below hW)).mono fun e w' (h : _ ∧ Below W.heap.size W w') => And.intro h.1 (bch hW h.2 hW.size))
    have HWq := Lib.hid (fun W (hW : Below w1.heap.size w1 W) => (HW.out W ((HK.out.below HB.out).below hW)).mono fun e w' (h : _ ∧ Below W.heap.size W w') => And.intro h.1 (bch hW h.2 hW.size))
    clear hb
    go_wp2_with fail
    go_region_with (first
      | (go_at_call 133; refine (HPq.out _ (by first | exact Below.refl _ _ | exact belowD (Below.refl _ _) | exact Hid.out (by assumption) | exact belowD (Hid.out (by assumption)))).mono ?_; rintro e wa ⟨rfl, hb⟩; obtain ⟨hca, hfa⟩ := bcell hb; have HBa := Lib.hid hb; clear hb)
      | (go_at_call 134; refine (HWq.out _ (by first | exact Below.refl _ _ | exact belowD (Below.refl _ _) | exact Hid.out (by assumption) | exact belowD (Hid.out (by assumption)))).mono ?_; rintro e wb ⟨rfl, hb⟩; obtain ⟨hcb, hfb⟩ := bcell hb; have HBb := Lib.hid hb; clear hb))
    all_goals go_wp2_with fail
    all_goals go_ret
    all_goals first
      | exact ⟨cat3 L1 [45] L2, bch HB.out HBb.out HB.out.size⟩
      | exact ⟨cat3 L1 [45] L2, bch HB.out HBa.out HB.out.size⟩

end Go.Proofs.YtlkncmpengpbiaaGreatDoor

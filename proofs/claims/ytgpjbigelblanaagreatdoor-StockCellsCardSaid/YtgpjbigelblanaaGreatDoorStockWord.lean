/- stock's words: word, and the map that it goes through; reject, put, number, wide: what they compute. -/
import Derived.Test.YtgpjbigelblanaaGreatDoorKeysWord
import Derived.Test.YtgpjbigelblanaaGreatDoorStockSpec
import Derived.Test.YtgpjbigelblanaaGreatDoorCsvPrint
namespace Go.Proofs.YtgpjbigelblanaaGreatDoor
open Go.RowKit Go.Maps Key Mon

/-- The words of codes, as the package's map has them. -/
def D2 : DataW Unit := .map [(.string [100, 111, 110, 101], .lit (.int .i64 1)), (.string [114, 101, 102, 117, 115, 101, 100], .lit (.int .i64 2))]
/-- What stock asks of the world. -/
structure SkW (w : World) : Prop where
  kw : KW w
  mx : HasMax w
  wd : ∃ b, w.cell? ⟨1, 0, none⟩ = some (.map (some b)) ∧ 1 < w.heap.size ∧ w.ownsMap Tryz.prog tStr (plainElem Tryz.prog tIntK2) b 2 D2
theorem SkW.below {w w' : World} (h : SkW w) (hb : Below w.heap.size w w') : SkW w' := by
  obtain ⟨h1, h2, ⟨b, h5, h6, h7⟩⟩ := h
  exact ⟨h1.below hb, h2.below hb, ⟨b, (hb.cell h6).trans h5, Nat.lt_of_lt_of_le h6 hb.size, owns_below h7 hb⟩⟩

namespace Sk
theorem word_code {d : Int} (h : d = 1 ∨ d = 2) : codeK (codeW d) = (d, true) := by rcases h with rfl | rfl <;> decide
theorem code_cases (s : List UInt8) : (∃ d, (d = 1 ∨ d = 2) ∧ codeW d = s ∧ codeK s = (d, true)) ∨ (s ≠ wDone ∧ s ≠ wRef ∧ codeK s = (0, false)) := by
  by_cases h1 : s = wDone
  · subst h1; exact .inl ⟨1, .inl rfl, rfl, rfl⟩
  · by_cases h2 : s = wRef
    · subst h2; exact .inl ⟨2, .inr rfl, rfl, by decide⟩
    · exact .inr ⟨h1, h2, by unfold codeK; rw [if_neg h1, if_neg h2]⟩
end Sk
open Sk
theorem code_at (s : List UInt8) : Maps.has D2 (.string s) = (codeK s).2 ∧ D2.atKey (.string s) (.lit (.int .i64 0)) = .lit (.int .i64 (codeK s).1) := by
  rcases code_cases s with ⟨d, h1, rfl, _⟩ | ⟨hn1, hn2, hd⟩
  · rcases h1 with rfl | rfl <;> exact ⟨rfl, rfl⟩
  · have hs : ∀ p ∈ [(Lit.string [100, 111, 110, 101], (DataW.lit (.int .i64 1) : DataW Unit)), (.string [114, 101, 102, 117, 115, 101, 100], .lit (.int .i64 2))], p.1.sameKey (.string s) = false := by
      intro p hp
      refine Maps.sameKey_ne fun e => ?_
      simp only [List.mem_cons, List.not_mem_nil, or_false] at hp
      rcases hp with rfl | rfl <;> simp only [Lit.string.injEq] at e
      · exact hn1 e.symm
      · exact hn2 e.symm
    rw [hd]
    refine ⟨?_, ?_⟩
    · show List.any _ _ = false
      rw [List.any_eq_false]
      intro p hp
      rw [hs p hp]; simp
    · unfold D2
      simp only [DataW.atKey]
      rw [List.find?_eq_none.2 (fun p hp => by rw [hs p hp]; simp)]

/-- The walk over the words: none that has come has this number. -/
def NoCode (d : Int) (left : Lit → Bool) : Prop := ∀ s : List UInt8, Maps.has D2 (.string s) = true → left (.string s) = false → (codeK s).1 ≠ d
theorem NoCode.start (d : Int) : NoCode d (Maps.has D2) := fun s h1 h2 => by rw [h1] at h2; cases h2
theorem NoCode.step {d : Int} {left : Lit → Bool} {x : List UInt8} (h : NoCode d left) (hx : (codeK x).1 ≠ d) : NoCode d (fun z => left z && !z.sameKey (.string x)) := by
  intro s h1 h2
  by_cases e : s = x
  · rw [e]; exact hx
  · have h3 : (Lit.string s).sameKey (.string x) = false := Maps.sameKey_ne (fun h => e (by injection h))
    exact h s h1 (by simpa [h3] using h2)
theorem NoCode.done {d : Int} {left : Lit → Bool} (h : NoCode d left) (hl : ∀ kl, left kl = false) : codeW d = [] := by
  by_cases hd : d = 1 ∨ d = 2
  · have h1 := word_code hd
    exact absurd (by rw [h1]) (h (codeW d) (by rw [(code_at _).1, h1]) (hl _))
  · unfold codeW; rw [if_neg (fun e => hd (.inl e)), if_neg (fun e => hd (.inr e))]
theorem code_ofK {x : List UInt8} {c : Int} (h : Maps.has D2 (.string x) = true) (hat : ∀ zd, D2.atKey (.string x) zd = .lit (.int .i64 c)) : (codeK x).1 = c ∧ codeW c = x := by
  have h1 := (code_at x).2
  rw [hat] at h1
  have h2 : c = (codeK x).1 := by simpa using h1
  rw [(code_at x).1] at h
  rcases code_cases x with ⟨e, _, hw, he⟩ | ⟨_, _, he⟩
  · rw [he] at h2
    subst h2
    exact ⟨by rw [he], hw⟩
  · rw [he] at h; cases h

set_option maxHeartbeats 1000000 in
theorem sword_any (d : Int) (w : World) (hK : SkW w) : Calls Tryz.prog 30 #[.int .i64 d] w fun e w' => e = .returned (.string ⟨(codeW d).toArray⟩) ∧ Below w.heap.size w w' := by
  obtain ⟨b, hc, _, ho⟩ := hK.wd
  have HO := Lib.hid ho
  have HBL := Lib.hid ho.lt
  clear ho hK
  go_enter Tryz.func30, Tryz.ntmps30
  go_wp2_with (at_range; refine wpList_range_own _ rfl _ 85 rfl tStr tIntK2 lawStr Tryz.underlying85 _ b 2 D2 rfl HO.out ?_; intro w0 hrg0 hg0 hs0)
  go_frame
  have HRG0 := Lib.hid hrg0
  have HB0 := Lib.hid ((Below.refl w.heap.size w).grown hg0 (Nat.le_refl _) (fun j hj => by cases hj))
  clear hrg0 hg0 hs0
  go_loopw [3, 4] (fun _ _ wr => ∃ left cnt, Hid (wr.ranges Tryz.prog tStr (plainElem Tryz.prog tIntK2) b w.heap.size 2 D2 left cnt) ∧ Hid (NoCode d left) ∧ Hid (Below w.heap.size w wr)) (fun _ _ wr => wr.rangeLeft b w.heap.size)
  case atStart => exact ⟨_, _, HRG0.out, NoCode.start d, HB0.out⟩
  case round =>
    obtain ⟨left, cnt, HR, HN, HB⟩ := hrel
    go_wp2_with (at_next; refine wpList_next_ranges _ rfl _ rfl tStr lawStr (plainElem Tryz.prog tIntK2) encStr (Value.int .i64) (fun key kl hk => by obtain ⟨x, hx, _⟩ := Maps.keyOf_str Tryz.underlying9 hk; exact ⟨x, hx⟩) (fun v y hv => by obtain ⟨c, rfl, _⟩ := plainElem_int_inv Tryz.underlying3 hv; exact ⟨c, rfl⟩) b w.heap.size 2 D2 left cnt rfl HR.out ?_ ?_)
    · intro _ hl
      have HW := Lib.hid (HN.out.done hl)
      clear hl
      go_wp2_with fail
      go_ret
      exact ⟨by rw [HW.out]; rfl, HB.out⟩
    · intro x c kl yd yp w2 cnt2 hkey hlk hv hat hrg2 hlt hg2 hs2 hen
      obtain ⟨x', ex, rfl, hxl⟩ := Maps.keyOf_str Tryz.underlying9 hkey
      obtain rfl : x = x' := encStr_inj ex
      obtain ⟨c', ec, ey, _⟩ := plainElem_int_inv Tryz.underlying3 hv
      injection ec with _ ec
      subst ec
      simp only [Prod.mk.injEq] at ey
      obtain ⟨ey, _⟩ := ey
      subst ey
      have HH := Lib.hid (show Maps.has D2 (.string x) = true from Maps.has_true_of_atKey hat)
      have HX := Lib.hid (code_ofK HH.out hat)
      have HR2 := Lib.hid hrg2
      have HLT := Lib.hid hlt
      have HB2 := Lib.hid (HB.out.grown hg2 HB.out.size (fun j hj => by cases hj; exact Nat.le_refl _))
      clear hkey hlk hv hat hrg2 hlt hg2 hs2 hxl
      by_cases hcd : c = d
      · have hq := beqT hcd
        have HW := Lib.hid (show codeW d = x by rw [← hcd]; exact HX.out.2)
        clear hcd
        go_wp2_with fail
        go_ret
        exact ⟨by rw [HW.out]; rfl, HB2.out⟩
      · have hq := beqF hcd
        have HN2 := Lib.hid (HN.out.step (x := x) (by rw [HX.out.1]; exact hcd))
        clear hcd
        go_wp2_with fail
        go_roundw
        case rel => exact ⟨_, cnt2, HR2, HN2, HB2⟩
        case measure => rw [HR2.out.left_eq, HR.out.left_eq]; exact HLT.out
end Go.Proofs.YtgpjbigelblanaaGreatDoor

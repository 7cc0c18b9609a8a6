/- The walk of consignorlaw04.CsvParse: it answers true, and nothing that was there is written. -/
import Derived.Test.YtopcapmjnbmfgaaCsvRef
import Derived.Test.YtopcapmjnbmfgaaCsvRowed
namespace Go.Proofs.Ytopcapmjnbmfgaa
open Go.RowKit

namespace Csv
def Small (st : St) (p : Nat) : Prop := st.rows.length ≤ p ∧ st.row.length ≤ p ∧ ∀ r ∈ st.rows, r.length ≤ p
theorem step_small (st st' : St) (c : UInt8) (p : Nat) (h : Small st p) (hs : step st c = some st') : Small st' (p + 1) := by
  obtain ⟨h1, h2, h3⟩ := h
  have h3' : ∀ r ∈ st.rows, r.length ≤ p + 1 := fun r hr => by have := h3 r hr; omega
  unfold step at hs
  repeat' split at hs
  all_goals first
    | (cases hs; done)
    | (cases hs; exact ⟨by simp only []; omega, by simp only []; omega, h3'⟩)
    | (cases hs; exact ⟨by simp; omega, by simp, fun r hr => by
        rcases List.mem_append.1 hr with hr | hr
        · exact h3' r hr
        · simp at hr; subst hr; simp; omega⟩)
    | (cases hs; exact ⟨by simp only []; omega, by simp; omega, h3'⟩)
theorem go_small (l : List UInt8) (st st' : St) (p : Nat) (h : Small st p) (hg : go l st p = .inl st') : Small st' (p + l.length) := by
  induction l generalizing st p with
  | nil => simp only [go, Sum.inl.injEq] at hg; subst hg; simpa using h
  | cons c r ih =>
    unfold go at hg
    split at hg
    · rename_i st1 hs
      have := ih st1 (p + 1) (step_small st st1 c p h hs) hg
      rw [List.length_cons, show p + (r.length + 1) = p + 1 + r.length from by omega]
      exact this
    · cases hg
theorem parse_small (l : List UInt8) : (parse l).1.length ≤ l.length ∧ ∀ r ∈ (parse l).1, r.length ≤ l.length := by
  unfold parse
  split
  · simp
  · unfold parseOf
    split
    · simp
    · rename_i st hg
      have := go_small l St.init st 0 ⟨by simp [St.init], by simp [St.init], by simp [St.init]⟩ hg
      rw [Nat.zero_add] at this
      split
      · exact ⟨this.1, this.2.2⟩
      · simp
end Csv

theorem refParse_is (s : ByteArray) (L : List (List (List UInt8))) (a b c : Nat) (w : World) (hs : s.size ≤ 65536) (h : Csv.parse s.data.toList = (L, a, b, c)) :
    Calls Try.prog 7 #[.string s] w fun e w' => ∃ A n cp, e = .returned (.tuple #[.slice A n cp, .agg #[.int .i64 (a : Int), .int .i64 (b : Int), .int .i64 (c : Int)]]) ∧ n = L.length ∧ Rowz w' w'.heap.size (.slice A n cp) L ∧ Below w.heap.size w w' := by
  refine (refParse_any s w hs).mono ?_
  rintro e w' ⟨⟨v, rfl, hr⟩, hb⟩
  rw [h] at hr ⊢
  have hr' := hr
  obtain ⟨A, n, cp, rfl, hn, _⟩ := hr'
  exact ⟨A, n, cp, rfl, hn.symm, hr, hb⟩

theorem below_drewN {B : Nat} {a b : World} (h : Below B a b) (n : Nat) : Below B a (b.drewN n) := ⟨h.os, h.tape, h.output, h.size, h.block⟩

set_option maxHeartbeats 4000000 in
theorem lawCsvParse_walk (s : ByteArray) (w : World) :
    Calls Try.prog 3 #[.string s] w fun e w' => e = .returned (.bool true) ∧ Below w.heap.size w w' := by
  by_cases hs : (3000 : Int) < (s.size : Int)
  · go_enter Try.func3, Try.ntmps3
    go_wp2_with (go_at_call 5; refine (rowed_true _).mono ?_; rintro e w1 ⟨rfl, hb⟩)
    go_ret
    exact ⟨rfl, hb⟩
  · obtain ⟨L, a, b, c, hp⟩ : ∃ L a b c, Csv.parse s.data.toList = (L, a, b, c) := ⟨_, _, _, _, rfl⟩
    have hs' : s.size ≤ 65536 := by omega
    have hsm := Csv.parse_small s.data.toList
    rw [hp] at hsm
    have hlen : s.data.toList.length = s.size := by simp
    have HS1 := Lib.hid (show L.length ≤ 1000000 by have := hsm.1; simp only [] at this; omega)
    have HS2 := Lib.hid (show ∀ r ∈ L, r.length ≤ 1000000 from fun r hr => by have := hsm.2 r hr; omega)
    have HP := Lib.hid hp
    clear hp hsm hlen
    go_enter Try.func3, Try.ntmps3
    go_wp2_with fail
    refine (parse_is s L a b c w HP.out).mono ?_
    rintro e w1 ⟨A1, n1, cp1, rfl, hn1, hr, hb⟩
    have HR1 := Lib.hid hr; have HB1 := Lib.hid hb; have HN1 := Lib.hid hn1
    have HC1 := Lib.hid (heap_alloc_new w1 (Obj.cells #[Value.int IntKind.i64 (a : Int), Value.int IntKind.i64 (b : Int), Value.int IntKind.i64 (c : Int)] tRej))
    clear hr hb hn1
    go_wp2_with fail
    refine (refParse_is s L a b c _ hs' HP.out).mono ?_
    rintro e w2 ⟨A2, n2, cp2, rfl, hn2, hr, hb⟩
    have HR2 := Lib.hid hr; have HB2 := Lib.hid hb; have HN2 := Lib.hid hn2
    have HC2 := Lib.hid (heap_keep (heap_keep HC1.out hb) ((Below.refl _ _).alloc (Nat.le_refl _) (Obj.cells #[Value.int IntKind.i64 (a : Int), Value.int IntKind.i64 (b : Int), Value.int IntKind.i64 (c : Int)] tRej)))
    have HC3 := Lib.hid (heap_alloc_new w2 (Obj.cells #[Value.int IntKind.i64 (a : Int), Value.int IntKind.i64 (b : Int), Value.int IntKind.i64 (c : Int)] tRej))
    have HBB := Lib.hid (show Below w.heap.size w w2 from bch (HB1.out.alloc HB1.out.size _) hb (by have := HB1.out.size; simp; omega))
    have hz1 : w1.heap.size + 1 ≤ w2.heap.size := by have := hb.size; simp at this; omega
    obtain ⟨x0, x1, x2, _⟩ := cell3 HC2.out
    obtain ⟨y0, y1, y2, _⟩ := cell3 HC3.out
    clear hr hb hn2
    go_wp2_with fail
    refine (same_any _ _ L L (w2.heap.size + 1) _ (Rowz.below (Rowz.below HR1.out (((Below.refl _ _).alloc (Nat.le_refl _) _).trans (HB2.out.mono (by simp))) (Nat.le_refl _)) ((Below.refl _ _).alloc (by omega) _) (by omega)) (Rowz.below HR2.out ((Below.refl _ _).alloc (by omega) _) (by omega)) HS1.out HS1.out HS2.out HS2.out).mono ?_
    rintro e w3 ⟨rfl, n3, rfl⟩
    go_wp2_with fail
    refine (rowed_true _).mono ?_
    rintro e w4 ⟨rfl, hb4⟩
    have HB4 := Lib.hid (show Below w.heap.size w w4 from bch (below_drewN (HBB.out.alloc HBB.out.size _) n3) hb4 (by have := HBB.out.size; show w.heap.size ≤ (w2.alloc _).heap.size; simp; omega))
    clear hb4
    go_wp2_with fail
    go_ret
    exact ⟨by simp, HB4.out⟩
end Go.Proofs.Ytopcapmjnbmfgaa

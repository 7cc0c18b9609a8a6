/- The walk of consignorlaw04.CsvAgain: it answers true, and nothing that was there is written. -/
import Derived.Test.YtopcapmjnbmfgaaDoorCsvPrint
import Derived.Test.YtopcapmjnbmfgaaDoorCsvRowed
import Derived.Test.YtopcapmjnbmfgaaDoorCsvBackSpec
namespace Go.Proofs.YtopcapmjnbmfgaaDoor
open Go.RowKit

theorem fits_room {L : List (List (List UInt8))} (h : ∀ r ∈ L, ¬ r = []) (hr : Csv.room L ≤ 3000) : Fits L ∧ L.length ≤ 1000000 ∧ ∀ r ∈ L, r.length ≤ 1000000 := by
  have h1 := Csv.room_len L h
  have h2 : ∀ r ∈ L, r.length ≤ 1000 := fun r hm => by
    have a := Csv.room_mem L r hm
    have b := Csv.roomRow_len r
    omega
  refine ⟨⟨by omega, fun r hm => by have := h2 r hm; omega, fun r hm f hf => ?_⟩, by omega, fun r hm => by have := h2 r hm; omega⟩
  have a := Csv.room_mem L r hm
  have b := Csv.roomRow_mem r f hf
  omega
theorem below_drewK {B : Nat} {a b : World} (h : Below B a b) (n : Nat) : Below B a (b.drewN n) := ⟨h.os, h.tape, h.output, h.size, h.block⟩

set_option maxHeartbeats 4000000 in
theorem again_long (s : ByteArray) (w : World) (hs : (1000 : Int) < (s.size : Int)) :
    Calls Tryd.prog 5 #[.string s] w fun e w' => e = .returned (.bool true) ∧ Below w.heap.size w w' := by
  go_enter Tryd.func5, Tryd.ntmps5
  go_wp2_with (go_at_call 7; refine (rowed_true _).mono ?_; rintro e w1 ⟨rfl, hb⟩)
  go_ret
  exact ⟨rfl, hb⟩

set_option maxHeartbeats 4000000 in
theorem again_bad (s : ByteArray) (w : World) (hs : ¬ (1000 : Int) < (s.size : Int)) (a b c : Nat) (hp : Csv.parse s.data.toList = ([], a, b, c)) (hc : ¬ (c : Int) = 0) (h1 : (1 : Int) ≤ (a : Int)) (h2 : (1 : Int) ≤ (b : Int)) (h3 : (b : Int) ≤ (s.size : Int) + 1) :
    Calls Tryd.prog 5 #[.string s] w fun e w' => e = .returned (.bool true) ∧ Below w.heap.size w w' := by
  have HP := Lib.hid hp; clear hp
  have hcT := bneT hc
  have hcF := beqF hc
  go_enter Tryd.func5, Tryd.ntmps5
  go_wp2_with fail
  refine (parse_is s [] a b c w HP.out).mono ?_
  rintro e w1 ⟨A1, n1, cp1, rfl, hn1, hr, hb⟩
  have HB1 := Lib.hid hb
  have HC1 := Lib.hid (heap_alloc_new w1 (Obj.cells #[Value.int IntKind.i64 (a : Int), Value.int IntKind.i64 (b : Int), Value.int IntKind.i64 (c : Int)] tRej))
  simp only [List.length_nil] at hn1
  subst hn1
  obtain ⟨x0, x1, x2, _⟩ := cell3 HC1.out
  clear hr hb
  go_wp2_with fail
  refine (rowed_true _).mono ?_
  rintro e w4 ⟨rfl, hb4⟩
  have HB4 := Lib.hid (show Below w.heap.size w w4 from bch (HB1.out.alloc HB1.out.size _) hb4 (by have := HB1.out.size; simp; omega))
  clear hb4
  go_wp2_with fail
  go_ret
  exact ⟨by simp, HB4.out⟩

set_option maxHeartbeats 4000000 in
theorem again_good (s : ByteArray) (w : World) (hM : HasMax w) (hs : ¬ (1000 : Int) < (s.size : Int)) (L : List (List (List UInt8))) (hp : Csv.parse s.data.toList = (L, 0, 0, 0)) (hq : Csv.parse (Csv.printOf L) = (L, 0, 0, 0))
    (hf : Fits L) (hl : L.length ≤ 1000000) (hl2 : ∀ r ∈ L, r.length ≤ 1000000) :
    Calls Tryd.prog 5 #[.string s] w fun e w' => e = .returned (.bool true) ∧ Below w.heap.size w w' := by
  have HP := Lib.hid hp
  have HQ := Lib.hid (show Csv.parse (⟨(Csv.printOf L).toArray⟩ : ByteArray).data.toList = (L, 0, 0, 0) by simpa using hq)
  have HF := Lib.hid hf; have HL := Lib.hid hl; have HL2 := Lib.hid hl2; have HM := Lib.hid hM
  clear hp hq hf hl hl2 hM
  go_enter Tryd.func5, Tryd.ntmps5
  go_wp2_with fail
  refine (parse_is s L 0 0 0 w HP.out).mono ?_
  rintro e w1 ⟨A1, n1, cp1, rfl, hn1, hr, hb⟩
  have HR1 := Lib.hid hr; have HB1 := Lib.hid hb; have HN1 := Lib.hid hn1
  have HC1 := Lib.hid (heap_alloc_new w1 (Obj.cells #[Value.int IntKind.i64 0, Value.int IntKind.i64 0, Value.int IntKind.i64 0] tRej))
  obtain ⟨x0, x1, x2, _⟩ := cell3 HC1.out
  clear hr hb hn1
  go_wp2_with fail
  refine (print_any _ L _ _ (Rowz.below HR1.out ((Below.refl _ _).alloc (Nat.le_refl _) _) (Nat.le_refl _)) (by simp) HF.out ((HM.out.below HB1.out).below ((Below.refl _ _).alloc (Nat.le_refl _) _))).mono ?_
  rintro e w2 ⟨rfl, hb⟩
  have HB2 := Lib.hid hb; clear hb
  go_wp2_with fail
  refine (parse_is _ L 0 0 0 w2 HQ.out).mono ?_
  rintro e w3 ⟨A3, n3, cp3, rfl, hn3, hr, hb⟩
  have HR3 := Lib.hid hr; have HB3 := Lib.hid hb; have HN3 := Lib.hid hn3
  have hz2 : w1.heap.size + 1 ≤ w2.heap.size := by have := HB2.out.size; simpa using this
  have hz3 : w2.heap.size ≤ w3.heap.size := hb.size
  have HBK := Lib.hid (show Below (w1.heap.size + 1) (w1.alloc (Obj.cells #[Value.int IntKind.i64 0, Value.int IntKind.i64 0, Value.int IntKind.i64 0] tRej)) w3 from (HB2.out.mono (by simp)).trans (hb.mono hz2))
  have HC2 := Lib.hid (heap_keep (heap_keep HC1.out (HBK.out.mono (by simp))) ((Below.refl _ _).alloc (Nat.le_refl _) (Obj.cells #[Value.int IntKind.i64 0, Value.int IntKind.i64 0, Value.int IntKind.i64 0] tRej)))
  have HC3 := Lib.hid (heap_alloc_new w3 (Obj.cells #[Value.int IntKind.i64 0, Value.int IntKind.i64 0, Value.int IntKind.i64 0] tRej))
  have HBB := Lib.hid (show Below w.heap.size w w3 from (HB1.out.alloc HB1.out.size _).trans (HBK.out.mono (by have := HB1.out.size; omega)))
  obtain ⟨y0, y1, y2, _⟩ := cell3 HC3.out
  obtain ⟨z0, z1, z2, _⟩ := cell3 HC2.out
  clear hr hb hn3
  go_wp2_with fail
  refine (same_any _ _ L L (w3.heap.size + 1) _ (Rowz.below (Rowz.below HR1.out (((Below.refl _ _).alloc (Nat.le_refl _) _).trans (HBK.out.mono (by simp))) (Nat.le_refl _)) ((Below.refl _ _).alloc (by omega) _) (by omega)) (Rowz.below HR3.out ((Below.refl _ _).alloc (by omega) _) (by omega)) HL.out HL.out HL2.out HL2.out).mono ?_
  rintro e w4 ⟨rfl, n4, rfl⟩
  go_wp2_with fail
  refine (rowed_true _).mono ?_
  rintro e w5 ⟨rfl, hb5⟩
  have HB5 := Lib.hid (show Below w.heap.size w w5 from bch (below_drewK (HBB.out.alloc HBB.out.size _) n4) hb5 (by have := HBB.out.size; show w.heap.size ≤ (w3.alloc _).heap.size; simp; omega))
  clear hb5
  go_wp2_with fail
  go_ret
  exact ⟨by simp, HB5.out⟩

theorem lawCsvAgain_walk (s : ByteArray) (w : World) (hM : HasMax w) :
    Calls Tryd.prog 5 #[.string s] w fun e w' => e = .returned (.bool true) ∧ Below w.heap.size w w' := by
  by_cases hs : (1000 : Int) < (s.size : Int)
  · exact again_long s w hs
  · have hlen : s.data.toList.length = s.size := by simp
    rcases Csv.parse_again s.data.toList (by omega) with ⟨a, b, c, hp, hc, h1, h2, h3⟩ | ⟨L, hp, hq, hfull, hroom⟩
    · exact again_bad s w hs a b c hp (by omega) (by omega) (by omega) (by omega)
    · obtain ⟨hf, hl, hl2⟩ := fits_room hfull (by omega)
      exact again_good s w hM hs L hp hq hf hl hl2
end Go.Proofs.YtopcapmjnbmfgaaDoor

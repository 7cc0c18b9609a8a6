/- The chapter's examples hold: consignorlaw04.rowed answers true. -/
import Derived.Test.YtopcapmjnbmfgaaDoorCsvParse
import Derived.Test.YtopcapmjnbmfgaaDoorCsvSame
namespace Go.Proofs.YtopcapmjnbmfgaaDoor
open Go.RowKit

/-- csv.Parse, where what it comes to is known. -/
theorem parse_is (s : ByteArray) (L : List (List (List UInt8))) (a b c : Nat) (w : World) (h : Csv.parse s.data.toList = (L, a, b, c)) :
    Calls Tryd.prog 10 #[.string s] w fun e w' => ∃ A n cp, e = .returned (.tuple #[.slice A n cp, .agg #[.int .i64 (a : Int), .int .i64 (b : Int), .int .i64 (c : Int)]]) ∧ n = L.length ∧ Rowz w' w'.heap.size (.slice A n cp) L ∧ Below w.heap.size w w' := by
  have hp : Calls Tryd.prog 10 #[.string s] w fun e w' => Told (Csv.parse s.data.toList) e w' ∧ Below w.heap.size w w' := by
    by_cases hs : s.size ≤ 65536
    · exact parse_any s w hs
    · exact parse_long s w hs
  refine hp.mono ?_
  rintro e w' ⟨⟨v, rfl, hr⟩, hb⟩
  rw [h] at hr ⊢
  have hr' := hr
  obtain ⟨A, n, cp, rfl, hn, _⟩ := hr'
  exact ⟨A, n, cp, rfl, hn.symm, hr, hb⟩

theorem sl_one {α : Type} {w : World} {R' : Value → α → Prop} {x : Value} {T : TypeId} {y : α} (h : R' x y) : Sl (w.alloc (.cells #[x] T)) (w.heap.size + 1) R' (.slice (some ⟨w.heap.size, 0, none⟩) 1 1) [y] := by
  refine ⟨_, _, _, rfl, rfl, Nat.le_refl _, fun k z hk => ?_⟩
  match k, hk with
  | 0, hk =>
    simp at hk
    subst hk
    exact ⟨_, x, rfl, by simp, one_new w x T 0 x rfl, h⟩
set_option maxHeartbeats 4000000 in
theorem is_true (s : ByteArray) (want : List (List UInt8)) (B : Nat) (v : Value) (w : World) (h : Csv.parse s.data.toList = ([want], 0, 0, 0)) (hv : Strs w B v want) (hB : B ≤ w.heap.size) (hw : want.length ≤ 1000000) :
    Calls Tryd.prog 12 #[.string s, v] w fun e w' => e = .returned (.bool true) ∧ Below w.heap.size w w' := by
  have hsh := hv
  obtain ⟨Av, nv, cv, rfl, hnv, _⟩ := hsh
  have HV := Lib.hid hv; have HP := Lib.hid h; clear hv h
  clear hnv
  go_enter Tryd.func12, Tryd.ntmps12
  go_wp2_with fail
  refine (parse_is s [want] 0 0 0 w HP.out).mono ?_
  rintro e w1 ⟨A, n, cp, rfl, rfl, hr, hb⟩
  have HR := Lib.hid hr; have HB := Lib.hid hb
  clear hr hb
  go_wp2_with fail
  refine (same_any _ _ [want] [want] (w1.heap.size + 2) _ (Rowz.below HR.out ?_ (by omega)) ?_ (by simp) (by simp) (by simpa using hw) (by simpa using hw)).mono ?_
  · exact ((Below.refl _ _).alloc (Nat.le_refl _) _).alloc (by simp) _
  · have h1 := Strs.below HV.out ((HB.out.mono hB).alloc (by have := HB.out.size; omega) (Obj.cells #[Value.int IntKind.i64 0, Value.int IntKind.i64 0, Value.int IntKind.i64 0] tRej)) (Nat.le_refl B)
    have h2 := (h1.below ((Below.refl B _).alloc (by have := HB.out.size; simp; omega) (Obj.cells #[Value.slice Av nv cv] tRow)) (show B ≤ w1.heap.size + 2 by have := HB.out.size; omega))
    have h3 := sl_one (w := w1.alloc (Obj.cells #[Value.int IntKind.i64 0, Value.int IntKind.i64 0, Value.int IntKind.i64 0] tRej)) (T := tRow) (R' := Strs ((w1.alloc (Obj.cells #[Value.int IntKind.i64 0, Value.int IntKind.i64 0, Value.int IntKind.i64 0] tRej)).alloc (Obj.cells #[Value.slice Av nv cv] tRow)) (w1.heap.size + 2)) h2
    simpa [Rowz] using h3
  · rintro e w2 ⟨rfl, n2, rfl⟩
    go_wp2_with fail
    go_ret
    exact ⟨by simp, (((HB.out.alloc HB.out.size _).alloc (by have := HB.out.size; simp; omega) _)).trans ⟨rfl, rfl, rfl, Nat.le_refl _, fun _ _ => rfl⟩⟩

set_option maxHeartbeats 4000000 in
theorem bad_true (s : ByteArray) (a b c : Nat) (w : World) (h : Csv.parse s.data.toList = ([], a, b, c)) :
    Calls Tryd.prog 13 #[.string s, .int .i64 a, .int .i64 b, .int .i64 c] w fun e w' => e = .returned (.bool true) ∧ Below w.heap.size w w' := by
  have HP := Lib.hid h; clear h
  go_enter Tryd.func13, Tryd.ntmps13
  go_wp2_with fail
  refine (parse_is s [] a b c w HP.out).mono ?_
  rintro e w1 ⟨A, n, cp, rfl, hn, hr, hb⟩
  subst hn
  have HR := Lib.hid hr; have HB := Lib.hid hb
  clear hr hb
  go_wp2_with fail
  go_ret
  exact ⟨by simp, HB.out.alloc HB.out.size _⟩

theorem strs_new {w : World} {B : Nat} {xs : Array Value} {L : List (List UInt8)} (hb : B = w.heap.size + 1) (hn : xs.toList = L.map fun l => Value.string ⟨l.toArray⟩) : Strs (w.alloc (.cells xs tStr)) B (.slice (some ⟨w.heap.size, 0, none⟩) L.length L.length) L := by
  refine ⟨_, _, _, rfl, rfl, Nat.le_refl _, fun k z hk => ⟨_, .string ⟨z.toArray⟩, rfl, by simp only []; omega, ?_, rfl⟩⟩
  have h1 : (w.alloc (.cells xs tStr)).heap[w.heap.size]? = some (.cells xs tStr (0, 0)) := heap_alloc_new w _
  have h2 : xs[k]? = some (.string ⟨z.toArray⟩) := by rw [← Array.getElem?_toList, hn, List.getElem?_map, hk]; rfl
  have h3 : (⟨w.heap.size, 0, none⟩ : Addr).add k = ⟨w.heap.size, k, none⟩ := by unfold Addr.add; split <;> simp_all
  rw [h3]
  unfold World.cell?
  rw [h1]
  simp [h2]

set_option maxHeartbeats 16000000 in
theorem rowed_true (w : World) : Calls Tryd.prog 7 #[] w fun e w' => e = .returned (.bool true) ∧ Below w.heap.size w w' := by
  go_enter Tryd.func7, Tryd.ntmps7
  go_wp2_with fail
  refine (parse_is ⟨#[]⟩ [] 0 0 0 w (by decide)).mono ?_
  rintro e w1 ⟨A, n, cp, rfl, hn, hr, hb⟩
  subst hn
  have HB := Lib.hid hb
  clear hr hb
  go_wp2_with fail
  have HC := Lib.hid (heap_alloc_new w1 (Obj.cells #[Value.int IntKind.i64 0, Value.int IntKind.i64 0, Value.int IntKind.i64 0] tRej))
  refine (is_true ⟨#[97, 44, 98, 10]⟩ [[97], [98]] (w1.heap.size + 1 + 1) _ _ (by decide +kernel) (by have := strs_new (w := (w1.alloc (Obj.cells #[Value.int IntKind.i64 0, Value.int IntKind.i64 0, Value.int IntKind.i64 0] tRej))) (xs := #[Value.string ⟨#[97]⟩, Value.string ⟨#[98]⟩]) (L := [[97], [98]]) rfl rfl; simpa using this) (by simp) (by decide)).mono ?_
  rintro e w2 ⟨rfl, hb⟩
  have HC2 := Lib.hid (heap_keep (heap_keep HC.out ((Below.refl _ _).alloc (Nat.le_refl _) (Obj.cells #[Value.string ⟨#[97]⟩, Value.string ⟨#[98]⟩] tStr))) hb)
  have HB2 := Lib.hid (show Below w.heap.size w w2 from bch ((HB.out.alloc HB.out.size (Obj.cells #[Value.int IntKind.i64 0, Value.int IntKind.i64 0, Value.int IntKind.i64 0] tRej)).alloc (by have := HB.out.size; simp; omega) (Obj.cells #[Value.string ⟨#[97]⟩, Value.string ⟨#[98]⟩] tStr)) hb (by have := HB.out.size; simp; omega))
  clear hb HC HB
  go_wp2_with fail
  refine (is_true ⟨#[10]⟩ [[]] (w2.heap.size + 1) _ _ (by decide +kernel) (by have := strs_new (w := w2) (xs := #[Value.string ⟨#[]⟩]) (L := [[]]) rfl rfl; simpa using this) (by simp) (by decide)).mono ?_
  rintro e w3 ⟨rfl, hb⟩
  have HC3 := Lib.hid (heap_keep (heap_keep HC2.out ((Below.refl _ _).alloc (Nat.le_refl _) (Obj.cells #[Value.string ⟨#[]⟩] tStr))) hb)
  have HB3 := Lib.hid (show Below w.heap.size w w3 from bch (HB2.out.alloc HB2.out.size (Obj.cells #[Value.string ⟨#[]⟩] tStr)) hb (by have := HB2.out.size; simp; omega))
  clear hb HC2 HB2
  go_wp2_with fail
  refine (is_true ⟨#[34, 97, 34, 34, 98, 34, 44, 99, 10]⟩ [[97, 34, 98], [99]] (w3.heap.size + 1) _ _ (by decide +kernel) (by have := strs_new (w := w3) (xs := #[Value.string ⟨#[97, 34, 98]⟩, Value.string ⟨#[99]⟩]) (L := [[97, 34, 98], [99]]) rfl rfl; simpa using this) (by simp) (by decide)).mono ?_
  rintro e w4 ⟨rfl, hb⟩
  have HC4 := Lib.hid (heap_keep (heap_keep HC3.out ((Below.refl _ _).alloc (Nat.le_refl _) (Obj.cells #[Value.string ⟨#[97, 34, 98]⟩, Value.string ⟨#[99]⟩] tStr))) hb)
  have HB4 := Lib.hid (show Below w.heap.size w w4 from bch (HB3.out.alloc HB3.out.size (Obj.cells #[Value.string ⟨#[97, 34, 98]⟩, Value.string ⟨#[99]⟩] tStr)) hb (by have := HB3.out.size; simp; omega))
  clear hb HC3 HB3
  go_wp2_with fail
  refine (bad_true ⟨#[97, 34, 98, 10]⟩ 1 2 2 _ (by decide +kernel)).mono ?_
  rintro e w5 ⟨rfl, hb⟩
  have HC5 := Lib.hid (heap_keep HC4.out hb)
  have HB5 := Lib.hid (bch HB4.out hb HB4.out.size)
  clear hb HC4 HB4
  go_wp2_with fail
  refine (bad_true ⟨#[34, 97, 34, 98, 10]⟩ 1 4 2 _ (by decide +kernel)).mono ?_
  rintro e w6 ⟨rfl, hb⟩
  have HC6 := Lib.hid (heap_keep HC5.out hb)
  have HB6 := Lib.hid (bch HB5.out hb HB5.out.size)
  clear hb HC5 HB5
  go_wp2_with fail
  refine (bad_true ⟨#[97, 44, 98]⟩ 1 4 1 _ (by decide +kernel)).mono ?_
  rintro e w7 ⟨rfl, hb⟩
  have HC7 := Lib.hid (heap_keep HC6.out hb)
  have HB7 := Lib.hid (bch HB6.out hb HB6.out.size)
  clear hb HC6 HB6
  go_wp2_with fail
  refine (bad_true ⟨#[34, 97]⟩ 1 3 2 _ (by decide +kernel)).mono ?_
  rintro e w8 ⟨rfl, hb⟩
  have HC8 := Lib.hid (heap_keep HC7.out hb)
  have HB8 := Lib.hid (bch HB7.out hb HB7.out.size)
  obtain ⟨c0, c1, c2, _⟩ := cell3 HC8.out
  clear hb HC7 HB7
  go_wp2_with fail
  go_ret
  exact ⟨by simp, HB8.out⟩
end Go.Proofs.YtopcapmjnbmfgaaDoor

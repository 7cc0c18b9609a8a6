/- csv.Print computes Csv.printOf. -/
import Derived.Test.YtgpjbigelblanaaGreatDoorCsvField
import Derived.Test.YtgpjbigelblanaaGreatDoorBuilder
namespace Go.Proofs.YtgpjbigelblanaaGreatDoor
open Go.RowKit

/-- Rows that are no greater than is gone through here. -/
structure Fits (L : List (List (List UInt8))) : Prop where
  rows : L.length ≤ 1001
  fields : ∀ r ∈ L, r.length ≤ 1001
  bytes : ∀ r ∈ L, ∀ f ∈ r, f.length ≤ 1001

theorem take_succ' {α : Type} {L : List α} {k : Nat} {x : α} (h : L[k]? = some x) : L.take (k + 1) = L.take k ++ [x] := by
  obtain ⟨hk, e⟩ := List.getElem?_eq_some_iff.1 h
  rw [List.take_succ_eq_append_getElem hk, e]
theorem strCells_bytes (l : List UInt8) : Lib.strCells ⟨l.toArray⟩ = Lib.byteCells l := by
  simp [Lib.strCells, Lib.byteCells]
theorem byteCells_append (l m : List UInt8) : Lib.byteCells l ++ Lib.byteCells m = Lib.byteCells (l ++ m) := by simp [Lib.byteCells]
theorem byteCells_len (l : List UInt8) : (Lib.byteCells l).length = l.length := by simp [Lib.byteCells]

theorem bd_below {B b : Nat} {bs : List Value} {w w' : World} (h : Lib.IsBuilder bdT 5 B b bs w) (hb : Below w.heap.size w w') : Lib.IsBuilder bdT 5 B b bs w' := by
  have one : ∀ p, Lib.BuilderAt bdT 5 B b p bs w → Lib.BuilderAt bdT 5 B b p bs w' := by
    rintro p ⟨h1, v, h2, h3, h4⟩
    refine ⟨h1, v, heap_keep h2 hb, ⟨h3.1, ?_⟩, h4⟩
    rcases h3.2 with h5 | ⟨g, cap, cur, hv, hB, hg, r⟩
    · exact .inl h5
    · exact .inr ⟨g, cap, cur, hv, hB, heap_keep hg hb, r⟩
  exact h.imp (one _) (one _)
theorem bytes_size (l : List UInt8) : (⟨l.toArray⟩ : ByteArray).size = l.length := by show l.toArray.size = _; simp
set_option maxHeartbeats 8000000 in
theorem print_any (v : Value) (L : List (List (List UInt8))) (B : Nat) (w : World) (hv : Rowz w B v L) (hB : B ≤ w.heap.size) (hf : Fits L) (hM : HasMax w) :
    Calls Tryz.prog 31 #[v] w fun e w' => e = .returned (.string ⟨(Csv.printOf L).toArray⟩) ∧ Below w.heap.size w w' := by
  have HV := Lib.hid hv; have HF := Lib.hid hf; have HM := Lib.hid hM
  obtain ⟨A, n, c, rfl, hn, hc, hh⟩ := hv
  have HH := Lib.hid hh; clear hh
  have HL := Lib.hid hn
  have hn1 : n ≤ 1001 := by have := hf.rows; omega
  clear hf hM hn
  go_enter Tryz.func31, Tryz.ntmps31
  go_wp2_with fail
  go_loopw [10] (fun i wr => ∃ j : Nat, j ≤ n ∧ i = .int .i64 j ∧ Hid (Lib.IsBuilder bdT 5 w.heap.size w.heap.size (Lib.byteCells (Csv.printOf (L.take j))) wr) ∧ Hid (Below w.heap.size w wr) ∧ Hid ((Csv.printOf (L.take j)).length ≤ j * 3000000)) (fun i _ => n - (intOf i).toNat)
  case atStart => exact ⟨0, Nat.zero_le _, rfl, Lib.fresh_isBuilder bdT 5 w, (Below.refl _ _).alloc (Nat.le_refl _) _, by simp [Hid, Csv.printOf]⟩
  case round =>
    obtain ⟨j, hj, rfl, HBd, HW, HS⟩ := hrel
    by_cases hlt : j < n
    · obtain ⟨r, hr⟩ : ∃ x, L[j]? = some x := ⟨_, List.getElem?_eq_getElem (by have := HL.out; omega)⟩
      obtain ⟨ad, u, rfl, had, hcell0, hu⟩ := HH.out j r hr
      have hcell := (HW.out.cell (p := ad.add j) (by rw [block_add]; omega)).trans hcell0
      clear hcell0
      have HU := Lib.hid hu
      obtain ⟨Ai, ni, ci, rfl, hni, hci, hh⟩ := hu
      have HI := Lib.hid hh
      have HNI := Lib.hid hni; have HR := Lib.hid hr
      have hni1 : ni ≤ 1001 := by have := HF.out.fields r (List.mem_of_getElem? hr); omega
      have HFB := Lib.hid (HF.out.bytes r (List.mem_of_getElem? hr))
      clear hh hni hr
      go_wp2_with fail
      go_loopw [16] (fun i wr => ∃ k : Nat, k ≤ ni ∧ i = .int .i64 k ∧ Hid (Lib.IsBuilder bdT 5 w.heap.size w.heap.size (Lib.byteCells (Csv.printOf (L.take j) ++ Csv.rowOf (r.take k))) wr) ∧ Hid (Below w.heap.size w wr) ∧ Hid ((Csv.rowOf (r.take k)).length ≤ k * 2800)) (fun i _ => ni - (intOf i).toNat)
      case atStart => exact ⟨0, Nat.zero_le _, rfl, by simpa [Hid, Csv.rowOf, Csv.joinC] using HBd.out, HW, by simp [Hid, Csv.rowOf, Csv.joinC]⟩
      case round =>
        obtain ⟨k, hk, rfl, HBd2, HW2, HS2⟩ := hrel
        by_cases hkt : k < ni
        · obtain ⟨f, hf⟩ : ∃ x, r[k]? = some x := ⟨_, List.getElem?_eq_getElem (by have := HNI.out; omega)⟩
          obtain ⟨ad2, u2, rfl, had2, hcell2, hu2⟩ := HI.out k f hf
          subst hu2
          have hcell3 := (HW2.out.cell (p := ad2.add k) (by rw [block_add]; omega)).trans hcell2
          have hfl := HFB.out f (List.mem_of_getElem? hf)
          have hfo := Csv.fieldOf_len f
          have hsn := Csv.rowOf_snoc (r.take k) f
          rw [← take_succ' hf] at hsn
          have hrt : (r.take k = []) ↔ k = 0 := by
            have := HNI.out
            constructor
            · intro e
              have h2 : (r.take k).length = 0 := by rw [e]; rfl
              rw [List.length_take] at h2
              omega
            · rintro rfl; rfl
          have hz := HW2.out.size
          have hs1 := HS.out; have hs2 := HS2.out
          have HFD : Hid (∀ W : World, HasMax W → Calls Tryz.prog 64 #[.string ⟨f.toArray⟩] W fun e w' => e = .returned (.string ⟨(Csv.fieldOf f).toArray⟩) ∧ Below W.heap.size W w') := fun W hW => field_any ⟨f.toArray⟩ W (by rw [bytes_size]; omega) hW
          obtain ⟨P0, hP0⟩ : ∃ g, Csv.printOf (L.take j) = g := ⟨_, rfl⟩
          obtain ⟨R0, hR0⟩ : ∃ g, Csv.rowOf (r.take k) = g := ⟨_, rfl⟩
          obtain ⟨R1, hR1⟩ : ∃ g, Csv.rowOf (r.take (k + 1)) = g := ⟨_, rfl⟩
          rw [hP0] at hs1; rw [hR0] at hs2 hsn; rw [hR1] at hsn
          have hb0 := HBd2.out
          rw [hP0, hR0] at hb0
          have HB0 := Lib.hid hb0
          have HT1 := Lib.hid hs1; have HT2 := Lib.hid hs2; have HFO := Lib.hid hfo; have HFL := Lib.hid hfl
          have HP0 := Lib.hid hP0; have HR1 := Lib.hid hR1
          clear hs1 hs2 hfo hfl hcell2 hf hP0 hR0 hR1 hb0 HBd2 HS HS2
          by_cases hk0 : k = 0
          · rw [if_pos (hrt.2 hk0)] at hsn
            have HSN := Lib.hid hsn
            have hR00 : R0 = [] := List.eq_nil_of_length_eq_zero (by have := HT2.out; rw [hk0] at this; omega)
            subst hR00
            have hk0n : ¬ (0 : Int) < (k : Int) := by omega
            clear hsn hrt hk0
            go_wp2_with (first
              | (go_at_call 64; refine (HFD.out _ (HM.out.to HW2.out (Nat.le_refl _))).mono ?_; rintro e w1 ⟨rfl, hb1⟩; have HB1 := Lib.hid (bch HW2.out hb1 (by omega)); have HX := Lib.hid (bd_below HB0.out hb1); clear hb1)
              | (go_at_call 63; refine (bd_writeString _ _ _ ⟨(Csv.fieldOf f).toArray⟩ _ HX.out (by rw [byteCells_len, bytes_size, List.append_nil]; have := HT1.out; have := HFO.out; have := HFL.out; omega) HB1.out.size).mono ?_; rintro e w2 ⟨rfl, hb2, hb3⟩; have HY := Lib.hid hb2; have HB2 := Lib.hid (HB1.out.trans hb3); clear hb2 hb3))
            go_roundw
            case rel => exact ⟨k + 1, by omega, by go_num, Or.inr (by rw [HP0.out, HR1.out, HSN.out]; have h := HY.out; rw [strCells_bytes, byteCells_append, List.append_nil] at h; exact h), HB2, by have := HFO.out; have := HFL.out; show _ ≤ _; rw [HR1.out, HSN.out]; omega⟩
            case measure => simp [intOf]; omega
          · rw [if_neg (fun e => hk0 (hrt.1 e))] at hsn
            have HSN := Lib.hid hsn
            have hk0n : (0 : Int) < (k : Int) := by omega
            clear hsn hrt hk0
            go_wp2_with (first
              | (go_at_call 62; refine (bd_writeByte _ _ _ _ _ HB0.out (by rw [byteCells_len, List.length_append]; have := HT1.out; have := HT2.out; omega) HW2.out.size).mono ?_; rintro e w0 ⟨rfl, hb2, hb3⟩; have HZ := Lib.hid hb2; have HB00 := Lib.hid (HW2.out.trans hb3); clear hb2 hb3)
              | (go_at_call 64; refine (HFD.out _ (HM.out.to HB00.out (Nat.le_refl _))).mono ?_; rintro e w1 ⟨rfl, hb1⟩; have HB1 := Lib.hid (bch HB00.out hb1 HB00.out.size); have HX := Lib.hid (bd_below (Or.inr HZ.out) hb1); clear hb1)
              | (go_at_call 63; refine (bd_writeString _ _ _ ⟨(Csv.fieldOf f).toArray⟩ _ HX.out (by rw [List.length_append, byteCells_len, bytes_size, List.length_append]; have := HT1.out; have := HT2.out; have := HFO.out; have := HFL.out; simp; omega) HB1.out.size).mono ?_; rintro e w2 ⟨rfl, hb2, hb3⟩; have HY := Lib.hid hb2; have HB2 := Lib.hid (HB1.out.trans hb3); clear hb2 hb3))
            go_roundw
            case rel => exact ⟨k + 1, by omega, by go_num, Or.inr (by rw [HP0.out, HR1.out, HSN.out]; have h := HY.out; rw [strCells_bytes, show ([.int .u8 44] : List Value) = Lib.byteCells [44] from rfl, byteCells_append, byteCells_append, List.append_assoc, List.append_assoc] at h; exact h), HB2, by have := HFO.out; have := HFL.out; have := HT2.out; show _ ≤ _; rw [HR1.out, HSN.out]; simp; omega⟩
            case measure => simp [intOf]; omega
        · have hkn : k = ni := by omega
          have hfull : r.take k = r := List.take_of_length_le (by have := HNI.out; omega)
          have hb0 := HBd2.out
          rw [hfull] at hb0
          have HB0 := Lib.hid hb0
          have hp := Csv.printOf_snoc (L.take j) r
          rw [← take_succ' HR.out] at hp
          have HP := Lib.hid hp
          have ht2 := HS2.out
          rw [hfull] at ht2
          have HT2 := Lib.hid ht2
          have hz := HW2.out.size
          clear hb0 hp hfull ht2 hkn
          go_wp2_with (go_at_call 62; refine (bd_writeByte _ _ _ _ _ HB0.out (by rw [byteCells_len, List.length_append]; have := HS.out; have := HT2.out; omega) HW2.out.size).mono ?_; rintro e w0 ⟨rfl, hb2, hb3⟩; have HZ := Lib.hid hb2; have HB00 := Lib.hid (HW2.out.trans hb3); clear hb2 hb3)
          go_roundw
          case rel => exact ⟨j + 1, by omega, by go_num, Or.inr (by rw [HP.out]; have h := HZ.out; rw [show ([.int .u8 10] : List Value) = Lib.byteCells [10] from rfl, byteCells_append, List.append_assoc] at h; exact h), HB00, by show _ ≤ _; rw [HP.out, List.length_append, List.length_append]; have := HS.out; have := HT2.out; simp; omega⟩
          case measure => simp [intOf]; omega
    · have hfull : L.take j = L := List.take_of_length_le (by have := HL.out; omega)
      have hb0 := HBd.out
      rw [hfull] at hb0
      have HB0 := Lib.hid hb0
      clear hb0 hfull
      go_wp2_with (go_at_call 65; refine (Tryz.Builder_String_any _ _ _ _ HB0.out HW.out.size).mono ?_; rintro e w1 ⟨rfl, HW1⟩)
      go_ret
      exact ⟨rfl, HW.out.trans HW1⟩
end Go.Proofs.YtgpjbigelblanaaGreatDoor

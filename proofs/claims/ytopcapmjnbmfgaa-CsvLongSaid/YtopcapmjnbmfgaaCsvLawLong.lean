/- The walk of consignorlaw04.CsvLong: it answers true, and nothing that was there is written. -/
import Derived.Test.YtopcapmjnbmfgaaCsvRowed
import Derived.Laws.MakeOwn
import Derived.Laws.IdiomStrings
namespace Go.Proofs.Ytopcapmjnbmfgaa
open Go.RowKit

theorem made_bytes (n : Nat) : madeCells #[Value.int .u8 0] n = ((List.replicate n (0 : UInt8)).map fun b => Value.int .u8 (b.toNat : Int)).toArray := by
  apply Array.ext
  · simp [size_madeCells]
  · intro i h1 h2
    simp [madeCells, Nat.mod_one]

/-- A block of bytes. -/
def BytesAt (w : World) (b : Nat) (l : List UInt8) : Prop := w.heap[b]? = some (.cells (l.map fun b => Value.int .u8 (b.toNat : Int)).toArray 5 (0, 0))
theorem BytesAt.cell {w : World} {b : Nat} {l : List UInt8} (h : BytesAt w b l) (j : Nat) (hj : j < l.length) : w.cell? ⟨b, j, none⟩ = some (.int .u8 (l[j].toNat : Int)) ∧ w.frozen? ⟨b, j, none⟩ = false := by
  unfold BytesAt at h
  simp [World.cell?, World.frozen?, h, hj]
theorem BytesAt.set {w : World} {b : Nat} {l : List UInt8} (h : BytesAt w b l) (j : Nat) (c : UInt8) : BytesAt (w.setCell ⟨b, j, none⟩ (.int .u8 (c.toNat : Int))) b (l.set j c) := by
  unfold BytesAt at h ⊢
  simp [World.setCell, Array.getElem?_modify, h, List.map_set]

set_option maxHeartbeats 4000000 in
theorem lawCsvLong_walk (m c : Nat) (w : World) (hm : m ≤ 255) (hc : c ≤ 255) :
    Calls Try.prog 4 #[.int .u8 m, .int .u8 c] w fun e w' => e = .returned (.bool true) ∧ Below w.heap.size w w' := by
  obtain ⟨i0, hi, hz0, hz1, hz2⟩ := info_parts byte_info
  have hmk := run_make (P := Try.prog) w 30 5 i0 (.int .u8 0) Try.underlying30 hi hz0 .i64 .i64 (65537 + (m : Int)) (65537 + (m : Int)) (by omega) (Int.le_refl _) (by rw [hz2]; omega) (by omega)
  rw [hz1, show (Value.int IntKind.u8 0).cells = #[Value.int .u8 0] from rfl, show (65537 + (m : Int)).toNat = 65537 + m from by omega, Nat.mul_one, made_bytes] at hmk
  obtain ⟨n, hn⟩ : ∃ n, n = 65537 + m := ⟨_, rfl⟩
  rw [← hn] at hmk
  have hn1 : n ≤ 70000 := by omega
  have hn2 : 65537 ≤ n := by omega
  obtain ⟨l0, hl0⟩ : ∃ l, l = List.replicate n (0 : UInt8) := ⟨_, rfl⟩
  rw [← hl0] at hmk
  have HL0 := Lib.hid (show l0.length = n by rw [hl0]; simp)
  clear hl0 hn
  go_enter Try.func4, Try.ntmps4
  go_wp2_with fail
  clear hmk
  go_loopw [6] (fun i wr => ∃ (j : Nat) (l : List UInt8), j ≤ n ∧ i = .int .i64 j ∧ Hid (l.length = n) ∧ Hid (BytesAt wr w.heap.size l) ∧ Hid (Below w.heap.size w wr)) (fun i _ => n - (intOf i).toNat)
  case atStart => exact ⟨0, l0, by omega, rfl, HL0, heap_alloc_new w _, (Below.refl _ _).alloc (Nat.le_refl _) _⟩
  case round =>
    obtain ⟨j, l, hj, rfl, HL, HB, HW⟩ := hrel
    by_cases hlt : j < n
    · obtain ⟨c0, f0⟩ := HB.out.cell j (by rw [HL.out]; exact hlt)
      go_wp2_with fail
      refine ⟨⟨j + 1, l.set j (UInt8.ofNat c), by omega, by go_num, by simpa [Hid] using HL.out, ?_, HW.out.setCell (Nat.le_refl _) _⟩, by simp [intOf]; omega⟩
      have h := HB.out.set j (UInt8.ofNat c)
      rw [show ((UInt8.ofNat c).toNat : Int) = (c : Int) from by simp; omega] at h
      exact h
    · have hcv := run_convert_bytes_back (P := Try.prog) wr 30 9 5 ⟨w.heap.size, 0, none⟩ n l Try.underlying30 Try.underlying5 Try.underlying9 (fun j hj => by
        have h := (HB.out.cell j hj).1
        have e : (⟨w.heap.size, 0, none⟩ : Addr).add j = ⟨w.heap.size, j, none⟩ := by unfold Addr.add; split <;> simp_all
        rw [e]
        exact h)
      rw [HL.out] at hcv
      have HP := Lib.hid (show Csv.parse (⟨l.toArray⟩ : ByteArray).data.toList = ([], 1, 1, 8) by
        unfold Csv.parse
        have := HL.out
        rw [if_pos (by simp; omega)])
      go_wp2_with fail
      refine (bad_true ⟨l.toArray⟩ 1 1 8 _ HP.out).mono ?_
      rintro e w1 ⟨rfl, hb1⟩
      have HB1 := Lib.hid (bch HW.out hb1 HW.out.size)
      clear hb1
      go_wp2_with fail
      refine (rowed_true _).mono ?_
      rintro e w2 ⟨rfl, hb2⟩
      have HB2 := Lib.hid (bch HB1.out hb2 HB1.out.size)
      clear hb2
      go_wp2_with fail
      go_ret
      exact ⟨by simp, HB2.out⟩
end Go.Proofs.Ytopcapmjnbmfgaa

/- csv.quoted, csv.where: what they compute. -/
import Derived.Test.YtgpjbigelblanaaGreatDoorBuilder
import Derived.Test.YtgpjbigelblanaaGreatDoorShelf
import Derived.Test.YtgpjbigelblanaaGreatDoorCsvWalk1
import Derived.Deep.QuietTactic
import Derived.BigQuiet
namespace Go.Proofs.YtgpjbigelblanaaGreatDoor
open Go.RowKit

/-! ### csv.where: by Count and LastIndexByte -/
theorem lc_by (t : ByteArray) (k : Nat) (hk : k ≤ t.size) :
    ((Csv.lc (t.data.toList.take k)).1 : Int) = (Lib.countByte (t.data.toList.take k) 10 : Int) + 1 ∧ ((Csv.lc (t.data.toList.take k)).2 : Int) = (k : Int) - Lib.lastIdx t 10 k := by
  induction k with
  | zero => simp [Csv.lc, Lib.countByte, Lib.lastIdx]
  | succ k ih =>
    obtain ⟨h1, h2⟩ := ih (by omega)
    have hlt : k < t.size := by omega
    rw [take_snocC t k hlt, lc_snoc, Lib.lastIdx]
    have hd : t.data[k]! = t[k] := by
      rw [getElem!_pos t.data k (by simpa using hlt)]; rfl
    rw [hd]
    have hc : Lib.countByte (t.data.toList.take k ++ [t[k]]) 10 = Lib.countByte (t.data.toList.take k) 10 + if t[k] = 10 then 1 else 0 := by
      unfold Lib.countByte
      rw [List.count_append]
      by_cases h : t[k] = 10
      · simp [h]
      · simp [h]
    rw [hc]
    by_cases h : t[k] = 10
    · have h' : (t[k].toNat : Int) = 10 := by rw [h]; rfl
      rw [if_pos h, if_pos h, if_pos h']
      refine ⟨by simp only []; push_cast; omega, by simp only []; push_cast; omega⟩
    · have h' : ¬ (t[k].toNat : Int) = 10 := fun e => h ((u8_of _ 10 (by decide)).1 e)
      rw [if_neg h, if_neg h, if_neg h']
      refine ⟨by simp only []; push_cast; omega, by simp only []; push_cast; omega⟩

theorem extract0 (s : ByteArray) (k : Nat) : (s.extract 0 k).data.toList = s.data.toList.take k := by
  simp

set_option maxHeartbeats 1000000 in
theorem where_any (s : ByteArray) (at_ : Nat) (code : Int) (w : World) (hs : s.size ≤ 65536) (hk : at_ ≤ s.size) :
    Calls Tryz.prog 60 #[.string s, .int .i64 at_, .int .i64 code] w fun e w' => e = .returned (rej (s.data.toList.take at_) code) ∧ Below w.heap.size w w' := by
  have hsz : (s.extract 0 at_).size = at_ := by rw [ByteArray.size_extract]; omega
  obtain ⟨h1, h2⟩ := lc_by (s.extract 0 at_) at_ (by omega)
  have e0 : (s.extract 0 at_).data.toList.take at_ = s.data.toList.take at_ := by rw [extract0, List.take_take, Nat.min_self]
  rw [e0] at h1 h2
  have hl : Lib.lastIndexByte (s.extract 0 at_) 10 = Lib.lastIdx (s.extract 0 at_) 10 at_ := by unfold Lib.lastIndexByte; rw [hsz]
  have hb := lc_le (s.data.toList.take at_)
  have hlen : (s.data.toList.take at_).length ≤ at_ := List.length_take_le _ _
  obtain ⟨n, hn⟩ : ∃ n : Nat, Lib.countByte (s.extract 0 at_).data.toList 10 = n := ⟨_, rfl⟩
  obtain ⟨m, hm⟩ : ∃ m : Int, Lib.lastIndexByte (s.extract 0 at_) 10 = m := ⟨_, rfl⟩
  have hn' := hn
  rw [extract0] at hn'
  rw [hn'] at h1
  rw [← hl, hm] at h2
  have b1 : (n : Int) ≤ 65536 := by omega
  have b2 : -1000000 ≤ m := by omega
  have b3 : m ≤ 1000000 := by omega
  have HR := Lib.hid (show rej (s.data.toList.take at_) code = .agg #[.int .i64 ((n : Int) + 1), .int .i64 ((at_ : Int) - m), .int .i64 code] from by unfold rej; rw [h1, h2])
  have HN := Lib.hid hn; have HM := Lib.hid hm
  clear h1 h2 hn hm hn' hl e0 hsz
  go_enter Tryz.func60, Tryz.ntmps60
  go_wp2_with fail
  refine (Tryz.strings_Count_one (s.extract 0 at_) 10 _).mono ?_
  rintro e w1 ⟨rfl, hw1⟩
  rw [HN.out, hw1]
  clear hw1
  go_wp2_with fail
  refine (Tryz.strings_LastIndexByte (s.extract 0 at_) 10 (by rw [ByteArray.size_extract]; omega) _).mono ?_
  rintro e w2 ⟨rfl, hw2⟩
  rw [HM.out, hw2]
  clear hw2
  go_wp2_with fail
  exact bodyPost_ret (v := rej (s.data.toList.take at_) code) (by rw [HR.out]; simp [results, Tryz.results60, go_sem]) rfl ⟨rfl, ((Below.refl _ _).alloc (Nat.le_refl _) _)⟩

/-! ### csv.quoted -/
/-- What csv.quoted answers, at a place where a quote stands. -/
def quotedOut (s : ByteArray) (k : Nat) : Value :=
  let r := Csv.scanQ (s.data.toList.drop (k + 1))
  if r.2.2 = true then .tuple #[.string ⟨r.1.toArray⟩, .int .i64 ((k + 1 + r.2.1 : Nat) : Int), .bool true]
  else .tuple #[.string ⟨#[]⟩, .int .i64 (s.size : Int), .bool false]

theorem byteCells_snoc (l : List UInt8) (c : UInt8) : Lib.byteCells l ++ [.int .u8 (c.toNat : Int)] = Lib.byteCells (l ++ [c]) := by simp [Lib.byteCells]

/-- How far the loop has come: k' bytes behind the first quote, the bytes so far. -/
def QRel (s : ByteArray) (k j : Nat) (out : List UInt8) : Prop :=
  Csv.scanQ (s.data.toList.drop (k + 1)) = (out ++ (Csv.scanQ (s.data.toList.drop j)).1, (Csv.scanQ (s.data.toList.drop j)).2.1 + (j - (k + 1)), (Csv.scanQ (s.data.toList.drop j)).2.2)

theorem QRel.start (s : ByteArray) (k : Nat) : QRel s k (k + 1) [] := by unfold QRel; simp
theorem QRel.plain {s : ByteArray} {k j : Nat} {out : List UInt8} (h : QRel s k j out) (hj : k < j) (hlt : j < s.size) (hc : ¬ s[j] = 34) : QRel s k (j + 1) (out ++ [s[j]]) := by
  unfold QRel at h ⊢
  rw [h, drop_cons s j hlt, Csv.scanQ.eq_4 _ _ (fun _ e _ => hc e) (fun e => hc e)]
  simp only [List.append_assoc, List.cons_append, List.nil_append, Prod.mk.injEq, and_true, true_and]
  omega
theorem QRel.two {s : ByteArray} {k j : Nat} {out : List UInt8} (h : QRel s k j out) (hj : k < j) (hlt : j + 1 < s.size) (hc : s[j] = 34) (hc' : s[j + 1] = 34) : QRel s k (j + 2) (out ++ [34]) := by
  unfold QRel at h ⊢
  rw [h, drop_cons s j (by omega), drop_cons s (j + 1) hlt, hc, hc', Csv.scanQ, show j + 1 + 1 = j + 2 from rfl]
  simp only [List.append_assoc, List.cons_append, List.nil_append, Prod.mk.injEq, and_true, true_and]
  omega
theorem QRel.ends {s : ByteArray} {k j : Nat} {out : List UInt8} (h : QRel s k j out) (hj : k < j) (hlt : j < s.size) (hc : s[j] = 34) (hc' : ∀ h : j + 1 < s.size, ¬ s[j + 1] = 34) :
    quotedOut s k = .tuple #[.string ⟨out.toArray⟩, .int .i64 ((j + 1 : Nat) : Int), .bool true] := by
  unfold QRel at h
  have : Csv.scanQ (s.data.toList.drop j) = ([], 1, true) := by
    rw [drop_cons s j hlt, hc]
    by_cases hl : j + 1 < s.size
    · rw [drop_cons s (j + 1) hl, Csv.scanQ.eq_3]
      intro r e
      exact hc' hl (List.cons.inj e).1
    · rw [show s.data.toList.drop (j + 1) = [] from by simp; omega]
      rfl
  rw [this] at h
  unfold quotedOut
  simp only [h, if_true, List.append_nil]
  rw [show k + 1 + (1 + (j - (k + 1))) = j + 1 from by omega]
theorem QRel.never {s : ByteArray} {k : Nat} {out : List UInt8} (h : QRel s k s.size out) : quotedOut s k = .tuple #[.string ⟨#[]⟩, .int .i64 (s.size : Int), .bool false] := by
  unfold QRel at h
  rw [show s.data.toList.drop s.size = [] from by simp, Csv.scanQ] at h
  unfold quotedOut
  simp [h]

set_option maxHeartbeats 4000000 in
theorem quoted_any (s : ByteArray) (k : Nat) (w : World) (hs : s.size ≤ 65536) (hk : k < s.size) :
    Calls Tryz.prog 59 #[.string s, .int .i64 k] w fun e w' => e = .returned (quotedOut s k) ∧ Below w.heap.size w w' := by
  go_enter Tryz.func59, Tryz.ntmps59
  go_wp2_with fail
  go_loopw [1] (fun i wr => ∃ (j : Nat) (out : List UInt8), k < j ∧ j ≤ s.size ∧ i = .int .i64 j ∧ Hid (QRel s k j out) ∧ Hid (Lib.IsBuilder bdT 5 w.heap.size w.heap.size (Lib.byteCells out) wr) ∧ Hid (Below w.heap.size w wr) ∧ out.length ≤ j) (fun i _ => s.size - (intOf i).toNat)
  case atStart => exact ⟨k + 1, [], by omega, by omega, by go_num, QRel.start s k, Lib.fresh_isBuilder bdT 5 w, (Below.refl _ _).alloc (Nat.le_refl _) _, by simp⟩
  case round =>
    obtain ⟨j, out, hkj, hj, rfl, HQ, HB, HW, hol⟩ := hrel
    by_cases hlt : j < s.size
    · by_cases hc : s[j] = 34
      · have g1 : (s[j].toNat : Int) = 34 := by rw [hc]; rfl
        by_cases h2 : ∃ h : j + 1 < s.size, s[j + 1] = 34
        · obtain ⟨hl2, hc2⟩ := h2
          have g2 : (s[j + 1].toNat : Int) = 34 := by rw [hc2]; rfl
          have HQ2 := Lib.hid (QRel.two HQ.out hkj hl2 hc hc2)
          clear hc hc2
          go_wp2_with (go_at_call 62; refine (bd_writeByte _ _ _ _ _ HB.out (by simp [Lib.byteCells]; omega) HW.out.size).mono ?_; rintro e w1 ⟨rfl, HB1, HW1⟩)
          go_roundw
          case rel => exact ⟨j + 2, out ++ [34], by omega, by omega, by go_num, HQ2, Or.inr (by rw [← byteCells_snoc]; exact HB1), HW.out.trans (HW1), by simp; omega⟩
          case measure => simp [intOf]; omega
        · have HO := Lib.hid (QRel.ends HQ.out hkj hlt hc (fun h e => h2 ⟨h, e⟩))
          by_cases hl2 : j + 1 < s.size
          · have g2 := beqF (fun e => h2 ⟨hl2, (u8_of s[j + 1] 34 (by decide)).1 e⟩)
            clear hc h2
            go_wp2_with (go_at_call 65; refine (Tryz.Builder_String_any _ _ out _ HB.out HW.out.size).mono ?_; rintro e w1 ⟨rfl, HW1⟩)
            go_ret3
            exact ⟨by rw [HO.out]; go_num, HW.out.trans HW1⟩
          · have g2 : s.size ≤ j + 1 := by omega
            clear hc h2
            go_wp2_with (go_at_call 65; refine (Tryz.Builder_String_any _ _ out _ HB.out HW.out.size).mono ?_; rintro e w1 ⟨rfl, HW1⟩)
            go_ret3
            exact ⟨by rw [HO.out]; go_num, HW.out.trans HW1⟩
      · have g1 := bneT (fun e => hc ((u8_of s[j] 34 (by decide)).1 e))
        have HQ2 := Lib.hid (QRel.plain HQ.out hkj hlt hc)
        clear hc
        go_wp2_with (go_at_call 62; refine (bd_writeByte _ _ _ _ _ HB.out (by simp [Lib.byteCells]; omega) HW.out.size).mono ?_; rintro e w1 ⟨rfl, HB1, HW1⟩)
        go_roundw
        case rel => exact ⟨j + 1, out ++ [s[j]], by omega, by omega, by go_num, HQ2, Or.inr (by rw [← byteCells_snoc]; exact HB1), HW.out.trans (HW1), by simp; omega⟩
        case measure => simp [intOf]; omega
    · obtain rfl : j = s.size := by omega
      have HO := Lib.hid (QRel.never HQ.out)
      go_wp2_with fail
      go_ret3
      exact ⟨by rw [HO.out]; rfl, HW.out⟩
end Go.Proofs.YtgpjbigelblanaaGreatDoor

/- keys.Get and the document's: what they compute. -/
import Derived.Test.YtnakicbdljffeaaDoorKeysPut
namespace Go.Proofs.YtnakicbdljffeaaDoor
open Go.RowKit Key Mon

def getV (r : (Int × Int) × Bool) : Value := .tuple #[.agg #[.int .i64 r.1.1, .int .i64 r.1.2], .bool r.2]
theorem cut_any (s : ByteArray) (w : World) (hs : s.size ≤ 1000000) (hK : KW w) (a b : List UInt8) (f : Bool) (h : Lib.cut s.data.toList [45] = (a, b, f)) :
    Calls Tryd.prog 31 #[.string s, .string ⟨#[45]⟩] w fun e w' => e = .returned (.tuple #[.string ⟨a.toArray⟩, .string ⟨b.toArray⟩, .bool f]) ∧ Below w.heap.size w w' := by
  obtain ⟨m, hm, _⟩ := hK.max
  refine (Tryd.strings_Cut s ⟨#[45]⟩ m w (by omega) hm).mono ?_
  rintro e w' ⟨rfl, n, rfl⟩
  rw [show (⟨#[45]⟩ : ByteArray).data.toList = [45] from rfl, h]
  exact ⟨rfl, ⟨rfl, rfl, rfl, Nat.le_refl _, fun _ _ => rfl⟩⟩
theorem cut_len (s a b : List UInt8) (f : Bool) (h : Lib.cut s [45] = (a, b, f)) : a.length ≤ s.length ∧ b.length ≤ s.length := by
  rcases cut_dash s with ⟨h1, _⟩ | ⟨a', b', h1, _, h2⟩
  · rw [h] at h1
    simp only [Prod.mk.injEq] at h1
    obtain ⟨rfl, rfl, _⟩ := h1
    simp
  · rw [h] at h2
    simp only [Prod.mk.injEq] at h2
    obtain ⟨rfl, rfl, _⟩ := h2
    rw [h1]
    simp; omega
theorem below_set2 {B : Nat} {a w : World} (h : Below B a w) {b : Nat} (hb : B ≤ b) (p q : Value) : Below B a ((w.setCell ⟨b, 0, none⟩ p).setCell ⟨b, 1, none⟩ q) :=
  (h.setCell (p := ⟨b, 0, none⟩) hb _).setCell (p := ⟨b, 1, none⟩) hb _

set_option maxHeartbeats 4000000 in
theorem getK_any (s : ByteArray) (w : World) (hs : s.size ≤ 1000000) (hK : KW w) : Calls Tryd.prog 28 #[.string s] w fun e w' => e = .returned (getV (getK s.data.toList)) ∧ Below w.heap.size w w' := by
  have HK := Lib.hid hK
  clear hK
  obtain ⟨a, b, f, hcut⟩ : ∃ a b f, Lib.cut s.data.toList [45] = (a, b, f) := ⟨_, _, _, rfl⟩
  obtain ⟨hla, hlb⟩ := cut_len _ a b f hcut
  rw [size_len] at hla hlb
  obtain ⟨n, one, hn⟩ : ∃ n t, getM a = (n, t) := ⟨_, _, rfl⟩
  obtain ⟨dd, two, hd⟩ : ∃ n t, deedK b = (n, t) := ⟨_, _, rfl⟩
  have hg : getK s.data.toList = if one = true ∧ two = true ∧ chk n dd = true then ((n, dd), true) else ((0, 0), false) := by
    unfold getK
    simp only [hcut, hn, hd]
  have hC := fun W (h : KW W) => cut_any s W hs h a b f hcut
  have hG := fun W (h : KW W) => (get_any ⟨a.toArray⟩ W (by show a.toArray.size ≤ _; simp; omega) h.mw)
  rw [show (⟨a.toArray⟩ : ByteArray).data.toList = a by simp, hn] at hG
  unfold pairV at hG
  have hD := fun W (h : KW W) => deed_any ⟨b.toArray⟩ W (by show b.toArray.size ≤ _; unfold maxLen; simp; omega) h
  rw [show (⟨b.toArray⟩ : ByteArray).data.toList = b by simp, hd] at hD
  have HC := Lib.hid hC; have HG := Lib.hid hG; have HD := Lib.hid hD
  have hdd : Mon.InR n := by
    rcases getM_cases a with ⟨n', h1, _, h2⟩ | ⟨_, h2⟩
    · rw [hn] at h2; injection h2 with h2 _; rw [h2]; exact h1
    · rw [hn] at h2; injection h2 with h2 _; rw [h2]; unfold InR; omega
  obtain ⟨q1, q2⟩ := hdd
  clear hC hG hD hcut hla hlb hn hd
  have hg0 : ¬ (one = true ∧ two = true ∧ chk n dd = true) → getK s.data.toList = ((0, 0), false) := fun h => by rw [hg, if_neg h]
  have hg1 : (one = true ∧ two = true ∧ chk n dd = true) → getK s.data.toList = ((n, dd), true) := fun h => by rw [hg, if_pos h]
  have HG0 := Lib.hid hg0
  have HG1 := Lib.hid hg1
  clear hg hg0 hg1
  cases one with
  | false =>
    rw [HG0.out (by simp)]
    unfold getV
    go_enter Tryd.func28, Tryd.ntmps28
    go_wp2_with fail
    refine (HC.out _ (HK.out.below (below_alloc w _))).mono ?_
    rintro e w1 ⟨rfl, hb⟩
    have HB1 := Lib.hid (bch (below_alloc w _) hb (by simp))
    obtain ⟨c0, c1, hz⟩ := cells2 hb
    obtain ⟨f0, f1⟩ := frozen2 hb
    have HB1K := Lib.hid (block_new hb)
    clear hb
    go_wp2_with fail
    refine (HG.out _ (HK.out.below HB1.out)).mono ?_
    rintro e w2 ⟨rfl, hb⟩
    have HB2 := Lib.hid (bch HB1.out hb HB1.out.size)
    obtain ⟨hc2, hf2⟩ := bcell hb
    have hz2 := Nat.lt_of_lt_of_le hz hb.size
    have HB2K := Lib.hid (set2 (heap_keep HB1K.out hb) (.int .i64 n) (.int .i64 dd))
    clear hb
    go_wp2_with fail
    refine (HD.out _ (HK.out.below HB2.out)).mono ?_
    rintro e w3 ⟨rfl, hw⟩
    obtain rfl : w2 = w3 := hw
    have HB3 := Lib.hid (below_set2 HB2.out (Nat.le_refl _) (.int .i64 n) (.int .i64 dd))
    go_wp2_with fail
    obtain ⟨m0, m1, _, _⟩ := cell2 (set2 HB2K.out (.int .i64 0) (.int .i64 0))
    exact bodyPost_ret (v := .tuple #[.agg #[.int .i64 0, .int .i64 0], .bool false]) (by simp [results, Tryd.results28, go_sem, m0, m1]) rfl ⟨rfl, below_set2 HB3.out (Nat.le_refl _) _ _⟩
  | true =>
    cases two with
    | false =>
      rw [HG0.out (by simp)]
      unfold getV
      go_enter Tryd.func28, Tryd.ntmps28
      go_wp2_with fail
      refine (HC.out _ (HK.out.below (below_alloc w _))).mono ?_
      rintro e w1 ⟨rfl, hb⟩
      have HB1 := Lib.hid (bch (below_alloc w _) hb (by simp))
      obtain ⟨c0, c1, hz⟩ := cells2 hb
      obtain ⟨f0, f1⟩ := frozen2 hb
      have HB1K := Lib.hid (block_new hb)
      clear hb
      go_wp2_with fail
      refine (HG.out _ (HK.out.below HB1.out)).mono ?_
      rintro e w2 ⟨rfl, hb⟩
      have HB2 := Lib.hid (bch HB1.out hb HB1.out.size)
      obtain ⟨hc2, hf2⟩ := bcell hb
      have hz2 := Nat.lt_of_lt_of_le hz hb.size
      have HB2K := Lib.hid (set2 (heap_keep HB1K.out hb) (.int .i64 n) (.int .i64 dd))
      clear hb
      go_wp2_with fail
      refine (HD.out _ (HK.out.below HB2.out)).mono ?_
      rintro e w3 ⟨rfl, hw⟩
      obtain rfl : w2 = w3 := hw
      have HB3 := Lib.hid (below_set2 HB2.out (Nat.le_refl _) (.int .i64 n) (.int .i64 dd))
      go_wp2_with fail
      obtain ⟨m0, m1, _, _⟩ := cell2 (set2 HB2K.out (.int .i64 0) (.int .i64 0))
      exact bodyPost_ret (v := .tuple #[.agg #[.int .i64 0, .int .i64 0], .bool false]) (by simp [results, Tryd.results28, go_sem, m0, m1]) rfl ⟨rfl, below_set2 HB3.out (Nat.le_refl _) _ _⟩
    | true =>
      by_cases hn60 : 60 < n
      · rw [HG0.out (by intro h; have := chk_iff.1 h.2.2; omega)]
        unfold getV
        go_enter Tryd.func28, Tryd.ntmps28
        go_wp2_with fail
        refine (HC.out _ (HK.out.below (below_alloc w _))).mono ?_
        rintro e w1 ⟨rfl, hb⟩
        have HB1 := Lib.hid (bch (below_alloc w _) hb (by simp))
        obtain ⟨c0, c1, hz⟩ := cells2 hb
        obtain ⟨f0, f1⟩ := frozen2 hb
        have HB1K := Lib.hid (block_new hb)
        clear hb
        go_wp2_with fail
        refine (HG.out _ (HK.out.below HB1.out)).mono ?_
        rintro e w2 ⟨rfl, hb⟩
        have HB2 := Lib.hid (bch HB1.out hb HB1.out.size)
        obtain ⟨hc2, hf2⟩ := bcell hb
        have hz2 := Nat.lt_of_lt_of_le hz hb.size
        have HB2K := Lib.hid (set2 (heap_keep HB1K.out hb) (.int .i64 n) (.int .i64 dd))
        clear hb
        go_wp2_with fail
        refine (HD.out _ (HK.out.below HB2.out)).mono ?_
        rintro e w3 ⟨rfl, hw⟩
        obtain rfl : w2 = w3 := hw
        have HB3 := Lib.hid (below_set2 HB2.out (Nat.le_refl _) (.int .i64 n) (.int .i64 dd))
        go_wp2_with fail
        obtain ⟨m0, m1, _, _⟩ := cell2 (set2 HB2K.out (.int .i64 0) (.int .i64 0))
        exact bodyPost_ret (v := .tuple #[.agg #[.int .i64 0, .int .i64 0], .bool false]) (by simp [results, Tryd.results28, go_sem, m0, m1]) rfl ⟨rfl, below_set2 HB3.out (Nat.le_refl _) _ _⟩
      · cases hk : chk n dd with
        | false =>
          have HCh := Lib.hid (show ∀ W, Calls Tryd.prog 13 #[.agg #[.int .i64 n, .int .i64 dd]] W fun e w' => e = .returned (.bool false) ∧ Below W.heap.size W w' from fun W => by have := check_any n dd W; rw [hk] at this; exact this)
          rw [HG0.out (by simp [hk])]
          unfold getV
          clear hk
          go_enter Tryd.func28, Tryd.ntmps28
          go_wp2_with fail
          refine (HC.out _ (HK.out.below (below_alloc w _))).mono ?_
          rintro e w1 ⟨rfl, hb⟩
          have HB1 := Lib.hid (bch (below_alloc w _) hb (by simp))
          obtain ⟨c0, c1, hz⟩ := cells2 hb
          obtain ⟨f0, f1⟩ := frozen2 hb
          have HB1K := Lib.hid (block_new hb)
          clear hb
          go_wp2_with fail
          refine (HG.out _ (HK.out.below HB1.out)).mono ?_
          rintro e w2 ⟨rfl, hb⟩
          have HB2 := Lib.hid (bch HB1.out hb HB1.out.size)
          obtain ⟨hc2, hf2⟩ := bcell hb
          have hz2 := Nat.lt_of_lt_of_le hz hb.size
          have HB2K := Lib.hid (set2 (heap_keep HB1K.out hb) (.int .i64 n) (.int .i64 dd))
          clear hb
          go_wp2_with fail
          refine (HD.out _ (HK.out.below HB2.out)).mono ?_
          rintro e w3 ⟨rfl, hw⟩
          obtain rfl : w2 = w3 := hw
          have HB3 := Lib.hid (below_set2 HB2.out (Nat.le_refl _) (.int .i64 n) (.int .i64 dd))
          go_wp2_with fail
          refine (HCh.out _).mono ?_
          rintro e w4 ⟨rfl, hb⟩
          have HB4 := Lib.hid (bch HB3.out hb HB3.out.size)
          obtain ⟨hc4, hf4⟩ := bcell hb
          have hz4 : w.heap.size < w4.heap.size := by have := hb.size; simp at this; omega
          have HB4K := Lib.hid (heap_keep HB2K.out hb)
          clear hb
          go_wp2_with fail
          obtain ⟨m0, m1, _, _⟩ := cell2 (set2 HB4K.out (.int .i64 0) (.int .i64 0))
          exact bodyPost_ret (v := .tuple #[.agg #[.int .i64 0, .int .i64 0], .bool false]) (by simp [results, Tryd.results28, go_sem, m0, m1]) rfl ⟨rfl, below_set2 HB4.out (Nat.le_refl _) _ _⟩
        | true =>
          have HCh := Lib.hid (show ∀ W, Calls Tryd.prog 13 #[.agg #[.int .i64 n, .int .i64 dd]] W fun e w' => e = .returned (.bool true) ∧ Below W.heap.size W w' from fun W => by have := check_any n dd W; rw [hk] at this; exact this)
          rw [HG1.out ⟨rfl, rfl, hk⟩]
          unfold getV
          clear hk
          go_enter Tryd.func28, Tryd.ntmps28
          go_wp2_with fail
          refine (HC.out _ (HK.out.below (below_alloc w _))).mono ?_
          rintro e w1 ⟨rfl, hb⟩
          have HB1 := Lib.hid (bch (below_alloc w _) hb (by simp))
          obtain ⟨c0, c1, hz⟩ := cells2 hb
          obtain ⟨f0, f1⟩ := frozen2 hb
          have HB1K := Lib.hid (block_new hb)
          clear hb
          go_wp2_with fail
          refine (HG.out _ (HK.out.below HB1.out)).mono ?_
          rintro e w2 ⟨rfl, hb⟩
          have HB2 := Lib.hid (bch HB1.out hb HB1.out.size)
          obtain ⟨hc2, hf2⟩ := bcell hb
          have hz2 := Nat.lt_of_lt_of_le hz hb.size
          have HB2K := Lib.hid (set2 (heap_keep HB1K.out hb) (.int .i64 n) (.int .i64 dd))
          clear hb
          go_wp2_with fail
          refine (HD.out _ (HK.out.below HB2.out)).mono ?_
          rintro e w3 ⟨rfl, hw⟩
          obtain rfl : w2 = w3 := hw
          have HB3 := Lib.hid (below_set2 HB2.out (Nat.le_refl _) (.int .i64 n) (.int .i64 dd))
          go_wp2_with fail
          refine (HCh.out _).mono ?_
          rintro e w4 ⟨rfl, hb⟩
          have HB4 := Lib.hid (bch HB3.out hb HB3.out.size)
          obtain ⟨hc4, hf4⟩ := bcell hb
          have hz4 : w.heap.size < w4.heap.size := by have := hb.size; simp at this; omega
          have HB4K := Lib.hid (heap_keep HB2K.out hb)
          clear hb
          go_wp2_with fail
          obtain ⟨m0, m1, _, _⟩ := cell2 (set2 HB4K.out (.int .i64 n) (.int .i64 dd))
          exact bodyPost_ret (v := .tuple #[.agg #[.int .i64 n, .int .i64 dd], .bool true]) (by simp [results, Tryd.results28, go_sem, m0, m1]) rfl ⟨rfl, below_set2 HB4.out (Nat.le_refl _) _ _⟩
end Go.Proofs.YtnakicbdljffeaaDoor

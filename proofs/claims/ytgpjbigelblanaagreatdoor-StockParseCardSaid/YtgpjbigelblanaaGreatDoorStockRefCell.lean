/- The document's Number, Wide, head, tail of the warehouse's files: what they compute. -/
import Derived.Test.YtgpjbigelblanaaGreatDoorStockFirst
import Derived.Test.YtgpjbigelblanaaGreatDoorMoneyRefGet
namespace Go.Proofs.YtgpjbigelblanaaGreatDoor
open Go.RowKit Go.Maps Key Mon Sk

namespace Sk
def numI (s : List UInt8) (b : Int) : Int := if numB s 0 b = true then (getM s).1 else -1
theorem numI_ok {s : List UInt8} {a b : Int} (ha : a = 0 ∨ a = 1) (h : numB s a b = true) : numI s b = (getM s).1 ∧ a ≤ (getM s).1 ∧ (getM s).1 ≤ b := by
  unfold numB at h
  simp only [Bool.and_eq_true, decide_eq_true_eq] at h
  unfold numI numB
  rw [if_pos (by simp only [Bool.and_eq_true, decide_eq_true_eq]; exact ⟨⟨h.1.1, by omega⟩, h.2⟩)]
  exact ⟨rfl, h.1.2, h.2⟩
theorem numI_no {s : List UInt8} {b : Int} (h : numB s 0 b = false) : numI s b = -1 := by unfold numI; rw [if_neg (by rw [h]; decide)]
theorem numI_low {s : List UInt8} {b : Int} (h : numB s 1 b = false) : numI s b < 1 := by
  unfold numI
  split
  · rename_i h2
    unfold numB at h h2
    simp only [Bool.and_eq_true, decide_eq_true_eq] at h2
    rw [h2.1.1] at h
    simp only [Bool.true_and, Bool.and_eq_false_iff, decide_eq_false_iff_not] at h
    omega
  · omega
end Sk
set_option maxHeartbeats 1000000 in
theorem rnumber_any (s : ByteArray) (b : Int) (w : World) : Calls Tryz.prog 40 #[.string s, .int .i64 b] w fun e w' => e = .returned (.int .i64 (numI s.data.toList b)) ∧ Below w.heap.size w w' := by
  obtain ⟨x, y, hR⟩ : ∃ x y, getM s.data.toList = (x, y) := ⟨_, _, rfl⟩
  have HG := Lib.hid (refGet_any s w)
  have hI : numI s.data.toList b = if (y && decide (0 ≤ x) && decide (x ≤ b)) = true then x else -1 := by unfold numI numB; rw [hR]
  rw [hR] at HG
  unfold pairV at HG
  rw [hI]
  obtain ⟨a, ha⟩ : ∃ a, (if (y && decide (0 ≤ x) && decide (x ≤ b)) = true then x else -1) = a := ⟨_, rfl⟩
  rw [ha]
  have HAA := Lib.hid ha
  clear hR hI ha
  cases y with
  | false =>
    have HI := Lib.hid (show a = -1 by rw [← HAA.out]; simp)
    go_enter Tryz.func40, Tryz.ntmps40
    go_wp2_with fail
    refine HG.out.mono ?_
    rintro e w1 ⟨rfl, hb⟩
    have HB := Lib.hid hb
    clear hb
    go_wp2_with fail
    go_ret
    exact ⟨by rw [HI.out]; rfl, HB.out⟩
  | true =>
    by_cases h1 : x < 0
    · have HI := Lib.hid (show a = -1 by rw [← HAA.out, if_neg (by simp; omega)])
      have q1 := decide_eq_true h1
      go_enter Tryz.func40, Tryz.ntmps40
      go_wp2_with fail
      refine HG.out.mono ?_
      rintro e w1 ⟨rfl, hb⟩
      have HB := Lib.hid hb
      clear hb
      go_wp2_with fail
      go_ret
      exact ⟨by rw [HI.out]; rfl, HB.out⟩
    · have q1 := decide_eq_false h1
      by_cases h2 : b < x
      · have HI := Lib.hid (show a = -1 by rw [← HAA.out, if_neg (by simp; omega)])
        have q2 := decide_eq_true h2
        go_enter Tryz.func40, Tryz.ntmps40
        go_wp2_with fail
        refine HG.out.mono ?_
        rintro e w1 ⟨rfl, hb⟩
        have HB := Lib.hid hb
        clear hb
        go_wp2_with fail
        go_ret
        exact ⟨by rw [HI.out]; rfl, HB.out⟩
      · have HI := Lib.hid (show a = x by rw [← HAA.out, if_pos (by simp; omega)])
        have q2 := decide_eq_false h2
        go_enter Tryz.func40, Tryz.ntmps40
        go_wp2_with fail
        refine HG.out.mono ?_
        rintro e w1 ⟨rfl, hb⟩
        have HB := Lib.hid hb
        clear hb
        go_wp2_with fail
        go_ret
        exact ⟨by rw [HI.out]; rfl, HB.out⟩
/-- How wide a row should be. -/
theorem rwide_any (A : Option Addr) (n c k : Nat) (w : World) (hn : n ≤ 1000000) (hk : k ≤ 1000) (m : Int) (hm : m = if n ≠ k then ((min n k + 1 : Nat) : Int) else 0) : Calls Tryz.prog 52 #[.slice A n c, .int .i64 (k : Int)] w fun e w' => e = .returned (.int .i64 m) ∧ w = w' := by
  by_cases h1 : n < k
  · have h1I : (n : Int) < k := by omega
    have HM := Lib.hid (show m = (n : Int) + 1 by rw [hm, if_pos (by omega)]; omega)
    clear hm h1
    go_enter Tryz.func52, Tryz.ntmps52
    go_wp2_with fail
    go_ret
    exact ⟨by rw [HM.out]; rfl, rfl⟩
  · have h1I : ¬ (n : Int) < k := by omega
    by_cases h2 : k < n
    · have h2I : (k : Int) < n := by omega
      have HM := Lib.hid (show m = (k : Int) + 1 by rw [hm, if_pos (by omega)]; omega)
      clear hm h1 h2
      go_enter Tryz.func52, Tryz.ntmps52
      go_wp2_with fail
      go_ret
      exact ⟨by rw [HM.out]; rfl, rfl⟩
    · have h2I : ¬ (k : Int) < n := by omega
      have HM := Lib.hid (show m = 0 by rw [hm, if_neg (by omega)])
      clear hm h1 h2
      go_enter Tryz.func52, Tryz.ntmps52
      go_wp2_with fail
      go_ret
      exact ⟨by rw [HM.out]; rfl, rfl⟩
def HeadR (r : Line) (e : Ending) : Prop := match Sk.first r with | .inl _ => e = .returned (.tuple #[.int .i64 0, .int .i64 0]) | .inr x => e = .returned (.tuple #[.int .i64 (x.1 : Int), .int .i64 (x.2 : Int)])
def TailR (r : Line) (many : Nat) (e : Ending) : Prop := match Sk.last r many with | none => e = .returned (.tuple #[.int .i64 0, .int .i64 0]) | some x => e = .returned (.tuple #[.int .i64 (x.1 : Int), .int .i64 (x.2 : Int)])
set_option linter.unusedSimpArgs false in
set_option linter.unusedVariables false in
set_option maxRecDepth 100000 in
set_option maxHeartbeats 2000000 in
theorem rhead_any (v : Value) (r : Line) (w : World) (hv : Strs w w.heap.size v r) (h0 : r ≠ []) (hl : r.length ≤ 1000000) : Calls Tryz.prog 39 #[v] w fun e w' => HeadR r e ∧ Below w.heap.size w w' := by
  obtain ⟨A, c, rfl⟩ := hv.shape
  obtain ⟨f0, hf0⟩ : ∃ f0, r[0]? = some f0 := ⟨_, List.getElem?_eq_getElem (List.length_pos_iff.2 h0)⟩
  have hlen : 0 < r.length := List.length_pos_iff.2 h0
  have hlenI : (0 : Int) < r.length := by omega
  have hhead : r.head? = some f0 := by rw [List.head?_eq_getElem?]; exact hf0
  obtain ⟨b, o, rfl, hbl, _⟩ := hv.at (Below.refl _ _) hf0
  have HW := Lib.hid (fun W k f (hb : Below w.heap.size w W) (hf : r[k]? = some f) => (show W.cell? ⟨b, o + k, none⟩ = some (.string ⟨f.toArray⟩) by obtain ⟨b', o', e, _, h⟩ := hv.at hb hf; cases e; exact h))
  clear hv h0
  have c0 := HW.out w 0 f0 (Below.refl _ _) hf0
  rw [Nat.add_zero] at c0
  clear hf0
  by_cases hh : f0 = wHead
  · subst hh
    have hq := text_eq (rfl : wHead = wHead)
    by_cases hl2 : r.length = 2
    · have hno : ¬ r.length ≠ 2 := by omega
      obtain ⟨f1, hf1⟩ : ∃ f1, r[1]? = some f1 := ⟨_, List.getElem?_eq_getElem (by omega)⟩
      have hlI : (1 : Int) < r.length := by omega
      have HWD := Lib.hid (fun W => rwide_any (some ⟨b, o, none⟩) r.length c 2 W (by omega) (by omega) 0 (by rw [if_neg hno]))
      have HN := Lib.hid (fun W => rnumber_any ⟨f1.toArray⟩ 1073741824 W)
      rw [show (⟨f1.toArray⟩ : ByteArray).data.toList = f1 by simp] at HN
      have c1 := HW.out w 1 f1 (Below.refl _ _) hf1
      cases hz : numB f1 1 1073741824 with
      | true =>
        obtain ⟨g1, g2, g3⟩ := numI_ok (.inr rfl) hz
        have hF := Lib.hid (show Sk.first r = .inl (getM f1).1 by unfold Sk.first; rw [if_neg (by rw [hhead]; simp), if_neg hno, List.getD_eq_getElem?_getD, hf1, Option.getD_some, hz, if_pos rfl])
        rw [g1] at HN
        obtain ⟨x, hx⟩ : ∃ x, (getM f1).1 = x := ⟨_, rfl⟩
        rw [hx] at HN g2
        have hx1 : ¬ x < 1 := by omega
        clear hno hf1 hhead hl2 hz g1 g3 hx g2
        go_enter Tryz.func39, Tryz.ntmps39
        go_wp2_with fail
        refine (HWD.out _).mono ?_
        rintro e w1 ⟨rfl, hb⟩; subst hb
        go_wp2_with fail
        refine (HN.out _).mono ?_
        rintro e w2 ⟨rfl, hb⟩
        have HB := Lib.hid hb
        clear hb
        go_wp2_with fail
        go_ret2
        exact ⟨by unfold HeadR; rw [hF.out]; rfl, HB.out⟩
      | false =>
        have g1 := numI_low hz
        have hF := Lib.hid (show Sk.first r = .inr (2, 3) by unfold Sk.first; rw [if_neg (by rw [hhead]; simp), if_neg hno, List.getD_eq_getElem?_getD, hf1, Option.getD_some, hz, if_neg (by decide)])
        obtain ⟨x, hx⟩ : ∃ x, numI f1 1073741824 = x := ⟨_, rfl⟩
        rw [hx] at HN g1
        clear hno hf1 hhead hl2 hz hx
        go_enter Tryz.func39, Tryz.ntmps39
        go_wp2_with fail
        refine (HWD.out _).mono ?_
        rintro e w1 ⟨rfl, hb⟩; subst hb
        go_wp2_with fail
        refine (HN.out _).mono ?_
        rintro e w2 ⟨rfl, hb⟩
        have HB := Lib.hid hb
        clear hb
        go_wp2_with fail
        go_ret2
        exact ⟨by unfold HeadR; rw [hF.out]; rfl, HB.out⟩
    · obtain ⟨m, hm⟩ : ∃ m : Int, m = ((min r.length 2 + 1 : Nat) : Int) := ⟨_, rfl⟩
      have HWD := Lib.hid (fun W => rwide_any (some ⟨b, o, none⟩) r.length c 2 W (by omega) (by omega) m (by rw [if_pos hl2]; exact hm))
      have hF := Lib.hid (show Sk.first r = .inr (min r.length 2 + 1, 1) by unfold Sk.first; rw [if_neg (by rw [hhead]; simp), if_pos hl2])
      have hm0 : 0 < m := by omega
      have HMM := Lib.hid hm
      clear hhead hl2 hm
      go_enter Tryz.func39, Tryz.ntmps39
      go_wp2_with fail
      refine (HWD.out _).mono ?_
      rintro e w1 ⟨rfl, hb⟩; subst hb
      go_wp2_with fail
      refine (HWD.out _).mono ?_
      rintro e w1 ⟨rfl, hb⟩; subst hb
      go_wp2_with fail
      go_ret2
      exact ⟨by unfold HeadR; rw [hF.out, HMM.out]; rfl, Below.refl _ _⟩
  · have hF := Lib.hid (show Sk.first r = .inr (1, 7) by unfold Sk.first; rw [if_pos (by rw [hhead]; simpa using hh)])
    have hq := text_ne hh
    unfold wHead at hq
    clear hh
    go_enter Tryz.func39, Tryz.ntmps39
    go_wp2_with fail
    go_ret2
    exact ⟨by unfold HeadR; rw [hF.out]; rfl, Below.refl _ _⟩
set_option linter.unusedSimpArgs false in
set_option linter.unusedVariables false in
set_option maxRecDepth 100000 in
set_option maxHeartbeats 2000000 in
theorem rtail_any (v : Value) (r : Line) (many : Nat) (w : World) (hv : Strs w w.heap.size v r) (hl : r.length ≤ 1000000) (hmany : many ≤ 1000000) : Calls Tryz.prog 41 #[v, .int .i64 (many : Int)] w fun e w' => TailR r many e ∧ Below w.heap.size w w' := by
  obtain ⟨A, c, rfl⟩ := hv.shape
  by_cases hl2 : r.length = 2
  · have hno : ¬ r.length ≠ 2 := by omega
    obtain ⟨f1, hf1⟩ : ∃ f1, r[1]? = some f1 := ⟨_, List.getElem?_eq_getElem (by omega)⟩
    have hlI : (1 : Int) < r.length := by omega
    obtain ⟨b, o, rfl, hbl, c1⟩ := hv.at (Below.refl _ _) hf1
    have HWD := Lib.hid (fun W => rwide_any (some ⟨b, o, none⟩) r.length c 2 W (by omega) (by omega) 0 (by rw [if_neg hno]))
    have HN := Lib.hid (refGet_any ⟨f1.toArray⟩ w)
    obtain ⟨x, y, hR⟩ : ∃ x y, getM f1 = (x, y) := ⟨_, _, rfl⟩
    have hF := Lib.hid (show Sk.last r many = if (y && decide (0 ≤ x)) = false then some (2, 3) else if x ≠ many then some (2, 4) else none by unfold Sk.last; rw [if_neg hno, List.getD_eq_getElem?_getD, hf1, Option.getD_some, hR])
    rw [show (⟨f1.toArray⟩ : ByteArray).data.toList = f1 by simp, hR] at HN
    unfold pairV at HN
    clear hR hno hf1 hl2 hv
    by_cases hy : (y && decide (0 ≤ x)) = true
    · obtain ⟨rfl, hx0⟩ : y = true ∧ 0 ≤ x := by simpa using hy
      have hx0' : ¬ x < 0 := by omega
      by_cases hxm : x = (many : Int)
      · have hq := bneF hxm
        have hFF := Lib.hid (show Sk.last r many = none by rw [hF.out, if_neg (by rw [hy]; decide), if_neg (by simpa using hxm)])
        clear hxm hy
        go_enter Tryz.func41, Tryz.ntmps41
        go_wp2_with fail
        refine (HWD.out _).mono ?_
        rintro e w1 ⟨rfl, hb⟩; subst hb
        go_wp2_with fail
        refine HN.out.mono ?_
        rintro e w2 ⟨rfl, hb⟩
        have HB := Lib.hid hb
        clear hb
        go_wp2_with fail
        go_ret2
        exact ⟨by unfold TailR; rw [hFF.out]; rfl, HB.out⟩
      · have hq := bneT hxm
        have hFF := Lib.hid (show Sk.last r many = some (2, 4) by rw [hF.out, if_neg (by rw [hy]; decide), if_pos hxm])
        clear hxm hy
        go_enter Tryz.func41, Tryz.ntmps41
        go_wp2_with fail
        refine (HWD.out _).mono ?_
        rintro e w1 ⟨rfl, hb⟩; subst hb
        go_wp2_with fail
        refine HN.out.mono ?_
        rintro e w2 ⟨rfl, hb⟩
        have HB := Lib.hid hb
        clear hb
        go_wp2_with fail
        go_ret2
        exact ⟨by unfold TailR; rw [hFF.out]; rfl, HB.out⟩
    · have hFF := Lib.hid (show Sk.last r many = some (2, 3) by rw [hF.out, if_pos (by simpa using hy)])
      have hsp : y = false ∨ (y = true ∧ x < 0) := by cases y <;> simp at hy ⊢; exact hy
      clear hy
      rcases hsp with rfl | ⟨rfl, hx0⟩
      all_goals
        go_enter Tryz.func41, Tryz.ntmps41
        go_wp2_with fail
        refine (HWD.out _).mono ?_
        rintro e w1 ⟨rfl, hb⟩; subst hb
        go_wp2_with fail
        refine HN.out.mono ?_
        rintro e w2 ⟨rfl, hb⟩
        have HB := Lib.hid hb
        clear hb
        go_wp2_with fail
        go_ret2
        exact ⟨by unfold TailR; rw [hFF.out]; rfl, HB.out⟩
  · obtain ⟨m, hm⟩ : ∃ m : Int, m = ((min r.length 2 + 1 : Nat) : Int) := ⟨_, rfl⟩
    have HWD := Lib.hid (fun W => rwide_any A r.length c 2 W (by omega) (by omega) m (by rw [if_pos hl2]; exact hm))
    have hF := Lib.hid (show Sk.last r many = some (min r.length 2 + 1, 1) by unfold Sk.last; rw [if_pos hl2])
    have hm0 : 0 < m := by omega
    have HMM := Lib.hid hm
    clear hl2 hm hv
    go_enter Tryz.func41, Tryz.ntmps41
    go_wp2_with fail
    refine (HWD.out _).mono ?_
    rintro e w1 ⟨rfl, hb⟩; subst hb
    go_wp2_with fail
    refine (HWD.out _).mono ?_
    rintro e w1 ⟨rfl, hb⟩; subst hb
    go_wp2_with fail
    go_ret2
    exact ⟨by unfold TailR; rw [hF.out, HMM.out]; rfl, Below.refl _ _⟩
end Go.Proofs.YtgpjbigelblanaaGreatDoor

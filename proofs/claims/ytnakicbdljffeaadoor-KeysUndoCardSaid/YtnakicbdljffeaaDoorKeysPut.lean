/- keys.Put and the document's: what they compute. -/
import Derived.Test.YtnakicbdljffeaaDoorKeysWalk2
import Derived.Test.YtnakicbdljffeaaDoorKeysWalk3
import Derived.Test.YtnakicbdljffeaaDoorMoneyRefPut
import Derived.Deep.RegionWith
import Derived.Deep.RegionHeld3
namespace Go.Proofs.YtnakicbdljffeaaDoor
open Go.RowKit Key Mon

theorem bcell {W w1 : World} (hb : Below W.heap.size W w1) : (∀ b o, b < W.heap.size → w1.cell? ⟨b, o, none⟩ = W.cell? ⟨b, o, none⟩) ∧ (∀ b o, b < W.heap.size → w1.frozen? ⟨b, o, none⟩ = W.frozen? ⟨b, o, none⟩) :=
  ⟨fun b o h => hb.cell (p := ⟨b, o, none⟩) h, fun b o h => hb.frozen (p := ⟨b, o, none⟩) h⟩
theorem belowD {B : Nat} {a b : World} (h : Below B a b) : Below B a b.drew := ⟨h.os, h.tape, h.output, h.size, h.block⟩
theorem cat3 (a b c : List UInt8) : Ending.returned (.string ((⟨a.toArray⟩ : ByteArray) ++ ⟨b.toArray⟩ ++ ⟨c.toArray⟩)) = .returned (.string ⟨(a ++ b ++ c).toArray⟩) := by rw [join_bytes, join_bytes]
theorem put_len {o d : Int} (h : chk o d = true) : (Lib.itoa o).length ≤ 2 := by
  have hc := chk_iff.1 h
  obtain ⟨u, rfl⟩ : ∃ u : Nat, o = (u : Int) := ⟨o.toNat, by omega⟩
  rw [Lib.itoa_nonneg]
  exact dec_len 1 u (by omega)

set_option maxHeartbeats 1000000 in
theorem putK_any (o d : Int) (w : World) (hK : KW w) : Calls Tryd.prog 15 #[.agg #[.int .i64 o, .int .i64 d]] w fun e w' => e = .returned (.string ⟨(putK o d).toArray⟩) ∧ Below w.heap.size w w' := by
  have HK := Lib.hid hK
  clear hK
  cases hc : chk o d with
  | false =>
    have HF := Lib.hid (putK_no (o := o) (d := d) (by rw [hc]; simp))
    have HC := Lib.hid (show ∀ W, Calls Tryd.prog 13 #[.agg #[.int .i64 o, .int .i64 d]] W fun e w' => e = .returned (.bool false) ∧ Below W.heap.size W w' from fun W => by have := check_any o d W; rw [hc] at this; exact this)
    clear hc
    go_enter Tryd.func15, Tryd.ntmps15
    go_wp2_with fail
    refine (HC.out _).mono ?_
    rintro e w1 ⟨rfl, hb⟩
    have HB := Lib.hid (bch (below_alloc w _) hb (by simp))
    clear hb
    go_wp2_with fail
    go_ret
    exact ⟨by rw [HF.out]; rfl, HB.out⟩
  | true =>
    have HF := Lib.hid (show putK o d = Lib.itoa o ++ [45] ++ wordL d by unfold putK; rw [if_pos hc, List.append_assoc]; rfl)
    have HC := Lib.hid (show ∀ W, Calls Tryd.prog 13 #[.agg #[.int .i64 o, .int .i64 d]] W fun e w' => e = .returned (.bool true) ∧ Below W.heap.size W w' from fun W => by have := check_any o d W; rw [hc] at this; exact this)
    have HP := Lib.hid (fun W (h : KW W) => put_any o W (chk_in hc) h.mw)
    have HW := Lib.hid (fun W (h : KW W) => word_any d W h)
    have hl1 := put_len hc
    have hl2 := wordL_len d
    rw [HF.out]
    clear hc
    generalize Lib.itoa o = L1 at HP hl1 ⊢
    generalize wordL d = L2 at HW hl2 ⊢
    go_enter Tryd.func15, Tryd.ntmps15
    go_wp2_with fail
    refine (HC.out _).mono ?_
    rintro e w1 ⟨rfl, hb⟩
    have HB := Lib.hid (bch (below_alloc w _) hb (by simp))
    obtain ⟨c0, c1, hz⟩ := cells2 hb
    have HPq := Lib.hid (fun W (hW : Below w1.heap.size w1 W) => (HP.out W ((HK.out.below HB.out).below hW)).mono fun e w' (h : _ ∧ Below W.heap.size W w') => And.intro h.1 (bch hW h.2 hW.size))
    have HWq := Lib.hid (fun W (hW : Below w1.heap.size w1 W) => (HW.out W ((HK.out.below HB.out).below hW)).mono fun e w' (h : _ ∧ Below W.heap.size W w') => And.intro h.1 (bch hW h.2 hW.size))
    clear hb
    go_wp2_with fail
    go_region_with (first
      | (go_at_call 26; refine (HPq.out _ (by first | exact Below.refl _ _ | exact belowD (Below.refl _ _) | exact Hid.out (by assumption) | exact belowD (Hid.out (by assumption)))).mono ?_; rintro e wa ⟨rfl, hb⟩; obtain ⟨hca, hfa⟩ := bcell hb; have HBa := Lib.hid hb; clear hb)
      | (go_at_call 11; refine (HWq.out _ (by first | exact Below.refl _ _ | exact belowD (Below.refl _ _) | exact Hid.out (by assumption) | exact belowD (Hid.out (by assumption)))).mono ?_; rintro e wb ⟨rfl, hb⟩; obtain ⟨hcb, hfb⟩ := bcell hb; have HBb := Lib.hid hb; clear hb))
    all_goals go_wp2_with fail
    all_goals go_ret
    all_goals first
      | exact ⟨cat3 L1 [45] L2, bch HB.out HBb.out HB.out.size⟩
      | exact ⟨cat3 L1 [45] L2, bch HB.out HBa.out HB.out.size⟩

set_option maxHeartbeats 1000000 in
theorem refPutK_any (o d : Int) (w : World) : Calls Tryd.prog 16 #[.agg #[.int .i64 o, .int .i64 d]] w fun e w' => e = .returned (.string ⟨(putK o d).toArray⟩) ∧ Below w.heap.size w w' := by
  cases hc : chk o d with
  | false =>
    have HF := Lib.hid (putK_no (o := o) (d := d) (by rw [hc]; simp))
    have HC := Lib.hid (show ∀ W, Calls Tryd.prog 14 #[.agg #[.int .i64 o, .int .i64 d]] W fun e w' => e = .returned (.bool false) ∧ Below W.heap.size W w' from fun W => by have := refCheck_any o d W; rw [hc] at this; exact this)
    clear hc
    go_enter Tryd.func16, Tryd.ntmps16
    go_wp2_with fail
    refine (HC.out _).mono ?_
    rintro e w1 ⟨rfl, hb⟩
    have HB := Lib.hid (bch (below_alloc w _) hb (by simp))
    clear hb
    go_wp2_with fail
    go_ret
    exact ⟨by rw [HF.out]; rfl, HB.out⟩
  | true =>
    have HF := Lib.hid (show putK o d = Lib.itoa o ++ [45] ++ wordL d by unfold putK; rw [if_pos hc, List.append_assoc]; rfl)
    have HC := Lib.hid (show ∀ W, Calls Tryd.prog 14 #[.agg #[.int .i64 o, .int .i64 d]] W fun e w' => e = .returned (.bool true) ∧ Below W.heap.size W w' from fun W => by have := refCheck_any o d W; rw [hc] at this; exact this)
    have HP := Lib.hid (fun W => refPut_any o W (chk_in hc))
    have HW := Lib.hid (fun W => refWord_any d W)
    have hl1 := put_len hc
    have hl2 := wordL_len d
    rw [HF.out]
    clear hc
    generalize Lib.itoa o = L1 at HP hl1 ⊢
    generalize wordL d = L2 at HW hl2 ⊢
    go_enter Tryd.func16, Tryd.ntmps16
    go_wp2_with fail
    refine (HC.out _).mono ?_
    rintro e w1 ⟨rfl, hb⟩
    have HB := Lib.hid (bch (below_alloc w _) hb (by simp))
    obtain ⟨c0, c1, hz⟩ := cells2 hb
    have HPq := Lib.hid (fun W (hW : Below w1.heap.size w1 W) => (HP.out W).mono fun e w' (h : _ ∧ Below W.heap.size W w') => And.intro h.1 (bch hW h.2 hW.size))
    have HWq := Lib.hid (fun W (hW : Below w1.heap.size w1 W) => (HW.out W).mono fun e w' (h : _ ∧ Below W.heap.size W w') => And.intro h.1 (bch hW h.2 hW.size))
    clear hb
    go_wp2_with fail
    go_region_with (first
      | (go_at_call 27; refine (HPq.out _ (by first | exact Below.refl _ _ | exact belowD (Below.refl _ _) | exact Hid.out (by assumption) | exact belowD (Hid.out (by assumption)))).mono ?_; rintro e wa ⟨rfl, hb⟩; obtain ⟨hca, hfa⟩ := bcell hb; have HBa := Lib.hid hb; clear hb)
      | (go_at_call 12; refine (HWq.out _ (by first | exact Below.refl _ _ | exact belowD (Below.refl _ _) | exact Hid.out (by assumption) | exact belowD (Hid.out (by assumption)))).mono ?_; rintro e wb ⟨rfl, hb⟩; obtain ⟨hcb, hfb⟩ := bcell hb; have HBb := Lib.hid hb; clear hb))
    all_goals go_wp2_with fail
    all_goals go_ret
    all_goals first
      | exact ⟨cat3 L1 [45] L2, bch HB.out HBb.out HB.out.size⟩
      | exact ⟨cat3 L1 [45] L2, bch HB.out HBa.out HB.out.size⟩
end Go.Proofs.YtnakicbdljffeaaDoor

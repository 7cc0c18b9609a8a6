/- The document's differences in order: lay. -/
import Derived.Test.YtlkncmpengpbiaaGreatDoorMatchSpec
import Derived.Test.YtlkncmpengpbiaaGreatDoorTurn
import Derived.StillTailTactics
import Derived.BigQuiet
import Derived.Test.YtlkncmpengpbiaaGreatDoorShort
namespace Go.Proofs.YtlkncmpengpbiaaGreatDoor
open Go.RowKit Go.Maps Key Ma
set_option linter.unusedSimpArgs false
set_option linter.unusedVariables false
set_option maxRecDepth 100000
set_option maxHeartbeats 4000000

abbrev tDiff : TypeId := 189
abbrev tDiffR : TypeId := 188
abbrev tDiffRs : TypeId := 146
def encD (x : D3) : List Value := [.int .i64 x.1.1, .int .i64 x.1.2, .int .i64 x.2]
theorem encD_len (x : D3) : (encD x).length = 3 := rfl
theorem encD_one (x : D3) : ∀ u ∈ encD x, u.oneCell' = true := by intro u hu; simp [encD] at hu; rcases hu with rfl | rfl | rfl <;> rfl
theorem diffR_info : (Tryz.prog.info? tDiffR).map (fun i => (i.zero, i.size, i.bytes)) = some (some (.agg #[.int .i64 0, .int .i64 0, .int .i64 0]), 3, 24) := by kernel_rfl
theorem diff_info : (Tryz.prog.info? tDiff).map (fun i => (i.zero, i.size, i.bytes)) = some (some (.agg #[.int .i64 0, .int .i64 0, .int .i64 0]), 3, 24) := by kernel_rfl
/-- A row of the document's differences, of the call's own. -/
def RDs (w : World) (B : Nat) (v : Value) (l : List D3) : Prop := w.ownsRow B tDiffR 3 v l.length (l.flatMap encD)
theorem RDs.below {w w' : World} {B : Nat} {v : Value} {l : List D3} (h : RDs w B v l) (hb : Below w.heap.size w w') : RDs w' B v l := own_keep h hb
theorem RDs.nil (w : World) (B : Nat) : RDs w B (.slice none 0 0) [] := World.ownsRow_nil _ _ _ _
theorem RDs.shape {w : World} {B : Nat} {v : Value} {l : List D3} (h : RDs w B v l) : ∃ A c, v = .slice A l.length c := by
 rcases own_ptr h with ⟨rfl, e⟩ | ⟨g, c, rfl, _⟩
 ·exact ⟨none, 0, by rw [e]⟩
 ·exact ⟨_, _, rfl⟩
theorem src_takeK {α : Type} {enc : α → List Value} {z : Nat} {W : World} {B : Nat} {e : TypeId} {l : List α} (hz : ∀ x, (enc x).length = z) (h0 : 0 < z) (h1 : ∀ x, ∀ u ∈ enc x, u.oneCell' = true) {g c : Nat} (h : W.ownsRow B e z (.slice (some ⟨g, 0, none⟩) l.length c) l.length (l.flatMap enc)) {k : Nat} (hk : k ≤ l.length) :
  SrcL W (.slice (some ⟨g, 0, none⟩) k c) k z ((l.take k).flatMap enc) := by
 refine ⟨by rw [flat_len hz, List.length_take]; congr 1; omega, fun u hu => ?_, .inr ⟨_, _, rfl, fun j x hj => ?_⟩⟩
 ·obtain ⟨x, _, hx⟩ := List.mem_flatMap.1 hu
  exact h1 x u hx
 ·have hjl := (List.getElem?_eq_some_iff.1 hj).1
  rw [flat_len hz, List.length_take] at hjl
  have hlt : j < k * z := by rw [show min k l.length = k by omega] at hjl; exact hjl
  have hjk : j / z < k := Nat.div_lt_of_lt_mul (by rw [Nat.mul_comm]; exact hlt)
  have hlt2 : j < l.length * z := Nat.lt_of_lt_of_le hlt (Nat.mul_le_mul_right _ hk)
  rw [Addr.add_lit, Nat.zero_add, h.cellAt _ hlt2, flat_get hz h0]
  rw [flat_get hz h0, List.getElem?_take, if_pos hjk] at hj
  exact hj
theorem take_drop_less {x : D3} : ∀ {l : List D3} (k : Nat), (∀ y ∈ l.take k, lessD y x = true) → (∀ y, l[k]? = some y → lessD y x = false) → layD l x = l.take k ++ x :: l.drop k
 | [], k, _, _ => by simp [layD]
 | y :: l, 0, _, h => by
  have := h y rfl
  simp [layD, this]
 | y :: l, k + 1, h1, h2 => by
  have hy := h1 y (by simp)
  have := take_drop_less (x := x) (l := l) k (fun z hz => h1 z (by simp [hz])) (fun z hz => h2 z (by simpa using hz))
  unfold layD at this ⊢
  simp only [List.takeWhile_cons, List.dropWhile_cons, hy, if_true, List.cons_append, this, List.take_succ_cons, List.drop_succ_cons]
theorem held3 {wz W : World} {q : Nat} {x0 x1 x2 : Value} {T : TypeId} (h : wz.heap[q]? = some (.cells #[x0, x1, x2] T (0, 0))) (hb : Below wz.heap.size wz W) :
  Hid (Below wz.heap.size wz W) ∧ W.cell? ⟨q, 0, none⟩ = some x0 ∧ W.cell? ⟨q, 1, none⟩ = some x1 ∧ W.cell? ⟨q, 2, none⟩ = some x2 :=
 ⟨hb, cell3c ((hb.block _ (heap_lt h)).trans h)⟩

theorem lay_any (w : World) (B : Nat) (v : Value) (S : List D3) (o d t : Int) (h : RDs w B v S) (hSl : S.length < 10000) (hB : B ≤ w.heap.size) :
  Calls Tryz.prog 158 #[v, .agg #[.int .i64 o, .int .i64 d, .int .i64 t]] w fun e w' => ∃ v', e = .returned v' ∧ RDs w' B v' (layD S ((o, d), t)) ∧ Below w.heap.size w w' := by
 obtain ⟨i0, hi, hz0, hz1, hz2⟩ := info_parts diffR_info
 obtain ⟨A', c', rfl⟩ := h.shape
 have HB2 := Hd (below_alloc w (.cells #[.int .i64 o, .int .i64 d, .int .i64 t] tDiffR))
 have HK2 := Hd (heap_new w (.cells #[.int .i64 o, .int .i64 d, .int .i64 t] tDiffR))
 have HS := Hd (h.below HB2.out)
 clear h
 go_enter Tryz.func158, Tryz.ntmps158
 go_wp2_with fail
 generalize hw2 : w.alloc (.cells #[.int .i64 o, .int .i64 d, .int .i64 t] tDiffR) = w2 at HB2 HK2 HS ⊢
 clear hw2
 have hsz2 := HB2.out.size
 have hkw2 := heap_lt HK2.out
 go_loopw [5] (fun i wr => ∃ k : Nat, i = .int .i64 k ∧ k ≤ S.length ∧ Hid (∀ y ∈ S.take k, lessD y ((o, d), t) = true) ∧ Hid (Below w2.heap.size w2 wr)) (fun i _ => S.length - (intOf i).toNat)
 case atStart => exact ⟨0, rfl, Nat.zero_le _, by intro y hy; simp at hy, Below.refl _ _⟩
 case round =>
  obtain ⟨k, rfl, hk, HLT, HBK⟩ := hrel
  have HSK := Hd (HS.out.below HBK.out)
  have HKK := Hd ((HBK.out.block _ hkw2).trans HK2.out)
  obtain ⟨e0, e1, e2⟩ := cell3c HKK.out
  by_cases hkl : k < S.length
  ·obtain ⟨x, hx⟩ : ∃ x, S[k]? = some x := ⟨_, List.getElem?_eq_getElem hkl⟩
   obtain ⟨_, h0⟩ | ⟨g, c2, e2', hgB, hgl, hlc⟩ := own_ptr HS.out
   ·omega
   injection e2' with e2' e3' e4'; subst e2'; subst e4'
   have c0 := own_cellK encD_len (by decide) HSK.out hx 0 (by decide)
   have c1 := own_cellK encD_len (by decide) HSK.out hx 1 (by decide)
   obtain ⟨⟨o', d'⟩, t'⟩ := x
   simp only [encD, List.getElem?_cons_zero, List.getElem?_cons_succ] at c0 c1
   rw [Nat.add_zero] at c0
   have hlt : (k : Int) < S.length := by omega
   have hk0 : (0 : Int) ≤ k := by omega
   have HX := Hd hx
   clear hx
   go_wp2_with fail
   refine wp_region_still_tail 12 (by kernel_rfl) (by kernel_rfl) ?_
   simp only [List.take_succ_cons, List.take_zero, List.drop_succ_cons, List.drop_zero]
   iterate 12 still_step
   refine wpStill_nil ?_
   change wpList _ _ _ _ _ wr.drew
   go_wp2_with fail
   refine (refLess_any o' d' o d _).mono ?_
   rintro e w3 ⟨rfl, hb3⟩
   have HB3 := Hd (bch (below_drew1 HBK.out) hb3 HBK.out.size)
   clear hb3
   cases hls : lessB o' d' o d with
   | true =>
    go_wp2_with fail
    go_roundw
    case rel => exact ⟨k + 1, by go_num, by omega, fun y hy => by rw [List.take_add_one, HX.out] at hy; rcases List.mem_append.1 hy with hy | hy; exact HLT.out y hy; simp at hy; subst hy; exact hls, HB3.out⟩
    case measure => simp [intOf]; omega
   | false =>
    have HZ := Hd (take_drop_less (x := ((o, d), t)) (l := S) k HLT.out (fun y hy => by rw [HX.out] at hy; injection hy with hy; subst hy; exact hls))
    go_wp2_with fail
    have HSZ := Hd (HS.out.below HB3.out)
    have HKZ := Hd ((HB3.out.block _ hkw2).trans HK2.out)
    have HBZ := Hd (bch HB2.out HB3.out HB2.out.size)
    have HTK := Hd (fun W (hW : Below w3.heap.size w3 W) => src_takeK (k := k) encD_len (by decide) encD_one (HSZ.out.below hW) (by omega))
    have HDR := Hd (fun W (hW : Below w3.heap.size w3 W) => src_dropK (k := k) (c' := c' - k) encD_len (by decide) encD_one (HSZ.out.below hW) (by omega))
    clear HSK HKK HBK HB3 HX HLT e0 e1 e2 c0 c1 hls
    generalize w3 = wz at HSZ HKZ HBZ HTK HDR ⊢
    obtain ⟨e0, e1, e2⟩ := cell3c HKZ.out
    go_region_held_law (fun w' => Hid (Below wz.heap.size wz w') ∧ w'.cell? ⟨w.heap.size, 0, none⟩ = some (.int .i64 o) ∧ w'.cell? ⟨w.heap.size, 1, none⟩ = some (.int .i64 d) ∧ w'.cell? ⟨w.heap.size, 2, none⟩ = some (.int .i64 t))
     (first
      | assumption
      | exact held3 HKZ.out (below_drew1 (Below.refl _ _))
      | exact held3 HKZ.out (Below.grown (Hid.out (And.left (by assumption))) hg32 (Below.size (Hid.out (And.left (by assumption)))) (fun j hj => (World.ownsRow.lt ho28 _ hj).1))
      | exact held3 HKZ.out (Below.grown (Hid.out (And.left (by assumption))) hg28 (Below.size (Hid.out (And.left (by assumption)))) (fun j hj => (World.ownsRow.lt ho25 _ hj).1))
      | exact held3 HKZ.out (Below.grown (Hid.out (And.left (by assumption))) hg25 (Below.size (Hid.out (And.left (by assumption)))) (fun j hj => by cases hj))
      | exact held3 HKZ.out (Below.alloc (Hid.out (And.left (by assumption))) (Below.size (Hid.out (And.left (by assumption)))) _))
     (first
      | (refine step_append_any _ rfl (.const (.slice none 0 0)) (.tmp 24) tDiffRs rfl wz.heap.size tDiffR i0 (.agg #[.int .i64 0, .int .i64 0, .int .i64 0]) 3 24 Tryz.underlying146 hi hz0 hz1 hz2 rfl (by decide) (.slice none 0 0) 0 [] rfl (World.ownsRow_nil _ _ _ _) k ((S.take k).flatMap encD) (HTK.out _ (Hid.out (And.left (by assumption)))) (by unfold maxLen; omega) (by omega) (Below.size (Hid.out (And.left (by assumption)))) ?_; intro v25 W25 ho25 hg25 hat25)
      | (refine step_append_any _ rfl (.tmp 25) (.tmp 27) tDiffRs rfl wz.heap.size tDiffR i0 (.agg #[.int .i64 0, .int .i64 0, .int .i64 0]) 3 24 Tryz.underlying146 hi hz0 hz1 hz2 rfl (by decide) v25 _ _ rfl (World.ownsRow.alloc ho25 _) 1 (encD ((o, d), t)) (src_blk (xs := encD ((o, d), t)) (heap_new _ _) (encD_one _)) (by unfold maxLen; omega) (by omega) (Below.size (Hid.out (And.left (by assumption)))) ?_; intro v28 W28 ho28 hg28 hat28)
      | (refine step_append_any _ rfl (.tmp 25) (.tmp 27) tDiffRs rfl wz.heap.size tDiffR i0 (.agg #[.int .i64 0, .int .i64 0, .int .i64 0]) 3 24 Tryz.underlying146 hi hz0 hz1 hz2 rfl (by decide) v25 _ _ rfl ho25 1 (encD ((o, d), t)) (src_blk (xs := encD ((o, d), t)) ((hg25.block _ (by simp) (by simp [Value.ownBlock])).trans (heap_new _ _)) (encD_one _)) (by unfold maxLen; omega) (by omega) (Below.size (Hid.out (And.left (by assumption)))) ?_; intro v28 W28 ho28 hg28 hat28)
      | (refine step_append_any _ rfl (.tmp 28) (.tmp 31) tDiffRs rfl wz.heap.size tDiffR i0 (.agg #[.int .i64 0, .int .i64 0, .int .i64 0]) 3 24 Tryz.underlying146 hi hz0 hz1 hz2 rfl (by decide) v28 _ _ rfl ho28 (S.length - k) ((S.drop k).flatMap encD) (HDR.out _ (Hid.out (And.left (by assumption)))) (by unfold maxLen; omega) (by omega) (Below.size (Hid.out (And.left (by assumption)))) ?_; intro v32 W32 ho32 hg32 hat32))
    all_goals
     have HO := Hd ho32
     have HX32 : Hid (Below wz.heap.size wz W32) := And.left (by assumption)
     clear ho25 hg25 hat25 ho28 hg28 hat28 ho32 hg32 hat32
     go_wp2_with fail
     all_goals
      go_ret
      refine ⟨_, rfl, ?_, bch HBZ.out HX32.out HBZ.out.size⟩
      rw [HZ.out]
      refine own_weak (B := wz.heap.size) ?_ (Nat.le_trans hB HBZ.out.size)
      have ho := HO.out
      rw [show 0 + k + 1 + (S.length - k) = (S.take k ++ ((o, d), t) :: S.drop k).length by first | (simp; done) | (simp; omega)] at ho
      simpa [encD, List.append_assoc] using ho
  ·have hke : k = S.length := by omega
   have hd : decide ((k : Int) < (S.length : Int)) = false := by simp; omega
   have HZ := Hd (take_drop_less (x := ((o, d), t)) (l := S) k HLT.out (fun y hy => by rw [List.getElem?_eq_none (by omega)] at hy; cases hy))
   rcases own_ptr HS.out with ⟨es, e0'⟩ | ⟨g, c2, es, hgB, hgl, hcn⟩
   ·injection es with es1 es2 es3
    obtain rfl := List.eq_nil_of_length_eq_zero e0'
    obtain rfl : k = 0 := by omega
    subst es1; subst es3
    clear hke hd hkl hk
    go_wp2_with fail
    go_quiet (fail)
    go_wp2_with fail
    have HB3 := Hd (show Below w2.heap.size w2 (wr.drewN nq) from ⟨HBK.out.os, HBK.out.tape, HBK.out.output, HBK.out.size, HBK.out.block⟩)
    have HSZ := Hd (HS.out.below HB3.out)
    have HKZ := Hd ((HB3.out.block _ hkw2).trans HK2.out)
    have HBZ := Hd (bch HB2.out HB3.out HB2.out.size)
    have HTK := Hd (fun W (hW : Below (wr.drewN nq).heap.size (wr.drewN nq) W) => (⟨rfl, by simp, .inl ⟨rfl, rfl⟩⟩ : SrcL W (.slice none 0 0) 0 3 ((([] : List D3).take 0).flatMap encD)))
    have HDR := Hd (fun W (hW : Below (wr.drewN nq).heap.size (wr.drewN nq) W) => (⟨rfl, by simp, .inl ⟨rfl, rfl⟩⟩ : SrcL W (.slice none 0 0) 0 3 ((([] : List D3).drop 0).flatMap encD)))
    clear HSK HKK HBK HB3 HLT e0 e1 e2
    generalize wr.drewN nq = wz at HSZ HKZ HBZ HTK HDR ⊢
    obtain ⟨e0, e1, e2⟩ := cell3c HKZ.out
    go_region_held_law (fun w' => Hid (Below wz.heap.size wz w') ∧ w'.cell? ⟨w.heap.size, 0, none⟩ = some (.int .i64 o) ∧ w'.cell? ⟨w.heap.size, 1, none⟩ = some (.int .i64 d) ∧ w'.cell? ⟨w.heap.size, 2, none⟩ = some (.int .i64 t))
     (first
      | assumption
      | exact held3 HKZ.out (below_drew1 (Below.refl _ _))
      | exact held3 HKZ.out (Below.grown (Hid.out (And.left (by assumption))) hg32 (Below.size (Hid.out (And.left (by assumption)))) (fun j hj => (World.ownsRow.lt ho28 _ hj).1))
      | exact held3 HKZ.out (Below.grown (Hid.out (And.left (by assumption))) hg28 (Below.size (Hid.out (And.left (by assumption)))) (fun j hj => (World.ownsRow.lt ho25 _ hj).1))
      | exact held3 HKZ.out (Below.grown (Hid.out (And.left (by assumption))) hg25 (Below.size (Hid.out (And.left (by assumption)))) (fun j hj => by cases hj))
      | exact held3 HKZ.out (Below.alloc (Hid.out (And.left (by assumption))) (Below.size (Hid.out (And.left (by assumption)))) _))
     (first
      | (refine step_append_any _ rfl (.const (.slice none 0 0)) (.tmp 24) tDiffRs rfl wz.heap.size tDiffR i0 (.agg #[.int .i64 0, .int .i64 0, .int .i64 0]) 3 24 Tryz.underlying146 hi hz0 hz1 hz2 rfl (by decide) (.slice none 0 0) 0 [] rfl (World.ownsRow_nil _ _ _ _) 0 ((([] : List D3).take 0).flatMap encD) (HTK.out _ (Hid.out (And.left (by assumption)))) (by unfold maxLen; omega) (by omega) (Below.size (Hid.out (And.left (by assumption)))) ?_; intro v25 W25 ho25 hg25 hat25)
      | (refine step_append_any _ rfl (.tmp 25) (.tmp 27) tDiffRs rfl wz.heap.size tDiffR i0 (.agg #[.int .i64 0, .int .i64 0, .int .i64 0]) 3 24 Tryz.underlying146 hi hz0 hz1 hz2 rfl (by decide) v25 _ _ rfl (World.ownsRow.alloc ho25 _) 1 (encD ((o, d), t)) (src_blk (xs := encD ((o, d), t)) (heap_new _ _) (encD_one _)) (by unfold maxLen; omega) (by omega) (Below.size (Hid.out (And.left (by assumption)))) ?_; intro v28 W28 ho28 hg28 hat28)
      | (refine step_append_any _ rfl (.tmp 25) (.tmp 27) tDiffRs rfl wz.heap.size tDiffR i0 (.agg #[.int .i64 0, .int .i64 0, .int .i64 0]) 3 24 Tryz.underlying146 hi hz0 hz1 hz2 rfl (by decide) v25 _ _ rfl ho25 1 (encD ((o, d), t)) (src_blk (xs := encD ((o, d), t)) ((hg25.block _ (by simp) (by simp [Value.ownBlock])).trans (heap_new _ _)) (encD_one _)) (by unfold maxLen; omega) (by omega) (Below.size (Hid.out (And.left (by assumption)))) ?_; intro v28 W28 ho28 hg28 hat28)
      | (refine step_append_any _ rfl (.tmp 28) (.tmp 31) tDiffRs rfl wz.heap.size tDiffR i0 (.agg #[.int .i64 0, .int .i64 0, .int .i64 0]) 3 24 Tryz.underlying146 hi hz0 hz1 hz2 rfl (by decide) v28 _ _ rfl ho28 (0) ((([] : List D3).drop 0).flatMap encD) (HDR.out _ (Hid.out (And.left (by assumption)))) (by unfold maxLen; omega) (by omega) (Below.size (Hid.out (And.left (by assumption)))) ?_; intro v32 W32 ho32 hg32 hat32))
    all_goals
     have HO := Hd ho32
     have HX32 : Hid (Below wz.heap.size wz W32) := And.left (by assumption)
     clear ho25 hg25 hat25 ho28 hg28 hat28 ho32 hg32 hat32
     go_wp2_with fail
     all_goals
      go_ret
      refine ⟨_, rfl, ?_, bch HBZ.out HX32.out HBZ.out.size⟩
      rw [HZ.out]
      refine own_weak (B := wz.heap.size) ?_ (Nat.le_trans hB HBZ.out.size)
      have ho := HO.out
      rw [show 0 + 0 + 1 + (0) = (([] : List D3).take 0 ++ ((o, d), t) :: ([] : List D3).drop 0).length by first | (simp; done) | (simp; omega)] at ho
      simpa [encD, List.append_assoc] using ho
   ·injection es with es1 es2 es3
    subst es1; subst es3
    clear hke
    have hk0 : (0 : Int) ≤ k := by omega
    have hkc : (k : Int) ≤ c' := by omega
    have hkS : (k : Int) ≤ S.length := by omega
    have hSc : (S.length : Int) ≤ c' := by omega
    go_wp2_with fail
    go_quiet (fail)
    go_wp2_with fail
    have HB3 := Hd (show Below w2.heap.size w2 (wr.drewN nq) from ⟨HBK.out.os, HBK.out.tape, HBK.out.output, HBK.out.size, HBK.out.block⟩)
    have HSZ := Hd (HS.out.below HB3.out)
    have HKZ := Hd ((HB3.out.block _ hkw2).trans HK2.out)
    have HBZ := Hd (bch HB2.out HB3.out HB2.out.size)
    have HTK := Hd (fun W (hW : Below (wr.drewN nq).heap.size (wr.drewN nq) W) => src_takeK (k := k) encD_len (by decide) encD_one (HSZ.out.below hW) (by omega))
    have HDR := Hd (fun W (hW : Below (wr.drewN nq).heap.size (wr.drewN nq) W) => src_dropIf (k := k) encD_len (by decide) encD_one (HSZ.out.below hW) (by omega) (by omega))
    clear HSK HKK HBK HB3 HLT e0 e1 e2
    generalize wr.drewN nq = wz at HSZ HKZ HBZ HTK HDR ⊢
    obtain ⟨e0, e1, e2⟩ := cell3c HKZ.out
    go_region_held_law (fun w' => Hid (Below wz.heap.size wz w') ∧ w'.cell? ⟨w.heap.size, 0, none⟩ = some (.int .i64 o) ∧ w'.cell? ⟨w.heap.size, 1, none⟩ = some (.int .i64 d) ∧ w'.cell? ⟨w.heap.size, 2, none⟩ = some (.int .i64 t))
     (first
      | assumption
      | exact held3 HKZ.out (below_drew1 (Below.refl _ _))
      | exact held3 HKZ.out (Below.grown (Hid.out (And.left (by assumption))) hg32 (Below.size (Hid.out (And.left (by assumption)))) (fun j hj => (World.ownsRow.lt ho28 _ hj).1))
      | exact held3 HKZ.out (Below.grown (Hid.out (And.left (by assumption))) hg28 (Below.size (Hid.out (And.left (by assumption)))) (fun j hj => (World.ownsRow.lt ho25 _ hj).1))
      | exact held3 HKZ.out (Below.grown (Hid.out (And.left (by assumption))) hg25 (Below.size (Hid.out (And.left (by assumption)))) (fun j hj => by cases hj))
      | exact held3 HKZ.out (Below.alloc (Hid.out (And.left (by assumption))) (Below.size (Hid.out (And.left (by assumption)))) _))
     (first
      | (refine step_append_any _ rfl (.const (.slice none 0 0)) (.tmp 24) tDiffRs rfl wz.heap.size tDiffR i0 (.agg #[.int .i64 0, .int .i64 0, .int .i64 0]) 3 24 Tryz.underlying146 hi hz0 hz1 hz2 rfl (by decide) (.slice none 0 0) 0 [] rfl (World.ownsRow_nil _ _ _ _) k ((S.take k).flatMap encD) (HTK.out _ (Hid.out (And.left (by assumption)))) (by unfold maxLen; omega) (by omega) (Below.size (Hid.out (And.left (by assumption)))) ?_; intro v25 W25 ho25 hg25 hat25)
      | (refine step_append_any _ rfl (.tmp 25) (.tmp 27) tDiffRs rfl wz.heap.size tDiffR i0 (.agg #[.int .i64 0, .int .i64 0, .int .i64 0]) 3 24 Tryz.underlying146 hi hz0 hz1 hz2 rfl (by decide) v25 _ _ rfl (World.ownsRow.alloc ho25 _) 1 (encD ((o, d), t)) (src_blk (xs := encD ((o, d), t)) (heap_new _ _) (encD_one _)) (by unfold maxLen; omega) (by omega) (Below.size (Hid.out (And.left (by assumption)))) ?_; intro v28 W28 ho28 hg28 hat28)
      | (refine step_append_any _ rfl (.tmp 25) (.tmp 27) tDiffRs rfl wz.heap.size tDiffR i0 (.agg #[.int .i64 0, .int .i64 0, .int .i64 0]) 3 24 Tryz.underlying146 hi hz0 hz1 hz2 rfl (by decide) v25 _ _ rfl ho25 1 (encD ((o, d), t)) (src_blk (xs := encD ((o, d), t)) ((hg25.block _ (by simp) (by simp [Value.ownBlock])).trans (heap_new _ _)) (encD_one _)) (by unfold maxLen; omega) (by omega) (Below.size (Hid.out (And.left (by assumption)))) ?_; intro v28 W28 ho28 hg28 hat28)
      | (refine step_append_any _ rfl (.tmp 28) (.tmp 31) tDiffRs rfl wz.heap.size tDiffR i0 (.agg #[.int .i64 0, .int .i64 0, .int .i64 0]) 3 24 Tryz.underlying146 hi hz0 hz1 hz2 rfl (by decide) v28 _ _ rfl ho28 (S.length - k) ((S.drop k).flatMap encD) (HDR.out _ (Hid.out (And.left (by assumption)))) (by unfold maxLen; omega) (by omega) (Below.size (Hid.out (And.left (by assumption)))) ?_; intro v32 W32 ho32 hg32 hat32))
    all_goals
     have HO := Hd ho32
     have HX32 : Hid (Below wz.heap.size wz W32) := And.left (by assumption)
     clear ho25 hg25 hat25 ho28 hg28 hat28 ho32 hg32 hat32
     go_wp2_with fail
     all_goals
      go_ret
      refine ⟨_, rfl, ?_, bch HBZ.out HX32.out HBZ.out.size⟩
      rw [HZ.out]
      refine own_weak (B := wz.heap.size) ?_ (Nat.le_trans hB HBZ.out.size)
      have ho := HO.out
      rw [show 0 + k + 1 + (S.length - k) = (S.take k ++ ((o, d), t) :: S.drop k).length by first | (simp; done) | (simp; omega)] at ho
      simpa [encD, List.append_assoc] using ho
end Go.Proofs.YtlkncmpengpbiaaGreatDoor

/- maps.Keys at keys of orders: what its iterator gives. -/
import Derived.Test.YtkmpagijdhhinaaDoorPartyMem
import Derived.Shelf.AbstractIn
import Derived.RangeFuncSeq
import Derived.RangeFuncGives
import Derived.Sort.MapsRangeIn
import Derived.WalkKit
import Derived.OwnWalkIn
import Derived.TacticsInMore
import Derived.RegionIn
import Derived.LoopNIn
import Derived.LoopIn
import Derived.RangeFuncNested
import Derived.RangeFuncBound
import Derived.RangeFuncCalls
import Derived.RangeFuncLeaves
import Derived.Shelf.Abstract
import Derived.Maps.AppendAt
import Derived.Shelf.SlIter.Collect
namespace Go.Proofs.YtkmpagijdhhinaaDoor
open Go.RowKit Go.Maps Go.Shelf Key

abbrev fKeysIt : Nat := 60
set_option maxRecDepth 100000 in
set_option maxHeartbeats 1000000 in
theorem keysIt_in (n : Nat) (hn : 1 ≤ n) (l Bm b : Nat) (E : List ((Int × Int) × R5)) (J Jx : List (Int × Int) → World → Prop)
    (hY : ∀ pre x W, J pre W → pre.length < E.length → YieldAt Fence.wide (n - 1) Tryd.prog l #[mkKey x] W fun e W' => (e = .returned (.bool true) ∧ J (pre ++ [x]) W' ∧ KeepsWalks W W') ∨ (e = .returned (.bool false) ∧ Jx (pre ++ [x]) W'))
    (W : World) (hJ : AbidesFrom W.heap.size J) (hm : W.cell? ⟨Bm, 0, none⟩ = some (.map (some b))) (hown : MapL Tryd.prog tKey mkKey mkRow W b E) (h0 : J [] W) :
    CallsIn Fence.wide n Tryd.prog fKeysIt #[.func (.yield l) #[] #[], .pointer (some ⟨Bm, 0, none⟩)] W fun e W' => (∃ v, e = .returned v) ∧ ((∃ ss : List (Int × Int), ss.Perm (E.map (·.1)) ∧ J ss W') ∨ (∃ pre : List (Int × Int), True ∧ Jx pre W')) := by
  refine callsIn_of_wp Tryd.func60 rfl trivial ?_ rfl
  simp only [Tryd.ntmps60, List.size_toArray, List.length_cons, List.length_nil, Nat.reduceAdd, Nat.reduceSub, Array.replicate_succ, Array.replicate_zero, List.push_toArray, List.append_toArray, List.nil_append, List.cons_append]
  gi_wp2_with (first
    | (gi_at_range; refine wpListIn_rangeL _ rfl _ tBook rfl tKey tRow lawKey mapBook b E rfl hown ?_; intro w0 cnt0 hrg0 hg0 hs0)
    | gi_in)
  go_frame
  gi_loopw [3] (fun _ wr => ∃ (done : List ((Int × Int) × R5)) (cnt : Nat), RangeL Tryd.prog tKey mkKey mkRow wr b W.heap.size E done cnt ∧ J (done.map (·.1)) wr) (fun _ wr => wr.rangeLeft b W.heap.size)
  case atStart => exact ⟨[], cnt0, hrg0, hJ [] W w0 none h0 hg0 (fun r e => by cases e)⟩
  case round =>
    obtain ⟨done, cnt, hrg, hJs⟩ := hrel
    gi_wp2_with (first
      | (gi_at_next; refine wpListIn_nextL _ rfl _ rfl tKey lawKey b W.heap.size E done cnt rfl hrg ?_ ?_)
      | gi_in)
    · intro hperm
      gi_wp2
      go_end0
      exact ⟨⟨_, rfl⟩, .inl ⟨_, hperm.map _, hJs⟩⟩
    · intro x1 x2 y1 y2 y3 y4 y5 w2 cnt2 hin hnin hrg2 hlt hg2 hs2 hen
      have hlen : done.length < E.length := by
        have := hrg2.len
        simp at this
        omega
      have hJ2 : J (done.map (·.1)) w2 := hJ _ wr w2 (some W.heap.size) hJs hg2 (fun r e => by cases e; exact ⟨Nat.le_refl _, hrg.iter_walk⟩)
      have hJ3 : J (done.map (·.1)) (w2.alloc (.cells #[.int .i64 x1, .int .i64 x2] tKey)) := hJ _ w2 _ none hJ2 (World.grownBy_alloc _ _ _) (fun r e => by cases e)
      obtain ⟨fn, tmps, assign, body, hy, hR⟩ := hY _ (x1, x2) _ hJ3 (by simpa using hlen)
      simp only [mkKey, mkRow] at hen hy ⊢
      clear hs2
      gi_wp2
      refine hR.mono ?_
      rintro e W3 (⟨rfl, hJ4, hk3⟩ | ⟨rfl, hJ4⟩)
      rotate_left
      · gi_wp2
        refine bodyPost_ret (results_none rfl _ _ _) rfl ?_
        exact ⟨⟨_, rfl⟩, .inr ⟨_, trivial, hJ4⟩⟩
      gi_wp2
      have hrg3 := (hrg2.alloc (.cells #[.int .i64 x1, .int .i64 x2] tKey)).of_walks hk3
      go_roundw
      case rel => exact ⟨_, cnt2, hrg3, by simpa using hJ4⟩
      case measure => rw [hrg3.left, hrg.left]; exact hlt

/-- maps.Keys hands back an iterator over the map's keys. -/
theorem keys_stops (n : Nat) (hn : 1 ≤ n) (Bm b : Nat) (E : List ((Int × Int) × R5)) (w : World) (hBm : Bm < w.heap.size) (hm : w.cell? ⟨Bm, 0, none⟩ = some (.map (some b))) (hown : MapL Tryd.prog tKey mkKey mkRow w b E) :
    SeqStopsK Fence.wide n Tryd.prog fKeysIt #[.pointer (some ⟨Bm, 0, none⟩)] (fun x : Int × Int => #[mkKey x]) KeepsWalks (fun ss => ss.Perm (E.map (·.1))) (fun _ => True) E.length w := fun l J Jx W hW hJ _ hY h0 =>
  keysIt_in n hn l Bm b E J Jx hY W hJ ((hW.cell (p := ⟨Bm, 0, none⟩) hBm).trans hm) (hown.below hW) h0

theorem keys_call (n : Nat) (mb : Option Nat) (w : World) :
    CallsIn Fence.wide n Tryd.prog 40 #[.map mb] w fun e w' => e = .returned (.func (.func fKeysIt) #[] #[.pointer (some ⟨w.heap.size, 0, none⟩)]) ∧ w' = w.alloc (.cells #[.map mb] tBook) := by
  refine callsIn_of_wp Tryd.func40 rfl trivial ?_ rfl
  simp only [Tryd.ntmps40, List.size_toArray, List.length_cons, List.length_nil, Nat.reduceAdd, Nat.reduceSub, Array.replicate_succ, Array.replicate_zero, List.push_toArray, List.append_toArray, List.nil_append, List.cons_append]
  gi_wp2
  go_ret
  exact ⟨rfl, rfl⟩

abbrev tKeys : TypeId := 86
set_option maxRecDepth 100000 in
set_option maxHeartbeats 2000000 in
theorem appendSeq_in (n : Nat) (hn : 2 ≤ n) (g : Nat) (lb : Array Value) (eg : ∀ args w, (callFunc g args).run Tryd.prog w = .ok (.enter g args) w) (S : List (Int × Int) → Prop) (N : Nat) (hN : N ≤ 100000) (w : World)
    (hseq : SeqStopsK Fence.wide (n - 1) Tryd.prog g lb (fun x : Int × Int => #[mkKey x]) KeepsWalks S (fun _ => True) N w) :
    CallsIn Fence.wide n Tryd.prog 63 #[.slice none 0 0, .func (.func g) #[] lb] w fun e w' => ∃ (v : Value) (ss : List (Int × Int)), e = .returned v ∧ S ss ∧ w'.ownsRow w.heap.size tKey 2 v ss.length (ss.flatMap encK) ∧ Below w.heap.size w w' := by
  obtain ⟨i0, hi, hz0, hz1, hz2⟩ := info_parts key_info
  refine callsIn_of_wp_marks Tryd.func63 rfl trivial ?_ rfl
  simp only [Tryd.ntmps63, List.size_toArray, List.length_cons, List.length_nil, Nat.reduceAdd, Nat.reduceSub, Array.replicate_succ, Array.replicate_zero, List.push_toArray, List.append_toArray, List.nil_append, List.cons_append]
  gi_wp2
  have bS := Boxed.new w tKeys (.slice none 0 0)
  have hB0 : Below w.heap.size w (w.alloc (.cells #[.slice none 0 0] tKeys)) := below_alloc _ _
  have hsz : (w.alloc (.cells #[.slice none 0 0] tKeys)).heap.size = w.heap.size + 1 := by simp
  obtain ⟨W0, hW0⟩ : ∃ W0, w.alloc (.cells #[.slice none 0 0] tKeys) = W0 := ⟨_, rfl⟩
  rw [hW0] at bS hB0 hsz ⊢
  clear hW0
  refine wpIn_rangeFunc_ownH rfl (by omega) (gf := g) (lb := lb) rfl trivial eg hseq walksK_t walksK_b hB0 (fun _ => rfl)
    (fun pre W => (∃ v, Boxed W w.heap.size tKeys v ∧ W.ownsRow w.heap.size tKey 2 v pre.length (pre.flatMap encK) ∧ True) ∧ Below w.heap.size w W)
    (fun _ _ _ => False)
    (OwnFrom.and (Own.from (holdsRow_own w.heap.size w.heap.size tKeys tKey 2 (fun pre : List (Int × Int) => pre.length) (fun pre => pre.flatMap encK) (fun _ _ => True)) _) (ownFrom_below (Nat.le_refl _) (by omega)))
    (fun _ _ _ _ _ hs _ _ => hs)
    ⟨⟨_, bS, World.ownsRow_nil _ _ _ _, trivial⟩, hB0⟩
    (fun x a' W => ∃ Bx, w.heap.size < Bx ∧ W.heap[Bx]? = some (.cells #[.int .i64 x.1, .int .i64 x.2] tKey (0, 0)) ∧ a' = { tmps := #[.slice none 0 0, .func (.func g) #[] lb, .pointer (some ⟨w.heap.size, 0, none⟩), undef, .slice none 0 0, .pointer (some ⟨Bx, 0, none⟩), .func (.func g) #[] lb, mkKey x, undef, undef, undef, undef, undef], defers := [] })
    (fun x a' _ X Y row hs hg hr => by
      obtain ⟨Bx, h1, h2, h3⟩ := hs
      refine ⟨Bx, h1, (hg.block Bx (heap_lt h2) (fun e => ?_)).trans h2, h3⟩
      obtain ⟨_, o, ho, hc⟩ := hr Bx e.symm
      rw [h2] at ho
      cases ho
      cases hc)
    ?assign ?body ?done ?stop
  case assign =>
    rintro l pre ⟨x1, x2⟩ W K ⟨⟨v, hv, hrow, _⟩, hB1⟩ hK
    simp only [mkKey]
    gi_wp2_with (rw [Oper.semAt_eq _ _ _ (fun c h => by cases h)]; go_simp; try go_bits)
    exact hK _ _ ((KeepsOthers.alloc _ _).from _) (KeepsWalks.alloc _ _) ⟨⟨v, hv.alloc _, hrow.alloc _, trivial⟩, hB1.alloc hB1.size _⟩ ⟨W.heap.size, hv.lt, heap_new _ _, rfl⟩
  case body =>
    rintro l pre ⟨x1, x2⟩ a' W hl ⟨r, hr⟩ ⟨⟨v, hv, hrow, _⟩, hB1⟩ ⟨Bx, hBx, hbx, rfl⟩ hlt
    have cv := hv.cell
    obtain ⟨k0, k1, _, _⟩ := cell2 hbx
    simp only [] at k0 k1
    gi_wp2_with (first
      | (gi_at_builtin; refine wpListIn_append_own _ rfl _ _ tKeys rfl w.heap.size tKey i0 (mkKey (0, 0)) 2 16 Tryd.underlying86 hi hz0 hz1 hz2 rfl (by decide) _ _ _ rfl (hrow.alloc _) ⟨W.heap.size, 0, none⟩ 1 1 (encK (x1, x2)) rfl rfl (two_at _ _ rfl _ _ _) (by intro u hu; simp [encK] at hu; rcases hu with rfl | rfl <;> rfl) (by unfold maxLen; omega) (by omega) (by have := hB1.size; simp; omega) ?_; intro v' w1 hown' hgrow _; obtain ⟨hv1, hv2, hr2, hk2, hb2⟩ := hv.appended (by decide) hrow hB1.size (Nat.le_refl _) hown' hgrow; have hkw : KeepsWalks W (w1.setCell ⟨w.heap.size, 0, none⟩ v') := ((KeepsWalks.alloc _ _).trans (KeepsWalks.of_grownBy hgrow (Go.Proofs.ownsRow_not_walk_a (hrow.alloc _)))).trans (KeepsWalks.setCell _ _ _); obtain ⟨g', cap', rfl⟩ := ownsRow_succ hown'; have hc1 := hv1.cell; have hf1 := hv1.frozen)
      | (rw [Oper.semAt_eq _ _ _ (fun c h => by cases h)]; go_simp; try go_bits))
    exact ⟨hk2.from _, hkw, ⟨⟨_, hv2, by simpa [encK] using hr2⟩, hB1.trans hb2⟩⟩
  case done =>
    rintro D xs W hD hS ⟨⟨v, hv, hrow, _⟩, hB1⟩ hK
    have cv := hv.cell
    gi_wp2
    refine ⟨by simp, .inl ⟨_, _, rfl, run_takeDeferred hK, ?_⟩⟩
    exact ⟨_, results_tmp rfl _ _ _, v, xs, rfl, hS, hrow.kept (Go.Proofs.grownBy_putObj_a _ _ _) (Go.Proofs.ownsRow_ne_a hrow hK (fun cur e => by cases e)), hB1.grown (Go.Proofs.grownBy_putObj_a _ _ _) hB1.size (fun k e => by cases e; omega)⟩
  case stop =>
    rintro D c pre W hD _ h
    exact h.elim

theorem collect_in (n : Nat) (hn : 3 ≤ n) (g : Nat) (lb : Array Value) (eg : ∀ args w, (callFunc g args).run Tryd.prog w = .ok (.enter g args) w) (S : List (Int × Int) → Prop) (N : Nat) (hN : N ≤ 100000) (w : World)
    (hseq : SeqStopsK Fence.wide (n - 1 - 1) Tryd.prog g lb (fun x : Int × Int => #[mkKey x]) KeepsWalks S (fun _ => True) N w) :
    CallsIn Fence.wide n Tryd.prog 58 #[.func (.func g) #[] lb] w fun e w' => ∃ (v : Value) (ss : List (Int × Int)), e = .returned v ∧ S ss ∧ w'.ownsRow w.heap.size tKey 2 v ss.length (ss.flatMap encK) ∧ Below w.heap.size w w' := by
  refine callsIn_of_wp Tryd.func58 rfl trivial ?_ rfl
  simp only [Tryd.ntmps58, List.size_toArray, List.length_cons, List.length_nil, Nat.reduceAdd, Nat.reduceSub, Array.replicate_succ, Array.replicate_zero, List.push_toArray, List.append_toArray, List.nil_append, List.cons_append]
  gi_wp2
  refine ⟨trivial, fun _ => by omega, ?_⟩
  refine (appendSeq_in (n - 1) (by omega) g lb eg S N hN _ hseq).mono ?_
  rintro e w' ⟨v, ss, rfl, hS, hrow, hb⟩
  gi_wp2
  go_ret
  exact ⟨v, ss, rfl, hS, hrow, hb⟩

/-- maps.Keys, then slices.Collect: as plain calls. -/
theorem collect_any (b Bm : Nat) (E : List ((Int × Int) × R5)) (hE : E.length ≤ 100000) (w : World) (hBm : Bm < w.heap.size) (hm : w.cell? ⟨Bm, 0, none⟩ = some (.map (some b))) (hown : MapL Tryd.prog tKey mkKey mkRow w b E) :
    Calls Tryd.prog 58 #[.func (.func fKeysIt) #[] #[.pointer (some ⟨Bm, 0, none⟩)]] w fun e w' => ∃ (v : Value) (ss : List (Int × Int)), e = .returned v ∧ ss.Perm (E.map (·.1)) ∧ w'.ownsRow w.heap.size tKey 2 v ss.length (ss.flatMap encK) ∧ Below w.heap.size w w' :=
  (callsIn_wide (n := 5)).1 (collect_in 5 (by omega) fKeysIt _ (enters_of Tryd.func60 (by kernel_rfl) rfl) _ E.length hE w (keys_stops 3 (by omega) Bm b E w hBm hm hown))
theorem keys_any (mb : Option Nat) (w : World) :
    Calls Tryd.prog 40 #[.map mb] w fun e w' => e = .returned (.func (.func fKeysIt) #[] #[.pointer (some ⟨w.heap.size, 0, none⟩)]) ∧ w' = w.alloc (.cells #[.map mb] tBook) :=
  (callsIn_wide (n := 5)).1 (keys_call 5 mb w)
end Go.Proofs.YtkmpagijdhhinaaDoor

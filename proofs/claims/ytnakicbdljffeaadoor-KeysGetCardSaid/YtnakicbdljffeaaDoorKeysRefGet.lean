/- The document's Get; consignorlaw10.got: what they compute. -/
import Derived.Test.YtnakicbdljffeaaDoorKeysGet
import Derived.Deep.LoopGhost
namespace Go.Proofs.YtnakicbdljffeaaDoor
open Go.RowKit Key Mon

/-- No key ahead of this one is put so. -/
def Ahead (l : List UInt8) (o d : Int) : Prop := ∀ a b, chk a b = true → (a < o ∨ a = o ∧ b < d) → putK a b ≠ l
theorem Ahead.start (l : List UInt8) : Ahead l 1 0 := fun a b h h2 => by have := chk_iff.1 h; omega
theorem Ahead.step {l : List UInt8} {o d : Int} (h : Ahead l o d) (hn : putK o d ≠ l) : Ahead l o (d + 1) := fun a b hc h2 => by
  by_cases e : a = o ∧ b = d
  · obtain ⟨rfl, rfl⟩ := e; exact hn
  · exact h a b hc (by omega)
theorem Ahead.next {l : List UInt8} {o : Int} (h : Ahead l o 6) : Ahead l (o + 1) 0 := fun a b hc h2 => h a b hc (by have := chk_iff.1 hc; omega)
theorem Ahead.done {l : List UInt8} (h : Ahead l 61 0) : getK l = ((0, 0), false) := by
  rcases getK_cases l with ⟨o, d, hc, he, _⟩ | ⟨_, h2⟩
  · exact absurd he (h o d hc (by have := chk_iff.1 hc; omega))
  · exact h2

theorem retK {x y a b : Int} {s t : Bool} (h : ((x, y), s) = ((a, b), t)) : Ending.returned (.tuple #[.agg #[.int .i64 a, .int .i64 b], .bool t]) = .returned (.tuple #[.agg #[.int .i64 x, .int .i64 y], .bool s]) := by simp only [Prod.mk.injEq] at h; obtain ⟨⟨rfl, rfl⟩, rfl⟩ := h; rfl

set_option maxHeartbeats 4000000 in
theorem refGetK_any (s : ByteArray) (w : World) : Calls Tryd.prog 20 #[.string s] w fun e w' => e = .returned (getV (getK s.data.toList)) ∧ Below w.heap.size w w' := by
  obtain ⟨⟨⟨x, y⟩, b⟩, hR⟩ : ∃ r, getK s.data.toList = r := ⟨_, rfl⟩
  rw [hR]
  unfold getV
  have HR := Lib.hid hR
  clear hR
  go_enter Tryd.func20, Tryd.ntmps20
  go_wp2_with fail
  go_loopw [4, 5, 6] (fun o _ _ wr => ∃ j : Int, 1 ≤ j ∧ j ≤ 61 ∧ o = .int .i64 j ∧ Hid (Ahead s.data.toList j 0) ∧ Hid (Below w.heap.size w wr) ∧ Hid (wr.heap[w.heap.size]? = some (.cells #[.int .i64 0, .int .i64 0] 23 (0, 0)))) (fun o _ _ _ => (61 - intOf o).toNat)
  case atStart => exact ⟨1, by omega, by omega, rfl, Ahead.start _, below_alloc _ _, heap_new _ _⟩
  case round =>
    obtain ⟨j, hj1, hj2, rfl, HN, HB, HK⟩ := hrel
    obtain ⟨wo, rfl⟩ : ∃ wo : World, wo = wr := ⟨_, rfl⟩
    by_cases hlt : j ≤ 60
    · go_wp2_with fail
      go_loopw [5, 6] (fun d _ wi => ∃ i : Int, 0 ≤ i ∧ i ≤ 6 ∧ d = .int .i64 i ∧ Hid (Ahead s.data.toList j i) ∧ Hid (Below w.heap.size w wi) ∧ Hid (wi.heap[w.heap.size]? = some (.cells #[.int .i64 0, .int .i64 0] 23 (0, 0)))) (fun d _ _ => (6 - intOf d).toNat)
      case atStart => exact ⟨0, by omega, by omega, rfl, HN, HB, HK⟩
      case round =>
        obtain ⟨i, hi1, hi2, rfl, HN1, HB1, HK1⟩ := hrel
        by_cases hli : i < 6
        · obtain ⟨c0, c1, f0, f1⟩ := cell2 HK1.out
          have hz := heap_lt HK1.out
          have HP := Lib.hid (fun W => refPutK_any j i W)
          generalize hp : putK j i = L at HP
          have HPE := Lib.hid hp
          clear hp
          go_wp2_with fail
          refine (HP.out _).mono ?_
          rintro e w1 ⟨rfl, hb⟩
          have HBW := Lib.hid (bch (HB1.out.alloc HB1.out.size _) hb (by have := HB1.out.size; simp; omega))
          have HKW := Lib.hid (heap_keep (heap_keep HK1.out (below_alloc wr _)) hb)
          obtain ⟨k0, k1, hz1⟩ := cells2 hb
          obtain ⟨d0, d1, g0, g1⟩ := cell2 HKW.out
          have hz2 := heap_lt HKW.out
          clear hb c0 c1 f0 f1
          by_cases hL : L = s.data.toList
          · have HD := Lib.hid (show ((x, y), b) = ((j, i), true) from HR.out.symm.trans (by rw [← hL, ← HPE.out]; exact getK_put (chk_iff.2 ⟨hj1, hlt, hi1, hli⟩)))
            have q := itoaT _ s hL
            clear hL
            go_wp2_with fail
            obtain ⟨m0, m1, _, _⟩ := cell2 (set2 HKW.out (.int .i64 j) (.int .i64 i))
            exact bodyPost_ret (v := .tuple #[.agg #[.int .i64 j, .int .i64 i], .bool true]) (by simp [results, Tryd.results20, go_sem, m0, m1]) rfl ⟨retK HD.out, below_set2 HBW.out (Nat.le_refl _) _ _⟩
          · have HN2 := Lib.hid (HN1.out.step (by rw [HPE.out]; exact hL))
            have q := itoaF _ s hL
            clear hL
            go_wp2_with fail
            go_roundw
            case rel => exact ⟨i + 1, by omega, by omega, by go_num, HN2, HBW, HKW⟩
            case measure => simp [intOf]; omega
        · obtain rfl : i = 6 := by omega
          have HN2 := Lib.hid HN1.out.next
          go_wp2_with fail
          go_roundw
          case rel => exact ⟨j + 1, by omega, by omega, by go_num, HN2, HB1, HK1⟩
          case measure => simp [intOf]; omega
    · obtain rfl : j = 61 := by omega
      have HD := Lib.hid (HR.out.symm.trans HN.out.done)
      obtain ⟨c0, c1, f0, f1⟩ := cell2 HK.out
      have hz := heap_lt HK.out
      go_wp2_with fail
      obtain ⟨m0, m1, _, _⟩ := cell2 (set2 HK.out (.int .i64 0) (.int .i64 0))
      exact bodyPost_ret (v := .tuple #[.agg #[.int .i64 0, .int .i64 0], .bool false]) (by simp [results, Tryd.results20, go_sem, m0, m1]) rfl ⟨retK HD.out, below_set2 HB.out (Nat.le_refl _) _ _⟩

set_option maxHeartbeats 1000000 in
/-- got: is a text that key's, or none's? -/
theorem got_any (s : ByteArray) (o d : Int) (t : Bool) (w : World) (hs : s.size ≤ 1000000) (hK : KW w) :
    Calls Tryd.prog 23 #[.string s, .agg #[.int .i64 o, .int .i64 d], .bool t] w fun e w' => e = .returned (.bool (decide (getK s.data.toList = ((o, d), t)))) ∧ Below w.heap.size w w' := by
  obtain ⟨⟨⟨x, y⟩, b⟩, hR⟩ : ∃ r, getK s.data.toList = r := ⟨_, rfl⟩
  have HQ := Lib.hid (fun W (h : KW W) => getK_any s W hs h)
  rw [hR] at HQ ⊢
  unfold getV at HQ
  have HK := Lib.hid hK
  obtain ⟨r, hr⟩ : ∃ r, decide (((x, y), b) = ((o, d), t)) = r := ⟨_, rfl⟩
  rw [hr]
  have HRR := Lib.hid hr
  clear hR hr hK
  go_enter Tryd.func23, Tryd.ntmps23
  go_wp2_with fail
  refine (HQ.out _ (HK.out.below (below_alloc w _))).mono ?_
  rintro e w1 ⟨rfl, hb⟩
  have HB := Lib.hid (bch (below_alloc w _) hb (by simp))
  obtain ⟨k0, k1, hz1⟩ := cells2 hb
  clear hb
  go_wp2_with fail
  all_goals go_ret
  all_goals refine ⟨?_, (HB.out.alloc HB.out.size _)⟩
  all_goals refine ret_bool ?_
  all_goals have hr := HRR.out
  · subst_vars
    simp
    cases b <;> cases t <;> rfl
  all_goals
    rw [← hr]
    symm
    simp
    omega
end Go.Proofs.YtnakicbdljffeaaDoor

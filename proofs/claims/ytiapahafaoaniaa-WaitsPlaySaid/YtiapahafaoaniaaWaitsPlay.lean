/- law18: WaitsPlay. -/
import Derived.Test.YtiapahafaoaniaaWaitsSame
import Derived.Test.YtiapahafaoaniaaWaitsCopy
import Derived.Test.YtiapahafaoaniaaOpenS
namespace Go.Proofs.Ytiapahafaoaniaa
open Go.RowKit Go.Maps Wa Key

/-- An act, as a caller hands it over. -/
def IsAct (cs : List Value) (x : Int × (Int × Int) × Int) : Prop :=
  cs = [.int .u8 x.1, .int .i64 x.2.1.1, .int .i64 x.2.1.2, .int .i64 x.2.2] ∧ (0 ≤ x.1 ∧ x.1 ≤ 255) ∧ (-9223372036854775808 ≤ x.2.1.1 ∧ x.2.1.1 ≤ 9223372036854775807) ∧ (-9223372036854775808 ≤ x.2.1.2 ∧ x.2.1.2 ≤ 9223372036854775807)

theorem RWs.turn {w w' : World} {B a b : Nat} {v : Value} {l l' : List W5} (h : RWs w B v l) (ha : WA w a b l') (hg : w.grownBy w' (some b)) : RWs w' B v l := by
  refine World.ownsRow.kept h hg ?_
  by_cases e : v.ownBlock = some b
  · exfalso
    obtain ⟨⟨D, ⟨es, c, hb, _⟩, _⟩, _, _⟩ := ha.mp
    rcases h.2 with ⟨rfl, _⟩ | ⟨g, cap, cur, rfl, _, hgc, _⟩
    · cases e
    · simp only [Value.ownBlock, Option.some.injEq] at e
      subst e
      rw [hgc] at hb
      cases hb
  · exact .inr e
theorem cell4 {w : World} {b : Nat} {x0 x1 x2 x3 : Value} {T : TypeId} (h : w.heap[b]? = some (.cells #[x0, x1, x2, x3] T (0, 0))) : w.cell? ⟨b, 0, none⟩ = some x0 ∧ w.cell? ⟨b, 1, none⟩ = some x1 ∧ w.cell? ⟨b, 2, none⟩ = some x2 ∧ w.cell? ⟨b, 3, none⟩ = some x3 :=
  ⟨cell_at h 0 rfl, cell_at h 1 rfl, cell_at h 2 rfl, cell_at h 3 rfl⟩

/-- Between two acts: what the program holds, and what the document does. -/
structure Played (w wr : World) (a b : Nat) (v : Value) (n : Nat) (l1 l2 : List W5) : Prop where
  wa : WA wr a b l1
  rw : RWs wr w.heap.size v l2
  g1 : Wa.Good l1
  g2 : Wa.Good l2
  n1 : l1.length ≤ n
  n2 : l2.length ≤ n
  below : Below w.heap.size w wr
  ha : w.heap.size ≤ a
  hb : w.heap.size ≤ b
theorem Played.keep {w wr W : World} {a b n : Nat} {v : Value} {l1 l2 : List W5} (h : Played w wr a b v n l1 l2) (hb : Below wr.heap.size wr W) : Played w W a b v n l1 l2 :=
  ⟨h.wa.below hb, h.rw.below hb, h.g1, h.g2, h.n1, h.n2, bch h.below hb h.below.size, h.ha, h.hb⟩
theorem Played.more {w wr : World} {a b n m : Nat} {v : Value} {l1 l2 : List W5} (h : Played w wr a b v n l1 l2) (hm : n ≤ m) : Played w wr a b v m l1 l2 :=
  ⟨h.wa, h.rw, h.g1, h.g2, Nat.le_trans h.n1 hm, Nat.le_trans h.n2 hm, h.below, h.ha, h.hb⟩
theorem Played.prog {w wr W : World} {a b n : Nat} {v : Value} {l1 l2 m1 : List W5} (h : Played w wr a b v n l1 l2) (hw : WA W a b m1) (hg : wr.grownBy W (some b)) (hm : Wa.Good m1) (hn : m1.length ≤ n) : Played w W a b v n m1 l2 :=
  ⟨hw, h.rw.turn h.wa hg, hm, h.g2, hn, h.n2, h.below.grown hg h.below.size (fun j hj => by cases hj; exact h.hb), h.ha, h.hb⟩
theorem Played.ref {w wr W : World} {a b n B : Nat} {v u : Value} {l1 l2 m2 : List W5} (h : Played w wr a b v n l1 l2) (hr : RWs W B u m2) (hB : w.heap.size ≤ B) (hb : Below wr.heap.size wr W) (hm : Wa.Good m2) (hn : m2.length ≤ n) : Played w W a b u n l1 m2 :=
  ⟨h.wa.below hb, own_weak hr hB, h.g1, hm, h.n1, hn, bch h.below hb h.below.size, h.ha, h.hb⟩
theorem Played.other {w wr W : World} {a b a' b' n : Nat} {v : Value} {l1 l2 l3 : List W5} (h : Played w wr a b v n l1 l2) (hc : WA wr a' b' l3) (ha : a ≠ b') (hb : b ≠ b') (hw : w.heap.size ≤ b') (hg : wr.grownBy W (some b')) : Played w W a b v n l1 l2 :=
  ⟨h.wa.kept hg (by simpa using ha) (by simpa using hb), h.rw.turn hc hg, h.g1, h.g2, h.n1, h.n2, h.below.grown hg h.below.size (fun j hj => by cases hj; exact hw), h.ha, h.hb⟩
theorem own_turn {w w' : World} {B a b : Nat} {v : Value} {n z : Nat} {e : TypeId} {xs : List Value} {l' : List W5} (h : w.ownsRow B e z v n xs) (ha : WA w a b l') (hg : w.grownBy w' (some b)) : w'.ownsRow B e z v n xs := by
  refine h.kept hg ?_
  by_cases e : v.ownBlock = some b
  · exfalso
    obtain ⟨⟨D, ⟨es, c, hb, _⟩, _⟩, _, _⟩ := ha.mp
    rcases h.2 with ⟨rfl, _⟩ | ⟨g, cap, cur, rfl, _, hgc, _⟩
    · cases e
    · simp only [Value.ownBlock, Option.some.injEq] at e
      subst e
      rw [hgc] at hb
      cases hb
  · exact .inr e
theorem start_len (l : List W5) (k : Int × Int) (now : Int) : (startW l k now).length ≤ l.length + 1 := put_len _ _
theorem due_len (l : List W5) (k : Int × Int) (now : Int) : (dueW l k now).length ≤ l.length + 1 := put_len _ _

set_option maxRecDepth 100000 in
set_option maxHeartbeats 4000000 in
theorem lawWaitsPlay_walk (w : World) (v : Value) (L : List (Int × (Int × Int) × Int)) (h : SlK w w.heap.size 4 IsAct v L) :
    Calls Try.prog 6 #[v] w fun e w' => e = .returned (.bool true) ∧ Below w.heap.size w w' := by
  obtain ⟨A, c, rfl, hLc, hcm⟩ := h.shape
  have HS := Lib.hid h
  clear h
  have hmax : maxLen = 140737488355327 ∨ True := .inr trivial
  by_cases h150 : 150 < L.length
  · have hg : (150 : Int) < L.length := by omega
    go_enter Try.func6, Try.ntmps6
    go_wp2_with fail
    refine (waited_true w).mono ?_
    rintro e w1 ⟨rfl, hb⟩
    have HB := Lib.hid hb
    clear hb
    go_wp2_with fail
    go_ret
    exact ⟨rfl, HB.out⟩
  have hg : (L.length : Int) ≤ 150 := by omega
  go_enter Try.func6, Try.ntmps6
  go_wp2_with fail
  refine (new_wa w).mono ?_
  rintro e w1 ⟨a, b, rfl, hn, ha, hb, hbl⟩
  have HP0 := Lib.hid (show Played w w1 a b (.slice none 0 0) 0 [] [] from ⟨hn, RWs.nil _ _, Wa.Good.nil, Wa.Good.nil, Nat.le_refl _, Nat.le_refl _, hbl, ha, hb⟩)
  clear hn hbl
  go_wp2_with fail
  go_loopw [4, 5] (fun v4 i wr => ∃ (k : Nat) (l : List W5), i = .int .i64 k ∧ k ≤ L.length ∧ Hid (Played w wr a b v4 k l l)) (fun _ i _ => L.length - (intOf i).toNat)
  case atStart => exact ⟨0, [], rfl, by omega, HP0⟩
  case round =>
    obtain ⟨k, l, rfl, hk, HP⟩ := hrel
    by_cases hkl : k < L.length
    · obtain ⟨x, hx⟩ : ∃ x, L[k]? = some x := ⟨_, List.getElem?_eq_getElem hkl⟩
      obtain ⟨g, off, cs, rfl, hgl, hcl, hcell, hcs⟩ := HS.out.at hx
      obtain ⟨kd, ⟨o, d⟩, now⟩ := x
      obtain ⟨rfl, hkd, ho, hd⟩ := hcs
      have hkeep := fun j u hj => (HP.out.below.cell (p := ⟨g, off + k * 4 + j, none⟩) hgl).trans (hcell j u hj)
      have c0 := hkeep 0 _ rfl
      have c1 := hkeep 1 _ rfl
      have c2 := hkeep 2 _ rfl
      have c3 := hkeep 3 _ rfl
      rw [Nat.add_zero] at c0
      clear hkeep hcell hcl hx
      simp only [] at c0 c1 c2 c3 hkd ho hd
      have hlt : (k : Int) < L.length := by omega
      have hk0 : (0 : Int) ≤ k := by omega
      by_cases q2 : kd % 9 = 2
      · have r2 := beqT q2
        go_wp2_with fail
        have HPA := Lib.hid ((HP.out.more (Nat.le_succ k)).keep (below_alloc wr (.cells #[.int .u8 kd, .int .i64 o, .int .i64 d, .int .i64 now] 45)))
        have hk0' := heap_new wr (.cells #[.int .u8 kd, .int .i64 o, .int .i64 d, .int .i64 now] 45)
        have hbz : wr.heap.size ≠ b := by have := HP.out.wa.lt; omega
        generalize wr.alloc (.cells #[.int .u8 kd, .int .i64 o, .int .i64 d, .int .i64 now] 45) = wA at HPA hk0' ⊢
        refine (due_wa wA a b l o d now HPA.out.wa (by have := HP.out.n1; omega)).mono ?_
        rintro e wB ⟨rfl, hwB, hgB⟩
        have HPB := Lib.hid (HPA.out.prog hwB hgB (HP.out.g1.due _ _) (by have := due_len l (o, d) now; have := HP.out.n1; omega))
        have hkB := (hgB.block _ (heap_lt hk0') (by simpa using hbz)).trans hk0'
        obtain ⟨k0, k1, k2, k3⟩ := cell4 hkB
        clear hwB hgB hk0'
        go_wp2_with fail
        refine (refDue_any wB w.heap.size _ l o d now HPB.out.rw (by have := HP.out.n1; omega) HPB.out.below.size).mono ?_
        rintro e wC ⟨vC, rfl, hrC, hbC⟩
        have HPZ := Lib.hid (HPB.out.ref hrC (Nat.le_refl _) hbC (HP.out.g1.due _ _) (by have := due_len l (o, d) now; have := HP.out.n1; omega))
        clear hrC hbC
        go_wp2_with fail
        refine (same_true _ a b w.heap.size _ _ HPZ.out.wa HPZ.out.rw HPZ.out.g1 (by have := HPZ.out.n1; omega)).mono ?_
        rintro e w9 ⟨rfl, hb9⟩
        have HP9 := Lib.hid (HPZ.out.keep hb9)
        clear hb9
        go_wp2_with fail
        go_roundw
        case rel => exact ⟨k + 1, _, by go_num, by omega, HP9⟩
        case measure => simp [intOf]; omega
      have r2 := beqF q2
      by_cases q3 : kd % 9 = 3
      · have r3 := beqT q3
        go_wp2_with fail
        have HPA := Lib.hid ((HP.out.more (Nat.le_succ k)).keep (below_alloc wr (.cells #[.int .u8 kd, .int .i64 o, .int .i64 d, .int .i64 now] 45)))
        have hk0' := heap_new wr (.cells #[.int .u8 kd, .int .i64 o, .int .i64 d, .int .i64 now] 45)
        have hbz : wr.heap.size ≠ b := by have := HP.out.wa.lt; omega
        generalize wr.alloc (.cells #[.int .u8 kd, .int .i64 o, .int .i64 d, .int .i64 now] 45) = wA at HPA hk0' ⊢
        refine (stop_wa wA a b l o d HPA.out.wa ⟨ho, hd⟩).mono ?_
        rintro e wB ⟨rfl, hwB, hgB⟩
        have HPB := Lib.hid (HPA.out.prog hwB hgB (HP.out.g1.stop _) (by have := stop_len l (o, d); have := HP.out.n1; omega))
        have hkB := (hgB.block _ (heap_lt hk0') (by simpa using hbz)).trans hk0'
        obtain ⟨k0, k1, k2, k3⟩ := cell4 hkB
        clear hwB hgB hk0'
        go_wp2_with fail
        refine (refStop_any wB w.heap.size _ l o d HPB.out.rw (by have := HP.out.n1; omega)).mono ?_
        rintro e wC ⟨vC, rfl, hrC, hbC⟩
        have HPZ := Lib.hid (HPB.out.ref hrC HPB.out.below.size hbC (HP.out.g1.stop _) (by have := stop_len l (o, d); have := HP.out.n1; omega))
        clear hrC hbC
        go_wp2_with fail
        refine (same_true _ a b w.heap.size _ _ HPZ.out.wa HPZ.out.rw HPZ.out.g1 (by have := HPZ.out.n1; omega)).mono ?_
        rintro e w9 ⟨rfl, hb9⟩
        have HP9 := Lib.hid (HPZ.out.keep hb9)
        clear hb9
        go_wp2_with fail
        go_roundw
        case rel => exact ⟨k + 1, _, by go_num, by omega, HP9⟩
        case measure => simp [intOf]; omega
      have r3 := beqF q3
      by_cases q4 : kd % 9 = 4
      · have r4 := beqT q4
        go_wp2_with fail
        have HPA := Lib.hid ((HP.out.more (Nat.le_succ k)).keep (below_alloc wr (.cells #[.int .u8 kd, .int .i64 o, .int .i64 d, .int .i64 now] 45)))
        have hk0' := heap_new wr (.cells #[.int .u8 kd, .int .i64 o, .int .i64 d, .int .i64 now] 45)
        have hbz : wr.heap.size ≠ b := by have := HP.out.wa.lt; omega
        generalize wr.alloc (.cells #[.int .u8 kd, .int .i64 o, .int .i64 d, .int .i64 now] 45) = wA at HPA hk0' ⊢
        refine (refHas_any wA w.heap.size _ l o d HPA.out.rw (by have := HP.out.n1; omega)).mono ?_
        rintro e wB ⟨rfl, hbB⟩
        have HPB := Lib.hid (HPA.out.keep hbB)
        have hkB := heap_keep hk0' hbB
        obtain ⟨k0, k1, k2, k3⟩ := cell4 hkB
        clear hbB hk0'
        go_wp2_with fail
        refine (again_wa wB a b l o d now HPB.out.wa HP.out.g1 (by have := HP.out.n1; omega) ⟨ho, hd⟩).mono ?_
        rintro e wC ⟨rfl, hwC, hgC⟩
        have hkC := (hgC.block _ (heap_lt hkB) (by simpa using hbz)).trans hkB
        clear hkB k0 k1 k2 k3
        obtain ⟨k0, k1, k2, k3⟩ := cell4 hkC
        cases hhas : hasW l (o, d) with
        | true =>
          rw [hhas, if_pos rfl] at hwC
          have HPC := Lib.hid (HPB.out.prog hwC hgC (HP.out.g1.start _ _) (by have := start_len l (o, d) now; have := HP.out.n1; omega))
          clear hwC hgC
          go_wp2_with fail
          refine (refStart_any wC w.heap.size _ l o d now HPC.out.rw (by have := HP.out.n1; omega) HPC.out.below.size).mono ?_
          rintro e wD ⟨vD, rfl, hrD, hbD⟩
          have HPZ := Lib.hid (HPC.out.ref hrD (Nat.le_refl _) hbD (HP.out.g1.start _ _) (by have := start_len l (o, d) now; have := HP.out.n1; omega))
          clear hrD hbD
          go_wp2_with fail
          refine (same_true _ a b w.heap.size _ _ HPZ.out.wa HPZ.out.rw HPZ.out.g1 (by have := HPZ.out.n1; omega)).mono ?_
          rintro e w9 ⟨rfl, hb9⟩
          have HP9 := Lib.hid (HPZ.out.keep hb9)
          clear hb9
          go_wp2_with fail
          go_roundw
          case rel => exact ⟨k + 1, _, by go_num, by omega, HP9⟩
          case measure => simp [intOf]; omega
        | false =>
          rw [hhas, if_neg (by simp)] at hwC
          have HPZ := Lib.hid (HPB.out.prog hwC hgC HP.out.g1 (by have := HP.out.n1; omega))
          clear hwC hgC
          go_wp2_with fail
          refine (same_true _ a b w.heap.size _ _ HPZ.out.wa HPZ.out.rw HPZ.out.g1 (by have := HPZ.out.n1; omega)).mono ?_
          rintro e w9 ⟨rfl, hb9⟩
          have HP9 := Lib.hid (HPZ.out.keep hb9)
          clear hb9
          go_wp2_with fail
          go_roundw
          case rel => exact ⟨k + 1, _, by go_num, by omega, HP9⟩
          case measure => simp [intOf]; omega
      have r4 := beqF q4
      by_cases q5 : kd % 9 = 5
      · have r5 := beqT q5
        go_wp2_with fail
        have HPA := Lib.hid ((HP.out.more (Nat.le_succ k)).keep (below_alloc wr (.cells #[.int .u8 kd, .int .i64 o, .int .i64 d, .int .i64 now] 45)))
        have hk0' := heap_new wr (.cells #[.int .u8 kd, .int .i64 o, .int .i64 d, .int .i64 now] 45)
        have hbz : wr.heap.size ≠ b := by have := HP.out.wa.lt; omega
        generalize wr.alloc (.cells #[.int .u8 kd, .int .i64 o, .int .i64 d, .int .i64 now] 45) = wA at HPA hk0' ⊢
        refine (refTick_any wA w.heap.size _ l now HPA.out.rw (by have := HP.out.n1; omega) HP.out.g1).mono ?_
        rintro e wB ⟨v1, v2, rfl, hrB, hoB, hbB⟩
        have HPB := Lib.hid (HPA.out.ref hrB HPA.out.below.size hbB (HP.out.g1.tick now) (by rw [tick_len]; have := HP.out.n1; omega))
        have HOB := Lib.hid hoB
        have hkB := heap_keep hk0' hbB
        obtain ⟨k0, k1, k2, k3⟩ := cell4 hkB
        clear hrB hoB hbB hk0'
        go_wp2_with fail
        refine (tick_wa wB a b l now HPB.out.wa HP.out.g1 (by have := HP.out.n1; omega)).mono ?_
        rintro e wC ⟨vC, rfl, hoC, hwC, hgC⟩
        have HPZ := Lib.hid (HPB.out.prog hwC hgC (HP.out.g1.tick now) (by rw [tick_len]; have := HP.out.n1; omega))
        have HOC := Lib.hid hoC
        have HOB2 := Lib.hid (own_turn HOB.out HPB.out.wa hgC)
        have htl : (toldW l now).length < 10000 := by rw [← toldAt_all]; have := toldAt_len l (nearI now) l.length; have := HP.out.n1; omega
        clear hoC hwC hgC k0 k1 k2 k3 hkB
        go_wp2_with fail
        refine (keys_true wC _ _ _ _ (toldW l now) HOC.out HOB2.out htl).mono ?_
        rintro e wD ⟨rfl, hbD⟩
        have HPY := HPZ
        clear HPZ
        have HPZ := Lib.hid (HPY.out.keep hbD)
        clear hbD HPY
        go_wp2_with fail
        refine (same_true _ a b w.heap.size _ _ HPZ.out.wa HPZ.out.rw HPZ.out.g1 (by have := HPZ.out.n1; omega)).mono ?_
        rintro e w9 ⟨rfl, hb9⟩
        have HP9 := Lib.hid (HPZ.out.keep hb9)
        clear hb9
        go_wp2_with fail
        go_roundw
        case rel => exact ⟨k + 1, _, by go_num, by omega, HP9⟩
        case measure => simp [intOf]; omega
      have r5 := beqF q5
      by_cases q6 : kd % 9 = 6
      · have r6 := beqT q6
        go_wp2_with fail
        have HPA := Lib.hid ((HP.out.more (Nat.le_succ k)).keep (below_alloc wr (.cells #[.int .u8 kd, .int .i64 o, .int .i64 d, .int .i64 now] 45)))
        have hk0' := heap_new wr (.cells #[.int .u8 kd, .int .i64 o, .int .i64 d, .int .i64 now] 45)
        have hbz : wr.heap.size ≠ b := by have := HP.out.wa.lt; omega
        generalize wr.alloc (.cells #[.int .u8 kd, .int .i64 o, .int .i64 d, .int .i64 now] 45) = wA at HPA hk0' ⊢
        refine (refTick_any wA w.heap.size _ l now HPA.out.rw (by have := HP.out.n1; omega) HP.out.g1).mono ?_
        rintro e wB ⟨v1, v2, rfl, hrB, hoB, hbB⟩
        have HPB := Lib.hid (HPA.out.ref hrB HPA.out.below.size hbB (HP.out.g1.tick now) (by rw [tick_len]; have := HP.out.n1; omega))
        have HOB := Lib.hid hoB
        have hkB := heap_keep hk0' hbB
        obtain ⟨k0, k1, k2, k3⟩ := cell4 hkB
        clear hrB hoB hbB hk0'
        go_wp2_with fail
        refine (tick_wa wB a b l now HPB.out.wa HP.out.g1 (by have := HP.out.n1; omega)).mono ?_
        rintro e wC ⟨vC, rfl, hoC, hwC, hgC⟩
        have HPZ := Lib.hid (HPB.out.prog hwC hgC (HP.out.g1.tick now) (by rw [tick_len]; have := HP.out.n1; omega))
        have HOC := Lib.hid hoC
        have HOB2 := Lib.hid (own_turn HOB.out HPB.out.wa hgC)
        have htl : (toldW l now).length < 10000 := by rw [← toldAt_all]; have := toldAt_len l (nearI now) l.length; have := HP.out.n1; omega
        clear hoC hwC hgC k0 k1 k2 k3 hkB
        go_wp2_with fail
        refine (keys_true wC _ _ _ _ (toldW l now) HOC.out HOB2.out htl).mono ?_
        rintro e wD ⟨rfl, hbD⟩
        have HPY := HPZ
        clear HPZ
        have HPZ := Lib.hid (HPY.out.keep hbD)
        clear hbD HPY
        go_wp2_with fail
        refine (same_true _ a b w.heap.size _ _ HPZ.out.wa HPZ.out.rw HPZ.out.g1 (by have := HPZ.out.n1; omega)).mono ?_
        rintro e w9 ⟨rfl, hb9⟩
        have HP9 := Lib.hid (HPZ.out.keep hb9)
        clear hb9
        go_wp2_with fail
        go_roundw
        case rel => exact ⟨k + 1, _, by go_num, by omega, HP9⟩
        case measure => simp [intOf]; omega
      have r6 := beqF q6
      by_cases q7 : kd % 9 = 7
      · have r7 := beqT q7
        go_wp2_with fail
        have HPA := Lib.hid ((HP.out.more (Nat.le_succ k)).keep (below_alloc wr (.cells #[.int .u8 kd, .int .i64 o, .int .i64 d, .int .i64 now] 45)))
        have hk0' := heap_new wr (.cells #[.int .u8 kd, .int .i64 o, .int .i64 d, .int .i64 now] 45)
        have hbz : wr.heap.size ≠ b := by have := HP.out.wa.lt; omega
        generalize wr.alloc (.cells #[.int .u8 kd, .int .i64 o, .int .i64 d, .int .i64 now] 45) = wA at HPA hk0' ⊢
        refine (refTick_any wA w.heap.size _ l now HPA.out.rw (by have := HP.out.n1; omega) HP.out.g1).mono ?_
        rintro e wB ⟨v1, v2, rfl, hrB, hoB, hbB⟩
        have HPB := Lib.hid (HPA.out.ref hrB HPA.out.below.size hbB (HP.out.g1.tick now) (by rw [tick_len]; have := HP.out.n1; omega))
        have HOB := Lib.hid hoB
        have hkB := heap_keep hk0' hbB
        obtain ⟨k0, k1, k2, k3⟩ := cell4 hkB
        clear hrB hoB hbB hk0'
        go_wp2_with fail
        refine (tick_wa wB a b l now HPB.out.wa HP.out.g1 (by have := HP.out.n1; omega)).mono ?_
        rintro e wC ⟨vC, rfl, hoC, hwC, hgC⟩
        have HPZ := Lib.hid (HPB.out.prog hwC hgC (HP.out.g1.tick now) (by rw [tick_len]; have := HP.out.n1; omega))
        have HOC := Lib.hid hoC
        have HOB2 := Lib.hid (own_turn HOB.out HPB.out.wa hgC)
        have htl : (toldW l now).length < 10000 := by rw [← toldAt_all]; have := toldAt_len l (nearI now) l.length; have := HP.out.n1; omega
        clear hoC hwC hgC k0 k1 k2 k3 hkB
        go_wp2_with fail
        refine (keys_true wC _ _ _ _ (toldW l now) HOC.out HOB2.out htl).mono ?_
        rintro e wD ⟨rfl, hbD⟩
        have HPY := HPZ
        clear HPZ
        have HPZ := Lib.hid (HPY.out.keep hbD)
        clear hbD HPY
        go_wp2_with fail
        refine (same_true _ a b w.heap.size _ _ HPZ.out.wa HPZ.out.rw HPZ.out.g1 (by have := HPZ.out.n1; omega)).mono ?_
        rintro e w9 ⟨rfl, hb9⟩
        have HP9 := Lib.hid (HPZ.out.keep hb9)
        clear hb9
        go_wp2_with fail
        go_roundw
        case rel => exact ⟨k + 1, _, by go_num, by omega, HP9⟩
        case measure => simp [intOf]; omega
      have r7 := beqF q7
      by_cases q8 : kd % 9 = 8
      · have r8 := beqT q8
        go_wp2_with fail
        have HPA := Lib.hid ((HP.out.more (Nat.le_succ k)).keep (below_alloc wr (.cells #[.int .u8 kd, .int .i64 o, .int .i64 d, .int .i64 now] 45)))
        have hk0' := heap_new wr (.cells #[.int .u8 kd, .int .i64 o, .int .i64 d, .int .i64 now] 45)
        have hbz : wr.heap.size ≠ b := by have := HP.out.wa.lt; omega
        generalize wr.alloc (.cells #[.int .u8 kd, .int .i64 o, .int .i64 d, .int .i64 now] 45) = wA at HPA hk0' ⊢
        refine (copy_wa wA a b l HPA.out.wa HP.out.g1 (by have := HP.out.n1; omega)).mono ?_
        rintro e wB ⟨a', b', rfl, hwB, ha', hb', hbB⟩
        have HPB := Lib.hid (HPA.out.keep hbB)
        have HC := Lib.hid hwB
        have hkB := heap_keep hk0' hbB
        have hkl' := heap_lt hk0'
        obtain ⟨k0, k1, k2, k3⟩ := cell4 hkB
        have hal := HPA.out.wa.lt
        have hsw := HPA.out.below.size
        clear hwB hbB hk0'
        go_wp2_with fail
        refine (stop_wa wB a' b' l o d HC.out ⟨ho, hd⟩).mono ?_
        rintro e wC ⟨rfl, hwC, hgC⟩
        have HPC := Lib.hid (HPB.out.other HC.out (by omega) (by omega) (by omega) hgC)
        have HC2 := Lib.hid hwC
        have hkC := (hgC.block _ (heap_lt hkB) (by simp; omega)).trans hkB
        clear hwC hgC k0 k1 k2 k3 hkB
        obtain ⟨k0, k1, k2, k3⟩ := cell4 hkC
        go_wp2_with fail
        refine (tick_wa wC a' b' (stopW l (o, d)) now HC2.out (HP.out.g1.stop _) (by have := stop_len l (o, d); have := HP.out.n1; omega)).mono ?_
        rintro e wD ⟨vD, rfl, _, _, hgD⟩
        have HPZ := Lib.hid (HPC.out.other HC2.out (by omega) (by omega) (by omega) hgD)
        clear hgD k0 k1 k2 k3 hkC
        go_wp2_with fail
        refine (same_true _ a b w.heap.size _ _ HPZ.out.wa HPZ.out.rw HPZ.out.g1 (by have := HPZ.out.n1; omega)).mono ?_
        rintro e w9 ⟨rfl, hb9⟩
        have HP9 := Lib.hid (HPZ.out.keep hb9)
        clear hb9
        go_wp2_with fail
        go_roundw
        case rel => exact ⟨k + 1, _, by go_num, by omega, HP9⟩
        case measure => simp [intOf]; omega
      have r8 := beqF q8
      go_wp2_with fail
      have HPA := Lib.hid ((HP.out.more (Nat.le_succ k)).keep (below_alloc wr (.cells #[.int .u8 kd, .int .i64 o, .int .i64 d, .int .i64 now] 45)))
      have hk0' := heap_new wr (.cells #[.int .u8 kd, .int .i64 o, .int .i64 d, .int .i64 now] 45)
      have hbz : wr.heap.size ≠ b := by have := HP.out.wa.lt; omega
      generalize wr.alloc (.cells #[.int .u8 kd, .int .i64 o, .int .i64 d, .int .i64 now] 45) = wA at HPA hk0' ⊢
      refine (start_wa wA a b l o d now HPA.out.wa (by have := HP.out.n1; omega)).mono ?_
      rintro e wB ⟨rfl, hwB, hgB⟩
      have HPB := Lib.hid (HPA.out.prog hwB hgB (HP.out.g1.start _ _) (by have := start_len l (o, d) now; have := HP.out.n1; omega))
      have hkB := (hgB.block _ (heap_lt hk0') (by simpa using hbz)).trans hk0'
      obtain ⟨k0, k1, k2, k3⟩ := cell4 hkB
      clear hwB hgB hk0'
      go_wp2_with fail
      refine (refStart_any wB w.heap.size _ l o d now HPB.out.rw (by have := HP.out.n1; omega) HPB.out.below.size).mono ?_
      rintro e wC ⟨vC, rfl, hrC, hbC⟩
      have HPZ := Lib.hid (HPB.out.ref hrC (Nat.le_refl _) hbC (HP.out.g1.start _ _) (by have := start_len l (o, d) now; have := HP.out.n1; omega))
      clear hrC hbC
      go_wp2_with fail
      refine (same_true _ a b w.heap.size _ _ HPZ.out.wa HPZ.out.rw HPZ.out.g1 (by have := HPZ.out.n1; omega)).mono ?_
      rintro e w9 ⟨rfl, hb9⟩
      have HP9 := Lib.hid (HPZ.out.keep hb9)
      clear hb9
      go_wp2_with fail
      go_roundw
      case rel => exact ⟨k + 1, _, by go_num, by omega, HP9⟩
      case measure => simp [intOf]; omega
    · obtain rfl : k = L.length := by omega
      go_wp2_with fail
      refine (waited_true wr).mono ?_
      rintro e w2 ⟨rfl, hb2⟩
      have HB := Lib.hid (bch HP.out.below hb2 HP.out.below.size)
      clear hb2
      go_wp2_with fail
      go_ret
      exact ⟨rfl, HB.out⟩
end Go.Proofs.Ytiapahafaoaniaa

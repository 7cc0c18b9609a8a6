/- waits.Tick. -/
import Derived.Test.YtiapahafaoaniaaWaitsObj
namespace Go.Proofs.Ytiapahafaoaniaa
open Go.RowKit Go.Maps Wa Key

def encK (k : Int × Int) : List Value := [.int .i64 k.1, .int .i64 k.2]
theorem encK_len (k : Int × Int) : (encK k).length = 2 := rfl
theorem key_info : (Try.prog.info? tKey).map (fun i => (i.zero, i.size, i.bytes)) = some (some (mkKey (0, 0)), 2, 16) := by kernel_rfl
theorem own_apart {w : World} {B B' : Nat} {e e' : TypeId} {v v' : Value} {n n' : Nat} {xs xs' : List Value} {z z' : Nat} (h : w.ownsRow B e z v n xs) (h' : w.ownsRow B' e' z' v' n' xs') (hne : e ≠ e') : v.ownBlock = none ∨ v.ownBlock ≠ v'.ownBlock := by
  rcases h.2 with ⟨rfl, _⟩ | ⟨g, cap, cur, rfl, _, hg, _⟩
  · exact .inl rfl
  · rcases h'.2 with ⟨rfl, _⟩ | ⟨g', cap', cur', rfl, _, hg', _⟩
    · exact .inr (by simp [Value.ownBlock])
    · refine .inr fun e => ?_
      simp only [Value.ownBlock, Option.some.injEq] at e
      subst e
      rw [hg] at hg'
      injection hg' with hg'
      injection hg' with _ ht
      exact hne ht
theorem two_at (w : World) (g : Nat) (hg : g = w.heap.size) (x0 x1 : Value) (T : TypeId) : ∀ j u, [x0, x1][j]? = some u → (w.alloc (.cells #[x0, x1] T)).cell? ((⟨g, 0, none⟩ : Addr).add j) = some u := by
  subst hg
  intro j u hj
  match j, hj with
  | 0, hj => simp at hj; subst hj; simp [Addr.add]
  | 1, hj => simp at hj; subst hj; simp [Addr.add]
/-- The five cells of the i-th one of a row. -/
theorem row_cells {w : World} {B g cap : Nat} {l : List W5} {i : Nat} {x : W5} (h : w.ownsRow B tWait 5 (.slice (some ⟨g, 0, none⟩) l.length cap) l.length (l.flatMap encW)) (hx : l[i]? = some x) (j : Nat) (hj : j < 5) :
    w.cell? ⟨g, i * 5 + j, none⟩ = (encW x)[j]? := by
  have hi := (List.getElem?_eq_some_iff.1 hx).1
  rw [h.cellAt _ (by omega), flat_get encW_len (by omega), show (i * 5 + j) / 5 = i by omega, show (i * 5 + j) % 5 = j by omega, hx]
  rfl

theorem near_idem (n : Int) : nearI (nearI n) = nearI n := by unfold nearI; repeat' split <;> omega
theorem grown_drew {w w' : World} {row : Option Nat} (h : w.grownBy w' row) : w.grownBy w'.drew row := ⟨h.os, h.tape, h.output, h.size, h.block⟩
theorem cell5 {w : World} {b : Nat} {x0 x1 x2 x3 x4 : Value} {T : TypeId} (h : w.heap[b]? = some (.cells #[x0, x1, x2, x3, x4] T (0, 0))) : w.cell? ⟨b, 0, none⟩ = some x0 ∧ w.cell? ⟨b, 1, none⟩ = some x1 ∧ w.cell? ⟨b, 2, none⟩ = some x2 ∧ w.cell? ⟨b, 3, none⟩ = some x3 ∧ w.cell? ⟨b, 4, none⟩ = some x4 :=
  ⟨cell_at h 0 rfl, cell_at h 1 rfl, cell_at h 2 rfl, cell_at h 3 rfl, cell_at h 4 rfl⟩

set_option maxRecDepth 100000 in
set_option maxHeartbeats 2000000 in
theorem tick_wa (w : World) (a b : Nat) (l : List W5) (now : Int) (h : WA w a b l) (hgd : Wa.Good l) (hl : l.length < 10000) :
    Calls Try.prog 16 #[.pointer (some ⟨a, 0, none⟩), .int .i64 now] w fun e w' => ∃ v, e = .returned v ∧ w'.ownsRow w.heap.size tKey 2 v (toldW l now).length ((toldW l now).flatMap encK) ∧ WA w' a b (tickW l now) ∧ w.grownBy w' (some b) := by
  obtain ⟨i0, hi, hz0, hz1, hz2⟩ := info_parts key_info
  have HM := Lib.hid h
  have HG := Lib.hid hgd
  have hab := h.lt
  have hn := after_any now 0 w (by omega) (by omega)
  rw [Int.add_zero] at hn
  obtain ⟨m, hm⟩ : ∃ m, nearI now = m := ⟨_, rfl⟩
  rw [hm] at hn
  clear h hgd
  go_enter Try.func16, Try.ntmps16
  go_wp2_with fail
  refine hn.mono ?_
  rintro e w0 ⟨rfl, hw⟩; subst hw
  go_wp2_with fail
  refine (list_wa _ a b l HM.out HG.out (by omega)).mono ?_
  rintro e w1 ⟨vl, rfl, ho, hb⟩
  have HR := Lib.hid ho
  have HB := Lib.hid hb
  have HM1 := Lib.hid (HM.out.below hb)
  have hsz := hb.size
  rcases ho.2 with ⟨rfl, h0⟩ | ⟨g, cap, cur, hv, hg, hcur, hnc, hcap, _, _⟩
  · clear ho hb hn
    obtain rfl := List.eq_nil_of_length_eq_zero h0
    have e0 : ((([] : List W5).length : Nat) : Int) = 0 := rfl
    go_wp2_with fail
    refine wp_loop_rounds 1 ?_
    rw [rounds_succ]
    go_wp2_with fail
    go_ret
    exact ⟨_, rfl, World.ownsRow_nil _ _ _ _, HM1.out, grown_of_below HB.out _⟩
  · subst hv
    clear ho hb hn hcur
    have hnl : (l.length : Int) < 10000 := by omega
    go_wp2_with fail
    go_loopw [5, 13] (fun v i wr => ∃ k : Nat, i = .int .i64 k ∧ k ≤ l.length ∧ Hid (MapL Try.prog tKey mkKey mkWait wr b (ent (tickAt l m k))) ∧ wr.ownsRow w.heap.size tKey 2 v (toldAt l m k).length ((toldAt l m k).flatMap encK) ∧ Hid (wr.ownsRow w.heap.size tWait 5 (.slice (some ⟨g, 0, none⟩) l.length cap) l.length (l.flatMap encW)) ∧ Hid (w.grownBy wr (some b))) (fun _ i _ => l.length - (intOf i).toNat)
    case atStart =>
      exact ⟨0, rfl, Nat.zero_le _, by rw [tickAt_zero]; exact HM1.out.mp, by rw [toldAt_zero]; exact World.ownsRow_nil _ _ _ _, HR.out, grown_of_below HB.out _⟩
    case round =>
      obtain ⟨k, rfl, hk, HMK, hrow, HRK, HGR⟩ := hrel
      by_cases hkl : k < l.length
      · obtain ⟨x, hx⟩ : ∃ x, l[k]? = some x := ⟨_, List.getElem?_eq_getElem hkl⟩
        have c0 := row_cells HRK.out hx 0 (by omega)
        have c1 := row_cells HRK.out hx 1 (by omega)
        have c2 := row_cells HRK.out hx 2 (by omega)
        have c3 := row_cells HRK.out hx 3 (by omega)
        have c4 := row_cells HRK.out hx 4 (by omega)
        obtain ⟨⟨o, d⟩, t, n, p⟩ := x
        simp only [encW, List.getElem?_cons_zero, List.getElem?_cons_succ] at c0 c1 c2 c3 c4
        have hlt : (k : Int) < l.length := by omega
        have hk0 : (0 : Int) ≤ k := by omega
        rw [Nat.add_zero] at c0
        have hxg := HG.out.bd _ (List.mem_of_getElem? hx)
        obtain ⟨kl, hkl'⟩ := key_chk (HG.out.keys _ (List.mem_of_getElem? hx))
        have HL := Lib.hid hkl'
        have HX := Lib.hid hx
        have hszr := HGR.out.size
        have hca : wr.cell? ⟨a, 0, none⟩ = some (.map (some b)) := (World.cell?_of_block (a := ⟨a, 0, none⟩) (HGR.out.block a hab.1 (by simp; exact hab.2.2))).trans HM.out.cell
        simp only [] at hxg
        clear hx hkl'
        have hrl : ∀ x, some x = u5.ownBlock → x < wr.heap.size := fun x e => (hrow.lt x e.symm).2
        have hrel : tickX m ((o, d), t, n, p) = ((o, d), t, n, p) → tellB m ((o, d), t, n, p) = false → ∀ ob : Obj, Hid (MapL Try.prog tKey mkKey mkWait (wr.alloc ob) b (ent (tickAt l m (k + 1)))) ∧ (wr.alloc ob).ownsRow w.heap.size tKey 2 u5 (toldAt l m (k + 1)).length ((toldAt l m (k + 1)).flatMap encK) ∧ Hid ((wr.alloc ob).ownsRow w.heap.size tWait 5 (.slice (some ⟨g, 0, none⟩) l.length cap) l.length (l.flatMap encW)) ∧ Hid (w.grownBy (wr.alloc ob) (some b)) := fun h1 h2 ob =>
          ⟨by rw [tickAt_same HX.out h1]; exact HMK.out.alloc _, by rw [toldAt_succ HX.out, h2]; simpa using hrow.alloc ob, HRK.out.alloc _, HGR.out.trans (World.grownBy_alloc wr ob _)⟩
        have HREL := Lib.hid hrel
        clear hrel
        cases p with
        | true =>
          have HT := Lib.hid (show tickX m ((o, d), t, n, true) = ((o, d), t, n, true) ∧ tellB m ((o, d), t, n, true) = false by simp [tickX, tellB, dueB])
          go_wp2_with fail
          go_roundw
          case rel => exact ⟨k + 1, by go_num, by omega, HREL.out HT.out.1 HT.out.2 _⟩
          case measure => simp [intOf]; omega
        | false =>
          by_cases hnm : m < n
          · have HT := Lib.hid (show tickX m ((o, d), t, n, false) = ((o, d), t, n, false) ∧ tellB m ((o, d), t, n, false) = false by simp [tickX, tellB, dueB, show ¬ n ≤ m by omega])
            go_wp2_with fail
            go_roundw
            case rel => exact ⟨k + 1, by go_num, by omega, HREL.out HT.out.1 HT.out.2 _⟩
            case measure => simp [intOf]; omega
          · have hnm' : n ≤ m := by omega
            by_cases ht5 : 5 ≤ t
            · have HT := Lib.hid (show tickX m ((o, d), t, n, false) = ((o, d), t, n, true) ∧ tellB m ((o, d), t, n, false) = false by simp [tickX, tellB, dueB, hnm', ht5])
              go_wp2_with fail
              obtain ⟨e0, e1, e2, e3, e4⟩ := cell5 (heap_new wr (.cells #[.int .i64 o, .int .i64 d, .int .i64 t, .int .i64 n, .bool true] tWait))
              have HM2 := Lib.hid (HMK.out.alloc (.cells #[.int .i64 o, .int .i64 d, .int .i64 t, .int .i64 n, .bool true] tWait))
              have hrow2 := hrow.alloc (.cells #[.int .i64 o, .int .i64 d, .int .i64 t, .int .i64 n, .bool true] tWait)
              have HRK2 := Lib.hid (HRK.out.alloc (.cells #[.int .i64 o, .int .i64 d, .int .i64 t, .int .i64 n, .bool true] tWait))
              have HGR2 := Lib.hid (HGR.out.trans (World.grownBy_alloc wr (.cells #[.int .i64 o, .int .i64 d, .int .i64 t, .int .i64 n, .bool true] tWait) (some b)))
              have hca2 := ((below_alloc wr (.cells #[.int .i64 o, .int .i64 d, .int .i64 t, .int .i64 n, .bool true] tWait)).cell (p := ⟨a, 0, none⟩) (by simp only []; omega)).trans hca
              clear hrow hca hrl
              generalize wr.alloc (.cells #[.int .i64 o, .int .i64 d, .int .i64 t, .int .i64 n, .bool true] tWait) = w2 at e0 e1 e2 e3 e4 HM2 hrow2 HRK2 HGR2 hca2 ⊢
              refine wp_region_still_tail 7 (by kernel_rfl) (by kernel_rfl) ?_
              simp only [List.take_succ_cons, List.take_zero, List.drop_succ_cons, List.drop_zero]
              iterate 7 still_step
              refine wpStill_nil ?_
              change wpList _ _ _ _ _ w2.drew
              refine wpList_storeL _ rfl (.tmp 49) (.tmp 51) (.tmp 52) tMapW rfl tKey tWait lawKey mapW b _ rfl (HM2.out.block rfl) (by rw [ent_len, tickAt_len]; unfold maxLen; omega) (o, d) ((o, d), t, n, true) rfl rfl HL.out (mkKey_inj _) ?_
              intro w3 hm3 ht3
              have hp := tickAt_perm (m := m) HG.out HX.out
              rw [HT.out.1] at hp
              have HM3 := Lib.hid (hm3.perm hp)
              have HGR3 := Lib.hid ((grown_drew HGR2.out).trans ht3.grown)
              have hrow3 := World.ownsRow.kept (w := w2.drew) hrow2 ht3.grown (.inr (row_ne hrow2 hab.2.1).symm)
              have HRK3 := Lib.hid (World.ownsRow.kept (w := w2.drew) HRK2.out ht3.grown (.inr (row_ne HRK2.out hab.2.1).symm))
              clear hm3 ht3 hrow2 hp
              go_wp2_with fail
              go_roundw
              case rel => exact ⟨k + 1, by go_num, by omega, HM3, by rw [toldAt_succ HX.out, HT.out.2]; simpa using hrow3, HRK3, HGR3⟩
              case measure => simp [intOf]; omega
            · have HT := Lib.hid (show tickX m ((o, d), t, n, false) = ((o, d), t + 1, m + gapI (t + 1), false) ∧ tellB m ((o, d), t, n, false) = true by simp [tickX, tellB, dueB, hnm', ht5, show t < 5 by omega])
              have hgb := gap_bd (t + 1)
              have hmb := near_bd now
              have hmi := near_idem now
              rw [hm] at hmb hmi
              have hta := toldAt_len l m k
              have G1 := Lib.hid fun W => gap_any (t + 1) W (by omega) (by omega)
              have hG2 := fun W => after_any m (gapI (t + 1)) W hgb.1 hgb.2
              rw [hmi] at hG2
              have G2 := Lib.hid hG2
              clear hG2 hmi
              go_wp2_with fail
              refine (G1.out _).mono ?_
              rintro e wx ⟨rfl, hw⟩; subst hw
              go_wp2_with fail
              refine (G2.out _).mono ?_
              rintro e wx ⟨rfl, hw⟩; subst hw
              go_wp2_with (first
                | (at_builtin; go_loud (refine wpList_append_own_at _ rfl (.tmp 27) (.tmp 30) 34 rfl w.heap.size tKey i0 (mkKey (0, 0)) 2 16 Try.underlying34 hi hz0 hz1 hz2 rfl (by decide) u5 (toldAt l m k).length ((toldAt l m k).flatMap encK) rfl ((hrow.alloc _).alloc _) ⟨wr.heap.size + 1, 0, none⟩ 1 1 (encK (o, d)) rfl rfl (two_at _ _ (by simp) _ _ _) (by intro u hu; simp [encK] at hu; rcases hu with rfl | rfl <;> rfl) (by unfold maxLen; omega) (by omega) (by simp; omega) ?_; intro v2 w2 ho2 hg2 _ hat2; obtain ⟨e0, e1, e2, e3, e4⟩ := cell5 ((hg2.block _ (by simp; omega) (fun e => by have := hrl _ e; omega)).trans (heap_keep (heap_new wr (.cells #[.int .i64 o, .int .i64 d, .int .i64 (t + 1), .int .i64 (m + gapI (t + 1)), .bool false] tWait)) (below_alloc _ _))); have HM2 := Lib.hid (((HMK.out.alloc (.cells #[.int .i64 o, .int .i64 d, .int .i64 (t + 1), .int .i64 (m + gapI (t + 1)), .bool false] tWait)).alloc (.cells #[.int .i64 o, .int .i64 d] tKey)).kept hg2 (row_ne hrow hab.2.1)); have HRK2 := Lib.hid (((HRK.out.alloc (.cells #[.int .i64 o, .int .i64 d, .int .i64 (t + 1), .int .i64 (m + gapI (t + 1)), .bool false] tWait)).alloc (.cells #[.int .i64 o, .int .i64 d] tKey)).kept hg2 (own_apart HRK.out hrow (by decide))); have HGR2 := Lib.hid (World.grownBy.andThen ((HGR.out.trans (World.grownBy_alloc wr (.cells #[.int .i64 o, .int .i64 d, .int .i64 (t + 1), .int .i64 (m + gapI (t + 1)), .bool false] tWait) (some b))).trans (World.grownBy_alloc _ (.cells #[.int .i64 o, .int .i64 d] tKey) (some b))) hg2 (fun j hj => .inl ((hrow.lt j hj).1))); have hca2 := (World.cell?_of_block (a := ⟨a, 0, none⟩) (hg2.block a (by simp; omega) (row_ne hrow hab.1))).trans ((((below_alloc wr (.cells #[.int .i64 o, .int .i64 d, .int .i64 (t + 1), .int .i64 (m + gapI (t + 1)), .bool false] tWait)).alloc (by simp) (.cells #[.int .i64 o, .int .i64 d] tKey)).cell (p := ⟨a, 0, none⟩) (by simp only []; omega)).trans hca); have hrow2 := ho2; clear ho2 hg2 hat2 hrow hca hrl)))
              refine wp_region_still_tail 7 (by kernel_rfl) (by kernel_rfl) ?_
              simp only [List.take_succ_cons, List.take_zero, List.drop_succ_cons, List.drop_zero]
              iterate 7 still_step
              refine wpStill_nil ?_
              change wpList _ _ _ _ _ w2.drew
              refine wpList_storeL _ rfl (.tmp 49) (.tmp 51) (.tmp 52) tMapW rfl tKey tWait lawKey mapW b _ rfl (HM2.out.block rfl) (by rw [ent_len, tickAt_len]; unfold maxLen; omega) (o, d) ((o, d), t + 1, m + gapI (t + 1), false) rfl rfl HL.out (mkKey_inj _) ?_
              intro w3 hm3 ht3
              have hp := tickAt_perm (m := m) HG.out HX.out
              rw [HT.out.1] at hp
              have HM3 := Lib.hid (hm3.perm hp)
              have HGR3 := Lib.hid ((grown_drew HGR2.out).trans ht3.grown)
              have hrow3 := World.ownsRow.kept (w := w2.drew) hrow2 ht3.grown (.inr (row_ne hrow2 hab.2.1).symm)
              have HRK3 := Lib.hid (World.ownsRow.kept (w := w2.drew) HRK2.out ht3.grown (.inr (row_ne HRK2.out hab.2.1).symm))
              clear hm3 ht3 hrow2 hp
              go_wp2_with fail
              go_roundw
              case rel => exact ⟨k + 1, by go_num, by omega, HM3, by rw [toldAt_succ HX.out, HT.out.2]; simpa using hrow3, HRK3, HGR3⟩
              case measure => simp [intOf]; omega
      · obtain rfl : k = l.length := by omega
        have HROW := Lib.hid hrow
        clear hrow
        go_wp2_with fail
        go_ret
        have h1 := HROW.out
        have h2 := HMK.out
        rw [← hm] at h1 h2
        rw [toldAt_all] at h1
        rw [tickAt_all] at h2
        exact ⟨_, rfl, h1, HM.out.turn HGR.out h2 (List.Perm.refl _), HGR.out⟩
end Go.Proofs.Ytiapahafaoaniaa

/- Waits in memory, by the list that they are: Start, Due, Stop, New, List. -/
import Derived.Test.YtlkncmpengpbiaaGreatDoorWaitsPure
import Derived.BigRegion
namespace Go.Proofs.YtlkncmpengpbiaaGreatDoor
open Go.RowKit Go.Maps Wa Key
set_option maxRecDepth 100000

abbrev tWaits : TypeId := 118
structure WA (w : World) (a b : Nat) (l : List W5) : Prop where
  hd : w.heap[a]? = some (.cells #[.map (some b)] tWaits (0, 0))
  mp : MapL Tryz.prog tKey mkKey mkWait w b (ent l)

theorem WA.cell {w : World} {a b : Nat} {l : List W5} (h : WA w a b l) : w.cell? ⟨a, 0, none⟩ = some (.map (some b)) := cell_at h.hd 0 rfl
theorem WA.lt {w : World} {a b : Nat} {l : List W5} (h : WA w a b l) : a < w.heap.size ∧ b < w.heap.size ∧ a ≠ b := by
  obtain ⟨⟨D, h1, _⟩, _⟩ := h.mp
  refine ⟨heap_lt h.hd, h1.lt, fun e => ?_⟩
  subst e
  obtain ⟨es, c, hb, _⟩ := h1
  rw [h.hd] at hb
  cases hb
theorem WA.kept {w w' : World} {a b : Nat} {l : List W5} {row : Option Nat} (h : WA w a b l) (hg : w.grownBy w' row) (ha : some a ≠ row) (hb : some b ≠ row) : WA w' a b l :=
  ⟨(hg.block a h.lt.1 ha).trans h.hd, h.mp.kept hg hb⟩
theorem WA.below {w w' : World} {a b : Nat} {l : List W5} (h : WA w a b l) (hb : Below w.heap.size w w') : WA w' a b l := h.kept (grown_of_below hb none) (by simp) (by simp)
theorem WA.turn {w w' : World} {a b : Nat} {l m : List W5} {E : List ((Int × Int) × W5)} (h : WA w a b l) (hg : w.grownBy w' (some b)) (hm : MapL Tryz.prog tKey mkKey mkWait w' b E) (hp : E.Perm (ent m)) : WA w' a b m :=
  ⟨(hg.block a h.lt.1 (by have := h.lt.2.2; simp; exact this)).trans h.hd, hm.perm hp⟩

theorem start_wa (w : World) (a b : Nat) (l : List W5) (o d now : Int) (h : WA w a b l) (hl : l.length < 100000) :
    Calls Tryz.prog 30 #[.pointer (some ⟨a, 0, none⟩), .agg #[.int .i64 o, .int .i64 d], .int .i64 now] w fun e w' => e = .returned (.tuple #[]) ∧ WA w' a b (startW l (o, d) now) ∧ w.grownBy w' (some b) := by
  cases hk : chkB (o, d) with
  | true =>
    refine (start_store w a b (ent l) o d now h.cell h.mp (by rw [ent_len]; exact hl) hk).mono fun e w' ⟨he, hm, hg⟩ => ⟨he, h.turn hg hm ?_, hg⟩
    have := store_perm l ((o, d), 1, nearI now + 1, false)
    simpa [startW, putW, hk] using this
  | false =>
    refine (start_no w a b o d now h.cell hk).mono fun e w' ⟨he, hb⟩ => ⟨he, ?_, grown_of_below hb _⟩
    rw [show startW l (o, d) now = l by simp [startW, putW, hk]]
    exact h.below hb
theorem due_wa (w : World) (a b : Nat) (l : List W5) (o d now : Int) (h : WA w a b l) (hl : l.length < 100000) :
    Calls Tryz.prog 38 #[.pointer (some ⟨a, 0, none⟩), .agg #[.int .i64 o, .int .i64 d], .int .i64 now] w fun e w' => e = .returned (.tuple #[]) ∧ WA w' a b (dueW l (o, d) now) ∧ w.grownBy w' (some b) := by
  cases hk : chkB (o, d) with
  | true =>
    refine (due_store w a b (ent l) o d now h.cell h.mp (by rw [ent_len]; exact hl) hk).mono fun e w' ⟨he, hm, hg⟩ => ⟨he, h.turn hg hm ?_, hg⟩
    have := store_perm l ((o, d), 0, nearI now, false)
    simpa [dueW, putW, hk] using this
  | false =>
    refine (due_no w a b o d now h.cell hk).mono fun e w' ⟨he, hb⟩ => ⟨he, ?_, grown_of_below hb _⟩
    rw [show dueW l (o, d) now = l by simp [dueW, putW, hk]]
    exact h.below hb
theorem stop_wa (w : World) (a b : Nat) (l : List W5) (o d : Int) (h : WA w a b l) (hk : (-9223372036854775808 ≤ o ∧ o ≤ 9223372036854775807) ∧ (-9223372036854775808 ≤ d ∧ d ≤ 9223372036854775807)) :
    Calls Tryz.prog 32 #[.pointer (some ⟨a, 0, none⟩), .agg #[.int .i64 o, .int .i64 d]] w fun e w' => e = .returned (.tuple #[]) ∧ WA w' a b (stopW l (o, d)) ∧ w.grownBy w' (some b) :=
  (stop_store w a b (ent l) o d h.cell h.mp hk).mono fun e w' ⟨he, hm, hg⟩ => ⟨he, h.turn hg hm (by rw [without_ent]), hg⟩
theorem new_wa (w : World) : Calls Tryz.prog 37 #[] w fun e w' => ∃ a b, e = .returned (.pointer (some ⟨a, 0, none⟩)) ∧ WA w' a b [] ∧ w.heap.size ≤ a ∧ w.heap.size ≤ b ∧ Below w.heap.size w w' :=
  (new_any w).mono fun _ _ ⟨a, b, he, h1, h2, h3, h4, _, h5⟩ => ⟨a, b, he, ⟨h1, h2⟩, h3, h4, h5⟩
theorem list_wa (w : World) (a b : Nat) (l : List W5) (h : WA w a b l) (hg : Wa.Good l) (hl : l.length < 100000) :
    Calls Tryz.prog 41 #[.pointer (some ⟨a, 0, none⟩)] w fun e w' => ∃ v, e = .returned v ∧ w'.ownsRow w.heap.size tWait 5 v l.length (l.flatMap encW) ∧ Below w.heap.size w w' := by
  refine (list_any w a b (ent l) h.cell h.mp (by rw [ent_len]; exact hl)).mono ?_
  rintro e w' ⟨v, L, he, hp, hs, ho, hb⟩
  rw [ent_snd] at hp
  obtain rfl := hg.eq_of_perm hp hs
  exact ⟨v, he, ho, hb⟩
end Go.Proofs.YtlkncmpengpbiaaGreatDoor
/- waits.Tick. -/
namespace Go.Proofs.YtlkncmpengpbiaaGreatDoor
open Go.RowKit Go.Maps Wa Key

/-- The five cells of the i-th one of a row. -/
theorem row_cells {w : World} {B g cap : Nat} {l : List W5} {i : Nat} {x : W5} (h : w.ownsRow B tWait 5 (.slice (some ⟨g, 0, none⟩) l.length cap) l.length (l.flatMap encW)) (hx : l[i]? = some x) (j : Nat) (hj : j < 5) :
    w.cell? ⟨g, i * 5 + j, none⟩ = (encW x)[j]? := by
  have hi := (List.getElem?_eq_some_iff.1 hx).1
  rw [h.cellAt _ (by omega), flat_get encW_len (by omega), show (i * 5 + j) / 5 = i by omega, show (i * 5 + j) % 5 = j by omega, hx]
  rfl

theorem near_idem (n : Int) : nearI (nearI n) = nearI n := by unfold nearI; repeat' split <;> omega
set_option maxRecDepth 100000 in
set_option maxHeartbeats 2000000 in
theorem tick_wa (w : World) (a b : Nat) (l : List W5) (now : Int) (h : WA w a b l) (hgd : Wa.Good l) (hl : l.length < 10000) :
    Calls Tryz.prog 35 #[.pointer (some ⟨a, 0, none⟩), .int .i64 now] w fun e w' => ∃ v, e = .returned v ∧ w'.ownsRow w.heap.size tKey 2 v (toldW l now).length ((toldW l now).flatMap encK) ∧ WA w' a b (tickW l now) ∧ w.grownBy w' (some b) := by
  obtain ⟨i0, hi, hz0, hz1, hz2⟩ := info_parts key_info
  have HM := Lib.hid h
  have HG := Lib.hid hgd
  have hab := h.lt
  have hn := after_any now 0 w (by omega) (by omega)
  rw [Int.add_zero] at hn
  obtain ⟨m, hm⟩ : ∃ m, nearI now = m := ⟨_, rfl⟩
  rw [hm] at hn
  clear h hgd
  go_enter Tryz.func35, Tryz.ntmps35
  go_wp2_with fail
  refine hn.mono ?_
  rintro e w0 ⟨rfl, hw⟩; subst hw
  go_wp2_with fail
  refine (list_wa _ a b l HM.out HG.out (by omega)).mono ?_
  rintro e w1 ⟨vl, rfl, ho, hb⟩
  have HR := Lib.hid ho
  have HB := Lib.hid hb
  have HM1 := Lib.hid (HM.out.below hb)
  have hsz := hb.size
  rcases ho.2 with ⟨rfl, h0⟩ | ⟨g, cap, cur, hv, hg, hcur, hnc, hcap, _, _⟩
  · clear ho hb hn
    obtain rfl := List.eq_nil_of_length_eq_zero h0
    have e0 : ((([] : List W5).length : Nat) : Int) = 0 := rfl
    go_wp2_with fail
    refine wp_loop_rounds 1 ?_
    rw [rounds_succ]
    go_wp2_with fail
    go_ret
    exact ⟨_, rfl, World.ownsRow_nil _ _ _ _, HM1.out, grown_of_below HB.out _⟩
  · subst hv
    clear ho hb hn hcur
    have hnl : (l.length : Int) < 10000 := by omega
    go_wp2_with fail
    go_loopw [5, 13] (fun v i wr => ∃ k : Nat, i = .int .i64 k ∧ k ≤ l.length ∧ Hid (MapL Tryz.prog tKey mkKey mkWait wr b (ent (tickAt l m k))) ∧ wr.ownsRow w.heap.size tKey 2 v (toldAt l m k).length ((toldAt l m k).flatMap encK) ∧ Hid (wr.ownsRow w.heap.size tWait 5 (.slice (some ⟨g, 0, none⟩) l.length cap) l.length (l.flatMap encW)) ∧ Hid (w.grownBy wr (some b))) (fun _ i _ => l.length - (intOf i).toNat)
    case atStart =>
      exact ⟨0, rfl, Nat.zero_le _, by rw [tickAt_zero]; exact HM1.out.mp, by rw [toldAt_zero]; exact World.ownsRow_nil _ _ _ _, HR.out, grown_of_below HB.out _⟩
    case round =>
      obtain ⟨k, rfl, hk, HMK, hrow, HRK, HGR⟩ := hrel
      by_cases hkl : k < l.length
      · obtain ⟨x, hx⟩ : ∃ x, l[k]? = some x := ⟨_, List.getElem?_eq_getElem hkl⟩
        have c0 := row_cells HRK.out hx 0 (by omega)
        have c1 := row_cells HRK.out hx 1 (by omega)
        have c2 := row_cells HRK.out hx 2 (by omega)
        have c3 := row_cells HRK.out hx 3 (by omega)
        have c4 := row_cells HRK.out hx 4 (by omega)
        obtain ⟨⟨o, d⟩, t, n, p⟩ := x
        simp only [encW, List.getElem?_cons_zero, List.getElem?_cons_succ] at c0 c1 c2 c3 c4
        have hlt : (k : Int) < l.length := by omega
        have hk0 : (0 : Int) ≤ k := by omega
        rw [Nat.add_zero] at c0
        have hxg := HG.out.bd _ (List.mem_of_getElem? hx)
        obtain ⟨kl, hkl'⟩ := key_chk (HG.out.keys _ (List.mem_of_getElem? hx))
        have HL := Lib.hid hkl'
        have HX := Lib.hid hx
        have hszr := HGR.out.size
        have hca : wr.cell? ⟨a, 0, none⟩ = some (.map (some b)) := (World.cell?_of_block (a := ⟨a, 0, none⟩) (HGR.out.block a hab.1 (by simp; exact hab.2.2))).trans HM.out.cell
        simp only [] at hxg
        clear hx hkl'
        have hrl : ∀ x, some x = u5.ownBlock → x < wr.heap.size := fun x e => (hrow.lt x e.symm).2
        have hrel : tickX m ((o, d), t, n, p) = ((o, d), t, n, p) → tellB m ((o, d), t, n, p) = false → ∀ ob : Obj, Hid (MapL Tryz.prog tKey mkKey mkWait (wr.alloc ob) b (ent (tickAt l m (k + 1)))) ∧ (wr.alloc ob).ownsRow w.heap.size tKey 2 u5 (toldAt l m (k + 1)).length ((toldAt l m (k + 1)).flatMap encK) ∧ Hid ((wr.alloc ob).ownsRow w.heap.size tWait 5 (.slice (some ⟨g, 0, none⟩) l.length cap) l.length (l.flatMap encW)) ∧ Hid (w.grownBy (wr.alloc ob) (some b)) := fun h1 h2 ob =>
          ⟨by rw [tickAt_same HX.out h1]; exact HMK.out.alloc _, by rw [toldAt_succ HX.out, h2]; simpa using hrow.alloc ob, HRK.out.alloc _, HGR.out.trans (World.grownBy_alloc wr ob _)⟩
        have HREL := Lib.hid hrel
        clear hrel
        cases p with
        | true =>
          have HT := Lib.hid (show tickX m ((o, d), t, n, true) = ((o, d), t, n, true) ∧ tellB m ((o, d), t, n, true) = false by simp [tickX, tellB, dueB])
          go_wp2_with fail
          go_roundw
          case rel => exact ⟨k + 1, by go_num, by omega, HREL.out HT.out.1 HT.out.2 _⟩
          case measure => simp [intOf]; omega
        | false =>
          by_cases hnm : m < n
          · have HT := Lib.hid (show tickX m ((o, d), t, n, false) = ((o, d), t, n, false) ∧ tellB m ((o, d), t, n, false) = false by simp [tickX, tellB, dueB, show ¬ n ≤ m by omega])
            go_wp2_with fail
            go_roundw
            case rel => exact ⟨k + 1, by go_num, by omega, HREL.out HT.out.1 HT.out.2 _⟩
            case measure => simp [intOf]; omega
          · have hnm' : n ≤ m := by omega
            by_cases ht5 : 5 ≤ t
            · have HT := Lib.hid (show tickX m ((o, d), t, n, false) = ((o, d), t, n, true) ∧ tellB m ((o, d), t, n, false) = false by simp [tickX, tellB, dueB, hnm', ht5])
              go_wp2_with fail
              obtain ⟨e0, e1, e2, e3, e4⟩ := cell5 (heap_new wr (.cells #[.int .i64 o, .int .i64 d, .int .i64 t, .int .i64 n, .bool true] tWait))
              have HM2 := Lib.hid (HMK.out.alloc (.cells #[.int .i64 o, .int .i64 d, .int .i64 t, .int .i64 n, .bool true] tWait))
              have hrow2 := hrow.alloc (.cells #[.int .i64 o, .int .i64 d, .int .i64 t, .int .i64 n, .bool true] tWait)
              have HRK2 := Lib.hid (HRK.out.alloc (.cells #[.int .i64 o, .int .i64 d, .int .i64 t, .int .i64 n, .bool true] tWait))
              have HGR2 := Lib.hid (HGR.out.trans (World.grownBy_alloc wr (.cells #[.int .i64 o, .int .i64 d, .int .i64 t, .int .i64 n, .bool true] tWait) (some b)))
              have hca2 := ((below_alloc wr (.cells #[.int .i64 o, .int .i64 d, .int .i64 t, .int .i64 n, .bool true] tWait)).cell (p := ⟨a, 0, none⟩) (by simp only []; omega)).trans hca
              clear hrow hca hrl
              generalize wr.alloc (.cells #[.int .i64 o, .int .i64 d, .int .i64 t, .int .i64 n, .bool true] tWait) = w2 at e0 e1 e2 e3 e4 HM2 hrow2 HRK2 HGR2 hca2 ⊢
              refine wp_region_still_tail 7 (by kernel_rfl) (by kernel_rfl) ?_
              simp only [List.take_succ_cons, List.take_zero, List.drop_succ_cons, List.drop_zero]
              iterate 7 still_step
              refine wpStill_nil ?_
              change wpList _ _ _ _ _ w2.drew
              refine wpList_storeL _ rfl (.tmp 49) (.tmp 51) (.tmp 52) tMapW rfl tKey tWait lawKey mapW b _ rfl (HM2.out.block rfl) (by rw [ent_len, tickAt_len]; unfold maxLen; omega) (o, d) ((o, d), t, n, true) rfl rfl HL.out (mkKey_inj _) ?_
              intro w3 hm3 ht3
              have hp := tickAt_perm (m := m) HG.out HX.out
              rw [HT.out.1] at hp
              have HM3 := Lib.hid (hm3.perm hp)
              have HGR3 := Lib.hid ((grown_drew HGR2.out).trans ht3.grown)
              have hrow3 := World.ownsRow.kept (w := w2.drew) hrow2 ht3.grown (.inr (row_ne hrow2 hab.2.1).symm)
              have HRK3 := Lib.hid (World.ownsRow.kept (w := w2.drew) HRK2.out ht3.grown (.inr (row_ne HRK2.out hab.2.1).symm))
              clear hm3 ht3 hrow2 hp
              go_wp2_with fail
              go_roundw
              case rel => exact ⟨k + 1, by go_num, by omega, HM3, by rw [toldAt_succ HX.out, HT.out.2]; simpa using hrow3, HRK3, HGR3⟩
              case measure => simp [intOf]; omega
            · have HT := Lib.hid (show tickX m ((o, d), t, n, false) = ((o, d), t + 1, m + gapI (t + 1), false) ∧ tellB m ((o, d), t, n, false) = true by simp [tickX, tellB, dueB, hnm', ht5, show t < 5 by omega])
              have hgb := gap_bd (t + 1)
              have hmb := near_bd now
              have hmi := near_idem now
              rw [hm] at hmb hmi
              have hta := toldAt_len l m k
              have G1 := Lib.hid fun W => gap_any (t + 1) W (by omega) (by omega)
              have hG2 := fun W => after_any m (gapI (t + 1)) W hgb.1 hgb.2
              rw [hmi] at hG2
              have G2 := Lib.hid hG2
              clear hG2 hmi
              go_wp2_with fail
              refine (G1.out _).mono ?_
              rintro e wx ⟨rfl, hw⟩; subst hw
              go_wp2_with fail
              refine (G2.out _).mono ?_
              rintro e wx ⟨rfl, hw⟩; subst hw
              go_wp2_with (first
                | (at_builtin; go_loud (refine wpList_append_own_at _ rfl (.tmp 27) (.tmp 30) 47 rfl w.heap.size tKey i0 (mkKey (0, 0)) 2 16 Tryz.underlying47 hi hz0 hz1 hz2 rfl (by decide) u5 (toldAt l m k).length ((toldAt l m k).flatMap encK) rfl ((hrow.alloc _).alloc _) ⟨wr.heap.size + 1, 0, none⟩ 1 1 (encK (o, d)) rfl rfl (two_at _ _ (by simp) _ _ _) (by intro u hu; simp [encK] at hu; rcases hu with rfl | rfl <;> rfl) (by unfold maxLen; omega) (by omega) (by simp; omega) ?_; intro v2 w2 ho2 hg2 _ hat2; obtain ⟨e0, e1, e2, e3, e4⟩ := cell5 ((hg2.block _ (by simp; omega) (fun e => by have := hrl _ e; omega)).trans (heap_keep (heap_new wr (.cells #[.int .i64 o, .int .i64 d, .int .i64 (t + 1), .int .i64 (m + gapI (t + 1)), .bool false] tWait)) (below_alloc _ _))); have HM2 := Lib.hid (((HMK.out.alloc (.cells #[.int .i64 o, .int .i64 d, .int .i64 (t + 1), .int .i64 (m + gapI (t + 1)), .bool false] tWait)).alloc (.cells #[.int .i64 o, .int .i64 d] tKey)).kept hg2 (row_ne hrow hab.2.1)); have HRK2 := Lib.hid (((HRK.out.alloc (.cells #[.int .i64 o, .int .i64 d, .int .i64 (t + 1), .int .i64 (m + gapI (t + 1)), .bool false] tWait)).alloc (.cells #[.int .i64 o, .int .i64 d] tKey)).kept hg2 (own_apart HRK.out hrow (by decide))); have HGR2 := Lib.hid (World.grownBy.andThen ((HGR.out.trans (World.grownBy_alloc wr (.cells #[.int .i64 o, .int .i64 d, .int .i64 (t + 1), .int .i64 (m + gapI (t + 1)), .bool false] tWait) (some b))).trans (World.grownBy_alloc _ (.cells #[.int .i64 o, .int .i64 d] tKey) (some b))) hg2 (fun j hj => .inl ((hrow.lt j hj).1))); have hca2 := (World.cell?_of_block (a := ⟨a, 0, none⟩) (hg2.block a (by simp; omega) (row_ne hrow hab.1))).trans ((((below_alloc wr (.cells #[.int .i64 o, .int .i64 d, .int .i64 (t + 1), .int .i64 (m + gapI (t + 1)), .bool false] tWait)).alloc (by simp) (.cells #[.int .i64 o, .int .i64 d] tKey)).cell (p := ⟨a, 0, none⟩) (by simp only []; omega)).trans hca); have hrow2 := ho2; clear ho2 hg2 hat2 hrow hca hrl)))
              refine wp_region_still_tail 7 (by kernel_rfl) (by kernel_rfl) ?_
              simp only [List.take_succ_cons, List.take_zero, List.drop_succ_cons, List.drop_zero]
              iterate 7 still_step
              refine wpStill_nil ?_
              change wpList _ _ _ _ _ w2.drew
              refine wpList_storeL _ rfl (.tmp 49) (.tmp 51) (.tmp 52) tMapW rfl tKey tWait lawKey mapW b _ rfl (HM2.out.block rfl) (by rw [ent_len, tickAt_len]; unfold maxLen; omega) (o, d) ((o, d), t + 1, m + gapI (t + 1), false) rfl rfl HL.out (mkKey_inj _) ?_
              intro w3 hm3 ht3
              have hp := tickAt_perm (m := m) HG.out HX.out
              rw [HT.out.1] at hp
              have HM3 := Lib.hid (hm3.perm hp)
              have HGR3 := Lib.hid ((grown_drew HGR2.out).trans ht3.grown)
              have hrow3 := World.ownsRow.kept (w := w2.drew) hrow2 ht3.grown (.inr (row_ne hrow2 hab.2.1).symm)
              have HRK3 := Lib.hid (World.ownsRow.kept (w := w2.drew) HRK2.out ht3.grown (.inr (row_ne HRK2.out hab.2.1).symm))
              clear hm3 ht3 hrow2 hp
              go_wp2_with fail
              go_roundw
              case rel => exact ⟨k + 1, by go_num, by omega, HM3, by rw [toldAt_succ HX.out, HT.out.2]; simpa using hrow3, HRK3, HGR3⟩
              case measure => simp [intOf]; omega
      · obtain rfl : k = l.length := by omega
        have HROW := Lib.hid hrow
        clear hrow
        go_wp2_with fail
        go_ret
        have h1 := HROW.out
        have h2 := HMK.out
        rw [← hm] at h1 h2
        rw [toldAt_all] at h1
        rw [tickAt_all] at h2
        exact ⟨_, rfl, h1, HM.out.turn HGR.out h2 (List.Perm.refl _), HGR.out⟩
end Go.Proofs.YtlkncmpengpbiaaGreatDoor
/- waits.Again, Copy. -/
namespace Go.Proofs.YtlkncmpengpbiaaGreatDoor
open Go.RowKit Go.Maps Wa Key
set_option maxRecDepth 100000

theorem has_of {l : List W5} {k : Int × Int} {v : W5} (h : (k, v) ∈ ent l) : hasW l k = true := by
  unfold ent at h
  obtain ⟨x, hx, e⟩ := List.mem_map.1 h
  injection e with e1 e2
  unfold hasW
  exact List.any_eq_true.2 ⟨x, hx, by simp [e1]⟩
theorem has_one {l : List W5} (hg : Wa.Good l) {k : Int × Int} {u v : W5} (hu : (k, u) ∈ ent l) (hv : (k, v) ∈ ent l) : u = v := by
  unfold ent at hu hv
  obtain ⟨x, hx, e1⟩ := List.mem_map.1 hu
  obtain ⟨y, hy, e2⟩ := List.mem_map.1 hv
  injection e1 with e1 e3
  injection e2 with e2 e4
  subst e3; subst e4
  exact hg.uniq hx hy (e1.trans e2.symm)
theorem has_no {l : List W5} {k : Int × Int} (h : ∀ p ∈ ent l, p.1 ≠ k) : hasW l k = false := by
  unfold hasW
  rw [List.any_eq_false]
  intro x hx
  have := h (x.1, x) (List.mem_map.2 ⟨x, hx, rfl⟩)
  simpa using this

set_option maxHeartbeats 1000000 in
theorem again_wa (w : World) (a b : Nat) (l : List W5) (o d now : Int) (h : WA w a b l) (hgd : Wa.Good l) (hl : l.length < 10000) (hk : (-9223372036854775808 ≤ o ∧ o ≤ 9223372036854775807) ∧ (-9223372036854775808 ≤ d ∧ d ≤ 9223372036854775807)) :
    Calls Tryz.prog 68 #[.pointer (some ⟨a, 0, none⟩), .agg #[.int .i64 o, .int .i64 d], .int .i64 now] w fun e w' => e = .returned (.bool (hasW l (o, d))) ∧ WA w' a b (if hasW l (o, d) then startW l (o, d) now else l) ∧ w.grownBy w' (some b) := by
  obtain ⟨kl, hkl⟩ := key_reads (o, d) hk
  have HL := Lib.hid hkl
  have HM := Lib.hid h
  have HG := Lib.hid hgd
  have hab := h.lt
  have hc := h.cell
  clear h hkl hgd
  go_enter Tryz.func68, Tryz.ntmps68
  go_wp2_with fail
  refine (nonep_any _ a b (((below_alloc w _).cell (by simp only []; omega)).trans hc)).mono ?_
  rintro e w0 ⟨rfl, hw⟩; subst hw
  have HB := Lib.hid (below_alloc w (.cells #[.int .i64 o, .int .i64 d] tKey))
  have hca := (HB.out.cell (p := ⟨a, 0, none⟩) (by simp only []; omega)).trans hc
  have hkb := heap_new w (.cells #[.int .i64 o, .int .i64 d] tKey)
  obtain ⟨k0, k1, _, _⟩ := cell2 hkb
  have HK := Lib.hid hkb
  have hz := heap_lt hkb
  have HM1 := Lib.hid (HM.out.below HB.out)
  clear hkb hc
  generalize w.alloc (.cells #[.int .i64 o, .int .i64 d] tKey) = w1 at HB hca k0 k1 hz HK HM1 ⊢
  go_wp2_with fail
  have hlk := fun W (hW : MapL Tryz.prog tKey mkKey mkWait W b (ent l)) => hW.look lawKey mapW (zeroWait W) HL.out (mkKey_inj _)
  cases hh : hasW l (o, d) with
  | true =>
    have hv : ∃ v : W5, ∀ W, MapL Tryz.prog tKey mkKey mkWait W b (ent l) → (Instr.lookup tMapW (.map (some b)) (mkKey (o, d)) true).run Tryz.prog W = .ok (.tuple #[mkWait v, .bool true]) W := by
      obtain ⟨v, hv⟩ : ∃ v : W5, ((o, d), v) ∈ ent l := by
        unfold hasW at hh
        obtain ⟨x, hx, e⟩ := List.any_eq_true.1 hh
        exact ⟨x, List.mem_map.2 ⟨x, hx, by simp at e; rw [e]⟩⟩
      refine ⟨v, fun W hW => ?_⟩
      rcases hlk W hW with ⟨u, hu, r, _⟩ | ⟨hn, _⟩
      · rw [has_one HG.out hu hv] at r
        exact r
      · exact absurd rfl (hn _ hv)
    obtain ⟨⟨⟨o', d'⟩, t, n, p⟩, hv⟩ := hv
    have hA := hv w1.drew (HM1.out.mp.block rfl)
    have hB := hv (w1.alloc (.cells #[.int .i64 0, .int .i64 0, .int .i64 0, .int .i64 0, .bool false] tWait)).drew ((HM1.out.mp.alloc _).block rfl)
    have hca' := ((below_alloc w1 (.cells #[.int .i64 0, .int .i64 0, .int .i64 0, .int .i64 0, .bool false] tWait)).cell (p := ⟨a, 0, none⟩) (by have := HB.out.size; simp only []; omega)).trans hca
    have k0' := ((below_alloc w1 (.cells #[.int .i64 0, .int .i64 0, .int .i64 0, .int .i64 0, .bool false] tWait)).cell (p := ⟨w.heap.size, 0, none⟩) hz).trans k0
    have k1' := ((below_alloc w1 (.cells #[.int .i64 0, .int .i64 0, .int .i64 0, .int .i64 0, .bool false] tWait)).cell (p := ⟨w.heap.size, 1, none⟩) hz).trans k1
    simp only [mkKey, mkWait] at hA hB
    clear hv hlk
    go_region
    all_goals
      go_wp2_with fail
      refine (start_wa _ a b l o d now (HM1.out.below (below_drew1 (below_alloc w1 _))) (by omega)).mono ?_
      rintro e w2 ⟨rfl, hwa, hgr⟩
      have HWA := Lib.hid hwa
      have HGR := Lib.hid (((grown_of_below HB.out (some b)).trans (grown_of_below (below_drew1 (below_alloc w1 _)) (some b))).trans hgr)
      clear hwa hgr
      go_wp2_with fail
      go_ret
      exact ⟨rfl, by simpa using HWA.out, HGR.out⟩
  | false =>
    have hv : ∀ W, MapL Tryz.prog tKey mkKey mkWait W b (ent l) → (Instr.lookup tMapW (.map (some b)) (mkKey (o, d)) true).run Tryz.prog W = .ok (.tuple #[mkWait ((0, 0), 0, 0, false), .bool false]) W := by
      intro W hW
      rcases hlk W hW with ⟨u, hu, r, _⟩ | ⟨hn, r, _⟩
      · exact absurd ((has_of hu).symm.trans hh) (by simp)
      · exact r
    have hA := hv w1.drew (HM1.out.mp.block rfl)
    have hB := hv (w1.alloc (.cells #[.int .i64 0, .int .i64 0, .int .i64 0, .int .i64 0, .bool false] tWait)).drew ((HM1.out.mp.alloc _).block rfl)
    have hca' := ((below_alloc w1 (.cells #[.int .i64 0, .int .i64 0, .int .i64 0, .int .i64 0, .bool false] tWait)).cell (p := ⟨a, 0, none⟩) (by have := HB.out.size; simp only []; omega)).trans hca
    have k0' := ((below_alloc w1 (.cells #[.int .i64 0, .int .i64 0, .int .i64 0, .int .i64 0, .bool false] tWait)).cell (p := ⟨w.heap.size, 0, none⟩) hz).trans k0
    have k1' := ((below_alloc w1 (.cells #[.int .i64 0, .int .i64 0, .int .i64 0, .int .i64 0, .bool false] tWait)).cell (p := ⟨w.heap.size, 1, none⟩) hz).trans k1
    simp only [mkKey, mkWait] at hA hB
    clear hv hlk
    go_region
    all_goals
      go_wp2_with fail
      all_goals go_ret
      all_goals exact ⟨rfl, HM1.out.below (below_drew1 (below_alloc w1 _)), (grown_of_below HB.out (some b)).trans (grown_of_below (below_drew1 (below_alloc w1 _)) (some b))⟩
end Go.Proofs.YtlkncmpengpbiaaGreatDoor
/- waits.Copy. -/
namespace Go.Proofs.YtlkncmpengpbiaaGreatDoor
open Go.RowKit Go.Maps Wa Key
set_option maxRecDepth 100000

theorem ent_uniq {l : List W5} (hg : Wa.Good l) {p q : (Int × Int) × W5} (hp : p ∈ ent l) (hq : q ∈ ent l) (e : p.1 = q.1) : p = q := by
  obtain ⟨k, u⟩ := p
  obtain ⟨k', v⟩ := q
  simp only [] at e
  subst e
  rw [has_one hg hp hq]
theorem without_self {E : List ((Int × Int) × W5)} {k : Int × Int} (h : ∀ p ∈ E, p.1 ≠ k) : without E k = E := by
  unfold without
  rw [List.filter_eq_self]
  intro p hp
  simp [h p hp]

set_option maxHeartbeats 1000000 in
theorem copy_wa (w : World) (a b : Nat) (l : List W5) (h : WA w a b l) (hgd : Wa.Good l) (hl : l.length < 10000) :
    Calls Tryz.prog 43 #[.pointer (some ⟨a, 0, none⟩)] w fun e w' => ∃ a' b', e = .returned (.pointer (some ⟨a', 0, none⟩)) ∧ WA w' a' b' l ∧ w.heap.size ≤ a' ∧ w.heap.size ≤ b' ∧ Below w.heap.size w w' := by
  have HM := Lib.hid h
  have HG := Lib.hid hgd
  have hab := h.lt
  have hc := h.cell
  clear h hgd
  go_enter Tryz.func43, Tryz.ntmps43
  go_wp2_with fail
  refine (nonep_any _ a b hc).mono ?_
  rintro e w0 ⟨rfl, hw⟩; subst hw
  go_wp2_with fail
  refine (new_wa _).mono ?_
  rintro e w1 ⟨a', b', rfl, hn, ha', hb', hbl⟩
  have HN := Lib.hid hn
  have HB := Lib.hid hbl
  have HM1 := Lib.hid (HM.out.below hbl)
  have hc1 := (hbl.cell (p := ⟨a, 0, none⟩) hab.1).trans hc
  have hn' := hn.lt
  have hsz := hbl.size
  clear hn hbl hc
  go_wp2_with (first
    | (at_range; refine wpList_rangeL _ rfl _ tMapW rfl tKey tWait lawKey mapW b (ent l) rfl HM1.out.mp ?_; intro w2 cnt0 hrg0 hg0 hs0))
  go_frame
  go_loopw [4] (fun _ wr => ∃ done cnt, RangeL Tryz.prog tKey mkKey mkWait wr b w1.heap.size (ent l) done cnt ∧ Hid (MapL Tryz.prog tKey mkKey mkWait wr b' done) ∧ Hid (wr.heap[a']? = some (.cells #[.map (some b')] tWaits (0, 0))) ∧ Hid (Below w.heap.size w wr)) (fun _ wr => wr.rangeLeft b w1.heap.size)
  case atStart =>
    exact ⟨[], cnt0, hrg0, HN.out.mp.kept hg0 (by simp), (hg0.block a' hn'.1 (by simp)).trans HN.out.hd, HB.out.grown hg0 hsz (fun k hk => by cases hk)⟩
  case round =>
    obtain ⟨done, cnt, hrg, HMN, HHD, HBR⟩ := hrel
    have hszr := HBR.out.size
    have hrlt := hrg.lt
    have hdl := hrg.len
    rw [ent_len] at hdl
    go_wp2_with (first
      | (at_next; refine wpList_nextL _ rfl _ rfl tKey lawKey b w1.heap.size (ent l) done cnt rfl hrg (fun hperm => ?_) (fun x v w3 cnt1 hin hnin hrg1 hlt1 hg1 hs1 hen => ?_); rotate_left; (obtain ⟨x1, x2⟩ := x; obtain ⟨⟨o, d⟩, t, n, p⟩ := v; simp only [mkKey, mkWait] at hen ⊢)))
    · obtain ⟨kl, hkl⟩ := hrg1.keys _ hin
      have HL := Lib.hid (show keyOf Tryz.prog tKey (mkKey (x1, x2)) = some kl from hkl)
      have HN3 := Lib.hid (HMN.out.kept hg1 (by simp; omega))
      have HH3 := Lib.hid ((hg1.block a' (heap_lt HHD.out) (by simp; omega)).trans HHD.out)
      have HB3 := Lib.hid (HBR.out.grown hg1 hszr (fun k hk => by cases hk; omega))
      have hno : ∀ q ∈ done, q.1 ≠ (x1, x2) := fun q hq e => hnin (by rw [← ent_uniq HG.out (hrg.sub q hq) hin e]; exact hq)
      have HNO := Lib.hid hno
      clear hkl hno hin hnin
      go_wp2_with fail
      have hka := heap_keep (heap_new w3 (.cells #[.int .i64 x1, .int .i64 x2] tKey)) (below_alloc _ (.cells #[.int .i64 o, .int .i64 d, .int .i64 t, .int .i64 n, .bool p] tWait))
      have hcb := heap_new (w3.alloc (.cells #[.int .i64 x1, .int .i64 x2] tKey)) (.cells #[.int .i64 o, .int .i64 d, .int .i64 t, .int .i64 n, .bool p] tWait)
      rw [show (w3.alloc (.cells #[.int .i64 x1, .int .i64 x2] tKey)).heap.size = wr.heap.size + 1 by simp; omega] at hcb
      rw [hs1] at hka
      obtain ⟨k0, k1, _, _⟩ := cell2 hka
      obtain ⟨e0, e1, e2, e3, e4⟩ := cell5 hcb
      have hh0 := cell_at (heap_keep (heap_keep HH3.out (below_alloc w3 (.cells #[.int .i64 x1, .int .i64 x2] tKey))) (below_alloc _ (.cells #[.int .i64 o, .int .i64 d, .int .i64 t, .int .i64 n, .bool p] tWait))) 0 rfl
      have HN4 := Lib.hid ((HN3.out.alloc (.cells #[.int .i64 x1, .int .i64 x2] tKey)).alloc (.cells #[.int .i64 o, .int .i64 d, .int .i64 t, .int .i64 n, .bool p] tWait))
      have HH4 := Lib.hid (heap_keep (heap_keep HH3.out (below_alloc w3 (.cells #[.int .i64 x1, .int .i64 x2] tKey))) (below_alloc _ (.cells #[.int .i64 o, .int .i64 d, .int .i64 t, .int .i64 n, .bool p] tWait)))
      have HB4 := Lib.hid ((HB3.out.alloc (by omega) (.cells #[.int .i64 x1, .int .i64 x2] tKey)).alloc (by simp; omega) (.cells #[.int .i64 o, .int .i64 d, .int .i64 t, .int .i64 n, .bool p] tWait))
      have HR4 := Lib.hid ((hrg1.alloc (.cells #[.int .i64 x1, .int .i64 x2] tKey)).alloc (.cells #[.int .i64 o, .int .i64 d, .int .i64 t, .int .i64 n, .bool p] tWait))
      clear hka hcb hrg1 hen
      generalize (w3.alloc (.cells #[.int .i64 x1, .int .i64 x2] tKey)).alloc (.cells #[.int .i64 o, .int .i64 d, .int .i64 t, .int .i64 n, .bool p] tWait) = w4 at k0 k1 e0 e1 e2 e3 e4 hh0 HN4 HH4 HB4 HR4 ⊢
      refine wp_region_still_tail 6 (by kernel_rfl) (by kernel_rfl) ?_
      simp only [List.take_succ_cons, List.take_zero, List.drop_succ_cons, List.drop_zero]
      iterate 6 still_step
      refine wpStill_nil ?_
      change wpList _ _ _ _ _ w4.drew
      refine wpList_storeL _ rfl (.tmp 22) (.tmp 23) (.tmp 24) tMapW rfl tKey tWait lawKey mapW b' done rfl (HN4.out.block rfl) (by unfold maxLen; omega) (x1, x2) ((o, d), t, n, p) rfl rfl HL.out (mkKey_inj _) ?_
      intro w5 hm5 ht5
      rw [without_self HNO.out] at hm5
      have HN5 := Lib.hid (hm5.perm (E' := done ++ [((x1, x2), (o, d), t, n, p)]) (List.perm_append_comm (l₁ := [((x1, x2), (o, d), t, n, p)]) (l₂ := done)))
      have HG5 := Lib.hid (World.grownBy.trans ((grown_of_below (below_drew1 (Below.refl w4.heap.size w4)) (some b'))) ht5.grown)
      have HR5 := Lib.hid (HR4.out.kept HG5.out (by simp; omega) (by simp; omega))
      have HH5 := Lib.hid ((HG5.out.block a' (heap_lt HH4.out) (by have := hn'.2.2; simp; exact this)).trans HH4.out)
      have HB5 := Lib.hid (HB4.out.grown HG5.out HB4.out.size (fun k hk => by cases hk; exact hb'))
      clear hm5 ht5
      go_frame
      go_wp2_with fail
      go_roundw
      case rel => exact ⟨_, cnt1, HR5.out, HN5, HH5, HB5⟩
      case measure =>
        have h5 := HR5.out
        rw [h5.left, hrg.left]
        exact hlt1
    · have HP := Lib.hid hperm
      clear hperm
      go_wp2_with fail
      go_ret
      exact ⟨a', b', rfl, ⟨HHD.out, HMN.out.perm HP.out⟩, ha', hb', HBR.out⟩
end Go.Proofs.YtlkncmpengpbiaaGreatDoor

/- A party's Rows: its book, rising, in new memory. -/
import Derived.Test.YtkmpagijdhhinaaDoorPartyAsk
import Derived.Test.YtkmpagijdhhinaaDoorPartySort
import Derived.Deep.RegionHeldLaw
namespace Go.Proofs.YtkmpagijdhhinaaDoor
open Go.RowKit Go.Maps Key Od Pa

theorem encR_one (x : R5) : ∀ u ∈ encR x, u.oneCell' = true := by
  intro u hu; simp [encR] at hu; rcases hu with rfl | rfl | rfl | rfl | rfl <;> rfl

set_option linter.unusedSimpArgs false in
set_option linter.unusedVariables false in
set_option maxRecDepth 100000 in
set_option maxHeartbeats 4000000 in
theorem rows_any (w : World) (p bk tk wh : Nat) (kind stock limit seq : Int) (m : Nat) (st : St) (h : PA w p bk tk wh kind stock limit seq m st) (hr : Rise st.rows) (hck : ∀ x ∈ st.rows, chk x.1.1 x.1.2 = true) (hn : st.rows.length < 90000) :
    Calls Tryd.prog 15 #[.pointer (some ⟨p, 0, none⟩)] w fun e w' => ∃ v, e = .returned v ∧ w'.ownsRow w.heap.size tRow 5 v st.rows.length (st.rows.flatMap encR) ∧ Below w.heap.size w w' := by
  obtain ⟨i0, hi, hz0, hz1, hz2⟩ := info_parts row_info
  have HP := Lib.hid h
  have hl := h.lt
  have HR := Lib.hid hr
  have HCK := Lib.hid hck
  have hpl := heap_lt h.hd
  have c3 := cell_at h.hd 3 rfl
  have HK := Lib.hid (keys_any (some bk) w)
  have HB1 := Lib.hid (below_alloc w (.cells #[.map (some bk)] tBook))
  have HS := Lib.hid (sorted_any bk w.heap.size (entR st.rows) (by rw [entR_len]; omega) (w.alloc (.cells #[.map (some bk)] tBook)) (by simp) (cell_at (heap_new w (.cells #[.map (some bk)] tBook)) 0 rfl) (h.book.alloc _))
  clear h hr hck
  go_enter Tryd.func15, Tryd.ntmps15
  go_wp2_with fail
  refine (nonep_no w p bk tk wh kind stock limit seq m st HP.out).mono ?_
  rintro e w0 ⟨rfl, hw⟩; subst hw
  go_wp2_with fail
  refine (HK.out).mono ?_
  rintro e w0 ⟨rfl, hw⟩; subst hw
  go_wp2_with fail
  refine (HS.out).mono ?_
  rintro e w2 ⟨v, ss, rfl, hp, hs, ho, hb⟩
  obtain rfl : ss = st.rows.map (·.1) := keys_rows HR.out hp hs
  rw [show (st.rows.map (·.1)).length = st.rows.length by simp] at ho
  have HB2 := Lib.hid (bch HB1.out hb HB1.out.size)
  have HP2 := Lib.hid (HP.out.below HB2.out)
  clear hp hs hb HS HK c3 HB1
  rcases ho.2 with ⟨rfl, h0⟩ | ⟨g, cap, cur, hv, hg, hcur, hn', hcap, _, _⟩
  · have hnil := List.eq_nil_of_length_eq_zero h0
    have HN := Lib.hid hnil
    clear ho h0 hnil
    go_wp2_with fail
    refine wp_loop_rounds 1 ?_
    rw [rounds_succ]
    go_wp2_with fail
    go_ret
    rw [HN.out]
    exact ⟨_, rfl, World.ownsRow_nil _ _ _ _, HB2.out⟩
  · subst hv
    have hnl : (st.rows.length : Int) < 90000 := by omega
    have HKS := Lib.hid (show w2.ownsRow (w.alloc (.cells #[.map (some bk)] tBook)).heap.size tKey 2 (.slice (some ⟨g, 0, none⟩) (st.rows.map (·.1)).length cap) (st.rows.map (·.1)).length ((st.rows.map (·.1)).flatMap encK) by simpa using ho)
    have hgl : g < w2.heap.size := (ho.lt _ rfl).2
    clear ho hcur hcap
    go_wp2_with fail
    go_loopw [3, 15] (fun v i wr => ∃ k : Nat, i = .int .i64 k ∧ k ≤ st.rows.length ∧ wr.ownsRow w2.heap.size tRow 5 v k ((st.rows.take k).flatMap encR) ∧ Hid (Below w2.heap.size w2 wr)) (fun _ i _ => st.rows.length - (intOf i).toNat)
    case atStart =>
      exact ⟨0, rfl, Nat.zero_le _, World.ownsRow_nil _ _ _ _, Below.refl _ _⟩
    case round =>
      obtain ⟨k, rfl, hk, hrow, HBR⟩ := hrel
      by_cases hkl : k < st.rows.length
      · obtain ⟨x, hx⟩ : ∃ x, st.rows[k]? = some x := ⟨_, List.getElem?_eq_getElem hkl⟩
        have HKR := Lib.hid (own_keep HKS.out HBR.out)
        have hkx : (st.rows.map (·.1))[k]? = some x.1 := by rw [List.getElem?_map, hx]; rfl
        have d0 := own_cellK encK_len (by omega) HKR.out hkx 0 (by omega)
        have d1 := own_cellK encK_len (by omega) HKR.out hkx 1 (by omega)
        obtain ⟨⟨o, d⟩, xc, xa, xq⟩ := x
        simp only [encK, List.getElem?_cons_zero, List.getElem?_cons_succ] at d0 d1
        rw [Nat.add_zero] at d0
        have hlt : (k : Int) < st.rows.length := by omega
        have hk0 : (0 : Int) ≤ k := by omega
        have hmem := List.mem_of_getElem? hx
        obtain ⟨kl, hkl'⟩ := key_chk (k := (o, d)) (HCK.out _ hmem)
        have HL := Lib.hid (fun W (hW : MapL Tryd.prog tKey mkKey mkRow W bk (entR st.rows)) => show (Instr.lookup tBook (.map (some bk)) (.agg #[.int .i64 o, .int .i64 d]) false).run Tryd.prog W = .ok (.agg #[.int .i64 o, .int .i64 d, .int .i64 xc, .int .i64 xa, .int .i64 xq]) W from by
          rcases hW.look lawKey mapBook (zeroRow W) hkl' (mkKey_inj _) with ⟨u, hu, _, r⟩ | ⟨hno, _⟩
          · obtain ⟨h1, h2⟩ := mem_entR.1 hu
            rw [HR.out.uniq h1 hmem h2] at r
            exact r
          · exact absurd (mem_entR.2 ⟨hmem, rfl⟩) (fun hx => hno _ hx rfl))
        have HTK := Lib.hid (show (st.rows.take (k + 1)).flatMap encR = (st.rows.take k).flatMap encR ++ encR ((o, d), xc, xa, xq) by
          rw [List.take_add_one, hx]; simp)
        have hp3 := heap_lt HP2.out.hd
        clear hx hkx hkl' hmem
        go_wp2_with fail
        have hnk := heap_new wr (.cells #[.int .i64 o, .int .i64 d] tKey)
        have HBK := Lib.hid (below_alloc wr (.cells #[.int .i64 o, .int .i64 d] tKey))
        have HWZ := Lib.hid (bch HBR.out HBK.out HBR.out.size)
        have HKN := Lib.hid hnk
        have hrowz := hrow.alloc (.cells #[.int .i64 o, .int .i64 d] tKey)
        have hrl : ∀ j, u3.ownBlock = some j → j < wr.heap.size := fun j hj => (hrow.lt j hj).2
        clear hnk d0 d1 HKR hrow
        generalize hwz : wr.alloc (.cells #[.int .i64 o, .int .i64 d] tKey) = wz at HBK HWZ HKN hrowz ⊢
        have HSZ := HBR.out.size
        have hsz2 := HB2.out.size
        have hbz : wr.heap.size < wz.heap.size := heap_lt HKN.out
        have HPz := Lib.hid (HP2.out.below HWZ.out)
        have HPh := Lib.hid HPz.out.hd
        have HH := Lib.hid (fun W (hb : Turned (fun j => u3.ownBlock = some j) wz W) => (⟨Lib.hid hb, cell_at ((hb.block _ (heap_lt HPh.out) (fun e => by have := (hrowz.lt _ e).1; omega)).trans HPh.out) 3 rfl, cell_at ((hb.block _ (heap_lt HKN.out) (fun e => by have := hrl _ e; omega)).trans HKN.out) 0 rfl, cell_at ((hb.block _ (heap_lt HKN.out) (fun e => by have := hrl _ e; omega)).trans HKN.out) 1 rfl, HL.out W (HPz.out.book.block (hb.block _ HPz.out.lt.2.1 (fun e => by have := (hrowz.lt _ e).1; omega)))⟩ : (fun w' => Hid (Turned (fun j => u3.ownBlock = some j) wz w') ∧ w'.cell? ⟨p, 3, none⟩ = some (.map (some bk)) ∧ w'.cell? ⟨wr.heap.size, 0, none⟩ = some (.int .i64 o) ∧ w'.cell? ⟨wr.heap.size, 1, none⟩ = some (.int .i64 d) ∧ (Instr.lookup tBook (.map (some bk)) (.agg #[.int .i64 o, .int .i64 d]) false).run Tryd.prog w' = .ok (.agg #[.int .i64 o, .int .i64 d, .int .i64 xc, .int .i64 xa, .int .i64 xq]) w') W))
        clear hwz
        go_region_held_law (fun w' => Hid (Turned (fun j => u3.ownBlock = some j) wz w') ∧ w'.cell? ⟨p, 3, none⟩ = some (.map (some bk)) ∧ w'.cell? ⟨wr.heap.size, 0, none⟩ = some (.int .i64 o) ∧ w'.cell? ⟨wr.heap.size, 1, none⟩ = some (.int .i64 d) ∧ (Instr.lookup tBook (.map (some bk)) (.agg #[.int .i64 o, .int .i64 d]) false).run Tryd.prog w' = .ok (.agg #[.int .i64 o, .int .i64 d, .int .i64 xc, .int .i64 xa, .int .i64 xq]) w')
          (first
            | assumption
            | exact HH.out _ (Turned.trans (Hid.out (And.left (by assumption))) (Turned.of_grown hg2 (fun j hj => hj)))
            | exact HH.out _ ((Turned.refl _ wz).drew)
            | exact HH.out _ ((Turned.of_below (below_alloc wz _)).drew)
            | exact HH.out _ (Turned.of_below (below_drew1 (below_alloc wz _)))
            | exact HH.out _ ((Turned.of_below (below_drew1 (below_alloc wz _))).trans (Turned.of_grown hg2 (fun j hj => hj))))
          (first | (refine step_append_any _ rfl (.tmp 19) (.tmp 26) tRows rfl w2.heap.size tRow i0 (mkRow ((0, 0), 0, 0, 0)) 5 40 Tryd.underlying38 hi hz0 hz1 hz2 rfl (by decide) u3 k ((st.rows.take k).flatMap encR) rfl (hrowz.alloc _) 1 (encR ((o, d), xc, xa, xq)) (src_one (heap_new _ _) (encR_one _) rfl) (by unfold maxLen; omega) (by omega) (by simp; omega) ?_; intro v2 W2 ho2 hg2 hat2))
        have HX2 : Hid (Turned (fun j => u3.ownBlock = some j) wz W2) := And.left (by assumption)
        have HO2 := Lib.hid ho2
        clear ho2 hg2 hat2
        go_wp2_with fail
        go_roundw
        case rel =>
          refine ⟨k + 1, by go_num, by omega, ?_, ?_⟩
          · rw [HTK.out]
            exact HO2.out
          · refine Below.turned (Below.trans HBR.out (HBK.out.mono HSZ)) HX2.out (fun i hi => (hrowz.lt _ hi).1) (by omega)
        case measure => simp [intOf]; omega
      · obtain rfl : k = st.rows.length := by omega
        have hnlt : ¬ (st.rows.length : Int) < st.rows.length := by omega
        go_wp2_with fail
        go_ret
        refine ⟨_, rfl, ?_, bch HB2.out HBR.out HB2.out.size⟩
        rw [List.take_length] at hrow
        exact own_weak hrow HB2.out.size
end Go.Proofs.YtkmpagijdhhinaaDoor

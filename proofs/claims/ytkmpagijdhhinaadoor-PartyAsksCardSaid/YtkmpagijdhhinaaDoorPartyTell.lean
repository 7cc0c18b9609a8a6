/- A party's Left and Statement. -/
import Derived.Test.YtkmpagijdhhinaaDoorPartyRows
namespace Go.Proofs.YtkmpagijdhhinaaDoor
open Go.RowKit Go.Maps Key Od Pa

namespace Pa
def leftS (kind stock : Int) (st : St) (s : List UInt8) : Int := if kind = 1 ∧ mayB 1 1 0 s 1 0 0 = true then stock - used st.gs s else 0
end Pa

set_option linter.unusedSimpArgs false in
set_option linter.unusedVariables false in
set_option maxRecDepth 100000 in
set_option maxHeartbeats 4000000 in
theorem left_kind (w : World) (p bk tk wh : Nat) (kind stock limit seq : Int) (m : Nat) (st : St) (sku : ByteArray) (h : PA w p bk tk wh kind stock limit seq m st) (hT : PT w) (hst : 0 ≤ stock ∧ stock ≤ 1000000000) (hu : ∀ s, 0 ≤ used st.gs s ∧ used st.gs s ≤ 1000000000) (hs : sku.size ≤ 1000000000000) (hk : kind ≠ 1) :
    Calls Tryd.prog 20 #[.pointer (some ⟨p, 0, none⟩), .string sku] w fun e w' => e = .returned (.int .i64 (leftS kind stock st sku.data.toList)) ∧ Below w.heap.size w w' := by
  have HP := Lib.hid h
  have HB := Lib.hid (below_alloc w (.cells #[.int .i64 1, .int .i64 1, .int .i64 0, .string sku, .int .i64 1, .int .i64 0, .int .i64 0] tMsg))
  have HM := Lib.hid (heap_new w (.cells #[.int .i64 1, .int .i64 1, .int .i64 0, .string sku, .int .i64 1, .int .i64 0, .int .i64 0] tMsg))
  have HT := Lib.hid hT
  have HU := Lib.hid hu
  have HF := Lib.hid (show leftS kind stock st sku.data.toList = 0 by unfold leftS; rw [if_neg (fun x => hk x.1)])
  have hne := bneT hk
  clear hk
  clear h hT hu
  go_enter Tryd.func20, Tryd.ntmps20
  go_wp2_with fail
  generalize w.alloc (.cells #[.int .i64 1, .int .i64 1, .int .i64 0, .string sku, .int .i64 1, .int .i64 0, .int .i64 0] tMsg) = wa at HB HM ⊢
  have HPa := Lib.hid (HP.out.below HB.out)
  have c0 := cell_at HPa.out.hd 0 rfl
  obtain ⟨m0, m1, m2, m3, m4, m5, m6⟩ := cell7 HM.out
  refine (nonep_no wa p bk tk wh kind stock limit seq m st HPa.out).mono ?_
  rintro e w0 ⟨rfl, hw⟩; subst hw
  go_wp2_with fail
  go_ret
  exact ⟨by rw [HF.out]; rfl, HB.out⟩

set_option linter.unusedSimpArgs false in
set_option linter.unusedVariables false in
set_option maxRecDepth 100000 in
set_option maxHeartbeats 4000000 in
theorem left_no (w : World) (p bk tk wh : Nat) (stock limit seq : Int) (m : Nat) (st : St) (sku : ByteArray) (h : PA w p bk tk wh 1 stock limit seq m st) (hT : PT w) (hst : 0 ≤ stock ∧ stock ≤ 1000000000) (hu : ∀ s, 0 ≤ used st.gs s ∧ used st.gs s ≤ 1000000000) (hs : sku.size ≤ 1000000000000) (hm : mayB 1 1 0 sku.data.toList 1 0 0 = false) :
    Calls Tryd.prog 20 #[.pointer (some ⟨p, 0, none⟩), .string sku] w fun e w' => e = .returned (.int .i64 (leftS 1 stock st sku.data.toList)) ∧ Below w.heap.size w w' := by
  have HP := Lib.hid h
  have HB := Lib.hid (below_alloc w (.cells #[.int .i64 1, .int .i64 1, .int .i64 0, .string sku, .int .i64 1, .int .i64 0, .int .i64 0] tMsg))
  have HM := Lib.hid (heap_new w (.cells #[.int .i64 1, .int .i64 1, .int .i64 0, .string sku, .int .i64 1, .int .i64 0, .int .i64 0] tMsg))
  have HT := Lib.hid hT
  have HU := Lib.hid hu
  have HF := Lib.hid (show leftS 1 stock st sku.data.toList = 0 by unfold leftS; rw [if_neg (fun x => by rw [hm] at x; exact absurd x.2 (by simp))])
  have HMY := Lib.hid hm
  clear hm
  clear h hT hu
  go_enter Tryd.func20, Tryd.ntmps20
  go_wp2_with fail
  generalize w.alloc (.cells #[.int .i64 1, .int .i64 1, .int .i64 0, .string sku, .int .i64 1, .int .i64 0, .int .i64 0] tMsg) = wa at HB HM ⊢
  have HPa := Lib.hid (HP.out.below HB.out)
  have c0 := cell_at HPa.out.hd 0 rfl
  obtain ⟨m0, m1, m2, m3, m4, m5, m6⟩ := cell7 HM.out
  refine (nonep_no wa p bk tk wh 1 stock limit seq m st HPa.out).mono ?_
  rintro e w0 ⟨rfl, hw⟩; subst hw
  go_wp2_with fail
  refine (may_any wa 1 1 0 sku 1 0 0 hs (HT.out.below HB.out)).mono ?_
  rintro e wm ⟨rfl, hb⟩
  rw [HMY.out]
  have HB1 := Lib.hid (bch HB.out hb HB.out.size)
  clear hb
  go_wp2_with fail
  go_ret
  exact ⟨by rw [HF.out]; rfl, HB1.out⟩

set_option linter.unusedSimpArgs false in
set_option linter.unusedVariables false in
set_option maxRecDepth 100000 in
set_option maxHeartbeats 4000000 in
theorem left_yes (w : World) (p bk tk wh : Nat) (stock limit seq : Int) (m : Nat) (st : St) (sku : ByteArray) (h : PA w p bk tk wh 1 stock limit seq m st) (hT : PT w) (hst : 0 ≤ stock ∧ stock ≤ 1000000000) (hu : ∀ s, 0 ≤ used st.gs s ∧ used st.gs s ≤ 1000000000) (hs : sku.size ≤ 1000000000000) (hm : mayB 1 1 0 sku.data.toList 1 0 0 = true) :
    Calls Tryd.prog 20 #[.pointer (some ⟨p, 0, none⟩), .string sku] w fun e w' => e = .returned (.int .i64 (leftS 1 stock st sku.data.toList)) ∧ Below w.heap.size w w' := by
  have HP := Lib.hid h
  have HB := Lib.hid (below_alloc w (.cells #[.int .i64 1, .int .i64 1, .int .i64 0, .string sku, .int .i64 1, .int .i64 0, .int .i64 0] tMsg))
  have HM := Lib.hid (heap_new w (.cells #[.int .i64 1, .int .i64 1, .int .i64 0, .string sku, .int .i64 1, .int .i64 0, .int .i64 0] tMsg))
  have HT := Lib.hid hT
  have HU := Lib.hid hu
  obtain ⟨n, hn⟩ : ∃ n, used st.gs sku.data.toList = n := ⟨_, rfl⟩
  have hun := hu sku.data.toList
  rw [hn] at hun
  have HF := Lib.hid (show leftS 1 stock st sku.data.toList = stock - n by unfold leftS; rw [if_pos ⟨rfl, hm⟩, hn])
  have HMY := Lib.hid hm
  have hs8 : sku.data.toList.length ≤ 8 := by
    have hms := may_says (kind := 1) (m := ⟨1, 1, 0, sku.data.toList, 1, 0, 0⟩) hm rfl
    obtain ⟨_, _, _, ⟨hz, _⟩ | ⟨_, _, _, _, h8⟩⟩ := hms
    · exact absurd hz (by decide)
    · exact h8
  have HS8 := Lib.hid hs8
  have HNN := Lib.hid hn
  clear hm hs8 hn
  clear h hT hu
  go_enter Tryd.func20, Tryd.ntmps20
  go_wp2_with fail
  generalize w.alloc (.cells #[.int .i64 1, .int .i64 1, .int .i64 0, .string sku, .int .i64 1, .int .i64 0, .int .i64 0] tMsg) = wa at HB HM ⊢
  have HPa := Lib.hid (HP.out.below HB.out)
  have c0 := cell_at HPa.out.hd 0 rfl
  obtain ⟨m0, m1, m2, m3, m4, m5, m6⟩ := cell7 HM.out
  refine (nonep_no wa p bk tk wh 1 stock limit seq m st HPa.out).mono ?_
  rintro e w0 ⟨rfl, hw⟩; subst hw
  go_wp2_with fail
  refine (may_any wa 1 1 0 sku 1 0 0 hs (HT.out.below HB.out)).mono ?_
  rintro e wm ⟨rfl, hb⟩
  rw [HMY.out]
  have HB1 := Lib.hid (bch HB.out hb HB.out.size)
  clear hb
  have HP1 := Lib.hid (HP.out.below HB1.out)
  have HPh := Lib.hid HP1.out.hd
  have HL := Lib.hid (fun W (hb : Below wm.heap.size wm W) => show (Instr.lookup tTaken (.map (some tk)) (mkGoods sku.data.toList) false).run Tryd.prog W = .ok (.int .i64 n) W from by
    obtain ⟨T, hT1, hT2, _⟩ := HP1.out.taken
    have := look_taken (hT1.below hb) sku.data.toList HS8.out
    rw [hT2.2 _ HS8.out, HNN.out] at this
    exact this)
  have HO := Lib.hid (fun W => of_any sku W (by simpa using HS8.out))
  clear c0 m0 m1 m2 m3 m4 m5 m6
  have hwr : IntKind.i64.wrap (stock - n) = stock - n := by rw [IntKind.wrap_i64]; omega
  go_wp2_with fail
  refine wp_region_noPanic ?_
  refine wp_region_held_drew (S := (fun w' => Hid (Below wm.heap.size wm w') ∧ w'.cell? ⟨p, 1, none⟩ = some (.int .i64 stock) ∧ w'.cell? ⟨p, 4, none⟩ = some (.map (some tk)) ∧ (Instr.lookup tTaken (.map (some tk)) (mkGoods sku.data.toList) false).run Tryd.prog w' = .ok (.int .i64 n) w')) (by kernel_rfl) ⟨(below_drew1 (Below.refl _ wm)), cell_at ((((below_drew1 (Below.refl _ wm))).block _ (heap_lt HPh.out)).trans HPh.out) 1 rfl, cell_at ((((below_drew1 (Below.refl _ wm))).block _ (heap_lt HPh.out)).trans HPh.out) 4 rfl, HL.out _ (below_drew1 (Below.refl _ wm))⟩ (fun hHeld => ?_)
  refine wpAnyH_take (i := 0) (v := ?vl0) rfl (by kernel_rfl) (by kernel_rfl) (by kernel_rfl) (fun _ _ _ h => h) (Or.inl ⟨by rfl, ?hyl0⟩) (by assumption) ?restl0
  case hyl0 => (intro w0 hSw; (try dsimp only at hSw); go_simp; try with_reducible rfl)
  case' restl0 => try simp only [Act.put, List.getElem_toArray, List.getElem_cons_zero, List.getElem_cons_succ, List.setIfInBounds_toArray, List.set_cons_zero, List.set_cons_succ]
  refine wpAnyH_take (i := 1) (v := ?vl1) rfl (by kernel_rfl) (by kernel_rfl) (by kernel_rfl) (fun _ _ _ h => h) (Or.inl ⟨by rfl, ?hyl1⟩) (by assumption) ?restl1
  case hyl1 => (intro w0 hSw; (try dsimp only at hSw); go_simp; try with_reducible rfl)
  case' restl1 => try simp only [Act.put, List.getElem_toArray, List.getElem_cons_zero, List.getElem_cons_succ, List.setIfInBounds_toArray, List.set_cons_zero, List.set_cons_succ]
  refine wpAnyH_take (i := 2) (v := ?vl2) rfl (by kernel_rfl) (by kernel_rfl) (by kernel_rfl) (fun _ _ _ h => h) (Or.inl ⟨by rfl, ?hyl2⟩) (by assumption) ?restl2
  case hyl2 => (intro w0 hSw; (try dsimp only at hSw); go_simp; try with_reducible rfl)
  case' restl2 => try simp only [Act.put, List.getElem_toArray, List.getElem_cons_zero, List.getElem_cons_succ, List.setIfInBounds_toArray, List.set_cons_zero, List.set_cons_succ]
  refine wpAnyH_take (i := 3) (v := ?vl3) rfl (by kernel_rfl) (by kernel_rfl) (by kernel_rfl) (fun _ _ _ h => h) (Or.inl ⟨by rfl, ?hyl3⟩) (by assumption) ?restl3
  case hyl3 => (intro w0 hSw; (try dsimp only at hSw); go_simp; try with_reducible rfl)
  case' restl3 => try simp only [Act.put, List.getElem_toArray, List.getElem_cons_zero, List.getElem_cons_succ, List.setIfInBounds_toArray, List.set_cons_zero, List.set_cons_succ]
  refine wpAnyH_take (i := 4) (v := ?vl4) rfl (by kernel_rfl) (by kernel_rfl) (by kernel_rfl) (fun _ _ _ h => h) (Or.inl ⟨by rfl, ?hyl4⟩) (by assumption) ?restl4
  case hyl4 => (intro w0 hSw; (try dsimp only at hSw); go_simp; try with_reducible rfl)
  case' restl4 => try simp only [Act.put, List.getElem_toArray, List.getElem_cons_zero, List.getElem_cons_succ, List.setIfInBounds_toArray, List.set_cons_zero, List.set_cons_succ]
  refine wpAnyH_take (i := 5) (v := ?vl5) rfl (by kernel_rfl) (by kernel_rfl) (by kernel_rfl) (fun _ _ _ h => h) (Or.inl ⟨by rfl, ?hyl5⟩) (by assumption) ?restl5
  case hyl5 => (intro w0 hSw; (try dsimp only at hSw); go_simp; try with_reducible rfl)
  case' restl5 => try simp only [Act.put, List.getElem_toArray, List.getElem_cons_zero, List.getElem_cons_succ, List.setIfInBounds_toArray, List.set_cons_zero, List.set_cons_succ]
  refine wpAnyH_take (i := 6) (v := ?vl6) rfl (by kernel_rfl) (by kernel_rfl) (by kernel_rfl) (fun _ _ _ h => h) (Or.inl ⟨by rfl, ?hyl6⟩) (by assumption) ?restl6
  case hyl6 => (intro w0 hSw; (try dsimp only at hSw); go_simp; try with_reducible rfl)
  case' restl6 => try simp only [Act.put, List.getElem_toArray, List.getElem_cons_zero, List.getElem_cons_succ, List.setIfInBounds_toArray, List.set_cons_zero, List.set_cons_succ]
  refine wpAnyH_take (i := 7) (v := ?vl7) rfl (by kernel_rfl) (by kernel_rfl) (by kernel_rfl) (fun _ _ _ h => h) (Or.inl ⟨by rfl, ?hyl7⟩) (by assumption) ?restl7
  case hyl7 => (intro w0 hSw; (try dsimp only at hSw); go_simp; try with_reducible rfl)
  case' restl7 => try simp only [Act.put, List.getElem_toArray, List.getElem_cons_zero, List.getElem_cons_succ, List.setIfInBounds_toArray, List.set_cons_zero, List.set_cons_succ]
  refine wpAnyH_take (i := 8) (v := ?vl8) rfl (by kernel_rfl) (by kernel_rfl) (by kernel_rfl) (fun _ _ _ h => h) (Or.inl ⟨by rfl, ?hyl8⟩) (by assumption) ?restl8
  case hyl8 => (intro w0 hSw; (try dsimp only at hSw); go_simp; try with_reducible rfl)
  case' restl8 => try simp only [Act.put, List.getElem_toArray, List.getElem_cons_zero, List.getElem_cons_succ, List.setIfInBounds_toArray, List.set_cons_zero, List.set_cons_succ]
  refine wpAnyH_ready (rs := [9]) (by kernel_rfl) (by simp) ?_
  refine AllReadyH.cons rfl (fun K hK => ?_) AllReadyH.nil
  go_simp
  refine (HO.out _).mono ?_; rintro e w1 ⟨rfl, hb⟩
  have hbk := bch (Hid.out (And.left (by assumption))) hb (Below.size (Hid.out (And.left (by assumption))))
  refine hK.out _ _ ⟨hbk, cell_at (((hbk).block _ (heap_lt HPh.out)).trans HPh.out) 1 rfl, cell_at (((hbk).block _ (heap_lt HPh.out)).trans HPh.out) 4 rfl, HL.out _ hbk⟩ (fun hHeld => ?_)
  clear hK K hb hbk
  try simp only [Act.put, List.getElem_toArray, List.getElem_cons_zero, List.getElem_cons_succ, List.setIfInBounds_toArray, List.set_cons_zero, List.set_cons_succ]
  refine wpAnyH_take (i := 10) (v := ?vl10) rfl (by kernel_rfl) (by kernel_rfl) (by kernel_rfl) (fun _ _ _ h => h) (Or.inl ⟨by rfl, ?hyl10⟩) (by assumption) ?restl10
  case hyl10 => (intro w0 hSw; (try dsimp only at hSw); go_simp; try with_reducible rfl)
  case' restl10 => try simp only [Act.put, List.getElem_toArray, List.getElem_cons_zero, List.getElem_cons_succ, List.setIfInBounds_toArray, List.set_cons_zero, List.set_cons_succ]
  refine wpAnyH_take (i := 11) (v := ?vl11) rfl (by kernel_rfl) (by kernel_rfl) (by kernel_rfl) (fun _ _ _ h => h) (Or.inl ⟨by rfl, ?hyl11⟩) (by assumption) ?restl11
  case hyl11 => (intro w0 hSw; (try dsimp only at hSw); go_simp; try with_reducible rfl)
  case' restl11 => try simp only [Act.put, List.getElem_toArray, List.getElem_cons_zero, List.getElem_cons_succ, List.setIfInBounds_toArray, List.set_cons_zero, List.set_cons_succ]
  refine wpAnyH_take (i := 12) (v := ?vl12) rfl (by kernel_rfl) (by kernel_rfl) (by kernel_rfl) (fun _ _ _ h => h) (Or.inl ⟨by rfl, ?hyl12⟩) (by assumption) ?restl12
  case hyl12 => (intro w0 hSw; (try dsimp only at hSw); go_simp; try with_reducible rfl)
  case' restl12 => try simp only [Act.put, List.getElem_toArray, List.getElem_cons_zero, List.getElem_cons_succ, List.setIfInBounds_toArray, List.set_cons_zero, List.set_cons_succ]
  refine wpAnyH_done (by kernel_rfl) ?_ _
  refine NoPanic.normal ?_
  have HBx := Lib.hid (Hid.out hHeld.1)
  clear hHeld
  go_wp2_with fail
  go_ret
  exact ⟨by rw [HF.out]; rfl, bch HB1.out HBx.out HB1.out.size⟩

theorem left_any (w : World) (p bk tk wh : Nat) (kind stock limit seq : Int) (m : Nat) (st : St) (sku : ByteArray) (h : PA w p bk tk wh kind stock limit seq m st) (g : Pa.Good kind stock st) (hT : PT w) (hst : 0 ≤ stock ∧ stock ≤ 1000000000) (hs : sku.size ≤ 1000000000000) :
    Calls Tryd.prog 20 #[.pointer (some ⟨p, 0, none⟩), .string sku] w fun e w' => e = .returned (.int .i64 (leftS kind stock st sku.data.toList)) ∧ Below w.heap.size w w' := by
  have hu : ∀ s, 0 ≤ used st.gs s ∧ used st.gs s ≤ 1000000000 := fun s => ⟨used_nonneg (fun a s q hx => (g.gs a s q hx).2.2.1) _, Int.le_trans (g.le _) hst.2⟩
  by_cases hk : kind = 1
  · subst hk
    cases hm : mayB 1 1 0 sku.data.toList 1 0 0 with
    | false => exact left_no w p bk tk wh stock limit seq m st sku h hT hst hu hs hm
    | true => exact left_yes w p bk tk wh stock limit seq m st sku h hT hst hu hs hm
  · exact left_kind w p bk tk wh kind stock limit seq m st sku h hT hst hu hs hk
theorem ask_any (w : World) (p bk tk wh : Nat) (kind stock limit seq : Int) (m : Nat) (st : St) (to o d : Int) (sku : ByteArray) (qty amt cd : Int) (h : PA w p bk tk wh kind stock limit seq m st) (g : Pa.Good kind stock st) (hT : PT w) (hst : 0 ≤ stock ∧ stock ≤ 1000000000) (hn : st.rows.length < 80000) (hm : m < 90000) (hs : sku.size ≤ 1000000000000) :
    Calls Tryd.prog 13 #[.pointer (some ⟨p, 0, none⟩), .agg #[.int .i64 to, .int .i64 o, .int .i64 d, .string sku, .int .i64 qty, .int .i64 amt, .int .i64 cd]] w fun e w' => e = .returned (.tuple #[ansM o d (ansS kind stock limit st ⟨to, o, d, sku.data.toList, qty, amt, cd⟩), .bool (ansS kind stock limit st ⟨to, o, d, sku.data.toList, qty, amt, cd⟩).isSome]) ∧ PA w' p bk tk wh kind stock limit seq (m + 1) (askS kind stock limit st ⟨to, o, d, sku.data.toList, qty, amt, cd⟩) ∧ Turned (fun i => i = bk ∨ i = tk ∨ i = wh) w w' := by
  by_cases hto : to = kind
  · subst hto
    cases hmay : mayB to o d sku.data.toList qty amt cd with
    | false => exact ask_maynot w p bk tk wh to stock limit seq m st o d sku qty amt cd h g hT hst hn hm hs hmay
    | true =>
      obtain ⟨_, _, hcd, _⟩ := may_says (m := ⟨to, o, d, sku.data.toList, qty, amt, cd⟩) hmay rfl
      simp only [] at hcd
      subst hcd
      cases hf : findR st.rows (o, d) with
      | some x => exact ask_there w p bk tk wh to stock limit seq m st o d sku qty amt h g hT hst hn hm hs hmay x hf
      | none =>
        by_cases hd : 3 ≤ d
        · exact ask_undo w p bk tk wh to stock limit seq m st o d sku qty amt h g hT hst hn hm hs hmay hf hd
        · exact ask_do w p bk tk wh to stock limit seq m st o d sku qty amt h g hT hst hn hm hs hmay hf (by omega)
  · exact ask_other w p bk tk wh kind stock limit seq m st to o d sku qty amt cd h g hT hst hn hm hs hto

theorem PA.seqS {w w' : World} {p bk tk wh : Nat} {kind stock limit seq seq' : Int} {m : Nat} {st : St} (h : PA w p bk tk wh kind stock limit seq m st) (ht : Turned (fun i => i = p) w w') (hd : w'.heap[p]? = some (.cells #[.int .i64 kind, .int .i64 stock, .int .i64 limit, .map (some bk), .map (some tk), .map (some wh), .int .i64 seq'] tParty (0, 0))) : PA w' p bk tk wh kind stock limit seq' m st := by
  have hl := h.lt
  obtain ⟨T, hT, hT'⟩ := h.taken
  obtain ⟨W, hW, hW'⟩ := h.what
  exact ⟨hd, h.book.block (ht.block bk hl.2.1 (by omega)), ⟨T, hT.block (ht.block tk hl.2.2.1 (by omega)), hT'⟩, ⟨W, hW.block (ht.block wh hl.2.2.2.1 (by omega)), hW'⟩, h.ne⟩
theorem PA.of_turned {w w' : World} {p bk tk wh : Nat} {kind stock limit seq : Int} {m : Nat} {st : St} (h : PA w p bk tk wh kind stock limit seq m st) {S : Nat → Prop} (ht : Turned S w w') (hS : ∀ i, S i → w.heap.size ≤ i) : PA w' p bk tk wh kind stock limit seq m st := by
  have hl := h.lt
  exact h.turned ht (fun x => by have := hS _ x; omega) (fun x => by have := hS _ x; omega) (fun x => by have := hS _ x; omega) (fun x => by have := hS _ x; omega)
theorem set7_6 {w : World} {b : Nat} {x0 x1 x2 x3 x4 x5 x6 : Value} {T : TypeId} (h : w.heap[b]? = some (.cells #[x0, x1, x2, x3, x4, x5, x6] T (0, 0))) (q : Value) : (w.setCell ⟨b, 6, none⟩ q).heap[b]? = some (.cells #[x0, x1, x2, x3, x4, x5, q] T (0, 0)) := by
  simp [World.setCell, Array.getElem?_modify, h]
abbrev set3w (w : World) (b : Nat) (p0 p1 p2 : Value) : World := ((w.setCell ⟨b, 0, none⟩ p0).setCell ⟨b, 1, none⟩ p1).setCell ⟨b, 2, none⟩ p2
theorem set3c {w : World} {b : Nat} {x0 x1 x2 : Value} {T : TypeId} (h : w.heap[b]? = some (.cells #[x0, x1, x2] T (0, 0))) (p0 p1 p2 : Value) : (set3w w b p0 p1 p2).heap[b]? = some (.cells #[p0, p1, p2] T (0, 0)) := by
  simp [set3w, World.setCell, Array.getElem?_modify, h]
theorem turned_set3 (w : World) (b : Nat) (p0 p1 p2 : Value) : Turned (fun j => j = b) w (set3w w b p0 p1 p2) := ((turned_set w b 0 p0).trans (turned_set _ b 1 p1)).trans (turned_set _ b 2 p2)
theorem cell3c {w : World} {b : Nat} {x0 x1 x2 : Value} {T : TypeId} (h : w.heap[b]? = some (.cells #[x0, x1, x2] T (0, 0))) : w.cell? ⟨b, 0, none⟩ = some x0 ∧ w.cell? ⟨b, 1, none⟩ = some x1 ∧ w.cell? ⟨b, 2, none⟩ = some x2 := ⟨cell_at h 0 rfl, cell_at h 1 rfl, cell_at h 2 rfl⟩
theorem froz3 {w : World} {b : Nat} {cs : Array Value} {T : TypeId} (h : w.heap[b]? = some (.cells cs T (0, 0))) : w.frozen? ⟨b, 0, none⟩ = false ∧ w.frozen? ⟨b, 1, none⟩ = false ∧ w.frozen? ⟨b, 2, none⟩ = false := ⟨frozen_at h _, frozen_at h _, frozen_at h _⟩
theorem own_turned {w w' : World} {B z n : Nat} {e : TypeId} {v : Value} {xs : List Value} (h : w.ownsRow B e z v n xs) {S : Nat → Prop} (ht : Turned S w w') (hS : ∀ j, v.ownBlock = some j → ¬ S j) : w'.ownsRow B e z v n xs := by
  rcases h.2 with ⟨rfl, rfl⟩ | ⟨g, cap, cur, rfl, hB, hg, hr⟩
  · exact ⟨h.1, .inl ⟨rfl, rfl⟩⟩
  · exact ⟨h.1, .inr ⟨g, cap, cur, rfl, hB, (ht.block g (heap_lt hg) (hS g rfl)).trans hg, hr⟩⟩

abbrev tStat : TypeId := 48
set_option linter.unusedSimpArgs false in
set_option linter.unusedVariables false in
set_option maxRecDepth 100000 in
set_option maxHeartbeats 4000000 in
theorem stat_any (w : World) (p bk tk wh : Nat) (kind stock limit seq : Int) (m : Nat) (st : St) (h : PA w p bk tk wh kind stock limit seq m st) (hr : Rise st.rows) (hck : ∀ x ∈ st.rows, chk x.1.1 x.1.2 = true) (hn : st.rows.length < 90000) (hsq : 0 ≤ seq ∧ seq < 100000) :
    Calls Tryd.prog 18 #[.pointer (some ⟨p, 0, none⟩)] w fun e w' => ∃ v, e = .returned (.agg #[.int .i64 kind, .int .i64 (seq + 1), v]) ∧ w'.ownsRow w.heap.size tRow 5 v st.rows.length (st.rows.flatMap encR) ∧ PA w' p bk tk wh kind stock limit (seq + 1) m st ∧ Turned (fun i => i = p) w w' := by
  have HP := Lib.hid h
  have hl := h.lt
  have HR := Lib.hid hr
  have HCK := Lib.hid hck
  have HB := Lib.hid (below_alloc w (.cells #[.int .i64 0, .int .i64 0, .slice none 0 0] tStat))
  have HZ := Lib.hid (heap_new w (.cells #[.int .i64 0, .int .i64 0, .slice none 0 0] tStat))
  clear h hr hck
  go_enter Tryd.func18, Tryd.ntmps18
  go_wp2_with fail
  generalize w.alloc (.cells #[.int .i64 0, .int .i64 0, .slice none 0 0] tStat) = wa at HB HZ ⊢
  have HPa := Lib.hid (HP.out.below HB.out)
  have c6 := cell_at HPa.out.hd 6 rfl
  have f6 := frozen_at HPa.out.hd 6
  refine (nonep_no wa p bk tk wh kind stock limit seq m st HPa.out).mono ?_
  rintro e w0 ⟨rfl, hw⟩; subst hw
  go_wp2_with fail
  have HTb := Lib.hid (turned_set wa p 6 (.int .i64 (seq + 1)))
  have HPb := Lib.hid (HPa.out.seqS HTb.out (set7_6 HPa.out.hd (.int .i64 (seq + 1))))
  have HZb := Lib.hid ((HTb.out.block _ (heap_lt HZ.out) (by omega)).trans HZ.out)
  have HTw := Lib.hid ((Turned.of_below (S := fun i => i = p) HB.out).trans HTb.out)
  clear c6 f6 HPa HTb
  generalize wa.setCell ⟨p, 6, none⟩ (.int .i64 (seq + 1)) = wb at HPb HZb HTw ⊢
  have HRW := Lib.hid (fun W (hb : Below wb.heap.size wb W) => rows_any W p bk tk wh kind stock limit (seq + 1) m st (HPb.out.below hb) HR.out HCK.out hn)
  have HPh := Lib.hid HPb.out.hd
  have HH := Lib.hid (fun W (ht : Turned (fun i => i = w.heap.size) wb W) => (⟨Lib.hid ht, cell_at ((ht.block _ (heap_lt HPh.out) (by omega)).trans HPh.out) 0 rfl, cell_at ((ht.block _ (heap_lt HPh.out) (by omega)).trans HPh.out) 6 rfl⟩ : (fun w' => Hid (Turned (fun i => i = w.heap.size) wb w') ∧ w'.cell? ⟨p, 0, none⟩ = some (.int .i64 kind) ∧ w'.cell? ⟨p, 6, none⟩ = some (.int .i64 (seq + 1))) W))
  refine wp_region_noPanic ?_
  refine wp_region_held_drew (S := (fun w' => Hid (Turned (fun i => i = w.heap.size) wb w') ∧ w'.cell? ⟨p, 0, none⟩ = some (.int .i64 kind) ∧ w'.cell? ⟨p, 6, none⟩ = some (.int .i64 (seq + 1)))) (by kernel_rfl) (HH.out _ (Turned.of_below (below_drew1 (Below.refl wb.heap.size wb)))) (fun hHeld => ?_)
  refine wpAnyH_take (i := 0) (v := ?vs0) rfl (by kernel_rfl) (by kernel_rfl) (by kernel_rfl) (fun _ _ _ h => h) (Or.inl ⟨by rfl, ?hys0⟩) (by assumption) ?rests0
  case hys0 => (intro w0 hSw; (try dsimp only at hSw); go_simp; try with_reducible rfl)
  case' rests0 => try simp only [Act.put, List.getElem_toArray, List.getElem_cons_zero, List.getElem_cons_succ, List.setIfInBounds_toArray, List.set_cons_zero, List.set_cons_succ]
  refine wpAnyH_take (i := 1) (v := ?vs1) rfl (by kernel_rfl) (by kernel_rfl) (by kernel_rfl) (fun _ _ _ h => h) (Or.inl ⟨by rfl, ?hys1⟩) (by assumption) ?rests1
  case hys1 => (intro w0 hSw; (try dsimp only at hSw); go_simp; try with_reducible rfl)
  case' rests1 => try simp only [Act.put, List.getElem_toArray, List.getElem_cons_zero, List.getElem_cons_succ, List.setIfInBounds_toArray, List.set_cons_zero, List.set_cons_succ]
  refine wpAnyH_take (i := 2) (v := ?vs2) rfl (by kernel_rfl) (by kernel_rfl) (by kernel_rfl) (fun _ _ _ h => h) (Or.inl ⟨by rfl, ?hys2⟩) (by assumption) ?rests2
  case hys2 => (intro w0 hSw; (try dsimp only at hSw); go_simp; try with_reducible rfl)
  case' rests2 => try simp only [Act.put, List.getElem_toArray, List.getElem_cons_zero, List.getElem_cons_succ, List.setIfInBounds_toArray, List.set_cons_zero, List.set_cons_succ]
  refine wpAnyH_take (i := 3) (v := ?vs3) rfl (by kernel_rfl) (by kernel_rfl) (by kernel_rfl) (fun _ _ _ h => h) (Or.inl ⟨by rfl, ?hys3⟩) (by assumption) ?rests3
  case hys3 => (intro w0 hSw; (try dsimp only at hSw); go_simp; try with_reducible rfl)
  case' rests3 => try simp only [Act.put, List.getElem_toArray, List.getElem_cons_zero, List.getElem_cons_succ, List.setIfInBounds_toArray, List.set_cons_zero, List.set_cons_succ]
  refine wpAnyH_take (i := 4) (v := ?vs4) rfl (by kernel_rfl) (by kernel_rfl) (by kernel_rfl) (fun _ _ _ h => h) (Or.inl ⟨by rfl, ?hys4⟩) (by assumption) ?rests4
  case hys4 => (intro w0 hSw; (try dsimp only at hSw); go_simp; try with_reducible rfl)
  case' rests4 => try simp only [Act.put, List.getElem_toArray, List.getElem_cons_zero, List.getElem_cons_succ, List.setIfInBounds_toArray, List.set_cons_zero, List.set_cons_succ]
  refine wpAnyH_take (i := 5) (v := ?vs5) rfl (by kernel_rfl) (by kernel_rfl) (by kernel_rfl) (fun _ _ _ h => h) (Or.inl ⟨by rfl, ?hys5⟩) (by assumption) ?rests5
  case hys5 => (intro w0 hSw; (try dsimp only at hSw); go_simp; try with_reducible rfl)
  case' rests5 => try simp only [Act.put, List.getElem_toArray, List.getElem_cons_zero, List.getElem_cons_succ, List.setIfInBounds_toArray, List.set_cons_zero, List.set_cons_succ]
  refine wpAnyH_take (i := 6) (v := ?vs6) rfl (by kernel_rfl) (by kernel_rfl) (by kernel_rfl) (fun _ _ _ h => h) (Or.inl ⟨by rfl, ?hys6⟩) (by assumption) ?rests6
  case hys6 => (intro w0 hSw; (try dsimp only at hSw); go_simp; try with_reducible rfl)
  case' rests6 => try simp only [Act.put, List.getElem_toArray, List.getElem_cons_zero, List.getElem_cons_succ, List.setIfInBounds_toArray, List.set_cons_zero, List.set_cons_succ]
  refine wpAnyH_take (i := 7) (v := ?vs7) rfl (by kernel_rfl) (by kernel_rfl) (by kernel_rfl) (fun _ _ _ h => h) (Or.inl ⟨by rfl, ?hys7⟩) (by assumption) ?rests7
  case hys7 => (intro w0 hSw; (try dsimp only at hSw); go_simp; try with_reducible rfl)
  case' rests7 => try simp only [Act.put, List.getElem_toArray, List.getElem_cons_zero, List.getElem_cons_succ, List.setIfInBounds_toArray, List.set_cons_zero, List.set_cons_succ]
  refine wpAnyH_take (i := 8) (v := ?vs8) rfl (by kernel_rfl) (by kernel_rfl) (by kernel_rfl) (fun _ _ _ h => h) (Or.inl ⟨by rfl, ?hys8⟩) (by assumption) ?rests8
  case hys8 => (intro w0 hSw; (try dsimp only at hSw); go_simp; try with_reducible rfl)
  case' rests8 => try simp only [Act.put, List.getElem_toArray, List.getElem_cons_zero, List.getElem_cons_succ, List.setIfInBounds_toArray, List.set_cons_zero, List.set_cons_succ]
  refine wpAnyH_ready (rs := [9]) (by kernel_rfl) (by simp) ?_
  refine AllReadyH.cons rfl (fun K hK => ?_) AllReadyH.nil
  go_simp
  refine (HRW.out wb.drew (below_drew1 (Below.refl _ _))).mono ?_; rintro e w1 ⟨v, rfl, ho, hb⟩
  have HB1 := Lib.hid (Below.trans (below_drew1 (Below.refl wb.heap.size wb)) hb)
  obtain ⟨sa, sc, rfl, _⟩ := own_slice ho
  have HO1 := Lib.hid ho
  refine hK.out _ _ (HH.out _ (Turned.of_below HB1.out)) (fun hHeld => ?_)
  clear hK K ho hb
  try simp only [Act.put, List.getElem_toArray, List.getElem_cons_zero, List.getElem_cons_succ, List.setIfInBounds_toArray, List.set_cons_zero, List.set_cons_succ]
  refine wpAnyH_take (i := 10) (v := ?vs10) rfl (by kernel_rfl) (by kernel_rfl) (by kernel_rfl) (fun _ _ _ h => h) (Or.inl ⟨by rfl, ?hys10⟩) (by assumption) ?rests10
  case hys10 => (intro w0 hSw; (try dsimp only at hSw); go_simp; try with_reducible rfl)
  case' rests10 => try simp only [Act.put, List.getElem_toArray, List.getElem_cons_zero, List.getElem_cons_succ, List.setIfInBounds_toArray, List.set_cons_zero, List.set_cons_succ]
  have HZ1 := Lib.hid (heap_keep HZb.out HB1.out)
  obtain ⟨z0, z1, z2⟩ := cell3c HZ1.out
  obtain ⟨f0, f1, f2⟩ := froz3 HZ1.out
  have HTu := Lib.hid (turned_set3 w1 w.heap.size (.int .i64 kind) (.int .i64 (seq + 1)) (.slice sa st.rows.length sc))
  have HSET := Lib.hid (set3c HZ1.out (.int .i64 kind) (.int .i64 (seq + 1)) (.slice sa st.rows.length sc))
  unfold set3w at HTu HSET
  refine wpAnyH_ready (rs := [11]) (by kernel_rfl) (by simp) ?_
  refine AllReadyH.cons rfl (fun K hK => ?_) AllReadyH.nil
  go_simp
  refine hK.out _ _ (HH.out _ ((Turned.of_below HB1.out).trans HTu.out)) (fun hHeld => ?_)
  clear hK K
  try simp only [Act.put, List.getElem_toArray, List.getElem_cons_zero, List.getElem_cons_succ, List.setIfInBounds_toArray, List.set_cons_zero, List.set_cons_succ]
  refine wpAnyH_done (by kernel_rfl) ?_ _
  refine NoPanic.normal ?_
  go_wp2_with fail
  obtain ⟨m0, m1, m2⟩ := cell3c HSET.out
  clear z0 z1 z2 f0 f1 f2 hHeld
  have hbs := HB.out.size
  have hsz := HTw.out.size
  have hzl := heap_lt HZ.out
  refine bodyPost_ret (v := .agg #[.int .i64 kind, .int .i64 (seq + 1), .slice sa st.rows.length sc]) ?_ rfl ⟨_, rfl, ?_, ?_, ?_⟩
  · simp [results, Tryd.results18, go_sem, m0, m1, m2]
  · refine own_weak (own_turned HO1.out HTu.out (fun j hj => ?_)) hsz
    have h1 := (HO1.out.lt j hj).1
    have h2 : wb.drew.heap.size = wb.heap.size := rfl
    have h3 := heap_lt HZb.out
    omega
  · exact HPb.out.turned ((Turned.of_below HB1.out).trans HTu.out) (by omega) (by omega) (by omega) (by omega)
  · exact (Turned.trans HTw.out (Turned.of_below HB1.out)).far (HTu.out.mono (fun i hi => .inr (by omega)))
end Go.Proofs.YtkmpagijdhhinaaDoor

/- law16: PartyOnce. -/
import Derived.Test.YtkmpagijdhhinaaDoorPartyTwo
namespace Go.Proofs.YtkmpagijdhhinaaDoor
open Go.RowKit Go.Maps Key Od Pa

abbrev tFirm : TypeId := 23
set_option linter.unusedSimpArgs false in
set_option linter.unusedVariables false in
set_option maxRecDepth 100000 in
set_option maxHeartbeats 4000000 in
theorem lawPartyOnce_walk (w : World) (hT : PT w) (kind stock limit : Int) (v : Value) (L : List Msg6) (tw : Int) (h : Msgs w v L) (htw : 0 ≤ tw ∧ tw ≤ 4294967295) :
    Calls Tryd.prog 5 #[.agg #[.int .i64 kind, .int .i64 stock, .int .i64 limit], v, .int .u32 tw] w fun e w' => e = .returned (.bool true) ∧ Below w.heap.size w w' := by
  have HX0 := Lib.hid (heap_new w (.cells #[.int .i64 kind, .int .i64 stock, .int .i64 limit] tFirm))
  have HB0 := Lib.hid (below_alloc w (.cells #[.int .i64 kind, .int .i64 stock, .int .i64 limit] tFirm))
  have HT := Lib.hid hT
  obtain ⟨A, c, rfl, hLc, hcm⟩ := h.shape
  have HS := Lib.hid h
  clear hT h
  cases hg : greatB L 60 with
  | true =>
    have HG := Lib.hid ((great_any w _ _ L 60 HS.out HB0.out).mono (fun e w' h => (⟨h.1.trans (by rw [hg]), h.2⟩ : e = .returned (.bool true) ∧ _ = w')))
    go_enter Tryd.func5, Tryd.ntmps5
    go_wp2_with fail
    refine HG.out.mono ?_
    rintro e w1 ⟨rfl, hw⟩; subst hw
    go_wp2_with fail
    refine (asked_true _ (HT.out.below HB0.out)).mono ?_
    rintro e w2 ⟨rfl, hb⟩
    have HB := Lib.hid (bch HB0.out hb HB0.out.size)
    clear hb
    go_wp2_with fail
    go_ret
    exact ⟨rfl, HB.out⟩
  | false =>
    obtain ⟨h60, hsk⟩ := great_no hg
    have HSK := Lib.hid hsk
    have HG := Lib.hid ((great_any w _ _ L 60 HS.out HB0.out).mono (fun e w' h => (⟨h.1.trans (by rw [hg]), h.2⟩ : e = .returned (.bool false) ∧ _ = w')))
    clear hsk hg
    by_cases hk : 0 ≤ kind ∧ kind ≤ 2
    · go_enter Tryd.func5, Tryd.ntmps5
      go_wp2_with fail
      refine HG.out.mono ?_
      rintro e w1 ⟨rfl, hw⟩; subst hw
      clear HG
      generalize w.alloc (.cells #[.int .i64 kind, .int .i64 stock, .int .i64 limit] tFirm) = wa at HX0 HB0 ⊢
      go_wp2_with fail
      have HH := Lib.hid (fun W (hb : Below wa.heap.size wa W) => (⟨Lib.hid hb, cell_at ((hb.block _ (heap_lt HX0.out)).trans HX0.out) 0 rfl, cell_at ((hb.block _ (heap_lt HX0.out)).trans HX0.out) 1 rfl, cell_at ((hb.block _ (heap_lt HX0.out)).trans HX0.out) 2 rfl⟩ : (fun w' => Hid (Below wa.heap.size wa w') ∧ w'.cell? ⟨w.heap.size, 0, none⟩ = some (.int .i64 kind) ∧ w'.cell? ⟨w.heap.size, 1, none⟩ = some (.int .i64 stock) ∧ w'.cell? ⟨w.heap.size, 2, none⟩ = some (.int .i64 limit)) W))
      refine wp_region_noPanic ?_
      refine wp_region_held_drew (S := (fun w' => Hid (Below wa.heap.size wa w') ∧ w'.cell? ⟨w.heap.size, 0, none⟩ = some (.int .i64 kind) ∧ w'.cell? ⟨w.heap.size, 1, none⟩ = some (.int .i64 stock) ∧ w'.cell? ⟨w.heap.size, 2, none⟩ = some (.int .i64 limit))) (by kernel_rfl) (HH.out _ (below_drew1 (Below.refl wa.heap.size wa))) (fun hHeld => ?_)
      refine wpAnyH_take (i := 0) (v := ?vv0) rfl (by kernel_rfl) (by kernel_rfl) (by kernel_rfl) (fun _ _ _ h => h) (Or.inl ⟨by rfl, ?hyv0⟩) (by assumption) ?restv0
      case hyv0 => (intro w0 hSw; (try dsimp only at hSw); go_simp; try with_reducible rfl)
      case' restv0 => try simp only [Act.put, List.getElem_toArray, List.getElem_cons_zero, List.getElem_cons_succ, List.setIfInBounds_toArray, List.set_cons_zero, List.set_cons_succ]
      refine wpAnyH_take (i := 1) (v := ?vv1) rfl (by kernel_rfl) (by kernel_rfl) (by kernel_rfl) (fun _ _ _ h => h) (Or.inl ⟨by rfl, ?hyv1⟩) (by assumption) ?restv1
      case hyv1 => (intro w0 hSw; (try dsimp only at hSw); go_simp; try with_reducible rfl)
      case' restv1 => try simp only [Act.put, List.getElem_toArray, List.getElem_cons_zero, List.getElem_cons_succ, List.setIfInBounds_toArray, List.set_cons_zero, List.set_cons_succ]
      refine wpAnyH_take (i := 2) (v := ?vv2) rfl (by kernel_rfl) (by kernel_rfl) (by kernel_rfl) (fun _ _ _ h => h) (Or.inl ⟨by rfl, ?hyv2⟩) (by assumption) ?restv2
      case hyv2 => (intro w0 hSw; (try dsimp only at hSw); go_simp; try with_reducible rfl)
      case' restv2 => try simp only [Act.put, List.getElem_toArray, List.getElem_cons_zero, List.getElem_cons_succ, List.setIfInBounds_toArray, List.set_cons_zero, List.set_cons_succ]
      refine wpAnyH_take (i := 3) (v := ?vv3) rfl (by kernel_rfl) (by kernel_rfl) (by kernel_rfl) (fun _ _ _ h => h) (Or.inl ⟨by rfl, ?hyv3⟩) (by assumption) ?restv3
      case hyv3 => (intro w0 hSw; (try dsimp only at hSw); go_simp; try with_reducible rfl)
      case' restv3 => try simp only [Act.put, List.getElem_toArray, List.getElem_cons_zero, List.getElem_cons_succ, List.setIfInBounds_toArray, List.set_cons_zero, List.set_cons_succ]
      refine wpAnyH_take (i := 4) (v := ?vv4) rfl (by kernel_rfl) (by kernel_rfl) (by kernel_rfl) (fun _ _ _ h => h) (Or.inl ⟨by rfl, ?hyv4⟩) (by assumption) ?restv4
      case hyv4 => (intro w0 hSw; (try dsimp only at hSw); go_simp; try with_reducible rfl)
      case' restv4 => try simp only [Act.put, List.getElem_toArray, List.getElem_cons_zero, List.getElem_cons_succ, List.setIfInBounds_toArray, List.set_cons_zero, List.set_cons_succ]
      refine wpAnyH_take (i := 5) (v := ?vv5) rfl (by kernel_rfl) (by kernel_rfl) (by kernel_rfl) (fun _ _ _ h => h) (Or.inl ⟨by rfl, ?hyv5⟩) (by assumption) ?restv5
      case hyv5 => (intro w0 hSw; (try dsimp only at hSw); go_simp; try with_reducible rfl)
      case' restv5 => try simp only [Act.put, List.getElem_toArray, List.getElem_cons_zero, List.getElem_cons_succ, List.setIfInBounds_toArray, List.set_cons_zero, List.set_cons_succ]
      refine wpAnyH_take (i := 7) (v := ?vv7) rfl (by kernel_rfl) (by kernel_rfl) (by kernel_rfl) (fun _ _ _ h => h) (Or.inl ⟨by rfl, ?hyv7⟩) (by assumption) ?restv7
      case hyv7 => (intro w0 hSw; (try dsimp only at hSw); go_simp; try with_reducible rfl)
      case' restv7 => try simp only [Act.put, List.getElem_toArray, List.getElem_cons_zero, List.getElem_cons_succ, List.setIfInBounds_toArray, List.set_cons_zero, List.set_cons_succ]
      refine wpAnyH_take (i := 8) (v := ?vv8) rfl (by kernel_rfl) (by kernel_rfl) (by kernel_rfl) (fun _ _ _ h => h) (Or.inl ⟨by rfl, ?hyv8⟩) (by assumption) ?restv8
      case hyv8 => (intro w0 hSw; (try dsimp only at hSw); go_simp; try with_reducible rfl)
      case' restv8 => try simp only [Act.put, List.getElem_toArray, List.getElem_cons_zero, List.getElem_cons_succ, List.setIfInBounds_toArray, List.set_cons_zero, List.set_cons_succ]
      refine wpAnyH_take (i := 9) (v := ?vv9) rfl (by kernel_rfl) (by kernel_rfl) (by kernel_rfl) (fun _ _ _ h => h) (Or.inl ⟨by rfl, ?hyv9⟩) (by assumption) ?restv9
      case hyv9 => (intro w0 hSw; (try dsimp only at hSw); go_simp; try with_reducible rfl)
      case' restv9 => try simp only [Act.put, List.getElem_toArray, List.getElem_cons_zero, List.getElem_cons_succ, List.setIfInBounds_toArray, List.set_cons_zero, List.set_cons_succ]
      refine wpAnyH_take (i := 10) (v := ?vv10) rfl (by kernel_rfl) (by kernel_rfl) (by kernel_rfl) (fun _ _ _ h => h) (Or.inl ⟨by rfl, ?hyv10⟩) (by assumption) ?restv10
      case hyv10 => (intro w0 hSw; (try dsimp only at hSw); go_simp; try with_reducible rfl)
      case' restv10 => try simp only [Act.put, List.getElem_toArray, List.getElem_cons_zero, List.getElem_cons_succ, List.setIfInBounds_toArray, List.set_cons_zero, List.set_cons_succ]
      refine wpAnyH_take (i := 11) (v := ?vv11) rfl (by kernel_rfl) (by kernel_rfl) (by kernel_rfl) (fun _ _ _ h => h) (Or.inl ⟨by rfl, ?hyv11⟩) (by assumption) ?restv11
      case hyv11 => (intro w0 hSw; (try dsimp only at hSw); go_simp; try with_reducible rfl)
      case' restv11 => try simp only [Act.put, List.getElem_toArray, List.getElem_cons_zero, List.getElem_cons_succ, List.setIfInBounds_toArray, List.set_cons_zero, List.set_cons_succ]
      refine wpAnyH_take (i := 12) (v := ?vv12) rfl (by kernel_rfl) (by kernel_rfl) (by kernel_rfl) (fun _ _ _ h => h) (Or.inl ⟨by rfl, ?hyv12⟩) (by assumption) ?restv12
      case hyv12 => (intro w0 hSw; (try dsimp only at hSw); go_simp; try with_reducible rfl)
      case' restv12 => try simp only [Act.put, List.getElem_toArray, List.getElem_cons_zero, List.getElem_cons_succ, List.setIfInBounds_toArray, List.set_cons_zero, List.set_cons_succ]
      refine wpAnyH_ready (rs := [6]) (by kernel_rfl) (by simp) ?_
      refine AllReadyH.cons rfl (fun K hK => ?_) AllReadyH.nil
      go_simp
      refine (Pl.new wa.drew ((HT.out.below HB0.out).below (below_drew1 (Below.refl _ _))) kind stock limit hk).mono ?_; rintro e wb ⟨p, bk, tk, wh, rfl, hp, hb⟩
      have HP := Lib.hid hp
      have HPB := Lib.hid (bch (below_drew1 (Below.refl wa.heap.size wa)) hb (Below.size (below_drew1 (Below.refl wa.heap.size wa))))
      have HPC := Lib.hid hb
      refine hK.out _ _ (HH.out _ HPB.out) (fun hHeld => ?_)
      clear hK K hp hb
      try simp only [Act.put, List.getElem_toArray, List.getElem_cons_zero, List.getElem_cons_succ, List.setIfInBounds_toArray, List.set_cons_zero, List.set_cons_succ]
      refine wpAnyH_ready (rs := [13]) (by kernel_rfl) (by simp) ?_
      refine AllReadyH.cons rfl (fun K hK => ?_) AllReadyH.nil
      go_simp
      refine (Pl.new wb HP.out.pt kind stock limit hk).mono ?_; rintro e wc ⟨q, b, t, u, rfl, hp, hb⟩
      have HQ0 := Lib.hid hp
      have HQ0B := Lib.hid (bch HPB.out hb (Below.size HPB.out))
      have HQ0C := Lib.hid hb
      refine hK.out _ _ (HH.out _ HQ0B.out) (fun hHeld => ?_)
      clear hK K hp hb
      try simp only [Act.put, List.getElem_toArray, List.getElem_cons_zero, List.getElem_cons_succ, List.setIfInBounds_toArray, List.set_cons_zero, List.set_cons_succ]
      refine wpAnyH_take (i := 14) (v := ?vv14) rfl (by kernel_rfl) (by kernel_rfl) (by kernel_rfl) (fun _ _ _ h => h) (Or.inl ⟨by rfl, ?hyv14⟩) (by assumption) ?restv14
      case hyv14 => (intro w0 hSw; (try dsimp only at hSw); go_simp; try with_reducible rfl)
      case' restv14 => try simp only [Act.put, List.getElem_toArray, List.getElem_cons_zero, List.getElem_cons_succ, List.setIfInBounds_toArray, List.set_cons_zero, List.set_cons_succ]
      refine wpAnyH_take (i := 15) (v := ?vv15) rfl (by kernel_rfl) (by kernel_rfl) (by kernel_rfl) (fun _ _ _ h => h) (Or.inl ⟨by rfl, ?hyv15⟩) (by assumption) ?restv15
      case hyv15 => (intro w0 hSw; (try dsimp only at hSw); go_simp; try with_reducible rfl)
      case' restv15 => try simp only [Act.put, List.getElem_toArray, List.getElem_cons_zero, List.getElem_cons_succ, List.setIfInBounds_toArray, List.set_cons_zero, List.set_cons_succ]
      refine wpAnyH_done (by kernel_rfl) ?_ _
      refine NoPanic.normal ?_
      have hlp := HP.out.pa.lt
      have HBb := Lib.hid (bch HB0.out HPB.out HB0.out.size)
      have HP1 := Lib.hid (HP.out.weak HBb.out HB0.out.size HT.out.lt)
      have HQ := Lib.hid (show Two w wc p bk tk wh q b t u kind (min (max stock 0) 1000000000) limit 0 0 ⟨[], [], []⟩ ⟨[], [], []⟩ from ⟨HP1.out.keep HQ0C.out, HQ0.out.weak (bch HBb.out HQ0C.out HBb.out.size) HBb.out.size HT.out.lt, ⟨wb.heap.size, ⟨hlp.1, hlp.2.1, hlp.2.2.1, hlp.2.2.2.1⟩, HQ0.out.lp⟩⟩)
      clear hHeld hlp HP HPB HPC HP1 HQ0 HQ0B HQ0C HBb HH HX0 HB0
      generalize min (max stock 0) 1000000000 = stk at HQ
      go_wp2_with fail
      go_loopw [9] (fun i wr => ∃ (k m2 : Nat) (st : St), i = .int .i64 k ∧ k ≤ L.length ∧ m2 ≤ 2 * k ∧ Hid (Two w wr p bk tk wh q b t u kind stk limit k m2 st st) ∧ Hid (∀ x ∈ L.take k, Settled kind st (msOf x))) (fun i _ => L.length - (intOf i).toNat)
      case atStart => exact ⟨0, 0, _, rfl, by omega, by omega, HQ, by intro x hx; simp at hx⟩
      case round =>
        obtain ⟨k, m2, st, rfl, hk', hm2, HP, HST⟩ := hrel
        by_cases hkl : k < L.length
        · obtain ⟨x, hx⟩ : ∃ x, L[k]? = some x := ⟨_, List.getElem?_eq_getElem hkl⟩
          have HC := Lib.hid (fun W (hb : Below w.heap.size w W) => msg_cells HS.out hb hx)
          have hxs := HSK.out x (List.mem_of_getElem? hx)
          have HX := Lib.hid hx
          obtain ⟨g, off, n, c', e, c0, c1, c2, c3, c4, c5, c6⟩ := HC.out _ HP.out.one.below
          injection e with e1 e2 e3
          subst e1; subst e2; subst e3
          obtain ⟨a0, a1, a2, a6, hsh⟩ := ansM_shape x.2.1.1 x.2.1.2 (ansS kind stk limit st (msOf x))
          obtain ⟨ok, hok⟩ : ∃ ok, (ansS kind stk limit st (msOf x)).isSome = ok := ⟨_, rfl⟩
          have HSH := Lib.hid hsh
          have HOK := Lib.hid hok
          have HSH2 := Lib.hid (show ansM x.2.1.1 x.2.1.2 (ansS kind stk limit (askS kind stk limit st (msOf x)) (msOf x)) = .agg #[.int .i64 a0, .int .i64 a1, .int .i64 a2, .string ⟨#[]⟩, .int .i64 0, .int .i64 0, .int .i64 a6] by rw [ans_twice]; exact hsh)
          have HOK2 := Lib.hid (show (ansS kind stk limit (askS kind stk limit st (msOf x)) (msOf x)).isSome = ok by rw [ans_twice]; exact hok)
          have HST' := Lib.hid (show ∀ y ∈ L.take (k + 1), Settled kind (askS kind stk limit st (msOf x)) (msOf y) by
            intro y hy
            rw [List.take_add_one, hx] at hy
            rcases List.mem_append.1 hy with hy | hy
            · exact settled_more (HST.out y hy) _
            · simp at hy; subst hy; exact settled_ask _)
          have hlt : (k : Int) < L.length := by omega
          have hk0 : (0 : Int) ≤ k := by omega
          clear hx hsh hok
          go_wp2_with fail
          refine (HP.out.tellP (by omega) x hxs HSH.out HOK.out).mono ?_
          rintro e w1 ⟨rfl, hp, ht⟩
          have HP1 := Lib.hid (hp.keep (below_alloc w1 (.cells #[.int .i64 a0, .int .i64 a1, .int .i64 a2, .string ⟨#[]⟩, .int .i64 0, .int .i64 0, .int .i64 a6] tMsg)))
          have HZ1 := Lib.hid (heap_new w1 (.cells #[.int .i64 a0, .int .i64 a1, .int .i64 a2, .string ⟨#[]⟩, .int .i64 0, .int .i64 0, .int .i64 a6] tMsg))
          have hz := hp.two.pa.lt
          clear hp ht c0 c1 c2 c3 c4 c5 c6
          obtain ⟨g', off', n', c'', e, c0, c1, c2, c3, c4, c5, c6⟩ := HC.out _ HP1.out.one.below
          injection e with e1 e2 e3
          injection e1 with e1
          injection e1 with e1 e4 _
          subst e1; subst e2; subst e3; subst e4
          go_wp2_with fail
          generalize hw1 : w1.alloc (.cells #[.int .i64 a0, .int .i64 a1, .int .i64 a2, .string ⟨#[]⟩, .int .i64 0, .int .i64 0, .int .i64 a6] tMsg) = wA at HP1 HZ1 c0 c1 c2 c3 c4 c5 c6 ⊢
          generalize w1.heap.size = z1 at HZ1 hz ⊢
          refine (HP1.out.tellQ (by omega) x hxs HSH.out HOK.out).mono ?_
          rintro e w2 ⟨rfl, hp, ht⟩
          have HP2 := Lib.hid (hp.keep (below_alloc w2 (.cells #[.int .i64 a0, .int .i64 a1, .int .i64 a2, .string ⟨#[]⟩, .int .i64 0, .int .i64 0, .int .i64 a6] tMsg)))
          have HZ2 := Lib.hid (heap_keep ((ht.block _ (heap_lt HZ1.out) (by omega)).trans HZ1.out) (below_alloc w2 (.cells #[.int .i64 a0, .int .i64 a1, .int .i64 a2, .string ⟨#[]⟩, .int .i64 0, .int .i64 0, .int .i64 a6] tMsg)))
          have HY2 := Lib.hid (heap_new w2 (.cells #[.int .i64 a0, .int .i64 a1, .int .i64 a2, .string ⟨#[]⟩, .int .i64 0, .int .i64 0, .int .i64 a6] tMsg))
          clear hp ht c0 c1 c2 c3 c4 c5 c6 hw1 HZ1
          obtain ⟨z0, z1', z2, z3, z4, z5, z6⟩ := cell7 HZ2.out
          obtain ⟨y0, y1, y2, y3, y4, y5, y6⟩ := cell7 HY2.out
          obtain ⟨g', off', n', c'', e, c0, c1, c2, c3, c4, c5, c6⟩ := HC.out _ HP2.out.one.below
          injection e with e1 e2 e3
          injection e1 with e1
          injection e1 with e1 e4 _
          subst e1; subst e2; subst e3; subst e4
          go_wp2_with fail
          · refine (HP2.out.tellQ (by omega) x hxs HSH2.out HOK2.out).mono ?_
            rintro e w3 ⟨rfl, hp, ht⟩
            rw [ask_twice] at hp
            have hz2 := heap_lt HZ2.out
            have HP3 := Lib.hid (hp.keep (below_alloc w3 (.cells #[.int .i64 a0, .int .i64 a1, .int .i64 a2, .string ⟨#[]⟩, .int .i64 0, .int .i64 0, .int .i64 a6] tMsg)))
            have HZ3 := Lib.hid (heap_keep ((ht.block _ (heap_lt HZ2.out) (by omega)).trans HZ2.out) (below_alloc w3 (.cells #[.int .i64 a0, .int .i64 a1, .int .i64 a2, .string ⟨#[]⟩, .int .i64 0, .int .i64 0, .int .i64 a6] tMsg)))
            have HY3 := Lib.hid (heap_new w3 (.cells #[.int .i64 a0, .int .i64 a1, .int .i64 a2, .string ⟨#[]⟩, .int .i64 0, .int .i64 0, .int .i64 a6] tMsg))
            clear hp ht c0 c1 c2 c3 c4 c5 c6 z0 z1' z2 z3 z4 z5 z6 y0 y1 y2 y3 y4 y5 y6
            obtain ⟨z0, z1', z2, z3, z4, z5, z6⟩ := cell7 HZ3.out
            obtain ⟨y0, y1, y2, y3, y4, y5, y6⟩ := cell7 HY3.out
            go_wp2_with fail
            go_roundw
            case rel => exact ⟨k + 1, m2 + 2, _, by go_num, by omega, by omega, HP3, HST'⟩
            case measure => simp [intOf]; omega
          · go_roundw
            case rel => exact ⟨k + 1, m2 + 1, _, by go_num, by omega, by omega, HP2, HST'⟩
            case measure => simp [intOf]; omega
        · obtain rfl : k = L.length := by omega
          rw [List.take_length] at HST
          go_wp2_with fail
          go_loopw [16] (fun i wr => ∃ (k m3 : Nat), i = .int .i64 k ∧ k ≤ L.length ∧ m3 ≤ 120 + k ∧ Hid (Two w wr p bk tk wh q b t u kind stk limit L.length m3 st st)) (fun i _ => L.length - (intOf i).toNat)
          case atStart => exact ⟨0, m2, rfl, by omega, by omega, HP⟩
          case round =>
            clear HP
            obtain ⟨k, m3, rfl, hk', hm3, HP⟩ := hrel
            by_cases hkl : k < L.length
            · obtain ⟨x, hx⟩ : ∃ x, L[k]? = some x := ⟨_, List.getElem?_eq_getElem hkl⟩
              have HC := Lib.hid (fun W (hb : Below w.heap.size w W) => msg_cells HS.out hb hx)
              have hxm := List.mem_of_getElem? hx
              have hxs := HSK.out x hxm
              obtain ⟨g, off, n, c', e, c0, c1, c2, c3, c4, c5, c6⟩ := HC.out _ HP.out.one.below
              injection e with e1 e2 e3
              subst e1; subst e2; subst e3
              obtain ⟨a0, a1, a2, a6, hsh⟩ := ansM_shape x.2.1.1 x.2.1.2 (ansS kind stk limit st (msOf x))
              obtain ⟨ok, hok⟩ : ∃ ok, (ansS kind stk limit st (msOf x)).isSome = ok := ⟨_, rfl⟩
              have HSH := Lib.hid hsh
              have HOK := Lib.hid hok
              have HSM := Lib.hid (settled_same (stock := stk) (limit := limit) (HST.out x hxm))
              have hlt : (k : Int) < L.length := by omega
              have hk0 : (0 : Int) ≤ k := by omega
              clear hx hsh hok hxm
              go_wp2_with fail
              have HH := Lib.hid (fun W (hb : Below wr.heap.size wr W) => (⟨Lib.hid hb, (hb.cell (World.block_lt_of_cell? wr _ c0)).trans c0, (hb.cell (World.block_lt_of_cell? wr _ c1)).trans c1, (hb.cell (World.block_lt_of_cell? wr _ c2)).trans c2, (hb.cell (World.block_lt_of_cell? wr _ c3)).trans c3, (hb.cell (World.block_lt_of_cell? wr _ c4)).trans c4, (hb.cell (World.block_lt_of_cell? wr _ c5)).trans c5, (hb.cell (World.block_lt_of_cell? wr _ c6)).trans c6⟩ : (fun w' => Hid (Below wr.heap.size wr w') ∧ w'.cell? ⟨g, off + k * 7, none⟩ = some (.int .i64 x.1) ∧ w'.cell? ⟨g, off + k * 7 + 1, none⟩ = some (.int .i64 x.2.1.1) ∧ w'.cell? ⟨g, off + k * 7 + 2, none⟩ = some (.int .i64 x.2.1.2) ∧ w'.cell? ⟨g, off + k * 7 + 3, none⟩ = some (.string ⟨x.2.2.1.toArray⟩) ∧ w'.cell? ⟨g, off + k * 7 + 4, none⟩ = some (.int .i64 x.2.2.2.1) ∧ w'.cell? ⟨g, off + k * 7 + 5, none⟩ = some (.int .i64 x.2.2.2.2.1) ∧ w'.cell? ⟨g, off + k * 7 + 6, none⟩ = some (.int .i64 x.2.2.2.2.2)) W))
              have HCopy := Lib.hid (fun W (hb : Below wr.heap.size wr W) => ((HP.out.one.keep hb).copy).mono (fun e w' h => (by obtain ⟨d, db, dt, du, h1, h2, h3⟩ := h; exact ⟨d, db, dt, du, h1, h2.weak (bch hb h3 hb.size) hb.size (Nat.lt_of_lt_of_le HP.out.one.lg HP.out.one.below.size), h3, h2.lp.2⟩ : ∃ d db dt du, e = .returned (.pointer (some ⟨d, 0, none⟩)) ∧ Pl wr w' d db dt du kind stk limit 0 L.length st ∧ Below W.heap.size W w' ∧ W.heap.size ≤ db ∧ W.heap.size ≤ dt ∧ W.heap.size ≤ du)))
              have HTell := Lib.hid (fun W d db dt du (h : Pl wr W d db dt du kind stk limit 0 L.length st) => h.tell (by omega) x hxs HSH.out HOK.out)
              refine wp_region_noPanic ?_
              refine wp_region_held_drew (S := (fun w' => Hid (Below wr.heap.size wr w') ∧ w'.cell? ⟨g, off + k * 7, none⟩ = some (.int .i64 x.1) ∧ w'.cell? ⟨g, off + k * 7 + 1, none⟩ = some (.int .i64 x.2.1.1) ∧ w'.cell? ⟨g, off + k * 7 + 2, none⟩ = some (.int .i64 x.2.1.2) ∧ w'.cell? ⟨g, off + k * 7 + 3, none⟩ = some (.string ⟨x.2.2.1.toArray⟩) ∧ w'.cell? ⟨g, off + k * 7 + 4, none⟩ = some (.int .i64 x.2.2.2.1) ∧ w'.cell? ⟨g, off + k * 7 + 5, none⟩ = some (.int .i64 x.2.2.2.2.1) ∧ w'.cell? ⟨g, off + k * 7 + 6, none⟩ = some (.int .i64 x.2.2.2.2.2))) (by kernel_rfl) (HH.out _ (below_drew1 (Below.refl wr.heap.size wr))) (fun hHeld => ?_)
              refine wpAnyH_take (i := 0) (v := ?vc0_7) rfl (by kernel_rfl) (by kernel_rfl) (by kernel_rfl) (fun _ _ _ h => h) (Or.inl ⟨by rfl, ?hyc0_7⟩) (by assumption) ?restc0_7
              case hyc0_7 => (intro w0 hSw; (try dsimp only at hSw); go_simp; try with_reducible rfl)
              case' restc0_7 => try simp only [Act.put, List.getElem_toArray, List.getElem_cons_zero, List.getElem_cons_succ, List.setIfInBounds_toArray, List.set_cons_zero, List.set_cons_succ]
              refine wpAnyH_take (i := 2) (v := ?vc2_7) rfl (by kernel_rfl) (by kernel_rfl) (by kernel_rfl) (fun _ _ _ h => h) (Or.inl ⟨by rfl, ?hyc2_7⟩) (by assumption) ?restc2_7
              case hyc2_7 => (intro w0 hSw; (try dsimp only at hSw); go_simp; try with_reducible rfl)
              case' restc2_7 => try simp only [Act.put, List.getElem_toArray, List.getElem_cons_zero, List.getElem_cons_succ, List.setIfInBounds_toArray, List.set_cons_zero, List.set_cons_succ]
              refine wpAnyH_take (i := 3) (v := ?vc3_7) rfl (by kernel_rfl) (by kernel_rfl) (by kernel_rfl) (fun _ _ _ h => h) (Or.inl ⟨by rfl, ?hyc3_7⟩) (by assumption) ?restc3_7
              case hyc3_7 => (intro w0 hSw; (try dsimp only at hSw); go_simp; try with_reducible rfl)
              case' restc3_7 => try simp only [Act.put, List.getElem_toArray, List.getElem_cons_zero, List.getElem_cons_succ, List.setIfInBounds_toArray, List.set_cons_zero, List.set_cons_succ]
              refine wpAnyH_take (i := 4) (v := ?vc4_7) rfl (by kernel_rfl) (by kernel_rfl) (by kernel_rfl) (fun _ _ _ h => h) (Or.inl ⟨by rfl, ?hyc4_7⟩) (by assumption) ?restc4_7
              case hyc4_7 => (intro w0 hSw; (try dsimp only at hSw); go_simp; try with_reducible rfl)
              case' restc4_7 => try simp only [Act.put, List.getElem_toArray, List.getElem_cons_zero, List.getElem_cons_succ, List.setIfInBounds_toArray, List.set_cons_zero, List.set_cons_succ]
              refine wpAnyH_take (i := 5) (v := ?vc5_7) rfl (by kernel_rfl) (by kernel_rfl) (by kernel_rfl) (fun _ _ _ h => h) (Or.inl ⟨by rfl, ?hyc5_7⟩) (by assumption) ?restc5_7
              case hyc5_7 => (intro w0 hSw; (try dsimp only at hSw); go_simp; try with_reducible rfl)
              case' restc5_7 => try simp only [Act.put, List.getElem_toArray, List.getElem_cons_zero, List.getElem_cons_succ, List.setIfInBounds_toArray, List.set_cons_zero, List.set_cons_succ]
              refine wpAnyH_ready (rs := [1, 10]) (by kernel_rfl) (by simp) ?_
              refine AllReadyH.cons rfl (fun K hK => ?brA) (AllReadyH.cons rfl (fun K hK => ?brB) AllReadyH.nil)
              case' brA =>
                go_simp
                refine (HCopy.out wr.drew (below_drew1 (Below.refl wr.heap.size wr))).mono ?_; rintro e w1 ⟨d, db, dt, du, rfl, hc, hb, hlq⟩
                have HW1 := Lib.hid (bch (below_drew1 (Below.refl wr.heap.size wr)) hb (Below.size (below_drew1 (Below.refl wr.heap.size wr))))
                have HDc := Lib.hid hc
                refine hK.out _ _ (HH.out _ (HW1.out)) (fun hHeld => ?_)
                clear hK K
                try simp only [Act.put, List.getElem_toArray, List.getElem_cons_zero, List.getElem_cons_succ, List.setIfInBounds_toArray, List.set_cons_zero, List.set_cons_succ]
                clear hc
                refine wpAnyH_ready (rs := [6, 10]) (by kernel_rfl) (by simp) ?_
                refine AllReadyH.cons rfl (fun K hK => ?brX) (AllReadyH.cons rfl (fun K hK => ?brY) AllReadyH.nil)
              case brX =>
                go_simp
                refine (HTell.out _ d db dt du HDc.out).mono ?_; rintro e w2 ⟨rfl, hd, ht⟩
                have HW2 := Lib.hid hd.below
                refine hK.out _ _ (HH.out _ (HW2.out)) (fun hHeld => ?_)
                clear hK K
                try simp only [Act.put, List.getElem_toArray, List.getElem_cons_zero, List.getElem_cons_succ, List.setIfInBounds_toArray, List.set_cons_zero, List.set_cons_succ]
                clear hd
                refine wpAnyH_take (i := 7) (v := ?vc7_1) rfl (by kernel_rfl) (by kernel_rfl) (by kernel_rfl) (fun _ _ _ h => h) (Or.inl ⟨by rfl, ?hyc7_1⟩) (by assumption) ?restc7_1
                case hyc7_1 => (intro w0 hSw; (try dsimp only at hSw); go_simp; try with_reducible rfl)
                case' restc7_1 => try simp only [Act.put, List.getElem_toArray, List.getElem_cons_zero, List.getElem_cons_succ, List.setIfInBounds_toArray, List.set_cons_zero, List.set_cons_succ]
                refine wpAnyH_take (i := 8) (v := ?vc8_1) rfl (by kernel_rfl) (by kernel_rfl) (by kernel_rfl) (fun _ _ _ h => h) (Or.inl ⟨by rfl, ?hyc8_1⟩) (by assumption) ?restc8_1
                case hyc8_1 => (intro w0 hSw; (try dsimp only at hSw); go_simp; try with_reducible rfl)
                case' restc8_1 => try simp only [Act.put, List.getElem_toArray, List.getElem_cons_zero, List.getElem_cons_succ, List.setIfInBounds_toArray, List.set_cons_zero, List.set_cons_succ]
                refine wpAnyH_take (i := 9) (v := ?vc9_1) rfl (by kernel_rfl) (by kernel_rfl) (by kernel_rfl) (fun _ _ _ h => h) (Or.inl ⟨by rfl, ?hyc9_1⟩) (by assumption) ?restc9_1
                case hyc9_1 => (intro w0 hSw; (try dsimp only at hSw); go_simp; try with_reducible rfl)
                case' restc9_1 => try simp only [Act.put, List.getElem_toArray, List.getElem_cons_zero, List.getElem_cons_succ, List.setIfInBounds_toArray, List.set_cons_zero, List.set_cons_succ]
                refine wpAnyH_ready (rs := [10]) (by kernel_rfl) (by simp) ?_
                refine AllReadyH.cons rfl (fun K hK => ?_) AllReadyH.nil
                go_simp
                refine hK.out _ _ (HH.out _ ((bch HW2.out (below_alloc w2 _) HW2.out.size))) (fun hHeld => ?_)
                clear hK K
                try simp only [Act.put, List.getElem_toArray, List.getElem_cons_zero, List.getElem_cons_succ, List.setIfInBounds_toArray, List.set_cons_zero, List.set_cons_succ]
                refine wpAnyH_ready (rs := [11]) (by kernel_rfl) (by simp) ?_
                refine AllReadyH.cons rfl (fun K hK => ?_) AllReadyH.nil
                go_simp
                refine hK.out _ _ (HH.out _ ((bch HW2.out (below_alloc w2 _) HW2.out.size))) (fun hHeld => ?_)
                clear hK K
                try simp only [Act.put, List.getElem_toArray, List.getElem_cons_zero, List.getElem_cons_succ, List.setIfInBounds_toArray, List.set_cons_zero, List.set_cons_succ]
                refine wpAnyH_take (i := 12) (v := ?vc12_2) rfl (by kernel_rfl) (by kernel_rfl) (by kernel_rfl) (fun _ _ _ h => h) (Or.inl ⟨by rfl, ?hyc12_2⟩) (by assumption) ?restc12_2
                case hyc12_2 => (intro w0 hSw; (try dsimp only at hSw); go_simp; try with_reducible rfl)
                case' restc12_2 => try simp only [Act.put, List.getElem_toArray, List.getElem_cons_zero, List.getElem_cons_succ, List.setIfInBounds_toArray, List.set_cons_zero, List.set_cons_succ]
                refine wpAnyH_done (by kernel_rfl) ?_ _
                refine NoPanic.normal ?_
                have HP2 := Lib.hid (HP.out.keep (bch HW2.out (below_alloc w2 (.cells #[.int .i64 a0, .int .i64 a1, .int .i64 a2, .string ⟨#[]⟩, .int .i64 0, .int .i64 0, .int .i64 a6] tMsg)) HW2.out.size))
                have HZ2 := Lib.hid (heap_new w2 (.cells #[.int .i64 a0, .int .i64 a1, .int .i64 a2, .string ⟨#[]⟩, .int .i64 0, .int .i64 0, .int .i64 a6] tMsg))
                have hz2 : wr.heap.size ≤ w2.heap.size := HW2.out.size
                clear ht HW1 HW2 HDc hHeld hb
                generalize w2.alloc (.cells #[.int .i64 a0, .int .i64 a1, .int .i64 a2, .string ⟨#[]⟩, .int .i64 0, .int .i64 0, .int .i64 a6] tMsg) = wA at HP2 HZ2 ⊢
                generalize w2.heap.size = z1 at HZ2 hz2 ⊢
                have hzq := HP.out.two.pa.lt
                clear c0 c1 c2 c3 c4 c5 c6
                obtain ⟨g', off', n', c'', e, c0, c1, c2, c3, c4, c5, c6⟩ := HC.out _ HP2.out.one.below
                injection e with e1 e2 e3
                injection e1 with e1
                injection e1 with e1 e4 _
                subst e1; subst e2; subst e3; subst e4
                go_wp2_with fail
                refine (HP2.out.tellQ (by omega) x hxs HSH.out HOK.out).mono ?_
                rintro e w3 ⟨rfl, hp, ht⟩
                rw [HSM.out] at hp
                have HP3 := Lib.hid (hp.keep (below_alloc w3 (.cells #[.int .i64 a0, .int .i64 a1, .int .i64 a2, .string ⟨#[]⟩, .int .i64 0, .int .i64 0, .int .i64 a6] tMsg)))
                have HZ3 := Lib.hid (heap_keep ((ht.block _ (heap_lt HZ2.out) (by omega)).trans HZ2.out) (below_alloc w3 (.cells #[.int .i64 a0, .int .i64 a1, .int .i64 a2, .string ⟨#[]⟩, .int .i64 0, .int .i64 0, .int .i64 a6] tMsg)))
                have HY3 := Lib.hid (heap_new w3 (.cells #[.int .i64 a0, .int .i64 a1, .int .i64 a2, .string ⟨#[]⟩, .int .i64 0, .int .i64 0, .int .i64 a6] tMsg))
                clear hp ht c0 c1 c2 c3 c4 c5 c6 HZ2
                obtain ⟨z0, z1', z2, z3, z4, z5, z6⟩ := cell7 HZ3.out
                obtain ⟨y0, y1, y2, y3, y4, y5, y6⟩ := cell7 HY3.out
                obtain ⟨g', off', n', c'', e, c0, c1, c2, c3, c4, c5, c6⟩ := HC.out _ HP3.out.one.below
                injection e with e1 e2 e3
                injection e1 with e1
                injection e1 with e1 e4 _
                subst e1; subst e2; subst e3; subst e4
                go_wp2_with fail
                have hsz : (⟨x.2.2.1.toArray⟩ : ByteArray).size ≤ 1000000000000 := by show x.2.2.1.toArray.size ≤ _; simp; omega
                clear z0 z1' z2 z3 z4 z5 z6 y0 y1 y2 y3 y4 y5 y6
                generalize w3.alloc (.cells #[.int .i64 a0, .int .i64 a1, .int .i64 a2, .string ⟨#[]⟩, .int .i64 0, .int .i64 0, .int .i64 a6] tMsg) = wB at HP3 HZ3 HY3 c0 c1 c2 c3 c4 c5 c6 ⊢
                generalize w3.heap.size = z9 at HY3 ⊢
                have HLp := Lib.hid (fun W (hb : Below wB.heap.size wB W) => (HP3.out.keep hb).one.left ⟨x.2.2.1.toArray⟩ hsz)
                have HLq := Lib.hid (fun W (hb : Below wB.heap.size wB W) => (HP3.out.keep hb).two.left ⟨x.2.2.1.toArray⟩ hsz)
                refine wp_region_noPanic ?_
                refine wp_region_held_drew (S := (fun w' => Hid (Below wB.heap.size wB w') ∧ w'.cell? ⟨z1, 0, none⟩ = some (.int .i64 a0) ∧ w'.cell? ⟨z1, 1, none⟩ = some (.int .i64 a1) ∧ w'.cell? ⟨z1, 2, none⟩ = some (.int .i64 a2) ∧ w'.cell? ⟨z1, 3, none⟩ = some (.string ⟨#[]⟩) ∧ w'.cell? ⟨z1, 4, none⟩ = some (.int .i64 0) ∧ w'.cell? ⟨z1, 5, none⟩ = some (.int .i64 0) ∧ w'.cell? ⟨z1, 6, none⟩ = some (.int .i64 a6) ∧ w'.cell? ⟨z9, 0, none⟩ = some (.int .i64 a0) ∧ w'.cell? ⟨z9, 1, none⟩ = some (.int .i64 a1) ∧ w'.cell? ⟨z9, 2, none⟩ = some (.int .i64 a2) ∧ w'.cell? ⟨z9, 3, none⟩ = some (.string ⟨#[]⟩) ∧ w'.cell? ⟨z9, 4, none⟩ = some (.int .i64 0) ∧ w'.cell? ⟨z9, 5, none⟩ = some (.int .i64 0) ∧ w'.cell? ⟨z9, 6, none⟩ = some (.int .i64 a6) ∧ w'.cell? ⟨g, off + k * 7 + 3, none⟩ = some (.string ⟨x.2.2.1.toArray⟩))) (by kernel_rfl) ⟨(below_drew1 (Below.refl _ wB)), cell_at ((((below_drew1 (Below.refl _ wB))).block _ (heap_lt HZ3.out)).trans HZ3.out) 0 rfl, cell_at ((((below_drew1 (Below.refl _ wB))).block _ (heap_lt HZ3.out)).trans HZ3.out) 1 rfl, cell_at ((((below_drew1 (Below.refl _ wB))).block _ (heap_lt HZ3.out)).trans HZ3.out) 2 rfl, cell_at ((((below_drew1 (Below.refl _ wB))).block _ (heap_lt HZ3.out)).trans HZ3.out) 3 rfl, cell_at ((((below_drew1 (Below.refl _ wB))).block _ (heap_lt HZ3.out)).trans HZ3.out) 4 rfl, cell_at ((((below_drew1 (Below.refl _ wB))).block _ (heap_lt HZ3.out)).trans HZ3.out) 5 rfl, cell_at ((((below_drew1 (Below.refl _ wB))).block _ (heap_lt HZ3.out)).trans HZ3.out) 6 rfl, cell_at ((((below_drew1 (Below.refl _ wB))).block _ (heap_lt HY3.out)).trans HY3.out) 0 rfl, cell_at ((((below_drew1 (Below.refl _ wB))).block _ (heap_lt HY3.out)).trans HY3.out) 1 rfl, cell_at ((((below_drew1 (Below.refl _ wB))).block _ (heap_lt HY3.out)).trans HY3.out) 2 rfl, cell_at ((((below_drew1 (Below.refl _ wB))).block _ (heap_lt HY3.out)).trans HY3.out) 3 rfl, cell_at ((((below_drew1 (Below.refl _ wB))).block _ (heap_lt HY3.out)).trans HY3.out) 4 rfl, cell_at ((((below_drew1 (Below.refl _ wB))).block _ (heap_lt HY3.out)).trans HY3.out) 5 rfl, cell_at ((((below_drew1 (Below.refl _ wB))).block _ (heap_lt HY3.out)).trans HY3.out) 6 rfl, (Below.cell ((below_drew1 (Below.refl _ wB))) (World.block_lt_of_cell? wB _ c3)).trans c3⟩ (fun hHeld => ?_)
                refine wpAnyH_take (i := 0) (v := ?vtx0) rfl (by kernel_rfl) (by kernel_rfl) (by kernel_rfl) (fun _ _ _ h => h) (Or.inl ⟨by rfl, ?hytx0⟩) (by assumption) ?resttx0
                case hytx0 => (intro w0 hSw; (try dsimp only at hSw); go_simp; try with_reducible rfl)
                case' resttx0 => try simp only [Act.put, List.getElem_toArray, List.getElem_cons_zero, List.getElem_cons_succ, List.setIfInBounds_toArray, List.set_cons_zero, List.set_cons_succ]
                refine wpAnyH_take (i := 1) (v := ?vtx1) rfl (by kernel_rfl) (by kernel_rfl) (by kernel_rfl) (fun _ _ _ h => h) (Or.inl ⟨by rfl, ?hytx1⟩) (by assumption) ?resttx1
                case hytx1 => (intro w0 hSw; (try dsimp only at hSw); go_simp; try with_reducible rfl)
                case' resttx1 => try simp only [Act.put, List.getElem_toArray, List.getElem_cons_zero, List.getElem_cons_succ, List.setIfInBounds_toArray, List.set_cons_zero, List.set_cons_succ]
                refine wpAnyH_take (i := 2) (v := ?vtx2) rfl (by kernel_rfl) (by kernel_rfl) (by kernel_rfl) (fun _ _ _ h => h) (Or.inl ⟨by rfl, ?hytx2⟩) (by assumption) ?resttx2
                case hytx2 => (intro w0 hSw; (try dsimp only at hSw); go_simp; try with_reducible rfl)
                case' resttx2 => try simp only [Act.put, List.getElem_toArray, List.getElem_cons_zero, List.getElem_cons_succ, List.setIfInBounds_toArray, List.set_cons_zero, List.set_cons_succ]
                refine wpAnyH_take (i := 3) (v := ?vtx3) rfl (by kernel_rfl) (by kernel_rfl) (by kernel_rfl) (fun _ _ _ h => h) (Or.inl ⟨by rfl, ?hytx3⟩) (by assumption) ?resttx3
                case hytx3 => (intro w0 hSw; (try dsimp only at hSw); go_simp; try with_reducible rfl)
                case' resttx3 => try simp only [Act.put, List.getElem_toArray, List.getElem_cons_zero, List.getElem_cons_succ, List.setIfInBounds_toArray, List.set_cons_zero, List.set_cons_succ]
                refine wpAnyH_take (i := 4) (v := ?vtx4) rfl (by kernel_rfl) (by kernel_rfl) (by kernel_rfl) (fun _ _ _ h => h) (Or.inl ⟨by rfl, ?hytx4⟩) (by assumption) ?resttx4
                case hytx4 => (intro w0 hSw; (try dsimp only at hSw); go_simp; try with_reducible rfl)
                case' resttx4 => try simp only [Act.put, List.getElem_toArray, List.getElem_cons_zero, List.getElem_cons_succ, List.setIfInBounds_toArray, List.set_cons_zero, List.set_cons_succ]
                refine wpAnyH_take (i := 5) (v := ?vtx5) rfl (by kernel_rfl) (by kernel_rfl) (by kernel_rfl) (fun _ _ _ h => h) (Or.inl ⟨by rfl, ?hytx5⟩) (by assumption) ?resttx5
                case hytx5 => (intro w0 hSw; (try dsimp only at hSw); go_simp; try with_reducible rfl)
                case' resttx5 => try simp only [Act.put, List.getElem_toArray, List.getElem_cons_zero, List.getElem_cons_succ, List.setIfInBounds_toArray, List.set_cons_zero, List.set_cons_succ]
                refine wpAnyH_take (i := 6) (v := ?vtx6) rfl (by kernel_rfl) (by kernel_rfl) (by kernel_rfl) (fun _ _ _ h => h) (Or.inl ⟨by rfl, ?hytx6⟩) (by assumption) ?resttx6
                case hytx6 => (intro w0 hSw; (try dsimp only at hSw); go_simp; try with_reducible rfl)
                case' resttx6 => try simp only [Act.put, List.getElem_toArray, List.getElem_cons_zero, List.getElem_cons_succ, List.setIfInBounds_toArray, List.set_cons_zero, List.set_cons_succ]
                refine wpAnyH_take (i := 7) (v := ?vtx7) rfl (by kernel_rfl) (by kernel_rfl) (by kernel_rfl) (fun _ _ _ h => h) (Or.inl ⟨by rfl, ?hytx7⟩) (by assumption) ?resttx7
                case hytx7 => (intro w0 hSw; (try dsimp only at hSw); go_simp; try with_reducible rfl)
                case' resttx7 => try simp only [Act.put, List.getElem_toArray, List.getElem_cons_zero, List.getElem_cons_succ, List.setIfInBounds_toArray, List.set_cons_zero, List.set_cons_succ]
                refine wpAnyH_take (i := 8) (v := ?vtx8) rfl (by kernel_rfl) (by kernel_rfl) (by kernel_rfl) (fun _ _ _ h => h) (Or.inl ⟨by rfl, ?hytx8⟩) (by assumption) ?resttx8
                case hytx8 => (intro w0 hSw; (try dsimp only at hSw); go_simp; try with_reducible rfl)
                case' resttx8 => try simp only [Act.put, List.getElem_toArray, List.getElem_cons_zero, List.getElem_cons_succ, List.setIfInBounds_toArray, List.set_cons_zero, List.set_cons_succ]
                refine wpAnyH_take (i := 9) (v := ?vtx9) rfl (by kernel_rfl) (by kernel_rfl) (by kernel_rfl) (fun _ _ _ h => h) (Or.inl ⟨by rfl, ?hytx9⟩) (by assumption) ?resttx9
                case hytx9 => (intro w0 hSw; (try dsimp only at hSw); go_simp; try with_reducible rfl)
                case' resttx9 => try simp only [Act.put, List.getElem_toArray, List.getElem_cons_zero, List.getElem_cons_succ, List.setIfInBounds_toArray, List.set_cons_zero, List.set_cons_succ]
                refine wpAnyH_take (i := 10) (v := ?vtx10) rfl (by kernel_rfl) (by kernel_rfl) (by kernel_rfl) (fun _ _ _ h => h) (Or.inl ⟨by rfl, ?hytx10⟩) (by assumption) ?resttx10
                case hytx10 => (intro w0 hSw; (try dsimp only at hSw); go_simp; try with_reducible rfl)
                case' resttx10 => try simp only [Act.put, List.getElem_toArray, List.getElem_cons_zero, List.getElem_cons_succ, List.setIfInBounds_toArray, List.set_cons_zero, List.set_cons_succ]
                refine wpAnyH_take (i := 11) (v := ?vtx11) rfl (by kernel_rfl) (by kernel_rfl) (by kernel_rfl) (fun _ _ _ h => h) (Or.inl ⟨by rfl, ?hytx11⟩) (by assumption) ?resttx11
                case hytx11 => (intro w0 hSw; (try dsimp only at hSw); go_simp; try with_reducible rfl)
                case' resttx11 => try simp only [Act.put, List.getElem_toArray, List.getElem_cons_zero, List.getElem_cons_succ, List.setIfInBounds_toArray, List.set_cons_zero, List.set_cons_succ]
                refine wpAnyH_take (i := 12) (v := ?vtx12) rfl (by kernel_rfl) (by kernel_rfl) (by kernel_rfl) (fun _ _ _ h => h) (Or.inl ⟨by rfl, ?hytx12⟩) (by assumption) ?resttx12
                case hytx12 => (intro w0 hSw; (try dsimp only at hSw); go_simp; try with_reducible rfl)
                case' resttx12 => try simp only [Act.put, List.getElem_toArray, List.getElem_cons_zero, List.getElem_cons_succ, List.setIfInBounds_toArray, List.set_cons_zero, List.set_cons_succ]
                refine wpAnyH_take (i := 13) (v := ?vtx13) rfl (by kernel_rfl) (by kernel_rfl) (by kernel_rfl) (fun _ _ _ h => h) (Or.inl ⟨by rfl, ?hytx13⟩) (by assumption) ?resttx13
                case hytx13 => (intro w0 hSw; (try dsimp only at hSw); go_simp; try with_reducible rfl)
                case' resttx13 => try simp only [Act.put, List.getElem_toArray, List.getElem_cons_zero, List.getElem_cons_succ, List.setIfInBounds_toArray, List.set_cons_zero, List.set_cons_succ]
                refine wpAnyH_take (i := 14) (v := ?vtx14) rfl (by kernel_rfl) (by kernel_rfl) (by kernel_rfl) (fun _ _ _ h => h) (Or.inl ⟨by rfl, ?hytx14⟩) (by assumption) ?resttx14
                case hytx14 => (intro w0 hSw; (try dsimp only at hSw); go_simp; try with_reducible rfl)
                case' resttx14 => try simp only [Act.put, List.getElem_toArray, List.getElem_cons_zero, List.getElem_cons_succ, List.setIfInBounds_toArray, List.set_cons_zero, List.set_cons_succ]
                refine wpAnyH_take (i := 16) (v := ?vtx16) rfl (by kernel_rfl) (by kernel_rfl) (by kernel_rfl) (fun _ _ _ h => h) (Or.inl ⟨by rfl, ?hytx16⟩) (by assumption) ?resttx16
                case hytx16 => (intro w0 hSw; (try dsimp only at hSw); go_simp; try with_reducible rfl)
                case' resttx16 => try simp only [Act.put, List.getElem_toArray, List.getElem_cons_zero, List.getElem_cons_succ, List.setIfInBounds_toArray, List.set_cons_zero, List.set_cons_succ]
                refine wpAnyH_take (i := 17) (v := ?vtx17) rfl (by kernel_rfl) (by kernel_rfl) (by kernel_rfl) (fun _ _ _ h => h) (Or.inl ⟨by rfl, ?hytx17⟩) (by assumption) ?resttx17
                case hytx17 => (intro w0 hSw; (try dsimp only at hSw); go_simp; try with_reducible rfl)
                case' resttx17 => try simp only [Act.put, List.getElem_toArray, List.getElem_cons_zero, List.getElem_cons_succ, List.setIfInBounds_toArray, List.set_cons_zero, List.set_cons_succ]
                refine wpAnyH_take (i := 18) (v := ?vtx18) rfl (by kernel_rfl) (by kernel_rfl) (by kernel_rfl) (fun _ _ _ h => h) (Or.inl ⟨by rfl, ?hytx18⟩) (by assumption) ?resttx18
                case hytx18 => (intro w0 hSw; (try dsimp only at hSw); go_simp; try with_reducible rfl)
                case' resttx18 => try simp only [Act.put, List.getElem_toArray, List.getElem_cons_zero, List.getElem_cons_succ, List.setIfInBounds_toArray, List.set_cons_zero, List.set_cons_succ]
                refine wpAnyH_take (i := 19) (v := ?vtx19) rfl (by kernel_rfl) (by kernel_rfl) (by kernel_rfl) (fun _ _ _ h => h) (Or.inl ⟨by rfl, ?hytx19⟩) (by assumption) ?resttx19
                case hytx19 => (intro w0 hSw; (try dsimp only at hSw); go_simp; try with_reducible rfl)
                case' resttx19 => try simp only [Act.put, List.getElem_toArray, List.getElem_cons_zero, List.getElem_cons_succ, List.setIfInBounds_toArray, List.set_cons_zero, List.set_cons_succ]
                refine wpAnyH_take (i := 20) (v := ?vtx20) rfl (by kernel_rfl) (by kernel_rfl) (by kernel_rfl) (fun _ _ _ h => h) (Or.inl ⟨by rfl, ?hytx20⟩) (by assumption) ?resttx20
                case hytx20 => (intro w0 hSw; (try dsimp only at hSw); go_simp; try with_reducible rfl)
                case' resttx20 => try simp only [Act.put, List.getElem_toArray, List.getElem_cons_zero, List.getElem_cons_succ, List.setIfInBounds_toArray, List.set_cons_zero, List.set_cons_succ]
                refine wpAnyH_take (i := 21) (v := ?vtx21) rfl (by kernel_rfl) (by kernel_rfl) (by kernel_rfl) (fun _ _ _ h => h) (Or.inl ⟨by rfl, ?hytx21⟩) (by assumption) ?resttx21
                case hytx21 => (intro w0 hSw; (try dsimp only at hSw); go_simp; try with_reducible rfl)
                case' resttx21 => try simp only [Act.put, List.getElem_toArray, List.getElem_cons_zero, List.getElem_cons_succ, List.setIfInBounds_toArray, List.set_cons_zero, List.set_cons_succ]
                refine wpAnyH_ready (rs := [15]) (by kernel_rfl) (by simp) ?_
                refine AllReadyH.cons rfl (fun K hK => ?_) AllReadyH.nil
                go_simp
                refine (HLp.out _ (Hid.out (And.left (by assumption)))).mono ?_; rintro e w1 ⟨rfl, hb⟩
                have hbk := bch (Hid.out (And.left (by assumption))) hb (Below.size (Hid.out (And.left (by assumption))))
                refine hK.out _ _ ⟨hbk, cell_at (((hbk).block _ (heap_lt HZ3.out)).trans HZ3.out) 0 rfl, cell_at (((hbk).block _ (heap_lt HZ3.out)).trans HZ3.out) 1 rfl, cell_at (((hbk).block _ (heap_lt HZ3.out)).trans HZ3.out) 2 rfl, cell_at (((hbk).block _ (heap_lt HZ3.out)).trans HZ3.out) 3 rfl, cell_at (((hbk).block _ (heap_lt HZ3.out)).trans HZ3.out) 4 rfl, cell_at (((hbk).block _ (heap_lt HZ3.out)).trans HZ3.out) 5 rfl, cell_at (((hbk).block _ (heap_lt HZ3.out)).trans HZ3.out) 6 rfl, cell_at (((hbk).block _ (heap_lt HY3.out)).trans HY3.out) 0 rfl, cell_at (((hbk).block _ (heap_lt HY3.out)).trans HY3.out) 1 rfl, cell_at (((hbk).block _ (heap_lt HY3.out)).trans HY3.out) 2 rfl, cell_at (((hbk).block _ (heap_lt HY3.out)).trans HY3.out) 3 rfl, cell_at (((hbk).block _ (heap_lt HY3.out)).trans HY3.out) 4 rfl, cell_at (((hbk).block _ (heap_lt HY3.out)).trans HY3.out) 5 rfl, cell_at (((hbk).block _ (heap_lt HY3.out)).trans HY3.out) 6 rfl, (Below.cell (hbk) (World.block_lt_of_cell? wB _ c3)).trans c3⟩ (fun hHeld => ?_)
                clear hK K hb hbk
                try simp only [Act.put, List.getElem_toArray, List.getElem_cons_zero, List.getElem_cons_succ, List.setIfInBounds_toArray, List.set_cons_zero, List.set_cons_succ]
                refine wpAnyH_ready (rs := [22]) (by kernel_rfl) (by simp) ?_
                refine AllReadyH.cons rfl (fun K hK => ?_) AllReadyH.nil
                go_simp
                refine (HLq.out _ (Hid.out (And.left (by assumption)))).mono ?_; rintro e w1 ⟨rfl, hb⟩
                have hbk := bch (Hid.out (And.left (by assumption))) hb (Below.size (Hid.out (And.left (by assumption))))
                refine hK.out _ _ ⟨hbk, cell_at (((hbk).block _ (heap_lt HZ3.out)).trans HZ3.out) 0 rfl, cell_at (((hbk).block _ (heap_lt HZ3.out)).trans HZ3.out) 1 rfl, cell_at (((hbk).block _ (heap_lt HZ3.out)).trans HZ3.out) 2 rfl, cell_at (((hbk).block _ (heap_lt HZ3.out)).trans HZ3.out) 3 rfl, cell_at (((hbk).block _ (heap_lt HZ3.out)).trans HZ3.out) 4 rfl, cell_at (((hbk).block _ (heap_lt HZ3.out)).trans HZ3.out) 5 rfl, cell_at (((hbk).block _ (heap_lt HZ3.out)).trans HZ3.out) 6 rfl, cell_at (((hbk).block _ (heap_lt HY3.out)).trans HY3.out) 0 rfl, cell_at (((hbk).block _ (heap_lt HY3.out)).trans HY3.out) 1 rfl, cell_at (((hbk).block _ (heap_lt HY3.out)).trans HY3.out) 2 rfl, cell_at (((hbk).block _ (heap_lt HY3.out)).trans HY3.out) 3 rfl, cell_at (((hbk).block _ (heap_lt HY3.out)).trans HY3.out) 4 rfl, cell_at (((hbk).block _ (heap_lt HY3.out)).trans HY3.out) 5 rfl, cell_at (((hbk).block _ (heap_lt HY3.out)).trans HY3.out) 6 rfl, (Below.cell (hbk) (World.block_lt_of_cell? wB _ c3)).trans c3⟩ (fun hHeld => ?_)
                clear hK K hb hbk
                try simp only [Act.put, List.getElem_toArray, List.getElem_cons_zero, List.getElem_cons_succ, List.setIfInBounds_toArray, List.set_cons_zero, List.set_cons_succ]
                refine wpAnyH_take (i := 23) (v := ?vtx23) rfl (by kernel_rfl) (by kernel_rfl) (by kernel_rfl) (fun _ _ _ h => h) (Or.inl ⟨by rfl, ?hytx23⟩) (by assumption) ?resttx23
                case hytx23 => (intro w0 hSw; (try dsimp only at hSw); go_simp; try with_reducible rfl)
                case' resttx23 => try simp only [Act.put, List.getElem_toArray, List.getElem_cons_zero, List.getElem_cons_succ, List.setIfInBounds_toArray, List.set_cons_zero, List.set_cons_succ]
                refine wpAnyH_take (i := 24) (v := ?vtx24) rfl (by kernel_rfl) (by kernel_rfl) (by kernel_rfl) (fun _ _ _ h => h) (Or.inl ⟨by rfl, ?hytx24⟩) (by assumption) ?resttx24
                case hytx24 => (intro w0 hSw; (try dsimp only at hSw); go_simp; try with_reducible rfl)
                case' resttx24 => try simp only [Act.put, List.getElem_toArray, List.getElem_cons_zero, List.getElem_cons_succ, List.setIfInBounds_toArray, List.set_cons_zero, List.set_cons_succ]
                refine wpAnyH_done (by kernel_rfl) ?_ _
                refine NoPanic.normal ?_
                have HPz := Lib.hid (HP3.out.keep (Hid.out hHeld.1))
                clear hHeld
                go_wp2_with fail
                go_roundw
                case rel => exact ⟨k + 1, m3 + 1, by go_num, by omega, by omega, HPz⟩
                case measure => simp [intOf]; omega
              case brY =>
                go_simp
                refine hK.out _ _ (HH.out _ ((bch HW1.out (below_alloc w1 _) HW1.out.size))) (fun hHeld => ?_)
                clear hK K
                try simp only [Act.put, List.getElem_toArray, List.getElem_cons_zero, List.getElem_cons_succ, List.setIfInBounds_toArray, List.set_cons_zero, List.set_cons_succ]
                refine wpAnyH_ready (rs := [6]) (by kernel_rfl) (by simp) ?_
                refine AllReadyH.cons rfl (fun K hK => ?_) AllReadyH.nil
                go_simp
                refine (HTell.out _ d db dt du (HDc.out.keep (below_alloc w1 _))).mono ?_; rintro e w2 ⟨rfl, hd, ht⟩
                have HW2 := Lib.hid hd.below
                refine hK.out _ _ (HH.out _ (HW2.out)) (fun hHeld => ?_)
                clear hK K
                try simp only [Act.put, List.getElem_toArray, List.getElem_cons_zero, List.getElem_cons_succ, List.setIfInBounds_toArray, List.set_cons_zero, List.set_cons_succ]
                clear hd
                refine wpAnyH_take (i := 7) (v := ?vc7_3) rfl (by kernel_rfl) (by kernel_rfl) (by kernel_rfl) (fun _ _ _ h => h) (Or.inl ⟨by rfl, ?hyc7_3⟩) (by assumption) ?restc7_3
                case hyc7_3 => (intro w0 hSw; (try dsimp only at hSw); go_simp; try with_reducible rfl)
                case' restc7_3 => try simp only [Act.put, List.getElem_toArray, List.getElem_cons_zero, List.getElem_cons_succ, List.setIfInBounds_toArray, List.set_cons_zero, List.set_cons_succ]
                refine wpAnyH_take (i := 8) (v := ?vc8_3) rfl (by kernel_rfl) (by kernel_rfl) (by kernel_rfl) (fun _ _ _ h => h) (Or.inl ⟨by rfl, ?hyc8_3⟩) (by assumption) ?restc8_3
                case hyc8_3 => (intro w0 hSw; (try dsimp only at hSw); go_simp; try with_reducible rfl)
                case' restc8_3 => try simp only [Act.put, List.getElem_toArray, List.getElem_cons_zero, List.getElem_cons_succ, List.setIfInBounds_toArray, List.set_cons_zero, List.set_cons_succ]
                refine wpAnyH_take (i := 9) (v := ?vc9_3) rfl (by kernel_rfl) (by kernel_rfl) (by kernel_rfl) (fun _ _ _ h => h) (Or.inl ⟨by rfl, ?hyc9_3⟩) (by assumption) ?restc9_3
                case hyc9_3 => (intro w0 hSw; (try dsimp only at hSw); go_simp; try with_reducible rfl)
                case' restc9_3 => try simp only [Act.put, List.getElem_toArray, List.getElem_cons_zero, List.getElem_cons_succ, List.setIfInBounds_toArray, List.set_cons_zero, List.set_cons_succ]
                have HZ0 := Lib.hid ((ht.block w1.heap.size (by simp) (by have := HDc.out.pa.lt; omega)).trans (heap_new w1 (.cells #[.int .i64 0, .int .i64 0, .int .i64 0, .string ⟨#[]⟩, .int .i64 0, .int .i64 0, .int .i64 0] tMsg)))
                have hz2 : wr.heap.size ≤ w1.heap.size := HW1.out.size
                obtain ⟨z0, z1', z2, z3, z4, z5, z6⟩ := cell7 HZ0.out
                obtain ⟨f0, f1, f2, f3, f4, f5, f6⟩ := froz7 HZ0.out
                have HTu := Lib.hid (turned_set7 w2 w1.heap.size (.int .i64 a0) (.int .i64 a1) (.int .i64 a2) (.string ⟨#[]⟩) (.int .i64 0) (.int .i64 0) (.int .i64 a6))
                have HSET := Lib.hid (set7 HZ0.out (.int .i64 a0) (.int .i64 a1) (.int .i64 a2) (.string ⟨#[]⟩) (.int .i64 0) (.int .i64 0) (.int .i64 a6))
                unfold set7w at HTu HSET
                have HWs := Lib.hid (Below.turned HW2.out HTu.out (fun i hi => by omega) (Below.size HW2.out))
                refine wpAnyH_ready (rs := [11]) (by kernel_rfl) (by simp) ?_
                refine AllReadyH.cons rfl (fun K hK => ?_) AllReadyH.nil
                go_simp
                refine hK.out _ _ (HH.out _ (HWs.out)) (fun hHeld => ?_)
                clear hK K
                try simp only [Act.put, List.getElem_toArray, List.getElem_cons_zero, List.getElem_cons_succ, List.setIfInBounds_toArray, List.set_cons_zero, List.set_cons_succ]
                refine wpAnyH_take (i := 12) (v := ?vc12_4) rfl (by kernel_rfl) (by kernel_rfl) (by kernel_rfl) (fun _ _ _ h => h) (Or.inl ⟨by rfl, ?hyc12_4⟩) (by assumption) ?restc12_4
                case hyc12_4 => (intro w0 hSw; (try dsimp only at hSw); go_simp; try with_reducible rfl)
                case' restc12_4 => try simp only [Act.put, List.getElem_toArray, List.getElem_cons_zero, List.getElem_cons_succ, List.setIfInBounds_toArray, List.set_cons_zero, List.set_cons_succ]
                refine wpAnyH_done (by kernel_rfl) ?_ _
                refine NoPanic.normal ?_
                have HP2 := Lib.hid (HP.out.keep HWs.out)
                have HZ2 := Lib.hid HSET.out
                clear z0 z1' z2 z3 z4 z5 z6 f0 f1 f2 f3 f4 f5 f6 HTu HSET HWs HZ0 ht HW1 HW2 HDc hHeld hb
                generalize w1.heap.size = z1 at HZ2 hz2 HP2 ⊢
                generalize ((((((w2.setCell ⟨z1, 0, none⟩ (.int .i64 a0)).setCell ⟨z1, 1, none⟩ (.int .i64 a1)).setCell ⟨z1, 2, none⟩ (.int .i64 a2)).setCell ⟨z1, 3, none⟩ (.string ⟨#[]⟩)).setCell ⟨z1, 4, none⟩ (.int .i64 0)).setCell ⟨z1, 5, none⟩ (.int .i64 0)).setCell ⟨z1, 6, none⟩ (.int .i64 a6) = wA at HP2 HZ2 ⊢
                have hzq := HP.out.two.pa.lt
                clear c0 c1 c2 c3 c4 c5 c6
                obtain ⟨g', off', n', c'', e, c0, c1, c2, c3, c4, c5, c6⟩ := HC.out _ HP2.out.one.below
                injection e with e1 e2 e3
                injection e1 with e1
                injection e1 with e1 e4 _
                subst e1; subst e2; subst e3; subst e4
                go_wp2_with fail
                refine (HP2.out.tellQ (by omega) x hxs HSH.out HOK.out).mono ?_
                rintro e w3 ⟨rfl, hp, ht⟩
                rw [HSM.out] at hp
                have HP3 := Lib.hid (hp.keep (below_alloc w3 (.cells #[.int .i64 a0, .int .i64 a1, .int .i64 a2, .string ⟨#[]⟩, .int .i64 0, .int .i64 0, .int .i64 a6] tMsg)))
                have HZ3 := Lib.hid (heap_keep ((ht.block _ (heap_lt HZ2.out) (by omega)).trans HZ2.out) (below_alloc w3 (.cells #[.int .i64 a0, .int .i64 a1, .int .i64 a2, .string ⟨#[]⟩, .int .i64 0, .int .i64 0, .int .i64 a6] tMsg)))
                have HY3 := Lib.hid (heap_new w3 (.cells #[.int .i64 a0, .int .i64 a1, .int .i64 a2, .string ⟨#[]⟩, .int .i64 0, .int .i64 0, .int .i64 a6] tMsg))
                clear hp ht c0 c1 c2 c3 c4 c5 c6 HZ2
                obtain ⟨z0, z1', z2, z3, z4, z5, z6⟩ := cell7 HZ3.out
                obtain ⟨y0, y1, y2, y3, y4, y5, y6⟩ := cell7 HY3.out
                obtain ⟨g', off', n', c'', e, c0, c1, c2, c3, c4, c5, c6⟩ := HC.out _ HP3.out.one.below
                injection e with e1 e2 e3
                injection e1 with e1
                injection e1 with e1 e4 _
                subst e1; subst e2; subst e3; subst e4
                go_wp2_with fail
                have hsz : (⟨x.2.2.1.toArray⟩ : ByteArray).size ≤ 1000000000000 := by show x.2.2.1.toArray.size ≤ _; simp; omega
                clear z0 z1' z2 z3 z4 z5 z6 y0 y1 y2 y3 y4 y5 y6
                generalize w3.alloc (.cells #[.int .i64 a0, .int .i64 a1, .int .i64 a2, .string ⟨#[]⟩, .int .i64 0, .int .i64 0, .int .i64 a6] tMsg) = wB at HP3 HZ3 HY3 c0 c1 c2 c3 c4 c5 c6 ⊢
                generalize w3.heap.size = z9 at HY3 ⊢
                have HLp := Lib.hid (fun W (hb : Below wB.heap.size wB W) => (HP3.out.keep hb).one.left ⟨x.2.2.1.toArray⟩ hsz)
                have HLq := Lib.hid (fun W (hb : Below wB.heap.size wB W) => (HP3.out.keep hb).two.left ⟨x.2.2.1.toArray⟩ hsz)
                refine wp_region_noPanic ?_
                refine wp_region_held_drew (S := (fun w' => Hid (Below wB.heap.size wB w') ∧ w'.cell? ⟨z1, 0, none⟩ = some (.int .i64 a0) ∧ w'.cell? ⟨z1, 1, none⟩ = some (.int .i64 a1) ∧ w'.cell? ⟨z1, 2, none⟩ = some (.int .i64 a2) ∧ w'.cell? ⟨z1, 3, none⟩ = some (.string ⟨#[]⟩) ∧ w'.cell? ⟨z1, 4, none⟩ = some (.int .i64 0) ∧ w'.cell? ⟨z1, 5, none⟩ = some (.int .i64 0) ∧ w'.cell? ⟨z1, 6, none⟩ = some (.int .i64 a6) ∧ w'.cell? ⟨z9, 0, none⟩ = some (.int .i64 a0) ∧ w'.cell? ⟨z9, 1, none⟩ = some (.int .i64 a1) ∧ w'.cell? ⟨z9, 2, none⟩ = some (.int .i64 a2) ∧ w'.cell? ⟨z9, 3, none⟩ = some (.string ⟨#[]⟩) ∧ w'.cell? ⟨z9, 4, none⟩ = some (.int .i64 0) ∧ w'.cell? ⟨z9, 5, none⟩ = some (.int .i64 0) ∧ w'.cell? ⟨z9, 6, none⟩ = some (.int .i64 a6) ∧ w'.cell? ⟨g, off + k * 7 + 3, none⟩ = some (.string ⟨x.2.2.1.toArray⟩))) (by kernel_rfl) ⟨(below_drew1 (Below.refl _ wB)), cell_at ((((below_drew1 (Below.refl _ wB))).block _ (heap_lt HZ3.out)).trans HZ3.out) 0 rfl, cell_at ((((below_drew1 (Below.refl _ wB))).block _ (heap_lt HZ3.out)).trans HZ3.out) 1 rfl, cell_at ((((below_drew1 (Below.refl _ wB))).block _ (heap_lt HZ3.out)).trans HZ3.out) 2 rfl, cell_at ((((below_drew1 (Below.refl _ wB))).block _ (heap_lt HZ3.out)).trans HZ3.out) 3 rfl, cell_at ((((below_drew1 (Below.refl _ wB))).block _ (heap_lt HZ3.out)).trans HZ3.out) 4 rfl, cell_at ((((below_drew1 (Below.refl _ wB))).block _ (heap_lt HZ3.out)).trans HZ3.out) 5 rfl, cell_at ((((below_drew1 (Below.refl _ wB))).block _ (heap_lt HZ3.out)).trans HZ3.out) 6 rfl, cell_at ((((below_drew1 (Below.refl _ wB))).block _ (heap_lt HY3.out)).trans HY3.out) 0 rfl, cell_at ((((below_drew1 (Below.refl _ wB))).block _ (heap_lt HY3.out)).trans HY3.out) 1 rfl, cell_at ((((below_drew1 (Below.refl _ wB))).block _ (heap_lt HY3.out)).trans HY3.out) 2 rfl, cell_at ((((below_drew1 (Below.refl _ wB))).block _ (heap_lt HY3.out)).trans HY3.out) 3 rfl, cell_at ((((below_drew1 (Below.refl _ wB))).block _ (heap_lt HY3.out)).trans HY3.out) 4 rfl, cell_at ((((below_drew1 (Below.refl _ wB))).block _ (heap_lt HY3.out)).trans HY3.out) 5 rfl, cell_at ((((below_drew1 (Below.refl _ wB))).block _ (heap_lt HY3.out)).trans HY3.out) 6 rfl, (Below.cell ((below_drew1 (Below.refl _ wB))) (World.block_lt_of_cell? wB _ c3)).trans c3⟩ (fun hHeld => ?_)
                refine wpAnyH_take (i := 0) (v := ?vty0) rfl (by kernel_rfl) (by kernel_rfl) (by kernel_rfl) (fun _ _ _ h => h) (Or.inl ⟨by rfl, ?hyty0⟩) (by assumption) ?restty0
                case hyty0 => (intro w0 hSw; (try dsimp only at hSw); go_simp; try with_reducible rfl)
                case' restty0 => try simp only [Act.put, List.getElem_toArray, List.getElem_cons_zero, List.getElem_cons_succ, List.setIfInBounds_toArray, List.set_cons_zero, List.set_cons_succ]
                refine wpAnyH_take (i := 1) (v := ?vty1) rfl (by kernel_rfl) (by kernel_rfl) (by kernel_rfl) (fun _ _ _ h => h) (Or.inl ⟨by rfl, ?hyty1⟩) (by assumption) ?restty1
                case hyty1 => (intro w0 hSw; (try dsimp only at hSw); go_simp; try with_reducible rfl)
                case' restty1 => try simp only [Act.put, List.getElem_toArray, List.getElem_cons_zero, List.getElem_cons_succ, List.setIfInBounds_toArray, List.set_cons_zero, List.set_cons_succ]
                refine wpAnyH_take (i := 2) (v := ?vty2) rfl (by kernel_rfl) (by kernel_rfl) (by kernel_rfl) (fun _ _ _ h => h) (Or.inl ⟨by rfl, ?hyty2⟩) (by assumption) ?restty2
                case hyty2 => (intro w0 hSw; (try dsimp only at hSw); go_simp; try with_reducible rfl)
                case' restty2 => try simp only [Act.put, List.getElem_toArray, List.getElem_cons_zero, List.getElem_cons_succ, List.setIfInBounds_toArray, List.set_cons_zero, List.set_cons_succ]
                refine wpAnyH_take (i := 3) (v := ?vty3) rfl (by kernel_rfl) (by kernel_rfl) (by kernel_rfl) (fun _ _ _ h => h) (Or.inl ⟨by rfl, ?hyty3⟩) (by assumption) ?restty3
                case hyty3 => (intro w0 hSw; (try dsimp only at hSw); go_simp; try with_reducible rfl)
                case' restty3 => try simp only [Act.put, List.getElem_toArray, List.getElem_cons_zero, List.getElem_cons_succ, List.setIfInBounds_toArray, List.set_cons_zero, List.set_cons_succ]
                refine wpAnyH_take (i := 4) (v := ?vty4) rfl (by kernel_rfl) (by kernel_rfl) (by kernel_rfl) (fun _ _ _ h => h) (Or.inl ⟨by rfl, ?hyty4⟩) (by assumption) ?restty4
                case hyty4 => (intro w0 hSw; (try dsimp only at hSw); go_simp; try with_reducible rfl)
                case' restty4 => try simp only [Act.put, List.getElem_toArray, List.getElem_cons_zero, List.getElem_cons_succ, List.setIfInBounds_toArray, List.set_cons_zero, List.set_cons_succ]
                refine wpAnyH_take (i := 5) (v := ?vty5) rfl (by kernel_rfl) (by kernel_rfl) (by kernel_rfl) (fun _ _ _ h => h) (Or.inl ⟨by rfl, ?hyty5⟩) (by assumption) ?restty5
                case hyty5 => (intro w0 hSw; (try dsimp only at hSw); go_simp; try with_reducible rfl)
                case' restty5 => try simp only [Act.put, List.getElem_toArray, List.getElem_cons_zero, List.getElem_cons_succ, List.setIfInBounds_toArray, List.set_cons_zero, List.set_cons_succ]
                refine wpAnyH_take (i := 6) (v := ?vty6) rfl (by kernel_rfl) (by kernel_rfl) (by kernel_rfl) (fun _ _ _ h => h) (Or.inl ⟨by rfl, ?hyty6⟩) (by assumption) ?restty6
                case hyty6 => (intro w0 hSw; (try dsimp only at hSw); go_simp; try with_reducible rfl)
                case' restty6 => try simp only [Act.put, List.getElem_toArray, List.getElem_cons_zero, List.getElem_cons_succ, List.setIfInBounds_toArray, List.set_cons_zero, List.set_cons_succ]
                refine wpAnyH_take (i := 7) (v := ?vty7) rfl (by kernel_rfl) (by kernel_rfl) (by kernel_rfl) (fun _ _ _ h => h) (Or.inl ⟨by rfl, ?hyty7⟩) (by assumption) ?restty7
                case hyty7 => (intro w0 hSw; (try dsimp only at hSw); go_simp; try with_reducible rfl)
                case' restty7 => try simp only [Act.put, List.getElem_toArray, List.getElem_cons_zero, List.getElem_cons_succ, List.setIfInBounds_toArray, List.set_cons_zero, List.set_cons_succ]
                refine wpAnyH_take (i := 8) (v := ?vty8) rfl (by kernel_rfl) (by kernel_rfl) (by kernel_rfl) (fun _ _ _ h => h) (Or.inl ⟨by rfl, ?hyty8⟩) (by assumption) ?restty8
                case hyty8 => (intro w0 hSw; (try dsimp only at hSw); go_simp; try with_reducible rfl)
                case' restty8 => try simp only [Act.put, List.getElem_toArray, List.getElem_cons_zero, List.getElem_cons_succ, List.setIfInBounds_toArray, List.set_cons_zero, List.set_cons_succ]
                refine wpAnyH_take (i := 9) (v := ?vty9) rfl (by kernel_rfl) (by kernel_rfl) (by kernel_rfl) (fun _ _ _ h => h) (Or.inl ⟨by rfl, ?hyty9⟩) (by assumption) ?restty9
                case hyty9 => (intro w0 hSw; (try dsimp only at hSw); go_simp; try with_reducible rfl)
                case' restty9 => try simp only [Act.put, List.getElem_toArray, List.getElem_cons_zero, List.getElem_cons_succ, List.setIfInBounds_toArray, List.set_cons_zero, List.set_cons_succ]
                refine wpAnyH_take (i := 10) (v := ?vty10) rfl (by kernel_rfl) (by kernel_rfl) (by kernel_rfl) (fun _ _ _ h => h) (Or.inl ⟨by rfl, ?hyty10⟩) (by assumption) ?restty10
                case hyty10 => (intro w0 hSw; (try dsimp only at hSw); go_simp; try with_reducible rfl)
                case' restty10 => try simp only [Act.put, List.getElem_toArray, List.getElem_cons_zero, List.getElem_cons_succ, List.setIfInBounds_toArray, List.set_cons_zero, List.set_cons_succ]
                refine wpAnyH_take (i := 11) (v := ?vty11) rfl (by kernel_rfl) (by kernel_rfl) (by kernel_rfl) (fun _ _ _ h => h) (Or.inl ⟨by rfl, ?hyty11⟩) (by assumption) ?restty11
                case hyty11 => (intro w0 hSw; (try dsimp only at hSw); go_simp; try with_reducible rfl)
                case' restty11 => try simp only [Act.put, List.getElem_toArray, List.getElem_cons_zero, List.getElem_cons_succ, List.setIfInBounds_toArray, List.set_cons_zero, List.set_cons_succ]
                refine wpAnyH_take (i := 12) (v := ?vty12) rfl (by kernel_rfl) (by kernel_rfl) (by kernel_rfl) (fun _ _ _ h => h) (Or.inl ⟨by rfl, ?hyty12⟩) (by assumption) ?restty12
                case hyty12 => (intro w0 hSw; (try dsimp only at hSw); go_simp; try with_reducible rfl)
                case' restty12 => try simp only [Act.put, List.getElem_toArray, List.getElem_cons_zero, List.getElem_cons_succ, List.setIfInBounds_toArray, List.set_cons_zero, List.set_cons_succ]
                refine wpAnyH_take (i := 13) (v := ?vty13) rfl (by kernel_rfl) (by kernel_rfl) (by kernel_rfl) (fun _ _ _ h => h) (Or.inl ⟨by rfl, ?hyty13⟩) (by assumption) ?restty13
                case hyty13 => (intro w0 hSw; (try dsimp only at hSw); go_simp; try with_reducible rfl)
                case' restty13 => try simp only [Act.put, List.getElem_toArray, List.getElem_cons_zero, List.getElem_cons_succ, List.setIfInBounds_toArray, List.set_cons_zero, List.set_cons_succ]
                refine wpAnyH_take (i := 14) (v := ?vty14) rfl (by kernel_rfl) (by kernel_rfl) (by kernel_rfl) (fun _ _ _ h => h) (Or.inl ⟨by rfl, ?hyty14⟩) (by assumption) ?restty14
                case hyty14 => (intro w0 hSw; (try dsimp only at hSw); go_simp; try with_reducible rfl)
                case' restty14 => try simp only [Act.put, List.getElem_toArray, List.getElem_cons_zero, List.getElem_cons_succ, List.setIfInBounds_toArray, List.set_cons_zero, List.set_cons_succ]
                refine wpAnyH_take (i := 16) (v := ?vty16) rfl (by kernel_rfl) (by kernel_rfl) (by kernel_rfl) (fun _ _ _ h => h) (Or.inl ⟨by rfl, ?hyty16⟩) (by assumption) ?restty16
                case hyty16 => (intro w0 hSw; (try dsimp only at hSw); go_simp; try with_reducible rfl)
                case' restty16 => try simp only [Act.put, List.getElem_toArray, List.getElem_cons_zero, List.getElem_cons_succ, List.setIfInBounds_toArray, List.set_cons_zero, List.set_cons_succ]
                refine wpAnyH_take (i := 17) (v := ?vty17) rfl (by kernel_rfl) (by kernel_rfl) (by kernel_rfl) (fun _ _ _ h => h) (Or.inl ⟨by rfl, ?hyty17⟩) (by assumption) ?restty17
                case hyty17 => (intro w0 hSw; (try dsimp only at hSw); go_simp; try with_reducible rfl)
                case' restty17 => try simp only [Act.put, List.getElem_toArray, List.getElem_cons_zero, List.getElem_cons_succ, List.setIfInBounds_toArray, List.set_cons_zero, List.set_cons_succ]
                refine wpAnyH_take (i := 18) (v := ?vty18) rfl (by kernel_rfl) (by kernel_rfl) (by kernel_rfl) (fun _ _ _ h => h) (Or.inl ⟨by rfl, ?hyty18⟩) (by assumption) ?restty18
                case hyty18 => (intro w0 hSw; (try dsimp only at hSw); go_simp; try with_reducible rfl)
                case' restty18 => try simp only [Act.put, List.getElem_toArray, List.getElem_cons_zero, List.getElem_cons_succ, List.setIfInBounds_toArray, List.set_cons_zero, List.set_cons_succ]
                refine wpAnyH_take (i := 19) (v := ?vty19) rfl (by kernel_rfl) (by kernel_rfl) (by kernel_rfl) (fun _ _ _ h => h) (Or.inl ⟨by rfl, ?hyty19⟩) (by assumption) ?restty19
                case hyty19 => (intro w0 hSw; (try dsimp only at hSw); go_simp; try with_reducible rfl)
                case' restty19 => try simp only [Act.put, List.getElem_toArray, List.getElem_cons_zero, List.getElem_cons_succ, List.setIfInBounds_toArray, List.set_cons_zero, List.set_cons_succ]
                refine wpAnyH_take (i := 20) (v := ?vty20) rfl (by kernel_rfl) (by kernel_rfl) (by kernel_rfl) (fun _ _ _ h => h) (Or.inl ⟨by rfl, ?hyty20⟩) (by assumption) ?restty20
                case hyty20 => (intro w0 hSw; (try dsimp only at hSw); go_simp; try with_reducible rfl)
                case' restty20 => try simp only [Act.put, List.getElem_toArray, List.getElem_cons_zero, List.getElem_cons_succ, List.setIfInBounds_toArray, List.set_cons_zero, List.set_cons_succ]
                refine wpAnyH_take (i := 21) (v := ?vty21) rfl (by kernel_rfl) (by kernel_rfl) (by kernel_rfl) (fun _ _ _ h => h) (Or.inl ⟨by rfl, ?hyty21⟩) (by assumption) ?restty21
                case hyty21 => (intro w0 hSw; (try dsimp only at hSw); go_simp; try with_reducible rfl)
                case' restty21 => try simp only [Act.put, List.getElem_toArray, List.getElem_cons_zero, List.getElem_cons_succ, List.setIfInBounds_toArray, List.set_cons_zero, List.set_cons_succ]
                refine wpAnyH_ready (rs := [15]) (by kernel_rfl) (by simp) ?_
                refine AllReadyH.cons rfl (fun K hK => ?_) AllReadyH.nil
                go_simp
                refine (HLp.out _ (Hid.out (And.left (by assumption)))).mono ?_; rintro e w1 ⟨rfl, hb⟩
                have hbk := bch (Hid.out (And.left (by assumption))) hb (Below.size (Hid.out (And.left (by assumption))))
                refine hK.out _ _ ⟨hbk, cell_at (((hbk).block _ (heap_lt HZ3.out)).trans HZ3.out) 0 rfl, cell_at (((hbk).block _ (heap_lt HZ3.out)).trans HZ3.out) 1 rfl, cell_at (((hbk).block _ (heap_lt HZ3.out)).trans HZ3.out) 2 rfl, cell_at (((hbk).block _ (heap_lt HZ3.out)).trans HZ3.out) 3 rfl, cell_at (((hbk).block _ (heap_lt HZ3.out)).trans HZ3.out) 4 rfl, cell_at (((hbk).block _ (heap_lt HZ3.out)).trans HZ3.out) 5 rfl, cell_at (((hbk).block _ (heap_lt HZ3.out)).trans HZ3.out) 6 rfl, cell_at (((hbk).block _ (heap_lt HY3.out)).trans HY3.out) 0 rfl, cell_at (((hbk).block _ (heap_lt HY3.out)).trans HY3.out) 1 rfl, cell_at (((hbk).block _ (heap_lt HY3.out)).trans HY3.out) 2 rfl, cell_at (((hbk).block _ (heap_lt HY3.out)).trans HY3.out) 3 rfl, cell_at (((hbk).block _ (heap_lt HY3.out)).trans HY3.out) 4 rfl, cell_at (((hbk).block _ (heap_lt HY3.out)).trans HY3.out) 5 rfl, cell_at (((hbk).block _ (heap_lt HY3.out)).trans HY3.out) 6 rfl, (Below.cell (hbk) (World.block_lt_of_cell? wB _ c3)).trans c3⟩ (fun hHeld => ?_)
                clear hK K hb hbk
                try simp only [Act.put, List.getElem_toArray, List.getElem_cons_zero, List.getElem_cons_succ, List.setIfInBounds_toArray, List.set_cons_zero, List.set_cons_succ]
                refine wpAnyH_ready (rs := [22]) (by kernel_rfl) (by simp) ?_
                refine AllReadyH.cons rfl (fun K hK => ?_) AllReadyH.nil
                go_simp
                refine (HLq.out _ (Hid.out (And.left (by assumption)))).mono ?_; rintro e w1 ⟨rfl, hb⟩
                have hbk := bch (Hid.out (And.left (by assumption))) hb (Below.size (Hid.out (And.left (by assumption))))
                refine hK.out _ _ ⟨hbk, cell_at (((hbk).block _ (heap_lt HZ3.out)).trans HZ3.out) 0 rfl, cell_at (((hbk).block _ (heap_lt HZ3.out)).trans HZ3.out) 1 rfl, cell_at (((hbk).block _ (heap_lt HZ3.out)).trans HZ3.out) 2 rfl, cell_at (((hbk).block _ (heap_lt HZ3.out)).trans HZ3.out) 3 rfl, cell_at (((hbk).block _ (heap_lt HZ3.out)).trans HZ3.out) 4 rfl, cell_at (((hbk).block _ (heap_lt HZ3.out)).trans HZ3.out) 5 rfl, cell_at (((hbk).block _ (heap_lt HZ3.out)).trans HZ3.out) 6 rfl, cell_at (((hbk).block _ (heap_lt HY3.out)).trans HY3.out) 0 rfl, cell_at (((hbk).block _ (heap_lt HY3.out)).trans HY3.out) 1 rfl, cell_at (((hbk).block _ (heap_lt HY3.out)).trans HY3.out) 2 rfl, cell_at (((hbk).block _ (heap_lt HY3.out)).trans HY3.out) 3 rfl, cell_at (((hbk).block _ (heap_lt HY3.out)).trans HY3.out) 4 rfl, cell_at (((hbk).block _ (heap_lt HY3.out)).trans HY3.out) 5 rfl, cell_at (((hbk).block _ (heap_lt HY3.out)).trans HY3.out) 6 rfl, (Below.cell (hbk) (World.block_lt_of_cell? wB _ c3)).trans c3⟩ (fun hHeld => ?_)
                clear hK K hb hbk
                try simp only [Act.put, List.getElem_toArray, List.getElem_cons_zero, List.getElem_cons_succ, List.setIfInBounds_toArray, List.set_cons_zero, List.set_cons_succ]
                refine wpAnyH_take (i := 23) (v := ?vty23) rfl (by kernel_rfl) (by kernel_rfl) (by kernel_rfl) (fun _ _ _ h => h) (Or.inl ⟨by rfl, ?hyty23⟩) (by assumption) ?restty23
                case hyty23 => (intro w0 hSw; (try dsimp only at hSw); go_simp; try with_reducible rfl)
                case' restty23 => try simp only [Act.put, List.getElem_toArray, List.getElem_cons_zero, List.getElem_cons_succ, List.setIfInBounds_toArray, List.set_cons_zero, List.set_cons_succ]
                refine wpAnyH_take (i := 24) (v := ?vty24) rfl (by kernel_rfl) (by kernel_rfl) (by kernel_rfl) (fun _ _ _ h => h) (Or.inl ⟨by rfl, ?hyty24⟩) (by assumption) ?restty24
                case hyty24 => (intro w0 hSw; (try dsimp only at hSw); go_simp; try with_reducible rfl)
                case' restty24 => try simp only [Act.put, List.getElem_toArray, List.getElem_cons_zero, List.getElem_cons_succ, List.setIfInBounds_toArray, List.set_cons_zero, List.set_cons_succ]
                refine wpAnyH_done (by kernel_rfl) ?_ _
                refine NoPanic.normal ?_
                have HPz := Lib.hid (HP3.out.keep (Hid.out hHeld.1))
                clear hHeld
                go_wp2_with fail
                go_roundw
                case rel => exact ⟨k + 1, m3 + 1, by go_num, by omega, by omega, HPz⟩
                case measure => simp [intOf]; omega
              case brB =>
                go_simp
                refine hK.out _ _ (HH.out _ ((bch (below_drew1 (Below.refl wr.heap.size wr)) (below_alloc wr.drew _) (Nat.le_refl _)))) (fun hHeld => ?_)
                clear hK K
                try simp only [Act.put, List.getElem_toArray, List.getElem_cons_zero, List.getElem_cons_succ, List.setIfInBounds_toArray, List.set_cons_zero, List.set_cons_succ]
                refine wpAnyH_ready (rs := [1]) (by kernel_rfl) (by simp) ?_
                refine AllReadyH.cons rfl (fun K hK => ?_) AllReadyH.nil
                go_simp
                have HBd := Lib.hid (bch (below_drew1 (Below.refl wr.heap.size wr)) (below_alloc wr.drew (.cells #[.int .i64 0, .int .i64 0, .int .i64 0, .string ⟨#[]⟩, .int .i64 0, .int .i64 0, .int .i64 0] tMsg)) (Nat.le_refl _))
                refine (HCopy.out _ HBd.out).mono ?_; rintro e w1 ⟨d, db, dt, du, rfl, hc, hb, hlq⟩
                have HW1 := Lib.hid (bch HBd.out hb (Below.size HBd.out))
                have HDc := Lib.hid hc
                refine hK.out _ _ (HH.out _ (HW1.out)) (fun hHeld => ?_)
                clear hK K
                try simp only [Act.put, List.getElem_toArray, List.getElem_cons_zero, List.getElem_cons_succ, List.setIfInBounds_toArray, List.set_cons_zero, List.set_cons_succ]
                clear hc
                refine wpAnyH_ready (rs := [6]) (by kernel_rfl) (by simp) ?_
                refine AllReadyH.cons rfl (fun K hK => ?_) AllReadyH.nil
                go_simp
                refine (HTell.out _ d db dt du HDc.out).mono ?_; rintro e w2 ⟨rfl, hd, ht⟩
                have HW2 := Lib.hid hd.below
                refine hK.out _ _ (HH.out _ (HW2.out)) (fun hHeld => ?_)
                clear hK K
                try simp only [Act.put, List.getElem_toArray, List.getElem_cons_zero, List.getElem_cons_succ, List.setIfInBounds_toArray, List.set_cons_zero, List.set_cons_succ]
                clear hd
                refine wpAnyH_take (i := 7) (v := ?vc7_5) rfl (by kernel_rfl) (by kernel_rfl) (by kernel_rfl) (fun _ _ _ h => h) (Or.inl ⟨by rfl, ?hyc7_5⟩) (by assumption) ?restc7_5
                case hyc7_5 => (intro w0 hSw; (try dsimp only at hSw); go_simp; try with_reducible rfl)
                case' restc7_5 => try simp only [Act.put, List.getElem_toArray, List.getElem_cons_zero, List.getElem_cons_succ, List.setIfInBounds_toArray, List.set_cons_zero, List.set_cons_succ]
                refine wpAnyH_take (i := 8) (v := ?vc8_5) rfl (by kernel_rfl) (by kernel_rfl) (by kernel_rfl) (fun _ _ _ h => h) (Or.inl ⟨by rfl, ?hyc8_5⟩) (by assumption) ?restc8_5
                case hyc8_5 => (intro w0 hSw; (try dsimp only at hSw); go_simp; try with_reducible rfl)
                case' restc8_5 => try simp only [Act.put, List.getElem_toArray, List.getElem_cons_zero, List.getElem_cons_succ, List.setIfInBounds_toArray, List.set_cons_zero, List.set_cons_succ]
                refine wpAnyH_take (i := 9) (v := ?vc9_5) rfl (by kernel_rfl) (by kernel_rfl) (by kernel_rfl) (fun _ _ _ h => h) (Or.inl ⟨by rfl, ?hyc9_5⟩) (by assumption) ?restc9_5
                case hyc9_5 => (intro w0 hSw; (try dsimp only at hSw); go_simp; try with_reducible rfl)
                case' restc9_5 => try simp only [Act.put, List.getElem_toArray, List.getElem_cons_zero, List.getElem_cons_succ, List.setIfInBounds_toArray, List.set_cons_zero, List.set_cons_succ]
                have hzlt : wr.heap.size < w1.heap.size := by have := hb.size; rw [show (wr.drew.alloc (.cells #[.int .i64 0, .int .i64 0, .int .i64 0, .string ⟨#[]⟩, .int .i64 0, .int .i64 0, .int .i64 0] tMsg)).heap.size = wr.heap.size + 1 by simp] at this; omega
                have hzne : ¬ (wr.heap.size = db ∨ wr.heap.size = dt ∨ wr.heap.size = du) := by rw [show (wr.drew.alloc (.cells #[.int .i64 0, .int .i64 0, .int .i64 0, .string ⟨#[]⟩, .int .i64 0, .int .i64 0, .int .i64 0] tMsg)).heap.size = wr.heap.size + 1 by simp] at hlq; omega
                have HZ0 := Lib.hid ((ht.block wr.heap.size hzlt hzne).trans (heap_keep (heap_new wr.drew (.cells #[.int .i64 0, .int .i64 0, .int .i64 0, .string ⟨#[]⟩, .int .i64 0, .int .i64 0, .int .i64 0] tMsg)) hb))
                obtain ⟨z0, z1', z2, z3, z4, z5, z6⟩ := cell7 HZ0.out
                obtain ⟨f0, f1, f2, f3, f4, f5, f6⟩ := froz7 HZ0.out
                have HTu := Lib.hid (turned_set7 w2 wr.heap.size (.int .i64 a0) (.int .i64 a1) (.int .i64 a2) (.string ⟨#[]⟩) (.int .i64 0) (.int .i64 0) (.int .i64 a6))
                have HSET := Lib.hid (set7 HZ0.out (.int .i64 a0) (.int .i64 a1) (.int .i64 a2) (.string ⟨#[]⟩) (.int .i64 0) (.int .i64 0) (.int .i64 a6))
                unfold set7w at HTu HSET
                have HWs := Lib.hid (Below.turned HW2.out HTu.out (fun i hi => by omega) (Below.size HW2.out))
                refine wpAnyH_ready (rs := [11]) (by kernel_rfl) (by simp) ?_
                refine AllReadyH.cons rfl (fun K hK => ?_) AllReadyH.nil
                go_simp
                refine hK.out _ _ (HH.out _ (HWs.out)) (fun hHeld => ?_)
                clear hK K
                try simp only [Act.put, List.getElem_toArray, List.getElem_cons_zero, List.getElem_cons_succ, List.setIfInBounds_toArray, List.set_cons_zero, List.set_cons_succ]
                refine wpAnyH_take (i := 12) (v := ?vc12_6) rfl (by kernel_rfl) (by kernel_rfl) (by kernel_rfl) (fun _ _ _ h => h) (Or.inl ⟨by rfl, ?hyc12_6⟩) (by assumption) ?restc12_6
                case hyc12_6 => (intro w0 hSw; (try dsimp only at hSw); go_simp; try with_reducible rfl)
                case' restc12_6 => try simp only [Act.put, List.getElem_toArray, List.getElem_cons_zero, List.getElem_cons_succ, List.setIfInBounds_toArray, List.set_cons_zero, List.set_cons_succ]
                refine wpAnyH_done (by kernel_rfl) ?_ _
                refine NoPanic.normal ?_
                have hz2 : wr.heap.size ≤ wr.heap.size := Nat.le_refl _
                have HP2 := Lib.hid (HP.out.keep HWs.out)
                have HZ2 := Lib.hid HSET.out
                clear z0 z1' z2 z3 z4 z5 z6 f0 f1 f2 f3 f4 f5 f6 HTu HSET HWs HZ0 ht HW1 HW2 HDc hHeld hb HBd hzlt hzne
                obtain ⟨z1, hz1⟩ : ∃ z1, wr.heap.size = z1 := ⟨_, rfl⟩
                rw [hz1] at HZ2 hz2 HP2 ⊢
                have hz3 : wr.heap.size ≤ z1 := by omega
                generalize ((((((w2.setCell ⟨z1, 0, none⟩ (.int .i64 a0)).setCell ⟨z1, 1, none⟩ (.int .i64 a1)).setCell ⟨z1, 2, none⟩ (.int .i64 a2)).setCell ⟨z1, 3, none⟩ (.string ⟨#[]⟩)).setCell ⟨z1, 4, none⟩ (.int .i64 0)).setCell ⟨z1, 5, none⟩ (.int .i64 0)).setCell ⟨z1, 6, none⟩ (.int .i64 a6) = wA at HP2 HZ2 ⊢
                have hzq := HP.out.two.pa.lt
                clear c0 c1 c2 c3 c4 c5 c6
                obtain ⟨g', off', n', c'', e, c0, c1, c2, c3, c4, c5, c6⟩ := HC.out _ HP2.out.one.below
                injection e with e1 e2 e3
                injection e1 with e1
                injection e1 with e1 e4 _
                subst e1; subst e2; subst e3; subst e4
                go_wp2_with fail
                refine (HP2.out.tellQ (by omega) x hxs HSH.out HOK.out).mono ?_
                rintro e w3 ⟨rfl, hp, ht⟩
                rw [HSM.out] at hp
                have HP3 := Lib.hid (hp.keep (below_alloc w3 (.cells #[.int .i64 a0, .int .i64 a1, .int .i64 a2, .string ⟨#[]⟩, .int .i64 0, .int .i64 0, .int .i64 a6] tMsg)))
                have HZ3 := Lib.hid (heap_keep ((ht.block _ (heap_lt HZ2.out) (by omega)).trans HZ2.out) (below_alloc w3 (.cells #[.int .i64 a0, .int .i64 a1, .int .i64 a2, .string ⟨#[]⟩, .int .i64 0, .int .i64 0, .int .i64 a6] tMsg)))
                have HY3 := Lib.hid (heap_new w3 (.cells #[.int .i64 a0, .int .i64 a1, .int .i64 a2, .string ⟨#[]⟩, .int .i64 0, .int .i64 0, .int .i64 a6] tMsg))
                clear hp ht c0 c1 c2 c3 c4 c5 c6 HZ2
                obtain ⟨z0, z1', z2, z3, z4, z5, z6⟩ := cell7 HZ3.out
                obtain ⟨y0, y1, y2, y3, y4, y5, y6⟩ := cell7 HY3.out
                obtain ⟨g', off', n', c'', e, c0, c1, c2, c3, c4, c5, c6⟩ := HC.out _ HP3.out.one.below
                injection e with e1 e2 e3
                injection e1 with e1
                injection e1 with e1 e4 _
                subst e1; subst e2; subst e3; subst e4
                go_wp2_with fail
                have hsz : (⟨x.2.2.1.toArray⟩ : ByteArray).size ≤ 1000000000000 := by show x.2.2.1.toArray.size ≤ _; simp; omega
                clear z0 z1' z2 z3 z4 z5 z6 y0 y1 y2 y3 y4 y5 y6
                generalize w3.alloc (.cells #[.int .i64 a0, .int .i64 a1, .int .i64 a2, .string ⟨#[]⟩, .int .i64 0, .int .i64 0, .int .i64 a6] tMsg) = wB at HP3 HZ3 HY3 c0 c1 c2 c3 c4 c5 c6 ⊢
                generalize w3.heap.size = z9 at HY3 ⊢
                have HLp := Lib.hid (fun W (hb : Below wB.heap.size wB W) => (HP3.out.keep hb).one.left ⟨x.2.2.1.toArray⟩ hsz)
                have HLq := Lib.hid (fun W (hb : Below wB.heap.size wB W) => (HP3.out.keep hb).two.left ⟨x.2.2.1.toArray⟩ hsz)
                refine wp_region_noPanic ?_
                refine wp_region_held_drew (S := (fun w' => Hid (Below wB.heap.size wB w') ∧ w'.cell? ⟨z1, 0, none⟩ = some (.int .i64 a0) ∧ w'.cell? ⟨z1, 1, none⟩ = some (.int .i64 a1) ∧ w'.cell? ⟨z1, 2, none⟩ = some (.int .i64 a2) ∧ w'.cell? ⟨z1, 3, none⟩ = some (.string ⟨#[]⟩) ∧ w'.cell? ⟨z1, 4, none⟩ = some (.int .i64 0) ∧ w'.cell? ⟨z1, 5, none⟩ = some (.int .i64 0) ∧ w'.cell? ⟨z1, 6, none⟩ = some (.int .i64 a6) ∧ w'.cell? ⟨z9, 0, none⟩ = some (.int .i64 a0) ∧ w'.cell? ⟨z9, 1, none⟩ = some (.int .i64 a1) ∧ w'.cell? ⟨z9, 2, none⟩ = some (.int .i64 a2) ∧ w'.cell? ⟨z9, 3, none⟩ = some (.string ⟨#[]⟩) ∧ w'.cell? ⟨z9, 4, none⟩ = some (.int .i64 0) ∧ w'.cell? ⟨z9, 5, none⟩ = some (.int .i64 0) ∧ w'.cell? ⟨z9, 6, none⟩ = some (.int .i64 a6) ∧ w'.cell? ⟨g, off + k * 7 + 3, none⟩ = some (.string ⟨x.2.2.1.toArray⟩))) (by kernel_rfl) ⟨(below_drew1 (Below.refl _ wB)), cell_at ((((below_drew1 (Below.refl _ wB))).block _ (heap_lt HZ3.out)).trans HZ3.out) 0 rfl, cell_at ((((below_drew1 (Below.refl _ wB))).block _ (heap_lt HZ3.out)).trans HZ3.out) 1 rfl, cell_at ((((below_drew1 (Below.refl _ wB))).block _ (heap_lt HZ3.out)).trans HZ3.out) 2 rfl, cell_at ((((below_drew1 (Below.refl _ wB))).block _ (heap_lt HZ3.out)).trans HZ3.out) 3 rfl, cell_at ((((below_drew1 (Below.refl _ wB))).block _ (heap_lt HZ3.out)).trans HZ3.out) 4 rfl, cell_at ((((below_drew1 (Below.refl _ wB))).block _ (heap_lt HZ3.out)).trans HZ3.out) 5 rfl, cell_at ((((below_drew1 (Below.refl _ wB))).block _ (heap_lt HZ3.out)).trans HZ3.out) 6 rfl, cell_at ((((below_drew1 (Below.refl _ wB))).block _ (heap_lt HY3.out)).trans HY3.out) 0 rfl, cell_at ((((below_drew1 (Below.refl _ wB))).block _ (heap_lt HY3.out)).trans HY3.out) 1 rfl, cell_at ((((below_drew1 (Below.refl _ wB))).block _ (heap_lt HY3.out)).trans HY3.out) 2 rfl, cell_at ((((below_drew1 (Below.refl _ wB))).block _ (heap_lt HY3.out)).trans HY3.out) 3 rfl, cell_at ((((below_drew1 (Below.refl _ wB))).block _ (heap_lt HY3.out)).trans HY3.out) 4 rfl, cell_at ((((below_drew1 (Below.refl _ wB))).block _ (heap_lt HY3.out)).trans HY3.out) 5 rfl, cell_at ((((below_drew1 (Below.refl _ wB))).block _ (heap_lt HY3.out)).trans HY3.out) 6 rfl, (Below.cell ((below_drew1 (Below.refl _ wB))) (World.block_lt_of_cell? wB _ c3)).trans c3⟩ (fun hHeld => ?_)
                refine wpAnyH_take (i := 0) (v := ?vtb0) rfl (by kernel_rfl) (by kernel_rfl) (by kernel_rfl) (fun _ _ _ h => h) (Or.inl ⟨by rfl, ?hytb0⟩) (by assumption) ?resttb0
                case hytb0 => (intro w0 hSw; (try dsimp only at hSw); go_simp; try with_reducible rfl)
                case' resttb0 => try simp only [Act.put, List.getElem_toArray, List.getElem_cons_zero, List.getElem_cons_succ, List.setIfInBounds_toArray, List.set_cons_zero, List.set_cons_succ]
                refine wpAnyH_take (i := 1) (v := ?vtb1) rfl (by kernel_rfl) (by kernel_rfl) (by kernel_rfl) (fun _ _ _ h => h) (Or.inl ⟨by rfl, ?hytb1⟩) (by assumption) ?resttb1
                case hytb1 => (intro w0 hSw; (try dsimp only at hSw); go_simp; try with_reducible rfl)
                case' resttb1 => try simp only [Act.put, List.getElem_toArray, List.getElem_cons_zero, List.getElem_cons_succ, List.setIfInBounds_toArray, List.set_cons_zero, List.set_cons_succ]
                refine wpAnyH_take (i := 2) (v := ?vtb2) rfl (by kernel_rfl) (by kernel_rfl) (by kernel_rfl) (fun _ _ _ h => h) (Or.inl ⟨by rfl, ?hytb2⟩) (by assumption) ?resttb2
                case hytb2 => (intro w0 hSw; (try dsimp only at hSw); go_simp; try with_reducible rfl)
                case' resttb2 => try simp only [Act.put, List.getElem_toArray, List.getElem_cons_zero, List.getElem_cons_succ, List.setIfInBounds_toArray, List.set_cons_zero, List.set_cons_succ]
                refine wpAnyH_take (i := 3) (v := ?vtb3) rfl (by kernel_rfl) (by kernel_rfl) (by kernel_rfl) (fun _ _ _ h => h) (Or.inl ⟨by rfl, ?hytb3⟩) (by assumption) ?resttb3
                case hytb3 => (intro w0 hSw; (try dsimp only at hSw); go_simp; try with_reducible rfl)
                case' resttb3 => try simp only [Act.put, List.getElem_toArray, List.getElem_cons_zero, List.getElem_cons_succ, List.setIfInBounds_toArray, List.set_cons_zero, List.set_cons_succ]
                refine wpAnyH_take (i := 4) (v := ?vtb4) rfl (by kernel_rfl) (by kernel_rfl) (by kernel_rfl) (fun _ _ _ h => h) (Or.inl ⟨by rfl, ?hytb4⟩) (by assumption) ?resttb4
                case hytb4 => (intro w0 hSw; (try dsimp only at hSw); go_simp; try with_reducible rfl)
                case' resttb4 => try simp only [Act.put, List.getElem_toArray, List.getElem_cons_zero, List.getElem_cons_succ, List.setIfInBounds_toArray, List.set_cons_zero, List.set_cons_succ]
                refine wpAnyH_take (i := 5) (v := ?vtb5) rfl (by kernel_rfl) (by kernel_rfl) (by kernel_rfl) (fun _ _ _ h => h) (Or.inl ⟨by rfl, ?hytb5⟩) (by assumption) ?resttb5
                case hytb5 => (intro w0 hSw; (try dsimp only at hSw); go_simp; try with_reducible rfl)
                case' resttb5 => try simp only [Act.put, List.getElem_toArray, List.getElem_cons_zero, List.getElem_cons_succ, List.setIfInBounds_toArray, List.set_cons_zero, List.set_cons_succ]
                refine wpAnyH_take (i := 6) (v := ?vtb6) rfl (by kernel_rfl) (by kernel_rfl) (by kernel_rfl) (fun _ _ _ h => h) (Or.inl ⟨by rfl, ?hytb6⟩) (by assumption) ?resttb6
                case hytb6 => (intro w0 hSw; (try dsimp only at hSw); go_simp; try with_reducible rfl)
                case' resttb6 => try simp only [Act.put, List.getElem_toArray, List.getElem_cons_zero, List.getElem_cons_succ, List.setIfInBounds_toArray, List.set_cons_zero, List.set_cons_succ]
                refine wpAnyH_take (i := 7) (v := ?vtb7) rfl (by kernel_rfl) (by kernel_rfl) (by kernel_rfl) (fun _ _ _ h => h) (Or.inl ⟨by rfl, ?hytb7⟩) (by assumption) ?resttb7
                case hytb7 => (intro w0 hSw; (try dsimp only at hSw); go_simp; try with_reducible rfl)
                case' resttb7 => try simp only [Act.put, List.getElem_toArray, List.getElem_cons_zero, List.getElem_cons_succ, List.setIfInBounds_toArray, List.set_cons_zero, List.set_cons_succ]
                refine wpAnyH_take (i := 8) (v := ?vtb8) rfl (by kernel_rfl) (by kernel_rfl) (by kernel_rfl) (fun _ _ _ h => h) (Or.inl ⟨by rfl, ?hytb8⟩) (by assumption) ?resttb8
                case hytb8 => (intro w0 hSw; (try dsimp only at hSw); go_simp; try with_reducible rfl)
                case' resttb8 => try simp only [Act.put, List.getElem_toArray, List.getElem_cons_zero, List.getElem_cons_succ, List.setIfInBounds_toArray, List.set_cons_zero, List.set_cons_succ]
                refine wpAnyH_take (i := 9) (v := ?vtb9) rfl (by kernel_rfl) (by kernel_rfl) (by kernel_rfl) (fun _ _ _ h => h) (Or.inl ⟨by rfl, ?hytb9⟩) (by assumption) ?resttb9
                case hytb9 => (intro w0 hSw; (try dsimp only at hSw); go_simp; try with_reducible rfl)
                case' resttb9 => try simp only [Act.put, List.getElem_toArray, List.getElem_cons_zero, List.getElem_cons_succ, List.setIfInBounds_toArray, List.set_cons_zero, List.set_cons_succ]
                refine wpAnyH_take (i := 10) (v := ?vtb10) rfl (by kernel_rfl) (by kernel_rfl) (by kernel_rfl) (fun _ _ _ h => h) (Or.inl ⟨by rfl, ?hytb10⟩) (by assumption) ?resttb10
                case hytb10 => (intro w0 hSw; (try dsimp only at hSw); go_simp; try with_reducible rfl)
                case' resttb10 => try simp only [Act.put, List.getElem_toArray, List.getElem_cons_zero, List.getElem_cons_succ, List.setIfInBounds_toArray, List.set_cons_zero, List.set_cons_succ]
                refine wpAnyH_take (i := 11) (v := ?vtb11) rfl (by kernel_rfl) (by kernel_rfl) (by kernel_rfl) (fun _ _ _ h => h) (Or.inl ⟨by rfl, ?hytb11⟩) (by assumption) ?resttb11
                case hytb11 => (intro w0 hSw; (try dsimp only at hSw); go_simp; try with_reducible rfl)
                case' resttb11 => try simp only [Act.put, List.getElem_toArray, List.getElem_cons_zero, List.getElem_cons_succ, List.setIfInBounds_toArray, List.set_cons_zero, List.set_cons_succ]
                refine wpAnyH_take (i := 12) (v := ?vtb12) rfl (by kernel_rfl) (by kernel_rfl) (by kernel_rfl) (fun _ _ _ h => h) (Or.inl ⟨by rfl, ?hytb12⟩) (by assumption) ?resttb12
                case hytb12 => (intro w0 hSw; (try dsimp only at hSw); go_simp; try with_reducible rfl)
                case' resttb12 => try simp only [Act.put, List.getElem_toArray, List.getElem_cons_zero, List.getElem_cons_succ, List.setIfInBounds_toArray, List.set_cons_zero, List.set_cons_succ]
                refine wpAnyH_take (i := 13) (v := ?vtb13) rfl (by kernel_rfl) (by kernel_rfl) (by kernel_rfl) (fun _ _ _ h => h) (Or.inl ⟨by rfl, ?hytb13⟩) (by assumption) ?resttb13
                case hytb13 => (intro w0 hSw; (try dsimp only at hSw); go_simp; try with_reducible rfl)
                case' resttb13 => try simp only [Act.put, List.getElem_toArray, List.getElem_cons_zero, List.getElem_cons_succ, List.setIfInBounds_toArray, List.set_cons_zero, List.set_cons_succ]
                refine wpAnyH_take (i := 14) (v := ?vtb14) rfl (by kernel_rfl) (by kernel_rfl) (by kernel_rfl) (fun _ _ _ h => h) (Or.inl ⟨by rfl, ?hytb14⟩) (by assumption) ?resttb14
                case hytb14 => (intro w0 hSw; (try dsimp only at hSw); go_simp; try with_reducible rfl)
                case' resttb14 => try simp only [Act.put, List.getElem_toArray, List.getElem_cons_zero, List.getElem_cons_succ, List.setIfInBounds_toArray, List.set_cons_zero, List.set_cons_succ]
                refine wpAnyH_take (i := 16) (v := ?vtb16) rfl (by kernel_rfl) (by kernel_rfl) (by kernel_rfl) (fun _ _ _ h => h) (Or.inl ⟨by rfl, ?hytb16⟩) (by assumption) ?resttb16
                case hytb16 => (intro w0 hSw; (try dsimp only at hSw); go_simp; try with_reducible rfl)
                case' resttb16 => try simp only [Act.put, List.getElem_toArray, List.getElem_cons_zero, List.getElem_cons_succ, List.setIfInBounds_toArray, List.set_cons_zero, List.set_cons_succ]
                refine wpAnyH_take (i := 17) (v := ?vtb17) rfl (by kernel_rfl) (by kernel_rfl) (by kernel_rfl) (fun _ _ _ h => h) (Or.inl ⟨by rfl, ?hytb17⟩) (by assumption) ?resttb17
                case hytb17 => (intro w0 hSw; (try dsimp only at hSw); go_simp; try with_reducible rfl)
                case' resttb17 => try simp only [Act.put, List.getElem_toArray, List.getElem_cons_zero, List.getElem_cons_succ, List.setIfInBounds_toArray, List.set_cons_zero, List.set_cons_succ]
                refine wpAnyH_take (i := 18) (v := ?vtb18) rfl (by kernel_rfl) (by kernel_rfl) (by kernel_rfl) (fun _ _ _ h => h) (Or.inl ⟨by rfl, ?hytb18⟩) (by assumption) ?resttb18
                case hytb18 => (intro w0 hSw; (try dsimp only at hSw); go_simp; try with_reducible rfl)
                case' resttb18 => try simp only [Act.put, List.getElem_toArray, List.getElem_cons_zero, List.getElem_cons_succ, List.setIfInBounds_toArray, List.set_cons_zero, List.set_cons_succ]
                refine wpAnyH_take (i := 19) (v := ?vtb19) rfl (by kernel_rfl) (by kernel_rfl) (by kernel_rfl) (fun _ _ _ h => h) (Or.inl ⟨by rfl, ?hytb19⟩) (by assumption) ?resttb19
                case hytb19 => (intro w0 hSw; (try dsimp only at hSw); go_simp; try with_reducible rfl)
                case' resttb19 => try simp only [Act.put, List.getElem_toArray, List.getElem_cons_zero, List.getElem_cons_succ, List.setIfInBounds_toArray, List.set_cons_zero, List.set_cons_succ]
                refine wpAnyH_take (i := 20) (v := ?vtb20) rfl (by kernel_rfl) (by kernel_rfl) (by kernel_rfl) (fun _ _ _ h => h) (Or.inl ⟨by rfl, ?hytb20⟩) (by assumption) ?resttb20
                case hytb20 => (intro w0 hSw; (try dsimp only at hSw); go_simp; try with_reducible rfl)
                case' resttb20 => try simp only [Act.put, List.getElem_toArray, List.getElem_cons_zero, List.getElem_cons_succ, List.setIfInBounds_toArray, List.set_cons_zero, List.set_cons_succ]
                refine wpAnyH_take (i := 21) (v := ?vtb21) rfl (by kernel_rfl) (by kernel_rfl) (by kernel_rfl) (fun _ _ _ h => h) (Or.inl ⟨by rfl, ?hytb21⟩) (by assumption) ?resttb21
                case hytb21 => (intro w0 hSw; (try dsimp only at hSw); go_simp; try with_reducible rfl)
                case' resttb21 => try simp only [Act.put, List.getElem_toArray, List.getElem_cons_zero, List.getElem_cons_succ, List.setIfInBounds_toArray, List.set_cons_zero, List.set_cons_succ]
                refine wpAnyH_ready (rs := [15]) (by kernel_rfl) (by simp) ?_
                refine AllReadyH.cons rfl (fun K hK => ?_) AllReadyH.nil
                go_simp
                refine (HLp.out _ (Hid.out (And.left (by assumption)))).mono ?_; rintro e w1 ⟨rfl, hb⟩
                have hbk := bch (Hid.out (And.left (by assumption))) hb (Below.size (Hid.out (And.left (by assumption))))
                refine hK.out _ _ ⟨hbk, cell_at (((hbk).block _ (heap_lt HZ3.out)).trans HZ3.out) 0 rfl, cell_at (((hbk).block _ (heap_lt HZ3.out)).trans HZ3.out) 1 rfl, cell_at (((hbk).block _ (heap_lt HZ3.out)).trans HZ3.out) 2 rfl, cell_at (((hbk).block _ (heap_lt HZ3.out)).trans HZ3.out) 3 rfl, cell_at (((hbk).block _ (heap_lt HZ3.out)).trans HZ3.out) 4 rfl, cell_at (((hbk).block _ (heap_lt HZ3.out)).trans HZ3.out) 5 rfl, cell_at (((hbk).block _ (heap_lt HZ3.out)).trans HZ3.out) 6 rfl, cell_at (((hbk).block _ (heap_lt HY3.out)).trans HY3.out) 0 rfl, cell_at (((hbk).block _ (heap_lt HY3.out)).trans HY3.out) 1 rfl, cell_at (((hbk).block _ (heap_lt HY3.out)).trans HY3.out) 2 rfl, cell_at (((hbk).block _ (heap_lt HY3.out)).trans HY3.out) 3 rfl, cell_at (((hbk).block _ (heap_lt HY3.out)).trans HY3.out) 4 rfl, cell_at (((hbk).block _ (heap_lt HY3.out)).trans HY3.out) 5 rfl, cell_at (((hbk).block _ (heap_lt HY3.out)).trans HY3.out) 6 rfl, (Below.cell (hbk) (World.block_lt_of_cell? wB _ c3)).trans c3⟩ (fun hHeld => ?_)
                clear hK K hb hbk
                try simp only [Act.put, List.getElem_toArray, List.getElem_cons_zero, List.getElem_cons_succ, List.setIfInBounds_toArray, List.set_cons_zero, List.set_cons_succ]
                refine wpAnyH_ready (rs := [22]) (by kernel_rfl) (by simp) ?_
                refine AllReadyH.cons rfl (fun K hK => ?_) AllReadyH.nil
                go_simp
                refine (HLq.out _ (Hid.out (And.left (by assumption)))).mono ?_; rintro e w1 ⟨rfl, hb⟩
                have hbk := bch (Hid.out (And.left (by assumption))) hb (Below.size (Hid.out (And.left (by assumption))))
                refine hK.out _ _ ⟨hbk, cell_at (((hbk).block _ (heap_lt HZ3.out)).trans HZ3.out) 0 rfl, cell_at (((hbk).block _ (heap_lt HZ3.out)).trans HZ3.out) 1 rfl, cell_at (((hbk).block _ (heap_lt HZ3.out)).trans HZ3.out) 2 rfl, cell_at (((hbk).block _ (heap_lt HZ3.out)).trans HZ3.out) 3 rfl, cell_at (((hbk).block _ (heap_lt HZ3.out)).trans HZ3.out) 4 rfl, cell_at (((hbk).block _ (heap_lt HZ3.out)).trans HZ3.out) 5 rfl, cell_at (((hbk).block _ (heap_lt HZ3.out)).trans HZ3.out) 6 rfl, cell_at (((hbk).block _ (heap_lt HY3.out)).trans HY3.out) 0 rfl, cell_at (((hbk).block _ (heap_lt HY3.out)).trans HY3.out) 1 rfl, cell_at (((hbk).block _ (heap_lt HY3.out)).trans HY3.out) 2 rfl, cell_at (((hbk).block _ (heap_lt HY3.out)).trans HY3.out) 3 rfl, cell_at (((hbk).block _ (heap_lt HY3.out)).trans HY3.out) 4 rfl, cell_at (((hbk).block _ (heap_lt HY3.out)).trans HY3.out) 5 rfl, cell_at (((hbk).block _ (heap_lt HY3.out)).trans HY3.out) 6 rfl, (Below.cell (hbk) (World.block_lt_of_cell? wB _ c3)).trans c3⟩ (fun hHeld => ?_)
                clear hK K hb hbk
                try simp only [Act.put, List.getElem_toArray, List.getElem_cons_zero, List.getElem_cons_succ, List.setIfInBounds_toArray, List.set_cons_zero, List.set_cons_succ]
                refine wpAnyH_take (i := 23) (v := ?vtb23) rfl (by kernel_rfl) (by kernel_rfl) (by kernel_rfl) (fun _ _ _ h => h) (Or.inl ⟨by rfl, ?hytb23⟩) (by assumption) ?resttb23
                case hytb23 => (intro w0 hSw; (try dsimp only at hSw); go_simp; try with_reducible rfl)
                case' resttb23 => try simp only [Act.put, List.getElem_toArray, List.getElem_cons_zero, List.getElem_cons_succ, List.setIfInBounds_toArray, List.set_cons_zero, List.set_cons_succ]
                refine wpAnyH_take (i := 24) (v := ?vtb24) rfl (by kernel_rfl) (by kernel_rfl) (by kernel_rfl) (fun _ _ _ h => h) (Or.inl ⟨by rfl, ?hytb24⟩) (by assumption) ?resttb24
                case hytb24 => (intro w0 hSw; (try dsimp only at hSw); go_simp; try with_reducible rfl)
                case' resttb24 => try simp only [Act.put, List.getElem_toArray, List.getElem_cons_zero, List.getElem_cons_succ, List.setIfInBounds_toArray, List.set_cons_zero, List.set_cons_succ]
                refine wpAnyH_done (by kernel_rfl) ?_ _
                refine NoPanic.normal ?_
                have HPz := Lib.hid (HP3.out.keep (Hid.out hHeld.1))
                clear hHeld
                go_wp2_with fail
                go_roundw
                case rel => exact ⟨k + 1, m3 + 1, by go_num, by omega, by omega, HPz⟩
                case measure => simp [intOf]; omega
            · obtain rfl : k = L.length := by omega
              go_wp2_with fail
              refine (HP.out.one.rows (by omega)).mono ?_
              rintro e w1 ⟨v1, rfl, ho1, hb1⟩
              have HP1 := Lib.hid (HP.out.keep hb1)
              have HO1 := Lib.hid ho1
              clear ho1 hb1
              go_wp2_with fail
              refine (HP1.out.two.rows (by omega)).mono ?_
              rintro e w2 ⟨v2, rfl, ho2, hb2⟩
              have HP2 := Lib.hid (HP1.out.keep hb2)
              have HO1' := Lib.hid (own_keep HO1.out hb2)
              have HO2 := Lib.hid ho2
              clear ho2 hb2
              have hln := HP2.out.one.ln
              go_wp2_with fail
              refine (same_true _ _ _ _ _ st.rows HO1'.out HO2.out (by omega)).mono ?_
              rintro e w3 ⟨rfl, hb⟩
              have HP3 := Lib.hid (HP2.out.keep hb)
              clear hb
              go_wp2_with fail
              refine (asked_true _ HP3.out.one.pt).mono ?_
              rintro e w4 ⟨rfl, hb⟩
              have HB := Lib.hid (bch HP3.out.one.below hb HP3.out.one.below.size)
              clear hb
              go_wp2_with fail
              go_ret
              exact ⟨rfl, HB.out⟩
    · go_enter Tryd.func5, Tryd.ntmps5
      go_wp2_with fail
      refine HG.out.mono ?_
      rintro e w1 ⟨rfl, hw⟩; subst hw
      generalize w.alloc (.cells #[.int .i64 kind, .int .i64 stock, .int .i64 limit] tFirm) = wa at HX0 HB0 ⊢
      go_wp2_with fail
      refine wp_region_noPanic ?_
      refine wp_region_held_drew (S := (fun w' => Hid (Below wa.heap.size wa w') ∧ w'.cell? ⟨w.heap.size, 0, none⟩ = some (.int .i64 kind) ∧ w'.cell? ⟨w.heap.size, 1, none⟩ = some (.int .i64 stock) ∧ w'.cell? ⟨w.heap.size, 2, none⟩ = some (.int .i64 limit))) (by kernel_rfl) ⟨(below_drew1 (Below.refl _ wa)), cell_at ((((below_drew1 (Below.refl _ wa))).block _ (heap_lt HX0.out)).trans HX0.out) 0 rfl, cell_at ((((below_drew1 (Below.refl _ wa))).block _ (heap_lt HX0.out)).trans HX0.out) 1 rfl, cell_at ((((below_drew1 (Below.refl _ wa))).block _ (heap_lt HX0.out)).trans HX0.out) 2 rfl⟩ (fun hHeld => ?_)
      refine wpAnyH_take (i := 0) (v := ?vn0) rfl (by kernel_rfl) (by kernel_rfl) (by kernel_rfl) (fun _ _ _ h => h) (Or.inl ⟨by rfl, ?hyn0⟩) (by assumption) ?restn0
      case hyn0 => (intro w0 hSw; (try dsimp only at hSw); go_simp; try with_reducible rfl)
      case' restn0 => try simp only [Act.put, List.getElem_toArray, List.getElem_cons_zero, List.getElem_cons_succ, List.setIfInBounds_toArray, List.set_cons_zero, List.set_cons_succ]
      refine wpAnyH_take (i := 1) (v := ?vn1) rfl (by kernel_rfl) (by kernel_rfl) (by kernel_rfl) (fun _ _ _ h => h) (Or.inl ⟨by rfl, ?hyn1⟩) (by assumption) ?restn1
      case hyn1 => (intro w0 hSw; (try dsimp only at hSw); go_simp; try with_reducible rfl)
      case' restn1 => try simp only [Act.put, List.getElem_toArray, List.getElem_cons_zero, List.getElem_cons_succ, List.setIfInBounds_toArray, List.set_cons_zero, List.set_cons_succ]
      refine wpAnyH_take (i := 2) (v := ?vn2) rfl (by kernel_rfl) (by kernel_rfl) (by kernel_rfl) (fun _ _ _ h => h) (Or.inl ⟨by rfl, ?hyn2⟩) (by assumption) ?restn2
      case hyn2 => (intro w0 hSw; (try dsimp only at hSw); go_simp; try with_reducible rfl)
      case' restn2 => try simp only [Act.put, List.getElem_toArray, List.getElem_cons_zero, List.getElem_cons_succ, List.setIfInBounds_toArray, List.set_cons_zero, List.set_cons_succ]
      refine wpAnyH_take (i := 3) (v := ?vn3) rfl (by kernel_rfl) (by kernel_rfl) (by kernel_rfl) (fun _ _ _ h => h) (Or.inl ⟨by rfl, ?hyn3⟩) (by assumption) ?restn3
      case hyn3 => (intro w0 hSw; (try dsimp only at hSw); go_simp; try with_reducible rfl)
      case' restn3 => try simp only [Act.put, List.getElem_toArray, List.getElem_cons_zero, List.getElem_cons_succ, List.setIfInBounds_toArray, List.set_cons_zero, List.set_cons_succ]
      refine wpAnyH_take (i := 4) (v := ?vn4) rfl (by kernel_rfl) (by kernel_rfl) (by kernel_rfl) (fun _ _ _ h => h) (Or.inl ⟨by rfl, ?hyn4⟩) (by assumption) ?restn4
      case hyn4 => (intro w0 hSw; (try dsimp only at hSw); go_simp; try with_reducible rfl)
      case' restn4 => try simp only [Act.put, List.getElem_toArray, List.getElem_cons_zero, List.getElem_cons_succ, List.setIfInBounds_toArray, List.set_cons_zero, List.set_cons_succ]
      refine wpAnyH_take (i := 5) (v := ?vn5) rfl (by kernel_rfl) (by kernel_rfl) (by kernel_rfl) (fun _ _ _ h => h) (Or.inl ⟨by rfl, ?hyn5⟩) (by assumption) ?restn5
      case hyn5 => (intro w0 hSw; (try dsimp only at hSw); go_simp; try with_reducible rfl)
      case' restn5 => try simp only [Act.put, List.getElem_toArray, List.getElem_cons_zero, List.getElem_cons_succ, List.setIfInBounds_toArray, List.set_cons_zero, List.set_cons_succ]
      refine wpAnyH_take (i := 7) (v := ?vn7) rfl (by kernel_rfl) (by kernel_rfl) (by kernel_rfl) (fun _ _ _ h => h) (Or.inl ⟨by rfl, ?hyn7⟩) (by assumption) ?restn7
      case hyn7 => (intro w0 hSw; (try dsimp only at hSw); go_simp; try with_reducible rfl)
      case' restn7 => try simp only [Act.put, List.getElem_toArray, List.getElem_cons_zero, List.getElem_cons_succ, List.setIfInBounds_toArray, List.set_cons_zero, List.set_cons_succ]
      refine wpAnyH_take (i := 8) (v := ?vn8) rfl (by kernel_rfl) (by kernel_rfl) (by kernel_rfl) (fun _ _ _ h => h) (Or.inl ⟨by rfl, ?hyn8⟩) (by assumption) ?restn8
      case hyn8 => (intro w0 hSw; (try dsimp only at hSw); go_simp; try with_reducible rfl)
      case' restn8 => try simp only [Act.put, List.getElem_toArray, List.getElem_cons_zero, List.getElem_cons_succ, List.setIfInBounds_toArray, List.set_cons_zero, List.set_cons_succ]
      refine wpAnyH_take (i := 9) (v := ?vn9) rfl (by kernel_rfl) (by kernel_rfl) (by kernel_rfl) (fun _ _ _ h => h) (Or.inl ⟨by rfl, ?hyn9⟩) (by assumption) ?restn9
      case hyn9 => (intro w0 hSw; (try dsimp only at hSw); go_simp; try with_reducible rfl)
      case' restn9 => try simp only [Act.put, List.getElem_toArray, List.getElem_cons_zero, List.getElem_cons_succ, List.setIfInBounds_toArray, List.set_cons_zero, List.set_cons_succ]
      refine wpAnyH_take (i := 10) (v := ?vn10) rfl (by kernel_rfl) (by kernel_rfl) (by kernel_rfl) (fun _ _ _ h => h) (Or.inl ⟨by rfl, ?hyn10⟩) (by assumption) ?restn10
      case hyn10 => (intro w0 hSw; (try dsimp only at hSw); go_simp; try with_reducible rfl)
      case' restn10 => try simp only [Act.put, List.getElem_toArray, List.getElem_cons_zero, List.getElem_cons_succ, List.setIfInBounds_toArray, List.set_cons_zero, List.set_cons_succ]
      refine wpAnyH_take (i := 11) (v := ?vn11) rfl (by kernel_rfl) (by kernel_rfl) (by kernel_rfl) (fun _ _ _ h => h) (Or.inl ⟨by rfl, ?hyn11⟩) (by assumption) ?restn11
      case hyn11 => (intro w0 hSw; (try dsimp only at hSw); go_simp; try with_reducible rfl)
      case' restn11 => try simp only [Act.put, List.getElem_toArray, List.getElem_cons_zero, List.getElem_cons_succ, List.setIfInBounds_toArray, List.set_cons_zero, List.set_cons_succ]
      refine wpAnyH_take (i := 12) (v := ?vn12) rfl (by kernel_rfl) (by kernel_rfl) (by kernel_rfl) (fun _ _ _ h => h) (Or.inl ⟨by rfl, ?hyn12⟩) (by assumption) ?restn12
      case hyn12 => (intro w0 hSw; (try dsimp only at hSw); go_simp; try with_reducible rfl)
      case' restn12 => try simp only [Act.put, List.getElem_toArray, List.getElem_cons_zero, List.getElem_cons_succ, List.setIfInBounds_toArray, List.set_cons_zero, List.set_cons_succ]
      refine wpAnyH_ready (rs := [6]) (by kernel_rfl) (by simp) ?_
      refine AllReadyH.cons rfl (fun K hK => ?_) AllReadyH.nil
      go_simp
      refine (new_no _ kind stock limit hk).mono ?_; rintro e w1 ⟨rfl, hb⟩; subst hb
      refine hK.out _ _ (by assumption) (fun hHeld => ?_)
      clear hK K
      try simp only [Act.put, List.getElem_toArray, List.getElem_cons_zero, List.getElem_cons_succ, List.setIfInBounds_toArray, List.set_cons_zero, List.set_cons_succ]
      refine wpAnyH_ready (rs := [13]) (by kernel_rfl) (by simp) ?_
      refine AllReadyH.cons rfl (fun K hK => ?_) AllReadyH.nil
      go_simp
      refine (new_no _ kind stock limit hk).mono ?_; rintro e w1 ⟨rfl, hb⟩; subst hb
      refine hK.out _ _ (by assumption) (fun hHeld => ?_)
      clear hK K
      try simp only [Act.put, List.getElem_toArray, List.getElem_cons_zero, List.getElem_cons_succ, List.setIfInBounds_toArray, List.set_cons_zero, List.set_cons_succ]
      refine wpAnyH_take (i := 14) (v := ?vn14) rfl (by kernel_rfl) (by kernel_rfl) (by kernel_rfl) (fun _ _ _ h => h) (Or.inl ⟨by rfl, ?hyn14⟩) (by assumption) ?restn14
      case hyn14 => (intro w0 hSw; (try dsimp only at hSw); go_simp; try with_reducible rfl)
      case' restn14 => try simp only [Act.put, List.getElem_toArray, List.getElem_cons_zero, List.getElem_cons_succ, List.setIfInBounds_toArray, List.set_cons_zero, List.set_cons_succ]
      refine wpAnyH_take (i := 15) (v := ?vn15) rfl (by kernel_rfl) (by kernel_rfl) (by kernel_rfl) (fun _ _ _ h => h) (Or.inl ⟨by rfl, ?hyn15⟩) (by assumption) ?restn15
      case hyn15 => (intro w0 hSw; (try dsimp only at hSw); go_simp; try with_reducible rfl)
      case' restn15 => try simp only [Act.put, List.getElem_toArray, List.getElem_cons_zero, List.getElem_cons_succ, List.setIfInBounds_toArray, List.set_cons_zero, List.set_cons_succ]
      refine wpAnyH_done (by kernel_rfl) ?_ _
      refine NoPanic.normal ?_
      have HBx := Lib.hid (bch HB0.out (Hid.out hHeld.1) HB0.out.size)
      clear hHeld
      go_wp2_with fail
      refine (asked_true _ (HT.out.below HBx.out)).mono ?_
      rintro e w2 ⟨rfl, hb⟩
      have HB := Lib.hid (bch HBx.out hb HBx.out.size)
      clear hb
      go_wp2_with fail
      go_ret
      exact ⟨rfl, HB.out⟩
end Go.Proofs.YtkmpagijdhhinaaDoor

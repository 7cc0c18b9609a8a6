/- law16: PartyBook. -/
import Derived.Test.YtkmpagijdhhinaaDoorPartyTwo
import Derived.Test.YtkmpagijdhhinaaDoorRowsCheck
namespace Go.Proofs.YtkmpagijdhhinaaDoor
open Go.RowKit Go.Maps Key Od Pa

abbrev tFirm : TypeId := 23
theorem row_split {x y : R5} (h : x ≠ y) : ¬ x.1.1 = y.1.1 ∨ (x.1.1 = y.1.1 ∧ ¬ x.1.2 = y.1.2) ∨ (x.1.1 = y.1.1 ∧ x.1.2 = y.1.2 ∧ ¬ x.2.1 = y.2.1) ∨ (x.1.1 = y.1.1 ∧ x.1.2 = y.1.2 ∧ x.2.1 = y.2.1 ∧ ¬ x.2.2.1 = y.2.2.1) ∨ (x.1.1 = y.1.1 ∧ x.1.2 = y.1.2 ∧ x.2.1 = y.2.1 ∧ x.2.2.1 = y.2.2.1 ∧ ¬ x.2.2.2 = y.2.2.2) := by
  by_cases h1 : x.1.1 = y.1.1
  · by_cases h2 : x.1.2 = y.1.2
    · by_cases h3 : x.2.1 = y.2.1
      · by_cases h4 : x.2.2.1 = y.2.2.1
        · by_cases h5 : x.2.2.2 = y.2.2.2
          · exact absurd (Prod.ext (Prod.ext h1 h2) (Prod.ext h3 (Prod.ext h4 h5))) h
          · exact .inr (.inr (.inr (.inr ⟨h1, h2, h3, h4, h5⟩)))
        · exact .inr (.inr (.inr (.inl ⟨h1, h2, h3, h4⟩)))
      · exact .inr (.inr (.inl ⟨h1, h2, h3⟩))
    · exact .inr (.inl ⟨h1, h2⟩)
  · exact .inl h1
theorem row_cells {w W : World} {B : Nat} {A : Option Addr} {c : Nat} {l : List R5} (h : w.ownsRow B tRow 5 (.slice A l.length c) l.length (l.flatMap encR)) (hb : Below w.heap.size w W) {k : Nat} {x : R5} (hx : l[k]? = some x) : ∃ g, A = some ⟨g, 0, none⟩ ∧ W.cell? ⟨g, k * 5, none⟩ = some (.int .i64 x.1.1) ∧ W.cell? ⟨g, k * 5 + 1, none⟩ = some (.int .i64 x.1.2) ∧ W.cell? ⟨g, k * 5 + 2, none⟩ = some (.int .i64 x.2.1) ∧ W.cell? ⟨g, k * 5 + 3, none⟩ = some (.int .i64 x.2.2.1) ∧ W.cell? ⟨g, k * 5 + 4, none⟩ = some (.int .i64 x.2.2.2) := by
  obtain ⟨A', c', e, hA⟩ := own_slice h
  injection e with e1 _ e3
  subst e1; subst e3
  obtain ⟨g, rfl, _, _⟩ := hA (by have := (List.getElem?_eq_some_iff.1 hx).1; omega)
  have h' := own_keep h hb
  exact ⟨g, rfl, own_cellK encR_len (by omega) h' hx 0 (by omega), own_cellK encR_len (by omega) h' hx 1 (by omega), own_cellK encR_len (by omega) h' hx 2 (by omega), own_cellK encR_len (by omega) h' hx 3 (by omega), own_cellK encR_len (by omega) h' hx 4 (by omega)⟩
theorem drop_two {α : Type} {l m : List α} {i j : Nat} {x y : α} (hx : l[i]? = some x) (hy : m[j]? = some y) (h : List.Sublist (l.drop i) (m.drop j)) : (x = y → List.Sublist (l.drop (i + 1)) (m.drop (j + 1))) ∧ (x ≠ y → List.Sublist (l.drop i) (m.drop (j + 1))) := by
  obtain ⟨hi, rfl⟩ := List.getElem?_eq_some_iff.1 hx
  obtain ⟨hj, rfl⟩ := List.getElem?_eq_some_iff.1 hy
  rw [List.drop_eq_getElem_cons hi, List.drop_eq_getElem_cons hj] at h
  rw [List.drop_eq_getElem_cons hi]
  exact sub_step h
set_option linter.unusedSimpArgs false in
set_option linter.unusedVariables false in
set_option maxRecDepth 100000 in
set_option maxHeartbeats 4000000 in
theorem lawPartyBook_walk (w : World) (hT : PT w) (kind stock limit : Int) (v : Value) (L : List Msg6) (h : Msgs w v L) :
    Calls Tryd.prog 6 #[.agg #[.int .i64 kind, .int .i64 stock, .int .i64 limit], v] w fun e w' => e = .returned (.bool true) ∧ Below w.heap.size w w' := by
  have HX0 := Lib.hid (heap_new w (.cells #[.int .i64 kind, .int .i64 stock, .int .i64 limit] tFirm))
  have HB0 := Lib.hid (below_alloc w (.cells #[.int .i64 kind, .int .i64 stock, .int .i64 limit] tFirm))
  have HT := Lib.hid hT
  obtain ⟨A, c, rfl, hLc, hcm⟩ := h.shape
  have HS := Lib.hid h
  clear hT h
  cases hg : greatB L 60 with
  | true =>
    have HG := Lib.hid ((great_any w _ _ L 60 HS.out HB0.out).mono (fun e w' h => (⟨h.1.trans (by rw [hg]), h.2⟩ : e = .returned (.bool true) ∧ _ = w')))
    go_enter Tryd.func6, Tryd.ntmps6
    go_wp2_with fail
    refine HG.out.mono ?_
    rintro e w1 ⟨rfl, hw⟩; subst hw
    go_wp2_with fail
    refine (asked_true _ (HT.out.below HB0.out)).mono ?_
    rintro e w2 ⟨rfl, hb⟩
    have HB := Lib.hid (bch HB0.out hb HB0.out.size)
    clear hb
    go_wp2_with fail
    go_ret
    exact ⟨rfl, HB.out⟩
  | false =>
    obtain ⟨h60, hsk⟩ := great_no hg
    have HSK := Lib.hid hsk
    have HG := Lib.hid ((great_any w _ _ L 60 HS.out HB0.out).mono (fun e w' h => (⟨h.1.trans (by rw [hg]), h.2⟩ : e = .returned (.bool false) ∧ _ = w')))
    clear hsk hg
    go_enter Tryd.func6, Tryd.ntmps6
    go_wp2_with fail
    refine HG.out.mono ?_
    rintro e w1 ⟨rfl, hw⟩; subst hw
    clear HG
    generalize w.alloc (.cells #[.int .i64 kind, .int .i64 stock, .int .i64 limit] tFirm) = wa at HX0 HB0 ⊢
    obtain ⟨x0, x1, x2⟩ := cell3c HX0.out
    by_cases hk : 0 ≤ kind ∧ kind ≤ 2
    · go_wp2_with fail
      refine (Pl.new wa (HT.out.below HB0.out) kind stock limit hk).mono ?_
      rintro e wb ⟨p, bk, tk, wh, rfl, hp, _⟩
      have HP := Lib.hid hp
      have hsb := hp.sb
      clear hp x0 x1 x2
      obtain ⟨stk, hstk⟩ : ∃ z, min (max stock 0) 1000000000 = z := ⟨_, rfl⟩
      rw [hstk] at HP hsb
      have HMN := Lib.hid hstk
      clear hstk
      go_wp2_with fail
      go_loopw [6] (fun i wr => ∃ (k : Nat) (st : St), i = .int .i64 k ∧ k ≤ L.length ∧ Hid (Pl wa wr p bk tk wh kind stk limit 0 k st)) (fun i _ => L.length - (intOf i).toNat)
      case atStart => exact ⟨0, _, rfl, by omega, HP⟩
      case round =>
        clear HP
        obtain ⟨k, st, rfl, hk', HP⟩ := hrel
        by_cases hkl : k < L.length
        · obtain ⟨x, hx⟩ : ∃ x, L[k]? = some x := ⟨_, List.getElem?_eq_getElem hkl⟩
          have HC := Lib.hid (fun W (hb : Below w.heap.size w W) => msg_cells HS.out hb hx)
          have hxs := HSK.out x (List.mem_of_getElem? hx)
          have hlt : (k : Int) < L.length := by omega
          have hk0 : (0 : Int) ≤ k := by omega
          clear hx
          go_wp2_with fail
          refine (HP.out.rows (by omega)).mono ?_
          rintro e w1 ⟨v1, rfl, ho1, hb1⟩
          obtain ⟨A1, c1, rfl, _⟩ := own_slice ho1
          have HP1 := Lib.hid (HP.out.keep hb1)
          have HO1 := Lib.hid ho1
          clear ho1 hb1
          obtain ⟨g, off, n, c', e, m0, m1, m2, m3, m4, m5, m6⟩ := HC.out _ (bch HB0.out HP1.out.below HB0.out.size)
          injection e with e1 e2 e3
          subst e1; subst e2; subst e3
          obtain ⟨a0, a1, a2, a6, hsh⟩ := ansM_shape x.2.1.1 x.2.1.2 (ansS kind stk limit st (msOf x))
          go_wp2_with fail
          refine (HP1.out.tell (by omega) x hxs hsh rfl).mono ?_
          rintro e w2 ⟨rfl, hp, ht⟩
          have HP2 := Lib.hid hp
          have HO1b := Lib.hid (own_turned HO1.out ht (fun j hj => by have := HO1.out.lt j hj; have := HP.out.pa.lt; omega))
          have HSUB := Lib.hid (ask_sub kind stk limit st (msOf x))
          have hlen := ask_len kind stk limit st (msOf x)
          have HLN := Lib.hid (left_nonneg HP2.out.g hsb.1 x.2.2.1)
          clear hp ht m0 m1 m2 m3 m4 m5 m6 HP HP1 HO1
          generalize askS kind stk limit st (msOf x) = st' at HP2 HSUB hlen HLN
          clear hsh
          go_wp2_with fail
          refine (HP2.out.rows (by omega)).mono ?_
          rintro e w3 ⟨v3, rfl, ho3, hb3⟩
          obtain ⟨A3, c3, rfl, _⟩ := own_slice ho3
          have HP3 := Lib.hid (HP2.out.keep hb3)
          have HO1c := Lib.hid (own_keep HO1b.out hb3)
          have HO3 := Lib.hid ho3
          have hln3 := HP3.out.ln
          clear ho3 hb3 HP2 HO1b
          obtain ⟨x0, x1, x2⟩ := cell3c (heap_keep HX0.out HP3.out.below)
          go_wp2_with fail
          refine (rowsCheck_true w3 _ _ st'.rows kind HO3.out HP3.out.pt hk (by omega) HP3.out.g.rise HP3.out.g.key HP3.out.g.row).mono ?_
          rintro e w4 ⟨rfl, hb4⟩
          have HP4 := Lib.hid (HP3.out.keep hb4)
          have HO1d := Lib.hid (own_keep HO1c.out hb4)
          have HO4 := Lib.hid (own_keep HO3.out hb4)
          clear hb4 HP3 HO1c HO3 x0 x1 x2
          obtain ⟨g', off', n', c'', e, m0, m1, m2, m3, m4, m5, m6⟩ := HC.out _ (bch HB0.out HP4.out.below HB0.out.size)
          injection e with e1 e2 e3
          injection e1 with e1
          injection e1 with e1 e4 _
          subst e1; subst e2; subst e3; subst e4
          have hlen' : (st'.rows.length : Int) ≤ (st.rows.length : Int) + 2 := by omega
          have hl3 : (st.rows.length : Int) ≤ 1000 := by have := (List.Sublist.length_le HSUB.out); omega
          go_wp2_with fail
          refine (HP4.out.left ⟨x.2.2.1.toArray⟩ (by show x.2.2.1.toArray.size ≤ _; simp; omega)).mono ?_
          rintro e w5 ⟨rfl, hb5⟩
          have HP5 := Lib.hid (HP4.out.keep hb5)
          have HO1e := Lib.hid (own_keep HO1d.out hb5)
          have HO5 := Lib.hid (own_keep HO4.out hb5)
          have hz0 : 0 ≤ leftS kind stk st' ((⟨x.2.2.1.toArray⟩ : ByteArray).data.toList) := HLN.out.1
          generalize leftS kind stk st' ((⟨x.2.2.1.toArray⟩ : ByteArray).data.toList) = z at hz0 ⊢
          clear hb5 HP4 HO1d HO4 m0 m1 m2 m3 m4 m5 m6
          go_wp2_with fail
          go_loopw [9, 10] (fun a b wr' => ∃ i j : Nat, a = .int .i64 i ∧ b = .int .i64 j ∧ i ≤ st.rows.length ∧ j ≤ st'.rows.length ∧ Hid (List.Sublist (st.rows.drop i) (st'.rows.drop j)) ∧ Hid (Below w5.heap.size w5 wr')) (fun _ b _ => st'.rows.length - (intOf b).toNat)
          case atStart => exact ⟨0, 0, rfl, rfl, by omega, by omega, HSUB, ⟨rfl, rfl, rfl, Nat.le_refl _, fun _ _ => rfl⟩⟩
          case round =>
            obtain ⟨i, j, rfl, rfl, hi', hj', HSB, HBr⟩ := hrel
            have hi0 : (0 : Int) ≤ i := by omega
            have hj0 : (0 : Int) ≤ j := by omega
            by_cases hj : j < st'.rows.length
            · have hjlt : (j : Int) < st'.rows.length := by omega
              by_cases hi : i < st.rows.length
              · have hilt : (i : Int) < st.rows.length := by omega
                obtain ⟨xi, hxi⟩ : ∃ y, st.rows[i]? = some y := ⟨_, List.getElem?_eq_getElem hi⟩
                obtain ⟨xj, hxj⟩ : ∃ y, st'.rows[j]? = some y := ⟨_, List.getElem?_eq_getElem hj⟩
                obtain ⟨gi, rfl, i0, i1, i2, i3, i4⟩ := row_cells HO1e.out HBr.out hxi
                obtain ⟨gj, rfl, j0, j1, j2, j3, j4⟩ := row_cells HO5.out HBr.out hxj
                have HD := Lib.hid (drop_two hxi hxj HSB.out)
                clear hxi hxj HSB
                obtain ⟨⟨oi, di⟩, ci, ai, qi⟩ := xi
                obtain ⟨⟨oj, dj⟩, cj, aj, qj⟩ := xj
                simp only [] at i0 i1 i2 i3 i4 j0 j1 j2 j3 j4
                by_cases he : (((oi, di), ci, ai, qi) : R5) = ((oj, dj), cj, aj, qj)
                · have HD' := Lib.hid (HD.out.1 he)
                  simp only [Prod.mk.injEq] at he
                  obtain ⟨⟨rfl, rfl⟩, rfl, rfl, rfl⟩ := he
                  clear HD
                  go_wp2_with fail
                  go_quiet (fail)
                  go_wp2_with fail
                  go_roundw
                  case rel => exact ⟨i + 1, j + 1, by go_num, by go_num, by omega, by omega, HD', ⟨HBr.out.os, HBr.out.tape, HBr.out.output, HBr.out.size, HBr.out.block⟩⟩
                  case measure => simp [intOf]; omega
                · have HD' := Lib.hid (HD.out.2 he)
                  have hsp := row_split (fun e => he e.symm)
                  simp only [] at hsp
                  clear HD he
                  rcases hsp with h1 | ⟨rfl, h1⟩ | ⟨rfl, rfl, h1⟩ | ⟨rfl, rfl, rfl, h1⟩ | ⟨rfl, rfl, rfl, rfl, h1⟩
                  all_goals
                    have hb1 := beqF h1
                    have hb2 := bneT h1
                    clear h1
                    go_wp2_with fail
                    go_quiet (fail)
                    go_wp2_with fail
                    go_roundw
                    case rel => exact ⟨i, j + 1, by go_num, by go_num, by omega, by omega, HD', ⟨HBr.out.os, HBr.out.tape, HBr.out.output, HBr.out.size, HBr.out.block⟩⟩
                    case measure => simp [intOf]; omega
              · obtain rfl : i = st.rows.length := by omega
                have HPz := Lib.hid (HP5.out.keep HBr.out)
                go_wp2_with fail
                go_roundw
                case rel => exact ⟨k + 1, st', by go_num, by omega, HPz⟩
                case measure => simp [intOf]; omega
            · obtain rfl : j = st'.rows.length := by omega
              obtain rfl : i = st.rows.length := by
                have h1 := HSB.out.length_le
                simp at h1; omega
              have HPz := Lib.hid (HP5.out.keep HBr.out)
              go_wp2_with fail
              go_roundw
              case rel => exact ⟨k + 1, st', by go_num, by omega, HPz⟩
              case measure => simp [intOf]; omega
        · obtain rfl : k = L.length := by omega
          obtain ⟨x0, x1, x2⟩ := cell3c (heap_keep HX0.out HP.out.below)
          by_cases h1 : kind = 1
          · have hb1 : (kind != 1) = false := by rw [h1]; rfl
            clear h1
            go_wp2_with fail
            clear x0 x1 x2
            go_loopw [11] (fun i wr' => ∃ k : Nat, i = .int .i64 k ∧ k ≤ L.length ∧ Hid (Pl wa wr' p bk tk wh kind stk limit 0 L.length st)) (fun i _ => L.length - (intOf i).toNat)
            case atStart => exact ⟨0, rfl, by omega, HP⟩
            case round =>
              clear HP
              obtain ⟨k, rfl, hk', HP⟩ := hrel
              by_cases hkl : k < L.length
              · obtain ⟨x, hx⟩ : ∃ x, L[k]? = some x := ⟨_, List.getElem?_eq_getElem hkl⟩
                have HC := Lib.hid (fun W (hb : Below w.heap.size w W) => msg_cells HS.out hb hx)
                have hxs := HSK.out x (List.mem_of_getElem? hx)
                have hlt : (k : Int) < L.length := by omega
                have hk0 : (0 : Int) ≤ k := by omega
                have hsz : (⟨x.2.2.1.toArray⟩ : ByteArray).size ≤ 1000000000000 := by show x.2.2.1.toArray.size ≤ _; simp; omega
                clear hx
                obtain ⟨g, off, n, c', e, m0, m1, m2, m3, m4, m5, m6⟩ := HC.out _ (bch HB0.out HP.out.below HB0.out.size)
                injection e with e1 e2 e3
                subst e1; subst e2; subst e3
                go_wp2_with fail
                refine (may_any _ x.1 x.2.1.1 x.2.1.2 ⟨x.2.2.1.toArray⟩ x.2.2.2.1 x.2.2.2.2.1 x.2.2.2.2.2 hsz HP.out.pt).mono ?_
                rintro e wm ⟨rfl, hb⟩
                have HP1 := Lib.hid (HP.out.keep hb)
                clear hb m0 m1 m2 m3 m4 m5 m6 HP
                generalize mayB x.1 x.2.1.1 x.2.1.2 ((⟨x.2.2.1.toArray⟩ : ByteArray).data.toList) x.2.2.2.1 x.2.2.2.2.1 x.2.2.2.2.2 = mb
                cases mb with
                | false =>
                  go_wp2_with fail
                  go_roundw
                  case rel => exact ⟨k + 1, by go_num, by omega, HP1⟩
                  case measure => simp [intOf]; omega
                | true =>
                  go_wp2_with fail
                  have HXw := Lib.hid (heap_keep HX0.out HP1.out.below)
                  obtain ⟨g', off', n', c'', e, m0, m1, m2, m3, m4, m5, m6⟩ := HC.out _ (bch HB0.out HP1.out.below HB0.out.size)
                  injection e with e1 e2 e3
                  injection e1 with e1
                  injection e1 with e1 e4 _
                  subst e1; subst e2; subst e3; subst e4
                  clear m0 m1 m2 m4 m5 m6
                  have HL := Lib.hid (fun W (hb : Below wm.heap.size wm W) => ((HP1.out.keep hb).left ⟨x.2.2.1.toArray⟩ hsz))
                  have hz := left_nonneg HP1.out.g hsb.1 x.2.2.1
                  rw [show (if kind = 1 ∧ mayB 1 1 0 x.2.2.1 1 0 0 = true then stk - used st.gs x.2.2.1 else 0) = leftS kind stk st ((⟨x.2.2.1.toArray⟩ : ByteArray).data.toList) from rfl, ← HMN.out] at hz
                  rw [← HMN.out] at HL
                  generalize leftS kind (min (max stock 0) 1000000000) st ((⟨x.2.2.1.toArray⟩ : ByteArray).data.toList) = z at hz HL
                  refine wp_region_noPanic ?_
                  refine wp_region_held_drew (S := (fun w' => Hid (Below wm.heap.size wm w') ∧ w'.cell? ⟨w.heap.size, 1, none⟩ = some (.int .i64 stock) ∧ w'.cell? ⟨g, off + k * 7 + 3, none⟩ = some (.string ⟨x.2.2.1.toArray⟩))) (by kernel_rfl) ⟨(below_drew1 (Below.refl _ wm)), cell_at ((((below_drew1 (Below.refl _ wm))).block _ (heap_lt HXw.out)).trans HXw.out) 1 rfl, (Below.cell ((below_drew1 (Below.refl _ wm))) (World.block_lt_of_cell? wm _ m3)).trans m3⟩ (fun hHeld => ?_)
                  refine wpAnyH_take (i := 0) (v := ?vz0) rfl (by kernel_rfl) (by kernel_rfl) (by kernel_rfl) (fun _ _ _ h => h) (Or.inl ⟨by rfl, ?hyz0⟩) (by assumption) ?restz0
                  case hyz0 => (intro w0 hSw; (try dsimp only at hSw); go_simp; try with_reducible rfl)
                  case' restz0 => try simp only [Act.put, List.getElem_toArray, List.getElem_cons_zero, List.getElem_cons_succ, List.setIfInBounds_toArray, List.set_cons_zero, List.set_cons_succ]
                  refine wpAnyH_take (i := 1) (v := ?vz1) rfl (by kernel_rfl) (by kernel_rfl) (by kernel_rfl) (fun _ _ _ h => h) (Or.inl ⟨by rfl, ?hyz1⟩) (by assumption) ?restz1
                  case hyz1 => (intro w0 hSw; (try dsimp only at hSw); go_simp; try with_reducible rfl)
                  case' restz1 => try simp only [Act.put, List.getElem_toArray, List.getElem_cons_zero, List.getElem_cons_succ, List.setIfInBounds_toArray, List.set_cons_zero, List.set_cons_succ]
                  refine wpAnyH_take (i := 2) (v := ?vz2) rfl (by kernel_rfl) (by kernel_rfl) (by kernel_rfl) (fun _ _ _ h => h) (Or.inl ⟨by rfl, ?hyz2⟩) (by assumption) ?restz2
                  case hyz2 => (intro w0 hSw; (try dsimp only at hSw); go_simp; try with_reducible rfl)
                  case' restz2 => try simp only [Act.put, List.getElem_toArray, List.getElem_cons_zero, List.getElem_cons_succ, List.setIfInBounds_toArray, List.set_cons_zero, List.set_cons_succ]
                  refine wpAnyH_take (i := 3) (v := ?vz3) rfl (by kernel_rfl) (by kernel_rfl) (by kernel_rfl) (fun _ _ _ h => h) (Or.inl ⟨by rfl, ?hyz3⟩) (by assumption) ?restz3
                  case hyz3 => (intro w0 hSw; (try dsimp only at hSw); go_simp; try with_reducible rfl)
                  case' restz3 => try simp only [Act.put, List.getElem_toArray, List.getElem_cons_zero, List.getElem_cons_succ, List.setIfInBounds_toArray, List.set_cons_zero, List.set_cons_succ]
                  refine wpAnyH_take (i := 4) (v := ?vz4) rfl (by kernel_rfl) (by kernel_rfl) (by kernel_rfl) (fun _ _ _ h => h) (Or.inl ⟨by rfl, ?hyz4⟩) (by assumption) ?restz4
                  case hyz4 => (intro w0 hSw; (try dsimp only at hSw); go_simp; try with_reducible rfl)
                  case' restz4 => try simp only [Act.put, List.getElem_toArray, List.getElem_cons_zero, List.getElem_cons_succ, List.setIfInBounds_toArray, List.set_cons_zero, List.set_cons_succ]
                  refine wpAnyH_take (i := 5) (v := ?vz5) rfl (by kernel_rfl) (by kernel_rfl) (by kernel_rfl) (fun _ _ _ h => h) (Or.inl ⟨by rfl, ?hyz5⟩) (by assumption) ?restz5
                  case hyz5 => (intro w0 hSw; (try dsimp only at hSw); go_simp; try with_reducible rfl)
                  case' restz5 => try simp only [Act.put, List.getElem_toArray, List.getElem_cons_zero, List.getElem_cons_succ, List.setIfInBounds_toArray, List.set_cons_zero, List.set_cons_succ]
                  refine wpAnyH_take (i := 7) (v := ?vz7) rfl (by kernel_rfl) (by kernel_rfl) (by kernel_rfl) (fun _ _ _ h => h) (Or.inl ⟨by rfl, ?hyz7⟩) (by assumption) ?restz7
                  case hyz7 => (intro w0 hSw; (try dsimp only at hSw); go_simp; try with_reducible rfl)
                  case' restz7 => try simp only [Act.put, List.getElem_toArray, List.getElem_cons_zero, List.getElem_cons_succ, List.setIfInBounds_toArray, List.set_cons_zero, List.set_cons_succ]
                  refine wpAnyH_take (i := 8) (v := ?vz8) rfl (by kernel_rfl) (by kernel_rfl) (by kernel_rfl) (fun _ _ _ h => h) (Or.inl ⟨by rfl, ?hyz8⟩) (by assumption) ?restz8
                  case hyz8 => (intro w0 hSw; (try dsimp only at hSw); go_simp; try with_reducible rfl)
                  case' restz8 => try simp only [Act.put, List.getElem_toArray, List.getElem_cons_zero, List.getElem_cons_succ, List.setIfInBounds_toArray, List.set_cons_zero, List.set_cons_succ]
                  refine wpAnyH_take (i := 9) (v := ?vz9) rfl (by kernel_rfl) (by kernel_rfl) (by kernel_rfl) (fun _ _ _ h => h) (Or.inl ⟨by rfl, ?hyz9⟩) (by assumption) ?restz9
                  case hyz9 => (intro w0 hSw; (try dsimp only at hSw); go_simp; try with_reducible rfl)
                  case' restz9 => try simp only [Act.put, List.getElem_toArray, List.getElem_cons_zero, List.getElem_cons_succ, List.setIfInBounds_toArray, List.set_cons_zero, List.set_cons_succ]
                  refine wpAnyH_take (i := 10) (v := ?vz10) rfl (by kernel_rfl) (by kernel_rfl) (by kernel_rfl) (fun _ _ _ h => h) (Or.inl ⟨by rfl, ?hyz10⟩) (by assumption) ?restz10
                  case hyz10 => (intro w0 hSw; (try dsimp only at hSw); go_simp; try with_reducible rfl)
                  case' restz10 => try simp only [Act.put, List.getElem_toArray, List.getElem_cons_zero, List.getElem_cons_succ, List.setIfInBounds_toArray, List.set_cons_zero, List.set_cons_succ]
                  refine wpAnyH_ready (rs := [6]) (by kernel_rfl) (by simp) ?_
                  refine AllReadyH.cons rfl (fun K hK => ?_) AllReadyH.nil
                  go_simp
                  refine (HL.out _ (Hid.out (And.left (by assumption)))).mono ?_; rintro e w1 ⟨rfl, hb⟩
                  have hbk := bch (Hid.out (And.left (by assumption))) hb (Below.size (Hid.out (And.left (by assumption))))
                  refine hK.out _ _ ⟨hbk, cell_at (((hbk).block _ (heap_lt HXw.out)).trans HXw.out) 1 rfl, (Below.cell (hbk) (World.block_lt_of_cell? wm _ m3)).trans m3⟩ (fun hHeld => ?_)
                  clear hK K hb hbk
                  try simp only [Act.put, List.getElem_toArray, List.getElem_cons_zero, List.getElem_cons_succ, List.setIfInBounds_toArray, List.set_cons_zero, List.set_cons_succ]
                  refine wpAnyH_take (i := 11) (v := ?vz11) rfl (by kernel_rfl) (by kernel_rfl) (by kernel_rfl) (fun _ _ _ h => h) (Or.inl ⟨by rfl, ?hyz11⟩) (by assumption) ?restz11
                  case hyz11 => (intro w0 hSw; (try dsimp only at hSw); go_simp; try with_reducible rfl)
                  case' restz11 => try simp only [Act.put, List.getElem_toArray, List.getElem_cons_zero, List.getElem_cons_succ, List.setIfInBounds_toArray, List.set_cons_zero, List.set_cons_succ]
                  refine wpAnyH_done (by kernel_rfl) ?_ _
                  refine NoPanic.normal ?_
                  have HPz := Lib.hid (HP1.out.keep (Hid.out hHeld.1))
                  clear hHeld
                  go_wp2_with fail
                  go_roundw
                  case rel => exact ⟨k + 1, by go_num, by omega, HPz⟩
                  case measure => simp [intOf]; omega
              · obtain rfl : k = L.length := by omega
                go_wp2_with fail
                refine (asked_true _ HP.out.pt).mono ?_
                rintro e w2 ⟨rfl, hb⟩
                have HB := Lib.hid (bch (bch HB0.out HP.out.below HB0.out.size) hb (Nat.le_trans HB0.out.size HP.out.below.size))
                clear hb
                go_wp2_with fail
                go_ret
                exact ⟨rfl, HB.out⟩
          · have hb1 := bneT h1
            go_wp2_with fail
            refine (asked_true _ HP.out.pt).mono ?_
            rintro e w2 ⟨rfl, hb⟩
            have HB := Lib.hid (bch (bch HB0.out HP.out.below HB0.out.size) hb (Nat.le_trans HB0.out.size HP.out.below.size))
            clear hb
            go_wp2_with fail
            go_ret
            exact ⟨rfl, HB.out⟩
    · go_wp2_with fail
      refine (new_no _ kind stock limit hk).mono ?_
      rintro e w1 ⟨rfl, hw⟩; subst hw
      go_wp2_with fail
      refine (asked_true _ (HT.out.below HB0.out)).mono ?_
      rintro e w2 ⟨rfl, hb⟩
      have HB := Lib.hid (bch HB0.out hb HB0.out.size)
      clear hb
      go_wp2_with fail
      go_ret
      exact ⟨rfl, HB.out⟩
end Go.Proofs.YtkmpagijdhhinaaDoor

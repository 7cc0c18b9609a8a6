/- The law MatchFind: where any sagas and any statements differ, and what each deed comes to, is the document's. -/
import Derived.Test.YtlfibaijpimocaaDoorMatchOf2
import Derived.Test.YtlfibaijpimocaaDoorMatched
import Derived.IntWalk
namespace Go.Proofs.YtlfibaijpimocaaDoor
open Go.RowKit Go.Maps Key Rw Sa Ma

abbrev tSagasR : TypeId := 37
theorem sagaR_info : (Tryd.prog.info? tSagaR).map (fun i => (i.zero, i.size, i.bytes)) = some (some (.agg #[.int .i64 0, .string ⟨#[]⟩, .string ⟨#[]⟩, .int .i64 0, .int .i64 0, .int .i64 0, .int .i64 0, .int .i64 0, .int .i64 0, .int .i64 0, .int .i64 0, .bool false]), 12, 112) := by kernel_rfl
set_option linter.unusedSimpArgs false in
set_option linter.unusedVariables false in
set_option maxRecDepth 100000 in
set_option maxHeartbeats 16000000 in
theorem lawMatchFind_walk (w : World) (hT : PT w) (v u : Value) (l : List Sg) (hS : Sgs w v l) (hids : ∀ s ∈ l, -9223372036854775808 ≤ s.id ∧ s.id ≤ 9223372036854775807) (S : List In.Stm) (hU : Sts w u S) (deed : Int) (hd : Mon.InR deed) :
    Calls Tryd.prog 3 #[v, u, .int .i64 deed] w fun e w' => e = .returned (.bool true) ∧ Below w.heap.size w w' := by
  obtain ⟨i0, hi, hz0, hz1, hz2⟩ := info_parts sagaR_info
  obtain ⟨A0, c0, rfl, hlc, hcm0⟩ := hS.shape
  obtain ⟨A1, c1, rfl, _, hcm1⟩ := SlK.shape hU
  have HT := Lib.hid hT; have HS := Lib.hid hS; have HU := Lib.hid hU; have HID := Lib.hid hids
  clear hT hS hU hids
  have hl63 : (l.length : Int) ≤ 9223372036854775807 := by unfold maxLen at hcm0; omega
  by_cases hl : 20 < l.length
  · have hl' : (20 : Int) < l.length := by omega
    go_enter Tryd.func3, Tryd.ntmps3
    go_wp2_with fail
    refine (matched_any _ (HT.out.below (Below.refl w.heap.size w))).mono ?_
    rintro e w9 ⟨rfl, hb⟩
    have HB9 := Lib.hid (bch (Below.refl w.heap.size w) hb (Below.size (Below.refl w.heap.size w)))
    clear hb
    go_wp2_with fail
    go_ret
    exact ⟨rfl, HB9.out⟩
  · have hl' : ¬ (20 : Int) < l.length := by omega
    by_cases hg : greatB S 10 = true
    · have HG := Lib.hid (hg ▸ great_any w _ S 10 HU.out)
      clear hg
      go_enter Tryd.func3, Tryd.ntmps3
      go_wp2_with (go_at_call 8; refine (HG.out).mono ?_; rintro e w1 ⟨rfl, hb⟩; subst hb)
      refine (matched_any _ (HT.out.below (Below.refl w.heap.size w))).mono ?_
      rintro e w9 ⟨rfl, hb⟩
      have HB9 := Lib.hid (bch (Below.refl w.heap.size w) hb (Below.size (Below.refl w.heap.size w)))
      clear hb
      go_wp2_with fail
      go_ret
      exact ⟨rfl, HB9.out⟩
    · have hg' : greatB S 10 = false := by simpa using hg
      have HG := Lib.hid (hg' ▸ great_any w _ S 10 HU.out)
      clear hg hg'
      go_enter Tryd.func3, Tryd.ntmps3
      go_wp2_with (go_at_call 8; refine (HG.out).mono ?_; rintro e w1 ⟨rfl, hb⟩; subst hb)
      refine (of_any w _ S HU.out HT.out).mono ?_
      rintro e w1 ⟨vP, vR, rfl, hP, hR, hb⟩
      generalize hJ : ofI S = J at hP hR
      have HFJ := Lib.hid (hJ ▸ of_fine S)
      clear hJ
      have HP := Lib.hid hP; have HR := Lib.hid hR; have HB1 := Lib.hid hb
      obtain ⟨P0, p0, q0, P1, p1, q1, P2, p2, q2, m, rfl, _⟩ := hP
      obtain ⟨R0, r0, s0, R1, r1, s1, R2, r2, s2, rfl, _⟩ := hR
      clear hb HG
      go_upto_region 4 with (fail)
      obtain ⟨W, hW⟩ : ∃ W, W = (w1.alloc (.cells #[.int .i64 J.a.1, .int .i64 J.a.2.1, .slice P0 p0 q0, .int .i64 J.b.1, .int .i64 J.b.2.1, .slice P1 p1 q1, .int .i64 J.c.1, .int .i64 J.c.2.1, .slice P2 p2 q2, .map m] tIn)).alloc (.cells #[.int .i64 J.a.1, .int .i64 J.a.2.1, .slice R0 r0 s0, .int .i64 J.b.1, .int .i64 J.b.2.1, .slice R1 r1 s1, .int .i64 J.c.1, .int .i64 J.c.2.1, .slice R2 r2 s2] tInR) := ⟨_, rfl⟩
      rw [← hW]
      obtain ⟨hB, hX, hY⟩ := two_new w1 _ _ tIn tInR hW
      have HB := Lib.hid hB; have HBw := Lib.hid (bch HB1.out hB HB1.out.size); have HX := Lib.hid hX; have HY := Lib.hid hY; have HPW := Lib.hid (HP.out.below hB); have HRW := Lib.hid (HR.out.below hB); have HSW := Lib.hid (HS.out.keep (bch HB1.out hB HB1.out.size))
      clear hW hB hX hY HP HR HB1
      generalize hb0 : w1.heap.size = b0 at HX HY ⊢
      clear hb0 HB
      go_wp2_with fail
      go_loopw [9, 10] (fun v i wr => ∃ k : Nat, i = .int .i64 k ∧ k ≤ l.length ∧ Hid (wr.ownsRow W.heap.size tSagaR 12 v (l.take k).length ((l.take k).flatMap encS)) ∧ Hid (Below W.heap.size W wr)) (fun _ i _ => l.length - (intOf i).toNat)
      case atStart => exact ⟨0, rfl, Nat.zero_le _, World.ownsRow_nil _ _ _ _, Below.refl _ _⟩
      case round =>
        obtain ⟨k, rfl, hk, HO, HBr⟩ := hrel
        have hszr := HBr.out.size
        by_cases hkl : k < l.length
        · obtain ⟨s, hs⟩ : ∃ s, l[k]? = some s := ⟨_, List.getElem?_eq_getElem hkl⟩
          obtain ⟨g, off, n', c', e, d0, d1, d2, d3, d4, d5, d6, d7, d8, d9, d10, d11⟩ := HSW.out.cells HBr.out hs
          injection e with e1 e2 e3; subst e1; clear e2 e3
          have HSK := Lib.hid hs
          have hlt : (k : Int) < l.length := by omega
          have hk0 : (0 : Int) ≤ k := by omega
          have htk : (l.take k).length = k := by rw [List.length_take]; omega
          clear hs
          go_upto_region 9 with (at_builtin; go_loud (refine wpList_append_any _ rfl (.tmp 36) (.tmp 41) tSagasR rfl W.heap.size tSagaR i0 (.agg #[.int .i64 0, .string ⟨#[]⟩, .string ⟨#[]⟩, .int .i64 0, .int .i64 0, .int .i64 0, .int .i64 0, .int .i64 0, .int .i64 0, .int .i64 0, .int .i64 0, .bool false]) 12 112 Tryd.underlying37 hi hz0 hz1 hz2 rfl (by decide) _ _ _ rfl (World.ownsRow.alloc HO.out _) 1 (encS s) (src_blk (xs := encS s) (heap_new _ _) (encS_one _)) (by unfold maxLen; omega) (by omega) (by simp; omega) ?_; intro v2 wp ho2 hg2 hat2))
          have HO' := Lib.hid (show wp.ownsRow W.heap.size tSagaR 12 v2 (l.take (k + 1)).length ((l.take (k + 1)).flatMap encS) by rw [show l.take (k + 1) = l.take k ++ [s] by rw [List.take_add_one, HSK.out]; rfl, List.length_append, List.flatMap_append]; simpa using ho2)
          have HBp := Lib.hid (Below.grown (HBr.out.alloc HBr.out.size _) hg2 (HBr.out.alloc HBr.out.size _).size (fun j hj => (HO.out.lt j hj).1))
          have hsp := HBp.out.size
          clear ho2 hg2 hat2 d0 d1 d2 d3 d4 d5 d6 d7 d8 d9 d10 d11
          have htk1 : (l.take (k + 1)).length = k + 1 := by rw [List.length_take]; omega
          have HSO := Lib.hid (sgs_own HO'.out)
          obtain ⟨A2, c2, hv2, _⟩ := HSO.out.shape
          rw [htk1] at hv2
          subst hv2
          have hk1 : (l.take (k + 1))[k]? = some s := by rw [List.getElem?_take_of_lt (by omega)]; exact HSK.out
          have HK1 := Lib.hid hk1
          clear hk1
          have hlt1 : (k : Int) < ((k + 1 : Nat) : Int) := by omega
          go_wp2_with fail
          go_loopw [11] (fun d wq => ∃ z : Int, d = .int .i64 z ∧ -1 ≤ z ∧ z ≤ 7 ∧ Hid (Below wp.heap.size wp wq)) (fun d _ => (7 - intOf d).toNat)
          case atStart => exact ⟨-1, rfl, by omega, by omega, Below.refl _ _⟩
          case round =>
            obtain ⟨z, rfl, hz1', hz7, HBq⟩ := hrel
            have HBwq := Lib.hid (bch HBp.out HBq.out HBp.out.size)
            by_cases hz : z < 7
            · by_cases hz0' : z < 0
              · obtain ⟨g, off, n', c', e, d0, d1, d2, d3, d4, d5, d6, d7, d8, d9, d10, d11⟩ := HSW.out.cells HBwq.out HSK.out
                injection e with e1 e2 e3; injection e1 with e1; injection e1 with e1 e4 _; subst e1; subst e4; clear e2 e3
                have hne1 := bneF (rfl : (wantI s deed).1 = (wantI s deed).1)
                have hne2 := bneF (rfl : (wantI s deed).2 = (wantI s deed).2)
                go_wp2_with fail
                refine (want_any s deed _ hd).mono ?_
                rintro e w2 ⟨rfl, hb⟩
                have HBa := Lib.hid (bch HBq.out hb HBq.out.size)
                clear hb d0 d1 d2 d3 d4 d5 d6 d7 d8 d9 d10 d11
                obtain ⟨g2, off2, n2, c2', e, b0, b1, b2, b3, b4, b5, b6, b7, b8, b9, b10, b11⟩ := HSO.out.cells HBa.out HK1.out
                injection e with e1 e2 e3; subst e1; clear e2 e3
                go_wp2_with fail
                refine (refWant_any s deed _ hd).mono ?_
                rintro e w3 ⟨rfl, hb⟩
                have HBb := Lib.hid (bch HBa.out hb HBa.out.size)
                clear hb b0 b1 b2 b3 b4 b5 b6 b7 b8 b9 b10 b11
                go_wp2_with fail
                go_roundw
                case rel => exact ⟨z + 1, by go_num, by omega, by omega, HBb.out⟩
                case measure => simp [intOf]; omega
              · obtain ⟨g, off, n', c', e, d0, d1, d2, d3, d4, d5, d6, d7, d8, d9, d10, d11⟩ := HSW.out.cells HBwq.out HSK.out
                injection e with e1 e2 e3; injection e1 with e1; injection e1 with e1 e4 _; subst e1; subst e4; clear e2 e3
                have hne1 := bneF (rfl : (wantI s z).1 = (wantI s z).1)
                have hne2 := bneF (rfl : (wantI s z).2 = (wantI s z).2)
                go_wp2_with fail
                refine (want_any s z _ ⟨by omega, by omega⟩).mono ?_
                rintro e w2 ⟨rfl, hb⟩
                have HBa := Lib.hid (bch HBq.out hb HBq.out.size)
                clear hb d0 d1 d2 d3 d4 d5 d6 d7 d8 d9 d10 d11
                obtain ⟨g2, off2, n2, c2', e, b0, b1, b2, b3, b4, b5, b6, b7, b8, b9, b10, b11⟩ := HSO.out.cells HBa.out HK1.out
                injection e with e1 e2 e3; subst e1; clear e2 e3
                go_wp2_with fail
                refine (refWant_any s z _ ⟨by omega, by omega⟩).mono ?_
                rintro e w3 ⟨rfl, hb⟩
                have HBb := Lib.hid (bch HBa.out hb HBa.out.size)
                clear hb b0 b1 b2 b3 b4 b5 b6 b7 b8 b9 b10 b11
                go_wp2_with fail
                go_roundw
                case rel => exact ⟨z + 1, by go_num, by omega, by omega, HBb.out⟩
                case measure => simp [intOf]; omega
            · go_wp2_with fail
              go_roundw
              case rel => exact ⟨k + 1, by go_num, by omega, own_keep HO'.out HBq.out, HBwq.out⟩
              case measure => simp [intOf]; omega
        · obtain rfl : k = l.length := by omega
          have HBwr := Lib.hid (bch HBw.out HBr.out HBw.out.size)
          have HXr := Lib.hid (heap_keep HX.out HBr.out); have HYr := Lib.hid (heap_keep HY.out HBr.out)
          have HSE := Lib.hid (sgs_own HO.out)
          rw [List.take_length] at HSE
          obtain ⟨A2, c2, hv2, _⟩ := HSE.out.shape
          subst hv2
          have hl60 : l.length ≤ 60 := by omega
          have hfl : (findD l J).length < 10000 := by rw [(find_perm l J).length_eq]; unfold allD; rw [List.length_append]; have := sagas_len J l l.length; have := rowsD_len l (In.rowsAll J); have := preK_len HFJ.out 3; unfold preK at this; simp at this; omega
          have HFP := Lib.hid (fun W' (hb : Below wr.heap.size wr W') => find_any W' _ _ l J hl60 HID.out (HSW.out.keep (bch HBr.out hb HBr.out.size)) (HPW.out.below (bch HBr.out hb HBr.out.size)) HFJ.out (HT.out.below (bch HBwr.out hb HBwr.out.size)))
          have HFR := Lib.hid (fun W' (hb : Below wr.heap.size wr W') => refFind_any W' _ _ l J hl60 (HSE.out.keep hb) (HRW.out.below (bch HBr.out hb HBr.out.size)) HFJ.out)
          have hlt : (l.length : Int) ≤ l.length := Int.le_refl _
          go_wp2_with fail
          refine wp_region_noPanic ?_
          refine wp_region_held_drew (S := (fun w' => Hid (Below wr.heap.size wr w') ∧ w'.cell? ⟨b0, 0, none⟩ = some (.int .i64 J.a.1) ∧ w'.cell? ⟨b0, 1, none⟩ = some (.int .i64 J.a.2.1) ∧ w'.cell? ⟨b0, 2, none⟩ = some (.slice P0 p0 q0) ∧ w'.cell? ⟨b0, 3, none⟩ = some (.int .i64 J.b.1) ∧ w'.cell? ⟨b0, 4, none⟩ = some (.int .i64 J.b.2.1) ∧ w'.cell? ⟨b0, 5, none⟩ = some (.slice P1 p1 q1) ∧ w'.cell? ⟨b0, 6, none⟩ = some (.int .i64 J.c.1) ∧ w'.cell? ⟨b0, 7, none⟩ = some (.int .i64 J.c.2.1) ∧ w'.cell? ⟨b0, 8, none⟩ = some (.slice P2 p2 q2) ∧ w'.cell? ⟨b0, 9, none⟩ = some (.map m) ∧ w'.cell? ⟨b0 + 1, 0, none⟩ = some (.int .i64 J.a.1) ∧ w'.cell? ⟨b0 + 1, 1, none⟩ = some (.int .i64 J.a.2.1) ∧ w'.cell? ⟨b0 + 1, 2, none⟩ = some (.slice R0 r0 s0) ∧ w'.cell? ⟨b0 + 1, 3, none⟩ = some (.int .i64 J.b.1) ∧ w'.cell? ⟨b0 + 1, 4, none⟩ = some (.int .i64 J.b.2.1) ∧ w'.cell? ⟨b0 + 1, 5, none⟩ = some (.slice R1 r1 s1) ∧ w'.cell? ⟨b0 + 1, 6, none⟩ = some (.int .i64 J.c.1) ∧ w'.cell? ⟨b0 + 1, 7, none⟩ = some (.int .i64 J.c.2.1) ∧ w'.cell? ⟨b0 + 1, 8, none⟩ = some (.slice R2 r2 s2))) (by kernel_rfl) ⟨(below_drew1 (Below.refl _ wr)), cell_at ((((below_drew1 (Below.refl _ wr))).block _ (heap_lt HXr.out)).trans HXr.out) 0 rfl, cell_at ((((below_drew1 (Below.refl _ wr))).block _ (heap_lt HXr.out)).trans HXr.out) 1 rfl, cell_at ((((below_drew1 (Below.refl _ wr))).block _ (heap_lt HXr.out)).trans HXr.out) 2 rfl, cell_at ((((below_drew1 (Below.refl _ wr))).block _ (heap_lt HXr.out)).trans HXr.out) 3 rfl, cell_at ((((below_drew1 (Below.refl _ wr))).block _ (heap_lt HXr.out)).trans HXr.out) 4 rfl, cell_at ((((below_drew1 (Below.refl _ wr))).block _ (heap_lt HXr.out)).trans HXr.out) 5 rfl, cell_at ((((below_drew1 (Below.refl _ wr))).block _ (heap_lt HXr.out)).trans HXr.out) 6 rfl, cell_at ((((below_drew1 (Below.refl _ wr))).block _ (heap_lt HXr.out)).trans HXr.out) 7 rfl, cell_at ((((below_drew1 (Below.refl _ wr))).block _ (heap_lt HXr.out)).trans HXr.out) 8 rfl, cell_at ((((below_drew1 (Below.refl _ wr))).block _ (heap_lt HXr.out)).trans HXr.out) 9 rfl, cell_at ((((below_drew1 (Below.refl _ wr))).block _ (heap_lt HYr.out)).trans HYr.out) 0 rfl, cell_at ((((below_drew1 (Below.refl _ wr))).block _ (heap_lt HYr.out)).trans HYr.out) 1 rfl, cell_at ((((below_drew1 (Below.refl _ wr))).block _ (heap_lt HYr.out)).trans HYr.out) 2 rfl, cell_at ((((below_drew1 (Below.refl _ wr))).block _ (heap_lt HYr.out)).trans HYr.out) 3 rfl, cell_at ((((below_drew1 (Below.refl _ wr))).block _ (heap_lt HYr.out)).trans HYr.out) 4 rfl, cell_at ((((below_drew1 (Below.refl _ wr))).block _ (heap_lt HYr.out)).trans HYr.out) 5 rfl, cell_at ((((below_drew1 (Below.refl _ wr))).block _ (heap_lt HYr.out)).trans HYr.out) 6 rfl, cell_at ((((below_drew1 (Below.refl _ wr))).block _ (heap_lt HYr.out)).trans HYr.out) 7 rfl, cell_at ((((below_drew1 (Below.refl _ wr))).block _ (heap_lt HYr.out)).trans HYr.out) 8 rfl⟩ (fun hHeld => ?_)
          refine wpAnyH_take (i := 0) (v := ?v0) rfl (by kernel_rfl) (by kernel_rfl) (by kernel_rfl) (fun _ _ _ h => h) (Or.inl ⟨by rfl, ?hy0⟩) (by assumption) ?rest0
          case hy0 => (intro w0 hSw; (try dsimp only at hSw); go_simp; try with_reducible rfl)
          case' rest0 => try simp only [Act.put, List.getElem_toArray, List.getElem_cons_zero, List.getElem_cons_succ, List.setIfInBounds_toArray, List.set_cons_zero, List.set_cons_succ]
          refine wpAnyH_take (i := 1) (v := ?v1) rfl (by kernel_rfl) (by kernel_rfl) (by kernel_rfl) (fun _ _ _ h => h) (Or.inl ⟨by rfl, ?hy1⟩) (by assumption) ?rest1
          case hy1 => (intro w0 hSw; (try dsimp only at hSw); go_simp; try with_reducible rfl)
          case' rest1 => try simp only [Act.put, List.getElem_toArray, List.getElem_cons_zero, List.getElem_cons_succ, List.setIfInBounds_toArray, List.set_cons_zero, List.set_cons_succ]
          refine wpAnyH_take (i := 3) (v := ?v3) rfl (by kernel_rfl) (by kernel_rfl) (by kernel_rfl) (fun _ _ _ h => h) (Or.inl ⟨by rfl, ?hy3⟩) (by assumption) ?rest3
          case hy3 => (intro w0 hSw; (try dsimp only at hSw); go_simp; try with_reducible rfl)
          case' rest3 => try simp only [Act.put, List.getElem_toArray, List.getElem_cons_zero, List.getElem_cons_succ, List.setIfInBounds_toArray, List.set_cons_zero, List.set_cons_succ]
          refine wpAnyH_take (i := 4) (v := ?v4) rfl (by kernel_rfl) (by kernel_rfl) (by kernel_rfl) (fun _ _ _ h => h) (Or.inl ⟨by rfl, ?hy4⟩) (by assumption) ?rest4
          case hy4 => (intro w0 hSw; (try dsimp only at hSw); go_simp; try with_reducible rfl)
          case' rest4 => try simp only [Act.put, List.getElem_toArray, List.getElem_cons_zero, List.getElem_cons_succ, List.setIfInBounds_toArray, List.set_cons_zero, List.set_cons_succ]
          refine wpAnyH_ready (rs := [2]) (by kernel_rfl) (by simp) ?_
          refine AllReadyH.cons rfl (fun K hK => ?_) AllReadyH.nil
          go_simp
          refine (HFP.out _ (Hid.out (And.left (by assumption)))).mono ?_
          rintro e w2 ⟨x1, rfl, ho1, hb⟩
          have hbk := bch (Hid.out (And.left (by assumption))) hb (Below.size (Hid.out (And.left (by assumption))))
          have HO1x := Lib.hid ho1
          clear ho1
          have HFst := Lib.hid hb
          refine hK.out _ _ ⟨hbk, cell_at (((hbk).block _ (heap_lt HXr.out)).trans HXr.out) 0 rfl, cell_at (((hbk).block _ (heap_lt HXr.out)).trans HXr.out) 1 rfl, cell_at (((hbk).block _ (heap_lt HXr.out)).trans HXr.out) 2 rfl, cell_at (((hbk).block _ (heap_lt HXr.out)).trans HXr.out) 3 rfl, cell_at (((hbk).block _ (heap_lt HXr.out)).trans HXr.out) 4 rfl, cell_at (((hbk).block _ (heap_lt HXr.out)).trans HXr.out) 5 rfl, cell_at (((hbk).block _ (heap_lt HXr.out)).trans HXr.out) 6 rfl, cell_at (((hbk).block _ (heap_lt HXr.out)).trans HXr.out) 7 rfl, cell_at (((hbk).block _ (heap_lt HXr.out)).trans HXr.out) 8 rfl, cell_at (((hbk).block _ (heap_lt HXr.out)).trans HXr.out) 9 rfl, cell_at (((hbk).block _ (heap_lt HYr.out)).trans HYr.out) 0 rfl, cell_at (((hbk).block _ (heap_lt HYr.out)).trans HYr.out) 1 rfl, cell_at (((hbk).block _ (heap_lt HYr.out)).trans HYr.out) 2 rfl, cell_at (((hbk).block _ (heap_lt HYr.out)).trans HYr.out) 3 rfl, cell_at (((hbk).block _ (heap_lt HYr.out)).trans HYr.out) 4 rfl, cell_at (((hbk).block _ (heap_lt HYr.out)).trans HYr.out) 5 rfl, cell_at (((hbk).block _ (heap_lt HYr.out)).trans HYr.out) 6 rfl, cell_at (((hbk).block _ (heap_lt HYr.out)).trans HYr.out) 7 rfl, cell_at (((hbk).block _ (heap_lt HYr.out)).trans HYr.out) 8 rfl⟩ (fun hHeld => ?_)
          clear hK K hb hbk
          try simp only [Act.put, List.getElem_toArray, List.getElem_cons_zero, List.getElem_cons_succ, List.setIfInBounds_toArray, List.set_cons_zero, List.set_cons_succ]
          refine wpAnyH_ready (rs := [5]) (by kernel_rfl) (by simp) ?_
          refine AllReadyH.cons rfl (fun K hK => ?_) AllReadyH.nil
          go_simp
          refine (HFR.out _ (Hid.out (And.left (by assumption)))).mono ?_
          rintro e w5 ⟨x2, rfl, ho2, hb⟩
          have hbk := bch (Hid.out (And.left (by assumption))) hb (Below.size (Hid.out (And.left (by assumption))))
          have HO2 := Lib.hid ho2
          clear ho2
          have HO1 := Lib.hid (own_keep HO1x.out hb)
          refine hK.out _ _ ⟨hbk, cell_at (((hbk).block _ (heap_lt HXr.out)).trans HXr.out) 0 rfl, cell_at (((hbk).block _ (heap_lt HXr.out)).trans HXr.out) 1 rfl, cell_at (((hbk).block _ (heap_lt HXr.out)).trans HXr.out) 2 rfl, cell_at (((hbk).block _ (heap_lt HXr.out)).trans HXr.out) 3 rfl, cell_at (((hbk).block _ (heap_lt HXr.out)).trans HXr.out) 4 rfl, cell_at (((hbk).block _ (heap_lt HXr.out)).trans HXr.out) 5 rfl, cell_at (((hbk).block _ (heap_lt HXr.out)).trans HXr.out) 6 rfl, cell_at (((hbk).block _ (heap_lt HXr.out)).trans HXr.out) 7 rfl, cell_at (((hbk).block _ (heap_lt HXr.out)).trans HXr.out) 8 rfl, cell_at (((hbk).block _ (heap_lt HXr.out)).trans HXr.out) 9 rfl, cell_at (((hbk).block _ (heap_lt HYr.out)).trans HYr.out) 0 rfl, cell_at (((hbk).block _ (heap_lt HYr.out)).trans HYr.out) 1 rfl, cell_at (((hbk).block _ (heap_lt HYr.out)).trans HYr.out) 2 rfl, cell_at (((hbk).block _ (heap_lt HYr.out)).trans HYr.out) 3 rfl, cell_at (((hbk).block _ (heap_lt HYr.out)).trans HYr.out) 4 rfl, cell_at (((hbk).block _ (heap_lt HYr.out)).trans HYr.out) 5 rfl, cell_at (((hbk).block _ (heap_lt HYr.out)).trans HYr.out) 6 rfl, cell_at (((hbk).block _ (heap_lt HYr.out)).trans HYr.out) 7 rfl, cell_at (((hbk).block _ (heap_lt HYr.out)).trans HYr.out) 8 rfl⟩ (fun hHeld => ?_)
          clear hK K hb hbk
          try simp only [Act.put, List.getElem_toArray, List.getElem_cons_zero, List.getElem_cons_succ, List.setIfInBounds_toArray, List.set_cons_zero, List.set_cons_succ]
          refine wpAnyH_ready (rs := [6]) (by kernel_rfl) (by simp) ?_
          refine AllReadyH.cons rfl (fun K hK => ?_) AllReadyH.nil
          go_simp
          refine (sameD_any _ _ _ _ _ _ HO1.out HO2.out hfl).mono ?_
          rintro e w6 ⟨rfl, hb⟩
          have hbk := bch (Hid.out (And.left (by assumption))) hb (Below.size (Hid.out (And.left (by assumption))))
          refine hK.out _ _ ⟨hbk, cell_at (((hbk).block _ (heap_lt HXr.out)).trans HXr.out) 0 rfl, cell_at (((hbk).block _ (heap_lt HXr.out)).trans HXr.out) 1 rfl, cell_at (((hbk).block _ (heap_lt HXr.out)).trans HXr.out) 2 rfl, cell_at (((hbk).block _ (heap_lt HXr.out)).trans HXr.out) 3 rfl, cell_at (((hbk).block _ (heap_lt HXr.out)).trans HXr.out) 4 rfl, cell_at (((hbk).block _ (heap_lt HXr.out)).trans HXr.out) 5 rfl, cell_at (((hbk).block _ (heap_lt HXr.out)).trans HXr.out) 6 rfl, cell_at (((hbk).block _ (heap_lt HXr.out)).trans HXr.out) 7 rfl, cell_at (((hbk).block _ (heap_lt HXr.out)).trans HXr.out) 8 rfl, cell_at (((hbk).block _ (heap_lt HXr.out)).trans HXr.out) 9 rfl, cell_at (((hbk).block _ (heap_lt HYr.out)).trans HYr.out) 0 rfl, cell_at (((hbk).block _ (heap_lt HYr.out)).trans HYr.out) 1 rfl, cell_at (((hbk).block _ (heap_lt HYr.out)).trans HYr.out) 2 rfl, cell_at (((hbk).block _ (heap_lt HYr.out)).trans HYr.out) 3 rfl, cell_at (((hbk).block _ (heap_lt HYr.out)).trans HYr.out) 4 rfl, cell_at (((hbk).block _ (heap_lt HYr.out)).trans HYr.out) 5 rfl, cell_at (((hbk).block _ (heap_lt HYr.out)).trans HYr.out) 6 rfl, cell_at (((hbk).block _ (heap_lt HYr.out)).trans HYr.out) 7 rfl, cell_at (((hbk).block _ (heap_lt HYr.out)).trans HYr.out) 8 rfl⟩ (fun hHeld => ?_)
          clear hK K hb hbk
          try simp only [Act.put, List.getElem_toArray, List.getElem_cons_zero, List.getElem_cons_succ, List.setIfInBounds_toArray, List.set_cons_zero, List.set_cons_succ]
          refine wpAnyH_take (i := 7) (v := ?vp7) rfl (by kernel_rfl) (by kernel_rfl) (by kernel_rfl) (fun _ _ _ h => h) (Or.inl ⟨by rfl, ?hyp7⟩) (by assumption) ?restp7
          case hyp7 => (intro w0 hSw; (try dsimp only at hSw); go_simp; try with_reducible rfl)
          case' restp7 => try simp only [Act.put, List.getElem_toArray, List.getElem_cons_zero, List.getElem_cons_succ, List.setIfInBounds_toArray, List.set_cons_zero, List.set_cons_succ]
          refine wpAnyH_ready (rs := [8]) (by kernel_rfl) (by simp) ?_
          refine AllReadyH.cons rfl (fun K hK => ?_) AllReadyH.nil
          go_simp
          refine (matched_any _ (HT.out.below (bch HBwr.out (Hid.out (And.left (by assumption))) HBwr.out.size))).mono ?_
          rintro e w8 ⟨rfl, hb⟩
          have hbk := bch (Hid.out (And.left (by assumption))) hb (Below.size (Hid.out (And.left (by assumption))))
          refine hK.out _ _ ⟨hbk, cell_at (((hbk).block _ (heap_lt HXr.out)).trans HXr.out) 0 rfl, cell_at (((hbk).block _ (heap_lt HXr.out)).trans HXr.out) 1 rfl, cell_at (((hbk).block _ (heap_lt HXr.out)).trans HXr.out) 2 rfl, cell_at (((hbk).block _ (heap_lt HXr.out)).trans HXr.out) 3 rfl, cell_at (((hbk).block _ (heap_lt HXr.out)).trans HXr.out) 4 rfl, cell_at (((hbk).block _ (heap_lt HXr.out)).trans HXr.out) 5 rfl, cell_at (((hbk).block _ (heap_lt HXr.out)).trans HXr.out) 6 rfl, cell_at (((hbk).block _ (heap_lt HXr.out)).trans HXr.out) 7 rfl, cell_at (((hbk).block _ (heap_lt HXr.out)).trans HXr.out) 8 rfl, cell_at (((hbk).block _ (heap_lt HXr.out)).trans HXr.out) 9 rfl, cell_at (((hbk).block _ (heap_lt HYr.out)).trans HYr.out) 0 rfl, cell_at (((hbk).block _ (heap_lt HYr.out)).trans HYr.out) 1 rfl, cell_at (((hbk).block _ (heap_lt HYr.out)).trans HYr.out) 2 rfl, cell_at (((hbk).block _ (heap_lt HYr.out)).trans HYr.out) 3 rfl, cell_at (((hbk).block _ (heap_lt HYr.out)).trans HYr.out) 4 rfl, cell_at (((hbk).block _ (heap_lt HYr.out)).trans HYr.out) 5 rfl, cell_at (((hbk).block _ (heap_lt HYr.out)).trans HYr.out) 6 rfl, cell_at (((hbk).block _ (heap_lt HYr.out)).trans HYr.out) 7 rfl, cell_at (((hbk).block _ (heap_lt HYr.out)).trans HYr.out) 8 rfl⟩ (fun hHeld => ?_)
          clear hK K hb hbk
          try simp only [Act.put, List.getElem_toArray, List.getElem_cons_zero, List.getElem_cons_succ, List.setIfInBounds_toArray, List.set_cons_zero, List.set_cons_succ]
          refine wpAnyH_take (i := 9) (v := ?vp9) rfl (by kernel_rfl) (by kernel_rfl) (by kernel_rfl) (fun _ _ _ h => h) (Or.inl ⟨by rfl, ?hyp9⟩) (by assumption) ?restp9
          case hyp9 => (intro w0 hSw; (try dsimp only at hSw); go_simp; try with_reducible rfl)
          case' restp9 => try simp only [Act.put, List.getElem_toArray, List.getElem_cons_zero, List.getElem_cons_succ, List.setIfInBounds_toArray, List.set_cons_zero, List.set_cons_succ]
          refine wpAnyH_take (i := 10) (v := ?vp10) rfl (by kernel_rfl) (by kernel_rfl) (by kernel_rfl) (fun _ _ _ h => h) (Or.inl ⟨by rfl, ?hyp10⟩) (by assumption) ?restp10
          case hyp10 => (intro w0 hSw; (try dsimp only at hSw); go_simp; try with_reducible rfl)
          case' restp10 => try simp only [Act.put, List.getElem_toArray, List.getElem_cons_zero, List.getElem_cons_succ, List.setIfInBounds_toArray, List.set_cons_zero, List.set_cons_succ]
          refine wpAnyH_done (by kernel_rfl) ?_ _
          refine NoPanic.normal ?_
          have HX' : Hid (Below wr.heap.size wr _) := And.left (by assumption)
          have HB' := Lib.hid (bch HBwr.out HX'.out HBwr.out.size)
          go_wp2_with fail
          go_ret
          exact ⟨rfl, HB'.out⟩
end Go.Proofs.YtlfibaijpimocaaDoor

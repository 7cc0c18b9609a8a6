/- The law MatchAgree: where all rows are as the sagas say there is no difference; with one of them taken away there is just that. -/
import Derived.Test.YtlfibaijpimocaaDoorMatchAgree1
import Derived.Test.YtlfibaijpimocaaDoorRegionTill
import Derived.Test.YtlfibaijpimocaaDoorMatchDoor
import Derived.Test.YtlfibaijpimocaaDoorCards
import Derived.Test.YtlfibaijpimocaaDoorTie
import Derived.WalkKit
import Derived.ProofKit
import Derived.OpenShut
import Derived.ShutString
import Derived.ChangeOld
namespace Go.Proofs.YtlfibaijpimocaaDoor
open Go.RowKit Go.Maps Key Rw Sa Ma To Od

theorem sgs_near {w : World} {v : Value} {l : List Sg} (h : Sgs w v l) (ad : Addr) (n c : Nat) (e : v = .slice (some ad) n c) (hl : 0 < l.length) : ad.block < w.heap.size := by
  obtain ⟨⟨A, n', c', e', hl', _, _, h⟩, _⟩ := h
  obtain ⟨b, o, cs, e2, hb, _⟩ := h 0 l[0] (List.getElem?_eq_getElem hl)
  rw [e] at e'
  injection e' with e1 _ _
  rw [e2] at e1
  injection e1 with e1
  rw [e1]
  exact hb
theorem Sgs.turned {w w' : World} {v : Value} {l : List Sg} (h : Sgs w v l) {S : Nat → Prop} (ht : Turned S w w') (hS : ∀ ad n c, v = .slice (some ad) n c → 0 < l.length → ¬ S ad.block) : Sgs w' v l := by
  obtain ⟨⟨A, n, c, rfl, hl, hn, hm, hc⟩, hnil⟩ := h
  refine ⟨⟨A, n, c, rfl, hl, hn, hm, fun i x hi => ?_⟩, hnil⟩
  obtain ⟨b, o, cs, rfl, hb, hk, hcell, hr⟩ := hc i x hi
  have hp : 0 < l.length := by have := (List.getElem?_eq_some_iff.1 hi).1; omega
  refine ⟨b, o, cs, rfl, Nat.lt_of_lt_of_le hb ht.size, hk, fun j u hj => ?_, hr⟩
  have := hcell j u hj
  unfold World.cell? at this ⊢
  rw [ht.block b hb (hS _ _ _ rfl hp)]
  exact this

set_option linter.unusedSimpArgs false in
set_option linter.unusedVariables false in
set_option maxRecDepth 100000 in
set_option maxHeartbeats 16000000 in
theorem lawMatchAgree_walk (w : World) (hT : PT w) (v u : Value) (O : List Ord5) (hO : Ords w v O) (Wy : List (List Int)) (hW : Wys w u Wy) (q : Int) (hq : 0 ≤ q ∧ q ≤ 255) :
    Calls Tryd.prog 5 #[v, u, .int .u8 q] w fun e w' => e = .returned (.bool true) ∧ Below w.heap.size w w' := by
  obtain ⟨i0, hi, hz0, hz1, hz2⟩ := info_parts saga_info
  obtain ⟨r0, hr, hy0, hy1, hy2⟩ := info_parts row_info
  obtain ⟨A0, c0, rfl, _, hcm0⟩ := SlK.shape hO
  obtain ⟨A1, c1, rfl, _, hcm1⟩ := SlK.shape hW
  have HT := Lib.hid hT; have HO := Lib.hid hO; have HW := Lib.hid hW
  clear hT hO hW
  have hO63 : (O.length : Int) ≤ 9223372036854775807 := by unfold maxLen at hcm0; omega
  have hW63 : (Wy.length : Int) ≤ 9223372036854775807 := by unfold maxLen at hcm1; omega
  by_cases hl : 10 < O.length
  · have hl' : (10 : Int) < O.length := by omega
    go_enter Tryd.func5, Tryd.ntmps5
    go_wp2_with fail
    refine (matched_any _ (HT.out.below (Below.refl w.heap.size w))).mono ?_
    rintro e w9 ⟨rfl, hb⟩
    have HB9 := Lib.hid (bch (Below.refl w.heap.size w) hb (Below.size (Below.refl w.heap.size w)))
    clear hb
    go_wp2_with fail
    go_ret
    exact ⟨rfl, HB9.out⟩
  · have hl' : ¬ (10 : Int) < O.length := by omega
    by_cases hw : 10 < Wy.length
    · have hw' : (10 : Int) < Wy.length := by omega
      go_enter Tryd.func5, Tryd.ntmps5
      go_wp2_with fail
      refine (matched_any _ (HT.out.below (Below.refl w.heap.size w))).mono ?_
      rintro e w9 ⟨rfl, hb⟩
      have HB9 := Lib.hid (bch (Below.refl w.heap.size w) hb (Below.size (Below.refl w.heap.size w)))
      clear hb
      go_wp2_with fail
      go_ret
      exact ⟨rfl, HB9.out⟩
    · have hw' : ¬ (10 : Int) < Wy.length := by omega
      go_enter Tryd.func5, Tryd.ntmps5
      go_wp2_with fail
      go_loopw [7, 8] (fun v i wr => ∃ k : Nat, i = .int .i64 k ∧ k ≤ O.length ∧ Hid (wr.ownsRow w.heap.size tSaga 12 v k ((agL O Wy k).flatMap encS)) ∧ Hid (Below w.heap.size w wr) ∧ Hid (AgOk O k)) (fun _ i _ => O.length - (intOf i).toNat)
      case atStart => exact ⟨0, rfl, Nat.zero_le _, World.ownsRow_nil _ _ _ _, Below.refl _ _, AgOk.zero O⟩
      case round =>
        obtain ⟨k, rfl, hk, HV, HBr, HOK⟩ := hrel
        have hszr := HBr.out.size
        by_cases hkl : k < O.length
        · obtain ⟨o, ho⟩ : ∃ o, O[k]? = some o := ⟨_, List.getElem?_eq_getElem hkl⟩
          obtain ⟨g, off, e, d0, d1, d2, d3, d4⟩ := HO.out.at HBr.out ho
          subst e
          have HOK1 := Lib.hid ho
          have hlt : (k : Int) < O.length := by omega
          have hk0 : (0 : Int) ≤ k := by omega
          clear ho
          go_upto_region 8 with (fail)
          obtain ⟨w1, hw1⟩ : ∃ w1, w1 = wr.alloc (.cells #[.int .i64 o.1, .string ⟨o.2.1.toArray⟩, .string ⟨o.2.2.1.toArray⟩, .int .i64 o.2.2.2.1, .int .i64 o.2.2.2.2] tOrder) := ⟨_, rfl⟩
          rw [← hw1]
          have hb1 : Below wr.heap.size wr w1 := by rw [hw1]; exact below_alloc _ _
          have hx1 : w1.heap[wr.heap.size]? = some (.cells #[.int .i64 o.1, .string ⟨o.2.1.toArray⟩, .string ⟨o.2.2.1.toArray⟩, .int .i64 o.2.2.2.1, .int .i64 o.2.2.2.2] tOrder (0, 0)) := by rw [hw1]; exact heap_new _ _
          have HB1 := Lib.hid (bch HBr.out hb1 HBr.out.size)
          have HV1 := Lib.hid (own_keep HV.out hb1)
          have hfar : ∀ j, u7.ownBlock = some j → j < wr.heap.size := fun j hj => (HV.out.lt j hj).2
          obtain ⟨m0, m1, m2, m3, m4⟩ := cell5 hx1
          obtain ⟨f0, f1, f2, f3, f4⟩ := froz5 hx1
          have HX1 := Lib.hid hx1
          clear hw1 hb1 hx1 d0 d1 d2 d3 d4
          go_upto_region 9 with (fail)
          obtain ⟨w2, hw2⟩ : ∃ w2, w2 = w1.setCell ⟨wr.heap.size, 0, none⟩ (.int .i64 ((k : Int) + 1)) := ⟨_, rfl⟩
          rw [← hw2]
          have ht2 : Turned (fun j => j = wr.heap.size) w1 w2 := by rw [hw2]; exact turned_set _ _ _ _
          have HX2 := Lib.hid (show w2.heap[wr.heap.size]? = some (.cells #[.int .i64 ((k : Int) + 1), .string ⟨o.2.1.toArray⟩, .string ⟨o.2.2.1.toArray⟩, .int .i64 o.2.2.2.1, .int .i64 o.2.2.2.2] tOrder (0, 0)) by rw [hw2]; exact set5_0 HX1.out _)
          have HB2 := Lib.hid (Below.turned HB1.out ht2 (fun i h => by omega) HB1.out.size)
          have HV2 := Lib.hid (own_turned HV1.out ht2 (fun j hj hs => by have := hfar j hj; omega))
          clear hw2 ht2 HX1 HB1 HV1 hfar m0 m1 m2 m3 m4 f0 f1 f2 f3 f4
          obtain ⟨m0, m1, m2, m3, m4⟩ := cell5 HX2.out
          go_wp2_with fail
          refine (ocheck_any w2 ((k : Int) + 1) o.2.2.2.1 o.2.2.2.2 o.2.1 o.2.2.1).mono ?_
          rintro e w3 ⟨rfl, hb⟩
          have HX3 := Lib.hid (heap_keep HX2.out hb)
          have HB3 := Lib.hid (bch HB2.out hb HB2.out.size)
          have HV3 := Lib.hid (own_keep HV2.out hb)
          clear hb m0 m1 m2 m3 m4 HX2 HB2 HV2
          by_cases hc : codeO ((k : Int) + 1) o.2.1 o.2.2.1 o.2.2.2.1 o.2.2.2.2 = 0
          · have HOK2 := Lib.hid (HOK.out.succ HOK1.out hc)
            have hn0 := bneF hc
            clear hc
            by_cases hkw : k < Wy.length
            · obtain ⟨l, hl2⟩ : ∃ l, Wy[k]? = some l := ⟨_, List.getElem?_eq_getElem hkw⟩
              have HWK := Lib.hid (show (Wy[k]?).getD [] = l by rw [hl2]; rfl)
              obtain ⟨g2, off2, x, e, a0, hby⟩ := HW.out.at HB3.out hl2
              subst e
              have HBY := Lib.hid hby
              obtain ⟨Ax, cx, rfl, _⟩ := SlK.shape hby
              clear hby hl2
              have hkw' : (k : Int) < Wy.length := by omega
              obtain ⟨m0, m1, m2, m3, m4⟩ := cell5 HX3.out
              go_wp2_with fail
              refine (went_any ((k : Int) + 1) o.2.1 o.2.2.1 o.2.2.2.1 o.2.2.2.2 _ l w3 HBY.out).mono ?_
              rintro e w4 ⟨rfl, hb⟩
              have HB4 := Lib.hid (bch HB3.out hb HB3.out.size)
              have HV4 := Lib.hid (own_keep HV3.out hb)
              clear hb m0 m1 m2 m3 m4 HX3 HB3 HV3
              rw [show wentI ((k : Int) + 1) o.2.1 o.2.2.1 o.2.2.2.1 o.2.2.2.2 l = sgO o k ((Wy[k]?).getD []) by rw [HWK.out]; rfl]
              have HSU := Lib.hid (show agL O Wy (k + 1) = agL O Wy k ++ [sgO o k ((Wy[k]?).getD [])] from agL_succ HOK1.out)
              generalize sgO o k ((Wy[k]?).getD []) = s at HSU ⊢
              go_wp2_with (at_builtin; go_loud (refine wpList_append_any _ rfl (.tmp 53) (.tmp 57) tSagas rfl w.heap.size tSaga i0 (.agg #[.int .i64 0, .string ⟨#[]⟩, .string ⟨#[]⟩, .int .i64 0, .int .i64 0, .int .i64 0, .int .i64 0, .int .i64 0, .int .i64 0, .int .i64 0, .int .i64 0, .bool false]) 12 112 Tryd.underlying22 hi hz0 hz1 hz2 rfl (by decide) _ _ _ rfl (World.ownsRow.alloc HV4.out _) 1 (encS s) (src_blk (xs := encS s) (heap_new _ _) (encS_one _)) (by unfold maxLen; omega) (by omega) (by have := HB4.out.size; simp; omega) ?_; intro v2 wp ho2 hg2 hat2))
              have HV' := Lib.hid (show wp.ownsRow w.heap.size tSaga 12 v2 (k + 1) ((agL O Wy (k + 1)).flatMap encS) by rw [HSU.out, List.flatMap_append]; simpa using ho2)
              have HB' := Lib.hid (Below.grown (HB4.out.alloc HB4.out.size _) hg2 (HB4.out.alloc HB4.out.size _).size (fun j hj => (HV4.out.lt j hj).1))
              clear ho2 hg2 hat2 HV4 HB4
              go_roundw
              case rel => exact ⟨k + 1, by go_num, by omega, HV'.out, HB'.out, HOK2.out⟩
              case measure => simp [intOf]; omega
            · have HWK := Lib.hid (show (Wy[k]?).getD [] = [] by rw [List.getElem?_eq_none (by omega)]; rfl)
              have hkw' : ¬ (k : Int) < Wy.length := by omega
              obtain ⟨m0, m1, m2, m3, m4⟩ := cell5 HX3.out
              go_wp2_with fail
              refine (went_any ((k : Int) + 1) o.2.1 o.2.2.1 o.2.2.2.1 o.2.2.2.2 _ [] w3 (Bys.nil _)).mono ?_
              rintro e w4 ⟨rfl, hb⟩
              have HB4 := Lib.hid (bch HB3.out hb HB3.out.size)
              have HV4 := Lib.hid (own_keep HV3.out hb)
              clear hb m0 m1 m2 m3 m4 HX3 HB3 HV3
              rw [show wentI ((k : Int) + 1) o.2.1 o.2.2.1 o.2.2.2.1 o.2.2.2.2 [] = sgO o k ((Wy[k]?).getD []) by rw [HWK.out]; rfl]
              have HSU := Lib.hid (show agL O Wy (k + 1) = agL O Wy k ++ [sgO o k ((Wy[k]?).getD [])] from agL_succ HOK1.out)
              generalize sgO o k ((Wy[k]?).getD []) = s at HSU ⊢
              go_wp2_with (at_builtin; go_loud (refine wpList_append_any _ rfl (.tmp 53) (.tmp 57) tSagas rfl w.heap.size tSaga i0 (.agg #[.int .i64 0, .string ⟨#[]⟩, .string ⟨#[]⟩, .int .i64 0, .int .i64 0, .int .i64 0, .int .i64 0, .int .i64 0, .int .i64 0, .int .i64 0, .int .i64 0, .bool false]) 12 112 Tryd.underlying22 hi hz0 hz1 hz2 rfl (by decide) _ _ _ rfl (World.ownsRow.alloc HV4.out _) 1 (encS s) (src_blk (xs := encS s) (heap_new _ _) (encS_one _)) (by unfold maxLen; omega) (by omega) (by have := HB4.out.size; simp; omega) ?_; intro v2 wp ho2 hg2 hat2))
              have HV' := Lib.hid (show wp.ownsRow w.heap.size tSaga 12 v2 (k + 1) ((agL O Wy (k + 1)).flatMap encS) by rw [HSU.out, List.flatMap_append]; simpa using ho2)
              have HB' := Lib.hid (Below.grown (HB4.out.alloc HB4.out.size _) hg2 (HB4.out.alloc HB4.out.size _).size (fun j hj => (HV4.out.lt j hj).1))
              clear ho2 hg2 hat2 HV4 HB4
              go_roundw
              case rel => exact ⟨k + 1, by go_num, by omega, HV'.out, HB'.out, HOK2.out⟩
              case measure => simp [intOf]; omega
          · have hn0 := bneT hc
            generalize codeO ((k : Int) + 1) o.2.1 o.2.2.1 o.2.2.2.1 o.2.2.2.2 = cc at hn0 ⊢
            clear hc
            go_wp2_with fail
            refine (matched_any _ (HT.out.below HB3.out)).mono ?_
            rintro e w9 ⟨rfl, hb⟩
            have HB9 := Lib.hid (bch HB3.out hb (Below.size HB3.out))
            clear hb
            go_wp2_with fail
            go_ret
            exact ⟨rfl, HB9.out⟩
        · obtain rfl : k = O.length := by omega
          have HN := Lib.hid (agL_numd Wy (by omega) (Nat.le_refl _) HOK.out)
          have hlen := agL_len O Wy O.length
          generalize agL O Wy O.length = L at HV HN hlen
          rw [← hlen] at HV
          have HS := Lib.hid (sgs_own HV.out)
          obtain ⟨A2, c2, hv2, _⟩ := HS.out.shape
          rw [hlen] at hv2
          subst hv2
          skip
          have hk' : ¬ (O.length : Int) < O.length := by omega
          go_wp2_with fail
          refine (told_any wr _ L HS.out (HT.out.below HBr.out) HN.out).mono ?_
          rintro e w1 ⟨vP, rfl, hP, hb⟩
          have HP := Lib.hid hP
          obtain ⟨P0, Pn0, Pc0, P1, Pn1, Pc1, P2, Pn2, Pc2, m, rfl, _⟩ := hP
          have HB1 := Lib.hid (bch HBr.out hb HBr.out.size)
          have HS1 := Lib.hid (HS.out.keep hb)
          clear hb
          go_upto_region 16 with (fail)
          obtain ⟨W, hW'⟩ : ∃ W, W = w1.alloc (.cells #[.int .i64 (toldI L).a.1, .int .i64 (toldI L).a.2.1, .slice P0 Pn0 Pc0, .int .i64 (toldI L).b.1, .int .i64 (toldI L).b.2.1, .slice P1 Pn1 Pc1, .int .i64 (toldI L).c.1, .int .i64 (toldI L).c.2.1, .slice P2 Pn2 Pc2, .map m] tIn) := ⟨_, rfl⟩
          rw [← hW']
          have hbW : Below w1.heap.size w1 W := by rw [hW']; exact below_alloc _ _
          have HX := Lib.hid (show W.heap[w1.heap.size]? = some (.cells #[.int .i64 (toldI L).a.1, .int .i64 (toldI L).a.2.1, .slice P0 Pn0 Pc0, .int .i64 (toldI L).b.1, .int .i64 (toldI L).b.2.1, .slice P1 Pn1 Pc1, .int .i64 (toldI L).c.1, .int .i64 (toldI L).c.2.1, .slice P2 Pn2 Pc2, .map m] tIn (0, 0)) by rw [hW']; exact heap_new _ _)
          have HPW := Lib.hid (HP.out.below hbW); have HAV := Lib.hid (Av.far HP.out (Nat.le_refl w1.heap.size)); have HBW := Lib.hid (bch HB1.out hbW HB1.out.size); have HSW := Lib.hid (HS1.out.keep hbW); have HSN := Lib.hid (sgs_near HS1.out)
          have hwb1 : w.heap.size ≤ w1.heap.size := HB1.out.size
          clear hW' hbW HP HB1 HS1 HS HV
          generalize w1.heap.size = b11 at HX HAV HSN hwb1 ⊢
          have hl60 : L.length ≤ 60 := by omega
          have HID := Lib.hid (fun s (hs : s ∈ L) => (show -9223372036854775808 ≤ s.id ∧ s.id ≤ 9223372036854775807 by have := HN.out.id hs; omega))
          have hO0 : (0 : Int) ≤ O.length := by omega
          obtain ⟨i0', i1', i2', i3', i4', i5', i6', i7', i8', i9'⟩ := cell10 HX.out
          go_wp2_with fail
          refine (find_any W _ _ L (toldI L) hl60 HID.out HSW.out HPW.out (told_fine HN.out) (HT.out.below HBW.out)).mono ?_
          rintro e w2 ⟨v2, rfl, ho, hb⟩
          rw [told_none HN.out] at ho
          obtain ⟨A3, c3, rfl⟩ := row_none ho
          have HX2 := Lib.hid (heap_keep HX.out hb); have HP2 := Lib.hid (HPW.out.below hb); have HB2 := Lib.hid (bch HBW.out hb HBW.out.size); have HS2 := Lib.hid (HSW.out.keep hb)
          clear ho hb i0' i1' i2' i3' i4' i5' i6' i7' i8' i9' HX HPW HBW HSW
          obtain ⟨i0', i1', i2', i3', i4', i5', i6', i7', i8', i9'⟩ := cell10 HX2.out
          go_wp2_with fail
          obtain ⟨p, hp⟩ : ∃ p, q % 3 = p := ⟨_, rfl⟩
          have hp3 : p = 0 ∨ p = 1 ∨ p = 2 := by omega
          rw [hp]
          clear hp
          have hnw := newest_any w2 _ (toldI L) p (by omega) (by omega) HP2.out (told_fine HN.out)
          rw [told_at L hp3] at hnw
          refine hnw.mono ?_
          clear hnw
          rintro e w3 ⟨An, cn, rfl, hR, _, hb⟩
          simp only [show (stmP p L).1 = p from rfl, show (stmP p L).2.1 = 1 from rfl, show (stmP p L).2.2 = rowsP p L from rfl] at hR ⊢
          have HR := Lib.hid hR; have HX3 := Lib.hid (heap_keep HX2.out hb); have HP3 := Lib.hid (HP2.out.below hb); have HB3 := Lib.hid (bch HB2.out hb HB2.out.size); have HS3 := Lib.hid (HS2.out.keep hb)
          clear hR hb i0' i1' i2' i3' i4' i5' i6' i7' i8' i9' HX2 HP2 HB2 HS2
          go_upto_region 20 with (fail)
          obtain ⟨w4, hw4⟩ : ∃ w4, w4 = w3.alloc (.cells #[.int .i64 p, .int .i64 1, .slice An (rowsP p L).length cn] tStat) := ⟨_, rfl⟩
          rw [← hw4]
          have hb4 : Below w3.heap.size w3 w4 := by rw [hw4]; exact below_alloc _ _
          have HY4 := Lib.hid (show w4.heap[w3.heap.size]? = some (.cells #[.int .i64 p, .int .i64 1, .slice An (rowsP p L).length cn] tStat (0, 0)) by rw [hw4]; exact heap_new _ _)
          have HX4 := Lib.hid (heap_keep HX3.out hb4); have HP4 := Lib.hid (HP3.out.below hb4); have HB4 := Lib.hid (bch HB3.out hb4 HB3.out.size); have HS4 := Lib.hid (HS3.out.keep hb4); have HR4 := Lib.hid (HR.out.keep hb4); have HNR := Lib.hid (rd_near HR.out)
          have hbb : b11 < w3.heap.size := heap_lt HX3.out
          have hwb : w.heap.size ≤ w3.heap.size := HB3.out.size
          have H34 := Lib.hid hb4
          clear hw4 hb4 HR
          obtain ⟨b14, hb14⟩ : ∃ b14, w3.heap.size = b14 := ⟨_, rfl⟩
          rw [hb14] at HY4 HNR hbb hwb ⊢
          have H14 := Lib.hid hb14
          clear hb14
          obtain ⟨k0, k1, k2⟩ := cell3c HY4.out
          by_cases hz : (rowsP p L).length = 0
          · have hz1 := beqT (show ((rowsP p L).length : Int) = 0 by omega)
            go_wp2_with fail
            refine (matched_any _ (HT.out.below HB4.out)).mono ?_
            rintro e w9 ⟨rfl, hb⟩
            have HB9 := Lib.hid (bch HB4.out hb (Below.size HB4.out))
            clear hb
            go_wp2_with fail
            go_ret
            exact ⟨rfl, HB9.out⟩
          · have hz1 := beqF (show ¬ ((rowsP p L).length : Int) = 0 by omega)
            have hz2 : (0 : Int) < (rowsP p L).length := by omega
            have hlr : (rowsP p L).length ≤ 60 := by have := rowsP_len p L; have := HN.out.len; omega
            go_upto_region 23 with (fail)
            obtain ⟨kk, hkk, hkl2⟩ : ∃ kk : Nat, q / 3 % ((rowsP p L).length : Int) = (kk : Int) ∧ kk < (rowsP p L).length := ⟨(q / 3 % ((rowsP p L).length : Int)).toNat, by have := Int.emod_nonneg (q / 3) (b := ((rowsP p L).length : Int)) (by omega); omega, by have := Int.emod_nonneg (q / 3) (b := ((rowsP p L).length : Int)) (by omega); have := Int.emod_lt_of_pos (q / 3) hz2; omega⟩
            rw [hkk]
            clear hkk
            obtain ⟨g0, hg0⟩ : ∃ g0, (rowsP p L)[kk]? = some g0 := ⟨_, List.getElem?_eq_getElem hkl2⟩
            obtain ⟨g, off, cs, hA, hgl, hcl, hcell, hcs⟩ := SlK.at HR4.out.1 hg0
            subst hcs
            subst hA
            have d0 := hcell 0 _ rfl
            have d1 := hcell 1 _ rfl
            rw [Nat.add_zero] at d0
            have hgb : g < b14 := HNR.out _ _ _ rfl (by omega)
            have hkI : (kk : Int) < (rowsP p L).length := by omega
            have hk0' : (0 : Int) ≤ kk := by omega
            clear hcell hcl
            have HG := Lib.hid (gone_find hp3 HN.out hg0)
            have HGA := Lib.hid (gone_acc hp3 HN.out kk)
            have hcap : (rowsP p L).length ≤ cn ∧ cn ≤ maxLen := by obtain ⟨A', c', e, h1, h2⟩ := HR4.out.shape; injection e with e1 e2 e3; subst e3; exact ⟨h1, h2⟩
            have HG0 := Lib.hid hg0
            clear hg0
            go_upto_region 24 with (fail)
            obtain ⟨w5, hw5⟩ : ∃ w5, w5 = w4.alloc (.cells #[.int .i64 g0.1.1, .int .i64 g0.1.2] tKey) := ⟨_, rfl⟩
            rw [← hw5]
            have hb5 : Below w4.heap.size w4 w5 := by rw [hw5]; exact below_alloc _ _
            have HZ5 := Lib.hid (show w5.heap[w4.heap.size]? = some (.cells #[.int .i64 g0.1.1, .int .i64 g0.1.2] tKey (0, 0)) by rw [hw5]; exact heap_new _ _)
            have HY5 := Lib.hid (heap_keep HY4.out hb5); have HX5 := Lib.hid (heap_keep HX4.out hb5); have HP5 := Lib.hid (HP4.out.below hb5); have HB5 := Lib.hid (bch HB4.out hb5 HB4.out.size); have HS5 := Lib.hid (HS4.out.keep hb5); have H35 := Lib.hid (bch H34.out hb5 H34.out.size); have HR5 := Lib.hid (HR4.out.keep hb5)
            have hbz : b14 < w4.heap.size := heap_lt HY4.out
            have hwz : w.heap.size ≤ w4.heap.size := HB4.out.size
            clear hw5 hb5 HY4 HX4 HP4 HB4 HS4 HR4 k0 k1 k2 d0 d1
            generalize w4.heap.size = b16 at HZ5 hbz hwz ⊢
            obtain ⟨k0, k1, k2⟩ := cell3c HY5.out
            have HH := Lib.hid (fun W (hb : Below w5.heap.size w5 W) => (⟨Lib.hid hb, cell_at ((hb.block _ (heap_lt HY5.out)).trans HY5.out) 2 rfl⟩ : (fun w' => Hid (Below w5.heap.size w5 w') ∧ w'.cell? ⟨b14, 2, none⟩ = some (.slice (some ⟨g, off, none⟩) (rowsP p L).length cn)) W))
            have hcI : ((rowsP p L).length : Int) ≤ cn := by omega
            have hkc : (kk : Int) ≤ cn := by omega
            have hk1 : (kk : Int) + 1 ≤ (rowsP p L).length := by omega
            have hk1c : (kk : Int) + 1 ≤ cn := by omega
            have hk10 : (0 : Int) ≤ (kk : Int) + 1 := by omega
            have htn : ((kk : Int) + 1).toNat = kk + 1 := by omega
            have hcm : (cn : Int) ≤ 9223372036854775807 := by have := hcap.2; unfold maxLen at this; omega
            have hw1 : IntKind.i64.wrap ((kk : Int) + 1) = (kk : Int) + 1 := IntWalk.i64_in _ (by omega)
            have HTK := Lib.hid (fun W (hb : Below w5.heap.size w5 W) => (show SrcL W (.slice (some ⟨g, off, none⟩) kk cn) kk 5 (((rowsP p L).take kk).flatMap encR) by have := Rd.src (Rd.takeK (HR5.out.keep hb) (k := kk) (by omega)); rwa [List.length_take, Nat.min_eq_left (by omega)] at this))
            have HDR := Lib.hid (fun W (hb : Below w5.heap.size w5 W) => (show SrcL W (.slice (if cn = kk + 1 then some ⟨g, off, none⟩ else some ⟨g, off + (kk + 1) * 5, none⟩) ((rowsP p L).length - (kk + 1)) (cn - (kk + 1))) ((rowsP p L).length - (kk + 1)) 5 (((rowsP p L).drop (kk + 1)).flatMap encR) by have := Rd.src (Rd.dropK (HR5.out.keep hb) (k := kk + 1) (m := (rowsP p L).length - (kk + 1)) (c2 := cn - (kk + 1)) (B := if cn = kk + 1 then some ⟨g, off, none⟩ else some ⟨g, off + (kk + 1) * 5, none⟩) (by omega) rfl (by omega) (by omega) (fun h => by rw [if_neg (by omega)]) (fun h => by split at h <;> cases h)); rwa [List.length_drop] at this))
            refine wp_region_noPanic ?_
            refine wp_region_till 12 (fun _ => True) (fun w' => Hid (Below w5.heap.size w5 w') ∧ w'.cell? ⟨b14, 2, none⟩ = some (.slice (some ⟨g, off, none⟩) (rowsP p L).length cn)) (by kernel_rfl) (HH.out _ (below_drew1 (Below.refl _ w5))) (fun hHeld => ?_)
            refine wpAnyT_go (i := 0) (v := ?vt0_1) rfl (by kernel_rfl) (by kernel_rfl) (by kernel_rfl) (fun _ _ _ h => h) (by kernel_rfl) (Or.inl ⟨by rfl, ?hyt0_1⟩) (by assumption) ?restt0_1
            case hyt0_1 => (intro w0 hSw; (try dsimp only at hSw); go_simp; try with_reducible rfl)
            case' restt0_1 => try simp only [Act.put, List.getElem_toArray, List.getElem_cons_zero, List.getElem_cons_succ, List.setIfInBounds_toArray, List.set_cons_zero, List.set_cons_succ]
            refine wpAnyT_go (i := 1) (v := ?vt1_2) rfl (by kernel_rfl) (by kernel_rfl) (by kernel_rfl) (fun _ _ _ h => h) (by kernel_rfl) (Or.inl ⟨by rfl, ?hyt1_2⟩) (by assumption) ?restt1_2
            case hyt1_2 => (intro w0 hSw; (try dsimp only at hSw); go_simp; try with_reducible rfl)
            case' restt1_2 => try simp only [Act.put, List.getElem_toArray, List.getElem_cons_zero, List.getElem_cons_succ, List.setIfInBounds_toArray, List.set_cons_zero, List.set_cons_succ]
            refine wpAnyT_go (i := 2) (v := ?vt2_3) rfl (by kernel_rfl) (by kernel_rfl) (by kernel_rfl) (fun _ _ _ h => h) (by kernel_rfl) (Or.inl ⟨by rfl, ?hyt2_3⟩) (by assumption) ?restt2_3
            case hyt2_3 => (intro w0 hSw; (try dsimp only at hSw); go_simp; try with_reducible rfl)
            case' restt2_3 => try simp only [Act.put, List.getElem_toArray, List.getElem_cons_zero, List.getElem_cons_succ, List.setIfInBounds_toArray, List.set_cons_zero, List.set_cons_succ]
            refine wpAnyT_go (i := 3) (v := ?vt3_4) rfl (by kernel_rfl) (by kernel_rfl) (by kernel_rfl) (fun _ _ _ h => h) (by kernel_rfl) (Or.inl ⟨by rfl, ?hyt3_4⟩) (by assumption) ?restt3_4
            case hyt3_4 => (intro w0 hSw; (try dsimp only at hSw); go_simp; try with_reducible rfl)
            case' restt3_4 => try simp only [Act.put, List.getElem_toArray, List.getElem_cons_zero, List.getElem_cons_succ, List.setIfInBounds_toArray, List.set_cons_zero, List.set_cons_succ]
            refine wpAnyT_go (i := 5) (v := ?vt5_5) rfl (by kernel_rfl) (by kernel_rfl) (by kernel_rfl) (fun _ _ _ h => h) (by kernel_rfl) (Or.inl ⟨by rfl, ?hyt5_5⟩) (by assumption) ?restt5_5
            case hyt5_5 => (intro w0 hSw; (try dsimp only at hSw); go_simp; try with_reducible rfl)
            case' restt5_5 => try simp only [Act.put, List.getElem_toArray, List.getElem_cons_zero, List.getElem_cons_succ, List.setIfInBounds_toArray, List.set_cons_zero, List.set_cons_succ]
            refine wpAnyT_go (i := 6) (v := ?vt6_6) rfl (by kernel_rfl) (by kernel_rfl) (by kernel_rfl) (fun _ _ _ h => h) (by kernel_rfl) (Or.inl ⟨by rfl, ?hyt6_6⟩) (by assumption) ?restt6_6
            case hyt6_6 => (intro w0 hSw; (try dsimp only at hSw); go_simp; try with_reducible rfl)
            case' restt6_6 => try simp only [Act.put, List.getElem_toArray, List.getElem_cons_zero, List.getElem_cons_succ, List.setIfInBounds_toArray, List.set_cons_zero, List.set_cons_succ]
            refine wpAnyT_go (i := 7) (v := ?vt7_7) rfl (by kernel_rfl) (by kernel_rfl) (by kernel_rfl) (fun _ _ _ h => h) (by kernel_rfl) (Or.inl ⟨by rfl, ?hyt7_7⟩) (by assumption) ?restt7_7
            case hyt7_7 => (intro w0 hSw; (try dsimp only at hSw); go_simp; try with_reducible rfl)
            case' restt7_7 => try simp only [Act.put, List.getElem_toArray, List.getElem_cons_zero, List.getElem_cons_succ, List.setIfInBounds_toArray, List.set_cons_zero, List.set_cons_succ]
            refine wpAnyT_go (i := 8) (v := ?vt8_8) rfl (by kernel_rfl) (by kernel_rfl) (by kernel_rfl) (fun _ _ _ h => h) (by kernel_rfl) (Or.inl ⟨by rfl, ?hyt8_8⟩) (by assumption) ?restt8_8
            case hyt8_8 => (intro w0 hSw; (try dsimp only at hSw); go_simp; try with_reducible rfl)
            case' restt8_8 => try simp only [Act.put, List.getElem_toArray, List.getElem_cons_zero, List.getElem_cons_succ, List.setIfInBounds_toArray, List.set_cons_zero, List.set_cons_succ]
            refine wpAnyT_go (i := 9) (v := ?vt9_9) rfl (by kernel_rfl) (by kernel_rfl) (by kernel_rfl) (fun _ _ _ h => h) (by kernel_rfl) (Or.inl ⟨by rfl, ?hyt9_9⟩) (by assumption) ?restt9_9
            case hyt9_9 => (intro w0 hSw; (try dsimp only at hSw); go_simp; try with_reducible rfl)
            case' restt9_9 => try simp only [Act.put, List.getElem_toArray, List.getElem_cons_zero, List.getElem_cons_succ, List.setIfInBounds_toArray, List.set_cons_zero, List.set_cons_succ]
            refine wpAnyT_ready (rs := [4]) (by kernel_rfl) (by simp) ?_
            refine AllReadyT.cons rfl (by kernel_rfl) (fun K hK => ?_) AllReadyT.nil
            refine step_append_any _ rfl (.const (.slice none 0 0)) (.tmp 100) tRows rfl w5.heap.size tRow r0 (mkRow ((0, 0), 0, 0, 0)) 5 40 Tryd.underlying26 hr hy0 hy1 hy2 rfl (by decide) (.slice none 0 0) 0 [] rfl (World.ownsRow_nil _ _ _ _) kk (((rowsP p L).take kk).flatMap encR) (HTK.out _ (below_drew1 (Below.refl _ w5))) (by unfold maxLen; omega) (by omega) (Nat.le_refl _) ?_
            intro v6 w6 ho6 hg6 _
            have hb6 : Below w5.heap.size w5 w6 := Below.grown (below_drew1 (Below.refl _ w5)) hg6 (Nat.le_refl _) (fun j hj => by cases hj)
            refine hK.out _ _ (HH.out _ (hb6)) (fun hHeld => ?_)
            clear hK K
            try simp only [Act.put, List.getElem_toArray, List.getElem_cons_zero, List.getElem_cons_succ, List.setIfInBounds_toArray, List.set_cons_zero, List.set_cons_succ]
            refine wpAnyT_ready (rs := [10]) (by kernel_rfl) (by simp) ?_
            refine AllReadyT.cons rfl (by kernel_rfl) (fun K hK => ?_) AllReadyT.nil
            refine step_append_any _ rfl (.tmp 101) (.tmp 106) tRows rfl w5.heap.size tRow r0 (mkRow ((0, 0), 0, 0, 0)) 5 40 Tryd.underlying26 hr hy0 hy1 hy2 rfl (by decide) v6 _ _ rfl ho6 ((rowsP p L).length - (kk + 1)) (((rowsP p L).drop (kk + 1)).flatMap encR) (HDR.out _ hb6) (by unfold maxLen; omega) (by omega) hb6.size ?_
            intro v7 w7 ho7 hg7 _
            have hn7 : 0 + kk + ((rowsP p L).length - (kk + 1)) = (goneS p L kk).2.2.length := by simp only [goneS, List.length_append, List.length_take, List.length_drop]; omega
            rw [hn7] at ho7
            obtain ⟨A7, c7, rfl, _⟩ := own_slice ho7
            have hb7 : Below w5.heap.size w5 w7 := Below.grown hb6 hg7 hb6.size (fun j hj => (ho6.lt _ hj).1)
            refine hK.out _ _ (HH.out _ (hb7)) (fun hHeld => ?_)
            clear hK K
            try simp only [Act.put, List.getElem_toArray, List.getElem_cons_zero, List.getElem_cons_succ, List.setIfInBounds_toArray, List.set_cons_zero, List.set_cons_succ]
            refine wpAnyT_go (i := 11) (v := ?vt11_10) rfl (by kernel_rfl) (by kernel_rfl) (by kernel_rfl) (fun _ _ _ h => h) (by kernel_rfl) (Or.inl ⟨by rfl, ?hyt11_10⟩) (by assumption) ?restt11_10
            case hyt11_10 => (intro w0 hSw; (try dsimp only at hSw); go_simp; try with_reducible rfl)
            case' restt11_10 => try simp only [Act.put, List.getElem_toArray, List.getElem_cons_zero, List.getElem_cons_succ, List.setIfInBounds_toArray, List.set_cons_zero, List.set_cons_succ]
            have hy7 := heap_keep HY5.out hb7
            obtain ⟨y0, y1, y2⟩ := cell3c hy7
            obtain ⟨f0, f1, f2⟩ := froz3 hy7
            refine wpAnyT_ready (rs := [12]) (by kernel_rfl) (by simp) ?_
            refine AllReadyT.last rfl (by kernel_rfl) (fun K hK => ?_) AllReadyT.nil
            go_simp
            refine hK.out _ _ trivial (fun hHeld => ?_)
            clear hK K
            try simp only [Act.put, List.getElem_toArray, List.getElem_cons_zero, List.getElem_cons_succ, List.setIfInBounds_toArray, List.set_cons_zero, List.set_cons_succ]
            refine wpAnyT_done (by kernel_rfl) ?_ _
            refine NoPanic.normal ?_
            have ho8 : w7.ownsRow w5.heap.size tRow 5 (.slice A7 (goneS p L kk).2.2.length c7) (goneS p L kk).2.2.length ((goneS p L kk).2.2.flatMap encR) := by simpa [goneS, List.flatMap_append] using ho7
            have HO8 := Lib.hid ho8; have HB7 := Lib.hid hb7; have HY7 := Lib.hid hy7
            clear ho6 hg6 hb6 ho7 hg7 ho8 hb7 hy7 k0 k1 k2 hn7 hHeld HH HTK HDR
            generalize (if cn = kk + 1 then some (⟨g, off, none⟩ : Addr) else some ⟨g, off + (kk + 1) * 5, none⟩) = B5
            generalize hnr : (goneS p L kk).2.2.length = nr at HO8 ⊢
            go_upto_region 26 with (fail)
            obtain ⟨w8, hw8⟩ : ∃ w8, w8 = (w7.setCell ⟨b14, 2, none⟩ (.slice A7 nr c7)).setCell ⟨b14, 1, none⟩ (.int .i64 2) := ⟨_, rfl⟩
            rw [← hw8]
            have ht8 : Turned (fun j => j = b14) w7 w8 := by rw [hw8]; exact (turned_set _ _ _ _).trans (turned_set _ _ _ _)
            have HY8 := Lib.hid (show w8.heap[b14]? = some (.cells #[.int .i64 p, .int .i64 2, .slice A7 nr c7] tStat (0, 0)) by rw [hw8]; exact set3_1 (set3_2 HY7.out _) _)
            have H37 := bch H35.out HB7.out H35.out.size
            have H38 := Lib.hid (Below.turned H37 ht8 (fun i h => by have := H14.out; omega) H37.size)
            have h57 := bch HB5.out HB7.out HB5.out.size
            have HB8 := Lib.hid (Below.turned h57 ht8 (fun i h => by omega) h57.size)
            have hb14 : b14 < w5.heap.size := by have := heap_lt HZ5.out; omega
            have HRD := Lib.hid (show Rd w8 (.slice A7 nr c7) (goneS p L kk).2.2 from rd_own (by rw [hnr]; exact own_turned HO8.out ht8 (fun j hj hs => by have := (HO8.out.lt j hj).1; omega)))
            have HZ8 := Lib.hid (heap_turned (heap_keep HZ5.out HB7.out) ht8 (by omega))
            have HX8 := Lib.hid (heap_keep HX3.out H38.out); have HP8 := Lib.hid (HP3.out.below H38.out); have HS8 := Lib.hid (HS3.out.keep H38.out)
            clear hw8 ht8 H37 h57 y0 y1 y2 f0 f1 f2 HY7 HB7 HO8 HY5 HX5 HP5 HB5 HS5 HR5 HZ5 H35 H34
            obtain ⟨i0', i1', i2', i3', i4', i5', i6', i7', i8', i9'⟩ := cell10 HX8.out
            obtain ⟨k0, k1, k2⟩ := cell3c HY8.out
            obtain ⟨f0, f1, f2, f3, f4, f5, f6, f7, f8, f9⟩ := froz10 HX8.out
            go_wp2_with fail
            refine (accept_ok w8 _ (toldI L) (goneS p L kk) _ HP8.out HRD.out (HT.out.below HB8.out) (told_fine HN.out) HGA.out.1).mono ?_
            rintro e wc ⟨vc, rfl, hv, hav, hb⟩
            rw [HGA.out.2] at hv hav
            have HFJ := Lib.hid (gone_tells hp3 HN.out kk).fine
            have HFJ := Lib.hid (gone_tells hp3 HN.out kk).fine
            generalize (toldI L).put p (goneS p L kk) = J at hv hav HFJ HG
            have HV9 := Lib.hid hv
            obtain ⟨C0, Cn0, Cc0, C1, Cn1, Cc1, C2, Cn2, Cc2, m1, rfl, _⟩ := hv
            have HAJ := Lib.hid (hav b11 (heap_lt HX8.out) HAV.out)
            have HX9 := Lib.hid (heap_keep HX8.out hb); have HZ9 := Lib.hid (heap_keep HZ8.out hb); have HS9 := Lib.hid (HS8.out.keep hb); have HB9 := Lib.hid (bch HB8.out hb HB8.out.size)
            clear hb hav i0' i1' i2' i3' i4' i5' i6' i7' i8' i9' k0 k1 k2 f0 f1 f2 f3 f4 f5 f6 f7 f8 f9 HX8 HZ8 HS8 HB8 HY8 HP8 HRD H38
            obtain ⟨m0, m1', m2, m3, m4, m5, m6, m7, m8, m9⟩ := cell10 HX9.out
            obtain ⟨f0, f1, f2, f3, f4, f5, f6, f7, f8, f9⟩ := froz10 HX9.out
            go_upto_region 27 with (fail)
            obtain ⟨wd, hwd⟩ : ∃ wd, wd = set10w wc b11 (.int .i64 J.a.1) (.int .i64 J.a.2.1) (.slice C0 Cn0 Cc0) (.int .i64 J.b.1) (.int .i64 J.b.2.1) (.slice C1 Cn1 Cc1) (.int .i64 J.c.1) (.int .i64 J.c.2.1) (.slice C2 Cn2 Cc2) (.map m1) := ⟨_, rfl⟩
            rw [show (((((((((wc.setCell ⟨b11, 0, none⟩ (.int .i64 J.a.1)).setCell ⟨b11, 1, none⟩ (.int .i64 J.a.2.1)).setCell ⟨b11, 2, none⟩ (.slice C0 Cn0 Cc0)).setCell ⟨b11, 3, none⟩ (.int .i64 J.b.1)).setCell ⟨b11, 4, none⟩ (.int .i64 J.b.2.1)).setCell ⟨b11, 5, none⟩ (.slice C1 Cn1 Cc1)).setCell ⟨b11, 6, none⟩ (.int .i64 J.c.1)).setCell ⟨b11, 7, none⟩ (.int .i64 J.c.2.1)).setCell ⟨b11, 8, none⟩ (.slice C2 Cn2 Cc2)).setCell ⟨b11, 9, none⟩ (.map m1) = wd from hwd.symm]
            have htd : Turned (fun j => j = b11) wc wd := by rw [hwd]; exact turned_set10 _ _ _ _ _ _ _ _ _ _ _ _
            have HXd := Lib.hid (show wd.heap[b11]? = some (.cells #[.int .i64 J.a.1, .int .i64 J.a.2.1, .slice C0 Cn0 Cc0, .int .i64 J.b.1, .int .i64 J.b.2.1, .slice C1 Cn1 Cc1, .int .i64 J.c.1, .int .i64 J.c.2.1, .slice C2 Cn2 Cc2, .map m1] tIn (0, 0)) by rw [hwd]; exact set10 HX9.out _ _ _ _ _ _ _ _ _ _)
            have HPd := Lib.hid (HV9.out.turned htd (fun b hb => by rw [hb]; exact HAJ.out))
            have HZd := Lib.hid (heap_turned HZ9.out htd (by omega))
            have HSd := Lib.hid (HS9.out.turned htd (fun ad n c e hl hs => by have := HSN.out ad n c e hl; omega))
            have HBd := Lib.hid (Below.turned HB9.out htd (fun i h => by omega) HB9.out.size)
            clear hwd htd HX9 HZ9 HS9 HB9 HV9 m0 m1' m2 m3 m4 m5 m6 m7 m8 m9 f0 f1 f2 f3 f4 f5 f6 f7 f8 f9
            obtain ⟨m0, m1', m2, m3, m4, m5, m6, m7, m8, m9⟩ := cell10 HXd.out
            go_wp2_with fail
            refine (find_any wd _ _ L J hl60 HID.out HSd.out HPd.out HFJ.out (HT.out.below HBd.out)).mono ?_
            rintro e we ⟨ve, rfl, hof, hb⟩
            rw [HG.out] at hof
            obtain ⟨_, h0⟩ | ⟨ge, ce, rfl, _, _, _⟩ := own_ptr hof
            · cases h0
            have HZe := Lib.hid (heap_keep HZd.out hb); have HBe := Lib.hid (bch HBd.out hb HBd.out.size)
            clear hb m0 m1' m2 m3 m4 m5 m6 m7 m8 m9
            have d0 := own_cellK encD_len (by decide) hof (i := 0) rfl 0 (by decide)
            have d1 := own_cellK encD_len (by decide) hof (i := 0) rfl 1 (by decide)
            have d2 := own_cellK encD_len (by decide) hof (i := 0) rfl 2 (by decide)
            simp only [encD, List.getElem?_cons_zero, List.getElem?_cons_succ, Nat.zero_mul, Nat.zero_add] at d0 d1 d2
            obtain ⟨z0, z1, _, _⟩ := cell2 HZe.out
            clear hof
            go_wp2_with fail
            refine wp_region_noPanic ?_
            refine wp_region_held_drew (S := (fun w' => Hid (Below we.heap.size we w') ∧ w'.cell? ⟨ge, 0, none⟩ = some (.int .i64 g0.1.1) ∧ w'.cell? ⟨ge, 1, none⟩ = some (.int .i64 g0.1.2) ∧ w'.cell? ⟨ge, 2, none⟩ = some (.int .i64 2) ∧ w'.cell? ⟨b16, 0, none⟩ = some (.int .i64 g0.1.1) ∧ w'.cell? ⟨b16, 1, none⟩ = some (.int .i64 g0.1.2))) (by kernel_rfl) ⟨(below_drew1 (Below.refl _ we)), (((below_drew1 (Below.refl _ we))).cell (World.block_lt_of_cell? _ _ d0)).trans d0, (((below_drew1 (Below.refl _ we))).cell (World.block_lt_of_cell? _ _ d1)).trans d1, (((below_drew1 (Below.refl _ we))).cell (World.block_lt_of_cell? _ _ d2)).trans d2, (((below_drew1 (Below.refl _ we))).cell (World.block_lt_of_cell? _ _ z0)).trans z0, (((below_drew1 (Below.refl _ we))).cell (World.block_lt_of_cell? _ _ z1)).trans z1⟩ (fun hHeld => ?_)
            refine wpAnyH_take (i := 0) (v := ?vz0) rfl (by kernel_rfl) (by kernel_rfl) (by kernel_rfl) (fun _ _ _ h => h) (Or.inl ⟨by rfl, ?hyz0⟩) (by assumption) ?restz0
            case hyz0 => (intro w0 hSw; (try dsimp only at hSw); go_simp; try with_reducible rfl)
            case' restz0 => try simp only [Act.put, List.getElem_toArray, List.getElem_cons_zero, List.getElem_cons_succ, List.setIfInBounds_toArray, List.set_cons_zero, List.set_cons_succ]
            refine wpAnyH_take (i := 1) (v := ?vz1) rfl (by kernel_rfl) (by kernel_rfl) (by kernel_rfl) (fun _ _ _ h => h) (Or.inl ⟨by rfl, ?hyz1⟩) (by assumption) ?restz1
            case hyz1 => (intro w0 hSw; (try dsimp only at hSw); go_simp; try with_reducible rfl)
            case' restz1 => try simp only [Act.put, List.getElem_toArray, List.getElem_cons_zero, List.getElem_cons_succ, List.setIfInBounds_toArray, List.set_cons_zero, List.set_cons_succ]
            refine wpAnyH_take (i := 2) (v := ?vz2) rfl (by kernel_rfl) (by kernel_rfl) (by kernel_rfl) (fun _ _ _ h => h) (Or.inl ⟨by rfl, ?hyz2⟩) (by assumption) ?restz2
            case hyz2 => (intro w0 hSw; (try dsimp only at hSw); go_simp; try with_reducible rfl)
            case' restz2 => try simp only [Act.put, List.getElem_toArray, List.getElem_cons_zero, List.getElem_cons_succ, List.setIfInBounds_toArray, List.set_cons_zero, List.set_cons_succ]
            refine wpAnyH_take (i := 3) (v := ?vz3) rfl (by kernel_rfl) (by kernel_rfl) (by kernel_rfl) (fun _ _ _ h => h) (Or.inl ⟨by rfl, ?hyz3⟩) (by assumption) ?restz3
            case hyz3 => (intro w0 hSw; (try dsimp only at hSw); go_simp; try with_reducible rfl)
            case' restz3 => try simp only [Act.put, List.getElem_toArray, List.getElem_cons_zero, List.getElem_cons_succ, List.setIfInBounds_toArray, List.set_cons_zero, List.set_cons_succ]
            refine wpAnyH_take (i := 4) (v := ?vz4) rfl (by kernel_rfl) (by kernel_rfl) (by kernel_rfl) (fun _ _ _ h => h) (Or.inl ⟨by rfl, ?hyz4⟩) (by assumption) ?restz4
            case hyz4 => (intro w0 hSw; (try dsimp only at hSw); go_simp; try with_reducible rfl)
            case' restz4 => try simp only [Act.put, List.getElem_toArray, List.getElem_cons_zero, List.getElem_cons_succ, List.setIfInBounds_toArray, List.set_cons_zero, List.set_cons_succ]
            refine wpAnyH_take (i := 5) (v := ?vz5) rfl (by kernel_rfl) (by kernel_rfl) (by kernel_rfl) (fun _ _ _ h => h) (Or.inl ⟨by rfl, ?hyz5⟩) (by assumption) ?restz5
            case hyz5 => (intro w0 hSw; (try dsimp only at hSw); go_simp; try with_reducible rfl)
            case' restz5 => try simp only [Act.put, List.getElem_toArray, List.getElem_cons_zero, List.getElem_cons_succ, List.setIfInBounds_toArray, List.set_cons_zero, List.set_cons_succ]
            refine wpAnyH_take (i := 6) (v := ?vz6) rfl (by kernel_rfl) (by kernel_rfl) (by kernel_rfl) (fun _ _ _ h => h) (Or.inl ⟨by rfl, ?hyz6⟩) (by assumption) ?restz6
            case hyz6 => (intro w0 hSw; (try dsimp only at hSw); go_simp; try with_reducible rfl)
            case' restz6 => try simp only [Act.put, List.getElem_toArray, List.getElem_cons_zero, List.getElem_cons_succ, List.setIfInBounds_toArray, List.set_cons_zero, List.set_cons_succ]
            refine wpAnyH_take (i := 7) (v := ?vz7) rfl (by kernel_rfl) (by kernel_rfl) (by kernel_rfl) (fun _ _ _ h => h) (Or.inl ⟨by rfl, ?hyz7⟩) (by assumption) ?restz7
            case hyz7 => (intro w0 hSw; (try dsimp only at hSw); go_simp; try with_reducible rfl)
            case' restz7 => try simp only [Act.put, List.getElem_toArray, List.getElem_cons_zero, List.getElem_cons_succ, List.setIfInBounds_toArray, List.set_cons_zero, List.set_cons_succ]
            refine wpAnyH_take (i := 8) (v := ?vz8) rfl (by kernel_rfl) (by kernel_rfl) (by kernel_rfl) (fun _ _ _ h => h) (Or.inl ⟨by rfl, ?hyz8⟩) (by assumption) ?restz8
            case hyz8 => (intro w0 hSw; (try dsimp only at hSw); go_simp; try with_reducible rfl)
            case' restz8 => try simp only [Act.put, List.getElem_toArray, List.getElem_cons_zero, List.getElem_cons_succ, List.setIfInBounds_toArray, List.set_cons_zero, List.set_cons_succ]
            refine wpAnyH_take (i := 9) (v := ?vz9) rfl (by kernel_rfl) (by kernel_rfl) (by kernel_rfl) (fun _ _ _ h => h) (Or.inl ⟨by rfl, ?hyz9⟩) (by assumption) ?restz9
            case hyz9 => (intro w0 hSw; (try dsimp only at hSw); go_simp; try with_reducible rfl)
            case' restz9 => try simp only [Act.put, List.getElem_toArray, List.getElem_cons_zero, List.getElem_cons_succ, List.setIfInBounds_toArray, List.set_cons_zero, List.set_cons_succ]
            refine wpAnyH_take (i := 10) (v := ?vz10) rfl (by kernel_rfl) (by kernel_rfl) (by kernel_rfl) (fun _ _ _ h => h) (Or.inl ⟨by rfl, ?hyz10⟩) (by assumption) ?restz10
            case hyz10 => (intro w0 hSw; (try dsimp only at hSw); go_simp; try with_reducible rfl)
            case' restz10 => try simp only [Act.put, List.getElem_toArray, List.getElem_cons_zero, List.getElem_cons_succ, List.setIfInBounds_toArray, List.set_cons_zero, List.set_cons_succ]
            refine wpAnyH_take (i := 11) (v := ?vz11) rfl (by kernel_rfl) (by kernel_rfl) (by kernel_rfl) (fun _ _ _ h => h) (Or.inl ⟨by rfl, ?hyz11⟩) (by assumption) ?restz11
            case hyz11 => (intro w0 hSw; (try dsimp only at hSw); go_simp; try with_reducible rfl)
            case' restz11 => try simp only [Act.put, List.getElem_toArray, List.getElem_cons_zero, List.getElem_cons_succ, List.setIfInBounds_toArray, List.set_cons_zero, List.set_cons_succ]
            refine wpAnyH_take (i := 12) (v := ?vz12) rfl (by kernel_rfl) (by kernel_rfl) (by kernel_rfl) (fun _ _ _ h => h) (Or.inl ⟨by rfl, ?hyz12⟩) (by assumption) ?restz12
            case hyz12 => (intro w0 hSw; (try dsimp only at hSw); go_simp; try with_reducible rfl)
            case' restz12 => try simp only [Act.put, List.getElem_toArray, List.getElem_cons_zero, List.getElem_cons_succ, List.setIfInBounds_toArray, List.set_cons_zero, List.set_cons_succ]
            refine wpAnyH_take (i := 13) (v := ?vz13) rfl (by kernel_rfl) (by kernel_rfl) (by kernel_rfl) (fun _ _ _ h => h) (Or.inl ⟨by rfl, ?hyz13⟩) (by assumption) ?restz13
            case hyz13 => (intro w0 hSw; (try dsimp only at hSw); go_simp; try with_reducible rfl)
            case' restz13 => try simp only [Act.put, List.getElem_toArray, List.getElem_cons_zero, List.getElem_cons_succ, List.setIfInBounds_toArray, List.set_cons_zero, List.set_cons_succ]
            refine wpAnyH_take (i := 14) (v := ?vz14) rfl (by kernel_rfl) (by kernel_rfl) (by kernel_rfl) (fun _ _ _ h => h) (Or.inl ⟨by rfl, ?hyz14⟩) (by assumption) ?restz14
            case hyz14 => (intro w0 hSw; (try dsimp only at hSw); go_simp; try with_reducible rfl)
            case' restz14 => try simp only [Act.put, List.getElem_toArray, List.getElem_cons_zero, List.getElem_cons_succ, List.setIfInBounds_toArray, List.set_cons_zero, List.set_cons_succ]
            refine wpAnyH_take (i := 15) (v := ?vz15) rfl (by kernel_rfl) (by kernel_rfl) (by kernel_rfl) (fun _ _ _ h => h) (Or.inl ⟨by rfl, ?hyz15⟩) (by assumption) ?restz15
            case hyz15 => (intro w0 hSw; (try dsimp only at hSw); go_simp; try with_reducible rfl)
            case' restz15 => try simp only [Act.put, List.getElem_toArray, List.getElem_cons_zero, List.getElem_cons_succ, List.setIfInBounds_toArray, List.set_cons_zero, List.set_cons_succ]
            refine wpAnyH_ready (rs := [16]) (by kernel_rfl) (by simp) ?_
            refine AllReadyH.cons rfl (fun K hK => ?_) AllReadyH.nil
            go_simp
            refine (matched_any _ (HT.out.below (bch HBe.out (Hid.out (And.left (by assumption))) HBe.out.size))).mono ?_; rintro e w1 ⟨rfl, hb⟩
            have hbk := bch (Hid.out (And.left (by assumption))) hb (Below.size (Hid.out (And.left (by assumption))))
            refine hK.out _ _ ⟨hbk, ((hbk).cell (World.block_lt_of_cell? _ _ d0)).trans d0, ((hbk).cell (World.block_lt_of_cell? _ _ d1)).trans d1, ((hbk).cell (World.block_lt_of_cell? _ _ d2)).trans d2, ((hbk).cell (World.block_lt_of_cell? _ _ z0)).trans z0, ((hbk).cell (World.block_lt_of_cell? _ _ z1)).trans z1⟩ (fun hHeld => ?_)
            clear hK K hb hbk
            try simp only [Act.put, List.getElem_toArray, List.getElem_cons_zero, List.getElem_cons_succ, List.setIfInBounds_toArray, List.set_cons_zero, List.set_cons_succ]
            refine wpAnyH_take (i := 17) (v := ?vz17) rfl (by kernel_rfl) (by kernel_rfl) (by kernel_rfl) (fun _ _ _ h => h) (Or.inl ⟨by rfl, ?hyz17⟩) (by assumption) ?restz17
            case hyz17 => (intro w0 hSw; (try dsimp only at hSw); go_simp; try with_reducible rfl)
            case' restz17 => try simp only [Act.put, List.getElem_toArray, List.getElem_cons_zero, List.getElem_cons_succ, List.setIfInBounds_toArray, List.set_cons_zero, List.set_cons_succ]
            refine wpAnyH_take (i := 18) (v := ?vz18) rfl (by kernel_rfl) (by kernel_rfl) (by kernel_rfl) (fun _ _ _ h => h) (Or.inl ⟨by rfl, ?hyz18⟩) (by assumption) ?restz18
            case hyz18 => (intro w0 hSw; (try dsimp only at hSw); go_simp; try with_reducible rfl)
            case' restz18 => try simp only [Act.put, List.getElem_toArray, List.getElem_cons_zero, List.getElem_cons_succ, List.setIfInBounds_toArray, List.set_cons_zero, List.set_cons_succ]
            refine wpAnyH_done (by kernel_rfl) ?_ _
            refine NoPanic.normal ?_
            have HX' : Hid (Below we.heap.size we _) := And.left (by assumption)
            have HB' := Lib.hid (bch HBe.out HX'.out HBe.out.size)
            go_wp2_with fail
            go_ret
            exact ⟨rfl, HB'.out⟩
end Go.Proofs.YtlfibaijpimocaaDoor
/- consignorlaw22.MatchAgree: for every input the law answers true, and what it is handed reads as it did. (The tied card.) -/
namespace Go.Proofs.YtlfibaijpimocaaDoor.matchAgree
open Go.ChangeShapes Go.WideShapes Go.ChangeAt Go.RowKit
open Go.ChangeMaps (open_string shut_string)
set_option linter.unusedVariables false

theorem laid_met (os : Os) : laidMet Tryd.prog Rows.matchAgreeRow.laid ((partyWorld os).forCall (fun _ _ => 0) ⟨#[], #[.slice none 0 0, .slice none 0 0, .int .u8 0], []⟩).memory :=
  laidMet_of_run' 8 (by kernel_rfl) (by kernel_rfl)
theorem reads (os : Os) {H : Type} (enc : TypeId × Value → H) : ∃ places, DataW.whole enc Tryd.prog ((partyWorld os).forCall (fun _ _ => 0) ⟨#[], #[.slice none 0 0, .slice none 0 0, .int .u8 0], []⟩).memory Tryd.f5.params.toList Rows.matchAgreeSpec.vars false #[Value.slice none 0 0, Value.slice none 0 0, Value.int .u8 0].toList 8 = some ([.nil, .nil, .lit (.int .u8 0)], [], places) :=
  ⟨[], by kernel_rfl⟩

set_option maxRecDepth 100000 in
theorem lifted (os : Os) (started : os.Started) (H : Type) (enc : TypeId × Value → H) (F : Stop.Interp) :
    ReturnsInHanded {} Tryd.checked os 5 .any ((OpenSpec.ofChange Rows.matchAgreeSpec).preRow enc Tryd.prog Tryd.f5 Rows.matchAgreeRow.domain false Rows.matchAgreeRow.laid) (((OpenSpec.ofChange Rows.matchAgreeSpec).at F).post enc Tryd.prog Tryd.f5 false true false false) := by
  obtain ⟨places, hx⟩ := reads os enc
  refine returnsInHanded_of_row (C := Tryd.checked) (s := OpenSpec.ofChange Rows.matchAgreeSpec) doorOwn started (by kernel_rfl) Tryd.func5
    (witness_row_at (enc := enc) (C := Tryd.checked) false (partyWorld os) #[.slice none 0 0, .slice none 0 0, .int .u8 0] rfl (by kernel_rfl) (by kernel_rfl) (by kernel_rfl)
      (OpenSpec.preRow_of_cond 8 hx (by kernel_rfl) (fun k hk => by cases hk) (by kernel_rfl) (laid_met os))) ?_
  intro W base args ds gs before hval0 hW _ _ _ hL hS _
  have hval : ∀ (j : Nat) t v, Tryd.f5.params[j]? = some t → args[j]? = some v → Value.okWide Tryd.prog W .any base t v := hval0
  have hW' := hW
  obtain ⟨p, q, hA0, hV, rfl, hfz, hnd⟩ := hW
  have hA : DataW.TrodAll enc Tryd.prog W 0 (fun _ => true) true Tryd.f5.params.toList args.toList ds p := hA0
  rw [Tryd.params5] at hA hval
  obtain ⟨v0, vs0, d0, ds0, p0, q0, hargs0, rfl, rfl, h0, r0⟩ := trodAll_cons hA
  obtain ⟨v1, vs1, d1, ds1, p1, q1, hargs1, rfl, rfl, h1, r1⟩ := trodAll_cons r0
  obtain ⟨v2, vs2, d2, ds2, p2, q2, hargs2, rfl, rfl, h2, r2⟩ := trodAll_cons r1
  obtain ⟨rfl, rfl, rfl⟩ := trodAll_nil r2
  obtain rfl : args = #[v0, v1, v2] := by cases args; simp_all
  obtain ⟨rfl, rfl⟩ := trodVars_none hV
  have k0 := h0
  have lt0 : ∀ x ∈ p0, x.block < W.heap.size := by obtain ⟨m, hm⟩ := k0; exact DataW.trod_lt m _ _ _ hm
  have k1 := h1
  have lt1 : ∀ x ∈ p1, x.block < W.heap.size := by obtain ⟨m, hm⟩ := k1; exact DataW.trod_lt m _ _ _ hm
  have k2 := h2
  have lt2 : ∀ x ∈ p2, x.block < W.heap.size := by obtain ⟨m, hm⟩ := k2; exact DataW.trod_lt m _ _ _ hm
  obtain ⟨L0, hL0⟩ := opens_argN Tryd.underlying63 (k := 5) (by kernel_rfl) (by decide) opens_ord (hval 0 63 v0 rfl rfl) h0 lt0
  obtain ⟨L1, hL1⟩ := opens_argN Tryd.underlying64 (k := 1) (by kernel_rfl) (by decide) (opens_slice Tryd.underlying66 (k := 1) (by kernel_rfl) (by decide) opens_byte) (hval 1 64 v1 rfl rfl) h1 lt1
  obtain ⟨a2, rfl, rfl, rfl, w2⟩ := open_int Tryd.underlying5 (hval 2 5 v2 rfl rfl) h2
  have w2' : 0 ≤ a2 ∧ a2 ≤ 255 := by simpa [Lit.wf, IntKind.min, IntKind.max, IntKind.signed, IntKind.bits] using w2
  clear hA0 hval0
  refine (lawMatchAgree_walk W (pt_of hL) _ _ L0 hL0.1 L1 hL1.1 a2 ⟨w2'.1, w2'.2⟩).mono fun e W' ⟨he, bel⟩ => ?_
  subst he
  exact ⟨_, rfl, _, _, _, [], _, [], hW', trodAll_mk1 (shut_bool Tryd.underlying4 _), (trodAll_cons_mk (Below.trod doorLaidOut (by kernel_rfl) (of_decide_eq_true (by kernel_rfl)) k0 bel lt0) (trodAll_cons_mk (Below.trod doorLaidOut (by kernel_rfl) (of_decide_eq_true (by kernel_rfl)) k1 bel lt1) (trodAll_cons_mk (Below.trod doorLaidOut (by kernel_rfl) (of_decide_eq_true (by kernel_rfl)) k2 bel lt2) trodAll_mk0))), rfl, bel.frame _, fun h => by cases h⟩

theorem said : Rows.MatchAgreeSaid :=
  OpenClaim.holds_of_cond 5 Tryd.f5 rfl rfl rfl rfl rfl rfl rfl ⟨rfl, rfl, rfl, rfl, rfl⟩ rfl rfl rfl rfl rfl (by kernel_rfl) Tryd.func5 (by kernel_rfl)
    (of_decide_eq_true (by kernel_rfl)) (by unfold Func.isWrapper; first | (rw [if_pos (by decide +kernel)]; kernel_rfl) | (rw [if_neg (by decide +kernel)]; exact ⟨rfl, rfl⟩))
    (fun os started H enc _ F => by rw [OpenClaim.pre_eq_preRow]; exact lifted os started H enc F)

theorem plain (f : FuncId) (fn : Func) (hf : Tryd.pinned.checked.prog.funcNamed "consignor/consignorlaw22.MatchAgree" = some f) (hfn : Tryd.pinned.checked.prog.funcs[f]? = some fn) :
    false = Tryd.pinned.checked.prog.looks [] ∧ ∀ (j : Nat) t, fn.params[j]? = some t → Tryd.pinned.checked.prog.wantsStandIn t = false := by
  obtain rfl : f = 5 := Option.some.inj ((show Tryd.prog.funcNamed "consignor/consignorlaw22.MatchAgree" = some 5 by kernel_rfl).symm.trans hf) |>.symm
  obtain rfl : fn = Tryd.f5 := (Option.some.inj (Tryd.func5.symm.trans hfn)).symm
  refine ⟨by kernel_rfl, fun j t ht => ?_⟩
  rw [Tryd.params5] at ht
  have hm : t = 63 ∨ t = 64 ∨ t = 5 := by simpa using Array.mem_of_getElem? ht
  rcases hm with rfl | rfl | rfl
  · exact (show Tryd.prog.wantsStandIn 63 = false by kernel_rfl)
  · exact (show Tryd.prog.wantsStandIn 64 = false by kernel_rfl)
  · exact (show Tryd.prog.wantsStandIn 5 = false by kernel_rfl)

theorem card : Rows.MatchAgreeCardSaid :=
  Claim7.holds_tied_plain_at .later [] _ _ _ _ said (fun _ h => by cases h) (by kernel_rfl) (fun _ h => by cases h) matchAgree_row_tie rfl ⟨rfl, rfl⟩ (by kernel_rfl) rfl plain (by kernel_rfl)
end Go.Proofs.YtlfibaijpimocaaDoor.matchAgree

/- A saga of an order, by what came of its deeds: the law's went. -/
import Derived.Test.YtlfibaijpimocaaDoorSagaWalk3
import Derived.Test.YtlfibaijpimocaaDoorOpenK
namespace Go.Proofs.YtlfibaijpimocaaDoor
open Go.RowKit Key Sa

namespace Sa
def wStop (s : Sg) (b : Int) : Bool := decide (waitsI s = 6) || decide (b % 4 = 3)
def wCode (s : Sg) (b : Int) : Int := if b % 4 = 0 ∧ waitsI s ≤ 2 then 2 else 1
def wStep (s : Sg) (b : Int) : Sg := if b % 4 = 2 then (if goingB s = true then Sa.stopI s else s) else replyI s (waitsI s) (wCode s b)
def wGo : List Int → Sg → Sg
  | [], s => s
  | b :: l, s => if wStop s b = true then s else wGo l (wStep s b)
def wentI (i : Int) (r k : List UInt8) (q a : Int) (l : List Int) : Sg := wGo (l.take 9) (beginI i r k q a)
theorem wGo_stop {l : List Int} {k : Nat} {b : Int} {s : Sg} (h : l[k]? = some b) (hs : wStop s b = true) : wGo (l.drop k) s = s := by
  obtain ⟨hk, rfl⟩ := List.getElem?_eq_some_iff.1 h
  rw [List.drop_eq_getElem_cons hk]; unfold wGo; rw [if_pos hs]
theorem wGo_on {l : List Int} {k : Nat} {b : Int} {s : Sg} (h : l[k]? = some b) (hs : wStop s b = false) : wGo (l.drop k) s = wGo (l.drop (k + 1)) (wStep s b) := by
  obtain ⟨hk, rfl⟩ := List.getElem?_eq_some_iff.1 h
  rw [List.drop_eq_getElem_cons hk]; conv => lhs; unfold wGo
  rw [if_neg (by simp [hs])]
theorem wReply {s : Sg} (h6 : waitsI s ≠ 6) (b : Int) : replyB s (waitsI s) (wCode s b) = true := by
  unfold replyB wCode; simp [h6]; omega
theorem waitsN_eq {s : Sg} (h6 : waitsI s ≠ 6) : waitsN s = waitsI s := by unfold waitsN; rw [if_neg h6]
theorem waitsB_eq {s : Sg} (h6 : waitsI s ≠ 6) : waitsB s = true := by unfold waitsB; simp [h6]
theorem waitsB_no {s : Sg} (h6 : waitsI s = 6) : waitsB s = false := by unfold waitsB; simp [h6]
end Sa

/-- The slice reads as these bytes. -/
def Bys (w : World) (v : Value) (l : List Int) : Prop := SlK w w.heap.size 1 (fun cs x => IsByte cs x) v l
theorem Bys.keep {w w' : World} {v : Value} {l : List Int} (h : Bys w v l) (hb : Below w.heap.size w w') : Bys w' v l := SlK.mono h hb hb.size (fun _ _ _ h => h)
theorem Bys.cell {w W : World} {v : Value} {l : List Int} (h : Bys w v l) (hb : Below w.heap.size w W) {k : Nat} {x : Int} (hx : l[k]? = some x) : ∃ g off n c, v = .slice (some ⟨g, off, none⟩) n c ∧ W.cell? ⟨g, off + k, none⟩ = some (.int .u8 x) ∧ 0 ≤ x ∧ x ≤ 255 := by
  obtain ⟨A, c, rfl, _⟩ := SlK.shape h
  obtain ⟨g, off, cs, rfl, hgl, hcl, hcell, rfl, h0, h1⟩ := SlK.at h hx
  have := hcell 0 _ rfl
  rw [Nat.mul_one, Nat.add_zero] at this
  exact ⟨g, off, _, _, rfl, (hb.cell hgl).trans this, h0, h1⟩
abbrev set12s (w : World) (b : Nat) (s : Sg) : World := set12w w b (.int .i64 s.id) (.string ⟨s.ref.toArray⟩) (.string ⟨s.sku.toArray⟩) (.int .i64 s.qty) (.int .i64 s.amt) (.int .i64 s.d0) (.int .i64 s.d1) (.int .i64 s.d2) (.int .i64 s.d3) (.int .i64 s.d4) (.int .i64 s.d5) (.bool s.can)
theorem sg_store {w : World} {b : Nat} {t : Sg} {T : TypeId} (h : w.heap[b]? = some (.cells (sgA t) T (0, 0))) (s : Sg) : (set12s w b s).heap[b]? = some (.cells (sgA s) T (0, 0)) := set12 h _ _ _ _ _ _ _ _ _ _ _ _
set_option linter.unusedSimpArgs false in
set_option linter.unusedVariables false in
set_option maxRecDepth 100000 in
set_option maxHeartbeats 16000000 in
theorem went_any (i : Int) (r k : List UInt8) (q a : Int) (v : Value) (l : List Int) (w : World) (hl : Bys w v l) : Calls Tryd.prog 20 #[.agg #[.int .i64 i, .string ⟨r.toArray⟩, .string ⟨k.toArray⟩, .int .i64 q, .int .i64 a], v] w fun e w' => e = .returned (sgV (wentI i r k q a l)) ∧ Below w.heap.size w w' := by
  obtain ⟨A, c, rfl, hlc, hcm⟩ := SlK.shape hl
  have HL := Lib.hid hl
  have HBG := Lib.hid (fun W => begin_any i r k q a W)
  have hml : (l.take 9).length = min 9 l.length := List.length_take
  have hlm : (l.length : Int) ≤ 9223372036854775807 := by unfold maxLen at hcm; omega
  obtain ⟨wa, hA⟩ : ∃ wa, wa = (w.alloc (.cells #[.int .i64 i, .string ⟨r.toArray⟩, .string ⟨k.toArray⟩, .int .i64 q, .int .i64 a] tOrder)).alloc (.cells (sgA sg0) tSaga) := ⟨_, rfl⟩
  obtain ⟨hB, hO, hZ⟩ := two_new w _ _ tOrder tSaga hA
  have HB := Lib.hid hB; have HO := Lib.hid hO; have HZ := Lib.hid hZ; have HA := Lib.hid hA
  clear hA hB hO hZ hl
  go_enter Tryd.func20, Tryd.ntmps20
  go_upto_region 1 with (fail)
  rw [← HA.out]
  obtain ⟨o0, o1, o2, o3, o4⟩ := cell5 HO.out
  go_wp2_with fail
  refine (HBG.out _).mono ?_
  rintro e w1 ⟨rfl, hb⟩
  have HB1 := Lib.hid (bch HB.out hb HB.out.size)
  have HZ1 := Lib.hid (heap_keep HZ.out hb)
  clear hb o0 o1 o2 o3 o4 HBG HA HO
  have hz1 := heap_lt HZ1.out
  generalize hs0 : beginI i r k q a = s0
  have HS0 := Lib.hid hs0
  clear hs0
  go_upto_region 2 with (fail)
  obtain ⟨w2, hw2⟩ : ∃ w2, w2 = w1.alloc (.cells (sgA s0) tSaga) := ⟨_, rfl⟩
  rw [← hw2]
  have HX2 := Lib.hid (show w2.heap[w1.heap.size]? = some (.cells (sgA s0) tSaga (0, 0)) by rw [hw2]; exact heap_new _ _)
  have HB2 := Lib.hid (show Below w.heap.size w w2 by rw [hw2]; exact HB1.out.alloc HB1.out.size _)
  have HZ2 := Lib.hid (show w2.heap[w.heap.size + 1]? = some (.cells (sgA sg0) tSaga (0, 0)) by rw [hw2]; exact heap_keep HZ1.out (below_alloc _ _))
  clear hw2 HB1 HZ1
  generalize w1.heap.size = b5 at HX2 hz1 ⊢
  go_wp2_with fail
  go_loopw [6] (fun i wr => ∃ (j : Nat) (s : Sg), i = .int .i64 j ∧ j ≤ (l.take 9).length ∧ Hid (wGo (l.take 9) s0 = wGo ((l.take 9).drop j) s) ∧ Hid (wr.heap[b5]? = some (.cells (sgA s) tSaga (0, 0))) ∧ Hid (wr.heap[w.heap.size + 1]? = some (.cells (sgA sg0) tSaga (0, 0))) ∧ Hid (Below w.heap.size w wr)) (fun i _ => 9 - (intOf i).toNat)
  case atStart => exact ⟨0, s0, rfl, Nat.zero_le _, rfl, HX2.out, HZ2.out, HB2.out⟩
  case round =>
    obtain ⟨j, s, rfl, hj, HG, HXr, HZr, HBr⟩ := hrel
    by_cases hjl : j < (l.take 9).length
    · obtain ⟨b, hb0⟩ : ∃ b, (l.take 9)[j]? = some b := ⟨_, List.getElem?_eq_getElem hjl⟩
      have hjL : l[j]? = some b := by rw [List.getElem?_take_of_lt (by omega)] at hb0; exact hb0
      obtain ⟨g, off, n', c', e, cb, hb1, hb2⟩ := HL.out.cell HBr.out hjL
      injection e with e1 e2 e3; subst e1; subst e2; subst e3
      have HB0 := Lib.hid hb0
      clear hjL hb0
      have hj1 : (j : Int) < l.length := by omega
      have hj2 : (j : Int) < 9 := by omega
      have hj0 : (0 : Int) ≤ j := by omega
      obtain ⟨c0, c1, c2, c3, c4, c5, c6, c7, c8, c9, c10, c11⟩ := sg_box HXr.out
      by_cases h6 : waitsI s = 6
      · have HW := Lib.hid (waits_of rfl (waitsB_no h6))
        have HF := Lib.hid (show sgV (wentI i r k q a l) = sgV s by unfold wentI; rw [HS0.out, HG.out, wGo_stop HB0.out (by unfold wStop; simp [h6])])
        clear h6
        go_wp2_with fail
        refine (HW.out _).mono ?_
        rintro e w3 ⟨rfl, hb⟩
        have HB3 := Lib.hid (bch HBr.out hb HBr.out.size)
        have HX3 := Lib.hid (heap_keep HXr.out hb)
        have HZ3 := Lib.hid (heap_keep HZr.out hb)
        have cb3 := (hb.cell (p := ⟨g, off + j, none⟩) (World.block_lt_of_cell? _ _ cb)).trans cb
        clear hb cb c0 c1 c2 c3 c4 c5 c6 c7 c8 c9 c10 c11
        obtain ⟨c0, c1, c2, c3, c4, c5, c6, c7, c8, c9, c10, c11⟩ := sg_box HX3.out
        obtain ⟨m0, m1, m2, m3, m4, m5, m6, m7, m8, m9, m10, m11⟩ := cell12 HZ3.out
        obtain ⟨f0, f1, f2, f3, f4, f5, f6, f7, f8, f9, f10, f11⟩ := froz12 HZ3.out
        have hzz := heap_lt HX3.out
        go_wp2_with fail
        refine bodyPost_ret (v := sgV s) (by simp [results, Tryd.results20, go_sem, m0, m1, m2, m3, m4, m5, m6, m7, m8, m9, m10, m11]) rfl ⟨by rw [HF.out], ?_⟩
        exact Below.turned HB3.out (turned_set12 w3 (w.heap.size + 1) _ _ _ _ _ _ _ _ _ _ _ _) (fun i h => by omega) HB3.out.size
      · have HW := Lib.hid (waits_of (waitsN_eq h6) (waitsB_eq h6))
        have HRY := Lib.hid (fun W => reply_yes s (waitsI s) (wCode s b) W (wReply h6 b))
        have hm0 : 0 ≤ b % 4 := by omega
        have hm4 : b % 4 < 4 := by omega
        by_cases h3 : b % 4 = 3
        · have h31 := beqT h3
          have HF := Lib.hid (show sgV (wentI i r k q a l) = sgV s by unfold wentI; rw [HS0.out, HG.out, wGo_stop HB0.out (by unfold wStop; simp [h3])])
          clear h6 h3
          go_wp2_with fail
          refine (HW.out _).mono ?_
          rintro e w3 ⟨rfl, hb⟩
          have HB3 := Lib.hid (bch HBr.out hb HBr.out.size)
          have HX3 := Lib.hid (heap_keep HXr.out hb)
          have HZ3 := Lib.hid (heap_keep HZr.out hb)
          have cb3 := (hb.cell (p := ⟨g, off + j, none⟩) (World.block_lt_of_cell? _ _ cb)).trans cb
          clear hb cb c0 c1 c2 c3 c4 c5 c6 c7 c8 c9 c10 c11
          obtain ⟨c0, c1, c2, c3, c4, c5, c6, c7, c8, c9, c10, c11⟩ := sg_box HX3.out
          obtain ⟨m0, m1, m2, m3, m4, m5, m6, m7, m8, m9, m10, m11⟩ := cell12 HZ3.out
          obtain ⟨f0, f1, f2, f3, f4, f5, f6, f7, f8, f9, f10, f11⟩ := froz12 HZ3.out
          have hzz := heap_lt HX3.out
          go_wp2_with fail
          refine bodyPost_ret (v := sgV s) (by simp [results, Tryd.results20, go_sem, m0, m1, m2, m3, m4, m5, m6, m7, m8, m9, m10, m11]) rfl ⟨by rw [HF.out], ?_⟩
          exact Below.turned HB3.out (turned_set12 w3 (w.heap.size + 1) _ _ _ _ _ _ _ _ _ _ _ _) (fun i h => by omega) HB3.out.size
        · have h31 := beqF h3
          have HN := Lib.hid (show wGo (l.take 9) s0 = wGo ((l.take 9).drop (j + 1)) (wStep s b) by rw [HG.out]; exact wGo_on HB0.out (by unfold wStop; simp [h3, h6]))
          by_cases h2 : b % 4 = 2
          · have h21 := beqT h2
            cases hg : goingB s with
            | true =>
              have HNN := Lib.hid (show wGo (l.take 9) s0 = wGo ((l.take 9).drop (j + 1)) (Sa.stopI s) by rw [HN.out]; unfold wStep; rw [if_pos h2, if_pos hg])
              have HST := Lib.hid (fun W => stop_yes s W hg)
              clear h6 h3 h2 hg
              go_wp2_with fail
              refine (HW.out _).mono ?_
              rintro e w3 ⟨rfl, hb⟩
              have HB3 := Lib.hid (bch HBr.out hb HBr.out.size)
              have HX3 := Lib.hid (heap_keep HXr.out hb)
              have HZ3 := Lib.hid (heap_keep HZr.out hb)
              have cb3 := (hb.cell (p := ⟨g, off + j, none⟩) (World.block_lt_of_cell? _ _ cb)).trans cb
              clear hb cb c0 c1 c2 c3 c4 c5 c6 c7 c8 c9 c10 c11
              obtain ⟨c0, c1, c2, c3, c4, c5, c6, c7, c8, c9, c10, c11⟩ := sg_box HX3.out
              go_wp2_with fail
              refine (HST.out _).mono ?_
              rintro e w4 ⟨rfl, hb⟩
              have HB4 := Lib.hid (bch HB3.out hb HB3.out.size)
              have HX4 := Lib.hid (heap_keep HX3.out hb)
              have HZ4 := Lib.hid (heap_keep HZ3.out hb)
              have cb4 := (hb.cell (p := ⟨g, off + j, none⟩) (World.block_lt_of_cell? _ _ cb3)).trans cb3
              clear hb cb3 c0 c1 c2 c3 c4 c5 c6 c7 c8 c9 c10 c11
              go_upto_region 11 with (fail)
              obtain ⟨w5, hw5⟩ : ∃ w5, w5 = w4.alloc (.cells (sgA (Sa.stopI s)) tSaga) := ⟨_, rfl⟩
              rw [← hw5]
              have HT5 := Lib.hid (show w5.heap[w4.heap.size]? = some (.cells (sgA (Sa.stopI s)) tSaga (0, 0)) by rw [hw5]; exact heap_new _ _)
              have HB5 := Lib.hid (show Below w.heap.size w w5 by rw [hw5]; exact HB4.out.alloc HB4.out.size _)
              have HX5 := Lib.hid (show w5.heap[b5]? = some (.cells (sgA s) tSaga (0, 0)) by rw [hw5]; exact heap_keep HX4.out (below_alloc _ _))
              have HZ5 := Lib.hid (show w5.heap[w.heap.size + 1]? = some (.cells (sgA sg0) tSaga (0, 0)) by rw [hw5]; exact heap_keep HZ4.out (below_alloc _ _))
              clear hw5 HB4 HX4 HZ4 HB3 HX3 HZ3
              obtain ⟨c0, c1, c2, c3, c4, c5, c6, c7, c8, c9, c10, c11⟩ := sg_box HT5.out
              obtain ⟨f0, f1, f2, f3, f4, f5, f6, f7, f8, f9, f10, f11⟩ := froz12 HX5.out
              obtain ⟨m0, m1, m2, m3, m4, m5, m6, m7, m8, m9, m10, m11⟩ := cell12 HX5.out
              have ht6 := turned_set12 w5 b5 (.int .i64 (Sa.stopI s).id) (.string ⟨(Sa.stopI s).ref.toArray⟩) (.string ⟨(Sa.stopI s).sku.toArray⟩) (.int .i64 (Sa.stopI s).qty) (.int .i64 (Sa.stopI s).amt) (.int .i64 (Sa.stopI s).d0) (.int .i64 (Sa.stopI s).d1) (.int .i64 (Sa.stopI s).d2) (.int .i64 (Sa.stopI s).d3) (.int .i64 (Sa.stopI s).d4) (.int .i64 (Sa.stopI s).d5) (.bool (Sa.stopI s).can)
              have HB6 := Lib.hid (Below.turned HB5.out ht6 (fun i h => by omega) HB5.out.size)
              have HX6 := Lib.hid (sg_store HX5.out (Sa.stopI s))
              have HZ6 := Lib.hid (heap_turned' HZ5.out ht6 (by omega))
              clear ht6 HB5 HX5 HZ5 HT5
              go_wp2_with fail
              go_roundw
              case rel => exact ⟨j + 1, (Sa.stopI s), by go_num, by omega, HNN.out, HX6.out, HZ6.out, HB6.out⟩
              case measure => simp [intOf]; omega
            | false =>
              have HNN := Lib.hid (show wGo (l.take 9) s0 = wGo ((l.take 9).drop (j + 1)) s by rw [HN.out]; unfold wStep; rw [if_pos h2, if_neg (by simp [hg])])
              have HST := Lib.hid (fun W => stop_no s W hg)
              clear h6 h3 h2 hg
              go_wp2_with fail
              refine (HW.out _).mono ?_
              rintro e w3 ⟨rfl, hb⟩
              have HB3 := Lib.hid (bch HBr.out hb HBr.out.size)
              have HX3 := Lib.hid (heap_keep HXr.out hb)
              have HZ3 := Lib.hid (heap_keep HZr.out hb)
              have cb3 := (hb.cell (p := ⟨g, off + j, none⟩) (World.block_lt_of_cell? _ _ cb)).trans cb
              clear hb cb c0 c1 c2 c3 c4 c5 c6 c7 c8 c9 c10 c11
              obtain ⟨c0, c1, c2, c3, c4, c5, c6, c7, c8, c9, c10, c11⟩ := sg_box HX3.out
              go_wp2_with fail
              refine (HST.out _).mono ?_
              rintro e w4 ⟨rfl, hb⟩
              have HB4 := Lib.hid (bch HB3.out hb HB3.out.size)
              have HX4 := Lib.hid (heap_keep HX3.out hb)
              have HZ4 := Lib.hid (heap_keep HZ3.out hb)
              have cb4 := (hb.cell (p := ⟨g, off + j, none⟩) (World.block_lt_of_cell? _ _ cb3)).trans cb3
              clear hb cb3 c0 c1 c2 c3 c4 c5 c6 c7 c8 c9 c10 c11
              have HB7 := Lib.hid (HB4.out.alloc HB4.out.size (.cells (sgA sg0) tSaga))
              have HX7 := Lib.hid (heap_keep HX4.out (below_alloc _ (.cells (sgA sg0) tSaga)))
              have HZ7 := Lib.hid (heap_keep HZ4.out (below_alloc _ (.cells (sgA sg0) tSaga)))
              go_wp2_with fail
              go_roundw
              case rel => exact ⟨j + 1, s, by go_num, by omega, HNN.out, HX7.out, HZ7.out, HB7.out⟩
              case measure => simp [intOf]; omega
          · have h21 := beqF h2
            by_cases h0 : b % 4 = 0
            · have h01 := beqT h0
              by_cases hd2 : waitsI s ≤ 2
              · have hcd : wCode s b = 2 := by unfold wCode; rw [if_pos ⟨h0, hd2⟩]
                rw [hcd] at HRY
                have HNN := Lib.hid (show wGo (l.take 9) s0 = wGo ((l.take 9).drop (j + 1)) (replyI s (waitsI s) 2) by rw [HN.out]; unfold wStep; rw [if_neg h2, hcd])
                clear hcd h6 h3 h2 h0
                go_wp2_with fail
                refine (HW.out _).mono ?_
                rintro e w3 ⟨rfl, hb⟩
                have HB3 := Lib.hid (bch HBr.out hb HBr.out.size)
                have HX3 := Lib.hid (heap_keep HXr.out hb)
                have HZ3 := Lib.hid (heap_keep HZr.out hb)
                have cb3 := (hb.cell (p := ⟨g, off + j, none⟩) (World.block_lt_of_cell? _ _ cb)).trans cb
                clear hb cb c0 c1 c2 c3 c4 c5 c6 c7 c8 c9 c10 c11
                obtain ⟨c0, c1, c2, c3, c4, c5, c6, c7, c8, c9, c10, c11⟩ := sg_box HX3.out
                go_wp2_with fail
                refine (HRY.out _).mono ?_
                rintro e w4 ⟨rfl, hb⟩
                have HB4 := Lib.hid (bch HB3.out hb HB3.out.size)
                have HX4 := Lib.hid (heap_keep HX3.out hb)
                have HZ4 := Lib.hid (heap_keep HZ3.out hb)
                have cb4 := (hb.cell (p := ⟨g, off + j, none⟩) (World.block_lt_of_cell? _ _ cb3)).trans cb3
                clear hb cb3 c0 c1 c2 c3 c4 c5 c6 c7 c8 c9 c10 c11
                go_upto_region 17 with (fail)
                obtain ⟨w5, hw5⟩ : ∃ w5, w5 = w4.alloc (.cells (sgA (replyI s (waitsI s) 2)) tSaga) := ⟨_, rfl⟩
                rw [← hw5]
                have HT5 := Lib.hid (show w5.heap[w4.heap.size]? = some (.cells (sgA (replyI s (waitsI s) 2)) tSaga (0, 0)) by rw [hw5]; exact heap_new _ _)
                have HB5 := Lib.hid (show Below w.heap.size w w5 by rw [hw5]; exact HB4.out.alloc HB4.out.size _)
                have HX5 := Lib.hid (show w5.heap[b5]? = some (.cells (sgA s) tSaga (0, 0)) by rw [hw5]; exact heap_keep HX4.out (below_alloc _ _))
                have HZ5 := Lib.hid (show w5.heap[w.heap.size + 1]? = some (.cells (sgA sg0) tSaga (0, 0)) by rw [hw5]; exact heap_keep HZ4.out (below_alloc _ _))
                clear hw5 HB4 HX4 HZ4 HB3 HX3 HZ3
                obtain ⟨c0, c1, c2, c3, c4, c5, c6, c7, c8, c9, c10, c11⟩ := sg_box HT5.out
                obtain ⟨f0, f1, f2, f3, f4, f5, f6, f7, f8, f9, f10, f11⟩ := froz12 HX5.out
                obtain ⟨m0, m1, m2, m3, m4, m5, m6, m7, m8, m9, m10, m11⟩ := cell12 HX5.out
                have ht6 := turned_set12 w5 b5 (.int .i64 (replyI s (waitsI s) 2).id) (.string ⟨(replyI s (waitsI s) 2).ref.toArray⟩) (.string ⟨(replyI s (waitsI s) 2).sku.toArray⟩) (.int .i64 (replyI s (waitsI s) 2).qty) (.int .i64 (replyI s (waitsI s) 2).amt) (.int .i64 (replyI s (waitsI s) 2).d0) (.int .i64 (replyI s (waitsI s) 2).d1) (.int .i64 (replyI s (waitsI s) 2).d2) (.int .i64 (replyI s (waitsI s) 2).d3) (.int .i64 (replyI s (waitsI s) 2).d4) (.int .i64 (replyI s (waitsI s) 2).d5) (.bool (replyI s (waitsI s) 2).can)
                have HB6 := Lib.hid (Below.turned HB5.out ht6 (fun i h => by omega) HB5.out.size)
                have HX6 := Lib.hid (sg_store HX5.out (replyI s (waitsI s) 2))
                have HZ6 := Lib.hid (heap_turned' HZ5.out ht6 (by omega))
                clear ht6 HB5 HX5 HZ5 HT5
                go_wp2_with fail
                go_roundw
                case rel => exact ⟨j + 1, (replyI s (waitsI s) 2), by go_num, by omega, HNN.out, HX6.out, HZ6.out, HB6.out⟩
                case measure => simp [intOf]; omega
              · have hcd : wCode s b = 1 := by unfold wCode; rw [if_neg (by omega)]
                have hd3 : ¬ waitsI s ≤ 2 := hd2
                rw [hcd] at HRY
                have HNN := Lib.hid (show wGo (l.take 9) s0 = wGo ((l.take 9).drop (j + 1)) (replyI s (waitsI s) 1) by rw [HN.out]; unfold wStep; rw [if_neg h2, hcd])
                clear hcd h6 h3 h2 h0
                go_wp2_with fail
                refine (HW.out _).mono ?_
                rintro e w3 ⟨rfl, hb⟩
                have HB3 := Lib.hid (bch HBr.out hb HBr.out.size)
                have HX3 := Lib.hid (heap_keep HXr.out hb)
                have HZ3 := Lib.hid (heap_keep HZr.out hb)
                have cb3 := (hb.cell (p := ⟨g, off + j, none⟩) (World.block_lt_of_cell? _ _ cb)).trans cb
                clear hb cb c0 c1 c2 c3 c4 c5 c6 c7 c8 c9 c10 c11
                obtain ⟨c0, c1, c2, c3, c4, c5, c6, c7, c8, c9, c10, c11⟩ := sg_box HX3.out
                go_wp2_with fail
                refine (HRY.out _).mono ?_
                rintro e w4 ⟨rfl, hb⟩
                have HB4 := Lib.hid (bch HB3.out hb HB3.out.size)
                have HX4 := Lib.hid (heap_keep HX3.out hb)
                have HZ4 := Lib.hid (heap_keep HZ3.out hb)
                have cb4 := (hb.cell (p := ⟨g, off + j, none⟩) (World.block_lt_of_cell? _ _ cb3)).trans cb3
                clear hb cb3 c0 c1 c2 c3 c4 c5 c6 c7 c8 c9 c10 c11
                go_upto_region 17 with (fail)
                obtain ⟨w5, hw5⟩ : ∃ w5, w5 = w4.alloc (.cells (sgA (replyI s (waitsI s) 1)) tSaga) := ⟨_, rfl⟩
                rw [← hw5]
                have HT5 := Lib.hid (show w5.heap[w4.heap.size]? = some (.cells (sgA (replyI s (waitsI s) 1)) tSaga (0, 0)) by rw [hw5]; exact heap_new _ _)
                have HB5 := Lib.hid (show Below w.heap.size w w5 by rw [hw5]; exact HB4.out.alloc HB4.out.size _)
                have HX5 := Lib.hid (show w5.heap[b5]? = some (.cells (sgA s) tSaga (0, 0)) by rw [hw5]; exact heap_keep HX4.out (below_alloc _ _))
                have HZ5 := Lib.hid (show w5.heap[w.heap.size + 1]? = some (.cells (sgA sg0) tSaga (0, 0)) by rw [hw5]; exact heap_keep HZ4.out (below_alloc _ _))
                clear hw5 HB4 HX4 HZ4 HB3 HX3 HZ3
                obtain ⟨c0, c1, c2, c3, c4, c5, c6, c7, c8, c9, c10, c11⟩ := sg_box HT5.out
                obtain ⟨f0, f1, f2, f3, f4, f5, f6, f7, f8, f9, f10, f11⟩ := froz12 HX5.out
                obtain ⟨m0, m1, m2, m3, m4, m5, m6, m7, m8, m9, m10, m11⟩ := cell12 HX5.out
                have ht6 := turned_set12 w5 b5 (.int .i64 (replyI s (waitsI s) 1).id) (.string ⟨(replyI s (waitsI s) 1).ref.toArray⟩) (.string ⟨(replyI s (waitsI s) 1).sku.toArray⟩) (.int .i64 (replyI s (waitsI s) 1).qty) (.int .i64 (replyI s (waitsI s) 1).amt) (.int .i64 (replyI s (waitsI s) 1).d0) (.int .i64 (replyI s (waitsI s) 1).d1) (.int .i64 (replyI s (waitsI s) 1).d2) (.int .i64 (replyI s (waitsI s) 1).d3) (.int .i64 (replyI s (waitsI s) 1).d4) (.int .i64 (replyI s (waitsI s) 1).d5) (.bool (replyI s (waitsI s) 1).can)
                have HB6 := Lib.hid (Below.turned HB5.out ht6 (fun i h => by omega) HB5.out.size)
                have HX6 := Lib.hid (sg_store HX5.out (replyI s (waitsI s) 1))
                have HZ6 := Lib.hid (heap_turned' HZ5.out ht6 (by omega))
                clear ht6 HB5 HX5 HZ5 HT5
                go_wp2_with fail
                go_roundw
                case rel => exact ⟨j + 1, (replyI s (waitsI s) 1), by go_num, by omega, HNN.out, HX6.out, HZ6.out, HB6.out⟩
                case measure => simp [intOf]; omega
            · have h01 := beqF h0
              have hcd : wCode s b = 1 := by unfold wCode; rw [if_neg (by omega)]
              rw [hcd] at HRY
              have HNN := Lib.hid (show wGo (l.take 9) s0 = wGo ((l.take 9).drop (j + 1)) (replyI s (waitsI s) 1) by rw [HN.out]; unfold wStep; rw [if_neg h2, hcd])
              clear hcd h6 h3 h2 h0
              go_wp2_with fail
              refine (HW.out _).mono ?_
              rintro e w3 ⟨rfl, hb⟩
              have HB3 := Lib.hid (bch HBr.out hb HBr.out.size)
              have HX3 := Lib.hid (heap_keep HXr.out hb)
              have HZ3 := Lib.hid (heap_keep HZr.out hb)
              have cb3 := (hb.cell (p := ⟨g, off + j, none⟩) (World.block_lt_of_cell? _ _ cb)).trans cb
              clear hb cb c0 c1 c2 c3 c4 c5 c6 c7 c8 c9 c10 c11
              obtain ⟨c0, c1, c2, c3, c4, c5, c6, c7, c8, c9, c10, c11⟩ := sg_box HX3.out
              go_wp2_with fail
              refine (HRY.out _).mono ?_
              rintro e w4 ⟨rfl, hb⟩
              have HB4 := Lib.hid (bch HB3.out hb HB3.out.size)
              have HX4 := Lib.hid (heap_keep HX3.out hb)
              have HZ4 := Lib.hid (heap_keep HZ3.out hb)
              have cb4 := (hb.cell (p := ⟨g, off + j, none⟩) (World.block_lt_of_cell? _ _ cb3)).trans cb3
              clear hb cb3 c0 c1 c2 c3 c4 c5 c6 c7 c8 c9 c10 c11
              go_upto_region 17 with (fail)
              obtain ⟨w5, hw5⟩ : ∃ w5, w5 = w4.alloc (.cells (sgA (replyI s (waitsI s) 1)) tSaga) := ⟨_, rfl⟩
              rw [← hw5]
              have HT5 := Lib.hid (show w5.heap[w4.heap.size]? = some (.cells (sgA (replyI s (waitsI s) 1)) tSaga (0, 0)) by rw [hw5]; exact heap_new _ _)
              have HB5 := Lib.hid (show Below w.heap.size w w5 by rw [hw5]; exact HB4.out.alloc HB4.out.size _)
              have HX5 := Lib.hid (show w5.heap[b5]? = some (.cells (sgA s) tSaga (0, 0)) by rw [hw5]; exact heap_keep HX4.out (below_alloc _ _))
              have HZ5 := Lib.hid (show w5.heap[w.heap.size + 1]? = some (.cells (sgA sg0) tSaga (0, 0)) by rw [hw5]; exact heap_keep HZ4.out (below_alloc _ _))
              clear hw5 HB4 HX4 HZ4 HB3 HX3 HZ3
              obtain ⟨c0, c1, c2, c3, c4, c5, c6, c7, c8, c9, c10, c11⟩ := sg_box HT5.out
              obtain ⟨f0, f1, f2, f3, f4, f5, f6, f7, f8, f9, f10, f11⟩ := froz12 HX5.out
              obtain ⟨m0, m1, m2, m3, m4, m5, m6, m7, m8, m9, m10, m11⟩ := cell12 HX5.out
              have ht6 := turned_set12 w5 b5 (.int .i64 (replyI s (waitsI s) 1).id) (.string ⟨(replyI s (waitsI s) 1).ref.toArray⟩) (.string ⟨(replyI s (waitsI s) 1).sku.toArray⟩) (.int .i64 (replyI s (waitsI s) 1).qty) (.int .i64 (replyI s (waitsI s) 1).amt) (.int .i64 (replyI s (waitsI s) 1).d0) (.int .i64 (replyI s (waitsI s) 1).d1) (.int .i64 (replyI s (waitsI s) 1).d2) (.int .i64 (replyI s (waitsI s) 1).d3) (.int .i64 (replyI s (waitsI s) 1).d4) (.int .i64 (replyI s (waitsI s) 1).d5) (.bool (replyI s (waitsI s) 1).can)
              have HB6 := Lib.hid (Below.turned HB5.out ht6 (fun i h => by omega) HB5.out.size)
              have HX6 := Lib.hid (sg_store HX5.out (replyI s (waitsI s) 1))
              have HZ6 := Lib.hid (heap_turned' HZ5.out ht6 (by omega))
              clear ht6 HB5 HX5 HZ5 HT5
              go_wp2_with fail
              go_roundw
              case rel => exact ⟨j + 1, (replyI s (waitsI s) 1), by go_num, by omega, HNN.out, HX6.out, HZ6.out, HB6.out⟩
              case measure => simp [intOf]; omega
    · have HF := Lib.hid (show sgV (wentI i r k q a l) = sgV s by unfold wentI; rw [HS0.out, HG.out, List.drop_of_length_le (by omega)]; rfl)
      have hj9 : (l.length : Int) ≤ j ∨ (j : Int) < l.length ∧ (9 : Int) ≤ j := by omega
      rcases hj9 with hj9 | ⟨hj8, hj9⟩
      · obtain ⟨c0, c1, c2, c3, c4, c5, c6, c7, c8, c9, c10, c11⟩ := sg_box HXr.out
        obtain ⟨m0, m1, m2, m3, m4, m5, m6, m7, m8, m9, m10, m11⟩ := cell12 HZr.out
        obtain ⟨f0, f1, f2, f3, f4, f5, f6, f7, f8, f9, f10, f11⟩ := froz12 HZr.out
        have hzz := heap_lt HXr.out
        go_wp2_with fail
        refine bodyPost_ret (v := sgV s) (by simp [results, Tryd.results20, go_sem, m0, m1, m2, m3, m4, m5, m6, m7, m8, m9, m10, m11]) rfl ⟨by rw [HF.out], ?_⟩
        exact Below.turned HBr.out (turned_set12 wr (w.heap.size + 1) _ _ _ _ _ _ _ _ _ _ _ _) (fun i h => by omega) HBr.out.size
      · obtain ⟨c0, c1, c2, c3, c4, c5, c6, c7, c8, c9, c10, c11⟩ := sg_box HXr.out
        obtain ⟨m0, m1, m2, m3, m4, m5, m6, m7, m8, m9, m10, m11⟩ := cell12 HZr.out
        obtain ⟨f0, f1, f2, f3, f4, f5, f6, f7, f8, f9, f10, f11⟩ := froz12 HZr.out
        have hzz := heap_lt HXr.out
        go_wp2_with fail
        refine bodyPost_ret (v := sgV s) (by simp [results, Tryd.results20, go_sem, m0, m1, m2, m3, m4, m5, m6, m7, m8, m9, m10, m11]) rfl ⟨by rw [HF.out], ?_⟩
        exact Below.turned HBr.out (turned_set12 wr (w.heap.size + 1) _ _ _ _ _ _ _ _ _ _ _ _) (fun i h => by omega) HBr.out.size
end Go.Proofs.YtlfibaijpimocaaDoor

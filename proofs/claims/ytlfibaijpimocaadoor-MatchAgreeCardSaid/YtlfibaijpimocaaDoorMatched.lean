/- The chapter's order: the law's matched answers true. -/
import Derived.Test.YtlfibaijpimocaaDoorWent
import Derived.Test.YtlfibaijpimocaaDoorMatchFind2
namespace Go.Proofs.YtlfibaijpimocaaDoor
open Go.RowKit Go.Maps Key Rw Sa Ma

abbrev mS : Sg := ⟨1, [97], [98], 2, 500, 2, 1, 0, 0, 0, 0, false⟩
abbrev mR : R5 := ((1, 1), 1, 500, 0)
abbrev mI1 : In.Inn := ⟨(0, 1, [mR]), In.noS, In.noS⟩
abbrev mI2 : In.Inn := ⟨(0, 1, [mR]), (1, 1, []), In.noS⟩
theorem m_went : sgV (wentI 1 [97] [98] 2 500 [1]) = sgV mS := by kernel_rfl
theorem m_e1 : In.accE In.nil (0, 1, [mR]) = 0 := by decide +kernel
theorem m_e2 : In.accE mI1 (1, 1, []) = 0 := by decide +kernel
theorem m_i1 : In.accI In.nil (0, 1, [mR]) = mI1 := by unfold In.accI; rw [if_pos m_e1]; rfl
theorem m_i2 : In.accI mI1 (1, 1, []) = mI2 := by unfold In.accI; rw [if_pos m_e2]; rfl
theorem m_f1 : findD [mS] mI1 = [((1, 1), 1)] := by decide +kernel
theorem m_f2 : findD [mS] mI2 = [((1, 0), 2), ((1, 1), 1)] := by decide +kernel
theorem m_g1 : In.Fine mI1 := ⟨.inr ⟨rfl, by decide +kernel⟩, .inl rfl, .inl rfl⟩
theorem m_g2 : In.Fine mI2 := ⟨.inr ⟨rfl, by decide +kernel⟩, .inr ⟨rfl, by decide +kernel⟩, .inl rfl⟩

/-- A block that has been made of elements reads as them. -/
theorem slk_block {α : Type} {enc : α → List Value} {z : Nat} (hz : ∀ x, (enc x).length = z) (h0 : 0 < z) {w : World} {b : Nat} {arr : Array Value} {T : TypeId} {fr : Nat × Nat} (l : List α) {c : Nat} (h : w.heap[b]? = some (.cells arr T fr)) (ha : arr.toList = l.flatMap enc) (hl : l.length ≤ c) (hc : c ≤ maxLen) :
    SlK w w.heap.size z (fun cs x => cs = enc x) (.slice (some ⟨b, 0, none⟩) l.length c) l := by
  refine ⟨_, _, _, rfl, rfl, hl, hc, fun i x hi => ⟨b, 0, enc x, rfl, heap_lt h, hz x, fun j u hj => ?_, rfl⟩⟩
  have hjz : j < z := by have := (List.getElem?_eq_some_iff.1 hj).1; rwa [hz] at this
  refine cell_at h _ ?_
  rw [← Array.getElem?_toList, ha, flat_get hz h0, Nat.zero_add, Nat.mul_comm, Nat.mul_add_div h0, Nat.div_eq_of_lt hjz, Nat.add_zero, Nat.mul_add_mod, Nat.mod_eq_of_lt hjz, hi]
  exact hj
theorem sgs_block {w : World} {b : Nat} {arr : Array Value} {T : TypeId} {fr : Nat × Nat} (l : List Sg) {c : Nat} (h : w.heap[b]? = some (.cells arr T fr)) (ha : arr.toList = l.flatMap encS) (hl : l.length ≤ c) (hc : c ≤ maxLen) : Sgs w (.slice (some ⟨b, 0, none⟩) l.length c) l :=
  ⟨slk_block encS_len (by decide) l h ha hl hc, fun n c e => by injection e with e; cases e⟩
theorem rd_block {w : World} {b : Nat} {arr : Array Value} {T : TypeId} {fr : Nat × Nat} (l : List R5) {c : Nat} (h : w.heap[b]? = some (.cells arr T fr)) (ha : arr.toList = l.flatMap encR) (hl : l.length ≤ c) (hc : c ≤ maxLen) : Rd w (.slice (some ⟨b, 0, none⟩) l.length c) l :=
  ⟨slk_block encR_len (by decide) l h ha hl hc, fun n c e => by injection e with e; cases e⟩
theorem bys_block {w : World} {b : Nat} {arr : Array Value} {T : TypeId} {fr : Nat × Nat} (l : List Int) {c : Nat} (h : w.heap[b]? = some (.cells arr T fr)) (ha : arr.toList = l.flatMap fun x => [.int .u8 x]) (hl : l.length ≤ c) (hc : c ≤ maxLen) (hx : ∀ x ∈ l, 0 ≤ x ∧ x ≤ 255) : Bys w (.slice (some ⟨b, 0, none⟩) l.length c) l :=
  SlK.mono (slk_block (enc := fun x => [.int .u8 x]) (fun _ => rfl) (by decide) l h ha hl hc) (Below.refl _ _) (Nat.le_refl _) (fun cs x hm e => ⟨e, hx x hm⟩)
theorem accept_at {w : World} {v : Value} {I J : In.Inn} {x : In.Stm} {u : Value} (h : InP w v I) (hu : Rd w u x.2.2) (hT : PT w) (hg : In.Fine I) (he : In.accE I x = 0) (hJ : In.accI I x = J) :
    Calls Tryd.prog 16 #[v, .agg #[.int .i64 x.1, .int .i64 x.2.1, u]] w fun e w' => ∃ v', e = .returned (.tuple #[v', .int .i64 0]) ∧ InP w' v' J ∧ (∀ b, b < w.heap.size → Av b v I → Av b v' J) ∧ Below w.heap.size w w' := by rw [← hJ]; exact accept_ok w v I x u h hu hT hg he

set_option linter.unusedSimpArgs false in
set_option linter.unusedVariables false in
set_option maxRecDepth 100000 in
set_option maxHeartbeats 4000000 in
theorem matched_any (w : World) (hT : PT w) : Calls Tryd.prog 9 #[] w fun e w' => e = .returned (.bool true) ∧ Below w.heap.size w w' := by
  have HT := Lib.hid hT
  clear hT
  go_enter Tryd.func9, Tryd.ntmps9
  go_wp2_with fail
  obtain ⟨wa, hA⟩ : ∃ wa, wa = (w.alloc (.cells #[.int .i64 1, .string ⟨#[97]⟩, .string ⟨#[98]⟩, .int .i64 2, .int .i64 500] tOrder)).alloc (.cells #[.int .u8 1] 5) := ⟨_, rfl⟩
  obtain ⟨hB, hO, hZ⟩ := two_new w _ _ tOrder 5 hA
  have HB := Lib.hid hB; have HA := Lib.hid hA
  have HY := Lib.hid (bys_block (c := 1) [1] hZ rfl (by decide) (by decide) (by simp))
  clear hA hB hO hZ
  rw [← HA.out]
  refine (went_any 1 [97] [98] 2 500 _ [1] _ HY.out).mono ?_
  rintro e w1 ⟨rfl, hb⟩
  rw [m_went]
  have HB1 := Lib.hid (bch HB.out hb HB.out.size)
  have hw1 := HB1.out.size
  clear hb HY HA HB
  go_wp2_with fail
  obtain ⟨w2, hA⟩ : ∃ w2, w2 = ((w1.alloc (.cells (sgA mS) tSaga)).alloc (.cells zIn tIn)).alloc (.cells #[.int .i64 1, .int .i64 1, .int .i64 1, .int .i64 500, .int .i64 0] tRow) := ⟨_, rfl⟩
  obtain ⟨hB, hS, hI, hR⟩ := three_new w1 _ _ _ tSaga tIn tRow hA
  have HA := Lib.hid hA
  have HB2 := Lib.hid (bch HB1.out hB HB1.out.size)
  have HS2 := Lib.hid hS; have HI2 := Lib.hid hI
  have HR2 := Lib.hid (rd_block (c := 1) [mR] hR rfl (by decide) (by decide))
  clear hA hB hS hI hR HB1
  rw [← HA.out]
  refine (accept_at (x := (0, 1, [mR])) (InP.nil w2) HR2.out (HT.out.below HB2.out) In.Fine.nil m_e1 m_i1).mono ?_
  rintro e w3 ⟨v3, rfl, hv3, hav, hb⟩
  have HAV := Lib.hid (hav (w1.heap.size + 1) (heap_lt HI2.out) (Av.nil _))
  have HB3 := Lib.hid (bch HB2.out hb HB2.out.size)
  have HS3 := Lib.hid (heap_keep HS2.out hb); have HI3 := Lib.hid (heap_keep HI2.out hb)
  have HV3 := Lib.hid hv3
  obtain ⟨A0, n0, c0, A1, n1, c1, A2, n2, c2, m, rfl, _⟩ := hv3
  clear hav hb HB2 HS2 HI2 HR2 HA
  have hz3 := heap_lt HI3.out
  have hz30 : w1.heap.size < w3.heap.size := by omega
  obtain ⟨m0, m1, m2, m3, m4, m5, m6, m7, m8, m9⟩ := cell10 HI3.out
  obtain ⟨f0, f1, f2, f3, f4, f5, f6, f7, f8, f9⟩ := froz10 HI3.out
  go_upto_region 7 with (fail)
  obtain ⟨w4, hw4⟩ : ∃ w4, w4 = set10w w3 (w1.heap.size + 1) (.int .i64 0) (.int .i64 1) (.slice A0 n0 c0) (.int .i64 In.noS.1) (.int .i64 In.noS.2.1) (.slice A1 n1 c1) (.int .i64 In.noS.1) (.int .i64 In.noS.2.1) (.slice A2 n2 c2) (.map m) := ⟨_, rfl⟩
  rw [show (((((((((w3.setCell ⟨w1.heap.size + 1, 0, none⟩ (.int .i64 0)).setCell ⟨w1.heap.size + 1, 1, none⟩ (.int .i64 1)).setCell ⟨w1.heap.size + 1, 2, none⟩ (.slice A0 n0 c0)).setCell ⟨w1.heap.size + 1, 3, none⟩ (.int .i64 In.noS.1)).setCell ⟨w1.heap.size + 1, 4, none⟩ (.int .i64 In.noS.2.1)).setCell ⟨w1.heap.size + 1, 5, none⟩ (.slice A1 n1 c1)).setCell ⟨w1.heap.size + 1, 6, none⟩ (.int .i64 In.noS.1)).setCell ⟨w1.heap.size + 1, 7, none⟩ (.int .i64 In.noS.2.1)).setCell ⟨w1.heap.size + 1, 8, none⟩ (.slice A2 n2 c2)).setCell ⟨w1.heap.size + 1, 9, none⟩ (.map m) = w4 from hw4.symm]
  have ht4 : Turned (fun j => j = w1.heap.size + 1) w3 w4 := by rw [hw4]; exact turned_set10 _ _ _ _ _ _ _ _ _ _ _ _
  have HI4 := Lib.hid (show w4.heap[w1.heap.size + 1]? = some (.cells #[.int .i64 0, .int .i64 1, .slice A0 n0 c0, .int .i64 In.noS.1, .int .i64 In.noS.2.1, .slice A1 n1 c1, .int .i64 In.noS.1, .int .i64 In.noS.2.1, .slice A2 n2 c2, .map m] tIn (0, 0)) by rw [hw4]; exact set10 HI3.out _ _ _ _ _ _ _ _ _ _)
  have HB4 := Lib.hid (Below.turned HB3.out ht4 (fun i h => by omega) HB3.out.size)
  have HS4 := Lib.hid (heap_turned HS3.out ht4 (by omega))
  have HV4 := Lib.hid (HV3.out.turned ht4 (fun b hb => by rw [hb]; exact HAV.out))
  clear hw4 ht4 HB3 HS3 HI3 HV3 m0 m1 m2 m3 m4 m5 m6 m7 m8 m9 f0 f1 f2 f3 f4 f5 f6 f7 f8 f9
  obtain ⟨i0, i1, i2, i3, i4, i5, i6, i7, i8, i9⟩ := cell10 HI4.out
  have hz4 := heap_lt HI4.out
  have hz40 : w1.heap.size < w4.heap.size := by omega
  obtain ⟨c0', c1', c2', c3', c4', c5', c6', c7', c8', c9', c10', c11'⟩ := sg_box HS4.out
  go_wp2_with fail
  obtain ⟨w5, hw5⟩ : ∃ w5, w5 = w4.alloc (.cells (sgA mS) tSaga) := ⟨_, rfl⟩
  rw [← hw5]
  have hB5 : Below w4.heap.size w4 w5 := by rw [hw5]; exact below_alloc _ _
  have hX5 : w5.heap[w4.heap.size]? = some (.cells (sgA mS) tSaga (0, 0)) := by rw [hw5]; exact heap_new _ _
  have HG5 := Lib.hid (sgs_block (c := 1) [mS] hX5 rfl (by decide) (by decide))
  have HB5 := Lib.hid (bch HB4.out hB5 HB4.out.size)
  have HI5 := Lib.hid (heap_keep HI4.out hB5); have HS5 := Lib.hid (heap_keep HS4.out hB5); have HV5 := Lib.hid (HV4.out.below hB5)
  clear hw5 hB5 hX5 HB4 HI4 HS4 HV4 i0 i1 i2 i3 i4 i5 i6 i7 i8 i9 c0' c1' c2' c3' c4' c5' c6' c7' c8' c9' c10' c11'
  refine (find_any w5 _ _ [mS] mI1 (by decide) (by simp) HG5.out HV5.out m_g1 (HT.out.below HB5.out)).mono ?_
  rintro e w6 ⟨v6, rfl, ho, hb⟩
  rw [m_f1] at ho
  have HB6 := Lib.hid (bch HB5.out hb HB5.out.size)
  have HI6 := Lib.hid (heap_keep HI5.out hb); have HS6 := Lib.hid (heap_keep HS5.out hb); have HV6 := Lib.hid (HV5.out.below hb)
  obtain ⟨_, h0⟩ | ⟨g6, c6, e6, hg6, hgl6, _⟩ := own_ptr ho
  · cases h0
  rw [e6] at ho ⊢
  have HF6 := Lib.hid ho
  have hw5g : w1.heap.size + 1 < w5.heap.size := heap_lt HI5.out
  clear hb ho e6 HB5 HI5 HS5 HV5 HG5
  have hz6 := heap_lt HI6.out
  have hz60 : w1.heap.size < w6.heap.size := by omega
  obtain ⟨i0, i1, i2, i3, i4, i5, i6, i7, i8, i9⟩ := cell10 HI6.out
  go_wp2_with fail
  refine (accept_at (x := (1, 1, [])) HV6.out (Rd.nil w6) (HT.out.below HB6.out) m_g1 m_e2 m_i2).mono ?_
  rintro e w7 ⟨v7, rfl, hv7, hav, hb⟩
  have HAV7 := Lib.hid (hav (w1.heap.size + 1) hz6 HAV.out)
  have HB7 := Lib.hid (bch HB6.out hb HB6.out.size)
  have HS7 := Lib.hid (heap_keep HS6.out hb); have HI7 := Lib.hid (heap_keep HI6.out hb)
  have HF7 := Lib.hid (own_keep HF6.out hb)
  have HV7 := Lib.hid hv7
  obtain ⟨B0, p0, q0, B1, p1, q1, B2, p2, q2, m', rfl, _⟩ := hv7
  clear hav hb HB6 HI6 HS6 HV6 HF6 i0 i1 i2 i3 i4 i5 i6 i7 i8 i9
  obtain ⟨m0, m1, m2, m3, m4, m5, m6, m7, m8, m9⟩ := cell10 HI7.out
  obtain ⟨f0, f1, f2, f3, f4, f5, f6, f7, f8, f9⟩ := froz10 HI7.out
  go_upto_region 9 with (fail)
  obtain ⟨w8, hw8⟩ : ∃ w8, w8 = set10w w7 (w1.heap.size + 1) (.int .i64 0) (.int .i64 1) (.slice B0 p0 q0) (.int .i64 1) (.int .i64 1) (.slice B1 p1 q1) (.int .i64 In.noS.1) (.int .i64 In.noS.2.1) (.slice B2 p2 q2) (.map m') := ⟨_, rfl⟩
  rw [show (((((((((w7.setCell ⟨w1.heap.size + 1, 0, none⟩ (.int .i64 0)).setCell ⟨w1.heap.size + 1, 1, none⟩ (.int .i64 1)).setCell ⟨w1.heap.size + 1, 2, none⟩ (.slice B0 p0 q0)).setCell ⟨w1.heap.size + 1, 3, none⟩ (.int .i64 1)).setCell ⟨w1.heap.size + 1, 4, none⟩ (.int .i64 1)).setCell ⟨w1.heap.size + 1, 5, none⟩ (.slice B1 p1 q1)).setCell ⟨w1.heap.size + 1, 6, none⟩ (.int .i64 In.noS.1)).setCell ⟨w1.heap.size + 1, 7, none⟩ (.int .i64 In.noS.2.1)).setCell ⟨w1.heap.size + 1, 8, none⟩ (.slice B2 p2 q2)).setCell ⟨w1.heap.size + 1, 9, none⟩ (.map m') = w8 from hw8.symm]
  have ht8 : Turned (fun j => j = w1.heap.size + 1) w7 w8 := by rw [hw8]; exact turned_set10 _ _ _ _ _ _ _ _ _ _ _ _
  have HI8 := Lib.hid (show w8.heap[w1.heap.size + 1]? = some (.cells #[.int .i64 0, .int .i64 1, .slice B0 p0 q0, .int .i64 1, .int .i64 1, .slice B1 p1 q1, .int .i64 In.noS.1, .int .i64 In.noS.2.1, .slice B2 p2 q2, .map m'] tIn (0, 0)) by rw [hw8]; exact set10 HI7.out _ _ _ _ _ _ _ _ _ _)
  have HB8 := Lib.hid (Below.turned HB7.out ht8 (fun i h => by omega) HB7.out.size)
  have HS8 := Lib.hid (heap_turned HS7.out ht8 (by omega))
  have HV8 := Lib.hid (HV7.out.turned ht8 (fun b hb => by rw [hb]; exact HAV7.out))
  have HF8 := Lib.hid (own_turned HF7.out ht8 (fun j hj => by simp [Value.ownBlock] at hj; omega))
  clear hw8 ht8 HB7 HS7 HI7 HV7 HF7 m0 m1 m2 m3 m4 m5 m6 m7 m8 m9 f0 f1 f2 f3 f4 f5 f6 f7 f8 f9
  obtain ⟨i0, i1, i2, i3, i4, i5, i6, i7, i8, i9⟩ := cell10 HI8.out
  have hz8 := heap_lt HI8.out
  have hz80 : w1.heap.size < w8.heap.size := by omega
  obtain ⟨c0', c1', c2', c3', c4', c5', c6', c7', c8', c9', c10', c11'⟩ := sg_box HS8.out
  go_wp2_with fail
  obtain ⟨w9, hw9⟩ : ∃ w9, w9 = w8.alloc (.cells (sgA mS) tSaga) := ⟨_, rfl⟩
  rw [← hw9]
  have hB9 : Below w8.heap.size w8 w9 := by rw [hw9]; exact below_alloc _ _
  have hX9 : w9.heap[w8.heap.size]? = some (.cells (sgA mS) tSaga (0, 0)) := by rw [hw9]; exact heap_new _ _
  have HG9 := Lib.hid (sgs_block (c := 1) [mS] hX9 rfl (by decide) (by decide))
  have HB9 := Lib.hid (bch HB8.out hB9 HB8.out.size)
  have HV9 := Lib.hid (HV8.out.below hB9); have HF9 := Lib.hid (own_keep HF8.out hB9)
  clear hw9 hB9 hX9 HB8 HI8 HS8 HV8 HF8 i0 i1 i2 i3 i4 i5 i6 i7 i8 i9 c0' c1' c2' c3' c4' c5' c6' c7' c8' c9' c10' c11'
  refine (find_any w9 _ _ [mS] mI2 (by decide) (by simp) HG9.out HV9.out m_g2 (HT.out.below HB9.out)).mono ?_
  rintro e wa ⟨va, rfl, ho, hb⟩
  rw [m_f2] at ho
  obtain ⟨_, h0⟩ | ⟨ga, ca, ea, hga, hgla, _⟩ := own_ptr ho
  · cases h0
  rw [ea] at ho ⊢
  have HBa := Lib.hid (bch HB9.out hb HB9.out.size)
  have hf := own_keep HF9.out hb
  have x0 := own_cellK (l := [((1, 1), 1)]) encD_len (by decide) hf (i := 0) rfl 0 (by decide)
  have x1 := own_cellK (l := [((1, 1), 1)]) encD_len (by decide) hf (i := 0) rfl 1 (by decide)
  have x2 := own_cellK (l := [((1, 1), 1)]) encD_len (by decide) hf (i := 0) rfl 2 (by decide)
  have y0 := own_cellK (l := [((1, 0), 2), ((1, 1), 1)]) encD_len (by decide) ho (i := 0) rfl 2 (by decide)
  have y1 := own_cellK (l := [((1, 0), 2), ((1, 1), 1)]) encD_len (by decide) ho (i := 1) rfl 2 (by decide)
  simp only [encD, List.getElem?_cons_zero, List.getElem?_cons_succ] at x0 x1 x2 y0 y1
  clear hb ho ea hf HB9 HV9 HF9 HG9
  go_wp2_with fail
  go_ret
  exact ⟨rfl, HBa.out⟩
end Go.Proofs.YtlfibaijpimocaaDoor

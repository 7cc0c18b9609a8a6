/- manifest.Print: what it computes. -/
import Derived.Test.YtgpjbigelblanaaGreatDoorManifestCell
import Derived.Test.YtgpjbigelblanaaGreatDoorTabO
namespace Go.Proofs.YtgpjbigelblanaaGreatDoor
open Go.RowKit Go.Maps Key Mon Mf Rw

namespace Mf
theorem fits_table {q : Int} {l : List R5} (h : validB 2 q l = true) : Fits (table q l) := by
  have hr := room_table h
  refine ⟨by have := linesTo_len (bookOf l) 60; unfold table; rw [table_len]; omega, fun r hr => ?_, fun r hr f hf => ?_⟩
  · unfold table tableG at hr
    simp only [List.mem_cons, List.mem_append, List.not_mem_nil, or_false] at hr
    rcases hr with rfl | h2 | rfl
    · simp
    · obtain ⟨o, _, _, rfl⟩ := linesTo_mem h2; simp
    · simp
  · have hvp := valid_parts h
    have hts := total_small h
    have hll := linesTo_len (bookOf l) 60
    unfold table tableG at hr
    simp only [List.mem_cons, List.mem_append, List.not_mem_nil, or_false] at hr
    rcases hr with rfl | h2 | rfl
    · have a := Sk.itoa_len (n := q) 9 (by omega) (by simp; omega)
      simp only [List.mem_cons, List.not_mem_nil, or_false] at hf
      rcases hf with rfl | rfl
      · decide
      · omega
    · obtain ⟨o, _, ho, rfl⟩ := linesTo_mem h2
      have h1 := room_line (book_ok hvp.2.2.2.1) ho
      have h2 := Csv.roomRow_mem _ f hf
      omega
    · have a := Sk.itoa_len (n := (((linesTo (bookOf l) 60).length : Nat) : Int)) 1 (by omega) (by simp; omega)
      have b := Sk.itoa_len (n := total l) 5 (by omega) (by simp; omega)
      simp only [List.mem_cons, List.not_mem_nil, or_false] at hf
      rcases hf with rfl | rfl | rfl
      · decide
      · omega
      · omega
theorem cellW_no {x : Say} : cellW x = wNo ↔ x.1 = 0 := by
  unfold cellW
  constructor
  · intro h
    by_cases h1 : x.1 = 0
    · exact h1
    · rw [if_neg h1] at h
      by_cases h2 : x.1 = 2
      · rw [if_pos h2] at h; exact absurd h (by decide)
      · rw [if_neg h2] at h; unfold wDone wNo at h; simp at h
  · intro h; rw [if_pos h]
theorem total_take {l : List R5} {k : Nat} {x : R5} (h : l[k]? = some x) : total (l.take (k + 1)) = total (l.take k) + x.2.2.2 := by rw [take_succ' h, total_append]; simp [total]
theorem lineO_yes {g : Book} {o : Nat} (h : ¬ ((g o).1.1 = 0 ∧ (g o).2.1 = 0)) : lineO g o = [[Lib.itoa (o : Int), cellW (g o).1, cellW (g o).2]] := by unfold lineO; rw [if_neg h]
theorem lineO_no {g : Book} {o : Nat} (h : (g o).1.1 = 0 ∧ (g o).2.1 = 0) : lineO g o = [] := by unfold lineO; rw [if_pos h]
end Mf
theorem OfRows.step {l : List R5} {E : List ((Int × Int) × R5)} {k : Nat} {x : R5} (hp : l.Pairwise fun x y => lessR x y = true) (hx : l[k]? = some x) (h : OfRows (l.take k) E) : OfRows (l.take (k + 1)) ((x.1, x) :: without E x.1) := by
  intro p
  rw [take_succ' hx, List.mem_cons, mem_without, h]
  constructor
  · rintro (rfl | ⟨⟨y, hy, rfl⟩, _⟩)
    · exact ⟨x, by simp, rfl⟩
    · exact ⟨y, by simp [hy], rfl⟩
  · rintro ⟨y, hy, rfl⟩
    rcases List.mem_append.1 hy with hy | hy
    · refine .inr ⟨⟨y, hy, rfl⟩, fun e => ?_⟩
      obtain ⟨i, hi⟩ := List.getElem?_of_mem hy
      obtain ⟨hi1, hi2⟩ := List.getElem?_eq_some_iff.1 hi
      obtain ⟨hk1, hk2⟩ := List.getElem?_eq_some_iff.1 hx
      rw [List.length_take] at hi1
      rw [List.getElem_take] at hi2
      have hlt := List.pairwise_iff_getElem.1 hp i k (by omega) hk1 (by omega)
      rw [hi2, hk2] at hlt
      unfold lessR at hlt
      simp only [] at e
      rw [e] at hlt
      unfold lessB at hlt
      simp at hlt
    · simp only [List.mem_singleton] at hy
      subst hy
      exact .inl rfl
theorem OfRows.zero (l : List R5) : OfRows (l.take 0) [] := by intro p; simp
theorem two_blocks' (w : World) (o p : Obj) {W : World} (h : (w.alloc o).alloc p = W) : Below w.heap.size w W ∧ W.heap[w.heap.size]? = some o ∧ W.heap[w.heap.size + 1]? = some p := two_blocks w o p h
theorem map_kept {w w' : World} {b : Nat} {E : List ((Int × Int) × R5)} {S : Nat → Prop} (h : MapL Tryz.prog tKey mkKey mkRow w b E) (ht : Turned S w w') (hb : ¬ S b) : MapL Tryz.prog tKey mkKey mkRow w' b E := h.block (ht.block b h.lt hb)

set_option linter.unusedSimpArgs false in
set_option linter.unusedVariables false in
set_option maxRecDepth 100000 in
set_option maxHeartbeats 4000000 in
theorem mprint_any (v : Value) (p q : Int) (l : List R5) (w : World) (hR : Rd w v l) (hS : MfW w) : Calls Tryz.prog 20 #[.agg #[.int .i64 p, .int .i64 q, v]] w fun e w' => e = .returned (printV (Mf.printS p q l)) ∧ Below w.heap.size w w' := by
  obtain ⟨k0, hk0, hz0, hz1, hz2⟩ := info_parts line_info
  obtain ⟨Av, cv, rfl, hcv, hcm⟩ := hR.shape
  obtain ⟨wa, hwa⟩ : ∃ wa, w.alloc (.cells #[.int .i64 p, .int .i64 q, .slice Av l.length cv] tStat) = wa := ⟨_, rfl⟩
  have HA := Lib.hid (show Below w.heap.size w wa by rw [← hwa]; exact below_alloc _ _)
  have HX := Lib.hid (show wa.heap[w.heap.size]? = some (.cells #[.int .i64 p, .int .i64 q, .slice Av l.length cv] tStat (0, 0)) by rw [← hwa]; exact heap_new _ _)
  have hWA := Lib.hid hwa
  have HR := Lib.hid hR; have HS := Lib.hid hS
  clear hwa hR hS
  obtain ⟨m0, m1, m2⟩ := cell3c HX.out
  by_cases hp : p = 2
  · have hpq := bneF hp
    cases hv : validB p q l with
    | false =>
      have HF := Lib.hid (show Mf.printS p q l = ([], 2) by unfold Mf.printS Mf.okP; rw [hv]; simp)
      have HV := Lib.hid (rowsValid_any wa p q (.slice Av l.length cv) l (HR.out.keep HA.out) (HS.out.below HA.out).pt)
      rw [hv] at HV
      clear hp hv
      go_enter Tryz.func20, Tryz.ntmps20
      go_upto_region 1 with (fail)
      rw [hWA.out]
      go_wp2_with (go_at_call 24; refine HV.out.mono ?_; rintro e w1 ⟨rfl, hb⟩; have HB := Lib.hid (bch HA.out hb HA.out.size); clear hb)
      go_ret2
      exact ⟨by rw [HF.out]; rfl, HB.out⟩
    | true =>
      subst hp
      have hf := Mf.fits_table hv
      have hvp := Mf.valid_parts hv
      have htot := Mf.total_small hv
      have HF := Lib.hid (show Mf.printS 2 q l = (Csv.printOf (Mf.table q l), 0) by unfold Mf.printS Mf.okP; rw [hv]; simp)
      have HV := Lib.hid (rowsValid_any wa 2 q (.slice Av l.length cv) l (HR.out.keep HA.out) (HS.out.below HA.out).pt)
      rw [hv] at HV
      have HFIT := Lib.hid hf
      have hl4 := hvp.2.2.1
      have HPUTQ := Lib.hid (fun W hM => mput_any q W (show InR q by unfold InR; have := hvp.1; have := hvp.2.1; omega) hM)
      have HOK := Lib.hid hvp.2.2.2.1
      have HRI := Lib.hid hvp.2.2.2.2
      have HBK := Lib.hid (Mf.book_ok hvp.2.2.2.1)
      have HTR := Lib.hid (fun (k : Nat) (x : R5) (hx : l[k]? = some x) => (show 0 ≤ Mf.total (l.take k) ∧ Mf.total (l.take k) ≤ 399600 ∧ 0 ≤ x.2.2.2 ∧ x.2.2.2 ≤ 999 from by
        have h1 := Mf.total_room (l := l.take k) fun y hy => hvp.2.2.2.1 y (List.mem_of_mem_take hy)
        have h2 : (l.take k).length ≤ l.length := List.length_take_le' _ _
        have h3 := (Mf.row_carry (hvp.2.2.2.1 x (List.mem_of_getElem? hx))).2.2.2.2.1
        omega))
      clear hv hf hvp
      have hmm := @run_makeMap Tryz.prog
      go_enter Tryz.func20, Tryz.ntmps20
      go_upto_region 1 with (fail)
      rw [hWA.out]
      go_upto_region 3 with (go_at_call 24; refine HV.out.mono ?_; rintro e w1 ⟨rfl, hb⟩; have HB1 := Lib.hid (bch HA.out hb HA.out.size); have HX1 := Lib.hid (heap_keep HX.out hb); clear hb m0 m1 m2)
      go_upto_region 4 with (fail)
      clear hmm
      obtain ⟨w2, hw2⟩ : ∃ w2, w2 = w1.alloc (.map #[] 0) := ⟨_, rfl⟩
      rw [← hw2]
      have hb2 : Below w1.heap.size w1 w2 := by rw [hw2]; exact below_alloc _ _
      have HM2 := Lib.hid (show MapL Tryz.prog tKey mkKey mkRow w2 w1.heap.size [] by rw [hw2]; exact MapL.made _ _ _ _ _)
      have HB2 := Lib.hid (bch HB1.out hb2 HB1.out.size); have HX2 := Lib.hid (heap_keep HX1.out hb2)
      have hmo : w.heap.size < w1.heap.size := heap_lt HX1.out
      clear hw2 hb2
      generalize w1.heap.size = mo at HM2 hmo ⊢
      obtain ⟨m0, m1, m2⟩ := cell3c HX2.out
      go_wp2_with fail
      clear m0 m1 m2
      go_loopw [5, 24] (fun t5 i wr => ∃ (k : Nat) (E : List ((Int × Int) × R5)), i = .int .i64 k ∧ t5 = .int .i64 (Mf.total (l.take k)) ∧ k ≤ l.length ∧ E.length ≤ k ∧ Hid (MapL Tryz.prog tKey mkKey mkRow wr mo E) ∧ Hid (OfRows (l.take k) E) ∧ Hid (wr.heap[w.heap.size]? = some (.cells #[.int .i64 2, .int .i64 q, .slice Av l.length cv] tStat (0, 0))) ∧ Hid (Below w.heap.size w wr)) (fun _ i _ => l.length - (intOf i).toNat)
      case atStart => exact ⟨0, [], rfl, rfl, by omega, by simp, HM2.out, OfRows.zero l, HX2.out, HB2.out⟩
      case round =>
        obtain ⟨k, E, rfl, rfl, hk, hel, HMr, HOr, HXr, HBr⟩ := hrel
        by_cases hkl : k < l.length
        · obtain ⟨x, hx⟩ : ∃ x, l[k]? = some x := ⟨_, List.getElem?_eq_getElem hkl⟩
          have hok := HOK.out x (List.mem_of_getElem? hx)
          have hrow := Mf.row_carry hok
          obtain ⟨g, off, n', c', e, d0, d1, d2, d3, d4⟩ := HR.out.cells HBr.out hx
          injection e with e1 e2 e3
          subst e1
          have HOS := Lib.hid (HOr.out.step HRI.out hx)
          have HTT := Lib.hid (Mf.total_take hx)
          have htr := HTR.out k x hx
          have hkI : (k : Int) < l.length := by omega
          obtain ⟨kl, hkl'⟩ := key_reads x.1 (by omega)
          have HL := Lib.hid hkl'
          obtain ⟨⟨xo, xd⟩, xc, xa, xq⟩ := x
          simp only [] at d0 d1 d2 d3 d4 htr
          clear hx hok hrow e2 e3 hkl'
          go_upto_region 8 with (fail)
          obtain ⟨wq, hW⟩ : ∃ wq, wq = wr.alloc (.cells #[.int .i64 xo, .int .i64 xd, .int .i64 xc, .int .i64 xa, .int .i64 xq] tRow) := ⟨_, rfl⟩
          rw [← hW]
          have hbW : Below wr.heap.size wr wq := by rw [hW]; exact below_alloc _ _
          have HRW := Lib.hid (show wq.heap[wr.heap.size]? = some (.cells #[.int .i64 xo, .int .i64 xd, .int .i64 xc, .int .i64 xa, .int .i64 xq] tRow (0, 0)) by rw [hW]; exact heap_new _ _)
          have HMW := Lib.hid (HMr.out.below hbW); have HXW := Lib.hid (heap_keep HXr.out hbW); have HBW := Lib.hid (bch HBr.out hbW HBr.out.size)
          have hmr := HMr.out.lt
          clear hW hbW d0 d1 d2 d3 d4
          generalize wr.heap.size = br at HRW hmr ⊢
          obtain ⟨r0, r1, r2, r3, r4⟩ := cell5 HRW.out
          have hel2 : E.length < maxLen := by unfold maxLen; omega
          go_upto_region 9 with (at_mapUpdate; go_loud (refine wpList_storeL _ rfl (.tmp 28) (.tmp 30) (.tmp 31) tBk rfl tKey tRow lawKey bkMap mo E rfl HMW.out hel2 (xo, xd) ((xo, xd), xc, xa, xq) rfl rfl HL.out (mkKey_inj _) ?_; intro wn hmn htn; have ht : Turned (fun j => j = mo) wq wn := Turned.of_grown htn.grown (fun j hj => by cases hj; rfl); have HMn := Lib.hid hmn; have HRn := Lib.hid (heap_turned HRW.out ht (by omega)); have HXn := Lib.hid (heap_turned HXW.out ht (by omega)); have HBn := Lib.hid (Below.turned HBW.out ht (fun i hi => by omega) (by have := HBW.out.size; omega)); clear ht hmn htn))
          clear r0 r1 r2 r3 r4
          obtain ⟨r0, r1, r2, r3, r4⟩ := cell5 HRn.out
          have hwrap : IntKind.i64.wrap (Mf.total (l.take k) + xq) = Mf.total (l.take k) + xq := IntWalk.i64_in _ (by omega)
          have hwl : (without E (xo, xd)).length ≤ k := Nat.le_trans (without_len _ _) hel
          go_wp2_with fail
          go_roundw
          case rel => exact ⟨k + 1, _, by go_num, by rw [HTT.out], by omega, by simp; omega, HMn.out, HOS.out, HXn.out, HBn.out⟩
          case measure => simp [intOf]; omega
        · obtain rfl : k = l.length := by omega
          rw [List.take_length] at HOr
          rw [List.take_length]
          obtain ⟨T, hT⟩ : ∃ T, Mf.total l = T := ⟨_, rfl⟩
          rw [hT] at htot ⊢
          have HTAB := Lib.hid (show Mf.table q l = Mf.tableG q (Mf.bookOf l) ((Mf.linesTo (Mf.bookOf l) 60).length : Nat) T by unfold Mf.table; rw [hT])
          have HPUTT := Lib.hid (fun W hM => mput_any T W (Mf.inr_small htot.1 (by omega)) hM)
          have hTl := Sk.itoa_len (n := T) 5 (by omega) (by simp; omega)
          clear hT hk hkl hel
          obtain ⟨m0, m1, m2⟩ := cell3c HXr.out
          go_wp2_with fail
          refine (HPUTQ.out _ (HS.out.below HBr.out).mw).mono ?_
          rintro e w2 ⟨rfl, hb2⟩
          have HB2 := Lib.hid (bch HBr.out hb2 HBr.out.size); have HM2 := Lib.hid (HMr.out.below hb2)
          clear hb2 m0 m1 m2
          go_upto_region 12 with (fail)
          obtain ⟨w3, hw3⟩ : ∃ w3, w3 = (w2.alloc (.cells #[.string ⟨#[109, 97, 110, 105, 102, 101, 115, 116]⟩, .string ⟨(Lib.itoa q).toArray⟩] tFld)).alloc (.cells #[.slice (some ⟨w2.heap.size, 0, none⟩) 2 2] tLine) := ⟨_, rfl⟩
          rw [← hw3]
          have h2 := two_blocks' w2 _ _ hw3.symm
          have HB3 := Lib.hid (bch HB2.out h2.1 HB2.out.size); have HM3 := Lib.hid (HM2.out.below h2.1)
          have HT3 := Lib.hid (show TabO (mo + 1) w3 (.slice (some ⟨w2.heap.size + 1, 0, none⟩) 1 1) [[Mf.wHead, Lib.itoa q]] [.slice (some ⟨w2.heap.size, 0, none⟩) 2 2] from TabO.one ⟨_, rfl, h2.2.1⟩ h2.2.2 (by have := HM2.out.lt; omega))
          have HOKK := HOK; have HRIK := HRI
          clear hw3 h2 HMr HTR
          generalize w2.heap.size = b2 at HT3 ⊢
          have HCE := Lib.hid (fun (o d : Int) (W : World) (hM : MapL Tryz.prog tKey mkKey mkRow W mo E) ho hd hS => mcell_any l E mo o d W HOr.out HOKK.out HRIK.out hM ho hd hS)
          go_wp2_with fail
          go_loopw [8, 9] (fun v8 i wr => ∃ (k : Nat) (vs : List Value), i = .int .i64 ((k + 1 : Nat) : Int) ∧ k ≤ 60 ∧ Hid (TabO (mo + 1) wr v8 ([Mf.wHead, Lib.itoa q] :: Mf.linesTo (Mf.bookOf l) k) vs) ∧ Hid (MapL Tryz.prog tKey mkKey mkRow wr mo E) ∧ Hid (Below w.heap.size w wr)) (fun _ i _ => 61 - (intOf i).toNat)
          case atStart => exact ⟨0, _, rfl, by omega, HT3.out, HM3.out, HB3.out⟩
          case round =>
            obtain ⟨k, vs, rfl, hk, HT, HMr, HBr⟩ := hrel
            obtain ⟨A4, c4, rfl, _⟩ := own_slice HT.out.own
            have hll := Mf.linesTo_len (Mf.bookOf l) k
            obtain ⟨n4, hn4⟩ : ∃ n4, (Mf.linesTo (Mf.bookOf l) k).length = n4 := ⟨_, rfl⟩
            have hlen4 : ([Mf.wHead, Lib.itoa q] :: Mf.linesTo (Mf.bookOf l) k).length = n4 + 1 := by simp [hn4]
            have HT := Lib.hid (show TabO (mo + 1) wr (.slice A4 (n4 + 1) c4) ([Mf.wHead, Lib.itoa q] :: Mf.linesTo (Mf.bookOf l) k) vs by have := HT.out; rw [hlen4] at this; exact this)
            have HN4 := Lib.hid hn4
            rw [hn4] at hll
            rw [hlen4]
            clear hn4
            by_cases hk60 : k < 60
            · have hkI : ((k + 1 : Nat) : Int) ≤ 60 := by omega
              have HPO := Lib.hid (fun W hM => mput_any ((k + 1 : Nat) : Int) W (show InR _ by unfold InR; omega) hM)
              have HC1 := Lib.hid (fun W hM hS => HCE.out ((k + 1 : Nat) : Int) 2 W hM (by omega) (by omega) hS)
              have HC2 := Lib.hid (fun W hM hS => HCE.out ((k + 1 : Nat) : Int) 5 W hM (by omega) (by omega) hS)
              have HLS := Lib.hid (Mf.linesTo_succ (Mf.bookOf l) k)
              have hc1 : Mf.cellW (Mf.bookOf l (k + 1)).1 = Mf.cellW (sayR (deedRow l ((k + 1 : Nat) : Int) 2)) := rfl
              have hc2 : Mf.cellW (Mf.bookOf l (k + 1)).2 = Mf.cellW (sayR (deedRow l ((k + 1 : Nat) : Int) 5)) := rfl
              have hl1 := Mf.cellW_len (HBK.out (k + 1)).1
              have hl2 := Mf.cellW_len (HBK.out (k + 1)).2
              have hno1 := Mf.cellW_no (x := (Mf.bookOf l (k + 1)).1)
              have hno2 := Mf.cellW_no (x := (Mf.bookOf l (k + 1)).2)
              have HLY := Lib.hid (fun h => Mf.lineO_yes (g := Mf.bookOf l) (o := k + 1) h)
              have HLN := Lib.hid (fun h => Mf.lineO_no (g := Mf.bookOf l) (o := k + 1) h)
              rw [← hc1] at HC1
              rw [← hc2] at HC2
              obtain ⟨V1, hV1⟩ : ∃ V, Mf.cellW (Mf.bookOf l (k + 1)).1 = V := ⟨_, rfl⟩
              obtain ⟨V2, hV2⟩ : ∃ V, Mf.cellW (Mf.bookOf l (k + 1)).2 = V := ⟨_, rfl⟩
              rw [hV1] at HC1 hl1 hno1 HLY
              rw [hV2] at HC2 hl2 hno2 HLY
              have HLY := Lib.hid (fun (h : ¬ (V1 = Mf.wNo ∧ V2 = Mf.wNo)) => (HLY.out fun a => h (by rw [hno1, hno2]; exact a) : Mf.lineO (Mf.bookOf l) (k + 1) = [[Lib.itoa ((k + 1 : Nat) : Int), V1, V2]]))
              have HLN := Lib.hid (fun (h : V1 = Mf.wNo ∧ V2 = Mf.wNo) => HLN.out ⟨hno1.1 h.1, hno2.1 h.2⟩)
              clear hc1 hc2 hV1 hV2 hno1 hno2
              go_wp2_with fail
              refine (HC1.out _ HMr.out (HS.out.below HBr.out)).mono ?_
              rintro e u1 ⟨rfl, hb⟩
              have HM1 := Lib.hid (HMr.out.below hb); have HB1 := Lib.hid (bch HBr.out hb HBr.out.size); have HT1 := Lib.hid (HT.out.below hb)
              clear hb
              go_wp2_with fail
              refine (HC2.out _ HM1.out (HS.out.below HB1.out)).mono ?_
              rintro e u2 ⟨rfl, hb⟩
              have HM2 := Lib.hid (HM1.out.below hb); have HB2 := Lib.hid (bch HB1.out hb HB1.out.size); have HT2 := Lib.hid (HT1.out.below hb)
              clear hb
              by_cases h1 : V1 = Mf.wNo
              · have hq1 := text_eq h1
                unfold Mf.wNo at hq1
                by_cases h2 : V2 = Mf.wNo
                · have hq2 := text_eq h2
                  unfold Mf.wNo at hq2
                  have HROW := Lib.hid (HLN.out ⟨h1, h2⟩)
                  clear h1 h2
                  go_wp2_with fail
                  go_roundw
                  case rel => exact ⟨k + 1, vs, by go_num, by omega, by rw [HLS.out, HROW.out, List.append_nil]; exact HT2.out, HM2.out, HB2.out⟩
                  case measure => simp [intOf]; omega
                · have hq2 := text_ne h2
                  unfold Mf.wNo at hq2
                  have hne : ¬ (V1 = Mf.wNo ∧ V2 = Mf.wNo) := fun h => h2 h.2
                  clear h1 h2
                  have HROW := Lib.hid (HLY.out hne)
                  clear hne
                  go_wp2_with fail
                  refine (HPO.out _ (HS.out.below HB2.out).mw).mono ?_
                  rintro e u4 ⟨rfl, hc⟩
                  have HMu := Lib.hid (HM2.out.below hc); have HBu := Lib.hid (bch HB2.out hc HB2.out.size); have HTu := Lib.hid (HT2.out.below hc)
                  clear hc
                  go_wp2_with (at_builtin; refine wpList_append_any _ rfl (.tmp 60) (.tmp 66) 38 rfl (mo + 1) tLine k0 (.slice none 0 0) 1 24 Tryz.underlying38 hk0 hz0 hz1 hz2 rfl (by decide) (.slice A4 (n4 + 1) c4) (n4 + 1) vs rfl ((World.ownsRow.alloc (by have := HTu.out.own; rw [hlen4] at this; exact this) _).alloc _) 1 [.slice (some ⟨u4.heap.size, 0, none⟩) 3 3] (src_blk (xs := [.slice (some ⟨u4.heap.size, 0, none⟩) 3 3]) ((two_blocks' u4 _ _ rfl).2.2) (fun u hu => by simp only [List.mem_singleton] at hu; subst hu; rfl)) (by unfold maxLen; omega) (by omega) (by have := HBu.out.size; have := HMu.out.lt; simp; omega) ?_; intro v6 w6 ho6 hg6 hat6)
                  have hlit := lit_new u4 [Lib.itoa ((k + 1 : Nat) : Int), V1, V2] (xs := #[.string ⟨(Lib.itoa ((k + 1 : Nat) : Int)).toArray⟩, .string ⟨V1.toArray⟩, .string ⟨V2.toArray⟩]) rfl
                  have hT6 := ((HTu.out.below (below_alloc _ _)).below (below_alloc _ _)).push (r := [Lib.itoa ((k + 1 : Nat) : Int), V1, V2]) (hlit.below (below_alloc _ _)) (by rw [hlen4]; exact ho6) hg6
                  have HT6 := Lib.hid (show TabO (mo + 1) w6 v6 ([Mf.wHead, Lib.itoa q] :: Mf.linesTo (Mf.bookOf l) (k + 1)) _ by rw [HLS.out, HROW.out]; exact hT6)
                  have ht6 : Turned (fun j => Value.ownBlock (.slice A4 (n4 + 1) c4) = some j) u4 w6 := (Turned.of_below (((Below.refl _ u4).alloc (Nat.le_refl _) (.cells #[.string ⟨(Lib.itoa ((k + 1 : Nat) : Int)).toArray⟩, .string ⟨V1.toArray⟩, .string ⟨V2.toArray⟩] tFld)).alloc (by simp) (.cells #[.slice (some ⟨u4.heap.size, 0, none⟩) 3 3] tLine))).trans (Turned.of_grown hg6 (fun j h => h))
                  have HB6 := Lib.hid (Below.turned HBu.out ht6 (fun i hi => by have := (HTu.out.own.lt i hi).1; omega) HBu.out.size)
                  have HM6 := Lib.hid (map_kept HMu.out ht6 (fun e => by have := (HTu.out.own.lt mo e).1; omega))
                  clear hT6 hlit ht6 ho6 hg6 hat6 HTu
                  go_wp2_with fail
                  go_roundw
                  case rel => exact ⟨k + 1, _, by go_num, by omega, HT6.out, HM6.out, HB6.out⟩
                  case measure => simp [intOf]; omega
              · have hq1 := text_ne h1
                unfold Mf.wNo at hq1
                have hne : ¬ (V1 = Mf.wNo ∧ V2 = Mf.wNo) := fun h => h1 h.1
                clear h1
                have HROW := Lib.hid (HLY.out hne)
                clear hne
                go_wp2_with fail
                refine (HPO.out _ (HS.out.below HB2.out).mw).mono ?_
                rintro e u4 ⟨rfl, hc⟩
                have HMu := Lib.hid (HM2.out.below hc); have HBu := Lib.hid (bch HB2.out hc HB2.out.size); have HTu := Lib.hid (HT2.out.below hc)
                clear hc
                go_wp2_with (at_builtin; refine wpList_append_any _ rfl (.tmp 60) (.tmp 66) 38 rfl (mo + 1) tLine k0 (.slice none 0 0) 1 24 Tryz.underlying38 hk0 hz0 hz1 hz2 rfl (by decide) (.slice A4 (n4 + 1) c4) (n4 + 1) vs rfl ((World.ownsRow.alloc (by have := HTu.out.own; rw [hlen4] at this; exact this) _).alloc _) 1 [.slice (some ⟨u4.heap.size, 0, none⟩) 3 3] (src_blk (xs := [.slice (some ⟨u4.heap.size, 0, none⟩) 3 3]) ((two_blocks' u4 _ _ rfl).2.2) (fun u hu => by simp only [List.mem_singleton] at hu; subst hu; rfl)) (by unfold maxLen; omega) (by omega) (by have := HBu.out.size; have := HMu.out.lt; simp; omega) ?_; intro v6 w6 ho6 hg6 hat6)
                have hlit := lit_new u4 [Lib.itoa ((k + 1 : Nat) : Int), V1, V2] (xs := #[.string ⟨(Lib.itoa ((k + 1 : Nat) : Int)).toArray⟩, .string ⟨V1.toArray⟩, .string ⟨V2.toArray⟩]) rfl
                have hT6 := ((HTu.out.below (below_alloc _ _)).below (below_alloc _ _)).push (r := [Lib.itoa ((k + 1 : Nat) : Int), V1, V2]) (hlit.below (below_alloc _ _)) (by rw [hlen4]; exact ho6) hg6
                have HT6 := Lib.hid (show TabO (mo + 1) w6 v6 ([Mf.wHead, Lib.itoa q] :: Mf.linesTo (Mf.bookOf l) (k + 1)) _ by rw [HLS.out, HROW.out]; exact hT6)
                have ht6 : Turned (fun j => Value.ownBlock (.slice A4 (n4 + 1) c4) = some j) u4 w6 := (Turned.of_below (((Below.refl _ u4).alloc (Nat.le_refl _) (.cells #[.string ⟨(Lib.itoa ((k + 1 : Nat) : Int)).toArray⟩, .string ⟨V1.toArray⟩, .string ⟨V2.toArray⟩] tFld)).alloc (by simp) (.cells #[.slice (some ⟨u4.heap.size, 0, none⟩) 3 3] tLine))).trans (Turned.of_grown hg6 (fun j h => h))
                have HB6 := Lib.hid (Below.turned HBu.out ht6 (fun i hi => by have := (HTu.out.own.lt i hi).1; omega) HBu.out.size)
                have HM6 := Lib.hid (map_kept HMu.out ht6 (fun e => by have := (HTu.out.own.lt mo e).1; omega))
                clear hT6 hlit ht6 ho6 hg6 hat6 HTu
                go_wp2_with fail
                go_roundw
                case rel => exact ⟨k + 1, _, by go_num, by omega, HT6.out, HM6.out, HB6.out⟩
                case measure => simp [intOf]; omega
            · obtain rfl : k = 60 := by omega
              have hkI : ¬ (((60 : Nat) + 1 : Nat) : Int) ≤ 60 := by omega
              have HPN := Lib.hid (fun W hM => mput_any (n4 : Int) W (show InR _ by unfold InR; omega) hM)
              have hnl := Sk.itoa_len (n := (n4 : Int)) 1 (by omega) (by simp; omega)
              have hwr : IntKind.i64.wrap (((n4 + 1 : Nat) : Int) - 1) = (n4 : Int) := (IntWalk.i64_in _ (by omega)).trans (by omega)
              go_wp2_with fail
              refine (HPN.out _ (HS.out.below HBr.out).mw).mono ?_
              rintro e u3 ⟨rfl, hc⟩
              have HM3 := Lib.hid (HMr.out.below hc); have HB3 := Lib.hid (bch HBr.out hc HBr.out.size); have HT3 := Lib.hid (HT.out.below hc)
              clear hc
              go_wp2_with fail
              refine (HPUTT.out _ (HS.out.below HB3.out).mw).mono ?_
              rintro e u4 ⟨rfl, hc⟩
              have HMu := Lib.hid (HM3.out.below hc); have HBu := Lib.hid (bch HB3.out hc HB3.out.size); have HTu := Lib.hid (HT3.out.below hc)
              clear hc
              go_wp2_with (at_builtin; refine wpList_append_any _ rfl (.tmp 68) (.tmp 76) 38 rfl (mo + 1) tLine k0 (.slice none 0 0) 1 24 Tryz.underlying38 hk0 hz0 hz1 hz2 rfl (by decide) (.slice A4 (n4 + 1) c4) (n4 + 1) vs rfl ((World.ownsRow.alloc (by have := HTu.out.own; rw [hlen4] at this; exact this) _).alloc _) 1 [.slice (some ⟨u4.heap.size, 0, none⟩) 3 3] (src_blk (xs := [.slice (some ⟨u4.heap.size, 0, none⟩) 3 3]) ((two_blocks' u4 _ _ rfl).2.2) (fun u hu => by simp only [List.mem_singleton] at hu; subst hu; rfl)) (by unfold maxLen; omega) (by omega) (by have := HBu.out.size; have := HMu.out.lt; simp; omega) ?_; intro v6 w6 ho6 hg6 hat6)
              have hlit := lit_new u4 [Sk.wEnd, Lib.itoa n4, Lib.itoa T] (xs := #[.string ⟨#[101, 110, 100]⟩, .string ⟨(Lib.itoa (n4 : Int)).toArray⟩, .string ⟨(Lib.itoa T).toArray⟩]) rfl
              have hT6 := ((HTu.out.below (below_alloc _ _)).below (below_alloc _ _)).push (r := [Sk.wEnd, Lib.itoa n4, Lib.itoa T]) (hlit.below (below_alloc _ _)) (by rw [hlen4]; exact ho6) hg6
              have HT6 := Lib.hid (show TabO (mo + 1) w6 v6 (Mf.table q l) _ by rw [HTAB.out]; unfold Mf.tableG; rw [HN4.out]; exact hT6)
              have ht6 : Turned (fun j => Value.ownBlock (.slice A4 (n4 + 1) c4) = some j) u4 w6 := (Turned.of_below (((Below.refl _ u4).alloc (Nat.le_refl _) (.cells #[.string ⟨#[101, 110, 100]⟩, .string ⟨(Lib.itoa (n4 : Int)).toArray⟩, .string ⟨(Lib.itoa T).toArray⟩] tFld)).alloc (by simp) (.cells #[.slice (some ⟨u4.heap.size, 0, none⟩) 3 3] tLine))).trans (Turned.of_grown hg6 (fun j h => h))
              have HB6 := Lib.hid (Below.turned HBu.out ht6 (fun i hi => by have := (HTu.out.own.lt i hi).1; omega) HBu.out.size)
              have HPR := Lib.hid (print_any v6 (Mf.table q l) w6.heap.size w6 HT6.out.rowz (Nat.le_refl _) HFIT.out (HS.out.below HB6.out).mx)
              clear hT6 hlit ht6 ho6 hg6 hat6 HTu
              refine HPR.out.mono ?_
              rintro e w7 ⟨rfl, hb7⟩
              have HB7 := Lib.hid (bch HB6.out hb7 HB6.out.size)
              clear hb7
              go_wp2_with fail
              go_ret2
              exact ⟨by rw [HF.out]; rfl, HB7.out⟩
  · have hpq := bneT hp
    have HF := Lib.hid (show Mf.printS p q l = ([], 2) by unfold Mf.printS Mf.okP; rw [decide_eq_false hp]; simp)
    clear hp
    go_enter Tryz.func20, Tryz.ntmps20
    go_upto_region 1 with (fail)
    rw [hWA.out]
    go_wp2_with fail
    go_ret2
    exact ⟨by rw [HF.out]; rfl, HA.out⟩
end Go.Proofs.YtgpjbigelblanaaGreatDoor

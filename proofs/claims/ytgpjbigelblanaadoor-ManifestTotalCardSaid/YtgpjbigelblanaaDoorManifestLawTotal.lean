/- ManifestTotal: for every statement and numbers the law answers true. -/
import Derived.Test.YtgpjbigelblanaaDoorManifestCame
import Derived.Test.YtgpjbigelblanaaDoorManifestHeads
import Derived.Test.YtgpjbigelblanaaDoorCsvApart
import Derived.IntWalk
namespace Go.Proofs.YtgpjbigelblanaaDoor
open Go.RowKit Go.Maps Key Mon Mf Rw

namespace Mf
theorem fits_tab {q n t : Int} {g : Book} (hg : OkBook g) (h1 : 0 ≤ q) (h2 : q ≤ 1073741824) (h3 : 0 ≤ n) (h4 : n ≤ 60) (h5 : 0 ≤ t) (h6 : t ≤ 999999) : Fits (tableG q g n t) := by
  have hll := linesTo_len g 60
  refine ⟨by rw [table_len]; omega, fun r hr => ?_, fun r hr f hf => ?_⟩
  · unfold tableG at hr
    simp only [List.mem_cons, List.mem_append, List.not_mem_nil, or_false] at hr
    rcases hr with rfl | h2 | rfl
    · simp
    · obtain ⟨o, _, _, rfl⟩ := linesTo_mem h2; simp
    · simp
  · unfold tableG at hr
    simp only [List.mem_cons, List.mem_append, List.not_mem_nil, or_false] at hr
    rcases hr with rfl | h2 | rfl
    · have a := Sk.itoa_len (n := q) 9 (by omega) (by simp; omega)
      simp only [List.mem_cons, List.not_mem_nil, or_false] at hf
      rcases hf with rfl | rfl
      · decide
      · omega
    · obtain ⟨o, _, ho, rfl⟩ := linesTo_mem h2
      have h1 := room_line hg ho
      have h2 := Csv.roomRow_mem _ f hf
      omega
    · have a := Sk.itoa_len (n := n) 1 (by omega) (by simp; omega)
      have b := Sk.itoa_len (n := t) 5 (by omega) (by simp; omega)
      simp only [List.mem_cons, List.not_mem_nil, or_false] at hf
      rcases hf with rfl | rfl | rfl
      · decide
      · omega
      · omega
def tOne : List UInt8 := [109, 97, 110, 105, 102, 101, 115, 116, 44, 49, 10, 101, 110, 100, 44, 48, 44, 49, 10]
theorem one_bad : parseS tOne = ((0, 0, []), 2, 3, 5) := by kernel_rfl
theorem digit9 (d : Fin 10) : Lib.itoa (d.val : Int) = [UInt8.ofNat (48 + d.val)] := by revert d; decide +kernel
/-- What a line with another quantity comes to. -/
structure Other (q : Int) (l : List R5) (j : Nat) (m : Nat) (V : List UInt8) : Prop where
  row : ∃ a c, (table q l)[j + 1]? = some [a, V, c] ∧ ∀ d : Nat, 1 ≤ d → d ≤ 9 → (V = wNo ∨ V = Sk.wRef) → parseS (Csv.printOf ((table q l).set (j + 1) [a, wDone ++ Lib.itoa (d : Int), c])) = ((0, 0, []), m + 2, 3, 5) ∧ Fits ((table q l).set (j + 1) [a, wDone ++ Lib.itoa (d : Int), c])
theorem other_of {q : Int} {l : List R5} (h : validB 2 q l = true) {j : Nat} (hj : j < (linesTo (bookOf l) 60).length) : ∃ V, Other q l j (linesTo (bookOf l) 60).length V := by
  obtain ⟨h1, h2, h3, h4, h5⟩ := valid_parts h
  have hg := book_ok h4
  have hts := total_small h
  obtain ⟨o, ho1, ho2, hrow, hset⟩ := lines_put hg 60 j hj
  have hll := linesTo_len (bookOf l) 60
  refine ⟨cellW (bookOf l o).1, ⟨Lib.itoa (o : Int), cellW (bookOf l o).2, ?_, fun d hd1 hd2 hV => ?_⟩⟩
  · unfold table tableG
    rw [List.getElem?_cons_succ, List.getElem?_append_left hj, hrow]
  · have hx : OkSay ((1, (d : Int)) : Say) := .inr (.inl ⟨rfl, by show (0 : Int) ≤ (d : Int); omega, by show (d : Int) ≤ 999; omega⟩)
    obtain ⟨e1, e2⟩ := hset (1, (d : Int)) hx (by show ¬ (1 : Int) = 0; decide)
    have hc : cellW ((1, (d : Int)) : Say) = wDone ++ Lib.itoa (d : Int) := rfl
    rw [hc] at e1
    have hz : (bookOf l o).1.2 = 0 := by
      rcases (hg o).1 with ⟨a, b⟩ | ⟨a, b⟩ | ⟨a, b⟩
      · exact b
      · exfalso
        have : cellW (bookOf l o).1 = wDone ++ Lib.itoa (bookOf l o).1.2 := by unfold cellW; rw [if_neg (by omega), if_neg (by omega)]
        rw [this] at hV
        rcases hV with hV | hV
        · unfold wDone wNo at hV; simp at hV
        · unfold wDone Sk.wRef at hV; simp at hV
      · exact b
    have hT : (table q l).set (j + 1) [Lib.itoa (o : Int), wDone ++ Lib.itoa (d : Int), cellW (bookOf l o).2] = tableG q (put1 (bookOf l) o (1, (d : Int))) ((linesTo (put1 (bookOf l) o (1, (d : Int))) 60).length : Nat) (total l) := by
      have hlen : (linesTo (put1 (bookOf l) o (1, (d : Int))) 60).length = (linesTo (bookOf l) 60).length := by rw [← e1, List.length_set]
      unfold table tableG
      rw [List.set_cons_succ, List.set_append_left _ _ hj, e1, hlen]
    have hlen : (linesTo (put1 (bookOf l) o (1, (d : Int))) 60).length = (linesTo (bookOf l) 60).length := by rw [← e1, List.length_set]
    have hg' := put1_ok hg hx o
    have hne : total l ≠ total (rowsTo (put1 (bookOf l) o (1, (d : Int))) 60) := by
      rw [e2, hz, rows_back h4 h5]
      simp only []
      omega
    rw [hT]
    have hroom := table_room (q := q) (n := ((linesTo (put1 (bookOf l) o (1, (d : Int))) 60).length : Nat)) (t := total l) hg' (by omega) h2 (by omega) (by omega) hts.1 (by omega)
    refine ⟨?_, fits_tab hg' (by omega) h2 (by omega) (by omega) hts.1 (by omega)⟩
    rw [parse_rows (table_full _ _ _ _) (Nat.le_trans (Csv.printOf_room _ (table_full _ _ _ _)) (by omega)), ofTable_total h1 h2 hg' ⟨hts.1, by omega⟩ hne, hlen]
end Mf

/-- string([]byte{c}). -/
theorem conv_one3 (W : World) (x : Int) (c : UInt8) (h : (c.toNat : Int) = x) : (convert 39 9 (.slice (some ⟨W.heap.size, 0, none⟩) 1 1)).run Tryd.prog (W.alloc (.cells #[.int .u8 x] 5)) = .ok (.string ⟨#[c]⟩) (W.alloc (.cells #[.int .u8 x] 5)) := by
  refine run_convert_bytes_back (P := Tryd.prog) (W.alloc (.cells #[.int .u8 x] 5)) 39 9 5 ⟨W.heap.size, 0, none⟩ 1 [c] Tryd.underlying39 Tryd.underlying5 Tryd.underlying9 (fun j hj => ?_)
  have hj0 : j = 0 := by simpa using hj
  subst hj0
  show _ = some (Value.int .u8 (c.toNat : Int))
  rw [h]
  exact one_new W (.int .u8 x) 5 0 _ rfl
set_option linter.unusedSimpArgs false in
set_option linter.unusedVariables false in
set_option maxRecDepth 100000 in
set_option maxHeartbeats 4000000 in
theorem lawManifestTotal_walk (p q : Int) (v : Value) (l : List R5) (wh mo : Nat) (w : World) (hR : Rd w v l) (hwh : wh ≤ 255) (hmo : mo ≤ 255) (hS : MfW w) : Calls Tryd.prog 4 #[.agg #[.int .i64 p, .int .i64 q, v], .int .u8 (wh : Int), .int .u8 (mo : Int)] w fun e w' => e = .returned (.bool true) ∧ Below w.heap.size w w' := by
  obtain ⟨A, cv, rfl, hcv, hcm⟩ := hR.shape
  obtain ⟨wa, hwa⟩ : ∃ wa, w.alloc (.cells #[.int .i64 p, .int .i64 q, .slice A l.length cv] tStat) = wa := ⟨_, rfl⟩
  have HA := Lib.hid (show Below w.heap.size w wa by rw [← hwa]; exact below_alloc _ _)
  have HX := Lib.hid (show wa.heap[w.heap.size]? = some (.cells #[.int .i64 p, .int .i64 q, .slice A l.length cv] tStat (0, 0)) by rw [← hwa]; exact heap_new _ _)
  have hWA := Lib.hid hwa
  have HR := Lib.hid (hR.keep HA.out); have HS := Lib.hid hS
  have HST := Lib.hid (fun W (hb : Below w.heap.size w W) => carried_any W (hS.below hb))
  clear hwa hR hS
  obtain ⟨m0, m1, m2⟩ := cell3c HX.out
  by_cases hl : (60 : Int) < l.length
  · go_enter Tryd.func4, Tryd.ntmps4
    go_upto_region 1 with (fail)
    rw [hWA.out]
    go_wp2_with fail
    refine (HST.out _ HA.out).mono ?_
    rintro e w1 ⟨rfl, hb⟩
    have HB := Lib.hid (bch HA.out hb HA.out.size)
    clear hb
    go_wp2_with fail
    go_ret
    exact ⟨rfl, HB.out⟩
  · have HPR := Lib.hid (mprint_any (.slice A l.length cv) p q l wa HR.out (HS.out.below HA.out))
    cases hv : Mf.okP p q l with
    | false =>
      have hpr : Mf.printS p q l = ([], 2) := by unfold Mf.printS; rw [hv]; simp
      rw [hpr] at HPR
      unfold printV at HPR
      clear hv hpr
      go_enter Tryd.func4, Tryd.ntmps4
      go_upto_region 1 with (fail)
      rw [hWA.out]
      go_wp2_with fail
      refine HPR.out.mono ?_
      rintro e w1 ⟨rfl, hb⟩
      have HB := Lib.hid (bch HA.out hb HA.out.size)
      clear hb m0 m1 m2
      go_wp2_with fail
      refine (HST.out _ HB.out).mono ?_
      rintro e w2 ⟨rfl, hb⟩
      have HB2 := Lib.hid (bch HB.out hb HB.out.size)
      clear hb
      go_wp2_with fail
      go_ret
      exact ⟨rfl, HB2.out⟩
    | true =>
      obtain ⟨hp, hvv⟩ : p = 2 ∧ validB p q l = true := by unfold Mf.okP at hv; simpa using hv
      subst hp
      have hpr : Mf.printS 2 q l = (Csv.printOf (Mf.table q l), 0) := by unfold Mf.printS; rw [hv]; simp
      rw [hpr] at HPR
      unfold printV at HPR
      have hlen := Mf.print_len hvv
      have hcsv : Csv.parse (Csv.printOf (Mf.table q l)) = (Mf.table q l, 0, 0, 0) := by rw [Csv.parse_print _ (by omega), Csv.fill_full _ (Mf.tab_full q l)]
      have HCSV := Lib.hid hcsv
      have HOT := Lib.hid (fun (j : Nat) (hj : j < (Mf.linesTo (Mf.bookOf l) 60).length) => Mf.other_of hvv hj)
      have hll := Mf.linesTo_len (Mf.bookOf l) 60
      have hml : (Mf.linesTo (Mf.bookOf l) 60).length ≤ l.length := by
        have hvp := Mf.valid_parts hvv
        rw [← Mf.refTo_all hvp.2.2.2.1 hvp.2.2.2.2, Mf.refTo_len]
        exact Mf.ordTo_len l l.length
      have hLl : (Mf.table q l).length = (Mf.linesTo (Mf.bookOf l) 60).length + 2 := Mf.table_len _ _ _ _
      obtain ⟨m, hm⟩ : ∃ m, (Mf.linesTo (Mf.bookOf l) 60).length = m := ⟨_, rfl⟩
      rw [hm] at HOT hll hml hLl
      obtain ⟨L, hL⟩ : ∃ L, Mf.table q l = L := ⟨_, rfl⟩
      obtain ⟨T, hT⟩ : ∃ T, Csv.printOf (Mf.table q l) = T := ⟨_, rfl⟩
      have HOT := Lib.hid (fun (j : Nat) (hj : j < m) => (show ∃ V a c, L[j + 1]? = some [a, V, c] ∧ ∀ d : Nat, 1 ≤ d → d ≤ 9 → (V = Mf.wNo ∨ V = Sk.wRef) → Mf.parseS (Csv.printOf (L.set (j + 1) [a, Mf.wDone ++ Lib.itoa (d : Int), c])) = ((0, 0, []), m + 2, 3, 5) ∧ Fits (L.set (j + 1) [a, Mf.wDone ++ Lib.itoa (d : Int), c]) from by
        obtain ⟨V, h⟩ := HOT.out j hj
        obtain ⟨a, c, h1, h2⟩ := h.row
        rw [hL] at h1 h2
        exact ⟨V, a, c, h1, h2⟩))
      rw [hT] at HPR hlen HCSV
      rw [hL] at HCSV hLl
      have hTs : (⟨T.toArray⟩ : ByteArray).size = T.length := bytes_size T
      have HC := Lib.hid (fun W => (parse_apart ⟨T.toArray⟩ W (by rw [hTs]; omega)).mono fun e w' h => (show (∃ v vs, e = .returned (.tuple #[v, .agg #[.int .i64 0, .int .i64 0, .int .i64 0]]) ∧ TabA W.heap.size w' v L vs) ∧ Below W.heap.size W w' from ⟨by
        obtain ⟨⟨v, vs, he, hv⟩, _⟩ := h
        rw [bytes_list, HCSV.out] at he hv
        exact ⟨v, vs, he, hv⟩, h.2⟩))
      clear hv hpr hvv hcsv hT hL hm
      go_enter Tryd.func4, Tryd.ntmps4
      go_upto_region 1 with (fail)
      rw [hWA.out]
      go_wp2_with fail
      refine HPR.out.mono ?_
      rintro e w1 ⟨rfl, hb⟩
      have HB1 := Lib.hid hb
      clear m0 m1 m2 HPR hb
      go_wp2_with fail
      refine (HC.out _).mono ?_
      rintro e w2 ⟨⟨v2, vs, rfl, hta⟩, hb2⟩
      obtain ⟨gt, ct, rfl, hgt1, hgt2⟩ := own_lit hta.own (by omega)
      go_upto_region 7 with (fail)
      obtain ⟨w3, hw3⟩ : ∃ w3, w3 = w2.alloc (.cells #[.int .i64 0, .int .i64 0, .int .i64 0] tRej) := ⟨_, rfl⟩
      rw [← hw3]
      have hb3 : Below w2.heap.size w2 w3 := by rw [hw3]; exact below_alloc _ _
      have HB2 := Lib.hid (bch HB1.out hb2 HB1.out.size)
      have HB3 := Lib.hid (bch HB2.out hb3 HB2.out.size)
      have HTA := Lib.hid (hta.below hb3)
      have hgw : w1.heap.size ≤ gt := hgt1
      have hw1a : wa.heap.size ≤ w1.heap.size := HB1.out.size
      clear hw3 hb2 hb3 hta HC hgt1 hgt2
      obtain ⟨m0, m1, m2⟩ := cell3c (heap_keep HX.out HB3.out)
      have hwr2 : IntKind.i64.wrap ((l.length : Int) + 2) = (l.length : Int) + 2 := IntWalk.i64_in _ (by omega)
      have hn2 : ¬ (((m + 2 : Nat) : Int) < 2) := by omega
      have hn3 : ¬ ((l.length : Int) + 2 < ((m + 2 : Nat) : Int)) := by omega
      by_cases hm0 : m = 0
      · subst hm0
        go_wp2_with fail
        refine (mbad_any _ Mf.tOne (by kernel_rfl) 2 3 5 2 3 5 _ Mf.one_bad rfl rfl rfl (HS.out.below (bch HA.out HB3.out HA.out.size))).mono ?_
        rintro e w5 ⟨rfl, hb⟩
        have HB5 := Lib.hid (bch HB3.out hb HB3.out.size)
        clear hb m0 m1 m2
        go_wp2_with fail
        refine (HST.out _ (bch HA.out HB5.out HA.out.size)).mono ?_
        rintro e w6 ⟨rfl, hb⟩
        have HB6 := Lib.hid (bch HA.out (bch HB5.out hb HB5.out.size) HA.out.size)
        clear hb
        go_wp2_with fail
        go_ret
        exact ⟨rfl, HB6.out⟩
      · have hmq := beqF (show ¬ (((m + 2 : Nat) : Int)) = 2 by omega)
        have hwr3 : IntKind.i64.wrap (((m + 2 : Nat) : Int) - 2) = (m : Int) := (IntWalk.i64_in _ (by omega)).trans (by omega)
        have hmod : wh % m < m := Nat.mod_lt _ (by omega)
        have hmI : ((wh : Int) % (m : Int)) = ((wh % m : Nat) : Int) := by simp
        obtain ⟨j, hj⟩ : ∃ j, wh % m = j := ⟨_, rfl⟩
        rw [hj] at hmod hmI
        have hmpos : (1 : Int) ≤ m := by omega
        have hwr4 : IntKind.i64.wrap (1 + (j : Int)) = 1 + (j : Int) := IntWalk.i64_in _ (by omega)
        obtain ⟨V, a, c, hrow, hset⟩ := HOT.out j hmod
        obtain ⟨u, hu⟩ : ∃ u, vs[j + 1]? = some u := ⟨_, List.getElem?_eq_getElem (by rw [HTA.out.len]; omega)⟩
        obtain ⟨gu, cu, rfl, hgu1, hgu2⟩ := own_lit (HTA.out.each (j + 1) u [a, V, c] hu hrow) (by simp)
        have HSET := Lib.hid hset; have HROW := Lib.hid hrow; have HU := Lib.hid hu
        have hck : w3.cell? ⟨gt, j + 1, none⟩ = some (.slice (some ⟨gu, 0, none⟩) 3 cu) := (World.ownsRow.cellAt (by have := HTA.out.own; rw [hLl] at this; exact this) (j + 1) (by omega)).trans hu
        have hcv1 : w3.cell? ⟨gu, 1, none⟩ = some (.string ⟨V.toArray⟩) := (World.ownsRow.cellAt (HTA.out.each (j + 1) _ [a, V, c] hu hrow) 1 (by simp)).trans rfl
        have hfz : w3.frozen? ⟨gu, 1, none⟩ = false := World.ownsRow.frozenAt (HTA.out.each (j + 1) _ [a, V, c] hu hrow) 1
        have hidx : (1 + (j : Int)).toNat = j + 1 := by omega
        have hi0 : (0 : Int) ≤ 1 + (j : Int) := by omega
        have hi1 : 1 + (j : Int) < ((m + 2 : Nat) : Int) := by omega
        clear hj hset hrow hu
        obtain ⟨d, hd⟩ : ∃ d, mo % 9 + 1 = d := ⟨_, rfl⟩
        have hd1 : 1 ≤ d ∧ d ≤ 9 := by omega
        have hit := Mf.digit9 ⟨d, by omega⟩
        simp only [] at hit
        obtain ⟨ch, hch⟩ : ∃ ch : UInt8, UInt8.ofNat (48 + d) = ch := ⟨_, rfl⟩
        rw [hch] at hit
        have hci : (ch.toNat : Int) = 49 + (mo : Int) % 9 := by rw [← hch, UInt8.toNat_ofNat']; omega
        have hcv := fun W => conv_one3 W (49 + (mo : Int) % 9) ch hci
        obtain ⟨O, hO⟩ : ∃ O, Mf.wDone ++ Lib.itoa (d : Int) = O := ⟨_, rfl⟩
        have hjn : (⟨#[100, 111, 110, 101, 58]⟩ : ByteArray) ++ ⟨#[ch]⟩ = ⟨(Mf.wDone ++ Lib.itoa (d : Int)).toArray⟩ := by rw [hit]; exact join_bytes [100, 111, 110, 101, 58] [ch]
        by_cases hV1 : V = Mf.wNo
        · have HSE := Lib.hid (HSET.out d hd1.1 hd1.2 (.inl hV1))
          have hq1 := text_eq hV1
          unfold Mf.wNo at hq1
          have hVO : ¬ V = O := fun e => by rw [← e, hV1] at hO; unfold Mf.wDone Mf.wNo at hO; simp at hO
          clear hV1 hd hit hch hci hmo
          rw [hO] at hjn
          go_upto_region 16 with (fail)
          obtain ⟨w4, hw4⟩ : ∃ w4, w4 = w3.alloc (.cells #[.int .u8 (49 + (mo : Int) % 9)] 5) := ⟨_, rfl⟩
          rw [← hw4]
          have hb4 : Below w3.heap.size w3 w4 := by rw [hw4]; exact below_alloc _ _
          have HB4 := Lib.hid (bch HB3.out hb4 HB3.out.size); have HTA4 := Lib.hid (HTA.out.below hb4)
          clear hw4 hb4 hck hcv1 hfz m0 m1 m2 hcv
          have hck : w4.cell? ⟨gt, j + 1, none⟩ = some (.slice (some ⟨gu, 0, none⟩) 3 cu) := (World.ownsRow.cellAt (by have := HTA4.out.own; rw [hLl] at this; exact this) (j + 1) (by omega)).trans HU.out
          have hcv1 : w4.cell? ⟨gu, 1, none⟩ = some (.string ⟨V.toArray⟩) := (World.ownsRow.cellAt (HTA4.out.each (j + 1) _ [a, V, c] HU.out HROW.out) 1 (by simp)).trans rfl
          have hfz : w4.frozen? ⟨gu, 1, none⟩ = false := World.ownsRow.frozenAt (HTA4.out.each (j + 1) _ [a, V, c] HU.out HROW.out) 1
          rw [hO] at HSE
          have hqo := text_ne hVO
          clear hVO
          go_upto_region 19 with (fail)
          obtain ⟨w5, hw5⟩ : ∃ w5, w5 = w4.setCell ⟨gu, 1, none⟩ (.string ⟨O.toArray⟩) := ⟨_, rfl⟩
          rw [← hw5]
          have hta5 := HTA4.out.putField HU.out HROW.out 1 O
          have hB5 : Below wa.heap.size wa w5 := by rw [hw5]; exact HB4.out.setCell (p := ⟨gu, 1, none⟩) (by show wa.heap.size ≤ gu; omega) _
          have HB5 := Lib.hid hB5
          have HRZ := Lib.hid (show Rowz w5 w5.heap.size (.slice (some ⟨gt, 0, none⟩) (m + 2) ct) (L.set (j + 1) [a, O, c]) by rw [hw5]; have h9 := hta5.toTabI.rowz; rw [hLl] at h9; exact h9)
          clear hw5 hta5 hB5 hck hcv1 hfz
          have HPP := Lib.hid (print_any (.slice (some ⟨gt, 0, none⟩) (m + 2) ct) (L.set (j + 1) [a, O, c]) w5.heap.size w5 HRZ.out (Nat.le_refl _) HSE.out.2 ((HS.out.below HA.out).below HB5.out).mx)
          go_wp2_with fail
          refine HPP.out.mono ?_
          rintro e w6 ⟨rfl, hb⟩
          have HB6 := Lib.hid (bch HB5.out hb HB5.out.size)
          clear hb
          go_wp2_with fail
          refine (mbad_any _ _ (bytes_list _) (m + 2) 3 5 ((m : Int) + 2) 3 5 _ HSE.out.1 (by omega) rfl rfl ((HS.out.below HA.out).below HB6.out)).mono ?_
          rintro e w7 ⟨rfl, hb⟩
          have HB7 := Lib.hid (bch HB6.out hb HB6.out.size)
          clear hb
          go_wp2_with fail
          refine (HST.out _ (bch HA.out HB7.out HA.out.size)).mono ?_
          rintro e w8 ⟨rfl, hb⟩
          have HB8 := Lib.hid (bch HA.out (bch HB7.out hb HB7.out.size) HA.out.size)
          clear hb
          go_wp2_with fail
          go_ret
          exact ⟨rfl, HB8.out⟩
        · have hq1 := text_ne hV1
          unfold Mf.wNo at hq1
          by_cases hV2 : V = Sk.wRef
          · have HSE := Lib.hid (HSET.out d hd1.1 hd1.2 (.inr hV2))
            have hq2 := text_eq hV2
            unfold Sk.wRef at hq2
            have hVO : ¬ V = O := fun e => by rw [← e, hV2] at hO; unfold Mf.wDone Sk.wRef at hO; simp at hO
            clear hV1 hV2 hd hit hch hci hmo
            rw [hO] at hjn
            go_upto_region 16 with (fail)
            obtain ⟨w4, hw4⟩ : ∃ w4, w4 = w3.alloc (.cells #[.int .u8 (49 + (mo : Int) % 9)] 5) := ⟨_, rfl⟩
            rw [← hw4]
            have hb4 : Below w3.heap.size w3 w4 := by rw [hw4]; exact below_alloc _ _
            have HB4 := Lib.hid (bch HB3.out hb4 HB3.out.size); have HTA4 := Lib.hid (HTA.out.below hb4)
            clear hw4 hb4 hck hcv1 hfz m0 m1 m2 hcv
            have hck : w4.cell? ⟨gt, j + 1, none⟩ = some (.slice (some ⟨gu, 0, none⟩) 3 cu) := (World.ownsRow.cellAt (by have := HTA4.out.own; rw [hLl] at this; exact this) (j + 1) (by omega)).trans HU.out
            have hcv1 : w4.cell? ⟨gu, 1, none⟩ = some (.string ⟨V.toArray⟩) := (World.ownsRow.cellAt (HTA4.out.each (j + 1) _ [a, V, c] HU.out HROW.out) 1 (by simp)).trans rfl
            have hfz : w4.frozen? ⟨gu, 1, none⟩ = false := World.ownsRow.frozenAt (HTA4.out.each (j + 1) _ [a, V, c] HU.out HROW.out) 1
            rw [hO] at HSE
            have hqo := text_ne hVO
            clear hVO
            go_upto_region 19 with (fail)
            obtain ⟨w5, hw5⟩ : ∃ w5, w5 = w4.setCell ⟨gu, 1, none⟩ (.string ⟨O.toArray⟩) := ⟨_, rfl⟩
            rw [← hw5]
            have hta5 := HTA4.out.putField HU.out HROW.out 1 O
            have hB5 : Below wa.heap.size wa w5 := by rw [hw5]; exact HB4.out.setCell (p := ⟨gu, 1, none⟩) (by show wa.heap.size ≤ gu; omega) _
            have HB5 := Lib.hid hB5
            have HRZ := Lib.hid (show Rowz w5 w5.heap.size (.slice (some ⟨gt, 0, none⟩) (m + 2) ct) (L.set (j + 1) [a, O, c]) by rw [hw5]; have h9 := hta5.toTabI.rowz; rw [hLl] at h9; exact h9)
            clear hw5 hta5 hB5 hck hcv1 hfz
            have HPP := Lib.hid (print_any (.slice (some ⟨gt, 0, none⟩) (m + 2) ct) (L.set (j + 1) [a, O, c]) w5.heap.size w5 HRZ.out (Nat.le_refl _) HSE.out.2 ((HS.out.below HA.out).below HB5.out).mx)
            go_wp2_with fail
            refine HPP.out.mono ?_
            rintro e w6 ⟨rfl, hb⟩
            have HB6 := Lib.hid (bch HB5.out hb HB5.out.size)
            clear hb
            go_wp2_with fail
            refine (mbad_any _ _ (bytes_list _) (m + 2) 3 5 ((m : Int) + 2) 3 5 _ HSE.out.1 (by omega) rfl rfl ((HS.out.below HA.out).below HB6.out)).mono ?_
            rintro e w7 ⟨rfl, hb⟩
            have HB7 := Lib.hid (bch HB6.out hb HB6.out.size)
            clear hb
            go_wp2_with fail
            refine (HST.out _ (bch HA.out HB7.out HA.out.size)).mono ?_
            rintro e w8 ⟨rfl, hb⟩
            have HB8 := Lib.hid (bch HA.out (bch HB7.out hb HB7.out.size) HA.out.size)
            clear hb
            go_wp2_with fail
            go_ret
            exact ⟨rfl, HB8.out⟩
          · have hq2 := text_ne hV2
            unfold Sk.wRef at hq2
            clear hcv hjn
            go_wp2_with fail
            refine (HST.out _ (bch HA.out HB3.out HA.out.size)).mono ?_
            rintro e w6 ⟨rfl, hb⟩
            have HB6 := Lib.hid (bch HA.out (bch HB3.out hb HB3.out.size) HA.out.size)
            clear hb
            go_wp2_with fail
            go_ret
            exact ⟨rfl, HB6.out⟩
end Go.Proofs.YtgpjbigelblanaaDoor

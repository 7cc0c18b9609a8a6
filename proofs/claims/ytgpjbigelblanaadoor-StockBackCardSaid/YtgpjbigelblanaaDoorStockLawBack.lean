/- StockBack: for every statement and place the law answers true. -/
import Derived.Test.YtgpjbigelblanaaDoorStockIs
import Derived.Test.YtgpjbigelblanaaDoorQuote
import Derived.IntWalk
namespace Go.Proofs.YtgpjbigelblanaaDoor
open Go.RowKit Go.Maps Key Mon Sk Rw

namespace Sk
theorem itoa_noquote {n : Int} (h : 0 ≤ n) : (34 : UInt8) ∉ Lib.itoa n := by
  obtain ⟨u, rfl⟩ : ∃ u : Nat, n = (u : Int) := ⟨n.toNat, by omega⟩
  rw [Lib.itoa_nonneg]
  intro hm
  have := dec_digit u 34 hm
  unfold Digit at this
  exact absurd this.1 (by decide)
theorem word_noquote (d : Int) : (34 : UInt8) ∉ wordL d := by
  by_cases h : 0 ≤ d ∧ d < 6
  · rcases deed6 h with rfl | rfl | rfl | rfl | rfl | rfl <;> decide
  · rw [word_no h]; simp
theorem code_noquote (c : Int) : (34 : UInt8) ∉ codeW c := by unfold codeW; split; decide; split <;> decide
theorem clean_table {q : Int} {l : List R5} (h : validB 1 q l = true) : Csv.Clean (table q l) := by
  obtain ⟨h1, h2, h3, h4, h5⟩ := valid_parts h
  intro r hr f hf
  unfold table at hr
  simp only [List.mem_cons, List.mem_append, List.mem_map, List.not_mem_nil, or_false] at hr
  rcases hr with rfl | ⟨x, hx, rfl⟩ | rfl
  · simp only [List.mem_cons, List.not_mem_nil, or_false] at hf
    rcases hf with rfl | rfl
    · decide
    · exact itoa_noquote (by omega)
  · have hx := row_one (h4 x hx)
    unfold rowF at hf
    simp only [List.mem_cons, List.not_mem_nil, or_false] at hf
    rcases hf with rfl | rfl | rfl | rfl
    · exact itoa_noquote (by omega)
    · exact word_noquote _
    · exact code_noquote _
    · exact itoa_noquote (by omega)
  · simp only [List.mem_cons, List.not_mem_nil, or_false] at hf
    rcases hf with rfl | rfl
    · decide
    · exact itoa_noquote (by omega)
theorem quote_small {q : Int} {l : List R5} (h : validB 1 q l = true) (k : Nat) : (Csv.quoteOf ((table q l).take k)).length ≤ 30000 := by
  have h1 := Csv.quote_len ((table q l).take k)
  have h2 := Csv.room_take (table q l) k
  have h3 := room_table h
  have h4 : ((table q l).take k).length ≤ (table q l).length := List.length_take_le' _ _
  have h5 := (valid_parts h).2.2.1
  rw [table_len] at h4
  omega
theorem qpart_small {q : Int} {l : List R5} (h : validB 1 q l = true) {r : Line} (hr : r ∈ table q l) (k : Nat) : (Csv.qpart (r.take k)).length ≤ 30000 := by
  have h1 := Csv.qpart_len (r.take k)
  have h2 := Csv.roomRow_take r k
  have h3 := Csv.room_mem _ r hr
  have h4 := room_table h
  omega
theorem parse_quoted {q : Int} {l : List R5} (h : validB 1 q l = true) : parseS (Csv.quoteOf (table q l)) = ((1, q, l), 0, 0, 0) := by
  have hl := quote_small h (table q l).length
  rw [List.take_length] at hl
  unfold parseS
  rw [Csv.parse_quote _ (table_full q l) (clean_table h) (by omega)]
  exact ofTable_table h
end Sk
theorem cat0 (V f : List UInt8) : Value.string ((⟨V.toArray⟩ : ByteArray) ++ ⟨#[34]⟩ ++ ⟨f.toArray⟩ ++ ⟨#[34]⟩) = .string ⟨(V ++ Csv.qf f).toArray⟩ := by
  show Value.string ((⟨V.toArray⟩ : ByteArray) ++ ⟨([34] : List UInt8).toArray⟩ ++ ⟨f.toArray⟩ ++ ⟨([34] : List UInt8).toArray⟩) = _
  rw [join_bytes, join_bytes, join_bytes]
  unfold Csv.qf
  simp
theorem cat5 (V U f : List UInt8) : Value.string ((⟨(V ++ U).toArray⟩ : ByteArray) ++ ⟨#[44]⟩ ++ ⟨#[34]⟩ ++ ⟨f.toArray⟩ ++ ⟨#[34]⟩) = .string ⟨(V ++ (U ++ 44 :: Csv.qf f)).toArray⟩ := by
  show Value.string ((⟨(V ++ U).toArray⟩ : ByteArray) ++ ⟨([44] : List UInt8).toArray⟩ ++ ⟨([34] : List UInt8).toArray⟩ ++ ⟨f.toArray⟩ ++ ⟨([34] : List UInt8).toArray⟩) = _
  rw [join_bytes, join_bytes, join_bytes, join_bytes]
  unfold Csv.qf
  simp
theorem cat1 (V U : List UInt8) : Value.string ((⟨(V ++ U).toArray⟩ : ByteArray) ++ ⟨#[10]⟩) = .string ⟨(V ++ (U ++ [10])).toArray⟩ := by
  show Value.string ((⟨(V ++ U).toArray⟩ : ByteArray) ++ ⟨([10] : List UInt8).toArray⟩) = _
  rw [join_bytes]
  simp
theorem ext_take (T : List UInt8) (k : Nat) : ((⟨T.toArray⟩ : ByteArray).extract 0 k).data.toList = T.take k := by
  have h := extract_take ⟨T.toArray⟩ 0 k
  rw [Nat.zero_add] at h
  injection h with h
  rw [h]
  simp
theorem po_neT {s : List UInt8} (h : s ≠ []) : s.isEmpty = false := by cases s with | nil => exact absurd rfl h | cons x s => rfl
set_option linter.unusedSimpArgs false in
set_option linter.unusedVariables false in
set_option maxRecDepth 100000 in
set_option maxHeartbeats 4000000 in
theorem lawStockBack_walk (p q : Int) (v : Value) (l : List R5) (cut : Int) (w : World) (hR : Rd w v l) (hc : 0 ≤ cut ∧ cut ≤ 65535) (hS : SkW w) : Calls Tryd.prog 5 #[.agg #[.int .i64 p, .int .i64 q, v], .int .u16 cut] w fun e w' => e = .returned (.bool true) ∧ Below w.heap.size w w' := by
  obtain ⟨A, cv, rfl, hcv, hcm⟩ := hR.shape
  obtain ⟨wa, hwa⟩ : ∃ wa, w.alloc (.cells #[.int .i64 p, .int .i64 q, .slice A l.length cv] tStat) = wa := ⟨_, rfl⟩
  have HA := Lib.hid (show Below w.heap.size w wa by rw [← hwa]; exact below_alloc _ _)
  have HX := Lib.hid (show wa.heap[w.heap.size]? = some (.cells #[.int .i64 p, .int .i64 q, .slice A l.length cv] tStat (0, 0)) by rw [← hwa]; exact heap_new _ _)
  have hWA := Lib.hid hwa
  have HR := Lib.hid (hR.keep HA.out); have HS := Lib.hid hS
  have HST := Lib.hid (fun W (hb : Below w.heap.size w W) => stocked_any W (hS.below hb))
  clear hwa hR hS
  obtain ⟨m0, m1, m2⟩ := cell3c HX.out
  by_cases hl : (100 : Int) < l.length
  · go_enter Tryd.func5, Tryd.ntmps5
    go_upto_region 1 with (fail)
    rw [hWA.out]
    go_wp2_with fail
    refine (HST.out _ HA.out).mono ?_
    rintro e w1 ⟨rfl, hb⟩
    have HB := Lib.hid (bch HA.out hb HA.out.size)
    clear hb
    go_wp2_with fail
    go_ret
    exact ⟨rfl, HB.out⟩
  · have HPR := Lib.hid (sprint_any (.slice A l.length cv) p q l wa HR.out (HS.out.below HA.out))
    cases hv : okP p q l with
    | false =>
      have hpr : printS p q l = ([], 2) := by unfold printS; rw [hv]; simp
      rw [hpr] at HPR
      unfold printV at HPR
      by_cases hp : p = 1
      · have hpq := bneF hp
        have hvv : validB p q l = false := by unfold okP at hv; simpa [hp] using hv
        have HVV := Lib.hid (fun W (hb : Below wa.heap.size wa W) => rowsValid_any W p q (.slice A l.length cv) l (HR.out.keep hb) ((HS.out.below HA.out).below hb).kw.pt)
        rw [hvv] at HVV
        clear hv hpr hp hvv
        go_enter Tryd.func5, Tryd.ntmps5
        go_upto_region 1 with (fail)
        rw [hWA.out]
        go_wp2_with fail
        refine HPR.out.mono ?_
        rintro e w1 ⟨rfl, hb⟩
        have HB := Lib.hid (bch HA.out hb HA.out.size)
        have HBa := Lib.hid hb
        clear m0 m1 m2
        obtain ⟨m0, m1, m2⟩ := cell3c (heap_keep HX.out hb)
        clear hb
        go_wp2_with fail
        refine (HVV.out _ HBa.out).mono ?_
        rintro e w2 ⟨rfl, hb2⟩
        have HB2 := Lib.hid (bch HB.out hb2 HB.out.size)
        clear hb2 m0 m1 m2
        go_wp2_with fail
        refine (HST.out _ HB2.out).mono ?_
        rintro e w3 ⟨rfl, hb3⟩
        have HB3 := Lib.hid (bch HB2.out hb3 HB2.out.size)
        clear hb3
        go_wp2_with fail
        go_ret
        exact ⟨rfl, HB3.out⟩
      · have hpq := bneT hp
        clear hv hpr hp
        go_enter Tryd.func5, Tryd.ntmps5
        go_upto_region 1 with (fail)
        rw [hWA.out]
        go_wp2_with fail
        refine HPR.out.mono ?_
        rintro e w1 ⟨rfl, hb⟩
        have HB := Lib.hid (bch HA.out hb HA.out.size)
        clear m0 m1 m2
        obtain ⟨m0, m1, m2⟩ := cell3c (heap_keep HX.out hb)
        clear hb
        go_wp2_with fail
        refine (HST.out _ HB.out).mono ?_
        rintro e w3 ⟨rfl, hb3⟩
        have HB3 := Lib.hid (bch HB.out hb3 HB.out.size)
        clear hb3
        go_wp2_with fail
        go_ret
        exact ⟨rfl, HB3.out⟩
    | true =>
      obtain ⟨hp, hvv⟩ : p = 1 ∧ validB p q l = true := by unfold okP at hv; simpa using hv
      subst hp
      have hpr : printS 1 q l = (Csv.printOf (table q l), 0) := by unfold printS; rw [hv]; simp
      rw [hpr] at HPR
      unfold printV at HPR
      have hlen := print_len hvv
      have hcsv : Csv.parse (Csv.printOf (table q l)) = (table q l, 0, 0, 0) := by rw [Csv.parse_print _ (by omega), Csv.fill_full _ (table_full q l)]
      have HPA := Lib.hid (parse_table hvv)
      have HCUT := Lib.hid (fun k hk => parse_cut hvv k hk)
      have HVA := Lib.hid hvv
      have hne := print_ne (q := q) (l := l)
      obtain ⟨T, hT⟩ : ∃ T, Csv.printOf (table q l) = T := ⟨_, rfl⟩
      rw [hT] at HPR HPA HCUT hlen hcsv hne
      have hpos : 0 < T.length := List.length_pos_iff.2 hne
      have HCSV := Lib.hid hcsv
      have hTs : (⟨T.toArray⟩ : ByteArray).size = T.length := bytes_size T
      have HVV := Lib.hid (fun W (hb : Below wa.heap.size wa W) => rowsValid_any W 1 q (.slice A l.length cv) l (HR.out.keep hb) ((HS.out.below HA.out).below hb).kw.pt)
      rw [hvv] at HVV
      have hTe := po_neT hne
      clear hv hpr hvv hcsv hne hT
      go_enter Tryd.func5, Tryd.ntmps5
      go_upto_region 1 with (fail)
      rw [hWA.out]
      go_wp2_with fail
      refine HPR.out.mono ?_
      rintro e w1 ⟨rfl, hb⟩
      have HBa := Lib.hid hb
      clear m0 m1 m2 HPR
      obtain ⟨m0, m1, m2⟩ := cell3c (heap_keep HX.out hb)
      clear hb
      go_wp2_with fail
      refine (HVV.out _ HBa.out).mono ?_
      rintro e w2 ⟨rfl, hb2⟩
      have HB2 := Lib.hid (bch HBa.out hb2 HBa.out.size)
      clear hb2 m0 m1 m2 HBa
      have HP1 := Lib.hid (sparse_is ⟨T.toArray⟩ T (bytes_list T) 1 q l 0 0 0 0 0 0 w2 HPA.out rfl rfl rfl ((HS.out.below HA.out).below HB2.out))
      go_wp2_with fail
      refine HP1.out.mono ?_
      rintro e w3 ⟨⟨v3, rfl, hr3⟩, hb3⟩
      obtain ⟨A3, c3, rfl, _⟩ := hr3.shape
      go_upto_region 7 with (fail)
      obtain ⟨w4, hw4⟩ : ∃ w4, w4 = (w3.alloc (.cells #[.int .i64 1, .int .i64 q, .slice A3 l.length c3] tStat)).alloc (.cells #[.int .i64 0, .int .i64 0, .int .i64 0] tRej) := ⟨_, rfl⟩
      rw [← hw4]
      have h4 := two_kept w2 w3 _ _ hb3 hw4.symm
      have HB4 := Lib.hid (bch HB2.out h4.1 HB2.out.size); have HX4 := Lib.hid h4.2.1; have HY4 := Lib.hid h4.2.2.1; have HR4 := Lib.hid (hr3.keep h4.2.2.2)
      clear hw4 h4 hb3 hr3 HP1 HB2
      generalize w3.heap.size = b3 at HX4 HY4 ⊢
      obtain ⟨m0, m1, m2⟩ := cell3c (heap_keep HX.out HB4.out)
      obtain ⟨n0, n1, n2⟩ := cell3c HX4.out
      obtain ⟨p0, p1, p2⟩ := cell3c HY4.out
      go_wp2_with fail
      refine (rowsSameT w4 (.slice A l.length cv) (.slice A3 l.length c3) l 1 q (HR.out.keep HB4.out) HR4.out (by omega)).mono ?_
      rintro e w5 ⟨rfl, hb5⟩
      have HB5 := Lib.hid (bch HB4.out hb5 HB4.out.size)
      clear hb5 m0 m1 m2 n0 n1 n2 p0 p1 p2 HB4 HX4 HY4 HR4
      go_upto_region 10 with (fail)
      have HC := Lib.hid ((parse_any ⟨T.toArray⟩ w5 (by rw [hTs]; omega)).mono fun e w' h => (show (∃ v, e = .returned (.tuple #[v, .agg #[.int .i64 0, .int .i64 0, .int .i64 0]]) ∧ Rowz w' w'.heap.size v (table q l)) ∧ Below w5.heap.size w5 w' from ⟨by
        obtain ⟨⟨v, he, hv⟩, _⟩ := h
        rw [bytes_list, HCSV.out] at he hv
        exact ⟨v, he, hv⟩, h.2⟩))
      have HQS := Lib.hid (fun k => quote_small HVA.out k)
      have HQP := Lib.hid (fun (r : Line) (hr : r ∈ table q l) k => qpart_small HVA.out hr k)
      have HPQ := Lib.hid (parse_quoted HVA.out)
      have HFW := Lib.hid (fun (r : Line) (hr : r ∈ table q l) => (show r.length ≤ 30000 by have h1 := Csv.roomRow_len r; have h2 := Csv.room_mem _ r hr; have h3 := room_table HVA.out; omega))
      have hLl := table_len q l
      obtain ⟨L, hL⟩ : ∃ L, table q l = L := ⟨_, rfl⟩
      rw [hL] at HC HQS HQP HPQ HFW hLl
      clear hL HVA HVV HCSV hTe
      go_wp2_with fail
      refine HC.out.mono ?_
      rintro e w6 ⟨⟨v6, rfl, hv6⟩, hb6⟩
      obtain ⟨Av, cv6, rfl⟩ := hv6.shape
      go_upto_region 11 with (fail)
      obtain ⟨w7, hw7⟩ : ∃ w7, w7 = w6.alloc (.cells #[.int .i64 0, .int .i64 0, .int .i64 0] tRej) := ⟨_, rfl⟩
      rw [← hw7]
      have hb7 : Below w6.heap.size w6 w7 := by rw [hw7]; exact below_alloc _ _
      have HB7 := Lib.hid (bch (bch HB5.out hb6 HB5.out.size) hb7 (bch HB5.out hb6 HB5.out.size).size)
      have HV := Lib.hid (Rowz.below hv6 hb7 hb7.size)
      clear hw7 hb6 hb7 hv6 HC HB5
      generalize w6.heap.size = b6
      go_wp2_with fail
      go_loop [9, 12] (fun t9 t12 => ∃ (k : Nat) (V : List UInt8), t12 = .int .i64 k ∧ t9 = .string ⟨V.toArray⟩ ∧ k ≤ L.length ∧ Hid (V = Csv.quoteOf (L.take k)) ∧ V.length ≤ 30000) (fun _ t12 => L.length - (intOf t12).toNat)
      case atStart => exact ⟨0, [], rfl, rfl, by omega, by simp [Hid, Csv.quoteOf], by simp⟩
      case round =>
        obtain ⟨k, V, rfl, rfl, hk, HVQ, hVl⟩ := hrel
        have hLI : (L.length : Int) ≤ 102 := by omega
        by_cases hkl : k < L.length
        · obtain ⟨r, hr⟩ : ∃ r, L[k]? = some r := ⟨_, List.getElem?_eq_getElem hkl⟩
          have hrm := List.mem_of_getElem? hr
          obtain ⟨gt, ot, u, e, hgt, hcell, hu⟩ := HV.out.at (Below.refl _ _) hr
          subst e
          obtain ⟨Au, cu, rfl⟩ := hu.shape
          have HU := Lib.hid hu
          have hkI : (k : Int) < L.length := by omega
          have hrl := HFW.out r hrm
          have HTK := Lib.hid (take_succ' hr)
          have HQR := Lib.hid (fun j => HQP.out r hrm j)
          clear hr hu hrm
          go_wp2_with fail
          go_loop [9, 13] (fun t9 t13 => ∃ (j : Nat) (U : List UInt8), t13 = .int .i64 j ∧ t9 = .string ⟨(V ++ U).toArray⟩ ∧ j ≤ r.length ∧ Hid (U = Csv.qpart (r.take j)) ∧ U.length ≤ 30000) (fun _ t13 => r.length - (intOf t13).toNat)
          case atStart => exact ⟨0, [], rfl, by simp, by omega, by simp [Hid, Csv.qpart, Csv.joinC], by simp⟩
          case round =>
            obtain ⟨j, U, rfl, rfl, hj, HUQ, hUl⟩ := hrel
            by_cases hjl : j < r.length
            · obtain ⟨f, hf⟩ : ∃ f, r[j]? = some f := ⟨_, List.getElem?_eq_getElem hjl⟩
              obtain ⟨gu, ou, e, hgu, hcf⟩ := HU.out.at (Below.refl _ _) hf
              subst e
              have hsn := Csv.qpart_snoc (r.take j) f
              rw [← take_succ' hf] at hsn
              have hjI : (j : Int) < r.length := by omega
              have hj0 : (0 : Int) ≤ j := by omega
              have hk0 : (0 : Int) ≤ k := by omega
              have hQ1 := HQR.out (j + 1)
              have hrt : (r.take j = []) ↔ j = 0 := by
                constructor
                · intro e
                  have h2 : (r.take j).length = 0 := by rw [e]; rfl
                  rw [List.length_take] at h2
                  omega
                · rintro rfl; rfl
              by_cases hj00 : j = 0
              · rw [if_pos (hrt.2 hj00)] at hsn
                have hU0 : U = [] := by rw [HUQ.out, hj00]; rfl
                subst hU0
                have hfl : f.length ≤ 30000 := by rw [hsn] at hQ1; unfold Csv.qf at hQ1; simp at hQ1; omega
                have HSN := Lib.hid hsn
                have HQ1 := Lib.hid hQ1
                have hj0n : ¬ (0 : Int) < (j : Int) := by omega
                clear hsn hQ1 hrt hj00 hf
                go_wp2_with fail
                go_round
                case rel => exact ⟨j + 1, Csv.qf f, by go_num, cat0 V f, by omega, by rw [HSN.out]; rfl, by rw [← HSN.out]; exact HQ1.out⟩
                case measure => simp [intOf]; omega
              · rw [if_neg (fun e => hj00 (hrt.1 e)), ← HUQ.out] at hsn
                have hfl : f.length ≤ 30000 := by rw [hsn] at hQ1; unfold Csv.qf at hQ1; simp at hQ1; omega
                have HSN := Lib.hid hsn
                have HQ1 := Lib.hid hQ1
                have hj0n : (0 : Int) < (j : Int) := by omega
                clear hsn hQ1 hrt hj00 hf
                go_wp2_with fail
                go_round
                case rel => exact ⟨j + 1, U ++ 44 :: Csv.qf f, by go_num, cat5 V U f, by omega, by rw [HSN.out]; rfl, by rw [← HSN.out]; exact HQ1.out⟩
                case measure => simp [intOf]; omega
            · obtain rfl : j = r.length := by omega
              have hfull : r.take r.length = r := List.take_of_length_le (Nat.le_refl _)
              have hqs := Csv.quoteOf_snoc (L.take k) r
              rw [← HTK.out, ← HVQ.out] at hqs
              rw [hfull] at HUQ
              rw [← HUQ.out] at hqs
              have HQN := Lib.hid hqs
              have HQK := Lib.hid (HQS.out (k + 1))
              clear hqs hfull
              go_wp2_with fail
              go_round
              case rel => exact ⟨k + 1, V ++ (U ++ [10]), by go_num, cat1 V U, by omega, HQN.out.symm, by rw [← HQN.out]; exact HQK.out⟩
              case measure => simp [intOf]; omega
        · obtain rfl : k = L.length := by omega
          have hfull : L.take L.length = L := List.take_of_length_le (Nat.le_refl _)
          rw [hfull] at HVQ
          have HP2 := Lib.hid (sparse_is ⟨V.toArray⟩ V (bytes_list V) 1 q l 0 0 0 0 0 0 w7 (by rw [HVQ.out]; exact HPQ.out) rfl rfl rfl ((HS.out.below HA.out).below HB7.out))
          clear hfull
          go_wp2_with fail
          refine HP2.out.mono ?_
          rintro e w8 ⟨⟨v8, rfl, hr8⟩, hb8⟩
          obtain ⟨A8, c8, rfl, _⟩ := hr8.shape
          go_upto_region 22 with (fail)
          obtain ⟨w9, hw9⟩ : ∃ w9, w9 = (w8.alloc (.cells #[.int .i64 1, .int .i64 q, .slice A8 l.length c8] tStat)).alloc (.cells #[.int .i64 0, .int .i64 0, .int .i64 0] tRej) := ⟨_, rfl⟩
          rw [← hw9]
          have h9 := two_kept w7 w8 _ _ hb8 hw9.symm
          have HB9 := Lib.hid (bch HB7.out h9.1 HB7.out.size); have HX9 := Lib.hid h9.2.1; have HY9 := Lib.hid h9.2.2.1; have HR9 := Lib.hid (hr8.keep h9.2.2.2)
          clear hw9 h9 hb8 hr8 HP2 HV
          generalize w8.heap.size = b8 at HX9 HY9 ⊢
          obtain ⟨cn, rfl⟩ : ∃ cn : Nat, cut = (cn : Int) := ⟨cut.toNat, by omega⟩
          have hmod : cn % T.length < T.length := Nat.mod_lt _ hpos
          have hm2 : ((cn : Int) % (T.length : Int)) = ((cn % T.length : Nat) : Int) := by simp
          obtain ⟨ck, hck⟩ : ∃ ck, cn % T.length = ck := ⟨_, rfl⟩
          rw [hck] at hmod hm2
          have hposI : (1 : Int) ≤ T.length := by omega
          have hckI : (ck : Int) ≤ T.length := by omega
          have hcn0 : (0 : Int) ≤ cn := by omega
          clear hck
          go_wp2_with fail
          obtain ⟨a, b, c, hpc, hc0, ha1, hb1⟩ := HCUT.out ck hmod
          obtain ⟨ai, hai⟩ : ∃ ai : Int, ai = a := ⟨_, rfl⟩
          obtain ⟨bi, hbi⟩ : ∃ bi : Int, bi = b := ⟨_, rfl⟩
          obtain ⟨ci, hci⟩ : ∃ ci : Int, ci = c := ⟨_, rfl⟩
          have HP3 := Lib.hid (sparse_is ((⟨T.toArray⟩ : ByteArray).extract 0 ck) (T.take ck) (ext_take T ck) 0 0 [] a b c ai bi ci w9 hpc hai hbi hci ((HS.out.below HA.out).below HB9.out))
          have q1 := bneT (show ¬ ci = 0 by omega)
          have q2 := decide_eq_true (show 1 ≤ ai by omega)
          have q3 := decide_eq_true (show 1 ≤ bi by omega)
          clear hpc hc0 ha1 hb1 hai hbi hci hm2
          refine HP3.out.mono ?_
          rintro e w10 ⟨⟨v10, rfl, hr10⟩, hb10⟩
          obtain ⟨A10, c10, rfl, _⟩ := hr10.shape
          go_upto_region 23 with (fail)
          obtain ⟨w11, hw11⟩ : ∃ w11, w11 = (w10.alloc (.cells #[.int .i64 0, .int .i64 0, .slice A10 0 c10] tStat)).alloc (.cells #[.int .i64 ai, .int .i64 bi, .int .i64 ci] tRej) := ⟨_, rfl⟩
          rw [← hw11]
          have h11 := two_kept w9 w10 _ _ hb10 hw11.symm
          have HB11 := Lib.hid (bch HB9.out h11.1 HB9.out.size); have HX11 := Lib.hid h11.2.1; have HY11 := Lib.hid h11.2.2.1; have HR11 := Lib.hid (hr10.keep h11.2.2.2)
          have HX9' := Lib.hid (heap_keep HX9.out h11.1); have HY9' := Lib.hid (heap_keep HY9.out h11.1); have HR9' := Lib.hid (HR9.out.keep h11.1)
          clear hw11 h11 hb10 hr10 HP3 HX9 HY9 HR9
          generalize w10.heap.size = b10 at HX11 HY11 ⊢
          obtain ⟨m0, m1, m2⟩ := cell3c (heap_keep HX.out HB11.out)
          obtain ⟨n0, n1, n2⟩ := cell3c HX9'.out
          obtain ⟨p0, p1, p2⟩ := cell3c HY9'.out
          go_wp2_with fail
          refine (rowsSameT w11 (.slice A8 l.length c8) (.slice A l.length cv) l 1 q HR9'.out (HR.out.keep HB11.out) (by omega)).mono ?_
          rintro e w12 ⟨rfl, hb12⟩
          have HB12 := Lib.hid (bch HB11.out hb12 HB11.out.size); have HX12 := Lib.hid (heap_keep HX11.out hb12); have HY12 := Lib.hid (heap_keep HY11.out hb12); have HR12 := Lib.hid (HR11.out.keep hb12)
          clear hb12 m0 m1 m2 n0 n1 n2 p0 p1 p2 HX9' HY9' HR9' HX11 HY11 HR11
          obtain ⟨n0, n1, n2⟩ := cell3c HX12.out
          go_wp2_with fail
          refine (rowsSameT w12 (.slice A10 0 c10) (.slice none 0 0) [] 0 0 HR12.out (Rd.nil _) (by simp)).mono ?_
          rintro e w13 ⟨rfl, hb13⟩
          have HB13 := Lib.hid (bch HB12.out hb13 HB12.out.size); have HY13 := Lib.hid (heap_keep HY12.out hb13)
          clear hb13 n0 n1 n2
          obtain ⟨p0, p1, p2⟩ := cell3c HY13.out
          go_wp2_with fail
          refine (HST.out _ (bch HA.out HB13.out HA.out.size)).mono ?_
          rintro e w14 ⟨rfl, hb14⟩
          have HB14 := Lib.hid (bch HA.out (bch HB13.out hb14 HB13.out.size) HA.out.size)
          clear hb14 p0 p1 p2
          go_wp2_with fail
          go_ret
          exact ⟨rfl, HB14.out⟩
end Go.Proofs.YtgpjbigelblanaaDoor

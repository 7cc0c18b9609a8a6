/- consignorref04.Print computes Csv.printOf, too; consignorlaw04.Great. -/
import Derived.Test.YtgpjbigelblanaaGreatDoorCsvPrint
import Derived.Test.YtgpjbigelblanaaGreatDoorCsvOwn
import Derived.Test.YtgpjbigelblanaaGreatDoorRowValid
import Derived.Deep.Cut
import Derived.Deep.CutRange
import Derived.Test.YtgpjbigelblanaaGreatDoorManifestPrint
import Derived.Test.YtgpjbigelblanaaGreatDoorManifestHeads
import Derived.Test.YtgpjbigelblanaaGreatDoorStatSame
import Derived.Test.YtgpjbigelblanaaGreatDoorMoneyRefPut
namespace Go.Proofs.YtgpjbigelblanaaGreatDoor
open Go.RowKit

theorem str_app (X Y : List UInt8) : (⟨X.toArray⟩ : ByteArray) ++ ⟨Y.toArray⟩ = ⟨(X ++ Y).toArray⟩ := by
  apply ByteArray.ext
  apply Array.toList_inj.1
  simp [ByteArray.data_append]
theorem str_one (f : List UInt8) (t : Nat) (x : UInt8) (h : f[t]? = some x) : (⟨f.toArray⟩ : ByteArray).extract t (t + 1) = ⟨#[x]⟩ := by
  have h2 := extract_take ⟨f.toArray⟩ t 1
  have h3 : (⟨f.toArray⟩ : ByteArray).extract t (t + 1) = ⟨((f.drop t).take 1).toArray⟩ := by injection h2
  rw [h3]
  obtain ⟨hk, e⟩ := List.getElem?_eq_some_iff.1 h
  rw [List.drop_eq_getElem_cons hk, e]
  rfl

def hasB (l : List UInt8) (c : UInt8) : Bool := l.any fun d => d = c
theorem needs_has (l : List UInt8) : needs l = (hasB l 44 || (hasB l 34 || (hasB l 10 || hasB l 13))) := by
  unfold needs hasB
  induction l with
  | nil => rfl
  | cons c r ih =>
    simp only [List.any_cons, ih]
    cases decide (c = 44) <;> cases decide (c = 34) <;> cases decide (c = 10) <;> cases decide (c = 13) <;> cases (r.any fun d => decide (d = 44)) <;> cases (r.any fun d => decide (d = 34)) <;> cases (r.any fun d => decide (d = 10)) <;> cases (r.any fun d => decide (d = 13)) <;> rfl

set_option maxHeartbeats 2000000 in
theorem has_any (s : ByteArray) (c : UInt8) (w : World) (hs : s.size ≤ 1000000) :
    Calls Tryz.prog 44 #[.string s, .int .u8 (c.toNat : Int)] w fun e w' => e = .returned (.bool (hasB s.data.toList c)) ∧ w = w' := by
  go_enter Tryz.func44, Tryz.ntmps44
  go_wp2
  go_loop [5] (fun i => ∃ j : Nat, j ≤ s.size ∧ i = .int .i64 j ∧ Hid (hasB s.data.toList c = hasB (s.data.toList.drop j) c)) (fun i => s.size - (intOf i).toNat)
  case atStart => exact ⟨0, Nat.zero_le _, rfl, rfl⟩
  case round =>
    obtain ⟨j, hj, rfl, HB⟩ := hrel
    by_cases hlt : j < s.size
    · have hd : hasB s.data.toList c = (decide (s[j] = c) || hasB (s.data.toList.drop (j + 1)) c) := by
        rw [HB.out, drop_cons s j hlt]
        rfl
      by_cases hc : s[j] = c
      · have g := beqT (show (s[j].toNat : Int) = (c.toNat : Int) by rw [hc])
        have HD := Lib.hid (show hasB s.data.toList c = true by rw [hd]; simp [hc])
        clear hd hc
        go_wp2
        go_ret
        exact ⟨ret_bool HD.out.symm, rfl⟩
      · have g := beqF (show ¬ (s[j].toNat : Int) = (c.toNat : Int) from fun e => hc (UInt8.toNat_inj.1 (by omega)))
        have HD := Lib.hid (show hasB s.data.toList c = hasB (s.data.toList.drop (j + 1)) c by rw [hd]; simp [hc])
        clear hd hc
        go_wp2
        go_round
        case rel => exact ⟨j + 1, by omega, by go_num, HD⟩
        case measure => simp [intOf]; omega
    · have HD := Lib.hid (show hasB s.data.toList c = false by rw [HB.out, drop_all s j (by omega)]; rfl)
      go_wp2
      go_ret
      exact ⟨ret_bool HD.out.symm, rfl⟩

theorem dbl_snoc (l : List UInt8) (c : UInt8) : Csv.dbl (l ++ [c]) = Csv.dbl l ++ (if c = 34 then [34, 34] else [c]) := by simp [Csv.dbl]

set_option maxHeartbeats 16000000 in
theorem refPrint_any (v : Value) (L : List (List (List UInt8))) (B : Nat) (w : World) (hv : Rowz w B v L) (hf : Fits L) :
    Calls Tryz.prog 18 #[v] w fun e w' => e = .returned (.string ⟨(Csv.printOf L).toArray⟩) ∧ w = w' := by
  have HF := Lib.hid hf
  obtain ⟨A, n, c, rfl, hn, hc, hh⟩ := hv
  have HH := Lib.hid hh; clear hh
  have HL := Lib.hid hn
  have hn1 : n ≤ 1001 := by have := hf.rows; omega
  clear hf hn
  go_enter Tryz.func18, Tryz.ntmps18
  go_wp2_with fail
  go_loop [3, 4] (fun o i => ∃ (j : Nat) (X : List UInt8), j ≤ n ∧ i = .int .i64 j ∧ o = .string ⟨X.toArray⟩ ∧ Hid (Csv.printOf (L.take j) = X) ∧ Hid (X.length ≤ j * 3000000)) (fun _ i => n - (intOf i).toNat)
  case atStart => exact ⟨0, [], Nat.zero_le _, rfl, rfl, rfl, by simp [Hid]⟩
  case round =>
    obtain ⟨j, X, hj, rfl, rfl, HX, HS⟩ := hrel
    by_cases hlt : j < n
    · obtain ⟨r, hr⟩ : ∃ x, L[j]? = some x := ⟨_, List.getElem?_eq_getElem (by have := HL.out; omega)⟩
      obtain ⟨ad, u, rfl, had, hcell, hu⟩ := HH.out j r hr
      obtain ⟨Ai, ni, ci, rfl, hni, hci, hh⟩ := hu
      have HI := Lib.hid hh
      have HNI := Lib.hid hni; have HR := Lib.hid hr
      have hni1 : ni ≤ 1001 := by have := HF.out.fields r (List.mem_of_getElem? hr); omega
      have HFB := Lib.hid (HF.out.bytes r (List.mem_of_getElem? hr))
      clear hh hni hr
      go_wp2_with fail
      go_loop [3, 5] (fun o i => ∃ (k : Nat) (Y : List UInt8), k ≤ ni ∧ i = .int .i64 k ∧ o = .string ⟨(X ++ Y).toArray⟩ ∧ Hid (Csv.rowOf (r.take k) = Y) ∧ Hid (Y.length ≤ k * 2800)) (fun _ i => ni - (intOf i).toNat)
      case atStart => exact ⟨0, [], Nat.zero_le _, rfl, by simp, rfl, by simp [Hid]⟩
      case round =>
        obtain ⟨k, Y, hk, rfl, rfl, HY, HT⟩ := hrel
        by_cases hkt : k < ni
        · obtain ⟨f, hf⟩ : ∃ x, r[k]? = some x := ⟨_, List.getElem?_eq_getElem (by have := HNI.out; omega)⟩
          obtain ⟨ad2, u2, rfl, had2, hcell2, hu2⟩ := HI.out k f hf
          subst hu2
          obtain ⟨s, rfl⟩ : ∃ s : ByteArray, f = s.data.toList := ⟨⟨f.toArray⟩, by simp⟩
          have hss : (⟨s.data.toList.toArray⟩ : ByteArray) = s := by simp
          rw [hss] at hcell2
          have hsl : s.data.toList.length = s.size := by simp
          have hfl := HFB.out s.data.toList (List.mem_of_getElem? hf)
          have hsn := Csv.rowOf_snoc (r.take k) s.data.toList
          rw [← take_succ' hf, HY.out] at hsn
          have hrt : (r.take k = []) ↔ k = 0 := by
            have := HNI.out
            constructor
            · intro e
              have h2 : (r.take k).length = 0 := by rw [e]; rfl
              rw [List.length_take] at h2
              omega
            · rintro rfl; rfl
          have hlx : X.length + Y.length ≤ 4000000000 := by have := HS.out; have := HT.out; omega
          have hfz : s.size ≤ 1001 := by omega
          have HH2 : Hid (∀ (c : UInt8) (W : World), Calls Tryz.prog 44 #[.string s, .int .u8 (c.toNat : Int)] W fun e w' => e = .returned (.bool (hasB s.data.toList c)) ∧ W = w') := fun c W => has_any s c W (by omega)
          have h44 : Hid (∀ (W : World), Calls Tryz.prog 44 #[.string s, .int .u8 44] W fun e w' => e = .returned (.bool (hasB s.data.toList 44)) ∧ W = w') := fun W => HH2.out 44 W
          have h34 : Hid (∀ (W : World), Calls Tryz.prog 44 #[.string s, .int .u8 34] W fun e w' => e = .returned (.bool (hasB s.data.toList 34)) ∧ W = w') := fun W => HH2.out 34 W
          have h10 : Hid (∀ (W : World), Calls Tryz.prog 44 #[.string s, .int .u8 10] W fun e w' => e = .returned (.bool (hasB s.data.toList 10)) ∧ W = w') := fun W => HH2.out 10 W
          have h13 : Hid (∀ (W : World), Calls Tryz.prog 44 #[.string s, .int .u8 13] W fun e w' => e = .returned (.bool (hasB s.data.toList 13)) ∧ W = w') := fun W => HH2.out 13 W
          have HNE := Lib.hid (needs_has s.data.toList)
          obtain ⟨b44, e44⟩ : ∃ b, hasB s.data.toList 44 = b := ⟨_, rfl⟩
          obtain ⟨b34, e34⟩ : ∃ b, hasB s.data.toList 34 = b := ⟨_, rfl⟩
          obtain ⟨b10, e10⟩ : ∃ b, hasB s.data.toList 10 = b := ⟨_, rfl⟩
          obtain ⟨b13, e13⟩ : ∃ b, hasB s.data.toList 13 = b := ⟨_, rfl⟩
          rw [e44] at h44 HNE; rw [e34] at h34 HNE; rw [e10] at h10 HNE; rw [e13] at h13 HNE
          have HSN := Lib.hid hsn; have HRT := Lib.hid hrt
          have HFL := Lib.hid hfl; have HSL := Lib.hid hsl
          clear e44 e34 e10 e13 HH2 hf hsn hrt hss hsl hfl
          -- the comma
          obtain ⟨Z, hk0, hz⟩ : ∃ Z : List UInt8, Hid ((k = 0 ∧ Z = X ++ Y) ∨ (0 < k ∧ Z = X ++ Y ++ [44])) ∧ Hid (X ++ Csv.rowOf (r.take (k + 1)) = Z ++ Csv.fieldOf s.data.toList) := by
            by_cases hk0 : k = 0
            · refine ⟨X ++ Y, .inl ⟨hk0, rfl⟩, ?_⟩
              have h := HSN.out
              rw [if_pos (HRT.out.2 hk0)] at h
              have hY : Y = [] := List.eq_nil_of_length_eq_zero (by have := HT.out; rw [hk0] at this; omega)
              show _ = _
              rw [h, hY, List.append_nil]
            · refine ⟨X ++ Y ++ [44], .inr ⟨by omega, rfl⟩, ?_⟩
              have h := HSN.out
              rw [if_neg (fun e => hk0 (HRT.out.1 e))] at h
              show _ = _
              rw [h]
              simp
          have hlz : Z.length ≤ 4000000001 := by
            rcases hk0.out with ⟨_, h⟩ | ⟨_, h⟩ <;> rw [h] <;> simp <;> omega
          have HFO := Lib.hid (Csv.fieldOf_len s.data.toList)
          have HLX := Lib.hid hlx
          have HLEN := Lib.hid (show (Csv.rowOf (r.take (k + 1))).length ≤ (k + 1) * 2800 by
            have h := HSN.out
            have h1 := HFO.out; have h2 := HFL.out; have h3 := HT.out
            rw [h]
            split
            · omega
            · rw [List.length_append, List.length_cons]; omega)
          obtain ⟨hkb, hzs⟩ | ⟨hkb, hzs⟩ : ((¬ (0 : Int) < (k : Int)) ∧ (⟨(X ++ Y).toArray⟩ : ByteArray) = ⟨Z.toArray⟩) ∨ (((0 : Int) < (k : Int)) ∧ (⟨(X ++ Y).toArray⟩ : ByteArray) ++ ⟨#[44]⟩ = ⟨Z.toArray⟩) := by
            rcases hk0.out with ⟨h1, h2⟩ | ⟨h1, h2⟩
            · exact .inl ⟨by omega, by rw [h2]⟩
            · exact .inr ⟨by omega, by rw [h2, ← str_app (X ++ Y) [44]]⟩
          all_goals
            obtain hneed | hneed : Hid (needs s.data.toList = true) ∨ Hid (needs s.data.toList = false) := by
              cases h : needs s.data.toList
              · exact .inr rfl
              · exact .inl rfl
            · have HN2 := Lib.hid (show Csv.fieldOf s.data.toList = 34 :: (Csv.dbl s.data.toList ++ [34]) from if_pos hneed.out)
              have hb : b44 = true ∨ (b44 = false ∧ b34 = true) ∨ (b44 = false ∧ b34 = false ∧ b10 = true) ∨ (b44 = false ∧ b34 = false ∧ b10 = false ∧ b13 = true) := by
                have h := HNE.out
                rw [hneed.out] at h
                cases b44 <;> cases b34 <;> cases b10 <;> cases b13 <;> simp at h ⊢
              rcases hb with rfl | ⟨rfl, rfl⟩ | ⟨rfl, rfl, rfl⟩ | ⟨rfl, rfl, rfl, rfl⟩
              all_goals
                go_wp2_with (first
                  | (go_at_call 44; with_reducible refine (h44.out _).mono ?_; rintro e w1 ⟨rfl, rfl⟩)
                  | (go_at_call 44; with_reducible refine (h34.out _).mono ?_; rintro e w1 ⟨rfl, rfl⟩)
                  | (go_at_call 44; with_reducible refine (h10.out _).mono ?_; rintro e w1 ⟨rfl, rfl⟩)
                  | (go_at_call 44; with_reducible refine (h13.out _).mono ?_; rintro e w1 ⟨rfl, rfl⟩))
                clear hzs h44 h34 h10 h13
                go_loop [3, 7] (fun o i => ∃ (t : Nat) (V : List UInt8), t ≤ s.size ∧ i = .int .i64 t ∧ o = .string ⟨V.toArray⟩ ∧ Hid (V = Z ++ [34] ++ Csv.dbl (s.data.toList.take t)) ∧ V.length ≤ 4100000000) (fun _ i => s.size - (intOf i).toNat)
                case atStart => exact ⟨0, Z ++ [34], Nat.zero_le _, rfl, by rw [← str_app Z [34]], by simp [Hid, Csv.dbl], by simp; omega⟩
                case round =>
                  obtain ⟨t, V, ht, rfl, rfl, HV, hlv⟩ := hrel
                  have hdl := Csv.dbl_len (s.data.toList.take (t + 1))
                  have hdt : (s.data.toList.take (t + 1)).length ≤ t + 1 := List.length_take_le _ _
                  have hvb : ∀ V' : List UInt8, V' = Z ++ [34] ++ Csv.dbl (s.data.toList.take (t + 1)) → V'.length ≤ 4100000000 := by
                    intro V' e
                    rw [e, List.length_append, List.length_append]
                    simp only [List.length_cons, List.length_nil]
                    omega
                  have HVB := Lib.hid hvb
                  clear hdl hdt hvb
                  by_cases hts : t < s.size
                  · have hsn := dbl_snoc (s.data.toList.take t) s[t]
                    rw [← take_snocC s t hts] at hsn
                    have hse := fun V : List UInt8 => string_snoc s t hts V
                    by_cases hc : s[t] = 34
                    · have g : (s[t].toNat : Int) = 34 := by rw [hc]; rfl
                      have HX2 := Lib.hid (show V ++ [34] ++ [s[t]] = Z ++ [34] ++ Csv.dbl (s.data.toList.take (t + 1)) by rw [hsn, if_pos hc, HV.out, hc]; simp)
                      have HSE := Lib.hid hse
                      clear hsn hse hc
                      go_wp2_with fail
                      go_round
                      case rel => exact ⟨t + 1, V ++ [34] ++ [s[t]], by omega, by go_num, by rw [← HSE.out (V ++ [34]), ← str_app V [34]], HX2, HVB.out _ HX2.out⟩
                      case measure => simp [intOf]; omega
                    · have g := beqF (show ¬ (s[t].toNat : Int) = 34 from fun e => hc ((u8_of _ 34 (by decide)).1 e))
                      have HX2 := Lib.hid (show V ++ [s[t]] = Z ++ [34] ++ Csv.dbl (s.data.toList.take (t + 1)) by rw [hsn, if_neg hc, HV.out]; simp)
                      have HSE := Lib.hid hse
                      clear hsn hse hc
                      go_wp2_with fail
                      go_round
                      case rel => exact ⟨t + 1, V ++ [s[t]], by omega, by go_num, by rw [← HSE.out V], HX2, HVB.out _ HX2.out⟩
                      case measure => simp [intOf]; omega
                  · have HE := Lib.hid (show V ++ [34] = X ++ Csv.rowOf (r.take (k + 1)) by
                      have hfull : s.data.toList.take t = s.data.toList := List.take_of_length_le (by have := HSL.out; omega)
                      rw [hz.out, HN2.out, HV.out, hfull]
                      simp)
                    go_wp2_with fail
                    go_round
                    case rel => exact ⟨k + 1, Csv.rowOf (r.take (k + 1)), by omega, by go_num, by rw [← HE.out, ← str_app V [34]], rfl, HLEN.out⟩
                    case measure => simp [intOf]; omega
            · have HE := Lib.hid (show Z ++ s.data.toList = X ++ Csv.rowOf (r.take (k + 1)) by
                rw [hz.out]
                unfold Csv.fieldOf
                rw [if_neg (by rw [hneed.out]; simp)])
              have hb : b44 = false ∧ b34 = false ∧ b10 = false ∧ b13 = false := by
                have h := HNE.out
                rw [hneed.out] at h
                cases b44 <;> cases b34 <;> cases b10 <;> cases b13 <;> simp at h ⊢
              obtain ⟨rfl, rfl, rfl, rfl⟩ := hb
              go_wp2_with (first
                | (go_at_call 44; with_reducible refine (h44.out _).mono ?_; rintro e w1 ⟨rfl, rfl⟩)
                | (go_at_call 44; with_reducible refine (h34.out _).mono ?_; rintro e w1 ⟨rfl, rfl⟩)
                | (go_at_call 44; with_reducible refine (h10.out _).mono ?_; rintro e w1 ⟨rfl, rfl⟩)
                | (go_at_call 44; with_reducible refine (h13.out _).mono ?_; rintro e w1 ⟨rfl, rfl⟩))
              go_round
              case rel => exact ⟨k + 1, Csv.rowOf (r.take (k + 1)), by omega, by go_num, by rw [← HE.out, ← str_app Z s.data.toList], rfl, HLEN.out⟩
              case measure => simp [intOf]; omega
        · have hfull : r.take k = r := List.take_of_length_le (by have := HNI.out; omega)
          have hp := Csv.printOf_snoc (L.take j) r
          rw [← take_succ' HR.out, HX.out] at hp
          have hy := HY.out
          rw [hfull] at hy
          rw [hy] at hp
          have HP := Lib.hid hp
          have hlx : X.length + Y.length ≤ 4000000000 := by have := HS.out; have := HT.out; omega
          clear hy hp hfull
          go_wp2_with fail
          refine ⟨⟨j + 1, X ++ Y ++ [10], by omega, by go_num, by rw [← str_app (X ++ Y) [10]], by rw [Hid, HP.out, List.append_assoc], ?_⟩, by simp [intOf]; omega⟩
          have := HS.out; have := HT.out
          show _ ≤ _
          rw [List.length_append, List.length_append]
          simp
          omega
    · have hfull : L.take j = L := List.take_of_length_le (by have := HL.out; omega)
      have HP := Lib.hid (show Csv.printOf L = X by rw [← HX.out, hfull])
      clear hfull
      go_wp2_with fail
      go_ret
      exact ⟨by rw [HP.out]; rfl, rfl⟩
end Go.Proofs.YtgpjbigelblanaaGreatDoor
/- Whether rows may be a party's: the document's Check, Valid. -/
namespace Go.Proofs.YtgpjbigelblanaaGreatDoor
open Go.RowKit Go.Maps Key Rw

theorem okAt_eq {p : Int} {l : List R5} {x : R5} {k : Nat} (hx : l[k]? = some x) : okAt p l k = (okRow p x && risen l x k) := by unfold okAt; rw [hx]
theorem okAt_not {p : Int} {l : List R5} {x : R5} {k : Nat} (hx : l[k]? = some x) (h : risen l x k = false) : okAt p l k = false := by rw [okAt_eq hx, h]; simp
set_option linter.unusedSimpArgs false in
set_option linter.unusedVariables false in
set_option maxRecDepth 100000 in
set_option maxHeartbeats 40000000 in
theorem refRowsCheck_any (w : World) (v : Value) (l : List R5) (p : Int) (hR : Rd w v l) :
    Calls Tryz.prog 66 #[v, .int .i64 p] w fun e w' => e = .returned (.bool (checkB p l)) ∧ Below w.heap.size w w' := by
  obtain ⟨A, c, rfl, hlc, hcm⟩ := hR.shape
  have HR := Lib.hid hR
  have hL63 : (l.length : Int) ≤ 9223372036854775807 := by unfold maxLen at hcm; omega
  clear hR
  by_cases hp0 : 0 ≤ p
  · by_cases hp2 : p ≤ 2
    · by_cases hl4 : l.length ≤ 400
      · have hl4' : (l.length : Int) ≤ 400 := by omega
        go_enter Tryz.func66, Tryz.ntmps66
        go_wp2_with fail
        go_loopw [5] (fun i wr => ∃ k : Nat, i = .int .i64 k ∧ k ≤ l.length ∧ Hid (okTo p l k = true) ∧ Hid (Below w.heap.size w wr)) (fun i _ => l.length - (intOf i).toNat)
        case atStart => exact ⟨0, rfl, by omega, (rfl : okTo p l 0 = true), Below.refl _ _⟩
        case round =>
          obtain ⟨k, rfl, hk, HTO, HBr⟩ := hrel
          by_cases hkl : k < l.length
          · obtain ⟨x, hx⟩ : ∃ x, l[k]? = some x := ⟨_, List.getElem?_eq_getElem hkl⟩
            obtain ⟨g, off, n0, c0', e, c0, c1, c2, c3, c4⟩ := HR.out.cells HBr.out hx
            injection e with e1 e2 e3
            subst e1; subst e2; subst e3
            obtain ⟨⟨o, d⟩, t, n, q⟩ := x
            simp only [] at c0 c1 c2 c3 c4
            have hlt : (k : Int) < l.length := by omega
            have hk0 : (0 : Int) ≤ k := by omega
            have HX := Lib.hid hx
            clear hx
            have HB1 := Lib.hid (HBr.out.alloc HBr.out.size (.cells #[.int .i64 o, .int .i64 d, .int .i64 t, .int .i64 n, .int .i64 q] tRow))
            have HM1 := Lib.hid (heap_new wr (.cells #[.int .i64 o, .int .i64 d, .int .i64 t, .int .i64 n, .int .i64 q] tRow))
            obtain ⟨m0, m1, m2, m3, m4⟩ := cell5 HM1.out
            have HC := Lib.hid (fun W => refCheck_any o d W)
            go_wp2_with fail
            generalize wr.alloc (.cells #[.int .i64 o, .int .i64 d, .int .i64 t, .int .i64 n, .int .i64 q] tRow) = wz at HB1 HM1 m0 m1 m2 m3 m4 ⊢
            have HBz := HB1
            clear c0 c1 c2 c3 c4
            generalize wr.heap.size = b0 at HM1 m0 m1 m2 m3 m4 ⊢
            refine (HC.out _).mono ?_
            rintro e wu ⟨rfl, hb⟩
            have HBu := Lib.hid (bch HB1.out hb HB1.out.size)
            have HM2 := Lib.hid (heap_keep HM1.out hb)
            clear m0 m1 m2 m3 m4
            clear hb HB1 HM1 HBz HC
            have HBx := HBu
            obtain ⟨m0, m1, m2, m3, m4⟩ := cell5 HM2.out
            cases hc : chk o d with
            | false =>
              have HF := Lib.hid (show checkB p l = false from check_bad hkl (okAt_row HX.out (by simp [okRow, hc])))
              go_wp2_with fail
              go_ret
              exact ⟨by rw [HF.out]; rfl, HBx.out⟩
            | true =>
              have hd6 : Mon.InR d := by have := chk_iff.1 hc; unfold Mon.InR; omega
              obtain ⟨pd, hpd⟩ : ∃ z, partyI d = z := ⟨_, rfl⟩
              have HP := Lib.hid (fun W => (refParty_any d W hd6).mono (fun e w' h => (⟨by rw [h.1, hpd], h.2⟩ : e = .returned (.int .i64 pd) ∧ W = w')))
              have HPD := Lib.hid hpd
              have HCC := Lib.hid hc
              clear hpd hc
              go_wp2_with fail
              refine (HP.out _).mono ?_
              rintro e w2 ⟨rfl, hw⟩; subst hw
              clear HP
              have hpd := HPD.out
              have hc := HCC.out
              by_cases hp : pd = p
              · subst hp
                by_cases ht1 : 1 ≤ t
                · by_cases ht2 : t ≤ 2
                  · obtain ⟨rb, hrb⟩ : ∃ rb, risen l ((o, d), t, n, q) k = rb := ⟨_, rfl⟩
                    have HRB := Lib.hid hrb
                    clear hrb
                    go_wp2_with fail
                    clear m0 m1 m2 m3 m4
                    clear HBx
                    go_cut [63] from 18 to 107 (fun c wx => c = .bool (!rb) ∧ Hid (Below wu.heap.size wu wx))
                    case first =>
                      cases k with
                      | zero =>
                        have hrb' : rb = true := HRB.out.symm
                        subst hrb'
                        rw [show ((0 : Nat) : Int) = 0 from rfl] at hlt hk0 ⊢
                        refine wp_region_noPanic ?_
                        refine wp_region_held_drew (S := (fun w' => Hid (Below wu.heap.size wu w') ∧ w'.cell? ⟨b0, 0, none⟩ = some (.int .i64 o) ∧ w'.cell? ⟨b0, 1, none⟩ = some (.int .i64 d) ∧ w'.cell? ⟨b0, 2, none⟩ = some (.int .i64 t) ∧ w'.cell? ⟨b0, 3, none⟩ = some (.int .i64 n) ∧ w'.cell? ⟨b0, 4, none⟩ = some (.int .i64 q))) (by kernel_rfl) ⟨(below_drew1 (Below.refl _ wu)), cell_at ((((below_drew1 (Below.refl _ wu))).block _ (heap_lt HM2.out)).trans HM2.out) 0 rfl, cell_at ((((below_drew1 (Below.refl _ wu))).block _ (heap_lt HM2.out)).trans HM2.out) 1 rfl, cell_at ((((below_drew1 (Below.refl _ wu))).block _ (heap_lt HM2.out)).trans HM2.out) 2 rfl, cell_at ((((below_drew1 (Below.refl _ wu))).block _ (heap_lt HM2.out)).trans HM2.out) 3 rfl, cell_at ((((below_drew1 (Below.refl _ wu))).block _ (heap_lt HM2.out)).trans HM2.out) 4 rfl⟩ (fun hHeld => ?_)
                        refine wpAnyH_take (i := 0) (v := ?vz0) rfl (by kernel_rfl) (by kernel_rfl) (by kernel_rfl) (fun _ _ _ h => h) (Or.inl ⟨by rfl, ?hyz0⟩) (by assumption) ?restz0
                        case hyz0 => (intro w0 hSw; (try dsimp only at hSw); go_simp; try with_reducible rfl)
                        case' restz0 => try simp only [Act.put, List.getElem_toArray, List.getElem_cons_zero, List.getElem_cons_succ, List.setIfInBounds_toArray, List.set_cons_zero, List.set_cons_succ]
                        refine wpAnyH_take (i := 1) (v := ?vz1) rfl (by kernel_rfl) (by kernel_rfl) (by kernel_rfl) (fun _ _ _ h => h) (Or.inl ⟨by rfl, ?hyz1⟩) (by assumption) ?restz1
                        case hyz1 => (intro w0 hSw; (try dsimp only at hSw); go_simp; try with_reducible rfl)
                        case' restz1 => try simp only [Act.put, List.getElem_toArray, List.getElem_cons_zero, List.getElem_cons_succ, List.setIfInBounds_toArray, List.set_cons_zero, List.set_cons_succ]
                        refine wpAnyH_take (i := 2) (v := ?vz2) rfl (by kernel_rfl) (by kernel_rfl) (by kernel_rfl) (fun _ _ _ h => h) (Or.inl ⟨by rfl, ?hyz2⟩) (by assumption) ?restz2
                        case hyz2 => (intro w0 hSw; (try dsimp only at hSw); go_simp; try with_reducible rfl)
                        case' restz2 => try simp only [Act.put, List.getElem_toArray, List.getElem_cons_zero, List.getElem_cons_succ, List.setIfInBounds_toArray, List.set_cons_zero, List.set_cons_succ]
                        refine wpAnyH_take (i := 3) (v := undef) rfl (by kernel_rfl) (by kernel_rfl) (by kernel_rfl) (fun _ _ _ h => h) (Or.inr ⟨by rfl, rfl⟩) (by assumption) ?_
                        try simp only [Act.put, List.getElem_toArray, List.getElem_cons_zero, List.getElem_cons_succ, List.setIfInBounds_toArray, List.set_cons_zero, List.set_cons_succ]
                        refine wpAnyH_take (i := 4) (v := undef) rfl (by kernel_rfl) (by kernel_rfl) (by kernel_rfl) (fun _ _ _ h => h) (Or.inr ⟨by rfl, rfl⟩) (by assumption) ?_
                        try simp only [Act.put, List.getElem_toArray, List.getElem_cons_zero, List.getElem_cons_succ, List.setIfInBounds_toArray, List.set_cons_zero, List.set_cons_succ]
                        refine wpAnyH_take (i := 5) (v := undef) rfl (by kernel_rfl) (by kernel_rfl) (by kernel_rfl) (fun _ _ _ h => h) (Or.inr ⟨by rfl, rfl⟩) (by assumption) ?_
                        try simp only [Act.put, List.getElem_toArray, List.getElem_cons_zero, List.getElem_cons_succ, List.setIfInBounds_toArray, List.set_cons_zero, List.set_cons_succ]
                        refine wpAnyH_take (i := 6) (v := undef) rfl (by kernel_rfl) (by kernel_rfl) (by kernel_rfl) (fun _ _ _ h => h) (Or.inr ⟨by rfl, rfl⟩) (by assumption) ?_
                        try simp only [Act.put, List.getElem_toArray, List.getElem_cons_zero, List.getElem_cons_succ, List.setIfInBounds_toArray, List.set_cons_zero, List.set_cons_succ]
                        refine wpAnyH_take (i := 7) (v := undef) rfl (by kernel_rfl) (by kernel_rfl) (by kernel_rfl) (fun _ _ _ h => h) (Or.inr ⟨by rfl, rfl⟩) (by assumption) ?_
                        try simp only [Act.put, List.getElem_toArray, List.getElem_cons_zero, List.getElem_cons_succ, List.setIfInBounds_toArray, List.set_cons_zero, List.set_cons_succ]
                        refine wpAnyH_take (i := 8) (v := undef) rfl (by kernel_rfl) (by kernel_rfl) (by kernel_rfl) (fun _ _ _ h => h) (Or.inr ⟨by rfl, rfl⟩) (by assumption) ?_
                        try simp only [Act.put, List.getElem_toArray, List.getElem_cons_zero, List.getElem_cons_succ, List.setIfInBounds_toArray, List.set_cons_zero, List.set_cons_succ]
                        refine wpAnyH_take (i := 9) (v := undef) rfl (by kernel_rfl) (by kernel_rfl) (by kernel_rfl) (fun _ _ _ h => h) (Or.inr ⟨by rfl, rfl⟩) (by assumption) ?_
                        try simp only [Act.put, List.getElem_toArray, List.getElem_cons_zero, List.getElem_cons_succ, List.setIfInBounds_toArray, List.set_cons_zero, List.set_cons_succ]
                        refine wpAnyH_take (i := 10) (v := undef) rfl (by kernel_rfl) (by kernel_rfl) (by kernel_rfl) (fun _ _ _ h => h) (Or.inr ⟨by rfl, rfl⟩) (by assumption) ?_
                        try simp only [Act.put, List.getElem_toArray, List.getElem_cons_zero, List.getElem_cons_succ, List.setIfInBounds_toArray, List.set_cons_zero, List.set_cons_succ]
                        refine wpAnyH_take (i := 11) (v := undef) rfl (by kernel_rfl) (by kernel_rfl) (by kernel_rfl) (fun _ _ _ h => h) (Or.inr ⟨by rfl, rfl⟩) (by assumption) ?_
                        try simp only [Act.put, List.getElem_toArray, List.getElem_cons_zero, List.getElem_cons_succ, List.setIfInBounds_toArray, List.set_cons_zero, List.set_cons_succ]
                        refine wpAnyH_take (i := 12) (v := undef) rfl (by kernel_rfl) (by kernel_rfl) (by kernel_rfl) (fun _ _ _ h => h) (Or.inr ⟨by rfl, rfl⟩) (by assumption) ?_
                        try simp only [Act.put, List.getElem_toArray, List.getElem_cons_zero, List.getElem_cons_succ, List.setIfInBounds_toArray, List.set_cons_zero, List.set_cons_succ]
                        refine wpAnyH_take (i := 13) (v := ?vz13) rfl (by kernel_rfl) (by kernel_rfl) (by kernel_rfl) (fun _ _ _ h => h) (Or.inl ⟨by rfl, ?hyz13⟩) (by assumption) ?restz13
                        case hyz13 => (intro w0 hSw; (try dsimp only at hSw); go_simp; try with_reducible rfl)
                        case' restz13 => try simp only [Act.put, List.getElem_toArray, List.getElem_cons_zero, List.getElem_cons_succ, List.setIfInBounds_toArray, List.set_cons_zero, List.set_cons_succ]
                        refine wpAnyH_done (by kernel_rfl) ?_ _
                        refine NoPanic.normal ?_
                        have HW := Lib.hid (Hid.out hHeld.1)
                        clear hHeld
                        go_wp2_with fail
                        go_meet
                        exact ⟨rfl, HW⟩
                      | succ j =>
                        obtain ⟨y, hy⟩ : ∃ y, l[j]? = some y := ⟨_, List.getElem?_eq_getElem (by omega)⟩
                        obtain ⟨⟨o', d'⟩, t', n', q'⟩ := y
                        obtain ⟨bl, hbl⟩ : ∃ bl, lessB o' d' o d = bl := ⟨_, rfl⟩
                        have hrb' : rb = bl := by rw [← HRB.out, ← hbl]; show (match l[j]? with | none => true | some y => lessR y ((o, d), t, n, q)) = _; rw [hy]; rfl
                        have HL := Lib.hid (fun W => (refLess_any o' d' o d W).mono (fun e w' h => (⟨by rw [h.1, hbl], h.2⟩ : e = .returned (.bool bl) ∧ Below W.heap.size W w')))
                        have HD := Lib.hid (fun W (hb : Below wu.heap.size wu W) => (by
                          obtain ⟨g', off', n', c', e, d0, d1, _⟩ := HR.out.cells (bch HBu.out hb HBu.out.size) hy
                          injection e with e1 e2 e3
                          injection e1 with e1
                          injection e1 with e1 e4 _
                          subst e1; subst e4
                          exact ⟨d0, d1⟩ : W.cell? ⟨g, off + j * 5, none⟩ = some (.int .i64 o') ∧ W.cell? ⟨g, off + j * 5 + 1, none⟩ = some (.int .i64 d')))
                        clear hbl hy
                        subst hrb'
                        have hwr : IntKind.i64.wrap (j : Int) = j := by rw [IntKind.wrap_i64]; omega
                        have hjl : j < l.length := by omega
                        rw [show ((j + 1 : Nat) : Int) = (j : Int) + 1 from rfl] at hlt hk0 ⊢
                        refine wp_region_noPanic ?_
                        refine wp_region_held_drew (S := (fun w' => Hid (Below wu.heap.size wu w') ∧ w'.cell? ⟨b0, 0, none⟩ = some (.int .i64 o) ∧ w'.cell? ⟨b0, 1, none⟩ = some (.int .i64 d) ∧ w'.cell? ⟨b0, 2, none⟩ = some (.int .i64 t) ∧ w'.cell? ⟨b0, 3, none⟩ = some (.int .i64 n) ∧ w'.cell? ⟨b0, 4, none⟩ = some (.int .i64 q) ∧ w'.cell? ⟨g, off + j * 5, none⟩ = some (.int .i64 o') ∧ w'.cell? ⟨g, off + j * 5 + 1, none⟩ = some (.int .i64 d'))) (by kernel_rfl) ⟨(below_drew1 (Below.refl _ wu)), cell_at ((((below_drew1 (Below.refl _ wu))).block _ (heap_lt HM2.out)).trans HM2.out) 0 rfl, cell_at ((((below_drew1 (Below.refl _ wu))).block _ (heap_lt HM2.out)).trans HM2.out) 1 rfl, cell_at ((((below_drew1 (Below.refl _ wu))).block _ (heap_lt HM2.out)).trans HM2.out) 2 rfl, cell_at ((((below_drew1 (Below.refl _ wu))).block _ (heap_lt HM2.out)).trans HM2.out) 3 rfl, cell_at ((((below_drew1 (Below.refl _ wu))).block _ (heap_lt HM2.out)).trans HM2.out) 4 rfl, (HD.out _ ((below_drew1 (Below.refl _ wu)))).1, (HD.out _ ((below_drew1 (Below.refl _ wu)))).2⟩ (fun hHeld => ?_)
                        refine wpAnyH_take (i := 0) (v := ?vs0) rfl (by kernel_rfl) (by kernel_rfl) (by kernel_rfl) (fun _ _ _ h => h) (Or.inl ⟨by rfl, ?hys0⟩) (by assumption) ?rests0
                        case hys0 => (intro w0 hSw; (try dsimp only at hSw); go_simp; try with_reducible rfl)
                        case' rests0 => try simp only [Act.put, List.getElem_toArray, List.getElem_cons_zero, List.getElem_cons_succ, List.setIfInBounds_toArray, List.set_cons_zero, List.set_cons_succ]
                        refine wpAnyH_take (i := 1) (v := ?vs1) rfl (by kernel_rfl) (by kernel_rfl) (by kernel_rfl) (fun _ _ _ h => h) (Or.inl ⟨by rfl, ?hys1⟩) (by assumption) ?rests1
                        case hys1 => (intro w0 hSw; (try dsimp only at hSw); go_simp; try with_reducible rfl)
                        case' rests1 => try simp only [Act.put, List.getElem_toArray, List.getElem_cons_zero, List.getElem_cons_succ, List.setIfInBounds_toArray, List.set_cons_zero, List.set_cons_succ]
                        refine wpAnyH_take (i := 2) (v := ?vs2) rfl (by kernel_rfl) (by kernel_rfl) (by kernel_rfl) (fun _ _ _ h => h) (Or.inl ⟨by rfl, ?hys2⟩) (by assumption) ?rests2
                        case hys2 => (intro w0 hSw; (try dsimp only at hSw); go_simp; try with_reducible rfl)
                        case' rests2 => try simp only [Act.put, List.getElem_toArray, List.getElem_cons_zero, List.getElem_cons_succ, List.setIfInBounds_toArray, List.set_cons_zero, List.set_cons_succ]
                        refine wpAnyH_take (i := 3) (v := ?vs3) rfl (by kernel_rfl) (by kernel_rfl) (by kernel_rfl) (fun _ _ _ h => h) (Or.inl ⟨by rfl, ?hys3⟩) (by assumption) ?rests3
                        case hys3 => (intro w0 hSw; (try dsimp only at hSw); go_simp; try with_reducible rfl)
                        case' rests3 => try simp only [Act.put, List.getElem_toArray, List.getElem_cons_zero, List.getElem_cons_succ, List.setIfInBounds_toArray, List.set_cons_zero, List.set_cons_succ]
                        refine wpAnyH_take (i := 4) (v := ?vs4) rfl (by kernel_rfl) (by kernel_rfl) (by kernel_rfl) (fun _ _ _ h => h) (Or.inl ⟨by rfl, ?hys4⟩) (by assumption) ?rests4
                        case hys4 => (intro w0 hSw; (try dsimp only at hSw); go_simp; try with_reducible rfl)
                        case' rests4 => try simp only [Act.put, List.getElem_toArray, List.getElem_cons_zero, List.getElem_cons_succ, List.setIfInBounds_toArray, List.set_cons_zero, List.set_cons_succ]
                        refine wpAnyH_take (i := 5) (v := ?vs5) rfl (by kernel_rfl) (by kernel_rfl) (by kernel_rfl) (fun _ _ _ h => h) (Or.inl ⟨by rfl, ?hys5⟩) (by assumption) ?rests5
                        case hys5 => (intro w0 hSw; (try dsimp only at hSw); go_simp; try with_reducible rfl)
                        case' rests5 => try simp only [Act.put, List.getElem_toArray, List.getElem_cons_zero, List.getElem_cons_succ, List.setIfInBounds_toArray, List.set_cons_zero, List.set_cons_succ]
                        refine wpAnyH_take (i := 6) (v := ?vs6) rfl (by kernel_rfl) (by kernel_rfl) (by kernel_rfl) (fun _ _ _ h => h) (Or.inl ⟨by rfl, ?hys6⟩) (by assumption) ?rests6
                        case hys6 => (intro w0 hSw; (try dsimp only at hSw); go_simp; try with_reducible rfl)
                        case' rests6 => try simp only [Act.put, List.getElem_toArray, List.getElem_cons_zero, List.getElem_cons_succ, List.setIfInBounds_toArray, List.set_cons_zero, List.set_cons_succ]
                        refine wpAnyH_take (i := 7) (v := ?vs7) rfl (by kernel_rfl) (by kernel_rfl) (by kernel_rfl) (fun _ _ _ h => h) (Or.inl ⟨by rfl, ?hys7⟩) (by assumption) ?rests7
                        case hys7 => (intro w0 hSw; (try dsimp only at hSw); go_simp; try with_reducible rfl)
                        case' rests7 => try simp only [Act.put, List.getElem_toArray, List.getElem_cons_zero, List.getElem_cons_succ, List.setIfInBounds_toArray, List.set_cons_zero, List.set_cons_succ]
                        refine wpAnyH_take (i := 8) (v := ?vs8) rfl (by kernel_rfl) (by kernel_rfl) (by kernel_rfl) (fun _ _ _ h => h) (Or.inl ⟨by rfl, ?hys8⟩) (by assumption) ?rests8
                        case hys8 => (intro w0 hSw; (try dsimp only at hSw); go_simp; try with_reducible rfl)
                        case' rests8 => try simp only [Act.put, List.getElem_toArray, List.getElem_cons_zero, List.getElem_cons_succ, List.setIfInBounds_toArray, List.set_cons_zero, List.set_cons_succ]
                        refine wpAnyH_take (i := 9) (v := ?vs9) rfl (by kernel_rfl) (by kernel_rfl) (by kernel_rfl) (fun _ _ _ h => h) (Or.inl ⟨by rfl, ?hys9⟩) (by assumption) ?rests9
                        case hys9 => (intro w0 hSw; (try dsimp only at hSw); go_simp; try with_reducible rfl)
                        case' rests9 => try simp only [Act.put, List.getElem_toArray, List.getElem_cons_zero, List.getElem_cons_succ, List.setIfInBounds_toArray, List.set_cons_zero, List.set_cons_succ]
                        refine wpAnyH_take (i := 10) (v := ?vs10) rfl (by kernel_rfl) (by kernel_rfl) (by kernel_rfl) (fun _ _ _ h => h) (Or.inl ⟨by rfl, ?hys10⟩) (by assumption) ?rests10
                        case hys10 => (intro w0 hSw; (try dsimp only at hSw); go_simp; try with_reducible rfl)
                        case' rests10 => try simp only [Act.put, List.getElem_toArray, List.getElem_cons_zero, List.getElem_cons_succ, List.setIfInBounds_toArray, List.set_cons_zero, List.set_cons_succ]
                        refine wpAnyH_ready (rs := [11]) (by kernel_rfl) (by simp) ?_
                        refine AllReadyH.cons rfl (fun K hK => ?_) AllReadyH.nil
                        go_simp
                        refine (HL.out _).mono ?_; rintro e w1 ⟨rfl, hb⟩
                        have hbk := bch (Hid.out (And.left (by assumption))) hb (Below.size (Hid.out (And.left (by assumption))))
                        refine hK.out _ _ ⟨hbk, cell_at (((hbk).block _ (heap_lt HM2.out)).trans HM2.out) 0 rfl, cell_at (((hbk).block _ (heap_lt HM2.out)).trans HM2.out) 1 rfl, cell_at (((hbk).block _ (heap_lt HM2.out)).trans HM2.out) 2 rfl, cell_at (((hbk).block _ (heap_lt HM2.out)).trans HM2.out) 3 rfl, cell_at (((hbk).block _ (heap_lt HM2.out)).trans HM2.out) 4 rfl, (HD.out _ (hbk)).1, (HD.out _ (hbk)).2⟩ (fun hHeld => ?_)
                        clear hK K hb hbk
                        try simp only [Act.put, List.getElem_toArray, List.getElem_cons_zero, List.getElem_cons_succ, List.setIfInBounds_toArray, List.set_cons_zero, List.set_cons_succ]
                        refine wpAnyH_take (i := 12) (v := ?vs12) rfl (by kernel_rfl) (by kernel_rfl) (by kernel_rfl) (fun _ _ _ h => h) (Or.inl ⟨by rfl, ?hys12⟩) (by assumption) ?rests12
                        case hys12 => (intro w0 hSw; (try dsimp only at hSw); go_simp; try with_reducible rfl)
                        case' rests12 => try simp only [Act.put, List.getElem_toArray, List.getElem_cons_zero, List.getElem_cons_succ, List.setIfInBounds_toArray, List.set_cons_zero, List.set_cons_succ]
                        refine wpAnyH_take (i := 13) (v := ?vs13) rfl (by kernel_rfl) (by kernel_rfl) (by kernel_rfl) (fun _ _ _ h => h) (Or.inl ⟨by rfl, ?hys13⟩) (by assumption) ?rests13
                        case hys13 => (intro w0 hSw; (try dsimp only at hSw); go_simp; try with_reducible rfl)
                        case' rests13 => try simp only [Act.put, List.getElem_toArray, List.getElem_cons_zero, List.getElem_cons_succ, List.setIfInBounds_toArray, List.set_cons_zero, List.set_cons_succ]
                        refine wpAnyH_done (by kernel_rfl) ?_ _
                        refine NoPanic.normal ?_
                        have HW := Lib.hid (Hid.out hHeld.1)
                        clear hHeld
                        go_wp2_with fail
                        go_meet
                        exact ⟨rfl, HW⟩
                    case rest =>
                      obtain ⟨rfl, HCB⟩ := hcut
                      have HBx := Lib.hid (bch HBu.out HCB.out HBu.out.size)
                      have HM3 := Lib.hid (heap_keep HM2.out HCB.out)
                      clear HCB HM2
                      have HM2 := HM3
                      clear HM3
                      obtain ⟨m0, m1, m2, m3, m4⟩ := cell5 HM2.out
                      cases rb with
                      | false =>
                        have HF := Lib.hid (show checkB pd l = false from check_bad hkl (okAt_not HX.out HRB.out))
                        go_wp2_with fail
                        go_ret
                        exact ⟨by rw [HF.out]; rfl, HBx.out⟩
                      | true =>
                        have ht12 : t = 1 ∨ t = 2 := by omega
                        clear ht1 ht2
                        rcases ht12 with rfl | rfl
                        · by_cases ha1 : 0 ≤ n
                          · by_cases ha2 : n ≤ 1099511627776
                            · by_cases hq1 : 0 ≤ q
                              · by_cases hq2 : q ≤ 999
                                · by_cases ha0 : n = 0
                                  · subst ha0
                                    by_cases hq0 : q = 0
                                    · subst hq0
                                      by_cases hz : pd = 0
                                      · subst hz
                                        have HOKR := Lib.hid (show okRow 0 ((o, d), 1, 0, 0) = true by simp [okRow, hc, hpd])
                                        have HN := Lib.hid (show okTo 0 l (k + 1) = true by rw [okTo_succ, HTO.out, okAt_eq HX.out, HRB.out, HOKR.out]; rfl)
                                        go_wp2_with fail
                                        go_roundw
                                        case rel =>
                                          first
                                          | exact ⟨k + 1, by go_num, by omega, HN, HBx⟩
                                          | ((repeat apply Exists.intro); exact ⟨⟨k + 1, by go_num, by omega, HN, HBx⟩, rfl⟩)
                                        case measure => simp [intOf]; omega
                                      · have hzb := beqF hz
                                        have hzc := bneT hz
                                        have HOKR := Lib.hid (show okRow pd ((o, d), 1, 0, 0) = true by simp [okRow, hc, hpd, hz])
                                        have HN := Lib.hid (show okTo pd l (k + 1) = true by rw [okTo_succ, HTO.out, okAt_eq HX.out, HRB.out, HOKR.out]; rfl)
                                        go_wp2_with fail
                                        go_roundw
                                        case rel =>
                                          first
                                          | exact ⟨k + 1, by go_num, by omega, HN, HBx⟩
                                          | ((repeat apply Exists.intro); exact ⟨⟨k + 1, by go_num, by omega, HN, HBx⟩, rfl⟩)
                                        case measure => simp [intOf]; omega
                                    · have hq0b := beqF hq0
                                      have hq0c := bneT hq0
                                      by_cases hz : pd = 0
                                      · subst hz
                                        have HF := Lib.hid (show checkB 0 l = false from check_bad hkl (okAt_row HX.out (by simp [okRow, hc, hpd, hq0])))
                                        go_wp2_with fail
                                        go_ret
                                        exact ⟨by rw [HF.out]; rfl, HBx.out⟩
                                      · have hzb := beqF hz
                                        have hzc := bneT hz
                                        have HOKR := Lib.hid (show okRow pd ((o, d), 1, 0, q) = true by simp [okRow, hc, hpd, hz, hq1, hq2])
                                        have HN := Lib.hid (show okTo pd l (k + 1) = true by rw [okTo_succ, HTO.out, okAt_eq HX.out, HRB.out, HOKR.out]; rfl)
                                        go_wp2_with fail
                                        go_roundw
                                        case rel =>
                                          first
                                          | exact ⟨k + 1, by go_num, by omega, HN, HBx⟩
                                          | ((repeat apply Exists.intro); exact ⟨⟨k + 1, by go_num, by omega, HN, HBx⟩, rfl⟩)
                                        case measure => simp [intOf]; omega
                                  · have ha0b := beqF ha0
                                    have ha0c := bneT ha0
                                    by_cases hz : pd = 0
                                    · subst hz
                                      by_cases hq0 : q = 0
                                      · subst hq0
                                        have HOKR := Lib.hid (show okRow 0 ((o, d), 1, n, 0) = true by simp [okRow, hc, hpd, ha1, ha2])
                                        have HN := Lib.hid (show okTo 0 l (k + 1) = true by rw [okTo_succ, HTO.out, okAt_eq HX.out, HRB.out, HOKR.out]; rfl)
                                        go_wp2_with fail
                                        go_roundw
                                        case rel =>
                                          first
                                          | exact ⟨k + 1, by go_num, by omega, HN, HBx⟩
                                          | ((repeat apply Exists.intro); exact ⟨⟨k + 1, by go_num, by omega, HN, HBx⟩, rfl⟩)
                                        case measure => simp [intOf]; omega
                                      · have hq0b := beqF hq0
                                        have hq0c := bneT hq0
                                        have HF := Lib.hid (show checkB 0 l = false from check_bad hkl (okAt_row HX.out (by simp [okRow, hc, hpd, hq0])))
                                        go_wp2_with fail
                                        go_ret
                                        exact ⟨by rw [HF.out]; rfl, HBx.out⟩
                                    · have hzb := beqF hz
                                      have hzc := bneT hz
                                      have HF := Lib.hid (show checkB pd l = false from check_bad hkl (okAt_row HX.out (by simp [okRow, hc, hpd, ha0, hz])))
                                      go_wp2_with fail
                                      go_ret
                                      exact ⟨by rw [HF.out]; rfl, HBx.out⟩
                                · have hq2' : 999 < q := by omega
                                  have HF := Lib.hid (show checkB pd l = false from check_bad hkl (okAt_row HX.out (by cases hzz : okRow pd ((o, d), 1, n, q) with | false => rfl | true => (exfalso; simp [okRow, hc, hpd] at hzz; split at hzz <;> omega))))
                                  go_wp2_with fail
                                  go_ret
                                  exact ⟨by rw [HF.out]; rfl, HBx.out⟩
                              · have hq1' : q < 0 := by omega
                                have HF := Lib.hid (show checkB pd l = false from check_bad hkl (okAt_row HX.out (by cases hzz : okRow pd ((o, d), 1, n, q) with | false => rfl | true => (exfalso; simp [okRow, hc, hpd] at hzz; split at hzz <;> omega))))
                                go_wp2_with fail
                                go_ret
                                exact ⟨by rw [HF.out]; rfl, HBx.out⟩
                            · have ha2' : 1099511627776 < n := by omega
                              have HF := Lib.hid (show checkB pd l = false from check_bad hkl (okAt_row HX.out (by cases hzz : okRow pd ((o, d), 1, n, q) with | false => rfl | true => (exfalso; simp [okRow, hc, hpd] at hzz; split at hzz <;> omega))))
                              go_wp2_with fail
                              go_ret
                              exact ⟨by rw [HF.out]; rfl, HBx.out⟩
                          · have ha1' : n < 0 := by omega
                            have HF := Lib.hid (show checkB pd l = false from check_bad hkl (okAt_row HX.out (by cases hzz : okRow pd ((o, d), 1, n, q) with | false => rfl | true => (exfalso; simp [okRow, hc, hpd] at hzz; split at hzz <;> omega))))
                            go_wp2_with fail
                            go_ret
                            exact ⟨by rw [HF.out]; rfl, HBx.out⟩
                        · by_cases ha1 : 0 ≤ n
                          · by_cases ha2 : n ≤ 1099511627776
                            · by_cases hq1 : 0 ≤ q
                              · by_cases hq2 : q ≤ 999
                                · by_cases ha0 : n = 0
                                  · subst ha0
                                    by_cases hq0 : q = 0
                                    · subst hq0
                                      have HOKR := Lib.hid (show okRow pd ((o, d), 2, 0, 0) = true by simp [okRow, hc, hpd])
                                      have HN := Lib.hid (show okTo pd l (k + 1) = true by rw [okTo_succ, HTO.out, okAt_eq HX.out, HRB.out, HOKR.out]; rfl)
                                      go_wp2_with fail
                                      go_roundw
                                      case rel =>
                                        first
                                        | exact ⟨k + 1, by go_num, by omega, HN, HBx⟩
                                        | ((repeat apply Exists.intro); exact ⟨⟨k + 1, by go_num, by omega, HN, HBx⟩, rfl⟩)
                                      case measure => simp [intOf]; omega
                                    · have hq0b := beqF hq0
                                      have hq0c := bneT hq0
                                      by_cases hz : pd = 0
                                      · subst hz
                                        have HF := Lib.hid (show checkB 0 l = false from check_bad hkl (okAt_row HX.out (by simp [okRow, hc, hpd, hq0])))
                                        go_wp2_with fail
                                        go_ret
                                        exact ⟨by rw [HF.out]; rfl, HBx.out⟩
                                      · have hzb := beqF hz
                                        have hzc := bneT hz
                                        have HF := Lib.hid (show checkB pd l = false from check_bad hkl (okAt_row HX.out (by simp [okRow, hc, hpd, hq0])))
                                        go_wp2_with fail
                                        go_ret
                                        exact ⟨by rw [HF.out]; rfl, HBx.out⟩
                                  · have ha0b := beqF ha0
                                    have ha0c := bneT ha0
                                    by_cases hz : pd = 0
                                    · subst hz
                                      have HF := Lib.hid (show checkB 0 l = false from check_bad hkl (okAt_row HX.out (by simp [okRow, hc, hpd, ha0])))
                                      go_wp2_with fail
                                      go_ret
                                      exact ⟨by rw [HF.out]; rfl, HBx.out⟩
                                    · have hzb := beqF hz
                                      have hzc := bneT hz
                                      have HF := Lib.hid (show checkB pd l = false from check_bad hkl (okAt_row HX.out (by simp [okRow, hc, hpd, ha0])))
                                      go_wp2_with fail
                                      go_ret
                                      exact ⟨by rw [HF.out]; rfl, HBx.out⟩
                                · have hq2' : 999 < q := by omega
                                  have HF := Lib.hid (show checkB pd l = false from check_bad hkl (okAt_row HX.out (by cases hzz : okRow pd ((o, d), 2, n, q) with | false => rfl | true => (exfalso; simp [okRow, hc, hpd] at hzz; omega))))
                                  go_wp2_with fail
                                  go_ret
                                  exact ⟨by rw [HF.out]; rfl, HBx.out⟩
                              · have hq1' : q < 0 := by omega
                                have HF := Lib.hid (show checkB pd l = false from check_bad hkl (okAt_row HX.out (by cases hzz : okRow pd ((o, d), 2, n, q) with | false => rfl | true => (exfalso; simp [okRow, hc, hpd] at hzz; omega))))
                                go_wp2_with fail
                                go_ret
                                exact ⟨by rw [HF.out]; rfl, HBx.out⟩
                            · have ha2' : 1099511627776 < n := by omega
                              have HF := Lib.hid (show checkB pd l = false from check_bad hkl (okAt_row HX.out (by cases hzz : okRow pd ((o, d), 2, n, q) with | false => rfl | true => (exfalso; simp [okRow, hc, hpd] at hzz; omega))))
                              go_wp2_with fail
                              go_ret
                              exact ⟨by rw [HF.out]; rfl, HBx.out⟩
                          · have ha1' : n < 0 := by omega
                            have HF := Lib.hid (show checkB pd l = false from check_bad hkl (okAt_row HX.out (by cases hzz : okRow pd ((o, d), 2, n, q) with | false => rfl | true => (exfalso; simp [okRow, hc, hpd] at hzz; omega))))
                            go_wp2_with fail
                            go_ret
                            exact ⟨by rw [HF.out]; rfl, HBx.out⟩
                  · have ht2' : 2 < t := by omega
                    have ht3 : ¬ t = 2 := by omega
                    have ht4 : ¬ t = 1 := by omega
                    have HF := Lib.hid (show checkB pd l = false from check_bad hkl (okAt_row HX.out (by simp [okRow, hc, hpd, ht3, ht4])))
                    go_wp2_with fail
                    go_ret
                    exact ⟨by rw [HF.out]; rfl, HBx.out⟩
                · have ht1' : t < 1 := by omega
                  have ht3 : ¬ t = 2 := by omega
                  have ht4 : ¬ t = 1 := by omega
                  have HF := Lib.hid (show checkB pd l = false from check_bad hkl (okAt_row HX.out (by simp [okRow, hc, hpd, ht3, ht4])))
                  go_wp2_with fail
                  go_ret
                  exact ⟨by rw [HF.out]; rfl, HBx.out⟩
              · have hpb := bneT hp
                have HF := Lib.hid (show checkB p l = false from check_bad hkl (okAt_row HX.out (by simp [okRow, hc, hpd, hp])))
                go_wp2_with fail
                go_ret
                exact ⟨by rw [HF.out]; rfl, HBx.out⟩
          · obtain rfl : k = l.length := by omega
            have HF := Lib.hid (show checkB p l = true by unfold checkB; rw [HTO.out]; simp [hp0, hp2, hl4])
            go_wp2_with fail
            go_ret
            exact ⟨by rw [HF.out]; rfl, HBr.out⟩
      · have hl4' : (400 : Int) < l.length := by omega
        have HF := Lib.hid (show checkB p l = false by unfold checkB; simp; omega)
        go_enter Tryz.func66, Tryz.ntmps66
        go_wp2_with fail
        go_ret
        exact ⟨by rw [HF.out]; rfl, Below.refl _ _⟩
    · have hp2' : 2 < p := by omega
      have HF := Lib.hid (show checkB p l = false by unfold checkB; simp; omega)
      go_enter Tryz.func66, Tryz.ntmps66
      go_wp2_with fail
      go_ret
      exact ⟨by rw [HF.out]; rfl, Below.refl _ _⟩
  · have hp0' : p < 0 := by omega
    have HF := Lib.hid (show checkB p l = false by unfold checkB; simp; omega)
    go_enter Tryz.func66, Tryz.ntmps66
    go_wp2_with fail
    go_ret
    exact ⟨by rw [HF.out]; rfl, Below.refl _ _⟩
set_option linter.unusedSimpArgs false in
set_option linter.unusedVariables false in
set_option maxRecDepth 100000 in
set_option maxHeartbeats 8000000 in
theorem refRowsValid_any (w : World) (p s : Int) (v : Value) (l : List R5) (hR : Rd w v l) :
    Calls Tryz.prog 32 #[.agg #[.int .i64 p, .int .i64 s, v]] w fun e w' => e = .returned (.bool (validB p s l)) ∧ Below w.heap.size w w' := by
  have HB := Lib.hid (below_alloc w (.cells #[.int .i64 p, .int .i64 s, v] tStat))
  have HM := Lib.hid (heap_new w (.cells #[.int .i64 p, .int .i64 s, v] tStat))
  have HC := Lib.hid (fun W (hb : Below w.heap.size w W) => refRowsCheck_any W v l p (hR.keep hb))
  obtain ⟨A, c, rfl, _⟩ := hR.shape
  clear hR
  by_cases h1 : 1 ≤ s
  · by_cases h2 : s ≤ 1073741824
    · have HF := Lib.hid (show validB p s l = checkB p l by unfold validB; simp [h1, h2])
      go_enter Tryz.func32, Tryz.ntmps32
      go_wp2_with fail
      generalize w.alloc (.cells #[.int .i64 p, .int .i64 s, .slice A l.length c] tStat) = wa at HB HM ⊢
      obtain ⟨m0, m1, m2⟩ := cell3c HM.out
      go_wp2_with fail
      refine (HC.out _ HB.out).mono ?_
      rintro e w1 ⟨rfl, hb⟩
      go_wp2_with fail
      go_ret
      exact ⟨by rw [HF.out]; rfl, bch HB.out hb HB.out.size⟩
    · have HF := Lib.hid (show validB p s l = false by unfold validB; simp; omega)
      have h2' : 1073741824 < s := by omega
      go_enter Tryz.func32, Tryz.ntmps32
      go_wp2_with fail
      generalize w.alloc (.cells #[.int .i64 p, .int .i64 s, .slice A l.length c] tStat) = wa at HB HM ⊢
      obtain ⟨m0, m1, m2⟩ := cell3c HM.out
      go_wp2_with fail
      go_ret
      exact ⟨by rw [HF.out]; rfl, HB.out⟩
  · have HF := Lib.hid (show validB p s l = false by unfold validB; simp; omega)
    have h1' : s < 1 := by omega
    go_enter Tryz.func32, Tryz.ntmps32
    go_wp2_with fail
    generalize w.alloc (.cells #[.int .i64 p, .int .i64 s, .slice A l.length c] tStat) = wa at HB HM ⊢
    obtain ⟨m0, m1, m2⟩ := cell3c HM.out
    go_wp2_with fail
    go_ret
    exact ⟨by rw [HF.out]; rfl, HB.out⟩
end Go.Proofs.YtgpjbigelblanaaGreatDoor
/- The document's cell and Print of the carrier's statements: what they compute. -/
namespace Go.Proofs.YtgpjbigelblanaaGreatDoor
open Go.RowKit Go.Maps Key Mon Mf Rw

theorem mrefput_any (n : Int) (w : World) (hn : InR n) : Calls Tryz.prog 48 #[.int .i64 n] w fun e w' => e = .returned (.string ⟨(Lib.itoa n).toArray⟩) ∧ Below w.heap.size w w' := by
  have HP := Lib.hid (refPut_any n w hn)
  obtain ⟨hn1, hn2⟩ := hn
  go_enter Tryz.func48, Tryz.ntmps48
  go_wp2_with fail
  refine HP.out.mono ?_
  rintro e w1 ⟨rfl, hb⟩
  have HB := Lib.hid hb
  clear hb
  go_wp2_with fail
  go_ret
  exact ⟨rfl, HB.out⟩
set_option linter.unusedSimpArgs false in
set_option linter.unusedVariables false in
set_option maxRecDepth 100000 in
set_option maxHeartbeats 4000000 in
theorem mrcell_any (v : Value) (l : List R5) (o d : Int) (w : World) (hR : Rd w v l) (hok : ∀ x ∈ l, okRow 2 x = true) (hp : l.Pairwise fun x y => lessR x y = true) (hl : l.length ≤ 1000) :
    Calls Tryz.prog 49 #[v, .int .i64 o, .int .i64 d] w fun e w' => e = .returned (.string ⟨(cellW (sayR (deedRow l o d))).toArray⟩) ∧ Below w.heap.size w w' := by
  obtain ⟨Av, cv, rfl, _⟩ := hR.shape
  have HR := Lib.hid hR
  have HOK := Lib.hid hok
  have HAT := Lib.hid (fun (x : R5) (hx : x ∈ l) => deedRow_mem hp hx)
  clear hR hok hp
  go_enter Tryz.func49, Tryz.ntmps49
  go_wp2_with fail
  go_loopw [7] (fun i wr => ∃ k : Nat, i = .int .i64 k ∧ k ≤ l.length ∧ Hid (∀ (j : Nat) (y : R5), j < k → l[j]? = some y → y.1 ≠ (o, d)) ∧ Hid (Below w.heap.size w wr)) (fun i _ => l.length - (intOf i).toNat)
  case atStart => exact ⟨0, rfl, by omega, fun j y h => by omega, Below.refl _ _⟩
  case round =>
    obtain ⟨k, rfl, hk, HN, HBr⟩ := hrel
    by_cases hkl : k < l.length
    · obtain ⟨x, hx⟩ : ∃ x, l[k]? = some x := ⟨_, List.getElem?_eq_getElem hkl⟩
      obtain ⟨g, off, n', c', e, d0, d1, d2, d3, d4⟩ := HR.out.cells HBr.out hx
      injection e with e1 e2 e3
      subst e1
      have hxm := List.mem_of_getElem? hx
      have hrow := row_carry (HOK.out x hxm)
      have hat := HAT.out x hxm
      have HNX := Lib.hid (fun (hne : x.1 ≠ (o, d)) => (show ∀ (j : Nat) (y : R5), j < k + 1 → l[j]? = some y → y.1 ≠ (o, d) from fun j y hj hy => by
        by_cases hjk : j = k
        · subst hjk; rw [hx] at hy; cases hy; exact hne
        · exact HN.out j y (by omega) hy))
      obtain ⟨⟨xo, xd⟩, xc, xa, xq⟩ := x
      simp only [] at d0 d1 d2 d3 d4 hrow hat
      have hkI : (k : Int) < l.length := by omega
      have hk0 : (0 : Int) ≤ k := by omega
      clear hx hxm e2 e3
      by_cases ho : xo = o
      · have hqo := beqT ho
        by_cases hd : xd = d
        · have hqd := beqT hd
          rw [ho, hd] at hat
          have hql := Sk.itoa_len (n := xq) 2 (by omega) (by simp; omega)
          by_cases hc : xc = 2
          · have hqc := beqT hc
            have HE := Lib.hid (show cellW (sayR (deedRow l o d)) = Sk.wRef by rw [hat]; unfold cellW sayR; simp [hc])
            clear hat hrow ho hd hc
            go_wp2_with fail
            go_ret
            exact ⟨by rw [HE.out]; rfl, HBr.out⟩
          · have hqc := beqF hc
            have HE := Lib.hid (show cellW (sayR (deedRow l o d)) = wDone ++ Lib.itoa xq by rw [hat]; unfold cellW sayR; simp only []; rw [if_neg (by omega), if_neg hc])
            have HPUT := Lib.hid (fun W => mrefput_any xq W (show InR _ by unfold InR; omega))
            clear hat hrow ho hd hc
            go_wp2_with fail
            refine (HPUT.out _).mono ?_
            rintro e w1 ⟨rfl, hb⟩
            have HB1 := Lib.hid (bch HBr.out hb HBr.out.size)
            clear hb
            obtain ⟨T, hT⟩ : ∃ T, Lib.itoa xq = T := ⟨_, rfl⟩
            rw [hT] at HE hql ⊢
            clear hT
            go_wp2_with fail
            go_ret
            exact ⟨by rw [HE.out]; show Ending.returned (Value.string ((⟨([100, 111, 110, 101, 58] : List UInt8).toArray⟩ : ByteArray) ++ ⟨T.toArray⟩)) = _; rw [join_bytes]; rfl, HB1.out⟩
        · have hqd := beqF hd
          have HNE := Lib.hid (HNX.out (fun e => hd (by injection e)))
          clear hat hrow ho hd
          go_wp2_with fail
          go_roundw
          case rel => exact ⟨k + 1, by go_num, by omega, HNE.out, HBr.out⟩
          case measure => simp [intOf]; omega
      · have hqo := beqF ho
        have HNE := Lib.hid (HNX.out (fun e => ho (by injection e)))
        clear hat hrow ho
        go_wp2_with fail
        go_roundw
        case rel => exact ⟨k + 1, by go_num, by omega, HNE.out, HBr.out⟩
        case measure => simp [intOf]; omega
    · obtain rfl : k = l.length := by omega
      have HE := Lib.hid (show cellW (sayR (deedRow l o d)) = wNo by
        have : deedRow l o d = none := by
          unfold deedRow
          rw [List.find?_eq_none]
          intro x hx e
          obtain ⟨j, hj⟩ := List.getElem?_of_mem hx
          exact HN.out j x (List.getElem?_eq_some_iff.1 hj).1 hj (of_decide_eq_true e)
        rw [this]; rfl)
      go_wp2_with fail
      go_ret
      exact ⟨by rw [HE.out]; rfl, HBr.out⟩
set_option linter.unusedSimpArgs false in
set_option linter.unusedVariables false in
set_option maxRecDepth 100000 in
set_option maxHeartbeats 4000000 in
theorem mrefPrint_any (v : Value) (p q : Int) (l : List R5) (w : World) (hR : Rd w v l) : Calls Tryz.prog 21 #[.agg #[.int .i64 p, .int .i64 q, v]] w fun e w' => e = .returned (printV (Mf.printS p q l)) ∧ Below w.heap.size w w' := by
  obtain ⟨k0, hk0', hz0, hz1, hz2⟩ := info_parts line_info
  obtain ⟨Av, cv, rfl, hcv, hcm⟩ := hR.shape
  obtain ⟨wa, hwa⟩ : ∃ wa, w.alloc (.cells #[.int .i64 p, .int .i64 q, .slice Av l.length cv] tStat) = wa := ⟨_, rfl⟩
  have HA := Lib.hid (show Below w.heap.size w wa by rw [← hwa]; exact below_alloc _ _)
  have HX := Lib.hid (show wa.heap[w.heap.size]? = some (.cells #[.int .i64 p, .int .i64 q, .slice Av l.length cv] tStat (0, 0)) by rw [← hwa]; exact heap_new _ _)
  have hWA := Lib.hid hwa
  have HR := Lib.hid hR
  clear hwa hR
  obtain ⟨m0, m1, m2⟩ := cell3c HX.out
  by_cases hp : p = 2
  · have hpq := bneF hp
    cases hv : validB p q l with
    | false =>
      have HF := Lib.hid (show Mf.printS p q l = ([], 2) by unfold Mf.printS Mf.okP; rw [hv]; simp)
      have HV := Lib.hid (refRowsValid_any wa p q (.slice Av l.length cv) l (HR.out.keep HA.out))
      rw [hv] at HV
      clear hp hv
      go_enter Tryz.func21, Tryz.ntmps21
      go_upto_region 1 with (fail)
      rw [hWA.out]
      go_wp2_with (go_at_call 32; refine HV.out.mono ?_; rintro e w1 ⟨rfl, hb⟩; have HB := Lib.hid (bch HA.out hb HA.out.size); clear hb)
      go_ret2
      exact ⟨by rw [HF.out]; rfl, HB.out⟩
    | true =>
      subst hp
      have hf := Mf.fits_table hv
      have hvp := Mf.valid_parts hv
      have htot := Mf.total_small hv
      have HF := Lib.hid (show Mf.printS 2 q l = (Csv.printOf (Mf.table q l), 0) by unfold Mf.printS Mf.okP; rw [hv]; simp)
      have HV := Lib.hid (refRowsValid_any wa 2 q (.slice Av l.length cv) l (HR.out.keep HA.out))
      rw [hv] at HV
      have HFIT := Lib.hid hf
      have hl4 := hvp.2.2.1
      have HPUTQ := Lib.hid (fun W => mrefput_any q W (show InR q by unfold InR; have := hvp.1; have := hvp.2.1; omega))
      have HOK := Lib.hid hvp.2.2.2.1
      have HRI := Lib.hid hvp.2.2.2.2
      have HALL := Lib.hid (refTo_all hvp.2.2.2.1 hvp.2.2.2.2)
      have HTR := Lib.hid (fun (k : Nat) (x : R5) (hx : l[k]? = some x) => (show 0 ≤ Mf.total (l.take k) ∧ Mf.total (l.take k) ≤ 399600 ∧ 0 ≤ x.2.2.2 ∧ x.2.2.2 ≤ 999 from by
        have h1 := Mf.total_room (l := l.take k) fun y hy => hvp.2.2.2.1 y (List.mem_of_mem_take hy)
        have h2 : (l.take k).length ≤ l.length := List.length_take_le' _ _
        have h3 := (Mf.row_carry (hvp.2.2.2.1 x (List.mem_of_getElem? hx))).2.2.2.2.1
        omega))
      have HCE := Lib.hid (fun (o d : Int) (W : World) (hM : Rd W (.slice Av l.length cv) l) => mrcell_any (.slice Av l.length cv) l o d W hM hvp.2.2.2.1 hvp.2.2.2.2 (by omega))
      have HSAY := Lib.hid (fun (o d : Int) => Mf.cellW_len (Mf.say_ok hvp.2.2.2.1 o d))
      clear hv hf hvp
      go_enter Tryz.func21, Tryz.ntmps21
      go_upto_region 1 with (fail)
      rw [hWA.out]
      go_upto_region 3 with (go_at_call 32; refine HV.out.mono ?_; rintro e w1 ⟨rfl, hb⟩; have HB1 := Lib.hid (bch HA.out hb HA.out.size); have HX1 := Lib.hid (heap_keep HX.out hb); clear hb m0 m1 m2)
      obtain ⟨m0, m1, m2⟩ := cell3c HX1.out
      go_wp2_with fail
      refine (HPUTQ.out _).mono ?_
      rintro e w2 ⟨rfl, hb2⟩
      have HB2 := Lib.hid (bch HB1.out hb2 HB1.out.size); have HX2 := Lib.hid (heap_keep HX1.out hb2)
      clear hb2 m0 m1 m2
      go_upto_region 4 with (fail)
      obtain ⟨w3, hw3⟩ : ∃ w3, w3 = (w2.alloc (.cells #[.string ⟨#[109, 97, 110, 105, 102, 101, 115, 116]⟩, .string ⟨(Lib.itoa q).toArray⟩] tFld)).alloc (.cells #[.slice (some ⟨w2.heap.size, 0, none⟩) 2 2] tLine) := ⟨_, rfl⟩
      rw [← hw3]
      have h2 := two_blocks' w2 _ _ hw3.symm
      have HB3 := Lib.hid (bch HB2.out h2.1 HB2.out.size); have HX3 := Lib.hid (heap_keep HX2.out h2.1)
      have HT3 := Lib.hid (show TabO (w.heap.size + 1) w3 (.slice (some ⟨w2.heap.size + 1, 0, none⟩) 1 1) [[Mf.wHead, Lib.itoa q]] [.slice (some ⟨w2.heap.size, 0, none⟩) 2 2] from TabO.one ⟨_, rfl, h2.2.1⟩ h2.2.2 (by have := heap_lt HX2.out; omega))
      clear hw3 h2
      generalize w2.heap.size = b2 at HT3 ⊢
      go_wp2_with fail
      go_loopw [4, 5, 6] (fun v4 t5 i wr => ∃ (k : Nat) (vs : List Value), i = .int .i64 k ∧ t5 = .int .i64 (Mf.total (l.take k)) ∧ k ≤ l.length ∧ Hid (TabO (w.heap.size + 1) wr v4 ([Mf.wHead, Lib.itoa q] :: Mf.refTo l k) vs) ∧ Hid (wr.heap[w.heap.size]? = some (.cells #[.int .i64 2, .int .i64 q, .slice Av l.length cv] tStat (0, 0))) ∧ Hid (Below w.heap.size w wr)) (fun _ _ i _ => l.length - (intOf i).toNat)
      case atStart => exact ⟨0, _, rfl, rfl, by omega, HT3.out, HX3.out, HB3.out⟩
      case round =>
        obtain ⟨k, vs, rfl, rfl, hk, HT, HXr, HBr⟩ := hrel
        obtain ⟨A4, c4, rfl, _⟩ := own_slice HT.out.own
        have hll := Mf.ordTo_len l k
        have hrl := Mf.refTo_len l k
        obtain ⟨n4, hn4⟩ : ∃ n4, (Mf.refTo l k).length = n4 := ⟨_, rfl⟩
        have hlen4 : ([Mf.wHead, Lib.itoa q] :: Mf.refTo l k).length = n4 + 1 := by simp [hn4]
        have HT := Lib.hid (show TabO (w.heap.size + 1) wr (.slice A4 (n4 + 1) c4) ([Mf.wHead, Lib.itoa q] :: Mf.refTo l k) vs by have := HT.out; rw [hlen4] at this; exact this)
        have HN4 := Lib.hid hn4
        have hn5 : n4 ≤ k := by omega
        rw [hlen4]
        clear hn4 hll hrl
        obtain ⟨m0, m1, m2⟩ := cell3c HXr.out
        by_cases hkl : k < l.length
        · obtain ⟨x, hx⟩ : ∃ x, l[k]? = some x := ⟨_, List.getElem?_eq_getElem hkl⟩
          have hok := HOK.out x (List.mem_of_getElem? hx)
          have hrow := Mf.row_carry hok
          obtain ⟨g, off, n', c', e, d0, d1, d2, d3, d4⟩ := HR.out.cells HBr.out hx
          injection e with e1 e2 e3
          subst e1
          have HTT := Lib.hid (Mf.total_take hx)
          have HYES := Lib.hid (fun h => Mf.refTo_yes (l := l) (k := k) hx h)
          have HNO := Lib.hid (fun h => Mf.refTo_no (l := l) (k := k) hx h)
          have htr := HTR.out k x hx
          have hkI : (k : Int) < l.length := by omega
          have hkI0 : (0 : Int) ≤ k := by omega
          obtain ⟨⟨xo, xd⟩, xc, xa, xq⟩ := x
          simp only [] at d0 d1 d2 d3 d4 htr
          have HP0 := Lib.hid (fun W => mrefput_any xo W (show InR _ by unfold InR; have := hrow.1; simp only [] at this; omega))
          have HC1 := Lib.hid (fun W hM => HCE.out xo 2 W hM)
          have HC2 := Lib.hid (fun W hM => HCE.out xo 5 W hM)
          have hl1 := HSAY.out xo 2
          have hl2 := HSAY.out xo 5
          obtain ⟨V1, hV1⟩ : ∃ V, Mf.cellW (Mf.sayR (deedRow l xo 2)) = V := ⟨_, rfl⟩
          obtain ⟨V2, hV2⟩ : ∃ V, Mf.cellW (Mf.sayR (deedRow l xo 5)) = V := ⟨_, rfl⟩
          have HROW := Lib.hid (show Mf.lineR l xo = [Lib.itoa xo, V1, V2] by unfold Mf.lineR; rw [hV1, hV2])
          rw [hV1] at HC1 hl1
          rw [hV2] at HC2 hl2
          have hwrap : IntKind.i64.wrap (Mf.total (l.take k) + xq) = Mf.total (l.take k) + xq := IntWalk.i64_in _ (by omega)
          have hprev : k = 0 ∨ ∃ (j : Nat) (y : R5), k = j + 1 ∧ l[j]? = some y := by
            cases k with
            | zero => exact .inl rfl
            | succ j => exact .inr ⟨j, _, rfl, List.getElem?_eq_getElem (by omega)⟩
          clear hok hrow e2 e3 hV1 hV2
          go_upto_region 9 with (fail)
          obtain ⟨wq, hW⟩ : ∃ wq, wq = wr.alloc (.cells #[.int .i64 xo, .int .i64 xd] tKey) := ⟨_, rfl⟩
          rw [← hW]
          have hbW : Below wr.heap.size wr wq := by rw [hW]; exact below_alloc _ _
          have HRW := Lib.hid (show wq.heap[wr.heap.size]? = some (.cells #[.int .i64 xo, .int .i64 xd] tKey (0, 0)) by rw [hW]; exact heap_new _ _)
          have HTW := Lib.hid (HT.out.below hbW); have HXW := Lib.hid (heap_keep HXr.out hbW); have HBW := Lib.hid (bch HBr.out hbW HBr.out.size)
          have hne : ¬ Value.ownBlock (.slice A4 (n4 + 1) c4) = some wr.heap.size := fun e => by have := (HT.out.own.lt wr.heap.size e).2; omega
          have hdq : wq.cell? ⟨g, off + k * 5 + 4, none⟩ = some (.int .i64 xq) := by
            have hg := World.block_lt_of_cell? wr _ d4
            exact (hbW.cell hg).trans d4
          clear hW hbW d0 d1 d2 d3 d4 m0 m1 m2
          generalize wr.heap.size = br at HRW hne ⊢
          obtain ⟨m0, m1, m2⟩ := cell3c HXW.out
          obtain ⟨n0, n1, _, _⟩ := cell2 HRW.out
          go_upto_region 10 with (fail)
          rcases hprev with rfl | ⟨j, y, rfl, hy⟩
          · have HHD := Lib.hid (show Mf.refTo l (0 + 1) = Mf.refTo l 0 ++ [[Lib.itoa xo, V1, V2]] by rw [HYES.out rfl, HROW.out])
            clear hx
            go_quiet (fail)
            go_upto_region 11 with (fail)
            obtain ⟨wz, hwz⟩ : ∃ wz, wz = wq.drewN nq := ⟨_, rfl⟩
            rw [← hwz]
            have hbz : Below wq.heap.size wq wz := by rw [hwz]; exact below_dq (Below.refl _ wq) nq
            have HRZ := Lib.hid (heap_keep HRW.out hbz); have HTZ := Lib.hid (HTW.out.below hbz); have HXZ := Lib.hid (heap_keep HXW.out hbz); have HBZ := Lib.hid (bch HBW.out hbz HBW.out.size)
            clear hwz hbz m0 m1 m2 n0 n1 hdq 
            have HH := Lib.hid (fun W' (hb : Turned (fun j => Value.ownBlock (.slice A4 (n4 + 1) c4) = some j) wz W') => (⟨Lib.hid hb, (cell_at (heap_turnT HRZ.out hb hne) 0 rfl), (cell_at (heap_turnT HXZ.out hb (fun e => by have := (HTZ.out.own.lt _ e).1; omega)) 2 rfl)⟩ : (fun w' => Hid (Turned (fun j => Value.ownBlock (.slice A4 (n4 + 1) c4) = some j) wz w') ∧ w'.cell? ⟨br, 0, none⟩ = some (.int .i64 xo) ∧ w'.cell? ⟨w.heap.size, 2, none⟩ = some (.slice (some ⟨g, off, none⟩) l.length cv)) W'))
            refine wp_region_noPanic ?_
            refine wp_region_held_drew (S := (fun w' => Hid (Turned (fun j => Value.ownBlock (.slice A4 (n4 + 1) c4) = some j) wz w') ∧ w'.cell? ⟨br, 0, none⟩ = some (.int .i64 xo) ∧ w'.cell? ⟨w.heap.size, 2, none⟩ = some (.slice (some ⟨g, off, none⟩) l.length cv))) (by kernel_rfl) (HH.out _ ((Turned.refl (fun j => Value.ownBlock (.slice A4 (n4 + 1) c4) = some j) wz).drew)) (fun hHeld => ?_)
            refine wpAnyH_take (i := 0) (v := ?vc0_1) rfl (by kernel_rfl) (by kernel_rfl) (by kernel_rfl) (fun _ _ _ h => h) (Or.inl ⟨by rfl, ?hyc0_1⟩) (by assumption) ?restc0_1
            case hyc0_1 => (intro w0 hSw; (try dsimp only at hSw); go_simp; try with_reducible rfl)
            case' restc0_1 => try simp only [Act.put, List.getElem_toArray, List.getElem_cons_zero, List.getElem_cons_succ, List.setIfInBounds_toArray, List.set_cons_zero, List.set_cons_succ]
            refine wpAnyH_take (i := 1) (v := ?vc1_2) rfl (by kernel_rfl) (by kernel_rfl) (by kernel_rfl) (fun _ _ _ h => h) (Or.inl ⟨by rfl, ?hyc1_2⟩) (by assumption) ?restc1_2
            case hyc1_2 => (intro w0 hSw; (try dsimp only at hSw); go_simp; try with_reducible rfl)
            case' restc1_2 => try simp only [Act.put, List.getElem_toArray, List.getElem_cons_zero, List.getElem_cons_succ, List.setIfInBounds_toArray, List.set_cons_zero, List.set_cons_succ]
            refine wpAnyH_take (i := 2) (v := ?vc2_3) rfl (by kernel_rfl) (by kernel_rfl) (by kernel_rfl) (fun _ _ _ h => h) (Or.inl ⟨by rfl, ?hyc2_3⟩) (by assumption) ?restc2_3
            case hyc2_3 => (intro w0 hSw; (try dsimp only at hSw); go_simp; try with_reducible rfl)
            case' restc2_3 => try simp only [Act.put, List.getElem_toArray, List.getElem_cons_zero, List.getElem_cons_succ, List.setIfInBounds_toArray, List.set_cons_zero, List.set_cons_succ]
            refine wpAnyH_take (i := 4) (v := ?vc4_4) rfl (by kernel_rfl) (by kernel_rfl) (by kernel_rfl) (fun _ _ _ h => h) (Or.inl ⟨by rfl, ?hyc4_4⟩) (by assumption) ?restc4_4
            case hyc4_4 => (intro w0 hSw; (try dsimp only at hSw); go_simp; try with_reducible rfl)
            case' restc4_4 => try simp only [Act.put, List.getElem_toArray, List.getElem_cons_zero, List.getElem_cons_succ, List.setIfInBounds_toArray, List.set_cons_zero, List.set_cons_succ]
            refine wpAnyH_take (i := 5) (v := ?vc5_5) rfl (by kernel_rfl) (by kernel_rfl) (by kernel_rfl) (fun _ _ _ h => h) (Or.inl ⟨by rfl, ?hyc5_5⟩) (by assumption) ?restc5_5
            case hyc5_5 => (intro w0 hSw; (try dsimp only at hSw); go_simp; try with_reducible rfl)
            case' restc5_5 => try simp only [Act.put, List.getElem_toArray, List.getElem_cons_zero, List.getElem_cons_succ, List.setIfInBounds_toArray, List.set_cons_zero, List.set_cons_succ]
            refine wpAnyH_take (i := 6) (v := ?vc6_6) rfl (by kernel_rfl) (by kernel_rfl) (by kernel_rfl) (fun _ _ _ h => h) (Or.inl ⟨by rfl, ?hyc6_6⟩) (by assumption) ?restc6_6
            case hyc6_6 => (intro w0 hSw; (try dsimp only at hSw); go_simp; try with_reducible rfl)
            case' restc6_6 => try simp only [Act.put, List.getElem_toArray, List.getElem_cons_zero, List.getElem_cons_succ, List.setIfInBounds_toArray, List.set_cons_zero, List.set_cons_succ]
            refine wpAnyH_take (i := 7) (v := ?vc7_7) rfl (by kernel_rfl) (by kernel_rfl) (by kernel_rfl) (fun _ _ _ h => h) (Or.inl ⟨by rfl, ?hyc7_7⟩) (by assumption) ?restc7_7
            case hyc7_7 => (intro w0 hSw; (try dsimp only at hSw); go_simp; try with_reducible rfl)
            case' restc7_7 => try simp only [Act.put, List.getElem_toArray, List.getElem_cons_zero, List.getElem_cons_succ, List.setIfInBounds_toArray, List.set_cons_zero, List.set_cons_succ]
            refine wpAnyH_take (i := 9) (v := ?vc9_8) rfl (by kernel_rfl) (by kernel_rfl) (by kernel_rfl) (fun _ _ _ h => h) (Or.inl ⟨by rfl, ?hyc9_8⟩) (by assumption) ?restc9_8
            case hyc9_8 => (intro w0 hSw; (try dsimp only at hSw); go_simp; try with_reducible rfl)
            case' restc9_8 => try simp only [Act.put, List.getElem_toArray, List.getElem_cons_zero, List.getElem_cons_succ, List.setIfInBounds_toArray, List.set_cons_zero, List.set_cons_succ]
            refine wpAnyH_take (i := 10) (v := ?vc10_9) rfl (by kernel_rfl) (by kernel_rfl) (by kernel_rfl) (fun _ _ _ h => h) (Or.inl ⟨by rfl, ?hyc10_9⟩) (by assumption) ?restc10_9
            case hyc10_9 => (intro w0 hSw; (try dsimp only at hSw); go_simp; try with_reducible rfl)
            case' restc10_9 => try simp only [Act.put, List.getElem_toArray, List.getElem_cons_zero, List.getElem_cons_succ, List.setIfInBounds_toArray, List.set_cons_zero, List.set_cons_succ]
            refine wpAnyH_take (i := 11) (v := ?vc11_10) rfl (by kernel_rfl) (by kernel_rfl) (by kernel_rfl) (fun _ _ _ h => h) (Or.inl ⟨by rfl, ?hyc11_10⟩) (by assumption) ?restc11_10
            case hyc11_10 => (intro w0 hSw; (try dsimp only at hSw); go_simp; try with_reducible rfl)
            case' restc11_10 => try simp only [Act.put, List.getElem_toArray, List.getElem_cons_zero, List.getElem_cons_succ, List.setIfInBounds_toArray, List.set_cons_zero, List.set_cons_succ]
            refine wpAnyH_take (i := 12) (v := ?vc12_11) rfl (by kernel_rfl) (by kernel_rfl) (by kernel_rfl) (fun _ _ _ h => h) (Or.inl ⟨by rfl, ?hyc12_11⟩) (by assumption) ?restc12_11
            case hyc12_11 => (intro w0 hSw; (try dsimp only at hSw); go_simp; try with_reducible rfl)
            case' restc12_11 => try simp only [Act.put, List.getElem_toArray, List.getElem_cons_zero, List.getElem_cons_succ, List.setIfInBounds_toArray, List.set_cons_zero, List.set_cons_succ]
            refine wpAnyH_ready (rs := [3]) (by kernel_rfl) (by simp) ?_
            refine AllReadyH.cons rfl (fun K hK => ?_) AllReadyH.nil
            go_simp
            refine (HP0.out _).mono ?_
            rintro e u1 ⟨rfl, hc1⟩
            have hd1 : Below wz.heap.size wz u1 := bch (below_drew1 (Below.refl wz.heap.size wz)) hc1 (Below.size (below_drew1 (Below.refl wz.heap.size wz)))
            refine hK.out _ _ (HH.out _ (Turned.of_below hd1)) (fun hHeld => ?_)
            clear hK K
            try simp only [Act.put, List.getElem_toArray, List.getElem_cons_zero, List.getElem_cons_succ, List.setIfInBounds_toArray, List.set_cons_zero, List.set_cons_succ]
            refine wpAnyH_ready (rs := [8]) (by kernel_rfl) (by simp) ?_
            refine AllReadyH.cons rfl (fun K hK => ?_) AllReadyH.nil
            go_simp
            refine (HC1.out _ ((HR.out.keep HBZ.out).keep hd1)).mono ?_
            rintro e u2 ⟨rfl, hc2⟩
            have hd2 : Below wz.heap.size wz u2 := bch hd1 hc2 (Below.size hd1)
            refine hK.out _ _ (HH.out _ (Turned.of_below hd2)) (fun hHeld => ?_)
            clear hK K
            try simp only [Act.put, List.getElem_toArray, List.getElem_cons_zero, List.getElem_cons_succ, List.setIfInBounds_toArray, List.set_cons_zero, List.set_cons_succ]
            refine wpAnyH_ready (rs := [13]) (by kernel_rfl) (by simp) ?_
            refine AllReadyH.cons rfl (fun K hK => ?_) AllReadyH.nil
            go_simp
            refine (HC2.out _ ((HR.out.keep HBZ.out).keep hd2)).mono ?_
            rintro e u4 ⟨rfl, hc4⟩
            have hd4 : Below wz.heap.size wz u4 := bch hd2 hc4 (Below.size hd2)
            refine hK.out _ _ (HH.out _ (Turned.of_below hd4)) (fun hHeld => ?_)
            clear hK K
            try simp only [Act.put, List.getElem_toArray, List.getElem_cons_zero, List.getElem_cons_succ, List.setIfInBounds_toArray, List.set_cons_zero, List.set_cons_succ]
            refine wpAnyH_ready (rs := [14]) (by kernel_rfl) (by simp) ?_
            refine AllReadyH.cons rfl (fun K hK => ?_) AllReadyH.nil
            go_simp
            refine hK.out _ _ (HH.out _ (Turned.of_below (hd4.trans ((below_alloc _ _).mono hd4.size)))) (fun hHeld => ?_)
            clear hK K
            try simp only [Act.put, List.getElem_toArray, List.getElem_cons_zero, List.getElem_cons_succ, List.setIfInBounds_toArray, List.set_cons_zero, List.set_cons_succ]
            refine wpAnyH_ready (rs := [15]) (by kernel_rfl) (by simp) ?_
            refine AllReadyH.cons rfl (fun K hK => ?_) AllReadyH.nil
            go_simp
            refine hK.out _ _ (HH.out _ (Turned.of_below ((hd4.alloc hd4.size _).alloc (by have := hd4.size; simp; omega) _))) (fun hHeld => ?_)
            clear hK K
            try simp only [Act.put, List.getElem_toArray, List.getElem_cons_zero, List.getElem_cons_succ, List.setIfInBounds_toArray, List.set_cons_zero, List.set_cons_succ]
            refine wpAnyH_ready (rs := [16]) (by kernel_rfl) (by simp) ?_
            refine AllReadyH.cons rfl (fun K hK => ?_) AllReadyH.nil
            have HTU := Lib.hid (HTZ.out.below hd4)
            refine step_append_any _ rfl (.tmp 57) (.tmp 72) 38 rfl (w.heap.size + 1) tLine k0 (.slice none 0 0) 1 24 Tryz.underlying38 hk0' hz0 hz1 hz2 rfl (by decide) (.slice A4 (n4 + 1) c4) (n4 + 1) vs rfl ((World.ownsRow.alloc (by have := HTU.out.own; rw [hlen4] at this; exact this) _).alloc _) 1 [.slice (some ⟨u4.heap.size, 0, none⟩) 3 3] (src_blk (xs := [.slice (some ⟨u4.heap.size, 0, none⟩) 3 3]) ((two_blocks' u4 _ _ rfl).2.2) (fun u hu => by simp only [List.mem_singleton] at hu; subst hu; rfl)) (by unfold maxLen; omega) (by omega) (by have := hd4.size; have := heap_lt HXZ.out; simp; omega) ?_
            intro v6 w6 ho6 hg6 hat6
            have ht6 : Turned (fun j => Value.ownBlock (.slice A4 (n4 + 1) c4) = some j) wz w6 := (Turned.of_below ((hd4.alloc hd4.size (.cells #[.string ⟨(Lib.itoa xo).toArray⟩, .string ⟨V1.toArray⟩, .string ⟨V2.toArray⟩] tFld)).alloc (by have := hd4.size; simp; omega) (.cells #[.slice (some ⟨u4.heap.size, 0, none⟩) 3 3] tLine))).trans (Turned.of_grown hg6 (fun j h => h))
            refine hK.out _ _ (HH.out _ (ht6)) (fun hHeld => ?_)
            clear hK K
            try simp only [Act.put, List.getElem_toArray, List.getElem_cons_zero, List.getElem_cons_succ, List.setIfInBounds_toArray, List.set_cons_zero, List.set_cons_succ]
            refine wpAnyH_take (i := 17) (v := ?vc17_12) rfl (by kernel_rfl) (by kernel_rfl) (by kernel_rfl) (fun _ _ _ h => h) (Or.inl ⟨by rfl, ?hyc17_12⟩) (by assumption) ?restc17_12
            case hyc17_12 => (intro w0 hSw; (try dsimp only at hSw); go_simp; try with_reducible rfl)
            case' restc17_12 => try simp only [Act.put, List.getElem_toArray, List.getElem_cons_zero, List.getElem_cons_succ, List.setIfInBounds_toArray, List.set_cons_zero, List.set_cons_succ]
            refine wpAnyH_done (by kernel_rfl) ?_ _
            refine NoPanic.normal ?_
            have hlit := lit_new u4 [Lib.itoa xo, V1, V2] (xs := #[.string ⟨(Lib.itoa xo).toArray⟩, .string ⟨V1.toArray⟩, .string ⟨V2.toArray⟩]) rfl
            have hT6 := ((HTU.out.below (below_alloc _ _)).below (below_alloc _ _)).push (r := [Lib.itoa xo, V1, V2]) (hlit.below (below_alloc _ _)) (by rw [hlen4]; exact ho6) hg6
            have HT6 := Lib.hid (show TabO (w.heap.size + 1) w6 v6 ([Mf.wHead, Lib.itoa q] :: Mf.refTo l (0 + 1)) _ by rw [HHD.out]; exact hT6)
            have HX6 := Lib.hid (heap_turnT HXZ.out ht6 (fun e => by have := (HTZ.out.own.lt _ e).1; omega))
            have HB6 := Lib.hid (Below.turned HBZ.out ht6 (fun i hi => by have := (HTZ.out.own.lt i hi).1; omega) HBZ.out.size)
            clear hHeld HH hT6 hlit ht6 ho6 hg6 hat6 HTU hd1 hd2 hd4 hc1 hc2 hc4
            go_wp2_with fail
            go_roundw
            case rel => exact ⟨0 + 1, _, by go_num, by rw [HTT.out]; rfl, by omega, HT6.out, HX6.out, HB6.out⟩
            case measure => simp [intOf]; omega
          · obtain ⟨g2, off2, n2', c2', e, y0, y1, y2, y3, y4⟩ := HR.out.cells HBW.out hy
            injection e with e1 e2 e3
            have hg2 : g2 = g ∧ off2 = off := by cases e1; exact ⟨rfl, rfl⟩
            rw [hg2.1, hg2.2] at y0 y1 y2 y3 y4
            have hj0 : (0 : Int) ≤ (j : Int) := by omega
            have hsub : IntKind.i64.wrap ((j : Int) + 1 - 1) = (j : Int) := (IntWalk.i64_in _ (by omega)).trans (by omega)
            have hj1 : (j : Int) < l.length := by omega
            have hj2 : (j : Int) + 1 < l.length := by omega
            have hjz := beqF (show ¬ (j : Int) + 1 = 0 by omega)
            by_cases hh : y.1.1 = xo
            · have hqh := bneF hh
              have HHD := Lib.hid (show Mf.refTo l (j + 1 + 1) = Mf.refTo l (j + 1) from HNO.out (by rw [Mf.headAt_succ hy]; simp [hh]))
              clear hx hy hh e1 e2 e3 hg2
              go_quiet (fail)
              go_wp2_with fail
              go_roundw
              case rel => exact ⟨j + 1 + 1, vs, by go_num, by rw [HTT.out], by omega, by rw [HHD.out]; exact HTW.out.below (below_dq (Below.refl _ wq) nq), heap_keep HXW.out (below_dq (Below.refl _ wq) nq), below_dq HBW.out nq⟩
              case measure => simp [intOf]; omega
            · have hqh := bneT hh
              have HHD := Lib.hid (show Mf.refTo l (j + 1 + 1) = Mf.refTo l (j + 1) ++ [[Lib.itoa xo, V1, V2]] by rw [HYES.out (by rw [Mf.headAt_succ hy]; simp [hh]), HROW.out])
              clear hx hy hh e1 e2 e3 hg2
              go_quiet (fail)
              go_upto_region 11 with (fail)
              obtain ⟨wz, hwz⟩ : ∃ wz, wz = wq.drewN nq := ⟨_, rfl⟩
              rw [← hwz]
              have hbz : Below wq.heap.size wq wz := by rw [hwz]; exact below_dq (Below.refl _ wq) nq
              have HRZ := Lib.hid (heap_keep HRW.out hbz); have HTZ := Lib.hid (HTW.out.below hbz); have HXZ := Lib.hid (heap_keep HXW.out hbz); have HBZ := Lib.hid (bch HBW.out hbz HBW.out.size)
              clear hwz hbz m0 m1 m2 n0 n1 hdq y0 y1 y2 y3 y4
              have HH := Lib.hid (fun W' (hb : Turned (fun j => Value.ownBlock (.slice A4 (n4 + 1) c4) = some j) wz W') => (⟨Lib.hid hb, (cell_at (heap_turnT HRZ.out hb hne) 0 rfl), (cell_at (heap_turnT HXZ.out hb (fun e => by have := (HTZ.out.own.lt _ e).1; omega)) 2 rfl)⟩ : (fun w' => Hid (Turned (fun j => Value.ownBlock (.slice A4 (n4 + 1) c4) = some j) wz w') ∧ w'.cell? ⟨br, 0, none⟩ = some (.int .i64 xo) ∧ w'.cell? ⟨w.heap.size, 2, none⟩ = some (.slice (some ⟨g, off, none⟩) l.length cv)) W'))
              refine wp_region_noPanic ?_
              refine wp_region_held_drew (S := (fun w' => Hid (Turned (fun j => Value.ownBlock (.slice A4 (n4 + 1) c4) = some j) wz w') ∧ w'.cell? ⟨br, 0, none⟩ = some (.int .i64 xo) ∧ w'.cell? ⟨w.heap.size, 2, none⟩ = some (.slice (some ⟨g, off, none⟩) l.length cv))) (by kernel_rfl) (HH.out _ ((Turned.refl (fun j => Value.ownBlock (.slice A4 (n4 + 1) c4) = some j) wz).drew)) (fun hHeld => ?_)
              refine wpAnyH_take (i := 0) (v := ?vc0_13) rfl (by kernel_rfl) (by kernel_rfl) (by kernel_rfl) (fun _ _ _ h => h) (Or.inl ⟨by rfl, ?hyc0_13⟩) (by assumption) ?restc0_13
              case hyc0_13 => (intro w0 hSw; (try dsimp only at hSw); go_simp; try with_reducible rfl)
              case' restc0_13 => try simp only [Act.put, List.getElem_toArray, List.getElem_cons_zero, List.getElem_cons_succ, List.setIfInBounds_toArray, List.set_cons_zero, List.set_cons_succ]
              refine wpAnyH_take (i := 1) (v := ?vc1_14) rfl (by kernel_rfl) (by kernel_rfl) (by kernel_rfl) (fun _ _ _ h => h) (Or.inl ⟨by rfl, ?hyc1_14⟩) (by assumption) ?restc1_14
              case hyc1_14 => (intro w0 hSw; (try dsimp only at hSw); go_simp; try with_reducible rfl)
              case' restc1_14 => try simp only [Act.put, List.getElem_toArray, List.getElem_cons_zero, List.getElem_cons_succ, List.setIfInBounds_toArray, List.set_cons_zero, List.set_cons_succ]
              refine wpAnyH_take (i := 2) (v := ?vc2_15) rfl (by kernel_rfl) (by kernel_rfl) (by kernel_rfl) (fun _ _ _ h => h) (Or.inl ⟨by rfl, ?hyc2_15⟩) (by assumption) ?restc2_15
              case hyc2_15 => (intro w0 hSw; (try dsimp only at hSw); go_simp; try with_reducible rfl)
              case' restc2_15 => try simp only [Act.put, List.getElem_toArray, List.getElem_cons_zero, List.getElem_cons_succ, List.setIfInBounds_toArray, List.set_cons_zero, List.set_cons_succ]
              refine wpAnyH_take (i := 4) (v := ?vc4_16) rfl (by kernel_rfl) (by kernel_rfl) (by kernel_rfl) (fun _ _ _ h => h) (Or.inl ⟨by rfl, ?hyc4_16⟩) (by assumption) ?restc4_16
              case hyc4_16 => (intro w0 hSw; (try dsimp only at hSw); go_simp; try with_reducible rfl)
              case' restc4_16 => try simp only [Act.put, List.getElem_toArray, List.getElem_cons_zero, List.getElem_cons_succ, List.setIfInBounds_toArray, List.set_cons_zero, List.set_cons_succ]
              refine wpAnyH_take (i := 5) (v := ?vc5_17) rfl (by kernel_rfl) (by kernel_rfl) (by kernel_rfl) (fun _ _ _ h => h) (Or.inl ⟨by rfl, ?hyc5_17⟩) (by assumption) ?restc5_17
              case hyc5_17 => (intro w0 hSw; (try dsimp only at hSw); go_simp; try with_reducible rfl)
              case' restc5_17 => try simp only [Act.put, List.getElem_toArray, List.getElem_cons_zero, List.getElem_cons_succ, List.setIfInBounds_toArray, List.set_cons_zero, List.set_cons_succ]
              refine wpAnyH_take (i := 6) (v := ?vc6_18) rfl (by kernel_rfl) (by kernel_rfl) (by kernel_rfl) (fun _ _ _ h => h) (Or.inl ⟨by rfl, ?hyc6_18⟩) (by assumption) ?restc6_18
              case hyc6_18 => (intro w0 hSw; (try dsimp only at hSw); go_simp; try with_reducible rfl)
              case' restc6_18 => try simp only [Act.put, List.getElem_toArray, List.getElem_cons_zero, List.getElem_cons_succ, List.setIfInBounds_toArray, List.set_cons_zero, List.set_cons_succ]
              refine wpAnyH_take (i := 7) (v := ?vc7_19) rfl (by kernel_rfl) (by kernel_rfl) (by kernel_rfl) (fun _ _ _ h => h) (Or.inl ⟨by rfl, ?hyc7_19⟩) (by assumption) ?restc7_19
              case hyc7_19 => (intro w0 hSw; (try dsimp only at hSw); go_simp; try with_reducible rfl)
              case' restc7_19 => try simp only [Act.put, List.getElem_toArray, List.getElem_cons_zero, List.getElem_cons_succ, List.setIfInBounds_toArray, List.set_cons_zero, List.set_cons_succ]
              refine wpAnyH_take (i := 9) (v := ?vc9_20) rfl (by kernel_rfl) (by kernel_rfl) (by kernel_rfl) (fun _ _ _ h => h) (Or.inl ⟨by rfl, ?hyc9_20⟩) (by assumption) ?restc9_20
              case hyc9_20 => (intro w0 hSw; (try dsimp only at hSw); go_simp; try with_reducible rfl)
              case' restc9_20 => try simp only [Act.put, List.getElem_toArray, List.getElem_cons_zero, List.getElem_cons_succ, List.setIfInBounds_toArray, List.set_cons_zero, List.set_cons_succ]
              refine wpAnyH_take (i := 10) (v := ?vc10_21) rfl (by kernel_rfl) (by kernel_rfl) (by kernel_rfl) (fun _ _ _ h => h) (Or.inl ⟨by rfl, ?hyc10_21⟩) (by assumption) ?restc10_21
              case hyc10_21 => (intro w0 hSw; (try dsimp only at hSw); go_simp; try with_reducible rfl)
              case' restc10_21 => try simp only [Act.put, List.getElem_toArray, List.getElem_cons_zero, List.getElem_cons_succ, List.setIfInBounds_toArray, List.set_cons_zero, List.set_cons_succ]
              refine wpAnyH_take (i := 11) (v := ?vc11_22) rfl (by kernel_rfl) (by kernel_rfl) (by kernel_rfl) (fun _ _ _ h => h) (Or.inl ⟨by rfl, ?hyc11_22⟩) (by assumption) ?restc11_22
              case hyc11_22 => (intro w0 hSw; (try dsimp only at hSw); go_simp; try with_reducible rfl)
              case' restc11_22 => try simp only [Act.put, List.getElem_toArray, List.getElem_cons_zero, List.getElem_cons_succ, List.setIfInBounds_toArray, List.set_cons_zero, List.set_cons_succ]
              refine wpAnyH_take (i := 12) (v := ?vc12_23) rfl (by kernel_rfl) (by kernel_rfl) (by kernel_rfl) (fun _ _ _ h => h) (Or.inl ⟨by rfl, ?hyc12_23⟩) (by assumption) ?restc12_23
              case hyc12_23 => (intro w0 hSw; (try dsimp only at hSw); go_simp; try with_reducible rfl)
              case' restc12_23 => try simp only [Act.put, List.getElem_toArray, List.getElem_cons_zero, List.getElem_cons_succ, List.setIfInBounds_toArray, List.set_cons_zero, List.set_cons_succ]
              refine wpAnyH_ready (rs := [3]) (by kernel_rfl) (by simp) ?_
              refine AllReadyH.cons rfl (fun K hK => ?_) AllReadyH.nil
              go_simp
              refine (HP0.out _).mono ?_
              rintro e u1 ⟨rfl, hc1⟩
              have hd1 : Below wz.heap.size wz u1 := bch (below_drew1 (Below.refl wz.heap.size wz)) hc1 (Below.size (below_drew1 (Below.refl wz.heap.size wz)))
              refine hK.out _ _ (HH.out _ (Turned.of_below hd1)) (fun hHeld => ?_)
              clear hK K
              try simp only [Act.put, List.getElem_toArray, List.getElem_cons_zero, List.getElem_cons_succ, List.setIfInBounds_toArray, List.set_cons_zero, List.set_cons_succ]
              refine wpAnyH_ready (rs := [8]) (by kernel_rfl) (by simp) ?_
              refine AllReadyH.cons rfl (fun K hK => ?_) AllReadyH.nil
              go_simp
              refine (HC1.out _ ((HR.out.keep HBZ.out).keep hd1)).mono ?_
              rintro e u2 ⟨rfl, hc2⟩
              have hd2 : Below wz.heap.size wz u2 := bch hd1 hc2 (Below.size hd1)
              refine hK.out _ _ (HH.out _ (Turned.of_below hd2)) (fun hHeld => ?_)
              clear hK K
              try simp only [Act.put, List.getElem_toArray, List.getElem_cons_zero, List.getElem_cons_succ, List.setIfInBounds_toArray, List.set_cons_zero, List.set_cons_succ]
              refine wpAnyH_ready (rs := [13]) (by kernel_rfl) (by simp) ?_
              refine AllReadyH.cons rfl (fun K hK => ?_) AllReadyH.nil
              go_simp
              refine (HC2.out _ ((HR.out.keep HBZ.out).keep hd2)).mono ?_
              rintro e u4 ⟨rfl, hc4⟩
              have hd4 : Below wz.heap.size wz u4 := bch hd2 hc4 (Below.size hd2)
              refine hK.out _ _ (HH.out _ (Turned.of_below hd4)) (fun hHeld => ?_)
              clear hK K
              try simp only [Act.put, List.getElem_toArray, List.getElem_cons_zero, List.getElem_cons_succ, List.setIfInBounds_toArray, List.set_cons_zero, List.set_cons_succ]
              refine wpAnyH_ready (rs := [14]) (by kernel_rfl) (by simp) ?_
              refine AllReadyH.cons rfl (fun K hK => ?_) AllReadyH.nil
              go_simp
              refine hK.out _ _ (HH.out _ (Turned.of_below (hd4.trans ((below_alloc _ _).mono hd4.size)))) (fun hHeld => ?_)
              clear hK K
              try simp only [Act.put, List.getElem_toArray, List.getElem_cons_zero, List.getElem_cons_succ, List.setIfInBounds_toArray, List.set_cons_zero, List.set_cons_succ]
              refine wpAnyH_ready (rs := [15]) (by kernel_rfl) (by simp) ?_
              refine AllReadyH.cons rfl (fun K hK => ?_) AllReadyH.nil
              go_simp
              refine hK.out _ _ (HH.out _ (Turned.of_below ((hd4.alloc hd4.size _).alloc (by have := hd4.size; simp; omega) _))) (fun hHeld => ?_)
              clear hK K
              try simp only [Act.put, List.getElem_toArray, List.getElem_cons_zero, List.getElem_cons_succ, List.setIfInBounds_toArray, List.set_cons_zero, List.set_cons_succ]
              refine wpAnyH_ready (rs := [16]) (by kernel_rfl) (by simp) ?_
              refine AllReadyH.cons rfl (fun K hK => ?_) AllReadyH.nil
              have HTU := Lib.hid (HTZ.out.below hd4)
              refine step_append_any _ rfl (.tmp 57) (.tmp 72) 38 rfl (w.heap.size + 1) tLine k0 (.slice none 0 0) 1 24 Tryz.underlying38 hk0' hz0 hz1 hz2 rfl (by decide) (.slice A4 (n4 + 1) c4) (n4 + 1) vs rfl ((World.ownsRow.alloc (by have := HTU.out.own; rw [hlen4] at this; exact this) _).alloc _) 1 [.slice (some ⟨u4.heap.size, 0, none⟩) 3 3] (src_blk (xs := [.slice (some ⟨u4.heap.size, 0, none⟩) 3 3]) ((two_blocks' u4 _ _ rfl).2.2) (fun u hu => by simp only [List.mem_singleton] at hu; subst hu; rfl)) (by unfold maxLen; omega) (by omega) (by have := hd4.size; have := heap_lt HXZ.out; simp; omega) ?_
              intro v6 w6 ho6 hg6 hat6
              have ht6 : Turned (fun j => Value.ownBlock (.slice A4 (n4 + 1) c4) = some j) wz w6 := (Turned.of_below ((hd4.alloc hd4.size (.cells #[.string ⟨(Lib.itoa xo).toArray⟩, .string ⟨V1.toArray⟩, .string ⟨V2.toArray⟩] tFld)).alloc (by have := hd4.size; simp; omega) (.cells #[.slice (some ⟨u4.heap.size, 0, none⟩) 3 3] tLine))).trans (Turned.of_grown hg6 (fun j h => h))
              refine hK.out _ _ (HH.out _ (ht6)) (fun hHeld => ?_)
              clear hK K
              try simp only [Act.put, List.getElem_toArray, List.getElem_cons_zero, List.getElem_cons_succ, List.setIfInBounds_toArray, List.set_cons_zero, List.set_cons_succ]
              refine wpAnyH_take (i := 17) (v := ?vc17_24) rfl (by kernel_rfl) (by kernel_rfl) (by kernel_rfl) (fun _ _ _ h => h) (Or.inl ⟨by rfl, ?hyc17_24⟩) (by assumption) ?restc17_24
              case hyc17_24 => (intro w0 hSw; (try dsimp only at hSw); go_simp; try with_reducible rfl)
              case' restc17_24 => try simp only [Act.put, List.getElem_toArray, List.getElem_cons_zero, List.getElem_cons_succ, List.setIfInBounds_toArray, List.set_cons_zero, List.set_cons_succ]
              refine wpAnyH_done (by kernel_rfl) ?_ _
              refine NoPanic.normal ?_
              have hlit := lit_new u4 [Lib.itoa xo, V1, V2] (xs := #[.string ⟨(Lib.itoa xo).toArray⟩, .string ⟨V1.toArray⟩, .string ⟨V2.toArray⟩]) rfl
              have hT6 := ((HTU.out.below (below_alloc _ _)).below (below_alloc _ _)).push (r := [Lib.itoa xo, V1, V2]) (hlit.below (below_alloc _ _)) (by rw [hlen4]; exact ho6) hg6
              have HT6 := Lib.hid (show TabO (w.heap.size + 1) w6 v6 ([Mf.wHead, Lib.itoa q] :: Mf.refTo l (j + 1 + 1)) _ by rw [HHD.out]; exact hT6)
              have HX6 := Lib.hid (heap_turnT HXZ.out ht6 (fun e => by have := (HTZ.out.own.lt _ e).1; omega))
              have HB6 := Lib.hid (Below.turned HBZ.out ht6 (fun i hi => by have := (HTZ.out.own.lt i hi).1; omega) HBZ.out.size)
              clear hHeld HH hT6 hlit ht6 ho6 hg6 hat6 HTU hd1 hd2 hd4 hc1 hc2 hc4
              go_wp2_with fail
              go_roundw
              case rel => exact ⟨j + 1 + 1, _, by go_num, by rw [HTT.out], by omega, HT6.out, HX6.out, HB6.out⟩
              case measure => simp [intOf]; omega
        · obtain rfl : k = l.length := by omega
          rw [List.take_length]
          obtain ⟨T, hT⟩ : ∃ T, Mf.total l = T := ⟨_, rfl⟩
          rw [hT] at htot ⊢
          have hn60 := Mf.linesTo_len (Mf.bookOf l) 60
          have hn61 : n4 ≤ 60 := by rw [← HN4.out, HALL.out]; exact hn60
          have HTAB := Lib.hid (show Mf.table q l = [Mf.wHead, Lib.itoa q] :: Mf.refTo l l.length ++ [[Sk.wEnd, Lib.itoa (n4 : Int), Lib.itoa T]] by unfold Mf.table Mf.tableG; rw [hT, ← HALL.out, HN4.out]; rfl)
          have HPUTT := Lib.hid (fun W => mrefput_any T W (Mf.inr_small htot.1 (by omega)))
          have hTl := Sk.itoa_len (n := T) 5 (by omega) (by simp; omega)
          have HPN := Lib.hid (fun W => mrefput_any (n4 : Int) W (show InR _ by unfold InR; omega))
          have hnl := Sk.itoa_len (n := (n4 : Int)) 1 (by omega) (by simp; omega)
          have hwr : IntKind.i64.wrap (((n4 + 1 : Nat) : Int) - 1) = (n4 : Int) := (IntWalk.i64_in _ (by omega)).trans (by omega)
          clear hT hk hkl
          go_wp2_with fail
          refine (HPN.out _).mono ?_
          rintro e u3 ⟨rfl, hc⟩
          have HX3 := Lib.hid (heap_keep HXr.out hc); have HB3 := Lib.hid (bch HBr.out hc HBr.out.size); have HT3 := Lib.hid (HT.out.below hc)
          clear hc m0 m1 m2
          go_wp2_with fail
          refine (HPUTT.out _).mono ?_
          rintro e u4 ⟨rfl, hc⟩
          have HXu := Lib.hid (heap_keep HX3.out hc); have HBu := Lib.hid (bch HB3.out hc HB3.out.size); have HTu := Lib.hid (HT3.out.below hc)
          clear hc
          go_wp2_with (at_builtin; refine wpList_append_any _ rfl (.tmp 74) (.tmp 82) 38 rfl (w.heap.size + 1) tLine k0 (.slice none 0 0) 1 24 Tryz.underlying38 hk0' hz0 hz1 hz2 rfl (by decide) (.slice A4 (n4 + 1) c4) (n4 + 1) vs rfl ((World.ownsRow.alloc (by have := HTu.out.own; rw [hlen4] at this; exact this) _).alloc _) 1 [.slice (some ⟨u4.heap.size, 0, none⟩) 3 3] (src_blk (xs := [.slice (some ⟨u4.heap.size, 0, none⟩) 3 3]) ((two_blocks' u4 _ _ rfl).2.2) (fun u hu => by simp only [List.mem_singleton] at hu; subst hu; rfl)) (by unfold maxLen; omega) (by omega) (by have := HBu.out.size; have := heap_lt HXu.out; simp; omega) ?_; intro v6 w6 ho6 hg6 hat6)
          have hlit := lit_new u4 [Sk.wEnd, Lib.itoa n4, Lib.itoa T] (xs := #[.string ⟨#[101, 110, 100]⟩, .string ⟨(Lib.itoa (n4 : Int)).toArray⟩, .string ⟨(Lib.itoa T).toArray⟩]) rfl
          have hT6 := ((HTu.out.below (below_alloc _ _)).below (below_alloc _ _)).push (r := [Sk.wEnd, Lib.itoa n4, Lib.itoa T]) (hlit.below (below_alloc _ _)) (by rw [hlen4]; exact ho6) hg6
          have HT6 := Lib.hid (show TabO (w.heap.size + 1) w6 v6 (Mf.table q l) _ by rw [HTAB.out]; exact hT6)
          have ht6 : Turned (fun j => Value.ownBlock (.slice A4 (n4 + 1) c4) = some j) u4 w6 := (Turned.of_below (((Below.refl _ u4).alloc (Nat.le_refl _) (.cells #[.string ⟨#[101, 110, 100]⟩, .string ⟨(Lib.itoa (n4 : Int)).toArray⟩, .string ⟨(Lib.itoa T).toArray⟩] tFld)).alloc (by simp) (.cells #[.slice (some ⟨u4.heap.size, 0, none⟩) 3 3] tLine))).trans (Turned.of_grown hg6 (fun j h => h))
          have HB6 := Lib.hid (Below.turned HBu.out ht6 (fun i hi => by have := (HTu.out.own.lt i hi).1; omega) HBu.out.size)
          have HPR := Lib.hid (refPrint_any v6 (Mf.table q l) w6.heap.size w6 HT6.out.rowz HFIT.out)
          clear hT6 hlit ht6 ho6 hg6 hat6 HTu
          refine HPR.out.mono ?_
          rintro e w7 ⟨rfl, hb7⟩
          subst hb7
          go_wp2_with fail
          go_ret2
          exact ⟨by rw [HF.out]; rfl, HB6.out⟩
  · have hpq := bneT hp
    have HF := Lib.hid (show Mf.printS p q l = ([], 2) by unfold Mf.printS Mf.okP; rw [decide_eq_false hp]; simp)
    clear hp
    go_enter Tryz.func21, Tryz.ntmps21
    go_upto_region 1 with (fail)
    rw [hWA.out]
    go_wp2_with fail
    go_ret2
    exact ⟨by rw [HF.out]; rfl, HA.out⟩
end Go.Proofs.YtgpjbigelblanaaGreatDoor

/- consignorref04.Print computes Csv.printOf, too; consignorlaw04.Great. -/
import Derived.Test.YtgpjbigelblanaaGreatDoorCsvPrint
import Derived.Test.YtgpjbigelblanaaGreatDoorCsvOwn
namespace Go.Proofs.YtgpjbigelblanaaGreatDoor
open Go.RowKit

theorem str_app (X Y : List UInt8) : (⟨X.toArray⟩ : ByteArray) ++ ⟨Y.toArray⟩ = ⟨(X ++ Y).toArray⟩ := by
  apply ByteArray.ext
  apply Array.toList_inj.1
  simp [ByteArray.data_append]
theorem str_one (f : List UInt8) (t : Nat) (x : UInt8) (h : f[t]? = some x) : (⟨f.toArray⟩ : ByteArray).extract t (t + 1) = ⟨#[x]⟩ := by
  have h2 := extract_take ⟨f.toArray⟩ t 1
  have h3 : (⟨f.toArray⟩ : ByteArray).extract t (t + 1) = ⟨((f.drop t).take 1).toArray⟩ := by injection h2
  rw [h3]
  obtain ⟨hk, e⟩ := List.getElem?_eq_some_iff.1 h
  rw [List.drop_eq_getElem_cons hk, e]
  rfl

def hasB (l : List UInt8) (c : UInt8) : Bool := l.any fun d => d = c
theorem needs_has (l : List UInt8) : needs l = (hasB l 44 || (hasB l 34 || (hasB l 10 || hasB l 13))) := by
  unfold needs hasB
  induction l with
  | nil => rfl
  | cons c r ih =>
    simp only [List.any_cons, ih]
    cases decide (c = 44) <;> cases decide (c = 34) <;> cases decide (c = 10) <;> cases decide (c = 13) <;> cases (r.any fun d => decide (d = 44)) <;> cases (r.any fun d => decide (d = 34)) <;> cases (r.any fun d => decide (d = 10)) <;> cases (r.any fun d => decide (d = 13)) <;> rfl

set_option maxHeartbeats 2000000 in
theorem has_any (s : ByteArray) (c : UInt8) (w : World) (hs : s.size ≤ 1000000) :
    Calls Tryz.prog 44 #[.string s, .int .u8 (c.toNat : Int)] w fun e w' => e = .returned (.bool (hasB s.data.toList c)) ∧ w = w' := by
  go_enter Tryz.func44, Tryz.ntmps44
  go_wp2
  go_loop [5] (fun i => ∃ j : Nat, j ≤ s.size ∧ i = .int .i64 j ∧ Hid (hasB s.data.toList c = hasB (s.data.toList.drop j) c)) (fun i => s.size - (intOf i).toNat)
  case atStart => exact ⟨0, Nat.zero_le _, rfl, rfl⟩
  case round =>
    obtain ⟨j, hj, rfl, HB⟩ := hrel
    by_cases hlt : j < s.size
    · have hd : hasB s.data.toList c = (decide (s[j] = c) || hasB (s.data.toList.drop (j + 1)) c) := by
        rw [HB.out, drop_cons s j hlt]
        rfl
      by_cases hc : s[j] = c
      · have g := beqT (show (s[j].toNat : Int) = (c.toNat : Int) by rw [hc])
        have HD := Lib.hid (show hasB s.data.toList c = true by rw [hd]; simp [hc])
        clear hd hc
        go_wp2
        go_ret
        exact ⟨ret_bool HD.out.symm, rfl⟩
      · have g := beqF (show ¬ (s[j].toNat : Int) = (c.toNat : Int) from fun e => hc (UInt8.toNat_inj.1 (by omega)))
        have HD := Lib.hid (show hasB s.data.toList c = hasB (s.data.toList.drop (j + 1)) c by rw [hd]; simp [hc])
        clear hd hc
        go_wp2
        go_round
        case rel => exact ⟨j + 1, by omega, by go_num, HD⟩
        case measure => simp [intOf]; omega
    · have HD := Lib.hid (show hasB s.data.toList c = false by rw [HB.out, drop_all s j (by omega)]; rfl)
      go_wp2
      go_ret
      exact ⟨ret_bool HD.out.symm, rfl⟩

theorem dbl_snoc (l : List UInt8) (c : UInt8) : Csv.dbl (l ++ [c]) = Csv.dbl l ++ (if c = 34 then [34, 34] else [c]) := by simp [Csv.dbl]

set_option maxHeartbeats 16000000 in
theorem refPrint_any (v : Value) (L : List (List (List UInt8))) (B : Nat) (w : World) (hv : Rowz w B v L) (hf : Fits L) :
    Calls Tryz.prog 18 #[v] w fun e w' => e = .returned (.string ⟨(Csv.printOf L).toArray⟩) ∧ w = w' := by
  have HF := Lib.hid hf
  obtain ⟨A, n, c, rfl, hn, hc, hh⟩ := hv
  have HH := Lib.hid hh; clear hh
  have HL := Lib.hid hn
  have hn1 : n ≤ 1001 := by have := hf.rows; omega
  clear hf hn
  go_enter Tryz.func18, Tryz.ntmps18
  go_wp2_with fail
  go_loop [3, 4] (fun o i => ∃ (j : Nat) (X : List UInt8), j ≤ n ∧ i = .int .i64 j ∧ o = .string ⟨X.toArray⟩ ∧ Hid (Csv.printOf (L.take j) = X) ∧ Hid (X.length ≤ j * 3000000)) (fun _ i => n - (intOf i).toNat)
  case atStart => exact ⟨0, [], Nat.zero_le _, rfl, rfl, rfl, by simp [Hid]⟩
  case round =>
    obtain ⟨j, X, hj, rfl, rfl, HX, HS⟩ := hrel
    by_cases hlt : j < n
    · obtain ⟨r, hr⟩ : ∃ x, L[j]? = some x := ⟨_, List.getElem?_eq_getElem (by have := HL.out; omega)⟩
      obtain ⟨ad, u, rfl, had, hcell, hu⟩ := HH.out j r hr
      obtain ⟨Ai, ni, ci, rfl, hni, hci, hh⟩ := hu
      have HI := Lib.hid hh
      have HNI := Lib.hid hni; have HR := Lib.hid hr
      have hni1 : ni ≤ 1001 := by have := HF.out.fields r (List.mem_of_getElem? hr); omega
      have HFB := Lib.hid (HF.out.bytes r (List.mem_of_getElem? hr))
      clear hh hni hr
      go_wp2_with fail
      go_loop [3, 5] (fun o i => ∃ (k : Nat) (Y : List UInt8), k ≤ ni ∧ i = .int .i64 k ∧ o = .string ⟨(X ++ Y).toArray⟩ ∧ Hid (Csv.rowOf (r.take k) = Y) ∧ Hid (Y.length ≤ k * 2800)) (fun _ i => ni - (intOf i).toNat)
      case atStart => exact ⟨0, [], Nat.zero_le _, rfl, by simp, rfl, by simp [Hid]⟩
      case round =>
        obtain ⟨k, Y, hk, rfl, rfl, HY, HT⟩ := hrel
        by_cases hkt : k < ni
        · obtain ⟨f, hf⟩ : ∃ x, r[k]? = some x := ⟨_, List.getElem?_eq_getElem (by have := HNI.out; omega)⟩
          obtain ⟨ad2, u2, rfl, had2, hcell2, hu2⟩ := HI.out k f hf
          subst hu2
          obtain ⟨s, rfl⟩ : ∃ s : ByteArray, f = s.data.toList := ⟨⟨f.toArray⟩, by simp⟩
          have hss : (⟨s.data.toList.toArray⟩ : ByteArray) = s := by simp
          rw [hss] at hcell2
          have hsl : s.data.toList.length = s.size := by simp
          have hfl := HFB.out s.data.toList (List.mem_of_getElem? hf)
          have hsn := Csv.rowOf_snoc (r.take k) s.data.toList
          rw [← take_succ' hf, HY.out] at hsn
          have hrt : (r.take k = []) ↔ k = 0 := by
            have := HNI.out
            constructor
            · intro e
              have h2 : (r.take k).length = 0 := by rw [e]; rfl
              rw [List.length_take] at h2
              omega
            · rintro rfl; rfl
          have hlx : X.length + Y.length ≤ 4000000000 := by have := HS.out; have := HT.out; omega
          have hfz : s.size ≤ 1001 := by omega
          have HH2 : Hid (∀ (c : UInt8) (W : World), Calls Tryz.prog 44 #[.string s, .int .u8 (c.toNat : Int)] W fun e w' => e = .returned (.bool (hasB s.data.toList c)) ∧ W = w') := fun c W => has_any s c W (by omega)
          have h44 : Hid (∀ (W : World), Calls Tryz.prog 44 #[.string s, .int .u8 44] W fun e w' => e = .returned (.bool (hasB s.data.toList 44)) ∧ W = w') := fun W => HH2.out 44 W
          have h34 : Hid (∀ (W : World), Calls Tryz.prog 44 #[.string s, .int .u8 34] W fun e w' => e = .returned (.bool (hasB s.data.toList 34)) ∧ W = w') := fun W => HH2.out 34 W
          have h10 : Hid (∀ (W : World), Calls Tryz.prog 44 #[.string s, .int .u8 10] W fun e w' => e = .returned (.bool (hasB s.data.toList 10)) ∧ W = w') := fun W => HH2.out 10 W
          have h13 : Hid (∀ (W : World), Calls Tryz.prog 44 #[.string s, .int .u8 13] W fun e w' => e = .returned (.bool (hasB s.data.toList 13)) ∧ W = w') := fun W => HH2.out 13 W
          have HNE := Lib.hid (needs_has s.data.toList)
          obtain ⟨b44, e44⟩ : ∃ b, hasB s.data.toList 44 = b := ⟨_, rfl⟩
          obtain ⟨b34, e34⟩ : ∃ b, hasB s.data.toList 34 = b := ⟨_, rfl⟩
          obtain ⟨b10, e10⟩ : ∃ b, hasB s.data.toList 10 = b := ⟨_, rfl⟩
          obtain ⟨b13, e13⟩ : ∃ b, hasB s.data.toList 13 = b := ⟨_, rfl⟩
          rw [e44] at h44 HNE; rw [e34] at h34 HNE; rw [e10] at h10 HNE; rw [e13] at h13 HNE
          have HSN := Lib.hid hsn; have HRT := Lib.hid hrt
          have HFL := Lib.hid hfl; have HSL := Lib.hid hsl
          clear e44 e34 e10 e13 HH2 hf hsn hrt hss hsl hfl
          -- the comma
          obtain ⟨Z, hk0, hz⟩ : ∃ Z : List UInt8, Hid ((k = 0 ∧ Z = X ++ Y) ∨ (0 < k ∧ Z = X ++ Y ++ [44])) ∧ Hid (X ++ Csv.rowOf (r.take (k + 1)) = Z ++ Csv.fieldOf s.data.toList) := by
            by_cases hk0 : k = 0
            · refine ⟨X ++ Y, .inl ⟨hk0, rfl⟩, ?_⟩
              have h := HSN.out
              rw [if_pos (HRT.out.2 hk0)] at h
              have hY : Y = [] := List.eq_nil_of_length_eq_zero (by have := HT.out; rw [hk0] at this; omega)
              show _ = _
              rw [h, hY, List.append_nil]
            · refine ⟨X ++ Y ++ [44], .inr ⟨by omega, rfl⟩, ?_⟩
              have h := HSN.out
              rw [if_neg (fun e => hk0 (HRT.out.1 e))] at h
              show _ = _
              rw [h]
              simp
          have hlz : Z.length ≤ 4000000001 := by
            rcases hk0.out with ⟨_, h⟩ | ⟨_, h⟩ <;> rw [h] <;> simp <;> omega
          have HFO := Lib.hid (Csv.fieldOf_len s.data.toList)
          have HLX := Lib.hid hlx
          have HLEN := Lib.hid (show (Csv.rowOf (r.take (k + 1))).length ≤ (k + 1) * 2800 by
            have h := HSN.out
            have h1 := HFO.out; have h2 := HFL.out; have h3 := HT.out
            rw [h]
            split
            · omega
            · rw [List.length_append, List.length_cons]; omega)
          obtain ⟨hkb, hzs⟩ | ⟨hkb, hzs⟩ : ((¬ (0 : Int) < (k : Int)) ∧ (⟨(X ++ Y).toArray⟩ : ByteArray) = ⟨Z.toArray⟩) ∨ (((0 : Int) < (k : Int)) ∧ (⟨(X ++ Y).toArray⟩ : ByteArray) ++ ⟨#[44]⟩ = ⟨Z.toArray⟩) := by
            rcases hk0.out with ⟨h1, h2⟩ | ⟨h1, h2⟩
            · exact .inl ⟨by omega, by rw [h2]⟩
            · exact .inr ⟨by omega, by rw [h2, ← str_app (X ++ Y) [44]]⟩
          all_goals
            obtain hneed | hneed : Hid (needs s.data.toList = true) ∨ Hid (needs s.data.toList = false) := by
              cases h : needs s.data.toList
              · exact .inr rfl
              · exact .inl rfl
            · have HN2 := Lib.hid (show Csv.fieldOf s.data.toList = 34 :: (Csv.dbl s.data.toList ++ [34]) from if_pos hneed.out)
              have hb : b44 = true ∨ (b44 = false ∧ b34 = true) ∨ (b44 = false ∧ b34 = false ∧ b10 = true) ∨ (b44 = false ∧ b34 = false ∧ b10 = false ∧ b13 = true) := by
                have h := HNE.out
                rw [hneed.out] at h
                cases b44 <;> cases b34 <;> cases b10 <;> cases b13 <;> simp at h ⊢
              rcases hb with rfl | ⟨rfl, rfl⟩ | ⟨rfl, rfl, rfl⟩ | ⟨rfl, rfl, rfl, rfl⟩
              all_goals
                go_wp2_with (first
                  | (go_at_call 44; with_reducible refine (h44.out _).mono ?_; rintro e w1 ⟨rfl, rfl⟩)
                  | (go_at_call 44; with_reducible refine (h34.out _).mono ?_; rintro e w1 ⟨rfl, rfl⟩)
                  | (go_at_call 44; with_reducible refine (h10.out _).mono ?_; rintro e w1 ⟨rfl, rfl⟩)
                  | (go_at_call 44; with_reducible refine (h13.out _).mono ?_; rintro e w1 ⟨rfl, rfl⟩))
                clear hzs h44 h34 h10 h13
                go_loop [3, 7] (fun o i => ∃ (t : Nat) (V : List UInt8), t ≤ s.size ∧ i = .int .i64 t ∧ o = .string ⟨V.toArray⟩ ∧ Hid (V = Z ++ [34] ++ Csv.dbl (s.data.toList.take t)) ∧ V.length ≤ 4100000000) (fun _ i => s.size - (intOf i).toNat)
                case atStart => exact ⟨0, Z ++ [34], Nat.zero_le _, rfl, by rw [← str_app Z [34]], by simp [Hid, Csv.dbl], by simp; omega⟩
                case round =>
                  obtain ⟨t, V, ht, rfl, rfl, HV, hlv⟩ := hrel
                  have hdl := Csv.dbl_len (s.data.toList.take (t + 1))
                  have hdt : (s.data.toList.take (t + 1)).length ≤ t + 1 := List.length_take_le _ _
                  have hvb : ∀ V' : List UInt8, V' = Z ++ [34] ++ Csv.dbl (s.data.toList.take (t + 1)) → V'.length ≤ 4100000000 := by
                    intro V' e
                    rw [e, List.length_append, List.length_append]
                    simp only [List.length_cons, List.length_nil]
                    omega
                  have HVB := Lib.hid hvb
                  clear hdl hdt hvb
                  by_cases hts : t < s.size
                  · have hsn := dbl_snoc (s.data.toList.take t) s[t]
                    rw [← take_snocC s t hts] at hsn
                    have hse := fun V : List UInt8 => string_snoc s t hts V
                    by_cases hc : s[t] = 34
                    · have g : (s[t].toNat : Int) = 34 := by rw [hc]; rfl
                      have HX2 := Lib.hid (show V ++ [34] ++ [s[t]] = Z ++ [34] ++ Csv.dbl (s.data.toList.take (t + 1)) by rw [hsn, if_pos hc, HV.out, hc]; simp)
                      have HSE := Lib.hid hse
                      clear hsn hse hc
                      go_wp2_with fail
                      go_round
                      case rel => exact ⟨t + 1, V ++ [34] ++ [s[t]], by omega, by go_num, by rw [← HSE.out (V ++ [34]), ← str_app V [34]], HX2, HVB.out _ HX2.out⟩
                      case measure => simp [intOf]; omega
                    · have g := beqF (show ¬ (s[t].toNat : Int) = 34 from fun e => hc ((u8_of _ 34 (by decide)).1 e))
                      have HX2 := Lib.hid (show V ++ [s[t]] = Z ++ [34] ++ Csv.dbl (s.data.toList.take (t + 1)) by rw [hsn, if_neg hc, HV.out]; simp)
                      have HSE := Lib.hid hse
                      clear hsn hse hc
                      go_wp2_with fail
                      go_round
                      case rel => exact ⟨t + 1, V ++ [s[t]], by omega, by go_num, by rw [← HSE.out V], HX2, HVB.out _ HX2.out⟩
                      case measure => simp [intOf]; omega
                  · have HE := Lib.hid (show V ++ [34] = X ++ Csv.rowOf (r.take (k + 1)) by
                      have hfull : s.data.toList.take t = s.data.toList := List.take_of_length_le (by have := HSL.out; omega)
                      rw [hz.out, HN2.out, HV.out, hfull]
                      simp)
                    go_wp2_with fail
                    go_round
                    case rel => exact ⟨k + 1, Csv.rowOf (r.take (k + 1)), by omega, by go_num, by rw [← HE.out, ← str_app V [34]], rfl, HLEN.out⟩
                    case measure => simp [intOf]; omega
            · have HE := Lib.hid (show Z ++ s.data.toList = X ++ Csv.rowOf (r.take (k + 1)) by
                rw [hz.out]
                unfold Csv.fieldOf
                rw [if_neg (by rw [hneed.out]; simp)])
              have hb : b44 = false ∧ b34 = false ∧ b10 = false ∧ b13 = false := by
                have h := HNE.out
                rw [hneed.out] at h
                cases b44 <;> cases b34 <;> cases b10 <;> cases b13 <;> simp at h ⊢
              obtain ⟨rfl, rfl, rfl, rfl⟩ := hb
              go_wp2_with (first
                | (go_at_call 44; with_reducible refine (h44.out _).mono ?_; rintro e w1 ⟨rfl, rfl⟩)
                | (go_at_call 44; with_reducible refine (h34.out _).mono ?_; rintro e w1 ⟨rfl, rfl⟩)
                | (go_at_call 44; with_reducible refine (h10.out _).mono ?_; rintro e w1 ⟨rfl, rfl⟩)
                | (go_at_call 44; with_reducible refine (h13.out _).mono ?_; rintro e w1 ⟨rfl, rfl⟩))
              go_round
              case rel => exact ⟨k + 1, Csv.rowOf (r.take (k + 1)), by omega, by go_num, by rw [← HE.out, ← str_app Z s.data.toList], rfl, HLEN.out⟩
              case measure => simp [intOf]; omega
        · have hfull : r.take k = r := List.take_of_length_le (by have := HNI.out; omega)
          have hp := Csv.printOf_snoc (L.take j) r
          rw [← take_succ' HR.out, HX.out] at hp
          have hy := HY.out
          rw [hfull] at hy
          rw [hy] at hp
          have HP := Lib.hid hp
          have hlx : X.length + Y.length ≤ 4000000000 := by have := HS.out; have := HT.out; omega
          clear hy hp hfull
          go_wp2_with fail
          refine ⟨⟨j + 1, X ++ Y ++ [10], by omega, by go_num, by rw [← str_app (X ++ Y) [10]], by rw [Hid, HP.out, List.append_assoc], ?_⟩, by simp [intOf]; omega⟩
          have := HS.out; have := HT.out
          show _ ≤ _
          rw [List.length_append, List.length_append]
          simp
          omega
    · have hfull : L.take j = L := List.take_of_length_le (by have := HL.out; omega)
      have HP := Lib.hid (show Csv.printOf L = X by rw [← HX.out, hfull])
      clear hfull
      go_wp2_with fail
      go_ret
      exact ⟨by rw [HP.out]; rfl, rfl⟩
end Go.Proofs.YtgpjbigelblanaaGreatDoor

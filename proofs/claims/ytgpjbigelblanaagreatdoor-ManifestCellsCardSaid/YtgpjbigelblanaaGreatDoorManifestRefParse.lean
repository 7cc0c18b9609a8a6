/- consignorref04.Parse computes Csv.parse, too. -/
import Derived.Test.YtgpjbigelblanaaGreatDoorCsvParse
import Derived.Test.YtgpjbigelblanaaGreatDoorManifestGen
import Derived.Test.YtgpjbigelblanaaGreatDoorMoneyRefGet
import Derived.Test.YtgpjbigelblanaaGreatDoorManifestParse
namespace Go.Proofs.YtgpjbigelblanaaGreatDoor
open Go.RowKit

set_option maxHeartbeats 1000000 in
theorem refWhere_any (s : ByteArray) (at_ : Nat) (code : Int) (w : World) (hs : s.size ≤ 65536) (hk : at_ ≤ s.size) :
    Calls Tryz.prog 43 #[.string s, .int .i64 at_, .int .i64 code] w fun e w' => e = .returned (rej (s.data.toList.take at_) code) ∧ Below w.heap.size w w' := by
  go_enter Tryz.func43, Tryz.ntmps43
  go_wp2
  go_loopw [8] (fun i wr => ∃ j : Nat, j ≤ at_ ∧ i = .int .i64 j ∧ wr = (w.alloc (Obj.cells #[Value.int IntKind.i64 0, Value.int IntKind.i64 0, Value.int IntKind.i64 0] 32)).alloc (Obj.cells #[Value.int IntKind.i64 ((Csv.lc (s.data.toList.take j)).1 : Int), Value.int IntKind.i64 ((Csv.lc (s.data.toList.take j)).2 : Int), Value.int IntKind.i64 code] 32)) (fun i _ => at_ - (intOf i).toNat)
  case atStart => exact ⟨0, Nat.zero_le _, rfl, rfl⟩
  case round =>
    obtain ⟨j, hj, rfl, rfl⟩ := hrel
    have hb := lc_le (s.data.toList.take j)
    have hlen : (s.data.toList.take j).length ≤ j := List.length_take_le _ _
    by_cases hlt : j < at_
    · have hjs : j < s.size := by omega
      have hsn := lc_snoc (s.data.toList.take j) s[j]
      rw [← take_snocC s j hjs] at hsn
      obtain ⟨l1, h1⟩ : ∃ n : Nat, (Csv.lc (s.data.toList.take j)).1 = n := ⟨_, rfl⟩
      obtain ⟨l2, h2⟩ : ∃ n : Nat, (Csv.lc (s.data.toList.take j)).2 = n := ⟨_, rfl⟩
      rw [h1, h2] at hsn hb ⊢
      by_cases hc : s[j] = 10
      · rw [if_pos hc] at hsn
        have g1 : (s[j].toNat : Int) = 10 := by rw [hc]; rfl
        have HS := Lib.hid hsn
        clear hsn hc h1 h2
        go_wp2
        go_roundw
        case rel => exact ⟨j + 1, by omega, by go_num, by rw [HS.out]; rfl⟩
        case measure => simp [intOf]; omega
      · rw [if_neg hc] at hsn
        have g1 := beqF (fun e => hc ((u8_of s[j] 10 (by decide)).1 e))
        have HS := Lib.hid hsn
        clear hsn hc h1 h2
        go_wp2
        go_roundw
        case rel => exact ⟨j + 1, by omega, by go_num, by rw [HS.out]; rfl⟩
        case measure => simp [intOf]; omega
    · obtain rfl : j = at_ := by omega
      go_wp2
      exact bodyPost_ret (v := rej (s.data.toList.take j) code) (by simp [results, Tryz.results43, go_sem, rej]) rfl ⟨rfl, ((Below.refl _ _).alloc (Nat.le_refl _) _).alloc (by simp) _⟩
theorem refWhere_at (s : ByteArray) (nx : Nat) (hs : s.size ≤ 65536) (hk : nx ≤ s.size) : ∃ la lb : Nat, Hid (Csv.lc (s.data.toList.take nx) = (la, lb)) ∧ Hid (∀ (code : Int) (w : World),
    Calls Tryz.prog 43 #[.string s, .int .i64 nx, .int .i64 code] w fun e w' => e = .returned (.agg #[.int .i64 (la : Int), .int .i64 (lb : Int), .int .i64 code]) ∧ Below w.heap.size w w') :=
  ⟨_, _, rfl, fun code w => refWhere_any s nx code w hs hk⟩

theorem go_some (s : ByteArray) (i : Nat) (h : i < s.size) (st st' : Csv.St) (hs : Csv.step st s[i] = some st') : Csv.go (s.data.toList.drop i) st i = Csv.go (s.data.toList.drop (i + 1)) st' (i + 1) := by
  rw [drop_cons s i h]
  simp only [Csv.go, hs]
theorem go_none (s : ByteArray) (i : Nat) (h : i < s.size) (st : Csv.St) (hs : Csv.step st s[i] = none) : Csv.parseOf s.data.toList (Csv.go (s.data.toList.drop i) st i) = ([], (Csv.lc (s.data.toList.take i)).1, (Csv.lc (s.data.toList.take i)).2, 2) := by
  rw [drop_cons s i h]
  simp only [Csv.go, hs]
  rfl
theorem go_end (s : ByteArray) (i : Nat) (h : ¬ i < s.size) (st : Csv.St) : Csv.parseOf s.data.toList (Csv.go (s.data.toList.drop i) st i) = if Csv.fin s.data.toList st = 0 then (st.rows, 0, 0, 0) else ([], (Csv.lc s.data.toList).1, (Csv.lc s.data.toList).2, Csv.fin s.data.toList st) := by
  rw [drop_all s i (by omega)]
  rfl
theorem last_eq (s : ByteArray) (h : 0 < s.size) : s.data.toList.getLast? = some (s[s.size - 1]'(by omega)) := by
  have h1 : s.data.toList.length = s.size := by simp
  rw [List.getLast?_eq_getElem?, h1, List.getElem?_eq_getElem (by rw [h1]; omega)]
  rfl
theorem ne_nil (s : ByteArray) (h : 0 < s.size) : s.data.toList ≠ [] := by
  intro e
  have h1 : s.data.toList.length = s.size := by simp
  rw [e] at h1
  simp at h1
  omega

set_option maxRecDepth 100000 in
set_option maxHeartbeats 16000000 in
theorem refParse_any (s : ByteArray) (w : World) (hs : s.size ≤ 65536) :
    Calls Tryz.prog 17 #[.string s] w fun e w' => Told (Csv.parse s.data.toList) e w' ∧ Below w.heap.size w w' := by
  obtain ⟨i0, hi, hz0, hz1, hz2⟩ := info_parts fld_info
  obtain ⟨j0, hj, hy0, hy1, hy2⟩ := info_parts line_info
  have hR : Csv.parse s.data.toList = Csv.parseOf s.data.toList (Csv.go (s.data.toList.drop 0) Csv.St.init 0) := by
    unfold Csv.parse
    rw [if_neg (by simp; omega)]
    rfl
  obtain ⟨R, hRR⟩ : ∃ R, Csv.parseOf s.data.toList (Csv.go (s.data.toList.drop 0) Csv.St.init 0) = R := ⟨_, rfl⟩
  rw [hR, hRR]
  clear hR
  go_enter Tryz.func17, Tryz.ntmps17
  go_wp2_with fail
  go_loopw [4, 5, 6, 7, 8] (fun vr v fv mv i wr => ∃ (j m : Nat) (rows : List (List (List UInt8))) (row : List (List UInt8)) (f : List UInt8) (vs : List Value), j ≤ s.size ∧ i = .int .i64 j ∧ fv = .string ⟨f.toArray⟩ ∧ mv = .int .i64 m ∧ m ≤ 3 ∧ Hid (Inv wr (w.heap.size + 1) vr v rows row vs) ∧ Hid (Csv.parseOf s.data.toList (Csv.go (s.data.toList.drop j) ⟨rows, row, f, m⟩ j) = R) ∧
      Hid (wr.heap[w.heap.size]? = some (.cells #[.int .i64 0, .int .i64 0, .int .i64 0] tRej (0, 0))) ∧ Hid (Below w.heap.size w wr) ∧ rows.length ≤ j ∧ row.length ≤ j ∧ f.length ≤ j) (fun _ _ _ _ i _ => s.size - (intOf i).toNat)
  case atStart => exact ⟨0, 0, [], [], [], [], by omega, rfl, rfl, rfl, by omega, Inv.start _ _, hRR, heap_alloc_new w _, (Below.refl _ _).alloc (Nat.le_refl _) _, by simp, by simp, by simp⟩
  case round =>
    obtain ⟨j, m, rows, row, f, vs, hjs, rfl, rfl, rfl, hm, HI, HR, HC, HW, hrl, hrl2, hfl⟩ := hrel
    obtain ⟨c0, c1, c2, f0, f1, f2⟩ := cell3 HC.out
    by_cases hlt : j < s.size
    · by_cases hm2 : m = 2
      · subst hm2
        by_cases hc : s[j] = 34
        · have g1 : (s[j].toNat : Int) = 34 := by rw [hc]; rfl
          have HS := Lib.hid (go_some s j hlt ⟨rows, row, f, 2⟩ ⟨rows, row, f, 3⟩ (by simp [Csv.step, hc]))
          clear hc
          go_wp2_with fail
          go_roundw
          case rel => exact ⟨j + 1, 3, rows, row, f, vs, by omega, by go_num, rfl, rfl, by omega, HI, by rw [← HS.out]; exact HR, HC, HW, by omega, by omega, by omega⟩
          case measure => simp [intOf]; omega
        · have g1 := beqF (show ¬ (s[j].toNat : Int) = 34 from fun e => hc ((u8_of s[j] 34 (by decide)).1 e))
          have HS := Lib.hid (go_some s j hlt ⟨rows, row, f, 2⟩ ⟨rows, row, f ++ [s[j]], 2⟩ (by simp [Csv.step, hc]))
          clear hc
          go_wp2_with fail
          go_roundw
          case rel => exact ⟨j + 1, 2, rows, row, f ++ [s[j]], vs, by omega, by go_num, by rw [← string_snoc], rfl, by omega, HI, by rw [← HS.out]; exact HR, HC, HW, by omega, by omega, by simp; omega⟩
          case measure => simp [intOf]; omega
      · obtain rfl | rfl | rfl : m = 0 ∨ m = 1 ∨ m = 3 := by omega
        · clear hm2
          by_cases h10 : s[j] = 10
          · have g : (s[j].toNat : Int) = 10 := by rw [h10]; rfl
            have HS := Lib.hid (go_some s j hlt ⟨rows, row, f, 0⟩ ⟨rows ++ [row ++ [f]], [], [], 0⟩ (by simp [Csv.step, h10]))
            clear h10
            go_wp2_with (first
              | (at_builtin; refine wpList_append_own_at _ rfl (.tmp 40) (.tmp 42) 43 rfl (w.heap.size + 1) tFld i0 (.string ⟨#[]⟩) 1 16 Tryz.underlying43 hi hz0 hz1 hz2 rfl (by decide) _ _ _ rfl (HI.out.inner.alloc _) ⟨wr.heap.size, 0, none⟩ 1 1 [strV f] rfl rfl (one_new _ _ _) (by intro u hu; simp at hu; subst hu; rfl) (by unfold maxLen; omega) (by omega) (by have := heap_lt HC.out; simp; omega) ?_; intro v2 w2 ho2 hg2 _ hat2; obtain ⟨a2, n2, cp2, rfl⟩ := own_shape ho2; have HI2 := Lib.hid ((HI.out.below ((Below.refl _ _).alloc (Nat.le_refl _) _)).field ho2 hg2 hat2); have HC2 := Lib.hid ((hg2.block _ (by have := heap_lt HC.out; simp; omega) (fun e => by have := (HI.out.inner.lt _ e.symm).1; omega)).trans (heap_keep HC.out ((Below.refl _ _).alloc (Nat.le_refl _) _))); have hz' := HW.out.size; have HB2 := Lib.hid ((HW.out.alloc (by omega) (.cells #[.string ⟨f.toArray⟩] tFld)).grown hg2 (by simp; omega) (fun k hk => by have := (HI.out.inner.lt _ hk).1; omega)); have hz2' := hg2.size; clear ho2 hg2 hat2)
              | (at_builtin; refine wpList_append_own_at _ rfl (.tmp 46) (.tmp 48) 38 rfl (w.heap.size + 1) tLine j0 (.slice none 0 0) 1 24 Tryz.underlying38 hj hy0 hy1 hy2 rfl (by decide) _ _ _ rfl (HI2.out.outer.alloc _) ⟨w2.heap.size, 0, none⟩ 1 1 [.slice a2 n2 cp2] rfl rfl (one_new _ _ _) (by intro u hu; simp at hu; subst hu; exact own_one HI2.out.inner) (by unfold maxLen; omega) (by omega) (by have := heap_lt HC2.out; simp; omega) ?_; intro v3 w3 ho3 hg3 _ hat3; have HI3 := Lib.hid ((HI2.out.below ((Below.refl _ _).alloc (Nat.le_refl _) _)).rowDone ho3 hg3); have HC3 := Lib.hid ((hg3.block _ (by have := heap_lt HC2.out; simp; omega) (fun e => by have := (HI2.out.outer.lt _ e.symm).1; omega)).trans (heap_keep HC2.out ((Below.refl _ _).alloc (Nat.le_refl _) _))); have HB3 := Lib.hid ((HB2.out.alloc (by have := HB2.out.size; omega) (.cells #[.slice a2 n2 cp2] tLine)).grown hg3 (by have := HB2.out.size; simp; omega) (fun k hk => by have := (HI2.out.outer.lt _ hk).1; omega)); clear ho3 hg3 hat3))
            go_roundw
            case rel => exact ⟨j + 1, 0, rows ++ [row ++ [f]], [], [], vs ++ [_], by omega, by go_num, rfl, rfl, by omega, HI3, by rw [← HS.out]; exact HR, HC3, HB3, by simp; omega, by simp, by simp⟩
            case measure => simp [intOf]; omega
          · by_cases h44 : s[j] = 44
            · have g : (s[j].toNat : Int) = 44 := by rw [h44]; rfl
              have HS := Lib.hid (go_some s j hlt ⟨rows, row, f, 0⟩ ⟨rows, row ++ [f], [], 0⟩ (by simp [Csv.step, h44]))
              clear h10 h44
              go_wp2_with (first
                | (at_builtin; refine wpList_append_own_at _ rfl (.tmp 40) (.tmp 42) 43 rfl (w.heap.size + 1) tFld i0 (.string ⟨#[]⟩) 1 16 Tryz.underlying43 hi hz0 hz1 hz2 rfl (by decide) _ _ _ rfl (HI.out.inner.alloc _) ⟨wr.heap.size, 0, none⟩ 1 1 [strV f] rfl rfl (one_new _ _ _) (by intro u hu; simp at hu; subst hu; rfl) (by unfold maxLen; omega) (by omega) (by have := heap_lt HC.out; simp; omega) ?_; intro v2 w2 ho2 hg2 _ hat2; obtain ⟨a2, n2, cp2, rfl⟩ := own_shape ho2; have HI2 := Lib.hid ((HI.out.below ((Below.refl _ _).alloc (Nat.le_refl _) _)).field ho2 hg2 hat2); have HC2 := Lib.hid ((hg2.block _ (by have := heap_lt HC.out; simp; omega) (fun e => by have := (HI.out.inner.lt _ e.symm).1; omega)).trans (heap_keep HC.out ((Below.refl _ _).alloc (Nat.le_refl _) _))); have hz' := HW.out.size; have HB2 := Lib.hid ((HW.out.alloc (by omega) (.cells #[.string ⟨f.toArray⟩] tFld)).grown hg2 (by simp; omega) (fun k hk => by have := (HI.out.inner.lt _ hk).1; omega)); have hz2' := hg2.size; clear ho2 hg2 hat2)
                | (at_builtin; refine wpList_append_own_at _ rfl (.tmp 46) (.tmp 48) 38 rfl (w.heap.size + 1) tLine j0 (.slice none 0 0) 1 24 Tryz.underlying38 hj hy0 hy1 hy2 rfl (by decide) _ _ _ rfl (HI2.out.outer.alloc _) ⟨w2.heap.size, 0, none⟩ 1 1 [.slice a2 n2 cp2] rfl rfl (one_new _ _ _) (by intro u hu; simp at hu; subst hu; exact own_one HI2.out.inner) (by unfold maxLen; omega) (by omega) (by have := heap_lt HC2.out; simp; omega) ?_; intro v3 w3 ho3 hg3 _ hat3; have HI3 := Lib.hid ((HI2.out.below ((Below.refl _ _).alloc (Nat.le_refl _) _)).rowDone ho3 hg3); have HC3 := Lib.hid ((hg3.block _ (by have := heap_lt HC2.out; simp; omega) (fun e => by have := (HI2.out.outer.lt _ e.symm).1; omega)).trans (heap_keep HC2.out ((Below.refl _ _).alloc (Nat.le_refl _) _))); have HB3 := Lib.hid ((HB2.out.alloc (by have := HB2.out.size; omega) (.cells #[.slice a2 n2 cp2] tLine)).grown hg3 (by have := HB2.out.size; simp; omega) (fun k hk => by have := (HI2.out.outer.lt _ hk).1; omega)); clear ho3 hg3 hat3))
              go_roundw
              case rel => exact ⟨j + 1, 0, rows, row ++ [f], [], vs, by omega, by go_num, rfl, rfl, by omega, HI2, by rw [← HS.out]; exact HR, HC2, HB2, by omega, by simp; omega, by simp⟩
              case measure => simp [intOf]; omega
            · by_cases h34 : s[j] = 34
              · have g : (s[j].toNat : Int) = 34 := by rw [h34]; rfl
                have HS := Lib.hid (go_some s j hlt ⟨rows, row, f, 0⟩ ⟨rows, row, f, 2⟩ (by simp [Csv.step, h34]))
                clear h10 h44 h34
                go_wp2_with fail
                go_roundw
                case rel => exact ⟨j + 1, 2, rows, row, f, vs, by omega, by go_num, rfl, rfl, by omega, HI, by rw [← HS.out]; exact HR, HC, HW, by omega, by omega, by first | omega | (simp; omega)⟩
                case measure => simp [intOf]; omega
              · have k10 := beqF (show ¬ (s[j].toNat : Int) = 10 from fun e => h10 ((u8_of s[j] 10 (by decide)).1 e))
                have k44 := beqF (show ¬ (s[j].toNat : Int) = 44 from fun e => h44 ((u8_of s[j] 44 (by decide)).1 e))
                have k34 := beqF (show ¬ (s[j].toNat : Int) = 34 from fun e => h34 ((u8_of s[j] 34 (by decide)).1 e))
                by_cases h13 : s[j] = 13
                · have g : (s[j].toNat : Int) = 13 := by rw [h13]; rfl
                  obtain ⟨la, lb, HL, HWH⟩ := refWhere_at s j hs hjs
                  have HS := Lib.hid (go_none s j hlt ⟨rows, row, f, 0⟩ (by simp [Csv.step, h13]))
                  clear k10 k44 k34 h10 h44 h34 h13
                  go_wp2_with (go_at_call 43; refine (HWH.out _ _).mono ?_; rintro e w2 ⟨rfl, HW2⟩; have HC2 := Lib.hid (heap_keep HC.out HW2); obtain ⟨k0, k1, k2, l0, l1, l2⟩ := cell3 HC2.out)
                  have HC3 := set3 HC2.out (.int .i64 (la : Int)) (.int .i64 (lb : Int)) (.int .i64 2)
                  have HB3 := below_set3 (bch HW.out HW2 HW.out.size) (Nat.le_refl _) (.int .i64 (la : Int)) (.int .i64 (lb : Int)) (.int .i64 2)
                  obtain ⟨m0, m1, m2, _⟩ := cell3 HC3
                  exact bodyPost_ret (v := .tuple #[.slice none 0 0, .agg #[.int .i64 (la : Int), .int .i64 (lb : Int), .int .i64 2]]) (by simp [results, Tryz.results17, go_sem, m0, m1, m2]) rfl ⟨told_bad (by have h := HS.out; rw [HR.out, HL.out] at h; exact h), HB3⟩
                · have k13 := beqF (show ¬ (s[j].toNat : Int) = 13 from fun e => h13 ((u8_of s[j] 13 (by decide)).1 e))
                  have HS := Lib.hid (go_some s j hlt ⟨rows, row, f, 0⟩ ⟨rows, row, f ++ [s[j]], 1⟩ (by simp [Csv.step, h10, h44, h34, h13]))
                  clear h10 h44 h34 h13
                  go_wp2_with fail
                  go_roundw
                  case rel => exact ⟨j + 1, 1, rows, row, f ++ [s[j]], vs, by omega, by go_num, by rw [← string_snoc], rfl, by omega, HI, by rw [← HS.out]; exact HR, HC, HW, by omega, by omega, by first | omega | (simp; omega)⟩
                  case measure => simp [intOf]; omega
        · clear hm2
          by_cases h10 : s[j] = 10
          · have g : (s[j].toNat : Int) = 10 := by rw [h10]; rfl
            have HS := Lib.hid (go_some s j hlt ⟨rows, row, f, 1⟩ ⟨rows ++ [row ++ [f]], [], [], 0⟩ (by simp [Csv.step, h10]))
            clear h10
            go_wp2_with (first
              | (at_builtin; refine wpList_append_own_at _ rfl (.tmp 40) (.tmp 42) 43 rfl (w.heap.size + 1) tFld i0 (.string ⟨#[]⟩) 1 16 Tryz.underlying43 hi hz0 hz1 hz2 rfl (by decide) _ _ _ rfl (HI.out.inner.alloc _) ⟨wr.heap.size, 0, none⟩ 1 1 [strV f] rfl rfl (one_new _ _ _) (by intro u hu; simp at hu; subst hu; rfl) (by unfold maxLen; omega) (by omega) (by have := heap_lt HC.out; simp; omega) ?_; intro v2 w2 ho2 hg2 _ hat2; obtain ⟨a2, n2, cp2, rfl⟩ := own_shape ho2; have HI2 := Lib.hid ((HI.out.below ((Below.refl _ _).alloc (Nat.le_refl _) _)).field ho2 hg2 hat2); have HC2 := Lib.hid ((hg2.block _ (by have := heap_lt HC.out; simp; omega) (fun e => by have := (HI.out.inner.lt _ e.symm).1; omega)).trans (heap_keep HC.out ((Below.refl _ _).alloc (Nat.le_refl _) _))); have hz' := HW.out.size; have HB2 := Lib.hid ((HW.out.alloc (by omega) (.cells #[.string ⟨f.toArray⟩] tFld)).grown hg2 (by simp; omega) (fun k hk => by have := (HI.out.inner.lt _ hk).1; omega)); have hz2' := hg2.size; clear ho2 hg2 hat2)
              | (at_builtin; refine wpList_append_own_at _ rfl (.tmp 46) (.tmp 48) 38 rfl (w.heap.size + 1) tLine j0 (.slice none 0 0) 1 24 Tryz.underlying38 hj hy0 hy1 hy2 rfl (by decide) _ _ _ rfl (HI2.out.outer.alloc _) ⟨w2.heap.size, 0, none⟩ 1 1 [.slice a2 n2 cp2] rfl rfl (one_new _ _ _) (by intro u hu; simp at hu; subst hu; exact own_one HI2.out.inner) (by unfold maxLen; omega) (by omega) (by have := heap_lt HC2.out; simp; omega) ?_; intro v3 w3 ho3 hg3 _ hat3; have HI3 := Lib.hid ((HI2.out.below ((Below.refl _ _).alloc (Nat.le_refl _) _)).rowDone ho3 hg3); have HC3 := Lib.hid ((hg3.block _ (by have := heap_lt HC2.out; simp; omega) (fun e => by have := (HI2.out.outer.lt _ e.symm).1; omega)).trans (heap_keep HC2.out ((Below.refl _ _).alloc (Nat.le_refl _) _))); have HB3 := Lib.hid ((HB2.out.alloc (by have := HB2.out.size; omega) (.cells #[.slice a2 n2 cp2] tLine)).grown hg3 (by have := HB2.out.size; simp; omega) (fun k hk => by have := (HI2.out.outer.lt _ hk).1; omega)); clear ho3 hg3 hat3))
            go_roundw
            case rel => exact ⟨j + 1, 0, rows ++ [row ++ [f]], [], [], vs ++ [_], by omega, by go_num, rfl, rfl, by omega, HI3, by rw [← HS.out]; exact HR, HC3, HB3, by simp; omega, by simp, by simp⟩
            case measure => simp [intOf]; omega
          · by_cases h44 : s[j] = 44
            · have g : (s[j].toNat : Int) = 44 := by rw [h44]; rfl
              have HS := Lib.hid (go_some s j hlt ⟨rows, row, f, 1⟩ ⟨rows, row ++ [f], [], 0⟩ (by simp [Csv.step, h44]))
              clear h10 h44
              go_wp2_with (first
                | (at_builtin; refine wpList_append_own_at _ rfl (.tmp 40) (.tmp 42) 43 rfl (w.heap.size + 1) tFld i0 (.string ⟨#[]⟩) 1 16 Tryz.underlying43 hi hz0 hz1 hz2 rfl (by decide) _ _ _ rfl (HI.out.inner.alloc _) ⟨wr.heap.size, 0, none⟩ 1 1 [strV f] rfl rfl (one_new _ _ _) (by intro u hu; simp at hu; subst hu; rfl) (by unfold maxLen; omega) (by omega) (by have := heap_lt HC.out; simp; omega) ?_; intro v2 w2 ho2 hg2 _ hat2; obtain ⟨a2, n2, cp2, rfl⟩ := own_shape ho2; have HI2 := Lib.hid ((HI.out.below ((Below.refl _ _).alloc (Nat.le_refl _) _)).field ho2 hg2 hat2); have HC2 := Lib.hid ((hg2.block _ (by have := heap_lt HC.out; simp; omega) (fun e => by have := (HI.out.inner.lt _ e.symm).1; omega)).trans (heap_keep HC.out ((Below.refl _ _).alloc (Nat.le_refl _) _))); have hz' := HW.out.size; have HB2 := Lib.hid ((HW.out.alloc (by omega) (.cells #[.string ⟨f.toArray⟩] tFld)).grown hg2 (by simp; omega) (fun k hk => by have := (HI.out.inner.lt _ hk).1; omega)); have hz2' := hg2.size; clear ho2 hg2 hat2)
                | (at_builtin; refine wpList_append_own_at _ rfl (.tmp 46) (.tmp 48) 38 rfl (w.heap.size + 1) tLine j0 (.slice none 0 0) 1 24 Tryz.underlying38 hj hy0 hy1 hy2 rfl (by decide) _ _ _ rfl (HI2.out.outer.alloc _) ⟨w2.heap.size, 0, none⟩ 1 1 [.slice a2 n2 cp2] rfl rfl (one_new _ _ _) (by intro u hu; simp at hu; subst hu; exact own_one HI2.out.inner) (by unfold maxLen; omega) (by omega) (by have := heap_lt HC2.out; simp; omega) ?_; intro v3 w3 ho3 hg3 _ hat3; have HI3 := Lib.hid ((HI2.out.below ((Below.refl _ _).alloc (Nat.le_refl _) _)).rowDone ho3 hg3); have HC3 := Lib.hid ((hg3.block _ (by have := heap_lt HC2.out; simp; omega) (fun e => by have := (HI2.out.outer.lt _ e.symm).1; omega)).trans (heap_keep HC2.out ((Below.refl _ _).alloc (Nat.le_refl _) _))); have HB3 := Lib.hid ((HB2.out.alloc (by have := HB2.out.size; omega) (.cells #[.slice a2 n2 cp2] tLine)).grown hg3 (by have := HB2.out.size; simp; omega) (fun k hk => by have := (HI2.out.outer.lt _ hk).1; omega)); clear ho3 hg3 hat3))
              go_roundw
              case rel => exact ⟨j + 1, 0, rows, row ++ [f], [], vs, by omega, by go_num, rfl, rfl, by omega, HI2, by rw [← HS.out]; exact HR, HC2, HB2, by omega, by simp; omega, by simp⟩
              case measure => simp [intOf]; omega
            · by_cases h34 : s[j] = 34
              · have g : (s[j].toNat : Int) = 34 := by rw [h34]; rfl
                obtain ⟨la, lb, HL, HWH⟩ := refWhere_at s j hs hjs
                have HS := Lib.hid (go_none s j hlt ⟨rows, row, f, 1⟩ (by simp [Csv.step, h34]))
                clear h10 h44 h34
                go_wp2_with (go_at_call 43; refine (HWH.out _ _).mono ?_; rintro e w2 ⟨rfl, HW2⟩; have HC2 := Lib.hid (heap_keep HC.out HW2); obtain ⟨k0, k1, k2, l0, l1, l2⟩ := cell3 HC2.out)
                have HC3 := set3 HC2.out (.int .i64 (la : Int)) (.int .i64 (lb : Int)) (.int .i64 2)
                have HB3 := below_set3 (bch HW.out HW2 HW.out.size) (Nat.le_refl _) (.int .i64 (la : Int)) (.int .i64 (lb : Int)) (.int .i64 2)
                obtain ⟨m0, m1, m2, _⟩ := cell3 HC3
                exact bodyPost_ret (v := .tuple #[.slice none 0 0, .agg #[.int .i64 (la : Int), .int .i64 (lb : Int), .int .i64 2]]) (by simp [results, Tryz.results17, go_sem, m0, m1, m2]) rfl ⟨told_bad (by have h := HS.out; rw [HR.out, HL.out] at h; exact h), HB3⟩
              · have k10 := beqF (show ¬ (s[j].toNat : Int) = 10 from fun e => h10 ((u8_of s[j] 10 (by decide)).1 e))
                have k44 := beqF (show ¬ (s[j].toNat : Int) = 44 from fun e => h44 ((u8_of s[j] 44 (by decide)).1 e))
                have k34 := beqF (show ¬ (s[j].toNat : Int) = 34 from fun e => h34 ((u8_of s[j] 34 (by decide)).1 e))
                by_cases h13 : s[j] = 13
                · have g : (s[j].toNat : Int) = 13 := by rw [h13]; rfl
                  obtain ⟨la, lb, HL, HWH⟩ := refWhere_at s j hs hjs
                  have HS := Lib.hid (go_none s j hlt ⟨rows, row, f, 1⟩ (by simp [Csv.step, h13]))
                  clear k10 k44 k34 h10 h44 h34 h13
                  go_wp2_with (go_at_call 43; refine (HWH.out _ _).mono ?_; rintro e w2 ⟨rfl, HW2⟩; have HC2 := Lib.hid (heap_keep HC.out HW2); obtain ⟨k0, k1, k2, l0, l1, l2⟩ := cell3 HC2.out)
                  have HC3 := set3 HC2.out (.int .i64 (la : Int)) (.int .i64 (lb : Int)) (.int .i64 2)
                  have HB3 := below_set3 (bch HW.out HW2 HW.out.size) (Nat.le_refl _) (.int .i64 (la : Int)) (.int .i64 (lb : Int)) (.int .i64 2)
                  obtain ⟨m0, m1, m2, _⟩ := cell3 HC3
                  exact bodyPost_ret (v := .tuple #[.slice none 0 0, .agg #[.int .i64 (la : Int), .int .i64 (lb : Int), .int .i64 2]]) (by simp [results, Tryz.results17, go_sem, m0, m1, m2]) rfl ⟨told_bad (by have h := HS.out; rw [HR.out, HL.out] at h; exact h), HB3⟩
                · have k13 := beqF (show ¬ (s[j].toNat : Int) = 13 from fun e => h13 ((u8_of s[j] 13 (by decide)).1 e))
                  have HS := Lib.hid (go_some s j hlt ⟨rows, row, f, 1⟩ ⟨rows, row, f ++ [s[j]], 1⟩ (by simp [Csv.step, h10, h44, h34, h13]))
                  clear h10 h44 h34 h13
                  go_wp2_with fail
                  go_roundw
                  case rel => exact ⟨j + 1, 1, rows, row, f ++ [s[j]], vs, by omega, by go_num, by rw [← string_snoc], rfl, by omega, HI, by rw [← HS.out]; exact HR, HC, HW, by omega, by omega, by first | omega | (simp; omega)⟩
                  case measure => simp [intOf]; omega
        · clear hm2
          by_cases h10 : s[j] = 10
          · have g : (s[j].toNat : Int) = 10 := by rw [h10]; rfl
            have HS := Lib.hid (go_some s j hlt ⟨rows, row, f, 3⟩ ⟨rows ++ [row ++ [f]], [], [], 0⟩ (by simp [Csv.step, h10]))
            clear h10
            go_wp2_with (first
              | (at_builtin; refine wpList_append_own_at _ rfl (.tmp 40) (.tmp 42) 43 rfl (w.heap.size + 1) tFld i0 (.string ⟨#[]⟩) 1 16 Tryz.underlying43 hi hz0 hz1 hz2 rfl (by decide) _ _ _ rfl (HI.out.inner.alloc _) ⟨wr.heap.size, 0, none⟩ 1 1 [strV f] rfl rfl (one_new _ _ _) (by intro u hu; simp at hu; subst hu; rfl) (by unfold maxLen; omega) (by omega) (by have := heap_lt HC.out; simp; omega) ?_; intro v2 w2 ho2 hg2 _ hat2; obtain ⟨a2, n2, cp2, rfl⟩ := own_shape ho2; have HI2 := Lib.hid ((HI.out.below ((Below.refl _ _).alloc (Nat.le_refl _) _)).field ho2 hg2 hat2); have HC2 := Lib.hid ((hg2.block _ (by have := heap_lt HC.out; simp; omega) (fun e => by have := (HI.out.inner.lt _ e.symm).1; omega)).trans (heap_keep HC.out ((Below.refl _ _).alloc (Nat.le_refl _) _))); have hz' := HW.out.size; have HB2 := Lib.hid ((HW.out.alloc (by omega) (.cells #[.string ⟨f.toArray⟩] tFld)).grown hg2 (by simp; omega) (fun k hk => by have := (HI.out.inner.lt _ hk).1; omega)); have hz2' := hg2.size; clear ho2 hg2 hat2)
              | (at_builtin; refine wpList_append_own_at _ rfl (.tmp 46) (.tmp 48) 38 rfl (w.heap.size + 1) tLine j0 (.slice none 0 0) 1 24 Tryz.underlying38 hj hy0 hy1 hy2 rfl (by decide) _ _ _ rfl (HI2.out.outer.alloc _) ⟨w2.heap.size, 0, none⟩ 1 1 [.slice a2 n2 cp2] rfl rfl (one_new _ _ _) (by intro u hu; simp at hu; subst hu; exact own_one HI2.out.inner) (by unfold maxLen; omega) (by omega) (by have := heap_lt HC2.out; simp; omega) ?_; intro v3 w3 ho3 hg3 _ hat3; have HI3 := Lib.hid ((HI2.out.below ((Below.refl _ _).alloc (Nat.le_refl _) _)).rowDone ho3 hg3); have HC3 := Lib.hid ((hg3.block _ (by have := heap_lt HC2.out; simp; omega) (fun e => by have := (HI2.out.outer.lt _ e.symm).1; omega)).trans (heap_keep HC2.out ((Below.refl _ _).alloc (Nat.le_refl _) _))); have HB3 := Lib.hid ((HB2.out.alloc (by have := HB2.out.size; omega) (.cells #[.slice a2 n2 cp2] tLine)).grown hg3 (by have := HB2.out.size; simp; omega) (fun k hk => by have := (HI2.out.outer.lt _ hk).1; omega)); clear ho3 hg3 hat3))
            go_roundw
            case rel => exact ⟨j + 1, 0, rows ++ [row ++ [f]], [], [], vs ++ [_], by omega, by go_num, rfl, rfl, by omega, HI3, by rw [← HS.out]; exact HR, HC3, HB3, by simp; omega, by simp, by simp⟩
            case measure => simp [intOf]; omega
          · by_cases h44 : s[j] = 44
            · have g : (s[j].toNat : Int) = 44 := by rw [h44]; rfl
              have HS := Lib.hid (go_some s j hlt ⟨rows, row, f, 3⟩ ⟨rows, row ++ [f], [], 0⟩ (by simp [Csv.step, h44]))
              clear h10 h44
              go_wp2_with (first
                | (at_builtin; refine wpList_append_own_at _ rfl (.tmp 40) (.tmp 42) 43 rfl (w.heap.size + 1) tFld i0 (.string ⟨#[]⟩) 1 16 Tryz.underlying43 hi hz0 hz1 hz2 rfl (by decide) _ _ _ rfl (HI.out.inner.alloc _) ⟨wr.heap.size, 0, none⟩ 1 1 [strV f] rfl rfl (one_new _ _ _) (by intro u hu; simp at hu; subst hu; rfl) (by unfold maxLen; omega) (by omega) (by have := heap_lt HC.out; simp; omega) ?_; intro v2 w2 ho2 hg2 _ hat2; obtain ⟨a2, n2, cp2, rfl⟩ := own_shape ho2; have HI2 := Lib.hid ((HI.out.below ((Below.refl _ _).alloc (Nat.le_refl _) _)).field ho2 hg2 hat2); have HC2 := Lib.hid ((hg2.block _ (by have := heap_lt HC.out; simp; omega) (fun e => by have := (HI.out.inner.lt _ e.symm).1; omega)).trans (heap_keep HC.out ((Below.refl _ _).alloc (Nat.le_refl _) _))); have hz' := HW.out.size; have HB2 := Lib.hid ((HW.out.alloc (by omega) (.cells #[.string ⟨f.toArray⟩] tFld)).grown hg2 (by simp; omega) (fun k hk => by have := (HI.out.inner.lt _ hk).1; omega)); have hz2' := hg2.size; clear ho2 hg2 hat2)
                | (at_builtin; refine wpList_append_own_at _ rfl (.tmp 46) (.tmp 48) 38 rfl (w.heap.size + 1) tLine j0 (.slice none 0 0) 1 24 Tryz.underlying38 hj hy0 hy1 hy2 rfl (by decide) _ _ _ rfl (HI2.out.outer.alloc _) ⟨w2.heap.size, 0, none⟩ 1 1 [.slice a2 n2 cp2] rfl rfl (one_new _ _ _) (by intro u hu; simp at hu; subst hu; exact own_one HI2.out.inner) (by unfold maxLen; omega) (by omega) (by have := heap_lt HC2.out; simp; omega) ?_; intro v3 w3 ho3 hg3 _ hat3; have HI3 := Lib.hid ((HI2.out.below ((Below.refl _ _).alloc (Nat.le_refl _) _)).rowDone ho3 hg3); have HC3 := Lib.hid ((hg3.block _ (by have := heap_lt HC2.out; simp; omega) (fun e => by have := (HI2.out.outer.lt _ e.symm).1; omega)).trans (heap_keep HC2.out ((Below.refl _ _).alloc (Nat.le_refl _) _))); have HB3 := Lib.hid ((HB2.out.alloc (by have := HB2.out.size; omega) (.cells #[.slice a2 n2 cp2] tLine)).grown hg3 (by have := HB2.out.size; simp; omega) (fun k hk => by have := (HI2.out.outer.lt _ hk).1; omega)); clear ho3 hg3 hat3))
              go_roundw
              case rel => exact ⟨j + 1, 0, rows, row ++ [f], [], vs, by omega, by go_num, rfl, rfl, by omega, HI2, by rw [← HS.out]; exact HR, HC2, HB2, by omega, by simp; omega, by simp⟩
              case measure => simp [intOf]; omega
            · by_cases h34 : s[j] = 34
              · have g : (s[j].toNat : Int) = 34 := by rw [h34]; rfl
                have HS := Lib.hid (go_some s j hlt ⟨rows, row, f, 3⟩ ⟨rows, row, f ++ [34], 2⟩ (by simp [Csv.step, h34]))
                clear h10 h44 h34
                go_wp2_with fail
                go_roundw
                case rel => exact ⟨j + 1, 2, rows, row, f ++ [34], vs, by omega, by go_num, by first | rfl | (congr 1), rfl, by omega, HI, by rw [← HS.out]; exact HR, HC, HW, by omega, by omega, by first | omega | (simp; omega)⟩
                case measure => simp [intOf]; omega
              · have k10 := beqF (show ¬ (s[j].toNat : Int) = 10 from fun e => h10 ((u8_of s[j] 10 (by decide)).1 e))
                have k44 := beqF (show ¬ (s[j].toNat : Int) = 44 from fun e => h44 ((u8_of s[j] 44 (by decide)).1 e))
                have k34 := beqF (show ¬ (s[j].toNat : Int) = 34 from fun e => h34 ((u8_of s[j] 34 (by decide)).1 e))
                by_cases h13 : s[j] = 13
                · have g : (s[j].toNat : Int) = 13 := by rw [h13]; rfl
                  obtain ⟨la, lb, HL, HWH⟩ := refWhere_at s j hs hjs
                  have HS := Lib.hid (go_none s j hlt ⟨rows, row, f, 3⟩ (by simp [Csv.step, h13]))
                  clear k10 k44 k34 h10 h44 h34 h13
                  go_wp2_with (go_at_call 43; refine (HWH.out _ _).mono ?_; rintro e w2 ⟨rfl, HW2⟩; have HC2 := Lib.hid (heap_keep HC.out HW2); obtain ⟨k0, k1, k2, l0, l1, l2⟩ := cell3 HC2.out)
                  have HC3 := set3 HC2.out (.int .i64 (la : Int)) (.int .i64 (lb : Int)) (.int .i64 2)
                  have HB3 := below_set3 (bch HW.out HW2 HW.out.size) (Nat.le_refl _) (.int .i64 (la : Int)) (.int .i64 (lb : Int)) (.int .i64 2)
                  obtain ⟨m0, m1, m2, _⟩ := cell3 HC3
                  exact bodyPost_ret (v := .tuple #[.slice none 0 0, .agg #[.int .i64 (la : Int), .int .i64 (lb : Int), .int .i64 2]]) (by simp [results, Tryz.results17, go_sem, m0, m1, m2]) rfl ⟨told_bad (by have h := HS.out; rw [HR.out, HL.out] at h; exact h), HB3⟩
                · have k13 := beqF (show ¬ (s[j].toNat : Int) = 13 from fun e => h13 ((u8_of s[j] 13 (by decide)).1 e))
                  obtain ⟨la, lb, HL, HWH⟩ := refWhere_at s j hs hjs
                  have HS := Lib.hid (go_none s j hlt ⟨rows, row, f, 3⟩ (by simp [Csv.step, h10, h44, h34, h13]))
                  clear h10 h44 h34 h13
                  go_wp2_with (go_at_call 43; refine (HWH.out _ _).mono ?_; rintro e w2 ⟨rfl, HW2⟩; have HC2 := Lib.hid (heap_keep HC.out HW2); obtain ⟨k0, k1, k2, l0, l1, l2⟩ := cell3 HC2.out)
                  have HC3 := set3 HC2.out (.int .i64 (la : Int)) (.int .i64 (lb : Int)) (.int .i64 2)
                  have HB3 := below_set3 (bch HW.out HW2 HW.out.size) (Nat.le_refl _) (.int .i64 (la : Int)) (.int .i64 (lb : Int)) (.int .i64 2)
                  obtain ⟨m0, m1, m2, _⟩ := cell3 HC3
                  exact bodyPost_ret (v := .tuple #[.slice none 0 0, .agg #[.int .i64 (la : Int), .int .i64 (lb : Int), .int .i64 2]]) (by simp [results, Tryz.results17, go_sem, m0, m1, m2]) rfl ⟨told_bad (by have h := HS.out; rw [HR.out, HL.out] at h; exact h), HB3⟩
    · obtain rfl : j = s.size := by omega
      by_cases hm2 : m = 2
      · subst hm2
        obtain ⟨la, lb, HL, HWH⟩ := refWhere_at s s.size hs (Nat.le_refl _)
        rw [take_all] at HL
        have HS := Lib.hid (show R = ([], la, lb, 2) by rw [← HR.out, go_end s s.size (by omega), show Csv.fin s.data.toList ⟨rows, row, f, 2⟩ = 2 from rfl, HL.out]; rfl)
        go_wp2_with (go_at_call 43; refine (HWH.out _ _).mono ?_; rintro e w2 ⟨rfl, HW2⟩; have HC2 := Lib.hid (heap_keep HC.out HW2); obtain ⟨k0, k1, k2, l0, l1, l2⟩ := cell3 HC2.out)
        have HC3 := set3 HC2.out (.int .i64 (la : Int)) (.int .i64 (lb : Int)) (.int .i64 2)
        have HB3 := below_set3 (bch HW.out HW2 HW.out.size) (Nat.le_refl _) (.int .i64 (la : Int)) (.int .i64 (lb : Int)) (.int .i64 2)
        obtain ⟨m0, m1, m2, _⟩ := cell3 HC3
        exact bodyPost_ret (v := .tuple #[.slice none 0 0, .agg #[.int .i64 (la : Int), .int .i64 (lb : Int), .int .i64 2]]) (by simp [results, Tryz.results17, go_sem, m0, m1, m2]) rfl ⟨told_bad HS.out, HB3⟩
      · have hm2' := beqF (show ¬ (m : Int) = 2 by omega)
        by_cases hz : s.size = 0
        · have hz' : ¬ ((0 : Int) < (s.size : Int)) := by omega
          have hnil : s.data.toList = [] := List.eq_nil_of_length_eq_zero (by simpa using hz)
          have hfin : Csv.fin s.data.toList ⟨rows, row, f, m⟩ = 0 := by simp [Csv.fin, hm2, hnil]
          have HS := Lib.hid (show R = (rows, 0, 0, 0) by rw [← HR.out, go_end s s.size (by omega), hfin]; rfl)
          clear hfin hnil hz hm2
          go_wp2_with fail
          have HC4 := set3 HC.out (.int .i64 0) (.int .i64 0) (.int .i64 0)
          have HB4 := below_set3 HW.out (Nat.le_refl _) (.int .i64 0) (.int .i64 0) (.int .i64 0)
          have HI4 := (((HI.out.set (p := ⟨w.heap.size, 0, none⟩) (by simp) (.int .i64 0)).set (p := ⟨w.heap.size, 1, none⟩) (by simp) (.int .i64 0)).set (p := ⟨w.heap.size, 2, none⟩) (by simp) (.int .i64 0)).reads
          obtain ⟨m0, m1, m2, _⟩ := cell3 HC4
          exact bodyPost_ret (v := .tuple #[u4, .agg #[.int .i64 0, .int .i64 0, .int .i64 0]]) (by simp [results, Tryz.results17, go_sem, m0, m1, m2]) rfl ⟨⟨_, by rw [HS.out]; rfl, by rw [HS.out]; exact HI4⟩, HB4⟩
        · have hz1 : 0 < s.size := by omega
          have hz' : (0 : Int) < (s.size : Int) := by omega
          by_cases hm0 : m = 0
          · subst hm0
            by_cases hc : s[s.size - 1]'(by omega) = 10
            · have hfin : Csv.fin s.data.toList ⟨rows, row, f, 0⟩ = 0 := by simp [Csv.fin, last_eq s hz1, hc]
              have q1 := bneF (show ((s[s.size - 1]'(by omega)).toNat : Int) = 10 by rw [hc]; rfl)
              have HS := Lib.hid (show R = (rows, 0, 0, 0) by rw [← HR.out, go_end s s.size (by omega), hfin]; rfl)
              clear hfin hc hm2
              go_wp2_with fail
              have HC4 := set3 HC.out (.int .i64 0) (.int .i64 0) (.int .i64 0)
              have HB4 := below_set3 HW.out (Nat.le_refl _) (.int .i64 0) (.int .i64 0) (.int .i64 0)
              have HI4 := (((HI.out.set (p := ⟨w.heap.size, 0, none⟩) (by simp) (.int .i64 0)).set (p := ⟨w.heap.size, 1, none⟩) (by simp) (.int .i64 0)).set (p := ⟨w.heap.size, 2, none⟩) (by simp) (.int .i64 0)).reads
              obtain ⟨m0, m1, m2, _⟩ := cell3 HC4
              exact bodyPost_ret (v := .tuple #[u4, .agg #[.int .i64 0, .int .i64 0, .int .i64 0]]) (by simp [results, Tryz.results17, go_sem, m0, m1, m2]) rfl ⟨⟨_, by rw [HS.out]; rfl, by rw [HS.out]; exact HI4⟩, HB4⟩
            · have hfin : Csv.fin s.data.toList ⟨rows, row, f, 0⟩ = 1 := by simp [Csv.fin, last_eq s hz1, hc, ne_nil s hz1]
              have q1 := bneT (show ¬ ((s[s.size - 1]'(by omega)).toNat : Int) = 10 from fun e => hc ((u8_of _ 10 (by decide)).1 e))
              obtain ⟨la, lb, HL, HWH⟩ := refWhere_at s s.size hs (Nat.le_refl _)
              rw [take_all] at HL
              have HS := Lib.hid (show R = ([], la, lb, 1) by rw [← HR.out, go_end s s.size (by omega), hfin, HL.out]; rfl)
              clear hfin hc hm2
              go_wp2_with (go_at_call 43; refine (HWH.out _ _).mono ?_; rintro e w2 ⟨rfl, HW2⟩; have HC2 := Lib.hid (heap_keep HC.out HW2); obtain ⟨k0, k1, k2, l0, l1, l2⟩ := cell3 HC2.out)
              have HC3 := set3 HC2.out (.int .i64 (la : Int)) (.int .i64 (lb : Int)) (.int .i64 1)
              have HB3 := below_set3 (bch HW.out HW2 HW.out.size) (Nat.le_refl _) (.int .i64 (la : Int)) (.int .i64 (lb : Int)) (.int .i64 1)
              obtain ⟨m0, m1, m2, _⟩ := cell3 HC3
              exact bodyPost_ret (v := .tuple #[.slice none 0 0, .agg #[.int .i64 (la : Int), .int .i64 (lb : Int), .int .i64 1]]) (by simp [results, Tryz.results17, go_sem, m0, m1, m2]) rfl ⟨told_bad HS.out, HB3⟩
          · have hfin : Csv.fin s.data.toList ⟨rows, row, f, m⟩ = 1 := by simp [Csv.fin, hm2, hm0, ne_nil s hz1]
            have q1 := bneT (show ¬ (m : Int) = 0 by omega)
            obtain ⟨la, lb, HL, HWH⟩ := refWhere_at s s.size hs (Nat.le_refl _)
            rw [take_all] at HL
            have HS := Lib.hid (show R = ([], la, lb, 1) by rw [← HR.out, go_end s s.size (by omega), hfin, HL.out]; rfl)
            clear hfin hm0 hm2
            go_wp2_with (go_at_call 43; refine (HWH.out _ _).mono ?_; rintro e w2 ⟨rfl, HW2⟩; have HC2 := Lib.hid (heap_keep HC.out HW2); obtain ⟨k0, k1, k2, l0, l1, l2⟩ := cell3 HC2.out)
            have HC3 := set3 HC2.out (.int .i64 (la : Int)) (.int .i64 (lb : Int)) (.int .i64 1)
            have HB3 := below_set3 (bch HW.out HW2 HW.out.size) (Nat.le_refl _) (.int .i64 (la : Int)) (.int .i64 (lb : Int)) (.int .i64 1)
            obtain ⟨m0, m1, m2, _⟩ := cell3 HC3
            exact bodyPost_ret (v := .tuple #[.slice none 0 0, .agg #[.int .i64 (la : Int), .int .i64 (lb : Int), .int .i64 1]]) (by simp [results, Tryz.results17, go_sem, m0, m1, m2]) rfl ⟨told_bad HS.out, HB3⟩
end Go.Proofs.YtgpjbigelblanaaGreatDoor
/- The document's Number, Wide, head, read, tail, middle of the carrier's files: what they compute. -/
namespace Go.Proofs.YtgpjbigelblanaaGreatDoor
open Go.RowKit Go.Maps Key Mon Mf Rw

namespace Sk
def numI (s : List UInt8) (b : Int) : Int := if numB s 0 b = true then (getM s).1 else -1
theorem numI_ok {s : List UInt8} {a b : Int} (ha : a = 0 ∨ a = 1) (h : numB s a b = true) : numI s b = (getM s).1 ∧ a ≤ (getM s).1 ∧ (getM s).1 ≤ b := by
  unfold numB at h
  simp only [Bool.and_eq_true, decide_eq_true_eq] at h
  unfold numI numB
  rw [if_pos (by simp only [Bool.and_eq_true, decide_eq_true_eq]; exact ⟨⟨h.1.1, by omega⟩, h.2⟩)]
  exact ⟨rfl, h.1.2, h.2⟩
theorem numI_no {s : List UInt8} {b : Int} (h : numB s 0 b = false) : numI s b = -1 := by unfold numI; rw [if_neg (by rw [h]; decide)]
theorem numI_low {s : List UInt8} {b : Int} (h : numB s 1 b = false) : numI s b < 1 := by
  unfold numI
  split
  · rename_i h2
    unfold numB at h h2
    simp only [Bool.and_eq_true, decide_eq_true_eq] at h2
    rw [h2.1.1] at h
    simp only [Bool.true_and, Bool.and_eq_false_iff, decide_eq_false_iff_not] at h
    omega
  · omega
end Sk
set_option maxHeartbeats 1000000 in
theorem rnumber_any (s : ByteArray) (b : Int) (w : World) : Calls Tryz.prog 40 #[.string s, .int .i64 b] w fun e w' => e = .returned (.int .i64 (Sk.numI s.data.toList b)) ∧ Below w.heap.size w w' := by
  obtain ⟨x, y, hR⟩ : ∃ x y, getM s.data.toList = (x, y) := ⟨_, _, rfl⟩
  have HG := Lib.hid (refGet_any s w)
  have hI : Sk.numI s.data.toList b = if (y && decide (0 ≤ x) && decide (x ≤ b)) = true then x else -1 := by unfold Sk.numI Sk.numB; rw [hR]
  rw [hR] at HG
  unfold pairV at HG
  rw [hI]
  obtain ⟨a, ha⟩ : ∃ a, (if (y && decide (0 ≤ x) && decide (x ≤ b)) = true then x else -1) = a := ⟨_, rfl⟩
  rw [ha]
  have HAA := Lib.hid ha
  clear hR hI ha
  cases y with
  | false =>
    have HI := Lib.hid (show a = -1 by rw [← HAA.out]; simp)
    go_enter Tryz.func40, Tryz.ntmps40
    go_wp2_with fail
    refine HG.out.mono ?_
    rintro e w1 ⟨rfl, hb⟩
    have HB := Lib.hid hb
    clear hb
    go_wp2_with fail
    go_ret
    exact ⟨by rw [HI.out]; rfl, HB.out⟩
  | true =>
    by_cases h1 : x < 0
    · have HI := Lib.hid (show a = -1 by rw [← HAA.out, if_neg (by simp; omega)])
      have q1 := decide_eq_true h1
      go_enter Tryz.func40, Tryz.ntmps40
      go_wp2_with fail
      refine HG.out.mono ?_
      rintro e w1 ⟨rfl, hb⟩
      have HB := Lib.hid hb
      clear hb
      go_wp2_with fail
      go_ret
      exact ⟨by rw [HI.out]; rfl, HB.out⟩
    · have q1 := decide_eq_false h1
      by_cases h2 : b < x
      · have HI := Lib.hid (show a = -1 by rw [← HAA.out, if_neg (by simp; omega)])
        have q2 := decide_eq_true h2
        go_enter Tryz.func40, Tryz.ntmps40
        go_wp2_with fail
        refine HG.out.mono ?_
        rintro e w1 ⟨rfl, hb⟩
        have HB := Lib.hid hb
        clear hb
        go_wp2_with fail
        go_ret
        exact ⟨by rw [HI.out]; rfl, HB.out⟩
      · have HI := Lib.hid (show a = x by rw [← HAA.out, if_pos (by simp; omega)])
        have q2 := decide_eq_false h2
        go_enter Tryz.func40, Tryz.ntmps40
        go_wp2_with fail
        refine HG.out.mono ?_
        rintro e w1 ⟨rfl, hb⟩
        have HB := Lib.hid hb
        clear hb
        go_wp2_with fail
        go_ret
        exact ⟨by rw [HI.out]; rfl, HB.out⟩
/-- How wide a row should be. -/
theorem rwide_any (A : Option Addr) (n c k : Nat) (w : World) (hn : n ≤ 1000000) (hk : k ≤ 1000) (m : Int) (hm : m = if n ≠ k then ((min n k + 1 : Nat) : Int) else 0) : Calls Tryz.prog 52 #[.slice A n c, .int .i64 (k : Int)] w fun e w' => e = .returned (.int .i64 m) ∧ w = w' := by
  by_cases h1 : n < k
  · have h1I : (n : Int) < k := by omega
    have HM := Lib.hid (show m = (n : Int) + 1 by rw [hm, if_pos (by omega)]; omega)
    clear hm h1
    go_enter Tryz.func52, Tryz.ntmps52
    go_wp2_with fail
    go_ret
    exact ⟨by rw [HM.out]; rfl, rfl⟩
  · have h1I : ¬ (n : Int) < k := by omega
    by_cases h2 : k < n
    · have h2I : (k : Int) < n := by omega
      have HM := Lib.hid (show m = (k : Int) + 1 by rw [hm, if_pos (by omega)]; omega)
      clear hm h1 h2
      go_enter Tryz.func52, Tryz.ntmps52
      go_wp2_with fail
      go_ret
      exact ⟨by rw [HM.out]; rfl, rfl⟩
    · have h2I : ¬ (k : Int) < n := by omega
      have HM := Lib.hid (show m = 0 by rw [hm, if_neg (by omega)])
      clear hm h1 h2
      go_enter Tryz.func52, Tryz.ntmps52
      go_wp2_with fail
      go_ret
      exact ⟨by rw [HM.out]; rfl, rfl⟩
def MHeadR (r : Mf.Line) (e : Ending) : Prop := match Mf.first r with | .inl _ => e = .returned (.tuple #[.int .i64 0, .int .i64 0]) | .inr x => e = .returned (.tuple #[.int .i64 (x.1 : Int), .int .i64 (x.2 : Int)])
set_option linter.unusedSimpArgs false in
set_option linter.unusedVariables false in
set_option maxRecDepth 100000 in
set_option maxHeartbeats 2000000 in
theorem mrhead_any (v : Value) (r : Mf.Line) (w : World) (hv : Strs w w.heap.size v r) (h0 : r ≠ []) (hl : r.length ≤ 1000000) : Calls Tryz.prog 51 #[v] w fun e w' => MHeadR r e ∧ Below w.heap.size w w' := by
  obtain ⟨A, c, rfl⟩ := hv.shape
  obtain ⟨f0, hf0⟩ : ∃ f0, r[0]? = some f0 := ⟨_, List.getElem?_eq_getElem (List.length_pos_iff.2 h0)⟩
  have hlen : 0 < r.length := List.length_pos_iff.2 h0
  have hlenI : (0 : Int) < r.length := by omega
  have hhead : r.head? = some f0 := by rw [List.head?_eq_getElem?]; exact hf0
  obtain ⟨b, o, rfl, hbl, _⟩ := hv.at (Below.refl _ _) hf0
  have HW := Lib.hid (fun W k f (hb : Below w.heap.size w W) (hf : r[k]? = some f) => (show W.cell? ⟨b, o + k, none⟩ = some (.string ⟨f.toArray⟩) by obtain ⟨b', o', e, _, h⟩ := hv.at hb hf; cases e; exact h))
  clear hv h0
  have c0 := HW.out w 0 f0 (Below.refl _ _) hf0
  rw [Nat.add_zero] at c0
  clear hf0
  by_cases hh : f0 = Mf.wHead
  · subst hh
    have hq := text_eq (rfl : Mf.wHead = Mf.wHead)
    by_cases hl2 : r.length = 2
    · have hno : ¬ r.length ≠ 2 := by omega
      obtain ⟨f1, hf1⟩ : ∃ f1, r[1]? = some f1 := ⟨_, List.getElem?_eq_getElem (by omega)⟩
      have hlI : (1 : Int) < r.length := by omega
      have HWD := Lib.hid (fun W => rwide_any (some ⟨b, o, none⟩) r.length c 2 W (by omega) (by omega) 0 (by rw [if_neg hno]))
      have HN := Lib.hid (fun W => rnumber_any ⟨f1.toArray⟩ 1073741824 W)
      rw [show (⟨f1.toArray⟩ : ByteArray).data.toList = f1 by simp] at HN
      have c1 := HW.out w 1 f1 (Below.refl _ _) hf1
      cases hz : Sk.numB f1 1 1073741824 with
      | true =>
        obtain ⟨g1, g2, g3⟩ := Sk.numI_ok (.inr rfl) hz
        have hF := Lib.hid (show Mf.first r = .inl (getM f1).1 by unfold Mf.first; rw [if_neg (by rw [hhead]; simp), if_neg hno, List.getD_eq_getElem?_getD, hf1, Option.getD_some, hz, if_pos rfl])
        rw [g1] at HN
        obtain ⟨x, hx⟩ : ∃ x, (getM f1).1 = x := ⟨_, rfl⟩
        rw [hx] at HN g2
        have hx1 : ¬ x < 1 := by omega
        clear hno hf1 hhead hl2 hz g1 g3 hx g2
        go_enter Tryz.func51, Tryz.ntmps51
        go_wp2_with fail
        refine (HWD.out _).mono ?_
        rintro e w1 ⟨rfl, hb⟩; subst hb
        go_wp2_with fail
        refine (HN.out _).mono ?_
        rintro e w2 ⟨rfl, hb⟩
        have HB := Lib.hid hb
        clear hb
        go_wp2_with fail
        go_ret2
        exact ⟨by unfold MHeadR; rw [hF.out]; rfl, HB.out⟩
      | false =>
        have g1 := Sk.numI_low hz
        have hF := Lib.hid (show Mf.first r = .inr (2, 3) by unfold Mf.first; rw [if_neg (by rw [hhead]; simp), if_neg hno, List.getD_eq_getElem?_getD, hf1, Option.getD_some, hz, if_neg (by decide)])
        obtain ⟨x, hx⟩ : ∃ x, Sk.numI f1 1073741824 = x := ⟨_, rfl⟩
        rw [hx] at HN g1
        clear hno hf1 hhead hl2 hz hx
        go_enter Tryz.func51, Tryz.ntmps51
        go_wp2_with fail
        refine (HWD.out _).mono ?_
        rintro e w1 ⟨rfl, hb⟩; subst hb
        go_wp2_with fail
        refine (HN.out _).mono ?_
        rintro e w2 ⟨rfl, hb⟩
        have HB := Lib.hid hb
        clear hb
        go_wp2_with fail
        go_ret2
        exact ⟨by unfold MHeadR; rw [hF.out]; rfl, HB.out⟩
    · obtain ⟨m, hm⟩ : ∃ m : Int, m = ((min r.length 2 + 1 : Nat) : Int) := ⟨_, rfl⟩
      have HWD := Lib.hid (fun W => rwide_any (some ⟨b, o, none⟩) r.length c 2 W (by omega) (by omega) m (by rw [if_pos hl2]; exact hm))
      have hF := Lib.hid (show Mf.first r = .inr (min r.length 2 + 1, 1) by unfold Mf.first; rw [if_neg (by rw [hhead]; simp), if_pos hl2])
      have hm0 : 0 < m := by omega
      have HMM := Lib.hid hm
      clear hhead hl2 hm
      go_enter Tryz.func51, Tryz.ntmps51
      go_wp2_with fail
      refine (HWD.out _).mono ?_
      rintro e w1 ⟨rfl, hb⟩; subst hb
      go_wp2_with fail
      refine (HWD.out _).mono ?_
      rintro e w1 ⟨rfl, hb⟩; subst hb
      go_wp2_with fail
      go_ret2
      exact ⟨by unfold MHeadR; rw [hF.out, HMM.out]; rfl, Below.refl _ _⟩
  · have hF := Lib.hid (show Mf.first r = .inr (1, 7) by unfold Mf.first; rw [if_pos (by rw [hhead]; simpa using hh)])
    have hq := text_ne hh
    unfold Mf.wHead at hq
    clear hh
    go_enter Tryz.func51, Tryz.ntmps51
    go_wp2_with fail
    go_ret2
    exact ⟨by unfold MHeadR; rw [hF.out]; rfl, Below.refl _ _⟩
namespace Mf
/-- What a cell says, in the document's numbers: -1: nothing that may be. -/
def readI (t : List UInt8) : Int × Int := match cellR t with
  | none => (-1, 0)
  | some x => x
theorem readI_none {t : List UInt8} (h : cellR t = none) : readI t = (-1, 0) := by unfold readI; rw [h]
theorem readI_some {t : List UInt8} {x : Say} (h : cellR t = some x) : readI t = x := by unfold readI; rw [h]
end Mf
theorem ext_front (t : List UInt8) (k : Nat) : (Value.string ((⟨t.toArray⟩ : ByteArray).extract 0 k)) = .string ⟨(t.take k).toArray⟩ := by
  have h := extract_take ⟨t.toArray⟩ 0 k
  rw [Nat.zero_add] at h
  rw [h]
  simp
theorem ext_back (t : List UInt8) (k n : Nat) (h : t.length = k + n) : (Value.string ((⟨t.toArray⟩ : ByteArray).extract k t.length)) = .string ⟨(t.drop k).toArray⟩ := by
  have h2 := extract_take ⟨t.toArray⟩ k n
  rw [← h] at h2
  rw [h2]
  have : ((t.drop k).take n) = t.drop k := List.take_of_length_le (by rw [List.length_drop]; omega)
  simp [this]
set_option linter.unusedSimpArgs false in
set_option linter.unusedVariables false in
set_option maxRecDepth 100000 in
set_option maxHeartbeats 4000000 in
theorem mrread_any (t : List UInt8) (w : World) (ht : t.length ≤ 1000000) : Calls Tryz.prog 82 #[.string ⟨t.toArray⟩] w fun e w' => e = .returned (.tuple #[.int .i64 (Mf.readI t).1, .int .i64 (Mf.readI t).2]) ∧ Below w.heap.size w w' := by
  by_cases h1 : t = wNo
  · have hq := text_eq h1
    unfold wNo at hq
    have HR := Lib.hid (show Mf.readI t = (0, 0) by unfold Mf.readI cellR; rw [if_pos h1])
    clear h1
    go_enter Tryz.func82, Tryz.ntmps82
    go_wp2_with fail
    go_ret2
    exact ⟨by rw [HR.out]; rfl, Below.refl _ _⟩
  · have hq := text_ne h1
    unfold wNo at hq
    by_cases h2 : t = Sk.wRef
    · have hq2 := text_eq h2
      unfold Sk.wRef at hq2
      have HR := Lib.hid (show Mf.readI t = (2, 0) by unfold Mf.readI cellR; rw [if_neg h1, if_pos h2])
      clear h1 h2
      go_enter Tryz.func82, Tryz.ntmps82
      go_wp2_with fail
      go_ret2
      exact ⟨by rw [HR.out]; rfl, Below.refl _ _⟩
    · have hq2 := text_ne h2
      unfold Sk.wRef at hq2
      have hsz : (⟨t.toArray⟩ : ByteArray).size = t.length := bytes_size t
      by_cases h6 : t.length < 6
      · have h6I : (t.length : Int) < 6 := by omega
        have HR := Lib.hid (show Mf.readI t = (-1, 0) by
          unfold Mf.readI cellR
          rw [if_neg h1, if_neg h2, if_neg (by
            rintro ⟨a, b⟩
            have hl := congrArg List.length a
            rw [List.length_take] at hl
            have hd5 : wDone.length = 5 := rfl
            have : t.drop 5 = [] := List.drop_of_length_le (by omega)
            rw [this] at b
            exact absurd b (by decide))])
        clear h1 h2 h6
        go_enter Tryz.func82, Tryz.ntmps82
        go_wp2_with fail
        go_ret2
        exact ⟨by rw [HR.out]; rfl, Below.refl _ _⟩
      · have h6I : ¬ (t.length : Int) < 6 := by omega
        have h5I : (5 : Int) ≤ t.length := by omega
        have hef := ext_front t 5
        have heb := ext_back t 5 (t.length - 5) (by omega)
        obtain ⟨V, hV⟩ : ∃ V, t.take 5 = V := ⟨_, rfl⟩
        obtain ⟨U, hU⟩ : ∃ U, t.drop 5 = U := ⟨_, rfl⟩
        rw [hV] at hef
        rw [hU] at heb
        have hvl : ((⟨t.toArray⟩ : ByteArray).extract 0 5).toList = V := by
          rw [Lib.toList_data]
          injection hef with h
          rw [h]
        have HEF := Lib.hid hef; have HEB := Lib.hid heb
        by_cases hd : V = wDone
        · have hq3 : (((⟨t.toArray⟩ : ByteArray).extract 0 5).toList == [100, 111, 110, 101, 58]) = true := by rw [hvl]; exact text_eq hd
          clear hvl
          obtain ⟨z, hz⟩ : ∃ z, Sk.numB U 0 999 = z := ⟨_, rfl⟩
          have HN := Lib.hid (fun W => rnumber_any ⟨U.toArray⟩ 999 W)
          rw [bytes_list] at HN
          cases z with
          | true =>
            obtain ⟨g1, g2, g3⟩ := Sk.numI_ok (.inl rfl) hz
            obtain ⟨n, hn⟩ : ∃ n, (getM U).1 = n := ⟨_, rfl⟩
            rw [g1, hn] at HN
            rw [hn] at g2
            have hn0 : ¬ n < 0 := by omega
            have HR := Lib.hid (show Mf.readI t = (1, n) by unfold Mf.readI cellR; rw [if_neg h1, if_neg h2, if_pos ⟨by rw [hV, hd], by rw [hU, hz]⟩, hU, hn])
            clear h1 h2 h6 hV hU hd hz g1 g2 g3 hn hef heb
            go_enter Tryz.func82, Tryz.ntmps82
            go_wp2_with fail
            rw [HEB.out]
            refine (HN.out _).mono ?_
            rintro e w1 ⟨rfl, hb⟩
            have HB := Lib.hid hb
            clear hb
            go_wp2_with fail
            go_ret2
            exact ⟨by rw [HR.out]; rfl, HB.out⟩
          | false =>
            rw [Sk.numI_no hz] at HN
            have HR := Lib.hid (show Mf.readI t = (-1, 0) by unfold Mf.readI cellR; rw [if_neg h1, if_neg h2, if_neg (by rintro ⟨_, b⟩; rw [hU, hz] at b; cases b)])
            clear h1 h2 h6 hV hU hd hz hef heb
            go_enter Tryz.func82, Tryz.ntmps82
            go_wp2_with fail
            rw [HEB.out]
            refine (HN.out _).mono ?_
            rintro e w1 ⟨rfl, hb⟩
            have HB := Lib.hid hb
            clear hb
            go_wp2_with fail
            go_ret2
            exact ⟨by rw [HR.out]; rfl, HB.out⟩
        · have hq3 : (((⟨t.toArray⟩ : ByteArray).extract 0 5).toList == [100, 111, 110, 101, 58]) = false := by rw [hvl]; exact text_ne hd
          clear hvl
          have HR := Lib.hid (show Mf.readI t = (-1, 0) by unfold Mf.readI cellR; rw [if_neg h1, if_neg h2, if_neg (by rintro ⟨a, _⟩; rw [hV] at a; exact hd a)])
          clear h1 h2 h6 hV hU hd hef heb
          go_enter Tryz.func82, Tryz.ntmps82
          go_wp2_with fail
          go_ret2
          exact ⟨by rw [HR.out]; rfl, Below.refl _ _⟩
def MTailR (fb fc : List UInt8) (n : Nat) (t : Int) (e : Ending) : Prop := match Mf.tail fb fc n t with | none => e = .returned (.tuple #[.int .i64 0, .int .i64 0]) | some x => e = .returned (.tuple #[.int .i64 (x.1 : Int), .int .i64 (x.2 : Int)])
set_option linter.unusedSimpArgs false in
set_option linter.unusedVariables false in
set_option maxRecDepth 100000 in
set_option maxHeartbeats 4000000 in
theorem mrtail_any (v : Value) (fa fb fc : List UInt8) (n : Nat) (t : Int) (w : World) (hv : Strs w w.heap.size v [fa, fb, fc]) : Calls Tryz.prog 53 #[v, .int .i64 (n : Int), .int .i64 t] w fun e w' => MTailR fb fc n t e ∧ Below w.heap.size w w' := by
  obtain ⟨A, c, rfl⟩ := hv.shape
  obtain ⟨br, orr, rfl, hbr, c1⟩ := hv.at (k := 1) (f := fb) (Below.refl _ _) rfl
  have HW := Lib.hid (fun W k f (hb : Below w.heap.size w W) (hf : [fa, fb, fc][k]? = some f) => (show W.cell? ⟨br, orr + k, none⟩ = some (.string ⟨f.toArray⟩) by obtain ⟨b', o', e, _, h⟩ := hv.at hb hf; cases e; exact h))
  clear hv
  have HG1 := Lib.hid (fun W => refGet_any ⟨fb.toArray⟩ W)
  have HG2 := Lib.hid (fun W => refGet_any ⟨fc.toArray⟩ W)
  rw [bytes_list] at HG1 HG2
  obtain ⟨x1, y1, h1⟩ : ∃ x y, getM fb = (x, y) := ⟨_, _, rfl⟩
  obtain ⟨x2, y2, h2⟩ : ∃ x y, getM fc = (x, y) := ⟨_, _, rfl⟩
  rw [h1] at HG1
  rw [h2] at HG2
  unfold pairV at HG1 HG2
  have HF := Lib.hid (show Mf.tail fb fc n t = if (y1 && decide (0 ≤ x1)) = false then some (2, 3) else if x1 ≠ n then some (2, 4) else if (y2 && decide (0 ≤ x2)) = false then some (3, 3) else if x2 ≠ t then some (3, 5) else none by unfold Mf.tail Mf.getB; rw [h1, h2])
  clear h1 h2
  go_enter Tryz.func53, Tryz.ntmps53
  go_wp2_with fail
  refine (HG1.out _).mono ?_
  rintro e w1 ⟨rfl, hb1⟩
  have HB1 := Lib.hid hb1
  clear hb1 c1
  have c2 := HW.out w1 2 fc HB1.out rfl
  go_wp2_with fail
  refine (HG2.out _).mono ?_
  rintro e w2 ⟨rfl, hb2⟩
  have HB2 := Lib.hid (bch HB1.out hb2 HB1.out.size)
  clear hb2 c2
  cases y1 with
  | false =>
    have HFF := Lib.hid (show Mf.tail fb fc n t = some (2, 3) by rw [HF.out]; simp)
    go_wp2_with fail
    go_ret2
    exact ⟨by unfold MTailR; rw [HFF.out]; rfl, HB2.out⟩
  | true =>
    by_cases e1 : x1 < 0
    · have k1 := decide_eq_true e1
      have HFF := Lib.hid (show Mf.tail fb fc n t = some (2, 3) by rw [HF.out]; rw [if_pos (by simp; omega)])
      go_wp2_with fail
      go_ret2
      exact ⟨by unfold MTailR; rw [HFF.out]; rfl, HB2.out⟩
    · have k1 := decide_eq_false e1
      by_cases e2 : x1 = (n : Int)
      · have q1 := bneF e2
        cases y2 with
        | false =>
          have HFF := Lib.hid (show Mf.tail fb fc n t = some (3, 3) by rw [HF.out]; rw [if_neg (by simp; omega), if_neg (by simpa using e2)]; simp)
          go_wp2_with fail
          go_ret2
          exact ⟨by unfold MTailR; rw [HFF.out]; rfl, HB2.out⟩
        | true =>
          by_cases e3 : x2 < 0
          · have k2 := decide_eq_true e3
            have HFF := Lib.hid (show Mf.tail fb fc n t = some (3, 3) by rw [HF.out]; rw [if_neg (by simp; omega), if_neg (by simpa using e2), if_pos (by simp; omega)])
            go_wp2_with fail
            go_ret2
            exact ⟨by unfold MTailR; rw [HFF.out]; rfl, HB2.out⟩
          · have k2 := decide_eq_false e3
            by_cases e4 : x2 = t
            · have q2 := bneF e4
              have HFF := Lib.hid (show Mf.tail fb fc n t = none by rw [HF.out]; rw [if_neg (by simp; omega), if_neg (by simpa using e2), if_neg (by simp; omega), if_neg (by simpa using e4)])
              go_wp2_with fail
              go_ret2
              exact ⟨by unfold MTailR; rw [HFF.out]; rfl, HB2.out⟩
            · have q2 := bneT e4
              have HFF := Lib.hid (show Mf.tail fb fc n t = some (3, 5) by rw [HF.out]; rw [if_neg (by simp; omega), if_neg (by simpa using e2), if_neg (by simp; omega), if_pos e4])
              go_wp2_with fail
              go_ret2
              exact ⟨by unfold MTailR; rw [HFF.out]; rfl, HB2.out⟩
      · have q1 := bneT e2
        have HFF := Lib.hid (show Mf.tail fb fc n t = some (2, 4) by rw [HF.out]; rw [if_neg (by simp; omega), if_pos e2])
        go_wp2_with fail
        go_ret2
        exact ⟨by unfold MTailR; rw [HFF.out]; rfl, HB2.out⟩
def MMidR (fa fb fc : List UInt8) (last : Int) (B : Nat) (e : Ending) (w' : World) : Prop := match Mf.mid fa fb fc last with
  | .inl x => ∃ v, e = .returned (.tuple #[v, .int .i64 0, .int .i64 0]) ∧ w'.ownsRow B tRow 5 v x.2.length (x.2.flatMap encR)
  | .inr x => e = .returned (.tuple #[.slice none 0 0, .int .i64 (x.1 : Int), .int .i64 (x.2 : Int)])
set_option linter.unusedSimpArgs false in
set_option linter.unusedVariables false in
set_option maxRecDepth 100000 in
set_option maxHeartbeats 4000000 in
theorem mrmiddle_any (v : Value) (fa fb fc : List UInt8) (last : Int) (w : World) (hv : Strs w w.heap.size v [fa, fb, fc]) (hl1 : fb.length ≤ 1000000) (hl2 : fc.length ≤ 1000000) : Calls Tryz.prog 54 #[v, .int .i64 last] w fun e w' => MMidR fa fb fc last w.heap.size e w' ∧ Below w.heap.size w w' := by
  obtain ⟨info0, hinfo, hz0, hz1, hz2⟩ := info_parts row_info
  obtain ⟨A, c, rfl⟩ := hv.shape
  obtain ⟨br, orr, rfl, hbr, c0⟩ := hv.at (k := 0) (f := fa) (Below.refl _ _) rfl
  rw [Nat.add_zero] at c0
  have HW := Lib.hid (fun W k f (hb : Below w.heap.size w W) (hf : [fa, fb, fc][k]? = some f) => (show W.cell? ⟨br, orr + k, none⟩ = some (.string ⟨f.toArray⟩) by obtain ⟨b', o', e, _, h⟩ := hv.at hb hf; cases e; exact h))
  clear hv
  have HN := Lib.hid (fun W => rnumber_any ⟨fa.toArray⟩ 60 W)
  rw [bytes_list] at HN
  have HR1 := Lib.hid (fun W => mrread_any fb W hl1)
  have HR2 := Lib.hid (fun W => mrread_any fc W hl2)
  obtain ⟨o, ho⟩ : ∃ o, Sk.numI fa 60 = o := ⟨_, rfl⟩
  obtain ⟨u1, hu1⟩ : ∃ u, Mf.readI fb = u := ⟨_, rfl⟩
  obtain ⟨u2, hu2⟩ : ∃ u, Mf.readI fc = u := ⟨_, rfl⟩
  rw [ho] at HN
  rw [hu1] at HR1
  rw [hu2] at HR2
  go_enter Tryz.func54, Tryz.ntmps54
  go_wp2_with fail
  refine (HN.out _).mono ?_
  rintro e w1 ⟨rfl, hb1⟩
  have HB1 := Lib.hid hb1
  clear hb1 c0
  have c1 := HW.out w1 1 fb HB1.out rfl
  go_wp2_with fail
  refine (HR1.out _).mono ?_
  rintro e w2 ⟨rfl, hb2⟩
  have HB2 := Lib.hid (bch HB1.out hb2 HB1.out.size)
  clear hb2 c1
  have c2 := HW.out w2 2 fc HB2.out rfl
  go_wp2_with fail
  refine (HR2.out _).mono ?_
  rintro e w3 ⟨rfl, hb3⟩
  have HB3 := Lib.hid (bch HB2.out hb3 HB2.out.size)
  clear hb3 c2
  cases hz : Sk.numB fa 1 60 with
  | false =>
    have g1 := Sk.numI_low hz
    rw [ho] at g1
    have HFF := Lib.hid (show Mf.mid fa fb fc last = .inr (1, 3) by unfold Mf.mid; rw [if_pos hz])
    clear ho hu1 hu2 hz
    go_wp2_with fail
    refine bodyPost_ret (v := .tuple #[.slice none 0 0, .int .i64 1, .int .i64 3]) (by simp [results, Tryz.results54, go_sem]) rfl ⟨by unfold MMidR; rw [HFF.out]; rfl, HB3.out⟩
  | true =>
    obtain ⟨g1, g2, g3⟩ := Sk.numI_ok (a := 1) (.inr rfl) hz
    rw [ho] at g1
    have hgo := g1.symm
    rw [← g1] at g2 g3
    have ho1 : ¬ o < 1 := by omega
    cases h1 : cellR fb with
    | none =>
      rw [Mf.readI_none h1] at hu1
      obtain rfl := hu1.symm
      have HFF := Lib.hid (show Mf.mid fa fb fc last = .inr (2, 3) by unfold Mf.mid; rw [if_neg (by rw [hz]; decide), h1])
      clear ho hu2 hz h1 g1 hgo g2 g3
      go_wp2_with fail
      refine bodyPost_ret (v := .tuple #[.slice none 0 0, .int .i64 2, .int .i64 3]) (by simp [results, Tryz.results54, go_sem]) rfl ⟨by unfold MMidR; rw [HFF.out]; rfl, HB3.out⟩
    | some y1 =>
      rw [Mf.readI_some h1] at hu1
      obtain rfl := hu1
      have hk1 := Mf.cellR_ok h1
      have hn1 : ¬ y1.1 < 0 := by unfold Mf.OkSay at hk1; omega
      cases h2 : cellR fc with
      | none =>
        rw [Mf.readI_none h2] at hu2
        obtain rfl := hu2.symm
        have HFF := Lib.hid (show Mf.mid fa fb fc last = .inr (3, 3) by unfold Mf.mid; rw [if_neg (by rw [hz]; decide), h1, h2])
        clear ho hz h1 h2 g1 hgo g2 g3 hk1
        go_wp2_with fail
        refine bodyPost_ret (v := .tuple #[.slice none 0 0, .int .i64 3, .int .i64 3]) (by simp [results, Tryz.results54, go_sem]) rfl ⟨by unfold MMidR; rw [HFF.out]; rfl, HB3.out⟩
      | some y2 =>
        rw [Mf.readI_some h2] at hu2
        obtain rfl := hu2
        have hk2 := Mf.cellR_ok h2
        have hn2 : ¬ y2.1 < 0 := by unfold Mf.OkSay at hk2; omega
        clear hk1 hk2
        by_cases ha : y1.1 = 0
        · by_cases hb : y2.1 = 0
          · have q1 := beqT ha; have q2 := beqT hb
            have HFF := Lib.hid (show Mf.mid fa fb fc last = .inr (2, 3) by unfold Mf.mid; rw [if_neg (by rw [hz]; decide), h1, h2]; simp only []; rw [if_pos ⟨ha, hb⟩])
            clear ho hz h1 h2 g1 hgo g2 g3 ha hb
            go_wp2_with fail
            refine bodyPost_ret (v := .tuple #[.slice none 0 0, .int .i64 2, .int .i64 3]) (by simp [results, Tryz.results54, go_sem]) rfl ⟨by unfold MMidR; rw [HFF.out]; rfl, HB3.out⟩
          · have q1 := beqT ha; have q2 := beqF hb
            by_cases hol : o ≤ last
            · have HFF := Lib.hid (show Mf.mid fa fb fc last = .inr (1, 6) by unfold Mf.mid; rw [if_neg (by rw [hz]; decide), h1, h2]; simp only []; rw [if_neg (by omega), hgo, if_pos hol])
              clear ho hz h1 h2 g1 hgo g2 g3 ha hb
              go_wp2_with fail
              refine bodyPost_ret (v := .tuple #[.slice none 0 0, .int .i64 1, .int .i64 6]) (by simp [results, Tryz.results54, go_sem]) rfl ⟨by unfold MMidR; rw [HFF.out]; rfl, HB3.out⟩
            · have HFF := Lib.hid (show Mf.mid fa fb fc last = .inl (o, Mf.two o y1 y2) by unfold Mf.mid; rw [if_neg (by rw [hz]; decide), h1, h2]; simp only []; rw [if_neg (by omega), hgo, if_neg hol])
              have HT := Lib.hid (show Mf.two o y1 y2 = [((o, 5), y2.1, 0, y2.2)] by unfold Mf.two Mf.rowS; rw [if_pos ha, if_neg (by omega)]; rfl)
              have k1 : ¬ 0 < y1.1 := by omega
              have k2 : 0 < y2.1 := by omega
              clear ho hz h1 h2 hgo g1 g2 g3
              go_wp2_with (at_builtin; refine wpList_append_any _ rfl (.tmp 58) (.tmp 64) tRows rfl w.heap.size tRow info0 (mkRow ((0, 0), 0, 0, 0)) 5 40 Tryz.underlying22 hinfo hz0 hz1 hz2 rfl (by decide) (.slice none 0 0) 0 ([]) rfl (World.ownsRow_nil _ _ _ _) 1 (encR ((o, 5), y2.1, 0, y2.2)) (src_blk (xs := encR ((o, 5), y2.1, 0, y2.2)) (heap_new _ _) (encR_one _)) (by unfold maxLen; omega) (by omega) (by have := HB3.out.size; simp; omega) ?_; intro v4 w4 ho4 hg4 hat4; obtain ⟨A4, c4, rfl, _⟩ := own_slice ho4; have HO4 := Lib.hid ho4; have HB4 := Lib.hid (Below.turned (S := fun j => Value.ownBlock (.slice none 0 0) = some j) HB3.out ((Turned.of_below (below_alloc _ _)).trans (Turned.of_grown hg4 (fun j h => h))) (fun i h => by cases h) HB3.out.size); clear ho4 hg4 hat4)
              go_wp2_with fail
              refine bodyPost_ret (v := .tuple #[.slice A4 (0 + 1) c4, .int .i64 0, .int .i64 0]) (by simp [results, Tryz.results54, go_sem]) rfl ⟨by unfold MMidR; rw [HFF.out]; refine ⟨.slice A4 (0 + 1) c4, rfl, ?_⟩; rw [HT.out]; exact HO4.out, HB4.out⟩
        · have q1 := beqF ha
          by_cases hol : o ≤ last
          · have HFF := Lib.hid (show Mf.mid fa fb fc last = .inr (1, 6) by unfold Mf.mid; rw [if_neg (by rw [hz]; decide), h1, h2]; simp only []; rw [if_neg (by omega), hgo, if_pos hol])
            clear ho hz h1 h2 g1 hgo g2 g3 ha
            go_wp2_with fail
            refine bodyPost_ret (v := .tuple #[.slice none 0 0, .int .i64 1, .int .i64 6]) (by simp [results, Tryz.results54, go_sem]) rfl ⟨by unfold MMidR; rw [HFF.out]; rfl, HB3.out⟩
          · by_cases hb : y2.1 = 0
            · have HFF := Lib.hid (show Mf.mid fa fb fc last = .inl (o, Mf.two o y1 y2) by unfold Mf.mid; rw [if_neg (by rw [hz]; decide), h1, h2]; simp only []; rw [if_neg (by omega), hgo, if_neg hol])
              have HT := Lib.hid (show Mf.two o y1 y2 = [((o, 2), y1.1, 0, y1.2)] by unfold Mf.two Mf.rowS; rw [if_neg (by omega), if_pos hb]; rfl)
              have k1 : 0 < y1.1 := by omega
              have k2 : ¬ 0 < y2.1 := by omega
              clear ho hz h1 h2 hgo g1 g2 g3
              go_wp2_with (at_builtin; refine wpList_append_any _ rfl (.tmp 48) (.tmp 54) tRows rfl w.heap.size tRow info0 (mkRow ((0, 0), 0, 0, 0)) 5 40 Tryz.underlying22 hinfo hz0 hz1 hz2 rfl (by decide) (.slice none 0 0) 0 ([]) rfl (World.ownsRow_nil _ _ _ _) 1 (encR ((o, 2), y1.1, 0, y1.2)) (src_blk (xs := encR ((o, 2), y1.1, 0, y1.2)) (heap_new _ _) (encR_one _)) (by unfold maxLen; omega) (by omega) (by have := HB3.out.size; simp; omega) ?_; intro v4 w4 ho4 hg4 hat4; obtain ⟨A4, c4, rfl, _⟩ := own_slice ho4; have HO4 := Lib.hid ho4; have HB4 := Lib.hid (Below.turned (S := fun j => Value.ownBlock (.slice none 0 0) = some j) HB3.out ((Turned.of_below (below_alloc _ _)).trans (Turned.of_grown hg4 (fun j h => h))) (fun i h => by cases h) HB3.out.size); clear ho4 hg4 hat4)
              go_wp2_with fail
              refine bodyPost_ret (v := .tuple #[.slice A4 (0 + 1) c4, .int .i64 0, .int .i64 0]) (by simp [results, Tryz.results54, go_sem]) rfl ⟨by unfold MMidR; rw [HFF.out]; refine ⟨.slice A4 (0 + 1) c4, rfl, ?_⟩; rw [HT.out]; exact HO4.out, HB4.out⟩
            · have HFF := Lib.hid (show Mf.mid fa fb fc last = .inl (o, Mf.two o y1 y2) by unfold Mf.mid; rw [if_neg (by rw [hz]; decide), h1, h2]; simp only []; rw [if_neg (by omega), hgo, if_neg hol])
              have HT := Lib.hid (show Mf.two o y1 y2 = [((o, 2), y1.1, 0, y1.2), ((o, 5), y2.1, 0, y2.2)] by unfold Mf.two Mf.rowS; rw [if_neg (by omega), if_neg (by omega)]; rfl)
              have k1 : 0 < y1.1 := by omega
              have k2 : 0 < y2.1 := by omega
              clear ho hz h1 h2 hgo g1 g2 g3
              go_upto_region 17 with (at_builtin; refine wpList_append_any _ rfl (.tmp 48) (.tmp 54) tRows rfl w.heap.size tRow info0 (mkRow ((0, 0), 0, 0, 0)) 5 40 Tryz.underlying22 hinfo hz0 hz1 hz2 rfl (by decide) (.slice none 0 0) 0 ([]) rfl (World.ownsRow_nil _ _ _ _) 1 (encR ((o, 2), y1.1, 0, y1.2)) (src_blk (xs := encR ((o, 2), y1.1, 0, y1.2)) (heap_new _ _) (encR_one _)) (by unfold maxLen; omega) (by omega) (by have := HB3.out.size; simp; omega) ?_; intro v4 w4 ho4 hg4 hat4; obtain ⟨A4, c4, rfl, _⟩ := own_slice ho4; have HO4 := Lib.hid ho4; have HB4 := Lib.hid (Below.turned (S := fun j => Value.ownBlock (.slice none 0 0) = some j) HB3.out ((Turned.of_below (below_alloc _ _)).trans (Turned.of_grown hg4 (fun j h => h))) (fun i h => by cases h) HB3.out.size); clear ho4 hg4 hat4)
              go_wp2_with (at_builtin; refine wpList_append_any _ rfl (.tmp 58) (.tmp 64) tRows rfl w.heap.size tRow info0 (mkRow ((0, 0), 0, 0, 0)) 5 40 Tryz.underlying22 hinfo hz0 hz1 hz2 rfl (by decide) (.slice A4 (0 + 1) c4) (0 + 1) ([] ++ encR ((o, 2), y1.1, 0, y1.2)) rfl (HO4.out.alloc _) 1 (encR ((o, 5), y2.1, 0, y2.2)) (src_blk (xs := encR ((o, 5), y2.1, 0, y2.2)) (heap_new _ _) (encR_one _)) (by unfold maxLen; omega) (by omega) (by have := HB4.out.size; simp; omega) ?_; intro v6 w6 ho6 hg6 hat6; obtain ⟨A6, c6, rfl, _⟩ := own_slice ho6; have HO6 := Lib.hid ho6; have HB6 := Lib.hid (Below.turned (S := fun j => Value.ownBlock (.slice A4 (0 + 1) c4) = some j) HB4.out ((Turned.of_below (below_alloc _ _)).trans (Turned.of_grown hg6 (fun j h => h))) (fun i h => (HO4.out.lt i h).1) HB4.out.size); clear ho6 hg6 hat6)
              go_wp2_with fail
              refine bodyPost_ret (v := .tuple #[.slice A6 (0 + 1 + 1) c6, .int .i64 0, .int .i64 0]) (by simp [results, Tryz.results54, go_sem]) rfl ⟨by unfold MMidR; rw [HFF.out]; refine ⟨.slice A6 (0 + 1 + 1) c6, rfl, ?_⟩; rw [HT.out]; exact HO6.out, HB6.out⟩
end Go.Proofs.YtgpjbigelblanaaGreatDoor
/- The document's reading of the carrier's files: what it computes. -/
namespace Go.Proofs.YtgpjbigelblanaaGreatDoor
open Go.RowKit Go.Maps Key Mon Mf Rw

/-- What the reading holds between two rows: the results' boxes, the statement's box, its rows. -/
structure PInv (nb b5 : Nat) (w1 wr : World) (vr : Value) (p q : Int) (l : List R5) : Prop where
  r0 : wr.heap[nb]? = some (.cells #[.int .i64 0, .int .i64 0, .slice none 0 0] tStat (0, 0))
  r1 : wr.heap[nb + 1]? = some (.cells #[.int .i64 0, .int .i64 0, .int .i64 0] tRej (0, 0))
  s6 : wr.heap[b5 + 1]? = some (.cells #[.int .i64 p, .int .i64 q, vr] tStat (0, 0))
  own : wr.ownsRow (b5 + 2) tRow 5 vr l.length (l.flatMap encR)
  tab : Below b5 w1 wr
  lt : nb + 1 < b5
theorem PInv.below {nb b5 : Nat} {w1 wr w' : World} {vr : Value} {p q : Int} {l : List R5} (h : PInv nb b5 w1 wr vr p q l) (hb : Below wr.heap.size wr w') : PInv nb b5 w1 w' vr p q l :=
  ⟨heap_keep h.r0 hb, heap_keep h.r1 hb, heap_keep h.s6 hb, own_keep h.own hb, bch h.tab hb (by have := heap_lt h.s6; omega), h.lt⟩
theorem PInv.set {nb b5 : Nat} {w1 wr : World} {vr : Value} {p q : Int} {l : List R5} (h : PInv nb b5 w1 wr vr p q l) {b i : Nat} (hb : b5 + 2 ≤ b) (hv : vr.ownBlock ≠ some b) (x : Value) : PInv nb b5 w1 (wr.setCell ⟨b, i, none⟩ x) vr p q l := by
  have := h.lt
  exact ⟨set_other h.r0 (by omega) _, set_other h.r1 (by omega) _, set_other h.s6 (by omega) _, own_turned h.own (turned_set wr b i x) (fun j hj e => hv (by rw [hj, e])), h.tab.setCell (p := ⟨b, i, none⟩) (by show b5 ≤ b; omega) _, h.lt⟩
theorem PInv.setSeq {nb b5 : Nat} {w1 wr : World} {vr : Value} {p q : Int} {l : List R5} (h : PInv nb b5 w1 wr vr p q l) (q' : Int) : PInv nb b5 w1 (wr.setCell ⟨b5 + 1, 1, none⟩ (.int .i64 q')) vr p q' l := by
  have := h.lt
  refine ⟨set_other h.r0 (by omega) _, set_other h.r1 (by omega) _, ?_, own_turned h.own (turned_set wr (b5 + 1) 1 _) (fun j hj e => by have := (h.own.lt j hj).1; omega), h.tab.setCell (p := ⟨b5 + 1, 1, none⟩) (by show b5 ≤ b5 + 1; omega) _, h.lt⟩
  have h6 := h.s6
  simp [World.setCell, Array.getElem?_modify, h6]
theorem PInv.push {nb b5 : Nat} {w1 w4 w6 : World} {vr v6 : Value} {p q : Int} {l : List R5} (h : PInv nb b5 w1 w4 vr p q l) {y : R5} (ho : w6.ownsRow (b5 + 2) tRow 5 v6 (l.length + 1) (l.flatMap encR ++ encR y)) (ht : Turned (fun j => vr.ownBlock = some j) w4 w6) : PInv nb b5 w1 (w6.setCell ⟨b5 + 1, 2, none⟩ v6) v6 p q (l ++ [y]) := by
  have hlt := h.lt
  have hn : ∀ i, i < b5 + 2 → ¬ vr.ownBlock = some i := fun i hi e => by have := (h.own.lt i e).1; omega
  have s6 := heap_turned h.s6 ht (hn _ (by omega))
  refine ⟨set_other (heap_turned h.r0 ht (hn _ (by omega))) (by omega) _, set_other (heap_turned h.r1 ht (hn _ (by omega))) (by omega) _, ?_, ?_, ?_, h.lt⟩
  · simp [World.setCell, Array.getElem?_modify, s6]
  · have : w6.ownsRow (b5 + 2) tRow 5 v6 (l ++ [y]).length ((l ++ [y]).flatMap encR) := by rw [List.length_append, List.flatMap_append]; simpa using ho
    exact own_turned this (turned_set w6 (b5 + 1) 2 _) (fun j hj e => by have := (ho.lt j hj).1; omega)
  · have hb : Below b5 w1 w6 := Below.turned h.tab ht (fun i hi => by have := (h.own.lt i hi).1; omega) (by have := heap_lt h.s6; omega)
    exact hb.setCell (p := ⟨b5 + 1, 2, none⟩) (by show b5 ≤ b5 + 1; omega) _
namespace Mf
theorem first_two {r : Line} {q : Int} (h : first r = .inl q) : ∃ f0 f1, r = [f0, f1] ∧ Sk.numI f1 1073741824 = q := by
  unfold first at h
  by_cases h1 : r.head? ≠ some wHead
  · rw [if_pos h1] at h; cases h
  rw [if_neg h1] at h
  by_cases h2 : r.length ≠ 2
  · rw [if_pos h2] at h; cases h
  rw [if_neg h2] at h
  match r, (Classical.not_not.1 h2) with
  | [f0, f1], _ =>
    refine ⟨f0, f1, rfl, ?_⟩
    cases hb : Sk.numB f1 1 1073741824 with
    | false => simp [hb] at h
    | true => rw [(Sk.numI_ok (.inr rfl) hb).1]; simpa [hb] using h
theorem stepX_end {i : Nat} {r : Line} {s : St} (h : s.ended = true) : step i r s = .inr (1, 7) := by unfold step; rw [if_pos h]
theorem stepX_first {i : Nat} {r : Line} {s : St} (h : s.ended = false) (hi : i = 0) : step i r s = match first r with | .inl q => .inl { s with seq := q } | .inr x => .inr x := by unfold step; rw [if_neg (by rw [h]; decide), if_pos hi]; rfl
theorem stepX_wide {i : Nat} {r : Line} {s : St} (h : s.ended = false) (hi : ¬ i = 0) (hw : r.length ≠ 3) : step i r s = .inr (min r.length 3 + 1, 1) := by unfold step; rw [if_neg (by rw [h]; decide), if_neg hi, if_pos hw]
theorem stepX_tail {i : Nat} {a b c : List UInt8} {s : St} (h : s.ended = false) (hi : ¬ i = 0) (he : a = Sk.wEnd) : step i [a, b, c] s = match tail b c s.orders s.tot with | none => .inl { s with ended := true } | some x => .inr x := by
  unfold step; rw [if_neg (by rw [h]; decide), if_neg hi, if_neg (by simp), if_pos (show [a, b, c].head? = some Sk.wEnd by rw [he]; rfl)]; rfl
theorem stepX_mid {i : Nat} {a b c : List UInt8} {s : St} (h : s.ended = false) (hi : ¬ i = 0) (he : ¬ a = Sk.wEnd) : step i [a, b, c] s = match mid a b c s.last with | .inl x => .inl { s with l := s.l ++ x.2, orders := s.orders + 1, last := x.1, tot := s.tot + total x.2 } | .inr x => .inr x := by
  unfold step; rw [if_neg (by rw [h]; decide), if_neg hi, if_neg (by simp), if_neg (show ¬ [a, b, c].head? = some Sk.wEnd from fun e => he (Option.some.inj e))]; rfl
theorem mid_rows {a b c : List UInt8} {last : Int} {x : Int × List R5} (h : mid a b c last = .inl x) : (∀ y ∈ x.2, y.1.1 = x.1 ∧ 0 ≤ y.2.2.2 ∧ y.2.2.2 ≤ 999) ∧ x.2 ≠ [] ∧ x.2.length ≤ 2 := by
  obtain ⟨s, t, hs, ht, e, h1, h2, _⟩ := mid_ok h
  obtain ⟨k1, _, k3⟩ := two_ok hs ht h1 h2
  rw [← e] at k1 k3
  refine ⟨fun y hy => ⟨(k1 y hy).2, (row_carry (k1 y hy).1).2.2.2.2.1⟩, fun e0 => ?_, k3⟩
  unfold mid at h
  split at h
  · cases h
  · split at h
    · cases h
    · rename_i u hu
      split at h
      · cases h
      · rename_i v hv
        split at h
        · cases h
        · rename_i hn
          split at h
          · cases h
          · cases h
            simp only [] at e0
            unfold two rowS at e0
            by_cases h1 : u.1 = 0
            · rw [if_pos h1] at e0
              by_cases h2 : v.1 = 0
              · exact hn ⟨h1, h2⟩
              · rw [if_neg h2] at e0; simp at e0
            · rw [if_neg h1] at e0; simp at e0
theorem total_take2 {l : List R5} {k : Nat} {x : R5} (h : l[k]? = some x) : total (l.take (k + 1)) = total (l.take k) + x.2.2.2 := by rw [take_succ' h, total_append]; simp [total]
end Mf

theorem total_rows : ∀ (l : List R5), (∀ y ∈ l, 0 ≤ y.2.2.2 ∧ y.2.2.2 ≤ 999) → l.length ≤ 2 → 0 ≤ Mf.total l ∧ Mf.total l ≤ 2000
  | [], _, _ => by simp [Mf.total]
  | [x], h, _ => by have := h x (by simp); simp [Mf.total]; omega
  | [x, y], h, _ => by have := h x (by simp); have := h y (by simp); simp [Mf.total]; omega
  | _ :: _ :: _ :: _, _, h => by simp at h
theorem own_lit3 {w : World} {B : Nat} {e : TypeId} {z n : Nat} {v : Value} {xs : List Value} (h : w.ownsRow B e z v n xs) (hn : 0 < n) : ∃ g c, v = .slice (some ⟨g, 0, none⟩) n c ∧ B ≤ g ∧ g < w.heap.size := by
  rcases h.2 with ⟨_, h0⟩ | ⟨g, cap, cur, hv, hB, hg, r⟩
  · omega
  · exact ⟨g, cap, hv, hB, heap_lt hg⟩
theorem ownsRow_loose3 {w : World} {B B' : Nat} {e : TypeId} {z n : Nat} {v : Value} {xs : List Value} (h : w.ownsRow B e z v n xs) (hB : B' ≤ B) : w.ownsRow B' e z v n xs := by
  refine ⟨h.1, ?_⟩
  rcases h.2 with h2 | ⟨g, cap, cur, hv, hg, r⟩
  · exact .inl h2
  · exact .inr ⟨g, cap, cur, hv, Nat.le_trans hB hg, r⟩
theorem cell_set_ne (w : World) {b c i j : Nat} (h : c ≠ b) (x : Value) : (w.setCell ⟨c, j, none⟩ x).cell? ⟨b, i, none⟩ = w.cell? ⟨b, i, none⟩ := by
  unfold World.cell?
  simp only []
  have : (w.setCell ⟨c, j, none⟩ x).heap[b]? = w.heap[b]? := by
    simp [World.setCell, Array.getElem?_modify]
    intro e; exact absurd e h
  rw [this]

set_option linter.unusedSimpArgs false in
set_option linter.unusedVariables false in
set_option maxRecDepth 100000 in
set_option maxHeartbeats 8000000 in
theorem mrefParse_ok (s : ByteArray) (w : World) (L : List Mf.Line) (hp : Csv.parse s.data.toList = (L, 0, 0, 0)) (hcall : ∀ W, Calls Tryz.prog 17 #[.string s] W fun e w' => Told (Csv.parse s.data.toList) e w' ∧ Below W.heap.size W w') :
    Calls Tryz.prog 23 #[.string s] w fun e w' => ParsedS (Mf.ofTable L) e w' ∧ Below w.heap.size w w' := by
  obtain ⟨i0, hi, hz0, hz1, hz2⟩ := info_parts row_info
  obtain ⟨R, hR⟩ : ∃ R, Mf.run L 0 Mf.s0 = R := ⟨_, rfl⟩
  have hOF : Mf.ofTable L = Mf.ofRun L.length R := by unfold Mf.ofTable; rw [hR]
  rw [hOF]
  have hSm : Sk.Small L := by have := Sk.csv_small s.data.toList; rw [hp] at this; exact this
  have HSM := Lib.hid hSm
  have HCALL := Lib.hid (fun W => (hcall W).mono fun e w' h => (show (∃ v, e = .returned (.tuple #[v, .agg #[.int .i64 0, .int .i64 0, .int .i64 0]]) ∧ Rowz w' w'.heap.size v L) ∧ Below W.heap.size W w' from ⟨by
    obtain ⟨⟨v, he, hv⟩, _⟩ := h
    rw [hp] at he hv
    exact ⟨v, he, hv⟩, h.2⟩))
  have hLl := hSm.rows
  have HRUN := Lib.hid (show Mf.run (L.drop 0) 0 Mf.s0 = R from hR)
  obtain ⟨wa, hwa⟩ : ∃ wa, (w.alloc (.cells #[.int .i64 0, .int .i64 0, .slice none 0 0] tStat)).alloc (.cells #[.int .i64 0, .int .i64 0, .int .i64 0] tRej) = wa := ⟨_, rfl⟩
  have hWA := Lib.hid hwa
  clear hR hOF hSm hcall hp hwa
  go_enter Tryz.func23, Tryz.ntmps23
  go_upto_region 1 with (fail)
  rw [hWA.out]
  go_wp2_with fail
  refine (HCALL.out _).mono ?_
  rintro e w1 ⟨⟨v, rfl, hv⟩, hb1⟩
  obtain ⟨Av, cv, rfl⟩ := hv.shape
  have HV := Lib.hid hv
  clear hv
  go_upto_region 5 with (fail)
  obtain ⟨W, hW⟩ : ∃ W, W = (w1.alloc (.cells #[.int .i64 0, .int .i64 0, .int .i64 0] tRej)).alloc (.cells #[.int .i64 2, .int .i64 0, .slice none 0 0] tStat) := ⟨_, rfl⟩
  rw [← hW]
  obtain ⟨hB, g0, g1, g5, g6, hlt, hB1⟩ := four_blocks w w1 _ _ _ _ (by rw [hWA.out]; exact hb1) hW.symm
  have hsz : W.heap.size = w1.heap.size + 2 := by rw [hW]; simp
  have HB01 := Lib.hid (show Below w.heap.size w w1 from bch (by rw [← hWA.out]; exact (two_blocks w _ _ rfl).1) hb1 (by rw [← hWA.out]; simp; omega))
  generalize hnb : w.heap.size = nb at g0 g1 hlt HB01 ⊢
  generalize hb5 : w1.heap.size = b5 at g5 g6 hlt hB1 hsz HV ⊢
  have HNB := Lib.hid hnb; have HB5 := Lib.hid hb5
  have HI0 := Lib.hid (show PInv nb b5 w1 W (.slice none 0 0) 2 0 [] from ⟨g0, g1, g6, World.ownsRow_nil _ _ _ _, hB1, hlt⟩)
  clear hW hB g0 g1 g5 g6 hB1 hnb hb5 hb1 hsz
  go_wp2_with fail
  go_loopw [7, 8, 9, 10, 11] (fun t7 t8 t9 t10 i wr => ∃ (k : Nat) (s : Mf.St) (vr : Value), i = .int .i64 k ∧ t7 = .bool s.ended ∧ t8 = .int .i64 (s.orders : Int) ∧ t9 = .int .i64 s.last ∧ t10 = .int .i64 s.tot ∧ k ≤ L.length ∧ Hid (Lim k s) ∧ Hid (PInv nb b5 w1 wr vr 2 s.seq s.l) ∧ Hid (Mf.run (L.drop k) k s = R)) (fun _ _ _ _ i _ => L.length - (intOf i).toNat)
  case atStart => exact ⟨0, Mf.s0, _, rfl, rfl, rfl, rfl, rfl, by omega, Lim.zero, HI0.out, HRUN.out⟩
  case round =>
    obtain ⟨k, ⟨sq, sl, so, sla, st, en⟩, vr, rfl, rfl, rfl, rfl, rfl, hk, HLM, HI, HR⟩ := hrel
    dsimp only at HI HR HLM ⊢
    have hroom := HLM.out.room
    have hord := HLM.out.ord
    have htop := HLM.out.ok.top
    have hpos := HLM.out.ok.pos
    dsimp only at hroom hord htop hpos
    by_cases hkl : k < L.length
    · obtain ⟨r, hr⟩ : ∃ r, L[k]? = some r := ⟨_, List.getElem?_eq_getElem hkl⟩
      obtain ⟨gt, ot, u, e, hgt, hcell, hu⟩ := HV.out.at HI.out.tab hr
      subst e
      have hrm := List.mem_of_getElem? hr
      have hrl := HSM.out.fields r hrm
      have hrf := HSM.out.full r hrm
      have hrb := HSM.out.bytes r hrm
      have hszr : b5 + 1 < wr.heap.size := heap_lt HI.out.s6
      have HU := Lib.hid (show Strs wr wr.heap.size u r from hu.below HI.out.tab (by omega))
      have hstep := Mf.run_get hr ⟨sq, sl, so, sla, st, en⟩
      rw [HR.out] at hstep
      have HST := Lib.hid hstep
      have hkI : (k : Int) < L.length := by omega
      have hk1 : (k : Int) + 1 ≤ 65537 := by omega
      have hk0' : (0 : Int) ≤ k := by omega
      have hgtl : gt < wr.heap.size := by omega
      clear hr hu hrm hstep HR hgt
      cases en with
      | true =>
        have HBADR := Lib.hid (show R = .inr (k + 1, 1, 7) by rw [HST.out, Mf.stepX_end rfl])
        clear hcell
        obtain ⟨m0, m1, m2, f0, f1, f2⟩ := cell3 HI.out.r0
        obtain ⟨p0, p1, p2, e0, e1, e2⟩ := cell3 HI.out.r1
        have hlt5 := HI.out.lt
        go_wp2_with fail
        obtain ⟨w6, hw6⟩ : ∃ w6, w6 = ((wr.setCell ⟨nb, 0, none⟩ (.int .i64 0)).setCell ⟨nb, 1, none⟩ (.int .i64 0)).setCell ⟨nb, 2, none⟩ (.slice none 0 0) := ⟨_, rfl⟩
        have hr6 : w6.heap[nb]? = some (.cells #[.int .i64 0, .int .i64 0, .slice none 0 0] tStat (0, 0)) := by rw [hw6]; exact set3 HI.out.r0 _ _ _
        have hs6 : w6.heap[nb + 1]? = some (.cells #[.int .i64 0, .int .i64 0, .int .i64 0] tRej (0, 0)) := by rw [hw6]; exact set_other (set_other (set_other HI.out.r1 (by omega) _) (by omega) _) (by omega) _
        have hb6 : Below nb w w6 := by rw [hw6]; exact below_set3 (HB01.out.trans (HI.out.tab.mono (by omega))) (Nat.le_refl _) _ _ _
        rw [← hw6]
        clear hw6
        obtain ⟨w7, hw7⟩ : ∃ w7, w7 = ((w6.setCell ⟨nb + 1, 0, none⟩ (.int .i64 ((k : Int) + 1))).setCell ⟨nb + 1, 1, none⟩ (.int .i64 1)).setCell ⟨nb + 1, 2, none⟩ (.int .i64 7) := ⟨_, rfl⟩
        have hs7 := set3 hs6 (.int .i64 ((k : Int) + 1)) (.int .i64 1) (.int .i64 7)
        rw [← hw7] at hs7
        have hr7 : w7.heap[nb]? = some (.cells #[.int .i64 0, .int .i64 0, .slice none 0 0] tStat (0, 0)) := by rw [hw7]; exact set_other (set_other (set_other hr6 (by omega) _) (by omega) _) (by omega) _
        have hb7 : Below nb w w7 := by rw [hw7]; exact below_set3 hb6 (by omega) _ _ _
        rw [← hw7]
        clear hw7 m0 m1 m2 f0 f1 f2 p0 p1 p2 e0 e1 e2
        obtain ⟨m0, m1, m2, _⟩ := cell3 hr7
        obtain ⟨n0, n1, n2, _⟩ := cell3 hs7
        refine bodyPost_ret (v := .tuple #[.agg #[.int .i64 0, .int .i64 0, .slice none 0 0], .agg #[.int .i64 ((k : Int) + 1), .int .i64 1, .int .i64 7]]) (by simp [results, Tryz.results23, go_sem, m0, m1, m2, n0, n1, n2]) rfl ⟨?_, HNB.out ▸ hb7⟩
        exact parsed_bad (R := Mf.ofRun L.length R) (a := k + 1) (b := 1) (c := 7) (by rw [HBADR.out]; rfl) (by omega) (by omega) (by omega)
      | false =>
        obtain ⟨Au, cu, hu0⟩ := HU.out.shape
        subst hu0
        obtain ⟨f0', hf0⟩ : ∃ f0, r[0]? = some f0 := ⟨_, List.getElem?_eq_getElem (List.length_pos_iff.2 hrf)⟩
        obtain ⟨gu, ou, e, _, c0⟩ := HU.out.at (Below.refl _ _) hf0
        subst e
        rw [Nat.add_zero] at c0
        by_cases hk0 : k = 0
        · clear hf0 c0
          have hkq := beqT (show (k : Int) = 0 by omega)
          have HF := Lib.hid (mrhead_any (.slice (some ⟨gu, ou, none⟩) r.length cu) r wr HU.out hrf (by omega))
          unfold MHeadR at HF
          have hst1 := Mf.stepX_first (r := r) (s := ⟨sq, sl, so, sla, st, false⟩) rfl hk0
          clear hk0
          cases hf : Mf.first r with
          | inl q' =>
            rw [hf] at hst1
            simp only [hf] at HF
            have HNEXT := Lib.hid (show Mf.run (L.drop (k + 1)) (k + 1) ⟨q', sl, so, sla, st, false⟩ = R by rw [HST.out, hst1])
            have HLN := Lib.hid (show Lim (k + 1) ⟨q', sl, so, sla, st, false⟩ from HLM.out.step hst1)
            obtain ⟨fa, fb, rfl, hnum⟩ := Mf.first_two hf
            clear hf hst1
            have HN1 := Lib.hid (fun W => rnumber_any ⟨fb.toArray⟩ 1073741824 W)
            rw [bytes_list] at HN1
            rw [hnum] at HN1
            clear hnum
            simp only [List.length_cons, List.length_nil, Nat.zero_add, Nat.reduceAdd] at HF hcell hrl ⊢
            go_upto_region 15 with (go_at_call 51; refine HF.out.mono ?_; rintro e w3 ⟨rfl, hb3⟩)
            have HI3 := Lib.hid (HI.out.below hb3)
            obtain ⟨m0, m1, m2, f0, f1, f2⟩ := cell3 HI3.out.s6
            have hcell3 := (hb3.cell (p := ⟨gt, ot + k, none⟩) hgtl).trans hcell
            clear hcell
            obtain ⟨gq, oq, eq_, _, hfb⟩ := HU.out.at hb3 (k := 1) (f := fb) rfl
            obtain ⟨rfl, rfl⟩ : gu = gq ∧ ou = oq := by injection eq_ with h; injection h with h1 h2; exact ⟨h1, h2⟩
            clear eq_ hb3
            go_upto_region 30 with (go_at_call 40; refine (HN1.out _).mono ?_; rintro e w4 ⟨rfl, hb4⟩; have HI4 := Lib.hid (HI3.out.below hb4); clear m0 m1 m2 f0 f1 f2 hcell3 hfb hb4; obtain ⟨m0, m1, m2, f0, f1, f2⟩ := cell3 HI4.out.s6)
            obtain ⟨w9, hw9⟩ : ∃ w9, w9 = w4.setCell ⟨b5 + 1, 1, none⟩ (.int .i64 q') := ⟨_, rfl⟩
            rw [← hw9]
            have HI9 := Lib.hid (HI4.out.setSeq q')
            rw [← hw9] at HI9
            clear hw9 m0 m1 m2 f0 f1 f2
            go_wp2_with fail
            go_roundw
            case rel => exact ⟨k + 1, ⟨q', sl, so, sla, st, false⟩, vr, by go_num, rfl, rfl, rfl, rfl, by omega, HLN.out, HI9.out, HNEXT.out⟩
            case measure => simp [intOf]; omega
          | inr x =>
            rw [hf] at hst1
            simp only [hf] at HF
            have HBADR := Lib.hid (show R = .inr (k + 1, x.1, x.2) by rw [HST.out, hst1])
            obtain ⟨ci, hci⟩ : ∃ ci : Int, (x.1 : Int) = ci := ⟨_, rfl⟩
            obtain ⟨ki, hki⟩ : ∃ ki : Int, (x.2 : Int) = ki := ⟨_, rfl⟩
            have hc1 := (Mf.first_bad hf).1
            have hc0 : 0 < ci := by omega
            have hcz := beqF (show ¬ ci = 0 by omega)
            clear hf hc1
            rw [hci, hki] at HF
            have HCI := Lib.hid hci; have HKI := Lib.hid hki
            clear hci hki
            clear hst1
            go_upto_region 15 with (go_at_call 51; refine HF.out.mono ?_; rintro e w3 ⟨rfl, hb3⟩)
            have HI3 := Lib.hid (HI.out.below hb3)
            clear hb3 hcell
            obtain ⟨m0, m1, m2, f0, f1, f2⟩ := cell3 HI3.out.r0
            obtain ⟨p0, p1, p2, e0, e1, e2⟩ := cell3 HI3.out.r1
            have hlt5 := HI3.out.lt
            go_wp2_with fail
            obtain ⟨w6, hw6⟩ : ∃ w6, w6 = ((w3.setCell ⟨nb, 0, none⟩ (.int .i64 0)).setCell ⟨nb, 1, none⟩ (.int .i64 0)).setCell ⟨nb, 2, none⟩ (.slice none 0 0) := ⟨_, rfl⟩
            have hr6 : w6.heap[nb]? = some (.cells #[.int .i64 0, .int .i64 0, .slice none 0 0] tStat (0, 0)) := by rw [hw6]; exact set3 HI3.out.r0 _ _ _
            have hs6 : w6.heap[nb + 1]? = some (.cells #[.int .i64 0, .int .i64 0, .int .i64 0] tRej (0, 0)) := by rw [hw6]; exact set_other (set_other (set_other HI3.out.r1 (by omega) _) (by omega) _) (by omega) _
            have hb6 : Below nb w w6 := by rw [hw6]; exact below_set3 (HB01.out.trans (HI3.out.tab.mono (by omega))) (Nat.le_refl _) _ _ _
            rw [← hw6]
            clear hw6
            obtain ⟨w7, hw7⟩ : ∃ w7, w7 = ((w6.setCell ⟨nb + 1, 0, none⟩ (.int .i64 ((k : Int) + 1))).setCell ⟨nb + 1, 1, none⟩ (.int .i64 ci)).setCell ⟨nb + 1, 2, none⟩ (.int .i64 ki) := ⟨_, rfl⟩
            have hs7 := set3 hs6 (.int .i64 ((k : Int) + 1)) (.int .i64 ci) (.int .i64 ki)
            rw [← hw7] at hs7
            have hr7 : w7.heap[nb]? = some (.cells #[.int .i64 0, .int .i64 0, .slice none 0 0] tStat (0, 0)) := by rw [hw7]; exact set_other (set_other (set_other hr6 (by omega) _) (by omega) _) (by omega) _
            have hb7 : Below nb w w7 := by rw [hw7]; exact below_set3 hb6 (by omega) _ _ _
            rw [← hw7]
            clear hw7 m0 m1 m2 f0 f1 f2 p0 p1 p2 e0 e1 e2
            obtain ⟨m0, m1, m2, _⟩ := cell3 hr7
            obtain ⟨n0, n1, n2, _⟩ := cell3 hs7
            refine bodyPost_ret (v := .tuple #[.agg #[.int .i64 0, .int .i64 0, .slice none 0 0], .agg #[.int .i64 ((k : Int) + 1), .int .i64 ci, .int .i64 ki]]) (by simp [results, Tryz.results23, go_sem, m0, m1, m2, n0, n1, n2]) rfl ⟨?_, HNB.out ▸ hb7⟩
            exact parsed_bad (R := Mf.ofRun L.length R) (a := k + 1) (b := x.1) (c := x.2) (by rw [HBADR.out]; rfl) (by omega) HCI.out.symm HKI.out.symm
        · have hkq := beqF (show ¬ (k : Int) = 0 by omega)
          by_cases hw : r.length ≠ 3
          · obtain ⟨m, hm⟩ : ∃ m : Int, m = ((min r.length 3 + 1 : Nat) : Int) := ⟨_, rfl⟩
            have HWD := Lib.hid (fun W => rwide_any (some ⟨gu, ou, none⟩) r.length cu 3 W (by omega) (by omega) m (by rw [if_pos hw]; exact hm))
            have hm0 : 0 < m := by omega
            have HBADR := Lib.hid (show R = .inr (k + 1, min r.length 3 + 1, 1) by rw [HST.out, Mf.stepX_wide rfl hk0 hw])
            have HMM := Lib.hid hm
            clear hw hm c0
            go_upto_region 18 with (go_at_call 52; refine (HWD.out _).mono ?_; rintro e w3 ⟨rfl, hb⟩; subst hb)
            go_upto_region 30 with (go_at_call 52; refine (HWD.out _).mono ?_; rintro e w3 ⟨rfl, hb⟩; subst hb)
            clear hcell
            obtain ⟨m0, m1, m2, f0, f1, f2⟩ := cell3 HI.out.r0
            obtain ⟨p0, p1, p2, e0, e1, e2⟩ := cell3 HI.out.r1
            have hlt5 := HI.out.lt
            go_wp2_with fail
            obtain ⟨w6, hw6⟩ : ∃ w6, w6 = ((wr.setCell ⟨nb, 0, none⟩ (.int .i64 0)).setCell ⟨nb, 1, none⟩ (.int .i64 0)).setCell ⟨nb, 2, none⟩ (.slice none 0 0) := ⟨_, rfl⟩
            have hr6 : w6.heap[nb]? = some (.cells #[.int .i64 0, .int .i64 0, .slice none 0 0] tStat (0, 0)) := by rw [hw6]; exact set3 HI.out.r0 _ _ _
            have hs6 : w6.heap[nb + 1]? = some (.cells #[.int .i64 0, .int .i64 0, .int .i64 0] tRej (0, 0)) := by rw [hw6]; exact set_other (set_other (set_other HI.out.r1 (by omega) _) (by omega) _) (by omega) _
            have hb6 : Below nb w w6 := by rw [hw6]; exact below_set3 (HB01.out.trans (HI.out.tab.mono (by omega))) (Nat.le_refl _) _ _ _
            rw [← hw6]
            clear hw6
            obtain ⟨w7, hw7⟩ : ∃ w7, w7 = ((w6.setCell ⟨nb + 1, 0, none⟩ (.int .i64 ((k : Int) + 1))).setCell ⟨nb + 1, 1, none⟩ (.int .i64 m)).setCell ⟨nb + 1, 2, none⟩ (.int .i64 1) := ⟨_, rfl⟩
            have hs7 := set3 hs6 (.int .i64 ((k : Int) + 1)) (.int .i64 m) (.int .i64 1)
            rw [← hw7] at hs7
            have hr7 : w7.heap[nb]? = some (.cells #[.int .i64 0, .int .i64 0, .slice none 0 0] tStat (0, 0)) := by rw [hw7]; exact set_other (set_other (set_other hr6 (by omega) _) (by omega) _) (by omega) _
            have hb7 : Below nb w w7 := by rw [hw7]; exact below_set3 hb6 (by omega) _ _ _
            rw [← hw7]
            clear hw7 m0 m1 m2 f0 f1 f2 p0 p1 p2 e0 e1 e2
            obtain ⟨m0, m1, m2, _⟩ := cell3 hr7
            obtain ⟨n0, n1, n2, _⟩ := cell3 hs7
            refine bodyPost_ret (v := .tuple #[.agg #[.int .i64 0, .int .i64 0, .slice none 0 0], .agg #[.int .i64 ((k : Int) + 1), .int .i64 m, .int .i64 1]]) (by simp [results, Tryz.results23, go_sem, m0, m1, m2, n0, n1, n2]) rfl ⟨?_, HNB.out ▸ hb7⟩
            exact parsed_bad (R := Mf.ofRun L.length R) (a := k + 1) (b := min r.length 3 + 1) (c := 1) (by rw [HBADR.out]; rfl) (by omega) HMM.out (by omega)
          · obtain ⟨fa, fb, fc, rfl⟩ := list3 (show r.length = 3 by omega)
            have HWD := Lib.hid (fun W => rwide_any (some ⟨gu, ou, none⟩) 3 cu 3 W (by omega) (by omega) 0 (by rw [if_neg (by simp)]))
            simp only [List.getElem?_cons_zero, Option.some.injEq] at hf0
            subst hf0
            simp only [List.length_cons, List.length_nil, Nat.zero_add, Nat.reduceAdd] at hcell hrl hw ⊢
            have hlb : fb.length ≤ 1000000 := by have := hrb fb (by simp); omega
            have hlc : fc.length ≤ 1000000 := by have := hrb fc (by simp); omega
            clear hw hrb
            go_upto_region 19 with (go_at_call 52; refine (HWD.out _).mono ?_; rintro e w3 ⟨rfl, hb⟩; subst hb)
            by_cases hh : fa = Sk.wEnd
            · have hst1 := Mf.stepX_tail (i := k) (a := fa) (b := fb) (c := fc) (s := ⟨sq, sl, so, sla, st, false⟩) rfl hk0 hh
              have hq := text_eq hh
              unfold Sk.wEnd at hq
              have HT := Lib.hid (mrtail_any (.slice (some ⟨gu, ou, none⟩) 3 cu) fa fb fc so st wr HU.out)
              unfold MTailR at HT
              clear hh
              dsimp only at hst1
              cases hf : Mf.tail fb fc so st with
              | none =>
                rw [hf] at hst1
                simp only [hf] at HT
                have HNEXT := Lib.hid (show Mf.run (L.drop (k + 1)) (k + 1) ⟨sq, sl, so, sla, st, true⟩ = R by rw [HST.out, hst1])
                have HLN := Lib.hid (show Lim (k + 1) ⟨sq, sl, so, sla, st, true⟩ from HLM.out.step hst1)
                clear hf hst1
                go_upto_region 30 with (go_at_call 53; refine HT.out.mono ?_; rintro e w3 ⟨rfl, hb3⟩)
                have HI3 := Lib.hid (HI.out.below hb3)
                clear hb3 hcell c0
                go_wp2_with fail
                go_roundw
                case rel => exact ⟨k + 1, ⟨sq, sl, so, sla, st, true⟩, vr, by go_num, rfl, rfl, rfl, rfl, by omega, HLN.out, HI3.out, HNEXT.out⟩
                case measure => simp [intOf]; omega
              | some x =>
                rw [hf] at hst1
                simp only [hf] at HT
                have HBADR := Lib.hid (show R = .inr (k + 1, x.1, x.2) by rw [HST.out, hst1])
                obtain ⟨ci, hci⟩ : ∃ ci : Int, (x.1 : Int) = ci := ⟨_, rfl⟩
                obtain ⟨ki, hki⟩ : ∃ ki : Int, (x.2 : Int) = ki := ⟨_, rfl⟩
                have hc1 := (Mf.tail_bad hf).1
                have hc0 : 0 < ci := by omega
                have hcz := beqF (show ¬ ci = 0 by omega)
                clear hf hc1
                rw [hci, hki] at HT
                have HCI := Lib.hid hci; have HKI := Lib.hid hki
                clear hci hki
                clear hst1
                go_upto_region 30 with (go_at_call 53; refine HT.out.mono ?_; rintro e w3 ⟨rfl, hb3⟩)
                have HI3 := Lib.hid (HI.out.below hb3)
                clear hb3 hcell c0
                obtain ⟨m0, m1, m2, f0, f1, f2⟩ := cell3 HI3.out.r0
                obtain ⟨p0, p1, p2, e0, e1, e2⟩ := cell3 HI3.out.r1
                have hlt5 := HI3.out.lt
                go_wp2_with fail
                obtain ⟨w6, hw6⟩ : ∃ w6, w6 = ((w3.setCell ⟨nb, 0, none⟩ (.int .i64 0)).setCell ⟨nb, 1, none⟩ (.int .i64 0)).setCell ⟨nb, 2, none⟩ (.slice none 0 0) := ⟨_, rfl⟩
                have hr6 : w6.heap[nb]? = some (.cells #[.int .i64 0, .int .i64 0, .slice none 0 0] tStat (0, 0)) := by rw [hw6]; exact set3 HI3.out.r0 _ _ _
                have hs6 : w6.heap[nb + 1]? = some (.cells #[.int .i64 0, .int .i64 0, .int .i64 0] tRej (0, 0)) := by rw [hw6]; exact set_other (set_other (set_other HI3.out.r1 (by omega) _) (by omega) _) (by omega) _
                have hb6 : Below nb w w6 := by rw [hw6]; exact below_set3 (HB01.out.trans (HI3.out.tab.mono (by omega))) (Nat.le_refl _) _ _ _
                rw [← hw6]
                clear hw6
                obtain ⟨w7, hw7⟩ : ∃ w7, w7 = ((w6.setCell ⟨nb + 1, 0, none⟩ (.int .i64 ((k : Int) + 1))).setCell ⟨nb + 1, 1, none⟩ (.int .i64 ci)).setCell ⟨nb + 1, 2, none⟩ (.int .i64 ki) := ⟨_, rfl⟩
                have hs7 := set3 hs6 (.int .i64 ((k : Int) + 1)) (.int .i64 ci) (.int .i64 ki)
                rw [← hw7] at hs7
                have hr7 : w7.heap[nb]? = some (.cells #[.int .i64 0, .int .i64 0, .slice none 0 0] tStat (0, 0)) := by rw [hw7]; exact set_other (set_other (set_other hr6 (by omega) _) (by omega) _) (by omega) _
                have hb7 : Below nb w w7 := by rw [hw7]; exact below_set3 hb6 (by omega) _ _ _
                rw [← hw7]
                clear hw7 m0 m1 m2 f0 f1 f2 p0 p1 p2 e0 e1 e2
                obtain ⟨m0, m1, m2, _⟩ := cell3 hr7
                obtain ⟨n0, n1, n2, _⟩ := cell3 hs7
                refine bodyPost_ret (v := .tuple #[.agg #[.int .i64 0, .int .i64 0, .slice none 0 0], .agg #[.int .i64 ((k : Int) + 1), .int .i64 ci, .int .i64 ki]]) (by simp [results, Tryz.results23, go_sem, m0, m1, m2, n0, n1, n2]) rfl ⟨?_, HNB.out ▸ hb7⟩
                exact parsed_bad (R := Mf.ofRun L.length R) (a := k + 1) (b := x.1) (c := x.2) (by rw [HBADR.out]; rfl) (by omega) HCI.out.symm HKI.out.symm
            · have hst1 := Mf.stepX_mid (i := k) (a := fa) (b := fb) (c := fc) (s := ⟨sq, sl, so, sla, st, false⟩) rfl hk0 hh
              have hq := text_ne hh
              unfold Sk.wEnd at hq
              have HT := Lib.hid (mrmiddle_any (.slice (some ⟨gu, ou, none⟩) 3 cu) fa fb fc sla wr HU.out hlb hlc)
              unfold MMidR at HT
              clear hh
              dsimp only at hst1
              cases hf : Mf.mid fa fb fc sla with
              | inl x =>
                rw [hf] at hst1
                simp only [hf] at HT
                obtain ⟨hrows, hnz, hrl2⟩ := Mf.mid_rows hf
                obtain ⟨o, rw⟩ := x
                dsimp only at hst1 HT hrows hnz hrl2
                have HNEXT := Lib.hid (show Mf.run (L.drop (k + 1)) (k + 1) ⟨sq, sl ++ rw, so + 1, o, st + Mf.total rw, false⟩ = R by rw [HST.out, hst1])
                have HLN := Lib.hid (show Lim (k + 1) ⟨sq, sl ++ rw, so + 1, o, st + Mf.total rw, false⟩ from HLM.out.step hst1)
                have HROW := Lib.hid hrows
                have hnl : 0 < rw.length := List.length_pos_iff.2 hnz
                have HNZ := Lib.hid hnl
                have HTOT := Lib.hid (fun (j : Nat) => (show 0 ≤ Mf.total (rw.take j) ∧ Mf.total (rw.take j) ≤ 2000 from total_rows (rw.take j) (fun y hy => (hrows y (List.mem_of_mem_take hy)).2) (Nat.le_trans (List.length_take_le' _ _) hrl2)))
                clear hf hst1 hrows hnz
                go_upto_region 25 with (go_at_call 54; refine HT.out.mono ?_; rintro e w3 ⟨⟨v3, rfl, ho3⟩, hb3⟩)
                obtain ⟨bm, cm, rfl, hbm1, hbm2⟩ := own_lit3 ho3 hnl
                have HI3 := Lib.hid (HI.out.below hb3); have HO3 := Lib.hid (show w3.ownsRow (b5 + 2) tRow 5 (.slice (some ⟨bm, 0, none⟩) rw.length cm) rw.length (rw.flatMap encR) from ownsRow_loose3 ho3 (by omega))
                have HN3 := Lib.hid (show vr.ownBlock ≠ some bm from fun e => by have := (HI.out.own.lt _ e).2; omega)
                clear hb3 hcell c0 ho3 HT
                go_loopw [9, 10, 17] (fun t9 t10 t17 wr => ∃ (j : Nat) (vk : Value), t17 = .int .i64 j ∧ j ≤ rw.length ∧ t9 = .int .i64 (if j = 0 then sla else o) ∧ t10 = .int .i64 (st + Mf.total (rw.take j)) ∧ Hid (PInv nb b5 w1 wr vk 2 sq (sl ++ rw.take j)) ∧ Hid (wr.ownsRow (b5 + 2) tRow 5 (.slice (some ⟨bm, 0, none⟩) rw.length cm) rw.length (rw.flatMap encR)) ∧ Hid (vk.ownBlock ≠ some bm)) (fun _ _ t17 _ => rw.length - (intOf t17).toNat)
                case atStart => exact ⟨0, vr, rfl, by omega, by rw [if_pos rfl], by simp [Mf.total], by rw [List.take_zero, List.append_nil]; exact HI3.out, HO3.out, HN3.out⟩
                case round =>
                  obtain ⟨j, vk, rfl, hj, rfl, rfl, HIr, HOr, HNk⟩ := hrel
                  by_cases hjl : j < rw.length
                  · obtain ⟨LK, hLK⟩ : ∃ M, sl ++ rw.take j = M := ⟨_, rfl⟩
                    rw [hLK] at HIr
                    have HLK := Lib.hid hLK
                    have hln : LK.length ≤ 130 := by rw [← hLK, List.length_append, List.length_take]; omega
                    clear hLK
                    obtain ⟨y, hy⟩ : ∃ y, rw[j]? = some y := ⟨_, List.getElem?_eq_getElem hjl⟩
                    have hyr := HROW.out y (List.mem_of_getElem? hy)
                    obtain ⟨gm, om, nm, cm', e, c0, c1, c2, c3, c4⟩ := (rd_own HOr.out).cells (Below.refl _ _) hy
                    injection e with e1 e2 e3
                    cases e1
                    have HTK := Lib.hid (take_succ' hy)
                    have HTT := Lib.hid (Mf.total_take2 hy)
                    have hjI : (j : Int) < rw.length := by omega
                    have hjI0 : (0 : Int) ≤ j := by omega
                    obtain ⟨⟨yo, yd⟩, yc, ya, yq⟩ := y
                    simp only [Nat.zero_add] at c0 c1 c2 c3 c4 hyr HTT
                    have HYR := Lib.hid hyr
                    clear hyr
                    obtain ⟨Ar, cr, rfl, _⟩ := own_slice HIr.out.own
                    clear hy e2 e3
                    obtain ⟨s0, s1, s2, _⟩ := cell3 HIr.out.s6
                    have hbml := (HOr.out.lt bm rfl).2
                    have HCC := Lib.hid (fun W (hb : Turned (fun j' => (Value.ownBlock (.slice Ar LK.length cr)) = some j') wr W) => (show W.cell? ⟨bm, j * 5, none⟩ = some (.int .i64 yo) ∧ W.cell? ⟨bm, j * 5 + 1, none⟩ = some (.int .i64 yd) ∧ W.cell? ⟨bm, j * 5 + 2, none⟩ = some (.int .i64 yc) ∧ W.cell? ⟨bm, j * 5 + 3, none⟩ = some (.int .i64 ya) ∧ W.cell? ⟨bm, j * 5 + 4, none⟩ = some (.int .i64 yq) from by
                      have hblk := hb.block bm hbml HNk.out
                      have hc : ∀ i, W.cell? ⟨bm, i, none⟩ = wr.cell? ⟨bm, i, none⟩ := fun i => by unfold World.cell?; simp only []; rw [hblk]
                      exact ⟨(hc _).trans c0, (hc _).trans c1, (hc _).trans c2, (hc _).trans c3, (hc _).trans c4⟩))
                    go_upto_region 27 with (fail)
                    have HH := Lib.hid (fun W (hb : Turned (fun j' => (Value.ownBlock (.slice Ar LK.length cr)) = some j') wr W) => (⟨Lib.hid hb, (cell_at (heap_turned HIr.out.s6 hb (fun e => by have := (HIr.out.own.lt _ e).1; omega)) 2 rfl), (HCC.out W hb).1, (HCC.out W hb).2.1, (HCC.out W hb).2.2.1, (HCC.out W hb).2.2.2.1, (HCC.out W hb).2.2.2.2⟩ : (fun w' => Hid (Turned (fun j' => (Value.ownBlock (.slice Ar LK.length cr)) = some j') wr w') ∧ w'.cell? ⟨b5 + 1, 2, none⟩ = some (.slice Ar LK.length cr) ∧ w'.cell? ⟨bm, j * 5, none⟩ = some (.int .i64 yo) ∧ w'.cell? ⟨bm, j * 5 + 1, none⟩ = some (.int .i64 yd) ∧ w'.cell? ⟨bm, j * 5 + 2, none⟩ = some (.int .i64 yc) ∧ w'.cell? ⟨bm, j * 5 + 3, none⟩ = some (.int .i64 ya) ∧ w'.cell? ⟨bm, j * 5 + 4, none⟩ = some (.int .i64 yq)) W))
                    refine wp_region_noPanic ?_
                    refine wp_region_till 9 (fun _ => True) (fun w' => Hid (Turned (fun j' => (Value.ownBlock (.slice Ar LK.length cr)) = some j') wr w') ∧ w'.cell? ⟨b5 + 1, 2, none⟩ = some (.slice Ar LK.length cr) ∧ w'.cell? ⟨bm, j * 5, none⟩ = some (.int .i64 yo) ∧ w'.cell? ⟨bm, j * 5 + 1, none⟩ = some (.int .i64 yd) ∧ w'.cell? ⟨bm, j * 5 + 2, none⟩ = some (.int .i64 yc) ∧ w'.cell? ⟨bm, j * 5 + 3, none⟩ = some (.int .i64 ya) ∧ w'.cell? ⟨bm, j * 5 + 4, none⟩ = some (.int .i64 yq)) (by kernel_rfl) (HH.out _ (((Turned.refl (fun j' => (Value.ownBlock (.slice Ar LK.length cr)) = some j') wr).drew))) (fun hHeld => ?_)
                    refine wpAnyT_go (i := 0) (v := ?vt0_1) rfl (by kernel_rfl) (by kernel_rfl) (by kernel_rfl) (fun _ _ _ h => h) (by kernel_rfl) (Or.inl ⟨by rfl, ?hyt0_1⟩) (by assumption) ?restt0_1
                    case hyt0_1 => (intro w0 hSw; (try dsimp only at hSw); go_simp; try with_reducible rfl)
                    case' restt0_1 => try simp only [Act.put, List.getElem_toArray, List.getElem_cons_zero, List.getElem_cons_succ, List.setIfInBounds_toArray, List.set_cons_zero, List.set_cons_succ]
                    refine wpAnyT_go (i := 1) (v := ?vt1_2) rfl (by kernel_rfl) (by kernel_rfl) (by kernel_rfl) (fun _ _ _ h => h) (by kernel_rfl) (Or.inl ⟨by rfl, ?hyt1_2⟩) (by assumption) ?restt1_2
                    case hyt1_2 => (intro w0 hSw; (try dsimp only at hSw); go_simp; try with_reducible rfl)
                    case' restt1_2 => try simp only [Act.put, List.getElem_toArray, List.getElem_cons_zero, List.getElem_cons_succ, List.setIfInBounds_toArray, List.set_cons_zero, List.set_cons_succ]
                    refine wpAnyT_go (i := 2) (v := ?vt2_3) rfl (by kernel_rfl) (by kernel_rfl) (by kernel_rfl) (fun _ _ _ h => h) (by kernel_rfl) (Or.inl ⟨by rfl, ?hyt2_3⟩) (by assumption) ?restt2_3
                    case hyt2_3 => (intro w0 hSw; (try dsimp only at hSw); go_simp; try with_reducible rfl)
                    case' restt2_3 => try simp only [Act.put, List.getElem_toArray, List.getElem_cons_zero, List.getElem_cons_succ, List.setIfInBounds_toArray, List.set_cons_zero, List.set_cons_succ]
                    refine wpAnyT_go (i := 3) (v := ?vt3_4) rfl (by kernel_rfl) (by kernel_rfl) (by kernel_rfl) (fun _ _ _ h => h) (by kernel_rfl) (Or.inl ⟨by rfl, ?hyt3_4⟩) (by assumption) ?restt3_4
                    case hyt3_4 => (intro w0 hSw; (try dsimp only at hSw); go_simp; try with_reducible rfl)
                    case' restt3_4 => try simp only [Act.put, List.getElem_toArray, List.getElem_cons_zero, List.getElem_cons_succ, List.setIfInBounds_toArray, List.set_cons_zero, List.set_cons_succ]
                    refine wpAnyT_go (i := 4) (v := ?vt4_5) rfl (by kernel_rfl) (by kernel_rfl) (by kernel_rfl) (fun _ _ _ h => h) (by kernel_rfl) (Or.inl ⟨by rfl, ?hyt4_5⟩) (by assumption) ?restt4_5
                    case hyt4_5 => (intro w0 hSw; (try dsimp only at hSw); go_simp; try with_reducible rfl)
                    case' restt4_5 => try simp only [Act.put, List.getElem_toArray, List.getElem_cons_zero, List.getElem_cons_succ, List.setIfInBounds_toArray, List.set_cons_zero, List.set_cons_succ]
                    refine wpAnyT_go (i := 5) (v := ?vt5_6) rfl (by kernel_rfl) (by kernel_rfl) (by kernel_rfl) (fun _ _ _ h => h) (by kernel_rfl) (Or.inl ⟨by rfl, ?hyt5_6⟩) (by assumption) ?restt5_6
                    case hyt5_6 => (intro w0 hSw; (try dsimp only at hSw); go_simp; try with_reducible rfl)
                    case' restt5_6 => try simp only [Act.put, List.getElem_toArray, List.getElem_cons_zero, List.getElem_cons_succ, List.setIfInBounds_toArray, List.set_cons_zero, List.set_cons_succ]
                    refine wpAnyT_ready (rs := [6]) (by kernel_rfl) (by simp) ?_
                    refine AllReadyT.cons rfl (by kernel_rfl) (fun K hK => ?_) AllReadyT.nil
                    go_simp
                    refine hK.out _ _ (HH.out _ (Turned.of_below (below_drew1 (below_alloc wr (.cells #[.int .i64 yo, .int .i64 yd, .int .i64 yc, .int .i64 ya, .int .i64 yq] tRow))))) (fun hHeld => ?_)
                    clear hK K
                    try simp only [Act.put, List.getElem_toArray, List.getElem_cons_zero, List.getElem_cons_succ, List.setIfInBounds_toArray, List.set_cons_zero, List.set_cons_succ]
                    refine wpAnyT_ready (rs := [7]) (by kernel_rfl) (by simp) ?_
                    refine AllReadyT.cons rfl (by kernel_rfl) (fun K hK => ?_) AllReadyT.nil
                    refine step_append_any _ rfl (.tmp 103) (.tmp 108) tRows rfl (b5 + 2) tRow i0 (mkRow ((0, 0), 0, 0, 0)) 5 40 Tryz.underlying22 hi hz0 hz1 hz2 rfl (by decide) (.slice Ar LK.length cr) LK.length (LK.flatMap encR) rfl (own_keep HIr.out.own (below_drew1 (below_alloc wr (.cells #[.int .i64 yo, .int .i64 yd, .int .i64 yc, .int .i64 ya, .int .i64 yq] tRow)))) 1 (encR ((yo, yd), yc, ya, yq)) (src_blk (xs := encR ((yo, yd), yc, ya, yq)) (heap_new wr (.cells #[.int .i64 yo, .int .i64 yd, .int .i64 yc, .int .i64 ya, .int .i64 yq] tRow)) (encR_one _)) (by unfold maxLen; omega) (by omega) (by have := heap_lt HIr.out.s6; simp; omega) ?_
                    intro v6 w6 ho6 hg6 hat6
                    obtain ⟨A6, c6, rfl, _⟩ := own_slice ho6
                    have ht6 : Turned (fun j' => (Value.ownBlock (.slice Ar LK.length cr)) = some j') wr w6 := (Turned.of_below (below_drew1 (below_alloc wr (.cells #[.int .i64 yo, .int .i64 yd, .int .i64 yc, .int .i64 ya, .int .i64 yq] tRow)))).trans (Turned.of_grown hg6 (fun j h => h))
                    refine hK.out _ _ (HH.out _ (ht6)) (fun hHeld => ?_)
                    clear hK K
                    try simp only [Act.put, List.getElem_toArray, List.getElem_cons_zero, List.getElem_cons_succ, List.setIfInBounds_toArray, List.set_cons_zero, List.set_cons_succ]
                    have HP := Lib.hid (HIr.out.push (y := ((yo, yd), yc, ya, yq)) ho6 ht6)
                    have hs6 := heap_turned HIr.out.s6 ht6 (fun e => by have := (HIr.out.own.lt _ e).1; omega)
                    have HO6 := Lib.hid (own_turned HOr.out ht6 (fun j' hj' e => HNk.out (e.trans hj'.symm)))
                    have HC6 := Lib.hid (HCC.out w6 ht6)
                    have HN6 := Lib.hid (show Value.ownBlock (.slice A6 _ c6) ≠ some bm from fun e => by rcases hat6 with h | h; exact HNk.out (h.symm.trans e); (rw [e] at h; injection h with h; simp at h; omega))
                    have e2 := cell_at hs6 2 rfl
                    have f2 := frozen_at hs6 2
                    clear ho6 hg6 hat6 ht6 hs6 s0 s1 s2 c0 c1 c2 c3 c4
                    refine wpAnyT_go (i := 8) (v := ?vt8_7) rfl (by kernel_rfl) (by kernel_rfl) (by kernel_rfl) (fun _ _ _ h => h) (by kernel_rfl) (Or.inl ⟨by rfl, ?hyt8_7⟩) (by assumption) ?restt8_7
                    case hyt8_7 => (intro w0 hSw; (try dsimp only at hSw); go_simp; try with_reducible rfl)
                    case' restt8_7 => try simp only [Act.put, List.getElem_toArray, List.getElem_cons_zero, List.getElem_cons_succ, List.setIfInBounds_toArray, List.set_cons_zero, List.set_cons_succ]
                    refine wpAnyT_ready (rs := [9]) (by kernel_rfl) (by simp) ?_
                    refine AllReadyT.last rfl (by kernel_rfl) (fun K hK => ?_) AllReadyT.nil
                    go_simp
                    refine hK.out _ _ trivial (fun hHeld => ?_)
                    clear hK K
                    try simp only [Act.put, List.getElem_toArray, List.getElem_cons_zero, List.getElem_cons_succ, List.setIfInBounds_toArray, List.set_cons_zero, List.set_cons_succ]
                    refine wpAnyT_done (by kernel_rfl) ?_ _
                    refine NoPanic.normal ?_
                    clear hHeld HH HCC
                    obtain ⟨w8, hw8⟩ : ∃ w8, w8 = w6.setCell ⟨b5 + 1, 2, none⟩ (.slice A6 (LK.length + 1) c6) := ⟨_, rfl⟩
                    rw [← hw8] at HP ⊢
                    have HO8 := Lib.hid (show w8.ownsRow (b5 + 2) tRow 5 (.slice (some ⟨bm, 0, none⟩) rw.length cm) rw.length (rw.flatMap encR) by rw [hw8]; exact own_turned HO6.out (turned_set w6 (b5 + 1) 2 _) (fun j' hj' e => by have := (HO6.out.lt j' hj').1; omega))
                    have HC8 := Lib.hid (show w8.cell? ⟨bm, j * 5, none⟩ = some (.int .i64 yo) ∧ w8.cell? ⟨bm, j * 5 + 4, none⟩ = some (.int .i64 yq) by rw [hw8]; exact ⟨(cell_set_ne w6 (by omega) _).trans HC6.out.1, (cell_set_ne w6 (by omega) _).trans HC6.out.2.2.2.2⟩)
                    clear hw8 e2 f2 HO6 HC6
                    obtain ⟨c0, c4⟩ := HC8.out
                    have hwrap : IntKind.i64.wrap (st + Mf.total (rw.take j) + yq) = st + Mf.total (rw.take j) + yq := IntWalk.i64_in _ (by have := HTOT.out j; have := HYR.out; omega)
                    go_upto_region 28 with (fail)
                    go_quiet (fail)
                    go_wp2_with fail
                    have hi9 := HP.out.below (below_dq (Below.refl _ w8) nq)
                    have ho9 := own_keep HO8.out (below_dq (Below.refl _ w8) nq)
                    clear c0 c4 hwrap
                    go_roundw
                    case rel => exact ⟨j + 1, _, by go_num, by omega, by rw [if_neg (by omega)]; rw [HYR.out.1], by rw [HTT.out, Int.add_assoc], by rw [HTK.out, ← List.append_assoc, HLK.out]; exact hi9, ho9, HN6.out⟩
                    case measure => simp [intOf]; omega
                  · obtain rfl : j = rw.length := by omega
                    rw [List.take_length] at HIr ⊢
                    rw [if_neg (by have := HNZ.out; omega)]
                    have hwo : IntKind.i64.wrap ((so : Int) + 1) = (so : Int) + 1 := IntWalk.i64_in _ (by omega)
                    have HI9 := HIr
                    go_upto_region 30 with (fail)
                    go_wp2_with fail
                    go_roundw
                    case rel => exact ⟨k + 1, ⟨sq, sl ++ rw, so + 1, o, st + Mf.total rw, false⟩, vk, by go_num, rfl, rfl, rfl, rfl, by omega, HLN.out, HI9.out, HNEXT.out⟩
                    case measure => simp [intOf]; omega
              | inr x =>
                rw [hf] at hst1
                simp only [hf] at HT
                have HBADR := Lib.hid (show R = .inr (k + 1, x.1, x.2) by rw [HST.out, hst1])
                obtain ⟨ci, hci⟩ : ∃ ci : Int, (x.1 : Int) = ci := ⟨_, rfl⟩
                obtain ⟨ki, hki⟩ : ∃ ki : Int, (x.2 : Int) = ki := ⟨_, rfl⟩
                have hc1 := (Mf.mid_bad hf).1
                have hc0 : 0 < ci := by omega
                have hcz := beqF (show ¬ ci = 0 by omega)
                clear hf hc1
                rw [hci, hki] at HT
                have HCI := Lib.hid hci; have HKI := Lib.hid hki
                clear hci hki
                clear hst1
                have hwo : IntKind.i64.wrap ((so : Int) + 1) = (so : Int) + 1 := IntWalk.i64_in _ (by omega)
                go_upto_region 25 with (go_at_call 54; refine HT.out.mono ?_; rintro e w3 ⟨rfl, hb3⟩)
                have HI3 := Lib.hid (HI.out.below hb3)
                clear hb3 hcell c0
                go_loopw [9, 10, 17] (fun t9 t10 t17 wr => t17 = .int .i64 0 ∧ wr = w3) (fun _ _ _ _ => 0)
                case atStart => exact ⟨rfl, rfl⟩
                case round =>
                  obtain ⟨rfl, rfl⟩ := hrel
                  go_upto_region 30 with (fail)
                  obtain ⟨m0, m1, m2, f0, f1, f2⟩ := cell3 HI3.out.r0
                  obtain ⟨p0, p1, p2, e0, e1, e2⟩ := cell3 HI3.out.r1
                  have hlt5 := HI3.out.lt
                  go_wp2_with fail
                  obtain ⟨w6, hw6⟩ : ∃ w6, w6 = ((wr.setCell ⟨nb, 0, none⟩ (.int .i64 0)).setCell ⟨nb, 1, none⟩ (.int .i64 0)).setCell ⟨nb, 2, none⟩ (.slice none 0 0) := ⟨_, rfl⟩
                  have hr6 : w6.heap[nb]? = some (.cells #[.int .i64 0, .int .i64 0, .slice none 0 0] tStat (0, 0)) := by rw [hw6]; exact set3 HI3.out.r0 _ _ _
                  have hs6 : w6.heap[nb + 1]? = some (.cells #[.int .i64 0, .int .i64 0, .int .i64 0] tRej (0, 0)) := by rw [hw6]; exact set_other (set_other (set_other HI3.out.r1 (by omega) _) (by omega) _) (by omega) _
                  have hb6 : Below nb w w6 := by rw [hw6]; exact below_set3 (HB01.out.trans (HI3.out.tab.mono (by omega))) (Nat.le_refl _) _ _ _
                  rw [← hw6]
                  clear hw6
                  obtain ⟨w7, hw7⟩ : ∃ w7, w7 = ((w6.setCell ⟨nb + 1, 0, none⟩ (.int .i64 ((k : Int) + 1))).setCell ⟨nb + 1, 1, none⟩ (.int .i64 ci)).setCell ⟨nb + 1, 2, none⟩ (.int .i64 ki) := ⟨_, rfl⟩
                  have hs7 := set3 hs6 (.int .i64 ((k : Int) + 1)) (.int .i64 ci) (.int .i64 ki)
                  rw [← hw7] at hs7
                  have hr7 : w7.heap[nb]? = some (.cells #[.int .i64 0, .int .i64 0, .slice none 0 0] tStat (0, 0)) := by rw [hw7]; exact set_other (set_other (set_other hr6 (by omega) _) (by omega) _) (by omega) _
                  have hb7 : Below nb w w7 := by rw [hw7]; exact below_set3 hb6 (by omega) _ _ _
                  rw [← hw7]
                  clear hw7 m0 m1 m2 f0 f1 f2 p0 p1 p2 e0 e1 e2
                  obtain ⟨m0, m1, m2, _⟩ := cell3 hr7
                  obtain ⟨n0, n1, n2, _⟩ := cell3 hs7
                  refine bodyPost_ret (v := .tuple #[.agg #[.int .i64 0, .int .i64 0, .slice none 0 0], .agg #[.int .i64 ((k : Int) + 1), .int .i64 ci, .int .i64 ki]]) (by simp [results, Tryz.results23, go_sem, m0, m1, m2, n0, n1, n2]) rfl ⟨?_, HNB.out ▸ hb7⟩
                  exact parsed_bad (R := Mf.ofRun L.length R) (a := k + 1) (b := x.1) (c := x.2) (by rw [HBADR.out]; rfl) (by omega) HCI.out.symm HKI.out.symm
    · have hRE := Mf.run_end hkl ⟨sq, sl, so, sla, st, en⟩
      rw [HR.out] at hRE
      have HRE := Lib.hid hRE
      obtain rfl : k = L.length := by omega
      have hll : (L.length : Int) + 1 ≤ 65537 := by omega
      clear hRE HR hk hkl
      obtain ⟨m0, m1, m2, f0, f1, f2⟩ := cell3 HI.out.r0
      obtain ⟨p0, p1, p2, e0, e1, e2⟩ := cell3 HI.out.r1
      have hlt5 := HI.out.lt
      cases en with
      | false =>
        have HOUT := Lib.hid (show Mf.ofRun L.length R = ((0, 0, []), L.length + 1, 1, 7) by rw [HRE.out]; rfl)
        go_wp2_with fail
        obtain ⟨w6, hw6⟩ : ∃ w6, w6 = ((wr.setCell ⟨nb, 0, none⟩ (.int .i64 0)).setCell ⟨nb, 1, none⟩ (.int .i64 0)).setCell ⟨nb, 2, none⟩ (.slice none 0 0) := ⟨_, rfl⟩
        have hr6 : w6.heap[nb]? = some (.cells #[.int .i64 0, .int .i64 0, .slice none 0 0] tStat (0, 0)) := by rw [hw6]; exact set3 HI.out.r0 _ _ _
        have hs6 : w6.heap[nb + 1]? = some (.cells #[.int .i64 0, .int .i64 0, .int .i64 0] tRej (0, 0)) := by rw [hw6]; exact set_other (set_other (set_other HI.out.r1 (by omega) _) (by omega) _) (by omega) _
        have hb6 : Below nb w w6 := by rw [hw6]; exact below_set3 (HB01.out.trans (HI.out.tab.mono (by omega))) (Nat.le_refl _) _ _ _
        rw [← hw6]
        clear hw6
        obtain ⟨w7, hw7⟩ : ∃ w7, w7 = ((w6.setCell ⟨nb + 1, 0, none⟩ (.int .i64 ((L.length : Int) + 1))).setCell ⟨nb + 1, 1, none⟩ (.int .i64 1)).setCell ⟨nb + 1, 2, none⟩ (.int .i64 7) := ⟨_, rfl⟩
        have hs7 := set3 hs6 (.int .i64 ((L.length : Int) + 1)) (.int .i64 1) (.int .i64 7)
        rw [← hw7] at hs7
        have hr7 : w7.heap[nb]? = some (.cells #[.int .i64 0, .int .i64 0, .slice none 0 0] tStat (0, 0)) := by rw [hw7]; exact set_other (set_other (set_other hr6 (by omega) _) (by omega) _) (by omega) _
        have hb7 : Below nb w w7 := by rw [hw7]; exact below_set3 hb6 (by omega) _ _ _
        rw [← hw7]
        clear hw7 m0 m1 m2 f0 f1 f2 p0 p1 p2 e0 e1 e2
        obtain ⟨m0, m1, m2, _⟩ := cell3 hr7
        obtain ⟨n0, n1, n2, _⟩ := cell3 hs7
        refine bodyPost_ret (v := .tuple #[.agg #[.int .i64 0, .int .i64 0, .slice none 0 0], .agg #[.int .i64 ((L.length : Int) + 1), .int .i64 1, .int .i64 7]]) (by simp [results, Tryz.results23, go_sem, m0, m1, m2, n0, n1, n2]) rfl ⟨?_, HNB.out ▸ hb7⟩
        exact parsed_bad (R := Mf.ofRun L.length R) (a := L.length + 1) (b := 1) (c := 7) HOUT.out (by omega) (by omega) (by omega)
      | true =>
        have HOUT := Lib.hid (show Mf.ofRun L.length R = ((2, sq, sl), 0, 0, 0) by rw [HRE.out]; rfl)
        obtain ⟨Ar, cr, rfl, _⟩ := own_slice HI.out.own
        obtain ⟨s0, s1, s2, _⟩ := cell3 HI.out.s6
        go_wp2_with fail
        clear s0 s1 s2
        obtain ⟨w6, hw6⟩ : ∃ w6, w6 = ((wr.setCell ⟨nb, 0, none⟩ (.int .i64 2)).setCell ⟨nb, 1, none⟩ (.int .i64 sq)).setCell ⟨nb, 2, none⟩ (.slice Ar sl.length cr) := ⟨_, rfl⟩
        have hr6 : w6.heap[nb]? = some (.cells #[.int .i64 2, .int .i64 sq, .slice Ar sl.length cr] tStat (0, 0)) := by rw [hw6]; exact set3 HI.out.r0 _ _ _
        have hs6 : w6.heap[nb + 1]? = some (.cells #[.int .i64 0, .int .i64 0, .int .i64 0] tRej (0, 0)) := by rw [hw6]; exact set_other (set_other (set_other HI.out.r1 (by omega) _) (by omega) _) (by omega) _
        have hb6 : Below nb w w6 := by rw [hw6]; exact below_set3 (HB01.out.trans (HI.out.tab.mono (by omega))) (Nat.le_refl _) _ _ _
        have ho6 : w6.ownsRow (b5 + 2) tRow 5 (.slice Ar sl.length cr) sl.length (sl.flatMap encR) := by rw [hw6]; exact own_turned HI.out.own (turned_set3 wr nb _ _ _) (fun j hj e => by have := (HI.out.own.lt j hj).1; omega)
        rw [← hw6]
        clear hw6
        obtain ⟨w7, hw7⟩ : ∃ w7, w7 = ((w6.setCell ⟨nb + 1, 0, none⟩ (.int .i64 0)).setCell ⟨nb + 1, 1, none⟩ (.int .i64 0)).setCell ⟨nb + 1, 2, none⟩ (.int .i64 0) := ⟨_, rfl⟩
        have hs7 := set3 hs6 (.int .i64 0) (.int .i64 0) (.int .i64 0)
        rw [← hw7] at hs7
        have hr7 : w7.heap[nb]? = some (.cells #[.int .i64 2, .int .i64 sq, .slice Ar sl.length cr] tStat (0, 0)) := by rw [hw7]; exact set_other (set_other (set_other hr6 (by omega) _) (by omega) _) (by omega) _
        have ho7 : w7.ownsRow (b5 + 2) tRow 5 (.slice Ar sl.length cr) sl.length (sl.flatMap encR) := by rw [hw7]; exact own_turned ho6 (turned_set3 w6 (nb + 1) _ _ _) (fun j hj e => by have := (ho6.lt j hj).1; omega)
        have hb7 : Below nb w w7 := by rw [hw7]; exact below_set3 hb6 (by omega) _ _ _
        rw [← hw7]
        clear hw7 m0 m1 m2 f0 f1 f2 p0 p1 p2 e0 e1 e2
        obtain ⟨m0, m1, m2, _⟩ := cell3 hr7
        obtain ⟨n0, n1, n2, _⟩ := cell3 hs7
        refine bodyPost_ret (v := .tuple #[.agg #[.int .i64 2, .int .i64 sq, .slice Ar sl.length cr], .agg #[.int .i64 0, .int .i64 0, .int .i64 0]]) (by simp [results, Tryz.results23, go_sem, m0, m1, m2, n0, n1, n2]) rfl ⟨?_, HNB.out ▸ hb7⟩
        refine ⟨.slice Ar sl.length cr, ?_, ?_⟩
        · rw [HOUT.out]; rfl
        · rw [HOUT.out]; exact rd_own ho7

set_option linter.unusedSimpArgs false in
set_option linter.unusedVariables false in
set_option maxRecDepth 100000 in
set_option maxHeartbeats 8000000 in
theorem mrefParse_bad (s : ByteArray) (w : World) (L : List Line) (a b c : Nat) (hc : c ≠ 0) (hcall : ∀ W, Calls Tryz.prog 17 #[.string s] W fun e w' => (∃ v, e = .returned (.tuple #[v, rejV (a, b, c)]) ∧ Rowz w' w'.heap.size v L) ∧ Below W.heap.size W w') :
    Calls Tryz.prog 23 #[.string s] w fun e w' => ParsedS ((0, 0, []), a, b, c) e w' ∧ Below w.heap.size w w' := by
  obtain ⟨wa, hwa⟩ : ∃ wa, (w.alloc (.cells #[.int .i64 0, .int .i64 0, .slice none 0 0] tStat)).alloc (.cells #[.int .i64 0, .int .i64 0, .int .i64 0] tRej) = wa := ⟨_, rfl⟩
  have hWA := Lib.hid hwa
  obtain ⟨ai, hai⟩ : ∃ ai : Int, (a : Int) = ai := ⟨_, rfl⟩
  obtain ⟨bi, hbi⟩ : ∃ bi : Int, (b : Int) = bi := ⟨_, rfl⟩
  obtain ⟨ci, hci⟩ : ∃ ci : Int, (c : Int) = ci := ⟨_, rfl⟩
  unfold rejV at hcall
  simp only [hai, hbi, hci] at hcall
  have HCALL := Lib.hid hcall
  have hcn := bneT (show ¬ ci = 0 by omega)
  have HA := Lib.hid hai; have HB := Lib.hid hbi; have HC := Lib.hid hci
  clear hcall hwa hai hbi hci hc
  go_enter Tryz.func23, Tryz.ntmps23
  go_upto_region 1 with (fail)
  rw [hWA.out]
  go_wp2_with fail
  refine (HCALL.out _).mono ?_
  rintro e w1 ⟨⟨v, rfl, _⟩, hb1⟩
  go_upto_region 2 with (fail)
  obtain ⟨W, hW⟩ : ∃ W, W = w1.alloc (.cells #[.int .i64 ai, .int .i64 bi, .int .i64 ci] tRej) := ⟨_, rfl⟩
  rw [← hW]
  have h2 := two_blocks w (.cells #[.int .i64 0, .int .i64 0, .slice none 0 0] tStat) (.cells #[.int .i64 0, .int .i64 0, .int .i64 0] tRej) rfl
  rw [hWA.out] at h2
  have h3 := one_block w1 _ hW.symm
  have HR0 := Lib.hid (heap_keep (heap_keep h2.2.1 hb1) h3.1); have HR1 := Lib.hid (heap_keep (heap_keep h2.2.2 hb1) h3.1); have HX := Lib.hid h3.2
  have HBL := Lib.hid (bch (bch h2.1 hb1 h2.1.size) h3.1 (bch h2.1 hb1 h2.1.size).size)
  have hlt : w.heap.size + 1 < w1.heap.size := heap_lt (heap_keep h2.2.2 hb1)
  clear hW h2 h3 hb1
  generalize hnb : w.heap.size = nb at HR0 HR1 HBL hlt ⊢
  generalize w1.heap.size = b5 at HX hlt ⊢
  have HNB := Lib.hid hnb
  clear hnb
  obtain ⟨n0, n1, n2, g0, g1, g2⟩ := cell3 HX.out
  obtain ⟨m0, m1, m2, f0, f1, f2⟩ := cell3 HR0.out
  obtain ⟨p0, p1, p2, e0, e1, e2⟩ := cell3 HR1.out
  go_wp2_with fail
  go_region
  go_wp2_with fail
  obtain ⟨w6, hw6⟩ : ∃ w6, w6 = ((W.setCell ⟨nb, 0, none⟩ (.int .i64 0)).setCell ⟨nb, 1, none⟩ (.int .i64 0)).setCell ⟨nb, 2, none⟩ (.slice none 0 0) := ⟨_, rfl⟩
  have hr6 : w6.heap[nb]? = some (.cells #[.int .i64 0, .int .i64 0, .slice none 0 0] tStat (0, 0)) := by rw [hw6]; exact set3 HR0.out _ _ _
  have hs6 : w6.heap[nb + 1]? = some (.cells #[.int .i64 0, .int .i64 0, .int .i64 0] tRej (0, 0)) := by rw [hw6]; exact set_other (set_other (set_other HR1.out (by omega) _) (by omega) _) (by omega) _
  have hb6 : Below nb w w6 := by rw [hw6]; exact below_set3 HBL.out (Nat.le_refl _) _ _ _
  rw [← hw6]
  clear hw6
  obtain ⟨w7, hw7⟩ : ∃ w7, w7 = ((w6.setCell ⟨nb + 1, 0, none⟩ (.int .i64 ai)).setCell ⟨nb + 1, 1, none⟩ (.int .i64 bi)).setCell ⟨nb + 1, 2, none⟩ (.int .i64 ci) := ⟨_, rfl⟩
  have hs7 := set3 hs6 (.int .i64 ai) (.int .i64 bi) (.int .i64 ci)
  rw [← hw7] at hs7
  have hr7 : w7.heap[nb]? = some (.cells #[.int .i64 0, .int .i64 0, .slice none 0 0] tStat (0, 0)) := by rw [hw7]; exact set_other (set_other (set_other hr6 (by omega) _) (by omega) _) (by omega) _
  have hb7 : Below nb w w7 := by rw [hw7]; exact below_set3 hb6 (by omega) _ _ _
  rw [← hw7]
  clear hw7 m0 m1 m2 f0 f1 f2 p0 p1 p2 e0 e1 e2 n0 n1 n2 g0 g1 g2
  obtain ⟨m0, m1, m2, _⟩ := cell3 hr7
  obtain ⟨n0, n1, n2, _⟩ := cell3 hs7
  refine bodyPost_ret (v := .tuple #[.agg #[.int .i64 0, .int .i64 0, .slice none 0 0], .agg #[.int .i64 ai, .int .i64 bi, .int .i64 ci]]) (by simp [results, Tryz.results23, go_sem, m0, m1, m2, n0, n1, n2]) rfl ⟨?_, below_drew1 (HNB.out ▸ hb7)⟩
  exact parsed_bad rfl HA.out.symm HB.out.symm HC.out.symm
/-- The document's reading of a file. -/
theorem mrefParse_any (s : ByteArray) (w : World) (hs : s.size ≤ 65536) : Calls Tryz.prog 23 #[.string s] w fun e w' => ParsedS (Mf.parseS s.data.toList) e w' ∧ Below w.heap.size w w' := by
  have hcall : ∀ W, Calls Tryz.prog 17 #[.string s] W fun e w' => Told (Csv.parse s.data.toList) e w' ∧ Below W.heap.size W w' := fun W => refParse_any s W hs
  rcases Sk.csv_cases s.data.toList with ⟨a, b, c, e, hc, _, _⟩ | ⟨L, e, _⟩
  · have hp : Mf.parseS s.data.toList = ((0, 0, []), a, b, c) := by unfold Mf.parseS; rw [e]; simp only []; rw [if_neg hc]
    rw [hp]
    refine mrefParse_bad s w [] a b c hc fun W => (hcall W).mono fun e2 w' h => ⟨?_, h.2⟩
    have h1 := h.1
    rw [e] at h1
    exact h1
  · have hp : Mf.parseS s.data.toList = Mf.ofTable L := by unfold Mf.parseS; rw [e]; rfl
    rw [hp]
    exact mrefParse_ok s w L e hcall
end Go.Proofs.YtgpjbigelblanaaGreatDoor

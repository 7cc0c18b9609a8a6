/- consignorref04.Parse computes Csv.parse, too. -/
import Derived.Test.YtgpjbigelblanaaGreatDoorCsvParse
namespace Go.Proofs.YtgpjbigelblanaaGreatDoor
open Go.RowKit

set_option maxHeartbeats 1000000 in
theorem refWhere_any (s : ByteArray) (at_ : Nat) (code : Int) (w : World) (hs : s.size ≤ 65536) (hk : at_ ≤ s.size) :
    Calls Tryz.prog 43 #[.string s, .int .i64 at_, .int .i64 code] w fun e w' => e = .returned (rej (s.data.toList.take at_) code) ∧ Below w.heap.size w w' := by
  go_enter Tryz.func43, Tryz.ntmps43
  go_wp2
  go_loopw [8] (fun i wr => ∃ j : Nat, j ≤ at_ ∧ i = .int .i64 j ∧ wr = (w.alloc (Obj.cells #[Value.int IntKind.i64 0, Value.int IntKind.i64 0, Value.int IntKind.i64 0] 32)).alloc (Obj.cells #[Value.int IntKind.i64 ((Csv.lc (s.data.toList.take j)).1 : Int), Value.int IntKind.i64 ((Csv.lc (s.data.toList.take j)).2 : Int), Value.int IntKind.i64 code] 32)) (fun i _ => at_ - (intOf i).toNat)
  case atStart => exact ⟨0, Nat.zero_le _, rfl, rfl⟩
  case round =>
    obtain ⟨j, hj, rfl, rfl⟩ := hrel
    have hb := lc_le (s.data.toList.take j)
    have hlen : (s.data.toList.take j).length ≤ j := List.length_take_le _ _
    by_cases hlt : j < at_
    · have hjs : j < s.size := by omega
      have hsn := lc_snoc (s.data.toList.take j) s[j]
      rw [← take_snocC s j hjs] at hsn
      obtain ⟨l1, h1⟩ : ∃ n : Nat, (Csv.lc (s.data.toList.take j)).1 = n := ⟨_, rfl⟩
      obtain ⟨l2, h2⟩ : ∃ n : Nat, (Csv.lc (s.data.toList.take j)).2 = n := ⟨_, rfl⟩
      rw [h1, h2] at hsn hb ⊢
      by_cases hc : s[j] = 10
      · rw [if_pos hc] at hsn
        have g1 : (s[j].toNat : Int) = 10 := by rw [hc]; rfl
        have HS := Lib.hid hsn
        clear hsn hc h1 h2
        go_wp2
        go_roundw
        case rel => exact ⟨j + 1, by omega, by go_num, by rw [HS.out]; rfl⟩
        case measure => simp [intOf]; omega
      · rw [if_neg hc] at hsn
        have g1 := beqF (fun e => hc ((u8_of s[j] 10 (by decide)).1 e))
        have HS := Lib.hid hsn
        clear hsn hc h1 h2
        go_wp2
        go_roundw
        case rel => exact ⟨j + 1, by omega, by go_num, by rw [HS.out]; rfl⟩
        case measure => simp [intOf]; omega
    · obtain rfl : j = at_ := by omega
      go_wp2
      exact bodyPost_ret (v := rej (s.data.toList.take j) code) (by simp [results, Tryz.results43, go_sem, rej]) rfl ⟨rfl, ((Below.refl _ _).alloc (Nat.le_refl _) _).alloc (by simp) _⟩
theorem refWhere_at (s : ByteArray) (nx : Nat) (hs : s.size ≤ 65536) (hk : nx ≤ s.size) : ∃ la lb : Nat, Hid (Csv.lc (s.data.toList.take nx) = (la, lb)) ∧ Hid (∀ (code : Int) (w : World),
    Calls Tryz.prog 43 #[.string s, .int .i64 nx, .int .i64 code] w fun e w' => e = .returned (.agg #[.int .i64 (la : Int), .int .i64 (lb : Int), .int .i64 code]) ∧ Below w.heap.size w w') :=
  ⟨_, _, rfl, fun code w => refWhere_any s nx code w hs hk⟩

theorem go_some (s : ByteArray) (i : Nat) (h : i < s.size) (st st' : Csv.St) (hs : Csv.step st s[i] = some st') : Csv.go (s.data.toList.drop i) st i = Csv.go (s.data.toList.drop (i + 1)) st' (i + 1) := by
  rw [drop_cons s i h]
  simp only [Csv.go, hs]
theorem go_none (s : ByteArray) (i : Nat) (h : i < s.size) (st : Csv.St) (hs : Csv.step st s[i] = none) : Csv.parseOf s.data.toList (Csv.go (s.data.toList.drop i) st i) = ([], (Csv.lc (s.data.toList.take i)).1, (Csv.lc (s.data.toList.take i)).2, 2) := by
  rw [drop_cons s i h]
  simp only [Csv.go, hs]
  rfl
theorem go_end (s : ByteArray) (i : Nat) (h : ¬ i < s.size) (st : Csv.St) : Csv.parseOf s.data.toList (Csv.go (s.data.toList.drop i) st i) = if Csv.fin s.data.toList st = 0 then (st.rows, 0, 0, 0) else ([], (Csv.lc s.data.toList).1, (Csv.lc s.data.toList).2, Csv.fin s.data.toList st) := by
  rw [drop_all s i (by omega)]
  rfl
theorem last_eq (s : ByteArray) (h : 0 < s.size) : s.data.toList.getLast? = some (s[s.size - 1]'(by omega)) := by
  have h1 : s.data.toList.length = s.size := by simp
  rw [List.getLast?_eq_getElem?, h1, List.getElem?_eq_getElem (by rw [h1]; omega)]
  rfl
theorem ne_nil (s : ByteArray) (h : 0 < s.size) : s.data.toList ≠ [] := by
  intro e
  have h1 : s.data.toList.length = s.size := by simp
  rw [e] at h1
  simp at h1
  omega

set_option maxRecDepth 100000 in
set_option maxHeartbeats 16000000 in
theorem refParse_any (s : ByteArray) (w : World) (hs : s.size ≤ 65536) :
    Calls Tryz.prog 17 #[.string s] w fun e w' => Told (Csv.parse s.data.toList) e w' ∧ Below w.heap.size w w' := by
  obtain ⟨i0, hi, hz0, hz1, hz2⟩ := info_parts fld_info
  obtain ⟨j0, hj, hy0, hy1, hy2⟩ := info_parts line_info
  have hR : Csv.parse s.data.toList = Csv.parseOf s.data.toList (Csv.go (s.data.toList.drop 0) Csv.St.init 0) := by
    unfold Csv.parse
    rw [if_neg (by simp; omega)]
    rfl
  obtain ⟨R, hRR⟩ : ∃ R, Csv.parseOf s.data.toList (Csv.go (s.data.toList.drop 0) Csv.St.init 0) = R := ⟨_, rfl⟩
  rw [hR, hRR]
  clear hR
  go_enter Tryz.func17, Tryz.ntmps17
  go_wp2_with fail
  go_loopw [4, 5, 6, 7, 8] (fun vr v fv mv i wr => ∃ (j m : Nat) (rows : List (List (List UInt8))) (row : List (List UInt8)) (f : List UInt8) (vs : List Value), j ≤ s.size ∧ i = .int .i64 j ∧ fv = .string ⟨f.toArray⟩ ∧ mv = .int .i64 m ∧ m ≤ 3 ∧ Hid (Inv wr (w.heap.size + 1) vr v rows row vs) ∧ Hid (Csv.parseOf s.data.toList (Csv.go (s.data.toList.drop j) ⟨rows, row, f, m⟩ j) = R) ∧
      Hid (wr.heap[w.heap.size]? = some (.cells #[.int .i64 0, .int .i64 0, .int .i64 0] tRej (0, 0))) ∧ Hid (Below w.heap.size w wr) ∧ rows.length ≤ j ∧ row.length ≤ j ∧ f.length ≤ j) (fun _ _ _ _ i _ => s.size - (intOf i).toNat)
  case atStart => exact ⟨0, 0, [], [], [], [], by omega, rfl, rfl, rfl, by omega, Inv.start _ _, hRR, heap_alloc_new w _, (Below.refl _ _).alloc (Nat.le_refl _) _, by simp, by simp, by simp⟩
  case round =>
    obtain ⟨j, m, rows, row, f, vs, hjs, rfl, rfl, rfl, hm, HI, HR, HC, HW, hrl, hrl2, hfl⟩ := hrel
    obtain ⟨c0, c1, c2, f0, f1, f2⟩ := cell3 HC.out
    by_cases hlt : j < s.size
    · by_cases hm2 : m = 2
      · subst hm2
        by_cases hc : s[j] = 34
        · have g1 : (s[j].toNat : Int) = 34 := by rw [hc]; rfl
          have HS := Lib.hid (go_some s j hlt ⟨rows, row, f, 2⟩ ⟨rows, row, f, 3⟩ (by simp [Csv.step, hc]))
          clear hc
          go_wp2_with fail
          go_roundw
          case rel => exact ⟨j + 1, 3, rows, row, f, vs, by omega, by go_num, rfl, rfl, by omega, HI, by rw [← HS.out]; exact HR, HC, HW, by omega, by omega, by omega⟩
          case measure => simp [intOf]; omega
        · have g1 := beqF (show ¬ (s[j].toNat : Int) = 34 from fun e => hc ((u8_of s[j] 34 (by decide)).1 e))
          have HS := Lib.hid (go_some s j hlt ⟨rows, row, f, 2⟩ ⟨rows, row, f ++ [s[j]], 2⟩ (by simp [Csv.step, hc]))
          clear hc
          go_wp2_with fail
          go_roundw
          case rel => exact ⟨j + 1, 2, rows, row, f ++ [s[j]], vs, by omega, by go_num, by rw [← string_snoc], rfl, by omega, HI, by rw [← HS.out]; exact HR, HC, HW, by omega, by omega, by simp; omega⟩
          case measure => simp [intOf]; omega
      · obtain rfl | rfl | rfl : m = 0 ∨ m = 1 ∨ m = 3 := by omega
        · clear hm2
          by_cases h10 : s[j] = 10
          · have g : (s[j].toNat : Int) = 10 := by rw [h10]; rfl
            have HS := Lib.hid (go_some s j hlt ⟨rows, row, f, 0⟩ ⟨rows ++ [row ++ [f]], [], [], 0⟩ (by simp [Csv.step, h10]))
            clear h10
            go_wp2_with (first
              | (at_builtin; refine wpList_append_own_at _ rfl (.tmp 40) (.tmp 42) 43 rfl (w.heap.size + 1) tFld i0 (.string ⟨#[]⟩) 1 16 Tryz.underlying43 hi hz0 hz1 hz2 rfl (by decide) _ _ _ rfl (HI.out.inner.alloc _) ⟨wr.heap.size, 0, none⟩ 1 1 [strV f] rfl rfl (one_new _ _ _) (by intro u hu; simp at hu; subst hu; rfl) (by unfold maxLen; omega) (by omega) (by have := heap_lt HC.out; simp; omega) ?_; intro v2 w2 ho2 hg2 _ hat2; obtain ⟨a2, n2, cp2, rfl⟩ := own_shape ho2; have HI2 := Lib.hid ((HI.out.below ((Below.refl _ _).alloc (Nat.le_refl _) _)).field ho2 hg2 hat2); have HC2 := Lib.hid ((hg2.block _ (by have := heap_lt HC.out; simp; omega) (fun e => by have := (HI.out.inner.lt _ e.symm).1; omega)).trans (heap_keep HC.out ((Below.refl _ _).alloc (Nat.le_refl _) _))); have hz' := HW.out.size; have HB2 := Lib.hid ((HW.out.alloc (by omega) (.cells #[.string ⟨f.toArray⟩] tFld)).grown hg2 (by simp; omega) (fun k hk => by have := (HI.out.inner.lt _ hk).1; omega)); have hz2' := hg2.size; clear ho2 hg2 hat2)
              | (at_builtin; refine wpList_append_own_at _ rfl (.tmp 46) (.tmp 48) 38 rfl (w.heap.size + 1) tLine j0 (.slice none 0 0) 1 24 Tryz.underlying38 hj hy0 hy1 hy2 rfl (by decide) _ _ _ rfl (HI2.out.outer.alloc _) ⟨w2.heap.size, 0, none⟩ 1 1 [.slice a2 n2 cp2] rfl rfl (one_new _ _ _) (by intro u hu; simp at hu; subst hu; exact own_one HI2.out.inner) (by unfold maxLen; omega) (by omega) (by have := heap_lt HC2.out; simp; omega) ?_; intro v3 w3 ho3 hg3 _ hat3; have HI3 := Lib.hid ((HI2.out.below ((Below.refl _ _).alloc (Nat.le_refl _) _)).rowDone ho3 hg3); have HC3 := Lib.hid ((hg3.block _ (by have := heap_lt HC2.out; simp; omega) (fun e => by have := (HI2.out.outer.lt _ e.symm).1; omega)).trans (heap_keep HC2.out ((Below.refl _ _).alloc (Nat.le_refl _) _))); have HB3 := Lib.hid ((HB2.out.alloc (by have := HB2.out.size; omega) (.cells #[.slice a2 n2 cp2] tLine)).grown hg3 (by have := HB2.out.size; simp; omega) (fun k hk => by have := (HI2.out.outer.lt _ hk).1; omega)); clear ho3 hg3 hat3))
            go_roundw
            case rel => exact ⟨j + 1, 0, rows ++ [row ++ [f]], [], [], vs ++ [_], by omega, by go_num, rfl, rfl, by omega, HI3, by rw [← HS.out]; exact HR, HC3, HB3, by simp; omega, by simp, by simp⟩
            case measure => simp [intOf]; omega
          · by_cases h44 : s[j] = 44
            · have g : (s[j].toNat : Int) = 44 := by rw [h44]; rfl
              have HS := Lib.hid (go_some s j hlt ⟨rows, row, f, 0⟩ ⟨rows, row ++ [f], [], 0⟩ (by simp [Csv.step, h44]))
              clear h10 h44
              go_wp2_with (first
                | (at_builtin; refine wpList_append_own_at _ rfl (.tmp 40) (.tmp 42) 43 rfl (w.heap.size + 1) tFld i0 (.string ⟨#[]⟩) 1 16 Tryz.underlying43 hi hz0 hz1 hz2 rfl (by decide) _ _ _ rfl (HI.out.inner.alloc _) ⟨wr.heap.size, 0, none⟩ 1 1 [strV f] rfl rfl (one_new _ _ _) (by intro u hu; simp at hu; subst hu; rfl) (by unfold maxLen; omega) (by omega) (by have := heap_lt HC.out; simp; omega) ?_; intro v2 w2 ho2 hg2 _ hat2; obtain ⟨a2, n2, cp2, rfl⟩ := own_shape ho2; have HI2 := Lib.hid ((HI.out.below ((Below.refl _ _).alloc (Nat.le_refl _) _)).field ho2 hg2 hat2); have HC2 := Lib.hid ((hg2.block _ (by have := heap_lt HC.out; simp; omega) (fun e => by have := (HI.out.inner.lt _ e.symm).1; omega)).trans (heap_keep HC.out ((Below.refl _ _).alloc (Nat.le_refl _) _))); have hz' := HW.out.size; have HB2 := Lib.hid ((HW.out.alloc (by omega) (.cells #[.string ⟨f.toArray⟩] tFld)).grown hg2 (by simp; omega) (fun k hk => by have := (HI.out.inner.lt _ hk).1; omega)); have hz2' := hg2.size; clear ho2 hg2 hat2)
                | (at_builtin; refine wpList_append_own_at _ rfl (.tmp 46) (.tmp 48) 38 rfl (w.heap.size + 1) tLine j0 (.slice none 0 0) 1 24 Tryz.underlying38 hj hy0 hy1 hy2 rfl (by decide) _ _ _ rfl (HI2.out.outer.alloc _) ⟨w2.heap.size, 0, none⟩ 1 1 [.slice a2 n2 cp2] rfl rfl (one_new _ _ _) (by intro u hu; simp at hu; subst hu; exact own_one HI2.out.inner) (by unfold maxLen; omega) (by omega) (by have := heap_lt HC2.out; simp; omega) ?_; intro v3 w3 ho3 hg3 _ hat3; have HI3 := Lib.hid ((HI2.out.below ((Below.refl _ _).alloc (Nat.le_refl _) _)).rowDone ho3 hg3); have HC3 := Lib.hid ((hg3.block _ (by have := heap_lt HC2.out; simp; omega) (fun e => by have := (HI2.out.outer.lt _ e.symm).1; omega)).trans (heap_keep HC2.out ((Below.refl _ _).alloc (Nat.le_refl _) _))); have HB3 := Lib.hid ((HB2.out.alloc (by have := HB2.out.size; omega) (.cells #[.slice a2 n2 cp2] tLine)).grown hg3 (by have := HB2.out.size; simp; omega) (fun k hk => by have := (HI2.out.outer.lt _ hk).1; omega)); clear ho3 hg3 hat3))
              go_roundw
              case rel => exact ⟨j + 1, 0, rows, row ++ [f], [], vs, by omega, by go_num, rfl, rfl, by omega, HI2, by rw [← HS.out]; exact HR, HC2, HB2, by omega, by simp; omega, by simp⟩
              case measure => simp [intOf]; omega
            · by_cases h34 : s[j] = 34
              · have g : (s[j].toNat : Int) = 34 := by rw [h34]; rfl
                have HS := Lib.hid (go_some s j hlt ⟨rows, row, f, 0⟩ ⟨rows, row, f, 2⟩ (by simp [Csv.step, h34]))
                clear h10 h44 h34
                go_wp2_with fail
                go_roundw
                case rel => exact ⟨j + 1, 2, rows, row, f, vs, by omega, by go_num, rfl, rfl, by omega, HI, by rw [← HS.out]; exact HR, HC, HW, by omega, by omega, by first | omega | (simp; omega)⟩
                case measure => simp [intOf]; omega
              · have k10 := beqF (show ¬ (s[j].toNat : Int) = 10 from fun e => h10 ((u8_of s[j] 10 (by decide)).1 e))
                have k44 := beqF (show ¬ (s[j].toNat : Int) = 44 from fun e => h44 ((u8_of s[j] 44 (by decide)).1 e))
                have k34 := beqF (show ¬ (s[j].toNat : Int) = 34 from fun e => h34 ((u8_of s[j] 34 (by decide)).1 e))
                by_cases h13 : s[j] = 13
                · have g : (s[j].toNat : Int) = 13 := by rw [h13]; rfl
                  obtain ⟨la, lb, HL, HWH⟩ := refWhere_at s j hs hjs
                  have HS := Lib.hid (go_none s j hlt ⟨rows, row, f, 0⟩ (by simp [Csv.step, h13]))
                  clear k10 k44 k34 h10 h44 h34 h13
                  go_wp2_with (go_at_call 43; refine (HWH.out _ _).mono ?_; rintro e w2 ⟨rfl, HW2⟩; have HC2 := Lib.hid (heap_keep HC.out HW2); obtain ⟨k0, k1, k2, l0, l1, l2⟩ := cell3 HC2.out)
                  have HC3 := set3 HC2.out (.int .i64 (la : Int)) (.int .i64 (lb : Int)) (.int .i64 2)
                  have HB3 := below_set3 (bch HW.out HW2 HW.out.size) (Nat.le_refl _) (.int .i64 (la : Int)) (.int .i64 (lb : Int)) (.int .i64 2)
                  obtain ⟨m0, m1, m2, _⟩ := cell3 HC3
                  exact bodyPost_ret (v := .tuple #[.slice none 0 0, .agg #[.int .i64 (la : Int), .int .i64 (lb : Int), .int .i64 2]]) (by simp [results, Tryz.results17, go_sem, m0, m1, m2]) rfl ⟨told_bad (by have h := HS.out; rw [HR.out, HL.out] at h; exact h), HB3⟩
                · have k13 := beqF (show ¬ (s[j].toNat : Int) = 13 from fun e => h13 ((u8_of s[j] 13 (by decide)).1 e))
                  have HS := Lib.hid (go_some s j hlt ⟨rows, row, f, 0⟩ ⟨rows, row, f ++ [s[j]], 1⟩ (by simp [Csv.step, h10, h44, h34, h13]))
                  clear h10 h44 h34 h13
                  go_wp2_with fail
                  go_roundw
                  case rel => exact ⟨j + 1, 1, rows, row, f ++ [s[j]], vs, by omega, by go_num, by rw [← string_snoc], rfl, by omega, HI, by rw [← HS.out]; exact HR, HC, HW, by omega, by omega, by first | omega | (simp; omega)⟩
                  case measure => simp [intOf]; omega
        · clear hm2
          by_cases h10 : s[j] = 10
          · have g : (s[j].toNat : Int) = 10 := by rw [h10]; rfl
            have HS := Lib.hid (go_some s j hlt ⟨rows, row, f, 1⟩ ⟨rows ++ [row ++ [f]], [], [], 0⟩ (by simp [Csv.step, h10]))
            clear h10
            go_wp2_with (first
              | (at_builtin; refine wpList_append_own_at _ rfl (.tmp 40) (.tmp 42) 43 rfl (w.heap.size + 1) tFld i0 (.string ⟨#[]⟩) 1 16 Tryz.underlying43 hi hz0 hz1 hz2 rfl (by decide) _ _ _ rfl (HI.out.inner.alloc _) ⟨wr.heap.size, 0, none⟩ 1 1 [strV f] rfl rfl (one_new _ _ _) (by intro u hu; simp at hu; subst hu; rfl) (by unfold maxLen; omega) (by omega) (by have := heap_lt HC.out; simp; omega) ?_; intro v2 w2 ho2 hg2 _ hat2; obtain ⟨a2, n2, cp2, rfl⟩ := own_shape ho2; have HI2 := Lib.hid ((HI.out.below ((Below.refl _ _).alloc (Nat.le_refl _) _)).field ho2 hg2 hat2); have HC2 := Lib.hid ((hg2.block _ (by have := heap_lt HC.out; simp; omega) (fun e => by have := (HI.out.inner.lt _ e.symm).1; omega)).trans (heap_keep HC.out ((Below.refl _ _).alloc (Nat.le_refl _) _))); have hz' := HW.out.size; have HB2 := Lib.hid ((HW.out.alloc (by omega) (.cells #[.string ⟨f.toArray⟩] tFld)).grown hg2 (by simp; omega) (fun k hk => by have := (HI.out.inner.lt _ hk).1; omega)); have hz2' := hg2.size; clear ho2 hg2 hat2)
              | (at_builtin; refine wpList_append_own_at _ rfl (.tmp 46) (.tmp 48) 38 rfl (w.heap.size + 1) tLine j0 (.slice none 0 0) 1 24 Tryz.underlying38 hj hy0 hy1 hy2 rfl (by decide) _ _ _ rfl (HI2.out.outer.alloc _) ⟨w2.heap.size, 0, none⟩ 1 1 [.slice a2 n2 cp2] rfl rfl (one_new _ _ _) (by intro u hu; simp at hu; subst hu; exact own_one HI2.out.inner) (by unfold maxLen; omega) (by omega) (by have := heap_lt HC2.out; simp; omega) ?_; intro v3 w3 ho3 hg3 _ hat3; have HI3 := Lib.hid ((HI2.out.below ((Below.refl _ _).alloc (Nat.le_refl _) _)).rowDone ho3 hg3); have HC3 := Lib.hid ((hg3.block _ (by have := heap_lt HC2.out; simp; omega) (fun e => by have := (HI2.out.outer.lt _ e.symm).1; omega)).trans (heap_keep HC2.out ((Below.refl _ _).alloc (Nat.le_refl _) _))); have HB3 := Lib.hid ((HB2.out.alloc (by have := HB2.out.size; omega) (.cells #[.slice a2 n2 cp2] tLine)).grown hg3 (by have := HB2.out.size; simp; omega) (fun k hk => by have := (HI2.out.outer.lt _ hk).1; omega)); clear ho3 hg3 hat3))
            go_roundw
            case rel => exact ⟨j + 1, 0, rows ++ [row ++ [f]], [], [], vs ++ [_], by omega, by go_num, rfl, rfl, by omega, HI3, by rw [← HS.out]; exact HR, HC3, HB3, by simp; omega, by simp, by simp⟩
            case measure => simp [intOf]; omega
          · by_cases h44 : s[j] = 44
            · have g : (s[j].toNat : Int) = 44 := by rw [h44]; rfl
              have HS := Lib.hid (go_some s j hlt ⟨rows, row, f, 1⟩ ⟨rows, row ++ [f], [], 0⟩ (by simp [Csv.step, h44]))
              clear h10 h44
              go_wp2_with (first
                | (at_builtin; refine wpList_append_own_at _ rfl (.tmp 40) (.tmp 42) 43 rfl (w.heap.size + 1) tFld i0 (.string ⟨#[]⟩) 1 16 Tryz.underlying43 hi hz0 hz1 hz2 rfl (by decide) _ _ _ rfl (HI.out.inner.alloc _) ⟨wr.heap.size, 0, none⟩ 1 1 [strV f] rfl rfl (one_new _ _ _) (by intro u hu; simp at hu; subst hu; rfl) (by unfold maxLen; omega) (by omega) (by have := heap_lt HC.out; simp; omega) ?_; intro v2 w2 ho2 hg2 _ hat2; obtain ⟨a2, n2, cp2, rfl⟩ := own_shape ho2; have HI2 := Lib.hid ((HI.out.below ((Below.refl _ _).alloc (Nat.le_refl _) _)).field ho2 hg2 hat2); have HC2 := Lib.hid ((hg2.block _ (by have := heap_lt HC.out; simp; omega) (fun e => by have := (HI.out.inner.lt _ e.symm).1; omega)).trans (heap_keep HC.out ((Below.refl _ _).alloc (Nat.le_refl _) _))); have hz' := HW.out.size; have HB2 := Lib.hid ((HW.out.alloc (by omega) (.cells #[.string ⟨f.toArray⟩] tFld)).grown hg2 (by simp; omega) (fun k hk => by have := (HI.out.inner.lt _ hk).1; omega)); have hz2' := hg2.size; clear ho2 hg2 hat2)
                | (at_builtin; refine wpList_append_own_at _ rfl (.tmp 46) (.tmp 48) 38 rfl (w.heap.size + 1) tLine j0 (.slice none 0 0) 1 24 Tryz.underlying38 hj hy0 hy1 hy2 rfl (by decide) _ _ _ rfl (HI2.out.outer.alloc _) ⟨w2.heap.size, 0, none⟩ 1 1 [.slice a2 n2 cp2] rfl rfl (one_new _ _ _) (by intro u hu; simp at hu; subst hu; exact own_one HI2.out.inner) (by unfold maxLen; omega) (by omega) (by have := heap_lt HC2.out; simp; omega) ?_; intro v3 w3 ho3 hg3 _ hat3; have HI3 := Lib.hid ((HI2.out.below ((Below.refl _ _).alloc (Nat.le_refl _) _)).rowDone ho3 hg3); have HC3 := Lib.hid ((hg3.block _ (by have := heap_lt HC2.out; simp; omega) (fun e => by have := (HI2.out.outer.lt _ e.symm).1; omega)).trans (heap_keep HC2.out ((Below.refl _ _).alloc (Nat.le_refl _) _))); have HB3 := Lib.hid ((HB2.out.alloc (by have := HB2.out.size; omega) (.cells #[.slice a2 n2 cp2] tLine)).grown hg3 (by have := HB2.out.size; simp; omega) (fun k hk => by have := (HI2.out.outer.lt _ hk).1; omega)); clear ho3 hg3 hat3))
              go_roundw
              case rel => exact ⟨j + 1, 0, rows, row ++ [f], [], vs, by omega, by go_num, rfl, rfl, by omega, HI2, by rw [← HS.out]; exact HR, HC2, HB2, by omega, by simp; omega, by simp⟩
              case measure => simp [intOf]; omega
            · by_cases h34 : s[j] = 34
              · have g : (s[j].toNat : Int) = 34 := by rw [h34]; rfl
                obtain ⟨la, lb, HL, HWH⟩ := refWhere_at s j hs hjs
                have HS := Lib.hid (go_none s j hlt ⟨rows, row, f, 1⟩ (by simp [Csv.step, h34]))
                clear h10 h44 h34
                go_wp2_with (go_at_call 43; refine (HWH.out _ _).mono ?_; rintro e w2 ⟨rfl, HW2⟩; have HC2 := Lib.hid (heap_keep HC.out HW2); obtain ⟨k0, k1, k2, l0, l1, l2⟩ := cell3 HC2.out)
                have HC3 := set3 HC2.out (.int .i64 (la : Int)) (.int .i64 (lb : Int)) (.int .i64 2)
                have HB3 := below_set3 (bch HW.out HW2 HW.out.size) (Nat.le_refl _) (.int .i64 (la : Int)) (.int .i64 (lb : Int)) (.int .i64 2)
                obtain ⟨m0, m1, m2, _⟩ := cell3 HC3
                exact bodyPost_ret (v := .tuple #[.slice none 0 0, .agg #[.int .i64 (la : Int), .int .i64 (lb : Int), .int .i64 2]]) (by simp [results, Tryz.results17, go_sem, m0, m1, m2]) rfl ⟨told_bad (by have h := HS.out; rw [HR.out, HL.out] at h; exact h), HB3⟩
              · have k10 := beqF (show ¬ (s[j].toNat : Int) = 10 from fun e => h10 ((u8_of s[j] 10 (by decide)).1 e))
                have k44 := beqF (show ¬ (s[j].toNat : Int) = 44 from fun e => h44 ((u8_of s[j] 44 (by decide)).1 e))
                have k34 := beqF (show ¬ (s[j].toNat : Int) = 34 from fun e => h34 ((u8_of s[j] 34 (by decide)).1 e))
                by_cases h13 : s[j] = 13
                · have g : (s[j].toNat : Int) = 13 := by rw [h13]; rfl
                  obtain ⟨la, lb, HL, HWH⟩ := refWhere_at s j hs hjs
                  have HS := Lib.hid (go_none s j hlt ⟨rows, row, f, 1⟩ (by simp [Csv.step, h13]))
                  clear k10 k44 k34 h10 h44 h34 h13
                  go_wp2_with (go_at_call 43; refine (HWH.out _ _).mono ?_; rintro e w2 ⟨rfl, HW2⟩; have HC2 := Lib.hid (heap_keep HC.out HW2); obtain ⟨k0, k1, k2, l0, l1, l2⟩ := cell3 HC2.out)
                  have HC3 := set3 HC2.out (.int .i64 (la : Int)) (.int .i64 (lb : Int)) (.int .i64 2)
                  have HB3 := below_set3 (bch HW.out HW2 HW.out.size) (Nat.le_refl _) (.int .i64 (la : Int)) (.int .i64 (lb : Int)) (.int .i64 2)
                  obtain ⟨m0, m1, m2, _⟩ := cell3 HC3
                  exact bodyPost_ret (v := .tuple #[.slice none 0 0, .agg #[.int .i64 (la : Int), .int .i64 (lb : Int), .int .i64 2]]) (by simp [results, Tryz.results17, go_sem, m0, m1, m2]) rfl ⟨told_bad (by have h := HS.out; rw [HR.out, HL.out] at h; exact h), HB3⟩
                · have k13 := beqF (show ¬ (s[j].toNat : Int) = 13 from fun e => h13 ((u8_of s[j] 13 (by decide)).1 e))
                  have HS := Lib.hid (go_some s j hlt ⟨rows, row, f, 1⟩ ⟨rows, row, f ++ [s[j]], 1⟩ (by simp [Csv.step, h10, h44, h34, h13]))
                  clear h10 h44 h34 h13
                  go_wp2_with fail
                  go_roundw
                  case rel => exact ⟨j + 1, 1, rows, row, f ++ [s[j]], vs, by omega, by go_num, by rw [← string_snoc], rfl, by omega, HI, by rw [← HS.out]; exact HR, HC, HW, by omega, by omega, by first | omega | (simp; omega)⟩
                  case measure => simp [intOf]; omega
        · clear hm2
          by_cases h10 : s[j] = 10
          · have g : (s[j].toNat : Int) = 10 := by rw [h10]; rfl
            have HS := Lib.hid (go_some s j hlt ⟨rows, row, f, 3⟩ ⟨rows ++ [row ++ [f]], [], [], 0⟩ (by simp [Csv.step, h10]))
            clear h10
            go_wp2_with (first
              | (at_builtin; refine wpList_append_own_at _ rfl (.tmp 40) (.tmp 42) 43 rfl (w.heap.size + 1) tFld i0 (.string ⟨#[]⟩) 1 16 Tryz.underlying43 hi hz0 hz1 hz2 rfl (by decide) _ _ _ rfl (HI.out.inner.alloc _) ⟨wr.heap.size, 0, none⟩ 1 1 [strV f] rfl rfl (one_new _ _ _) (by intro u hu; simp at hu; subst hu; rfl) (by unfold maxLen; omega) (by omega) (by have := heap_lt HC.out; simp; omega) ?_; intro v2 w2 ho2 hg2 _ hat2; obtain ⟨a2, n2, cp2, rfl⟩ := own_shape ho2; have HI2 := Lib.hid ((HI.out.below ((Below.refl _ _).alloc (Nat.le_refl _) _)).field ho2 hg2 hat2); have HC2 := Lib.hid ((hg2.block _ (by have := heap_lt HC.out; simp; omega) (fun e => by have := (HI.out.inner.lt _ e.symm).1; omega)).trans (heap_keep HC.out ((Below.refl _ _).alloc (Nat.le_refl _) _))); have hz' := HW.out.size; have HB2 := Lib.hid ((HW.out.alloc (by omega) (.cells #[.string ⟨f.toArray⟩] tFld)).grown hg2 (by simp; omega) (fun k hk => by have := (HI.out.inner.lt _ hk).1; omega)); have hz2' := hg2.size; clear ho2 hg2 hat2)
              | (at_builtin; refine wpList_append_own_at _ rfl (.tmp 46) (.tmp 48) 38 rfl (w.heap.size + 1) tLine j0 (.slice none 0 0) 1 24 Tryz.underlying38 hj hy0 hy1 hy2 rfl (by decide) _ _ _ rfl (HI2.out.outer.alloc _) ⟨w2.heap.size, 0, none⟩ 1 1 [.slice a2 n2 cp2] rfl rfl (one_new _ _ _) (by intro u hu; simp at hu; subst hu; exact own_one HI2.out.inner) (by unfold maxLen; omega) (by omega) (by have := heap_lt HC2.out; simp; omega) ?_; intro v3 w3 ho3 hg3 _ hat3; have HI3 := Lib.hid ((HI2.out.below ((Below.refl _ _).alloc (Nat.le_refl _) _)).rowDone ho3 hg3); have HC3 := Lib.hid ((hg3.block _ (by have := heap_lt HC2.out; simp; omega) (fun e => by have := (HI2.out.outer.lt _ e.symm).1; omega)).trans (heap_keep HC2.out ((Below.refl _ _).alloc (Nat.le_refl _) _))); have HB3 := Lib.hid ((HB2.out.alloc (by have := HB2.out.size; omega) (.cells #[.slice a2 n2 cp2] tLine)).grown hg3 (by have := HB2.out.size; simp; omega) (fun k hk => by have := (HI2.out.outer.lt _ hk).1; omega)); clear ho3 hg3 hat3))
            go_roundw
            case rel => exact ⟨j + 1, 0, rows ++ [row ++ [f]], [], [], vs ++ [_], by omega, by go_num, rfl, rfl, by omega, HI3, by rw [← HS.out]; exact HR, HC3, HB3, by simp; omega, by simp, by simp⟩
            case measure => simp [intOf]; omega
          · by_cases h44 : s[j] = 44
            · have g : (s[j].toNat : Int) = 44 := by rw [h44]; rfl
              have HS := Lib.hid (go_some s j hlt ⟨rows, row, f, 3⟩ ⟨rows, row ++ [f], [], 0⟩ (by simp [Csv.step, h44]))
              clear h10 h44
              go_wp2_with (first
                | (at_builtin; refine wpList_append_own_at _ rfl (.tmp 40) (.tmp 42) 43 rfl (w.heap.size + 1) tFld i0 (.string ⟨#[]⟩) 1 16 Tryz.underlying43 hi hz0 hz1 hz2 rfl (by decide) _ _ _ rfl (HI.out.inner.alloc _) ⟨wr.heap.size, 0, none⟩ 1 1 [strV f] rfl rfl (one_new _ _ _) (by intro u hu; simp at hu; subst hu; rfl) (by unfold maxLen; omega) (by omega) (by have := heap_lt HC.out; simp; omega) ?_; intro v2 w2 ho2 hg2 _ hat2; obtain ⟨a2, n2, cp2, rfl⟩ := own_shape ho2; have HI2 := Lib.hid ((HI.out.below ((Below.refl _ _).alloc (Nat.le_refl _) _)).field ho2 hg2 hat2); have HC2 := Lib.hid ((hg2.block _ (by have := heap_lt HC.out; simp; omega) (fun e => by have := (HI.out.inner.lt _ e.symm).1; omega)).trans (heap_keep HC.out ((Below.refl _ _).alloc (Nat.le_refl _) _))); have hz' := HW.out.size; have HB2 := Lib.hid ((HW.out.alloc (by omega) (.cells #[.string ⟨f.toArray⟩] tFld)).grown hg2 (by simp; omega) (fun k hk => by have := (HI.out.inner.lt _ hk).1; omega)); have hz2' := hg2.size; clear ho2 hg2 hat2)
                | (at_builtin; refine wpList_append_own_at _ rfl (.tmp 46) (.tmp 48) 38 rfl (w.heap.size + 1) tLine j0 (.slice none 0 0) 1 24 Tryz.underlying38 hj hy0 hy1 hy2 rfl (by decide) _ _ _ rfl (HI2.out.outer.alloc _) ⟨w2.heap.size, 0, none⟩ 1 1 [.slice a2 n2 cp2] rfl rfl (one_new _ _ _) (by intro u hu; simp at hu; subst hu; exact own_one HI2.out.inner) (by unfold maxLen; omega) (by omega) (by have := heap_lt HC2.out; simp; omega) ?_; intro v3 w3 ho3 hg3 _ hat3; have HI3 := Lib.hid ((HI2.out.below ((Below.refl _ _).alloc (Nat.le_refl _) _)).rowDone ho3 hg3); have HC3 := Lib.hid ((hg3.block _ (by have := heap_lt HC2.out; simp; omega) (fun e => by have := (HI2.out.outer.lt _ e.symm).1; omega)).trans (heap_keep HC2.out ((Below.refl _ _).alloc (Nat.le_refl _) _))); have HB3 := Lib.hid ((HB2.out.alloc (by have := HB2.out.size; omega) (.cells #[.slice a2 n2 cp2] tLine)).grown hg3 (by have := HB2.out.size; simp; omega) (fun k hk => by have := (HI2.out.outer.lt _ hk).1; omega)); clear ho3 hg3 hat3))
              go_roundw
              case rel => exact ⟨j + 1, 0, rows, row ++ [f], [], vs, by omega, by go_num, rfl, rfl, by omega, HI2, by rw [← HS.out]; exact HR, HC2, HB2, by omega, by simp; omega, by simp⟩
              case measure => simp [intOf]; omega
            · by_cases h34 : s[j] = 34
              · have g : (s[j].toNat : Int) = 34 := by rw [h34]; rfl
                have HS := Lib.hid (go_some s j hlt ⟨rows, row, f, 3⟩ ⟨rows, row, f ++ [34], 2⟩ (by simp [Csv.step, h34]))
                clear h10 h44 h34
                go_wp2_with fail
                go_roundw
                case rel => exact ⟨j + 1, 2, rows, row, f ++ [34], vs, by omega, by go_num, by first | rfl | (congr 1), rfl, by omega, HI, by rw [← HS.out]; exact HR, HC, HW, by omega, by omega, by first | omega | (simp; omega)⟩
                case measure => simp [intOf]; omega
              · have k10 := beqF (show ¬ (s[j].toNat : Int) = 10 from fun e => h10 ((u8_of s[j] 10 (by decide)).1 e))
                have k44 := beqF (show ¬ (s[j].toNat : Int) = 44 from fun e => h44 ((u8_of s[j] 44 (by decide)).1 e))
                have k34 := beqF (show ¬ (s[j].toNat : Int) = 34 from fun e => h34 ((u8_of s[j] 34 (by decide)).1 e))
                by_cases h13 : s[j] = 13
                · have g : (s[j].toNat : Int) = 13 := by rw [h13]; rfl
                  obtain ⟨la, lb, HL, HWH⟩ := refWhere_at s j hs hjs
                  have HS := Lib.hid (go_none s j hlt ⟨rows, row, f, 3⟩ (by simp [Csv.step, h13]))
                  clear k10 k44 k34 h10 h44 h34 h13
                  go_wp2_with (go_at_call 43; refine (HWH.out _ _).mono ?_; rintro e w2 ⟨rfl, HW2⟩; have HC2 := Lib.hid (heap_keep HC.out HW2); obtain ⟨k0, k1, k2, l0, l1, l2⟩ := cell3 HC2.out)
                  have HC3 := set3 HC2.out (.int .i64 (la : Int)) (.int .i64 (lb : Int)) (.int .i64 2)
                  have HB3 := below_set3 (bch HW.out HW2 HW.out.size) (Nat.le_refl _) (.int .i64 (la : Int)) (.int .i64 (lb : Int)) (.int .i64 2)
                  obtain ⟨m0, m1, m2, _⟩ := cell3 HC3
                  exact bodyPost_ret (v := .tuple #[.slice none 0 0, .agg #[.int .i64 (la : Int), .int .i64 (lb : Int), .int .i64 2]]) (by simp [results, Tryz.results17, go_sem, m0, m1, m2]) rfl ⟨told_bad (by have h := HS.out; rw [HR.out, HL.out] at h; exact h), HB3⟩
                · have k13 := beqF (show ¬ (s[j].toNat : Int) = 13 from fun e => h13 ((u8_of s[j] 13 (by decide)).1 e))
                  obtain ⟨la, lb, HL, HWH⟩ := refWhere_at s j hs hjs
                  have HS := Lib.hid (go_none s j hlt ⟨rows, row, f, 3⟩ (by simp [Csv.step, h10, h44, h34, h13]))
                  clear h10 h44 h34 h13
                  go_wp2_with (go_at_call 43; refine (HWH.out _ _).mono ?_; rintro e w2 ⟨rfl, HW2⟩; have HC2 := Lib.hid (heap_keep HC.out HW2); obtain ⟨k0, k1, k2, l0, l1, l2⟩ := cell3 HC2.out)
                  have HC3 := set3 HC2.out (.int .i64 (la : Int)) (.int .i64 (lb : Int)) (.int .i64 2)
                  have HB3 := below_set3 (bch HW.out HW2 HW.out.size) (Nat.le_refl _) (.int .i64 (la : Int)) (.int .i64 (lb : Int)) (.int .i64 2)
                  obtain ⟨m0, m1, m2, _⟩ := cell3 HC3
                  exact bodyPost_ret (v := .tuple #[.slice none 0 0, .agg #[.int .i64 (la : Int), .int .i64 (lb : Int), .int .i64 2]]) (by simp [results, Tryz.results17, go_sem, m0, m1, m2]) rfl ⟨told_bad (by have h := HS.out; rw [HR.out, HL.out] at h; exact h), HB3⟩
    · obtain rfl : j = s.size := by omega
      by_cases hm2 : m = 2
      · subst hm2
        obtain ⟨la, lb, HL, HWH⟩ := refWhere_at s s.size hs (Nat.le_refl _)
        rw [take_all] at HL
        have HS := Lib.hid (show R = ([], la, lb, 2) by rw [← HR.out, go_end s s.size (by omega), show Csv.fin s.data.toList ⟨rows, row, f, 2⟩ = 2 from rfl, HL.out]; rfl)
        go_wp2_with (go_at_call 43; refine (HWH.out _ _).mono ?_; rintro e w2 ⟨rfl, HW2⟩; have HC2 := Lib.hid (heap_keep HC.out HW2); obtain ⟨k0, k1, k2, l0, l1, l2⟩ := cell3 HC2.out)
        have HC3 := set3 HC2.out (.int .i64 (la : Int)) (.int .i64 (lb : Int)) (.int .i64 2)
        have HB3 := below_set3 (bch HW.out HW2 HW.out.size) (Nat.le_refl _) (.int .i64 (la : Int)) (.int .i64 (lb : Int)) (.int .i64 2)
        obtain ⟨m0, m1, m2, _⟩ := cell3 HC3
        exact bodyPost_ret (v := .tuple #[.slice none 0 0, .agg #[.int .i64 (la : Int), .int .i64 (lb : Int), .int .i64 2]]) (by simp [results, Tryz.results17, go_sem, m0, m1, m2]) rfl ⟨told_bad HS.out, HB3⟩
      · have hm2' := beqF (show ¬ (m : Int) = 2 by omega)
        by_cases hz : s.size = 0
        · have hz' : ¬ ((0 : Int) < (s.size : Int)) := by omega
          have hnil : s.data.toList = [] := List.eq_nil_of_length_eq_zero (by simpa using hz)
          have hfin : Csv.fin s.data.toList ⟨rows, row, f, m⟩ = 0 := by simp [Csv.fin, hm2, hnil]
          have HS := Lib.hid (show R = (rows, 0, 0, 0) by rw [← HR.out, go_end s s.size (by omega), hfin]; rfl)
          clear hfin hnil hz hm2
          go_wp2_with fail
          have HC4 := set3 HC.out (.int .i64 0) (.int .i64 0) (.int .i64 0)
          have HB4 := below_set3 HW.out (Nat.le_refl _) (.int .i64 0) (.int .i64 0) (.int .i64 0)
          have HI4 := (((HI.out.set (p := ⟨w.heap.size, 0, none⟩) (by simp) (.int .i64 0)).set (p := ⟨w.heap.size, 1, none⟩) (by simp) (.int .i64 0)).set (p := ⟨w.heap.size, 2, none⟩) (by simp) (.int .i64 0)).reads
          obtain ⟨m0, m1, m2, _⟩ := cell3 HC4
          exact bodyPost_ret (v := .tuple #[u4, .agg #[.int .i64 0, .int .i64 0, .int .i64 0]]) (by simp [results, Tryz.results17, go_sem, m0, m1, m2]) rfl ⟨⟨_, by rw [HS.out]; rfl, by rw [HS.out]; exact HI4⟩, HB4⟩
        · have hz1 : 0 < s.size := by omega
          have hz' : (0 : Int) < (s.size : Int) := by omega
          by_cases hm0 : m = 0
          · subst hm0
            by_cases hc : s[s.size - 1]'(by omega) = 10
            · have hfin : Csv.fin s.data.toList ⟨rows, row, f, 0⟩ = 0 := by simp [Csv.fin, last_eq s hz1, hc]
              have q1 := bneF (show ((s[s.size - 1]'(by omega)).toNat : Int) = 10 by rw [hc]; rfl)
              have HS := Lib.hid (show R = (rows, 0, 0, 0) by rw [← HR.out, go_end s s.size (by omega), hfin]; rfl)
              clear hfin hc hm2
              go_wp2_with fail
              have HC4 := set3 HC.out (.int .i64 0) (.int .i64 0) (.int .i64 0)
              have HB4 := below_set3 HW.out (Nat.le_refl _) (.int .i64 0) (.int .i64 0) (.int .i64 0)
              have HI4 := (((HI.out.set (p := ⟨w.heap.size, 0, none⟩) (by simp) (.int .i64 0)).set (p := ⟨w.heap.size, 1, none⟩) (by simp) (.int .i64 0)).set (p := ⟨w.heap.size, 2, none⟩) (by simp) (.int .i64 0)).reads
              obtain ⟨m0, m1, m2, _⟩ := cell3 HC4
              exact bodyPost_ret (v := .tuple #[u4, .agg #[.int .i64 0, .int .i64 0, .int .i64 0]]) (by simp [results, Tryz.results17, go_sem, m0, m1, m2]) rfl ⟨⟨_, by rw [HS.out]; rfl, by rw [HS.out]; exact HI4⟩, HB4⟩
            · have hfin : Csv.fin s.data.toList ⟨rows, row, f, 0⟩ = 1 := by simp [Csv.fin, last_eq s hz1, hc, ne_nil s hz1]
              have q1 := bneT (show ¬ ((s[s.size - 1]'(by omega)).toNat : Int) = 10 from fun e => hc ((u8_of _ 10 (by decide)).1 e))
              obtain ⟨la, lb, HL, HWH⟩ := refWhere_at s s.size hs (Nat.le_refl _)
              rw [take_all] at HL
              have HS := Lib.hid (show R = ([], la, lb, 1) by rw [← HR.out, go_end s s.size (by omega), hfin, HL.out]; rfl)
              clear hfin hc hm2
              go_wp2_with (go_at_call 43; refine (HWH.out _ _).mono ?_; rintro e w2 ⟨rfl, HW2⟩; have HC2 := Lib.hid (heap_keep HC.out HW2); obtain ⟨k0, k1, k2, l0, l1, l2⟩ := cell3 HC2.out)
              have HC3 := set3 HC2.out (.int .i64 (la : Int)) (.int .i64 (lb : Int)) (.int .i64 1)
              have HB3 := below_set3 (bch HW.out HW2 HW.out.size) (Nat.le_refl _) (.int .i64 (la : Int)) (.int .i64 (lb : Int)) (.int .i64 1)
              obtain ⟨m0, m1, m2, _⟩ := cell3 HC3
              exact bodyPost_ret (v := .tuple #[.slice none 0 0, .agg #[.int .i64 (la : Int), .int .i64 (lb : Int), .int .i64 1]]) (by simp [results, Tryz.results17, go_sem, m0, m1, m2]) rfl ⟨told_bad HS.out, HB3⟩
          · have hfin : Csv.fin s.data.toList ⟨rows, row, f, m⟩ = 1 := by simp [Csv.fin, hm2, hm0, ne_nil s hz1]
            have q1 := bneT (show ¬ (m : Int) = 0 by omega)
            obtain ⟨la, lb, HL, HWH⟩ := refWhere_at s s.size hs (Nat.le_refl _)
            rw [take_all] at HL
            have HS := Lib.hid (show R = ([], la, lb, 1) by rw [← HR.out, go_end s s.size (by omega), hfin, HL.out]; rfl)
            clear hfin hm0 hm2
            go_wp2_with (go_at_call 43; refine (HWH.out _ _).mono ?_; rintro e w2 ⟨rfl, HW2⟩; have HC2 := Lib.hid (heap_keep HC.out HW2); obtain ⟨k0, k1, k2, l0, l1, l2⟩ := cell3 HC2.out)
            have HC3 := set3 HC2.out (.int .i64 (la : Int)) (.int .i64 (lb : Int)) (.int .i64 1)
            have HB3 := below_set3 (bch HW.out HW2 HW.out.size) (Nat.le_refl _) (.int .i64 (la : Int)) (.int .i64 (lb : Int)) (.int .i64 1)
            obtain ⟨m0, m1, m2, _⟩ := cell3 HC3
            exact bodyPost_ret (v := .tuple #[.slice none 0 0, .agg #[.int .i64 (la : Int), .int .i64 (lb : Int), .int .i64 1]]) (by simp [results, Tryz.results17, go_sem, m0, m1, m2]) rfl ⟨told_bad HS.out, HB3⟩
end Go.Proofs.YtgpjbigelblanaaGreatDoor

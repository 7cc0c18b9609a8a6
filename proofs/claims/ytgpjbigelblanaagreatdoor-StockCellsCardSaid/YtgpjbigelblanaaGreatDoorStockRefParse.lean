/- consignorref04.Parse computes Csv.parse, too. -/
import Derived.Test.YtgpjbigelblanaaGreatDoorCsvParse
import Derived.Test.YtgpjbigelblanaaGreatDoorStockFirst
import Derived.Test.YtgpjbigelblanaaGreatDoorMoneyRefGet
import Derived.Test.YtgpjbigelblanaaGreatDoorStockOne
import Derived.IntWalk
import Derived.Test.YtgpjbigelblanaaGreatDoorStockParse
namespace Go.Proofs.YtgpjbigelblanaaGreatDoor
open Go.RowKit

set_option maxHeartbeats 1000000 in
theorem refWhere_any (s : ByteArray) (at_ : Nat) (code : Int) (w : World) (hs : s.size ≤ 65536) (hk : at_ ≤ s.size) :
    Calls Tryz.prog 43 #[.string s, .int .i64 at_, .int .i64 code] w fun e w' => e = .returned (rej (s.data.toList.take at_) code) ∧ Below w.heap.size w w' := by
  go_enter Tryz.func43, Tryz.ntmps43
  go_wp2
  go_loopw [8] (fun i wr => ∃ j : Nat, j ≤ at_ ∧ i = .int .i64 j ∧ wr = (w.alloc (Obj.cells #[Value.int IntKind.i64 0, Value.int IntKind.i64 0, Value.int IntKind.i64 0] 32)).alloc (Obj.cells #[Value.int IntKind.i64 ((Csv.lc (s.data.toList.take j)).1 : Int), Value.int IntKind.i64 ((Csv.lc (s.data.toList.take j)).2 : Int), Value.int IntKind.i64 code] 32)) (fun i _ => at_ - (intOf i).toNat)
  case atStart => exact ⟨0, Nat.zero_le _, rfl, rfl⟩
  case round =>
    obtain ⟨j, hj, rfl, rfl⟩ := hrel
    have hb := lc_le (s.data.toList.take j)
    have hlen : (s.data.toList.take j).length ≤ j := List.length_take_le _ _
    by_cases hlt : j < at_
    · have hjs : j < s.size := by omega
      have hsn := lc_snoc (s.data.toList.take j) s[j]
      rw [← take_snocC s j hjs] at hsn
      obtain ⟨l1, h1⟩ : ∃ n : Nat, (Csv.lc (s.data.toList.take j)).1 = n := ⟨_, rfl⟩
      obtain ⟨l2, h2⟩ : ∃ n : Nat, (Csv.lc (s.data.toList.take j)).2 = n := ⟨_, rfl⟩
      rw [h1, h2] at hsn hb ⊢
      by_cases hc : s[j] = 10
      · rw [if_pos hc] at hsn
        have g1 : (s[j].toNat : Int) = 10 := by rw [hc]; rfl
        have HS := Lib.hid hsn
        clear hsn hc h1 h2
        go_wp2
        go_roundw
        case rel => exact ⟨j + 1, by omega, by go_num, by rw [HS.out]; rfl⟩
        case measure => simp [intOf]; omega
      · rw [if_neg hc] at hsn
        have g1 := beqF (fun e => hc ((u8_of s[j] 10 (by decide)).1 e))
        have HS := Lib.hid hsn
        clear hsn hc h1 h2
        go_wp2
        go_roundw
        case rel => exact ⟨j + 1, by omega, by go_num, by rw [HS.out]; rfl⟩
        case measure => simp [intOf]; omega
    · obtain rfl : j = at_ := by omega
      go_wp2
      exact bodyPost_ret (v := rej (s.data.toList.take j) code) (by simp [results, Tryz.results43, go_sem, rej]) rfl ⟨rfl, ((Below.refl _ _).alloc (Nat.le_refl _) _).alloc (by simp) _⟩
theorem refWhere_at (s : ByteArray) (nx : Nat) (hs : s.size ≤ 65536) (hk : nx ≤ s.size) : ∃ la lb : Nat, Hid (Csv.lc (s.data.toList.take nx) = (la, lb)) ∧ Hid (∀ (code : Int) (w : World),
    Calls Tryz.prog 43 #[.string s, .int .i64 nx, .int .i64 code] w fun e w' => e = .returned (.agg #[.int .i64 (la : Int), .int .i64 (lb : Int), .int .i64 code]) ∧ Below w.heap.size w w') :=
  ⟨_, _, rfl, fun code w => refWhere_any s nx code w hs hk⟩

theorem go_some (s : ByteArray) (i : Nat) (h : i < s.size) (st st' : Csv.St) (hs : Csv.step st s[i] = some st') : Csv.go (s.data.toList.drop i) st i = Csv.go (s.data.toList.drop (i + 1)) st' (i + 1) := by
  rw [drop_cons s i h]
  simp only [Csv.go, hs]
theorem go_none (s : ByteArray) (i : Nat) (h : i < s.size) (st : Csv.St) (hs : Csv.step st s[i] = none) : Csv.parseOf s.data.toList (Csv.go (s.data.toList.drop i) st i) = ([], (Csv.lc (s.data.toList.take i)).1, (Csv.lc (s.data.toList.take i)).2, 2) := by
  rw [drop_cons s i h]
  simp only [Csv.go, hs]
  rfl
theorem go_end (s : ByteArray) (i : Nat) (h : ¬ i < s.size) (st : Csv.St) : Csv.parseOf s.data.toList (Csv.go (s.data.toList.drop i) st i) = if Csv.fin s.data.toList st = 0 then (st.rows, 0, 0, 0) else ([], (Csv.lc s.data.toList).1, (Csv.lc s.data.toList).2, Csv.fin s.data.toList st) := by
  rw [drop_all s i (by omega)]
  rfl
theorem last_eq (s : ByteArray) (h : 0 < s.size) : s.data.toList.getLast? = some (s[s.size - 1]'(by omega)) := by
  have h1 : s.data.toList.length = s.size := by simp
  rw [List.getLast?_eq_getElem?, h1, List.getElem?_eq_getElem (by rw [h1]; omega)]
  rfl
theorem ne_nil (s : ByteArray) (h : 0 < s.size) : s.data.toList ≠ [] := by
  intro e
  have h1 : s.data.toList.length = s.size := by simp
  rw [e] at h1
  simp at h1
  omega

set_option maxRecDepth 100000 in
set_option maxHeartbeats 16000000 in
theorem refParse_any (s : ByteArray) (w : World) (hs : s.size ≤ 65536) :
    Calls Tryz.prog 17 #[.string s] w fun e w' => Told (Csv.parse s.data.toList) e w' ∧ Below w.heap.size w w' := by
  obtain ⟨i0, hi, hz0, hz1, hz2⟩ := info_parts fld_info
  obtain ⟨j0, hj, hy0, hy1, hy2⟩ := info_parts line_info
  have hR : Csv.parse s.data.toList = Csv.parseOf s.data.toList (Csv.go (s.data.toList.drop 0) Csv.St.init 0) := by
    unfold Csv.parse
    rw [if_neg (by simp; omega)]
    rfl
  obtain ⟨R, hRR⟩ : ∃ R, Csv.parseOf s.data.toList (Csv.go (s.data.toList.drop 0) Csv.St.init 0) = R := ⟨_, rfl⟩
  rw [hR, hRR]
  clear hR
  go_enter Tryz.func17, Tryz.ntmps17
  go_wp2_with fail
  go_loopw [4, 5, 6, 7, 8] (fun vr v fv mv i wr => ∃ (j m : Nat) (rows : List (List (List UInt8))) (row : List (List UInt8)) (f : List UInt8) (vs : List Value), j ≤ s.size ∧ i = .int .i64 j ∧ fv = .string ⟨f.toArray⟩ ∧ mv = .int .i64 m ∧ m ≤ 3 ∧ Hid (Inv wr (w.heap.size + 1) vr v rows row vs) ∧ Hid (Csv.parseOf s.data.toList (Csv.go (s.data.toList.drop j) ⟨rows, row, f, m⟩ j) = R) ∧
      Hid (wr.heap[w.heap.size]? = some (.cells #[.int .i64 0, .int .i64 0, .int .i64 0] tRej (0, 0))) ∧ Hid (Below w.heap.size w wr) ∧ rows.length ≤ j ∧ row.length ≤ j ∧ f.length ≤ j) (fun _ _ _ _ i _ => s.size - (intOf i).toNat)
  case atStart => exact ⟨0, 0, [], [], [], [], by omega, rfl, rfl, rfl, by omega, Inv.start _ _, hRR, heap_alloc_new w _, (Below.refl _ _).alloc (Nat.le_refl _) _, by simp, by simp, by simp⟩
  case round =>
    obtain ⟨j, m, rows, row, f, vs, hjs, rfl, rfl, rfl, hm, HI, HR, HC, HW, hrl, hrl2, hfl⟩ := hrel
    obtain ⟨c0, c1, c2, f0, f1, f2⟩ := cell3 HC.out
    by_cases hlt : j < s.size
    · by_cases hm2 : m = 2
      · subst hm2
        by_cases hc : s[j] = 34
        · have g1 : (s[j].toNat : Int) = 34 := by rw [hc]; rfl
          have HS := Lib.hid (go_some s j hlt ⟨rows, row, f, 2⟩ ⟨rows, row, f, 3⟩ (by simp [Csv.step, hc]))
          clear hc
          go_wp2_with fail
          go_roundw
          case rel => exact ⟨j + 1, 3, rows, row, f, vs, by omega, by go_num, rfl, rfl, by omega, HI, by rw [← HS.out]; exact HR, HC, HW, by omega, by omega, by omega⟩
          case measure => simp [intOf]; omega
        · have g1 := beqF (show ¬ (s[j].toNat : Int) = 34 from fun e => hc ((u8_of s[j] 34 (by decide)).1 e))
          have HS := Lib.hid (go_some s j hlt ⟨rows, row, f, 2⟩ ⟨rows, row, f ++ [s[j]], 2⟩ (by simp [Csv.step, hc]))
          clear hc
          go_wp2_with fail
          go_roundw
          case rel => exact ⟨j + 1, 2, rows, row, f ++ [s[j]], vs, by omega, by go_num, by rw [← string_snoc], rfl, by omega, HI, by rw [← HS.out]; exact HR, HC, HW, by omega, by omega, by simp; omega⟩
          case measure => simp [intOf]; omega
      · obtain rfl | rfl | rfl : m = 0 ∨ m = 1 ∨ m = 3 := by omega
        · clear hm2
          by_cases h10 : s[j] = 10
          · have g : (s[j].toNat : Int) = 10 := by rw [h10]; rfl
            have HS := Lib.hid (go_some s j hlt ⟨rows, row, f, 0⟩ ⟨rows ++ [row ++ [f]], [], [], 0⟩ (by simp [Csv.step, h10]))
            clear h10
            go_wp2_with (first
              | (at_builtin; refine wpList_append_own_at _ rfl (.tmp 40) (.tmp 42) 43 rfl (w.heap.size + 1) tFld i0 (.string ⟨#[]⟩) 1 16 Tryz.underlying43 hi hz0 hz1 hz2 rfl (by decide) _ _ _ rfl (HI.out.inner.alloc _) ⟨wr.heap.size, 0, none⟩ 1 1 [strV f] rfl rfl (one_new _ _ _) (by intro u hu; simp at hu; subst hu; rfl) (by unfold maxLen; omega) (by omega) (by have := heap_lt HC.out; simp; omega) ?_; intro v2 w2 ho2 hg2 _ hat2; obtain ⟨a2, n2, cp2, rfl⟩ := own_shape ho2; have HI2 := Lib.hid ((HI.out.below ((Below.refl _ _).alloc (Nat.le_refl _) _)).field ho2 hg2 hat2); have HC2 := Lib.hid ((hg2.block _ (by have := heap_lt HC.out; simp; omega) (fun e => by have := (HI.out.inner.lt _ e.symm).1; omega)).trans (heap_keep HC.out ((Below.refl _ _).alloc (Nat.le_refl _) _))); have hz' := HW.out.size; have HB2 := Lib.hid ((HW.out.alloc (by omega) (.cells #[.string ⟨f.toArray⟩] tFld)).grown hg2 (by simp; omega) (fun k hk => by have := (HI.out.inner.lt _ hk).1; omega)); have hz2' := hg2.size; clear ho2 hg2 hat2)
              | (at_builtin; refine wpList_append_own_at _ rfl (.tmp 46) (.tmp 48) 38 rfl (w.heap.size + 1) tLine j0 (.slice none 0 0) 1 24 Tryz.underlying38 hj hy0 hy1 hy2 rfl (by decide) _ _ _ rfl (HI2.out.outer.alloc _) ⟨w2.heap.size, 0, none⟩ 1 1 [.slice a2 n2 cp2] rfl rfl (one_new _ _ _) (by intro u hu; simp at hu; subst hu; exact own_one HI2.out.inner) (by unfold maxLen; omega) (by omega) (by have := heap_lt HC2.out; simp; omega) ?_; intro v3 w3 ho3 hg3 _ hat3; have HI3 := Lib.hid ((HI2.out.below ((Below.refl _ _).alloc (Nat.le_refl _) _)).rowDone ho3 hg3); have HC3 := Lib.hid ((hg3.block _ (by have := heap_lt HC2.out; simp; omega) (fun e => by have := (HI2.out.outer.lt _ e.symm).1; omega)).trans (heap_keep HC2.out ((Below.refl _ _).alloc (Nat.le_refl _) _))); have HB3 := Lib.hid ((HB2.out.alloc (by have := HB2.out.size; omega) (.cells #[.slice a2 n2 cp2] tLine)).grown hg3 (by have := HB2.out.size; simp; omega) (fun k hk => by have := (HI2.out.outer.lt _ hk).1; omega)); clear ho3 hg3 hat3))
            go_roundw
            case rel => exact ⟨j + 1, 0, rows ++ [row ++ [f]], [], [], vs ++ [_], by omega, by go_num, rfl, rfl, by omega, HI3, by rw [← HS.out]; exact HR, HC3, HB3, by simp; omega, by simp, by simp⟩
            case measure => simp [intOf]; omega
          · by_cases h44 : s[j] = 44
            · have g : (s[j].toNat : Int) = 44 := by rw [h44]; rfl
              have HS := Lib.hid (go_some s j hlt ⟨rows, row, f, 0⟩ ⟨rows, row ++ [f], [], 0⟩ (by simp [Csv.step, h44]))
              clear h10 h44
              go_wp2_with (first
                | (at_builtin; refine wpList_append_own_at _ rfl (.tmp 40) (.tmp 42) 43 rfl (w.heap.size + 1) tFld i0 (.string ⟨#[]⟩) 1 16 Tryz.underlying43 hi hz0 hz1 hz2 rfl (by decide) _ _ _ rfl (HI.out.inner.alloc _) ⟨wr.heap.size, 0, none⟩ 1 1 [strV f] rfl rfl (one_new _ _ _) (by intro u hu; simp at hu; subst hu; rfl) (by unfold maxLen; omega) (by omega) (by have := heap_lt HC.out; simp; omega) ?_; intro v2 w2 ho2 hg2 _ hat2; obtain ⟨a2, n2, cp2, rfl⟩ := own_shape ho2; have HI2 := Lib.hid ((HI.out.below ((Below.refl _ _).alloc (Nat.le_refl _) _)).field ho2 hg2 hat2); have HC2 := Lib.hid ((hg2.block _ (by have := heap_lt HC.out; simp; omega) (fun e => by have := (HI.out.inner.lt _ e.symm).1; omega)).trans (heap_keep HC.out ((Below.refl _ _).alloc (Nat.le_refl _) _))); have hz' := HW.out.size; have HB2 := Lib.hid ((HW.out.alloc (by omega) (.cells #[.string ⟨f.toArray⟩] tFld)).grown hg2 (by simp; omega) (fun k hk => by have := (HI.out.inner.lt _ hk).1; omega)); have hz2' := hg2.size; clear ho2 hg2 hat2)
                | (at_builtin; refine wpList_append_own_at _ rfl (.tmp 46) (.tmp 48) 38 rfl (w.heap.size + 1) tLine j0 (.slice none 0 0) 1 24 Tryz.underlying38 hj hy0 hy1 hy2 rfl (by decide) _ _ _ rfl (HI2.out.outer.alloc _) ⟨w2.heap.size, 0, none⟩ 1 1 [.slice a2 n2 cp2] rfl rfl (one_new _ _ _) (by intro u hu; simp at hu; subst hu; exact own_one HI2.out.inner) (by unfold maxLen; omega) (by omega) (by have := heap_lt HC2.out; simp; omega) ?_; intro v3 w3 ho3 hg3 _ hat3; have HI3 := Lib.hid ((HI2.out.below ((Below.refl _ _).alloc (Nat.le_refl _) _)).rowDone ho3 hg3); have HC3 := Lib.hid ((hg3.block _ (by have := heap_lt HC2.out; simp; omega) (fun e => by have := (HI2.out.outer.lt _ e.symm).1; omega)).trans (heap_keep HC2.out ((Below.refl _ _).alloc (Nat.le_refl _) _))); have HB3 := Lib.hid ((HB2.out.alloc (by have := HB2.out.size; omega) (.cells #[.slice a2 n2 cp2] tLine)).grown hg3 (by have := HB2.out.size; simp; omega) (fun k hk => by have := (HI2.out.outer.lt _ hk).1; omega)); clear ho3 hg3 hat3))
              go_roundw
              case rel => exact ⟨j + 1, 0, rows, row ++ [f], [], vs, by omega, by go_num, rfl, rfl, by omega, HI2, by rw [← HS.out]; exact HR, HC2, HB2, by omega, by simp; omega, by simp⟩
              case measure => simp [intOf]; omega
            · by_cases h34 : s[j] = 34
              · have g : (s[j].toNat : Int) = 34 := by rw [h34]; rfl
                have HS := Lib.hid (go_some s j hlt ⟨rows, row, f, 0⟩ ⟨rows, row, f, 2⟩ (by simp [Csv.step, h34]))
                clear h10 h44 h34
                go_wp2_with fail
                go_roundw
                case rel => exact ⟨j + 1, 2, rows, row, f, vs, by omega, by go_num, rfl, rfl, by omega, HI, by rw [← HS.out]; exact HR, HC, HW, by omega, by omega, by first | omega | (simp; omega)⟩
                case measure => simp [intOf]; omega
              · have k10 := beqF (show ¬ (s[j].toNat : Int) = 10 from fun e => h10 ((u8_of s[j] 10 (by decide)).1 e))
                have k44 := beqF (show ¬ (s[j].toNat : Int) = 44 from fun e => h44 ((u8_of s[j] 44 (by decide)).1 e))
                have k34 := beqF (show ¬ (s[j].toNat : Int) = 34 from fun e => h34 ((u8_of s[j] 34 (by decide)).1 e))
                by_cases h13 : s[j] = 13
                · have g : (s[j].toNat : Int) = 13 := by rw [h13]; rfl
                  obtain ⟨la, lb, HL, HWH⟩ := refWhere_at s j hs hjs
                  have HS := Lib.hid (go_none s j hlt ⟨rows, row, f, 0⟩ (by simp [Csv.step, h13]))
                  clear k10 k44 k34 h10 h44 h34 h13
                  go_wp2_with (go_at_call 43; refine (HWH.out _ _).mono ?_; rintro e w2 ⟨rfl, HW2⟩; have HC2 := Lib.hid (heap_keep HC.out HW2); obtain ⟨k0, k1, k2, l0, l1, l2⟩ := cell3 HC2.out)
                  have HC3 := set3 HC2.out (.int .i64 (la : Int)) (.int .i64 (lb : Int)) (.int .i64 2)
                  have HB3 := below_set3 (bch HW.out HW2 HW.out.size) (Nat.le_refl _) (.int .i64 (la : Int)) (.int .i64 (lb : Int)) (.int .i64 2)
                  obtain ⟨m0, m1, m2, _⟩ := cell3 HC3
                  exact bodyPost_ret (v := .tuple #[.slice none 0 0, .agg #[.int .i64 (la : Int), .int .i64 (lb : Int), .int .i64 2]]) (by simp [results, Tryz.results17, go_sem, m0, m1, m2]) rfl ⟨told_bad (by have h := HS.out; rw [HR.out, HL.out] at h; exact h), HB3⟩
                · have k13 := beqF (show ¬ (s[j].toNat : Int) = 13 from fun e => h13 ((u8_of s[j] 13 (by decide)).1 e))
                  have HS := Lib.hid (go_some s j hlt ⟨rows, row, f, 0⟩ ⟨rows, row, f ++ [s[j]], 1⟩ (by simp [Csv.step, h10, h44, h34, h13]))
                  clear h10 h44 h34 h13
                  go_wp2_with fail
                  go_roundw
                  case rel => exact ⟨j + 1, 1, rows, row, f ++ [s[j]], vs, by omega, by go_num, by rw [← string_snoc], rfl, by omega, HI, by rw [← HS.out]; exact HR, HC, HW, by omega, by omega, by first | omega | (simp; omega)⟩
                  case measure => simp [intOf]; omega
        · clear hm2
          by_cases h10 : s[j] = 10
          · have g : (s[j].toNat : Int) = 10 := by rw [h10]; rfl
            have HS := Lib.hid (go_some s j hlt ⟨rows, row, f, 1⟩ ⟨rows ++ [row ++ [f]], [], [], 0⟩ (by simp [Csv.step, h10]))
            clear h10
            go_wp2_with (first
              | (at_builtin; refine wpList_append_own_at _ rfl (.tmp 40) (.tmp 42) 43 rfl (w.heap.size + 1) tFld i0 (.string ⟨#[]⟩) 1 16 Tryz.underlying43 hi hz0 hz1 hz2 rfl (by decide) _ _ _ rfl (HI.out.inner.alloc _) ⟨wr.heap.size, 0, none⟩ 1 1 [strV f] rfl rfl (one_new _ _ _) (by intro u hu; simp at hu; subst hu; rfl) (by unfold maxLen; omega) (by omega) (by have := heap_lt HC.out; simp; omega) ?_; intro v2 w2 ho2 hg2 _ hat2; obtain ⟨a2, n2, cp2, rfl⟩ := own_shape ho2; have HI2 := Lib.hid ((HI.out.below ((Below.refl _ _).alloc (Nat.le_refl _) _)).field ho2 hg2 hat2); have HC2 := Lib.hid ((hg2.block _ (by have := heap_lt HC.out; simp; omega) (fun e => by have := (HI.out.inner.lt _ e.symm).1; omega)).trans (heap_keep HC.out ((Below.refl _ _).alloc (Nat.le_refl _) _))); have hz' := HW.out.size; have HB2 := Lib.hid ((HW.out.alloc (by omega) (.cells #[.string ⟨f.toArray⟩] tFld)).grown hg2 (by simp; omega) (fun k hk => by have := (HI.out.inner.lt _ hk).1; omega)); have hz2' := hg2.size; clear ho2 hg2 hat2)
              | (at_builtin; refine wpList_append_own_at _ rfl (.tmp 46) (.tmp 48) 38 rfl (w.heap.size + 1) tLine j0 (.slice none 0 0) 1 24 Tryz.underlying38 hj hy0 hy1 hy2 rfl (by decide) _ _ _ rfl (HI2.out.outer.alloc _) ⟨w2.heap.size, 0, none⟩ 1 1 [.slice a2 n2 cp2] rfl rfl (one_new _ _ _) (by intro u hu; simp at hu; subst hu; exact own_one HI2.out.inner) (by unfold maxLen; omega) (by omega) (by have := heap_lt HC2.out; simp; omega) ?_; intro v3 w3 ho3 hg3 _ hat3; have HI3 := Lib.hid ((HI2.out.below ((Below.refl _ _).alloc (Nat.le_refl _) _)).rowDone ho3 hg3); have HC3 := Lib.hid ((hg3.block _ (by have := heap_lt HC2.out; simp; omega) (fun e => by have := (HI2.out.outer.lt _ e.symm).1; omega)).trans (heap_keep HC2.out ((Below.refl _ _).alloc (Nat.le_refl _) _))); have HB3 := Lib.hid ((HB2.out.alloc (by have := HB2.out.size; omega) (.cells #[.slice a2 n2 cp2] tLine)).grown hg3 (by have := HB2.out.size; simp; omega) (fun k hk => by have := (HI2.out.outer.lt _ hk).1; omega)); clear ho3 hg3 hat3))
            go_roundw
            case rel => exact ⟨j + 1, 0, rows ++ [row ++ [f]], [], [], vs ++ [_], by omega, by go_num, rfl, rfl, by omega, HI3, by rw [← HS.out]; exact HR, HC3, HB3, by simp; omega, by simp, by simp⟩
            case measure => simp [intOf]; omega
          · by_cases h44 : s[j] = 44
            · have g : (s[j].toNat : Int) = 44 := by rw [h44]; rfl
              have HS := Lib.hid (go_some s j hlt ⟨rows, row, f, 1⟩ ⟨rows, row ++ [f], [], 0⟩ (by simp [Csv.step, h44]))
              clear h10 h44
              go_wp2_with (first
                | (at_builtin; refine wpList_append_own_at _ rfl (.tmp 40) (.tmp 42) 43 rfl (w.heap.size + 1) tFld i0 (.string ⟨#[]⟩) 1 16 Tryz.underlying43 hi hz0 hz1 hz2 rfl (by decide) _ _ _ rfl (HI.out.inner.alloc _) ⟨wr.heap.size, 0, none⟩ 1 1 [strV f] rfl rfl (one_new _ _ _) (by intro u hu; simp at hu; subst hu; rfl) (by unfold maxLen; omega) (by omega) (by have := heap_lt HC.out; simp; omega) ?_; intro v2 w2 ho2 hg2 _ hat2; obtain ⟨a2, n2, cp2, rfl⟩ := own_shape ho2; have HI2 := Lib.hid ((HI.out.below ((Below.refl _ _).alloc (Nat.le_refl _) _)).field ho2 hg2 hat2); have HC2 := Lib.hid ((hg2.block _ (by have := heap_lt HC.out; simp; omega) (fun e => by have := (HI.out.inner.lt _ e.symm).1; omega)).trans (heap_keep HC.out ((Below.refl _ _).alloc (Nat.le_refl _) _))); have hz' := HW.out.size; have HB2 := Lib.hid ((HW.out.alloc (by omega) (.cells #[.string ⟨f.toArray⟩] tFld)).grown hg2 (by simp; omega) (fun k hk => by have := (HI.out.inner.lt _ hk).1; omega)); have hz2' := hg2.size; clear ho2 hg2 hat2)
                | (at_builtin; refine wpList_append_own_at _ rfl (.tmp 46) (.tmp 48) 38 rfl (w.heap.size + 1) tLine j0 (.slice none 0 0) 1 24 Tryz.underlying38 hj hy0 hy1 hy2 rfl (by decide) _ _ _ rfl (HI2.out.outer.alloc _) ⟨w2.heap.size, 0, none⟩ 1 1 [.slice a2 n2 cp2] rfl rfl (one_new _ _ _) (by intro u hu; simp at hu; subst hu; exact own_one HI2.out.inner) (by unfold maxLen; omega) (by omega) (by have := heap_lt HC2.out; simp; omega) ?_; intro v3 w3 ho3 hg3 _ hat3; have HI3 := Lib.hid ((HI2.out.below ((Below.refl _ _).alloc (Nat.le_refl _) _)).rowDone ho3 hg3); have HC3 := Lib.hid ((hg3.block _ (by have := heap_lt HC2.out; simp; omega) (fun e => by have := (HI2.out.outer.lt _ e.symm).1; omega)).trans (heap_keep HC2.out ((Below.refl _ _).alloc (Nat.le_refl _) _))); have HB3 := Lib.hid ((HB2.out.alloc (by have := HB2.out.size; omega) (.cells #[.slice a2 n2 cp2] tLine)).grown hg3 (by have := HB2.out.size; simp; omega) (fun k hk => by have := (HI2.out.outer.lt _ hk).1; omega)); clear ho3 hg3 hat3))
              go_roundw
              case rel => exact ⟨j + 1, 0, rows, row ++ [f], [], vs, by omega, by go_num, rfl, rfl, by omega, HI2, by rw [← HS.out]; exact HR, HC2, HB2, by omega, by simp; omega, by simp⟩
              case measure => simp [intOf]; omega
            · by_cases h34 : s[j] = 34
              · have g : (s[j].toNat : Int) = 34 := by rw [h34]; rfl
                obtain ⟨la, lb, HL, HWH⟩ := refWhere_at s j hs hjs
                have HS := Lib.hid (go_none s j hlt ⟨rows, row, f, 1⟩ (by simp [Csv.step, h34]))
                clear h10 h44 h34
                go_wp2_with (go_at_call 43; refine (HWH.out _ _).mono ?_; rintro e w2 ⟨rfl, HW2⟩; have HC2 := Lib.hid (heap_keep HC.out HW2); obtain ⟨k0, k1, k2, l0, l1, l2⟩ := cell3 HC2.out)
                have HC3 := set3 HC2.out (.int .i64 (la : Int)) (.int .i64 (lb : Int)) (.int .i64 2)
                have HB3 := below_set3 (bch HW.out HW2 HW.out.size) (Nat.le_refl _) (.int .i64 (la : Int)) (.int .i64 (lb : Int)) (.int .i64 2)
                obtain ⟨m0, m1, m2, _⟩ := cell3 HC3
                exact bodyPost_ret (v := .tuple #[.slice none 0 0, .agg #[.int .i64 (la : Int), .int .i64 (lb : Int), .int .i64 2]]) (by simp [results, Tryz.results17, go_sem, m0, m1, m2]) rfl ⟨told_bad (by have h := HS.out; rw [HR.out, HL.out] at h; exact h), HB3⟩
              · have k10 := beqF (show ¬ (s[j].toNat : Int) = 10 from fun e => h10 ((u8_of s[j] 10 (by decide)).1 e))
                have k44 := beqF (show ¬ (s[j].toNat : Int) = 44 from fun e => h44 ((u8_of s[j] 44 (by decide)).1 e))
                have k34 := beqF (show ¬ (s[j].toNat : Int) = 34 from fun e => h34 ((u8_of s[j] 34 (by decide)).1 e))
                by_cases h13 : s[j] = 13
                · have g : (s[j].toNat : Int) = 13 := by rw [h13]; rfl
                  obtain ⟨la, lb, HL, HWH⟩ := refWhere_at s j hs hjs
                  have HS := Lib.hid (go_none s j hlt ⟨rows, row, f, 1⟩ (by simp [Csv.step, h13]))
                  clear k10 k44 k34 h10 h44 h34 h13
                  go_wp2_with (go_at_call 43; refine (HWH.out _ _).mono ?_; rintro e w2 ⟨rfl, HW2⟩; have HC2 := Lib.hid (heap_keep HC.out HW2); obtain ⟨k0, k1, k2, l0, l1, l2⟩ := cell3 HC2.out)
                  have HC3 := set3 HC2.out (.int .i64 (la : Int)) (.int .i64 (lb : Int)) (.int .i64 2)
                  have HB3 := below_set3 (bch HW.out HW2 HW.out.size) (Nat.le_refl _) (.int .i64 (la : Int)) (.int .i64 (lb : Int)) (.int .i64 2)
                  obtain ⟨m0, m1, m2, _⟩ := cell3 HC3
                  exact bodyPost_ret (v := .tuple #[.slice none 0 0, .agg #[.int .i64 (la : Int), .int .i64 (lb : Int), .int .i64 2]]) (by simp [results, Tryz.results17, go_sem, m0, m1, m2]) rfl ⟨told_bad (by have h := HS.out; rw [HR.out, HL.out] at h; exact h), HB3⟩
                · have k13 := beqF (show ¬ (s[j].toNat : Int) = 13 from fun e => h13 ((u8_of s[j] 13 (by decide)).1 e))
                  have HS := Lib.hid (go_some s j hlt ⟨rows, row, f, 1⟩ ⟨rows, row, f ++ [s[j]], 1⟩ (by simp [Csv.step, h10, h44, h34, h13]))
                  clear h10 h44 h34 h13
                  go_wp2_with fail
                  go_roundw
                  case rel => exact ⟨j + 1, 1, rows, row, f ++ [s[j]], vs, by omega, by go_num, by rw [← string_snoc], rfl, by omega, HI, by rw [← HS.out]; exact HR, HC, HW, by omega, by omega, by first | omega | (simp; omega)⟩
                  case measure => simp [intOf]; omega
        · clear hm2
          by_cases h10 : s[j] = 10
          · have g : (s[j].toNat : Int) = 10 := by rw [h10]; rfl
            have HS := Lib.hid (go_some s j hlt ⟨rows, row, f, 3⟩ ⟨rows ++ [row ++ [f]], [], [], 0⟩ (by simp [Csv.step, h10]))
            clear h10
            go_wp2_with (first
              | (at_builtin; refine wpList_append_own_at _ rfl (.tmp 40) (.tmp 42) 43 rfl (w.heap.size + 1) tFld i0 (.string ⟨#[]⟩) 1 16 Tryz.underlying43 hi hz0 hz1 hz2 rfl (by decide) _ _ _ rfl (HI.out.inner.alloc _) ⟨wr.heap.size, 0, none⟩ 1 1 [strV f] rfl rfl (one_new _ _ _) (by intro u hu; simp at hu; subst hu; rfl) (by unfold maxLen; omega) (by omega) (by have := heap_lt HC.out; simp; omega) ?_; intro v2 w2 ho2 hg2 _ hat2; obtain ⟨a2, n2, cp2, rfl⟩ := own_shape ho2; have HI2 := Lib.hid ((HI.out.below ((Below.refl _ _).alloc (Nat.le_refl _) _)).field ho2 hg2 hat2); have HC2 := Lib.hid ((hg2.block _ (by have := heap_lt HC.out; simp; omega) (fun e => by have := (HI.out.inner.lt _ e.symm).1; omega)).trans (heap_keep HC.out ((Below.refl _ _).alloc (Nat.le_refl _) _))); have hz' := HW.out.size; have HB2 := Lib.hid ((HW.out.alloc (by omega) (.cells #[.string ⟨f.toArray⟩] tFld)).grown hg2 (by simp; omega) (fun k hk => by have := (HI.out.inner.lt _ hk).1; omega)); have hz2' := hg2.size; clear ho2 hg2 hat2)
              | (at_builtin; refine wpList_append_own_at _ rfl (.tmp 46) (.tmp 48) 38 rfl (w.heap.size + 1) tLine j0 (.slice none 0 0) 1 24 Tryz.underlying38 hj hy0 hy1 hy2 rfl (by decide) _ _ _ rfl (HI2.out.outer.alloc _) ⟨w2.heap.size, 0, none⟩ 1 1 [.slice a2 n2 cp2] rfl rfl (one_new _ _ _) (by intro u hu; simp at hu; subst hu; exact own_one HI2.out.inner) (by unfold maxLen; omega) (by omega) (by have := heap_lt HC2.out; simp; omega) ?_; intro v3 w3 ho3 hg3 _ hat3; have HI3 := Lib.hid ((HI2.out.below ((Below.refl _ _).alloc (Nat.le_refl _) _)).rowDone ho3 hg3); have HC3 := Lib.hid ((hg3.block _ (by have := heap_lt HC2.out; simp; omega) (fun e => by have := (HI2.out.outer.lt _ e.symm).1; omega)).trans (heap_keep HC2.out ((Below.refl _ _).alloc (Nat.le_refl _) _))); have HB3 := Lib.hid ((HB2.out.alloc (by have := HB2.out.size; omega) (.cells #[.slice a2 n2 cp2] tLine)).grown hg3 (by have := HB2.out.size; simp; omega) (fun k hk => by have := (HI2.out.outer.lt _ hk).1; omega)); clear ho3 hg3 hat3))
            go_roundw
            case rel => exact ⟨j + 1, 0, rows ++ [row ++ [f]], [], [], vs ++ [_], by omega, by go_num, rfl, rfl, by omega, HI3, by rw [← HS.out]; exact HR, HC3, HB3, by simp; omega, by simp, by simp⟩
            case measure => simp [intOf]; omega
          · by_cases h44 : s[j] = 44
            · have g : (s[j].toNat : Int) = 44 := by rw [h44]; rfl
              have HS := Lib.hid (go_some s j hlt ⟨rows, row, f, 3⟩ ⟨rows, row ++ [f], [], 0⟩ (by simp [Csv.step, h44]))
              clear h10 h44
              go_wp2_with (first
                | (at_builtin; refine wpList_append_own_at _ rfl (.tmp 40) (.tmp 42) 43 rfl (w.heap.size + 1) tFld i0 (.string ⟨#[]⟩) 1 16 Tryz.underlying43 hi hz0 hz1 hz2 rfl (by decide) _ _ _ rfl (HI.out.inner.alloc _) ⟨wr.heap.size, 0, none⟩ 1 1 [strV f] rfl rfl (one_new _ _ _) (by intro u hu; simp at hu; subst hu; rfl) (by unfold maxLen; omega) (by omega) (by have := heap_lt HC.out; simp; omega) ?_; intro v2 w2 ho2 hg2 _ hat2; obtain ⟨a2, n2, cp2, rfl⟩ := own_shape ho2; have HI2 := Lib.hid ((HI.out.below ((Below.refl _ _).alloc (Nat.le_refl _) _)).field ho2 hg2 hat2); have HC2 := Lib.hid ((hg2.block _ (by have := heap_lt HC.out; simp; omega) (fun e => by have := (HI.out.inner.lt _ e.symm).1; omega)).trans (heap_keep HC.out ((Below.refl _ _).alloc (Nat.le_refl _) _))); have hz' := HW.out.size; have HB2 := Lib.hid ((HW.out.alloc (by omega) (.cells #[.string ⟨f.toArray⟩] tFld)).grown hg2 (by simp; omega) (fun k hk => by have := (HI.out.inner.lt _ hk).1; omega)); have hz2' := hg2.size; clear ho2 hg2 hat2)
                | (at_builtin; refine wpList_append_own_at _ rfl (.tmp 46) (.tmp 48) 38 rfl (w.heap.size + 1) tLine j0 (.slice none 0 0) 1 24 Tryz.underlying38 hj hy0 hy1 hy2 rfl (by decide) _ _ _ rfl (HI2.out.outer.alloc _) ⟨w2.heap.size, 0, none⟩ 1 1 [.slice a2 n2 cp2] rfl rfl (one_new _ _ _) (by intro u hu; simp at hu; subst hu; exact own_one HI2.out.inner) (by unfold maxLen; omega) (by omega) (by have := heap_lt HC2.out; simp; omega) ?_; intro v3 w3 ho3 hg3 _ hat3; have HI3 := Lib.hid ((HI2.out.below ((Below.refl _ _).alloc (Nat.le_refl _) _)).rowDone ho3 hg3); have HC3 := Lib.hid ((hg3.block _ (by have := heap_lt HC2.out; simp; omega) (fun e => by have := (HI2.out.outer.lt _ e.symm).1; omega)).trans (heap_keep HC2.out ((Below.refl _ _).alloc (Nat.le_refl _) _))); have HB3 := Lib.hid ((HB2.out.alloc (by have := HB2.out.size; omega) (.cells #[.slice a2 n2 cp2] tLine)).grown hg3 (by have := HB2.out.size; simp; omega) (fun k hk => by have := (HI2.out.outer.lt _ hk).1; omega)); clear ho3 hg3 hat3))
              go_roundw
              case rel => exact ⟨j + 1, 0, rows, row ++ [f], [], vs, by omega, by go_num, rfl, rfl, by omega, HI2, by rw [← HS.out]; exact HR, HC2, HB2, by omega, by simp; omega, by simp⟩
              case measure => simp [intOf]; omega
            · by_cases h34 : s[j] = 34
              · have g : (s[j].toNat : Int) = 34 := by rw [h34]; rfl
                have HS := Lib.hid (go_some s j hlt ⟨rows, row, f, 3⟩ ⟨rows, row, f ++ [34], 2⟩ (by simp [Csv.step, h34]))
                clear h10 h44 h34
                go_wp2_with fail
                go_roundw
                case rel => exact ⟨j + 1, 2, rows, row, f ++ [34], vs, by omega, by go_num, by first | rfl | (congr 1), rfl, by omega, HI, by rw [← HS.out]; exact HR, HC, HW, by omega, by omega, by first | omega | (simp; omega)⟩
                case measure => simp [intOf]; omega
              · have k10 := beqF (show ¬ (s[j].toNat : Int) = 10 from fun e => h10 ((u8_of s[j] 10 (by decide)).1 e))
                have k44 := beqF (show ¬ (s[j].toNat : Int) = 44 from fun e => h44 ((u8_of s[j] 44 (by decide)).1 e))
                have k34 := beqF (show ¬ (s[j].toNat : Int) = 34 from fun e => h34 ((u8_of s[j] 34 (by decide)).1 e))
                by_cases h13 : s[j] = 13
                · have g : (s[j].toNat : Int) = 13 := by rw [h13]; rfl
                  obtain ⟨la, lb, HL, HWH⟩ := refWhere_at s j hs hjs
                  have HS := Lib.hid (go_none s j hlt ⟨rows, row, f, 3⟩ (by simp [Csv.step, h13]))
                  clear k10 k44 k34 h10 h44 h34 h13
                  go_wp2_with (go_at_call 43; refine (HWH.out _ _).mono ?_; rintro e w2 ⟨rfl, HW2⟩; have HC2 := Lib.hid (heap_keep HC.out HW2); obtain ⟨k0, k1, k2, l0, l1, l2⟩ := cell3 HC2.out)
                  have HC3 := set3 HC2.out (.int .i64 (la : Int)) (.int .i64 (lb : Int)) (.int .i64 2)
                  have HB3 := below_set3 (bch HW.out HW2 HW.out.size) (Nat.le_refl _) (.int .i64 (la : Int)) (.int .i64 (lb : Int)) (.int .i64 2)
                  obtain ⟨m0, m1, m2, _⟩ := cell3 HC3
                  exact bodyPost_ret (v := .tuple #[.slice none 0 0, .agg #[.int .i64 (la : Int), .int .i64 (lb : Int), .int .i64 2]]) (by simp [results, Tryz.results17, go_sem, m0, m1, m2]) rfl ⟨told_bad (by have h := HS.out; rw [HR.out, HL.out] at h; exact h), HB3⟩
                · have k13 := beqF (show ¬ (s[j].toNat : Int) = 13 from fun e => h13 ((u8_of s[j] 13 (by decide)).1 e))
                  obtain ⟨la, lb, HL, HWH⟩ := refWhere_at s j hs hjs
                  have HS := Lib.hid (go_none s j hlt ⟨rows, row, f, 3⟩ (by simp [Csv.step, h10, h44, h34, h13]))
                  clear h10 h44 h34 h13
                  go_wp2_with (go_at_call 43; refine (HWH.out _ _).mono ?_; rintro e w2 ⟨rfl, HW2⟩; have HC2 := Lib.hid (heap_keep HC.out HW2); obtain ⟨k0, k1, k2, l0, l1, l2⟩ := cell3 HC2.out)
                  have HC3 := set3 HC2.out (.int .i64 (la : Int)) (.int .i64 (lb : Int)) (.int .i64 2)
                  have HB3 := below_set3 (bch HW.out HW2 HW.out.size) (Nat.le_refl _) (.int .i64 (la : Int)) (.int .i64 (lb : Int)) (.int .i64 2)
                  obtain ⟨m0, m1, m2, _⟩ := cell3 HC3
                  exact bodyPost_ret (v := .tuple #[.slice none 0 0, .agg #[.int .i64 (la : Int), .int .i64 (lb : Int), .int .i64 2]]) (by simp [results, Tryz.results17, go_sem, m0, m1, m2]) rfl ⟨told_bad (by have h := HS.out; rw [HR.out, HL.out] at h; exact h), HB3⟩
    · obtain rfl : j = s.size := by omega
      by_cases hm2 : m = 2
      · subst hm2
        obtain ⟨la, lb, HL, HWH⟩ := refWhere_at s s.size hs (Nat.le_refl _)
        rw [take_all] at HL
        have HS := Lib.hid (show R = ([], la, lb, 2) by rw [← HR.out, go_end s s.size (by omega), show Csv.fin s.data.toList ⟨rows, row, f, 2⟩ = 2 from rfl, HL.out]; rfl)
        go_wp2_with (go_at_call 43; refine (HWH.out _ _).mono ?_; rintro e w2 ⟨rfl, HW2⟩; have HC2 := Lib.hid (heap_keep HC.out HW2); obtain ⟨k0, k1, k2, l0, l1, l2⟩ := cell3 HC2.out)
        have HC3 := set3 HC2.out (.int .i64 (la : Int)) (.int .i64 (lb : Int)) (.int .i64 2)
        have HB3 := below_set3 (bch HW.out HW2 HW.out.size) (Nat.le_refl _) (.int .i64 (la : Int)) (.int .i64 (lb : Int)) (.int .i64 2)
        obtain ⟨m0, m1, m2, _⟩ := cell3 HC3
        exact bodyPost_ret (v := .tuple #[.slice none 0 0, .agg #[.int .i64 (la : Int), .int .i64 (lb : Int), .int .i64 2]]) (by simp [results, Tryz.results17, go_sem, m0, m1, m2]) rfl ⟨told_bad HS.out, HB3⟩
      · have hm2' := beqF (show ¬ (m : Int) = 2 by omega)
        by_cases hz : s.size = 0
        · have hz' : ¬ ((0 : Int) < (s.size : Int)) := by omega
          have hnil : s.data.toList = [] := List.eq_nil_of_length_eq_zero (by simpa using hz)
          have hfin : Csv.fin s.data.toList ⟨rows, row, f, m⟩ = 0 := by simp [Csv.fin, hm2, hnil]
          have HS := Lib.hid (show R = (rows, 0, 0, 0) by rw [← HR.out, go_end s s.size (by omega), hfin]; rfl)
          clear hfin hnil hz hm2
          go_wp2_with fail
          have HC4 := set3 HC.out (.int .i64 0) (.int .i64 0) (.int .i64 0)
          have HB4 := below_set3 HW.out (Nat.le_refl _) (.int .i64 0) (.int .i64 0) (.int .i64 0)
          have HI4 := (((HI.out.set (p := ⟨w.heap.size, 0, none⟩) (by simp) (.int .i64 0)).set (p := ⟨w.heap.size, 1, none⟩) (by simp) (.int .i64 0)).set (p := ⟨w.heap.size, 2, none⟩) (by simp) (.int .i64 0)).reads
          obtain ⟨m0, m1, m2, _⟩ := cell3 HC4
          exact bodyPost_ret (v := .tuple #[u4, .agg #[.int .i64 0, .int .i64 0, .int .i64 0]]) (by simp [results, Tryz.results17, go_sem, m0, m1, m2]) rfl ⟨⟨_, by rw [HS.out]; rfl, by rw [HS.out]; exact HI4⟩, HB4⟩
        · have hz1 : 0 < s.size := by omega
          have hz' : (0 : Int) < (s.size : Int) := by omega
          by_cases hm0 : m = 0
          · subst hm0
            by_cases hc : s[s.size - 1]'(by omega) = 10
            · have hfin : Csv.fin s.data.toList ⟨rows, row, f, 0⟩ = 0 := by simp [Csv.fin, last_eq s hz1, hc]
              have q1 := bneF (show ((s[s.size - 1]'(by omega)).toNat : Int) = 10 by rw [hc]; rfl)
              have HS := Lib.hid (show R = (rows, 0, 0, 0) by rw [← HR.out, go_end s s.size (by omega), hfin]; rfl)
              clear hfin hc hm2
              go_wp2_with fail
              have HC4 := set3 HC.out (.int .i64 0) (.int .i64 0) (.int .i64 0)
              have HB4 := below_set3 HW.out (Nat.le_refl _) (.int .i64 0) (.int .i64 0) (.int .i64 0)
              have HI4 := (((HI.out.set (p := ⟨w.heap.size, 0, none⟩) (by simp) (.int .i64 0)).set (p := ⟨w.heap.size, 1, none⟩) (by simp) (.int .i64 0)).set (p := ⟨w.heap.size, 2, none⟩) (by simp) (.int .i64 0)).reads
              obtain ⟨m0, m1, m2, _⟩ := cell3 HC4
              exact bodyPost_ret (v := .tuple #[u4, .agg #[.int .i64 0, .int .i64 0, .int .i64 0]]) (by simp [results, Tryz.results17, go_sem, m0, m1, m2]) rfl ⟨⟨_, by rw [HS.out]; rfl, by rw [HS.out]; exact HI4⟩, HB4⟩
            · have hfin : Csv.fin s.data.toList ⟨rows, row, f, 0⟩ = 1 := by simp [Csv.fin, last_eq s hz1, hc, ne_nil s hz1]
              have q1 := bneT (show ¬ ((s[s.size - 1]'(by omega)).toNat : Int) = 10 from fun e => hc ((u8_of _ 10 (by decide)).1 e))
              obtain ⟨la, lb, HL, HWH⟩ := refWhere_at s s.size hs (Nat.le_refl _)
              rw [take_all] at HL
              have HS := Lib.hid (show R = ([], la, lb, 1) by rw [← HR.out, go_end s s.size (by omega), hfin, HL.out]; rfl)
              clear hfin hc hm2
              go_wp2_with (go_at_call 43; refine (HWH.out _ _).mono ?_; rintro e w2 ⟨rfl, HW2⟩; have HC2 := Lib.hid (heap_keep HC.out HW2); obtain ⟨k0, k1, k2, l0, l1, l2⟩ := cell3 HC2.out)
              have HC3 := set3 HC2.out (.int .i64 (la : Int)) (.int .i64 (lb : Int)) (.int .i64 1)
              have HB3 := below_set3 (bch HW.out HW2 HW.out.size) (Nat.le_refl _) (.int .i64 (la : Int)) (.int .i64 (lb : Int)) (.int .i64 1)
              obtain ⟨m0, m1, m2, _⟩ := cell3 HC3
              exact bodyPost_ret (v := .tuple #[.slice none 0 0, .agg #[.int .i64 (la : Int), .int .i64 (lb : Int), .int .i64 1]]) (by simp [results, Tryz.results17, go_sem, m0, m1, m2]) rfl ⟨told_bad HS.out, HB3⟩
          · have hfin : Csv.fin s.data.toList ⟨rows, row, f, m⟩ = 1 := by simp [Csv.fin, hm2, hm0, ne_nil s hz1]
            have q1 := bneT (show ¬ (m : Int) = 0 by omega)
            obtain ⟨la, lb, HL, HWH⟩ := refWhere_at s s.size hs (Nat.le_refl _)
            rw [take_all] at HL
            have HS := Lib.hid (show R = ([], la, lb, 1) by rw [← HR.out, go_end s s.size (by omega), hfin, HL.out]; rfl)
            clear hfin hm0 hm2
            go_wp2_with (go_at_call 43; refine (HWH.out _ _).mono ?_; rintro e w2 ⟨rfl, HW2⟩; have HC2 := Lib.hid (heap_keep HC.out HW2); obtain ⟨k0, k1, k2, l0, l1, l2⟩ := cell3 HC2.out)
            have HC3 := set3 HC2.out (.int .i64 (la : Int)) (.int .i64 (lb : Int)) (.int .i64 1)
            have HB3 := below_set3 (bch HW.out HW2 HW.out.size) (Nat.le_refl _) (.int .i64 (la : Int)) (.int .i64 (lb : Int)) (.int .i64 1)
            obtain ⟨m0, m1, m2, _⟩ := cell3 HC3
            exact bodyPost_ret (v := .tuple #[.slice none 0 0, .agg #[.int .i64 (la : Int), .int .i64 (lb : Int), .int .i64 1]]) (by simp [results, Tryz.results17, go_sem, m0, m1, m2]) rfl ⟨told_bad HS.out, HB3⟩
end Go.Proofs.YtgpjbigelblanaaGreatDoor
/- The document's Number, Wide, head, tail of the warehouse's files: what they compute. -/
namespace Go.Proofs.YtgpjbigelblanaaGreatDoor
open Go.RowKit Go.Maps Key Mon Sk

namespace Sk
def numI (s : List UInt8) (b : Int) : Int := if numB s 0 b = true then (getM s).1 else -1
theorem numI_ok {s : List UInt8} {a b : Int} (ha : a = 0 ∨ a = 1) (h : numB s a b = true) : numI s b = (getM s).1 ∧ a ≤ (getM s).1 ∧ (getM s).1 ≤ b := by
  unfold numB at h
  simp only [Bool.and_eq_true, decide_eq_true_eq] at h
  unfold numI numB
  rw [if_pos (by simp only [Bool.and_eq_true, decide_eq_true_eq]; exact ⟨⟨h.1.1, by omega⟩, h.2⟩)]
  exact ⟨rfl, h.1.2, h.2⟩
theorem numI_no {s : List UInt8} {b : Int} (h : numB s 0 b = false) : numI s b = -1 := by unfold numI; rw [if_neg (by rw [h]; decide)]
theorem numI_low {s : List UInt8} {b : Int} (h : numB s 1 b = false) : numI s b < 1 := by
  unfold numI
  split
  · rename_i h2
    unfold numB at h h2
    simp only [Bool.and_eq_true, decide_eq_true_eq] at h2
    rw [h2.1.1] at h
    simp only [Bool.true_and, Bool.and_eq_false_iff, decide_eq_false_iff_not] at h
    omega
  · omega
end Sk
set_option maxHeartbeats 1000000 in
theorem rnumber_any (s : ByteArray) (b : Int) (w : World) : Calls Tryz.prog 40 #[.string s, .int .i64 b] w fun e w' => e = .returned (.int .i64 (numI s.data.toList b)) ∧ Below w.heap.size w w' := by
  obtain ⟨x, y, hR⟩ : ∃ x y, getM s.data.toList = (x, y) := ⟨_, _, rfl⟩
  have HG := Lib.hid (refGet_any s w)
  have hI : numI s.data.toList b = if (y && decide (0 ≤ x) && decide (x ≤ b)) = true then x else -1 := by unfold numI numB; rw [hR]
  rw [hR] at HG
  unfold pairV at HG
  rw [hI]
  obtain ⟨a, ha⟩ : ∃ a, (if (y && decide (0 ≤ x) && decide (x ≤ b)) = true then x else -1) = a := ⟨_, rfl⟩
  rw [ha]
  have HAA := Lib.hid ha
  clear hR hI ha
  cases y with
  | false =>
    have HI := Lib.hid (show a = -1 by rw [← HAA.out]; simp)
    go_enter Tryz.func40, Tryz.ntmps40
    go_wp2_with fail
    refine HG.out.mono ?_
    rintro e w1 ⟨rfl, hb⟩
    have HB := Lib.hid hb
    clear hb
    go_wp2_with fail
    go_ret
    exact ⟨by rw [HI.out]; rfl, HB.out⟩
  | true =>
    by_cases h1 : x < 0
    · have HI := Lib.hid (show a = -1 by rw [← HAA.out, if_neg (by simp; omega)])
      have q1 := decide_eq_true h1
      go_enter Tryz.func40, Tryz.ntmps40
      go_wp2_with fail
      refine HG.out.mono ?_
      rintro e w1 ⟨rfl, hb⟩
      have HB := Lib.hid hb
      clear hb
      go_wp2_with fail
      go_ret
      exact ⟨by rw [HI.out]; rfl, HB.out⟩
    · have q1 := decide_eq_false h1
      by_cases h2 : b < x
      · have HI := Lib.hid (show a = -1 by rw [← HAA.out, if_neg (by simp; omega)])
        have q2 := decide_eq_true h2
        go_enter Tryz.func40, Tryz.ntmps40
        go_wp2_with fail
        refine HG.out.mono ?_
        rintro e w1 ⟨rfl, hb⟩
        have HB := Lib.hid hb
        clear hb
        go_wp2_with fail
        go_ret
        exact ⟨by rw [HI.out]; rfl, HB.out⟩
      · have HI := Lib.hid (show a = x by rw [← HAA.out, if_pos (by simp; omega)])
        have q2 := decide_eq_false h2
        go_enter Tryz.func40, Tryz.ntmps40
        go_wp2_with fail
        refine HG.out.mono ?_
        rintro e w1 ⟨rfl, hb⟩
        have HB := Lib.hid hb
        clear hb
        go_wp2_with fail
        go_ret
        exact ⟨by rw [HI.out]; rfl, HB.out⟩
/-- How wide a row should be. -/
theorem rwide_any (A : Option Addr) (n c k : Nat) (w : World) (hn : n ≤ 1000000) (hk : k ≤ 1000) (m : Int) (hm : m = if n ≠ k then ((min n k + 1 : Nat) : Int) else 0) : Calls Tryz.prog 52 #[.slice A n c, .int .i64 (k : Int)] w fun e w' => e = .returned (.int .i64 m) ∧ w = w' := by
  by_cases h1 : n < k
  · have h1I : (n : Int) < k := by omega
    have HM := Lib.hid (show m = (n : Int) + 1 by rw [hm, if_pos (by omega)]; omega)
    clear hm h1
    go_enter Tryz.func52, Tryz.ntmps52
    go_wp2_with fail
    go_ret
    exact ⟨by rw [HM.out]; rfl, rfl⟩
  · have h1I : ¬ (n : Int) < k := by omega
    by_cases h2 : k < n
    · have h2I : (k : Int) < n := by omega
      have HM := Lib.hid (show m = (k : Int) + 1 by rw [hm, if_pos (by omega)]; omega)
      clear hm h1 h2
      go_enter Tryz.func52, Tryz.ntmps52
      go_wp2_with fail
      go_ret
      exact ⟨by rw [HM.out]; rfl, rfl⟩
    · have h2I : ¬ (k : Int) < n := by omega
      have HM := Lib.hid (show m = 0 by rw [hm, if_neg (by omega)])
      clear hm h1 h2
      go_enter Tryz.func52, Tryz.ntmps52
      go_wp2_with fail
      go_ret
      exact ⟨by rw [HM.out]; rfl, rfl⟩
def HeadR (r : Line) (e : Ending) : Prop := match Sk.first r with | .inl _ => e = .returned (.tuple #[.int .i64 0, .int .i64 0]) | .inr x => e = .returned (.tuple #[.int .i64 (x.1 : Int), .int .i64 (x.2 : Int)])
def TailR (r : Line) (many : Nat) (e : Ending) : Prop := match Sk.last r many with | none => e = .returned (.tuple #[.int .i64 0, .int .i64 0]) | some x => e = .returned (.tuple #[.int .i64 (x.1 : Int), .int .i64 (x.2 : Int)])
set_option linter.unusedSimpArgs false in
set_option linter.unusedVariables false in
set_option maxRecDepth 100000 in
set_option maxHeartbeats 2000000 in
theorem rhead_any (v : Value) (r : Line) (w : World) (hv : Strs w w.heap.size v r) (h0 : r ≠ []) (hl : r.length ≤ 1000000) : Calls Tryz.prog 39 #[v] w fun e w' => HeadR r e ∧ Below w.heap.size w w' := by
  obtain ⟨A, c, rfl⟩ := hv.shape
  obtain ⟨f0, hf0⟩ : ∃ f0, r[0]? = some f0 := ⟨_, List.getElem?_eq_getElem (List.length_pos_iff.2 h0)⟩
  have hlen : 0 < r.length := List.length_pos_iff.2 h0
  have hlenI : (0 : Int) < r.length := by omega
  have hhead : r.head? = some f0 := by rw [List.head?_eq_getElem?]; exact hf0
  obtain ⟨b, o, rfl, hbl, _⟩ := hv.at (Below.refl _ _) hf0
  have HW := Lib.hid (fun W k f (hb : Below w.heap.size w W) (hf : r[k]? = some f) => (show W.cell? ⟨b, o + k, none⟩ = some (.string ⟨f.toArray⟩) by obtain ⟨b', o', e, _, h⟩ := hv.at hb hf; cases e; exact h))
  clear hv h0
  have c0 := HW.out w 0 f0 (Below.refl _ _) hf0
  rw [Nat.add_zero] at c0
  clear hf0
  by_cases hh : f0 = wHead
  · subst hh
    have hq := text_eq (rfl : wHead = wHead)
    by_cases hl2 : r.length = 2
    · have hno : ¬ r.length ≠ 2 := by omega
      obtain ⟨f1, hf1⟩ : ∃ f1, r[1]? = some f1 := ⟨_, List.getElem?_eq_getElem (by omega)⟩
      have hlI : (1 : Int) < r.length := by omega
      have HWD := Lib.hid (fun W => rwide_any (some ⟨b, o, none⟩) r.length c 2 W (by omega) (by omega) 0 (by rw [if_neg hno]))
      have HN := Lib.hid (fun W => rnumber_any ⟨f1.toArray⟩ 1073741824 W)
      rw [show (⟨f1.toArray⟩ : ByteArray).data.toList = f1 by simp] at HN
      have c1 := HW.out w 1 f1 (Below.refl _ _) hf1
      cases hz : numB f1 1 1073741824 with
      | true =>
        obtain ⟨g1, g2, g3⟩ := numI_ok (.inr rfl) hz
        have hF := Lib.hid (show Sk.first r = .inl (getM f1).1 by unfold Sk.first; rw [if_neg (by rw [hhead]; simp), if_neg hno, List.getD_eq_getElem?_getD, hf1, Option.getD_some, hz, if_pos rfl])
        rw [g1] at HN
        obtain ⟨x, hx⟩ : ∃ x, (getM f1).1 = x := ⟨_, rfl⟩
        rw [hx] at HN g2
        have hx1 : ¬ x < 1 := by omega
        clear hno hf1 hhead hl2 hz g1 g3 hx g2
        go_enter Tryz.func39, Tryz.ntmps39
        go_wp2_with fail
        refine (HWD.out _).mono ?_
        rintro e w1 ⟨rfl, hb⟩; subst hb
        go_wp2_with fail
        refine (HN.out _).mono ?_
        rintro e w2 ⟨rfl, hb⟩
        have HB := Lib.hid hb
        clear hb
        go_wp2_with fail
        go_ret2
        exact ⟨by unfold HeadR; rw [hF.out]; rfl, HB.out⟩
      | false =>
        have g1 := numI_low hz
        have hF := Lib.hid (show Sk.first r = .inr (2, 3) by unfold Sk.first; rw [if_neg (by rw [hhead]; simp), if_neg hno, List.getD_eq_getElem?_getD, hf1, Option.getD_some, hz, if_neg (by decide)])
        obtain ⟨x, hx⟩ : ∃ x, numI f1 1073741824 = x := ⟨_, rfl⟩
        rw [hx] at HN g1
        clear hno hf1 hhead hl2 hz hx
        go_enter Tryz.func39, Tryz.ntmps39
        go_wp2_with fail
        refine (HWD.out _).mono ?_
        rintro e w1 ⟨rfl, hb⟩; subst hb
        go_wp2_with fail
        refine (HN.out _).mono ?_
        rintro e w2 ⟨rfl, hb⟩
        have HB := Lib.hid hb
        clear hb
        go_wp2_with fail
        go_ret2
        exact ⟨by unfold HeadR; rw [hF.out]; rfl, HB.out⟩
    · obtain ⟨m, hm⟩ : ∃ m : Int, m = ((min r.length 2 + 1 : Nat) : Int) := ⟨_, rfl⟩
      have HWD := Lib.hid (fun W => rwide_any (some ⟨b, o, none⟩) r.length c 2 W (by omega) (by omega) m (by rw [if_pos hl2]; exact hm))
      have hF := Lib.hid (show Sk.first r = .inr (min r.length 2 + 1, 1) by unfold Sk.first; rw [if_neg (by rw [hhead]; simp), if_pos hl2])
      have hm0 : 0 < m := by omega
      have HMM := Lib.hid hm
      clear hhead hl2 hm
      go_enter Tryz.func39, Tryz.ntmps39
      go_wp2_with fail
      refine (HWD.out _).mono ?_
      rintro e w1 ⟨rfl, hb⟩; subst hb
      go_wp2_with fail
      refine (HWD.out _).mono ?_
      rintro e w1 ⟨rfl, hb⟩; subst hb
      go_wp2_with fail
      go_ret2
      exact ⟨by unfold HeadR; rw [hF.out, HMM.out]; rfl, Below.refl _ _⟩
  · have hF := Lib.hid (show Sk.first r = .inr (1, 7) by unfold Sk.first; rw [if_pos (by rw [hhead]; simpa using hh)])
    have hq := text_ne hh
    unfold wHead at hq
    clear hh
    go_enter Tryz.func39, Tryz.ntmps39
    go_wp2_with fail
    go_ret2
    exact ⟨by unfold HeadR; rw [hF.out]; rfl, Below.refl _ _⟩
set_option linter.unusedSimpArgs false in
set_option linter.unusedVariables false in
set_option maxRecDepth 100000 in
set_option maxHeartbeats 2000000 in
theorem rtail_any (v : Value) (r : Line) (many : Nat) (w : World) (hv : Strs w w.heap.size v r) (hl : r.length ≤ 1000000) (hmany : many ≤ 1000000) : Calls Tryz.prog 41 #[v, .int .i64 (many : Int)] w fun e w' => TailR r many e ∧ Below w.heap.size w w' := by
  obtain ⟨A, c, rfl⟩ := hv.shape
  by_cases hl2 : r.length = 2
  · have hno : ¬ r.length ≠ 2 := by omega
    obtain ⟨f1, hf1⟩ : ∃ f1, r[1]? = some f1 := ⟨_, List.getElem?_eq_getElem (by omega)⟩
    have hlI : (1 : Int) < r.length := by omega
    obtain ⟨b, o, rfl, hbl, c1⟩ := hv.at (Below.refl _ _) hf1
    have HWD := Lib.hid (fun W => rwide_any (some ⟨b, o, none⟩) r.length c 2 W (by omega) (by omega) 0 (by rw [if_neg hno]))
    have HN := Lib.hid (refGet_any ⟨f1.toArray⟩ w)
    obtain ⟨x, y, hR⟩ : ∃ x y, getM f1 = (x, y) := ⟨_, _, rfl⟩
    have hF := Lib.hid (show Sk.last r many = if (y && decide (0 ≤ x)) = false then some (2, 3) else if x ≠ many then some (2, 4) else none by unfold Sk.last; rw [if_neg hno, List.getD_eq_getElem?_getD, hf1, Option.getD_some, hR])
    rw [show (⟨f1.toArray⟩ : ByteArray).data.toList = f1 by simp, hR] at HN
    unfold pairV at HN
    clear hR hno hf1 hl2 hv
    by_cases hy : (y && decide (0 ≤ x)) = true
    · obtain ⟨rfl, hx0⟩ : y = true ∧ 0 ≤ x := by simpa using hy
      have hx0' : ¬ x < 0 := by omega
      by_cases hxm : x = (many : Int)
      · have hq := bneF hxm
        have hFF := Lib.hid (show Sk.last r many = none by rw [hF.out, if_neg (by rw [hy]; decide), if_neg (by simpa using hxm)])
        clear hxm hy
        go_enter Tryz.func41, Tryz.ntmps41
        go_wp2_with fail
        refine (HWD.out _).mono ?_
        rintro e w1 ⟨rfl, hb⟩; subst hb
        go_wp2_with fail
        refine HN.out.mono ?_
        rintro e w2 ⟨rfl, hb⟩
        have HB := Lib.hid hb
        clear hb
        go_wp2_with fail
        go_ret2
        exact ⟨by unfold TailR; rw [hFF.out]; rfl, HB.out⟩
      · have hq := bneT hxm
        have hFF := Lib.hid (show Sk.last r many = some (2, 4) by rw [hF.out, if_neg (by rw [hy]; decide), if_pos hxm])
        clear hxm hy
        go_enter Tryz.func41, Tryz.ntmps41
        go_wp2_with fail
        refine (HWD.out _).mono ?_
        rintro e w1 ⟨rfl, hb⟩; subst hb
        go_wp2_with fail
        refine HN.out.mono ?_
        rintro e w2 ⟨rfl, hb⟩
        have HB := Lib.hid hb
        clear hb
        go_wp2_with fail
        go_ret2
        exact ⟨by unfold TailR; rw [hFF.out]; rfl, HB.out⟩
    · have hFF := Lib.hid (show Sk.last r many = some (2, 3) by rw [hF.out, if_pos (by simpa using hy)])
      have hsp : y = false ∨ (y = true ∧ x < 0) := by cases y <;> simp at hy ⊢; exact hy
      clear hy
      rcases hsp with rfl | ⟨rfl, hx0⟩
      all_goals
        go_enter Tryz.func41, Tryz.ntmps41
        go_wp2_with fail
        refine (HWD.out _).mono ?_
        rintro e w1 ⟨rfl, hb⟩; subst hb
        go_wp2_with fail
        refine HN.out.mono ?_
        rintro e w2 ⟨rfl, hb⟩
        have HB := Lib.hid hb
        clear hb
        go_wp2_with fail
        go_ret2
        exact ⟨by unfold TailR; rw [hFF.out]; rfl, HB.out⟩
  · obtain ⟨m, hm⟩ : ∃ m : Int, m = ((min r.length 2 + 1 : Nat) : Int) := ⟨_, rfl⟩
    have HWD := Lib.hid (fun W => rwide_any A r.length c 2 W (by omega) (by omega) m (by rw [if_pos hl2]; exact hm))
    have hF := Lib.hid (show Sk.last r many = some (min r.length 2 + 1, 1) by unfold Sk.last; rw [if_pos hl2])
    have hm0 : 0 < m := by omega
    have HMM := Lib.hid hm
    clear hl2 hm hv
    go_enter Tryz.func41, Tryz.ntmps41
    go_wp2_with fail
    refine (HWD.out _).mono ?_
    rintro e w1 ⟨rfl, hb⟩; subst hb
    go_wp2_with fail
    refine (HWD.out _).mono ?_
    rintro e w1 ⟨rfl, hb⟩; subst hb
    go_wp2_with fail
    go_ret2
    exact ⟨by unfold TailR; rw [hF.out, HMM.out]; rfl, Below.refl _ _⟩
end Go.Proofs.YtgpjbigelblanaaGreatDoor
/- The document's middle of the warehouse's files: what it computes. -/
namespace Go.Proofs.YtgpjbigelblanaaGreatDoor
open Go.RowKit Go.Maps Key Mon Sk Rw

namespace Sk
theorem deed_two (b : List UInt8) : ((deedK b).2 && decide (partyI (deedK b).1 = 1)) = true ↔ b = wordL 0 ∨ b = wordL 3 := by
  rcases deed_cases b with ⟨d, h1, h2, rfl, hd⟩ | ⟨hn, hd⟩
  · rcases deed6 ⟨h1, h2⟩ with rfl | rfl | rfl | rfl | rfl | rfl <;> decide
  · rw [hd]
    simp only [Bool.false_and, Bool.false_eq_true, false_iff]
    rintro (h | h)
    · exact hn 0 (by omega) h.symm
    · exact hn 3 (by omega) h.symm
end Sk
/-- What the document's row says, or what is wrong with it. -/
def RefOneR (r : Line) (l : List R5) (e : Ending) : Prop := match Sk.one r l with | .inl x => e = .returned (.tuple #[mkRow x, .int .i64 0, .int .i64 0]) | .inr p => ∃ y : R5, e = .returned (.tuple #[mkRow y, .int .i64 (p.1 : Int), .int .i64 (p.2 : Int)])
theorem refOneR_bad {r : Line} {l : List R5} {p : Nat × Nat} (h : Sk.one r l = .inr p) (y : R5) {v : Value} (hv : v = .tuple #[mkRow y, .int .i64 (p.1 : Int), .int .i64 (p.2 : Int)]) : RefOneR r l (.returned v) := by unfold RefOneR; rw [h]; exact ⟨y, by rw [hv]⟩
theorem refOneR_ok {r : Line} {l : List R5} {x : R5} (h : Sk.one r l = .inl x) {v : Value} (hv : v = .tuple #[mkRow x, .int .i64 0, .int .i64 0]) : RefOneR r l (.returned v) := by unfold RefOneR; rw [h, hv]

set_option linter.unusedSimpArgs false in
set_option linter.unusedVariables false in
set_option maxRecDepth 100000 in
set_option maxHeartbeats 4000000 in
theorem rmiddle_any (v u : Value) (r : Line) (l : List R5) (w : World) (hv : Strs w w.heap.size v r) (hu : Rd w u l) (hl : r.length ≤ 1000000) : Calls Tryz.prog 42 #[v, u] w fun e w' => RefOneR r l e ∧ Below w.heap.size w w' := by
  obtain ⟨A, c, rfl⟩ := hv.shape
  obtain ⟨Au, cu, rfl, hlu, hcu⟩ := hu.shape
  have hlm : (l.length : Int) ≤ 9223372036854775807 := by unfold maxLen at hcu; omega
  obtain ⟨n, hn⟩ : ∃ n, l.length = n := ⟨_, rfl⟩
  rw [hn] at hu hlu hlm ⊢
  have HLN := Lib.hid hn
  clear hn
  obtain ⟨wa, hwa⟩ : ∃ wa, (w.alloc (.cells #[.int .i64 0, .int .i64 0, .int .i64 0, .int .i64 0, .int .i64 0] tRow)).alloc (.cells #[.int .i64 0, .int .i64 0, .int .i64 0, .int .i64 0, .int .i64 0] tRow) = wa := ⟨_, rfl⟩
  have h2 := two_blocks w _ _ hwa
  have HB := Lib.hid h2.1; have HX := Lib.hid h2.2.1; have HY := Lib.hid h2.2.2
  have hWA := Lib.hid hwa
  have HU := Lib.hid hu
  clear hwa h2 hu hlu hcu
  generalize hnb : w.heap.size = nb at HX HY HB ⊢
  have HNB := Lib.hid hnb
  by_cases h4 : r.length = 4
  · obtain ⟨a, b, cc, d, rfl⟩ : ∃ a b cc d, r = [a, b, cc, d] := by
      match r, h4 with
      | [a, b, cc, d], _ => exact ⟨a, b, cc, d, rfl⟩
    rw [hnb] at hv
    obtain ⟨gb, go_, rfl, hbl, _⟩ := hv.at (Below.refl _ _) (k := 0) (f := a) rfl
    have HW := Lib.hid (fun W k f (hb : Below nb w W) (hf : [a, b, cc, d][k]? = some f) => (show W.cell? ⟨gb, go_ + k, none⟩ = some (.string ⟨f.toArray⟩) by obtain ⟨b', o', e, _, h⟩ := hv.at hb hf; cases e; exact h))
    have HWD := Lib.hid (fun W => rwide_any (some ⟨gb, go_, none⟩) 4 c 4 W (by omega) (by omega) 0 (by simp))
    simp only [List.length_cons, List.length_nil, Nat.zero_add, Nat.reduceAdd] at hl h4 ⊢
    clear hv hl h4 hnb
    by_cases hfull : 400 ≤ n
    · have HBAD := Lib.hid (show Sk.one [a, b, cc, d] l = .inr (1, 8) by unfold Sk.one; rw [if_neg (by simp), if_pos (by rw [HLN.out]; exact hfull)])
      have hfI := decide_eq_true (show (400 : Int) ≤ n by omega)
      clear hfull
      go_enter Tryz.func42, Tryz.ntmps42
      go_upto_region 2 with (fail)
      rw [HNB.out]
      rw [hWA.out]
      go_wp2_with fail
      refine (HWD.out _).mono ?_
      rintro e w1 ⟨rfl, hb⟩; subst hb
      obtain ⟨m0, m1, m2, m3, m4⟩ := cell5 HX.out
      obtain ⟨f0, f1, f2, f3, f4⟩ := froz5a HX.out
      obtain ⟨y0, y1, y2, y3, y4⟩ := cell5 HY.out
      go_wp2_with fail
      obtain ⟨w7, hw7⟩ : ∃ w7, w7 = (((((wa.setCell ⟨nb, 0, none⟩ (.int .i64 0)).setCell ⟨nb, 1, none⟩ (.int .i64 0)).setCell ⟨nb, 2, none⟩ (.int .i64 0)).setCell ⟨nb, 3, none⟩ (.int .i64 0)).setCell ⟨nb, 4, none⟩ (.int .i64 0)) := ⟨_, rfl⟩
      have hx7 := set5a HX.out (.int .i64 0) (.int .i64 0) (.int .i64 0) (.int .i64 0) (.int .i64 0)
      rw [← hw7] at hx7
      have hb7 : Below nb w w7 := by rw [hw7]; exact below_set5 HB.out (Nat.le_refl _) _ _ _ _ _
      rw [← hw7]
      clear hw7
      obtain ⟨z0, z1, z2, z3, z4⟩ := cell5 hx7
      refine bodyPost_ret (v := .tuple #[.agg #[.int .i64 0, .int .i64 0, .int .i64 0, .int .i64 0, .int .i64 0], .int .i64 1, .int .i64 8]) (by simp [results, Tryz.results42, go_sem, z0, z1, z2, z3, z4]) rfl ⟨?_, hb7⟩
      exact refOneR_bad HBAD.out ((0, 0), 0, 0, 0) rfl
    · have hone : Sk.one [a, b, cc, d] l = four a b cc d l := by unfold Sk.one; rw [if_neg (by simp), if_neg (by rw [HLN.out]; exact hfull)]; rfl
      have HONE := Lib.hid hone
      have hfI := decide_eq_false (show ¬ (400 : Int) ≤ n by omega)
      clear hone hfull
      have HN0 := Lib.hid (fun W => rnumber_any ⟨a.toArray⟩ 60 W)
      have HN3 := Lib.hid (fun W => rnumber_any ⟨d.toArray⟩ 999 W)
      have HD1 := Lib.hid (fun W => refDeed_any ⟨b.toArray⟩ W)
      simp only [show ∀ f : List UInt8, (⟨f.toArray⟩ : ByteArray).data.toList = f from fun f => by simp] at HN0 HN3 HD1
      have hc0 := HW.out wa 0 a HB.out rfl
      have hc1 := HW.out wa 1 b HB.out rfl
      have hc2 := HW.out wa 2 cc HB.out rfl
      have hc3 := HW.out wa 3 d HB.out rfl
      rw [Nat.add_zero] at hc0
      cases hz0 : numB a 1 60 with
      | false =>
        have g0 := numI_low hz0
        have HBAD := Lib.hid (show Sk.one [a, b, cc, d] l = .inr (1, 3) by rw [HONE.out]; unfold four; rw [if_pos hz0])
        obtain ⟨x0, hx0⟩ : ∃ x, numI a 60 = x := ⟨_, rfl⟩
        rw [hx0] at HN0 g0
        clear hx0 hz0
        go_enter Tryz.func42, Tryz.ntmps42
        go_upto_region 2 with (fail)
        rw [HNB.out]
        rw [hWA.out]
        go_wp2_with fail
        refine (HWD.out _).mono ?_
        rintro e w1 ⟨rfl, hb⟩; subst hb
        go_wp2_with fail
        refine (HN0.out _).mono ?_
        rintro e w2 ⟨rfl, hb2⟩
        have HX2 := Lib.hid (heap_keep HX.out hb2); have HY2 := Lib.hid (heap_keep HY.out hb2); have HB2 := Lib.hid (bch HB.out hb2 (by have := HB.out.size; have := HNB.out; omega))
        clear hb2 hc0 hc1 hc2 hc3
        obtain ⟨m0, m1, m2, m3, m4⟩ := cell5 HX2.out
        obtain ⟨f0, f1, f2, f3, f4⟩ := froz5a HX2.out
        obtain ⟨y0, y1, y2, y3, y4⟩ := cell5 HY2.out
        go_wp2_with fail
        obtain ⟨w7, hw7⟩ : ∃ w7, w7 = (((((w2.setCell ⟨nb, 0, none⟩ (.int .i64 0)).setCell ⟨nb, 1, none⟩ (.int .i64 0)).setCell ⟨nb, 2, none⟩ (.int .i64 0)).setCell ⟨nb, 3, none⟩ (.int .i64 0)).setCell ⟨nb, 4, none⟩ (.int .i64 0)) := ⟨_, rfl⟩
        have hx7 := set5a HX2.out (.int .i64 0) (.int .i64 0) (.int .i64 0) (.int .i64 0) (.int .i64 0)
        rw [← hw7] at hx7
        have hb7 : Below nb w w7 := by rw [hw7]; exact below_set5 HB2.out (Nat.le_refl _) _ _ _ _ _
        rw [← hw7]
        clear hw7
        obtain ⟨z0, z1, z2, z3, z4⟩ := cell5 hx7
        refine bodyPost_ret (v := .tuple #[.agg #[.int .i64 0, .int .i64 0, .int .i64 0, .int .i64 0, .int .i64 0], .int .i64 1, .int .i64 3]) (by simp [results, Tryz.results42, go_sem, z0, z1, z2, z3, z4]) rfl ⟨?_, hb7⟩
        exact refOneR_bad HBAD.out ((0, 0), 0, 0, 0) rfl
      | true =>
        obtain ⟨g0, g1, g2⟩ := numI_ok (.inr rfl) hz0
        obtain ⟨x0, hx0⟩ : ∃ x, (getM a).1 = x := ⟨_, rfl⟩
        rw [g0, hx0] at HN0
        rw [hx0] at g1 g2
        have hx1 : ¬ x0 < 1 := by omega
        clear g0
        have HONE2 := Lib.hid (show Sk.one [a, b, cc, d] l = if ((deedK b).2 && decide (partyI (deedK b).1 = 1)) = false then .inr (2, 3) else if (codeK cc).2 = false then .inr (3, 3) else if (numB d 0 999 && (decide ((codeK cc).1 = 1) || decide ((getM d).1 = 0))) = false then .inr (4, 3) else match l.getLast? with | none => .inl ((x0, (deedK b).1), (codeK cc).1, 0, (getM d).1) | some y => if lessB y.1.1 y.1.2 x0 (deedK b).1 = true then .inl ((x0, (deedK b).1), (codeK cc).1, 0, (getM d).1) else .inr (1, 6) by rw [HONE.out]; unfold four; simp only [hz0, hx0]; rfl)
        clear hz0 hx0 HONE
        go_enter Tryz.func42, Tryz.ntmps42
        go_upto_region 2 with (fail)
        rw [HNB.out]
        rw [hWA.out]
        go_wp2_with fail
        refine (HWD.out _).mono ?_
        rintro e w1 ⟨rfl, hb⟩; subst hb
        go_wp2_with fail
        refine (HN0.out _).mono ?_
        rintro e w2 ⟨rfl, hb2⟩
        have HX2 := Lib.hid (heap_keep HX.out hb2); have HY2 := Lib.hid (heap_keep HY.out hb2); have HB2 := Lib.hid (bch HB.out hb2 (by have := HB.out.size; have := HNB.out; omega))
        clear hb2 hc0 hc1 hc2 hc3
        have hc1 := HW.out w2 1 b HB2.out rfl
        have hc2 := HW.out w2 2 cc HB2.out rfl
        have hc3 := HW.out w2 3 d HB2.out rfl
        go_upto_region 9 with (fail)
        by_cases hd : b = wordL 0 ∨ b = wordL 3
        · rcases hd with hd | hd
          · have hdk : deedK b = (0, true) := by rw [hd]; decide
            rw [hdk] at HD1
            have HL2 := Lib.hid (show Sk.one [a, b, cc, d] l = if (codeK cc).2 = false then .inr (3, 3) else if (numB d 0 999 && (decide ((codeK cc).1 = 1) || decide ((getM d).1 = 0))) = false then .inr (4, 3) else match l.getLast? with | none => .inl ((x0, 0), (codeK cc).1, 0, (getM d).1) | some y => if lessB y.1.1 y.1.2 x0 0 = true then .inl ((x0, 0), (codeK cc).1, 0, (getM d).1) else .inr (1, 6) by rw [HONE2.out, hdk]; rfl)
            have e1 := text_eq (show b = [114, 101, 115, 101, 114, 118, 101] from hd)
            clear hd hdk
            go_upto_region 11 with (fail)
            rcases code_cases cc with ⟨cv, hcv, hcw, hck⟩ | ⟨hn1, hn2, hck⟩
            · rcases hcv with rfl | rfl
              · have HL3 := Lib.hid (show Sk.one [a, b, cc, d] l = if (numB d 0 999 && (decide ((1 : Int) = 1) || decide ((getM d).1 = 0))) = false then .inr (4, 3) else match l.getLast? with | none => .inl ((x0, 0), 1, 0, (getM d).1) | some y => if lessB y.1.1 y.1.2 x0 0 = true then .inl ((x0, 0), 1, 0, (getM d).1) else .inr (1, 6) by rw [HL2.out, hck]; rfl)
                have k1 := text_eq hcw.symm
                have k2 := text_ne (show cc ≠ [114, 101, 102, 117, 115, 101, 100] by rw [← hcw]; decide)
                rw [show codeW 1 = [100, 111, 110, 101] from rfl] at k1
                clear hcw hck
                go_upto_region 13 with (fail)
                cases hz3 : numB d 0 999 with
                | false =>
                  have g0 := numI_no hz3
                  have HBAD := Lib.hid (show Sk.one [a, b, cc, d] l = .inr (4, 3) by rw [HL3.out, hz3]; rfl)
                  rw [g0] at HN3
                  clear hz3 g0
                  go_wp2_with fail
                  refine (HN3.out _).mono ?_
                  rintro e w3 ⟨rfl, hb3⟩
                  have HX3 := Lib.hid (heap_keep HX2.out hb3); have HY3 := Lib.hid (heap_keep HY2.out hb3); have HB3 := Lib.hid (bch HB2.out hb3 (by have := HB2.out.size; have := HNB.out; omega))
                  clear hb3 hc1 hc2 hc3
                  have hc1 := HW.out w3 1 b HB3.out rfl
                  have hc2 := HW.out w3 2 cc HB3.out rfl
                  have hc3 := HW.out w3 3 d HB3.out rfl
                  obtain ⟨m0, m1, m2, m3, m4⟩ := cell5 HX3.out
                  obtain ⟨f0, f1, f2, f3, f4⟩ := froz5a HX3.out
                  obtain ⟨y0, y1, y2, y3, y4⟩ := cell5 HY3.out
                  go_wp2_with fail
                  obtain ⟨w7, hw7⟩ : ∃ w7, w7 = (((((w3.setCell ⟨nb, 0, none⟩ (.int .i64 0)).setCell ⟨nb, 1, none⟩ (.int .i64 0)).setCell ⟨nb, 2, none⟩ (.int .i64 0)).setCell ⟨nb, 3, none⟩ (.int .i64 0)).setCell ⟨nb, 4, none⟩ (.int .i64 0)) := ⟨_, rfl⟩
                  have hx7 := set5a HX3.out (.int .i64 0) (.int .i64 0) (.int .i64 0) (.int .i64 0) (.int .i64 0)
                  rw [← hw7] at hx7
                  have hb7 : Below nb w w7 := by rw [hw7]; exact below_set5 HB3.out (Nat.le_refl _) _ _ _ _ _
                  rw [← hw7]
                  clear hw7
                  obtain ⟨z0, z1, z2, z3, z4⟩ := cell5 hx7
                  refine bodyPost_ret (v := .tuple #[.agg #[.int .i64 0, .int .i64 0, .int .i64 0, .int .i64 0, .int .i64 0], .int .i64 4, .int .i64 3]) (by simp [results, Tryz.results42, go_sem, z0, z1, z2, z3, z4]) rfl ⟨?_, hb7⟩
                  exact refOneR_bad HBAD.out ((0, 0), 0, 0, 0) rfl
                | true =>
                  obtain ⟨g0, g1, g2⟩ := numI_ok (.inl rfl) hz3
                  obtain ⟨x3, hx3⟩ : ∃ x, (getM d).1 = x := ⟨_, rfl⟩
                  rw [g0, hx3] at HN3
                  rw [hx3] at g1 g2
                  have q3 : ¬ x3 < 0 := by omega
                  have HL4 := Lib.hid (show Sk.one [a, b, cc, d] l = match l.getLast? with | none => .inl ((x0, 0), 1, 0, x3) | some y => if lessB y.1.1 y.1.2 x0 0 = true then .inl ((x0, 0), 1, 0, x3) else .inr (1, 6) by rw [HL3.out, hz3, hx3]; rfl)
                  clear hz3 g0 hx3
                  go_wp2_with fail
                  refine (HN3.out _).mono ?_
                  rintro e w3 ⟨rfl, hb3⟩
                  have HX3 := Lib.hid (heap_keep HX2.out hb3); have HY3 := Lib.hid (heap_keep HY2.out hb3); have HB3 := Lib.hid (bch HB2.out hb3 (by have := HB2.out.size; have := HNB.out; omega))
                  clear hb3 hc1 hc2 hc3
                  have hc1 := HW.out w3 1 b HB3.out rfl
                  have hc2 := HW.out w3 2 cc HB3.out rfl
                  have hc3 := HW.out w3 3 d HB3.out rfl
                  by_cases q4 : 0 < x3
                  · go_wp2_with fail
                    refine (HD1.out _).mono ?_
                    rintro e w4 ⟨rfl, hb4⟩
                    have HX4 := Lib.hid (heap_keep HX3.out hb4); have HY4 := Lib.hid (heap_keep HY3.out hb4); have HB4 := Lib.hid (bch HB3.out hb4 (by have := HB3.out.size; have := HNB.out; omega))
                    clear hb4 hc1 hc2 hc3
                    have hc2 := HW.out w4 2 cc HB4.out rfl
                    obtain ⟨y0, y1, y2, y3, y4⟩ := cell5 HY4.out
                    obtain ⟨f0, f1, f2, f3, f4⟩ := froz5a HY4.out
                    go_upto_region 18 with (fail)
                    obtain ⟨w6, hw6⟩ : ∃ w6, w6 = (((((w4.setCell ⟨nb + 1, 0, none⟩ (.int .i64 x0)).setCell ⟨nb + 1, 1, none⟩ (.int .i64 0)).setCell ⟨nb + 1, 2, none⟩ (.int .i64 1)).setCell ⟨nb + 1, 3, none⟩ (.int .i64 0)).setCell ⟨nb + 1, 4, none⟩ (.int .i64 x3)) := ⟨_, rfl⟩
                    rw [← hw6]
                    have hy6 := set5a HY4.out (.int .i64 x0) (.int .i64 0) (.int .i64 1) (.int .i64 0) (.int .i64 x3)
                    rw [← hw6] at hy6
                    have hx6 : w6.heap[nb]? = some (.cells #[.int .i64 0, .int .i64 0, .int .i64 0, .int .i64 0, .int .i64 0] tRow (0, 0)) := by rw [hw6]; exact set_other (set_other (set_other (set_other (set_other HX4.out (by omega) _) (by omega) _) (by omega) _) (by omega) _) (by omega) _
                    have hb6 : Below nb w w6 := by rw [hw6]; exact below_set5 HB4.out (by omega) _ _ _ _ _
                    have hc2' : w6.cell? ⟨gb, go_ + 2, none⟩ = some (.string ⟨cc.toArray⟩) := HW.out w6 2 cc hb6 rfl
                    have HX6 := Lib.hid hx6; have HY6 := Lib.hid hy6; have HB6 := Lib.hid hb6
                    clear hw6 hx6 hy6 hb6 y0 y1 y2 y3 y4 f0 f1 f2 f3 f4 hc2
                    obtain ⟨y0, y1, y2, y3, y4⟩ := cell5 HY6.out
                    obtain ⟨f0, f1, f2, f3, f4⟩ := froz5a HY6.out
                    go_upto_region 20 with (fail)
                    clear y0 y1 y2 y3 y4 f0 f1 f2 f3 f4 hc2'
                    by_cases hn0 : n = 0
                    · subst hn0
                      have hl0 : l = [] := List.eq_nil_of_length_eq_zero HLN.out
                      have HOK := Lib.hid (show Sk.one [a, b, cc, d] l = .inl ((x0, 0), 1, 0, x3) by rw [HL4.out, hl0]; rfl)
                      clear hl0
                      go_quiet (fail)
                      go_upto_region 22 with (fail)
                      obtain ⟨w5, hw5⟩ : ∃ w5, w5 = w6.drewN nq := ⟨_, rfl⟩
                      rw [← hw5]
                      have hb5 : Below w6.heap.size w6 w5 := by rw [hw5]; exact below_dq (Below.refl _ _) nq
                      have HX5 := Lib.hid (heap_keep HX6.out hb5); have HY5 := Lib.hid (heap_keep HY6.out hb5); have HB5 := Lib.hid (bch HB6.out hb5 (by have := HB6.out.size; have := HNB.out; omega))
                      clear hw5 hb5
                      obtain ⟨m0, m1, m2, m3, m4⟩ := cell5 HX5.out
                      obtain ⟨f0, f1, f2, f3, f4⟩ := froz5a HX5.out
                      obtain ⟨y0, y1, y2, y3, y4⟩ := cell5 HY5.out
                      go_wp2_with fail
                      obtain ⟨w7, hw7⟩ : ∃ w7, w7 = (((((w5.setCell ⟨nb, 0, none⟩ (.int .i64 x0)).setCell ⟨nb, 1, none⟩ (.int .i64 0)).setCell ⟨nb, 2, none⟩ (.int .i64 1)).setCell ⟨nb, 3, none⟩ (.int .i64 0)).setCell ⟨nb, 4, none⟩ (.int .i64 x3)) := ⟨_, rfl⟩
                      have hx7 := set5a HX5.out (.int .i64 x0) (.int .i64 0) (.int .i64 1) (.int .i64 0) (.int .i64 x3)
                      rw [← hw7] at hx7
                      have hb7 : Below nb w w7 := by rw [hw7]; exact below_set5 HB5.out (Nat.le_refl _) _ _ _ _ _
                      rw [← hw7]
                      clear hw7
                      obtain ⟨z0, z1, z2, z3, z4⟩ := cell5 hx7
                      refine bodyPost_ret (v := .tuple #[.agg #[.int .i64 x0, .int .i64 0, .int .i64 1, .int .i64 0, .int .i64 x3], .int .i64 0, .int .i64 0]) (by simp [results, Tryz.results42, go_sem, z0, z1, z2, z3, z4]) rfl ⟨?_, hb7⟩
                      exact refOneR_ok HOK.out rfl
                    · obtain ⟨y, hy⟩ : ∃ y, l[n - 1]? = some y := ⟨_, List.getElem?_eq_getElem (by have := HLN.out; omega)⟩
                      have hlast : l.getLast? = some y := by rw [List.getLast?_eq_getElem?, HLN.out]; exact hy
                      have HL5 := Lib.hid (show Sk.one [a, b, cc, d] l = if lessB y.1.1 y.1.2 x0 0 = true then .inl ((x0, 0), 1, 0, x3) else .inr (1, 6) by rw [HL4.out, hlast])
                      obtain ⟨g, off, n', c', e, d0, d1, _, _, _⟩ := HU.out.cells (by rw [HNB.out]; exact HB6.out) hy
                      injection e with e1 e2 e3
                      subst e1
                      clear hlast e2 e3 hy
                      obtain ⟨y0, y1, y2, y3, y4⟩ := cell5 HY6.out
                      have hn1 : 0 < n := by omega
                      have hnI : (0 : Int) < n := by omega
                      have hnz := decide_eq_true hnI
                      have hw1 : IntKind.i64.wrap ((n : Int) - 1) = (n : Int) - 1 := IntWalk.i64_in _ (by omega)
                      have hi0 : (0 : Int) ≤ (n : Int) - 1 := by omega
                      have hi3 : (1 : Int) ≤ n := by omega
                      have hi1 : (n : Int) - 1 < n := by omega
                      have hi2 : ((n : Int) - 1).toNat = n - 1 := by omega
                      have HH := Lib.hid (fun W (hb : Below w6.heap.size w6 W) => (⟨Lib.hid hb, (hb.cell (World.block_lt_of_cell? w6 _ d0)).trans d0, (hb.cell (World.block_lt_of_cell? w6 _ d1)).trans d1, (hb.cell (World.block_lt_of_cell? w6 _ y0)).trans y0, (hb.cell (World.block_lt_of_cell? w6 _ y1)).trans y1⟩ : (fun w' => Hid (Below w6.heap.size w6 w') ∧ w'.cell? ⟨g, off + (n - 1) * 5, none⟩ = some (.int .i64 y.1.1) ∧ w'.cell? ⟨g, off + (n - 1) * 5 + 1, none⟩ = some (.int .i64 y.1.2) ∧ w'.cell? ⟨nb + 1, 0, none⟩ = some (.int .i64 x0) ∧ w'.cell? ⟨nb + 1, 1, none⟩ = some (.int .i64 0)) W))
                      refine wp_region_noPanic ?_
                      refine wp_region_held_drew (S := (fun w' => Hid (Below w6.heap.size w6 w') ∧ w'.cell? ⟨g, off + (n - 1) * 5, none⟩ = some (.int .i64 y.1.1) ∧ w'.cell? ⟨g, off + (n - 1) * 5 + 1, none⟩ = some (.int .i64 y.1.2) ∧ w'.cell? ⟨nb + 1, 0, none⟩ = some (.int .i64 x0) ∧ w'.cell? ⟨nb + 1, 1, none⟩ = some (.int .i64 0))) (by kernel_rfl) (HH.out _ (below_drew1 (Below.refl w6.heap.size w6))) (fun hHeld => ?_)
                      refine wpAnyH_take (i := 0) (v := ?vc0_1) rfl (by kernel_rfl) (by kernel_rfl) (by kernel_rfl) (fun _ _ _ h => h) (Or.inl ⟨by rfl, ?hyc0_1⟩) (by assumption) ?restc0_1
                      case hyc0_1 => (intro w0 hSw; (try dsimp only at hSw); go_simp; try with_reducible rfl)
                      case' restc0_1 => try simp only [Act.put, List.getElem_toArray, List.getElem_cons_zero, List.getElem_cons_succ, List.setIfInBounds_toArray, List.set_cons_zero, List.set_cons_succ]
                      refine wpAnyH_take (i := 1) (v := ?vc1_2) rfl (by kernel_rfl) (by kernel_rfl) (by kernel_rfl) (fun _ _ _ h => h) (Or.inl ⟨by rfl, ?hyc1_2⟩) (by assumption) ?restc1_2
                      case hyc1_2 => (intro w0 hSw; (try dsimp only at hSw); go_simp; try with_reducible rfl)
                      case' restc1_2 => try simp only [Act.put, List.getElem_toArray, List.getElem_cons_zero, List.getElem_cons_succ, List.setIfInBounds_toArray, List.set_cons_zero, List.set_cons_succ]
                      refine wpAnyH_take (i := 2) (v := ?vc2_3) rfl (by kernel_rfl) (by kernel_rfl) (by kernel_rfl) (fun _ _ _ h => h) (Or.inl ⟨by rfl, ?hyc2_3⟩) (by assumption) ?restc2_3
                      case hyc2_3 => (intro w0 hSw; (try dsimp only at hSw); go_simp; try with_reducible rfl)
                      case' restc2_3 => try simp only [Act.put, List.getElem_toArray, List.getElem_cons_zero, List.getElem_cons_succ, List.setIfInBounds_toArray, List.set_cons_zero, List.set_cons_succ]
                      refine wpAnyH_take (i := 3) (v := ?vc3_4) rfl (by kernel_rfl) (by kernel_rfl) (by kernel_rfl) (fun _ _ _ h => h) (Or.inl ⟨by rfl, ?hyc3_4⟩) (by assumption) ?restc3_4
                      case hyc3_4 => (intro w0 hSw; (try dsimp only at hSw); go_simp; try with_reducible rfl)
                      case' restc3_4 => try simp only [Act.put, List.getElem_toArray, List.getElem_cons_zero, List.getElem_cons_succ, List.setIfInBounds_toArray, List.set_cons_zero, List.set_cons_succ]
                      refine wpAnyH_take (i := 4) (v := ?vc4_5) rfl (by kernel_rfl) (by kernel_rfl) (by kernel_rfl) (fun _ _ _ h => h) (Or.inl ⟨by rfl, ?hyc4_5⟩) (by assumption) ?restc4_5
                      case hyc4_5 => (intro w0 hSw; (try dsimp only at hSw); go_simp; try with_reducible rfl)
                      case' restc4_5 => try simp only [Act.put, List.getElem_toArray, List.getElem_cons_zero, List.getElem_cons_succ, List.setIfInBounds_toArray, List.set_cons_zero, List.set_cons_succ]
                      refine wpAnyH_take (i := 5) (v := ?vc5_6) rfl (by kernel_rfl) (by kernel_rfl) (by kernel_rfl) (fun _ _ _ h => h) (Or.inl ⟨by rfl, ?hyc5_6⟩) (by assumption) ?restc5_6
                      case hyc5_6 => (intro w0 hSw; (try dsimp only at hSw); go_simp; try with_reducible rfl)
                      case' restc5_6 => try simp only [Act.put, List.getElem_toArray, List.getElem_cons_zero, List.getElem_cons_succ, List.setIfInBounds_toArray, List.set_cons_zero, List.set_cons_succ]
                      refine wpAnyH_take (i := 6) (v := ?vc6_7) rfl (by kernel_rfl) (by kernel_rfl) (by kernel_rfl) (fun _ _ _ h => h) (Or.inl ⟨by rfl, ?hyc6_7⟩) (by assumption) ?restc6_7
                      case hyc6_7 => (intro w0 hSw; (try dsimp only at hSw); go_simp; try with_reducible rfl)
                      case' restc6_7 => try simp only [Act.put, List.getElem_toArray, List.getElem_cons_zero, List.getElem_cons_succ, List.setIfInBounds_toArray, List.set_cons_zero, List.set_cons_succ]
                      refine wpAnyH_take (i := 7) (v := ?vc7_8) rfl (by kernel_rfl) (by kernel_rfl) (by kernel_rfl) (fun _ _ _ h => h) (Or.inl ⟨by rfl, ?hyc7_8⟩) (by assumption) ?restc7_8
                      case hyc7_8 => (intro w0 hSw; (try dsimp only at hSw); go_simp; try with_reducible rfl)
                      case' restc7_8 => try simp only [Act.put, List.getElem_toArray, List.getElem_cons_zero, List.getElem_cons_succ, List.setIfInBounds_toArray, List.set_cons_zero, List.set_cons_succ]
                      refine wpAnyH_take (i := 8) (v := ?vc8_9) rfl (by kernel_rfl) (by kernel_rfl) (by kernel_rfl) (fun _ _ _ h => h) (Or.inl ⟨by rfl, ?hyc8_9⟩) (by assumption) ?restc8_9
                      case hyc8_9 => (intro w0 hSw; (try dsimp only at hSw); go_simp; try with_reducible rfl)
                      case' restc8_9 => try simp only [Act.put, List.getElem_toArray, List.getElem_cons_zero, List.getElem_cons_succ, List.setIfInBounds_toArray, List.set_cons_zero, List.set_cons_succ]
                      refine wpAnyH_take (i := 9) (v := ?vc9_10) rfl (by kernel_rfl) (by kernel_rfl) (by kernel_rfl) (fun _ _ _ h => h) (Or.inl ⟨by rfl, ?hyc9_10⟩) (by assumption) ?restc9_10
                      case hyc9_10 => (intro w0 hSw; (try dsimp only at hSw); go_simp; try with_reducible rfl)
                      case' restc9_10 => try simp only [Act.put, List.getElem_toArray, List.getElem_cons_zero, List.getElem_cons_succ, List.setIfInBounds_toArray, List.set_cons_zero, List.set_cons_succ]
                      refine wpAnyH_take (i := 10) (v := ?vc10_11) rfl (by kernel_rfl) (by kernel_rfl) (by kernel_rfl) (fun _ _ _ h => h) (Or.inl ⟨by rfl, ?hyc10_11⟩) (by assumption) ?restc10_11
                      case hyc10_11 => (intro w0 hSw; (try dsimp only at hSw); go_simp; try with_reducible rfl)
                      case' restc10_11 => try simp only [Act.put, List.getElem_toArray, List.getElem_cons_zero, List.getElem_cons_succ, List.setIfInBounds_toArray, List.set_cons_zero, List.set_cons_succ]
                      refine wpAnyH_take (i := 11) (v := ?vc11_12) rfl (by kernel_rfl) (by kernel_rfl) (by kernel_rfl) (fun _ _ _ h => h) (Or.inl ⟨by rfl, ?hyc11_12⟩) (by assumption) ?restc11_12
                      case hyc11_12 => (intro w0 hSw; (try dsimp only at hSw); go_simp; try with_reducible rfl)
                      case' restc11_12 => try simp only [Act.put, List.getElem_toArray, List.getElem_cons_zero, List.getElem_cons_succ, List.setIfInBounds_toArray, List.set_cons_zero, List.set_cons_succ]
                      refine wpAnyH_take (i := 12) (v := ?vc12_13) rfl (by kernel_rfl) (by kernel_rfl) (by kernel_rfl) (fun _ _ _ h => h) (Or.inl ⟨by rfl, ?hyc12_13⟩) (by assumption) ?restc12_13
                      case hyc12_13 => (intro w0 hSw; (try dsimp only at hSw); go_simp; try with_reducible rfl)
                      case' restc12_13 => try simp only [Act.put, List.getElem_toArray, List.getElem_cons_zero, List.getElem_cons_succ, List.setIfInBounds_toArray, List.set_cons_zero, List.set_cons_succ]
                      refine wpAnyH_ready (rs := [13]) (by kernel_rfl) (by simp) ?_
                      refine AllReadyH.cons rfl (fun K hK => ?_) AllReadyH.nil
                      go_simp
                      refine (refLess_any y.1.1 y.1.2 x0 0 _).mono ?_
                      rintro e w5 ⟨rfl, hb4⟩
                      refine hK.out _ _ (HH.out _ (bch (below_drew1 (Below.refl w6.heap.size w6)) hb4 (by simp))) (fun hHeld => ?_)
                      clear hK K
                      try simp only [Act.put, List.getElem_toArray, List.getElem_cons_zero, List.getElem_cons_succ, List.setIfInBounds_toArray, List.set_cons_zero, List.set_cons_succ]
                      refine wpAnyH_take (i := 14) (v := ?vc14_14) rfl (by kernel_rfl) (by kernel_rfl) (by kernel_rfl) (fun _ _ _ h => h) (Or.inl ⟨by rfl, ?hyc14_14⟩) (by assumption) ?restc14_14
                      case hyc14_14 => (intro w0 hSw; (try dsimp only at hSw); go_simp; try with_reducible rfl)
                      case' restc14_14 => try simp only [Act.put, List.getElem_toArray, List.getElem_cons_zero, List.getElem_cons_succ, List.setIfInBounds_toArray, List.set_cons_zero, List.set_cons_succ]
                      refine wpAnyH_take (i := 15) (v := ?vc15_15) rfl (by kernel_rfl) (by kernel_rfl) (by kernel_rfl) (fun _ _ _ h => h) (Or.inl ⟨by rfl, ?hyc15_15⟩) (by assumption) ?restc15_15
                      case hyc15_15 => (intro w0 hSw; (try dsimp only at hSw); go_simp; try with_reducible rfl)
                      case' restc15_15 => try simp only [Act.put, List.getElem_toArray, List.getElem_cons_zero, List.getElem_cons_succ, List.setIfInBounds_toArray, List.set_cons_zero, List.set_cons_succ]
                      refine wpAnyH_done (by kernel_rfl) ?_ _
                      refine NoPanic.normal ?_
                      have hb5 : Below w6.heap.size w6 w5 := bch (below_drew1 (Below.refl w6.heap.size w6)) hb4 (by simp)
                      clear hHeld HH hb4 y0 y1 y2 y3 y4 d0 d1 hw1 hi0 hi1 hi2 hi3 hnz
                      have HX5 := Lib.hid (heap_keep HX6.out hb5); have HY5 := Lib.hid (heap_keep HY6.out hb5); have HB5 := Lib.hid (bch HB6.out hb5 (by have := HB6.out.size; have := HNB.out; omega))
                      clear hb5
                      cases hls : lessB y.1.1 y.1.2 x0 0 with
                      | true =>
                        have HOK := Lib.hid (show Sk.one [a, b, cc, d] l = .inl ((x0, 0), 1, 0, x3) by rw [HL5.out, hls]; rfl)
                        clear hls
                        obtain ⟨m0, m1, m2, m3, m4⟩ := cell5 HX5.out
                        obtain ⟨f0, f1, f2, f3, f4⟩ := froz5a HX5.out
                        obtain ⟨y0, y1, y2, y3, y4⟩ := cell5 HY5.out
                        go_wp2_with fail
                        obtain ⟨w7, hw7⟩ : ∃ w7, w7 = (((((w5.setCell ⟨nb, 0, none⟩ (.int .i64 x0)).setCell ⟨nb, 1, none⟩ (.int .i64 0)).setCell ⟨nb, 2, none⟩ (.int .i64 1)).setCell ⟨nb, 3, none⟩ (.int .i64 0)).setCell ⟨nb, 4, none⟩ (.int .i64 x3)) := ⟨_, rfl⟩
                        have hx7 := set5a HX5.out (.int .i64 x0) (.int .i64 0) (.int .i64 1) (.int .i64 0) (.int .i64 x3)
                        rw [← hw7] at hx7
                        have hb7 : Below nb w w7 := by rw [hw7]; exact below_set5 HB5.out (Nat.le_refl _) _ _ _ _ _
                        rw [← hw7]
                        clear hw7
                        obtain ⟨z0, z1, z2, z3, z4⟩ := cell5 hx7
                        refine bodyPost_ret (v := .tuple #[.agg #[.int .i64 x0, .int .i64 0, .int .i64 1, .int .i64 0, .int .i64 x3], .int .i64 0, .int .i64 0]) (by simp [results, Tryz.results42, go_sem, z0, z1, z2, z3, z4]) rfl ⟨?_, hb7⟩
                        exact refOneR_ok HOK.out rfl
                      | false =>
                        have HBAD := Lib.hid (show Sk.one [a, b, cc, d] l = .inr (1, 6) by rw [HL5.out, hls]; rfl)
                        clear hls
                        obtain ⟨m0, m1, m2, m3, m4⟩ := cell5 HX5.out
                        obtain ⟨f0, f1, f2, f3, f4⟩ := froz5a HX5.out
                        obtain ⟨y0, y1, y2, y3, y4⟩ := cell5 HY5.out
                        go_wp2_with fail
                        obtain ⟨w7, hw7⟩ : ∃ w7, w7 = (((((w5.setCell ⟨nb, 0, none⟩ (.int .i64 x0)).setCell ⟨nb, 1, none⟩ (.int .i64 0)).setCell ⟨nb, 2, none⟩ (.int .i64 1)).setCell ⟨nb, 3, none⟩ (.int .i64 0)).setCell ⟨nb, 4, none⟩ (.int .i64 x3)) := ⟨_, rfl⟩
                        have hx7 := set5a HX5.out (.int .i64 x0) (.int .i64 0) (.int .i64 1) (.int .i64 0) (.int .i64 x3)
                        rw [← hw7] at hx7
                        have hb7 : Below nb w w7 := by rw [hw7]; exact below_set5 HB5.out (Nat.le_refl _) _ _ _ _ _
                        rw [← hw7]
                        clear hw7
                        obtain ⟨z0, z1, z2, z3, z4⟩ := cell5 hx7
                        refine bodyPost_ret (v := .tuple #[.agg #[.int .i64 x0, .int .i64 0, .int .i64 1, .int .i64 0, .int .i64 x3], .int .i64 1, .int .i64 6]) (by simp [results, Tryz.results42, go_sem, z0, z1, z2, z3, z4]) rfl ⟨?_, hb7⟩
                        exact refOneR_bad HBAD.out ((x0, 0), 1, 0, x3) rfl
                  · go_wp2_with fail
                    refine (HD1.out _).mono ?_
                    rintro e w4 ⟨rfl, hb4⟩
                    have HX4 := Lib.hid (heap_keep HX3.out hb4); have HY4 := Lib.hid (heap_keep HY3.out hb4); have HB4 := Lib.hid (bch HB3.out hb4 (by have := HB3.out.size; have := HNB.out; omega))
                    clear hb4 hc1 hc2 hc3
                    have hc2 := HW.out w4 2 cc HB4.out rfl
                    obtain ⟨y0, y1, y2, y3, y4⟩ := cell5 HY4.out
                    obtain ⟨f0, f1, f2, f3, f4⟩ := froz5a HY4.out
                    go_upto_region 18 with (fail)
                    obtain ⟨w6, hw6⟩ : ∃ w6, w6 = (((((w4.setCell ⟨nb + 1, 0, none⟩ (.int .i64 x0)).setCell ⟨nb + 1, 1, none⟩ (.int .i64 0)).setCell ⟨nb + 1, 2, none⟩ (.int .i64 1)).setCell ⟨nb + 1, 3, none⟩ (.int .i64 0)).setCell ⟨nb + 1, 4, none⟩ (.int .i64 x3)) := ⟨_, rfl⟩
                    rw [← hw6]
                    have hy6 := set5a HY4.out (.int .i64 x0) (.int .i64 0) (.int .i64 1) (.int .i64 0) (.int .i64 x3)
                    rw [← hw6] at hy6
                    have hx6 : w6.heap[nb]? = some (.cells #[.int .i64 0, .int .i64 0, .int .i64 0, .int .i64 0, .int .i64 0] tRow (0, 0)) := by rw [hw6]; exact set_other (set_other (set_other (set_other (set_other HX4.out (by omega) _) (by omega) _) (by omega) _) (by omega) _) (by omega) _
                    have hb6 : Below nb w w6 := by rw [hw6]; exact below_set5 HB4.out (by omega) _ _ _ _ _
                    have hc2' : w6.cell? ⟨gb, go_ + 2, none⟩ = some (.string ⟨cc.toArray⟩) := HW.out w6 2 cc hb6 rfl
                    have HX6 := Lib.hid hx6; have HY6 := Lib.hid hy6; have HB6 := Lib.hid hb6
                    clear hw6 hx6 hy6 hb6 y0 y1 y2 y3 y4 f0 f1 f2 f3 f4 hc2
                    obtain ⟨y0, y1, y2, y3, y4⟩ := cell5 HY6.out
                    obtain ⟨f0, f1, f2, f3, f4⟩ := froz5a HY6.out
                    go_upto_region 20 with (fail)
                    clear y0 y1 y2 y3 y4 f0 f1 f2 f3 f4 hc2'
                    by_cases hn0 : n = 0
                    · subst hn0
                      have hl0 : l = [] := List.eq_nil_of_length_eq_zero HLN.out
                      have HOK := Lib.hid (show Sk.one [a, b, cc, d] l = .inl ((x0, 0), 1, 0, x3) by rw [HL4.out, hl0]; rfl)
                      clear hl0
                      go_quiet (fail)
                      go_upto_region 22 with (fail)
                      obtain ⟨w5, hw5⟩ : ∃ w5, w5 = w6.drewN nq := ⟨_, rfl⟩
                      rw [← hw5]
                      have hb5 : Below w6.heap.size w6 w5 := by rw [hw5]; exact below_dq (Below.refl _ _) nq
                      have HX5 := Lib.hid (heap_keep HX6.out hb5); have HY5 := Lib.hid (heap_keep HY6.out hb5); have HB5 := Lib.hid (bch HB6.out hb5 (by have := HB6.out.size; have := HNB.out; omega))
                      clear hw5 hb5
                      obtain ⟨m0, m1, m2, m3, m4⟩ := cell5 HX5.out
                      obtain ⟨f0, f1, f2, f3, f4⟩ := froz5a HX5.out
                      obtain ⟨y0, y1, y2, y3, y4⟩ := cell5 HY5.out
                      go_wp2_with fail
                      obtain ⟨w7, hw7⟩ : ∃ w7, w7 = (((((w5.setCell ⟨nb, 0, none⟩ (.int .i64 x0)).setCell ⟨nb, 1, none⟩ (.int .i64 0)).setCell ⟨nb, 2, none⟩ (.int .i64 1)).setCell ⟨nb, 3, none⟩ (.int .i64 0)).setCell ⟨nb, 4, none⟩ (.int .i64 x3)) := ⟨_, rfl⟩
                      have hx7 := set5a HX5.out (.int .i64 x0) (.int .i64 0) (.int .i64 1) (.int .i64 0) (.int .i64 x3)
                      rw [← hw7] at hx7
                      have hb7 : Below nb w w7 := by rw [hw7]; exact below_set5 HB5.out (Nat.le_refl _) _ _ _ _ _
                      rw [← hw7]
                      clear hw7
                      obtain ⟨z0, z1, z2, z3, z4⟩ := cell5 hx7
                      refine bodyPost_ret (v := .tuple #[.agg #[.int .i64 x0, .int .i64 0, .int .i64 1, .int .i64 0, .int .i64 x3], .int .i64 0, .int .i64 0]) (by simp [results, Tryz.results42, go_sem, z0, z1, z2, z3, z4]) rfl ⟨?_, hb7⟩
                      exact refOneR_ok HOK.out rfl
                    · obtain ⟨y, hy⟩ : ∃ y, l[n - 1]? = some y := ⟨_, List.getElem?_eq_getElem (by have := HLN.out; omega)⟩
                      have hlast : l.getLast? = some y := by rw [List.getLast?_eq_getElem?, HLN.out]; exact hy
                      have HL5 := Lib.hid (show Sk.one [a, b, cc, d] l = if lessB y.1.1 y.1.2 x0 0 = true then .inl ((x0, 0), 1, 0, x3) else .inr (1, 6) by rw [HL4.out, hlast])
                      obtain ⟨g, off, n', c', e, d0, d1, _, _, _⟩ := HU.out.cells (by rw [HNB.out]; exact HB6.out) hy
                      injection e with e1 e2 e3
                      subst e1
                      clear hlast e2 e3 hy
                      obtain ⟨y0, y1, y2, y3, y4⟩ := cell5 HY6.out
                      have hn1 : 0 < n := by omega
                      have hnI : (0 : Int) < n := by omega
                      have hnz := decide_eq_true hnI
                      have hw1 : IntKind.i64.wrap ((n : Int) - 1) = (n : Int) - 1 := IntWalk.i64_in _ (by omega)
                      have hi0 : (0 : Int) ≤ (n : Int) - 1 := by omega
                      have hi3 : (1 : Int) ≤ n := by omega
                      have hi1 : (n : Int) - 1 < n := by omega
                      have hi2 : ((n : Int) - 1).toNat = n - 1 := by omega
                      have HH := Lib.hid (fun W (hb : Below w6.heap.size w6 W) => (⟨Lib.hid hb, (hb.cell (World.block_lt_of_cell? w6 _ d0)).trans d0, (hb.cell (World.block_lt_of_cell? w6 _ d1)).trans d1, (hb.cell (World.block_lt_of_cell? w6 _ y0)).trans y0, (hb.cell (World.block_lt_of_cell? w6 _ y1)).trans y1⟩ : (fun w' => Hid (Below w6.heap.size w6 w') ∧ w'.cell? ⟨g, off + (n - 1) * 5, none⟩ = some (.int .i64 y.1.1) ∧ w'.cell? ⟨g, off + (n - 1) * 5 + 1, none⟩ = some (.int .i64 y.1.2) ∧ w'.cell? ⟨nb + 1, 0, none⟩ = some (.int .i64 x0) ∧ w'.cell? ⟨nb + 1, 1, none⟩ = some (.int .i64 0)) W))
                      refine wp_region_noPanic ?_
                      refine wp_region_held_drew (S := (fun w' => Hid (Below w6.heap.size w6 w') ∧ w'.cell? ⟨g, off + (n - 1) * 5, none⟩ = some (.int .i64 y.1.1) ∧ w'.cell? ⟨g, off + (n - 1) * 5 + 1, none⟩ = some (.int .i64 y.1.2) ∧ w'.cell? ⟨nb + 1, 0, none⟩ = some (.int .i64 x0) ∧ w'.cell? ⟨nb + 1, 1, none⟩ = some (.int .i64 0))) (by kernel_rfl) (HH.out _ (below_drew1 (Below.refl w6.heap.size w6))) (fun hHeld => ?_)
                      refine wpAnyH_take (i := 0) (v := ?vc0_16) rfl (by kernel_rfl) (by kernel_rfl) (by kernel_rfl) (fun _ _ _ h => h) (Or.inl ⟨by rfl, ?hyc0_16⟩) (by assumption) ?restc0_16
                      case hyc0_16 => (intro w0 hSw; (try dsimp only at hSw); go_simp; try with_reducible rfl)
                      case' restc0_16 => try simp only [Act.put, List.getElem_toArray, List.getElem_cons_zero, List.getElem_cons_succ, List.setIfInBounds_toArray, List.set_cons_zero, List.set_cons_succ]
                      refine wpAnyH_take (i := 1) (v := ?vc1_17) rfl (by kernel_rfl) (by kernel_rfl) (by kernel_rfl) (fun _ _ _ h => h) (Or.inl ⟨by rfl, ?hyc1_17⟩) (by assumption) ?restc1_17
                      case hyc1_17 => (intro w0 hSw; (try dsimp only at hSw); go_simp; try with_reducible rfl)
                      case' restc1_17 => try simp only [Act.put, List.getElem_toArray, List.getElem_cons_zero, List.getElem_cons_succ, List.setIfInBounds_toArray, List.set_cons_zero, List.set_cons_succ]
                      refine wpAnyH_take (i := 2) (v := ?vc2_18) rfl (by kernel_rfl) (by kernel_rfl) (by kernel_rfl) (fun _ _ _ h => h) (Or.inl ⟨by rfl, ?hyc2_18⟩) (by assumption) ?restc2_18
                      case hyc2_18 => (intro w0 hSw; (try dsimp only at hSw); go_simp; try with_reducible rfl)
                      case' restc2_18 => try simp only [Act.put, List.getElem_toArray, List.getElem_cons_zero, List.getElem_cons_succ, List.setIfInBounds_toArray, List.set_cons_zero, List.set_cons_succ]
                      refine wpAnyH_take (i := 3) (v := ?vc3_19) rfl (by kernel_rfl) (by kernel_rfl) (by kernel_rfl) (fun _ _ _ h => h) (Or.inl ⟨by rfl, ?hyc3_19⟩) (by assumption) ?restc3_19
                      case hyc3_19 => (intro w0 hSw; (try dsimp only at hSw); go_simp; try with_reducible rfl)
                      case' restc3_19 => try simp only [Act.put, List.getElem_toArray, List.getElem_cons_zero, List.getElem_cons_succ, List.setIfInBounds_toArray, List.set_cons_zero, List.set_cons_succ]
                      refine wpAnyH_take (i := 4) (v := ?vc4_20) rfl (by kernel_rfl) (by kernel_rfl) (by kernel_rfl) (fun _ _ _ h => h) (Or.inl ⟨by rfl, ?hyc4_20⟩) (by assumption) ?restc4_20
                      case hyc4_20 => (intro w0 hSw; (try dsimp only at hSw); go_simp; try with_reducible rfl)
                      case' restc4_20 => try simp only [Act.put, List.getElem_toArray, List.getElem_cons_zero, List.getElem_cons_succ, List.setIfInBounds_toArray, List.set_cons_zero, List.set_cons_succ]
                      refine wpAnyH_take (i := 5) (v := ?vc5_21) rfl (by kernel_rfl) (by kernel_rfl) (by kernel_rfl) (fun _ _ _ h => h) (Or.inl ⟨by rfl, ?hyc5_21⟩) (by assumption) ?restc5_21
                      case hyc5_21 => (intro w0 hSw; (try dsimp only at hSw); go_simp; try with_reducible rfl)
                      case' restc5_21 => try simp only [Act.put, List.getElem_toArray, List.getElem_cons_zero, List.getElem_cons_succ, List.setIfInBounds_toArray, List.set_cons_zero, List.set_cons_succ]
                      refine wpAnyH_take (i := 6) (v := ?vc6_22) rfl (by kernel_rfl) (by kernel_rfl) (by kernel_rfl) (fun _ _ _ h => h) (Or.inl ⟨by rfl, ?hyc6_22⟩) (by assumption) ?restc6_22
                      case hyc6_22 => (intro w0 hSw; (try dsimp only at hSw); go_simp; try with_reducible rfl)
                      case' restc6_22 => try simp only [Act.put, List.getElem_toArray, List.getElem_cons_zero, List.getElem_cons_succ, List.setIfInBounds_toArray, List.set_cons_zero, List.set_cons_succ]
                      refine wpAnyH_take (i := 7) (v := ?vc7_23) rfl (by kernel_rfl) (by kernel_rfl) (by kernel_rfl) (fun _ _ _ h => h) (Or.inl ⟨by rfl, ?hyc7_23⟩) (by assumption) ?restc7_23
                      case hyc7_23 => (intro w0 hSw; (try dsimp only at hSw); go_simp; try with_reducible rfl)
                      case' restc7_23 => try simp only [Act.put, List.getElem_toArray, List.getElem_cons_zero, List.getElem_cons_succ, List.setIfInBounds_toArray, List.set_cons_zero, List.set_cons_succ]
                      refine wpAnyH_take (i := 8) (v := ?vc8_24) rfl (by kernel_rfl) (by kernel_rfl) (by kernel_rfl) (fun _ _ _ h => h) (Or.inl ⟨by rfl, ?hyc8_24⟩) (by assumption) ?restc8_24
                      case hyc8_24 => (intro w0 hSw; (try dsimp only at hSw); go_simp; try with_reducible rfl)
                      case' restc8_24 => try simp only [Act.put, List.getElem_toArray, List.getElem_cons_zero, List.getElem_cons_succ, List.setIfInBounds_toArray, List.set_cons_zero, List.set_cons_succ]
                      refine wpAnyH_take (i := 9) (v := ?vc9_25) rfl (by kernel_rfl) (by kernel_rfl) (by kernel_rfl) (fun _ _ _ h => h) (Or.inl ⟨by rfl, ?hyc9_25⟩) (by assumption) ?restc9_25
                      case hyc9_25 => (intro w0 hSw; (try dsimp only at hSw); go_simp; try with_reducible rfl)
                      case' restc9_25 => try simp only [Act.put, List.getElem_toArray, List.getElem_cons_zero, List.getElem_cons_succ, List.setIfInBounds_toArray, List.set_cons_zero, List.set_cons_succ]
                      refine wpAnyH_take (i := 10) (v := ?vc10_26) rfl (by kernel_rfl) (by kernel_rfl) (by kernel_rfl) (fun _ _ _ h => h) (Or.inl ⟨by rfl, ?hyc10_26⟩) (by assumption) ?restc10_26
                      case hyc10_26 => (intro w0 hSw; (try dsimp only at hSw); go_simp; try with_reducible rfl)
                      case' restc10_26 => try simp only [Act.put, List.getElem_toArray, List.getElem_cons_zero, List.getElem_cons_succ, List.setIfInBounds_toArray, List.set_cons_zero, List.set_cons_succ]
                      refine wpAnyH_take (i := 11) (v := ?vc11_27) rfl (by kernel_rfl) (by kernel_rfl) (by kernel_rfl) (fun _ _ _ h => h) (Or.inl ⟨by rfl, ?hyc11_27⟩) (by assumption) ?restc11_27
                      case hyc11_27 => (intro w0 hSw; (try dsimp only at hSw); go_simp; try with_reducible rfl)
                      case' restc11_27 => try simp only [Act.put, List.getElem_toArray, List.getElem_cons_zero, List.getElem_cons_succ, List.setIfInBounds_toArray, List.set_cons_zero, List.set_cons_succ]
                      refine wpAnyH_take (i := 12) (v := ?vc12_28) rfl (by kernel_rfl) (by kernel_rfl) (by kernel_rfl) (fun _ _ _ h => h) (Or.inl ⟨by rfl, ?hyc12_28⟩) (by assumption) ?restc12_28
                      case hyc12_28 => (intro w0 hSw; (try dsimp only at hSw); go_simp; try with_reducible rfl)
                      case' restc12_28 => try simp only [Act.put, List.getElem_toArray, List.getElem_cons_zero, List.getElem_cons_succ, List.setIfInBounds_toArray, List.set_cons_zero, List.set_cons_succ]
                      refine wpAnyH_ready (rs := [13]) (by kernel_rfl) (by simp) ?_
                      refine AllReadyH.cons rfl (fun K hK => ?_) AllReadyH.nil
                      go_simp
                      refine (refLess_any y.1.1 y.1.2 x0 0 _).mono ?_
                      rintro e w5 ⟨rfl, hb4⟩
                      refine hK.out _ _ (HH.out _ (bch (below_drew1 (Below.refl w6.heap.size w6)) hb4 (by simp))) (fun hHeld => ?_)
                      clear hK K
                      try simp only [Act.put, List.getElem_toArray, List.getElem_cons_zero, List.getElem_cons_succ, List.setIfInBounds_toArray, List.set_cons_zero, List.set_cons_succ]
                      refine wpAnyH_take (i := 14) (v := ?vc14_29) rfl (by kernel_rfl) (by kernel_rfl) (by kernel_rfl) (fun _ _ _ h => h) (Or.inl ⟨by rfl, ?hyc14_29⟩) (by assumption) ?restc14_29
                      case hyc14_29 => (intro w0 hSw; (try dsimp only at hSw); go_simp; try with_reducible rfl)
                      case' restc14_29 => try simp only [Act.put, List.getElem_toArray, List.getElem_cons_zero, List.getElem_cons_succ, List.setIfInBounds_toArray, List.set_cons_zero, List.set_cons_succ]
                      refine wpAnyH_take (i := 15) (v := ?vc15_30) rfl (by kernel_rfl) (by kernel_rfl) (by kernel_rfl) (fun _ _ _ h => h) (Or.inl ⟨by rfl, ?hyc15_30⟩) (by assumption) ?restc15_30
                      case hyc15_30 => (intro w0 hSw; (try dsimp only at hSw); go_simp; try with_reducible rfl)
                      case' restc15_30 => try simp only [Act.put, List.getElem_toArray, List.getElem_cons_zero, List.getElem_cons_succ, List.setIfInBounds_toArray, List.set_cons_zero, List.set_cons_succ]
                      refine wpAnyH_done (by kernel_rfl) ?_ _
                      refine NoPanic.normal ?_
                      have hb5 : Below w6.heap.size w6 w5 := bch (below_drew1 (Below.refl w6.heap.size w6)) hb4 (by simp)
                      clear hHeld HH hb4 y0 y1 y2 y3 y4 d0 d1 hw1 hi0 hi1 hi2 hi3 hnz
                      have HX5 := Lib.hid (heap_keep HX6.out hb5); have HY5 := Lib.hid (heap_keep HY6.out hb5); have HB5 := Lib.hid (bch HB6.out hb5 (by have := HB6.out.size; have := HNB.out; omega))
                      clear hb5
                      cases hls : lessB y.1.1 y.1.2 x0 0 with
                      | true =>
                        have HOK := Lib.hid (show Sk.one [a, b, cc, d] l = .inl ((x0, 0), 1, 0, x3) by rw [HL5.out, hls]; rfl)
                        clear hls
                        obtain ⟨m0, m1, m2, m3, m4⟩ := cell5 HX5.out
                        obtain ⟨f0, f1, f2, f3, f4⟩ := froz5a HX5.out
                        obtain ⟨y0, y1, y2, y3, y4⟩ := cell5 HY5.out
                        go_wp2_with fail
                        obtain ⟨w7, hw7⟩ : ∃ w7, w7 = (((((w5.setCell ⟨nb, 0, none⟩ (.int .i64 x0)).setCell ⟨nb, 1, none⟩ (.int .i64 0)).setCell ⟨nb, 2, none⟩ (.int .i64 1)).setCell ⟨nb, 3, none⟩ (.int .i64 0)).setCell ⟨nb, 4, none⟩ (.int .i64 x3)) := ⟨_, rfl⟩
                        have hx7 := set5a HX5.out (.int .i64 x0) (.int .i64 0) (.int .i64 1) (.int .i64 0) (.int .i64 x3)
                        rw [← hw7] at hx7
                        have hb7 : Below nb w w7 := by rw [hw7]; exact below_set5 HB5.out (Nat.le_refl _) _ _ _ _ _
                        rw [← hw7]
                        clear hw7
                        obtain ⟨z0, z1, z2, z3, z4⟩ := cell5 hx7
                        refine bodyPost_ret (v := .tuple #[.agg #[.int .i64 x0, .int .i64 0, .int .i64 1, .int .i64 0, .int .i64 x3], .int .i64 0, .int .i64 0]) (by simp [results, Tryz.results42, go_sem, z0, z1, z2, z3, z4]) rfl ⟨?_, hb7⟩
                        exact refOneR_ok HOK.out rfl
                      | false =>
                        have HBAD := Lib.hid (show Sk.one [a, b, cc, d] l = .inr (1, 6) by rw [HL5.out, hls]; rfl)
                        clear hls
                        obtain ⟨m0, m1, m2, m3, m4⟩ := cell5 HX5.out
                        obtain ⟨f0, f1, f2, f3, f4⟩ := froz5a HX5.out
                        obtain ⟨y0, y1, y2, y3, y4⟩ := cell5 HY5.out
                        go_wp2_with fail
                        obtain ⟨w7, hw7⟩ : ∃ w7, w7 = (((((w5.setCell ⟨nb, 0, none⟩ (.int .i64 x0)).setCell ⟨nb, 1, none⟩ (.int .i64 0)).setCell ⟨nb, 2, none⟩ (.int .i64 1)).setCell ⟨nb, 3, none⟩ (.int .i64 0)).setCell ⟨nb, 4, none⟩ (.int .i64 x3)) := ⟨_, rfl⟩
                        have hx7 := set5a HX5.out (.int .i64 x0) (.int .i64 0) (.int .i64 1) (.int .i64 0) (.int .i64 x3)
                        rw [← hw7] at hx7
                        have hb7 : Below nb w w7 := by rw [hw7]; exact below_set5 HB5.out (Nat.le_refl _) _ _ _ _ _
                        rw [← hw7]
                        clear hw7
                        obtain ⟨z0, z1, z2, z3, z4⟩ := cell5 hx7
                        refine bodyPost_ret (v := .tuple #[.agg #[.int .i64 x0, .int .i64 0, .int .i64 1, .int .i64 0, .int .i64 x3], .int .i64 1, .int .i64 6]) (by simp [results, Tryz.results42, go_sem, z0, z1, z2, z3, z4]) rfl ⟨?_, hb7⟩
                        exact refOneR_bad HBAD.out ((x0, 0), 1, 0, x3) rfl
              · have HL3 := Lib.hid (show Sk.one [a, b, cc, d] l = if (numB d 0 999 && (decide ((2 : Int) = 1) || decide ((getM d).1 = 0))) = false then .inr (4, 3) else match l.getLast? with | none => .inl ((x0, 0), 2, 0, (getM d).1) | some y => if lessB y.1.1 y.1.2 x0 0 = true then .inl ((x0, 0), 2, 0, (getM d).1) else .inr (1, 6) by rw [HL2.out, hck]; rfl)
                have k1 := text_eq hcw.symm
                have k2 := text_ne (show cc ≠ [100, 111, 110, 101] by rw [← hcw]; decide)
                rw [show codeW 2 = [114, 101, 102, 117, 115, 101, 100] from rfl] at k1
                clear hcw hck
                go_upto_region 13 with (fail)
                cases hz3 : numB d 0 999 with
                | false =>
                  have g0 := numI_no hz3
                  have HBAD := Lib.hid (show Sk.one [a, b, cc, d] l = .inr (4, 3) by rw [HL3.out, hz3]; rfl)
                  rw [g0] at HN3
                  clear hz3 g0
                  go_wp2_with fail
                  refine (HN3.out _).mono ?_
                  rintro e w3 ⟨rfl, hb3⟩
                  have HX3 := Lib.hid (heap_keep HX2.out hb3); have HY3 := Lib.hid (heap_keep HY2.out hb3); have HB3 := Lib.hid (bch HB2.out hb3 (by have := HB2.out.size; have := HNB.out; omega))
                  clear hb3 hc1 hc2 hc3
                  have hc1 := HW.out w3 1 b HB3.out rfl
                  have hc2 := HW.out w3 2 cc HB3.out rfl
                  have hc3 := HW.out w3 3 d HB3.out rfl
                  obtain ⟨m0, m1, m2, m3, m4⟩ := cell5 HX3.out
                  obtain ⟨f0, f1, f2, f3, f4⟩ := froz5a HX3.out
                  obtain ⟨y0, y1, y2, y3, y4⟩ := cell5 HY3.out
                  go_wp2_with fail
                  obtain ⟨w7, hw7⟩ : ∃ w7, w7 = (((((w3.setCell ⟨nb, 0, none⟩ (.int .i64 0)).setCell ⟨nb, 1, none⟩ (.int .i64 0)).setCell ⟨nb, 2, none⟩ (.int .i64 0)).setCell ⟨nb, 3, none⟩ (.int .i64 0)).setCell ⟨nb, 4, none⟩ (.int .i64 0)) := ⟨_, rfl⟩
                  have hx7 := set5a HX3.out (.int .i64 0) (.int .i64 0) (.int .i64 0) (.int .i64 0) (.int .i64 0)
                  rw [← hw7] at hx7
                  have hb7 : Below nb w w7 := by rw [hw7]; exact below_set5 HB3.out (Nat.le_refl _) _ _ _ _ _
                  rw [← hw7]
                  clear hw7
                  obtain ⟨z0, z1, z2, z3, z4⟩ := cell5 hx7
                  refine bodyPost_ret (v := .tuple #[.agg #[.int .i64 0, .int .i64 0, .int .i64 0, .int .i64 0, .int .i64 0], .int .i64 4, .int .i64 3]) (by simp [results, Tryz.results42, go_sem, z0, z1, z2, z3, z4]) rfl ⟨?_, hb7⟩
                  exact refOneR_bad HBAD.out ((0, 0), 0, 0, 0) rfl
                | true =>
                  obtain ⟨g0, g1, g2⟩ := numI_ok (.inl rfl) hz3
                  obtain ⟨x3, hx3⟩ : ∃ x, (getM d).1 = x := ⟨_, rfl⟩
                  rw [g0, hx3] at HN3
                  rw [hx3] at g1 g2
                  have q3 : ¬ x3 < 0 := by omega
                  by_cases q4 : 0 < x3
                  · have HBAD := Lib.hid (show Sk.one [a, b, cc, d] l = .inr (4, 3) by rw [HL3.out, hz3, hx3]; simp only [Bool.true_and]; rw [if_pos (by simp; omega)])
                    clear hz3 g0 hx3
                    go_wp2_with fail
                    refine (HN3.out _).mono ?_
                    rintro e w3 ⟨rfl, hb3⟩
                    have HX3 := Lib.hid (heap_keep HX2.out hb3); have HY3 := Lib.hid (heap_keep HY2.out hb3); have HB3 := Lib.hid (bch HB2.out hb3 (by have := HB2.out.size; have := HNB.out; omega))
                    clear hb3 hc1 hc2 hc3
                    have hc1 := HW.out w3 1 b HB3.out rfl
                    have hc2 := HW.out w3 2 cc HB3.out rfl
                    have hc3 := HW.out w3 3 d HB3.out rfl
                    obtain ⟨m0, m1, m2, m3, m4⟩ := cell5 HX3.out
                    obtain ⟨f0, f1, f2, f3, f4⟩ := froz5a HX3.out
                    obtain ⟨y0, y1, y2, y3, y4⟩ := cell5 HY3.out
                    go_wp2_with fail
                    obtain ⟨w7, hw7⟩ : ∃ w7, w7 = (((((w3.setCell ⟨nb, 0, none⟩ (.int .i64 0)).setCell ⟨nb, 1, none⟩ (.int .i64 0)).setCell ⟨nb, 2, none⟩ (.int .i64 0)).setCell ⟨nb, 3, none⟩ (.int .i64 0)).setCell ⟨nb, 4, none⟩ (.int .i64 0)) := ⟨_, rfl⟩
                    have hx7 := set5a HX3.out (.int .i64 0) (.int .i64 0) (.int .i64 0) (.int .i64 0) (.int .i64 0)
                    rw [← hw7] at hx7
                    have hb7 : Below nb w w7 := by rw [hw7]; exact below_set5 HB3.out (Nat.le_refl _) _ _ _ _ _
                    rw [← hw7]
                    clear hw7
                    obtain ⟨z0, z1, z2, z3, z4⟩ := cell5 hx7
                    refine bodyPost_ret (v := .tuple #[.agg #[.int .i64 0, .int .i64 0, .int .i64 0, .int .i64 0, .int .i64 0], .int .i64 4, .int .i64 3]) (by simp [results, Tryz.results42, go_sem, z0, z1, z2, z3, z4]) rfl ⟨?_, hb7⟩
                    exact refOneR_bad HBAD.out ((0, 0), 0, 0, 0) rfl
                  · obtain rfl : x3 = 0 := by omega
                    have HL4 := Lib.hid (show Sk.one [a, b, cc, d] l = match l.getLast? with | none => .inl ((x0, 0), 2, 0, 0) | some y => if lessB y.1.1 y.1.2 x0 0 = true then .inl ((x0, 0), 2, 0, 0) else .inr (1, 6) by rw [HL3.out, hz3, hx3]; rfl)
                    clear hz3 g0 hx3
                    go_wp2_with fail
                    refine (HN3.out _).mono ?_
                    rintro e w3 ⟨rfl, hb3⟩
                    have HX3 := Lib.hid (heap_keep HX2.out hb3); have HY3 := Lib.hid (heap_keep HY2.out hb3); have HB3 := Lib.hid (bch HB2.out hb3 (by have := HB2.out.size; have := HNB.out; omega))
                    clear hb3 hc1 hc2 hc3
                    have hc1 := HW.out w3 1 b HB3.out rfl
                    have hc2 := HW.out w3 2 cc HB3.out rfl
                    have hc3 := HW.out w3 3 d HB3.out rfl
                    go_wp2_with fail
                    refine (HD1.out _).mono ?_
                    rintro e w4 ⟨rfl, hb4⟩
                    have HX4 := Lib.hid (heap_keep HX3.out hb4); have HY4 := Lib.hid (heap_keep HY3.out hb4); have HB4 := Lib.hid (bch HB3.out hb4 (by have := HB3.out.size; have := HNB.out; omega))
                    clear hb4 hc1 hc2 hc3
                    have hc2 := HW.out w4 2 cc HB4.out rfl
                    obtain ⟨y0, y1, y2, y3, y4⟩ := cell5 HY4.out
                    obtain ⟨f0, f1, f2, f3, f4⟩ := froz5a HY4.out
                    go_upto_region 18 with (fail)
                    obtain ⟨w6, hw6⟩ : ∃ w6, w6 = (((((w4.setCell ⟨nb + 1, 0, none⟩ (.int .i64 x0)).setCell ⟨nb + 1, 1, none⟩ (.int .i64 0)).setCell ⟨nb + 1, 2, none⟩ (.int .i64 1)).setCell ⟨nb + 1, 3, none⟩ (.int .i64 0)).setCell ⟨nb + 1, 4, none⟩ (.int .i64 0)) := ⟨_, rfl⟩
                    rw [← hw6]
                    have hy6 := set5a HY4.out (.int .i64 x0) (.int .i64 0) (.int .i64 1) (.int .i64 0) (.int .i64 0)
                    rw [← hw6] at hy6
                    have hx6 : w6.heap[nb]? = some (.cells #[.int .i64 0, .int .i64 0, .int .i64 0, .int .i64 0, .int .i64 0] tRow (0, 0)) := by rw [hw6]; exact set_other (set_other (set_other (set_other (set_other HX4.out (by omega) _) (by omega) _) (by omega) _) (by omega) _) (by omega) _
                    have hb6 : Below nb w w6 := by rw [hw6]; exact below_set5 HB4.out (by omega) _ _ _ _ _
                    have hc2' : w6.cell? ⟨gb, go_ + 2, none⟩ = some (.string ⟨cc.toArray⟩) := HW.out w6 2 cc hb6 rfl
                    have HX6 := Lib.hid hx6; have HY6 := Lib.hid hy6; have HB6 := Lib.hid hb6
                    clear hw6 hx6 hy6 hb6 y0 y1 y2 y3 y4 f0 f1 f2 f3 f4 hc2
                    obtain ⟨y0, y1, y2, y3, y4⟩ := cell5 HY6.out
                    obtain ⟨f0, f1, f2, f3, f4⟩ := froz5a HY6.out
                    go_upto_region 20 with (fail)
                    obtain ⟨w8, hw8⟩ : ∃ w8, w8 = w6.setCell ⟨nb + 1, 2, none⟩ (.int .i64 2) := ⟨_, rfl⟩
                    rw [← hw8]
                    have HY8 := Lib.hid (show w8.heap[nb + 1]? = some (.cells #[.int .i64 x0, .int .i64 0, .int .i64 2, .int .i64 0, .int .i64 0] tRow (0, 0)) by rw [hw8]; have h := HY6.out; simp [World.setCell, Array.getElem?_modify, h])
                    have HX8 := Lib.hid (show w8.heap[nb]? = some (.cells #[.int .i64 0, .int .i64 0, .int .i64 0, .int .i64 0, .int .i64 0] tRow (0, 0)) by rw [hw8]; exact set_other HX6.out (by omega) _)
                    have HB8 := Lib.hid (show Below nb w w8 by rw [hw8]; exact HB6.out.setCell (p := ⟨nb + 1, 2, none⟩) (by show nb ≤ nb + 1; omega) _)
                    clear hw8 y0 y1 y2 y3 y4 f0 f1 f2 f3 f4 hc2'
                    by_cases hn0 : n = 0
                    · subst hn0
                      have hl0 : l = [] := List.eq_nil_of_length_eq_zero HLN.out
                      have HOK := Lib.hid (show Sk.one [a, b, cc, d] l = .inl ((x0, 0), 2, 0, 0) by rw [HL4.out, hl0]; rfl)
                      clear hl0
                      go_quiet (fail)
                      go_upto_region 22 with (fail)
                      obtain ⟨w5, hw5⟩ : ∃ w5, w5 = w8.drewN nq := ⟨_, rfl⟩
                      rw [← hw5]
                      have hb5 : Below w8.heap.size w8 w5 := by rw [hw5]; exact below_dq (Below.refl _ _) nq
                      have HX5 := Lib.hid (heap_keep HX8.out hb5); have HY5 := Lib.hid (heap_keep HY8.out hb5); have HB5 := Lib.hid (bch HB8.out hb5 (by have := HB8.out.size; have := HNB.out; omega))
                      clear hw5 hb5
                      obtain ⟨m0, m1, m2, m3, m4⟩ := cell5 HX5.out
                      obtain ⟨f0, f1, f2, f3, f4⟩ := froz5a HX5.out
                      obtain ⟨y0, y1, y2, y3, y4⟩ := cell5 HY5.out
                      go_wp2_with fail
                      obtain ⟨w7, hw7⟩ : ∃ w7, w7 = (((((w5.setCell ⟨nb, 0, none⟩ (.int .i64 x0)).setCell ⟨nb, 1, none⟩ (.int .i64 0)).setCell ⟨nb, 2, none⟩ (.int .i64 2)).setCell ⟨nb, 3, none⟩ (.int .i64 0)).setCell ⟨nb, 4, none⟩ (.int .i64 0)) := ⟨_, rfl⟩
                      have hx7 := set5a HX5.out (.int .i64 x0) (.int .i64 0) (.int .i64 2) (.int .i64 0) (.int .i64 0)
                      rw [← hw7] at hx7
                      have hb7 : Below nb w w7 := by rw [hw7]; exact below_set5 HB5.out (Nat.le_refl _) _ _ _ _ _
                      rw [← hw7]
                      clear hw7
                      obtain ⟨z0, z1, z2, z3, z4⟩ := cell5 hx7
                      refine bodyPost_ret (v := .tuple #[.agg #[.int .i64 x0, .int .i64 0, .int .i64 2, .int .i64 0, .int .i64 0], .int .i64 0, .int .i64 0]) (by simp [results, Tryz.results42, go_sem, z0, z1, z2, z3, z4]) rfl ⟨?_, hb7⟩
                      exact refOneR_ok HOK.out rfl
                    · obtain ⟨y, hy⟩ : ∃ y, l[n - 1]? = some y := ⟨_, List.getElem?_eq_getElem (by have := HLN.out; omega)⟩
                      have hlast : l.getLast? = some y := by rw [List.getLast?_eq_getElem?, HLN.out]; exact hy
                      have HL5 := Lib.hid (show Sk.one [a, b, cc, d] l = if lessB y.1.1 y.1.2 x0 0 = true then .inl ((x0, 0), 2, 0, 0) else .inr (1, 6) by rw [HL4.out, hlast])
                      obtain ⟨g, off, n', c', e, d0, d1, _, _, _⟩ := HU.out.cells (by rw [HNB.out]; exact HB8.out) hy
                      injection e with e1 e2 e3
                      subst e1
                      clear hlast e2 e3 hy
                      obtain ⟨y0, y1, y2, y3, y4⟩ := cell5 HY8.out
                      have hn1 : 0 < n := by omega
                      have hnI : (0 : Int) < n := by omega
                      have hnz := decide_eq_true hnI
                      have hw1 : IntKind.i64.wrap ((n : Int) - 1) = (n : Int) - 1 := IntWalk.i64_in _ (by omega)
                      have hi0 : (0 : Int) ≤ (n : Int) - 1 := by omega
                      have hi3 : (1 : Int) ≤ n := by omega
                      have hi1 : (n : Int) - 1 < n := by omega
                      have hi2 : ((n : Int) - 1).toNat = n - 1 := by omega
                      have HH := Lib.hid (fun W (hb : Below w8.heap.size w8 W) => (⟨Lib.hid hb, (hb.cell (World.block_lt_of_cell? w8 _ d0)).trans d0, (hb.cell (World.block_lt_of_cell? w8 _ d1)).trans d1, (hb.cell (World.block_lt_of_cell? w8 _ y0)).trans y0, (hb.cell (World.block_lt_of_cell? w8 _ y1)).trans y1⟩ : (fun w' => Hid (Below w8.heap.size w8 w') ∧ w'.cell? ⟨g, off + (n - 1) * 5, none⟩ = some (.int .i64 y.1.1) ∧ w'.cell? ⟨g, off + (n - 1) * 5 + 1, none⟩ = some (.int .i64 y.1.2) ∧ w'.cell? ⟨nb + 1, 0, none⟩ = some (.int .i64 x0) ∧ w'.cell? ⟨nb + 1, 1, none⟩ = some (.int .i64 0)) W))
                      refine wp_region_noPanic ?_
                      refine wp_region_held_drew (S := (fun w' => Hid (Below w8.heap.size w8 w') ∧ w'.cell? ⟨g, off + (n - 1) * 5, none⟩ = some (.int .i64 y.1.1) ∧ w'.cell? ⟨g, off + (n - 1) * 5 + 1, none⟩ = some (.int .i64 y.1.2) ∧ w'.cell? ⟨nb + 1, 0, none⟩ = some (.int .i64 x0) ∧ w'.cell? ⟨nb + 1, 1, none⟩ = some (.int .i64 0))) (by kernel_rfl) (HH.out _ (below_drew1 (Below.refl w8.heap.size w8))) (fun hHeld => ?_)
                      refine wpAnyH_take (i := 0) (v := ?vc0_31) rfl (by kernel_rfl) (by kernel_rfl) (by kernel_rfl) (fun _ _ _ h => h) (Or.inl ⟨by rfl, ?hyc0_31⟩) (by assumption) ?restc0_31
                      case hyc0_31 => (intro w0 hSw; (try dsimp only at hSw); go_simp; try with_reducible rfl)
                      case' restc0_31 => try simp only [Act.put, List.getElem_toArray, List.getElem_cons_zero, List.getElem_cons_succ, List.setIfInBounds_toArray, List.set_cons_zero, List.set_cons_succ]
                      refine wpAnyH_take (i := 1) (v := ?vc1_32) rfl (by kernel_rfl) (by kernel_rfl) (by kernel_rfl) (fun _ _ _ h => h) (Or.inl ⟨by rfl, ?hyc1_32⟩) (by assumption) ?restc1_32
                      case hyc1_32 => (intro w0 hSw; (try dsimp only at hSw); go_simp; try with_reducible rfl)
                      case' restc1_32 => try simp only [Act.put, List.getElem_toArray, List.getElem_cons_zero, List.getElem_cons_succ, List.setIfInBounds_toArray, List.set_cons_zero, List.set_cons_succ]
                      refine wpAnyH_take (i := 2) (v := ?vc2_33) rfl (by kernel_rfl) (by kernel_rfl) (by kernel_rfl) (fun _ _ _ h => h) (Or.inl ⟨by rfl, ?hyc2_33⟩) (by assumption) ?restc2_33
                      case hyc2_33 => (intro w0 hSw; (try dsimp only at hSw); go_simp; try with_reducible rfl)
                      case' restc2_33 => try simp only [Act.put, List.getElem_toArray, List.getElem_cons_zero, List.getElem_cons_succ, List.setIfInBounds_toArray, List.set_cons_zero, List.set_cons_succ]
                      refine wpAnyH_take (i := 3) (v := ?vc3_34) rfl (by kernel_rfl) (by kernel_rfl) (by kernel_rfl) (fun _ _ _ h => h) (Or.inl ⟨by rfl, ?hyc3_34⟩) (by assumption) ?restc3_34
                      case hyc3_34 => (intro w0 hSw; (try dsimp only at hSw); go_simp; try with_reducible rfl)
                      case' restc3_34 => try simp only [Act.put, List.getElem_toArray, List.getElem_cons_zero, List.getElem_cons_succ, List.setIfInBounds_toArray, List.set_cons_zero, List.set_cons_succ]
                      refine wpAnyH_take (i := 4) (v := ?vc4_35) rfl (by kernel_rfl) (by kernel_rfl) (by kernel_rfl) (fun _ _ _ h => h) (Or.inl ⟨by rfl, ?hyc4_35⟩) (by assumption) ?restc4_35
                      case hyc4_35 => (intro w0 hSw; (try dsimp only at hSw); go_simp; try with_reducible rfl)
                      case' restc4_35 => try simp only [Act.put, List.getElem_toArray, List.getElem_cons_zero, List.getElem_cons_succ, List.setIfInBounds_toArray, List.set_cons_zero, List.set_cons_succ]
                      refine wpAnyH_take (i := 5) (v := ?vc5_36) rfl (by kernel_rfl) (by kernel_rfl) (by kernel_rfl) (fun _ _ _ h => h) (Or.inl ⟨by rfl, ?hyc5_36⟩) (by assumption) ?restc5_36
                      case hyc5_36 => (intro w0 hSw; (try dsimp only at hSw); go_simp; try with_reducible rfl)
                      case' restc5_36 => try simp only [Act.put, List.getElem_toArray, List.getElem_cons_zero, List.getElem_cons_succ, List.setIfInBounds_toArray, List.set_cons_zero, List.set_cons_succ]
                      refine wpAnyH_take (i := 6) (v := ?vc6_37) rfl (by kernel_rfl) (by kernel_rfl) (by kernel_rfl) (fun _ _ _ h => h) (Or.inl ⟨by rfl, ?hyc6_37⟩) (by assumption) ?restc6_37
                      case hyc6_37 => (intro w0 hSw; (try dsimp only at hSw); go_simp; try with_reducible rfl)
                      case' restc6_37 => try simp only [Act.put, List.getElem_toArray, List.getElem_cons_zero, List.getElem_cons_succ, List.setIfInBounds_toArray, List.set_cons_zero, List.set_cons_succ]
                      refine wpAnyH_take (i := 7) (v := ?vc7_38) rfl (by kernel_rfl) (by kernel_rfl) (by kernel_rfl) (fun _ _ _ h => h) (Or.inl ⟨by rfl, ?hyc7_38⟩) (by assumption) ?restc7_38
                      case hyc7_38 => (intro w0 hSw; (try dsimp only at hSw); go_simp; try with_reducible rfl)
                      case' restc7_38 => try simp only [Act.put, List.getElem_toArray, List.getElem_cons_zero, List.getElem_cons_succ, List.setIfInBounds_toArray, List.set_cons_zero, List.set_cons_succ]
                      refine wpAnyH_take (i := 8) (v := ?vc8_39) rfl (by kernel_rfl) (by kernel_rfl) (by kernel_rfl) (fun _ _ _ h => h) (Or.inl ⟨by rfl, ?hyc8_39⟩) (by assumption) ?restc8_39
                      case hyc8_39 => (intro w0 hSw; (try dsimp only at hSw); go_simp; try with_reducible rfl)
                      case' restc8_39 => try simp only [Act.put, List.getElem_toArray, List.getElem_cons_zero, List.getElem_cons_succ, List.setIfInBounds_toArray, List.set_cons_zero, List.set_cons_succ]
                      refine wpAnyH_take (i := 9) (v := ?vc9_40) rfl (by kernel_rfl) (by kernel_rfl) (by kernel_rfl) (fun _ _ _ h => h) (Or.inl ⟨by rfl, ?hyc9_40⟩) (by assumption) ?restc9_40
                      case hyc9_40 => (intro w0 hSw; (try dsimp only at hSw); go_simp; try with_reducible rfl)
                      case' restc9_40 => try simp only [Act.put, List.getElem_toArray, List.getElem_cons_zero, List.getElem_cons_succ, List.setIfInBounds_toArray, List.set_cons_zero, List.set_cons_succ]
                      refine wpAnyH_take (i := 10) (v := ?vc10_41) rfl (by kernel_rfl) (by kernel_rfl) (by kernel_rfl) (fun _ _ _ h => h) (Or.inl ⟨by rfl, ?hyc10_41⟩) (by assumption) ?restc10_41
                      case hyc10_41 => (intro w0 hSw; (try dsimp only at hSw); go_simp; try with_reducible rfl)
                      case' restc10_41 => try simp only [Act.put, List.getElem_toArray, List.getElem_cons_zero, List.getElem_cons_succ, List.setIfInBounds_toArray, List.set_cons_zero, List.set_cons_succ]
                      refine wpAnyH_take (i := 11) (v := ?vc11_42) rfl (by kernel_rfl) (by kernel_rfl) (by kernel_rfl) (fun _ _ _ h => h) (Or.inl ⟨by rfl, ?hyc11_42⟩) (by assumption) ?restc11_42
                      case hyc11_42 => (intro w0 hSw; (try dsimp only at hSw); go_simp; try with_reducible rfl)
                      case' restc11_42 => try simp only [Act.put, List.getElem_toArray, List.getElem_cons_zero, List.getElem_cons_succ, List.setIfInBounds_toArray, List.set_cons_zero, List.set_cons_succ]
                      refine wpAnyH_take (i := 12) (v := ?vc12_43) rfl (by kernel_rfl) (by kernel_rfl) (by kernel_rfl) (fun _ _ _ h => h) (Or.inl ⟨by rfl, ?hyc12_43⟩) (by assumption) ?restc12_43
                      case hyc12_43 => (intro w0 hSw; (try dsimp only at hSw); go_simp; try with_reducible rfl)
                      case' restc12_43 => try simp only [Act.put, List.getElem_toArray, List.getElem_cons_zero, List.getElem_cons_succ, List.setIfInBounds_toArray, List.set_cons_zero, List.set_cons_succ]
                      refine wpAnyH_ready (rs := [13]) (by kernel_rfl) (by simp) ?_
                      refine AllReadyH.cons rfl (fun K hK => ?_) AllReadyH.nil
                      go_simp
                      refine (refLess_any y.1.1 y.1.2 x0 0 _).mono ?_
                      rintro e w5 ⟨rfl, hb4⟩
                      refine hK.out _ _ (HH.out _ (bch (below_drew1 (Below.refl w8.heap.size w8)) hb4 (by simp))) (fun hHeld => ?_)
                      clear hK K
                      try simp only [Act.put, List.getElem_toArray, List.getElem_cons_zero, List.getElem_cons_succ, List.setIfInBounds_toArray, List.set_cons_zero, List.set_cons_succ]
                      refine wpAnyH_take (i := 14) (v := ?vc14_44) rfl (by kernel_rfl) (by kernel_rfl) (by kernel_rfl) (fun _ _ _ h => h) (Or.inl ⟨by rfl, ?hyc14_44⟩) (by assumption) ?restc14_44
                      case hyc14_44 => (intro w0 hSw; (try dsimp only at hSw); go_simp; try with_reducible rfl)
                      case' restc14_44 => try simp only [Act.put, List.getElem_toArray, List.getElem_cons_zero, List.getElem_cons_succ, List.setIfInBounds_toArray, List.set_cons_zero, List.set_cons_succ]
                      refine wpAnyH_take (i := 15) (v := ?vc15_45) rfl (by kernel_rfl) (by kernel_rfl) (by kernel_rfl) (fun _ _ _ h => h) (Or.inl ⟨by rfl, ?hyc15_45⟩) (by assumption) ?restc15_45
                      case hyc15_45 => (intro w0 hSw; (try dsimp only at hSw); go_simp; try with_reducible rfl)
                      case' restc15_45 => try simp only [Act.put, List.getElem_toArray, List.getElem_cons_zero, List.getElem_cons_succ, List.setIfInBounds_toArray, List.set_cons_zero, List.set_cons_succ]
                      refine wpAnyH_done (by kernel_rfl) ?_ _
                      refine NoPanic.normal ?_
                      have hb5 : Below w8.heap.size w8 w5 := bch (below_drew1 (Below.refl w8.heap.size w8)) hb4 (by simp)
                      clear hHeld HH hb4 y0 y1 y2 y3 y4 d0 d1 hw1 hi0 hi1 hi2 hi3 hnz
                      have HX5 := Lib.hid (heap_keep HX8.out hb5); have HY5 := Lib.hid (heap_keep HY8.out hb5); have HB5 := Lib.hid (bch HB8.out hb5 (by have := HB8.out.size; have := HNB.out; omega))
                      clear hb5
                      cases hls : lessB y.1.1 y.1.2 x0 0 with
                      | true =>
                        have HOK := Lib.hid (show Sk.one [a, b, cc, d] l = .inl ((x0, 0), 2, 0, 0) by rw [HL5.out, hls]; rfl)
                        clear hls
                        obtain ⟨m0, m1, m2, m3, m4⟩ := cell5 HX5.out
                        obtain ⟨f0, f1, f2, f3, f4⟩ := froz5a HX5.out
                        obtain ⟨y0, y1, y2, y3, y4⟩ := cell5 HY5.out
                        go_wp2_with fail
                        obtain ⟨w7, hw7⟩ : ∃ w7, w7 = (((((w5.setCell ⟨nb, 0, none⟩ (.int .i64 x0)).setCell ⟨nb, 1, none⟩ (.int .i64 0)).setCell ⟨nb, 2, none⟩ (.int .i64 2)).setCell ⟨nb, 3, none⟩ (.int .i64 0)).setCell ⟨nb, 4, none⟩ (.int .i64 0)) := ⟨_, rfl⟩
                        have hx7 := set5a HX5.out (.int .i64 x0) (.int .i64 0) (.int .i64 2) (.int .i64 0) (.int .i64 0)
                        rw [← hw7] at hx7
                        have hb7 : Below nb w w7 := by rw [hw7]; exact below_set5 HB5.out (Nat.le_refl _) _ _ _ _ _
                        rw [← hw7]
                        clear hw7
                        obtain ⟨z0, z1, z2, z3, z4⟩ := cell5 hx7
                        refine bodyPost_ret (v := .tuple #[.agg #[.int .i64 x0, .int .i64 0, .int .i64 2, .int .i64 0, .int .i64 0], .int .i64 0, .int .i64 0]) (by simp [results, Tryz.results42, go_sem, z0, z1, z2, z3, z4]) rfl ⟨?_, hb7⟩
                        exact refOneR_ok HOK.out rfl
                      | false =>
                        have HBAD := Lib.hid (show Sk.one [a, b, cc, d] l = .inr (1, 6) by rw [HL5.out, hls]; rfl)
                        clear hls
                        obtain ⟨m0, m1, m2, m3, m4⟩ := cell5 HX5.out
                        obtain ⟨f0, f1, f2, f3, f4⟩ := froz5a HX5.out
                        obtain ⟨y0, y1, y2, y3, y4⟩ := cell5 HY5.out
                        go_wp2_with fail
                        obtain ⟨w7, hw7⟩ : ∃ w7, w7 = (((((w5.setCell ⟨nb, 0, none⟩ (.int .i64 x0)).setCell ⟨nb, 1, none⟩ (.int .i64 0)).setCell ⟨nb, 2, none⟩ (.int .i64 2)).setCell ⟨nb, 3, none⟩ (.int .i64 0)).setCell ⟨nb, 4, none⟩ (.int .i64 0)) := ⟨_, rfl⟩
                        have hx7 := set5a HX5.out (.int .i64 x0) (.int .i64 0) (.int .i64 2) (.int .i64 0) (.int .i64 0)
                        rw [← hw7] at hx7
                        have hb7 : Below nb w w7 := by rw [hw7]; exact below_set5 HB5.out (Nat.le_refl _) _ _ _ _ _
                        rw [← hw7]
                        clear hw7
                        obtain ⟨z0, z1, z2, z3, z4⟩ := cell5 hx7
                        refine bodyPost_ret (v := .tuple #[.agg #[.int .i64 x0, .int .i64 0, .int .i64 2, .int .i64 0, .int .i64 0], .int .i64 1, .int .i64 6]) (by simp [results, Tryz.results42, go_sem, z0, z1, z2, z3, z4]) rfl ⟨?_, hb7⟩
                        exact refOneR_bad HBAD.out ((x0, 0), 2, 0, 0) rfl
            · have HBAD := Lib.hid (show Sk.one [a, b, cc, d] l = .inr (3, 3) by rw [HL2.out, hck]; rfl)
              have k1 := text_ne hn1
              have k2 := text_ne hn2
              unfold wDone at k1
              unfold wRef at k2
              clear hn1 hn2 hck
              obtain ⟨m0, m1, m2, m3, m4⟩ := cell5 HX2.out
              obtain ⟨f0, f1, f2, f3, f4⟩ := froz5a HX2.out
              obtain ⟨y0, y1, y2, y3, y4⟩ := cell5 HY2.out
              go_wp2_with fail
              obtain ⟨w7, hw7⟩ : ∃ w7, w7 = (((((w2.setCell ⟨nb, 0, none⟩ (.int .i64 0)).setCell ⟨nb, 1, none⟩ (.int .i64 0)).setCell ⟨nb, 2, none⟩ (.int .i64 0)).setCell ⟨nb, 3, none⟩ (.int .i64 0)).setCell ⟨nb, 4, none⟩ (.int .i64 0)) := ⟨_, rfl⟩
              have hx7 := set5a HX2.out (.int .i64 0) (.int .i64 0) (.int .i64 0) (.int .i64 0) (.int .i64 0)
              rw [← hw7] at hx7
              have hb7 : Below nb w w7 := by rw [hw7]; exact below_set5 HB2.out (Nat.le_refl _) _ _ _ _ _
              rw [← hw7]
              clear hw7
              obtain ⟨z0, z1, z2, z3, z4⟩ := cell5 hx7
              refine bodyPost_ret (v := .tuple #[.agg #[.int .i64 0, .int .i64 0, .int .i64 0, .int .i64 0, .int .i64 0], .int .i64 3, .int .i64 3]) (by simp [results, Tryz.results42, go_sem, z0, z1, z2, z3, z4]) rfl ⟨?_, hb7⟩
              exact refOneR_bad HBAD.out ((0, 0), 0, 0, 0) rfl
          · have hdk : deedK b = (3, true) := by rw [hd]; decide
            rw [hdk] at HD1
            have HL2 := Lib.hid (show Sk.one [a, b, cc, d] l = if (codeK cc).2 = false then .inr (3, 3) else if (numB d 0 999 && (decide ((codeK cc).1 = 1) || decide ((getM d).1 = 0))) = false then .inr (4, 3) else match l.getLast? with | none => .inl ((x0, 3), (codeK cc).1, 0, (getM d).1) | some y => if lessB y.1.1 y.1.2 x0 3 = true then .inl ((x0, 3), (codeK cc).1, 0, (getM d).1) else .inr (1, 6) by rw [HONE2.out, hdk]; rfl)
            have e1 := text_ne (show b ≠ [114, 101, 115, 101, 114, 118, 101] by rw [hd]; decide)
            have e2 := text_eq (show b = [114, 101, 108, 101, 97, 115, 101] from hd)
            clear hd hdk
            go_upto_region 11 with (fail)
            rcases code_cases cc with ⟨cv, hcv, hcw, hck⟩ | ⟨hn1, hn2, hck⟩
            · rcases hcv with rfl | rfl
              · have HL3 := Lib.hid (show Sk.one [a, b, cc, d] l = if (numB d 0 999 && (decide ((1 : Int) = 1) || decide ((getM d).1 = 0))) = false then .inr (4, 3) else match l.getLast? with | none => .inl ((x0, 3), 1, 0, (getM d).1) | some y => if lessB y.1.1 y.1.2 x0 3 = true then .inl ((x0, 3), 1, 0, (getM d).1) else .inr (1, 6) by rw [HL2.out, hck]; rfl)
                have k1 := text_eq hcw.symm
                have k2 := text_ne (show cc ≠ [114, 101, 102, 117, 115, 101, 100] by rw [← hcw]; decide)
                rw [show codeW 1 = [100, 111, 110, 101] from rfl] at k1
                clear hcw hck
                go_upto_region 13 with (fail)
                cases hz3 : numB d 0 999 with
                | false =>
                  have g0 := numI_no hz3
                  have HBAD := Lib.hid (show Sk.one [a, b, cc, d] l = .inr (4, 3) by rw [HL3.out, hz3]; rfl)
                  rw [g0] at HN3
                  clear hz3 g0
                  go_wp2_with fail
                  refine (HN3.out _).mono ?_
                  rintro e w3 ⟨rfl, hb3⟩
                  have HX3 := Lib.hid (heap_keep HX2.out hb3); have HY3 := Lib.hid (heap_keep HY2.out hb3); have HB3 := Lib.hid (bch HB2.out hb3 (by have := HB2.out.size; have := HNB.out; omega))
                  clear hb3 hc1 hc2 hc3
                  have hc1 := HW.out w3 1 b HB3.out rfl
                  have hc2 := HW.out w3 2 cc HB3.out rfl
                  have hc3 := HW.out w3 3 d HB3.out rfl
                  obtain ⟨m0, m1, m2, m3, m4⟩ := cell5 HX3.out
                  obtain ⟨f0, f1, f2, f3, f4⟩ := froz5a HX3.out
                  obtain ⟨y0, y1, y2, y3, y4⟩ := cell5 HY3.out
                  go_wp2_with fail
                  obtain ⟨w7, hw7⟩ : ∃ w7, w7 = (((((w3.setCell ⟨nb, 0, none⟩ (.int .i64 0)).setCell ⟨nb, 1, none⟩ (.int .i64 0)).setCell ⟨nb, 2, none⟩ (.int .i64 0)).setCell ⟨nb, 3, none⟩ (.int .i64 0)).setCell ⟨nb, 4, none⟩ (.int .i64 0)) := ⟨_, rfl⟩
                  have hx7 := set5a HX3.out (.int .i64 0) (.int .i64 0) (.int .i64 0) (.int .i64 0) (.int .i64 0)
                  rw [← hw7] at hx7
                  have hb7 : Below nb w w7 := by rw [hw7]; exact below_set5 HB3.out (Nat.le_refl _) _ _ _ _ _
                  rw [← hw7]
                  clear hw7
                  obtain ⟨z0, z1, z2, z3, z4⟩ := cell5 hx7
                  refine bodyPost_ret (v := .tuple #[.agg #[.int .i64 0, .int .i64 0, .int .i64 0, .int .i64 0, .int .i64 0], .int .i64 4, .int .i64 3]) (by simp [results, Tryz.results42, go_sem, z0, z1, z2, z3, z4]) rfl ⟨?_, hb7⟩
                  exact refOneR_bad HBAD.out ((0, 0), 0, 0, 0) rfl
                | true =>
                  obtain ⟨g0, g1, g2⟩ := numI_ok (.inl rfl) hz3
                  obtain ⟨x3, hx3⟩ : ∃ x, (getM d).1 = x := ⟨_, rfl⟩
                  rw [g0, hx3] at HN3
                  rw [hx3] at g1 g2
                  have q3 : ¬ x3 < 0 := by omega
                  have HL4 := Lib.hid (show Sk.one [a, b, cc, d] l = match l.getLast? with | none => .inl ((x0, 3), 1, 0, x3) | some y => if lessB y.1.1 y.1.2 x0 3 = true then .inl ((x0, 3), 1, 0, x3) else .inr (1, 6) by rw [HL3.out, hz3, hx3]; rfl)
                  clear hz3 g0 hx3
                  go_wp2_with fail
                  refine (HN3.out _).mono ?_
                  rintro e w3 ⟨rfl, hb3⟩
                  have HX3 := Lib.hid (heap_keep HX2.out hb3); have HY3 := Lib.hid (heap_keep HY2.out hb3); have HB3 := Lib.hid (bch HB2.out hb3 (by have := HB2.out.size; have := HNB.out; omega))
                  clear hb3 hc1 hc2 hc3
                  have hc1 := HW.out w3 1 b HB3.out rfl
                  have hc2 := HW.out w3 2 cc HB3.out rfl
                  have hc3 := HW.out w3 3 d HB3.out rfl
                  by_cases q4 : 0 < x3
                  · go_wp2_with fail
                    refine (HD1.out _).mono ?_
                    rintro e w4 ⟨rfl, hb4⟩
                    have HX4 := Lib.hid (heap_keep HX3.out hb4); have HY4 := Lib.hid (heap_keep HY3.out hb4); have HB4 := Lib.hid (bch HB3.out hb4 (by have := HB3.out.size; have := HNB.out; omega))
                    clear hb4 hc1 hc2 hc3
                    have hc2 := HW.out w4 2 cc HB4.out rfl
                    obtain ⟨y0, y1, y2, y3, y4⟩ := cell5 HY4.out
                    obtain ⟨f0, f1, f2, f3, f4⟩ := froz5a HY4.out
                    go_upto_region 18 with (fail)
                    obtain ⟨w6, hw6⟩ : ∃ w6, w6 = (((((w4.setCell ⟨nb + 1, 0, none⟩ (.int .i64 x0)).setCell ⟨nb + 1, 1, none⟩ (.int .i64 3)).setCell ⟨nb + 1, 2, none⟩ (.int .i64 1)).setCell ⟨nb + 1, 3, none⟩ (.int .i64 0)).setCell ⟨nb + 1, 4, none⟩ (.int .i64 x3)) := ⟨_, rfl⟩
                    rw [← hw6]
                    have hy6 := set5a HY4.out (.int .i64 x0) (.int .i64 3) (.int .i64 1) (.int .i64 0) (.int .i64 x3)
                    rw [← hw6] at hy6
                    have hx6 : w6.heap[nb]? = some (.cells #[.int .i64 0, .int .i64 0, .int .i64 0, .int .i64 0, .int .i64 0] tRow (0, 0)) := by rw [hw6]; exact set_other (set_other (set_other (set_other (set_other HX4.out (by omega) _) (by omega) _) (by omega) _) (by omega) _) (by omega) _
                    have hb6 : Below nb w w6 := by rw [hw6]; exact below_set5 HB4.out (by omega) _ _ _ _ _
                    have hc2' : w6.cell? ⟨gb, go_ + 2, none⟩ = some (.string ⟨cc.toArray⟩) := HW.out w6 2 cc hb6 rfl
                    have HX6 := Lib.hid hx6; have HY6 := Lib.hid hy6; have HB6 := Lib.hid hb6
                    clear hw6 hx6 hy6 hb6 y0 y1 y2 y3 y4 f0 f1 f2 f3 f4 hc2
                    obtain ⟨y0, y1, y2, y3, y4⟩ := cell5 HY6.out
                    obtain ⟨f0, f1, f2, f3, f4⟩ := froz5a HY6.out
                    go_upto_region 20 with (fail)
                    clear y0 y1 y2 y3 y4 f0 f1 f2 f3 f4 hc2'
                    by_cases hn0 : n = 0
                    · subst hn0
                      have hl0 : l = [] := List.eq_nil_of_length_eq_zero HLN.out
                      have HOK := Lib.hid (show Sk.one [a, b, cc, d] l = .inl ((x0, 3), 1, 0, x3) by rw [HL4.out, hl0]; rfl)
                      clear hl0
                      go_quiet (fail)
                      go_upto_region 22 with (fail)
                      obtain ⟨w5, hw5⟩ : ∃ w5, w5 = w6.drewN nq := ⟨_, rfl⟩
                      rw [← hw5]
                      have hb5 : Below w6.heap.size w6 w5 := by rw [hw5]; exact below_dq (Below.refl _ _) nq
                      have HX5 := Lib.hid (heap_keep HX6.out hb5); have HY5 := Lib.hid (heap_keep HY6.out hb5); have HB5 := Lib.hid (bch HB6.out hb5 (by have := HB6.out.size; have := HNB.out; omega))
                      clear hw5 hb5
                      obtain ⟨m0, m1, m2, m3, m4⟩ := cell5 HX5.out
                      obtain ⟨f0, f1, f2, f3, f4⟩ := froz5a HX5.out
                      obtain ⟨y0, y1, y2, y3, y4⟩ := cell5 HY5.out
                      go_wp2_with fail
                      obtain ⟨w7, hw7⟩ : ∃ w7, w7 = (((((w5.setCell ⟨nb, 0, none⟩ (.int .i64 x0)).setCell ⟨nb, 1, none⟩ (.int .i64 3)).setCell ⟨nb, 2, none⟩ (.int .i64 1)).setCell ⟨nb, 3, none⟩ (.int .i64 0)).setCell ⟨nb, 4, none⟩ (.int .i64 x3)) := ⟨_, rfl⟩
                      have hx7 := set5a HX5.out (.int .i64 x0) (.int .i64 3) (.int .i64 1) (.int .i64 0) (.int .i64 x3)
                      rw [← hw7] at hx7
                      have hb7 : Below nb w w7 := by rw [hw7]; exact below_set5 HB5.out (Nat.le_refl _) _ _ _ _ _
                      rw [← hw7]
                      clear hw7
                      obtain ⟨z0, z1, z2, z3, z4⟩ := cell5 hx7
                      refine bodyPost_ret (v := .tuple #[.agg #[.int .i64 x0, .int .i64 3, .int .i64 1, .int .i64 0, .int .i64 x3], .int .i64 0, .int .i64 0]) (by simp [results, Tryz.results42, go_sem, z0, z1, z2, z3, z4]) rfl ⟨?_, hb7⟩
                      exact refOneR_ok HOK.out rfl
                    · obtain ⟨y, hy⟩ : ∃ y, l[n - 1]? = some y := ⟨_, List.getElem?_eq_getElem (by have := HLN.out; omega)⟩
                      have hlast : l.getLast? = some y := by rw [List.getLast?_eq_getElem?, HLN.out]; exact hy
                      have HL5 := Lib.hid (show Sk.one [a, b, cc, d] l = if lessB y.1.1 y.1.2 x0 3 = true then .inl ((x0, 3), 1, 0, x3) else .inr (1, 6) by rw [HL4.out, hlast])
                      obtain ⟨g, off, n', c', e, d0, d1, _, _, _⟩ := HU.out.cells (by rw [HNB.out]; exact HB6.out) hy
                      injection e with e1 e2 e3
                      subst e1
                      clear hlast e2 e3 hy
                      obtain ⟨y0, y1, y2, y3, y4⟩ := cell5 HY6.out
                      have hn1 : 0 < n := by omega
                      have hnI : (0 : Int) < n := by omega
                      have hnz := decide_eq_true hnI
                      have hw1 : IntKind.i64.wrap ((n : Int) - 1) = (n : Int) - 1 := IntWalk.i64_in _ (by omega)
                      have hi0 : (0 : Int) ≤ (n : Int) - 1 := by omega
                      have hi3 : (1 : Int) ≤ n := by omega
                      have hi1 : (n : Int) - 1 < n := by omega
                      have hi2 : ((n : Int) - 1).toNat = n - 1 := by omega
                      have HH := Lib.hid (fun W (hb : Below w6.heap.size w6 W) => (⟨Lib.hid hb, (hb.cell (World.block_lt_of_cell? w6 _ d0)).trans d0, (hb.cell (World.block_lt_of_cell? w6 _ d1)).trans d1, (hb.cell (World.block_lt_of_cell? w6 _ y0)).trans y0, (hb.cell (World.block_lt_of_cell? w6 _ y1)).trans y1⟩ : (fun w' => Hid (Below w6.heap.size w6 w') ∧ w'.cell? ⟨g, off + (n - 1) * 5, none⟩ = some (.int .i64 y.1.1) ∧ w'.cell? ⟨g, off + (n - 1) * 5 + 1, none⟩ = some (.int .i64 y.1.2) ∧ w'.cell? ⟨nb + 1, 0, none⟩ = some (.int .i64 x0) ∧ w'.cell? ⟨nb + 1, 1, none⟩ = some (.int .i64 3)) W))
                      refine wp_region_noPanic ?_
                      refine wp_region_held_drew (S := (fun w' => Hid (Below w6.heap.size w6 w') ∧ w'.cell? ⟨g, off + (n - 1) * 5, none⟩ = some (.int .i64 y.1.1) ∧ w'.cell? ⟨g, off + (n - 1) * 5 + 1, none⟩ = some (.int .i64 y.1.2) ∧ w'.cell? ⟨nb + 1, 0, none⟩ = some (.int .i64 x0) ∧ w'.cell? ⟨nb + 1, 1, none⟩ = some (.int .i64 3))) (by kernel_rfl) (HH.out _ (below_drew1 (Below.refl w6.heap.size w6))) (fun hHeld => ?_)
                      refine wpAnyH_take (i := 0) (v := ?vc0_46) rfl (by kernel_rfl) (by kernel_rfl) (by kernel_rfl) (fun _ _ _ h => h) (Or.inl ⟨by rfl, ?hyc0_46⟩) (by assumption) ?restc0_46
                      case hyc0_46 => (intro w0 hSw; (try dsimp only at hSw); go_simp; try with_reducible rfl)
                      case' restc0_46 => try simp only [Act.put, List.getElem_toArray, List.getElem_cons_zero, List.getElem_cons_succ, List.setIfInBounds_toArray, List.set_cons_zero, List.set_cons_succ]
                      refine wpAnyH_take (i := 1) (v := ?vc1_47) rfl (by kernel_rfl) (by kernel_rfl) (by kernel_rfl) (fun _ _ _ h => h) (Or.inl ⟨by rfl, ?hyc1_47⟩) (by assumption) ?restc1_47
                      case hyc1_47 => (intro w0 hSw; (try dsimp only at hSw); go_simp; try with_reducible rfl)
                      case' restc1_47 => try simp only [Act.put, List.getElem_toArray, List.getElem_cons_zero, List.getElem_cons_succ, List.setIfInBounds_toArray, List.set_cons_zero, List.set_cons_succ]
                      refine wpAnyH_take (i := 2) (v := ?vc2_48) rfl (by kernel_rfl) (by kernel_rfl) (by kernel_rfl) (fun _ _ _ h => h) (Or.inl ⟨by rfl, ?hyc2_48⟩) (by assumption) ?restc2_48
                      case hyc2_48 => (intro w0 hSw; (try dsimp only at hSw); go_simp; try with_reducible rfl)
                      case' restc2_48 => try simp only [Act.put, List.getElem_toArray, List.getElem_cons_zero, List.getElem_cons_succ, List.setIfInBounds_toArray, List.set_cons_zero, List.set_cons_succ]
                      refine wpAnyH_take (i := 3) (v := ?vc3_49) rfl (by kernel_rfl) (by kernel_rfl) (by kernel_rfl) (fun _ _ _ h => h) (Or.inl ⟨by rfl, ?hyc3_49⟩) (by assumption) ?restc3_49
                      case hyc3_49 => (intro w0 hSw; (try dsimp only at hSw); go_simp; try with_reducible rfl)
                      case' restc3_49 => try simp only [Act.put, List.getElem_toArray, List.getElem_cons_zero, List.getElem_cons_succ, List.setIfInBounds_toArray, List.set_cons_zero, List.set_cons_succ]
                      refine wpAnyH_take (i := 4) (v := ?vc4_50) rfl (by kernel_rfl) (by kernel_rfl) (by kernel_rfl) (fun _ _ _ h => h) (Or.inl ⟨by rfl, ?hyc4_50⟩) (by assumption) ?restc4_50
                      case hyc4_50 => (intro w0 hSw; (try dsimp only at hSw); go_simp; try with_reducible rfl)
                      case' restc4_50 => try simp only [Act.put, List.getElem_toArray, List.getElem_cons_zero, List.getElem_cons_succ, List.setIfInBounds_toArray, List.set_cons_zero, List.set_cons_succ]
                      refine wpAnyH_take (i := 5) (v := ?vc5_51) rfl (by kernel_rfl) (by kernel_rfl) (by kernel_rfl) (fun _ _ _ h => h) (Or.inl ⟨by rfl, ?hyc5_51⟩) (by assumption) ?restc5_51
                      case hyc5_51 => (intro w0 hSw; (try dsimp only at hSw); go_simp; try with_reducible rfl)
                      case' restc5_51 => try simp only [Act.put, List.getElem_toArray, List.getElem_cons_zero, List.getElem_cons_succ, List.setIfInBounds_toArray, List.set_cons_zero, List.set_cons_succ]
                      refine wpAnyH_take (i := 6) (v := ?vc6_52) rfl (by kernel_rfl) (by kernel_rfl) (by kernel_rfl) (fun _ _ _ h => h) (Or.inl ⟨by rfl, ?hyc6_52⟩) (by assumption) ?restc6_52
                      case hyc6_52 => (intro w0 hSw; (try dsimp only at hSw); go_simp; try with_reducible rfl)
                      case' restc6_52 => try simp only [Act.put, List.getElem_toArray, List.getElem_cons_zero, List.getElem_cons_succ, List.setIfInBounds_toArray, List.set_cons_zero, List.set_cons_succ]
                      refine wpAnyH_take (i := 7) (v := ?vc7_53) rfl (by kernel_rfl) (by kernel_rfl) (by kernel_rfl) (fun _ _ _ h => h) (Or.inl ⟨by rfl, ?hyc7_53⟩) (by assumption) ?restc7_53
                      case hyc7_53 => (intro w0 hSw; (try dsimp only at hSw); go_simp; try with_reducible rfl)
                      case' restc7_53 => try simp only [Act.put, List.getElem_toArray, List.getElem_cons_zero, List.getElem_cons_succ, List.setIfInBounds_toArray, List.set_cons_zero, List.set_cons_succ]
                      refine wpAnyH_take (i := 8) (v := ?vc8_54) rfl (by kernel_rfl) (by kernel_rfl) (by kernel_rfl) (fun _ _ _ h => h) (Or.inl ⟨by rfl, ?hyc8_54⟩) (by assumption) ?restc8_54
                      case hyc8_54 => (intro w0 hSw; (try dsimp only at hSw); go_simp; try with_reducible rfl)
                      case' restc8_54 => try simp only [Act.put, List.getElem_toArray, List.getElem_cons_zero, List.getElem_cons_succ, List.setIfInBounds_toArray, List.set_cons_zero, List.set_cons_succ]
                      refine wpAnyH_take (i := 9) (v := ?vc9_55) rfl (by kernel_rfl) (by kernel_rfl) (by kernel_rfl) (fun _ _ _ h => h) (Or.inl ⟨by rfl, ?hyc9_55⟩) (by assumption) ?restc9_55
                      case hyc9_55 => (intro w0 hSw; (try dsimp only at hSw); go_simp; try with_reducible rfl)
                      case' restc9_55 => try simp only [Act.put, List.getElem_toArray, List.getElem_cons_zero, List.getElem_cons_succ, List.setIfInBounds_toArray, List.set_cons_zero, List.set_cons_succ]
                      refine wpAnyH_take (i := 10) (v := ?vc10_56) rfl (by kernel_rfl) (by kernel_rfl) (by kernel_rfl) (fun _ _ _ h => h) (Or.inl ⟨by rfl, ?hyc10_56⟩) (by assumption) ?restc10_56
                      case hyc10_56 => (intro w0 hSw; (try dsimp only at hSw); go_simp; try with_reducible rfl)
                      case' restc10_56 => try simp only [Act.put, List.getElem_toArray, List.getElem_cons_zero, List.getElem_cons_succ, List.setIfInBounds_toArray, List.set_cons_zero, List.set_cons_succ]
                      refine wpAnyH_take (i := 11) (v := ?vc11_57) rfl (by kernel_rfl) (by kernel_rfl) (by kernel_rfl) (fun _ _ _ h => h) (Or.inl ⟨by rfl, ?hyc11_57⟩) (by assumption) ?restc11_57
                      case hyc11_57 => (intro w0 hSw; (try dsimp only at hSw); go_simp; try with_reducible rfl)
                      case' restc11_57 => try simp only [Act.put, List.getElem_toArray, List.getElem_cons_zero, List.getElem_cons_succ, List.setIfInBounds_toArray, List.set_cons_zero, List.set_cons_succ]
                      refine wpAnyH_take (i := 12) (v := ?vc12_58) rfl (by kernel_rfl) (by kernel_rfl) (by kernel_rfl) (fun _ _ _ h => h) (Or.inl ⟨by rfl, ?hyc12_58⟩) (by assumption) ?restc12_58
                      case hyc12_58 => (intro w0 hSw; (try dsimp only at hSw); go_simp; try with_reducible rfl)
                      case' restc12_58 => try simp only [Act.put, List.getElem_toArray, List.getElem_cons_zero, List.getElem_cons_succ, List.setIfInBounds_toArray, List.set_cons_zero, List.set_cons_succ]
                      refine wpAnyH_ready (rs := [13]) (by kernel_rfl) (by simp) ?_
                      refine AllReadyH.cons rfl (fun K hK => ?_) AllReadyH.nil
                      go_simp
                      refine (refLess_any y.1.1 y.1.2 x0 3 _).mono ?_
                      rintro e w5 ⟨rfl, hb4⟩
                      refine hK.out _ _ (HH.out _ (bch (below_drew1 (Below.refl w6.heap.size w6)) hb4 (by simp))) (fun hHeld => ?_)
                      clear hK K
                      try simp only [Act.put, List.getElem_toArray, List.getElem_cons_zero, List.getElem_cons_succ, List.setIfInBounds_toArray, List.set_cons_zero, List.set_cons_succ]
                      refine wpAnyH_take (i := 14) (v := ?vc14_59) rfl (by kernel_rfl) (by kernel_rfl) (by kernel_rfl) (fun _ _ _ h => h) (Or.inl ⟨by rfl, ?hyc14_59⟩) (by assumption) ?restc14_59
                      case hyc14_59 => (intro w0 hSw; (try dsimp only at hSw); go_simp; try with_reducible rfl)
                      case' restc14_59 => try simp only [Act.put, List.getElem_toArray, List.getElem_cons_zero, List.getElem_cons_succ, List.setIfInBounds_toArray, List.set_cons_zero, List.set_cons_succ]
                      refine wpAnyH_take (i := 15) (v := ?vc15_60) rfl (by kernel_rfl) (by kernel_rfl) (by kernel_rfl) (fun _ _ _ h => h) (Or.inl ⟨by rfl, ?hyc15_60⟩) (by assumption) ?restc15_60
                      case hyc15_60 => (intro w0 hSw; (try dsimp only at hSw); go_simp; try with_reducible rfl)
                      case' restc15_60 => try simp only [Act.put, List.getElem_toArray, List.getElem_cons_zero, List.getElem_cons_succ, List.setIfInBounds_toArray, List.set_cons_zero, List.set_cons_succ]
                      refine wpAnyH_done (by kernel_rfl) ?_ _
                      refine NoPanic.normal ?_
                      have hb5 : Below w6.heap.size w6 w5 := bch (below_drew1 (Below.refl w6.heap.size w6)) hb4 (by simp)
                      clear hHeld HH hb4 y0 y1 y2 y3 y4 d0 d1 hw1 hi0 hi1 hi2 hi3 hnz
                      have HX5 := Lib.hid (heap_keep HX6.out hb5); have HY5 := Lib.hid (heap_keep HY6.out hb5); have HB5 := Lib.hid (bch HB6.out hb5 (by have := HB6.out.size; have := HNB.out; omega))
                      clear hb5
                      cases hls : lessB y.1.1 y.1.2 x0 3 with
                      | true =>
                        have HOK := Lib.hid (show Sk.one [a, b, cc, d] l = .inl ((x0, 3), 1, 0, x3) by rw [HL5.out, hls]; rfl)
                        clear hls
                        obtain ⟨m0, m1, m2, m3, m4⟩ := cell5 HX5.out
                        obtain ⟨f0, f1, f2, f3, f4⟩ := froz5a HX5.out
                        obtain ⟨y0, y1, y2, y3, y4⟩ := cell5 HY5.out
                        go_wp2_with fail
                        obtain ⟨w7, hw7⟩ : ∃ w7, w7 = (((((w5.setCell ⟨nb, 0, none⟩ (.int .i64 x0)).setCell ⟨nb, 1, none⟩ (.int .i64 3)).setCell ⟨nb, 2, none⟩ (.int .i64 1)).setCell ⟨nb, 3, none⟩ (.int .i64 0)).setCell ⟨nb, 4, none⟩ (.int .i64 x3)) := ⟨_, rfl⟩
                        have hx7 := set5a HX5.out (.int .i64 x0) (.int .i64 3) (.int .i64 1) (.int .i64 0) (.int .i64 x3)
                        rw [← hw7] at hx7
                        have hb7 : Below nb w w7 := by rw [hw7]; exact below_set5 HB5.out (Nat.le_refl _) _ _ _ _ _
                        rw [← hw7]
                        clear hw7
                        obtain ⟨z0, z1, z2, z3, z4⟩ := cell5 hx7
                        refine bodyPost_ret (v := .tuple #[.agg #[.int .i64 x0, .int .i64 3, .int .i64 1, .int .i64 0, .int .i64 x3], .int .i64 0, .int .i64 0]) (by simp [results, Tryz.results42, go_sem, z0, z1, z2, z3, z4]) rfl ⟨?_, hb7⟩
                        exact refOneR_ok HOK.out rfl
                      | false =>
                        have HBAD := Lib.hid (show Sk.one [a, b, cc, d] l = .inr (1, 6) by rw [HL5.out, hls]; rfl)
                        clear hls
                        obtain ⟨m0, m1, m2, m3, m4⟩ := cell5 HX5.out
                        obtain ⟨f0, f1, f2, f3, f4⟩ := froz5a HX5.out
                        obtain ⟨y0, y1, y2, y3, y4⟩ := cell5 HY5.out
                        go_wp2_with fail
                        obtain ⟨w7, hw7⟩ : ∃ w7, w7 = (((((w5.setCell ⟨nb, 0, none⟩ (.int .i64 x0)).setCell ⟨nb, 1, none⟩ (.int .i64 3)).setCell ⟨nb, 2, none⟩ (.int .i64 1)).setCell ⟨nb, 3, none⟩ (.int .i64 0)).setCell ⟨nb, 4, none⟩ (.int .i64 x3)) := ⟨_, rfl⟩
                        have hx7 := set5a HX5.out (.int .i64 x0) (.int .i64 3) (.int .i64 1) (.int .i64 0) (.int .i64 x3)
                        rw [← hw7] at hx7
                        have hb7 : Below nb w w7 := by rw [hw7]; exact below_set5 HB5.out (Nat.le_refl _) _ _ _ _ _
                        rw [← hw7]
                        clear hw7
                        obtain ⟨z0, z1, z2, z3, z4⟩ := cell5 hx7
                        refine bodyPost_ret (v := .tuple #[.agg #[.int .i64 x0, .int .i64 3, .int .i64 1, .int .i64 0, .int .i64 x3], .int .i64 1, .int .i64 6]) (by simp [results, Tryz.results42, go_sem, z0, z1, z2, z3, z4]) rfl ⟨?_, hb7⟩
                        exact refOneR_bad HBAD.out ((x0, 3), 1, 0, x3) rfl
                  · go_wp2_with fail
                    refine (HD1.out _).mono ?_
                    rintro e w4 ⟨rfl, hb4⟩
                    have HX4 := Lib.hid (heap_keep HX3.out hb4); have HY4 := Lib.hid (heap_keep HY3.out hb4); have HB4 := Lib.hid (bch HB3.out hb4 (by have := HB3.out.size; have := HNB.out; omega))
                    clear hb4 hc1 hc2 hc3
                    have hc2 := HW.out w4 2 cc HB4.out rfl
                    obtain ⟨y0, y1, y2, y3, y4⟩ := cell5 HY4.out
                    obtain ⟨f0, f1, f2, f3, f4⟩ := froz5a HY4.out
                    go_upto_region 18 with (fail)
                    obtain ⟨w6, hw6⟩ : ∃ w6, w6 = (((((w4.setCell ⟨nb + 1, 0, none⟩ (.int .i64 x0)).setCell ⟨nb + 1, 1, none⟩ (.int .i64 3)).setCell ⟨nb + 1, 2, none⟩ (.int .i64 1)).setCell ⟨nb + 1, 3, none⟩ (.int .i64 0)).setCell ⟨nb + 1, 4, none⟩ (.int .i64 x3)) := ⟨_, rfl⟩
                    rw [← hw6]
                    have hy6 := set5a HY4.out (.int .i64 x0) (.int .i64 3) (.int .i64 1) (.int .i64 0) (.int .i64 x3)
                    rw [← hw6] at hy6
                    have hx6 : w6.heap[nb]? = some (.cells #[.int .i64 0, .int .i64 0, .int .i64 0, .int .i64 0, .int .i64 0] tRow (0, 0)) := by rw [hw6]; exact set_other (set_other (set_other (set_other (set_other HX4.out (by omega) _) (by omega) _) (by omega) _) (by omega) _) (by omega) _
                    have hb6 : Below nb w w6 := by rw [hw6]; exact below_set5 HB4.out (by omega) _ _ _ _ _
                    have hc2' : w6.cell? ⟨gb, go_ + 2, none⟩ = some (.string ⟨cc.toArray⟩) := HW.out w6 2 cc hb6 rfl
                    have HX6 := Lib.hid hx6; have HY6 := Lib.hid hy6; have HB6 := Lib.hid hb6
                    clear hw6 hx6 hy6 hb6 y0 y1 y2 y3 y4 f0 f1 f2 f3 f4 hc2
                    obtain ⟨y0, y1, y2, y3, y4⟩ := cell5 HY6.out
                    obtain ⟨f0, f1, f2, f3, f4⟩ := froz5a HY6.out
                    go_upto_region 20 with (fail)
                    clear y0 y1 y2 y3 y4 f0 f1 f2 f3 f4 hc2'
                    by_cases hn0 : n = 0
                    · subst hn0
                      have hl0 : l = [] := List.eq_nil_of_length_eq_zero HLN.out
                      have HOK := Lib.hid (show Sk.one [a, b, cc, d] l = .inl ((x0, 3), 1, 0, x3) by rw [HL4.out, hl0]; rfl)
                      clear hl0
                      go_quiet (fail)
                      go_upto_region 22 with (fail)
                      obtain ⟨w5, hw5⟩ : ∃ w5, w5 = w6.drewN nq := ⟨_, rfl⟩
                      rw [← hw5]
                      have hb5 : Below w6.heap.size w6 w5 := by rw [hw5]; exact below_dq (Below.refl _ _) nq
                      have HX5 := Lib.hid (heap_keep HX6.out hb5); have HY5 := Lib.hid (heap_keep HY6.out hb5); have HB5 := Lib.hid (bch HB6.out hb5 (by have := HB6.out.size; have := HNB.out; omega))
                      clear hw5 hb5
                      obtain ⟨m0, m1, m2, m3, m4⟩ := cell5 HX5.out
                      obtain ⟨f0, f1, f2, f3, f4⟩ := froz5a HX5.out
                      obtain ⟨y0, y1, y2, y3, y4⟩ := cell5 HY5.out
                      go_wp2_with fail
                      obtain ⟨w7, hw7⟩ : ∃ w7, w7 = (((((w5.setCell ⟨nb, 0, none⟩ (.int .i64 x0)).setCell ⟨nb, 1, none⟩ (.int .i64 3)).setCell ⟨nb, 2, none⟩ (.int .i64 1)).setCell ⟨nb, 3, none⟩ (.int .i64 0)).setCell ⟨nb, 4, none⟩ (.int .i64 x3)) := ⟨_, rfl⟩
                      have hx7 := set5a HX5.out (.int .i64 x0) (.int .i64 3) (.int .i64 1) (.int .i64 0) (.int .i64 x3)
                      rw [← hw7] at hx7
                      have hb7 : Below nb w w7 := by rw [hw7]; exact below_set5 HB5.out (Nat.le_refl _) _ _ _ _ _
                      rw [← hw7]
                      clear hw7
                      obtain ⟨z0, z1, z2, z3, z4⟩ := cell5 hx7
                      refine bodyPost_ret (v := .tuple #[.agg #[.int .i64 x0, .int .i64 3, .int .i64 1, .int .i64 0, .int .i64 x3], .int .i64 0, .int .i64 0]) (by simp [results, Tryz.results42, go_sem, z0, z1, z2, z3, z4]) rfl ⟨?_, hb7⟩
                      exact refOneR_ok HOK.out rfl
                    · obtain ⟨y, hy⟩ : ∃ y, l[n - 1]? = some y := ⟨_, List.getElem?_eq_getElem (by have := HLN.out; omega)⟩
                      have hlast : l.getLast? = some y := by rw [List.getLast?_eq_getElem?, HLN.out]; exact hy
                      have HL5 := Lib.hid (show Sk.one [a, b, cc, d] l = if lessB y.1.1 y.1.2 x0 3 = true then .inl ((x0, 3), 1, 0, x3) else .inr (1, 6) by rw [HL4.out, hlast])
                      obtain ⟨g, off, n', c', e, d0, d1, _, _, _⟩ := HU.out.cells (by rw [HNB.out]; exact HB6.out) hy
                      injection e with e1 e2 e3
                      subst e1
                      clear hlast e2 e3 hy
                      obtain ⟨y0, y1, y2, y3, y4⟩ := cell5 HY6.out
                      have hn1 : 0 < n := by omega
                      have hnI : (0 : Int) < n := by omega
                      have hnz := decide_eq_true hnI
                      have hw1 : IntKind.i64.wrap ((n : Int) - 1) = (n : Int) - 1 := IntWalk.i64_in _ (by omega)
                      have hi0 : (0 : Int) ≤ (n : Int) - 1 := by omega
                      have hi3 : (1 : Int) ≤ n := by omega
                      have hi1 : (n : Int) - 1 < n := by omega
                      have hi2 : ((n : Int) - 1).toNat = n - 1 := by omega
                      have HH := Lib.hid (fun W (hb : Below w6.heap.size w6 W) => (⟨Lib.hid hb, (hb.cell (World.block_lt_of_cell? w6 _ d0)).trans d0, (hb.cell (World.block_lt_of_cell? w6 _ d1)).trans d1, (hb.cell (World.block_lt_of_cell? w6 _ y0)).trans y0, (hb.cell (World.block_lt_of_cell? w6 _ y1)).trans y1⟩ : (fun w' => Hid (Below w6.heap.size w6 w') ∧ w'.cell? ⟨g, off + (n - 1) * 5, none⟩ = some (.int .i64 y.1.1) ∧ w'.cell? ⟨g, off + (n - 1) * 5 + 1, none⟩ = some (.int .i64 y.1.2) ∧ w'.cell? ⟨nb + 1, 0, none⟩ = some (.int .i64 x0) ∧ w'.cell? ⟨nb + 1, 1, none⟩ = some (.int .i64 3)) W))
                      refine wp_region_noPanic ?_
                      refine wp_region_held_drew (S := (fun w' => Hid (Below w6.heap.size w6 w') ∧ w'.cell? ⟨g, off + (n - 1) * 5, none⟩ = some (.int .i64 y.1.1) ∧ w'.cell? ⟨g, off + (n - 1) * 5 + 1, none⟩ = some (.int .i64 y.1.2) ∧ w'.cell? ⟨nb + 1, 0, none⟩ = some (.int .i64 x0) ∧ w'.cell? ⟨nb + 1, 1, none⟩ = some (.int .i64 3))) (by kernel_rfl) (HH.out _ (below_drew1 (Below.refl w6.heap.size w6))) (fun hHeld => ?_)
                      refine wpAnyH_take (i := 0) (v := ?vc0_61) rfl (by kernel_rfl) (by kernel_rfl) (by kernel_rfl) (fun _ _ _ h => h) (Or.inl ⟨by rfl, ?hyc0_61⟩) (by assumption) ?restc0_61
                      case hyc0_61 => (intro w0 hSw; (try dsimp only at hSw); go_simp; try with_reducible rfl)
                      case' restc0_61 => try simp only [Act.put, List.getElem_toArray, List.getElem_cons_zero, List.getElem_cons_succ, List.setIfInBounds_toArray, List.set_cons_zero, List.set_cons_succ]
                      refine wpAnyH_take (i := 1) (v := ?vc1_62) rfl (by kernel_rfl) (by kernel_rfl) (by kernel_rfl) (fun _ _ _ h => h) (Or.inl ⟨by rfl, ?hyc1_62⟩) (by assumption) ?restc1_62
                      case hyc1_62 => (intro w0 hSw; (try dsimp only at hSw); go_simp; try with_reducible rfl)
                      case' restc1_62 => try simp only [Act.put, List.getElem_toArray, List.getElem_cons_zero, List.getElem_cons_succ, List.setIfInBounds_toArray, List.set_cons_zero, List.set_cons_succ]
                      refine wpAnyH_take (i := 2) (v := ?vc2_63) rfl (by kernel_rfl) (by kernel_rfl) (by kernel_rfl) (fun _ _ _ h => h) (Or.inl ⟨by rfl, ?hyc2_63⟩) (by assumption) ?restc2_63
                      case hyc2_63 => (intro w0 hSw; (try dsimp only at hSw); go_simp; try with_reducible rfl)
                      case' restc2_63 => try simp only [Act.put, List.getElem_toArray, List.getElem_cons_zero, List.getElem_cons_succ, List.setIfInBounds_toArray, List.set_cons_zero, List.set_cons_succ]
                      refine wpAnyH_take (i := 3) (v := ?vc3_64) rfl (by kernel_rfl) (by kernel_rfl) (by kernel_rfl) (fun _ _ _ h => h) (Or.inl ⟨by rfl, ?hyc3_64⟩) (by assumption) ?restc3_64
                      case hyc3_64 => (intro w0 hSw; (try dsimp only at hSw); go_simp; try with_reducible rfl)
                      case' restc3_64 => try simp only [Act.put, List.getElem_toArray, List.getElem_cons_zero, List.getElem_cons_succ, List.setIfInBounds_toArray, List.set_cons_zero, List.set_cons_succ]
                      refine wpAnyH_take (i := 4) (v := ?vc4_65) rfl (by kernel_rfl) (by kernel_rfl) (by kernel_rfl) (fun _ _ _ h => h) (Or.inl ⟨by rfl, ?hyc4_65⟩) (by assumption) ?restc4_65
                      case hyc4_65 => (intro w0 hSw; (try dsimp only at hSw); go_simp; try with_reducible rfl)
                      case' restc4_65 => try simp only [Act.put, List.getElem_toArray, List.getElem_cons_zero, List.getElem_cons_succ, List.setIfInBounds_toArray, List.set_cons_zero, List.set_cons_succ]
                      refine wpAnyH_take (i := 5) (v := ?vc5_66) rfl (by kernel_rfl) (by kernel_rfl) (by kernel_rfl) (fun _ _ _ h => h) (Or.inl ⟨by rfl, ?hyc5_66⟩) (by assumption) ?restc5_66
                      case hyc5_66 => (intro w0 hSw; (try dsimp only at hSw); go_simp; try with_reducible rfl)
                      case' restc5_66 => try simp only [Act.put, List.getElem_toArray, List.getElem_cons_zero, List.getElem_cons_succ, List.setIfInBounds_toArray, List.set_cons_zero, List.set_cons_succ]
                      refine wpAnyH_take (i := 6) (v := ?vc6_67) rfl (by kernel_rfl) (by kernel_rfl) (by kernel_rfl) (fun _ _ _ h => h) (Or.inl ⟨by rfl, ?hyc6_67⟩) (by assumption) ?restc6_67
                      case hyc6_67 => (intro w0 hSw; (try dsimp only at hSw); go_simp; try with_reducible rfl)
                      case' restc6_67 => try simp only [Act.put, List.getElem_toArray, List.getElem_cons_zero, List.getElem_cons_succ, List.setIfInBounds_toArray, List.set_cons_zero, List.set_cons_succ]
                      refine wpAnyH_take (i := 7) (v := ?vc7_68) rfl (by kernel_rfl) (by kernel_rfl) (by kernel_rfl) (fun _ _ _ h => h) (Or.inl ⟨by rfl, ?hyc7_68⟩) (by assumption) ?restc7_68
                      case hyc7_68 => (intro w0 hSw; (try dsimp only at hSw); go_simp; try with_reducible rfl)
                      case' restc7_68 => try simp only [Act.put, List.getElem_toArray, List.getElem_cons_zero, List.getElem_cons_succ, List.setIfInBounds_toArray, List.set_cons_zero, List.set_cons_succ]
                      refine wpAnyH_take (i := 8) (v := ?vc8_69) rfl (by kernel_rfl) (by kernel_rfl) (by kernel_rfl) (fun _ _ _ h => h) (Or.inl ⟨by rfl, ?hyc8_69⟩) (by assumption) ?restc8_69
                      case hyc8_69 => (intro w0 hSw; (try dsimp only at hSw); go_simp; try with_reducible rfl)
                      case' restc8_69 => try simp only [Act.put, List.getElem_toArray, List.getElem_cons_zero, List.getElem_cons_succ, List.setIfInBounds_toArray, List.set_cons_zero, List.set_cons_succ]
                      refine wpAnyH_take (i := 9) (v := ?vc9_70) rfl (by kernel_rfl) (by kernel_rfl) (by kernel_rfl) (fun _ _ _ h => h) (Or.inl ⟨by rfl, ?hyc9_70⟩) (by assumption) ?restc9_70
                      case hyc9_70 => (intro w0 hSw; (try dsimp only at hSw); go_simp; try with_reducible rfl)
                      case' restc9_70 => try simp only [Act.put, List.getElem_toArray, List.getElem_cons_zero, List.getElem_cons_succ, List.setIfInBounds_toArray, List.set_cons_zero, List.set_cons_succ]
                      refine wpAnyH_take (i := 10) (v := ?vc10_71) rfl (by kernel_rfl) (by kernel_rfl) (by kernel_rfl) (fun _ _ _ h => h) (Or.inl ⟨by rfl, ?hyc10_71⟩) (by assumption) ?restc10_71
                      case hyc10_71 => (intro w0 hSw; (try dsimp only at hSw); go_simp; try with_reducible rfl)
                      case' restc10_71 => try simp only [Act.put, List.getElem_toArray, List.getElem_cons_zero, List.getElem_cons_succ, List.setIfInBounds_toArray, List.set_cons_zero, List.set_cons_succ]
                      refine wpAnyH_take (i := 11) (v := ?vc11_72) rfl (by kernel_rfl) (by kernel_rfl) (by kernel_rfl) (fun _ _ _ h => h) (Or.inl ⟨by rfl, ?hyc11_72⟩) (by assumption) ?restc11_72
                      case hyc11_72 => (intro w0 hSw; (try dsimp only at hSw); go_simp; try with_reducible rfl)
                      case' restc11_72 => try simp only [Act.put, List.getElem_toArray, List.getElem_cons_zero, List.getElem_cons_succ, List.setIfInBounds_toArray, List.set_cons_zero, List.set_cons_succ]
                      refine wpAnyH_take (i := 12) (v := ?vc12_73) rfl (by kernel_rfl) (by kernel_rfl) (by kernel_rfl) (fun _ _ _ h => h) (Or.inl ⟨by rfl, ?hyc12_73⟩) (by assumption) ?restc12_73
                      case hyc12_73 => (intro w0 hSw; (try dsimp only at hSw); go_simp; try with_reducible rfl)
                      case' restc12_73 => try simp only [Act.put, List.getElem_toArray, List.getElem_cons_zero, List.getElem_cons_succ, List.setIfInBounds_toArray, List.set_cons_zero, List.set_cons_succ]
                      refine wpAnyH_ready (rs := [13]) (by kernel_rfl) (by simp) ?_
                      refine AllReadyH.cons rfl (fun K hK => ?_) AllReadyH.nil
                      go_simp
                      refine (refLess_any y.1.1 y.1.2 x0 3 _).mono ?_
                      rintro e w5 ⟨rfl, hb4⟩
                      refine hK.out _ _ (HH.out _ (bch (below_drew1 (Below.refl w6.heap.size w6)) hb4 (by simp))) (fun hHeld => ?_)
                      clear hK K
                      try simp only [Act.put, List.getElem_toArray, List.getElem_cons_zero, List.getElem_cons_succ, List.setIfInBounds_toArray, List.set_cons_zero, List.set_cons_succ]
                      refine wpAnyH_take (i := 14) (v := ?vc14_74) rfl (by kernel_rfl) (by kernel_rfl) (by kernel_rfl) (fun _ _ _ h => h) (Or.inl ⟨by rfl, ?hyc14_74⟩) (by assumption) ?restc14_74
                      case hyc14_74 => (intro w0 hSw; (try dsimp only at hSw); go_simp; try with_reducible rfl)
                      case' restc14_74 => try simp only [Act.put, List.getElem_toArray, List.getElem_cons_zero, List.getElem_cons_succ, List.setIfInBounds_toArray, List.set_cons_zero, List.set_cons_succ]
                      refine wpAnyH_take (i := 15) (v := ?vc15_75) rfl (by kernel_rfl) (by kernel_rfl) (by kernel_rfl) (fun _ _ _ h => h) (Or.inl ⟨by rfl, ?hyc15_75⟩) (by assumption) ?restc15_75
                      case hyc15_75 => (intro w0 hSw; (try dsimp only at hSw); go_simp; try with_reducible rfl)
                      case' restc15_75 => try simp only [Act.put, List.getElem_toArray, List.getElem_cons_zero, List.getElem_cons_succ, List.setIfInBounds_toArray, List.set_cons_zero, List.set_cons_succ]
                      refine wpAnyH_done (by kernel_rfl) ?_ _
                      refine NoPanic.normal ?_
                      have hb5 : Below w6.heap.size w6 w5 := bch (below_drew1 (Below.refl w6.heap.size w6)) hb4 (by simp)
                      clear hHeld HH hb4 y0 y1 y2 y3 y4 d0 d1 hw1 hi0 hi1 hi2 hi3 hnz
                      have HX5 := Lib.hid (heap_keep HX6.out hb5); have HY5 := Lib.hid (heap_keep HY6.out hb5); have HB5 := Lib.hid (bch HB6.out hb5 (by have := HB6.out.size; have := HNB.out; omega))
                      clear hb5
                      cases hls : lessB y.1.1 y.1.2 x0 3 with
                      | true =>
                        have HOK := Lib.hid (show Sk.one [a, b, cc, d] l = .inl ((x0, 3), 1, 0, x3) by rw [HL5.out, hls]; rfl)
                        clear hls
                        obtain ⟨m0, m1, m2, m3, m4⟩ := cell5 HX5.out
                        obtain ⟨f0, f1, f2, f3, f4⟩ := froz5a HX5.out
                        obtain ⟨y0, y1, y2, y3, y4⟩ := cell5 HY5.out
                        go_wp2_with fail
                        obtain ⟨w7, hw7⟩ : ∃ w7, w7 = (((((w5.setCell ⟨nb, 0, none⟩ (.int .i64 x0)).setCell ⟨nb, 1, none⟩ (.int .i64 3)).setCell ⟨nb, 2, none⟩ (.int .i64 1)).setCell ⟨nb, 3, none⟩ (.int .i64 0)).setCell ⟨nb, 4, none⟩ (.int .i64 x3)) := ⟨_, rfl⟩
                        have hx7 := set5a HX5.out (.int .i64 x0) (.int .i64 3) (.int .i64 1) (.int .i64 0) (.int .i64 x3)
                        rw [← hw7] at hx7
                        have hb7 : Below nb w w7 := by rw [hw7]; exact below_set5 HB5.out (Nat.le_refl _) _ _ _ _ _
                        rw [← hw7]
                        clear hw7
                        obtain ⟨z0, z1, z2, z3, z4⟩ := cell5 hx7
                        refine bodyPost_ret (v := .tuple #[.agg #[.int .i64 x0, .int .i64 3, .int .i64 1, .int .i64 0, .int .i64 x3], .int .i64 0, .int .i64 0]) (by simp [results, Tryz.results42, go_sem, z0, z1, z2, z3, z4]) rfl ⟨?_, hb7⟩
                        exact refOneR_ok HOK.out rfl
                      | false =>
                        have HBAD := Lib.hid (show Sk.one [a, b, cc, d] l = .inr (1, 6) by rw [HL5.out, hls]; rfl)
                        clear hls
                        obtain ⟨m0, m1, m2, m3, m4⟩ := cell5 HX5.out
                        obtain ⟨f0, f1, f2, f3, f4⟩ := froz5a HX5.out
                        obtain ⟨y0, y1, y2, y3, y4⟩ := cell5 HY5.out
                        go_wp2_with fail
                        obtain ⟨w7, hw7⟩ : ∃ w7, w7 = (((((w5.setCell ⟨nb, 0, none⟩ (.int .i64 x0)).setCell ⟨nb, 1, none⟩ (.int .i64 3)).setCell ⟨nb, 2, none⟩ (.int .i64 1)).setCell ⟨nb, 3, none⟩ (.int .i64 0)).setCell ⟨nb, 4, none⟩ (.int .i64 x3)) := ⟨_, rfl⟩
                        have hx7 := set5a HX5.out (.int .i64 x0) (.int .i64 3) (.int .i64 1) (.int .i64 0) (.int .i64 x3)
                        rw [← hw7] at hx7
                        have hb7 : Below nb w w7 := by rw [hw7]; exact below_set5 HB5.out (Nat.le_refl _) _ _ _ _ _
                        rw [← hw7]
                        clear hw7
                        obtain ⟨z0, z1, z2, z3, z4⟩ := cell5 hx7
                        refine bodyPost_ret (v := .tuple #[.agg #[.int .i64 x0, .int .i64 3, .int .i64 1, .int .i64 0, .int .i64 x3], .int .i64 1, .int .i64 6]) (by simp [results, Tryz.results42, go_sem, z0, z1, z2, z3, z4]) rfl ⟨?_, hb7⟩
                        exact refOneR_bad HBAD.out ((x0, 3), 1, 0, x3) rfl
              · have HL3 := Lib.hid (show Sk.one [a, b, cc, d] l = if (numB d 0 999 && (decide ((2 : Int) = 1) || decide ((getM d).1 = 0))) = false then .inr (4, 3) else match l.getLast? with | none => .inl ((x0, 3), 2, 0, (getM d).1) | some y => if lessB y.1.1 y.1.2 x0 3 = true then .inl ((x0, 3), 2, 0, (getM d).1) else .inr (1, 6) by rw [HL2.out, hck]; rfl)
                have k1 := text_eq hcw.symm
                have k2 := text_ne (show cc ≠ [100, 111, 110, 101] by rw [← hcw]; decide)
                rw [show codeW 2 = [114, 101, 102, 117, 115, 101, 100] from rfl] at k1
                clear hcw hck
                go_upto_region 13 with (fail)
                cases hz3 : numB d 0 999 with
                | false =>
                  have g0 := numI_no hz3
                  have HBAD := Lib.hid (show Sk.one [a, b, cc, d] l = .inr (4, 3) by rw [HL3.out, hz3]; rfl)
                  rw [g0] at HN3
                  clear hz3 g0
                  go_wp2_with fail
                  refine (HN3.out _).mono ?_
                  rintro e w3 ⟨rfl, hb3⟩
                  have HX3 := Lib.hid (heap_keep HX2.out hb3); have HY3 := Lib.hid (heap_keep HY2.out hb3); have HB3 := Lib.hid (bch HB2.out hb3 (by have := HB2.out.size; have := HNB.out; omega))
                  clear hb3 hc1 hc2 hc3
                  have hc1 := HW.out w3 1 b HB3.out rfl
                  have hc2 := HW.out w3 2 cc HB3.out rfl
                  have hc3 := HW.out w3 3 d HB3.out rfl
                  obtain ⟨m0, m1, m2, m3, m4⟩ := cell5 HX3.out
                  obtain ⟨f0, f1, f2, f3, f4⟩ := froz5a HX3.out
                  obtain ⟨y0, y1, y2, y3, y4⟩ := cell5 HY3.out
                  go_wp2_with fail
                  obtain ⟨w7, hw7⟩ : ∃ w7, w7 = (((((w3.setCell ⟨nb, 0, none⟩ (.int .i64 0)).setCell ⟨nb, 1, none⟩ (.int .i64 0)).setCell ⟨nb, 2, none⟩ (.int .i64 0)).setCell ⟨nb, 3, none⟩ (.int .i64 0)).setCell ⟨nb, 4, none⟩ (.int .i64 0)) := ⟨_, rfl⟩
                  have hx7 := set5a HX3.out (.int .i64 0) (.int .i64 0) (.int .i64 0) (.int .i64 0) (.int .i64 0)
                  rw [← hw7] at hx7
                  have hb7 : Below nb w w7 := by rw [hw7]; exact below_set5 HB3.out (Nat.le_refl _) _ _ _ _ _
                  rw [← hw7]
                  clear hw7
                  obtain ⟨z0, z1, z2, z3, z4⟩ := cell5 hx7
                  refine bodyPost_ret (v := .tuple #[.agg #[.int .i64 0, .int .i64 0, .int .i64 0, .int .i64 0, .int .i64 0], .int .i64 4, .int .i64 3]) (by simp [results, Tryz.results42, go_sem, z0, z1, z2, z3, z4]) rfl ⟨?_, hb7⟩
                  exact refOneR_bad HBAD.out ((0, 0), 0, 0, 0) rfl
                | true =>
                  obtain ⟨g0, g1, g2⟩ := numI_ok (.inl rfl) hz3
                  obtain ⟨x3, hx3⟩ : ∃ x, (getM d).1 = x := ⟨_, rfl⟩
                  rw [g0, hx3] at HN3
                  rw [hx3] at g1 g2
                  have q3 : ¬ x3 < 0 := by omega
                  by_cases q4 : 0 < x3
                  · have HBAD := Lib.hid (show Sk.one [a, b, cc, d] l = .inr (4, 3) by rw [HL3.out, hz3, hx3]; simp only [Bool.true_and]; rw [if_pos (by simp; omega)])
                    clear hz3 g0 hx3
                    go_wp2_with fail
                    refine (HN3.out _).mono ?_
                    rintro e w3 ⟨rfl, hb3⟩
                    have HX3 := Lib.hid (heap_keep HX2.out hb3); have HY3 := Lib.hid (heap_keep HY2.out hb3); have HB3 := Lib.hid (bch HB2.out hb3 (by have := HB2.out.size; have := HNB.out; omega))
                    clear hb3 hc1 hc2 hc3
                    have hc1 := HW.out w3 1 b HB3.out rfl
                    have hc2 := HW.out w3 2 cc HB3.out rfl
                    have hc3 := HW.out w3 3 d HB3.out rfl
                    obtain ⟨m0, m1, m2, m3, m4⟩ := cell5 HX3.out
                    obtain ⟨f0, f1, f2, f3, f4⟩ := froz5a HX3.out
                    obtain ⟨y0, y1, y2, y3, y4⟩ := cell5 HY3.out
                    go_wp2_with fail
                    obtain ⟨w7, hw7⟩ : ∃ w7, w7 = (((((w3.setCell ⟨nb, 0, none⟩ (.int .i64 0)).setCell ⟨nb, 1, none⟩ (.int .i64 0)).setCell ⟨nb, 2, none⟩ (.int .i64 0)).setCell ⟨nb, 3, none⟩ (.int .i64 0)).setCell ⟨nb, 4, none⟩ (.int .i64 0)) := ⟨_, rfl⟩
                    have hx7 := set5a HX3.out (.int .i64 0) (.int .i64 0) (.int .i64 0) (.int .i64 0) (.int .i64 0)
                    rw [← hw7] at hx7
                    have hb7 : Below nb w w7 := by rw [hw7]; exact below_set5 HB3.out (Nat.le_refl _) _ _ _ _ _
                    rw [← hw7]
                    clear hw7
                    obtain ⟨z0, z1, z2, z3, z4⟩ := cell5 hx7
                    refine bodyPost_ret (v := .tuple #[.agg #[.int .i64 0, .int .i64 0, .int .i64 0, .int .i64 0, .int .i64 0], .int .i64 4, .int .i64 3]) (by simp [results, Tryz.results42, go_sem, z0, z1, z2, z3, z4]) rfl ⟨?_, hb7⟩
                    exact refOneR_bad HBAD.out ((0, 0), 0, 0, 0) rfl
                  · obtain rfl : x3 = 0 := by omega
                    have HL4 := Lib.hid (show Sk.one [a, b, cc, d] l = match l.getLast? with | none => .inl ((x0, 3), 2, 0, 0) | some y => if lessB y.1.1 y.1.2 x0 3 = true then .inl ((x0, 3), 2, 0, 0) else .inr (1, 6) by rw [HL3.out, hz3, hx3]; rfl)
                    clear hz3 g0 hx3
                    go_wp2_with fail
                    refine (HN3.out _).mono ?_
                    rintro e w3 ⟨rfl, hb3⟩
                    have HX3 := Lib.hid (heap_keep HX2.out hb3); have HY3 := Lib.hid (heap_keep HY2.out hb3); have HB3 := Lib.hid (bch HB2.out hb3 (by have := HB2.out.size; have := HNB.out; omega))
                    clear hb3 hc1 hc2 hc3
                    have hc1 := HW.out w3 1 b HB3.out rfl
                    have hc2 := HW.out w3 2 cc HB3.out rfl
                    have hc3 := HW.out w3 3 d HB3.out rfl
                    go_wp2_with fail
                    refine (HD1.out _).mono ?_
                    rintro e w4 ⟨rfl, hb4⟩
                    have HX4 := Lib.hid (heap_keep HX3.out hb4); have HY4 := Lib.hid (heap_keep HY3.out hb4); have HB4 := Lib.hid (bch HB3.out hb4 (by have := HB3.out.size; have := HNB.out; omega))
                    clear hb4 hc1 hc2 hc3
                    have hc2 := HW.out w4 2 cc HB4.out rfl
                    obtain ⟨y0, y1, y2, y3, y4⟩ := cell5 HY4.out
                    obtain ⟨f0, f1, f2, f3, f4⟩ := froz5a HY4.out
                    go_upto_region 18 with (fail)
                    obtain ⟨w6, hw6⟩ : ∃ w6, w6 = (((((w4.setCell ⟨nb + 1, 0, none⟩ (.int .i64 x0)).setCell ⟨nb + 1, 1, none⟩ (.int .i64 3)).setCell ⟨nb + 1, 2, none⟩ (.int .i64 1)).setCell ⟨nb + 1, 3, none⟩ (.int .i64 0)).setCell ⟨nb + 1, 4, none⟩ (.int .i64 0)) := ⟨_, rfl⟩
                    rw [← hw6]
                    have hy6 := set5a HY4.out (.int .i64 x0) (.int .i64 3) (.int .i64 1) (.int .i64 0) (.int .i64 0)
                    rw [← hw6] at hy6
                    have hx6 : w6.heap[nb]? = some (.cells #[.int .i64 0, .int .i64 0, .int .i64 0, .int .i64 0, .int .i64 0] tRow (0, 0)) := by rw [hw6]; exact set_other (set_other (set_other (set_other (set_other HX4.out (by omega) _) (by omega) _) (by omega) _) (by omega) _) (by omega) _
                    have hb6 : Below nb w w6 := by rw [hw6]; exact below_set5 HB4.out (by omega) _ _ _ _ _
                    have hc2' : w6.cell? ⟨gb, go_ + 2, none⟩ = some (.string ⟨cc.toArray⟩) := HW.out w6 2 cc hb6 rfl
                    have HX6 := Lib.hid hx6; have HY6 := Lib.hid hy6; have HB6 := Lib.hid hb6
                    clear hw6 hx6 hy6 hb6 y0 y1 y2 y3 y4 f0 f1 f2 f3 f4 hc2
                    obtain ⟨y0, y1, y2, y3, y4⟩ := cell5 HY6.out
                    obtain ⟨f0, f1, f2, f3, f4⟩ := froz5a HY6.out
                    go_upto_region 20 with (fail)
                    obtain ⟨w8, hw8⟩ : ∃ w8, w8 = w6.setCell ⟨nb + 1, 2, none⟩ (.int .i64 2) := ⟨_, rfl⟩
                    rw [← hw8]
                    have HY8 := Lib.hid (show w8.heap[nb + 1]? = some (.cells #[.int .i64 x0, .int .i64 3, .int .i64 2, .int .i64 0, .int .i64 0] tRow (0, 0)) by rw [hw8]; have h := HY6.out; simp [World.setCell, Array.getElem?_modify, h])
                    have HX8 := Lib.hid (show w8.heap[nb]? = some (.cells #[.int .i64 0, .int .i64 0, .int .i64 0, .int .i64 0, .int .i64 0] tRow (0, 0)) by rw [hw8]; exact set_other HX6.out (by omega) _)
                    have HB8 := Lib.hid (show Below nb w w8 by rw [hw8]; exact HB6.out.setCell (p := ⟨nb + 1, 2, none⟩) (by show nb ≤ nb + 1; omega) _)
                    clear hw8 y0 y1 y2 y3 y4 f0 f1 f2 f3 f4 hc2'
                    by_cases hn0 : n = 0
                    · subst hn0
                      have hl0 : l = [] := List.eq_nil_of_length_eq_zero HLN.out
                      have HOK := Lib.hid (show Sk.one [a, b, cc, d] l = .inl ((x0, 3), 2, 0, 0) by rw [HL4.out, hl0]; rfl)
                      clear hl0
                      go_quiet (fail)
                      go_upto_region 22 with (fail)
                      obtain ⟨w5, hw5⟩ : ∃ w5, w5 = w8.drewN nq := ⟨_, rfl⟩
                      rw [← hw5]
                      have hb5 : Below w8.heap.size w8 w5 := by rw [hw5]; exact below_dq (Below.refl _ _) nq
                      have HX5 := Lib.hid (heap_keep HX8.out hb5); have HY5 := Lib.hid (heap_keep HY8.out hb5); have HB5 := Lib.hid (bch HB8.out hb5 (by have := HB8.out.size; have := HNB.out; omega))
                      clear hw5 hb5
                      obtain ⟨m0, m1, m2, m3, m4⟩ := cell5 HX5.out
                      obtain ⟨f0, f1, f2, f3, f4⟩ := froz5a HX5.out
                      obtain ⟨y0, y1, y2, y3, y4⟩ := cell5 HY5.out
                      go_wp2_with fail
                      obtain ⟨w7, hw7⟩ : ∃ w7, w7 = (((((w5.setCell ⟨nb, 0, none⟩ (.int .i64 x0)).setCell ⟨nb, 1, none⟩ (.int .i64 3)).setCell ⟨nb, 2, none⟩ (.int .i64 2)).setCell ⟨nb, 3, none⟩ (.int .i64 0)).setCell ⟨nb, 4, none⟩ (.int .i64 0)) := ⟨_, rfl⟩
                      have hx7 := set5a HX5.out (.int .i64 x0) (.int .i64 3) (.int .i64 2) (.int .i64 0) (.int .i64 0)
                      rw [← hw7] at hx7
                      have hb7 : Below nb w w7 := by rw [hw7]; exact below_set5 HB5.out (Nat.le_refl _) _ _ _ _ _
                      rw [← hw7]
                      clear hw7
                      obtain ⟨z0, z1, z2, z3, z4⟩ := cell5 hx7
                      refine bodyPost_ret (v := .tuple #[.agg #[.int .i64 x0, .int .i64 3, .int .i64 2, .int .i64 0, .int .i64 0], .int .i64 0, .int .i64 0]) (by simp [results, Tryz.results42, go_sem, z0, z1, z2, z3, z4]) rfl ⟨?_, hb7⟩
                      exact refOneR_ok HOK.out rfl
                    · obtain ⟨y, hy⟩ : ∃ y, l[n - 1]? = some y := ⟨_, List.getElem?_eq_getElem (by have := HLN.out; omega)⟩
                      have hlast : l.getLast? = some y := by rw [List.getLast?_eq_getElem?, HLN.out]; exact hy
                      have HL5 := Lib.hid (show Sk.one [a, b, cc, d] l = if lessB y.1.1 y.1.2 x0 3 = true then .inl ((x0, 3), 2, 0, 0) else .inr (1, 6) by rw [HL4.out, hlast])
                      obtain ⟨g, off, n', c', e, d0, d1, _, _, _⟩ := HU.out.cells (by rw [HNB.out]; exact HB8.out) hy
                      injection e with e1 e2 e3
                      subst e1
                      clear hlast e2 e3 hy
                      obtain ⟨y0, y1, y2, y3, y4⟩ := cell5 HY8.out
                      have hn1 : 0 < n := by omega
                      have hnI : (0 : Int) < n := by omega
                      have hnz := decide_eq_true hnI
                      have hw1 : IntKind.i64.wrap ((n : Int) - 1) = (n : Int) - 1 := IntWalk.i64_in _ (by omega)
                      have hi0 : (0 : Int) ≤ (n : Int) - 1 := by omega
                      have hi3 : (1 : Int) ≤ n := by omega
                      have hi1 : (n : Int) - 1 < n := by omega
                      have hi2 : ((n : Int) - 1).toNat = n - 1 := by omega
                      have HH := Lib.hid (fun W (hb : Below w8.heap.size w8 W) => (⟨Lib.hid hb, (hb.cell (World.block_lt_of_cell? w8 _ d0)).trans d0, (hb.cell (World.block_lt_of_cell? w8 _ d1)).trans d1, (hb.cell (World.block_lt_of_cell? w8 _ y0)).trans y0, (hb.cell (World.block_lt_of_cell? w8 _ y1)).trans y1⟩ : (fun w' => Hid (Below w8.heap.size w8 w') ∧ w'.cell? ⟨g, off + (n - 1) * 5, none⟩ = some (.int .i64 y.1.1) ∧ w'.cell? ⟨g, off + (n - 1) * 5 + 1, none⟩ = some (.int .i64 y.1.2) ∧ w'.cell? ⟨nb + 1, 0, none⟩ = some (.int .i64 x0) ∧ w'.cell? ⟨nb + 1, 1, none⟩ = some (.int .i64 3)) W))
                      refine wp_region_noPanic ?_
                      refine wp_region_held_drew (S := (fun w' => Hid (Below w8.heap.size w8 w') ∧ w'.cell? ⟨g, off + (n - 1) * 5, none⟩ = some (.int .i64 y.1.1) ∧ w'.cell? ⟨g, off + (n - 1) * 5 + 1, none⟩ = some (.int .i64 y.1.2) ∧ w'.cell? ⟨nb + 1, 0, none⟩ = some (.int .i64 x0) ∧ w'.cell? ⟨nb + 1, 1, none⟩ = some (.int .i64 3))) (by kernel_rfl) (HH.out _ (below_drew1 (Below.refl w8.heap.size w8))) (fun hHeld => ?_)
                      refine wpAnyH_take (i := 0) (v := ?vc0_76) rfl (by kernel_rfl) (by kernel_rfl) (by kernel_rfl) (fun _ _ _ h => h) (Or.inl ⟨by rfl, ?hyc0_76⟩) (by assumption) ?restc0_76
                      case hyc0_76 => (intro w0 hSw; (try dsimp only at hSw); go_simp; try with_reducible rfl)
                      case' restc0_76 => try simp only [Act.put, List.getElem_toArray, List.getElem_cons_zero, List.getElem_cons_succ, List.setIfInBounds_toArray, List.set_cons_zero, List.set_cons_succ]
                      refine wpAnyH_take (i := 1) (v := ?vc1_77) rfl (by kernel_rfl) (by kernel_rfl) (by kernel_rfl) (fun _ _ _ h => h) (Or.inl ⟨by rfl, ?hyc1_77⟩) (by assumption) ?restc1_77
                      case hyc1_77 => (intro w0 hSw; (try dsimp only at hSw); go_simp; try with_reducible rfl)
                      case' restc1_77 => try simp only [Act.put, List.getElem_toArray, List.getElem_cons_zero, List.getElem_cons_succ, List.setIfInBounds_toArray, List.set_cons_zero, List.set_cons_succ]
                      refine wpAnyH_take (i := 2) (v := ?vc2_78) rfl (by kernel_rfl) (by kernel_rfl) (by kernel_rfl) (fun _ _ _ h => h) (Or.inl ⟨by rfl, ?hyc2_78⟩) (by assumption) ?restc2_78
                      case hyc2_78 => (intro w0 hSw; (try dsimp only at hSw); go_simp; try with_reducible rfl)
                      case' restc2_78 => try simp only [Act.put, List.getElem_toArray, List.getElem_cons_zero, List.getElem_cons_succ, List.setIfInBounds_toArray, List.set_cons_zero, List.set_cons_succ]
                      refine wpAnyH_take (i := 3) (v := ?vc3_79) rfl (by kernel_rfl) (by kernel_rfl) (by kernel_rfl) (fun _ _ _ h => h) (Or.inl ⟨by rfl, ?hyc3_79⟩) (by assumption) ?restc3_79
                      case hyc3_79 => (intro w0 hSw; (try dsimp only at hSw); go_simp; try with_reducible rfl)
                      case' restc3_79 => try simp only [Act.put, List.getElem_toArray, List.getElem_cons_zero, List.getElem_cons_succ, List.setIfInBounds_toArray, List.set_cons_zero, List.set_cons_succ]
                      refine wpAnyH_take (i := 4) (v := ?vc4_80) rfl (by kernel_rfl) (by kernel_rfl) (by kernel_rfl) (fun _ _ _ h => h) (Or.inl ⟨by rfl, ?hyc4_80⟩) (by assumption) ?restc4_80
                      case hyc4_80 => (intro w0 hSw; (try dsimp only at hSw); go_simp; try with_reducible rfl)
                      case' restc4_80 => try simp only [Act.put, List.getElem_toArray, List.getElem_cons_zero, List.getElem_cons_succ, List.setIfInBounds_toArray, List.set_cons_zero, List.set_cons_succ]
                      refine wpAnyH_take (i := 5) (v := ?vc5_81) rfl (by kernel_rfl) (by kernel_rfl) (by kernel_rfl) (fun _ _ _ h => h) (Or.inl ⟨by rfl, ?hyc5_81⟩) (by assumption) ?restc5_81
                      case hyc5_81 => (intro w0 hSw; (try dsimp only at hSw); go_simp; try with_reducible rfl)
                      case' restc5_81 => try simp only [Act.put, List.getElem_toArray, List.getElem_cons_zero, List.getElem_cons_succ, List.setIfInBounds_toArray, List.set_cons_zero, List.set_cons_succ]
                      refine wpAnyH_take (i := 6) (v := ?vc6_82) rfl (by kernel_rfl) (by kernel_rfl) (by kernel_rfl) (fun _ _ _ h => h) (Or.inl ⟨by rfl, ?hyc6_82⟩) (by assumption) ?restc6_82
                      case hyc6_82 => (intro w0 hSw; (try dsimp only at hSw); go_simp; try with_reducible rfl)
                      case' restc6_82 => try simp only [Act.put, List.getElem_toArray, List.getElem_cons_zero, List.getElem_cons_succ, List.setIfInBounds_toArray, List.set_cons_zero, List.set_cons_succ]
                      refine wpAnyH_take (i := 7) (v := ?vc7_83) rfl (by kernel_rfl) (by kernel_rfl) (by kernel_rfl) (fun _ _ _ h => h) (Or.inl ⟨by rfl, ?hyc7_83⟩) (by assumption) ?restc7_83
                      case hyc7_83 => (intro w0 hSw; (try dsimp only at hSw); go_simp; try with_reducible rfl)
                      case' restc7_83 => try simp only [Act.put, List.getElem_toArray, List.getElem_cons_zero, List.getElem_cons_succ, List.setIfInBounds_toArray, List.set_cons_zero, List.set_cons_succ]
                      refine wpAnyH_take (i := 8) (v := ?vc8_84) rfl (by kernel_rfl) (by kernel_rfl) (by kernel_rfl) (fun _ _ _ h => h) (Or.inl ⟨by rfl, ?hyc8_84⟩) (by assumption) ?restc8_84
                      case hyc8_84 => (intro w0 hSw; (try dsimp only at hSw); go_simp; try with_reducible rfl)
                      case' restc8_84 => try simp only [Act.put, List.getElem_toArray, List.getElem_cons_zero, List.getElem_cons_succ, List.setIfInBounds_toArray, List.set_cons_zero, List.set_cons_succ]
                      refine wpAnyH_take (i := 9) (v := ?vc9_85) rfl (by kernel_rfl) (by kernel_rfl) (by kernel_rfl) (fun _ _ _ h => h) (Or.inl ⟨by rfl, ?hyc9_85⟩) (by assumption) ?restc9_85
                      case hyc9_85 => (intro w0 hSw; (try dsimp only at hSw); go_simp; try with_reducible rfl)
                      case' restc9_85 => try simp only [Act.put, List.getElem_toArray, List.getElem_cons_zero, List.getElem_cons_succ, List.setIfInBounds_toArray, List.set_cons_zero, List.set_cons_succ]
                      refine wpAnyH_take (i := 10) (v := ?vc10_86) rfl (by kernel_rfl) (by kernel_rfl) (by kernel_rfl) (fun _ _ _ h => h) (Or.inl ⟨by rfl, ?hyc10_86⟩) (by assumption) ?restc10_86
                      case hyc10_86 => (intro w0 hSw; (try dsimp only at hSw); go_simp; try with_reducible rfl)
                      case' restc10_86 => try simp only [Act.put, List.getElem_toArray, List.getElem_cons_zero, List.getElem_cons_succ, List.setIfInBounds_toArray, List.set_cons_zero, List.set_cons_succ]
                      refine wpAnyH_take (i := 11) (v := ?vc11_87) rfl (by kernel_rfl) (by kernel_rfl) (by kernel_rfl) (fun _ _ _ h => h) (Or.inl ⟨by rfl, ?hyc11_87⟩) (by assumption) ?restc11_87
                      case hyc11_87 => (intro w0 hSw; (try dsimp only at hSw); go_simp; try with_reducible rfl)
                      case' restc11_87 => try simp only [Act.put, List.getElem_toArray, List.getElem_cons_zero, List.getElem_cons_succ, List.setIfInBounds_toArray, List.set_cons_zero, List.set_cons_succ]
                      refine wpAnyH_take (i := 12) (v := ?vc12_88) rfl (by kernel_rfl) (by kernel_rfl) (by kernel_rfl) (fun _ _ _ h => h) (Or.inl ⟨by rfl, ?hyc12_88⟩) (by assumption) ?restc12_88
                      case hyc12_88 => (intro w0 hSw; (try dsimp only at hSw); go_simp; try with_reducible rfl)
                      case' restc12_88 => try simp only [Act.put, List.getElem_toArray, List.getElem_cons_zero, List.getElem_cons_succ, List.setIfInBounds_toArray, List.set_cons_zero, List.set_cons_succ]
                      refine wpAnyH_ready (rs := [13]) (by kernel_rfl) (by simp) ?_
                      refine AllReadyH.cons rfl (fun K hK => ?_) AllReadyH.nil
                      go_simp
                      refine (refLess_any y.1.1 y.1.2 x0 3 _).mono ?_
                      rintro e w5 ⟨rfl, hb4⟩
                      refine hK.out _ _ (HH.out _ (bch (below_drew1 (Below.refl w8.heap.size w8)) hb4 (by simp))) (fun hHeld => ?_)
                      clear hK K
                      try simp only [Act.put, List.getElem_toArray, List.getElem_cons_zero, List.getElem_cons_succ, List.setIfInBounds_toArray, List.set_cons_zero, List.set_cons_succ]
                      refine wpAnyH_take (i := 14) (v := ?vc14_89) rfl (by kernel_rfl) (by kernel_rfl) (by kernel_rfl) (fun _ _ _ h => h) (Or.inl ⟨by rfl, ?hyc14_89⟩) (by assumption) ?restc14_89
                      case hyc14_89 => (intro w0 hSw; (try dsimp only at hSw); go_simp; try with_reducible rfl)
                      case' restc14_89 => try simp only [Act.put, List.getElem_toArray, List.getElem_cons_zero, List.getElem_cons_succ, List.setIfInBounds_toArray, List.set_cons_zero, List.set_cons_succ]
                      refine wpAnyH_take (i := 15) (v := ?vc15_90) rfl (by kernel_rfl) (by kernel_rfl) (by kernel_rfl) (fun _ _ _ h => h) (Or.inl ⟨by rfl, ?hyc15_90⟩) (by assumption) ?restc15_90
                      case hyc15_90 => (intro w0 hSw; (try dsimp only at hSw); go_simp; try with_reducible rfl)
                      case' restc15_90 => try simp only [Act.put, List.getElem_toArray, List.getElem_cons_zero, List.getElem_cons_succ, List.setIfInBounds_toArray, List.set_cons_zero, List.set_cons_succ]
                      refine wpAnyH_done (by kernel_rfl) ?_ _
                      refine NoPanic.normal ?_
                      have hb5 : Below w8.heap.size w8 w5 := bch (below_drew1 (Below.refl w8.heap.size w8)) hb4 (by simp)
                      clear hHeld HH hb4 y0 y1 y2 y3 y4 d0 d1 hw1 hi0 hi1 hi2 hi3 hnz
                      have HX5 := Lib.hid (heap_keep HX8.out hb5); have HY5 := Lib.hid (heap_keep HY8.out hb5); have HB5 := Lib.hid (bch HB8.out hb5 (by have := HB8.out.size; have := HNB.out; omega))
                      clear hb5
                      cases hls : lessB y.1.1 y.1.2 x0 3 with
                      | true =>
                        have HOK := Lib.hid (show Sk.one [a, b, cc, d] l = .inl ((x0, 3), 2, 0, 0) by rw [HL5.out, hls]; rfl)
                        clear hls
                        obtain ⟨m0, m1, m2, m3, m4⟩ := cell5 HX5.out
                        obtain ⟨f0, f1, f2, f3, f4⟩ := froz5a HX5.out
                        obtain ⟨y0, y1, y2, y3, y4⟩ := cell5 HY5.out
                        go_wp2_with fail
                        obtain ⟨w7, hw7⟩ : ∃ w7, w7 = (((((w5.setCell ⟨nb, 0, none⟩ (.int .i64 x0)).setCell ⟨nb, 1, none⟩ (.int .i64 3)).setCell ⟨nb, 2, none⟩ (.int .i64 2)).setCell ⟨nb, 3, none⟩ (.int .i64 0)).setCell ⟨nb, 4, none⟩ (.int .i64 0)) := ⟨_, rfl⟩
                        have hx7 := set5a HX5.out (.int .i64 x0) (.int .i64 3) (.int .i64 2) (.int .i64 0) (.int .i64 0)
                        rw [← hw7] at hx7
                        have hb7 : Below nb w w7 := by rw [hw7]; exact below_set5 HB5.out (Nat.le_refl _) _ _ _ _ _
                        rw [← hw7]
                        clear hw7
                        obtain ⟨z0, z1, z2, z3, z4⟩ := cell5 hx7
                        refine bodyPost_ret (v := .tuple #[.agg #[.int .i64 x0, .int .i64 3, .int .i64 2, .int .i64 0, .int .i64 0], .int .i64 0, .int .i64 0]) (by simp [results, Tryz.results42, go_sem, z0, z1, z2, z3, z4]) rfl ⟨?_, hb7⟩
                        exact refOneR_ok HOK.out rfl
                      | false =>
                        have HBAD := Lib.hid (show Sk.one [a, b, cc, d] l = .inr (1, 6) by rw [HL5.out, hls]; rfl)
                        clear hls
                        obtain ⟨m0, m1, m2, m3, m4⟩ := cell5 HX5.out
                        obtain ⟨f0, f1, f2, f3, f4⟩ := froz5a HX5.out
                        obtain ⟨y0, y1, y2, y3, y4⟩ := cell5 HY5.out
                        go_wp2_with fail
                        obtain ⟨w7, hw7⟩ : ∃ w7, w7 = (((((w5.setCell ⟨nb, 0, none⟩ (.int .i64 x0)).setCell ⟨nb, 1, none⟩ (.int .i64 3)).setCell ⟨nb, 2, none⟩ (.int .i64 2)).setCell ⟨nb, 3, none⟩ (.int .i64 0)).setCell ⟨nb, 4, none⟩ (.int .i64 0)) := ⟨_, rfl⟩
                        have hx7 := set5a HX5.out (.int .i64 x0) (.int .i64 3) (.int .i64 2) (.int .i64 0) (.int .i64 0)
                        rw [← hw7] at hx7
                        have hb7 : Below nb w w7 := by rw [hw7]; exact below_set5 HB5.out (Nat.le_refl _) _ _ _ _ _
                        rw [← hw7]
                        clear hw7
                        obtain ⟨z0, z1, z2, z3, z4⟩ := cell5 hx7
                        refine bodyPost_ret (v := .tuple #[.agg #[.int .i64 x0, .int .i64 3, .int .i64 2, .int .i64 0, .int .i64 0], .int .i64 1, .int .i64 6]) (by simp [results, Tryz.results42, go_sem, z0, z1, z2, z3, z4]) rfl ⟨?_, hb7⟩
                        exact refOneR_bad HBAD.out ((x0, 3), 2, 0, 0) rfl
            · have HBAD := Lib.hid (show Sk.one [a, b, cc, d] l = .inr (3, 3) by rw [HL2.out, hck]; rfl)
              have k1 := text_ne hn1
              have k2 := text_ne hn2
              unfold wDone at k1
              unfold wRef at k2
              clear hn1 hn2 hck
              obtain ⟨m0, m1, m2, m3, m4⟩ := cell5 HX2.out
              obtain ⟨f0, f1, f2, f3, f4⟩ := froz5a HX2.out
              obtain ⟨y0, y1, y2, y3, y4⟩ := cell5 HY2.out
              go_wp2_with fail
              obtain ⟨w7, hw7⟩ : ∃ w7, w7 = (((((w2.setCell ⟨nb, 0, none⟩ (.int .i64 0)).setCell ⟨nb, 1, none⟩ (.int .i64 0)).setCell ⟨nb, 2, none⟩ (.int .i64 0)).setCell ⟨nb, 3, none⟩ (.int .i64 0)).setCell ⟨nb, 4, none⟩ (.int .i64 0)) := ⟨_, rfl⟩
              have hx7 := set5a HX2.out (.int .i64 0) (.int .i64 0) (.int .i64 0) (.int .i64 0) (.int .i64 0)
              rw [← hw7] at hx7
              have hb7 : Below nb w w7 := by rw [hw7]; exact below_set5 HB2.out (Nat.le_refl _) _ _ _ _ _
              rw [← hw7]
              clear hw7
              obtain ⟨z0, z1, z2, z3, z4⟩ := cell5 hx7
              refine bodyPost_ret (v := .tuple #[.agg #[.int .i64 0, .int .i64 0, .int .i64 0, .int .i64 0, .int .i64 0], .int .i64 3, .int .i64 3]) (by simp [results, Tryz.results42, go_sem, z0, z1, z2, z3, z4]) rfl ⟨?_, hb7⟩
              exact refOneR_bad HBAD.out ((0, 0), 0, 0, 0) rfl
        · have hdk : ((deedK b).2 && decide (partyI (deedK b).1 = 1)) = false := by cases h : ((deedK b).2 && decide (partyI (deedK b).1 = 1)); rfl; exact absurd ((deed_two b).1 h) hd
          have HBAD := Lib.hid (show Sk.one [a, b, cc, d] l = .inr (2, 3) by rw [HONE2.out, if_pos hdk])
          have e1 := text_ne (fun h => hd (.inl h))
          have e2 := text_ne (fun h => hd (.inr h))
          rw [show wordL 0 = [114, 101, 115, 101, 114, 118, 101] from rfl] at e1
          rw [show wordL 3 = [114, 101, 108, 101, 97, 115, 101] from rfl] at e2
          clear hd hdk
          obtain ⟨m0, m1, m2, m3, m4⟩ := cell5 HX2.out
          obtain ⟨f0, f1, f2, f3, f4⟩ := froz5a HX2.out
          obtain ⟨y0, y1, y2, y3, y4⟩ := cell5 HY2.out
          go_wp2_with fail
          obtain ⟨w7, hw7⟩ : ∃ w7, w7 = (((((w2.setCell ⟨nb, 0, none⟩ (.int .i64 0)).setCell ⟨nb, 1, none⟩ (.int .i64 0)).setCell ⟨nb, 2, none⟩ (.int .i64 0)).setCell ⟨nb, 3, none⟩ (.int .i64 0)).setCell ⟨nb, 4, none⟩ (.int .i64 0)) := ⟨_, rfl⟩
          have hx7 := set5a HX2.out (.int .i64 0) (.int .i64 0) (.int .i64 0) (.int .i64 0) (.int .i64 0)
          rw [← hw7] at hx7
          have hb7 : Below nb w w7 := by rw [hw7]; exact below_set5 HB2.out (Nat.le_refl _) _ _ _ _ _
          rw [← hw7]
          clear hw7
          obtain ⟨z0, z1, z2, z3, z4⟩ := cell5 hx7
          refine bodyPost_ret (v := .tuple #[.agg #[.int .i64 0, .int .i64 0, .int .i64 0, .int .i64 0, .int .i64 0], .int .i64 2, .int .i64 3]) (by simp [results, Tryz.results42, go_sem, z0, z1, z2, z3, z4]) rfl ⟨?_, hb7⟩
          exact refOneR_bad HBAD.out ((0, 0), 0, 0, 0) rfl
  · obtain ⟨m, hm⟩ : ∃ m : Int, m = ((min r.length 4 + 1 : Nat) : Int) := ⟨_, rfl⟩
    have HWD := Lib.hid (fun W => rwide_any A r.length c 4 W (by omega) (by omega) m (by rw [if_pos h4]; exact hm))
    have HBAD := Lib.hid (show Sk.one r l = .inr (min r.length 4 + 1, 1) by unfold Sk.one; rw [if_pos h4])
    have hm0 : 0 < m := by omega
    have HMM := Lib.hid hm
    clear h4 hm hv hnb
    go_enter Tryz.func42, Tryz.ntmps42
    go_upto_region 2 with (fail)
    rw [HNB.out]
    rw [hWA.out]
    go_wp2_with fail
    refine (HWD.out _).mono ?_
    rintro e w1 ⟨rfl, hb⟩; subst hb
    go_upto_region 3 with (fail)
    obtain ⟨y0, y1, y2, y3, y4⟩ := cell5 HY.out
    obtain ⟨m0, m1, m2, m3, m4⟩ := cell5 HX.out
    obtain ⟨f0, f1, f2, f3, f4⟩ := froz5a HX.out
    have HH := Lib.hid (fun W (hb : Below wa.heap.size wa W) => (⟨Lib.hid hb, (hb.cell (World.block_lt_of_cell? wa _ y0)).trans y0, (hb.cell (World.block_lt_of_cell? wa _ y1)).trans y1, (hb.cell (World.block_lt_of_cell? wa _ y2)).trans y2, (hb.cell (World.block_lt_of_cell? wa _ y3)).trans y3, (hb.cell (World.block_lt_of_cell? wa _ y4)).trans y4⟩ : (fun w' => Hid (Below wa.heap.size wa w') ∧ w'.cell? ⟨nb + 1, 0, none⟩ = some (.int .i64 0) ∧ w'.cell? ⟨nb + 1, 1, none⟩ = some (.int .i64 0) ∧ w'.cell? ⟨nb + 1, 2, none⟩ = some (.int .i64 0) ∧ w'.cell? ⟨nb + 1, 3, none⟩ = some (.int .i64 0) ∧ w'.cell? ⟨nb + 1, 4, none⟩ = some (.int .i64 0)) W))
    refine wp_region_noPanic ?_
    refine wp_region_till 3 (fun _ => True) (fun w' => Hid (Below wa.heap.size wa w') ∧ w'.cell? ⟨nb + 1, 0, none⟩ = some (.int .i64 0) ∧ w'.cell? ⟨nb + 1, 1, none⟩ = some (.int .i64 0) ∧ w'.cell? ⟨nb + 1, 2, none⟩ = some (.int .i64 0) ∧ w'.cell? ⟨nb + 1, 3, none⟩ = some (.int .i64 0) ∧ w'.cell? ⟨nb + 1, 4, none⟩ = some (.int .i64 0)) (by kernel_rfl) (HH.out _ ((below_drew1 (Below.refl wa.heap.size wa)))) (fun hHeld => ?_)
    refine wpAnyT_go (i := 0) (v := ?vt0_1) rfl (by kernel_rfl) (by kernel_rfl) (by kernel_rfl) (fun _ _ _ h => h) (by kernel_rfl) (Or.inl ⟨by rfl, ?hyt0_1⟩) (by assumption) ?restt0_1
    case hyt0_1 => (intro w0 hSw; (try dsimp only at hSw); go_simp; try with_reducible rfl)
    case' restt0_1 => try simp only [Act.put, List.getElem_toArray, List.getElem_cons_zero, List.getElem_cons_succ, List.setIfInBounds_toArray, List.set_cons_zero, List.set_cons_succ]
    refine wpAnyT_go (i := 1) (v := ?vt1_2) rfl (by kernel_rfl) (by kernel_rfl) (by kernel_rfl) (fun _ _ _ h => h) (by kernel_rfl) (Or.inl ⟨by rfl, ?hyt1_2⟩) (by assumption) ?restt1_2
    case hyt1_2 => (intro w0 hSw; (try dsimp only at hSw); go_simp; try with_reducible rfl)
    case' restt1_2 => try simp only [Act.put, List.getElem_toArray, List.getElem_cons_zero, List.getElem_cons_succ, List.setIfInBounds_toArray, List.set_cons_zero, List.set_cons_succ]
    refine wpAnyT_ready (rs := [2]) (by kernel_rfl) (by simp) ?_
    refine AllReadyT.cons rfl (by kernel_rfl) (fun K hK => ?_) AllReadyT.nil
    go_simp
    refine (HWD.out _).mono ?_
    rintro e w1 ⟨rfl, hb⟩; subst hb
    refine hK.out _ _ (HH.out _ ((below_drew1 (Below.refl wa.heap.size wa)))) (fun hHeld => ?_)
    clear hK K
    try simp only [Act.put, List.getElem_toArray, List.getElem_cons_zero, List.getElem_cons_succ, List.setIfInBounds_toArray, List.set_cons_zero, List.set_cons_succ]
    refine wpAnyT_ready (rs := [3]) (by kernel_rfl) (by simp) ?_
    refine AllReadyT.last rfl (by kernel_rfl) (fun K hK => ?_) AllReadyT.nil
    go_simp
    refine hK.out _ _ trivial (fun hHeld => ?_)
    clear hK K
    try simp only [Act.put, List.getElem_toArray, List.getElem_cons_zero, List.getElem_cons_succ, List.setIfInBounds_toArray, List.set_cons_zero, List.set_cons_succ]
    refine wpAnyT_ready (rs := [4]) (by kernel_rfl) (by simp) ?_
    refine AllReadyT.last rfl (by kernel_rfl) (fun K hK => ?_) AllReadyT.nil
    go_simp
    refine hK.out _ _ trivial (fun hHeld => ?_)
    clear hK K
    try simp only [Act.put, List.getElem_toArray, List.getElem_cons_zero, List.getElem_cons_succ, List.setIfInBounds_toArray, List.set_cons_zero, List.set_cons_succ]
    refine wpAnyT_ready (rs := [5]) (by kernel_rfl) (by simp) ?_
    refine AllReadyT.last rfl (by kernel_rfl) (fun K hK => ?_) AllReadyT.nil
    go_simp
    refine hK.out _ _ trivial (fun hHeld => ?_)
    clear hK K
    try simp only [Act.put, List.getElem_toArray, List.getElem_cons_zero, List.getElem_cons_succ, List.setIfInBounds_toArray, List.set_cons_zero, List.set_cons_succ]
    refine wpAnyT_done (by kernel_rfl) ?_ _
    refine NoPanic.normal ?_
    go_wp2_with fail
    obtain ⟨w7, hw7⟩ : ∃ w7, w7 = (((((wa.setCell ⟨nb, 0, none⟩ (.int .i64 0)).setCell ⟨nb, 1, none⟩ (.int .i64 0)).setCell ⟨nb, 2, none⟩ (.int .i64 0)).setCell ⟨nb, 3, none⟩ (.int .i64 0)).setCell ⟨nb, 4, none⟩ (.int .i64 0)) := ⟨_, rfl⟩
    have hx7 := set5a HX.out (.int .i64 0) (.int .i64 0) (.int .i64 0) (.int .i64 0) (.int .i64 0)
    rw [← hw7] at hx7
    have hb7 : Below nb w w7 := by rw [hw7]; exact below_set5 HB.out (Nat.le_refl _) _ _ _ _ _
    rw [← hw7]
    clear hw7
    obtain ⟨z0, z1, z2, z3, z4⟩ := cell5 hx7
    refine bodyPost_ret (v := .tuple #[.agg #[.int .i64 0, .int .i64 0, .int .i64 0, .int .i64 0, .int .i64 0], .int .i64 m, .int .i64 1]) (by simp [results, Tryz.results42, go_sem, z0, z1, z2, z3, z4]) rfl ⟨?_, below_drew1 hb7⟩
    exact refOneR_bad HBAD.out ((0, 0), 0, 0, 0) (by rw [HMM.out]; rfl)

end Go.Proofs.YtgpjbigelblanaaGreatDoor
/- The reference's reading of the warehouse's files: what it computes. -/
namespace Go.Proofs.YtgpjbigelblanaaGreatDoor
open Go.RowKit Go.Maps Key Mon Sk Rw
namespace Sk
theorem first_two {r : Line} {q : Int} (h : first r = .inl q) : ∃ f0 f1, r = [f0, f1] ∧ numI f1 1073741824 = q := by
  unfold first at h
  by_cases h1 : r.head? ≠ some wHead
  · rw [if_pos h1] at h; cases h
  rw [if_neg h1] at h
  by_cases h2 : r.length ≠ 2
  · rw [if_pos h2] at h; cases h
  rw [if_neg h2] at h
  match r, (Classical.not_not.1 h2) with
  | [f0, f1], _ =>
    refine ⟨f0, f1, rfl, ?_⟩
    cases hb : numB f1 1 1073741824 with
    | false => simp [hb] at h
    | true => rw [(numI_ok (.inr rfl) hb).1]; simpa [hb] using h
def OneOut (r : Line) (l : List R5) (y : R5) (ci ki : Int) : Prop := match one r l with | .inl x => y = x ∧ ci = 0 ∧ ki = 0 | .inr p => ci = (p.1 : Int) ∧ ki = (p.2 : Int)
end Sk
theorem refOneR_out {r : Line} {l : List R5} {e : Ending} (h : RefOneR r l e) : ∃ (y : R5) (ci ki : Int), e = .returned (.tuple #[.agg #[.int .i64 y.1.1, .int .i64 y.1.2, .int .i64 y.2.1, .int .i64 y.2.2.1, .int .i64 y.2.2.2], .int .i64 ci, .int .i64 ki]) ∧ OneOut r l y ci ki := by
  unfold RefOneR at h
  unfold OneOut
  cases ho : Sk.one r l with
  | inl x => rw [ho] at h; exact ⟨x, 0, 0, h, rfl, rfl, rfl⟩
  | inr p => rw [ho] at h; obtain ⟨y, h⟩ := h; exact ⟨y, _, _, h, rfl, rfl⟩

set_option linter.unusedSimpArgs false in
set_option linter.unusedVariables false in
set_option maxRecDepth 100000 in
set_option maxHeartbeats 4000000 in
theorem srefParse_ok (s : ByteArray) (w : World) (L : List Line) (hp : Csv.parse s.data.toList = (L, 0, 0, 0)) (hcall : ∀ W, Calls Tryz.prog 17 #[.string s] W fun e w' => Told (Csv.parse s.data.toList) e w' ∧ Below W.heap.size W w') :
    Calls Tryz.prog 16 #[.string s] w fun e w' => ParsedS (ofTable L) e w' ∧ Below w.heap.size w w' := by
  obtain ⟨i0, hi, hz0, hz1, hz2⟩ := info_parts row_info
  obtain ⟨R, hR⟩ : ∃ R, run L 0 ⟨0, [], false⟩ = R := ⟨_, rfl⟩
  have hOF : ofTable L = ofRun L.length R := by unfold ofTable; rw [hR]
  rw [hOF]
  have hSm : Small L := by have := csv_small s.data.toList; rw [hp] at this; exact this
  have HSM := Lib.hid hSm
  have HCALL := Lib.hid (fun W => (hcall W).mono fun e w' h => (show (∃ v, e = .returned (.tuple #[v, .agg #[.int .i64 0, .int .i64 0, .int .i64 0]]) ∧ Rowz w' w'.heap.size v L) ∧ Below W.heap.size W w' from ⟨by
    obtain ⟨⟨v, he, hv⟩, _⟩ := h
    rw [hp] at he hv
    exact ⟨v, he, hv⟩, h.2⟩))
  have hLl := hSm.rows
  have HRUN := Lib.hid (show run (L.drop 0) 0 ⟨0, [], false⟩ = R from hR)
  obtain ⟨wa, hwa⟩ : ∃ wa, (w.alloc (.cells #[.int .i64 0, .int .i64 0, .slice none 0 0] tStat)).alloc (.cells #[.int .i64 0, .int .i64 0, .int .i64 0] tRej) = wa := ⟨_, rfl⟩
  have hWA := Lib.hid hwa
  clear hR hOF hSm hcall hp hwa
  go_enter Tryz.func16, Tryz.ntmps16
  go_upto_region 1 with (fail)
  rw [hWA.out]
  go_wp2_with fail
  refine (HCALL.out _).mono ?_
  rintro e w1 ⟨⟨v, rfl, hv⟩, hb1⟩
  obtain ⟨Av, cv, rfl⟩ := hv.shape
  have HV := Lib.hid hv
  clear hv
  go_upto_region 5 with (fail)
  obtain ⟨W, hW⟩ : ∃ W, W = (w1.alloc (.cells #[.int .i64 0, .int .i64 0, .int .i64 0] tRej)).alloc (.cells #[.int .i64 1, .int .i64 0, .slice none 0 0] tStat) := ⟨_, rfl⟩
  rw [← hW]
  obtain ⟨hB, g0, g1, g5, g6, hlt, hB1⟩ := four_blocks w w1 _ _ _ _ (by rw [hWA.out]; exact hb1) hW.symm
  have hsz : W.heap.size = w1.heap.size + 2 := by rw [hW]; simp
  have HB01 := Lib.hid (show Below w.heap.size w w1 from bch (by rw [← hWA.out]; exact (two_blocks w _ _ rfl).1) hb1 (by rw [← hWA.out]; simp; omega))
  generalize hnb : w.heap.size = nb at g0 g1 hlt HB01 ⊢
  generalize hb5 : w1.heap.size = b5 at g5 g6 hlt hB1 hsz HV ⊢
  have HNB := Lib.hid hnb; have HB5 := Lib.hid hb5
  have HI0 := Lib.hid (show PInv nb b5 w1 W (.slice none 0 0) 1 0 [] from ⟨g0, g1, g6, World.ownsRow_nil _ _ _ _, hB1, hlt⟩)
  clear hW hB g0 g1 g5 g6 hB1 hnb hb5 hb1 hsz
  go_wp2_with fail
  go_loopw [7, 8] (fun ended i wr => ∃ (k : Nat) (q : Int) (l : List R5) (en : Bool) (vr : Value), i = .int .i64 k ∧ ended = .bool en ∧ k ≤ L.length ∧ l.length ≤ k ∧ Hid (PInv nb b5 w1 wr vr 1 q l) ∧ Hid (run (L.drop k) k ⟨q, l, en⟩ = R)) (fun _ i _ => L.length - (intOf i).toNat)
  case atStart => exact ⟨0, 0, [], false, _, rfl, rfl, by omega, by simp, HI0.out, HRUN.out⟩
  case round =>
    obtain ⟨k, q, l, en, vr, rfl, rfl, hk, hlk, HI, HR⟩ := hrel
    by_cases hkl : k < L.length
    · obtain ⟨r, hr⟩ : ∃ r, L[k]? = some r := ⟨_, List.getElem?_eq_getElem hkl⟩
      obtain ⟨gt, ot, u, e, hgt, hcell, hu⟩ := HV.out.at HI.out.tab hr
      subst e
      have hrm := List.mem_of_getElem? hr
      have hrl := HSM.out.fields r hrm
      have hrf := HSM.out.full r hrm
      have HU := Lib.hid (show Strs wr wr.heap.size u r from hu.below HI.out.tab (by have := heap_lt HI.out.s6; omega))
      have hstep := run_get hr ⟨q, l, en⟩
      rw [HR.out] at hstep
      have HST := Lib.hid hstep
      have hkI : (k : Int) < L.length := by omega
      have hk1 : (k : Int) + 1 ≤ 65537 := by omega
      have hk0' : (0 : Int) ≤ k := by omega
      have hszr : b5 + 1 < wr.heap.size := HI.out.size
      have hgtl : gt < wr.heap.size := by omega
      clear hr hu hrm hstep HR hgt
      cases en with
      | true =>
        have HBADR := Lib.hid (show R = .inr (k + 1, 1, 7) by rw [HST.out]; rfl)
        obtain ⟨m0, m1, m2, f0, f1, f2⟩ := cell3 HI.out.r0
        obtain ⟨p0, p1, p2, e0, e1, e2⟩ := cell3 HI.out.r1
        have hlt5 := HI.out.lt
        go_wp2_with fail
        obtain ⟨w6, hw6⟩ : ∃ w6, w6 = ((wr.setCell ⟨nb, 0, none⟩ (.int .i64 0)).setCell ⟨nb, 1, none⟩ (.int .i64 0)).setCell ⟨nb, 2, none⟩ (.slice none 0 0) := ⟨_, rfl⟩
        have hr6 : w6.heap[nb]? = some (.cells #[.int .i64 0, .int .i64 0, .slice none 0 0] tStat (0, 0)) := by rw [hw6]; exact set3 HI.out.r0 _ _ _
        have hs6 : w6.heap[nb + 1]? = some (.cells #[.int .i64 0, .int .i64 0, .int .i64 0] tRej (0, 0)) := by rw [hw6]; exact set_other (set_other (set_other HI.out.r1 (by omega) _) (by omega) _) (by omega) _
        have hb6 : Below nb w w6 := by rw [hw6]; exact below_set3 (HB01.out.trans (HI.out.tab.mono (by omega))) (Nat.le_refl _) _ _ _
        rw [← hw6]
        clear hw6
        obtain ⟨w7, hw7⟩ : ∃ w7, w7 = ((w6.setCell ⟨nb + 1, 0, none⟩ (.int .i64 ((k : Int) + 1))).setCell ⟨nb + 1, 1, none⟩ (.int .i64 1)).setCell ⟨nb + 1, 2, none⟩ (.int .i64 7) := ⟨_, rfl⟩
        have hs7 := set3 hs6 (.int .i64 ((k : Int) + 1)) (.int .i64 1) (.int .i64 7)
        rw [← hw7] at hs7
        have hr7 : w7.heap[nb]? = some (.cells #[.int .i64 0, .int .i64 0, .slice none 0 0] tStat (0, 0)) := by rw [hw7]; exact set_other (set_other (set_other hr6 (by omega) _) (by omega) _) (by omega) _
        have hb7 : Below nb w w7 := by rw [hw7]; exact below_set3 hb6 (by omega) _ _ _
        rw [← hw7]
        clear hw7 m0 m1 m2 f0 f1 f2 p0 p1 p2 e0 e1 e2
        obtain ⟨m0, m1, m2, _⟩ := cell3 hr7
        obtain ⟨n0, n1, n2, _⟩ := cell3 hs7
        refine bodyPost_ret (v := .tuple #[.agg #[.int .i64 0, .int .i64 0, .slice none 0 0], .agg #[.int .i64 ((k : Int) + 1), .int .i64 1, .int .i64 7]]) (by simp [results, Tryz.results16, go_sem, m0, m1, m2, n0, n1, n2]) rfl ⟨?_, HNB.out ▸ hb7⟩
        exact parsed_bad (R := ofRun L.length R) (a := k + 1) (b := 1) (c := 7) (by rw [HBADR.out]; rfl) (by omega) (by omega) (by omega)
      | false =>
        obtain ⟨Au, cu, hu0⟩ := HU.out.shape
        subst hu0
        obtain ⟨f0', hf0⟩ : ∃ f0, r[0]? = some f0 := ⟨_, List.getElem?_eq_getElem (List.length_pos_iff.2 hrf)⟩
        obtain ⟨gu, ou, e, _, c0⟩ := HU.out.at (Below.refl _ _) hf0
        subst e
        rw [Nat.add_zero] at c0
        by_cases hk0 : k = 0
        · clear hf0 c0
          have HK0 := Lib.hid hk0
          have hkq := beqT (show (k : Int) = 0 by omega)
          clear hk0
          have HF := Lib.hid (rhead_any (.slice (some ⟨gu, ou, none⟩) r.length cu) r wr HU.out hrf (by omega))
          unfold HeadR at HF
          cases hf : Sk.first r with
          | inl q' =>
            simp only [hf] at HF
            have HNEXT := Lib.hid (show run (L.drop (k + 1)) (k + 1) ⟨q', l, false⟩ = R by rw [HST.out, step0_ok HK0.out hf])
            obtain ⟨fa, fb, rfl, hnum⟩ := first_two hf
            clear hf
            have HN1 := Lib.hid (fun W => rnumber_any ⟨fb.toArray⟩ 1073741824 W)
            simp only [show ∀ f : List UInt8, (⟨f.toArray⟩ : ByteArray).data.toList = f from fun f => by simp] at HN1
            rw [hnum] at HN1
            clear hnum
            simp only [List.length_cons, List.length_nil, Nat.zero_add, Nat.reduceAdd] at HF hcell hrl ⊢
            go_upto_region 14 with (go_at_call 39; refine HF.out.mono ?_; rintro e w3 ⟨rfl, hb3⟩)
            have HI3 := Lib.hid (HI.out.below hb3)
            obtain ⟨m0, m1, m2, f0, f1, f2⟩ := cell3 HI3.out.s6
            have hcell3 := (hb3.cell (p := ⟨gt, ot + k, none⟩) hgtl).trans hcell
            clear hcell
            obtain ⟨gq, oq, eq_, _, hfb⟩ := HU.out.at hb3 (k := 1) (f := fb) rfl
            obtain ⟨rfl, rfl⟩ : gu = gq ∧ ou = oq := by injection eq_ with h; injection h with h1 h2; exact ⟨h1, h2⟩
            clear eq_ hb3
            go_upto_region 22 with (go_at_call 40; refine (HN1.out _).mono ?_; rintro e w4 ⟨rfl, hb4⟩; have HI4 := Lib.hid (HI3.out.below hb4); clear m0 m1 m2 f0 f1 f2 hcell3 hfb hb4; obtain ⟨m0, m1, m2, f0, f1, f2⟩ := cell3 HI4.out.s6)
            obtain ⟨w9, hw9⟩ : ∃ w9, w9 = w4.setCell ⟨b5 + 1, 1, none⟩ (.int .i64 q') := ⟨_, rfl⟩
            rw [← hw9]
            have HI9 := Lib.hid (HI4.out.setSeq q')
            rw [← hw9] at HI9
            clear hw9 m0 m1 m2 f0 f1 f2
            go_wp2_with fail
            go_roundw
            case rel => exact ⟨k + 1, q', l, false, _, by go_num, rfl, by omega, by omega, HI9.out, HNEXT.out⟩
            case measure => simp [intOf]; omega
          | inr x =>
            simp only [hf] at HF
            have HBADR := Lib.hid (show R = .inr (k + 1, x.1, x.2) by rw [HST.out, step0_bad HK0.out hf])
            obtain ⟨ci, hci⟩ : ∃ ci : Int, (x.1 : Int) = ci := ⟨_, rfl⟩
            obtain ⟨ki, hki⟩ : ∃ ki : Int, (x.2 : Int) = ki := ⟨_, rfl⟩
            have hc1 := (first_bad hf).1
            have hc0 : 0 < ci := by omega
            have hcz := beqF (show ¬ ci = 0 by omega)
            clear hf hc1
            rw [hci, hki] at HF
            have HCI := Lib.hid hci; have HKI := Lib.hid hki
            clear hci hki
            go_upto_region 14 with (go_at_call 39; refine HF.out.mono ?_; rintro e w3 ⟨rfl, hb3⟩)
            have HI3 := Lib.hid (HI.out.below hb3)
            clear hb3 hcell
            obtain ⟨m0, m1, m2, f0, f1, f2⟩ := cell3 HI3.out.r0
            obtain ⟨p0, p1, p2, e0, e1, e2⟩ := cell3 HI3.out.r1
            have hlt5 := HI3.out.lt
            go_wp2_with fail
            obtain ⟨w6, hw6⟩ : ∃ w6, w6 = ((w3.setCell ⟨nb, 0, none⟩ (.int .i64 0)).setCell ⟨nb, 1, none⟩ (.int .i64 0)).setCell ⟨nb, 2, none⟩ (.slice none 0 0) := ⟨_, rfl⟩
            have hr6 : w6.heap[nb]? = some (.cells #[.int .i64 0, .int .i64 0, .slice none 0 0] tStat (0, 0)) := by rw [hw6]; exact set3 HI3.out.r0 _ _ _
            have hs6 : w6.heap[nb + 1]? = some (.cells #[.int .i64 0, .int .i64 0, .int .i64 0] tRej (0, 0)) := by rw [hw6]; exact set_other (set_other (set_other HI3.out.r1 (by omega) _) (by omega) _) (by omega) _
            have hb6 : Below nb w w6 := by rw [hw6]; exact below_set3 (HB01.out.trans (HI3.out.tab.mono (by omega))) (Nat.le_refl _) _ _ _
            rw [← hw6]
            clear hw6
            obtain ⟨w7, hw7⟩ : ∃ w7, w7 = ((w6.setCell ⟨nb + 1, 0, none⟩ (.int .i64 ((k : Int) + 1))).setCell ⟨nb + 1, 1, none⟩ (.int .i64 ci)).setCell ⟨nb + 1, 2, none⟩ (.int .i64 ki) := ⟨_, rfl⟩
            have hs7 := set3 hs6 (.int .i64 ((k : Int) + 1)) (.int .i64 ci) (.int .i64 ki)
            rw [← hw7] at hs7
            have hr7 : w7.heap[nb]? = some (.cells #[.int .i64 0, .int .i64 0, .slice none 0 0] tStat (0, 0)) := by rw [hw7]; exact set_other (set_other (set_other hr6 (by omega) _) (by omega) _) (by omega) _
            have hb7 : Below nb w w7 := by rw [hw7]; exact below_set3 hb6 (by omega) _ _ _
            rw [← hw7]
            clear hw7 m0 m1 m2 f0 f1 f2 p0 p1 p2 e0 e1 e2
            obtain ⟨m0, m1, m2, _⟩ := cell3 hr7
            obtain ⟨n0, n1, n2, _⟩ := cell3 hs7
            refine bodyPost_ret (v := .tuple #[.agg #[.int .i64 0, .int .i64 0, .slice none 0 0], .agg #[.int .i64 ((k : Int) + 1), .int .i64 ci, .int .i64 ki]]) (by simp [results, Tryz.results16, go_sem, m0, m1, m2, n0, n1, n2]) rfl ⟨?_, HNB.out ▸ hb7⟩
            exact parsed_bad (R := ofRun L.length R) (a := k + 1) (b := x.1) (c := x.2) (by rw [HBADR.out]; rfl) (by omega) HCI.out.symm HKI.out.symm
        · have HK0 := Lib.hid hk0
          have hkq := beqF (show ¬ (k : Int) = 0 by omega)
          clear hk0
          obtain ⟨Ar, cr, rfl, _⟩ := own_slice HI.out.own
          have hlenI : (0 : Int) < r.length := by have := List.length_pos_iff.2 hrf; omega
          have hhead : r.head? = some f0' := by rw [List.head?_eq_getElem?]; exact hf0
          by_cases hh : f0' = wEnd
          · have HEND := Lib.hid (show r.head? = some wEnd by rw [hhead, hh])
            have hq := text_eq hh
            unfold wEnd at hq
            clear hh hhead hf0
            have HT := Lib.hid (fun W (hb : Below wr.heap.size wr W) => rtail_any (.slice (some ⟨gu, ou, none⟩) r.length cu) r l.length W (HU.out.below hb hb.size) (by omega) (by omega))
            unfold TailR at HT
            obtain ⟨s0, s1, s2, _⟩ := cell3 HI.out.s6
            go_upto_region 17 with (fail)
            cases hf : Sk.last r l.length with
            | none =>
              simp only [hf] at HT
              have HNEXT := Lib.hid (show run (L.drop (k + 1)) (k + 1) ⟨q, l, true⟩ = R by rw [HST.out, stepE_ok HK0.out HEND.out hf])
              clear hf
              have HH := Lib.hid (fun W (hb : Below wr.heap.size wr W) => (⟨Lib.hid hb, (hb.cell (World.block_lt_of_cell? wr _ hcell)).trans hcell, (hb.cell (World.block_lt_of_cell? wr _ s2)).trans s2⟩ : (fun w' => Hid (Below wr.heap.size wr w') ∧ w'.cell? ⟨gt, ot + k, none⟩ = some (.slice (some ⟨gu, ou, none⟩) r.length cu) ∧ w'.cell? ⟨b5 + 1, 2, none⟩ = some (.slice Ar l.length cr)) W))
              refine wp_region_noPanic ?_
              refine wp_region_held_drew (S := (fun w' => Hid (Below wr.heap.size wr w') ∧ w'.cell? ⟨gt, ot + k, none⟩ = some (.slice (some ⟨gu, ou, none⟩) r.length cu) ∧ w'.cell? ⟨b5 + 1, 2, none⟩ = some (.slice Ar l.length cr))) (by kernel_rfl) (HH.out _ (below_drew1 (Below.refl wr.heap.size wr))) (fun hHeld => ?_)
              refine wpAnyH_take (i := 0) (v := ?vc0_1) rfl (by kernel_rfl) (by kernel_rfl) (by kernel_rfl) (fun _ _ _ h => h) (Or.inl ⟨by rfl, ?hyc0_1⟩) (by assumption) ?restc0_1
              case hyc0_1 => (intro w0 hSw; (try dsimp only at hSw); go_simp; try with_reducible rfl)
              case' restc0_1 => try simp only [Act.put, List.getElem_toArray, List.getElem_cons_zero, List.getElem_cons_succ, List.setIfInBounds_toArray, List.set_cons_zero, List.set_cons_succ]
              refine wpAnyH_take (i := 1) (v := ?vc1_2) rfl (by kernel_rfl) (by kernel_rfl) (by kernel_rfl) (fun _ _ _ h => h) (Or.inl ⟨by rfl, ?hyc1_2⟩) (by assumption) ?restc1_2
              case hyc1_2 => (intro w0 hSw; (try dsimp only at hSw); go_simp; try with_reducible rfl)
              case' restc1_2 => try simp only [Act.put, List.getElem_toArray, List.getElem_cons_zero, List.getElem_cons_succ, List.setIfInBounds_toArray, List.set_cons_zero, List.set_cons_succ]
              refine wpAnyH_take (i := 2) (v := ?vc2_3) rfl (by kernel_rfl) (by kernel_rfl) (by kernel_rfl) (fun _ _ _ h => h) (Or.inl ⟨by rfl, ?hyc2_3⟩) (by assumption) ?restc2_3
              case hyc2_3 => (intro w0 hSw; (try dsimp only at hSw); go_simp; try with_reducible rfl)
              case' restc2_3 => try simp only [Act.put, List.getElem_toArray, List.getElem_cons_zero, List.getElem_cons_succ, List.setIfInBounds_toArray, List.set_cons_zero, List.set_cons_succ]
              refine wpAnyH_take (i := 3) (v := ?vc3_4) rfl (by kernel_rfl) (by kernel_rfl) (by kernel_rfl) (fun _ _ _ h => h) (Or.inl ⟨by rfl, ?hyc3_4⟩) (by assumption) ?restc3_4
              case hyc3_4 => (intro w0 hSw; (try dsimp only at hSw); go_simp; try with_reducible rfl)
              case' restc3_4 => try simp only [Act.put, List.getElem_toArray, List.getElem_cons_zero, List.getElem_cons_succ, List.setIfInBounds_toArray, List.set_cons_zero, List.set_cons_succ]
              refine wpAnyH_take (i := 4) (v := ?vc4_5) rfl (by kernel_rfl) (by kernel_rfl) (by kernel_rfl) (fun _ _ _ h => h) (Or.inl ⟨by rfl, ?hyc4_5⟩) (by assumption) ?restc4_5
              case hyc4_5 => (intro w0 hSw; (try dsimp only at hSw); go_simp; try with_reducible rfl)
              case' restc4_5 => try simp only [Act.put, List.getElem_toArray, List.getElem_cons_zero, List.getElem_cons_succ, List.setIfInBounds_toArray, List.set_cons_zero, List.set_cons_succ]
              refine wpAnyH_take (i := 5) (v := ?vc5_6) rfl (by kernel_rfl) (by kernel_rfl) (by kernel_rfl) (fun _ _ _ h => h) (Or.inl ⟨by rfl, ?hyc5_6⟩) (by assumption) ?restc5_6
              case hyc5_6 => (intro w0 hSw; (try dsimp only at hSw); go_simp; try with_reducible rfl)
              case' restc5_6 => try simp only [Act.put, List.getElem_toArray, List.getElem_cons_zero, List.getElem_cons_succ, List.setIfInBounds_toArray, List.set_cons_zero, List.set_cons_succ]
              refine wpAnyH_take (i := 6) (v := ?vc6_7) rfl (by kernel_rfl) (by kernel_rfl) (by kernel_rfl) (fun _ _ _ h => h) (Or.inl ⟨by rfl, ?hyc6_7⟩) (by assumption) ?restc6_7
              case hyc6_7 => (intro w0 hSw; (try dsimp only at hSw); go_simp; try with_reducible rfl)
              case' restc6_7 => try simp only [Act.put, List.getElem_toArray, List.getElem_cons_zero, List.getElem_cons_succ, List.setIfInBounds_toArray, List.set_cons_zero, List.set_cons_succ]
              refine wpAnyH_ready (rs := [7]) (by kernel_rfl) (by simp) ?_
              refine AllReadyH.cons rfl (fun K hK => ?_) AllReadyH.nil
              go_simp
              refine (HT.out _ (below_drew1 (Below.refl wr.heap.size wr))).mono ?_
              rintro e w5 ⟨rfl, hb4⟩
              refine hK.out _ _ (HH.out _ (bch (below_drew1 (Below.refl wr.heap.size wr)) hb4 (by simp))) (fun hHeld => ?_)
              clear hK K
              try simp only [Act.put, List.getElem_toArray, List.getElem_cons_zero, List.getElem_cons_succ, List.setIfInBounds_toArray, List.set_cons_zero, List.set_cons_succ]
              refine wpAnyH_take (i := 8) (v := ?vc8_8) rfl (by kernel_rfl) (by kernel_rfl) (by kernel_rfl) (fun _ _ _ h => h) (Or.inl ⟨by rfl, ?hyc8_8⟩) (by assumption) ?restc8_8
              case hyc8_8 => (intro w0 hSw; (try dsimp only at hSw); go_simp; try with_reducible rfl)
              case' restc8_8 => try simp only [Act.put, List.getElem_toArray, List.getElem_cons_zero, List.getElem_cons_succ, List.setIfInBounds_toArray, List.set_cons_zero, List.set_cons_succ]
              refine wpAnyH_take (i := 9) (v := ?vc9_9) rfl (by kernel_rfl) (by kernel_rfl) (by kernel_rfl) (fun _ _ _ h => h) (Or.inl ⟨by rfl, ?hyc9_9⟩) (by assumption) ?restc9_9
              case hyc9_9 => (intro w0 hSw; (try dsimp only at hSw); go_simp; try with_reducible rfl)
              case' restc9_9 => try simp only [Act.put, List.getElem_toArray, List.getElem_cons_zero, List.getElem_cons_succ, List.setIfInBounds_toArray, List.set_cons_zero, List.set_cons_succ]
              refine wpAnyH_take (i := 10) (v := ?vc10_10) rfl (by kernel_rfl) (by kernel_rfl) (by kernel_rfl) (fun _ _ _ h => h) (Or.inl ⟨by rfl, ?hyc10_10⟩) (by assumption) ?restc10_10
              case hyc10_10 => (intro w0 hSw; (try dsimp only at hSw); go_simp; try with_reducible rfl)
              case' restc10_10 => try simp only [Act.put, List.getElem_toArray, List.getElem_cons_zero, List.getElem_cons_succ, List.setIfInBounds_toArray, List.set_cons_zero, List.set_cons_succ]
              refine wpAnyH_take (i := 11) (v := ?vc11_11) rfl (by kernel_rfl) (by kernel_rfl) (by kernel_rfl) (fun _ _ _ h => h) (Or.inl ⟨by rfl, ?hyc11_11⟩) (by assumption) ?restc11_11
              case hyc11_11 => (intro w0 hSw; (try dsimp only at hSw); go_simp; try with_reducible rfl)
              case' restc11_11 => try simp only [Act.put, List.getElem_toArray, List.getElem_cons_zero, List.getElem_cons_succ, List.setIfInBounds_toArray, List.set_cons_zero, List.set_cons_succ]
              refine wpAnyH_take (i := 12) (v := ?vc12_12) rfl (by kernel_rfl) (by kernel_rfl) (by kernel_rfl) (fun _ _ _ h => h) (Or.inl ⟨by rfl, ?hyc12_12⟩) (by assumption) ?restc12_12
              case hyc12_12 => (intro w0 hSw; (try dsimp only at hSw); go_simp; try with_reducible rfl)
              case' restc12_12 => try simp only [Act.put, List.getElem_toArray, List.getElem_cons_zero, List.getElem_cons_succ, List.setIfInBounds_toArray, List.set_cons_zero, List.set_cons_succ]
              refine wpAnyH_done (by kernel_rfl) ?_ _
              refine NoPanic.normal ?_
              have hb5' : Below wr.heap.size wr w5 := bch (below_drew1 (Below.refl wr.heap.size wr)) hb4 (by simp)
              have HI5 := Lib.hid (HI.out.below hb5')
              clear hHeld HH hb4 hb5' s0 s1 s2 hcell
              go_wp2_with fail
              go_roundw
              case rel => exact ⟨k + 1, q, l, true, _, by go_num, rfl, by omega, by omega, HI5.out, HNEXT.out⟩
              case measure => simp [intOf]; omega
            | some x =>
              simp only [hf] at HT
              have HBADR := Lib.hid (show R = .inr (k + 1, x.1, x.2) by rw [HST.out, stepE_bad HK0.out HEND.out hf])
              obtain ⟨ci, hci⟩ : ∃ ci : Int, (x.1 : Int) = ci := ⟨_, rfl⟩
              obtain ⟨ki, hki⟩ : ∃ ki : Int, (x.2 : Int) = ki := ⟨_, rfl⟩
              have hc1 := (last_bad hf).1
              have hc0 : 0 < ci := by omega
              have hcz := beqF (show ¬ ci = 0 by omega)
              clear hf hc1
              rw [hci, hki] at HT
              have HCI := Lib.hid hci; have HKI := Lib.hid hki
              clear hci hki
              have HH := Lib.hid (fun W (hb : Below wr.heap.size wr W) => (⟨Lib.hid hb, (hb.cell (World.block_lt_of_cell? wr _ hcell)).trans hcell, (hb.cell (World.block_lt_of_cell? wr _ s2)).trans s2⟩ : (fun w' => Hid (Below wr.heap.size wr w') ∧ w'.cell? ⟨gt, ot + k, none⟩ = some (.slice (some ⟨gu, ou, none⟩) r.length cu) ∧ w'.cell? ⟨b5 + 1, 2, none⟩ = some (.slice Ar l.length cr)) W))
              refine wp_region_noPanic ?_
              refine wp_region_held_drew (S := (fun w' => Hid (Below wr.heap.size wr w') ∧ w'.cell? ⟨gt, ot + k, none⟩ = some (.slice (some ⟨gu, ou, none⟩) r.length cu) ∧ w'.cell? ⟨b5 + 1, 2, none⟩ = some (.slice Ar l.length cr))) (by kernel_rfl) (HH.out _ (below_drew1 (Below.refl wr.heap.size wr))) (fun hHeld => ?_)
              refine wpAnyH_take (i := 0) (v := ?vc0_13) rfl (by kernel_rfl) (by kernel_rfl) (by kernel_rfl) (fun _ _ _ h => h) (Or.inl ⟨by rfl, ?hyc0_13⟩) (by assumption) ?restc0_13
              case hyc0_13 => (intro w0 hSw; (try dsimp only at hSw); go_simp; try with_reducible rfl)
              case' restc0_13 => try simp only [Act.put, List.getElem_toArray, List.getElem_cons_zero, List.getElem_cons_succ, List.setIfInBounds_toArray, List.set_cons_zero, List.set_cons_succ]
              refine wpAnyH_take (i := 1) (v := ?vc1_14) rfl (by kernel_rfl) (by kernel_rfl) (by kernel_rfl) (fun _ _ _ h => h) (Or.inl ⟨by rfl, ?hyc1_14⟩) (by assumption) ?restc1_14
              case hyc1_14 => (intro w0 hSw; (try dsimp only at hSw); go_simp; try with_reducible rfl)
              case' restc1_14 => try simp only [Act.put, List.getElem_toArray, List.getElem_cons_zero, List.getElem_cons_succ, List.setIfInBounds_toArray, List.set_cons_zero, List.set_cons_succ]
              refine wpAnyH_take (i := 2) (v := ?vc2_15) rfl (by kernel_rfl) (by kernel_rfl) (by kernel_rfl) (fun _ _ _ h => h) (Or.inl ⟨by rfl, ?hyc2_15⟩) (by assumption) ?restc2_15
              case hyc2_15 => (intro w0 hSw; (try dsimp only at hSw); go_simp; try with_reducible rfl)
              case' restc2_15 => try simp only [Act.put, List.getElem_toArray, List.getElem_cons_zero, List.getElem_cons_succ, List.setIfInBounds_toArray, List.set_cons_zero, List.set_cons_succ]
              refine wpAnyH_take (i := 3) (v := ?vc3_16) rfl (by kernel_rfl) (by kernel_rfl) (by kernel_rfl) (fun _ _ _ h => h) (Or.inl ⟨by rfl, ?hyc3_16⟩) (by assumption) ?restc3_16
              case hyc3_16 => (intro w0 hSw; (try dsimp only at hSw); go_simp; try with_reducible rfl)
              case' restc3_16 => try simp only [Act.put, List.getElem_toArray, List.getElem_cons_zero, List.getElem_cons_succ, List.setIfInBounds_toArray, List.set_cons_zero, List.set_cons_succ]
              refine wpAnyH_take (i := 4) (v := ?vc4_17) rfl (by kernel_rfl) (by kernel_rfl) (by kernel_rfl) (fun _ _ _ h => h) (Or.inl ⟨by rfl, ?hyc4_17⟩) (by assumption) ?restc4_17
              case hyc4_17 => (intro w0 hSw; (try dsimp only at hSw); go_simp; try with_reducible rfl)
              case' restc4_17 => try simp only [Act.put, List.getElem_toArray, List.getElem_cons_zero, List.getElem_cons_succ, List.setIfInBounds_toArray, List.set_cons_zero, List.set_cons_succ]
              refine wpAnyH_take (i := 5) (v := ?vc5_18) rfl (by kernel_rfl) (by kernel_rfl) (by kernel_rfl) (fun _ _ _ h => h) (Or.inl ⟨by rfl, ?hyc5_18⟩) (by assumption) ?restc5_18
              case hyc5_18 => (intro w0 hSw; (try dsimp only at hSw); go_simp; try with_reducible rfl)
              case' restc5_18 => try simp only [Act.put, List.getElem_toArray, List.getElem_cons_zero, List.getElem_cons_succ, List.setIfInBounds_toArray, List.set_cons_zero, List.set_cons_succ]
              refine wpAnyH_take (i := 6) (v := ?vc6_19) rfl (by kernel_rfl) (by kernel_rfl) (by kernel_rfl) (fun _ _ _ h => h) (Or.inl ⟨by rfl, ?hyc6_19⟩) (by assumption) ?restc6_19
              case hyc6_19 => (intro w0 hSw; (try dsimp only at hSw); go_simp; try with_reducible rfl)
              case' restc6_19 => try simp only [Act.put, List.getElem_toArray, List.getElem_cons_zero, List.getElem_cons_succ, List.setIfInBounds_toArray, List.set_cons_zero, List.set_cons_succ]
              refine wpAnyH_ready (rs := [7]) (by kernel_rfl) (by simp) ?_
              refine AllReadyH.cons rfl (fun K hK => ?_) AllReadyH.nil
              go_simp
              refine (HT.out _ (below_drew1 (Below.refl wr.heap.size wr))).mono ?_
              rintro e w5 ⟨rfl, hb4⟩
              refine hK.out _ _ (HH.out _ (bch (below_drew1 (Below.refl wr.heap.size wr)) hb4 (by simp))) (fun hHeld => ?_)
              clear hK K
              try simp only [Act.put, List.getElem_toArray, List.getElem_cons_zero, List.getElem_cons_succ, List.setIfInBounds_toArray, List.set_cons_zero, List.set_cons_succ]
              refine wpAnyH_take (i := 8) (v := ?vc8_20) rfl (by kernel_rfl) (by kernel_rfl) (by kernel_rfl) (fun _ _ _ h => h) (Or.inl ⟨by rfl, ?hyc8_20⟩) (by assumption) ?restc8_20
              case hyc8_20 => (intro w0 hSw; (try dsimp only at hSw); go_simp; try with_reducible rfl)
              case' restc8_20 => try simp only [Act.put, List.getElem_toArray, List.getElem_cons_zero, List.getElem_cons_succ, List.setIfInBounds_toArray, List.set_cons_zero, List.set_cons_succ]
              refine wpAnyH_take (i := 9) (v := ?vc9_21) rfl (by kernel_rfl) (by kernel_rfl) (by kernel_rfl) (fun _ _ _ h => h) (Or.inl ⟨by rfl, ?hyc9_21⟩) (by assumption) ?restc9_21
              case hyc9_21 => (intro w0 hSw; (try dsimp only at hSw); go_simp; try with_reducible rfl)
              case' restc9_21 => try simp only [Act.put, List.getElem_toArray, List.getElem_cons_zero, List.getElem_cons_succ, List.setIfInBounds_toArray, List.set_cons_zero, List.set_cons_succ]
              refine wpAnyH_take (i := 10) (v := ?vc10_22) rfl (by kernel_rfl) (by kernel_rfl) (by kernel_rfl) (fun _ _ _ h => h) (Or.inl ⟨by rfl, ?hyc10_22⟩) (by assumption) ?restc10_22
              case hyc10_22 => (intro w0 hSw; (try dsimp only at hSw); go_simp; try with_reducible rfl)
              case' restc10_22 => try simp only [Act.put, List.getElem_toArray, List.getElem_cons_zero, List.getElem_cons_succ, List.setIfInBounds_toArray, List.set_cons_zero, List.set_cons_succ]
              refine wpAnyH_take (i := 11) (v := ?vc11_23) rfl (by kernel_rfl) (by kernel_rfl) (by kernel_rfl) (fun _ _ _ h => h) (Or.inl ⟨by rfl, ?hyc11_23⟩) (by assumption) ?restc11_23
              case hyc11_23 => (intro w0 hSw; (try dsimp only at hSw); go_simp; try with_reducible rfl)
              case' restc11_23 => try simp only [Act.put, List.getElem_toArray, List.getElem_cons_zero, List.getElem_cons_succ, List.setIfInBounds_toArray, List.set_cons_zero, List.set_cons_succ]
              refine wpAnyH_take (i := 12) (v := ?vc12_24) rfl (by kernel_rfl) (by kernel_rfl) (by kernel_rfl) (fun _ _ _ h => h) (Or.inl ⟨by rfl, ?hyc12_24⟩) (by assumption) ?restc12_24
              case hyc12_24 => (intro w0 hSw; (try dsimp only at hSw); go_simp; try with_reducible rfl)
              case' restc12_24 => try simp only [Act.put, List.getElem_toArray, List.getElem_cons_zero, List.getElem_cons_succ, List.setIfInBounds_toArray, List.set_cons_zero, List.set_cons_succ]
              refine wpAnyH_done (by kernel_rfl) ?_ _
              refine NoPanic.normal ?_
              have hb5' : Below wr.heap.size wr w5 := bch (below_drew1 (Below.refl wr.heap.size wr)) hb4 (by simp)
              have HI5 := Lib.hid (HI.out.below hb5')
              clear hHeld HH hb4 hb5' s0 s1 s2 hcell
              obtain ⟨m0, m1, m2, f0, f1, f2⟩ := cell3 HI5.out.r0
              obtain ⟨p0, p1, p2, e0, e1, e2⟩ := cell3 HI5.out.r1
              have hlt5 := HI5.out.lt
              go_wp2_with fail
              obtain ⟨w6, hw6⟩ : ∃ w6, w6 = ((w5.setCell ⟨nb, 0, none⟩ (.int .i64 0)).setCell ⟨nb, 1, none⟩ (.int .i64 0)).setCell ⟨nb, 2, none⟩ (.slice none 0 0) := ⟨_, rfl⟩
              have hr6 : w6.heap[nb]? = some (.cells #[.int .i64 0, .int .i64 0, .slice none 0 0] tStat (0, 0)) := by rw [hw6]; exact set3 HI5.out.r0 _ _ _
              have hs6 : w6.heap[nb + 1]? = some (.cells #[.int .i64 0, .int .i64 0, .int .i64 0] tRej (0, 0)) := by rw [hw6]; exact set_other (set_other (set_other HI5.out.r1 (by omega) _) (by omega) _) (by omega) _
              have hb6 : Below nb w w6 := by rw [hw6]; exact below_set3 (HB01.out.trans (HI5.out.tab.mono (by omega))) (Nat.le_refl _) _ _ _
              rw [← hw6]
              clear hw6
              obtain ⟨w7, hw7⟩ : ∃ w7, w7 = ((w6.setCell ⟨nb + 1, 0, none⟩ (.int .i64 ((k : Int) + 1))).setCell ⟨nb + 1, 1, none⟩ (.int .i64 ci)).setCell ⟨nb + 1, 2, none⟩ (.int .i64 ki) := ⟨_, rfl⟩
              have hs7 := set3 hs6 (.int .i64 ((k : Int) + 1)) (.int .i64 ci) (.int .i64 ki)
              rw [← hw7] at hs7
              have hr7 : w7.heap[nb]? = some (.cells #[.int .i64 0, .int .i64 0, .slice none 0 0] tStat (0, 0)) := by rw [hw7]; exact set_other (set_other (set_other hr6 (by omega) _) (by omega) _) (by omega) _
              have hb7 : Below nb w w7 := by rw [hw7]; exact below_set3 hb6 (by omega) _ _ _
              rw [← hw7]
              clear hw7 m0 m1 m2 f0 f1 f2 p0 p1 p2 e0 e1 e2
              obtain ⟨m0, m1, m2, _⟩ := cell3 hr7
              obtain ⟨n0, n1, n2, _⟩ := cell3 hs7
              refine bodyPost_ret (v := .tuple #[.agg #[.int .i64 0, .int .i64 0, .slice none 0 0], .agg #[.int .i64 ((k : Int) + 1), .int .i64 ci, .int .i64 ki]]) (by simp [results, Tryz.results16, go_sem, m0, m1, m2, n0, n1, n2]) rfl ⟨?_, HNB.out ▸ hb7⟩
              exact parsed_bad (R := ofRun L.length R) (a := k + 1) (b := x.1) (c := x.2) (by rw [HBADR.out]; rfl) (by omega) HCI.out.symm HKI.out.symm
          · have HEND := Lib.hid (show ¬ r.head? = some wEnd by rw [hhead]; simpa using hh)
            have hq := text_ne hh
            unfold wEnd at hq
            clear hh hhead hf0
            have HT := Lib.hid (fun W (hb : Below wr.heap.size wr W) => (rmiddle_any (.slice (some ⟨gu, ou, none⟩) r.length cu) (.slice Ar l.length cr) r l W (HU.out.below hb hb.size) (rd_own (HI.out.below hb).own) (by omega)).mono fun e w' h => (⟨refOneR_out h.1, h.2⟩ : _ ∧ Below W.heap.size W w'))
            obtain ⟨s0, s1, s2, _⟩ := cell3 HI.out.s6
            go_upto_region 19 with (fail)
            go_cut [11, 12, 13] from 25 to 96 (fun p pa pb wc => ∃ (bx : Nat) (y : R5) (ci ki : Int), p = .pointer (some ⟨bx, 0, none⟩) ∧ pa = .int .i64 ci ∧ pb = .int .i64 ki ∧ wr.heap.size ≤ bx ∧ wc.heap[bx]? = some (.cells (encR y).toArray tRow (0, 0)) ∧ OneOut r l y ci ki ∧ Below wr.heap.size wr wc)
            case first =>
              have HH := Lib.hid (fun W (hb : Below wr.heap.size wr W) => (⟨Lib.hid hb, (hb.cell (World.block_lt_of_cell? wr _ hcell)).trans hcell, (hb.cell (World.block_lt_of_cell? wr _ s2)).trans s2⟩ : (fun w' => Hid (Below wr.heap.size wr w') ∧ w'.cell? ⟨gt, ot + k, none⟩ = some (.slice (some ⟨gu, ou, none⟩) r.length cu) ∧ w'.cell? ⟨b5 + 1, 2, none⟩ = some (.slice Ar l.length cr)) W))
              refine wp_region_noPanic ?_
              refine wp_region_held_drew (S := (fun w' => Hid (Below wr.heap.size wr w') ∧ w'.cell? ⟨gt, ot + k, none⟩ = some (.slice (some ⟨gu, ou, none⟩) r.length cu) ∧ w'.cell? ⟨b5 + 1, 2, none⟩ = some (.slice Ar l.length cr))) (by kernel_rfl) (HH.out _ (below_drew1 (Below.refl wr.heap.size wr))) (fun hHeld => ?_)
              refine wpAnyH_take (i := 0) (v := ?vc0_37) rfl (by kernel_rfl) (by kernel_rfl) (by kernel_rfl) (fun _ _ _ h => h) (Or.inl ⟨by rfl, ?hyc0_37⟩) (by assumption) ?restc0_37
              case hyc0_37 => (intro w0 hSw; (try dsimp only at hSw); go_simp; try with_reducible rfl)
              case' restc0_37 => try simp only [Act.put, List.getElem_toArray, List.getElem_cons_zero, List.getElem_cons_succ, List.setIfInBounds_toArray, List.set_cons_zero, List.set_cons_succ]
              refine wpAnyH_take (i := 1) (v := ?vc1_38) rfl (by kernel_rfl) (by kernel_rfl) (by kernel_rfl) (fun _ _ _ h => h) (Or.inl ⟨by rfl, ?hyc1_38⟩) (by assumption) ?restc1_38
              case hyc1_38 => (intro w0 hSw; (try dsimp only at hSw); go_simp; try with_reducible rfl)
              case' restc1_38 => try simp only [Act.put, List.getElem_toArray, List.getElem_cons_zero, List.getElem_cons_succ, List.setIfInBounds_toArray, List.set_cons_zero, List.set_cons_succ]
              refine wpAnyH_take (i := 2) (v := ?vc2_39) rfl (by kernel_rfl) (by kernel_rfl) (by kernel_rfl) (fun _ _ _ h => h) (Or.inl ⟨by rfl, ?hyc2_39⟩) (by assumption) ?restc2_39
              case hyc2_39 => (intro w0 hSw; (try dsimp only at hSw); go_simp; try with_reducible rfl)
              case' restc2_39 => try simp only [Act.put, List.getElem_toArray, List.getElem_cons_zero, List.getElem_cons_succ, List.setIfInBounds_toArray, List.set_cons_zero, List.set_cons_succ]
              refine wpAnyH_take (i := 3) (v := ?vc3_40) rfl (by kernel_rfl) (by kernel_rfl) (by kernel_rfl) (fun _ _ _ h => h) (Or.inl ⟨by rfl, ?hyc3_40⟩) (by assumption) ?restc3_40
              case hyc3_40 => (intro w0 hSw; (try dsimp only at hSw); go_simp; try with_reducible rfl)
              case' restc3_40 => try simp only [Act.put, List.getElem_toArray, List.getElem_cons_zero, List.getElem_cons_succ, List.setIfInBounds_toArray, List.set_cons_zero, List.set_cons_succ]
              refine wpAnyH_take (i := 4) (v := ?vc4_41) rfl (by kernel_rfl) (by kernel_rfl) (by kernel_rfl) (fun _ _ _ h => h) (Or.inl ⟨by rfl, ?hyc4_41⟩) (by assumption) ?restc4_41
              case hyc4_41 => (intro w0 hSw; (try dsimp only at hSw); go_simp; try with_reducible rfl)
              case' restc4_41 => try simp only [Act.put, List.getElem_toArray, List.getElem_cons_zero, List.getElem_cons_succ, List.setIfInBounds_toArray, List.set_cons_zero, List.set_cons_succ]
              refine wpAnyH_take (i := 5) (v := ?vc5_42) rfl (by kernel_rfl) (by kernel_rfl) (by kernel_rfl) (fun _ _ _ h => h) (Or.inl ⟨by rfl, ?hyc5_42⟩) (by assumption) ?restc5_42
              case hyc5_42 => (intro w0 hSw; (try dsimp only at hSw); go_simp; try with_reducible rfl)
              case' restc5_42 => try simp only [Act.put, List.getElem_toArray, List.getElem_cons_zero, List.getElem_cons_succ, List.setIfInBounds_toArray, List.set_cons_zero, List.set_cons_succ]
              refine wpAnyH_ready (rs := [6, 11]) (by kernel_rfl) (by simp) ?_
              refine AllReadyH.cons rfl (fun K hK => ?_) (AllReadyH.cons rfl (fun K hK => ?_) AllReadyH.nil)
              · go_simp
                refine (HT.out _ (below_drew1 (Below.refl wr.heap.size wr))).mono ?_
                rintro e w5 ⟨⟨y, ci, ki, rfl, hO⟩, hb⟩
                have HW5 := Lib.hid (bch (below_drew1 (Below.refl wr.heap.size wr)) hb (by simp))
                refine hK.out _ _ (HH.out _ (HW5.out)) (fun hHeld => ?_)
                clear hK K
                try simp only [Act.put, List.getElem_toArray, List.getElem_cons_zero, List.getElem_cons_succ, List.setIfInBounds_toArray, List.set_cons_zero, List.set_cons_succ]
                refine wpAnyH_take (i := 7) (v := ?vc7_25) rfl (by kernel_rfl) (by kernel_rfl) (by kernel_rfl) (fun _ _ _ h => h) (Or.inl ⟨by rfl, ?hyc7_25⟩) (by assumption) ?restc7_25
                case hyc7_25 => (intro w0 hSw; (try dsimp only at hSw); go_simp; try with_reducible rfl)
                case' restc7_25 => try simp only [Act.put, List.getElem_toArray, List.getElem_cons_zero, List.getElem_cons_succ, List.setIfInBounds_toArray, List.set_cons_zero, List.set_cons_succ]
                refine wpAnyH_take (i := 8) (v := ?vc8_26) rfl (by kernel_rfl) (by kernel_rfl) (by kernel_rfl) (fun _ _ _ h => h) (Or.inl ⟨by rfl, ?hyc8_26⟩) (by assumption) ?restc8_26
                case hyc8_26 => (intro w0 hSw; (try dsimp only at hSw); go_simp; try with_reducible rfl)
                case' restc8_26 => try simp only [Act.put, List.getElem_toArray, List.getElem_cons_zero, List.getElem_cons_succ, List.setIfInBounds_toArray, List.set_cons_zero, List.set_cons_succ]
                refine wpAnyH_take (i := 9) (v := ?vc9_27) rfl (by kernel_rfl) (by kernel_rfl) (by kernel_rfl) (fun _ _ _ h => h) (Or.inl ⟨by rfl, ?hyc9_27⟩) (by assumption) ?restc9_27
                case hyc9_27 => (intro w0 hSw; (try dsimp only at hSw); go_simp; try with_reducible rfl)
                case' restc9_27 => try simp only [Act.put, List.getElem_toArray, List.getElem_cons_zero, List.getElem_cons_succ, List.setIfInBounds_toArray, List.set_cons_zero, List.set_cons_succ]
                refine wpAnyH_take (i := 10) (v := ?vc10_28) rfl (by kernel_rfl) (by kernel_rfl) (by kernel_rfl) (fun _ _ _ h => h) (Or.inl ⟨by rfl, ?hyc10_28⟩) (by assumption) ?restc10_28
                case hyc10_28 => (intro w0 hSw; (try dsimp only at hSw); go_simp; try with_reducible rfl)
                case' restc10_28 => try simp only [Act.put, List.getElem_toArray, List.getElem_cons_zero, List.getElem_cons_succ, List.setIfInBounds_toArray, List.set_cons_zero, List.set_cons_succ]
                refine wpAnyH_ready (rs := [11]) (by kernel_rfl) (by simp) ?_
                refine AllReadyH.cons rfl (fun K hK => ?_) AllReadyH.nil
                go_simp
                refine hK.out _ _ (HH.out _ (bch HW5.out (below_alloc w5 _) HW5.out.size)) (fun hHeld => ?_)
                clear hK K
                try simp only [Act.put, List.getElem_toArray, List.getElem_cons_zero, List.getElem_cons_succ, List.setIfInBounds_toArray, List.set_cons_zero, List.set_cons_succ]
                refine wpAnyH_ready (rs := [12]) (by kernel_rfl) (by simp) ?_
                refine AllReadyH.cons rfl (fun K hK => ?_) AllReadyH.nil
                go_simp
                refine hK.out _ _ (HH.out _ (bch HW5.out (below_alloc w5 _) HW5.out.size)) (fun hHeld => ?_)
                clear hK K
                try simp only [Act.put, List.getElem_toArray, List.getElem_cons_zero, List.getElem_cons_succ, List.setIfInBounds_toArray, List.set_cons_zero, List.set_cons_succ]
                refine wpAnyH_take (i := 13) (v := ?vc13_29) rfl (by kernel_rfl) (by kernel_rfl) (by kernel_rfl) (fun _ _ _ h => h) (Or.inl ⟨by rfl, ?hyc13_29⟩) (by assumption) ?restc13_29
                case hyc13_29 => (intro w0 hSw; (try dsimp only at hSw); go_simp; try with_reducible rfl)
                case' restc13_29 => try simp only [Act.put, List.getElem_toArray, List.getElem_cons_zero, List.getElem_cons_succ, List.setIfInBounds_toArray, List.set_cons_zero, List.set_cons_succ]
                refine wpAnyH_take (i := 14) (v := ?vc14_30) rfl (by kernel_rfl) (by kernel_rfl) (by kernel_rfl) (fun _ _ _ h => h) (Or.inl ⟨by rfl, ?hyc14_30⟩) (by assumption) ?restc14_30
                case hyc14_30 => (intro w0 hSw; (try dsimp only at hSw); go_simp; try with_reducible rfl)
                case' restc14_30 => try simp only [Act.put, List.getElem_toArray, List.getElem_cons_zero, List.getElem_cons_succ, List.setIfInBounds_toArray, List.set_cons_zero, List.set_cons_succ]
                refine wpAnyH_done (by kernel_rfl) ?_ _
                refine NoPanic.normal ?_
                go_wp2_with fail
                go_meet
                exact ⟨w5.heap.size, y, ci, ki, rfl, rfl, rfl, HW5.out.size, heap_new _ _, hO, bch HW5.out (below_alloc w5 _) HW5.out.size⟩
              · go_simp
                refine hK.out _ _ (HH.out _ (bch (below_drew1 (Below.refl wr.heap.size wr)) (below_alloc wr.drew _) (Nat.le_refl _))) (fun hHeld => ?_)
                clear hK K
                try simp only [Act.put, List.getElem_toArray, List.getElem_cons_zero, List.getElem_cons_succ, List.setIfInBounds_toArray, List.set_cons_zero, List.set_cons_succ]
                refine wpAnyH_ready (rs := [6]) (by kernel_rfl) (by simp) ?_
                refine AllReadyH.cons rfl (fun K hK => ?_) AllReadyH.nil
                go_simp
                have HBd := Lib.hid (bch (below_drew1 (Below.refl wr.heap.size wr)) (below_alloc wr.drew (.cells #[.int .i64 0, .int .i64 0, .int .i64 0, .int .i64 0, .int .i64 0] tRow)) (Nat.le_refl _))
                refine (HT.out _ HBd.out).mono ?_
                rintro e w5 ⟨⟨y, ci, ki, rfl, hO⟩, hb⟩
                have HW5 := Lib.hid (bch HBd.out hb HBd.out.size)
                refine hK.out _ _ (HH.out _ (HW5.out)) (fun hHeld => ?_)
                clear hK K
                try simp only [Act.put, List.getElem_toArray, List.getElem_cons_zero, List.getElem_cons_succ, List.setIfInBounds_toArray, List.set_cons_zero, List.set_cons_succ]
                refine wpAnyH_take (i := 7) (v := ?vc7_31) rfl (by kernel_rfl) (by kernel_rfl) (by kernel_rfl) (fun _ _ _ h => h) (Or.inl ⟨by rfl, ?hyc7_31⟩) (by assumption) ?restc7_31
                case hyc7_31 => (intro w0 hSw; (try dsimp only at hSw); go_simp; try with_reducible rfl)
                case' restc7_31 => try simp only [Act.put, List.getElem_toArray, List.getElem_cons_zero, List.getElem_cons_succ, List.setIfInBounds_toArray, List.set_cons_zero, List.set_cons_succ]
                refine wpAnyH_take (i := 8) (v := ?vc8_32) rfl (by kernel_rfl) (by kernel_rfl) (by kernel_rfl) (fun _ _ _ h => h) (Or.inl ⟨by rfl, ?hyc8_32⟩) (by assumption) ?restc8_32
                case hyc8_32 => (intro w0 hSw; (try dsimp only at hSw); go_simp; try with_reducible rfl)
                case' restc8_32 => try simp only [Act.put, List.getElem_toArray, List.getElem_cons_zero, List.getElem_cons_succ, List.setIfInBounds_toArray, List.set_cons_zero, List.set_cons_succ]
                refine wpAnyH_take (i := 9) (v := ?vc9_33) rfl (by kernel_rfl) (by kernel_rfl) (by kernel_rfl) (fun _ _ _ h => h) (Or.inl ⟨by rfl, ?hyc9_33⟩) (by assumption) ?restc9_33
                case hyc9_33 => (intro w0 hSw; (try dsimp only at hSw); go_simp; try with_reducible rfl)
                case' restc9_33 => try simp only [Act.put, List.getElem_toArray, List.getElem_cons_zero, List.getElem_cons_succ, List.setIfInBounds_toArray, List.set_cons_zero, List.set_cons_succ]
                refine wpAnyH_take (i := 10) (v := ?vc10_34) rfl (by kernel_rfl) (by kernel_rfl) (by kernel_rfl) (fun _ _ _ h => h) (Or.inl ⟨by rfl, ?hyc10_34⟩) (by assumption) ?restc10_34
                case hyc10_34 => (intro w0 hSw; (try dsimp only at hSw); go_simp; try with_reducible rfl)
                case' restc10_34 => try simp only [Act.put, List.getElem_toArray, List.getElem_cons_zero, List.getElem_cons_succ, List.setIfInBounds_toArray, List.set_cons_zero, List.set_cons_succ]
                have HZ0 := Lib.hid (show w5.heap[wr.heap.size]? = some (.cells #[.int .i64 0, .int .i64 0, .int .i64 0, .int .i64 0, .int .i64 0] tRow (0, 0)) from heap_keep (heap_new wr.drew (.cells #[.int .i64 0, .int .i64 0, .int .i64 0, .int .i64 0, .int .i64 0] tRow)) hb)
                obtain ⟨z0, z1, z2, z3, z4⟩ := cell5 HZ0.out
                obtain ⟨f0, f1, f2, f3, f4⟩ := froz5a HZ0.out
                have HSB := Lib.hid (below_set5 HW5.out (Nat.le_refl _) (.int .i64 y.1.1) (.int .i64 y.1.2) (.int .i64 y.2.1) (.int .i64 y.2.2.1) (.int .i64 y.2.2.2))
                refine wpAnyH_ready (rs := [12]) (by kernel_rfl) (by simp) ?_
                refine AllReadyH.cons rfl (fun K hK => ?_) AllReadyH.nil
                go_simp
                refine hK.out _ _ (HH.out _ (HSB.out)) (fun hHeld => ?_)
                clear hK K
                try simp only [Act.put, List.getElem_toArray, List.getElem_cons_zero, List.getElem_cons_succ, List.setIfInBounds_toArray, List.set_cons_zero, List.set_cons_succ]
                refine wpAnyH_take (i := 13) (v := ?vc13_35) rfl (by kernel_rfl) (by kernel_rfl) (by kernel_rfl) (fun _ _ _ h => h) (Or.inl ⟨by rfl, ?hyc13_35⟩) (by assumption) ?restc13_35
                case hyc13_35 => (intro w0 hSw; (try dsimp only at hSw); go_simp; try with_reducible rfl)
                case' restc13_35 => try simp only [Act.put, List.getElem_toArray, List.getElem_cons_zero, List.getElem_cons_succ, List.setIfInBounds_toArray, List.set_cons_zero, List.set_cons_succ]
                refine wpAnyH_take (i := 14) (v := ?vc14_36) rfl (by kernel_rfl) (by kernel_rfl) (by kernel_rfl) (fun _ _ _ h => h) (Or.inl ⟨by rfl, ?hyc14_36⟩) (by assumption) ?restc14_36
                case hyc14_36 => (intro w0 hSw; (try dsimp only at hSw); go_simp; try with_reducible rfl)
                case' restc14_36 => try simp only [Act.put, List.getElem_toArray, List.getElem_cons_zero, List.getElem_cons_succ, List.setIfInBounds_toArray, List.set_cons_zero, List.set_cons_succ]
                refine wpAnyH_done (by kernel_rfl) ?_ _
                refine NoPanic.normal ?_
                go_wp2_with fail
                go_meet
                exact ⟨wr.heap.size, y, ci, ki, rfl, rfl, rfl, Nat.le_refl _, set5a HZ0.out _ _ _ _ _, hO, HSB.out⟩
            case rest =>
              obtain ⟨bx, y, ci, ki, rfl, rfl, rfl, hbx, hy4, hO, hbl⟩ := hcut
              have HI4 := Lib.hid (HI.out.below hbl); have HY4 := Lib.hid hy4
              clear hy4 hbl s0 s1 s2 hcell HT
              unfold OneOut at hO
              cases hf : Sk.one r l with
              | inl y' =>
                rw [hf] at hO
                obtain ⟨rfl, rfl, rfl⟩ := hO
                have HNEXT := Lib.hid (show run (L.drop (k + 1)) (k + 1) ⟨q, l ++ [y], false⟩ = R by rw [HST.out, step1_ok HK0.out HEND.out hf])
                clear hf
                obtain ⟨y0, y1, y2, y3, y4⟩ := cell5 HY4.out
                obtain ⟨m0, m1, m2, f0', f1, f2⟩ := cell3 HI4.out.s6
                go_upto_region 22 with (at_builtin; refine wpList_append_any _ rfl (.tmp 84) (.tmp 86) tRows rfl (b5 + 2) tRow i0 (mkRow ((0, 0), 0, 0, 0)) 5 40 Tryz.underlying22 hi hz0 hz1 hz2 rfl (by decide) (.slice Ar l.length cr) l.length (l.flatMap encR) rfl (HI4.out.own.alloc _) 1 (encR y) (src_blk (xs := encR y) (heap_new _ _) (encR_one _)) (by unfold maxLen; omega) (by omega) (by have := HI4.out.size; simp; omega) ?_; intro v6 w6 ho6 hg6 hat6; obtain ⟨A6, c6, rfl, _⟩ := own_slice ho6; have ht6 : Turned (fun j => Value.ownBlock (.slice Ar l.length cr) = some j) wc w6 := (Turned.of_below (below_alloc _ _)).trans (Turned.of_grown hg6 (fun j h => h)); have hs6 := heap_turned HI4.out.s6 ht6 (fun e => by have := (HI4.out.own.lt _ e).1; omega); obtain ⟨t0, t1, t2, h0, h1, h2⟩ := cell3 hs6; have HT6 := Lib.hid ht6; have HO6 := Lib.hid ho6; clear ho6 hg6 hat6 ht6 hs6)
                clear y0 y1 y2 y3 y4 m0 m1 m2 f0' f1 f2 t0 t1 t2 h0 h1 h2
                obtain ⟨w8, hw8⟩ : ∃ w8, w8 = w6.setCell ⟨b5 + 1, 2, none⟩ (.slice A6 (l.length + 1) c6) := ⟨_, rfl⟩
                rw [← hw8]
                have hi8 := HI4.out.push (y := y) HO6.out HT6.out
                rw [← hw8] at hi8
                have HI8 := Lib.hid hi8
                clear hw8 hi8 HI4 HY4 HT6 HO6
                go_wp2_with fail
                go_roundw
                case rel => exact ⟨k + 1, q, (l ++ [y]), false, _, by go_num, rfl, by omega, by simp; omega, HI8.out, HNEXT.out⟩
                case measure => simp [intOf]; omega
              | inr x =>
                rw [hf] at hO
                obtain ⟨hci, hki⟩ := hO
                have HBADR := Lib.hid (show R = .inr (k + 1, x.1, x.2) by rw [HST.out, step1_bad HK0.out HEND.out hf])
                have hc1 := (one_bad hf).1
                have hc0 : 0 < ci := by omega
                have HCI := Lib.hid hci.symm; have HKI := Lib.hid hki.symm
                clear hci hki hc1 hf
                obtain ⟨y0, y1, y2, y3, y4⟩ := cell5 HY4.out
                obtain ⟨m0, m1, m2, f0', f1, f2⟩ := cell3 HI4.out.s6
                go_upto_region 22 with (at_builtin; refine wpList_append_any _ rfl (.tmp 84) (.tmp 86) tRows rfl (b5 + 2) tRow i0 (mkRow ((0, 0), 0, 0, 0)) 5 40 Tryz.underlying22 hi hz0 hz1 hz2 rfl (by decide) (.slice Ar l.length cr) l.length (l.flatMap encR) rfl (HI4.out.own.alloc _) 1 (encR y) (src_blk (xs := encR y) (heap_new _ _) (encR_one _)) (by unfold maxLen; omega) (by omega) (by have := HI4.out.size; simp; omega) ?_; intro v6 w6 ho6 hg6 hat6; obtain ⟨A6, c6, rfl, _⟩ := own_slice ho6; have ht6 : Turned (fun j => Value.ownBlock (.slice Ar l.length cr) = some j) wc w6 := (Turned.of_below (below_alloc _ _)).trans (Turned.of_grown hg6 (fun j h => h)); have hs6 := heap_turned HI4.out.s6 ht6 (fun e => by have := (HI4.out.own.lt _ e).1; omega); obtain ⟨t0, t1, t2, h0, h1, h2⟩ := cell3 hs6; have HT6 := Lib.hid ht6; have HO6 := Lib.hid ho6; clear ho6 hg6 hat6 ht6 hs6)
                clear y0 y1 y2 y3 y4 m0 m1 m2 f0' f1 f2 t0 t1 t2 h0 h1 h2
                obtain ⟨w8, hw8⟩ : ∃ w8, w8 = w6.setCell ⟨b5 + 1, 2, none⟩ (.slice A6 (l.length + 1) c6) := ⟨_, rfl⟩
                rw [← hw8]
                have hi8 := HI4.out.push (y := y) HO6.out HT6.out
                rw [← hw8] at hi8
                have HI8 := Lib.hid hi8
                clear hw8 hi8 HI4 HY4 HT6 HO6
                obtain ⟨m0, m1, m2, f0, f1, f2⟩ := cell3 HI8.out.r0
                obtain ⟨p0, p1, p2, e0, e1, e2⟩ := cell3 HI8.out.r1
                have hlt5 := HI8.out.lt
                go_wp2_with fail
                obtain ⟨w6, hw6⟩ : ∃ w6, w6 = ((w8.setCell ⟨nb, 0, none⟩ (.int .i64 0)).setCell ⟨nb, 1, none⟩ (.int .i64 0)).setCell ⟨nb, 2, none⟩ (.slice none 0 0) := ⟨_, rfl⟩
                have hr6 : w6.heap[nb]? = some (.cells #[.int .i64 0, .int .i64 0, .slice none 0 0] tStat (0, 0)) := by rw [hw6]; exact set3 HI8.out.r0 _ _ _
                have hs6 : w6.heap[nb + 1]? = some (.cells #[.int .i64 0, .int .i64 0, .int .i64 0] tRej (0, 0)) := by rw [hw6]; exact set_other (set_other (set_other HI8.out.r1 (by omega) _) (by omega) _) (by omega) _
                have hb6 : Below nb w w6 := by rw [hw6]; exact below_set3 (HB01.out.trans (HI8.out.tab.mono (by omega))) (Nat.le_refl _) _ _ _
                rw [← hw6]
                clear hw6
                obtain ⟨w7, hw7⟩ : ∃ w7, w7 = ((w6.setCell ⟨nb + 1, 0, none⟩ (.int .i64 ((k : Int) + 1))).setCell ⟨nb + 1, 1, none⟩ (.int .i64 ci)).setCell ⟨nb + 1, 2, none⟩ (.int .i64 ki) := ⟨_, rfl⟩
                have hs7 := set3 hs6 (.int .i64 ((k : Int) + 1)) (.int .i64 ci) (.int .i64 ki)
                rw [← hw7] at hs7
                have hr7 : w7.heap[nb]? = some (.cells #[.int .i64 0, .int .i64 0, .slice none 0 0] tStat (0, 0)) := by rw [hw7]; exact set_other (set_other (set_other hr6 (by omega) _) (by omega) _) (by omega) _
                have hb7 : Below nb w w7 := by rw [hw7]; exact below_set3 hb6 (by omega) _ _ _
                rw [← hw7]
                clear hw7 m0 m1 m2 f0 f1 f2 p0 p1 p2 e0 e1 e2
                obtain ⟨m0, m1, m2, _⟩ := cell3 hr7
                obtain ⟨n0, n1, n2, _⟩ := cell3 hs7
                refine bodyPost_ret (v := .tuple #[.agg #[.int .i64 0, .int .i64 0, .slice none 0 0], .agg #[.int .i64 ((k : Int) + 1), .int .i64 ci, .int .i64 ki]]) (by simp [results, Tryz.results16, go_sem, m0, m1, m2, n0, n1, n2]) rfl ⟨?_, HNB.out ▸ hb7⟩
                exact parsed_bad (R := ofRun L.length R) (a := k + 1) (b := x.1) (c := x.2) (by rw [HBADR.out]; rfl) (by omega) HCI.out.symm HKI.out.symm
    · have hRE := run_end hkl ⟨q, l, en⟩
      rw [HR.out] at hRE
      have HRE := Lib.hid hRE
      obtain rfl : k = L.length := by omega
      have hll : (L.length : Int) + 1 ≤ 65537 := by omega
      clear hRE HR hk hkl
      obtain ⟨m0, m1, m2, f0, f1, f2⟩ := cell3 HI.out.r0
      obtain ⟨p0, p1, p2, e0, e1, e2⟩ := cell3 HI.out.r1
      have hlt5 := HI.out.lt
      cases en with
      | false =>
        go_wp2_with fail
        obtain ⟨w6, hw6⟩ : ∃ w6, w6 = ((wr.setCell ⟨nb, 0, none⟩ (.int .i64 0)).setCell ⟨nb, 1, none⟩ (.int .i64 0)).setCell ⟨nb, 2, none⟩ (.slice none 0 0) := ⟨_, rfl⟩
        have hr6 : w6.heap[nb]? = some (.cells #[.int .i64 0, .int .i64 0, .slice none 0 0] tStat (0, 0)) := by rw [hw6]; exact set3 HI.out.r0 _ _ _
        have hs6 : w6.heap[nb + 1]? = some (.cells #[.int .i64 0, .int .i64 0, .int .i64 0] tRej (0, 0)) := by rw [hw6]; exact set_other (set_other (set_other HI.out.r1 (by omega) _) (by omega) _) (by omega) _
        have ho6 : w6.ownsRow (b5 + 2) tRow 5 vr l.length (l.flatMap encR) := by rw [hw6]; exact own_turned HI.out.own (turned_set3 wr nb _ _ _) (fun j hj e => by have := (HI.out.own.lt j hj).1; omega)
        have hb6 : Below nb w w6 := by rw [hw6]; exact below_set3 (HB01.out.trans (HI.out.tab.mono (by omega))) (Nat.le_refl _) _ _ _
        rw [← hw6]
        clear hw6
        obtain ⟨w7, hw7⟩ : ∃ w7, w7 = ((w6.setCell ⟨nb + 1, 0, none⟩ (.int .i64 ((L.length : Int) + 1))).setCell ⟨nb + 1, 1, none⟩ (.int .i64 1)).setCell ⟨nb + 1, 2, none⟩ (.int .i64 7) := ⟨_, rfl⟩
        have hs7 := set3 hs6 (.int .i64 ((L.length : Int) + 1)) (.int .i64 1) (.int .i64 7)
        rw [← hw7] at hs7
        have hr7 : w7.heap[nb]? = some (.cells #[.int .i64 0, .int .i64 0, .slice none 0 0] tStat (0, 0)) := by rw [hw7]; exact set_other (set_other (set_other hr6 (by omega) _) (by omega) _) (by omega) _
        have ho7 : w7.ownsRow (b5 + 2) tRow 5 vr l.length (l.flatMap encR) := by rw [hw7]; exact own_turned ho6 (turned_set3 w6 (nb + 1) _ _ _) (fun j hj e => by have := (ho6.lt j hj).1; omega)
        have hb7 : Below nb w w7 := by rw [hw7]; exact below_set3 hb6 (by omega) _ _ _
        rw [← hw7]
        clear hw7 m0 m1 m2 f0 f1 f2 p0 p1 p2 e0 e1 e2
        obtain ⟨m0, m1, m2, _⟩ := cell3 hr7
        obtain ⟨n0, n1, n2, _⟩ := cell3 hs7
        refine bodyPost_ret (v := .tuple #[.agg #[.int .i64 0, .int .i64 0, .slice none 0 0], .agg #[.int .i64 ((L.length : Int) + 1), .int .i64 1, .int .i64 7]]) (by simp [results, Tryz.results16, go_sem, m0, m1, m2, n0, n1, n2]) rfl ⟨?_, HNB.out ▸ hb7⟩
        exact parsed_bad (R := ofRun L.length R) (a := L.length + 1) (b := 1) (c := 7) (by rw [HRE.out]; rfl) (by omega) (by omega) (by omega)
      | true =>
        obtain ⟨Ar, cr, rfl, _⟩ := own_slice HI.out.own
        obtain ⟨s0, s1, s2, _⟩ := cell3 HI.out.s6
        go_wp2_with fail
        clear s0 s1 s2
        obtain ⟨w6, hw6⟩ : ∃ w6, w6 = ((wr.setCell ⟨nb, 0, none⟩ (.int .i64 1)).setCell ⟨nb, 1, none⟩ (.int .i64 q)).setCell ⟨nb, 2, none⟩ (.slice Ar l.length cr) := ⟨_, rfl⟩
        have hr6 : w6.heap[nb]? = some (.cells #[.int .i64 1, .int .i64 q, .slice Ar l.length cr] tStat (0, 0)) := by rw [hw6]; exact set3 HI.out.r0 _ _ _
        have hs6 : w6.heap[nb + 1]? = some (.cells #[.int .i64 0, .int .i64 0, .int .i64 0] tRej (0, 0)) := by rw [hw6]; exact set_other (set_other (set_other HI.out.r1 (by omega) _) (by omega) _) (by omega) _
        have ho6 : w6.ownsRow (b5 + 2) tRow 5 (.slice Ar l.length cr) l.length (l.flatMap encR) := by rw [hw6]; exact own_turned HI.out.own (turned_set3 wr nb _ _ _) (fun j hj e => by have := (HI.out.own.lt j hj).1; omega)
        have hb6 : Below nb w w6 := by rw [hw6]; exact below_set3 (HB01.out.trans (HI.out.tab.mono (by omega))) (Nat.le_refl _) _ _ _
        rw [← hw6]
        clear hw6
        obtain ⟨w7, hw7⟩ : ∃ w7, w7 = ((w6.setCell ⟨nb + 1, 0, none⟩ (.int .i64 0)).setCell ⟨nb + 1, 1, none⟩ (.int .i64 0)).setCell ⟨nb + 1, 2, none⟩ (.int .i64 0) := ⟨_, rfl⟩
        have hs7 := set3 hs6 (.int .i64 0) (.int .i64 0) (.int .i64 0)
        rw [← hw7] at hs7
        have hr7 : w7.heap[nb]? = some (.cells #[.int .i64 1, .int .i64 q, .slice Ar l.length cr] tStat (0, 0)) := by rw [hw7]; exact set_other (set_other (set_other hr6 (by omega) _) (by omega) _) (by omega) _
        have ho7 : w7.ownsRow (b5 + 2) tRow 5 (.slice Ar l.length cr) l.length (l.flatMap encR) := by rw [hw7]; exact own_turned ho6 (turned_set3 w6 (nb + 1) _ _ _) (fun j hj e => by have := (ho6.lt j hj).1; omega)
        have hb7 : Below nb w w7 := by rw [hw7]; exact below_set3 hb6 (by omega) _ _ _
        rw [← hw7]
        clear hw7 m0 m1 m2 f0 f1 f2 p0 p1 p2 e0 e1 e2
        obtain ⟨m0, m1, m2, _⟩ := cell3 hr7
        obtain ⟨n0, n1, n2, _⟩ := cell3 hs7
        refine bodyPost_ret (v := .tuple #[.agg #[.int .i64 1, .int .i64 q, .slice Ar l.length cr], .agg #[.int .i64 0, .int .i64 0, .int .i64 0]]) (by simp [results, Tryz.results16, go_sem, m0, m1, m2, n0, n1, n2]) rfl ⟨?_, HNB.out ▸ hb7⟩
        refine ⟨.slice Ar l.length cr, ?_, ?_⟩
        · rw [HRE.out]; rfl
        · rw [HRE.out]; exact rd_own ho7

set_option linter.unusedSimpArgs false in
set_option linter.unusedVariables false in
set_option maxRecDepth 100000 in
set_option maxHeartbeats 4000000 in
theorem srefParse_bad (s : ByteArray) (w : World) (L : List Line) (a b c : Nat) (hc : c ≠ 0) (hcall : ∀ W, Calls Tryz.prog 17 #[.string s] W fun e w' => (∃ v, e = .returned (.tuple #[v, rejV (a, b, c)]) ∧ Rowz w' w'.heap.size v L) ∧ Below W.heap.size W w') :
    Calls Tryz.prog 16 #[.string s] w fun e w' => ParsedS ((0, 0, []), a, b, c) e w' ∧ Below w.heap.size w w' := by
  obtain ⟨wa, hwa⟩ : ∃ wa, (w.alloc (.cells #[.int .i64 0, .int .i64 0, .slice none 0 0] tStat)).alloc (.cells #[.int .i64 0, .int .i64 0, .int .i64 0] tRej) = wa := ⟨_, rfl⟩
  have hWA := Lib.hid hwa
  obtain ⟨ai, hai⟩ : ∃ ai : Int, (a : Int) = ai := ⟨_, rfl⟩
  obtain ⟨bi, hbi⟩ : ∃ bi : Int, (b : Int) = bi := ⟨_, rfl⟩
  obtain ⟨ci, hci⟩ : ∃ ci : Int, (c : Int) = ci := ⟨_, rfl⟩
  unfold rejV at hcall
  simp only [hai, hbi, hci] at hcall
  have HCALL := Lib.hid hcall
  have hcn := bneT (show ¬ ci = 0 by omega)
  have HA := Lib.hid hai; have HB := Lib.hid hbi; have HC := Lib.hid hci
  clear hcall hwa hai hbi hci hc
  go_enter Tryz.func16, Tryz.ntmps16
  go_upto_region 1 with (fail)
  rw [hWA.out]
  go_wp2_with fail
  refine (HCALL.out _).mono ?_
  rintro e w1 ⟨⟨v, rfl, _⟩, hb1⟩
  go_upto_region 2 with (fail)
  obtain ⟨W, hW⟩ : ∃ W, W = w1.alloc (.cells #[.int .i64 ai, .int .i64 bi, .int .i64 ci] tRej) := ⟨_, rfl⟩
  rw [← hW]
  have h2 := two_blocks w (.cells #[.int .i64 0, .int .i64 0, .slice none 0 0] tStat) (.cells #[.int .i64 0, .int .i64 0, .int .i64 0] tRej) rfl
  rw [hWA.out] at h2
  have h3 := one_block w1 _ hW.symm
  have HR0 := Lib.hid (heap_keep (heap_keep h2.2.1 hb1) h3.1); have HR1 := Lib.hid (heap_keep (heap_keep h2.2.2 hb1) h3.1); have HX := Lib.hid h3.2
  have HBL := Lib.hid (bch (bch h2.1 hb1 h2.1.size) h3.1 (bch h2.1 hb1 h2.1.size).size)
  have hlt : w.heap.size + 1 < w1.heap.size := heap_lt (heap_keep h2.2.2 hb1)
  clear hW h2 h3 hb1
  generalize hnb : w.heap.size = nb at HR0 HR1 HBL hlt ⊢
  generalize w1.heap.size = b5 at HX hlt ⊢
  have HNB := Lib.hid hnb
  clear hnb
  obtain ⟨n0, n1, n2, g0, g1, g2⟩ := cell3 HX.out
  obtain ⟨m0, m1, m2, f0, f1, f2⟩ := cell3 HR0.out
  obtain ⟨p0, p1, p2, e0, e1, e2⟩ := cell3 HR1.out
  go_wp2_with fail
  go_region
  go_wp2_with fail
  obtain ⟨w6, hw6⟩ : ∃ w6, w6 = ((W.setCell ⟨nb, 0, none⟩ (.int .i64 0)).setCell ⟨nb, 1, none⟩ (.int .i64 0)).setCell ⟨nb, 2, none⟩ (.slice none 0 0) := ⟨_, rfl⟩
  have hr6 : w6.heap[nb]? = some (.cells #[.int .i64 0, .int .i64 0, .slice none 0 0] tStat (0, 0)) := by rw [hw6]; exact set3 HR0.out _ _ _
  have hs6 : w6.heap[nb + 1]? = some (.cells #[.int .i64 0, .int .i64 0, .int .i64 0] tRej (0, 0)) := by rw [hw6]; exact set_other (set_other (set_other HR1.out (by omega) _) (by omega) _) (by omega) _
  have hb6 : Below nb w w6 := by rw [hw6]; exact below_set3 HBL.out (Nat.le_refl _) _ _ _
  rw [← hw6]
  clear hw6
  obtain ⟨w7, hw7⟩ : ∃ w7, w7 = ((w6.setCell ⟨nb + 1, 0, none⟩ (.int .i64 ai)).setCell ⟨nb + 1, 1, none⟩ (.int .i64 bi)).setCell ⟨nb + 1, 2, none⟩ (.int .i64 ci) := ⟨_, rfl⟩
  have hs7 := set3 hs6 (.int .i64 ai) (.int .i64 bi) (.int .i64 ci)
  rw [← hw7] at hs7
  have hr7 : w7.heap[nb]? = some (.cells #[.int .i64 0, .int .i64 0, .slice none 0 0] tStat (0, 0)) := by rw [hw7]; exact set_other (set_other (set_other hr6 (by omega) _) (by omega) _) (by omega) _
  have hb7 : Below nb w w7 := by rw [hw7]; exact below_set3 hb6 (by omega) _ _ _
  rw [← hw7]
  clear hw7 m0 m1 m2 f0 f1 f2 p0 p1 p2 e0 e1 e2 n0 n1 n2 g0 g1 g2
  obtain ⟨m0, m1, m2, _⟩ := cell3 hr7
  obtain ⟨n0, n1, n2, _⟩ := cell3 hs7
  refine bodyPost_ret (v := .tuple #[.agg #[.int .i64 0, .int .i64 0, .slice none 0 0], .agg #[.int .i64 ai, .int .i64 bi, .int .i64 ci]]) (by simp [results, Tryz.results16, go_sem, m0, m1, m2, n0, n1, n2]) rfl ⟨?_, below_drew1 (HNB.out ▸ hb7)⟩
  exact parsed_bad rfl HA.out.symm HB.out.symm HC.out.symm
/-- The reference's reading of a file. -/
theorem srefParse_any (s : ByteArray) (w : World) (hs : s.size ≤ 65536) : Calls Tryz.prog 16 #[.string s] w fun e w' => ParsedS (parseS s.data.toList) e w' ∧ Below w.heap.size w w' := by
  have hcall : ∀ W, Calls Tryz.prog 17 #[.string s] W fun e w' => Told (Csv.parse s.data.toList) e w' ∧ Below W.heap.size W w' := fun W => refParse_any s W hs
  rcases csv_cases s.data.toList with ⟨a, b, c, e, hc, _, _⟩ | ⟨L, e, _⟩
  · have hp : parseS s.data.toList = ((0, 0, []), a, b, c) := by unfold parseS; rw [e]; simp only []; rw [if_neg hc]
    rw [hp]
    refine srefParse_bad s w [] a b c hc fun W => (hcall W).mono fun e2 w' h => ⟨?_, h.2⟩
    have h1 := h.1
    rw [e] at h1
    exact h1
  · have hp : parseS s.data.toList = ofTable L := by unfold parseS; rw [e]; rfl
    rw [hp]
    exact srefParse_ok s w L e hcall
end Go.Proofs.YtgpjbigelblanaaGreatDoor

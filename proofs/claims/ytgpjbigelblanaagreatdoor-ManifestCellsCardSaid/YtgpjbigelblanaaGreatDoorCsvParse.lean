/- csv.Parse computes Csv.parse. -/
import Derived.Test.YtgpjbigelblanaaGreatDoorCsvOwn
namespace Go.Proofs.YtgpjbigelblanaaGreatDoor
open Go.RowKit

abbrev tRej : TypeId := 32

def rejV (r : Nat × Nat × Nat) : Value := .agg #[.int .i64 (r.1 : Int), .int .i64 (r.2.1 : Int), .int .i64 (r.2.2 : Int)]
/-- Rows and a reject, as they are told. -/
def Told (r : List (List (List UInt8)) × Nat × Nat × Nat) (e : Ending) (w : World) : Prop := ∃ v, e = .returned (.tuple #[v, rejV r.2]) ∧ Rowz w w.heap.size v r.1

theorem where_at (s : ByteArray) (nx : Nat) (hs : s.size ≤ 65536) (hk : nx ≤ s.size) : ∃ la lb : Nat, Hid (Csv.lc (s.data.toList.take nx) = (la, lb)) ∧ Hid (∀ (code : Int) (w : World),
    Calls Tryz.prog 60 #[.string s, .int .i64 nx, .int .i64 code] w fun e w' => e = .returned (.agg #[.int .i64 (la : Int), .int .i64 (lb : Int), .int .i64 code]) ∧ Below w.heap.size w w') :=
  ⟨_, _, rfl, fun code w => where_any s nx code w hs hk⟩
theorem ends_comma (s : ByteArray) (nx : Nat) (h : nx + 1 = s.size) (hc : s[nx] = 44) (rows row) :
    Csv.parseOf s.data.toList (Csv.go (s.data.toList.drop (nx + 1)) ⟨rows, row, [], 0⟩ (nx + 1)) = ([], (Csv.lc (s.data.toList.take (nx + 1))).1, (Csv.lc (s.data.toList.take (nx + 1))).2, 1) := by
  rw [drop_all s _ (by omega)]
  have hl : s.data.toList.getLast? = some s[nx] := by
    have h1 : s.data.toList.length = s.size := by simp
    rw [List.getLast?_eq_getElem?, h1, show s.size - 1 = nx from by omega, List.getElem?_eq_getElem (by rw [h1]; omega)]
    rfl
  have hs0 : s.data.toList ≠ [] := by intro e; rw [e] at hl; simp at hl
  have ht : s.data.toList.take (nx + 1) = s.data.toList := by rw [h, take_all]
  rw [ht]
  simp [Csv.go, Csv.parseOf, Csv.fin, hs0, hl, hc]
theorem ends_line (s : ByteArray) (j : Nat) (h : ¬ j < s.size) (hj : j ≤ s.size) (he : j = 0 ∨ (∃ h : j - 1 < s.size, s[j - 1] = 10) ∨ j < s.size) (rows row) :
    Csv.parseOf s.data.toList (Csv.go (s.data.toList.drop j) ⟨rows, row, [], 0⟩ j) = (rows, 0, 0, 0) := by
  have hj' : j = s.size := by omega
  rw [drop_all s _ (by omega)]
  simp only [Csv.go, Csv.parseOf, Csv.fin]
  rcases he with h0 | ⟨hl, hc⟩ | h'
  · have h1 : s.data.toList.length = s.size := by simp
    have : s.data.toList = [] := List.eq_nil_of_length_eq_zero (by omega)
    simp [this]
  · have h1 : s.data.toList.length = s.size := by simp
    have hl : s.data.toList.getLast? = some 10 := by
      rw [List.getLast?_eq_getElem?, h1, ← hj', List.getElem?_eq_getElem (by rw [h1]; omega), ← hc]
      rfl
    simp [hl]
  · omega
theorem own_shape {w : World} {B : Nat} {e : TypeId} {z n : Nat} {v : Value} {xs : List Value} (h : w.ownsRow B e z v n xs) : ∃ a m c, v = .slice a m c := by
  rcases h.2 with ⟨rfl, _⟩ | ⟨g, cap, cur, rfl, _⟩ <;> exact ⟨_, _, _, rfl⟩
theorem own_one {w : World} {B : Nat} {e : TypeId} {z n : Nat} {v : Value} {xs : List Value} (h : w.ownsRow B e z v n xs) : v.oneCell' = true := by
  rcases h.2 with ⟨rfl, _⟩ | ⟨g, cap, cur, rfl, _⟩ <;> rfl
theorem told_bad {w : World} {R : List (List (List UInt8)) × Nat × Nat × Nat} {la lb c : Nat} (h : R = ([], la, lb, c)) : Told R (.returned (.tuple #[.slice none 0 0, .agg #[.int .i64 (la : Int), .int .i64 (lb : Int), .int .i64 (c : Int)]])) w :=
  ⟨_, by rw [h]; rfl, by rw [h]; exact Sl.nil _ _ _⟩
set_option maxRecDepth 100000 in
set_option maxHeartbeats 8000000 in
theorem parse_any (s : ByteArray) (w : World) (hs : s.size ≤ 65536) :
    Calls Tryz.prog 26 #[.string s] w fun e w' => Told (Csv.parse s.data.toList) e w' ∧ Below w.heap.size w w' := by
  obtain ⟨i0, hi, hz0, hz1, hz2⟩ := info_parts fld_info
  obtain ⟨j0, hj, hy0, hy1, hy2⟩ := info_parts line_info
  have hR : Csv.parse s.data.toList = Csv.parseOf s.data.toList (Csv.go (s.data.toList.drop 0) Csv.St.init 0) := by
    unfold Csv.parse
    rw [if_neg (by simp; omega)]
    rfl
  obtain ⟨R, hRR⟩ : ∃ R, Csv.parseOf s.data.toList (Csv.go (s.data.toList.drop 0) Csv.St.init 0) = R := ⟨_, rfl⟩
  rw [hR, hRR]
  clear hR
  go_enter Tryz.func26, Tryz.ntmps26
  go_wp2_with fail
  go_step3
  go_wp2_with fail
  go_step3
  go_wp2_with fail
  go_loopw [4, 5, 6] (fun vr v i wr => ∃ (j : Nat) (rows : List (List (List UInt8))) (row : List (List UInt8)) (vs : List Value), j ≤ s.size ∧ i = .int .i64 j ∧ Hid (Inv wr (w.heap.size + 1) vr v rows row vs) ∧ Hid (Csv.parseOf s.data.toList (Csv.go (s.data.toList.drop j) ⟨rows, row, [], 0⟩ j) = R) ∧
      Hid (j = 0 ∨ (∃ h : j - 1 < s.size, s[j - 1] = 10) ∨ j < s.size) ∧ Hid (wr.heap[w.heap.size]? = some (.cells #[.int .i64 0, .int .i64 0, .int .i64 0] tRej (0, 0))) ∧ Hid (Below w.heap.size w wr) ∧ rows.length ≤ j ∧ row.length ≤ j) (fun _ _ i _ => s.size - (intOf i).toNat)
  case atStart => exact ⟨0, [], [], [], by omega, rfl, Inv.start _ _, hRR, .inl rfl, heap_alloc_new w _, (Below.refl _ _).alloc (Nat.le_refl _) _, by simp, by simp⟩
  case round =>
    obtain ⟨j, rows, row, vs, hjs, rfl, HI, HR, HE, HC, HW, hrl, hrl2⟩ := hrel
    have H3 := cell3 HC.out
    obtain ⟨c0, c1, c2, f0, f1, f2⟩ := H3
    by_cases hlt : j < s.size
    · obtain ⟨f, nx, ok, hcall, HF, hfl⟩ : ∃ f nx ok, (∀ w, Calls Tryz.prog (if s[j] = 34 then 59 else 58) #[.string s, .int .i64 j] w fun e w' => e = .returned (.tuple #[.string ⟨f.toArray⟩, .int .i64 ((nx : Nat) : Int), .bool ok]) ∧ Below w.heap.size w w') ∧ Hid (Field s j f nx ok) ∧ f.length ≤ s.size := by
        by_cases hc : s[j] = 34
        · obtain ⟨f, nx, ok, he, h1, h2⟩ := field_quoted s j hlt hc
          refine ⟨f, nx, ok, fun w => ?_, h1, h2⟩
          rw [if_pos hc, ← he]
          exact quoted_any s j w hs hlt
        · obtain ⟨f, nx, ok, he, h1, h2⟩ := field_plain s j hlt hc
          refine ⟨f, nx, ok, fun w => ?_, h1, h2⟩
          rw [if_neg hc, ← he]
          exact (plain_any s j w hs (by omega)).mono fun e w' ⟨h1, h2⟩ => ⟨h1, h2 ▸ Below.refl _ _⟩
      have hnx := HF.out.le
      have hnj := HF.out.ge
      have HCALL := Lib.hid hcall; clear hcall
      obtain ⟨la, lb, HL, HWH⟩ := where_at s nx hs hnx
      obtain ⟨g1, hcall⟩ | ⟨g1, hcall⟩ : (((s[j].toNat : Int) == 34) = true ∧ Hid (∀ w, Calls Tryz.prog 59 #[.string s, .int .i64 j] w fun e w' => e = .returned (.tuple #[.string ⟨f.toArray⟩, .int .i64 ((nx : Nat) : Int), .bool ok]) ∧ Below w.heap.size w w')) ∨ (((s[j].toNat : Int) == 34) = false ∧ Hid (∀ w, Calls Tryz.prog 58 #[.string s, .int .i64 j] w fun e w' => e = .returned (.tuple #[.string ⟨f.toArray⟩, .int .i64 ((nx : Nat) : Int), .bool ok]) ∧ Below w.heap.size w w')) := by
        by_cases hc : s[j] = 34
        · left
          have h := HCALL.out
          rw [if_pos hc] at h
          exact ⟨by rw [hc]; rfl, h⟩
        · right
          have h := HCALL.out
          rw [if_neg hc] at h
          exact ⟨beqF (show ¬ (s[j].toNat : Int) = 34 from fun e => hc ((u8_of s[j] 34 (by decide)).1 e)), h⟩
      all_goals
        clear HCALL
        cases ok with
        | false =>
          go_wp2_with (first
            | (go_at_call 59; refine (hcall.out _).mono ?_; rintro e w1 ⟨rfl, HW1⟩; have HC1 := Lib.hid (heap_keep HC.out HW1); obtain ⟨d0, d1, d2, e0, e1, e2⟩ := cell3 HC1.out)
            | (go_at_call 58; refine (hcall.out _).mono ?_; rintro e w1 ⟨rfl, HW1⟩; have HC1 := Lib.hid (heap_keep HC.out HW1); obtain ⟨d0, d1, d2, e0, e1, e2⟩ := cell3 HC1.out)
            | (go_at_call 60; refine (HWH.out 2 _).mono ?_; rintro e w2 ⟨rfl, HW2⟩; have HC2 := Lib.hid (heap_keep HC1.out HW2); obtain ⟨k0, k1, k2, l0, l1, l2⟩ := cell3 HC2.out))
          rw [Exit.noGoto_ret]
          have HC3 := set3 HC2.out (.int .i64 (la : Int)) (.int .i64 (lb : Int)) (.int .i64 2)
          have HB3 := below_set3 (bch (bch HW.out HW1 HW.out.size) HW2 (by have := HW.out.size; have := HW1.size; omega)) (Nat.le_refl _) (.int .i64 (la : Int)) (.int .i64 (lb : Int)) (.int .i64 2)
          obtain ⟨m0, m1, m2, _⟩ := cell3 HC3
          exact bodyPost_ret (v := .tuple #[.slice none 0 0, .agg #[.int .i64 (la : Int), .int .i64 (lb : Int), .int .i64 2]]) (by simp [results, Tryz.results26, go_sem, m0, m1, m2]) rfl ⟨told_bad (by have h := HF.out.bad rfl rows row; rw [HR.out, HL.out] at h; exact h), HB3⟩
        | true =>
          by_cases hns : nx = s.size
          · have hns' := beqT (show (nx : Int) = (s.size : Int) by omega)
            have HNS := Lib.hid hns; clear hns
            go_wp2_with (first
              | (go_at_call 59; refine (hcall.out _).mono ?_; rintro e w1 ⟨rfl, HW1⟩; have HC1 := Lib.hid (heap_keep HC.out HW1); obtain ⟨d0, d1, d2, e0, e1, e2⟩ := cell3 HC1.out)
              | (go_at_call 58; refine (hcall.out _).mono ?_; rintro e w1 ⟨rfl, HW1⟩; have HC1 := Lib.hid (heap_keep HC.out HW1); obtain ⟨d0, d1, d2, e0, e1, e2⟩ := cell3 HC1.out)
              | (go_at_call 60; refine (HWH.out _ _).mono ?_; rintro e w2 ⟨rfl, HW2⟩; have HC2 := Lib.hid (heap_keep HC1.out HW2); obtain ⟨k0, k1, k2, l0, l1, l2⟩ := cell3 HC2.out))
            rw [Exit.noGoto_ret]
            have HC3 := set3 HC2.out (.int .i64 (la : Int)) (.int .i64 (lb : Int)) (.int .i64 1)
            have HB3 := below_set3 (bch (bch HW.out HW1 HW.out.size) HW2 (by have := HW.out.size; have := HW1.size; omega)) (Nat.le_refl _) (.int .i64 (la : Int)) (.int .i64 (lb : Int)) (.int .i64 1)
            obtain ⟨m0, m1, m2, _⟩ := cell3 HC3
            exact bodyPost_ret (v := .tuple #[.slice none 0 0, .agg #[.int .i64 (la : Int), .int .i64 (lb : Int), .int .i64 1]]) (by simp [results, Tryz.results26, go_sem, m0, m1, m2]) rfl ⟨told_bad (by have h := HF.out.short rfl HNS.out rows row; rw [HR.out, HL.out] at h; exact h), HB3⟩
          · have hnl : nx < s.size := by omega
            have hns' := beqF (show ¬ (nx : Int) = (s.size : Int) by omega)
            clear hns
            by_cases hc44 : s[nx] = 44
            · have q1 := bneF (show (s[nx].toNat : Int) = 44 by rw [hc44]; rfl)
              have q2 := beqF (show ¬ (s[nx].toNat : Int) = 10 by rw [hc44]; decide)
              have HCM := Lib.hid (HF.out.comma rfl hnl hc44 rows row)
              by_cases hend : nx + 1 = s.size
              · have HEC := Lib.hid (ends_comma s nx hend hc44 rows (row ++ [f]))
                obtain ⟨la2, lb2, HL2, HWH2⟩ := where_at s (nx + 1) hs (by omega)
                have hend' := beqT (show (nx : Int) + 1 = (s.size : Int) by omega)
                clear hc44 hend
                go_wp2_with (first
                  | (go_at_call 59; refine (hcall.out _).mono ?_; rintro e w1 ⟨rfl, HW1⟩; have HC1 := Lib.hid (heap_keep HC.out HW1); have HI1 := Lib.hid (HI.out.below HW1); have hz := HW1.size; have hz' := HW.out.size)
                  | (go_at_call 58; refine (hcall.out _).mono ?_; rintro e w1 ⟨rfl, HW1⟩; have HC1 := Lib.hid (heap_keep HC.out HW1); have HI1 := Lib.hid (HI.out.below HW1); have hz := HW1.size; have hz' := HW.out.size)
                  | (at_builtin; refine wpList_append_own_at _ rfl (.tmp 59) (.tmp 61) 43 rfl (w.heap.size + 1) tFld i0 (.string ⟨#[]⟩) 1 16 Tryz.underlying43 hi hz0 hz1 hz2 rfl (by decide) _ _ _ rfl (HI1.out.inner.alloc _) ⟨w1.heap.size, 0, none⟩ 1 1 [strV f] rfl rfl (one_new _ _ _) (by intro u hu; simp at hu; subst hu; rfl) (by unfold maxLen; omega) (by omega) (by have := heap_lt HC.out; simp; omega) ?_; intro v2 w2 ho2 hg2 _ hat2; obtain ⟨a2, n2, cp2, rfl⟩ := own_shape ho2; have HI2 := Lib.hid ((HI1.out.below ((Below.refl _ _).alloc (Nat.le_refl _) _)).field ho2 hg2 hat2); have HC2 := Lib.hid ((hg2.block _ (by have := heap_lt HC1.out; simp; omega) (fun e => by have := (HI1.out.inner.lt _ e.symm).1; omega)).trans (heap_keep HC1.out ((Below.refl _ _).alloc (Nat.le_refl _) _))); have HB2 := Lib.hid (((bch HW.out HW1 HW.out.size).alloc (by omega) (.cells #[.string ⟨f.toArray⟩] tFld)).grown hg2 (by simp; omega) (fun k hk => by have := (HI1.out.inner.lt _ hk).1; omega)); have hz2' := hg2.size; clear ho2 hg2 hat2)
                  | (at_builtin; refine wpList_append_own_at _ rfl (.tmp 69) (.tmp 71) 38 rfl (w.heap.size + 1) tLine j0 (.slice none 0 0) 1 24 Tryz.underlying38 hj hy0 hy1 hy2 rfl (by decide) _ _ _ rfl (HI2.out.outer.alloc _) ⟨w2.heap.size, 0, none⟩ 1 1 [.slice a2 n2 cp2] rfl rfl (one_new _ _ _) (by intro u hu; simp at hu; subst hu; exact own_one HI2.out.inner) (by unfold maxLen; omega) (by omega) (by have := heap_lt HC2.out; simp; omega) ?_; intro v3 w3 ho3 hg3 _ hat3; have HI3 := Lib.hid ((HI2.out.below ((Below.refl _ _).alloc (Nat.le_refl _) _)).rowDone ho3 hg3); have HC3 := Lib.hid ((hg3.block _ (by have := heap_lt HC2.out; simp; omega) (fun e => by have := (HI2.out.outer.lt _ e.symm).1; omega)).trans (heap_keep HC2.out ((Below.refl _ _).alloc (Nat.le_refl _) _))); have HB3 := Lib.hid ((HB2.out.alloc (by have := HB2.out.size; omega) (.cells #[.slice a2 n2 cp2] tLine)).grown hg3 (by have := HB2.out.size; simp; omega) (fun k hk => by have := (HI2.out.outer.lt _ hk).1; omega)); clear ho3 hg3 hat3)
                  | (go_at_call 60; refine (HWH2.out _ _).mono ?_; rintro e w3 ⟨rfl, HW3⟩; have HC3 := Lib.hid (heap_keep HC2.out HW3); obtain ⟨k0, k1, k2, l0, l1, l2⟩ := cell3 HC3.out))
                rw [Exit.noGoto_ret]
                have HC4 := set3 HC3.out (.int .i64 (la2 : Int)) (.int .i64 (lb2 : Int)) (.int .i64 1)
                have HB4 := below_set3 (bch HB2.out HW3 (by have := HB2.out.size; omega)) (Nat.le_refl _) (.int .i64 (la2 : Int)) (.int .i64 (lb2 : Int)) (.int .i64 1)
                obtain ⟨m0, m1, m2, _⟩ := cell3 HC4
                exact bodyPost_ret (v := .tuple #[.slice none 0 0, .agg #[.int .i64 (la2 : Int), .int .i64 (lb2 : Int), .int .i64 1]]) (by simp [results, Tryz.results26, go_sem, m0, m1, m2]) rfl ⟨told_bad (by have h := HEC.out; rw [← HCM.out, HR.out, HL2.out] at h; exact h), HB4⟩
              · have hend' := beqF (show ¬ (nx : Int) + 1 = (s.size : Int) by omega)
                have hlt2 : nx + 1 < s.size := by omega
                clear hc44 hend
                go_wp2_with (first
                  | (go_at_call 59; refine (hcall.out _).mono ?_; rintro e w1 ⟨rfl, HW1⟩; have HC1 := Lib.hid (heap_keep HC.out HW1); have HI1 := Lib.hid (HI.out.below HW1); have hz := HW1.size; have hz' := HW.out.size)
                  | (go_at_call 58; refine (hcall.out _).mono ?_; rintro e w1 ⟨rfl, HW1⟩; have HC1 := Lib.hid (heap_keep HC.out HW1); have HI1 := Lib.hid (HI.out.below HW1); have hz := HW1.size; have hz' := HW.out.size)
                  | (at_builtin; refine wpList_append_own_at _ rfl (.tmp 59) (.tmp 61) 43 rfl (w.heap.size + 1) tFld i0 (.string ⟨#[]⟩) 1 16 Tryz.underlying43 hi hz0 hz1 hz2 rfl (by decide) _ _ _ rfl (HI1.out.inner.alloc _) ⟨w1.heap.size, 0, none⟩ 1 1 [strV f] rfl rfl (one_new _ _ _) (by intro u hu; simp at hu; subst hu; rfl) (by unfold maxLen; omega) (by omega) (by have := heap_lt HC.out; simp; omega) ?_; intro v2 w2 ho2 hg2 _ hat2; obtain ⟨a2, n2, cp2, rfl⟩ := own_shape ho2; have HI2 := Lib.hid ((HI1.out.below ((Below.refl _ _).alloc (Nat.le_refl _) _)).field ho2 hg2 hat2); have HC2 := Lib.hid ((hg2.block _ (by have := heap_lt HC1.out; simp; omega) (fun e => by have := (HI1.out.inner.lt _ e.symm).1; omega)).trans (heap_keep HC1.out ((Below.refl _ _).alloc (Nat.le_refl _) _))); have HB2 := Lib.hid (((bch HW.out HW1 HW.out.size).alloc (by omega) (.cells #[.string ⟨f.toArray⟩] tFld)).grown hg2 (by simp; omega) (fun k hk => by have := (HI1.out.inner.lt _ hk).1; omega)); have hz2' := hg2.size; clear ho2 hg2 hat2)
                  | (at_builtin; refine wpList_append_own_at _ rfl (.tmp 69) (.tmp 71) 38 rfl (w.heap.size + 1) tLine j0 (.slice none 0 0) 1 24 Tryz.underlying38 hj hy0 hy1 hy2 rfl (by decide) _ _ _ rfl (HI2.out.outer.alloc _) ⟨w2.heap.size, 0, none⟩ 1 1 [.slice a2 n2 cp2] rfl rfl (one_new _ _ _) (by intro u hu; simp at hu; subst hu; exact own_one HI2.out.inner) (by unfold maxLen; omega) (by omega) (by have := heap_lt HC2.out; simp; omega) ?_; intro v3 w3 ho3 hg3 _ hat3; have HI3 := Lib.hid ((HI2.out.below ((Below.refl _ _).alloc (Nat.le_refl _) _)).rowDone ho3 hg3); have HC3 := Lib.hid ((hg3.block _ (by have := heap_lt HC2.out; simp; omega) (fun e => by have := (HI2.out.outer.lt _ e.symm).1; omega)).trans (heap_keep HC2.out ((Below.refl _ _).alloc (Nat.le_refl _) _))); have HB3 := Lib.hid ((HB2.out.alloc (by have := HB2.out.size; omega) (.cells #[.slice a2 n2 cp2] tLine)).grown hg3 (by have := HB2.out.size; simp; omega) (fun k hk => by have := (HI2.out.outer.lt _ hk).1; omega)); clear ho3 hg3 hat3)
                  | (go_at_call 60; refine (HWH2.out _ _).mono ?_; rintro e w3 ⟨rfl, HW3⟩; have HC3 := Lib.hid (heap_keep HC2.out HW3); obtain ⟨k0, k1, k2, l0, l1, l2⟩ := cell3 HC3.out))
                go_roundw
                case rel => exact ⟨nx + 1, rows, row ++ [f], vs, by omega, by go_num, HI2, by rw [← HCM.out]; exact HR, .inr (.inr (by omega)), HC2, HB2, by omega, by simp; omega⟩
                case measure => simp [intOf]; omega
            · by_cases hc10 : s[nx] = 10
              · have q1 := bneT (show ¬ (s[nx].toNat : Int) = 44 by rw [hc10]; decide)
                have q2 := beqT (show (s[nx].toNat : Int) = 10 by rw [hc10]; rfl)
                have q3 := bneF (show (s[nx].toNat : Int) = 10 by rw [hc10]; rfl)
                have HCM := Lib.hid (HF.out.line rfl hnl hc10 rows row)
                have HC10 := Lib.hid hc10
                clear hc44 hc10
                go_wp2_with (first
                  | (go_at_call 59; refine (hcall.out _).mono ?_; rintro e w1 ⟨rfl, HW1⟩; have HC1 := Lib.hid (heap_keep HC.out HW1); have HI1 := Lib.hid (HI.out.below HW1); have hz := HW1.size; have hz' := HW.out.size)
                  | (go_at_call 58; refine (hcall.out _).mono ?_; rintro e w1 ⟨rfl, HW1⟩; have HC1 := Lib.hid (heap_keep HC.out HW1); have HI1 := Lib.hid (HI.out.below HW1); have hz := HW1.size; have hz' := HW.out.size)
                  | (at_builtin; refine wpList_append_own_at _ rfl (.tmp 59) (.tmp 61) 43 rfl (w.heap.size + 1) tFld i0 (.string ⟨#[]⟩) 1 16 Tryz.underlying43 hi hz0 hz1 hz2 rfl (by decide) _ _ _ rfl (HI1.out.inner.alloc _) ⟨w1.heap.size, 0, none⟩ 1 1 [strV f] rfl rfl (one_new _ _ _) (by intro u hu; simp at hu; subst hu; rfl) (by unfold maxLen; omega) (by omega) (by have := heap_lt HC.out; simp; omega) ?_; intro v2 w2 ho2 hg2 _ hat2; obtain ⟨a2, n2, cp2, rfl⟩ := own_shape ho2; have HI2 := Lib.hid ((HI1.out.below ((Below.refl _ _).alloc (Nat.le_refl _) _)).field ho2 hg2 hat2); have HC2 := Lib.hid ((hg2.block _ (by have := heap_lt HC1.out; simp; omega) (fun e => by have := (HI1.out.inner.lt _ e.symm).1; omega)).trans (heap_keep HC1.out ((Below.refl _ _).alloc (Nat.le_refl _) _))); have HB2 := Lib.hid (((bch HW.out HW1 HW.out.size).alloc (by omega) (.cells #[.string ⟨f.toArray⟩] tFld)).grown hg2 (by simp; omega) (fun k hk => by have := (HI1.out.inner.lt _ hk).1; omega)); have hz2' := hg2.size; clear ho2 hg2 hat2)
                  | (at_builtin; refine wpList_append_own_at _ rfl (.tmp 69) (.tmp 71) 38 rfl (w.heap.size + 1) tLine j0 (.slice none 0 0) 1 24 Tryz.underlying38 hj hy0 hy1 hy2 rfl (by decide) _ _ _ rfl (HI2.out.outer.alloc _) ⟨w2.heap.size, 0, none⟩ 1 1 [.slice a2 n2 cp2] rfl rfl (one_new _ _ _) (by intro u hu; simp at hu; subst hu; exact own_one HI2.out.inner) (by unfold maxLen; omega) (by omega) (by have := heap_lt HC2.out; simp; omega) ?_; intro v3 w3 ho3 hg3 _ hat3; have HI3 := Lib.hid ((HI2.out.below ((Below.refl _ _).alloc (Nat.le_refl _) _)).rowDone ho3 hg3); have HC3 := Lib.hid ((hg3.block _ (by have := heap_lt HC2.out; simp; omega) (fun e => by have := (HI2.out.outer.lt _ e.symm).1; omega)).trans (heap_keep HC2.out ((Below.refl _ _).alloc (Nat.le_refl _) _))); have HB3 := Lib.hid ((HB2.out.alloc (by have := HB2.out.size; omega) (.cells #[.slice a2 n2 cp2] tLine)).grown hg3 (by have := HB2.out.size; simp; omega) (fun k hk => by have := (HI2.out.outer.lt _ hk).1; omega)); clear ho3 hg3 hat3)
                  | (go_at_call 60; refine (HWH2.out _ _).mono ?_; rintro e w3 ⟨rfl, HW3⟩; have HC3 := Lib.hid (heap_keep HC2.out HW3); obtain ⟨k0, k1, k2, l0, l1, l2⟩ := cell3 HC3.out))
                go_roundw
                case rel => exact ⟨nx + 1, rows ++ [row ++ [f]], [], vs ++ [_], by omega, by go_num, HI3, by rw [← HCM.out]; exact HR, .inr (.inl ⟨by omega, HC10.out⟩), HC3, HB3, by simp; omega, by simp⟩
                case measure => simp [intOf]; omega
              · have q1 := bneT (show ¬ (s[nx].toNat : Int) = 44 from fun e => hc44 ((u8_of s[nx] 44 (by decide)).1 e))
                have q2 := bneT (show ¬ (s[nx].toNat : Int) = 10 from fun e => hc10 ((u8_of s[nx] 10 (by decide)).1 e))
                have HBH := Lib.hid (HF.out.behind rfl hnl hc44 hc10 rows row)
                clear hc44 hc10
                go_wp2_with (first
                  | (go_at_call 59; refine (hcall.out _).mono ?_; rintro e w1 ⟨rfl, HW1⟩; have HC1 := Lib.hid (heap_keep HC.out HW1); obtain ⟨d0, d1, d2, e0, e1, e2⟩ := cell3 HC1.out)
                  | (go_at_call 58; refine (hcall.out _).mono ?_; rintro e w1 ⟨rfl, HW1⟩; have HC1 := Lib.hid (heap_keep HC.out HW1); obtain ⟨d0, d1, d2, e0, e1, e2⟩ := cell3 HC1.out)
                  | (go_at_call 60; refine (HWH.out _ _).mono ?_; rintro e w2 ⟨rfl, HW2⟩; have HC2 := Lib.hid (heap_keep HC1.out HW2); obtain ⟨k0, k1, k2, l0, l1, l2⟩ := cell3 HC2.out))
                rw [Exit.noGoto_ret]
                have HC3 := set3 HC2.out (.int .i64 (la : Int)) (.int .i64 (lb : Int)) (.int .i64 2)
                have HB3 := below_set3 (bch (bch HW.out HW1 HW.out.size) HW2 (by have := HW.out.size; have := HW1.size; omega)) (Nat.le_refl _) (.int .i64 (la : Int)) (.int .i64 (lb : Int)) (.int .i64 2)
                obtain ⟨m0, m1, m2, _⟩ := cell3 HC3
                exact bodyPost_ret (v := .tuple #[.slice none 0 0, .agg #[.int .i64 (la : Int), .int .i64 (lb : Int), .int .i64 2]]) (by simp [results, Tryz.results26, go_sem, m0, m1, m2]) rfl ⟨told_bad (by have h := HBH.out; rw [HR.out, HL.out] at h; exact h), HB3⟩
    · have HEL := Lib.hid (ends_line s j hlt hjs HE.out rows row)
      go_wp2_with fail
      rw [Exit.noGoto_ret]
      have HC4 := set3 HC.out (.int .i64 0) (.int .i64 0) (.int .i64 0)
      have HB4 := below_set3 HW.out (Nat.le_refl _) (.int .i64 0) (.int .i64 0) (.int .i64 0)
      have HI4 := (((HI.out.set (p := ⟨w.heap.size, 0, none⟩) (by simp) (.int .i64 0)).set (p := ⟨w.heap.size, 1, none⟩) (by simp) (.int .i64 0)).set (p := ⟨w.heap.size, 2, none⟩) (by simp) (.int .i64 0)).reads
      obtain ⟨m0, m1, m2, _⟩ := cell3 HC4
      have hRR := HR.out.symm.trans HEL.out
      exact bodyPost_ret (v := .tuple #[u4, .agg #[.int .i64 0, .int .i64 0, .int .i64 0]]) (by simp [results, Tryz.results26, go_sem, m0, m1, m2]) rfl ⟨⟨_, by rw [hRR]; rfl, by rw [hRR]; exact HI4⟩, HB4⟩

set_option maxRecDepth 100000 in
set_option maxHeartbeats 4000000 in
theorem parse_long (s : ByteArray) (w : World) (hs : ¬ s.size ≤ 65536) :
    Calls Tryz.prog 26 #[.string s] w fun e w' => Told (Csv.parse s.data.toList) e w' ∧ Below w.heap.size w w' := by
  have hR : Csv.parse s.data.toList = ([], 1, 1, 8) := by
    unfold Csv.parse
    rw [if_pos (by simp; omega)]
  rw [hR]
  have hlt : (65536 : Int) < (s.size : Int) := by omega
  clear hR
  go_enter Tryz.func26, Tryz.ntmps26
  go_wp2_with fail
  go_step3
  go_wp2_with fail
  rw [Exit.noGoto_ret]
  exact bodyPost_ret (v := .tuple #[.slice none 0 0, .agg #[.int .i64 ((1 : Nat) : Int), .int .i64 ((1 : Nat) : Int), .int .i64 ((8 : Nat) : Int)]]) (by simp [results, Tryz.results26, go_sem]) rfl ⟨told_bad rfl, (Below.refl _ _).alloc (Nat.le_refl _) _⟩
end Go.Proofs.YtgpjbigelblanaaGreatDoor

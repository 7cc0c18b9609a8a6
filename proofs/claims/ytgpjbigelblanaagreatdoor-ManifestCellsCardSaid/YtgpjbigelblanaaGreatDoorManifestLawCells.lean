/- csv.Parse: the table that it gives back lies in memory of the call's own. -/
import Derived.Test.YtgpjbigelblanaaGreatDoorCsvParse
import Derived.Test.YtgpjbigelblanaaGreatDoorManifestRefParse
import Derived.Test.YtgpjbigelblanaaGreatDoorCsvBackSpec
import Derived.Test.YtgpjbigelblanaaGreatDoorStockSpec
import Derived.Test.YtgpjbigelblanaaGreatDoorSrcOf
import Derived.Test.YtgpjbigelblanaaGreatDoorTurn
import Derived.Test.YtgpjbigelblanaaGreatDoorStockForm0
import Derived.Test.YtgpjbigelblanaaGreatDoorCsvPrint
import Derived.Test.YtgpjbigelblanaaGreatDoorCsvOwn
import Derived.Test.YtgpjbigelblanaaGreatDoorRowValid
import Derived.Deep.Cut
import Derived.Deep.CutRange
import Derived.Test.YtgpjbigelblanaaGreatDoorManifestPrint
import Derived.Test.YtgpjbigelblanaaGreatDoorManifestHeads
import Derived.Test.YtgpjbigelblanaaGreatDoorStatSame
import Derived.Test.YtgpjbigelblanaaGreatDoorMoneyRefGet
import Derived.Test.YtgpjbigelblanaaGreatDoorManifestCame
import Derived.Test.YtgpjbigelblanaaGreatDoorOpenS
import Derived.IntWalk
namespace Go.Proofs.YtgpjbigelblanaaGreatDoor
open Go.RowKit

/-- A table of rows, all in memory of the call's own. -/
structure TabI (B : Nat) (w : World) (v : Value) (L : List (List (List UInt8))) (vs : List Value) : Prop where
  own : w.ownsRow B tLine 1 v L.length vs
  each : ∀ (k : Nat) (u : Value) (r : List (List UInt8)), vs[k]? = some u → L[k]? = some r → w.ownsRow B tFld 1 u r.length (r.map strV)
theorem ownsRow_loose {w : World} {B B' : Nat} {e : TypeId} {z n : Nat} {v : Value} {xs : List Value} (h : w.ownsRow B e z v n xs) (hB : B' ≤ B) : w.ownsRow B' e z v n xs := by
  refine ⟨h.1, ?_⟩
  rcases h.2 with h2 | ⟨g, cap, cur, hv, hg, r⟩
  · exact .inl h2
  · exact .inr ⟨g, cap, cur, hv, Nat.le_trans hB hg, r⟩
theorem Inv.tabI {w : World} {B : Nat} {vr v : Value} {rows row vs} (h : Inv w (B + 1) vr v rows row vs) : TabI B w vr rows vs :=
  ⟨ownsRow_loose h.outer (by omega), fun k u r hu hr => ownsRow_loose (h.each k u r hu hr).1 (by omega)⟩
theorem TabI.len {B : Nat} {w : World} {v : Value} {L vs} (h : TabI B w v L vs) : vs.length = L.length := by have := h.own.1; omega
theorem TabI.below {B : Nat} {w w' : World} {v : Value} {L vs} (h : TabI B w v L vs) (hb : Below w.heap.size w w') : TabI B w' v L vs :=
  ⟨own_below h.own hb, fun k u r hu hr => own_below (h.each k u r hu hr) hb⟩
theorem TabI.rowz {B : Nat} {w : World} {v : Value} {L vs} (h : TabI B w v L vs) : Rowz w w.heap.size v L :=
  own_sl h.own rfl fun k u x hu hx => own_strs (h.each k u x hu hx)
/-- The rows alone are read, whatever becomes of blocks of lines. -/
theorem TabI.rows_kept {B : Nat} {w w' : World} {v v2 : Value} {L vs} {n : Nat} {xs : List Value} {B2 : Nat} (h : TabI B w v L vs) (ho : w.ownsRow B2 tLine 1 v2 n xs) (hg : w.grownBy w' v2.ownBlock) : ∀ (k : Nat) (u : Value) (r : List (List UInt8)), vs[k]? = some u → L[k]? = some r → w'.ownsRow B tFld 1 u r.length (r.map strV) :=
  fun k u r hu hr => (h.each k u r hu hr).kept hg (own_ne (h.each k u r hu hr) ho (by decide))
def ToldO (B : Nat) (r : List (List (List UInt8)) × Nat × Nat × Nat) (e : Ending) (w : World) : Prop := ∃ v vs, e = .returned (.tuple #[v, rejV r.2]) ∧ TabI B w v r.1 vs
theorem told_badO {B : Nat} {w : World} {R : List (List (List UInt8)) × Nat × Nat × Nat} {la lb c : Nat} (h : R = ([], la, lb, c)) : ToldO B R (.returned (.tuple #[.slice none 0 0, .agg #[.int .i64 (la : Int), .int .i64 (lb : Int), .int .i64 (c : Int)]])) w :=
  ⟨_, [], by rw [h]; rfl, by rw [h]; exact ⟨World.ownsRow_nil _ _ _ _, fun k u r hu => by simp at hu⟩⟩
set_option maxRecDepth 100000 in
set_option maxHeartbeats 8000000 in
theorem parse_owned (s : ByteArray) (w : World) (hs : s.size ≤ 65536) :
    Calls Tryz.prog 26 #[.string s] w fun e w' => ToldO w.heap.size (Csv.parse s.data.toList) e w' ∧ Below w.heap.size w w' := by
  obtain ⟨i0, hi, hz0, hz1, hz2⟩ := info_parts fld_info
  obtain ⟨j0, hj, hy0, hy1, hy2⟩ := info_parts line_info
  have hR : Csv.parse s.data.toList = Csv.parseOf s.data.toList (Csv.go (s.data.toList.drop 0) Csv.St.init 0) := by
    unfold Csv.parse
    rw [if_neg (by simp; omega)]
    rfl
  obtain ⟨R, hRR⟩ : ∃ R, Csv.parseOf s.data.toList (Csv.go (s.data.toList.drop 0) Csv.St.init 0) = R := ⟨_, rfl⟩
  rw [hR, hRR]
  clear hR
  go_enter Tryz.func26, Tryz.ntmps26
  go_wp2_with fail
  go_step3
  go_wp2_with fail
  go_step3
  go_wp2_with fail
  go_loopw [4, 5, 6] (fun vr v i wr => ∃ (j : Nat) (rows : List (List (List UInt8))) (row : List (List UInt8)) (vs : List Value), j ≤ s.size ∧ i = .int .i64 j ∧ Hid (Inv wr (w.heap.size + 1) vr v rows row vs) ∧ Hid (Csv.parseOf s.data.toList (Csv.go (s.data.toList.drop j) ⟨rows, row, [], 0⟩ j) = R) ∧
      Hid (j = 0 ∨ (∃ h : j - 1 < s.size, s[j - 1] = 10) ∨ j < s.size) ∧ Hid (wr.heap[w.heap.size]? = some (.cells #[.int .i64 0, .int .i64 0, .int .i64 0] tRej (0, 0))) ∧ Hid (Below w.heap.size w wr) ∧ rows.length ≤ j ∧ row.length ≤ j) (fun _ _ i _ => s.size - (intOf i).toNat)
  case atStart => exact ⟨0, [], [], [], by omega, rfl, Inv.start _ _, hRR, .inl rfl, heap_alloc_new w _, (Below.refl _ _).alloc (Nat.le_refl _) _, by simp, by simp⟩
  case round =>
    obtain ⟨j, rows, row, vs, hjs, rfl, HI, HR, HE, HC, HW, hrl, hrl2⟩ := hrel
    have H3 := cell3 HC.out
    obtain ⟨c0, c1, c2, f0, f1, f2⟩ := H3
    by_cases hlt : j < s.size
    · obtain ⟨f, nx, ok, hcall, HF, hfl⟩ : ∃ f nx ok, (∀ w, Calls Tryz.prog (if s[j] = 34 then 59 else 58) #[.string s, .int .i64 j] w fun e w' => e = .returned (.tuple #[.string ⟨f.toArray⟩, .int .i64 ((nx : Nat) : Int), .bool ok]) ∧ Below w.heap.size w w') ∧ Hid (Field s j f nx ok) ∧ f.length ≤ s.size := by
        by_cases hc : s[j] = 34
        · obtain ⟨f, nx, ok, he, h1, h2⟩ := field_quoted s j hlt hc
          refine ⟨f, nx, ok, fun w => ?_, h1, h2⟩
          rw [if_pos hc, ← he]
          exact quoted_any s j w hs hlt
        · obtain ⟨f, nx, ok, he, h1, h2⟩ := field_plain s j hlt hc
          refine ⟨f, nx, ok, fun w => ?_, h1, h2⟩
          rw [if_neg hc, ← he]
          exact (plain_any s j w hs (by omega)).mono fun e w' ⟨h1, h2⟩ => ⟨h1, h2 ▸ Below.refl _ _⟩
      have hnx := HF.out.le
      have hnj := HF.out.ge
      have HCALL := Lib.hid hcall; clear hcall
      obtain ⟨la, lb, HL, HWH⟩ := where_at s nx hs hnx
      obtain ⟨g1, hcall⟩ | ⟨g1, hcall⟩ : (((s[j].toNat : Int) == 34) = true ∧ Hid (∀ w, Calls Tryz.prog 59 #[.string s, .int .i64 j] w fun e w' => e = .returned (.tuple #[.string ⟨f.toArray⟩, .int .i64 ((nx : Nat) : Int), .bool ok]) ∧ Below w.heap.size w w')) ∨ (((s[j].toNat : Int) == 34) = false ∧ Hid (∀ w, Calls Tryz.prog 58 #[.string s, .int .i64 j] w fun e w' => e = .returned (.tuple #[.string ⟨f.toArray⟩, .int .i64 ((nx : Nat) : Int), .bool ok]) ∧ Below w.heap.size w w')) := by
        by_cases hc : s[j] = 34
        · left
          have h := HCALL.out
          rw [if_pos hc] at h
          exact ⟨by rw [hc]; rfl, h⟩
        · right
          have h := HCALL.out
          rw [if_neg hc] at h
          exact ⟨beqF (show ¬ (s[j].toNat : Int) = 34 from fun e => hc ((u8_of s[j] 34 (by decide)).1 e)), h⟩
      all_goals
        clear HCALL
        cases ok with
        | false =>
          go_wp2_with (first
            | (go_at_call 59; refine (hcall.out _).mono ?_; rintro e w1 ⟨rfl, HW1⟩; have HC1 := Lib.hid (heap_keep HC.out HW1); obtain ⟨d0, d1, d2, e0, e1, e2⟩ := cell3 HC1.out)
            | (go_at_call 58; refine (hcall.out _).mono ?_; rintro e w1 ⟨rfl, HW1⟩; have HC1 := Lib.hid (heap_keep HC.out HW1); obtain ⟨d0, d1, d2, e0, e1, e2⟩ := cell3 HC1.out)
            | (go_at_call 60; refine (HWH.out 2 _).mono ?_; rintro e w2 ⟨rfl, HW2⟩; have HC2 := Lib.hid (heap_keep HC1.out HW2); obtain ⟨k0, k1, k2, l0, l1, l2⟩ := cell3 HC2.out))
          rw [Exit.noGoto_ret]
          have HC3 := set3 HC2.out (.int .i64 (la : Int)) (.int .i64 (lb : Int)) (.int .i64 2)
          have HB3 := below_set3 (bch (bch HW.out HW1 HW.out.size) HW2 (by have := HW.out.size; have := HW1.size; omega)) (Nat.le_refl _) (.int .i64 (la : Int)) (.int .i64 (lb : Int)) (.int .i64 2)
          obtain ⟨m0, m1, m2, _⟩ := cell3 HC3
          exact bodyPost_ret (v := .tuple #[.slice none 0 0, .agg #[.int .i64 (la : Int), .int .i64 (lb : Int), .int .i64 2]]) (by simp [results, Tryz.results26, go_sem, m0, m1, m2]) rfl ⟨told_badO (by have h := HF.out.bad rfl rows row; rw [HR.out, HL.out] at h; exact h), HB3⟩
        | true =>
          by_cases hns : nx = s.size
          · have hns' := beqT (show (nx : Int) = (s.size : Int) by omega)
            have HNS := Lib.hid hns; clear hns
            go_wp2_with (first
              | (go_at_call 59; refine (hcall.out _).mono ?_; rintro e w1 ⟨rfl, HW1⟩; have HC1 := Lib.hid (heap_keep HC.out HW1); obtain ⟨d0, d1, d2, e0, e1, e2⟩ := cell3 HC1.out)
              | (go_at_call 58; refine (hcall.out _).mono ?_; rintro e w1 ⟨rfl, HW1⟩; have HC1 := Lib.hid (heap_keep HC.out HW1); obtain ⟨d0, d1, d2, e0, e1, e2⟩ := cell3 HC1.out)
              | (go_at_call 60; refine (HWH.out _ _).mono ?_; rintro e w2 ⟨rfl, HW2⟩; have HC2 := Lib.hid (heap_keep HC1.out HW2); obtain ⟨k0, k1, k2, l0, l1, l2⟩ := cell3 HC2.out))
            rw [Exit.noGoto_ret]
            have HC3 := set3 HC2.out (.int .i64 (la : Int)) (.int .i64 (lb : Int)) (.int .i64 1)
            have HB3 := below_set3 (bch (bch HW.out HW1 HW.out.size) HW2 (by have := HW.out.size; have := HW1.size; omega)) (Nat.le_refl _) (.int .i64 (la : Int)) (.int .i64 (lb : Int)) (.int .i64 1)
            obtain ⟨m0, m1, m2, _⟩ := cell3 HC3
            exact bodyPost_ret (v := .tuple #[.slice none 0 0, .agg #[.int .i64 (la : Int), .int .i64 (lb : Int), .int .i64 1]]) (by simp [results, Tryz.results26, go_sem, m0, m1, m2]) rfl ⟨told_badO (by have h := HF.out.short rfl HNS.out rows row; rw [HR.out, HL.out] at h; exact h), HB3⟩
          · have hnl : nx < s.size := by omega
            have hns' := beqF (show ¬ (nx : Int) = (s.size : Int) by omega)
            clear hns
            by_cases hc44 : s[nx] = 44
            · have q1 := bneF (show (s[nx].toNat : Int) = 44 by rw [hc44]; rfl)
              have q2 := beqF (show ¬ (s[nx].toNat : Int) = 10 by rw [hc44]; decide)
              have HCM := Lib.hid (HF.out.comma rfl hnl hc44 rows row)
              by_cases hend : nx + 1 = s.size
              · have HEC := Lib.hid (ends_comma s nx hend hc44 rows (row ++ [f]))
                obtain ⟨la2, lb2, HL2, HWH2⟩ := where_at s (nx + 1) hs (by omega)
                have hend' := beqT (show (nx : Int) + 1 = (s.size : Int) by omega)
                clear hc44 hend
                go_wp2_with (first
                  | (go_at_call 59; refine (hcall.out _).mono ?_; rintro e w1 ⟨rfl, HW1⟩; have HC1 := Lib.hid (heap_keep HC.out HW1); have HI1 := Lib.hid (HI.out.below HW1); have hz := HW1.size; have hz' := HW.out.size)
                  | (go_at_call 58; refine (hcall.out _).mono ?_; rintro e w1 ⟨rfl, HW1⟩; have HC1 := Lib.hid (heap_keep HC.out HW1); have HI1 := Lib.hid (HI.out.below HW1); have hz := HW1.size; have hz' := HW.out.size)
                  | (at_builtin; refine wpList_append_own_at _ rfl (.tmp 59) (.tmp 61) 43 rfl (w.heap.size + 1) tFld i0 (.string ⟨#[]⟩) 1 16 Tryz.underlying43 hi hz0 hz1 hz2 rfl (by decide) _ _ _ rfl (HI1.out.inner.alloc _) ⟨w1.heap.size, 0, none⟩ 1 1 [strV f] rfl rfl (one_new _ _ _) (by intro u hu; simp at hu; subst hu; rfl) (by unfold maxLen; omega) (by omega) (by have := heap_lt HC.out; simp; omega) ?_; intro v2 w2 ho2 hg2 _ hat2; obtain ⟨a2, n2, cp2, rfl⟩ := own_shape ho2; have HI2 := Lib.hid ((HI1.out.below ((Below.refl _ _).alloc (Nat.le_refl _) _)).field ho2 hg2 hat2); have HC2 := Lib.hid ((hg2.block _ (by have := heap_lt HC1.out; simp; omega) (fun e => by have := (HI1.out.inner.lt _ e.symm).1; omega)).trans (heap_keep HC1.out ((Below.refl _ _).alloc (Nat.le_refl _) _))); have HB2 := Lib.hid (((bch HW.out HW1 HW.out.size).alloc (by omega) (.cells #[.string ⟨f.toArray⟩] tFld)).grown hg2 (by simp; omega) (fun k hk => by have := (HI1.out.inner.lt _ hk).1; omega)); have hz2' := hg2.size; clear ho2 hg2 hat2)
                  | (at_builtin; refine wpList_append_own_at _ rfl (.tmp 69) (.tmp 71) 38 rfl (w.heap.size + 1) tLine j0 (.slice none 0 0) 1 24 Tryz.underlying38 hj hy0 hy1 hy2 rfl (by decide) _ _ _ rfl (HI2.out.outer.alloc _) ⟨w2.heap.size, 0, none⟩ 1 1 [.slice a2 n2 cp2] rfl rfl (one_new _ _ _) (by intro u hu; simp at hu; subst hu; exact own_one HI2.out.inner) (by unfold maxLen; omega) (by omega) (by have := heap_lt HC2.out; simp; omega) ?_; intro v3 w3 ho3 hg3 _ hat3; have HI3 := Lib.hid ((HI2.out.below ((Below.refl _ _).alloc (Nat.le_refl _) _)).rowDone ho3 hg3); have HC3 := Lib.hid ((hg3.block _ (by have := heap_lt HC2.out; simp; omega) (fun e => by have := (HI2.out.outer.lt _ e.symm).1; omega)).trans (heap_keep HC2.out ((Below.refl _ _).alloc (Nat.le_refl _) _))); have HB3 := Lib.hid ((HB2.out.alloc (by have := HB2.out.size; omega) (.cells #[.slice a2 n2 cp2] tLine)).grown hg3 (by have := HB2.out.size; simp; omega) (fun k hk => by have := (HI2.out.outer.lt _ hk).1; omega)); clear ho3 hg3 hat3)
                  | (go_at_call 60; refine (HWH2.out _ _).mono ?_; rintro e w3 ⟨rfl, HW3⟩; have HC3 := Lib.hid (heap_keep HC2.out HW3); obtain ⟨k0, k1, k2, l0, l1, l2⟩ := cell3 HC3.out))
                rw [Exit.noGoto_ret]
                have HC4 := set3 HC3.out (.int .i64 (la2 : Int)) (.int .i64 (lb2 : Int)) (.int .i64 1)
                have HB4 := below_set3 (bch HB2.out HW3 (by have := HB2.out.size; omega)) (Nat.le_refl _) (.int .i64 (la2 : Int)) (.int .i64 (lb2 : Int)) (.int .i64 1)
                obtain ⟨m0, m1, m2, _⟩ := cell3 HC4
                exact bodyPost_ret (v := .tuple #[.slice none 0 0, .agg #[.int .i64 (la2 : Int), .int .i64 (lb2 : Int), .int .i64 1]]) (by simp [results, Tryz.results26, go_sem, m0, m1, m2]) rfl ⟨told_badO (by have h := HEC.out; rw [← HCM.out, HR.out, HL2.out] at h; exact h), HB4⟩
              · have hend' := beqF (show ¬ (nx : Int) + 1 = (s.size : Int) by omega)
                have hlt2 : nx + 1 < s.size := by omega
                clear hc44 hend
                go_wp2_with (first
                  | (go_at_call 59; refine (hcall.out _).mono ?_; rintro e w1 ⟨rfl, HW1⟩; have HC1 := Lib.hid (heap_keep HC.out HW1); have HI1 := Lib.hid (HI.out.below HW1); have hz := HW1.size; have hz' := HW.out.size)
                  | (go_at_call 58; refine (hcall.out _).mono ?_; rintro e w1 ⟨rfl, HW1⟩; have HC1 := Lib.hid (heap_keep HC.out HW1); have HI1 := Lib.hid (HI.out.below HW1); have hz := HW1.size; have hz' := HW.out.size)
                  | (at_builtin; refine wpList_append_own_at _ rfl (.tmp 59) (.tmp 61) 43 rfl (w.heap.size + 1) tFld i0 (.string ⟨#[]⟩) 1 16 Tryz.underlying43 hi hz0 hz1 hz2 rfl (by decide) _ _ _ rfl (HI1.out.inner.alloc _) ⟨w1.heap.size, 0, none⟩ 1 1 [strV f] rfl rfl (one_new _ _ _) (by intro u hu; simp at hu; subst hu; rfl) (by unfold maxLen; omega) (by omega) (by have := heap_lt HC.out; simp; omega) ?_; intro v2 w2 ho2 hg2 _ hat2; obtain ⟨a2, n2, cp2, rfl⟩ := own_shape ho2; have HI2 := Lib.hid ((HI1.out.below ((Below.refl _ _).alloc (Nat.le_refl _) _)).field ho2 hg2 hat2); have HC2 := Lib.hid ((hg2.block _ (by have := heap_lt HC1.out; simp; omega) (fun e => by have := (HI1.out.inner.lt _ e.symm).1; omega)).trans (heap_keep HC1.out ((Below.refl _ _).alloc (Nat.le_refl _) _))); have HB2 := Lib.hid (((bch HW.out HW1 HW.out.size).alloc (by omega) (.cells #[.string ⟨f.toArray⟩] tFld)).grown hg2 (by simp; omega) (fun k hk => by have := (HI1.out.inner.lt _ hk).1; omega)); have hz2' := hg2.size; clear ho2 hg2 hat2)
                  | (at_builtin; refine wpList_append_own_at _ rfl (.tmp 69) (.tmp 71) 38 rfl (w.heap.size + 1) tLine j0 (.slice none 0 0) 1 24 Tryz.underlying38 hj hy0 hy1 hy2 rfl (by decide) _ _ _ rfl (HI2.out.outer.alloc _) ⟨w2.heap.size, 0, none⟩ 1 1 [.slice a2 n2 cp2] rfl rfl (one_new _ _ _) (by intro u hu; simp at hu; subst hu; exact own_one HI2.out.inner) (by unfold maxLen; omega) (by omega) (by have := heap_lt HC2.out; simp; omega) ?_; intro v3 w3 ho3 hg3 _ hat3; have HI3 := Lib.hid ((HI2.out.below ((Below.refl _ _).alloc (Nat.le_refl _) _)).rowDone ho3 hg3); have HC3 := Lib.hid ((hg3.block _ (by have := heap_lt HC2.out; simp; omega) (fun e => by have := (HI2.out.outer.lt _ e.symm).1; omega)).trans (heap_keep HC2.out ((Below.refl _ _).alloc (Nat.le_refl _) _))); have HB3 := Lib.hid ((HB2.out.alloc (by have := HB2.out.size; omega) (.cells #[.slice a2 n2 cp2] tLine)).grown hg3 (by have := HB2.out.size; simp; omega) (fun k hk => by have := (HI2.out.outer.lt _ hk).1; omega)); clear ho3 hg3 hat3)
                  | (go_at_call 60; refine (HWH2.out _ _).mono ?_; rintro e w3 ⟨rfl, HW3⟩; have HC3 := Lib.hid (heap_keep HC2.out HW3); obtain ⟨k0, k1, k2, l0, l1, l2⟩ := cell3 HC3.out))
                go_roundw
                case rel => exact ⟨nx + 1, rows, row ++ [f], vs, by omega, by go_num, HI2, by rw [← HCM.out]; exact HR, .inr (.inr (by omega)), HC2, HB2, by omega, by simp; omega⟩
                case measure => simp [intOf]; omega
            · by_cases hc10 : s[nx] = 10
              · have q1 := bneT (show ¬ (s[nx].toNat : Int) = 44 by rw [hc10]; decide)
                have q2 := beqT (show (s[nx].toNat : Int) = 10 by rw [hc10]; rfl)
                have q3 := bneF (show (s[nx].toNat : Int) = 10 by rw [hc10]; rfl)
                have HCM := Lib.hid (HF.out.line rfl hnl hc10 rows row)
                have HC10 := Lib.hid hc10
                clear hc44 hc10
                go_wp2_with (first
                  | (go_at_call 59; refine (hcall.out _).mono ?_; rintro e w1 ⟨rfl, HW1⟩; have HC1 := Lib.hid (heap_keep HC.out HW1); have HI1 := Lib.hid (HI.out.below HW1); have hz := HW1.size; have hz' := HW.out.size)
                  | (go_at_call 58; refine (hcall.out _).mono ?_; rintro e w1 ⟨rfl, HW1⟩; have HC1 := Lib.hid (heap_keep HC.out HW1); have HI1 := Lib.hid (HI.out.below HW1); have hz := HW1.size; have hz' := HW.out.size)
                  | (at_builtin; refine wpList_append_own_at _ rfl (.tmp 59) (.tmp 61) 43 rfl (w.heap.size + 1) tFld i0 (.string ⟨#[]⟩) 1 16 Tryz.underlying43 hi hz0 hz1 hz2 rfl (by decide) _ _ _ rfl (HI1.out.inner.alloc _) ⟨w1.heap.size, 0, none⟩ 1 1 [strV f] rfl rfl (one_new _ _ _) (by intro u hu; simp at hu; subst hu; rfl) (by unfold maxLen; omega) (by omega) (by have := heap_lt HC.out; simp; omega) ?_; intro v2 w2 ho2 hg2 _ hat2; obtain ⟨a2, n2, cp2, rfl⟩ := own_shape ho2; have HI2 := Lib.hid ((HI1.out.below ((Below.refl _ _).alloc (Nat.le_refl _) _)).field ho2 hg2 hat2); have HC2 := Lib.hid ((hg2.block _ (by have := heap_lt HC1.out; simp; omega) (fun e => by have := (HI1.out.inner.lt _ e.symm).1; omega)).trans (heap_keep HC1.out ((Below.refl _ _).alloc (Nat.le_refl _) _))); have HB2 := Lib.hid (((bch HW.out HW1 HW.out.size).alloc (by omega) (.cells #[.string ⟨f.toArray⟩] tFld)).grown hg2 (by simp; omega) (fun k hk => by have := (HI1.out.inner.lt _ hk).1; omega)); have hz2' := hg2.size; clear ho2 hg2 hat2)
                  | (at_builtin; refine wpList_append_own_at _ rfl (.tmp 69) (.tmp 71) 38 rfl (w.heap.size + 1) tLine j0 (.slice none 0 0) 1 24 Tryz.underlying38 hj hy0 hy1 hy2 rfl (by decide) _ _ _ rfl (HI2.out.outer.alloc _) ⟨w2.heap.size, 0, none⟩ 1 1 [.slice a2 n2 cp2] rfl rfl (one_new _ _ _) (by intro u hu; simp at hu; subst hu; exact own_one HI2.out.inner) (by unfold maxLen; omega) (by omega) (by have := heap_lt HC2.out; simp; omega) ?_; intro v3 w3 ho3 hg3 _ hat3; have HI3 := Lib.hid ((HI2.out.below ((Below.refl _ _).alloc (Nat.le_refl _) _)).rowDone ho3 hg3); have HC3 := Lib.hid ((hg3.block _ (by have := heap_lt HC2.out; simp; omega) (fun e => by have := (HI2.out.outer.lt _ e.symm).1; omega)).trans (heap_keep HC2.out ((Below.refl _ _).alloc (Nat.le_refl _) _))); have HB3 := Lib.hid ((HB2.out.alloc (by have := HB2.out.size; omega) (.cells #[.slice a2 n2 cp2] tLine)).grown hg3 (by have := HB2.out.size; simp; omega) (fun k hk => by have := (HI2.out.outer.lt _ hk).1; omega)); clear ho3 hg3 hat3)
                  | (go_at_call 60; refine (HWH2.out _ _).mono ?_; rintro e w3 ⟨rfl, HW3⟩; have HC3 := Lib.hid (heap_keep HC2.out HW3); obtain ⟨k0, k1, k2, l0, l1, l2⟩ := cell3 HC3.out))
                go_roundw
                case rel => exact ⟨nx + 1, rows ++ [row ++ [f]], [], vs ++ [_], by omega, by go_num, HI3, by rw [← HCM.out]; exact HR, .inr (.inl ⟨by omega, HC10.out⟩), HC3, HB3, by simp; omega, by simp⟩
                case measure => simp [intOf]; omega
              · have q1 := bneT (show ¬ (s[nx].toNat : Int) = 44 from fun e => hc44 ((u8_of s[nx] 44 (by decide)).1 e))
                have q2 := bneT (show ¬ (s[nx].toNat : Int) = 10 from fun e => hc10 ((u8_of s[nx] 10 (by decide)).1 e))
                have HBH := Lib.hid (HF.out.behind rfl hnl hc44 hc10 rows row)
                clear hc44 hc10
                go_wp2_with (first
                  | (go_at_call 59; refine (hcall.out _).mono ?_; rintro e w1 ⟨rfl, HW1⟩; have HC1 := Lib.hid (heap_keep HC.out HW1); obtain ⟨d0, d1, d2, e0, e1, e2⟩ := cell3 HC1.out)
                  | (go_at_call 58; refine (hcall.out _).mono ?_; rintro e w1 ⟨rfl, HW1⟩; have HC1 := Lib.hid (heap_keep HC.out HW1); obtain ⟨d0, d1, d2, e0, e1, e2⟩ := cell3 HC1.out)
                  | (go_at_call 60; refine (HWH.out _ _).mono ?_; rintro e w2 ⟨rfl, HW2⟩; have HC2 := Lib.hid (heap_keep HC1.out HW2); obtain ⟨k0, k1, k2, l0, l1, l2⟩ := cell3 HC2.out))
                rw [Exit.noGoto_ret]
                have HC3 := set3 HC2.out (.int .i64 (la : Int)) (.int .i64 (lb : Int)) (.int .i64 2)
                have HB3 := below_set3 (bch (bch HW.out HW1 HW.out.size) HW2 (by have := HW.out.size; have := HW1.size; omega)) (Nat.le_refl _) (.int .i64 (la : Int)) (.int .i64 (lb : Int)) (.int .i64 2)
                obtain ⟨m0, m1, m2, _⟩ := cell3 HC3
                exact bodyPost_ret (v := .tuple #[.slice none 0 0, .agg #[.int .i64 (la : Int), .int .i64 (lb : Int), .int .i64 2]]) (by simp [results, Tryz.results26, go_sem, m0, m1, m2]) rfl ⟨told_badO (by have h := HBH.out; rw [HR.out, HL.out] at h; exact h), HB3⟩
    · have HEL := Lib.hid (ends_line s j hlt hjs HE.out rows row)
      go_wp2_with fail
      rw [Exit.noGoto_ret]
      have HC4 := set3 HC.out (.int .i64 0) (.int .i64 0) (.int .i64 0)
      have HB4 := below_set3 HW.out (Nat.le_refl _) (.int .i64 0) (.int .i64 0) (.int .i64 0)
      have HI4 := (((HI.out.set (p := ⟨w.heap.size, 0, none⟩) (by simp) (.int .i64 0)).set (p := ⟨w.heap.size, 1, none⟩) (by simp) (.int .i64 0)).set (p := ⟨w.heap.size, 2, none⟩) (by simp) (.int .i64 0))
      obtain ⟨m0, m1, m2, _⟩ := cell3 HC4
      have hRR := HR.out.symm.trans HEL.out
      exact bodyPost_ret (v := .tuple #[u4, .agg #[.int .i64 0, .int .i64 0, .int .i64 0]]) (by simp [results, Tryz.results26, go_sem, m0, m1, m2]) rfl ⟨⟨_, _, by rw [hRR]; rfl, by rw [hRR]; exact HI4.tabI⟩, HB4⟩
end Go.Proofs.YtgpjbigelblanaaGreatDoor
/- The document's csv.Parse: the table that it gives back lies in memory of the call's own. -/
namespace Go.Proofs.YtgpjbigelblanaaGreatDoor
open Go.RowKit

set_option maxRecDepth 100000 in
set_option maxHeartbeats 16000000 in
theorem refParse_owned (s : ByteArray) (w : World) (hs : s.size ≤ 65536) :
    Calls Tryz.prog 17 #[.string s] w fun e w' => ToldO w.heap.size (Csv.parse s.data.toList) e w' ∧ Below w.heap.size w w' := by
  obtain ⟨i0, hi, hz0, hz1, hz2⟩ := info_parts fld_info
  obtain ⟨j0, hj, hy0, hy1, hy2⟩ := info_parts line_info
  have hR : Csv.parse s.data.toList = Csv.parseOf s.data.toList (Csv.go (s.data.toList.drop 0) Csv.St.init 0) := by
    unfold Csv.parse
    rw [if_neg (by simp; omega)]
    rfl
  obtain ⟨R, hRR⟩ : ∃ R, Csv.parseOf s.data.toList (Csv.go (s.data.toList.drop 0) Csv.St.init 0) = R := ⟨_, rfl⟩
  rw [hR, hRR]
  clear hR
  go_enter Tryz.func17, Tryz.ntmps17
  go_wp2_with fail
  go_loopw [4, 5, 6, 7, 8] (fun vr v fv mv i wr => ∃ (j m : Nat) (rows : List (List (List UInt8))) (row : List (List UInt8)) (f : List UInt8) (vs : List Value), j ≤ s.size ∧ i = .int .i64 j ∧ fv = .string ⟨f.toArray⟩ ∧ mv = .int .i64 m ∧ m ≤ 3 ∧ Hid (Inv wr (w.heap.size + 1) vr v rows row vs) ∧ Hid (Csv.parseOf s.data.toList (Csv.go (s.data.toList.drop j) ⟨rows, row, f, m⟩ j) = R) ∧
      Hid (wr.heap[w.heap.size]? = some (.cells #[.int .i64 0, .int .i64 0, .int .i64 0] tRej (0, 0))) ∧ Hid (Below w.heap.size w wr) ∧ rows.length ≤ j ∧ row.length ≤ j ∧ f.length ≤ j) (fun _ _ _ _ i _ => s.size - (intOf i).toNat)
  case atStart => exact ⟨0, 0, [], [], [], [], by omega, rfl, rfl, rfl, by omega, Inv.start _ _, hRR, heap_alloc_new w _, (Below.refl _ _).alloc (Nat.le_refl _) _, by simp, by simp, by simp⟩
  case round =>
    obtain ⟨j, m, rows, row, f, vs, hjs, rfl, rfl, rfl, hm, HI, HR, HC, HW, hrl, hrl2, hfl⟩ := hrel
    obtain ⟨c0, c1, c2, f0, f1, f2⟩ := cell3 HC.out
    by_cases hlt : j < s.size
    · by_cases hm2 : m = 2
      · subst hm2
        by_cases hc : s[j] = 34
        · have g1 : (s[j].toNat : Int) = 34 := by rw [hc]; rfl
          have HS := Lib.hid (go_some s j hlt ⟨rows, row, f, 2⟩ ⟨rows, row, f, 3⟩ (by simp [Csv.step, hc]))
          clear hc
          go_wp2_with fail
          go_roundw
          case rel => exact ⟨j + 1, 3, rows, row, f, vs, by omega, by go_num, rfl, rfl, by omega, HI, by rw [← HS.out]; exact HR, HC, HW, by omega, by omega, by omega⟩
          case measure => simp [intOf]; omega
        · have g1 := beqF (show ¬ (s[j].toNat : Int) = 34 from fun e => hc ((u8_of s[j] 34 (by decide)).1 e))
          have HS := Lib.hid (go_some s j hlt ⟨rows, row, f, 2⟩ ⟨rows, row, f ++ [s[j]], 2⟩ (by simp [Csv.step, hc]))
          clear hc
          go_wp2_with fail
          go_roundw
          case rel => exact ⟨j + 1, 2, rows, row, f ++ [s[j]], vs, by omega, by go_num, by rw [← string_snoc], rfl, by omega, HI, by rw [← HS.out]; exact HR, HC, HW, by omega, by omega, by simp; omega⟩
          case measure => simp [intOf]; omega
      · obtain rfl | rfl | rfl : m = 0 ∨ m = 1 ∨ m = 3 := by omega
        · clear hm2
          by_cases h10 : s[j] = 10
          · have g : (s[j].toNat : Int) = 10 := by rw [h10]; rfl
            have HS := Lib.hid (go_some s j hlt ⟨rows, row, f, 0⟩ ⟨rows ++ [row ++ [f]], [], [], 0⟩ (by simp [Csv.step, h10]))
            clear h10
            go_wp2_with (first
              | (at_builtin; refine wpList_append_own_at _ rfl (.tmp 40) (.tmp 42) 43 rfl (w.heap.size + 1) tFld i0 (.string ⟨#[]⟩) 1 16 Tryz.underlying43 hi hz0 hz1 hz2 rfl (by decide) _ _ _ rfl (HI.out.inner.alloc _) ⟨wr.heap.size, 0, none⟩ 1 1 [strV f] rfl rfl (one_new _ _ _) (by intro u hu; simp at hu; subst hu; rfl) (by unfold maxLen; omega) (by omega) (by have := heap_lt HC.out; simp; omega) ?_; intro v2 w2 ho2 hg2 _ hat2; obtain ⟨a2, n2, cp2, rfl⟩ := own_shape ho2; have HI2 := Lib.hid ((HI.out.below ((Below.refl _ _).alloc (Nat.le_refl _) _)).field ho2 hg2 hat2); have HC2 := Lib.hid ((hg2.block _ (by have := heap_lt HC.out; simp; omega) (fun e => by have := (HI.out.inner.lt _ e.symm).1; omega)).trans (heap_keep HC.out ((Below.refl _ _).alloc (Nat.le_refl _) _))); have hz' := HW.out.size; have HB2 := Lib.hid ((HW.out.alloc (by omega) (.cells #[.string ⟨f.toArray⟩] tFld)).grown hg2 (by simp; omega) (fun k hk => by have := (HI.out.inner.lt _ hk).1; omega)); have hz2' := hg2.size; clear ho2 hg2 hat2)
              | (at_builtin; refine wpList_append_own_at _ rfl (.tmp 46) (.tmp 48) 38 rfl (w.heap.size + 1) tLine j0 (.slice none 0 0) 1 24 Tryz.underlying38 hj hy0 hy1 hy2 rfl (by decide) _ _ _ rfl (HI2.out.outer.alloc _) ⟨w2.heap.size, 0, none⟩ 1 1 [.slice a2 n2 cp2] rfl rfl (one_new _ _ _) (by intro u hu; simp at hu; subst hu; exact own_one HI2.out.inner) (by unfold maxLen; omega) (by omega) (by have := heap_lt HC2.out; simp; omega) ?_; intro v3 w3 ho3 hg3 _ hat3; have HI3 := Lib.hid ((HI2.out.below ((Below.refl _ _).alloc (Nat.le_refl _) _)).rowDone ho3 hg3); have HC3 := Lib.hid ((hg3.block _ (by have := heap_lt HC2.out; simp; omega) (fun e => by have := (HI2.out.outer.lt _ e.symm).1; omega)).trans (heap_keep HC2.out ((Below.refl _ _).alloc (Nat.le_refl _) _))); have HB3 := Lib.hid ((HB2.out.alloc (by have := HB2.out.size; omega) (.cells #[.slice a2 n2 cp2] tLine)).grown hg3 (by have := HB2.out.size; simp; omega) (fun k hk => by have := (HI2.out.outer.lt _ hk).1; omega)); clear ho3 hg3 hat3))
            go_roundw
            case rel => exact ⟨j + 1, 0, rows ++ [row ++ [f]], [], [], vs ++ [_], by omega, by go_num, rfl, rfl, by omega, HI3, by rw [← HS.out]; exact HR, HC3, HB3, by simp; omega, by simp, by simp⟩
            case measure => simp [intOf]; omega
          · by_cases h44 : s[j] = 44
            · have g : (s[j].toNat : Int) = 44 := by rw [h44]; rfl
              have HS := Lib.hid (go_some s j hlt ⟨rows, row, f, 0⟩ ⟨rows, row ++ [f], [], 0⟩ (by simp [Csv.step, h44]))
              clear h10 h44
              go_wp2_with (first
                | (at_builtin; refine wpList_append_own_at _ rfl (.tmp 40) (.tmp 42) 43 rfl (w.heap.size + 1) tFld i0 (.string ⟨#[]⟩) 1 16 Tryz.underlying43 hi hz0 hz1 hz2 rfl (by decide) _ _ _ rfl (HI.out.inner.alloc _) ⟨wr.heap.size, 0, none⟩ 1 1 [strV f] rfl rfl (one_new _ _ _) (by intro u hu; simp at hu; subst hu; rfl) (by unfold maxLen; omega) (by omega) (by have := heap_lt HC.out; simp; omega) ?_; intro v2 w2 ho2 hg2 _ hat2; obtain ⟨a2, n2, cp2, rfl⟩ := own_shape ho2; have HI2 := Lib.hid ((HI.out.below ((Below.refl _ _).alloc (Nat.le_refl _) _)).field ho2 hg2 hat2); have HC2 := Lib.hid ((hg2.block _ (by have := heap_lt HC.out; simp; omega) (fun e => by have := (HI.out.inner.lt _ e.symm).1; omega)).trans (heap_keep HC.out ((Below.refl _ _).alloc (Nat.le_refl _) _))); have hz' := HW.out.size; have HB2 := Lib.hid ((HW.out.alloc (by omega) (.cells #[.string ⟨f.toArray⟩] tFld)).grown hg2 (by simp; omega) (fun k hk => by have := (HI.out.inner.lt _ hk).1; omega)); have hz2' := hg2.size; clear ho2 hg2 hat2)
                | (at_builtin; refine wpList_append_own_at _ rfl (.tmp 46) (.tmp 48) 38 rfl (w.heap.size + 1) tLine j0 (.slice none 0 0) 1 24 Tryz.underlying38 hj hy0 hy1 hy2 rfl (by decide) _ _ _ rfl (HI2.out.outer.alloc _) ⟨w2.heap.size, 0, none⟩ 1 1 [.slice a2 n2 cp2] rfl rfl (one_new _ _ _) (by intro u hu; simp at hu; subst hu; exact own_one HI2.out.inner) (by unfold maxLen; omega) (by omega) (by have := heap_lt HC2.out; simp; omega) ?_; intro v3 w3 ho3 hg3 _ hat3; have HI3 := Lib.hid ((HI2.out.below ((Below.refl _ _).alloc (Nat.le_refl _) _)).rowDone ho3 hg3); have HC3 := Lib.hid ((hg3.block _ (by have := heap_lt HC2.out; simp; omega) (fun e => by have := (HI2.out.outer.lt _ e.symm).1; omega)).trans (heap_keep HC2.out ((Below.refl _ _).alloc (Nat.le_refl _) _))); have HB3 := Lib.hid ((HB2.out.alloc (by have := HB2.out.size; omega) (.cells #[.slice a2 n2 cp2] tLine)).grown hg3 (by have := HB2.out.size; simp; omega) (fun k hk => by have := (HI2.out.outer.lt _ hk).1; omega)); clear ho3 hg3 hat3))
              go_roundw
              case rel => exact ⟨j + 1, 0, rows, row ++ [f], [], vs, by omega, by go_num, rfl, rfl, by omega, HI2, by rw [← HS.out]; exact HR, HC2, HB2, by omega, by simp; omega, by simp⟩
              case measure => simp [intOf]; omega
            · by_cases h34 : s[j] = 34
              · have g : (s[j].toNat : Int) = 34 := by rw [h34]; rfl
                have HS := Lib.hid (go_some s j hlt ⟨rows, row, f, 0⟩ ⟨rows, row, f, 2⟩ (by simp [Csv.step, h34]))
                clear h10 h44 h34
                go_wp2_with fail
                go_roundw
                case rel => exact ⟨j + 1, 2, rows, row, f, vs, by omega, by go_num, rfl, rfl, by omega, HI, by rw [← HS.out]; exact HR, HC, HW, by omega, by omega, by first | omega | (simp; omega)⟩
                case measure => simp [intOf]; omega
              · have k10 := beqF (show ¬ (s[j].toNat : Int) = 10 from fun e => h10 ((u8_of s[j] 10 (by decide)).1 e))
                have k44 := beqF (show ¬ (s[j].toNat : Int) = 44 from fun e => h44 ((u8_of s[j] 44 (by decide)).1 e))
                have k34 := beqF (show ¬ (s[j].toNat : Int) = 34 from fun e => h34 ((u8_of s[j] 34 (by decide)).1 e))
                by_cases h13 : s[j] = 13
                · have g : (s[j].toNat : Int) = 13 := by rw [h13]; rfl
                  obtain ⟨la, lb, HL, HWH⟩ := refWhere_at s j hs hjs
                  have HS := Lib.hid (go_none s j hlt ⟨rows, row, f, 0⟩ (by simp [Csv.step, h13]))
                  clear k10 k44 k34 h10 h44 h34 h13
                  go_wp2_with (go_at_call 43; refine (HWH.out _ _).mono ?_; rintro e w2 ⟨rfl, HW2⟩; have HC2 := Lib.hid (heap_keep HC.out HW2); obtain ⟨k0, k1, k2, l0, l1, l2⟩ := cell3 HC2.out)
                  have HC3 := set3 HC2.out (.int .i64 (la : Int)) (.int .i64 (lb : Int)) (.int .i64 2)
                  have HB3 := below_set3 (bch HW.out HW2 HW.out.size) (Nat.le_refl _) (.int .i64 (la : Int)) (.int .i64 (lb : Int)) (.int .i64 2)
                  obtain ⟨m0, m1, m2, _⟩ := cell3 HC3
                  exact bodyPost_ret (v := .tuple #[.slice none 0 0, .agg #[.int .i64 (la : Int), .int .i64 (lb : Int), .int .i64 2]]) (by simp [results, Tryz.results17, go_sem, m0, m1, m2]) rfl ⟨told_badO (by have h := HS.out; rw [HR.out, HL.out] at h; exact h), HB3⟩
                · have k13 := beqF (show ¬ (s[j].toNat : Int) = 13 from fun e => h13 ((u8_of s[j] 13 (by decide)).1 e))
                  have HS := Lib.hid (go_some s j hlt ⟨rows, row, f, 0⟩ ⟨rows, row, f ++ [s[j]], 1⟩ (by simp [Csv.step, h10, h44, h34, h13]))
                  clear h10 h44 h34 h13
                  go_wp2_with fail
                  go_roundw
                  case rel => exact ⟨j + 1, 1, rows, row, f ++ [s[j]], vs, by omega, by go_num, by rw [← string_snoc], rfl, by omega, HI, by rw [← HS.out]; exact HR, HC, HW, by omega, by omega, by first | omega | (simp; omega)⟩
                  case measure => simp [intOf]; omega
        · clear hm2
          by_cases h10 : s[j] = 10
          · have g : (s[j].toNat : Int) = 10 := by rw [h10]; rfl
            have HS := Lib.hid (go_some s j hlt ⟨rows, row, f, 1⟩ ⟨rows ++ [row ++ [f]], [], [], 0⟩ (by simp [Csv.step, h10]))
            clear h10
            go_wp2_with (first
              | (at_builtin; refine wpList_append_own_at _ rfl (.tmp 40) (.tmp 42) 43 rfl (w.heap.size + 1) tFld i0 (.string ⟨#[]⟩) 1 16 Tryz.underlying43 hi hz0 hz1 hz2 rfl (by decide) _ _ _ rfl (HI.out.inner.alloc _) ⟨wr.heap.size, 0, none⟩ 1 1 [strV f] rfl rfl (one_new _ _ _) (by intro u hu; simp at hu; subst hu; rfl) (by unfold maxLen; omega) (by omega) (by have := heap_lt HC.out; simp; omega) ?_; intro v2 w2 ho2 hg2 _ hat2; obtain ⟨a2, n2, cp2, rfl⟩ := own_shape ho2; have HI2 := Lib.hid ((HI.out.below ((Below.refl _ _).alloc (Nat.le_refl _) _)).field ho2 hg2 hat2); have HC2 := Lib.hid ((hg2.block _ (by have := heap_lt HC.out; simp; omega) (fun e => by have := (HI.out.inner.lt _ e.symm).1; omega)).trans (heap_keep HC.out ((Below.refl _ _).alloc (Nat.le_refl _) _))); have hz' := HW.out.size; have HB2 := Lib.hid ((HW.out.alloc (by omega) (.cells #[.string ⟨f.toArray⟩] tFld)).grown hg2 (by simp; omega) (fun k hk => by have := (HI.out.inner.lt _ hk).1; omega)); have hz2' := hg2.size; clear ho2 hg2 hat2)
              | (at_builtin; refine wpList_append_own_at _ rfl (.tmp 46) (.tmp 48) 38 rfl (w.heap.size + 1) tLine j0 (.slice none 0 0) 1 24 Tryz.underlying38 hj hy0 hy1 hy2 rfl (by decide) _ _ _ rfl (HI2.out.outer.alloc _) ⟨w2.heap.size, 0, none⟩ 1 1 [.slice a2 n2 cp2] rfl rfl (one_new _ _ _) (by intro u hu; simp at hu; subst hu; exact own_one HI2.out.inner) (by unfold maxLen; omega) (by omega) (by have := heap_lt HC2.out; simp; omega) ?_; intro v3 w3 ho3 hg3 _ hat3; have HI3 := Lib.hid ((HI2.out.below ((Below.refl _ _).alloc (Nat.le_refl _) _)).rowDone ho3 hg3); have HC3 := Lib.hid ((hg3.block _ (by have := heap_lt HC2.out; simp; omega) (fun e => by have := (HI2.out.outer.lt _ e.symm).1; omega)).trans (heap_keep HC2.out ((Below.refl _ _).alloc (Nat.le_refl _) _))); have HB3 := Lib.hid ((HB2.out.alloc (by have := HB2.out.size; omega) (.cells #[.slice a2 n2 cp2] tLine)).grown hg3 (by have := HB2.out.size; simp; omega) (fun k hk => by have := (HI2.out.outer.lt _ hk).1; omega)); clear ho3 hg3 hat3))
            go_roundw
            case rel => exact ⟨j + 1, 0, rows ++ [row ++ [f]], [], [], vs ++ [_], by omega, by go_num, rfl, rfl, by omega, HI3, by rw [← HS.out]; exact HR, HC3, HB3, by simp; omega, by simp, by simp⟩
            case measure => simp [intOf]; omega
          · by_cases h44 : s[j] = 44
            · have g : (s[j].toNat : Int) = 44 := by rw [h44]; rfl
              have HS := Lib.hid (go_some s j hlt ⟨rows, row, f, 1⟩ ⟨rows, row ++ [f], [], 0⟩ (by simp [Csv.step, h44]))
              clear h10 h44
              go_wp2_with (first
                | (at_builtin; refine wpList_append_own_at _ rfl (.tmp 40) (.tmp 42) 43 rfl (w.heap.size + 1) tFld i0 (.string ⟨#[]⟩) 1 16 Tryz.underlying43 hi hz0 hz1 hz2 rfl (by decide) _ _ _ rfl (HI.out.inner.alloc _) ⟨wr.heap.size, 0, none⟩ 1 1 [strV f] rfl rfl (one_new _ _ _) (by intro u hu; simp at hu; subst hu; rfl) (by unfold maxLen; omega) (by omega) (by have := heap_lt HC.out; simp; omega) ?_; intro v2 w2 ho2 hg2 _ hat2; obtain ⟨a2, n2, cp2, rfl⟩ := own_shape ho2; have HI2 := Lib.hid ((HI.out.below ((Below.refl _ _).alloc (Nat.le_refl _) _)).field ho2 hg2 hat2); have HC2 := Lib.hid ((hg2.block _ (by have := heap_lt HC.out; simp; omega) (fun e => by have := (HI.out.inner.lt _ e.symm).1; omega)).trans (heap_keep HC.out ((Below.refl _ _).alloc (Nat.le_refl _) _))); have hz' := HW.out.size; have HB2 := Lib.hid ((HW.out.alloc (by omega) (.cells #[.string ⟨f.toArray⟩] tFld)).grown hg2 (by simp; omega) (fun k hk => by have := (HI.out.inner.lt _ hk).1; omega)); have hz2' := hg2.size; clear ho2 hg2 hat2)
                | (at_builtin; refine wpList_append_own_at _ rfl (.tmp 46) (.tmp 48) 38 rfl (w.heap.size + 1) tLine j0 (.slice none 0 0) 1 24 Tryz.underlying38 hj hy0 hy1 hy2 rfl (by decide) _ _ _ rfl (HI2.out.outer.alloc _) ⟨w2.heap.size, 0, none⟩ 1 1 [.slice a2 n2 cp2] rfl rfl (one_new _ _ _) (by intro u hu; simp at hu; subst hu; exact own_one HI2.out.inner) (by unfold maxLen; omega) (by omega) (by have := heap_lt HC2.out; simp; omega) ?_; intro v3 w3 ho3 hg3 _ hat3; have HI3 := Lib.hid ((HI2.out.below ((Below.refl _ _).alloc (Nat.le_refl _) _)).rowDone ho3 hg3); have HC3 := Lib.hid ((hg3.block _ (by have := heap_lt HC2.out; simp; omega) (fun e => by have := (HI2.out.outer.lt _ e.symm).1; omega)).trans (heap_keep HC2.out ((Below.refl _ _).alloc (Nat.le_refl _) _))); have HB3 := Lib.hid ((HB2.out.alloc (by have := HB2.out.size; omega) (.cells #[.slice a2 n2 cp2] tLine)).grown hg3 (by have := HB2.out.size; simp; omega) (fun k hk => by have := (HI2.out.outer.lt _ hk).1; omega)); clear ho3 hg3 hat3))
              go_roundw
              case rel => exact ⟨j + 1, 0, rows, row ++ [f], [], vs, by omega, by go_num, rfl, rfl, by omega, HI2, by rw [← HS.out]; exact HR, HC2, HB2, by omega, by simp; omega, by simp⟩
              case measure => simp [intOf]; omega
            · by_cases h34 : s[j] = 34
              · have g : (s[j].toNat : Int) = 34 := by rw [h34]; rfl
                obtain ⟨la, lb, HL, HWH⟩ := refWhere_at s j hs hjs
                have HS := Lib.hid (go_none s j hlt ⟨rows, row, f, 1⟩ (by simp [Csv.step, h34]))
                clear h10 h44 h34
                go_wp2_with (go_at_call 43; refine (HWH.out _ _).mono ?_; rintro e w2 ⟨rfl, HW2⟩; have HC2 := Lib.hid (heap_keep HC.out HW2); obtain ⟨k0, k1, k2, l0, l1, l2⟩ := cell3 HC2.out)
                have HC3 := set3 HC2.out (.int .i64 (la : Int)) (.int .i64 (lb : Int)) (.int .i64 2)
                have HB3 := below_set3 (bch HW.out HW2 HW.out.size) (Nat.le_refl _) (.int .i64 (la : Int)) (.int .i64 (lb : Int)) (.int .i64 2)
                obtain ⟨m0, m1, m2, _⟩ := cell3 HC3
                exact bodyPost_ret (v := .tuple #[.slice none 0 0, .agg #[.int .i64 (la : Int), .int .i64 (lb : Int), .int .i64 2]]) (by simp [results, Tryz.results17, go_sem, m0, m1, m2]) rfl ⟨told_badO (by have h := HS.out; rw [HR.out, HL.out] at h; exact h), HB3⟩
              · have k10 := beqF (show ¬ (s[j].toNat : Int) = 10 from fun e => h10 ((u8_of s[j] 10 (by decide)).1 e))
                have k44 := beqF (show ¬ (s[j].toNat : Int) = 44 from fun e => h44 ((u8_of s[j] 44 (by decide)).1 e))
                have k34 := beqF (show ¬ (s[j].toNat : Int) = 34 from fun e => h34 ((u8_of s[j] 34 (by decide)).1 e))
                by_cases h13 : s[j] = 13
                · have g : (s[j].toNat : Int) = 13 := by rw [h13]; rfl
                  obtain ⟨la, lb, HL, HWH⟩ := refWhere_at s j hs hjs
                  have HS := Lib.hid (go_none s j hlt ⟨rows, row, f, 1⟩ (by simp [Csv.step, h13]))
                  clear k10 k44 k34 h10 h44 h34 h13
                  go_wp2_with (go_at_call 43; refine (HWH.out _ _).mono ?_; rintro e w2 ⟨rfl, HW2⟩; have HC2 := Lib.hid (heap_keep HC.out HW2); obtain ⟨k0, k1, k2, l0, l1, l2⟩ := cell3 HC2.out)
                  have HC3 := set3 HC2.out (.int .i64 (la : Int)) (.int .i64 (lb : Int)) (.int .i64 2)
                  have HB3 := below_set3 (bch HW.out HW2 HW.out.size) (Nat.le_refl _) (.int .i64 (la : Int)) (.int .i64 (lb : Int)) (.int .i64 2)
                  obtain ⟨m0, m1, m2, _⟩ := cell3 HC3
                  exact bodyPost_ret (v := .tuple #[.slice none 0 0, .agg #[.int .i64 (la : Int), .int .i64 (lb : Int), .int .i64 2]]) (by simp [results, Tryz.results17, go_sem, m0, m1, m2]) rfl ⟨told_badO (by have h := HS.out; rw [HR.out, HL.out] at h; exact h), HB3⟩
                · have k13 := beqF (show ¬ (s[j].toNat : Int) = 13 from fun e => h13 ((u8_of s[j] 13 (by decide)).1 e))
                  have HS := Lib.hid (go_some s j hlt ⟨rows, row, f, 1⟩ ⟨rows, row, f ++ [s[j]], 1⟩ (by simp [Csv.step, h10, h44, h34, h13]))
                  clear h10 h44 h34 h13
                  go_wp2_with fail
                  go_roundw
                  case rel => exact ⟨j + 1, 1, rows, row, f ++ [s[j]], vs, by omega, by go_num, by rw [← string_snoc], rfl, by omega, HI, by rw [← HS.out]; exact HR, HC, HW, by omega, by omega, by first | omega | (simp; omega)⟩
                  case measure => simp [intOf]; omega
        · clear hm2
          by_cases h10 : s[j] = 10
          · have g : (s[j].toNat : Int) = 10 := by rw [h10]; rfl
            have HS := Lib.hid (go_some s j hlt ⟨rows, row, f, 3⟩ ⟨rows ++ [row ++ [f]], [], [], 0⟩ (by simp [Csv.step, h10]))
            clear h10
            go_wp2_with (first
              | (at_builtin; refine wpList_append_own_at _ rfl (.tmp 40) (.tmp 42) 43 rfl (w.heap.size + 1) tFld i0 (.string ⟨#[]⟩) 1 16 Tryz.underlying43 hi hz0 hz1 hz2 rfl (by decide) _ _ _ rfl (HI.out.inner.alloc _) ⟨wr.heap.size, 0, none⟩ 1 1 [strV f] rfl rfl (one_new _ _ _) (by intro u hu; simp at hu; subst hu; rfl) (by unfold maxLen; omega) (by omega) (by have := heap_lt HC.out; simp; omega) ?_; intro v2 w2 ho2 hg2 _ hat2; obtain ⟨a2, n2, cp2, rfl⟩ := own_shape ho2; have HI2 := Lib.hid ((HI.out.below ((Below.refl _ _).alloc (Nat.le_refl _) _)).field ho2 hg2 hat2); have HC2 := Lib.hid ((hg2.block _ (by have := heap_lt HC.out; simp; omega) (fun e => by have := (HI.out.inner.lt _ e.symm).1; omega)).trans (heap_keep HC.out ((Below.refl _ _).alloc (Nat.le_refl _) _))); have hz' := HW.out.size; have HB2 := Lib.hid ((HW.out.alloc (by omega) (.cells #[.string ⟨f.toArray⟩] tFld)).grown hg2 (by simp; omega) (fun k hk => by have := (HI.out.inner.lt _ hk).1; omega)); have hz2' := hg2.size; clear ho2 hg2 hat2)
              | (at_builtin; refine wpList_append_own_at _ rfl (.tmp 46) (.tmp 48) 38 rfl (w.heap.size + 1) tLine j0 (.slice none 0 0) 1 24 Tryz.underlying38 hj hy0 hy1 hy2 rfl (by decide) _ _ _ rfl (HI2.out.outer.alloc _) ⟨w2.heap.size, 0, none⟩ 1 1 [.slice a2 n2 cp2] rfl rfl (one_new _ _ _) (by intro u hu; simp at hu; subst hu; exact own_one HI2.out.inner) (by unfold maxLen; omega) (by omega) (by have := heap_lt HC2.out; simp; omega) ?_; intro v3 w3 ho3 hg3 _ hat3; have HI3 := Lib.hid ((HI2.out.below ((Below.refl _ _).alloc (Nat.le_refl _) _)).rowDone ho3 hg3); have HC3 := Lib.hid ((hg3.block _ (by have := heap_lt HC2.out; simp; omega) (fun e => by have := (HI2.out.outer.lt _ e.symm).1; omega)).trans (heap_keep HC2.out ((Below.refl _ _).alloc (Nat.le_refl _) _))); have HB3 := Lib.hid ((HB2.out.alloc (by have := HB2.out.size; omega) (.cells #[.slice a2 n2 cp2] tLine)).grown hg3 (by have := HB2.out.size; simp; omega) (fun k hk => by have := (HI2.out.outer.lt _ hk).1; omega)); clear ho3 hg3 hat3))
            go_roundw
            case rel => exact ⟨j + 1, 0, rows ++ [row ++ [f]], [], [], vs ++ [_], by omega, by go_num, rfl, rfl, by omega, HI3, by rw [← HS.out]; exact HR, HC3, HB3, by simp; omega, by simp, by simp⟩
            case measure => simp [intOf]; omega
          · by_cases h44 : s[j] = 44
            · have g : (s[j].toNat : Int) = 44 := by rw [h44]; rfl
              have HS := Lib.hid (go_some s j hlt ⟨rows, row, f, 3⟩ ⟨rows, row ++ [f], [], 0⟩ (by simp [Csv.step, h44]))
              clear h10 h44
              go_wp2_with (first
                | (at_builtin; refine wpList_append_own_at _ rfl (.tmp 40) (.tmp 42) 43 rfl (w.heap.size + 1) tFld i0 (.string ⟨#[]⟩) 1 16 Tryz.underlying43 hi hz0 hz1 hz2 rfl (by decide) _ _ _ rfl (HI.out.inner.alloc _) ⟨wr.heap.size, 0, none⟩ 1 1 [strV f] rfl rfl (one_new _ _ _) (by intro u hu; simp at hu; subst hu; rfl) (by unfold maxLen; omega) (by omega) (by have := heap_lt HC.out; simp; omega) ?_; intro v2 w2 ho2 hg2 _ hat2; obtain ⟨a2, n2, cp2, rfl⟩ := own_shape ho2; have HI2 := Lib.hid ((HI.out.below ((Below.refl _ _).alloc (Nat.le_refl _) _)).field ho2 hg2 hat2); have HC2 := Lib.hid ((hg2.block _ (by have := heap_lt HC.out; simp; omega) (fun e => by have := (HI.out.inner.lt _ e.symm).1; omega)).trans (heap_keep HC.out ((Below.refl _ _).alloc (Nat.le_refl _) _))); have hz' := HW.out.size; have HB2 := Lib.hid ((HW.out.alloc (by omega) (.cells #[.string ⟨f.toArray⟩] tFld)).grown hg2 (by simp; omega) (fun k hk => by have := (HI.out.inner.lt _ hk).1; omega)); have hz2' := hg2.size; clear ho2 hg2 hat2)
                | (at_builtin; refine wpList_append_own_at _ rfl (.tmp 46) (.tmp 48) 38 rfl (w.heap.size + 1) tLine j0 (.slice none 0 0) 1 24 Tryz.underlying38 hj hy0 hy1 hy2 rfl (by decide) _ _ _ rfl (HI2.out.outer.alloc _) ⟨w2.heap.size, 0, none⟩ 1 1 [.slice a2 n2 cp2] rfl rfl (one_new _ _ _) (by intro u hu; simp at hu; subst hu; exact own_one HI2.out.inner) (by unfold maxLen; omega) (by omega) (by have := heap_lt HC2.out; simp; omega) ?_; intro v3 w3 ho3 hg3 _ hat3; have HI3 := Lib.hid ((HI2.out.below ((Below.refl _ _).alloc (Nat.le_refl _) _)).rowDone ho3 hg3); have HC3 := Lib.hid ((hg3.block _ (by have := heap_lt HC2.out; simp; omega) (fun e => by have := (HI2.out.outer.lt _ e.symm).1; omega)).trans (heap_keep HC2.out ((Below.refl _ _).alloc (Nat.le_refl _) _))); have HB3 := Lib.hid ((HB2.out.alloc (by have := HB2.out.size; omega) (.cells #[.slice a2 n2 cp2] tLine)).grown hg3 (by have := HB2.out.size; simp; omega) (fun k hk => by have := (HI2.out.outer.lt _ hk).1; omega)); clear ho3 hg3 hat3))
              go_roundw
              case rel => exact ⟨j + 1, 0, rows, row ++ [f], [], vs, by omega, by go_num, rfl, rfl, by omega, HI2, by rw [← HS.out]; exact HR, HC2, HB2, by omega, by simp; omega, by simp⟩
              case measure => simp [intOf]; omega
            · by_cases h34 : s[j] = 34
              · have g : (s[j].toNat : Int) = 34 := by rw [h34]; rfl
                have HS := Lib.hid (go_some s j hlt ⟨rows, row, f, 3⟩ ⟨rows, row, f ++ [34], 2⟩ (by simp [Csv.step, h34]))
                clear h10 h44 h34
                go_wp2_with fail
                go_roundw
                case rel => exact ⟨j + 1, 2, rows, row, f ++ [34], vs, by omega, by go_num, by first | rfl | (congr 1), rfl, by omega, HI, by rw [← HS.out]; exact HR, HC, HW, by omega, by omega, by first | omega | (simp; omega)⟩
                case measure => simp [intOf]; omega
              · have k10 := beqF (show ¬ (s[j].toNat : Int) = 10 from fun e => h10 ((u8_of s[j] 10 (by decide)).1 e))
                have k44 := beqF (show ¬ (s[j].toNat : Int) = 44 from fun e => h44 ((u8_of s[j] 44 (by decide)).1 e))
                have k34 := beqF (show ¬ (s[j].toNat : Int) = 34 from fun e => h34 ((u8_of s[j] 34 (by decide)).1 e))
                by_cases h13 : s[j] = 13
                · have g : (s[j].toNat : Int) = 13 := by rw [h13]; rfl
                  obtain ⟨la, lb, HL, HWH⟩ := refWhere_at s j hs hjs
                  have HS := Lib.hid (go_none s j hlt ⟨rows, row, f, 3⟩ (by simp [Csv.step, h13]))
                  clear k10 k44 k34 h10 h44 h34 h13
                  go_wp2_with (go_at_call 43; refine (HWH.out _ _).mono ?_; rintro e w2 ⟨rfl, HW2⟩; have HC2 := Lib.hid (heap_keep HC.out HW2); obtain ⟨k0, k1, k2, l0, l1, l2⟩ := cell3 HC2.out)
                  have HC3 := set3 HC2.out (.int .i64 (la : Int)) (.int .i64 (lb : Int)) (.int .i64 2)
                  have HB3 := below_set3 (bch HW.out HW2 HW.out.size) (Nat.le_refl _) (.int .i64 (la : Int)) (.int .i64 (lb : Int)) (.int .i64 2)
                  obtain ⟨m0, m1, m2, _⟩ := cell3 HC3
                  exact bodyPost_ret (v := .tuple #[.slice none 0 0, .agg #[.int .i64 (la : Int), .int .i64 (lb : Int), .int .i64 2]]) (by simp [results, Tryz.results17, go_sem, m0, m1, m2]) rfl ⟨told_badO (by have h := HS.out; rw [HR.out, HL.out] at h; exact h), HB3⟩
                · have k13 := beqF (show ¬ (s[j].toNat : Int) = 13 from fun e => h13 ((u8_of s[j] 13 (by decide)).1 e))
                  obtain ⟨la, lb, HL, HWH⟩ := refWhere_at s j hs hjs
                  have HS := Lib.hid (go_none s j hlt ⟨rows, row, f, 3⟩ (by simp [Csv.step, h10, h44, h34, h13]))
                  clear h10 h44 h34 h13
                  go_wp2_with (go_at_call 43; refine (HWH.out _ _).mono ?_; rintro e w2 ⟨rfl, HW2⟩; have HC2 := Lib.hid (heap_keep HC.out HW2); obtain ⟨k0, k1, k2, l0, l1, l2⟩ := cell3 HC2.out)
                  have HC3 := set3 HC2.out (.int .i64 (la : Int)) (.int .i64 (lb : Int)) (.int .i64 2)
                  have HB3 := below_set3 (bch HW.out HW2 HW.out.size) (Nat.le_refl _) (.int .i64 (la : Int)) (.int .i64 (lb : Int)) (.int .i64 2)
                  obtain ⟨m0, m1, m2, _⟩ := cell3 HC3
                  exact bodyPost_ret (v := .tuple #[.slice none 0 0, .agg #[.int .i64 (la : Int), .int .i64 (lb : Int), .int .i64 2]]) (by simp [results, Tryz.results17, go_sem, m0, m1, m2]) rfl ⟨told_badO (by have h := HS.out; rw [HR.out, HL.out] at h; exact h), HB3⟩
    · obtain rfl : j = s.size := by omega
      by_cases hm2 : m = 2
      · subst hm2
        obtain ⟨la, lb, HL, HWH⟩ := refWhere_at s s.size hs (Nat.le_refl _)
        rw [take_all] at HL
        have HS := Lib.hid (show R = ([], la, lb, 2) by rw [← HR.out, go_end s s.size (by omega), show Csv.fin s.data.toList ⟨rows, row, f, 2⟩ = 2 from rfl, HL.out]; rfl)
        go_wp2_with (go_at_call 43; refine (HWH.out _ _).mono ?_; rintro e w2 ⟨rfl, HW2⟩; have HC2 := Lib.hid (heap_keep HC.out HW2); obtain ⟨k0, k1, k2, l0, l1, l2⟩ := cell3 HC2.out)
        have HC3 := set3 HC2.out (.int .i64 (la : Int)) (.int .i64 (lb : Int)) (.int .i64 2)
        have HB3 := below_set3 (bch HW.out HW2 HW.out.size) (Nat.le_refl _) (.int .i64 (la : Int)) (.int .i64 (lb : Int)) (.int .i64 2)
        obtain ⟨m0, m1, m2, _⟩ := cell3 HC3
        exact bodyPost_ret (v := .tuple #[.slice none 0 0, .agg #[.int .i64 (la : Int), .int .i64 (lb : Int), .int .i64 2]]) (by simp [results, Tryz.results17, go_sem, m0, m1, m2]) rfl ⟨told_badO HS.out, HB3⟩
      · have hm2' := beqF (show ¬ (m : Int) = 2 by omega)
        by_cases hz : s.size = 0
        · have hz' : ¬ ((0 : Int) < (s.size : Int)) := by omega
          have hnil : s.data.toList = [] := List.eq_nil_of_length_eq_zero (by simpa using hz)
          have hfin : Csv.fin s.data.toList ⟨rows, row, f, m⟩ = 0 := by simp [Csv.fin, hm2, hnil]
          have HS := Lib.hid (show R = (rows, 0, 0, 0) by rw [← HR.out, go_end s s.size (by omega), hfin]; rfl)
          clear hfin hnil hz hm2
          go_wp2_with fail
          have HC4 := set3 HC.out (.int .i64 0) (.int .i64 0) (.int .i64 0)
          have HB4 := below_set3 HW.out (Nat.le_refl _) (.int .i64 0) (.int .i64 0) (.int .i64 0)
          have HI4 := (((HI.out.set (p := ⟨w.heap.size, 0, none⟩) (by simp) (.int .i64 0)).set (p := ⟨w.heap.size, 1, none⟩) (by simp) (.int .i64 0)).set (p := ⟨w.heap.size, 2, none⟩) (by simp) (.int .i64 0))
          obtain ⟨m0, m1, m2, _⟩ := cell3 HC4
          exact bodyPost_ret (v := .tuple #[u4, .agg #[.int .i64 0, .int .i64 0, .int .i64 0]]) (by simp [results, Tryz.results17, go_sem, m0, m1, m2]) rfl ⟨⟨_, _, by rw [HS.out]; rfl, by rw [HS.out]; exact HI4.tabI⟩, HB4⟩
        · have hz1 : 0 < s.size := by omega
          have hz' : (0 : Int) < (s.size : Int) := by omega
          by_cases hm0 : m = 0
          · subst hm0
            by_cases hc : s[s.size - 1]'(by omega) = 10
            · have hfin : Csv.fin s.data.toList ⟨rows, row, f, 0⟩ = 0 := by simp [Csv.fin, last_eq s hz1, hc]
              have q1 := bneF (show ((s[s.size - 1]'(by omega)).toNat : Int) = 10 by rw [hc]; rfl)
              have HS := Lib.hid (show R = (rows, 0, 0, 0) by rw [← HR.out, go_end s s.size (by omega), hfin]; rfl)
              clear hfin hc hm2
              go_wp2_with fail
              have HC4 := set3 HC.out (.int .i64 0) (.int .i64 0) (.int .i64 0)
              have HB4 := below_set3 HW.out (Nat.le_refl _) (.int .i64 0) (.int .i64 0) (.int .i64 0)
              have HI4 := (((HI.out.set (p := ⟨w.heap.size, 0, none⟩) (by simp) (.int .i64 0)).set (p := ⟨w.heap.size, 1, none⟩) (by simp) (.int .i64 0)).set (p := ⟨w.heap.size, 2, none⟩) (by simp) (.int .i64 0))
              obtain ⟨m0, m1, m2, _⟩ := cell3 HC4
              exact bodyPost_ret (v := .tuple #[u4, .agg #[.int .i64 0, .int .i64 0, .int .i64 0]]) (by simp [results, Tryz.results17, go_sem, m0, m1, m2]) rfl ⟨⟨_, _, by rw [HS.out]; rfl, by rw [HS.out]; exact HI4.tabI⟩, HB4⟩
            · have hfin : Csv.fin s.data.toList ⟨rows, row, f, 0⟩ = 1 := by simp [Csv.fin, last_eq s hz1, hc, ne_nil s hz1]
              have q1 := bneT (show ¬ ((s[s.size - 1]'(by omega)).toNat : Int) = 10 from fun e => hc ((u8_of _ 10 (by decide)).1 e))
              obtain ⟨la, lb, HL, HWH⟩ := refWhere_at s s.size hs (Nat.le_refl _)
              rw [take_all] at HL
              have HS := Lib.hid (show R = ([], la, lb, 1) by rw [← HR.out, go_end s s.size (by omega), hfin, HL.out]; rfl)
              clear hfin hc hm2
              go_wp2_with (go_at_call 43; refine (HWH.out _ _).mono ?_; rintro e w2 ⟨rfl, HW2⟩; have HC2 := Lib.hid (heap_keep HC.out HW2); obtain ⟨k0, k1, k2, l0, l1, l2⟩ := cell3 HC2.out)
              have HC3 := set3 HC2.out (.int .i64 (la : Int)) (.int .i64 (lb : Int)) (.int .i64 1)
              have HB3 := below_set3 (bch HW.out HW2 HW.out.size) (Nat.le_refl _) (.int .i64 (la : Int)) (.int .i64 (lb : Int)) (.int .i64 1)
              obtain ⟨m0, m1, m2, _⟩ := cell3 HC3
              exact bodyPost_ret (v := .tuple #[.slice none 0 0, .agg #[.int .i64 (la : Int), .int .i64 (lb : Int), .int .i64 1]]) (by simp [results, Tryz.results17, go_sem, m0, m1, m2]) rfl ⟨told_badO HS.out, HB3⟩
          · have hfin : Csv.fin s.data.toList ⟨rows, row, f, m⟩ = 1 := by simp [Csv.fin, hm2, hm0, ne_nil s hz1]
            have q1 := bneT (show ¬ (m : Int) = 0 by omega)
            obtain ⟨la, lb, HL, HWH⟩ := refWhere_at s s.size hs (Nat.le_refl _)
            rw [take_all] at HL
            have HS := Lib.hid (show R = ([], la, lb, 1) by rw [← HR.out, go_end s s.size (by omega), hfin, HL.out]; rfl)
            clear hfin hm0 hm2
            go_wp2_with (go_at_call 43; refine (HWH.out _ _).mono ?_; rintro e w2 ⟨rfl, HW2⟩; have HC2 := Lib.hid (heap_keep HC.out HW2); obtain ⟨k0, k1, k2, l0, l1, l2⟩ := cell3 HC2.out)
            have HC3 := set3 HC2.out (.int .i64 (la : Int)) (.int .i64 (lb : Int)) (.int .i64 1)
            have HB3 := below_set3 (bch HW.out HW2 HW.out.size) (Nat.le_refl _) (.int .i64 (la : Int)) (.int .i64 (lb : Int)) (.int .i64 1)
            obtain ⟨m0, m1, m2, _⟩ := cell3 HC3
            exact bodyPost_ret (v := .tuple #[.slice none 0 0, .agg #[.int .i64 (la : Int), .int .i64 (lb : Int), .int .i64 1]]) (by simp [results, Tryz.results17, go_sem, m0, m1, m2]) rfl ⟨told_badO HS.out, HB3⟩
end Go.Proofs.YtgpjbigelblanaaGreatDoor
/- A table of the call's own as what an append reads; a short row's room. -/
namespace Go.Proofs.YtgpjbigelblanaaGreatDoor
open Go.RowKit Go.Maps Key Mon Sk Rw

namespace Sk
theorem roomRow_small : ∀ (b : Line), (∀ f ∈ b, f.length ≤ 20) → Csv.roomRow b ≤ 63 * b.length
  | [], _ => by simp [Csv.roomRow]
  | f :: t, h => by
    have h1 := roomRow_small t fun g hg => h g (List.mem_cons_of_mem _ hg)
    have h2 := h f (List.mem_cons_self ..)
    have e : Csv.roomRow (f :: t) = (3 * f.length + 3) + Csv.roomRow t := by simp [Csv.roomRow]
    rw [e, List.length_cons]
    omega
end Sk
theorem TabI.one {B : Nat} {w : World} {v : Value} {L : List Line} {vs : List Value} (h : TabI B w v L vs) : ∀ u ∈ vs, u.oneCell' = true := fun u hu => by
  obtain ⟨k, hk, e⟩ := List.getElem_of_mem hu
  have hu' : vs[k]? = some u := by rw [List.getElem?_eq_getElem hk, e]
  obtain ⟨r, hL⟩ : ∃ r, L[k]? = some r := ⟨_, List.getElem?_eq_getElem (by rw [← h.len]; exact hk)⟩
  exact own_one (h.each k u _ hu' hL)
theorem TabI.src {B : Nat} {w : World} {v : Value} {L : List Line} {vs : List Value} (h : TabI B w v L vs) : SrcL w v L.length 1 vs := by
  refine ⟨by rw [h.len]; omega, h.one, ?_⟩
  rcases h.own.2 with ⟨rfl, h0⟩ | ⟨g, cap, cur, rfl, r⟩
  · exact .inl ⟨rfl, h0⟩
  · exact .inr ⟨⟨g, 0, none⟩, cap, rfl, fun j x hj => h.own.cells (g := g) rfl j x hj⟩
end Go.Proofs.YtgpjbigelblanaaGreatDoor
/- Tables of the call's own in which rows are put, left out or doubled; their texts are short. -/
namespace Go.Proofs.YtgpjbigelblanaaGreatDoor
open Go.RowKit Go.Maps Key Mon Sk Rw

theorem TabI.set {B : Nat} {w : World} {g n c : Nat} {L : List Line} {vs : List Value} (h : TabI B w (.slice (some ⟨g, 0, none⟩) n c) L vs) {k : Nat} (hk : k < L.length) {u : Value} {r : Line} (hu : w.ownsRow B tFld 1 u r.length (r.map strV)) :
    TabI B (w.setCell ⟨g, k, none⟩ u) (.slice (some ⟨g, 0, none⟩) n c) (L.set k r) (vs.set k u) := by
  have hkeep : ∀ {u' : Value} {r' : Line}, w.ownsRow B tFld 1 u' r'.length (r'.map strV) → (w.setCell ⟨g, k, none⟩ u).ownsRow B tFld 1 u' r'.length (r'.map strV) := fun {u' r'} ho =>
    own_turned ho (turned_set w g k u) (fun j hj e => by
      rcases own_ne ho h.own (by decide) with h0 | h0
      · rw [h0] at hj; cases hj
      · exact h0 (by rw [hj, e]; rfl))
  have hlen := h.len
  have hown := h.own.2
  rcases hown with ⟨e, _⟩ | ⟨g', cap, cur, e, hB, hg, hc, hmx, hs, hx⟩
  · cases e
  · injection e with e1 e2 e3
    injection e1 with e1
    injection e1 with e1 _ _
    subst e1; subst e2; subst e3
    have hg' : (w.setCell ⟨g, k, none⟩ u).heap[g]? = some (.cells (cur.setIfInBounds k u) tLine (0, 0)) := by simp [World.setCell, Array.getElem?_modify, hg]
    refine ⟨⟨by simp [hlen], .inr ⟨g, c, cur.setIfInBounds k u, by simp, hB, hg', by simpa using hc, hmx, by simpa using hs, ?_⟩⟩, fun j u' r' hj hr => ?_⟩
    · rw [Array.toList_setIfInBounds, List.take_set]
      rw [show (L.set k r).length * 1 = L.length * 1 by simp, hx]
    · have hjl : j < L.length := by have := (List.getElem?_eq_some_iff.1 hr).1; simpa using this
      by_cases hjk : j = k
      · subst hjk
        rw [List.getElem?_set_self (by omega)] at hj
        rw [List.getElem?_set_self hjl] at hr
        injection hj with hj
        injection hr with hr
        subst hj; subst hr
        exact hkeep hu
      · rw [List.getElem?_set_ne (fun e => hjk e.symm)] at hj hr
        exact hkeep (h.each j u' r' hj hr)
theorem TabI.takeS {B : Nat} {w W : World} {g n c : Nat} {L : List Line} {vs : List Value} (h : TabI B w (.slice (some ⟨g, 0, none⟩) n c) L vs) (hb : Below w.heap.size w W) {k : Nat} (hk : k ≤ L.length) : SrcL W (.slice (some ⟨g, 0, none⟩) k c) k 1 (vs.take k) := by
  have h' := h.below hb
  have hlen := h.len
  refine ⟨by simp; omega, fun u hu => h.one u (List.mem_of_mem_take hu), .inr ⟨_, _, rfl, fun j x hj => ?_⟩⟩
  rw [List.getElem?_take] at hj
  split at hj
  · exact h'.own.cells (g := g) (by rcases h'.own.2 with ⟨e, _⟩ | ⟨g', cap, cur, e, _⟩; cases e; injection e with _ e2 _; rfl) j x hj
  · cases hj
theorem TabI.dropS {B : Nat} {w W : World} {g n c c' : Nat} {L : List Line} {vs : List Value} (h : TabI B w (.slice (some ⟨g, 0, none⟩) n c) L vs) (hb : Below w.heap.size w W) {k : Nat} (hk : k ≤ L.length) : SrcL W (.slice (some ⟨g, k, none⟩) (L.length - k) c') (L.length - k) 1 (vs.drop k) := by
  have h' := h.below hb
  have hlen := h.len
  refine ⟨by simp; omega, fun u hu => h.one u (List.mem_of_mem_drop hu), .inr ⟨_, _, rfl, fun j x hj => ?_⟩⟩
  rw [List.getElem?_drop] at hj
  have := h'.own.cells (g := g) rfl (k + j) x hj
  rw [Addr.add_lit, Nat.zero_add] at this
  rw [Addr.add_lit]
  exact this
/-- A table of the call's own made of some rows of another one. -/
theorem TabI.some {B B2 : Nat} {w : World} {v v2 : Value} {L L2 : List Line} {vs vs2 : List Value} (h : TabI B w v L vs) (ho : w.ownsRow B2 tLine 1 v2 L2.length vs2) (hz : ∀ (k : Nat) (u : Value) (r : Line), vs2[k]? = some u → L2[k]? = some r → ∃ j : Nat, vs[j]? = some u ∧ L[j]? = some r) : Rowz w w.heap.size v2 L2 :=
  own_sl ho rfl fun k u x hu hx => by
    obtain ⟨j, h1, h2⟩ := hz k u x hu hx
    exact own_strs (h.each j u x h1 h2)
namespace Sk
/-- Rows that are few and short. -/
structure Few (m b : Nat) (L : List Line) : Prop where
  rows : L.length ≤ m
  some : ∀ r ∈ L, ¬ r = []
  flds : ∀ r ∈ L, r.length ≤ b
  byts : ∀ r ∈ L, ∀ f ∈ r, f.length ≤ 20
theorem few_room {b : Nat} : ∀ {L : List Line}, (∀ r ∈ L, r.length ≤ b) → (∀ r ∈ L, ∀ f ∈ r, f.length ≤ 20) → Csv.room L ≤ 63 * b * L.length
  | [], _, _ => by simp [Csv.room]
  | r :: t, h1, h2 => by
    have ih := few_room (L := t) (fun x hx => h1 x (List.mem_cons_of_mem _ hx)) (fun x hx => h2 x (List.mem_cons_of_mem _ hx))
    have hr := roomRow_small r (h2 r (List.mem_cons_self ..))
    have hl := h1 r (List.mem_cons_self ..)
    have h63 : 63 * r.length ≤ 63 * b := Nat.mul_le_mul_left _ hl
    rw [room_cons, List.length_cons, Nat.mul_succ]
    omega
theorem Few.text {L : List Line} (h : Few 70 10 L) : (Csv.printOf L).length ≤ 65536 := by
  have h1 := Csv.printOf_room L h.some
  have h2 := few_room h.flds h.byts
  have h3 : 63 * 10 * L.length ≤ 63 * 10 * 70 := Nat.mul_le_mul_left _ h.rows
  omega
theorem Few.fits {L : List Line} (h : Few 70 10 L) : Fits L := ⟨by have := h.rows; omega, fun r hr => by have := h.flds r hr; omega, fun r hr f hf => by have := h.byts r hr f hf; omega⟩
theorem Few.mono {m b m' b' : Nat} {L : List Line} (h : Few m b L) (hm : m ≤ m') (hb : b ≤ b') : Few m' b' L := ⟨Nat.le_trans h.rows hm, h.some, fun r hr => Nat.le_trans (h.flds r hr) hb, h.byts⟩
theorem Few.set {m b k : Nat} {L : List Line} {r : Line} (h : Few m b L) (hr : ¬ r = []) (hl : r.length ≤ b) (hf : ∀ f ∈ r, f.length ≤ 20) : Few m b (L.set k r) := by
  have hm : ∀ x ∈ L.set k r, x ∈ L ∨ x = r := fun x hx => List.mem_or_eq_of_mem_set hx
  refine ⟨by simpa using h.rows, fun x hx => ?_, fun x hx => ?_, fun x hx => ?_⟩
  · rcases hm x hx with hx | rfl; exact h.some x hx; exact hr
  · rcases hm x hx with hx | rfl; exact h.flds x hx; exact hl
  · rcases hm x hx with hx | rfl; exact h.byts x hx; exact hf
theorem table_few {q : Int} {l : List R5} (h : validB 1 q l = true) (hl : l.length ≤ 60) : Few 62 4 (table q l) := by
  obtain ⟨h1, h2, h3, h4, h5⟩ := valid_parts h
  refine ⟨by rw [table_len]; omega, table_full q l, fun r hr => ?_, fun r hr f hf => ?_⟩
  · unfold table at hr
    simp only [List.mem_cons, List.mem_append, List.mem_map, List.not_mem_nil, or_false] at hr
    rcases hr with rfl | ⟨x, _, rfl⟩ | rfl <;> simp [rowF]
  · unfold table at hr
    simp only [List.mem_cons, List.mem_append, List.mem_map, List.not_mem_nil, or_false] at hr
    rcases hr with rfl | ⟨x, hx, rfl⟩ | rfl
    · have a := itoa_len (n := q) 9 (by omega) (by simp; omega)
      simp only [List.mem_cons, List.not_mem_nil, or_false] at hf
      rcases hf with rfl | rfl
      · decide
      · omega
    · obtain ⟨a1, a2, a3, a4, a5, a6, a7⟩ := row_one (h4 x hx)
      have a := itoa_len (n := x.1.1) 9 (by omega) (by simp; omega)
      have b := itoa_len (n := x.2.2.2) 9 (by omega) (by simp; omega)
      have c := codeW_len x.2.1
      have d : (wordL x.1.2).length ≤ 20 := by rcases deed6 a2 with e | e | e | e | e | e <;> rw [e] <;> decide
      unfold rowF at hf
      simp only [List.mem_cons, List.not_mem_nil, or_false] at hf
      rcases hf with rfl | rfl | rfl | rfl <;> omega
    · have a := itoa_len (n := (l.length : Int)) 9 (by omega) (by simp; omega)
      simp only [List.mem_cons, List.not_mem_nil, or_false] at hf
      rcases hf with rfl | rfl
      · decide
      · omega
end Sk
end Go.Proofs.YtgpjbigelblanaaGreatDoor
/- consignorref04.Print computes Csv.printOf, too; consignorlaw04.Great. -/
namespace Go.Proofs.YtgpjbigelblanaaGreatDoor
open Go.RowKit

theorem str_app (X Y : List UInt8) : (⟨X.toArray⟩ : ByteArray) ++ ⟨Y.toArray⟩ = ⟨(X ++ Y).toArray⟩ := by
  apply ByteArray.ext
  apply Array.toList_inj.1
  simp [ByteArray.data_append]
theorem str_one (f : List UInt8) (t : Nat) (x : UInt8) (h : f[t]? = some x) : (⟨f.toArray⟩ : ByteArray).extract t (t + 1) = ⟨#[x]⟩ := by
  have h2 := extract_take ⟨f.toArray⟩ t 1
  have h3 : (⟨f.toArray⟩ : ByteArray).extract t (t + 1) = ⟨((f.drop t).take 1).toArray⟩ := by injection h2
  rw [h3]
  obtain ⟨hk, e⟩ := List.getElem?_eq_some_iff.1 h
  rw [List.drop_eq_getElem_cons hk, e]
  rfl

def hasB (l : List UInt8) (c : UInt8) : Bool := l.any fun d => d = c
theorem needs_has (l : List UInt8) : needs l = (hasB l 44 || (hasB l 34 || (hasB l 10 || hasB l 13))) := by
  unfold needs hasB
  induction l with
  | nil => rfl
  | cons c r ih =>
    simp only [List.any_cons, ih]
    cases decide (c = 44) <;> cases decide (c = 34) <;> cases decide (c = 10) <;> cases decide (c = 13) <;> cases (r.any fun d => decide (d = 44)) <;> cases (r.any fun d => decide (d = 34)) <;> cases (r.any fun d => decide (d = 10)) <;> cases (r.any fun d => decide (d = 13)) <;> rfl

set_option maxHeartbeats 2000000 in
theorem has_any (s : ByteArray) (c : UInt8) (w : World) (hs : s.size ≤ 1000000) :
    Calls Tryz.prog 44 #[.string s, .int .u8 (c.toNat : Int)] w fun e w' => e = .returned (.bool (hasB s.data.toList c)) ∧ w = w' := by
  go_enter Tryz.func44, Tryz.ntmps44
  go_wp2
  go_loop [5] (fun i => ∃ j : Nat, j ≤ s.size ∧ i = .int .i64 j ∧ Hid (hasB s.data.toList c = hasB (s.data.toList.drop j) c)) (fun i => s.size - (intOf i).toNat)
  case atStart => exact ⟨0, Nat.zero_le _, rfl, rfl⟩
  case round =>
    obtain ⟨j, hj, rfl, HB⟩ := hrel
    by_cases hlt : j < s.size
    · have hd : hasB s.data.toList c = (decide (s[j] = c) || hasB (s.data.toList.drop (j + 1)) c) := by
        rw [HB.out, drop_cons s j hlt]
        rfl
      by_cases hc : s[j] = c
      · have g := beqT (show (s[j].toNat : Int) = (c.toNat : Int) by rw [hc])
        have HD := Lib.hid (show hasB s.data.toList c = true by rw [hd]; simp [hc])
        clear hd hc
        go_wp2
        go_ret
        exact ⟨ret_bool HD.out.symm, rfl⟩
      · have g := beqF (show ¬ (s[j].toNat : Int) = (c.toNat : Int) from fun e => hc (UInt8.toNat_inj.1 (by omega)))
        have HD := Lib.hid (show hasB s.data.toList c = hasB (s.data.toList.drop (j + 1)) c by rw [hd]; simp [hc])
        clear hd hc
        go_wp2
        go_round
        case rel => exact ⟨j + 1, by omega, by go_num, HD⟩
        case measure => simp [intOf]; omega
    · have HD := Lib.hid (show hasB s.data.toList c = false by rw [HB.out, drop_all s j (by omega)]; rfl)
      go_wp2
      go_ret
      exact ⟨ret_bool HD.out.symm, rfl⟩

theorem dbl_snoc (l : List UInt8) (c : UInt8) : Csv.dbl (l ++ [c]) = Csv.dbl l ++ (if c = 34 then [34, 34] else [c]) := by simp [Csv.dbl]

set_option maxHeartbeats 16000000 in
theorem refPrint_any (v : Value) (L : List (List (List UInt8))) (B : Nat) (w : World) (hv : Rowz w B v L) (hf : Fits L) :
    Calls Tryz.prog 18 #[v] w fun e w' => e = .returned (.string ⟨(Csv.printOf L).toArray⟩) ∧ w = w' := by
  have HF := Lib.hid hf
  obtain ⟨A, n, c, rfl, hn, hc, hh⟩ := hv
  have HH := Lib.hid hh; clear hh
  have HL := Lib.hid hn
  have hn1 : n ≤ 1001 := by have := hf.rows; omega
  clear hf hn
  go_enter Tryz.func18, Tryz.ntmps18
  go_wp2_with fail
  go_loop [3, 4] (fun o i => ∃ (j : Nat) (X : List UInt8), j ≤ n ∧ i = .int .i64 j ∧ o = .string ⟨X.toArray⟩ ∧ Hid (Csv.printOf (L.take j) = X) ∧ Hid (X.length ≤ j * 3000000)) (fun _ i => n - (intOf i).toNat)
  case atStart => exact ⟨0, [], Nat.zero_le _, rfl, rfl, rfl, by simp [Hid]⟩
  case round =>
    obtain ⟨j, X, hj, rfl, rfl, HX, HS⟩ := hrel
    by_cases hlt : j < n
    · obtain ⟨r, hr⟩ : ∃ x, L[j]? = some x := ⟨_, List.getElem?_eq_getElem (by have := HL.out; omega)⟩
      obtain ⟨ad, u, rfl, had, hcell, hu⟩ := HH.out j r hr
      obtain ⟨Ai, ni, ci, rfl, hni, hci, hh⟩ := hu
      have HI := Lib.hid hh
      have HNI := Lib.hid hni; have HR := Lib.hid hr
      have hni1 : ni ≤ 1001 := by have := HF.out.fields r (List.mem_of_getElem? hr); omega
      have HFB := Lib.hid (HF.out.bytes r (List.mem_of_getElem? hr))
      clear hh hni hr
      go_wp2_with fail
      go_loop [3, 5] (fun o i => ∃ (k : Nat) (Y : List UInt8), k ≤ ni ∧ i = .int .i64 k ∧ o = .string ⟨(X ++ Y).toArray⟩ ∧ Hid (Csv.rowOf (r.take k) = Y) ∧ Hid (Y.length ≤ k * 2800)) (fun _ i => ni - (intOf i).toNat)
      case atStart => exact ⟨0, [], Nat.zero_le _, rfl, by simp, rfl, by simp [Hid]⟩
      case round =>
        obtain ⟨k, Y, hk, rfl, rfl, HY, HT⟩ := hrel
        by_cases hkt : k < ni
        · obtain ⟨f, hf⟩ : ∃ x, r[k]? = some x := ⟨_, List.getElem?_eq_getElem (by have := HNI.out; omega)⟩
          obtain ⟨ad2, u2, rfl, had2, hcell2, hu2⟩ := HI.out k f hf
          subst hu2
          obtain ⟨s, rfl⟩ : ∃ s : ByteArray, f = s.data.toList := ⟨⟨f.toArray⟩, by simp⟩
          have hss : (⟨s.data.toList.toArray⟩ : ByteArray) = s := by simp
          rw [hss] at hcell2
          have hsl : s.data.toList.length = s.size := by simp
          have hfl := HFB.out s.data.toList (List.mem_of_getElem? hf)
          have hsn := Csv.rowOf_snoc (r.take k) s.data.toList
          rw [← take_succ' hf, HY.out] at hsn
          have hrt : (r.take k = []) ↔ k = 0 := by
            have := HNI.out
            constructor
            · intro e
              have h2 : (r.take k).length = 0 := by rw [e]; rfl
              rw [List.length_take] at h2
              omega
            · rintro rfl; rfl
          have hlx : X.length + Y.length ≤ 4000000000 := by have := HS.out; have := HT.out; omega
          have hfz : s.size ≤ 1001 := by omega
          have HH2 : Hid (∀ (c : UInt8) (W : World), Calls Tryz.prog 44 #[.string s, .int .u8 (c.toNat : Int)] W fun e w' => e = .returned (.bool (hasB s.data.toList c)) ∧ W = w') := fun c W => has_any s c W (by omega)
          have h44 : Hid (∀ (W : World), Calls Tryz.prog 44 #[.string s, .int .u8 44] W fun e w' => e = .returned (.bool (hasB s.data.toList 44)) ∧ W = w') := fun W => HH2.out 44 W
          have h34 : Hid (∀ (W : World), Calls Tryz.prog 44 #[.string s, .int .u8 34] W fun e w' => e = .returned (.bool (hasB s.data.toList 34)) ∧ W = w') := fun W => HH2.out 34 W
          have h10 : Hid (∀ (W : World), Calls Tryz.prog 44 #[.string s, .int .u8 10] W fun e w' => e = .returned (.bool (hasB s.data.toList 10)) ∧ W = w') := fun W => HH2.out 10 W
          have h13 : Hid (∀ (W : World), Calls Tryz.prog 44 #[.string s, .int .u8 13] W fun e w' => e = .returned (.bool (hasB s.data.toList 13)) ∧ W = w') := fun W => HH2.out 13 W
          have HNE := Lib.hid (needs_has s.data.toList)
          obtain ⟨b44, e44⟩ : ∃ b, hasB s.data.toList 44 = b := ⟨_, rfl⟩
          obtain ⟨b34, e34⟩ : ∃ b, hasB s.data.toList 34 = b := ⟨_, rfl⟩
          obtain ⟨b10, e10⟩ : ∃ b, hasB s.data.toList 10 = b := ⟨_, rfl⟩
          obtain ⟨b13, e13⟩ : ∃ b, hasB s.data.toList 13 = b := ⟨_, rfl⟩
          rw [e44] at h44 HNE; rw [e34] at h34 HNE; rw [e10] at h10 HNE; rw [e13] at h13 HNE
          have HSN := Lib.hid hsn; have HRT := Lib.hid hrt
          have HFL := Lib.hid hfl; have HSL := Lib.hid hsl
          clear e44 e34 e10 e13 HH2 hf hsn hrt hss hsl hfl
          -- the comma
          obtain ⟨Z, hk0, hz⟩ : ∃ Z : List UInt8, Hid ((k = 0 ∧ Z = X ++ Y) ∨ (0 < k ∧ Z = X ++ Y ++ [44])) ∧ Hid (X ++ Csv.rowOf (r.take (k + 1)) = Z ++ Csv.fieldOf s.data.toList) := by
            by_cases hk0 : k = 0
            · refine ⟨X ++ Y, .inl ⟨hk0, rfl⟩, ?_⟩
              have h := HSN.out
              rw [if_pos (HRT.out.2 hk0)] at h
              have hY : Y = [] := List.eq_nil_of_length_eq_zero (by have := HT.out; rw [hk0] at this; omega)
              show _ = _
              rw [h, hY, List.append_nil]
            · refine ⟨X ++ Y ++ [44], .inr ⟨by omega, rfl⟩, ?_⟩
              have h := HSN.out
              rw [if_neg (fun e => hk0 (HRT.out.1 e))] at h
              show _ = _
              rw [h]
              simp
          have hlz : Z.length ≤ 4000000001 := by
            rcases hk0.out with ⟨_, h⟩ | ⟨_, h⟩ <;> rw [h] <;> simp <;> omega
          have HFO := Lib.hid (Csv.fieldOf_len s.data.toList)
          have HLX := Lib.hid hlx
          have HLEN := Lib.hid (show (Csv.rowOf (r.take (k + 1))).length ≤ (k + 1) * 2800 by
            have h := HSN.out
            have h1 := HFO.out; have h2 := HFL.out; have h3 := HT.out
            rw [h]
            split
            · omega
            · rw [List.length_append, List.length_cons]; omega)
          obtain ⟨hkb, hzs⟩ | ⟨hkb, hzs⟩ : ((¬ (0 : Int) < (k : Int)) ∧ (⟨(X ++ Y).toArray⟩ : ByteArray) = ⟨Z.toArray⟩) ∨ (((0 : Int) < (k : Int)) ∧ (⟨(X ++ Y).toArray⟩ : ByteArray) ++ ⟨#[44]⟩ = ⟨Z.toArray⟩) := by
            rcases hk0.out with ⟨h1, h2⟩ | ⟨h1, h2⟩
            · exact .inl ⟨by omega, by rw [h2]⟩
            · exact .inr ⟨by omega, by rw [h2, ← str_app (X ++ Y) [44]]⟩
          all_goals
            obtain hneed | hneed : Hid (needs s.data.toList = true) ∨ Hid (needs s.data.toList = false) := by
              cases h : needs s.data.toList
              · exact .inr rfl
              · exact .inl rfl
            · have HN2 := Lib.hid (show Csv.fieldOf s.data.toList = 34 :: (Csv.dbl s.data.toList ++ [34]) from if_pos hneed.out)
              have hb : b44 = true ∨ (b44 = false ∧ b34 = true) ∨ (b44 = false ∧ b34 = false ∧ b10 = true) ∨ (b44 = false ∧ b34 = false ∧ b10 = false ∧ b13 = true) := by
                have h := HNE.out
                rw [hneed.out] at h
                cases b44 <;> cases b34 <;> cases b10 <;> cases b13 <;> simp at h ⊢
              rcases hb with rfl | ⟨rfl, rfl⟩ | ⟨rfl, rfl, rfl⟩ | ⟨rfl, rfl, rfl, rfl⟩
              all_goals
                go_wp2_with (first
                  | (go_at_call 44; with_reducible refine (h44.out _).mono ?_; rintro e w1 ⟨rfl, rfl⟩)
                  | (go_at_call 44; with_reducible refine (h34.out _).mono ?_; rintro e w1 ⟨rfl, rfl⟩)
                  | (go_at_call 44; with_reducible refine (h10.out _).mono ?_; rintro e w1 ⟨rfl, rfl⟩)
                  | (go_at_call 44; with_reducible refine (h13.out _).mono ?_; rintro e w1 ⟨rfl, rfl⟩))
                clear hzs h44 h34 h10 h13
                go_loop [3, 7] (fun o i => ∃ (t : Nat) (V : List UInt8), t ≤ s.size ∧ i = .int .i64 t ∧ o = .string ⟨V.toArray⟩ ∧ Hid (V = Z ++ [34] ++ Csv.dbl (s.data.toList.take t)) ∧ V.length ≤ 4100000000) (fun _ i => s.size - (intOf i).toNat)
                case atStart => exact ⟨0, Z ++ [34], Nat.zero_le _, rfl, by rw [← str_app Z [34]], by simp [Hid, Csv.dbl], by simp; omega⟩
                case round =>
                  obtain ⟨t, V, ht, rfl, rfl, HV, hlv⟩ := hrel
                  have hdl := Csv.dbl_len (s.data.toList.take (t + 1))
                  have hdt : (s.data.toList.take (t + 1)).length ≤ t + 1 := List.length_take_le _ _
                  have hvb : ∀ V' : List UInt8, V' = Z ++ [34] ++ Csv.dbl (s.data.toList.take (t + 1)) → V'.length ≤ 4100000000 := by
                    intro V' e
                    rw [e, List.length_append, List.length_append]
                    simp only [List.length_cons, List.length_nil]
                    omega
                  have HVB := Lib.hid hvb
                  clear hdl hdt hvb
                  by_cases hts : t < s.size
                  · have hsn := dbl_snoc (s.data.toList.take t) s[t]
                    rw [← take_snocC s t hts] at hsn
                    have hse := fun V : List UInt8 => string_snoc s t hts V
                    by_cases hc : s[t] = 34
                    · have g : (s[t].toNat : Int) = 34 := by rw [hc]; rfl
                      have HX2 := Lib.hid (show V ++ [34] ++ [s[t]] = Z ++ [34] ++ Csv.dbl (s.data.toList.take (t + 1)) by rw [hsn, if_pos hc, HV.out, hc]; simp)
                      have HSE := Lib.hid hse
                      clear hsn hse hc
                      go_wp2_with fail
                      go_round
                      case rel => exact ⟨t + 1, V ++ [34] ++ [s[t]], by omega, by go_num, by rw [← HSE.out (V ++ [34]), ← str_app V [34]], HX2, HVB.out _ HX2.out⟩
                      case measure => simp [intOf]; omega
                    · have g := beqF (show ¬ (s[t].toNat : Int) = 34 from fun e => hc ((u8_of _ 34 (by decide)).1 e))
                      have HX2 := Lib.hid (show V ++ [s[t]] = Z ++ [34] ++ Csv.dbl (s.data.toList.take (t + 1)) by rw [hsn, if_neg hc, HV.out]; simp)
                      have HSE := Lib.hid hse
                      clear hsn hse hc
                      go_wp2_with fail
                      go_round
                      case rel => exact ⟨t + 1, V ++ [s[t]], by omega, by go_num, by rw [← HSE.out V], HX2, HVB.out _ HX2.out⟩
                      case measure => simp [intOf]; omega
                  · have HE := Lib.hid (show V ++ [34] = X ++ Csv.rowOf (r.take (k + 1)) by
                      have hfull : s.data.toList.take t = s.data.toList := List.take_of_length_le (by have := HSL.out; omega)
                      rw [hz.out, HN2.out, HV.out, hfull]
                      simp)
                    go_wp2_with fail
                    go_round
                    case rel => exact ⟨k + 1, Csv.rowOf (r.take (k + 1)), by omega, by go_num, by rw [← HE.out, ← str_app V [34]], rfl, HLEN.out⟩
                    case measure => simp [intOf]; omega
            · have HE := Lib.hid (show Z ++ s.data.toList = X ++ Csv.rowOf (r.take (k + 1)) by
                rw [hz.out]
                unfold Csv.fieldOf
                rw [if_neg (by rw [hneed.out]; simp)])
              have hb : b44 = false ∧ b34 = false ∧ b10 = false ∧ b13 = false := by
                have h := HNE.out
                rw [hneed.out] at h
                cases b44 <;> cases b34 <;> cases b10 <;> cases b13 <;> simp at h ⊢
              obtain ⟨rfl, rfl, rfl, rfl⟩ := hb
              go_wp2_with (first
                | (go_at_call 44; with_reducible refine (h44.out _).mono ?_; rintro e w1 ⟨rfl, rfl⟩)
                | (go_at_call 44; with_reducible refine (h34.out _).mono ?_; rintro e w1 ⟨rfl, rfl⟩)
                | (go_at_call 44; with_reducible refine (h10.out _).mono ?_; rintro e w1 ⟨rfl, rfl⟩)
                | (go_at_call 44; with_reducible refine (h13.out _).mono ?_; rintro e w1 ⟨rfl, rfl⟩))
              go_round
              case rel => exact ⟨k + 1, Csv.rowOf (r.take (k + 1)), by omega, by go_num, by rw [← HE.out, ← str_app Z s.data.toList], rfl, HLEN.out⟩
              case measure => simp [intOf]; omega
        · have hfull : r.take k = r := List.take_of_length_le (by have := HNI.out; omega)
          have hp := Csv.printOf_snoc (L.take j) r
          rw [← take_succ' HR.out, HX.out] at hp
          have hy := HY.out
          rw [hfull] at hy
          rw [hy] at hp
          have HP := Lib.hid hp
          have hlx : X.length + Y.length ≤ 4000000000 := by have := HS.out; have := HT.out; omega
          clear hy hp hfull
          go_wp2_with fail
          refine ⟨⟨j + 1, X ++ Y ++ [10], by omega, by go_num, by rw [← str_app (X ++ Y) [10]], by rw [Hid, HP.out, List.append_assoc], ?_⟩, by simp [intOf]; omega⟩
          have := HS.out; have := HT.out
          show _ ≤ _
          rw [List.length_append, List.length_append]
          simp
          omega
    · have hfull : L.take j = L := List.take_of_length_le (by have := HL.out; omega)
      have HP := Lib.hid (show Csv.printOf L = X by rw [← HX.out, hfull])
      clear hfull
      go_wp2_with fail
      go_ret
      exact ⟨by rw [HP.out]; rfl, rfl⟩
end Go.Proofs.YtgpjbigelblanaaGreatDoor
/- Whether rows may be a party's: the document's Check, Valid. -/
namespace Go.Proofs.YtgpjbigelblanaaGreatDoor
open Go.RowKit Go.Maps Key Rw

theorem okAt_eq {p : Int} {l : List R5} {x : R5} {k : Nat} (hx : l[k]? = some x) : okAt p l k = (okRow p x && risen l x k) := by unfold okAt; rw [hx]
theorem okAt_not {p : Int} {l : List R5} {x : R5} {k : Nat} (hx : l[k]? = some x) (h : risen l x k = false) : okAt p l k = false := by rw [okAt_eq hx, h]; simp
set_option linter.unusedSimpArgs false in
set_option linter.unusedVariables false in
set_option maxRecDepth 100000 in
set_option maxHeartbeats 40000000 in
theorem refRowsCheck_any (w : World) (v : Value) (l : List R5) (p : Int) (hR : Rd w v l) :
    Calls Tryz.prog 66 #[v, .int .i64 p] w fun e w' => e = .returned (.bool (checkB p l)) ∧ Below w.heap.size w w' := by
  obtain ⟨A, c, rfl, hlc, hcm⟩ := hR.shape
  have HR := Lib.hid hR
  have hL63 : (l.length : Int) ≤ 9223372036854775807 := by unfold maxLen at hcm; omega
  clear hR
  by_cases hp0 : 0 ≤ p
  · by_cases hp2 : p ≤ 2
    · by_cases hl4 : l.length ≤ 400
      · have hl4' : (l.length : Int) ≤ 400 := by omega
        go_enter Tryz.func66, Tryz.ntmps66
        go_wp2_with fail
        go_loopw [5] (fun i wr => ∃ k : Nat, i = .int .i64 k ∧ k ≤ l.length ∧ Hid (okTo p l k = true) ∧ Hid (Below w.heap.size w wr)) (fun i _ => l.length - (intOf i).toNat)
        case atStart => exact ⟨0, rfl, by omega, (rfl : okTo p l 0 = true), Below.refl _ _⟩
        case round =>
          obtain ⟨k, rfl, hk, HTO, HBr⟩ := hrel
          by_cases hkl : k < l.length
          · obtain ⟨x, hx⟩ : ∃ x, l[k]? = some x := ⟨_, List.getElem?_eq_getElem hkl⟩
            obtain ⟨g, off, n0, c0', e, c0, c1, c2, c3, c4⟩ := HR.out.cells HBr.out hx
            injection e with e1 e2 e3
            subst e1; subst e2; subst e3
            obtain ⟨⟨o, d⟩, t, n, q⟩ := x
            simp only [] at c0 c1 c2 c3 c4
            have hlt : (k : Int) < l.length := by omega
            have hk0 : (0 : Int) ≤ k := by omega
            have HX := Lib.hid hx
            clear hx
            have HB1 := Lib.hid (HBr.out.alloc HBr.out.size (.cells #[.int .i64 o, .int .i64 d, .int .i64 t, .int .i64 n, .int .i64 q] tRow))
            have HM1 := Lib.hid (heap_new wr (.cells #[.int .i64 o, .int .i64 d, .int .i64 t, .int .i64 n, .int .i64 q] tRow))
            obtain ⟨m0, m1, m2, m3, m4⟩ := cell5 HM1.out
            have HC := Lib.hid (fun W => refCheck_any o d W)
            go_wp2_with fail
            generalize wr.alloc (.cells #[.int .i64 o, .int .i64 d, .int .i64 t, .int .i64 n, .int .i64 q] tRow) = wz at HB1 HM1 m0 m1 m2 m3 m4 ⊢
            have HBz := HB1
            clear c0 c1 c2 c3 c4
            generalize wr.heap.size = b0 at HM1 m0 m1 m2 m3 m4 ⊢
            refine (HC.out _).mono ?_
            rintro e wu ⟨rfl, hb⟩
            have HBu := Lib.hid (bch HB1.out hb HB1.out.size)
            have HM2 := Lib.hid (heap_keep HM1.out hb)
            clear m0 m1 m2 m3 m4
            clear hb HB1 HM1 HBz HC
            have HBx := HBu
            obtain ⟨m0, m1, m2, m3, m4⟩ := cell5 HM2.out
            cases hc : chk o d with
            | false =>
              have HF := Lib.hid (show checkB p l = false from check_bad hkl (okAt_row HX.out (by simp [okRow, hc])))
              go_wp2_with fail
              go_ret
              exact ⟨by rw [HF.out]; rfl, HBx.out⟩
            | true =>
              have hd6 : Mon.InR d := by have := chk_iff.1 hc; unfold Mon.InR; omega
              obtain ⟨pd, hpd⟩ : ∃ z, partyI d = z := ⟨_, rfl⟩
              have HP := Lib.hid (fun W => (refParty_any d W hd6).mono (fun e w' h => (⟨by rw [h.1, hpd], h.2⟩ : e = .returned (.int .i64 pd) ∧ W = w')))
              have HPD := Lib.hid hpd
              have HCC := Lib.hid hc
              clear hpd hc
              go_wp2_with fail
              refine (HP.out _).mono ?_
              rintro e w2 ⟨rfl, hw⟩; subst hw
              clear HP
              have hpd := HPD.out
              have hc := HCC.out
              by_cases hp : pd = p
              · subst hp
                by_cases ht1 : 1 ≤ t
                · by_cases ht2 : t ≤ 2
                  · obtain ⟨rb, hrb⟩ : ∃ rb, risen l ((o, d), t, n, q) k = rb := ⟨_, rfl⟩
                    have HRB := Lib.hid hrb
                    clear hrb
                    go_wp2_with fail
                    clear m0 m1 m2 m3 m4
                    clear HBx
                    go_cut [63] from 18 to 107 (fun c wx => c = .bool (!rb) ∧ Hid (Below wu.heap.size wu wx))
                    case first =>
                      cases k with
                      | zero =>
                        have hrb' : rb = true := HRB.out.symm
                        subst hrb'
                        rw [show ((0 : Nat) : Int) = 0 from rfl] at hlt hk0 ⊢
                        refine wp_region_noPanic ?_
                        refine wp_region_held_drew (S := (fun w' => Hid (Below wu.heap.size wu w') ∧ w'.cell? ⟨b0, 0, none⟩ = some (.int .i64 o) ∧ w'.cell? ⟨b0, 1, none⟩ = some (.int .i64 d) ∧ w'.cell? ⟨b0, 2, none⟩ = some (.int .i64 t) ∧ w'.cell? ⟨b0, 3, none⟩ = some (.int .i64 n) ∧ w'.cell? ⟨b0, 4, none⟩ = some (.int .i64 q))) (by kernel_rfl) ⟨(below_drew1 (Below.refl _ wu)), cell_at ((((below_drew1 (Below.refl _ wu))).block _ (heap_lt HM2.out)).trans HM2.out) 0 rfl, cell_at ((((below_drew1 (Below.refl _ wu))).block _ (heap_lt HM2.out)).trans HM2.out) 1 rfl, cell_at ((((below_drew1 (Below.refl _ wu))).block _ (heap_lt HM2.out)).trans HM2.out) 2 rfl, cell_at ((((below_drew1 (Below.refl _ wu))).block _ (heap_lt HM2.out)).trans HM2.out) 3 rfl, cell_at ((((below_drew1 (Below.refl _ wu))).block _ (heap_lt HM2.out)).trans HM2.out) 4 rfl⟩ (fun hHeld => ?_)
                        refine wpAnyH_take (i := 0) (v := ?vz0) rfl (by kernel_rfl) (by kernel_rfl) (by kernel_rfl) (fun _ _ _ h => h) (Or.inl ⟨by rfl, ?hyz0⟩) (by assumption) ?restz0
                        case hyz0 => (intro w0 hSw; (try dsimp only at hSw); go_simp; try with_reducible rfl)
                        case' restz0 => try simp only [Act.put, List.getElem_toArray, List.getElem_cons_zero, List.getElem_cons_succ, List.setIfInBounds_toArray, List.set_cons_zero, List.set_cons_succ]
                        refine wpAnyH_take (i := 1) (v := ?vz1) rfl (by kernel_rfl) (by kernel_rfl) (by kernel_rfl) (fun _ _ _ h => h) (Or.inl ⟨by rfl, ?hyz1⟩) (by assumption) ?restz1
                        case hyz1 => (intro w0 hSw; (try dsimp only at hSw); go_simp; try with_reducible rfl)
                        case' restz1 => try simp only [Act.put, List.getElem_toArray, List.getElem_cons_zero, List.getElem_cons_succ, List.setIfInBounds_toArray, List.set_cons_zero, List.set_cons_succ]
                        refine wpAnyH_take (i := 2) (v := ?vz2) rfl (by kernel_rfl) (by kernel_rfl) (by kernel_rfl) (fun _ _ _ h => h) (Or.inl ⟨by rfl, ?hyz2⟩) (by assumption) ?restz2
                        case hyz2 => (intro w0 hSw; (try dsimp only at hSw); go_simp; try with_reducible rfl)
                        case' restz2 => try simp only [Act.put, List.getElem_toArray, List.getElem_cons_zero, List.getElem_cons_succ, List.setIfInBounds_toArray, List.set_cons_zero, List.set_cons_succ]
                        refine wpAnyH_take (i := 3) (v := undef) rfl (by kernel_rfl) (by kernel_rfl) (by kernel_rfl) (fun _ _ _ h => h) (Or.inr ⟨by rfl, rfl⟩) (by assumption) ?_
                        try simp only [Act.put, List.getElem_toArray, List.getElem_cons_zero, List.getElem_cons_succ, List.setIfInBounds_toArray, List.set_cons_zero, List.set_cons_succ]
                        refine wpAnyH_take (i := 4) (v := undef) rfl (by kernel_rfl) (by kernel_rfl) (by kernel_rfl) (fun _ _ _ h => h) (Or.inr ⟨by rfl, rfl⟩) (by assumption) ?_
                        try simp only [Act.put, List.getElem_toArray, List.getElem_cons_zero, List.getElem_cons_succ, List.setIfInBounds_toArray, List.set_cons_zero, List.set_cons_succ]
                        refine wpAnyH_take (i := 5) (v := undef) rfl (by kernel_rfl) (by kernel_rfl) (by kernel_rfl) (fun _ _ _ h => h) (Or.inr ⟨by rfl, rfl⟩) (by assumption) ?_
                        try simp only [Act.put, List.getElem_toArray, List.getElem_cons_zero, List.getElem_cons_succ, List.setIfInBounds_toArray, List.set_cons_zero, List.set_cons_succ]
                        refine wpAnyH_take (i := 6) (v := undef) rfl (by kernel_rfl) (by kernel_rfl) (by kernel_rfl) (fun _ _ _ h => h) (Or.inr ⟨by rfl, rfl⟩) (by assumption) ?_
                        try simp only [Act.put, List.getElem_toArray, List.getElem_cons_zero, List.getElem_cons_succ, List.setIfInBounds_toArray, List.set_cons_zero, List.set_cons_succ]
                        refine wpAnyH_take (i := 7) (v := undef) rfl (by kernel_rfl) (by kernel_rfl) (by kernel_rfl) (fun _ _ _ h => h) (Or.inr ⟨by rfl, rfl⟩) (by assumption) ?_
                        try simp only [Act.put, List.getElem_toArray, List.getElem_cons_zero, List.getElem_cons_succ, List.setIfInBounds_toArray, List.set_cons_zero, List.set_cons_succ]
                        refine wpAnyH_take (i := 8) (v := undef) rfl (by kernel_rfl) (by kernel_rfl) (by kernel_rfl) (fun _ _ _ h => h) (Or.inr ⟨by rfl, rfl⟩) (by assumption) ?_
                        try simp only [Act.put, List.getElem_toArray, List.getElem_cons_zero, List.getElem_cons_succ, List.setIfInBounds_toArray, List.set_cons_zero, List.set_cons_succ]
                        refine wpAnyH_take (i := 9) (v := undef) rfl (by kernel_rfl) (by kernel_rfl) (by kernel_rfl) (fun _ _ _ h => h) (Or.inr ⟨by rfl, rfl⟩) (by assumption) ?_
                        try simp only [Act.put, List.getElem_toArray, List.getElem_cons_zero, List.getElem_cons_succ, List.setIfInBounds_toArray, List.set_cons_zero, List.set_cons_succ]
                        refine wpAnyH_take (i := 10) (v := undef) rfl (by kernel_rfl) (by kernel_rfl) (by kernel_rfl) (fun _ _ _ h => h) (Or.inr ⟨by rfl, rfl⟩) (by assumption) ?_
                        try simp only [Act.put, List.getElem_toArray, List.getElem_cons_zero, List.getElem_cons_succ, List.setIfInBounds_toArray, List.set_cons_zero, List.set_cons_succ]
                        refine wpAnyH_take (i := 11) (v := undef) rfl (by kernel_rfl) (by kernel_rfl) (by kernel_rfl) (fun _ _ _ h => h) (Or.inr ⟨by rfl, rfl⟩) (by assumption) ?_
                        try simp only [Act.put, List.getElem_toArray, List.getElem_cons_zero, List.getElem_cons_succ, List.setIfInBounds_toArray, List.set_cons_zero, List.set_cons_succ]
                        refine wpAnyH_take (i := 12) (v := undef) rfl (by kernel_rfl) (by kernel_rfl) (by kernel_rfl) (fun _ _ _ h => h) (Or.inr ⟨by rfl, rfl⟩) (by assumption) ?_
                        try simp only [Act.put, List.getElem_toArray, List.getElem_cons_zero, List.getElem_cons_succ, List.setIfInBounds_toArray, List.set_cons_zero, List.set_cons_succ]
                        refine wpAnyH_take (i := 13) (v := ?vz13) rfl (by kernel_rfl) (by kernel_rfl) (by kernel_rfl) (fun _ _ _ h => h) (Or.inl ⟨by rfl, ?hyz13⟩) (by assumption) ?restz13
                        case hyz13 => (intro w0 hSw; (try dsimp only at hSw); go_simp; try with_reducible rfl)
                        case' restz13 => try simp only [Act.put, List.getElem_toArray, List.getElem_cons_zero, List.getElem_cons_succ, List.setIfInBounds_toArray, List.set_cons_zero, List.set_cons_succ]
                        refine wpAnyH_done (by kernel_rfl) ?_ _
                        refine NoPanic.normal ?_
                        have HW := Lib.hid (Hid.out hHeld.1)
                        clear hHeld
                        go_wp2_with fail
                        go_meet
                        exact ⟨rfl, HW⟩
                      | succ j =>
                        obtain ⟨y, hy⟩ : ∃ y, l[j]? = some y := ⟨_, List.getElem?_eq_getElem (by omega)⟩
                        obtain ⟨⟨o', d'⟩, t', n', q'⟩ := y
                        obtain ⟨bl, hbl⟩ : ∃ bl, lessB o' d' o d = bl := ⟨_, rfl⟩
                        have hrb' : rb = bl := by rw [← HRB.out, ← hbl]; show (match l[j]? with | none => true | some y => lessR y ((o, d), t, n, q)) = _; rw [hy]; rfl
                        have HL := Lib.hid (fun W => (refLess_any o' d' o d W).mono (fun e w' h => (⟨by rw [h.1, hbl], h.2⟩ : e = .returned (.bool bl) ∧ Below W.heap.size W w')))
                        have HD := Lib.hid (fun W (hb : Below wu.heap.size wu W) => (by
                          obtain ⟨g', off', n', c', e, d0, d1, _⟩ := HR.out.cells (bch HBu.out hb HBu.out.size) hy
                          injection e with e1 e2 e3
                          injection e1 with e1
                          injection e1 with e1 e4 _
                          subst e1; subst e4
                          exact ⟨d0, d1⟩ : W.cell? ⟨g, off + j * 5, none⟩ = some (.int .i64 o') ∧ W.cell? ⟨g, off + j * 5 + 1, none⟩ = some (.int .i64 d')))
                        clear hbl hy
                        subst hrb'
                        have hwr : IntKind.i64.wrap (j : Int) = j := by rw [IntKind.wrap_i64]; omega
                        have hjl : j < l.length := by omega
                        rw [show ((j + 1 : Nat) : Int) = (j : Int) + 1 from rfl] at hlt hk0 ⊢
                        refine wp_region_noPanic ?_
                        refine wp_region_held_drew (S := (fun w' => Hid (Below wu.heap.size wu w') ∧ w'.cell? ⟨b0, 0, none⟩ = some (.int .i64 o) ∧ w'.cell? ⟨b0, 1, none⟩ = some (.int .i64 d) ∧ w'.cell? ⟨b0, 2, none⟩ = some (.int .i64 t) ∧ w'.cell? ⟨b0, 3, none⟩ = some (.int .i64 n) ∧ w'.cell? ⟨b0, 4, none⟩ = some (.int .i64 q) ∧ w'.cell? ⟨g, off + j * 5, none⟩ = some (.int .i64 o') ∧ w'.cell? ⟨g, off + j * 5 + 1, none⟩ = some (.int .i64 d'))) (by kernel_rfl) ⟨(below_drew1 (Below.refl _ wu)), cell_at ((((below_drew1 (Below.refl _ wu))).block _ (heap_lt HM2.out)).trans HM2.out) 0 rfl, cell_at ((((below_drew1 (Below.refl _ wu))).block _ (heap_lt HM2.out)).trans HM2.out) 1 rfl, cell_at ((((below_drew1 (Below.refl _ wu))).block _ (heap_lt HM2.out)).trans HM2.out) 2 rfl, cell_at ((((below_drew1 (Below.refl _ wu))).block _ (heap_lt HM2.out)).trans HM2.out) 3 rfl, cell_at ((((below_drew1 (Below.refl _ wu))).block _ (heap_lt HM2.out)).trans HM2.out) 4 rfl, (HD.out _ ((below_drew1 (Below.refl _ wu)))).1, (HD.out _ ((below_drew1 (Below.refl _ wu)))).2⟩ (fun hHeld => ?_)
                        refine wpAnyH_take (i := 0) (v := ?vs0) rfl (by kernel_rfl) (by kernel_rfl) (by kernel_rfl) (fun _ _ _ h => h) (Or.inl ⟨by rfl, ?hys0⟩) (by assumption) ?rests0
                        case hys0 => (intro w0 hSw; (try dsimp only at hSw); go_simp; try with_reducible rfl)
                        case' rests0 => try simp only [Act.put, List.getElem_toArray, List.getElem_cons_zero, List.getElem_cons_succ, List.setIfInBounds_toArray, List.set_cons_zero, List.set_cons_succ]
                        refine wpAnyH_take (i := 1) (v := ?vs1) rfl (by kernel_rfl) (by kernel_rfl) (by kernel_rfl) (fun _ _ _ h => h) (Or.inl ⟨by rfl, ?hys1⟩) (by assumption) ?rests1
                        case hys1 => (intro w0 hSw; (try dsimp only at hSw); go_simp; try with_reducible rfl)
                        case' rests1 => try simp only [Act.put, List.getElem_toArray, List.getElem_cons_zero, List.getElem_cons_succ, List.setIfInBounds_toArray, List.set_cons_zero, List.set_cons_succ]
                        refine wpAnyH_take (i := 2) (v := ?vs2) rfl (by kernel_rfl) (by kernel_rfl) (by kernel_rfl) (fun _ _ _ h => h) (Or.inl ⟨by rfl, ?hys2⟩) (by assumption) ?rests2
                        case hys2 => (intro w0 hSw; (try dsimp only at hSw); go_simp; try with_reducible rfl)
                        case' rests2 => try simp only [Act.put, List.getElem_toArray, List.getElem_cons_zero, List.getElem_cons_succ, List.setIfInBounds_toArray, List.set_cons_zero, List.set_cons_succ]
                        refine wpAnyH_take (i := 3) (v := ?vs3) rfl (by kernel_rfl) (by kernel_rfl) (by kernel_rfl) (fun _ _ _ h => h) (Or.inl ⟨by rfl, ?hys3⟩) (by assumption) ?rests3
                        case hys3 => (intro w0 hSw; (try dsimp only at hSw); go_simp; try with_reducible rfl)
                        case' rests3 => try simp only [Act.put, List.getElem_toArray, List.getElem_cons_zero, List.getElem_cons_succ, List.setIfInBounds_toArray, List.set_cons_zero, List.set_cons_succ]
                        refine wpAnyH_take (i := 4) (v := ?vs4) rfl (by kernel_rfl) (by kernel_rfl) (by kernel_rfl) (fun _ _ _ h => h) (Or.inl ⟨by rfl, ?hys4⟩) (by assumption) ?rests4
                        case hys4 => (intro w0 hSw; (try dsimp only at hSw); go_simp; try with_reducible rfl)
                        case' rests4 => try simp only [Act.put, List.getElem_toArray, List.getElem_cons_zero, List.getElem_cons_succ, List.setIfInBounds_toArray, List.set_cons_zero, List.set_cons_succ]
                        refine wpAnyH_take (i := 5) (v := ?vs5) rfl (by kernel_rfl) (by kernel_rfl) (by kernel_rfl) (fun _ _ _ h => h) (Or.inl ⟨by rfl, ?hys5⟩) (by assumption) ?rests5
                        case hys5 => (intro w0 hSw; (try dsimp only at hSw); go_simp; try with_reducible rfl)
                        case' rests5 => try simp only [Act.put, List.getElem_toArray, List.getElem_cons_zero, List.getElem_cons_succ, List.setIfInBounds_toArray, List.set_cons_zero, List.set_cons_succ]
                        refine wpAnyH_take (i := 6) (v := ?vs6) rfl (by kernel_rfl) (by kernel_rfl) (by kernel_rfl) (fun _ _ _ h => h) (Or.inl ⟨by rfl, ?hys6⟩) (by assumption) ?rests6
                        case hys6 => (intro w0 hSw; (try dsimp only at hSw); go_simp; try with_reducible rfl)
                        case' rests6 => try simp only [Act.put, List.getElem_toArray, List.getElem_cons_zero, List.getElem_cons_succ, List.setIfInBounds_toArray, List.set_cons_zero, List.set_cons_succ]
                        refine wpAnyH_take (i := 7) (v := ?vs7) rfl (by kernel_rfl) (by kernel_rfl) (by kernel_rfl) (fun _ _ _ h => h) (Or.inl ⟨by rfl, ?hys7⟩) (by assumption) ?rests7
                        case hys7 => (intro w0 hSw; (try dsimp only at hSw); go_simp; try with_reducible rfl)
                        case' rests7 => try simp only [Act.put, List.getElem_toArray, List.getElem_cons_zero, List.getElem_cons_succ, List.setIfInBounds_toArray, List.set_cons_zero, List.set_cons_succ]
                        refine wpAnyH_take (i := 8) (v := ?vs8) rfl (by kernel_rfl) (by kernel_rfl) (by kernel_rfl) (fun _ _ _ h => h) (Or.inl ⟨by rfl, ?hys8⟩) (by assumption) ?rests8
                        case hys8 => (intro w0 hSw; (try dsimp only at hSw); go_simp; try with_reducible rfl)
                        case' rests8 => try simp only [Act.put, List.getElem_toArray, List.getElem_cons_zero, List.getElem_cons_succ, List.setIfInBounds_toArray, List.set_cons_zero, List.set_cons_succ]
                        refine wpAnyH_take (i := 9) (v := ?vs9) rfl (by kernel_rfl) (by kernel_rfl) (by kernel_rfl) (fun _ _ _ h => h) (Or.inl ⟨by rfl, ?hys9⟩) (by assumption) ?rests9
                        case hys9 => (intro w0 hSw; (try dsimp only at hSw); go_simp; try with_reducible rfl)
                        case' rests9 => try simp only [Act.put, List.getElem_toArray, List.getElem_cons_zero, List.getElem_cons_succ, List.setIfInBounds_toArray, List.set_cons_zero, List.set_cons_succ]
                        refine wpAnyH_take (i := 10) (v := ?vs10) rfl (by kernel_rfl) (by kernel_rfl) (by kernel_rfl) (fun _ _ _ h => h) (Or.inl ⟨by rfl, ?hys10⟩) (by assumption) ?rests10
                        case hys10 => (intro w0 hSw; (try dsimp only at hSw); go_simp; try with_reducible rfl)
                        case' rests10 => try simp only [Act.put, List.getElem_toArray, List.getElem_cons_zero, List.getElem_cons_succ, List.setIfInBounds_toArray, List.set_cons_zero, List.set_cons_succ]
                        refine wpAnyH_ready (rs := [11]) (by kernel_rfl) (by simp) ?_
                        refine AllReadyH.cons rfl (fun K hK => ?_) AllReadyH.nil
                        go_simp
                        refine (HL.out _).mono ?_; rintro e w1 ⟨rfl, hb⟩
                        have hbk := bch (Hid.out (And.left (by assumption))) hb (Below.size (Hid.out (And.left (by assumption))))
                        refine hK.out _ _ ⟨hbk, cell_at (((hbk).block _ (heap_lt HM2.out)).trans HM2.out) 0 rfl, cell_at (((hbk).block _ (heap_lt HM2.out)).trans HM2.out) 1 rfl, cell_at (((hbk).block _ (heap_lt HM2.out)).trans HM2.out) 2 rfl, cell_at (((hbk).block _ (heap_lt HM2.out)).trans HM2.out) 3 rfl, cell_at (((hbk).block _ (heap_lt HM2.out)).trans HM2.out) 4 rfl, (HD.out _ (hbk)).1, (HD.out _ (hbk)).2⟩ (fun hHeld => ?_)
                        clear hK K hb hbk
                        try simp only [Act.put, List.getElem_toArray, List.getElem_cons_zero, List.getElem_cons_succ, List.setIfInBounds_toArray, List.set_cons_zero, List.set_cons_succ]
                        refine wpAnyH_take (i := 12) (v := ?vs12) rfl (by kernel_rfl) (by kernel_rfl) (by kernel_rfl) (fun _ _ _ h => h) (Or.inl ⟨by rfl, ?hys12⟩) (by assumption) ?rests12
                        case hys12 => (intro w0 hSw; (try dsimp only at hSw); go_simp; try with_reducible rfl)
                        case' rests12 => try simp only [Act.put, List.getElem_toArray, List.getElem_cons_zero, List.getElem_cons_succ, List.setIfInBounds_toArray, List.set_cons_zero, List.set_cons_succ]
                        refine wpAnyH_take (i := 13) (v := ?vs13) rfl (by kernel_rfl) (by kernel_rfl) (by kernel_rfl) (fun _ _ _ h => h) (Or.inl ⟨by rfl, ?hys13⟩) (by assumption) ?rests13
                        case hys13 => (intro w0 hSw; (try dsimp only at hSw); go_simp; try with_reducible rfl)
                        case' rests13 => try simp only [Act.put, List.getElem_toArray, List.getElem_cons_zero, List.getElem_cons_succ, List.setIfInBounds_toArray, List.set_cons_zero, List.set_cons_succ]
                        refine wpAnyH_done (by kernel_rfl) ?_ _
                        refine NoPanic.normal ?_
                        have HW := Lib.hid (Hid.out hHeld.1)
                        clear hHeld
                        go_wp2_with fail
                        go_meet
                        exact ⟨rfl, HW⟩
                    case rest =>
                      obtain ⟨rfl, HCB⟩ := hcut
                      have HBx := Lib.hid (bch HBu.out HCB.out HBu.out.size)
                      have HM3 := Lib.hid (heap_keep HM2.out HCB.out)
                      clear HCB HM2
                      have HM2 := HM3
                      clear HM3
                      obtain ⟨m0, m1, m2, m3, m4⟩ := cell5 HM2.out
                      cases rb with
                      | false =>
                        have HF := Lib.hid (show checkB pd l = false from check_bad hkl (okAt_not HX.out HRB.out))
                        go_wp2_with fail
                        go_ret
                        exact ⟨by rw [HF.out]; rfl, HBx.out⟩
                      | true =>
                        have ht12 : t = 1 ∨ t = 2 := by omega
                        clear ht1 ht2
                        rcases ht12 with rfl | rfl
                        · by_cases ha1 : 0 ≤ n
                          · by_cases ha2 : n ≤ 1099511627776
                            · by_cases hq1 : 0 ≤ q
                              · by_cases hq2 : q ≤ 999
                                · by_cases ha0 : n = 0
                                  · subst ha0
                                    by_cases hq0 : q = 0
                                    · subst hq0
                                      by_cases hz : pd = 0
                                      · subst hz
                                        have HOKR := Lib.hid (show okRow 0 ((o, d), 1, 0, 0) = true by simp [okRow, hc, hpd])
                                        have HN := Lib.hid (show okTo 0 l (k + 1) = true by rw [okTo_succ, HTO.out, okAt_eq HX.out, HRB.out, HOKR.out]; rfl)
                                        go_wp2_with fail
                                        go_roundw
                                        case rel =>
                                          first
                                          | exact ⟨k + 1, by go_num, by omega, HN, HBx⟩
                                          | ((repeat apply Exists.intro); exact ⟨⟨k + 1, by go_num, by omega, HN, HBx⟩, rfl⟩)
                                        case measure => simp [intOf]; omega
                                      · have hzb := beqF hz
                                        have hzc := bneT hz
                                        have HOKR := Lib.hid (show okRow pd ((o, d), 1, 0, 0) = true by simp [okRow, hc, hpd, hz])
                                        have HN := Lib.hid (show okTo pd l (k + 1) = true by rw [okTo_succ, HTO.out, okAt_eq HX.out, HRB.out, HOKR.out]; rfl)
                                        go_wp2_with fail
                                        go_roundw
                                        case rel =>
                                          first
                                          | exact ⟨k + 1, by go_num, by omega, HN, HBx⟩
                                          | ((repeat apply Exists.intro); exact ⟨⟨k + 1, by go_num, by omega, HN, HBx⟩, rfl⟩)
                                        case measure => simp [intOf]; omega
                                    · have hq0b := beqF hq0
                                      have hq0c := bneT hq0
                                      by_cases hz : pd = 0
                                      · subst hz
                                        have HF := Lib.hid (show checkB 0 l = false from check_bad hkl (okAt_row HX.out (by simp [okRow, hc, hpd, hq0])))
                                        go_wp2_with fail
                                        go_ret
                                        exact ⟨by rw [HF.out]; rfl, HBx.out⟩
                                      · have hzb := beqF hz
                                        have hzc := bneT hz
                                        have HOKR := Lib.hid (show okRow pd ((o, d), 1, 0, q) = true by simp [okRow, hc, hpd, hz, hq1, hq2])
                                        have HN := Lib.hid (show okTo pd l (k + 1) = true by rw [okTo_succ, HTO.out, okAt_eq HX.out, HRB.out, HOKR.out]; rfl)
                                        go_wp2_with fail
                                        go_roundw
                                        case rel =>
                                          first
                                          | exact ⟨k + 1, by go_num, by omega, HN, HBx⟩
                                          | ((repeat apply Exists.intro); exact ⟨⟨k + 1, by go_num, by omega, HN, HBx⟩, rfl⟩)
                                        case measure => simp [intOf]; omega
                                  · have ha0b := beqF ha0
                                    have ha0c := bneT ha0
                                    by_cases hz : pd = 0
                                    · subst hz
                                      by_cases hq0 : q = 0
                                      · subst hq0
                                        have HOKR := Lib.hid (show okRow 0 ((o, d), 1, n, 0) = true by simp [okRow, hc, hpd, ha1, ha2])
                                        have HN := Lib.hid (show okTo 0 l (k + 1) = true by rw [okTo_succ, HTO.out, okAt_eq HX.out, HRB.out, HOKR.out]; rfl)
                                        go_wp2_with fail
                                        go_roundw
                                        case rel =>
                                          first
                                          | exact ⟨k + 1, by go_num, by omega, HN, HBx⟩
                                          | ((repeat apply Exists.intro); exact ⟨⟨k + 1, by go_num, by omega, HN, HBx⟩, rfl⟩)
                                        case measure => simp [intOf]; omega
                                      · have hq0b := beqF hq0
                                        have hq0c := bneT hq0
                                        have HF := Lib.hid (show checkB 0 l = false from check_bad hkl (okAt_row HX.out (by simp [okRow, hc, hpd, hq0])))
                                        go_wp2_with fail
                                        go_ret
                                        exact ⟨by rw [HF.out]; rfl, HBx.out⟩
                                    · have hzb := beqF hz
                                      have hzc := bneT hz
                                      have HF := Lib.hid (show checkB pd l = false from check_bad hkl (okAt_row HX.out (by simp [okRow, hc, hpd, ha0, hz])))
                                      go_wp2_with fail
                                      go_ret
                                      exact ⟨by rw [HF.out]; rfl, HBx.out⟩
                                · have hq2' : 999 < q := by omega
                                  have HF := Lib.hid (show checkB pd l = false from check_bad hkl (okAt_row HX.out (by cases hzz : okRow pd ((o, d), 1, n, q) with | false => rfl | true => (exfalso; simp [okRow, hc, hpd] at hzz; split at hzz <;> omega))))
                                  go_wp2_with fail
                                  go_ret
                                  exact ⟨by rw [HF.out]; rfl, HBx.out⟩
                              · have hq1' : q < 0 := by omega
                                have HF := Lib.hid (show checkB pd l = false from check_bad hkl (okAt_row HX.out (by cases hzz : okRow pd ((o, d), 1, n, q) with | false => rfl | true => (exfalso; simp [okRow, hc, hpd] at hzz; split at hzz <;> omega))))
                                go_wp2_with fail
                                go_ret
                                exact ⟨by rw [HF.out]; rfl, HBx.out⟩
                            · have ha2' : 1099511627776 < n := by omega
                              have HF := Lib.hid (show checkB pd l = false from check_bad hkl (okAt_row HX.out (by cases hzz : okRow pd ((o, d), 1, n, q) with | false => rfl | true => (exfalso; simp [okRow, hc, hpd] at hzz; split at hzz <;> omega))))
                              go_wp2_with fail
                              go_ret
                              exact ⟨by rw [HF.out]; rfl, HBx.out⟩
                          · have ha1' : n < 0 := by omega
                            have HF := Lib.hid (show checkB pd l = false from check_bad hkl (okAt_row HX.out (by cases hzz : okRow pd ((o, d), 1, n, q) with | false => rfl | true => (exfalso; simp [okRow, hc, hpd] at hzz; split at hzz <;> omega))))
                            go_wp2_with fail
                            go_ret
                            exact ⟨by rw [HF.out]; rfl, HBx.out⟩
                        · by_cases ha1 : 0 ≤ n
                          · by_cases ha2 : n ≤ 1099511627776
                            · by_cases hq1 : 0 ≤ q
                              · by_cases hq2 : q ≤ 999
                                · by_cases ha0 : n = 0
                                  · subst ha0
                                    by_cases hq0 : q = 0
                                    · subst hq0
                                      have HOKR := Lib.hid (show okRow pd ((o, d), 2, 0, 0) = true by simp [okRow, hc, hpd])
                                      have HN := Lib.hid (show okTo pd l (k + 1) = true by rw [okTo_succ, HTO.out, okAt_eq HX.out, HRB.out, HOKR.out]; rfl)
                                      go_wp2_with fail
                                      go_roundw
                                      case rel =>
                                        first
                                        | exact ⟨k + 1, by go_num, by omega, HN, HBx⟩
                                        | ((repeat apply Exists.intro); exact ⟨⟨k + 1, by go_num, by omega, HN, HBx⟩, rfl⟩)
                                      case measure => simp [intOf]; omega
                                    · have hq0b := beqF hq0
                                      have hq0c := bneT hq0
                                      by_cases hz : pd = 0
                                      · subst hz
                                        have HF := Lib.hid (show checkB 0 l = false from check_bad hkl (okAt_row HX.out (by simp [okRow, hc, hpd, hq0])))
                                        go_wp2_with fail
                                        go_ret
                                        exact ⟨by rw [HF.out]; rfl, HBx.out⟩
                                      · have hzb := beqF hz
                                        have hzc := bneT hz
                                        have HF := Lib.hid (show checkB pd l = false from check_bad hkl (okAt_row HX.out (by simp [okRow, hc, hpd, hq0])))
                                        go_wp2_with fail
                                        go_ret
                                        exact ⟨by rw [HF.out]; rfl, HBx.out⟩
                                  · have ha0b := beqF ha0
                                    have ha0c := bneT ha0
                                    by_cases hz : pd = 0
                                    · subst hz
                                      have HF := Lib.hid (show checkB 0 l = false from check_bad hkl (okAt_row HX.out (by simp [okRow, hc, hpd, ha0])))
                                      go_wp2_with fail
                                      go_ret
                                      exact ⟨by rw [HF.out]; rfl, HBx.out⟩
                                    · have hzb := beqF hz
                                      have hzc := bneT hz
                                      have HF := Lib.hid (show checkB pd l = false from check_bad hkl (okAt_row HX.out (by simp [okRow, hc, hpd, ha0])))
                                      go_wp2_with fail
                                      go_ret
                                      exact ⟨by rw [HF.out]; rfl, HBx.out⟩
                                · have hq2' : 999 < q := by omega
                                  have HF := Lib.hid (show checkB pd l = false from check_bad hkl (okAt_row HX.out (by cases hzz : okRow pd ((o, d), 2, n, q) with | false => rfl | true => (exfalso; simp [okRow, hc, hpd] at hzz; omega))))
                                  go_wp2_with fail
                                  go_ret
                                  exact ⟨by rw [HF.out]; rfl, HBx.out⟩
                              · have hq1' : q < 0 := by omega
                                have HF := Lib.hid (show checkB pd l = false from check_bad hkl (okAt_row HX.out (by cases hzz : okRow pd ((o, d), 2, n, q) with | false => rfl | true => (exfalso; simp [okRow, hc, hpd] at hzz; omega))))
                                go_wp2_with fail
                                go_ret
                                exact ⟨by rw [HF.out]; rfl, HBx.out⟩
                            · have ha2' : 1099511627776 < n := by omega
                              have HF := Lib.hid (show checkB pd l = false from check_bad hkl (okAt_row HX.out (by cases hzz : okRow pd ((o, d), 2, n, q) with | false => rfl | true => (exfalso; simp [okRow, hc, hpd] at hzz; omega))))
                              go_wp2_with fail
                              go_ret
                              exact ⟨by rw [HF.out]; rfl, HBx.out⟩
                          · have ha1' : n < 0 := by omega
                            have HF := Lib.hid (show checkB pd l = false from check_bad hkl (okAt_row HX.out (by cases hzz : okRow pd ((o, d), 2, n, q) with | false => rfl | true => (exfalso; simp [okRow, hc, hpd] at hzz; omega))))
                            go_wp2_with fail
                            go_ret
                            exact ⟨by rw [HF.out]; rfl, HBx.out⟩
                  · have ht2' : 2 < t := by omega
                    have ht3 : ¬ t = 2 := by omega
                    have ht4 : ¬ t = 1 := by omega
                    have HF := Lib.hid (show checkB pd l = false from check_bad hkl (okAt_row HX.out (by simp [okRow, hc, hpd, ht3, ht4])))
                    go_wp2_with fail
                    go_ret
                    exact ⟨by rw [HF.out]; rfl, HBx.out⟩
                · have ht1' : t < 1 := by omega
                  have ht3 : ¬ t = 2 := by omega
                  have ht4 : ¬ t = 1 := by omega
                  have HF := Lib.hid (show checkB pd l = false from check_bad hkl (okAt_row HX.out (by simp [okRow, hc, hpd, ht3, ht4])))
                  go_wp2_with fail
                  go_ret
                  exact ⟨by rw [HF.out]; rfl, HBx.out⟩
              · have hpb := bneT hp
                have HF := Lib.hid (show checkB p l = false from check_bad hkl (okAt_row HX.out (by simp [okRow, hc, hpd, hp])))
                go_wp2_with fail
                go_ret
                exact ⟨by rw [HF.out]; rfl, HBx.out⟩
          · obtain rfl : k = l.length := by omega
            have HF := Lib.hid (show checkB p l = true by unfold checkB; rw [HTO.out]; simp [hp0, hp2, hl4])
            go_wp2_with fail
            go_ret
            exact ⟨by rw [HF.out]; rfl, HBr.out⟩
      · have hl4' : (400 : Int) < l.length := by omega
        have HF := Lib.hid (show checkB p l = false by unfold checkB; simp; omega)
        go_enter Tryz.func66, Tryz.ntmps66
        go_wp2_with fail
        go_ret
        exact ⟨by rw [HF.out]; rfl, Below.refl _ _⟩
    · have hp2' : 2 < p := by omega
      have HF := Lib.hid (show checkB p l = false by unfold checkB; simp; omega)
      go_enter Tryz.func66, Tryz.ntmps66
      go_wp2_with fail
      go_ret
      exact ⟨by rw [HF.out]; rfl, Below.refl _ _⟩
  · have hp0' : p < 0 := by omega
    have HF := Lib.hid (show checkB p l = false by unfold checkB; simp; omega)
    go_enter Tryz.func66, Tryz.ntmps66
    go_wp2_with fail
    go_ret
    exact ⟨by rw [HF.out]; rfl, Below.refl _ _⟩
set_option linter.unusedSimpArgs false in
set_option linter.unusedVariables false in
set_option maxRecDepth 100000 in
set_option maxHeartbeats 8000000 in
theorem refRowsValid_any (w : World) (p s : Int) (v : Value) (l : List R5) (hR : Rd w v l) :
    Calls Tryz.prog 32 #[.agg #[.int .i64 p, .int .i64 s, v]] w fun e w' => e = .returned (.bool (validB p s l)) ∧ Below w.heap.size w w' := by
  have HB := Lib.hid (below_alloc w (.cells #[.int .i64 p, .int .i64 s, v] tStat))
  have HM := Lib.hid (heap_new w (.cells #[.int .i64 p, .int .i64 s, v] tStat))
  have HC := Lib.hid (fun W (hb : Below w.heap.size w W) => refRowsCheck_any W v l p (hR.keep hb))
  obtain ⟨A, c, rfl, _⟩ := hR.shape
  clear hR
  by_cases h1 : 1 ≤ s
  · by_cases h2 : s ≤ 1073741824
    · have HF := Lib.hid (show validB p s l = checkB p l by unfold validB; simp [h1, h2])
      go_enter Tryz.func32, Tryz.ntmps32
      go_wp2_with fail
      generalize w.alloc (.cells #[.int .i64 p, .int .i64 s, .slice A l.length c] tStat) = wa at HB HM ⊢
      obtain ⟨m0, m1, m2⟩ := cell3c HM.out
      go_wp2_with fail
      refine (HC.out _ HB.out).mono ?_
      rintro e w1 ⟨rfl, hb⟩
      go_wp2_with fail
      go_ret
      exact ⟨by rw [HF.out]; rfl, bch HB.out hb HB.out.size⟩
    · have HF := Lib.hid (show validB p s l = false by unfold validB; simp; omega)
      have h2' : 1073741824 < s := by omega
      go_enter Tryz.func32, Tryz.ntmps32
      go_wp2_with fail
      generalize w.alloc (.cells #[.int .i64 p, .int .i64 s, .slice A l.length c] tStat) = wa at HB HM ⊢
      obtain ⟨m0, m1, m2⟩ := cell3c HM.out
      go_wp2_with fail
      go_ret
      exact ⟨by rw [HF.out]; rfl, HB.out⟩
  · have HF := Lib.hid (show validB p s l = false by unfold validB; simp; omega)
    have h1' : s < 1 := by omega
    go_enter Tryz.func32, Tryz.ntmps32
    go_wp2_with fail
    generalize w.alloc (.cells #[.int .i64 p, .int .i64 s, .slice A l.length c] tStat) = wa at HB HM ⊢
    obtain ⟨m0, m1, m2⟩ := cell3c HM.out
    go_wp2_with fail
    go_ret
    exact ⟨by rw [HF.out]; rfl, HB.out⟩
end Go.Proofs.YtgpjbigelblanaaGreatDoor
/- The document's cell and Print of the carrier's statements: what they compute. -/
namespace Go.Proofs.YtgpjbigelblanaaGreatDoor
open Go.RowKit Go.Maps Key Mon Mf Rw

theorem mrefput_any (n : Int) (w : World) (hn : InR n) : Calls Tryz.prog 48 #[.int .i64 n] w fun e w' => e = .returned (.string ⟨(Lib.itoa n).toArray⟩) ∧ Below w.heap.size w w' := by
  have HP := Lib.hid (refPut_any n w hn)
  obtain ⟨hn1, hn2⟩ := hn
  go_enter Tryz.func48, Tryz.ntmps48
  go_wp2_with fail
  refine HP.out.mono ?_
  rintro e w1 ⟨rfl, hb⟩
  have HB := Lib.hid hb
  clear hb
  go_wp2_with fail
  go_ret
  exact ⟨rfl, HB.out⟩
set_option linter.unusedSimpArgs false in
set_option linter.unusedVariables false in
set_option maxRecDepth 100000 in
set_option maxHeartbeats 4000000 in
theorem mrcell_any (v : Value) (l : List R5) (o d : Int) (w : World) (hR : Rd w v l) (hok : ∀ x ∈ l, okRow 2 x = true) (hp : l.Pairwise fun x y => lessR x y = true) (hl : l.length ≤ 1000) :
    Calls Tryz.prog 49 #[v, .int .i64 o, .int .i64 d] w fun e w' => e = .returned (.string ⟨(cellW (sayR (deedRow l o d))).toArray⟩) ∧ Below w.heap.size w w' := by
  obtain ⟨Av, cv, rfl, _⟩ := hR.shape
  have HR := Lib.hid hR
  have HOK := Lib.hid hok
  have HAT := Lib.hid (fun (x : R5) (hx : x ∈ l) => deedRow_mem hp hx)
  clear hR hok hp
  go_enter Tryz.func49, Tryz.ntmps49
  go_wp2_with fail
  go_loopw [7] (fun i wr => ∃ k : Nat, i = .int .i64 k ∧ k ≤ l.length ∧ Hid (∀ (j : Nat) (y : R5), j < k → l[j]? = some y → y.1 ≠ (o, d)) ∧ Hid (Below w.heap.size w wr)) (fun i _ => l.length - (intOf i).toNat)
  case atStart => exact ⟨0, rfl, by omega, fun j y h => by omega, Below.refl _ _⟩
  case round =>
    obtain ⟨k, rfl, hk, HN, HBr⟩ := hrel
    by_cases hkl : k < l.length
    · obtain ⟨x, hx⟩ : ∃ x, l[k]? = some x := ⟨_, List.getElem?_eq_getElem hkl⟩
      obtain ⟨g, off, n', c', e, d0, d1, d2, d3, d4⟩ := HR.out.cells HBr.out hx
      injection e with e1 e2 e3
      subst e1
      have hxm := List.mem_of_getElem? hx
      have hrow := row_carry (HOK.out x hxm)
      have hat := HAT.out x hxm
      have HNX := Lib.hid (fun (hne : x.1 ≠ (o, d)) => (show ∀ (j : Nat) (y : R5), j < k + 1 → l[j]? = some y → y.1 ≠ (o, d) from fun j y hj hy => by
        by_cases hjk : j = k
        · subst hjk; rw [hx] at hy; cases hy; exact hne
        · exact HN.out j y (by omega) hy))
      obtain ⟨⟨xo, xd⟩, xc, xa, xq⟩ := x
      simp only [] at d0 d1 d2 d3 d4 hrow hat
      have hkI : (k : Int) < l.length := by omega
      have hk0 : (0 : Int) ≤ k := by omega
      clear hx hxm e2 e3
      by_cases ho : xo = o
      · have hqo := beqT ho
        by_cases hd : xd = d
        · have hqd := beqT hd
          rw [ho, hd] at hat
          have hql := Sk.itoa_len (n := xq) 2 (by omega) (by simp; omega)
          by_cases hc : xc = 2
          · have hqc := beqT hc
            have HE := Lib.hid (show cellW (sayR (deedRow l o d)) = Sk.wRef by rw [hat]; unfold cellW sayR; simp [hc])
            clear hat hrow ho hd hc
            go_wp2_with fail
            go_ret
            exact ⟨by rw [HE.out]; rfl, HBr.out⟩
          · have hqc := beqF hc
            have HE := Lib.hid (show cellW (sayR (deedRow l o d)) = wDone ++ Lib.itoa xq by rw [hat]; unfold cellW sayR; simp only []; rw [if_neg (by omega), if_neg hc])
            have HPUT := Lib.hid (fun W => mrefput_any xq W (show InR _ by unfold InR; omega))
            clear hat hrow ho hd hc
            go_wp2_with fail
            refine (HPUT.out _).mono ?_
            rintro e w1 ⟨rfl, hb⟩
            have HB1 := Lib.hid (bch HBr.out hb HBr.out.size)
            clear hb
            obtain ⟨T, hT⟩ : ∃ T, Lib.itoa xq = T := ⟨_, rfl⟩
            rw [hT] at HE hql ⊢
            clear hT
            go_wp2_with fail
            go_ret
            exact ⟨by rw [HE.out]; show Ending.returned (Value.string ((⟨([100, 111, 110, 101, 58] : List UInt8).toArray⟩ : ByteArray) ++ ⟨T.toArray⟩)) = _; rw [join_bytes]; rfl, HB1.out⟩
        · have hqd := beqF hd
          have HNE := Lib.hid (HNX.out (fun e => hd (by injection e)))
          clear hat hrow ho hd
          go_wp2_with fail
          go_roundw
          case rel => exact ⟨k + 1, by go_num, by omega, HNE.out, HBr.out⟩
          case measure => simp [intOf]; omega
      · have hqo := beqF ho
        have HNE := Lib.hid (HNX.out (fun e => ho (by injection e)))
        clear hat hrow ho
        go_wp2_with fail
        go_roundw
        case rel => exact ⟨k + 1, by go_num, by omega, HNE.out, HBr.out⟩
        case measure => simp [intOf]; omega
    · obtain rfl : k = l.length := by omega
      have HE := Lib.hid (show cellW (sayR (deedRow l o d)) = wNo by
        have : deedRow l o d = none := by
          unfold deedRow
          rw [List.find?_eq_none]
          intro x hx e
          obtain ⟨j, hj⟩ := List.getElem?_of_mem hx
          exact HN.out j x (List.getElem?_eq_some_iff.1 hj).1 hj (of_decide_eq_true e)
        rw [this]; rfl)
      go_wp2_with fail
      go_ret
      exact ⟨by rw [HE.out]; rfl, HBr.out⟩
set_option linter.unusedSimpArgs false in
set_option linter.unusedVariables false in
set_option maxRecDepth 100000 in
set_option maxHeartbeats 4000000 in
theorem mrefPrint_any (v : Value) (p q : Int) (l : List R5) (w : World) (hR : Rd w v l) : Calls Tryz.prog 21 #[.agg #[.int .i64 p, .int .i64 q, v]] w fun e w' => e = .returned (printV (Mf.printS p q l)) ∧ Below w.heap.size w w' := by
  obtain ⟨k0, hk0', hz0, hz1, hz2⟩ := info_parts line_info
  obtain ⟨Av, cv, rfl, hcv, hcm⟩ := hR.shape
  obtain ⟨wa, hwa⟩ : ∃ wa, w.alloc (.cells #[.int .i64 p, .int .i64 q, .slice Av l.length cv] tStat) = wa := ⟨_, rfl⟩
  have HA := Lib.hid (show Below w.heap.size w wa by rw [← hwa]; exact below_alloc _ _)
  have HX := Lib.hid (show wa.heap[w.heap.size]? = some (.cells #[.int .i64 p, .int .i64 q, .slice Av l.length cv] tStat (0, 0)) by rw [← hwa]; exact heap_new _ _)
  have hWA := Lib.hid hwa
  have HR := Lib.hid hR
  clear hwa hR
  obtain ⟨m0, m1, m2⟩ := cell3c HX.out
  by_cases hp : p = 2
  · have hpq := bneF hp
    cases hv : validB p q l with
    | false =>
      have HF := Lib.hid (show Mf.printS p q l = ([], 2) by unfold Mf.printS Mf.okP; rw [hv]; simp)
      have HV := Lib.hid (refRowsValid_any wa p q (.slice Av l.length cv) l (HR.out.keep HA.out))
      rw [hv] at HV
      clear hp hv
      go_enter Tryz.func21, Tryz.ntmps21
      go_upto_region 1 with (fail)
      rw [hWA.out]
      go_wp2_with (go_at_call 32; refine HV.out.mono ?_; rintro e w1 ⟨rfl, hb⟩; have HB := Lib.hid (bch HA.out hb HA.out.size); clear hb)
      go_ret2
      exact ⟨by rw [HF.out]; rfl, HB.out⟩
    | true =>
      subst hp
      have hf := Mf.fits_table hv
      have hvp := Mf.valid_parts hv
      have htot := Mf.total_small hv
      have HF := Lib.hid (show Mf.printS 2 q l = (Csv.printOf (Mf.table q l), 0) by unfold Mf.printS Mf.okP; rw [hv]; simp)
      have HV := Lib.hid (refRowsValid_any wa 2 q (.slice Av l.length cv) l (HR.out.keep HA.out))
      rw [hv] at HV
      have HFIT := Lib.hid hf
      have hl4 := hvp.2.2.1
      have HPUTQ := Lib.hid (fun W => mrefput_any q W (show InR q by unfold InR; have := hvp.1; have := hvp.2.1; omega))
      have HOK := Lib.hid hvp.2.2.2.1
      have HRI := Lib.hid hvp.2.2.2.2
      have HALL := Lib.hid (refTo_all hvp.2.2.2.1 hvp.2.2.2.2)
      have HTR := Lib.hid (fun (k : Nat) (x : R5) (hx : l[k]? = some x) => (show 0 ≤ Mf.total (l.take k) ∧ Mf.total (l.take k) ≤ 399600 ∧ 0 ≤ x.2.2.2 ∧ x.2.2.2 ≤ 999 from by
        have h1 := Mf.total_room (l := l.take k) fun y hy => hvp.2.2.2.1 y (List.mem_of_mem_take hy)
        have h2 : (l.take k).length ≤ l.length := List.length_take_le' _ _
        have h3 := (Mf.row_carry (hvp.2.2.2.1 x (List.mem_of_getElem? hx))).2.2.2.2.1
        omega))
      have HCE := Lib.hid (fun (o d : Int) (W : World) (hM : Rd W (.slice Av l.length cv) l) => mrcell_any (.slice Av l.length cv) l o d W hM hvp.2.2.2.1 hvp.2.2.2.2 (by omega))
      have HSAY := Lib.hid (fun (o d : Int) => Mf.cellW_len (Mf.say_ok hvp.2.2.2.1 o d))
      clear hv hf hvp
      go_enter Tryz.func21, Tryz.ntmps21
      go_upto_region 1 with (fail)
      rw [hWA.out]
      go_upto_region 3 with (go_at_call 32; refine HV.out.mono ?_; rintro e w1 ⟨rfl, hb⟩; have HB1 := Lib.hid (bch HA.out hb HA.out.size); have HX1 := Lib.hid (heap_keep HX.out hb); clear hb m0 m1 m2)
      obtain ⟨m0, m1, m2⟩ := cell3c HX1.out
      go_wp2_with fail
      refine (HPUTQ.out _).mono ?_
      rintro e w2 ⟨rfl, hb2⟩
      have HB2 := Lib.hid (bch HB1.out hb2 HB1.out.size); have HX2 := Lib.hid (heap_keep HX1.out hb2)
      clear hb2 m0 m1 m2
      go_upto_region 4 with (fail)
      obtain ⟨w3, hw3⟩ : ∃ w3, w3 = (w2.alloc (.cells #[.string ⟨#[109, 97, 110, 105, 102, 101, 115, 116]⟩, .string ⟨(Lib.itoa q).toArray⟩] tFld)).alloc (.cells #[.slice (some ⟨w2.heap.size, 0, none⟩) 2 2] tLine) := ⟨_, rfl⟩
      rw [← hw3]
      have h2 := two_blocks' w2 _ _ hw3.symm
      have HB3 := Lib.hid (bch HB2.out h2.1 HB2.out.size); have HX3 := Lib.hid (heap_keep HX2.out h2.1)
      have HT3 := Lib.hid (show TabO (w.heap.size + 1) w3 (.slice (some ⟨w2.heap.size + 1, 0, none⟩) 1 1) [[Mf.wHead, Lib.itoa q]] [.slice (some ⟨w2.heap.size, 0, none⟩) 2 2] from TabO.one ⟨_, rfl, h2.2.1⟩ h2.2.2 (by have := heap_lt HX2.out; omega))
      clear hw3 h2
      generalize w2.heap.size = b2 at HT3 ⊢
      go_wp2_with fail
      go_loopw [4, 5, 6] (fun v4 t5 i wr => ∃ (k : Nat) (vs : List Value), i = .int .i64 k ∧ t5 = .int .i64 (Mf.total (l.take k)) ∧ k ≤ l.length ∧ Hid (TabO (w.heap.size + 1) wr v4 ([Mf.wHead, Lib.itoa q] :: Mf.refTo l k) vs) ∧ Hid (wr.heap[w.heap.size]? = some (.cells #[.int .i64 2, .int .i64 q, .slice Av l.length cv] tStat (0, 0))) ∧ Hid (Below w.heap.size w wr)) (fun _ _ i _ => l.length - (intOf i).toNat)
      case atStart => exact ⟨0, _, rfl, rfl, by omega, HT3.out, HX3.out, HB3.out⟩
      case round =>
        obtain ⟨k, vs, rfl, rfl, hk, HT, HXr, HBr⟩ := hrel
        obtain ⟨A4, c4, rfl, _⟩ := own_slice HT.out.own
        have hll := Mf.ordTo_len l k
        have hrl := Mf.refTo_len l k
        obtain ⟨n4, hn4⟩ : ∃ n4, (Mf.refTo l k).length = n4 := ⟨_, rfl⟩
        have hlen4 : ([Mf.wHead, Lib.itoa q] :: Mf.refTo l k).length = n4 + 1 := by simp [hn4]
        have HT := Lib.hid (show TabO (w.heap.size + 1) wr (.slice A4 (n4 + 1) c4) ([Mf.wHead, Lib.itoa q] :: Mf.refTo l k) vs by have := HT.out; rw [hlen4] at this; exact this)
        have HN4 := Lib.hid hn4
        have hn5 : n4 ≤ k := by omega
        rw [hlen4]
        clear hn4 hll hrl
        obtain ⟨m0, m1, m2⟩ := cell3c HXr.out
        by_cases hkl : k < l.length
        · obtain ⟨x, hx⟩ : ∃ x, l[k]? = some x := ⟨_, List.getElem?_eq_getElem hkl⟩
          have hok := HOK.out x (List.mem_of_getElem? hx)
          have hrow := Mf.row_carry hok
          obtain ⟨g, off, n', c', e, d0, d1, d2, d3, d4⟩ := HR.out.cells HBr.out hx
          injection e with e1 e2 e3
          subst e1
          have HTT := Lib.hid (Mf.total_take hx)
          have HYES := Lib.hid (fun h => Mf.refTo_yes (l := l) (k := k) hx h)
          have HNO := Lib.hid (fun h => Mf.refTo_no (l := l) (k := k) hx h)
          have htr := HTR.out k x hx
          have hkI : (k : Int) < l.length := by omega
          have hkI0 : (0 : Int) ≤ k := by omega
          obtain ⟨⟨xo, xd⟩, xc, xa, xq⟩ := x
          simp only [] at d0 d1 d2 d3 d4 htr
          have HP0 := Lib.hid (fun W => mrefput_any xo W (show InR _ by unfold InR; have := hrow.1; simp only [] at this; omega))
          have HC1 := Lib.hid (fun W hM => HCE.out xo 2 W hM)
          have HC2 := Lib.hid (fun W hM => HCE.out xo 5 W hM)
          have hl1 := HSAY.out xo 2
          have hl2 := HSAY.out xo 5
          obtain ⟨V1, hV1⟩ : ∃ V, Mf.cellW (Mf.sayR (deedRow l xo 2)) = V := ⟨_, rfl⟩
          obtain ⟨V2, hV2⟩ : ∃ V, Mf.cellW (Mf.sayR (deedRow l xo 5)) = V := ⟨_, rfl⟩
          have HROW := Lib.hid (show Mf.lineR l xo = [Lib.itoa xo, V1, V2] by unfold Mf.lineR; rw [hV1, hV2])
          rw [hV1] at HC1 hl1
          rw [hV2] at HC2 hl2
          have hwrap : IntKind.i64.wrap (Mf.total (l.take k) + xq) = Mf.total (l.take k) + xq := IntWalk.i64_in _ (by omega)
          have hprev : k = 0 ∨ ∃ (j : Nat) (y : R5), k = j + 1 ∧ l[j]? = some y := by
            cases k with
            | zero => exact .inl rfl
            | succ j => exact .inr ⟨j, _, rfl, List.getElem?_eq_getElem (by omega)⟩
          clear hok hrow e2 e3 hV1 hV2
          go_upto_region 9 with (fail)
          obtain ⟨wq, hW⟩ : ∃ wq, wq = wr.alloc (.cells #[.int .i64 xo, .int .i64 xd] tKey) := ⟨_, rfl⟩
          rw [← hW]
          have hbW : Below wr.heap.size wr wq := by rw [hW]; exact below_alloc _ _
          have HRW := Lib.hid (show wq.heap[wr.heap.size]? = some (.cells #[.int .i64 xo, .int .i64 xd] tKey (0, 0)) by rw [hW]; exact heap_new _ _)
          have HTW := Lib.hid (HT.out.below hbW); have HXW := Lib.hid (heap_keep HXr.out hbW); have HBW := Lib.hid (bch HBr.out hbW HBr.out.size)
          have hne : ¬ Value.ownBlock (.slice A4 (n4 + 1) c4) = some wr.heap.size := fun e => by have := (HT.out.own.lt wr.heap.size e).2; omega
          have hdq : wq.cell? ⟨g, off + k * 5 + 4, none⟩ = some (.int .i64 xq) := by
            have hg := World.block_lt_of_cell? wr _ d4
            exact (hbW.cell hg).trans d4
          clear hW hbW d0 d1 d2 d3 d4 m0 m1 m2
          generalize wr.heap.size = br at HRW hne ⊢
          obtain ⟨m0, m1, m2⟩ := cell3c HXW.out
          obtain ⟨n0, n1, _, _⟩ := cell2 HRW.out
          go_upto_region 10 with (fail)
          rcases hprev with rfl | ⟨j, y, rfl, hy⟩
          · have HHD := Lib.hid (show Mf.refTo l (0 + 1) = Mf.refTo l 0 ++ [[Lib.itoa xo, V1, V2]] by rw [HYES.out rfl, HROW.out])
            clear hx
            go_quiet (fail)
            go_upto_region 11 with (fail)
            obtain ⟨wz, hwz⟩ : ∃ wz, wz = wq.drewN nq := ⟨_, rfl⟩
            rw [← hwz]
            have hbz : Below wq.heap.size wq wz := by rw [hwz]; exact below_dq (Below.refl _ wq) nq
            have HRZ := Lib.hid (heap_keep HRW.out hbz); have HTZ := Lib.hid (HTW.out.below hbz); have HXZ := Lib.hid (heap_keep HXW.out hbz); have HBZ := Lib.hid (bch HBW.out hbz HBW.out.size)
            clear hwz hbz m0 m1 m2 n0 n1 hdq 
            have HH := Lib.hid (fun W' (hb : Turned (fun j => Value.ownBlock (.slice A4 (n4 + 1) c4) = some j) wz W') => (⟨Lib.hid hb, (cell_at (heap_turnT HRZ.out hb hne) 0 rfl), (cell_at (heap_turnT HXZ.out hb (fun e => by have := (HTZ.out.own.lt _ e).1; omega)) 2 rfl)⟩ : (fun w' => Hid (Turned (fun j => Value.ownBlock (.slice A4 (n4 + 1) c4) = some j) wz w') ∧ w'.cell? ⟨br, 0, none⟩ = some (.int .i64 xo) ∧ w'.cell? ⟨w.heap.size, 2, none⟩ = some (.slice (some ⟨g, off, none⟩) l.length cv)) W'))
            refine wp_region_noPanic ?_
            refine wp_region_held_drew (S := (fun w' => Hid (Turned (fun j => Value.ownBlock (.slice A4 (n4 + 1) c4) = some j) wz w') ∧ w'.cell? ⟨br, 0, none⟩ = some (.int .i64 xo) ∧ w'.cell? ⟨w.heap.size, 2, none⟩ = some (.slice (some ⟨g, off, none⟩) l.length cv))) (by kernel_rfl) (HH.out _ ((Turned.refl (fun j => Value.ownBlock (.slice A4 (n4 + 1) c4) = some j) wz).drew)) (fun hHeld => ?_)
            refine wpAnyH_take (i := 0) (v := ?vc0_1) rfl (by kernel_rfl) (by kernel_rfl) (by kernel_rfl) (fun _ _ _ h => h) (Or.inl ⟨by rfl, ?hyc0_1⟩) (by assumption) ?restc0_1
            case hyc0_1 => (intro w0 hSw; (try dsimp only at hSw); go_simp; try with_reducible rfl)
            case' restc0_1 => try simp only [Act.put, List.getElem_toArray, List.getElem_cons_zero, List.getElem_cons_succ, List.setIfInBounds_toArray, List.set_cons_zero, List.set_cons_succ]
            refine wpAnyH_take (i := 1) (v := ?vc1_2) rfl (by kernel_rfl) (by kernel_rfl) (by kernel_rfl) (fun _ _ _ h => h) (Or.inl ⟨by rfl, ?hyc1_2⟩) (by assumption) ?restc1_2
            case hyc1_2 => (intro w0 hSw; (try dsimp only at hSw); go_simp; try with_reducible rfl)
            case' restc1_2 => try simp only [Act.put, List.getElem_toArray, List.getElem_cons_zero, List.getElem_cons_succ, List.setIfInBounds_toArray, List.set_cons_zero, List.set_cons_succ]
            refine wpAnyH_take (i := 2) (v := ?vc2_3) rfl (by kernel_rfl) (by kernel_rfl) (by kernel_rfl) (fun _ _ _ h => h) (Or.inl ⟨by rfl, ?hyc2_3⟩) (by assumption) ?restc2_3
            case hyc2_3 => (intro w0 hSw; (try dsimp only at hSw); go_simp; try with_reducible rfl)
            case' restc2_3 => try simp only [Act.put, List.getElem_toArray, List.getElem_cons_zero, List.getElem_cons_succ, List.setIfInBounds_toArray, List.set_cons_zero, List.set_cons_succ]
            refine wpAnyH_take (i := 4) (v := ?vc4_4) rfl (by kernel_rfl) (by kernel_rfl) (by kernel_rfl) (fun _ _ _ h => h) (Or.inl ⟨by rfl, ?hyc4_4⟩) (by assumption) ?restc4_4
            case hyc4_4 => (intro w0 hSw; (try dsimp only at hSw); go_simp; try with_reducible rfl)
            case' restc4_4 => try simp only [Act.put, List.getElem_toArray, List.getElem_cons_zero, List.getElem_cons_succ, List.setIfInBounds_toArray, List.set_cons_zero, List.set_cons_succ]
            refine wpAnyH_take (i := 5) (v := ?vc5_5) rfl (by kernel_rfl) (by kernel_rfl) (by kernel_rfl) (fun _ _ _ h => h) (Or.inl ⟨by rfl, ?hyc5_5⟩) (by assumption) ?restc5_5
            case hyc5_5 => (intro w0 hSw; (try dsimp only at hSw); go_simp; try with_reducible rfl)
            case' restc5_5 => try simp only [Act.put, List.getElem_toArray, List.getElem_cons_zero, List.getElem_cons_succ, List.setIfInBounds_toArray, List.set_cons_zero, List.set_cons_succ]
            refine wpAnyH_take (i := 6) (v := ?vc6_6) rfl (by kernel_rfl) (by kernel_rfl) (by kernel_rfl) (fun _ _ _ h => h) (Or.inl ⟨by rfl, ?hyc6_6⟩) (by assumption) ?restc6_6
            case hyc6_6 => (intro w0 hSw; (try dsimp only at hSw); go_simp; try with_reducible rfl)
            case' restc6_6 => try simp only [Act.put, List.getElem_toArray, List.getElem_cons_zero, List.getElem_cons_succ, List.setIfInBounds_toArray, List.set_cons_zero, List.set_cons_succ]
            refine wpAnyH_take (i := 7) (v := ?vc7_7) rfl (by kernel_rfl) (by kernel_rfl) (by kernel_rfl) (fun _ _ _ h => h) (Or.inl ⟨by rfl, ?hyc7_7⟩) (by assumption) ?restc7_7
            case hyc7_7 => (intro w0 hSw; (try dsimp only at hSw); go_simp; try with_reducible rfl)
            case' restc7_7 => try simp only [Act.put, List.getElem_toArray, List.getElem_cons_zero, List.getElem_cons_succ, List.setIfInBounds_toArray, List.set_cons_zero, List.set_cons_succ]
            refine wpAnyH_take (i := 9) (v := ?vc9_8) rfl (by kernel_rfl) (by kernel_rfl) (by kernel_rfl) (fun _ _ _ h => h) (Or.inl ⟨by rfl, ?hyc9_8⟩) (by assumption) ?restc9_8
            case hyc9_8 => (intro w0 hSw; (try dsimp only at hSw); go_simp; try with_reducible rfl)
            case' restc9_8 => try simp only [Act.put, List.getElem_toArray, List.getElem_cons_zero, List.getElem_cons_succ, List.setIfInBounds_toArray, List.set_cons_zero, List.set_cons_succ]
            refine wpAnyH_take (i := 10) (v := ?vc10_9) rfl (by kernel_rfl) (by kernel_rfl) (by kernel_rfl) (fun _ _ _ h => h) (Or.inl ⟨by rfl, ?hyc10_9⟩) (by assumption) ?restc10_9
            case hyc10_9 => (intro w0 hSw; (try dsimp only at hSw); go_simp; try with_reducible rfl)
            case' restc10_9 => try simp only [Act.put, List.getElem_toArray, List.getElem_cons_zero, List.getElem_cons_succ, List.setIfInBounds_toArray, List.set_cons_zero, List.set_cons_succ]
            refine wpAnyH_take (i := 11) (v := ?vc11_10) rfl (by kernel_rfl) (by kernel_rfl) (by kernel_rfl) (fun _ _ _ h => h) (Or.inl ⟨by rfl, ?hyc11_10⟩) (by assumption) ?restc11_10
            case hyc11_10 => (intro w0 hSw; (try dsimp only at hSw); go_simp; try with_reducible rfl)
            case' restc11_10 => try simp only [Act.put, List.getElem_toArray, List.getElem_cons_zero, List.getElem_cons_succ, List.setIfInBounds_toArray, List.set_cons_zero, List.set_cons_succ]
            refine wpAnyH_take (i := 12) (v := ?vc12_11) rfl (by kernel_rfl) (by kernel_rfl) (by kernel_rfl) (fun _ _ _ h => h) (Or.inl ⟨by rfl, ?hyc12_11⟩) (by assumption) ?restc12_11
            case hyc12_11 => (intro w0 hSw; (try dsimp only at hSw); go_simp; try with_reducible rfl)
            case' restc12_11 => try simp only [Act.put, List.getElem_toArray, List.getElem_cons_zero, List.getElem_cons_succ, List.setIfInBounds_toArray, List.set_cons_zero, List.set_cons_succ]
            refine wpAnyH_ready (rs := [3]) (by kernel_rfl) (by simp) ?_
            refine AllReadyH.cons rfl (fun K hK => ?_) AllReadyH.nil
            go_simp
            refine (HP0.out _).mono ?_
            rintro e u1 ⟨rfl, hc1⟩
            have hd1 : Below wz.heap.size wz u1 := bch (below_drew1 (Below.refl wz.heap.size wz)) hc1 (Below.size (below_drew1 (Below.refl wz.heap.size wz)))
            refine hK.out _ _ (HH.out _ (Turned.of_below hd1)) (fun hHeld => ?_)
            clear hK K
            try simp only [Act.put, List.getElem_toArray, List.getElem_cons_zero, List.getElem_cons_succ, List.setIfInBounds_toArray, List.set_cons_zero, List.set_cons_succ]
            refine wpAnyH_ready (rs := [8]) (by kernel_rfl) (by simp) ?_
            refine AllReadyH.cons rfl (fun K hK => ?_) AllReadyH.nil
            go_simp
            refine (HC1.out _ ((HR.out.keep HBZ.out).keep hd1)).mono ?_
            rintro e u2 ⟨rfl, hc2⟩
            have hd2 : Below wz.heap.size wz u2 := bch hd1 hc2 (Below.size hd1)
            refine hK.out _ _ (HH.out _ (Turned.of_below hd2)) (fun hHeld => ?_)
            clear hK K
            try simp only [Act.put, List.getElem_toArray, List.getElem_cons_zero, List.getElem_cons_succ, List.setIfInBounds_toArray, List.set_cons_zero, List.set_cons_succ]
            refine wpAnyH_ready (rs := [13]) (by kernel_rfl) (by simp) ?_
            refine AllReadyH.cons rfl (fun K hK => ?_) AllReadyH.nil
            go_simp
            refine (HC2.out _ ((HR.out.keep HBZ.out).keep hd2)).mono ?_
            rintro e u4 ⟨rfl, hc4⟩
            have hd4 : Below wz.heap.size wz u4 := bch hd2 hc4 (Below.size hd2)
            refine hK.out _ _ (HH.out _ (Turned.of_below hd4)) (fun hHeld => ?_)
            clear hK K
            try simp only [Act.put, List.getElem_toArray, List.getElem_cons_zero, List.getElem_cons_succ, List.setIfInBounds_toArray, List.set_cons_zero, List.set_cons_succ]
            refine wpAnyH_ready (rs := [14]) (by kernel_rfl) (by simp) ?_
            refine AllReadyH.cons rfl (fun K hK => ?_) AllReadyH.nil
            go_simp
            refine hK.out _ _ (HH.out _ (Turned.of_below (hd4.trans ((below_alloc _ _).mono hd4.size)))) (fun hHeld => ?_)
            clear hK K
            try simp only [Act.put, List.getElem_toArray, List.getElem_cons_zero, List.getElem_cons_succ, List.setIfInBounds_toArray, List.set_cons_zero, List.set_cons_succ]
            refine wpAnyH_ready (rs := [15]) (by kernel_rfl) (by simp) ?_
            refine AllReadyH.cons rfl (fun K hK => ?_) AllReadyH.nil
            go_simp
            refine hK.out _ _ (HH.out _ (Turned.of_below ((hd4.alloc hd4.size _).alloc (by have := hd4.size; simp; omega) _))) (fun hHeld => ?_)
            clear hK K
            try simp only [Act.put, List.getElem_toArray, List.getElem_cons_zero, List.getElem_cons_succ, List.setIfInBounds_toArray, List.set_cons_zero, List.set_cons_succ]
            refine wpAnyH_ready (rs := [16]) (by kernel_rfl) (by simp) ?_
            refine AllReadyH.cons rfl (fun K hK => ?_) AllReadyH.nil
            have HTU := Lib.hid (HTZ.out.below hd4)
            refine step_append_any _ rfl (.tmp 57) (.tmp 72) 38 rfl (w.heap.size + 1) tLine k0 (.slice none 0 0) 1 24 Tryz.underlying38 hk0' hz0 hz1 hz2 rfl (by decide) (.slice A4 (n4 + 1) c4) (n4 + 1) vs rfl ((World.ownsRow.alloc (by have := HTU.out.own; rw [hlen4] at this; exact this) _).alloc _) 1 [.slice (some ⟨u4.heap.size, 0, none⟩) 3 3] (src_blk (xs := [.slice (some ⟨u4.heap.size, 0, none⟩) 3 3]) ((two_blocks' u4 _ _ rfl).2.2) (fun u hu => by simp only [List.mem_singleton] at hu; subst hu; rfl)) (by unfold maxLen; omega) (by omega) (by have := hd4.size; have := heap_lt HXZ.out; simp; omega) ?_
            intro v6 w6 ho6 hg6 hat6
            have ht6 : Turned (fun j => Value.ownBlock (.slice A4 (n4 + 1) c4) = some j) wz w6 := (Turned.of_below ((hd4.alloc hd4.size (.cells #[.string ⟨(Lib.itoa xo).toArray⟩, .string ⟨V1.toArray⟩, .string ⟨V2.toArray⟩] tFld)).alloc (by have := hd4.size; simp; omega) (.cells #[.slice (some ⟨u4.heap.size, 0, none⟩) 3 3] tLine))).trans (Turned.of_grown hg6 (fun j h => h))
            refine hK.out _ _ (HH.out _ (ht6)) (fun hHeld => ?_)
            clear hK K
            try simp only [Act.put, List.getElem_toArray, List.getElem_cons_zero, List.getElem_cons_succ, List.setIfInBounds_toArray, List.set_cons_zero, List.set_cons_succ]
            refine wpAnyH_take (i := 17) (v := ?vc17_12) rfl (by kernel_rfl) (by kernel_rfl) (by kernel_rfl) (fun _ _ _ h => h) (Or.inl ⟨by rfl, ?hyc17_12⟩) (by assumption) ?restc17_12
            case hyc17_12 => (intro w0 hSw; (try dsimp only at hSw); go_simp; try with_reducible rfl)
            case' restc17_12 => try simp only [Act.put, List.getElem_toArray, List.getElem_cons_zero, List.getElem_cons_succ, List.setIfInBounds_toArray, List.set_cons_zero, List.set_cons_succ]
            refine wpAnyH_done (by kernel_rfl) ?_ _
            refine NoPanic.normal ?_
            have hlit := lit_new u4 [Lib.itoa xo, V1, V2] (xs := #[.string ⟨(Lib.itoa xo).toArray⟩, .string ⟨V1.toArray⟩, .string ⟨V2.toArray⟩]) rfl
            have hT6 := ((HTU.out.below (below_alloc _ _)).below (below_alloc _ _)).push (r := [Lib.itoa xo, V1, V2]) (hlit.below (below_alloc _ _)) (by rw [hlen4]; exact ho6) hg6
            have HT6 := Lib.hid (show TabO (w.heap.size + 1) w6 v6 ([Mf.wHead, Lib.itoa q] :: Mf.refTo l (0 + 1)) _ by rw [HHD.out]; exact hT6)
            have HX6 := Lib.hid (heap_turnT HXZ.out ht6 (fun e => by have := (HTZ.out.own.lt _ e).1; omega))
            have HB6 := Lib.hid (Below.turned HBZ.out ht6 (fun i hi => by have := (HTZ.out.own.lt i hi).1; omega) HBZ.out.size)
            clear hHeld HH hT6 hlit ht6 ho6 hg6 hat6 HTU hd1 hd2 hd4 hc1 hc2 hc4
            go_wp2_with fail
            go_roundw
            case rel => exact ⟨0 + 1, _, by go_num, by rw [HTT.out]; rfl, by omega, HT6.out, HX6.out, HB6.out⟩
            case measure => simp [intOf]; omega
          · obtain ⟨g2, off2, n2', c2', e, y0, y1, y2, y3, y4⟩ := HR.out.cells HBW.out hy
            injection e with e1 e2 e3
            have hg2 : g2 = g ∧ off2 = off := by cases e1; exact ⟨rfl, rfl⟩
            rw [hg2.1, hg2.2] at y0 y1 y2 y3 y4
            have hj0 : (0 : Int) ≤ (j : Int) := by omega
            have hsub : IntKind.i64.wrap ((j : Int) + 1 - 1) = (j : Int) := (IntWalk.i64_in _ (by omega)).trans (by omega)
            have hj1 : (j : Int) < l.length := by omega
            have hj2 : (j : Int) + 1 < l.length := by omega
            have hjz := beqF (show ¬ (j : Int) + 1 = 0 by omega)
            by_cases hh : y.1.1 = xo
            · have hqh := bneF hh
              have HHD := Lib.hid (show Mf.refTo l (j + 1 + 1) = Mf.refTo l (j + 1) from HNO.out (by rw [Mf.headAt_succ hy]; simp [hh]))
              clear hx hy hh e1 e2 e3 hg2
              go_quiet (fail)
              go_wp2_with fail
              go_roundw
              case rel => exact ⟨j + 1 + 1, vs, by go_num, by rw [HTT.out], by omega, by rw [HHD.out]; exact HTW.out.below (below_dq (Below.refl _ wq) nq), heap_keep HXW.out (below_dq (Below.refl _ wq) nq), below_dq HBW.out nq⟩
              case measure => simp [intOf]; omega
            · have hqh := bneT hh
              have HHD := Lib.hid (show Mf.refTo l (j + 1 + 1) = Mf.refTo l (j + 1) ++ [[Lib.itoa xo, V1, V2]] by rw [HYES.out (by rw [Mf.headAt_succ hy]; simp [hh]), HROW.out])
              clear hx hy hh e1 e2 e3 hg2
              go_quiet (fail)
              go_upto_region 11 with (fail)
              obtain ⟨wz, hwz⟩ : ∃ wz, wz = wq.drewN nq := ⟨_, rfl⟩
              rw [← hwz]
              have hbz : Below wq.heap.size wq wz := by rw [hwz]; exact below_dq (Below.refl _ wq) nq
              have HRZ := Lib.hid (heap_keep HRW.out hbz); have HTZ := Lib.hid (HTW.out.below hbz); have HXZ := Lib.hid (heap_keep HXW.out hbz); have HBZ := Lib.hid (bch HBW.out hbz HBW.out.size)
              clear hwz hbz m0 m1 m2 n0 n1 hdq y0 y1 y2 y3 y4
              have HH := Lib.hid (fun W' (hb : Turned (fun j => Value.ownBlock (.slice A4 (n4 + 1) c4) = some j) wz W') => (⟨Lib.hid hb, (cell_at (heap_turnT HRZ.out hb hne) 0 rfl), (cell_at (heap_turnT HXZ.out hb (fun e => by have := (HTZ.out.own.lt _ e).1; omega)) 2 rfl)⟩ : (fun w' => Hid (Turned (fun j => Value.ownBlock (.slice A4 (n4 + 1) c4) = some j) wz w') ∧ w'.cell? ⟨br, 0, none⟩ = some (.int .i64 xo) ∧ w'.cell? ⟨w.heap.size, 2, none⟩ = some (.slice (some ⟨g, off, none⟩) l.length cv)) W'))
              refine wp_region_noPanic ?_
              refine wp_region_held_drew (S := (fun w' => Hid (Turned (fun j => Value.ownBlock (.slice A4 (n4 + 1) c4) = some j) wz w') ∧ w'.cell? ⟨br, 0, none⟩ = some (.int .i64 xo) ∧ w'.cell? ⟨w.heap.size, 2, none⟩ = some (.slice (some ⟨g, off, none⟩) l.length cv))) (by kernel_rfl) (HH.out _ ((Turned.refl (fun j => Value.ownBlock (.slice A4 (n4 + 1) c4) = some j) wz).drew)) (fun hHeld => ?_)
              refine wpAnyH_take (i := 0) (v := ?vc0_13) rfl (by kernel_rfl) (by kernel_rfl) (by kernel_rfl) (fun _ _ _ h => h) (Or.inl ⟨by rfl, ?hyc0_13⟩) (by assumption) ?restc0_13
              case hyc0_13 => (intro w0 hSw; (try dsimp only at hSw); go_simp; try with_reducible rfl)
              case' restc0_13 => try simp only [Act.put, List.getElem_toArray, List.getElem_cons_zero, List.getElem_cons_succ, List.setIfInBounds_toArray, List.set_cons_zero, List.set_cons_succ]
              refine wpAnyH_take (i := 1) (v := ?vc1_14) rfl (by kernel_rfl) (by kernel_rfl) (by kernel_rfl) (fun _ _ _ h => h) (Or.inl ⟨by rfl, ?hyc1_14⟩) (by assumption) ?restc1_14
              case hyc1_14 => (intro w0 hSw; (try dsimp only at hSw); go_simp; try with_reducible rfl)
              case' restc1_14 => try simp only [Act.put, List.getElem_toArray, List.getElem_cons_zero, List.getElem_cons_succ, List.setIfInBounds_toArray, List.set_cons_zero, List.set_cons_succ]
              refine wpAnyH_take (i := 2) (v := ?vc2_15) rfl (by kernel_rfl) (by kernel_rfl) (by kernel_rfl) (fun _ _ _ h => h) (Or.inl ⟨by rfl, ?hyc2_15⟩) (by assumption) ?restc2_15
              case hyc2_15 => (intro w0 hSw; (try dsimp only at hSw); go_simp; try with_reducible rfl)
              case' restc2_15 => try simp only [Act.put, List.getElem_toArray, List.getElem_cons_zero, List.getElem_cons_succ, List.setIfInBounds_toArray, List.set_cons_zero, List.set_cons_succ]
              refine wpAnyH_take (i := 4) (v := ?vc4_16) rfl (by kernel_rfl) (by kernel_rfl) (by kernel_rfl) (fun _ _ _ h => h) (Or.inl ⟨by rfl, ?hyc4_16⟩) (by assumption) ?restc4_16
              case hyc4_16 => (intro w0 hSw; (try dsimp only at hSw); go_simp; try with_reducible rfl)
              case' restc4_16 => try simp only [Act.put, List.getElem_toArray, List.getElem_cons_zero, List.getElem_cons_succ, List.setIfInBounds_toArray, List.set_cons_zero, List.set_cons_succ]
              refine wpAnyH_take (i := 5) (v := ?vc5_17) rfl (by kernel_rfl) (by kernel_rfl) (by kernel_rfl) (fun _ _ _ h => h) (Or.inl ⟨by rfl, ?hyc5_17⟩) (by assumption) ?restc5_17
              case hyc5_17 => (intro w0 hSw; (try dsimp only at hSw); go_simp; try with_reducible rfl)
              case' restc5_17 => try simp only [Act.put, List.getElem_toArray, List.getElem_cons_zero, List.getElem_cons_succ, List.setIfInBounds_toArray, List.set_cons_zero, List.set_cons_succ]
              refine wpAnyH_take (i := 6) (v := ?vc6_18) rfl (by kernel_rfl) (by kernel_rfl) (by kernel_rfl) (fun _ _ _ h => h) (Or.inl ⟨by rfl, ?hyc6_18⟩) (by assumption) ?restc6_18
              case hyc6_18 => (intro w0 hSw; (try dsimp only at hSw); go_simp; try with_reducible rfl)
              case' restc6_18 => try simp only [Act.put, List.getElem_toArray, List.getElem_cons_zero, List.getElem_cons_succ, List.setIfInBounds_toArray, List.set_cons_zero, List.set_cons_succ]
              refine wpAnyH_take (i := 7) (v := ?vc7_19) rfl (by kernel_rfl) (by kernel_rfl) (by kernel_rfl) (fun _ _ _ h => h) (Or.inl ⟨by rfl, ?hyc7_19⟩) (by assumption) ?restc7_19
              case hyc7_19 => (intro w0 hSw; (try dsimp only at hSw); go_simp; try with_reducible rfl)
              case' restc7_19 => try simp only [Act.put, List.getElem_toArray, List.getElem_cons_zero, List.getElem_cons_succ, List.setIfInBounds_toArray, List.set_cons_zero, List.set_cons_succ]
              refine wpAnyH_take (i := 9) (v := ?vc9_20) rfl (by kernel_rfl) (by kernel_rfl) (by kernel_rfl) (fun _ _ _ h => h) (Or.inl ⟨by rfl, ?hyc9_20⟩) (by assumption) ?restc9_20
              case hyc9_20 => (intro w0 hSw; (try dsimp only at hSw); go_simp; try with_reducible rfl)
              case' restc9_20 => try simp only [Act.put, List.getElem_toArray, List.getElem_cons_zero, List.getElem_cons_succ, List.setIfInBounds_toArray, List.set_cons_zero, List.set_cons_succ]
              refine wpAnyH_take (i := 10) (v := ?vc10_21) rfl (by kernel_rfl) (by kernel_rfl) (by kernel_rfl) (fun _ _ _ h => h) (Or.inl ⟨by rfl, ?hyc10_21⟩) (by assumption) ?restc10_21
              case hyc10_21 => (intro w0 hSw; (try dsimp only at hSw); go_simp; try with_reducible rfl)
              case' restc10_21 => try simp only [Act.put, List.getElem_toArray, List.getElem_cons_zero, List.getElem_cons_succ, List.setIfInBounds_toArray, List.set_cons_zero, List.set_cons_succ]
              refine wpAnyH_take (i := 11) (v := ?vc11_22) rfl (by kernel_rfl) (by kernel_rfl) (by kernel_rfl) (fun _ _ _ h => h) (Or.inl ⟨by rfl, ?hyc11_22⟩) (by assumption) ?restc11_22
              case hyc11_22 => (intro w0 hSw; (try dsimp only at hSw); go_simp; try with_reducible rfl)
              case' restc11_22 => try simp only [Act.put, List.getElem_toArray, List.getElem_cons_zero, List.getElem_cons_succ, List.setIfInBounds_toArray, List.set_cons_zero, List.set_cons_succ]
              refine wpAnyH_take (i := 12) (v := ?vc12_23) rfl (by kernel_rfl) (by kernel_rfl) (by kernel_rfl) (fun _ _ _ h => h) (Or.inl ⟨by rfl, ?hyc12_23⟩) (by assumption) ?restc12_23
              case hyc12_23 => (intro w0 hSw; (try dsimp only at hSw); go_simp; try with_reducible rfl)
              case' restc12_23 => try simp only [Act.put, List.getElem_toArray, List.getElem_cons_zero, List.getElem_cons_succ, List.setIfInBounds_toArray, List.set_cons_zero, List.set_cons_succ]
              refine wpAnyH_ready (rs := [3]) (by kernel_rfl) (by simp) ?_
              refine AllReadyH.cons rfl (fun K hK => ?_) AllReadyH.nil
              go_simp
              refine (HP0.out _).mono ?_
              rintro e u1 ⟨rfl, hc1⟩
              have hd1 : Below wz.heap.size wz u1 := bch (below_drew1 (Below.refl wz.heap.size wz)) hc1 (Below.size (below_drew1 (Below.refl wz.heap.size wz)))
              refine hK.out _ _ (HH.out _ (Turned.of_below hd1)) (fun hHeld => ?_)
              clear hK K
              try simp only [Act.put, List.getElem_toArray, List.getElem_cons_zero, List.getElem_cons_succ, List.setIfInBounds_toArray, List.set_cons_zero, List.set_cons_succ]
              refine wpAnyH_ready (rs := [8]) (by kernel_rfl) (by simp) ?_
              refine AllReadyH.cons rfl (fun K hK => ?_) AllReadyH.nil
              go_simp
              refine (HC1.out _ ((HR.out.keep HBZ.out).keep hd1)).mono ?_
              rintro e u2 ⟨rfl, hc2⟩
              have hd2 : Below wz.heap.size wz u2 := bch hd1 hc2 (Below.size hd1)
              refine hK.out _ _ (HH.out _ (Turned.of_below hd2)) (fun hHeld => ?_)
              clear hK K
              try simp only [Act.put, List.getElem_toArray, List.getElem_cons_zero, List.getElem_cons_succ, List.setIfInBounds_toArray, List.set_cons_zero, List.set_cons_succ]
              refine wpAnyH_ready (rs := [13]) (by kernel_rfl) (by simp) ?_
              refine AllReadyH.cons rfl (fun K hK => ?_) AllReadyH.nil
              go_simp
              refine (HC2.out _ ((HR.out.keep HBZ.out).keep hd2)).mono ?_
              rintro e u4 ⟨rfl, hc4⟩
              have hd4 : Below wz.heap.size wz u4 := bch hd2 hc4 (Below.size hd2)
              refine hK.out _ _ (HH.out _ (Turned.of_below hd4)) (fun hHeld => ?_)
              clear hK K
              try simp only [Act.put, List.getElem_toArray, List.getElem_cons_zero, List.getElem_cons_succ, List.setIfInBounds_toArray, List.set_cons_zero, List.set_cons_succ]
              refine wpAnyH_ready (rs := [14]) (by kernel_rfl) (by simp) ?_
              refine AllReadyH.cons rfl (fun K hK => ?_) AllReadyH.nil
              go_simp
              refine hK.out _ _ (HH.out _ (Turned.of_below (hd4.trans ((below_alloc _ _).mono hd4.size)))) (fun hHeld => ?_)
              clear hK K
              try simp only [Act.put, List.getElem_toArray, List.getElem_cons_zero, List.getElem_cons_succ, List.setIfInBounds_toArray, List.set_cons_zero, List.set_cons_succ]
              refine wpAnyH_ready (rs := [15]) (by kernel_rfl) (by simp) ?_
              refine AllReadyH.cons rfl (fun K hK => ?_) AllReadyH.nil
              go_simp
              refine hK.out _ _ (HH.out _ (Turned.of_below ((hd4.alloc hd4.size _).alloc (by have := hd4.size; simp; omega) _))) (fun hHeld => ?_)
              clear hK K
              try simp only [Act.put, List.getElem_toArray, List.getElem_cons_zero, List.getElem_cons_succ, List.setIfInBounds_toArray, List.set_cons_zero, List.set_cons_succ]
              refine wpAnyH_ready (rs := [16]) (by kernel_rfl) (by simp) ?_
              refine AllReadyH.cons rfl (fun K hK => ?_) AllReadyH.nil
              have HTU := Lib.hid (HTZ.out.below hd4)
              refine step_append_any _ rfl (.tmp 57) (.tmp 72) 38 rfl (w.heap.size + 1) tLine k0 (.slice none 0 0) 1 24 Tryz.underlying38 hk0' hz0 hz1 hz2 rfl (by decide) (.slice A4 (n4 + 1) c4) (n4 + 1) vs rfl ((World.ownsRow.alloc (by have := HTU.out.own; rw [hlen4] at this; exact this) _).alloc _) 1 [.slice (some ⟨u4.heap.size, 0, none⟩) 3 3] (src_blk (xs := [.slice (some ⟨u4.heap.size, 0, none⟩) 3 3]) ((two_blocks' u4 _ _ rfl).2.2) (fun u hu => by simp only [List.mem_singleton] at hu; subst hu; rfl)) (by unfold maxLen; omega) (by omega) (by have := hd4.size; have := heap_lt HXZ.out; simp; omega) ?_
              intro v6 w6 ho6 hg6 hat6
              have ht6 : Turned (fun j => Value.ownBlock (.slice A4 (n4 + 1) c4) = some j) wz w6 := (Turned.of_below ((hd4.alloc hd4.size (.cells #[.string ⟨(Lib.itoa xo).toArray⟩, .string ⟨V1.toArray⟩, .string ⟨V2.toArray⟩] tFld)).alloc (by have := hd4.size; simp; omega) (.cells #[.slice (some ⟨u4.heap.size, 0, none⟩) 3 3] tLine))).trans (Turned.of_grown hg6 (fun j h => h))
              refine hK.out _ _ (HH.out _ (ht6)) (fun hHeld => ?_)
              clear hK K
              try simp only [Act.put, List.getElem_toArray, List.getElem_cons_zero, List.getElem_cons_succ, List.setIfInBounds_toArray, List.set_cons_zero, List.set_cons_succ]
              refine wpAnyH_take (i := 17) (v := ?vc17_24) rfl (by kernel_rfl) (by kernel_rfl) (by kernel_rfl) (fun _ _ _ h => h) (Or.inl ⟨by rfl, ?hyc17_24⟩) (by assumption) ?restc17_24
              case hyc17_24 => (intro w0 hSw; (try dsimp only at hSw); go_simp; try with_reducible rfl)
              case' restc17_24 => try simp only [Act.put, List.getElem_toArray, List.getElem_cons_zero, List.getElem_cons_succ, List.setIfInBounds_toArray, List.set_cons_zero, List.set_cons_succ]
              refine wpAnyH_done (by kernel_rfl) ?_ _
              refine NoPanic.normal ?_
              have hlit := lit_new u4 [Lib.itoa xo, V1, V2] (xs := #[.string ⟨(Lib.itoa xo).toArray⟩, .string ⟨V1.toArray⟩, .string ⟨V2.toArray⟩]) rfl
              have hT6 := ((HTU.out.below (below_alloc _ _)).below (below_alloc _ _)).push (r := [Lib.itoa xo, V1, V2]) (hlit.below (below_alloc _ _)) (by rw [hlen4]; exact ho6) hg6
              have HT6 := Lib.hid (show TabO (w.heap.size + 1) w6 v6 ([Mf.wHead, Lib.itoa q] :: Mf.refTo l (j + 1 + 1)) _ by rw [HHD.out]; exact hT6)
              have HX6 := Lib.hid (heap_turnT HXZ.out ht6 (fun e => by have := (HTZ.out.own.lt _ e).1; omega))
              have HB6 := Lib.hid (Below.turned HBZ.out ht6 (fun i hi => by have := (HTZ.out.own.lt i hi).1; omega) HBZ.out.size)
              clear hHeld HH hT6 hlit ht6 ho6 hg6 hat6 HTU hd1 hd2 hd4 hc1 hc2 hc4
              go_wp2_with fail
              go_roundw
              case rel => exact ⟨j + 1 + 1, _, by go_num, by rw [HTT.out], by omega, HT6.out, HX6.out, HB6.out⟩
              case measure => simp [intOf]; omega
        · obtain rfl : k = l.length := by omega
          rw [List.take_length]
          obtain ⟨T, hT⟩ : ∃ T, Mf.total l = T := ⟨_, rfl⟩
          rw [hT] at htot ⊢
          have hn60 := Mf.linesTo_len (Mf.bookOf l) 60
          have hn61 : n4 ≤ 60 := by rw [← HN4.out, HALL.out]; exact hn60
          have HTAB := Lib.hid (show Mf.table q l = [Mf.wHead, Lib.itoa q] :: Mf.refTo l l.length ++ [[Sk.wEnd, Lib.itoa (n4 : Int), Lib.itoa T]] by unfold Mf.table Mf.tableG; rw [hT, ← HALL.out, HN4.out]; rfl)
          have HPUTT := Lib.hid (fun W => mrefput_any T W (Mf.inr_small htot.1 (by omega)))
          have hTl := Sk.itoa_len (n := T) 5 (by omega) (by simp; omega)
          have HPN := Lib.hid (fun W => mrefput_any (n4 : Int) W (show InR _ by unfold InR; omega))
          have hnl := Sk.itoa_len (n := (n4 : Int)) 1 (by omega) (by simp; omega)
          have hwr : IntKind.i64.wrap (((n4 + 1 : Nat) : Int) - 1) = (n4 : Int) := (IntWalk.i64_in _ (by omega)).trans (by omega)
          clear hT hk hkl
          go_wp2_with fail
          refine (HPN.out _).mono ?_
          rintro e u3 ⟨rfl, hc⟩
          have HX3 := Lib.hid (heap_keep HXr.out hc); have HB3 := Lib.hid (bch HBr.out hc HBr.out.size); have HT3 := Lib.hid (HT.out.below hc)
          clear hc m0 m1 m2
          go_wp2_with fail
          refine (HPUTT.out _).mono ?_
          rintro e u4 ⟨rfl, hc⟩
          have HXu := Lib.hid (heap_keep HX3.out hc); have HBu := Lib.hid (bch HB3.out hc HB3.out.size); have HTu := Lib.hid (HT3.out.below hc)
          clear hc
          go_wp2_with (at_builtin; refine wpList_append_any _ rfl (.tmp 74) (.tmp 82) 38 rfl (w.heap.size + 1) tLine k0 (.slice none 0 0) 1 24 Tryz.underlying38 hk0' hz0 hz1 hz2 rfl (by decide) (.slice A4 (n4 + 1) c4) (n4 + 1) vs rfl ((World.ownsRow.alloc (by have := HTu.out.own; rw [hlen4] at this; exact this) _).alloc _) 1 [.slice (some ⟨u4.heap.size, 0, none⟩) 3 3] (src_blk (xs := [.slice (some ⟨u4.heap.size, 0, none⟩) 3 3]) ((two_blocks' u4 _ _ rfl).2.2) (fun u hu => by simp only [List.mem_singleton] at hu; subst hu; rfl)) (by unfold maxLen; omega) (by omega) (by have := HBu.out.size; have := heap_lt HXu.out; simp; omega) ?_; intro v6 w6 ho6 hg6 hat6)
          have hlit := lit_new u4 [Sk.wEnd, Lib.itoa n4, Lib.itoa T] (xs := #[.string ⟨#[101, 110, 100]⟩, .string ⟨(Lib.itoa (n4 : Int)).toArray⟩, .string ⟨(Lib.itoa T).toArray⟩]) rfl
          have hT6 := ((HTu.out.below (below_alloc _ _)).below (below_alloc _ _)).push (r := [Sk.wEnd, Lib.itoa n4, Lib.itoa T]) (hlit.below (below_alloc _ _)) (by rw [hlen4]; exact ho6) hg6
          have HT6 := Lib.hid (show TabO (w.heap.size + 1) w6 v6 (Mf.table q l) _ by rw [HTAB.out]; exact hT6)
          have ht6 : Turned (fun j => Value.ownBlock (.slice A4 (n4 + 1) c4) = some j) u4 w6 := (Turned.of_below (((Below.refl _ u4).alloc (Nat.le_refl _) (.cells #[.string ⟨#[101, 110, 100]⟩, .string ⟨(Lib.itoa (n4 : Int)).toArray⟩, .string ⟨(Lib.itoa T).toArray⟩] tFld)).alloc (by simp) (.cells #[.slice (some ⟨u4.heap.size, 0, none⟩) 3 3] tLine))).trans (Turned.of_grown hg6 (fun j h => h))
          have HB6 := Lib.hid (Below.turned HBu.out ht6 (fun i hi => by have := (HTu.out.own.lt i hi).1; omega) HBu.out.size)
          have HPR := Lib.hid (refPrint_any v6 (Mf.table q l) w6.heap.size w6 HT6.out.rowz HFIT.out)
          clear hT6 hlit ht6 ho6 hg6 hat6 HTu
          refine HPR.out.mono ?_
          rintro e w7 ⟨rfl, hb7⟩
          subst hb7
          go_wp2_with fail
          go_ret2
          exact ⟨by rw [HF.out]; rfl, HB6.out⟩
  · have hpq := bneT hp
    have HF := Lib.hid (show Mf.printS p q l = ([], 2) by unfold Mf.printS Mf.okP; rw [decide_eq_false hp]; simp)
    clear hp
    go_enter Tryz.func21, Tryz.ntmps21
    go_upto_region 1 with (fail)
    rw [hWA.out]
    go_wp2_with fail
    go_ret2
    exact ⟨by rw [HF.out]; rfl, HA.out⟩
end Go.Proofs.YtgpjbigelblanaaGreatDoor
/- ManifestCells: for every statement, fields and row the law answers true. -/
namespace Go.Proofs.YtgpjbigelblanaaGreatDoor
open Go.RowKit Go.Maps Key Mon Mf Rw
namespace Mf
theorem table_few {q : Int} {l : List R5} (h : validB 2 q l = true) (_hl : l.length ≤ 60) : Sk.Few 62 4 (table q l) := by
  obtain ⟨h1, h2, h3, h4, h5⟩ := valid_parts h
  have hll := linesTo_len (bookOf l) 60
  have hts := total_small h
  refine ⟨by unfold table; rw [table_len]; omega, tab_full q l, fun r hr => ?_, fun r hr f hf => ?_⟩
  · unfold table tableG at hr
    simp only [List.mem_cons, List.mem_append, List.not_mem_nil, or_false] at hr
    rcases hr with rfl | h2 | rfl
    · simp
    · obtain ⟨o, _, _, rfl⟩ := linesTo_mem h2; simp
    · simp
  · unfold table tableG at hr
    simp only [List.mem_cons, List.mem_append, List.not_mem_nil, or_false] at hr
    rcases hr with rfl | h2 | rfl
    · have a := Sk.itoa_len (n := q) 9 (by omega) (by simp; omega)
      simp only [List.mem_cons, List.not_mem_nil, or_false] at hf
      rcases hf with rfl | rfl
      · decide
      · omega
    · obtain ⟨o, _, ho, rfl⟩ := linesTo_mem h2
      have a := Sk.itoa_len (n := (o : Int)) 9 (by omega) (by simp; omega)
      have b := cellW_len (book_ok h4 o).1
      have c := cellW_len (book_ok h4 o).2
      simp only [List.mem_cons, List.not_mem_nil, or_false] at hf
      rcases hf with rfl | rfl | rfl <;> omega
    · have a := Sk.itoa_len (n := (((linesTo (bookOf l) 60).length : Nat) : Int)) 9 (by omega) (by simp; omega)
      have b := Sk.itoa_len (n := total l) 9 (by omega) (by simp; omega)
      simp only [List.mem_cons, List.not_mem_nil, or_false] at hf
      rcases hf with rfl | rfl | rfl
      · decide
      · omega
      · omega
end Mf

abbrev CellD : Type := Int × Int × List UInt8
def IsCell (cs : List Value) (x : CellD) : Prop := cs = [.int .u8 x.1, .int .u8 x.2.1, .string ⟨x.2.2.toArray⟩] ∧ (0 ≤ x.1 ∧ x.1 ≤ 255) ∧ (0 ≤ x.2.1 ∧ x.2.1 ≤ 255)
theorem cell_cells {w W : World} {A : Option Addr} {n c : Nat} {L : List CellD} (h : SlK w w.heap.size 3 IsCell (.slice A n c) L) (hb : Below w.heap.size w W) {k : Nat} {x : CellD} (hx : L[k]? = some x) : ∃ b o, A = some ⟨b, o, none⟩ ∧ W.cell? ⟨b, o + k * 3, none⟩ = some (.int .u8 x.1) ∧ W.cell? ⟨b, o + k * 3 + 1, none⟩ = some (.int .u8 x.2.1) ∧ W.cell? ⟨b, o + k * 3 + 2, none⟩ = some (.string ⟨x.2.2.toArray⟩) ∧ (0 ≤ x.1 ∧ x.1 ≤ 255) ∧ (0 ≤ x.2.1 ∧ x.2.1 ≤ 255) := by
  obtain ⟨A', n', c', e, hl, hc, hm, h⟩ := h
  injection e with e1 e2 e3
  subst e1
  obtain ⟨b, o, cs, rfl, hbl, hlen, hcells, rfl, h1, h2⟩ := h k x hx
  exact ⟨b, o, rfl, (hb.cell hbl).trans (hcells 0 _ rfl), (hb.cell hbl).trans (hcells 1 _ rfl), (hb.cell hbl).trans (hcells 2 _ rfl), h1, h2⟩
theorem own_src {w : World} {B : Nat} {u : Value} {r : Line} (h : w.ownsRow B tFld 1 u r.length (r.map strV)) : SrcL w u r.length 1 (r.map strV) := by
  refine ⟨by simp, fun u hu => by obtain ⟨x, _, rfl⟩ := List.mem_map.1 hu; rfl, ?_⟩
  rcases h.2 with ⟨rfl, h0⟩ | ⟨g, cap, cur, rfl, _⟩
  · exact .inl ⟨rfl, h0⟩
  · exact .inr ⟨⟨g, 0, none⟩, cap, rfl, fun j x hj => h.cells (g := g) rfl j x hj⟩
theorem tabI_at {B : Nat} {w : World} {g n c : Nat} {L : List Line} {vs : List Value} (h : TabI B w (.slice (some ⟨g, 0, none⟩) n c) L vs) {k : Nat} {r : Line} (hr : L[k]? = some r) : ∃ u, w.cell? ⟨g, k, none⟩ = some u ∧ w.frozen? ⟨g, k, none⟩ = false ∧ w.ownsRow B tFld 1 u r.length (r.map strV) := by
  have hlen := h.len
  have hk := (List.getElem?_eq_some_iff.1 hr).1
  obtain ⟨u, hu⟩ : ∃ u, vs[k]? = some u := ⟨_, List.getElem?_eq_getElem (by rw [hlen]; exact hk)⟩
  rcases h.own.2 with ⟨e, _⟩ | ⟨g', cap, cur, e, hB, hg, hc, hmx, hs, hx⟩
  · cases e
  · injection e with e1 e2 e3
    injection e1 with e1
    injection e1 with e1 _ _
    subst e1
    refine ⟨u, cell_at hg k ?_, frozen_at hg k, h.each k u r hu hr⟩
    have : (cur.toList.take (L.length * 1))[k]? = some u := by rw [hx]; exact hu
    rw [List.getElem?_take, if_pos (by omega)] at this
    simpa using this
/-- A field put in another's place in a row of the call's own. -/
theorem own_put {B : Nat} {w : World} {g c : Nat} {r : Line} (h : w.ownsRow B tFld 1 (.slice (some ⟨g, 0, none⟩) r.length c) r.length (r.map strV)) {k : Nat} (hk : k < r.length) (s : List UInt8) :
    (∃ u, w.cell? ⟨g, k, none⟩ = some u) ∧ w.frozen? ⟨g, k, none⟩ = false ∧ (w.setCell ⟨g, k, none⟩ (.string ⟨s.toArray⟩)).ownsRow B tFld 1 (.slice (some ⟨g, 0, none⟩) r.length c) (r.set k s).length ((r.set k s).map strV) := by
  rcases h.2 with ⟨e, _⟩ | ⟨g', cap, cur, e, hB, hg, hc, hmx, hs, hx⟩
  · cases e
  · injection e with e1 e2 e3
    injection e1 with e1
    injection e1 with e1 _ _
    subst e1; subst e3
    have hg' : (w.setCell ⟨g, k, none⟩ (.string ⟨s.toArray⟩)).heap[g]? = some (.cells (cur.setIfInBounds k (.string ⟨s.toArray⟩)) tFld (0, 0)) := by simp [World.setCell, Array.getElem?_modify, hg]
    refine ⟨⟨_, cell_at hg k (Array.getElem?_eq_getElem (show k < cur.size by omega))⟩, frozen_at hg k, ⟨by simp, .inr ⟨g, c, cur.setIfInBounds k (.string ⟨s.toArray⟩), by simp, hB, hg', by simpa using hc, hmx, by simpa using hs, ?_⟩⟩⟩
    rw [Array.toList_setIfInBounds, List.take_set, show (r.set k s).length * 1 = r.length * 1 by simp, hx, List.map_set]
    rfl
theorem pick_get {α β : Type} {a : List α} {b : List β} (hab : a.length = b.length) {m n : Nat} (hm : m ≤ a.length) {k : Nat} {u : α} {r : β} (hu : (a.take m ++ a.drop n)[k]? = some u) (hr : (b.take m ++ b.drop n)[k]? = some r) : ∃ j : Nat, a[j]? = some u ∧ b[j]? = some r := by
  by_cases hk : k < m
  · rw [List.getElem?_append_left (by simp; omega), List.getElem?_take, if_pos hk] at hu hr
    exact ⟨k, hu, hr⟩
  · rw [List.getElem?_append_right (by simp; omega), List.getElem?_drop] at hu hr
    rw [List.length_take, Nat.min_eq_left hm] at hu
    rw [List.length_take, Nat.min_eq_left (by omega)] at hr
    exact ⟨_, hu, hr⟩
theorem rowz_pick {B B2 : Nat} {w : World} {v v2 : Value} {L : List Line} {vs : List Value} {m n x y : Nat} (h : TabI B w v L vs) (ho : w.ownsRow B2 tLine 1 v2 (0 + m + (x - y)) (([] ++ vs.take m) ++ vs.drop n)) (hm : m ≤ L.length) (hx : x = L.length) (hy : y = n) : Rowz w w.heap.size v2 (L.take m ++ L.drop n) := by
  subst hx; subst hy
  rw [List.nil_append, Nat.zero_add] at ho
  refine h.some (B2 := B2) (vs2 := vs.take m ++ vs.drop y) ?_ fun k u r hu hr => pick_get h.len (by rw [h.len]; exact hm) hu hr
  rw [List.length_append, List.length_take, List.length_drop, Nat.min_eq_left hm]
  exact ho
theorem dropS0 {W : World} {ad : Addr} {n k c : Nat} {vs : List Value} (h : vs.length = n) (hk : n ≤ k) : SrcL W (.slice (some ad) (n - k) c) (n - k) 1 (vs.drop k) := by
  have h0 : n - k = 0 := by omega
  rw [h0, List.drop_of_length_le (by omega)]
  exact ⟨rfl, by simp, .inr ⟨ad, c, rfl, fun j x hj => by simp at hj⟩⟩
theorem Sk.Few.pick {b m n : Nat} {L : List Line} (h : Sk.Few 62 b L) (hb : b ≤ 10) (hm : m ≤ n + 8) : Sk.Few 70 10 (L.take m ++ L.drop n) := by
  have hmem : ∀ r ∈ L.take m ++ L.drop n, r ∈ L := fun r hr => by
    rcases List.mem_append.1 hr with hr | hr
    · exact List.mem_of_mem_take hr
    · exact List.mem_of_mem_drop hr
  refine ⟨?_, fun r hr => h.some r (hmem r hr), fun r hr => Nat.le_trans (h.flds r (hmem r hr)) hb, fun r hr => h.byts r (hmem r hr)⟩
  have := h.rows
  rw [List.length_append, List.length_take, List.length_drop]
  omega
theorem mrefParse_isC (s : ByteArray) (t : List UInt8) (ht : s.data.toList = t) (hs : s.size ≤ 65536) (p q : Int) (l : List R5) (a b c : Nat) (ai bi ci : Int) (w : World) (h : parseS t = ((p, q, l), a, b, c)) (ha : ai = a) (hb : bi = b) (hc : ci = c) :
    Calls Tryz.prog 23 #[.string s] w fun e w' => (∃ v, e = .returned (.tuple #[.agg #[.int .i64 p, .int .i64 q, v], .agg #[.int .i64 ai, .int .i64 bi, .int .i64 ci]]) ∧ Rd w' v l) ∧ Below w.heap.size w w' :=
  (mrefParse_any s w hs).mono fun e w' h2 => by
    obtain ⟨⟨v, he, hr⟩, hbl⟩ := h2
    rw [ht, h] at he hr
    exact ⟨⟨v, by rw [he, ha, hb, hc]; rfl, hr⟩, hbl⟩
set_option linter.unusedSimpArgs false in
set_option linter.unusedVariables false in
set_option maxRecDepth 100000 in
set_option maxHeartbeats 4000000 in
theorem lawManifestCells_walk (p q : Int) (v : Value) (l : List R5) (vc : Value) (cl : List CellD) (which : Int) (w : World) (hR : Rd w v l) (hC : SlK w w.heap.size 3 IsCell vc cl) (hwh : -128 ≤ which ∧ which ≤ 127) (hS : MfW w) : Calls Tryz.prog 8 #[.agg #[.int .i64 p, .int .i64 q, v], vc, .int .i8 which] w fun e w' => e = .returned (.bool true) ∧ Below w.heap.size w w' := by
  obtain ⟨j0, hj, hy0, hy1, hy2⟩ := info_parts line_info
  obtain ⟨i0, hi, hz0, hz1, hz2⟩ := info_parts fld_info
  obtain ⟨A, cv, rfl, hcv, hcm⟩ := hR.shape
  obtain ⟨Ac, nc, cc, rfl, hcl⟩ : ∃ A n c, vc = .slice A n c ∧ cl.length = n := by obtain ⟨A, n, c, e, h, _⟩ := hC; exact ⟨A, n, c, e, h⟩
  subst hcl
  obtain ⟨wa, hwa⟩ : ∃ wa, w.alloc (.cells #[.int .i64 p, .int .i64 q, .slice A l.length cv] tStat) = wa := ⟨_, rfl⟩
  have HA := Lib.hid (show Below w.heap.size w wa by rw [← hwa]; exact below_alloc _ _)
  have HX := Lib.hid (show wa.heap[w.heap.size]? = some (.cells #[.int .i64 p, .int .i64 q, .slice A l.length cv] tStat (0, 0)) by rw [← hwa]; exact heap_new _ _)
  have hWA := Lib.hid hwa
  have HR := Lib.hid (hR.keep HA.out); have HS := Lib.hid hS; have HC := Lib.hid hC
  have HST := Lib.hid (fun W (hb : Below w.heap.size w W) => carried_any W (hS.below hb))
  clear hwa hR hS hC
  obtain ⟨m0, m1, m2⟩ := cell3c HX.out
  by_cases hl : (60 : Int) < l.length
  · go_enter Tryz.func8, Tryz.ntmps8
    go_upto_region 1 with (fail)
    rw [hWA.out]
    go_wp2_with fail
    refine (HST.out _ HA.out).mono ?_
    rintro e w1 ⟨rfl, hb⟩
    have HB := Lib.hid (bch HA.out hb HA.out.size)
    clear hb
    go_wp2_with fail
    go_ret
    exact ⟨rfl, HB.out⟩
  by_cases hbl : (5 : Int) < cl.length
  · go_enter Tryz.func8, Tryz.ntmps8
    go_upto_region 1 with (fail)
    rw [hWA.out]
    go_wp2_with fail
    refine (HST.out _ HA.out).mono ?_
    rintro e w1 ⟨rfl, hb⟩
    have HB := Lib.hid (bch HA.out hb HA.out.size)
    clear hb
    go_wp2_with fail
    go_ret
    exact ⟨rfl, HB.out⟩
  have hc5 : cl.length ≤ 5 := by omega
  have HPR := Lib.hid (mrefPrint_any (.slice A l.length cv) p q l wa HR.out)
  cases hv : okP p q l with
  | false =>
    have hpr : printS p q l = ([], 2) := by unfold printS; rw [hv]; simp
    rw [hpr] at HPR
    unfold printV at HPR
    clear hv hpr
    go_enter Tryz.func8, Tryz.ntmps8
    go_upto_region 1 with (fail)
    rw [hWA.out]
    go_wp2_with fail
    refine HPR.out.mono ?_
    rintro e w1 ⟨rfl, hb⟩
    have HB := Lib.hid (bch HA.out hb HA.out.size)
    clear hb
    go_wp2_with fail
    refine (HST.out _ HB.out).mono ?_
    rintro e w2 ⟨rfl, hb2⟩
    have HB2 := Lib.hid (bch HB.out hb2 HB.out.size)
    clear hb2
    go_wp2_with fail
    go_ret
    exact ⟨rfl, HB2.out⟩
  | true =>
    obtain ⟨hp, hvv⟩ : p = 2 ∧ validB p q l = true := by unfold okP at hv; simpa using hv
    subst hp
    have hpr : printS 2 q l = (Csv.printOf (table q l), 0) := by unfold printS; rw [hv]; simp
    rw [hpr] at HPR
    unfold printV at HPR
    have hlen := print_len hvv
    have hcsv : Csv.parse (Csv.printOf (table q l)) = (table q l, 0, 0, 0) := by rw [Csv.parse_print _ (by omega), Csv.fill_full _ (tab_full q l)]
    have HFEW := Lib.hid (table_few hvv (by omega))
    obtain ⟨T, hT⟩ : ∃ T, Csv.printOf (table q l) = T := ⟨_, rfl⟩
    rw [hT] at HPR hlen hcsv
    have HCSV := Lib.hid hcsv
    have hTs : (⟨T.toArray⟩ : ByteArray).size = T.length := bytes_size T
    have hTL : (table q l).length = (linesTo (bookOf l) 60).length + 2 := table_len _ _ _ _
    have hTM := linesTo_len (bookOf l) 60
    clear hv hpr hvv hcsv hT
    obtain ⟨L, hL⟩ : ∃ L, table q l = L := ⟨_, rfl⟩
    rw [hL] at HCSV hTL HFEW
    have hL1 : 2 ≤ L.length := by omega
    have hL2 : L.length ≤ 62 := by omega
    clear hL hTL hTM
    go_enter Tryz.func8, Tryz.ntmps8
    go_upto_region 1 with (fail)
    rw [hWA.out]
    go_wp2_with fail
    refine HPR.out.mono ?_
    rintro e w1 ⟨rfl, hb⟩
    have HB1 := Lib.hid (bch HA.out hb HA.out.size)
    clear hb m0 m1 m2 HPR
    go_wp2_with fail
    refine (refParse_owned ⟨T.toArray⟩ w1 (by omega)).mono ?_
    rintro e w2 ⟨hto, hb2⟩
    obtain ⟨vt, vs, he, htab⟩ := hto
    obtain rfl : e = .returned (.tuple #[vt, .agg #[.int .i64 0, .int .i64 0, .int .i64 0]]) := by rw [bytes_list, HCSV.out] at he; exact he
    have htab : TabI w1.heap.size w2 vt L vs := by rw [bytes_list, HCSV.out] at htab; exact htab
    obtain ⟨At, ct, rfl, hgt⟩ := own_slice htab.own
    obtain ⟨gt, rfl, hgt1, hgt2⟩ := hgt (by omega)
    have HCT := Lib.hid (show L.length ≤ ct by rcases htab.own.2 with ⟨e, _⟩ | ⟨g', cap, cur, e, hB, hg, hc, _⟩; cases e; injection e with _ _ e3; rw [e3]; exact hc)
    have HTAB := Lib.hid htab
    clear htab hgt HCSV he
    go_upto_region 7 with (fail)
    obtain ⟨w3, hw3⟩ : ∃ w3, w3 = w2.alloc (.cells #[.int .i64 0, .int .i64 0, .int .i64 0] tRej) := ⟨_, rfl⟩
    rw [← hw3]
    have hb3 : Below w2.heap.size w2 w3 := by rw [hw3]; exact below_alloc _ _
    have HB3 := Lib.hid (bch HB1.out (bch hb2 hb3 hb2.size) HB1.out.size)
    have HT3 := Lib.hid (HTAB.out.below hb3)
    have hw1w : w.heap.size ≤ w1.heap.size := HB1.out.size
    have hw13 : w1.heap.size ≤ w3.heap.size := (bch hb2 hb3 hb2.size).size
    clear hw3 hb3 hb2 hgt2 HTAB
    go_wp2_with fail
    go_loopw [11] (fun i wr => ∃ (k : Nat) (L' : List Line) (vs' : List Value), i = .int .i64 k ∧ k ≤ cl.length ∧ L'.length = L.length ∧ Hid (TabI w1.heap.size wr (.slice (some ⟨gt, 0, none⟩) L.length ct) L' vs') ∧ Hid (Sk.Few 62 (4 + k) L') ∧ Hid (Below w.heap.size w wr) ∧ Hid (w1.heap.size ≤ wr.heap.size)) (fun i _ => cl.length - (intOf i).toNat)
    case atStart => exact ⟨0, L, vs, rfl, by omega, rfl, HT3.out, HFEW.out, HB3.out, hw13⟩
    case round =>
      obtain ⟨k, L', vs', rfl, hk, hLL, HT, HF, HB, HW1⟩ := hrel
      by_cases hkl : k < cl.length
      · obtain ⟨x, hx⟩ : ∃ x, cl[k]? = some x := ⟨_, List.getElem?_eq_getElem hkl⟩
        obtain ⟨cb, co, e, hc0, hc1, hc2, hx1, hx2⟩ := cell_cells HC.out HB.out hx
        subst e
        have hkI : (k : Int) < cl.length := by omega
        have hfs : (⟨x.2.2.toArray⟩ : ByteArray).size = x.2.2.length := bytes_size _
        clear hx
        by_cases hf20 : (20 : Int) < x.2.2.length
        · go_wp2_with fail
          refine (HST.out _ HB.out).mono ?_
          rintro e w4 ⟨rfl, hb⟩
          have HB4 := Lib.hid (bch HB.out hb HB.out.size)
          clear hb
          go_wp2_with fail
          go_ret
          exact ⟨rfl, HB4.out⟩
        · obtain ⟨xr, xc, xs⟩ := x
          simp only [] at hc0 hc1 hc2 hx1 hx2 hfs hf20
          obtain ⟨rn, rfl⟩ : ∃ rn : Nat, xr = (rn : Int) := ⟨xr.toNat, by omega⟩
          obtain ⟨cn, rfl⟩ : ∃ cn : Nat, xc = (cn : Int) := ⟨xc.toNat, by omega⟩
          go_upto_region 13 with (fail)
          obtain ⟨kk, hkk, hkkl⟩ : ∃ kk : Nat, (rn : Int) % (L.length : Int) = (kk : Int) ∧ kk < L.length := ⟨rn % L.length, rfl, Nat.mod_lt _ (by omega)⟩
          rw [hkk]
          have hkkI : (kk : Int) < L.length := by omega
          obtain ⟨r, hr⟩ : ∃ r, L'[kk]? = some r := ⟨_, List.getElem?_eq_getElem (by omega)⟩
          have hrm := List.mem_of_getElem? hr
          have hr0 := HF.out.some r hrm
          have hrl := HF.out.flds r hrm
          have HRB := Lib.hid (HF.out.byts r hrm)
          obtain ⟨u, hu1, _, hu2⟩ := tabI_at HT.out hr
          obtain ⟨Au, cu, rfl, _⟩ := own_slice hu2
          have HO := Lib.hid hu2
          have hrp : 0 < r.length := List.length_pos_iff.2 hr0
          have HR0 := Lib.hid hr0
          clear hkk hr hrm hr0 hu2
          go_upto_region 14 with (at_builtin; refine wpList_append_any _ rfl (.const (.slice none 0 0)) (.tmp 72) 43 rfl wr.heap.size tFld i0 (.string ⟨#[]⟩) 1 16 Tryz.underlying43 hi hz0 hz1 hz2 rfl (by decide) (.slice none 0 0) 0 [] rfl (World.ownsRow_nil _ _ _ _) r.length (r.map strV) (own_src HO.out) (by unfold maxLen; omega) (by omega) (Nat.le_refl _) ?_; intro v4 w4 ho4 hg4 hat4; rw [Nat.zero_add, List.nil_append] at ho4; obtain ⟨A4, c4, rfl, hA4⟩ := own_slice ho4; have HO4 := Lib.hid ho4; have HA4 := Lib.hid hA4; have HB4 := Lib.hid (show Below wr.heap.size wr w4 from (Below.refl wr.heap.size wr).grown hg4 (Nat.le_refl _) (fun j hj => by cases hj)); clear ho4 hg4 hat4 hA4)
          obtain ⟨g4, rfl, hg41, hg42⟩ := HA4.out hrp
          have hcbl : cb < wr.heap.size := World.block_lt_of_cell? wr _ hc0
          have hd1 := (HB4.out.cell (p := ⟨cb, co + k * 3 + 1, none⟩) hcbl).trans hc1
          have hd2 := (HB4.out.cell (p := ⟨cb, co + k * 3 + 2, none⟩) hcbl).trans hc2
          clear hu1 hc0 hc1 hc2 HA4
          go_upto_region 15 with (fail)
          obtain ⟨kc, hkc, hkcl⟩ : ∃ kc : Nat, (cn : Int) % ((r.length : Int) + 1) = (kc : Int) ∧ kc < r.length + 1 := ⟨cn % (r.length + 1), rfl, Nat.mod_lt _ (by omega)⟩
          rw [hkc]
          clear hkc
          by_cases hce : kc = r.length
          · have hcI := beqT (show (kc : Int) = (r.length : Int) by omega)
            subst hce
            go_upto_region 18 with (at_builtin; refine wpList_append_any _ rfl (.tmp 88) (.tmp 94) 43 rfl wr.heap.size tFld i0 (.string ⟨#[]⟩) 1 16 Tryz.underlying43 hi hz0 hz1 hz2 rfl (by decide) (.slice (some ⟨g4, 0, none⟩) r.length c4) r.length (r.map strV) rfl (HO4.out.alloc _) 1 [.string ⟨xs.toArray⟩] (src_blk (xs := [.string ⟨xs.toArray⟩]) (heap_new _ _) (by intro u hu; simp at hu; subst hu; rfl)) (by unfold maxLen; omega) (by omega) (by have := HB4.out.size; simp; omega) ?_; intro v5 w5 ho5 hg5 hat5; obtain ⟨A5, c5, rfl, hA5⟩ := own_slice ho5; have HO5 := Lib.hid ho5; have HB5 := Lib.hid (show Below wr.heap.size wr w5 from (HB4.out.alloc HB4.out.size _).grown hg5 (by have := HB4.out.size; simp; omega) (fun j hj => (HO4.out.lt j hj).1)); clear ho5 hg5 hat5 hA5)
            have HT5 := Lib.hid (HT.out.below HB5.out)
            have hrow := ownsRow_loose HO5.out HW1.out
            have HROW := Lib.hid (show w5.ownsRow w1.heap.size tFld 1 (.slice A5 (r.length + 1) c5) (r ++ [xs]).length ((r ++ [xs]).map strV) from (by rw [List.length_append, List.map_append]; exact hrow))
            obtain ⟨r0, hr0⟩ : ∃ r0, L'[kk]? = some r0 := ⟨_, List.getElem?_eq_getElem (by omega)⟩
            obtain ⟨u0, hq1, hq2, _⟩ := tabI_at HT5.out hr0
            have HFN := Lib.hid (show Sk.Few 62 (4 + (k + 1)) (L'.set kk (r ++ [xs])) from (HF.out.mono (Nat.le_refl _) (by omega)).set (by simp) (by simp; omega) (fun f hf => by rcases List.mem_append.1 hf with hf | hf; exact HRB.out f hf; rw [List.mem_singleton.1 hf]; omega))
            clear hrow hr0
            go_wp2_with fail
            go_roundw
            case rel => exact ⟨k + 1, L'.set kk (r ++ [xs]), vs'.set kk (.slice A5 (r.length + 1) c5), by go_num, by omega, by simp [hLL], HT5.out.set (by omega) HROW.out, HFN.out, (bch HB.out HB5.out HB.out.size).setCell (p := ⟨gt, kk, none⟩) (by show w.heap.size ≤ gt; omega) _, Nat.le_trans HW1.out (Nat.le_trans HB5.out.size (Nat.le_of_eq (by simp [World.setCell])))⟩
            case measure => simp [intOf]; omega
          · have hcI := beqF (show ¬ (kc : Int) = (r.length : Int) by omega)
            have hkr : kc < r.length := by omega
            have hkrI : (kc : Int) < (r.length : Int) := by omega
            obtain ⟨⟨u5, hp1⟩, hp2, hp3⟩ := own_put HO4.out hkr xs
            have HO5 := Lib.hid hp3
            clear hp3
            go_upto_region 18 with (fail)
            obtain ⟨w5, hw5⟩ : ∃ w5, w5 = w4.setCell ⟨g4, kc, none⟩ (.string ⟨xs.toArray⟩) := ⟨_, rfl⟩
            rw [← hw5] at HO5 ⊢
            have HB5 := Lib.hid (show Below wr.heap.size wr w5 by rw [hw5]; exact HB4.out.setCell (p := ⟨g4, kc, none⟩) hg41 _)
            clear hw5 hp1 hp2
            have HT5 := Lib.hid (HT.out.below HB5.out)
            have hrow := ownsRow_loose HO5.out HW1.out
            have HROW := Lib.hid (show w5.ownsRow w1.heap.size tFld 1 (.slice (some ⟨g4, 0, none⟩) r.length c4) (r.set kc xs).length ((r.set kc xs).map strV) from hrow)
            obtain ⟨r0, hr0⟩ : ∃ r0, L'[kk]? = some r0 := ⟨_, List.getElem?_eq_getElem (by omega)⟩
            obtain ⟨u0, hq1, hq2, _⟩ := tabI_at HT5.out hr0
            have HFN := Lib.hid (show Sk.Few 62 (4 + (k + 1)) (L'.set kk (r.set kc xs)) from (HF.out.mono (Nat.le_refl _) (by omega)).set (by intro e; have := congrArg List.length e; rw [List.length_set] at this; simp only [List.length_nil] at this; omega) (by simp; omega) (fun f hf => by rcases List.mem_or_eq_of_mem_set hf with hf | rfl; exact HRB.out f hf; omega))
            clear hrow hr0
            go_wp2_with fail
            go_roundw
            case rel => exact ⟨k + 1, L'.set kk (r.set kc xs), vs'.set kk (.slice (some ⟨g4, 0, none⟩) r.length c4), by go_num, by omega, by simp [hLL], HT5.out.set (by omega) HROW.out, HFN.out, (bch HB.out HB5.out HB.out.size).setCell (p := ⟨gt, kk, none⟩) (by show w.heap.size ≤ gt; omega) _, Nat.le_trans HW1.out (Nat.le_trans HB5.out.size (Nat.le_of_eq (by simp [World.setCell])))⟩
            case measure => simp [intOf]; omega
      · obtain rfl : k = cl.length := by omega
        clear hkl hk
        have hct := HCT.out
        by_cases hw0 : 0 < which
        · obtain ⟨wn, rfl⟩ : ∃ wn : Nat, which = (wn : Int) := ⟨which.toNat, by omega⟩
          have hw0' : 0 < wn := by omega
          go_upto_region 22 with (fail)
          obtain ⟨kk, hkk, hkkl⟩ : ∃ kk : Nat, (wn : Int) % (L.length : Int) = (kk : Int) ∧ kk < L.length := ⟨wn % L.length, rfl, Nat.mod_lt _ (by omega)⟩
          rw [hkk]
          clear hkk hw0 hw0' hwh
          have hctI : (L.length : Int) ≤ (ct : Int) := by omega
          have hkI : (kk : Int) < (L.length : Int) := by omega
          have hw1 : IntKind.i64.wrap ((kk : Int) + 1) = (kk : Int) + 1 := IntWalk.i64_in _ (by omega)
          have hk2 : ((kk : Int) + 1).toNat = kk + 1 := by omega
          have hne1 : ¬ ct = kk := by omega
          have HTK := Lib.hid (fun W (hW : Below wr.heap.size wr W) => HT.out.takeS hW (k := kk + 1) (by omega))
          have HDR := Lib.hid (fun W (hW : Below wr.heap.size wr W) => HT.out.dropS (c' := ct - (kk)) hW (k := kk) (by omega))
          rw [hLL] at HDR
          obtain ⟨wz, hwz⟩ : ∃ wz, wz = wr := ⟨_, rfl⟩
          rw [← hwz] at HTK HDR HT HB ⊢
          clear hwz
          go_region_held_law (fun w' => Hid (Below wz.heap.size wz w'))
            (first
              | assumption
              | exact below_drew1 (Below.refl _ _)
              | exact Below.grown (Hid.out (by assumption)) hgd (Below.size (Hid.out (by assumption))) (fun j hj => (World.ownsRow.lt hoc _ hj).1)
              | exact Below.grown (Hid.out (by assumption)) hgc (Below.size (Hid.out (by assumption))) (fun j hj => by cases hj))
            (first
              | (refine step_append_any _ rfl (.const (.slice none 0 0)) (.tmp 119) 38 rfl wz.heap.size tLine j0 (.slice none 0 0) 1 24 Tryz.underlying38 hj hy0 hy1 hy2 rfl (by decide) (.slice none 0 0) 0 [] rfl (World.ownsRow_nil _ _ _ _) (kk + 1) (vs'.take (kk + 1)) (HTK.out _ (Hid.out (by assumption))) (by unfold maxLen; omega) (by omega) (Below.size (Hid.out (by assumption))) ?_; intro vc Wc hoc hgc hatc)
              | (refine step_append_any _ rfl (.tmp 120) (.tmp 123) 38 rfl wz.heap.size tLine j0 (.slice none 0 0) 1 24 Tryz.underlying38 hj hy0 hy1 hy2 rfl (by decide) vc _ _ rfl hoc (L.length - (kk)) (vs'.drop (kk)) (HDR.out _ (Hid.out (by assumption))) (by unfold maxLen; omega) (by omega) (Below.size (Hid.out (by assumption))) ?_; intro vd Wd hod hgd hatd))
          all_goals
            have HXd : Hid (Below wz.heap.size wz Wd) := by assumption
            have HOd := Lib.hid hod
            clear hoc hgc hatc hod hgd hatd
            obtain ⟨L2, hL2⟩ : ∃ L2, L'.take (kk + 1) ++ L'.drop (kk) = L2 := ⟨_, rfl⟩
            have HTd := Lib.hid (HT.out.below HXd.out)
            have HZ2 := Lib.hid (show Rowz Wd Wd.heap.size vd L2 by rw [← hL2]; exact rowz_pick HTd.out HOd.out (by omega) (by omega) (by omega))
            have HF2 := Lib.hid (show Sk.Few 70 10 L2 by rw [← hL2]; exact HF.out.pick (by omega) (by omega))
            have HBd := Lib.hid (bch HB.out HXd.out HB.out.size)
            clear hL2 HOd
            clear hw1 hk2
            go_upto_region 26 with (fail)
            obtain ⟨T2, hT2⟩ : ∃ T2, Csv.printOf (L2) = T2 := ⟨_, rfl⟩
            have hl2 := HF2.out.text
            have HPT := Lib.hid (refPrint_any (vd) (L2) Wd.heap.size Wd HZ2.out HF2.out.fits)
            rw [hT2] at HPT hl2
            have hT2s : (⟨T2.toArray⟩ : ByteArray).size = T2.length := bytes_size T2
            obtain ⟨p', q', l', a, b, c, hp, hll⟩ : ∃ p q l a b c, parseS T2 = ((p, q, l), a, b, c) ∧ l.length < 100000 := by
              rcases parse_text T2 with ⟨a, b, c, hp, _⟩ | ⟨q, l, hp, hv⟩
              · exact ⟨_, _, _, _, _, _, hp, by simp⟩
              · exact ⟨_, _, _, _, _, _, hp, by have := (valid_parts hv).2.2.1; omega⟩
            obtain ⟨ai, hai⟩ : ∃ ai : Int, ai = a := ⟨_, rfl⟩
            obtain ⟨bi, hbi⟩ : ∃ bi : Int, bi = b := ⟨_, rfl⟩
            obtain ⟨ci, hci⟩ : ∃ ci : Int, ci = c := ⟨_, rfl⟩
            have HP := Lib.hid (mparse_is ⟨T2.toArray⟩ T2 (bytes_list T2) p' q' l' a b c ai bi ci Wd hp hai hbi hci (HS.out.below HBd.out))
            have HQ := Lib.hid (fun W => mrefParse_isC ⟨T2.toArray⟩ T2 (bytes_list T2) (by omega) p' q' l' a b c ai bi ci W hp hai hbi hci)
            clear hp hai hbi hci hT2
            have q1 := beqT (rfl : ai = ai)
            have q2 := beqT (rfl : bi = bi)
            have q3 := beqT (rfl : ci = ci)
            go_wp2_with fail
            refine HPT.out.mono ?_
            rintro e w7 ⟨rfl, hw7⟩
            subst hw7
            go_wp2_with fail
            refine HP.out.mono ?_
            rintro e x1 ⟨⟨v1, rfl, hr⟩, hb1⟩
            obtain ⟨A1, c1, rfl, _⟩ := hr.shape
            go_upto_region 28 with (fail)
            obtain ⟨x2, hx2⟩ : ∃ x2, x2 = (x1.alloc (.cells #[.int .i64 p', .int .i64 q', .slice A1 l'.length c1] tStat)).alloc (.cells #[.int .i64 ai, .int .i64 bi, .int .i64 ci] tRej) := ⟨_, rfl⟩
            rw [← hx2]
            have h2 := two_kept Wd x1 _ _ hb1 hx2.symm
            have HB2 := Lib.hid (bch HBd.out h2.1 HBd.out.size); have HX := Lib.hid h2.2.1; have HY := Lib.hid h2.2.2.1; have HRR := Lib.hid (hr.keep h2.2.2.2)
            clear hx2 h2 hb1 hr HP
            generalize x1.heap.size = b1 at HX HY ⊢
            go_wp2_with fail
            refine (HQ.out _).mono ?_
            rintro e x3 ⟨⟨v3, rfl, hr⟩, hb3⟩
            obtain ⟨A3, c3, rfl, _⟩ := hr.shape
            go_upto_region 29 with (fail)
            obtain ⟨x4, hx4⟩ : ∃ x4, x4 = (x3.alloc (.cells #[.int .i64 p', .int .i64 q', .slice A3 l'.length c3] tStat)).alloc (.cells #[.int .i64 ai, .int .i64 bi, .int .i64 ci] tRej) := ⟨_, rfl⟩
            rw [← hx4]
            have h4 := two_kept x2 x3 _ _ hb3 hx4.symm
            have HB4 := Lib.hid (bch HB2.out h4.1 HB2.out.size); have HX4 := Lib.hid (heap_keep HX.out h4.1); have HY4 := Lib.hid (heap_keep HY.out h4.1); have HU4 := Lib.hid h4.2.1; have HV4 := Lib.hid h4.2.2.1; have HR4 := Lib.hid (HRR.out.keep h4.1); have HQ4 := Lib.hid (hr.keep h4.2.2.2)
            clear hx4 h4 hb3 hr HQ HX HY HRR
            generalize x3.heap.size = b3 at HU4 HV4 ⊢
            obtain ⟨m0, m1, m2⟩ := cell3c HX4.out
            obtain ⟨n0, n1, n2⟩ := cell3c HY4.out
            obtain ⟨z0, z1, z2⟩ := cell3c HU4.out
            obtain ⟨y0, y1, y2⟩ := cell3c HV4.out
            go_wp2_with fail
            refine (refSameT x4 (.slice A1 l'.length c1) (.slice A3 l'.length c3) l' p' q' HR4.out HQ4.out hll).mono ?_
            rintro e x5 ⟨rfl, hb5⟩
            have HB5 := Lib.hid (bch HB4.out hb5 HB4.out.size); have HY5 := Lib.hid (heap_keep HY4.out hb5); have HV5 := Lib.hid (heap_keep HV4.out hb5)
            clear hb5 m0 m1 m2 n0 n1 n2 z0 z1 z2 y0 y1 y2
            obtain ⟨n0, n1, n2⟩ := cell3c HY5.out
            obtain ⟨y0, y1, y2⟩ := cell3c HV5.out
            go_wp2_with fail
            refine (HST.out _ HB5.out).mono ?_
            rintro e x6 ⟨rfl, hb6⟩
            have HB6 := Lib.hid (bch HB5.out hb6 HB5.out.size)
            clear hb6
            go_wp2_with fail
            go_ret
            exact ⟨rfl, HB6.out⟩
        by_cases hw1 : which < 0
        · obtain ⟨wn, rfl⟩ : ∃ wn : Nat, which = -(wn : Int) := ⟨(-which).toNat, by omega⟩
          have hw0' : 0 < wn := by omega
          go_upto_region 25 with (fail)
          obtain ⟨kk, hkk, hkkl⟩ : ∃ kk : Nat, (wn : Int) % (L.length : Int) = (kk : Int) ∧ kk < L.length := ⟨wn % L.length, rfl, Nat.mod_lt _ (by omega)⟩
          rw [hkk]
          clear hkk hw0 hw1 hw0' hwh
          have hctI : (L.length : Int) ≤ (ct : Int) := by omega
          have hkI : (kk : Int) < (L.length : Int) := by omega
          have hw1 : IntKind.i64.wrap ((kk : Int) + 1) = (kk : Int) + 1 := IntWalk.i64_in _ (by omega)
          have hk2 : ((kk : Int) + 1).toNat = kk + 1 := by omega
          by_cases hce : ct = kk + 1
          · have hLk : L.length = kk + 1 := by omega
            subst hce
            have HTK := Lib.hid (fun W (hW : Below wr.heap.size wr W) => HT.out.takeS hW (k := kk) (by omega))
            have hvl : vs'.length = L.length := by rw [HT.out.len, hLL]
            have HDR := Lib.hid (fun (W : World) (hW : Below wr.heap.size wr W) => (by have h := dropS0 (W := W) (ad := ⟨gt, 0, none⟩) (c := 0) (k := kk + 1) hvl (by omega); rw [show L.length - (kk + 1) = 0 by omega] at h; exact h : SrcL W (.slice (some ⟨gt, 0, none⟩) 0 0) 0 1 (vs'.drop (kk + 1))))
            clear hvl hLk
            obtain ⟨wz, hwz⟩ : ∃ wz, wz = wr := ⟨_, rfl⟩
            rw [← hwz] at HTK HDR HT HB ⊢
            clear hwz
            go_region_held_law (fun w' => Hid (Below wz.heap.size wz w'))
              (first
                | assumption
                | exact below_drew1 (Below.refl _ _)
                | exact Below.grown (Hid.out (by assumption)) hgd (Below.size (Hid.out (by assumption))) (fun j hj => (World.ownsRow.lt hoc _ hj).1)
                | exact Below.grown (Hid.out (by assumption)) hgc (Below.size (Hid.out (by assumption))) (fun j hj => by cases hj))
              (first
                | (refine step_append_any _ rfl (.const (.slice none 0 0)) (.tmp 134) 38 rfl wz.heap.size tLine j0 (.slice none 0 0) 1 24 Tryz.underlying38 hj hy0 hy1 hy2 rfl (by decide) (.slice none 0 0) 0 [] rfl (World.ownsRow_nil _ _ _ _) (kk) (vs'.take (kk)) (HTK.out _ (Hid.out (by assumption))) (by unfold maxLen; omega) (by omega) (Below.size (Hid.out (by assumption))) ?_; intro vc Wc hoc hgc hatc)
                | (refine step_append_any _ rfl (.tmp 135) (.tmp 139) 38 rfl wz.heap.size tLine j0 (.slice none 0 0) 1 24 Tryz.underlying38 hj hy0 hy1 hy2 rfl (by decide) vc _ _ rfl hoc 0 (vs'.drop (kk + 1)) (HDR.out _ (Hid.out (by assumption))) (by unfold maxLen; omega) (by omega) (Below.size (Hid.out (by assumption))) ?_; intro vd Wd hod hgd hatd))
            all_goals
              have HXd : Hid (Below wz.heap.size wz Wd) := by assumption
              have HOd := Lib.hid hod
              clear hoc hgc hatc hod hgd hatd
              obtain ⟨L2, hL2⟩ : ∃ L2, L'.take (kk) ++ L'.drop (kk + 1) = L2 := ⟨_, rfl⟩
              have HTd := Lib.hid (HT.out.below HXd.out)
              have HZ2 := Lib.hid (show Rowz Wd Wd.heap.size vd L2 by rw [← hL2]; exact rowz_pick (x := L.length) (y := kk + 1) HTd.out (by rw [show L.length - (kk + 1) = 0 by omega]; exact HOd.out) (by omega) (by omega) (by omega))
              have HF2 := Lib.hid (show Sk.Few 70 10 L2 by rw [← hL2]; exact HF.out.pick (by omega) (by omega))
              have HBd := Lib.hid (bch HB.out HXd.out HB.out.size)
              clear hL2 HOd
              clear hw1 hk2
              go_upto_region 26 with (fail)
              obtain ⟨T2, hT2⟩ : ∃ T2, Csv.printOf (L2) = T2 := ⟨_, rfl⟩
              have hl2 := HF2.out.text
              have HPT := Lib.hid (refPrint_any (vd) (L2) Wd.heap.size Wd HZ2.out HF2.out.fits)
              rw [hT2] at HPT hl2
              have hT2s : (⟨T2.toArray⟩ : ByteArray).size = T2.length := bytes_size T2
              obtain ⟨p', q', l', a, b, c, hp, hll⟩ : ∃ p q l a b c, parseS T2 = ((p, q, l), a, b, c) ∧ l.length < 100000 := by
                rcases parse_text T2 with ⟨a, b, c, hp, _⟩ | ⟨q, l, hp, hv⟩
                · exact ⟨_, _, _, _, _, _, hp, by simp⟩
                · exact ⟨_, _, _, _, _, _, hp, by have := (valid_parts hv).2.2.1; omega⟩
              obtain ⟨ai, hai⟩ : ∃ ai : Int, ai = a := ⟨_, rfl⟩
              obtain ⟨bi, hbi⟩ : ∃ bi : Int, bi = b := ⟨_, rfl⟩
              obtain ⟨ci, hci⟩ : ∃ ci : Int, ci = c := ⟨_, rfl⟩
              have HP := Lib.hid (mparse_is ⟨T2.toArray⟩ T2 (bytes_list T2) p' q' l' a b c ai bi ci Wd hp hai hbi hci (HS.out.below HBd.out))
              have HQ := Lib.hid (fun W => mrefParse_isC ⟨T2.toArray⟩ T2 (bytes_list T2) (by omega) p' q' l' a b c ai bi ci W hp hai hbi hci)
              clear hp hai hbi hci hT2
              have q1 := beqT (rfl : ai = ai)
              have q2 := beqT (rfl : bi = bi)
              have q3 := beqT (rfl : ci = ci)
              go_wp2_with fail
              refine HPT.out.mono ?_
              rintro e w7 ⟨rfl, hw7⟩
              subst hw7
              go_wp2_with fail
              refine HP.out.mono ?_
              rintro e x1 ⟨⟨v1, rfl, hr⟩, hb1⟩
              obtain ⟨A1, c1, rfl, _⟩ := hr.shape
              go_upto_region 28 with (fail)
              obtain ⟨x2, hx2⟩ : ∃ x2, x2 = (x1.alloc (.cells #[.int .i64 p', .int .i64 q', .slice A1 l'.length c1] tStat)).alloc (.cells #[.int .i64 ai, .int .i64 bi, .int .i64 ci] tRej) := ⟨_, rfl⟩
              rw [← hx2]
              have h2 := two_kept Wd x1 _ _ hb1 hx2.symm
              have HB2 := Lib.hid (bch HBd.out h2.1 HBd.out.size); have HX := Lib.hid h2.2.1; have HY := Lib.hid h2.2.2.1; have HRR := Lib.hid (hr.keep h2.2.2.2)
              clear hx2 h2 hb1 hr HP
              generalize x1.heap.size = b1 at HX HY ⊢
              go_wp2_with fail
              refine (HQ.out _).mono ?_
              rintro e x3 ⟨⟨v3, rfl, hr⟩, hb3⟩
              obtain ⟨A3, c3, rfl, _⟩ := hr.shape
              go_upto_region 29 with (fail)
              obtain ⟨x4, hx4⟩ : ∃ x4, x4 = (x3.alloc (.cells #[.int .i64 p', .int .i64 q', .slice A3 l'.length c3] tStat)).alloc (.cells #[.int .i64 ai, .int .i64 bi, .int .i64 ci] tRej) := ⟨_, rfl⟩
              rw [← hx4]
              have h4 := two_kept x2 x3 _ _ hb3 hx4.symm
              have HB4 := Lib.hid (bch HB2.out h4.1 HB2.out.size); have HX4 := Lib.hid (heap_keep HX.out h4.1); have HY4 := Lib.hid (heap_keep HY.out h4.1); have HU4 := Lib.hid h4.2.1; have HV4 := Lib.hid h4.2.2.1; have HR4 := Lib.hid (HRR.out.keep h4.1); have HQ4 := Lib.hid (hr.keep h4.2.2.2)
              clear hx4 h4 hb3 hr HQ HX HY HRR
              generalize x3.heap.size = b3 at HU4 HV4 ⊢
              obtain ⟨m0, m1, m2⟩ := cell3c HX4.out
              obtain ⟨n0, n1, n2⟩ := cell3c HY4.out
              obtain ⟨z0, z1, z2⟩ := cell3c HU4.out
              obtain ⟨y0, y1, y2⟩ := cell3c HV4.out
              go_wp2_with fail
              refine (refSameT x4 (.slice A1 l'.length c1) (.slice A3 l'.length c3) l' p' q' HR4.out HQ4.out hll).mono ?_
              rintro e x5 ⟨rfl, hb5⟩
              have HB5 := Lib.hid (bch HB4.out hb5 HB4.out.size); have HY5 := Lib.hid (heap_keep HY4.out hb5); have HV5 := Lib.hid (heap_keep HV4.out hb5)
              clear hb5 m0 m1 m2 n0 n1 n2 z0 z1 z2 y0 y1 y2
              obtain ⟨n0, n1, n2⟩ := cell3c HY5.out
              obtain ⟨y0, y1, y2⟩ := cell3c HV5.out
              go_wp2_with fail
              refine (HST.out _ HB5.out).mono ?_
              rintro e x6 ⟨rfl, hb6⟩
              have HB6 := Lib.hid (bch HB5.out hb6 HB5.out.size)
              clear hb6
              go_wp2_with fail
              go_ret
              exact ⟨rfl, HB6.out⟩
          · have HTK := Lib.hid (fun W (hW : Below wr.heap.size wr W) => HT.out.takeS hW (k := kk) (by omega))
            have HDR := Lib.hid (fun W (hW : Below wr.heap.size wr W) => HT.out.dropS (c' := ct - (kk + 1)) hW (k := kk + 1) (by omega))
            rw [hLL] at HDR
            obtain ⟨wz, hwz⟩ : ∃ wz, wz = wr := ⟨_, rfl⟩
            rw [← hwz] at HTK HDR HT HB ⊢
            clear hwz
            go_region_held_law (fun w' => Hid (Below wz.heap.size wz w'))
              (first
                | assumption
                | exact below_drew1 (Below.refl _ _)
                | exact Below.grown (Hid.out (by assumption)) hgd (Below.size (Hid.out (by assumption))) (fun j hj => (World.ownsRow.lt hoc _ hj).1)
                | exact Below.grown (Hid.out (by assumption)) hgc (Below.size (Hid.out (by assumption))) (fun j hj => by cases hj))
              (first
                | (refine step_append_any _ rfl (.const (.slice none 0 0)) (.tmp 134) 38 rfl wz.heap.size tLine j0 (.slice none 0 0) 1 24 Tryz.underlying38 hj hy0 hy1 hy2 rfl (by decide) (.slice none 0 0) 0 [] rfl (World.ownsRow_nil _ _ _ _) (kk) (vs'.take (kk)) (HTK.out _ (Hid.out (by assumption))) (by unfold maxLen; omega) (by omega) (Below.size (Hid.out (by assumption))) ?_; intro vc Wc hoc hgc hatc)
                | (refine step_append_any _ rfl (.tmp 135) (.tmp 139) 38 rfl wz.heap.size tLine j0 (.slice none 0 0) 1 24 Tryz.underlying38 hj hy0 hy1 hy2 rfl (by decide) vc _ _ rfl hoc (L.length - (kk + 1)) (vs'.drop (kk + 1)) (HDR.out _ (Hid.out (by assumption))) (by unfold maxLen; omega) (by omega) (Below.size (Hid.out (by assumption))) ?_; intro vd Wd hod hgd hatd))
            all_goals
              have HXd : Hid (Below wz.heap.size wz Wd) := by assumption
              have HOd := Lib.hid hod
              clear hoc hgc hatc hod hgd hatd
              obtain ⟨L2, hL2⟩ : ∃ L2, L'.take (kk) ++ L'.drop (kk + 1) = L2 := ⟨_, rfl⟩
              have HTd := Lib.hid (HT.out.below HXd.out)
              have HZ2 := Lib.hid (show Rowz Wd Wd.heap.size vd L2 by rw [← hL2]; exact rowz_pick HTd.out HOd.out (by omega) (by omega) (by omega))
              have HF2 := Lib.hid (show Sk.Few 70 10 L2 by rw [← hL2]; exact HF.out.pick (by omega) (by omega))
              have HBd := Lib.hid (bch HB.out HXd.out HB.out.size)
              clear hL2 HOd
              clear hw1 hk2
              go_upto_region 26 with (fail)
              obtain ⟨T2, hT2⟩ : ∃ T2, Csv.printOf (L2) = T2 := ⟨_, rfl⟩
              have hl2 := HF2.out.text
              have HPT := Lib.hid (refPrint_any (vd) (L2) Wd.heap.size Wd HZ2.out HF2.out.fits)
              rw [hT2] at HPT hl2
              have hT2s : (⟨T2.toArray⟩ : ByteArray).size = T2.length := bytes_size T2
              obtain ⟨p', q', l', a, b, c, hp, hll⟩ : ∃ p q l a b c, parseS T2 = ((p, q, l), a, b, c) ∧ l.length < 100000 := by
                rcases parse_text T2 with ⟨a, b, c, hp, _⟩ | ⟨q, l, hp, hv⟩
                · exact ⟨_, _, _, _, _, _, hp, by simp⟩
                · exact ⟨_, _, _, _, _, _, hp, by have := (valid_parts hv).2.2.1; omega⟩
              obtain ⟨ai, hai⟩ : ∃ ai : Int, ai = a := ⟨_, rfl⟩
              obtain ⟨bi, hbi⟩ : ∃ bi : Int, bi = b := ⟨_, rfl⟩
              obtain ⟨ci, hci⟩ : ∃ ci : Int, ci = c := ⟨_, rfl⟩
              have HP := Lib.hid (mparse_is ⟨T2.toArray⟩ T2 (bytes_list T2) p' q' l' a b c ai bi ci Wd hp hai hbi hci (HS.out.below HBd.out))
              have HQ := Lib.hid (fun W => mrefParse_isC ⟨T2.toArray⟩ T2 (bytes_list T2) (by omega) p' q' l' a b c ai bi ci W hp hai hbi hci)
              clear hp hai hbi hci hT2
              have q1 := beqT (rfl : ai = ai)
              have q2 := beqT (rfl : bi = bi)
              have q3 := beqT (rfl : ci = ci)
              go_wp2_with fail
              refine HPT.out.mono ?_
              rintro e w7 ⟨rfl, hw7⟩
              subst hw7
              go_wp2_with fail
              refine HP.out.mono ?_
              rintro e x1 ⟨⟨v1, rfl, hr⟩, hb1⟩
              obtain ⟨A1, c1, rfl, _⟩ := hr.shape
              go_upto_region 28 with (fail)
              obtain ⟨x2, hx2⟩ : ∃ x2, x2 = (x1.alloc (.cells #[.int .i64 p', .int .i64 q', .slice A1 l'.length c1] tStat)).alloc (.cells #[.int .i64 ai, .int .i64 bi, .int .i64 ci] tRej) := ⟨_, rfl⟩
              rw [← hx2]
              have h2 := two_kept Wd x1 _ _ hb1 hx2.symm
              have HB2 := Lib.hid (bch HBd.out h2.1 HBd.out.size); have HX := Lib.hid h2.2.1; have HY := Lib.hid h2.2.2.1; have HRR := Lib.hid (hr.keep h2.2.2.2)
              clear hx2 h2 hb1 hr HP
              generalize x1.heap.size = b1 at HX HY ⊢
              go_wp2_with fail
              refine (HQ.out _).mono ?_
              rintro e x3 ⟨⟨v3, rfl, hr⟩, hb3⟩
              obtain ⟨A3, c3, rfl, _⟩ := hr.shape
              go_upto_region 29 with (fail)
              obtain ⟨x4, hx4⟩ : ∃ x4, x4 = (x3.alloc (.cells #[.int .i64 p', .int .i64 q', .slice A3 l'.length c3] tStat)).alloc (.cells #[.int .i64 ai, .int .i64 bi, .int .i64 ci] tRej) := ⟨_, rfl⟩
              rw [← hx4]
              have h4 := two_kept x2 x3 _ _ hb3 hx4.symm
              have HB4 := Lib.hid (bch HB2.out h4.1 HB2.out.size); have HX4 := Lib.hid (heap_keep HX.out h4.1); have HY4 := Lib.hid (heap_keep HY.out h4.1); have HU4 := Lib.hid h4.2.1; have HV4 := Lib.hid h4.2.2.1; have HR4 := Lib.hid (HRR.out.keep h4.1); have HQ4 := Lib.hid (hr.keep h4.2.2.2)
              clear hx4 h4 hb3 hr HQ HX HY HRR
              generalize x3.heap.size = b3 at HU4 HV4 ⊢
              obtain ⟨m0, m1, m2⟩ := cell3c HX4.out
              obtain ⟨n0, n1, n2⟩ := cell3c HY4.out
              obtain ⟨z0, z1, z2⟩ := cell3c HU4.out
              obtain ⟨y0, y1, y2⟩ := cell3c HV4.out
              go_wp2_with fail
              refine (refSameT x4 (.slice A1 l'.length c1) (.slice A3 l'.length c3) l' p' q' HR4.out HQ4.out hll).mono ?_
              rintro e x5 ⟨rfl, hb5⟩
              have HB5 := Lib.hid (bch HB4.out hb5 HB4.out.size); have HY5 := Lib.hid (heap_keep HY4.out hb5); have HV5 := Lib.hid (heap_keep HV4.out hb5)
              clear hb5 m0 m1 m2 n0 n1 n2 z0 z1 z2 y0 y1 y2
              obtain ⟨n0, n1, n2⟩ := cell3c HY5.out
              obtain ⟨y0, y1, y2⟩ := cell3c HV5.out
              go_wp2_with fail
              refine (HST.out _ HB5.out).mono ?_
              rintro e x6 ⟨rfl, hb6⟩
              have HB6 := Lib.hid (bch HB5.out hb6 HB5.out.size)
              clear hb6
              go_wp2_with fail
              go_ret
              exact ⟨rfl, HB6.out⟩
        obtain rfl : which = 0 := by omega
        clear hw0 hw1
        have HZW := Lib.hid HT.out.rowz
        have HF7 := Lib.hid (show Sk.Few 70 10 L' from HF.out.mono (by omega) (by omega))
        go_upto_region 26 with (fail)
        obtain ⟨T2, hT2⟩ : ∃ T2, Csv.printOf (L') = T2 := ⟨_, rfl⟩
        have hl2 := HF7.out.text
        have HPT := Lib.hid (refPrint_any (.slice (some ⟨gt, 0, none⟩) L.length ct) (L') wr.heap.size wr HZW.out HF7.out.fits)
        rw [hT2] at HPT hl2
        have hT2s : (⟨T2.toArray⟩ : ByteArray).size = T2.length := bytes_size T2
        obtain ⟨p', q', l', a, b, c, hp, hll⟩ : ∃ p q l a b c, parseS T2 = ((p, q, l), a, b, c) ∧ l.length < 100000 := by
          rcases parse_text T2 with ⟨a, b, c, hp, _⟩ | ⟨q, l, hp, hv⟩
          · exact ⟨_, _, _, _, _, _, hp, by simp⟩
          · exact ⟨_, _, _, _, _, _, hp, by have := (valid_parts hv).2.2.1; omega⟩
        obtain ⟨ai, hai⟩ : ∃ ai : Int, ai = a := ⟨_, rfl⟩
        obtain ⟨bi, hbi⟩ : ∃ bi : Int, bi = b := ⟨_, rfl⟩
        obtain ⟨ci, hci⟩ : ∃ ci : Int, ci = c := ⟨_, rfl⟩
        have HP := Lib.hid (mparse_is ⟨T2.toArray⟩ T2 (bytes_list T2) p' q' l' a b c ai bi ci wr hp hai hbi hci (HS.out.below HB.out))
        have HQ := Lib.hid (fun W => mrefParse_isC ⟨T2.toArray⟩ T2 (bytes_list T2) (by omega) p' q' l' a b c ai bi ci W hp hai hbi hci)
        clear hp hai hbi hci hT2
        have q1 := beqT (rfl : ai = ai)
        have q2 := beqT (rfl : bi = bi)
        have q3 := beqT (rfl : ci = ci)
        go_wp2_with fail
        refine HPT.out.mono ?_
        rintro e w7 ⟨rfl, hw7⟩
        subst hw7
        go_wp2_with fail
        refine HP.out.mono ?_
        rintro e x1 ⟨⟨v1, rfl, hr⟩, hb1⟩
        obtain ⟨A1, c1, rfl, _⟩ := hr.shape
        go_upto_region 28 with (fail)
        obtain ⟨x2, hx2⟩ : ∃ x2, x2 = (x1.alloc (.cells #[.int .i64 p', .int .i64 q', .slice A1 l'.length c1] tStat)).alloc (.cells #[.int .i64 ai, .int .i64 bi, .int .i64 ci] tRej) := ⟨_, rfl⟩
        rw [← hx2]
        have h2 := two_kept wr x1 _ _ hb1 hx2.symm
        have HB2 := Lib.hid (bch HB.out h2.1 HB.out.size); have HX := Lib.hid h2.2.1; have HY := Lib.hid h2.2.2.1; have HRR := Lib.hid (hr.keep h2.2.2.2)
        clear hx2 h2 hb1 hr HP
        generalize x1.heap.size = b1 at HX HY ⊢
        go_wp2_with fail
        refine (HQ.out _).mono ?_
        rintro e x3 ⟨⟨v3, rfl, hr⟩, hb3⟩
        obtain ⟨A3, c3, rfl, _⟩ := hr.shape
        go_upto_region 29 with (fail)
        obtain ⟨x4, hx4⟩ : ∃ x4, x4 = (x3.alloc (.cells #[.int .i64 p', .int .i64 q', .slice A3 l'.length c3] tStat)).alloc (.cells #[.int .i64 ai, .int .i64 bi, .int .i64 ci] tRej) := ⟨_, rfl⟩
        rw [← hx4]
        have h4 := two_kept x2 x3 _ _ hb3 hx4.symm
        have HB4 := Lib.hid (bch HB2.out h4.1 HB2.out.size); have HX4 := Lib.hid (heap_keep HX.out h4.1); have HY4 := Lib.hid (heap_keep HY.out h4.1); have HU4 := Lib.hid h4.2.1; have HV4 := Lib.hid h4.2.2.1; have HR4 := Lib.hid (HRR.out.keep h4.1); have HQ4 := Lib.hid (hr.keep h4.2.2.2)
        clear hx4 h4 hb3 hr HQ HX HY HRR
        generalize x3.heap.size = b3 at HU4 HV4 ⊢
        obtain ⟨m0, m1, m2⟩ := cell3c HX4.out
        obtain ⟨n0, n1, n2⟩ := cell3c HY4.out
        obtain ⟨z0, z1, z2⟩ := cell3c HU4.out
        obtain ⟨y0, y1, y2⟩ := cell3c HV4.out
        go_wp2_with fail
        refine (refSameT x4 (.slice A1 l'.length c1) (.slice A3 l'.length c3) l' p' q' HR4.out HQ4.out hll).mono ?_
        rintro e x5 ⟨rfl, hb5⟩
        have HB5 := Lib.hid (bch HB4.out hb5 HB4.out.size); have HY5 := Lib.hid (heap_keep HY4.out hb5); have HV5 := Lib.hid (heap_keep HV4.out hb5)
        clear hb5 m0 m1 m2 n0 n1 n2 z0 z1 z2 y0 y1 y2
        obtain ⟨n0, n1, n2⟩ := cell3c HY5.out
        obtain ⟨y0, y1, y2⟩ := cell3c HV5.out
        go_wp2_with fail
        refine (HST.out _ HB5.out).mono ?_
        rintro e x6 ⟨rfl, hb6⟩
        have HB6 := Lib.hid (bch HB5.out hb6 HB5.out.size)
        clear hb6
        go_wp2_with fail
        go_ret
        exact ⟨rfl, HB6.out⟩
end Go.Proofs.YtgpjbigelblanaaGreatDoor

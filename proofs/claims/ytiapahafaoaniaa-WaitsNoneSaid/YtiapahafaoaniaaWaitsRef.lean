/- The document's waits: Stop, Put, Start, Due, Has, Tick: what they compute. -/
import Derived.Test.YtiapahafaoaniaaWaitsTells
import Derived.Test.YtiapahafaoaniaaRowApp
import Derived.BigQuiet
namespace Go.Proofs.Ytiapahafaoaniaa
open Go.RowKit Go.Maps Wa Key

abbrev tRW : TypeId := 66
abbrev tRWs : TypeId := 43
/-- A row of the document's waits, of the call's own. -/
def RWs (w : World) (B : Nat) (v : Value) (l : List W5) : Prop := w.ownsRow B tRW 5 v l.length (l.flatMap encW)
theorem rw_info : (Try.prog.info? tRW).map (fun i => (i.zero, i.size, i.bytes)) = some (some (mkWait ((0, 0), 0, 0, false)), 5, 40) := by kernel_rfl
theorem RWs.nil (w : World) (B : Nat) : RWs w B (.slice none 0 0) [] := World.ownsRow_nil _ _ _ _
theorem RWs.below {w w' : World} {B : Nat} {v : Value} {l : List W5} (h : RWs w B v l) (hb : Below w.heap.size w w') : RWs w' B v l := own_keep h hb
theorem RWs.shape {w : World} {B : Nat} {v : Value} {l : List W5} (h : RWs w B v l) : ∃ A c, v = .slice A l.length c := by
  rcases h.2 with ⟨rfl, e⟩ | ⟨g, cap, cur, rfl, _⟩
  · exact ⟨none, 0, by rw [e]⟩
  · exact ⟨_, _, rfl⟩
theorem RWs.ptr {w : World} {B : Nat} {A : Option Addr} {c : Nat} {l : List W5} (h : RWs w B (.slice A l.length c) l) (hl : 0 < l.length) : ∃ g, A = some ⟨g, 0, none⟩ ∧ g < w.heap.size ∧ l.length ≤ c := by
  rcases h.2 with ⟨_, e⟩ | ⟨g, cap, cur, e, hB, hg, hc, _⟩
  · omega
  · injection e with e1 e2 e3
    subst e1; subst e3
    exact ⟨g, rfl, heap_lt hg, hc⟩
theorem RWs.cells {w : World} {B g c : Nat} {l : List W5} (h : RWs w B (.slice (some ⟨g, 0, none⟩) l.length c) l) {i : Nat} {x : W5} (hx : l[i]? = some x) (j : Nat) (hj : j < 5) : w.cell? ⟨g, i * 5 + j, none⟩ = (encW x)[j]? := by
  have hi := (List.getElem?_eq_some_iff.1 hx).1
  have h' : w.ownsRow B tRW 5 (.slice (some ⟨g, 0, none⟩) l.length c) l.length (l.flatMap encW) := h
  rw [h'.cellAt _ (by omega), flat_get encW_len (by omega), show (i * 5 + j) / 5 = i by omega, show (i * 5 + j) % 5 = j by omega, hx]
  rfl
theorem encW_one (x : W5) : ∀ u ∈ encW x, u.oneCell' = true := by intro u hu; simp [encW] at hu; rcases hu with rfl | rfl | rfl | rfl | rfl <;> rfl

theorem stop_take {l : List W5} {i : Nat} {x : W5} (hx : l[i]? = some x) (k : Int × Int) : stopW (l.take (i + 1)) k = stopW (l.take i) k ++ (if x.1 = k then [] else [x]) := by
  unfold stopW
  rw [List.take_add_one, hx, List.filter_append]
  by_cases h : x.1 = k <;> simp [h]

set_option maxHeartbeats 1000000 in
theorem refStop_any (w : World) (B : Nat) (v : Value) (l : List W5) (o d : Int) (h : RWs w B v l) (hl : l.length < 10000) :
    Calls Try.prog 20 #[v, .agg #[.int .i64 o, .int .i64 d]] w fun e w' => ∃ v', e = .returned v' ∧ RWs w' w.heap.size v' (stopW l (o, d)) ∧ Below w.heap.size w w' := by
  obtain ⟨i0, hi, hz0, hz1, hz2⟩ := info_parts rw_info
  obtain ⟨A, c, rfl⟩ := h.shape
  have HR := Lib.hid h
  clear h
  have hkb := heap_new w (.cells #[.int .i64 o, .int .i64 d] tKey)
  have HB0 := Lib.hid (below_alloc w (.cells #[.int .i64 o, .int .i64 d] tKey))
  go_enter Try.func20, Try.ntmps20
  go_wp2_with fail
  generalize w.alloc (.cells #[.int .i64 o, .int .i64 d] tKey) = w1 at hkb HB0 ⊢
  go_loopw [5, 6] (fun u i wr => ∃ k : Nat, i = .int .i64 k ∧ k ≤ l.length ∧ RWs wr (w.heap.size + 1) u (stopW (l.take k) (o, d)) ∧ Hid (RWs wr B (.slice A l.length c) l) ∧ Hid (wr.heap[w.heap.size]? = some (.cells #[.int .i64 o, .int .i64 d] tKey (0, 0))) ∧ Hid (Below w.heap.size w wr)) (fun _ i _ => l.length - (intOf i).toNat)
  case atStart => exact ⟨0, rfl, Nat.zero_le _, RWs.nil _ _, HR.out.below HB0.out, hkb, HB0.out⟩
  case round =>
    obtain ⟨k, rfl, hk, hrow, HRK, HKK, HBK⟩ := hrel
    obtain ⟨k0, k1, _, _⟩ := cell2 HKK.out
    by_cases hkl : k < l.length
    · obtain ⟨x, hx⟩ : ∃ x, l[k]? = some x := ⟨_, List.getElem?_eq_getElem hkl⟩
      obtain ⟨g, rfl, hgl, hlc⟩ := HR.out.ptr (by omega)
      have c0 := HRK.out.cells hx 0 (by omega)
      have c1 := HRK.out.cells hx 1 (by omega)
      have c2 := HRK.out.cells hx 2 (by omega)
      have c3 := HRK.out.cells hx 3 (by omega)
      have c4 := HRK.out.cells hx 4 (by omega)
      have HT := Lib.hid (stop_take hx (o, d))
      obtain ⟨⟨o', d'⟩, t, n, p⟩ := x
      simp only [encW, List.getElem?_cons_zero, List.getElem?_cons_succ] at c0 c1 c2 c3 c4
      rw [Nat.add_zero] at c0
      have hlt : (k : Int) < l.length := by omega
      have hk0 : (0 : Int) ≤ k := by omega
      have hkw := heap_lt HKK.out
      clear hx
      have hbd : (stopW (l.take k) (o, d)).length ≤ k := by have := stop_len (l.take k) (o, d); simp at this; omega
      by_cases he : ((o', d') : Int × Int) = (o, d)
      · have HT' := Lib.hid (show stopW (l.take (k + 1)) (o, d) = stopW (l.take k) (o, d) by rw [HT.out, if_pos he, List.append_nil])
        injection he with e1 e2
        subst e1; subst e2
        clear HT
        go_wp2_with fail
        go_region
        go_wp2_with fail
        go_roundw
        case rel => exact ⟨k + 1, by go_num, by omega, by rw [HT'.out]; exact hrow, HRK.out, HKK.out, below_drew1 HBK.out⟩
        case measure => simp [intOf]; omega
      · have HT' := Lib.hid (show stopW (l.take (k + 1)) (o, d) = stopW (l.take k) (o, d) ++ [((o', d'), t, n, p)] by rw [HT.out, if_neg he])
        clear HT
        have hne : ¬ o' = o ∨ (o' = o ∧ ¬ d' = d) := by
          by_cases h1 : o' = o
          · exact .inr ⟨h1, fun h2 => he (by rw [h1, h2])⟩
          · exact .inl h1
        clear he
        rcases hne with h1 | ⟨rfl, h1⟩
        all_goals
          have hb1 := beqF h1
          have hb2 := bneT h1
          go_wp2_with fail
          go_region
          go_wp2_with (first
            | (at_builtin; go_loud (refine wpList_append_own_at _ rfl (.tmp 20) (.tmp 25) tRWs rfl (w.heap.size + 1) tRW i0 (mkWait ((0, 0), 0, 0, false)) 5 40 Try.underlying43 hi hz0 hz1 hz2 rfl (by decide) u5 _ _ rfl (World.ownsRow.alloc (w := wr.drew) hrow _) ⟨wr.heap.size, 0, none⟩ 1 1 (encW ((o', d'), t, n, p)) rfl rfl (five_at _ _ rfl _ _ _ _ _ _) (encW_one _) (by unfold maxLen; omega) (by omega) (by simp; omega) ?_; intro v2 w2 ho2 hg2 _ hat2)))
          go_roundw
          case rel =>
            have G : wr.grownBy w2 u5.ownBlock := World.grownBy.trans (World.grownBy.trans (grown_drew (w' := wr) ⟨rfl, rfl, rfl, Nat.le_refl _, fun _ _ _ => rfl⟩) (World.grownBy_alloc _ _ _)) hg2
            refine ⟨k + 1, by go_num, by omega, ?_, World.ownsRow.kept HRK.out G (.inr (row_ne (b := g) hrow (by omega))), (G.block _ hkw (row_ne hrow (by omega))).trans HKK.out, HBK.out.grown G (by omega) (fun j hj => by have := (World.ownsRow.lt hrow _ hj).1; omega)⟩
            rw [HT'.out]
            simpa [RWs, encW] using ho2
          case measure => simp [intOf]; omega
    · obtain rfl : k = l.length := by omega
      have HROW := Lib.hid hrow
      clear hrow
      go_wp2_with fail
      go_ret
      have h1 := HROW.out
      rw [List.take_length] at h1
      exact ⟨_, rfl, own_weak h1 (by omega), HBK.out⟩

theorem refHas_any (w : World) (B : Nat) (v : Value) (l : List W5) (o d : Int) (h : RWs w B v l) (hl : l.length < 10000) :
    Calls Try.prog 21 #[v, .agg #[.int .i64 o, .int .i64 d]] w fun e w' => e = .returned (.bool (hasW l (o, d))) ∧ Below w.heap.size w w' := by
  obtain ⟨A, c, rfl⟩ := h.shape
  have HR := Lib.hid h
  have HB0 := Lib.hid (below_alloc w (.cells #[.int .i64 o, .int .i64 d] tKey))
  clear h
  go_enter Try.func21, Try.ntmps21
  go_wp2_with fail
  refine (refStop_any _ B _ l o d (HR.out.below HB0.out) hl).mono ?_
  rintro e w1 ⟨v', rfl, hr, hb⟩
  obtain ⟨A', c', rfl⟩ := hr.shape
  have HB := Lib.hid (bch HB0.out hb (by simp))
  clear hr hb
  have HH := Lib.hid (has_len l (o, d))
  go_wp2_with fail
  go_ret
  exact ⟨by rw [HH.out]; simp, HB.out⟩

theorem take_drop_less {x : W5} : ∀ {l : List W5} (k : Nat), (∀ y ∈ l.take k, lessW y x = true) → (∀ y, l[k]? = some y → lessW y x = false) → placeW l x = l.take k ++ x :: l.drop k
  | l, 0, _, h2 => by
    unfold placeW
    cases l with
    | nil => rfl
    | cons y l =>
      have := h2 y rfl
      simp [this]
  | [], k + 1, _, _ => by simp [placeW]
  | y :: l, k + 1, h1, h2 => by
    have hy := h1 y (by simp)
    have := take_drop_less (x := x) (l := l) k (fun z hz => h1 z (by simp [hz])) (fun z hz => h2 z (by simpa using hz))
    unfold placeW at this ⊢
    simp only [List.takeWhile_cons, List.dropWhile_cons, hy, if_true, List.cons_append, this, List.take_succ_cons, List.drop_succ_cons]

theorem src_take {w W : World} {B g c : Nat} {l : List W5} (h : RWs w B (.slice (some ⟨g, 0, none⟩) l.length c) l) (hb : Below w.heap.size w W) {k : Nat} (hk : k ≤ l.length) : SrcL W (.slice (some ⟨g, 0, none⟩) k c) k 5 ((l.take k).flatMap encW) := by
  have h' : W.ownsRow B tRW 5 (.slice (some ⟨g, 0, none⟩) l.length c) l.length (l.flatMap encW) := h.below hb
  refine ⟨by rw [flat_len encW_len]; simp; omega, fun u hu => ?_, .inr ⟨_, _, rfl, fun j x hj => ?_⟩⟩
  · obtain ⟨x, _, hx⟩ := List.mem_flatMap.1 hu
    exact encW_one x u hx
  · have hjl := (List.getElem?_eq_some_iff.1 hj).1
    rw [flat_len encW_len] at hjl
    simp at hjl
    rw [Addr.add_lit, Nat.zero_add, h'.cellAt _ (by omega), flat_get encW_len (by omega)]
    rw [flat_get encW_len (by omega), List.getElem?_take] at hj
    rw [if_pos (by omega)] at hj
    exact hj
theorem src_drop {w W : World} {B g c c' : Nat} {l : List W5} (h : RWs w B (.slice (some ⟨g, 0, none⟩) l.length c) l) (hb : Below w.heap.size w W) {k : Nat} (hk : k ≤ l.length) : SrcL W (.slice (some ⟨g, k * 5, none⟩) (l.length - k) c') (l.length - k) 5 ((l.drop k).flatMap encW) := by
  have h' : W.ownsRow B tRW 5 (.slice (some ⟨g, 0, none⟩) l.length c) l.length (l.flatMap encW) := h.below hb
  refine ⟨by rw [flat_len encW_len]; simp, fun u hu => ?_, .inr ⟨_, _, rfl, fun j x hj => ?_⟩⟩
  · obtain ⟨x, _, hx⟩ := List.mem_flatMap.1 hu
    exact encW_one x u hx
  · have hjl := (List.getElem?_eq_some_iff.1 hj).1
    rw [flat_len encW_len] at hjl
    simp at hjl
    rw [Addr.add_lit, h'.cellAt _ (by omega), flat_get encW_len (by omega), show (k * 5 + j) / 5 = k + j / 5 by omega, show (k * 5 + j) % 5 = j % 5 by omega]
    rw [flat_get encW_len (by omega), List.getElem?_drop] at hj
    exact hj
theorem src_drop_if {w W : World} {B g c : Nat} {l : List W5} (h : RWs w B (.slice (some ⟨g, 0, none⟩) l.length c) l) (hb : Below w.heap.size w W) {k : Nat} (hk : k ≤ l.length) (hc : l.length ≤ c) : SrcL W (.slice (if c = k then some ⟨g, 0, none⟩ else some ⟨g, k * 5, none⟩) (l.length - k) (c - k)) (l.length - k) 5 ((l.drop k).flatMap encW) := by
  split
  · obtain rfl : k = l.length := by omega
    exact ⟨by simp, by simp, .inr ⟨_, _, rfl, fun j x hj => by simp at hj⟩⟩
  · exact src_drop h hb hk
theorem src_one {w : World} {b : Nat} {x0 x1 x2 x3 x4 : Value} {T : TypeId} {fr : Nat × Nat} {k c : Nat} (h : w.heap[b]? = some (.cells #[x0, x1, x2, x3, x4] T fr)) (h1 : ∀ u ∈ [x0, x1, x2, x3, x4], u.oneCell' = true) (hk : k = 1) : SrcL w (.slice (some ⟨b, 0, none⟩) k c) 1 5 [x0, x1, x2, x3, x4] := by
  subst hk
  refine ⟨rfl, h1, .inr ⟨_, _, rfl, fun j x hj => ?_⟩⟩
  rw [Addr.add_lit, Nat.zero_add]
  exact cell_at h j (by simpa using hj)
theorem held5 {wz W : World} {q : Nat} {x0 x1 x2 x3 x4 : Value} {T : TypeId} (h : wz.heap[q]? = some (.cells #[x0, x1, x2, x3, x4] T (0, 0))) (hb : Below wz.heap.size wz W) :
    Hid (Below wz.heap.size wz W) ∧ W.cell? ⟨q, 0, none⟩ = some x0 ∧ W.cell? ⟨q, 1, none⟩ = some x1 ∧ W.cell? ⟨q, 2, none⟩ = some x2 ∧ W.cell? ⟨q, 3, none⟩ = some x3 ∧ W.cell? ⟨q, 4, none⟩ = some x4 :=
  ⟨hb, cell5 ((hb.block _ (heap_lt h)).trans h)⟩

set_option maxHeartbeats 1000000 in
theorem refPut_any (w : World) (B : Nat) (v : Value) (l : List W5) (o d t n : Int) (p : Bool) (h : RWs w B v l) (hl : l.length < 10000) (hB : B ≤ w.heap.size) :
    Calls Try.prog 34 #[v, .agg #[.int .i64 o, .int .i64 d, .int .i64 t, .int .i64 n, .bool p]] w fun e w' => ∃ v', e = .returned v' ∧ RWs w' B v' (putW l ((o, d), t, n, p)) ∧ Below w.heap.size w w' := by
  obtain ⟨i0, hi, hz0, hz1, hz2⟩ := info_parts rw_info
  obtain ⟨A, c, rfl⟩ := h.shape
  have HR := Lib.hid h
  have HB0 := Lib.hid (below_alloc w (.cells #[.int .i64 o, .int .i64 d, .int .i64 t, .int .i64 n, .bool p] tRW))
  have hk := heap_new w (.cells #[.int .i64 o, .int .i64 d, .int .i64 t, .int .i64 n, .bool p] tRW)
  obtain ⟨e0, e1, e2, e3, e4⟩ := cell5 hk
  have HC := Lib.hid (refCheck_any o d)
  clear h
  cases hc : chk o d with
  | false =>
    have HP := Lib.hid (show putW l ((o, d), t, n, p) = l by simp [putW, chkB, hc])
    rw [hc] at HC
    go_enter Try.func34, Try.ntmps34
    go_wp2_with fail
    refine (HC.out _).mono ?_
    rintro e w1 ⟨rfl, hb⟩
    have HB := Lib.hid (bch HB0.out hb (by simp))
    clear hb
    go_wp2_with fail
    go_ret
    exact ⟨_, rfl, by rw [HP.out]; exact HR.out.below HB.out, HB.out⟩
  | true =>
    have HP := Lib.hid (show putW l ((o, d), t, n, p) = placeW (stopW l (o, d)) ((o, d), t, n, p) by simp [putW, chkB, hc])
    rw [hc] at HC
    go_enter Try.func34, Try.ntmps34
    go_wp2_with fail
    refine (HC.out _).mono ?_
    rintro e w1 ⟨rfl, hb⟩
    have HB := Lib.hid (bch HB0.out hb (by simp))
    have HK := Lib.hid (block_new hb)
    clear hb e0 e1 e2 e3 e4 hk
    obtain ⟨e0, e1, e2, e3, e4⟩ := cell5 HK.out
    go_wp2_with fail
    refine (refStop_any w1 B _ l o d (HR.out.below HB.out) hl).mono ?_
    rintro e w2 ⟨v', rfl, hr, hb⟩
    obtain ⟨A', c', rfl⟩ := hr.shape
    have HS := Lib.hid hr
    have HB2 := Lib.hid (bch HB.out hb HB.out.size)
    have HK2 := Lib.hid ((hb.block _ (heap_lt HK.out)).trans HK.out)
    clear hb hr e0 e1 e2 e3 e4
    go_wp2_with fail
    generalize hS : stopW l (o, d) = S at HS HP ⊢
    have hSl : S.length < 10000 := by rw [← hS]; have := stop_len l (o, d); omega
    have hsz2 := HB2.out.size
    have hkw2 := heap_lt HK2.out
    go_loopw [5] (fun i wr => ∃ k : Nat, i = .int .i64 k ∧ k ≤ S.length ∧ Hid (∀ y ∈ S.take k, lessW y ((o, d), t, n, p) = true) ∧ Hid (Below w2.heap.size w2 wr)) (fun i _ => S.length - (intOf i).toNat)
    case atStart => exact ⟨0, rfl, Nat.zero_le _, by intro y hy; simp at hy, Below.refl _ _⟩
    case round =>
      obtain ⟨k, rfl, hk, HLT, HBK⟩ := hrel
      have HSK := Lib.hid (HS.out.below HBK.out)
      have HKK := Lib.hid ((HBK.out.block _ hkw2).trans HK2.out)
      obtain ⟨e0, e1, e2, e3, e4⟩ := cell5 HKK.out
      by_cases hkl : k < S.length
      · obtain ⟨x, hx⟩ : ∃ x, S[k]? = some x := ⟨_, List.getElem?_eq_getElem hkl⟩
        obtain ⟨g, rfl, hgl, hlc⟩ := HS.out.ptr (by omega)
        have c0 := HSK.out.cells hx 0 (by omega)
        have c1 := HSK.out.cells hx 1 (by omega)
        obtain ⟨⟨o', d'⟩, t', n', p'⟩ := x
        simp only [encW, List.getElem?_cons_zero, List.getElem?_cons_succ] at c0 c1
        rw [Nat.add_zero] at c0
        have hlt : (k : Int) < S.length := by omega
        have hk0 : (0 : Int) ≤ k := by omega
        have HX := Lib.hid hx
        clear hx
        go_wp2_with fail
        refine wp_region_still_tail 12 (by kernel_rfl) (by kernel_rfl) ?_
        simp only [List.take_succ_cons, List.take_zero, List.drop_succ_cons, List.drop_zero]
        iterate 12 still_step
        refine wpStill_nil ?_
        change wpList _ _ _ _ _ wr.drew
        go_wp2_with fail
        refine (refLess_any o' d' o d _).mono ?_
        rintro e w3 ⟨rfl, hb3⟩
        have HB3 := Lib.hid (bch (below_drew1 HBK.out) hb3 HBK.out.size)
        clear hb3
        cases hls : lessB o' d' o d with
        | true =>
          go_wp2_with fail
          go_roundw
          case rel => exact ⟨k + 1, by go_num, by omega, fun y hy => by rw [List.take_add_one, HX.out] at hy; rcases List.mem_append.1 hy with hy | hy; exact HLT.out y hy; simp at hy; subst hy; exact hls, HB3.out⟩
          case measure => simp [intOf]; omega
        | false =>
          have HZ := Lib.hid (take_drop_less (x := ((o, d), t, n, p)) (l := S) k HLT.out (fun y hy => by rw [HX.out] at hy; injection hy with hy; subst hy; exact hls))
          go_wp2_with fail
          have HSZ := Lib.hid (HS.out.below HB3.out)
          have HKZ := Lib.hid ((HB3.out.block _ hkw2).trans HK2.out)
          have HBZ := Lib.hid (bch HB2.out HB3.out HB2.out.size)
          have HTK := Lib.hid (fun W (hW : Below w3.heap.size w3 W) => src_take HSZ.out hW (k := k) (by omega))
          have HDR := Lib.hid (fun W (hW : Below w3.heap.size w3 W) => src_drop (c' := c' - k) HSZ.out hW (k := k) (by omega))
          clear HSK HKK HBK HB3 HX HLT e0 e1 e2 e3 e4 c0 c1 hls
          generalize w3 = wz at HSZ HKZ HBZ HTK HDR ⊢
          obtain ⟨e0, e1, e2, e3, e4⟩ := cell5 HKZ.out
          go_region_held_law (fun w' => Hid (Below wz.heap.size wz w') ∧ w'.cell? ⟨w.heap.size, 0, none⟩ = some (.int .i64 o) ∧ w'.cell? ⟨w.heap.size, 1, none⟩ = some (.int .i64 d) ∧ w'.cell? ⟨w.heap.size, 2, none⟩ = some (.int .i64 t) ∧ w'.cell? ⟨w.heap.size, 3, none⟩ = some (.int .i64 n) ∧ w'.cell? ⟨w.heap.size, 4, none⟩ = some (.bool p))
            (first
              | assumption
              | exact held5 HKZ.out (below_drew1 (Below.refl _ _))
              | exact held5 HKZ.out (Below.grown (Hid.out (And.left (by assumption))) hg41 (Below.size (Hid.out (And.left (by assumption)))) (fun j hj => (World.ownsRow.lt ho37 _ hj).1))
              | exact held5 HKZ.out (Below.grown (Hid.out (And.left (by assumption))) hg37 (Below.size (Hid.out (And.left (by assumption)))) (fun j hj => (World.ownsRow.lt ho34 _ hj).1))
              | exact held5 HKZ.out (Below.grown (Hid.out (And.left (by assumption))) hg34 (Below.size (Hid.out (And.left (by assumption)))) (fun j hj => by cases hj))
              | exact held5 HKZ.out (Below.alloc (Hid.out (And.left (by assumption))) (Below.size (Hid.out (And.left (by assumption)))) _))
            (first
              | (refine step_append_any _ rfl (.const (.slice none 0 0)) (.tmp 33) tRWs rfl wz.heap.size tRW i0 (mkWait ((0, 0), 0, 0, false)) 5 40 Try.underlying43 hi hz0 hz1 hz2 rfl (by decide) (.slice none 0 0) 0 [] rfl (World.ownsRow_nil _ _ _ _) k ((S.take k).flatMap encW) (HTK.out _ (Hid.out (And.left (by assumption)))) (by unfold maxLen; omega) (by omega) (Below.size (Hid.out (And.left (by assumption)))) ?_; intro v34 W34 ho34 hg34 hat34)
              | (refine step_append_any _ rfl (.tmp 34) (.tmp 36) tRWs rfl wz.heap.size tRW i0 (mkWait ((0, 0), 0, 0, false)) 5 40 Try.underlying43 hi hz0 hz1 hz2 rfl (by decide) v34 _ _ rfl (World.ownsRow.alloc ho34 _) 1 (encW ((o, d), t, n, p)) (src_one (heap_new _ _) (encW_one _) rfl) (by unfold maxLen; omega) (by omega) (Below.size (Hid.out (And.left (by assumption)))) ?_; intro v37 W37 ho37 hg37 hat37)
              | (refine step_append_any _ rfl (.tmp 34) (.tmp 36) tRWs rfl wz.heap.size tRW i0 (mkWait ((0, 0), 0, 0, false)) 5 40 Try.underlying43 hi hz0 hz1 hz2 rfl (by decide) v34 _ _ rfl ho34 1 (encW ((o, d), t, n, p)) (src_one ((hg34.block _ (by simp) (by simp [Value.ownBlock])).trans (heap_new _ _)) (encW_one _) rfl) (by unfold maxLen; omega) (by omega) (Below.size (Hid.out (And.left (by assumption)))) ?_; intro v37 W37 ho37 hg37 hat37)
              | (refine step_append_any _ rfl (.tmp 37) (.tmp 40) tRWs rfl wz.heap.size tRW i0 (mkWait ((0, 0), 0, 0, false)) 5 40 Try.underlying43 hi hz0 hz1 hz2 rfl (by decide) v37 _ _ rfl ho37 (S.length - k) ((S.drop k).flatMap encW) (HDR.out _ (Hid.out (And.left (by assumption)))) (by unfold maxLen; omega) (by omega) (Below.size (Hid.out (And.left (by assumption)))) ?_; intro v41 W41 ho41 hg41 hat41))
          all_goals
            have HO := Lib.hid ho41
            have HX41 : Hid (Below wz.heap.size wz W41) := And.left (by assumption)
            clear ho34 hg34 hat34 ho37 hg37 hat37 ho41 hg41 hat41
            go_wp2_with fail
            go_ret
            refine ⟨_, rfl, ?_, bch HBZ.out HX41.out HBZ.out.size⟩
            rw [HP.out, HZ.out]
            refine own_weak (B := wz.heap.size) ?_ (Nat.le_trans hB HBZ.out.size)
            have ho := HO.out
            rw [show 0 + k + 1 + (S.length - k) = (S.take k ++ ((o, d), t, n, p) :: S.drop k).length by first | (simp; done) | (simp; omega)] at ho
            simpa [encW, List.append_assoc] using ho
      · have hke : k = S.length := by omega
        have hd : decide ((k : Int) < (S.length : Int)) = false := by simp; omega
        have HZ := Lib.hid (take_drop_less (x := ((o, d), t, n, p)) (l := S) k HLT.out (fun y hy => by rw [List.getElem?_eq_none (by omega)] at hy; cases hy))
        rcases HS.out.2 with ⟨es, e0'⟩ | ⟨g, cap, cur, es, _, _, hcn, _⟩
        · injection es with es1 es2 es3
          obtain rfl := List.eq_nil_of_length_eq_zero e0'
          obtain rfl : k = 0 := by omega
          subst es1; subst es3
          clear hke hd hkl hk
          go_wp2_with fail
          go_quiet (fail)
          go_wp2_with fail
          have HB3 := Lib.hid (show Below w2.heap.size w2 (wr.drewN nq) from ⟨HBK.out.os, HBK.out.tape, HBK.out.output, HBK.out.size, HBK.out.block⟩)
          have HSZ := Lib.hid (HS.out.below HB3.out)
          have HKZ := Lib.hid ((HB3.out.block _ hkw2).trans HK2.out)
          have HBZ := Lib.hid (bch HB2.out HB3.out HB2.out.size)
          have HTK := Lib.hid (fun W (hW : Below (wr.drewN nq).heap.size (wr.drewN nq) W) => (⟨rfl, by simp, .inl ⟨rfl, rfl⟩⟩ : SrcL W (.slice none 0 0) 0 5 ((([] : List W5).take 0).flatMap encW)))
          have HDR := Lib.hid (fun W (hW : Below (wr.drewN nq).heap.size (wr.drewN nq) W) => (⟨rfl, by simp, .inl ⟨rfl, rfl⟩⟩ : SrcL W (.slice none 0 0) 0 5 ((([] : List W5).drop 0).flatMap encW)))
          clear HSK HKK HBK HB3 HLT e0 e1 e2 e3 e4
          generalize wr.drewN nq = wz at HSZ HKZ HBZ HTK HDR ⊢
          obtain ⟨e0, e1, e2, e3, e4⟩ := cell5 HKZ.out
          go_region_held_law (fun w' => Hid (Below wz.heap.size wz w') ∧ w'.cell? ⟨w.heap.size, 0, none⟩ = some (.int .i64 o) ∧ w'.cell? ⟨w.heap.size, 1, none⟩ = some (.int .i64 d) ∧ w'.cell? ⟨w.heap.size, 2, none⟩ = some (.int .i64 t) ∧ w'.cell? ⟨w.heap.size, 3, none⟩ = some (.int .i64 n) ∧ w'.cell? ⟨w.heap.size, 4, none⟩ = some (.bool p))
            (first
              | assumption
              | exact held5 HKZ.out (below_drew1 (Below.refl _ _))
              | exact held5 HKZ.out (Below.grown (Hid.out (And.left (by assumption))) hg41 (Below.size (Hid.out (And.left (by assumption)))) (fun j hj => (World.ownsRow.lt ho37 _ hj).1))
              | exact held5 HKZ.out (Below.grown (Hid.out (And.left (by assumption))) hg37 (Below.size (Hid.out (And.left (by assumption)))) (fun j hj => (World.ownsRow.lt ho34 _ hj).1))
              | exact held5 HKZ.out (Below.grown (Hid.out (And.left (by assumption))) hg34 (Below.size (Hid.out (And.left (by assumption)))) (fun j hj => by cases hj))
              | exact held5 HKZ.out (Below.alloc (Hid.out (And.left (by assumption))) (Below.size (Hid.out (And.left (by assumption)))) _))
            (first
              | (refine step_append_any _ rfl (.const (.slice none 0 0)) (.tmp 33) tRWs rfl wz.heap.size tRW i0 (mkWait ((0, 0), 0, 0, false)) 5 40 Try.underlying43 hi hz0 hz1 hz2 rfl (by decide) (.slice none 0 0) 0 [] rfl (World.ownsRow_nil _ _ _ _) 0 ((([] : List W5).take 0).flatMap encW) (HTK.out _ (Hid.out (And.left (by assumption)))) (by unfold maxLen; omega) (by omega) (Below.size (Hid.out (And.left (by assumption)))) ?_; intro v34 W34 ho34 hg34 hat34)
              | (refine step_append_any _ rfl (.tmp 34) (.tmp 36) tRWs rfl wz.heap.size tRW i0 (mkWait ((0, 0), 0, 0, false)) 5 40 Try.underlying43 hi hz0 hz1 hz2 rfl (by decide) v34 _ _ rfl (World.ownsRow.alloc ho34 _) 1 (encW ((o, d), t, n, p)) (src_one (heap_new _ _) (encW_one _) rfl) (by unfold maxLen; omega) (by omega) (Below.size (Hid.out (And.left (by assumption)))) ?_; intro v37 W37 ho37 hg37 hat37)
              | (refine step_append_any _ rfl (.tmp 34) (.tmp 36) tRWs rfl wz.heap.size tRW i0 (mkWait ((0, 0), 0, 0, false)) 5 40 Try.underlying43 hi hz0 hz1 hz2 rfl (by decide) v34 _ _ rfl ho34 1 (encW ((o, d), t, n, p)) (src_one ((hg34.block _ (by simp) (by simp [Value.ownBlock])).trans (heap_new _ _)) (encW_one _) rfl) (by unfold maxLen; omega) (by omega) (Below.size (Hid.out (And.left (by assumption)))) ?_; intro v37 W37 ho37 hg37 hat37)
              | (refine step_append_any _ rfl (.tmp 37) (.tmp 40) tRWs rfl wz.heap.size tRW i0 (mkWait ((0, 0), 0, 0, false)) 5 40 Try.underlying43 hi hz0 hz1 hz2 rfl (by decide) v37 _ _ rfl ho37 (0) ((([] : List W5).drop 0).flatMap encW) (HDR.out _ (Hid.out (And.left (by assumption)))) (by unfold maxLen; omega) (by omega) (Below.size (Hid.out (And.left (by assumption)))) ?_; intro v41 W41 ho41 hg41 hat41))
          all_goals
            have HO := Lib.hid ho41
            have HX41 : Hid (Below wz.heap.size wz W41) := And.left (by assumption)
            clear ho34 hg34 hat34 ho37 hg37 hat37 ho41 hg41 hat41
            go_wp2_with fail
            go_ret
            refine ⟨_, rfl, ?_, bch HBZ.out HX41.out HBZ.out.size⟩
            rw [HP.out, HZ.out]
            refine own_weak (B := wz.heap.size) ?_ (Nat.le_trans hB HBZ.out.size)
            have ho := HO.out
            rw [show 0 + 0 + 1 + (0) = (([] : List W5).take 0 ++ ((o, d), t, n, p) :: ([] : List W5).drop 0).length by first | (simp; done) | (simp; omega)] at ho
            simpa [encW, List.append_assoc] using ho
        · injection es with es1 es2 es3
          subst es1; subst es3
          clear hke
          have hk0 : (0 : Int) ≤ k := by omega
          have hkc : (k : Int) ≤ c' := by omega
          have hkS : (k : Int) ≤ S.length := by omega
          have hSc : (S.length : Int) ≤ c' := by omega
          go_wp2_with fail
          go_quiet (fail)
          go_wp2_with fail
          have HB3 := Lib.hid (show Below w2.heap.size w2 (wr.drewN nq) from ⟨HBK.out.os, HBK.out.tape, HBK.out.output, HBK.out.size, HBK.out.block⟩)
          have HSZ := Lib.hid (HS.out.below HB3.out)
          have HKZ := Lib.hid ((HB3.out.block _ hkw2).trans HK2.out)
          have HBZ := Lib.hid (bch HB2.out HB3.out HB2.out.size)
          have HTK := Lib.hid (fun W (hW : Below (wr.drewN nq).heap.size (wr.drewN nq) W) => src_take HSZ.out hW (k := k) (by omega))
          have HDR := Lib.hid (fun W (hW : Below (wr.drewN nq).heap.size (wr.drewN nq) W) => src_drop_if HSZ.out hW (k := k) (by omega) (by omega))
          clear HSK HKK HBK HB3 HLT e0 e1 e2 e3 e4
          generalize wr.drewN nq = wz at HSZ HKZ HBZ HTK HDR ⊢
          obtain ⟨e0, e1, e2, e3, e4⟩ := cell5 HKZ.out
          go_region_held_law (fun w' => Hid (Below wz.heap.size wz w') ∧ w'.cell? ⟨w.heap.size, 0, none⟩ = some (.int .i64 o) ∧ w'.cell? ⟨w.heap.size, 1, none⟩ = some (.int .i64 d) ∧ w'.cell? ⟨w.heap.size, 2, none⟩ = some (.int .i64 t) ∧ w'.cell? ⟨w.heap.size, 3, none⟩ = some (.int .i64 n) ∧ w'.cell? ⟨w.heap.size, 4, none⟩ = some (.bool p))
            (first
              | assumption
              | exact held5 HKZ.out (below_drew1 (Below.refl _ _))
              | exact held5 HKZ.out (Below.grown (Hid.out (And.left (by assumption))) hg41 (Below.size (Hid.out (And.left (by assumption)))) (fun j hj => (World.ownsRow.lt ho37 _ hj).1))
              | exact held5 HKZ.out (Below.grown (Hid.out (And.left (by assumption))) hg37 (Below.size (Hid.out (And.left (by assumption)))) (fun j hj => (World.ownsRow.lt ho34 _ hj).1))
              | exact held5 HKZ.out (Below.grown (Hid.out (And.left (by assumption))) hg34 (Below.size (Hid.out (And.left (by assumption)))) (fun j hj => by cases hj))
              | exact held5 HKZ.out (Below.alloc (Hid.out (And.left (by assumption))) (Below.size (Hid.out (And.left (by assumption)))) _))
            (first
              | (refine step_append_any _ rfl (.const (.slice none 0 0)) (.tmp 33) tRWs rfl wz.heap.size tRW i0 (mkWait ((0, 0), 0, 0, false)) 5 40 Try.underlying43 hi hz0 hz1 hz2 rfl (by decide) (.slice none 0 0) 0 [] rfl (World.ownsRow_nil _ _ _ _) k ((S.take k).flatMap encW) (HTK.out _ (Hid.out (And.left (by assumption)))) (by unfold maxLen; omega) (by omega) (Below.size (Hid.out (And.left (by assumption)))) ?_; intro v34 W34 ho34 hg34 hat34)
              | (refine step_append_any _ rfl (.tmp 34) (.tmp 36) tRWs rfl wz.heap.size tRW i0 (mkWait ((0, 0), 0, 0, false)) 5 40 Try.underlying43 hi hz0 hz1 hz2 rfl (by decide) v34 _ _ rfl (World.ownsRow.alloc ho34 _) 1 (encW ((o, d), t, n, p)) (src_one (heap_new _ _) (encW_one _) rfl) (by unfold maxLen; omega) (by omega) (Below.size (Hid.out (And.left (by assumption)))) ?_; intro v37 W37 ho37 hg37 hat37)
              | (refine step_append_any _ rfl (.tmp 34) (.tmp 36) tRWs rfl wz.heap.size tRW i0 (mkWait ((0, 0), 0, 0, false)) 5 40 Try.underlying43 hi hz0 hz1 hz2 rfl (by decide) v34 _ _ rfl ho34 1 (encW ((o, d), t, n, p)) (src_one ((hg34.block _ (by simp) (by simp [Value.ownBlock])).trans (heap_new _ _)) (encW_one _) rfl) (by unfold maxLen; omega) (by omega) (Below.size (Hid.out (And.left (by assumption)))) ?_; intro v37 W37 ho37 hg37 hat37)
              | (refine step_append_any _ rfl (.tmp 37) (.tmp 40) tRWs rfl wz.heap.size tRW i0 (mkWait ((0, 0), 0, 0, false)) 5 40 Try.underlying43 hi hz0 hz1 hz2 rfl (by decide) v37 _ _ rfl ho37 (S.length - k) ((S.drop k).flatMap encW) (HDR.out _ (Hid.out (And.left (by assumption)))) (by unfold maxLen; omega) (by omega) (Below.size (Hid.out (And.left (by assumption)))) ?_; intro v41 W41 ho41 hg41 hat41))
          all_goals
            have HO := Lib.hid ho41
            have HX41 : Hid (Below wz.heap.size wz W41) := And.left (by assumption)
            clear ho34 hg34 hat34 ho37 hg37 hat37 ho41 hg41 hat41
            go_wp2_with fail
            all_goals
              go_ret
              refine ⟨_, rfl, ?_, bch HBZ.out HX41.out HBZ.out.size⟩
              rw [HP.out, HZ.out]
              refine own_weak (B := wz.heap.size) ?_ (Nat.le_trans hB HBZ.out.size)
              have ho := HO.out
              rw [show 0 + k + 1 + (S.length - k) = (S.take k ++ ((o, d), t, n, p) :: S.drop k).length by first | (simp; done) | (simp; omega)] at ho
              simpa [encW, List.append_assoc] using ho
end Go.Proofs.Ytiapahafaoaniaa

/- law18: WaitsAlone. -/
import Derived.Test.YtiapahafaoaniaaWaitsTries
namespace Go.Proofs.Ytiapahafaoaniaa
open Go.RowKit Go.Maps Wa Key

def onlyW (l : List W5) (k : Int × Int) : List W5 := l.filter fun x => decide (x.1 = k)
theorem only_good {l : List W5} (h : Wa.Good l) (k : Int × Int) : Wa.Good (onlyW l k) := h.filter _
theorem only_stop {l : List W5} {a b : Int × Int} (h : a ≠ b) : onlyW (stopW l a) b = onlyW l b := by
  unfold onlyW stopW
  rw [List.filter_filter]
  congr 1
  funext x
  by_cases e : x.1 = b
  · simp [e]; exact fun e => h e.symm
  · simp [e]
theorem only_place {l : List W5} {x : W5} {b : Int × Int} (h : x.1 ≠ b) : onlyW (placeW l x) b = onlyW l b := by
  have e : onlyW l b = onlyW (l.takeWhile (fun y => lessW y x) ++ l.dropWhile (fun y => lessW y x)) b := by rw [List.takeWhile_append_dropWhile]
  rw [e]
  unfold onlyW placeW
  rw [List.filter_append, List.filter_append, List.filter_cons_of_neg (by simpa using h)]
theorem only_put {l : List W5} {x : W5} {b : Int × Int} (h : x.1 ≠ b) : onlyW (putW l x) b = onlyW l b := by
  unfold putW
  split
  · rw [only_place h, only_stop h]
  · rfl
theorem only_start {l : List W5} {a b : Int × Int} (h : a ≠ b) (now : Int) : onlyW (startW l a now) b = onlyW l b := only_put h
theorem only_tick (l : List W5) (b : Int × Int) (now : Int) : onlyW (tickW l now) b = tickW (onlyW l b) now := by
  unfold onlyW tickW
  rw [List.filter_map]
  congr 1
  congr 1
  funext x
  simp [tick_key]
theorem only_told (l : List W5) (b : Int × Int) (now : Int) : (toldW l now).filter (fun k => decide (k = b)) = toldW (onlyW l b) now := by
  unfold onlyW toldW
  rw [List.filter_map, List.filter_filter, List.filter_filter]
  congr 1
  congr 1
  funext x
  simp [Bool.and_comm]
theorem told_len (l : List W5) (now : Int) : (toldW l now).length ≤ l.length := by unfold toldW; rw [List.length_map]; exact List.length_filter_le _ _
/-- Whether the deed is told, by how many are told of it alone. -/
theorem told_any (l : List W5) (b : Int × Int) (now : Int) (h1 : (onlyW l b).length ≤ 1) : (toldW l now).any (fun k => decide (k = b)) = decide ((toldW (onlyW l b) now).length = 1) := by
  rw [← only_told]
  have hle : ((toldW l now).filter (fun k => decide (k = b))).length ≤ 1 := by rw [only_told]; exact Nat.le_trans (told_len _ _) h1
  generalize (toldW l now) = T at hle ⊢
  cases hany : T.any (fun k => decide (k = b)) with
  | true =>
    obtain ⟨x, hx, e⟩ := List.any_eq_true.1 hany
    have : 0 < (T.filter (fun k => decide (k = b))).length := List.length_pos_of_mem (List.mem_filter.2 ⟨hx, e⟩)
    symm; rw [decide_eq_true_iff]; omega
  | false =>
    rw [List.any_eq_false] at hany
    rw [List.filter_eq_nil_iff.2 (by simpa using hany)]
    rfl

/-- Between two looks: what both hold, and what the one holds. -/
structure Beside (w wr : World) (a b a' b' : Nat) (K : Int × Int) (n : Nat) (l : List W5) : Prop where
  wa : WA wr a b l
  wo : WA wr a' b' (onlyW l K)
  good : Wa.Good l
  len : l.length ≤ n
  one : (onlyW l K).length ≤ 1
  below : Below w.heap.size w wr
  h1 : w.heap.size + 2 ≤ a
  h2 : w.heap.size + 2 ≤ b
  h3 : a < a' ∧ a < b' ∧ b < a' ∧ b < b'
theorem Beside.both {w wr W : World} {a b a' b' n m : Nat} {K : Int × Int} {l l' : List W5} (h : Beside w wr a b a' b' K n l) (hw : WA W a b l') (hg : wr.grownBy W (some b)) (ho : onlyW l' K = onlyW l K) (hl : Wa.Good l') (hm : l'.length ≤ m) : Beside w W a b a' b' K m l' :=
  ⟨hw, by rw [ho]; exact h.wo.kept hg (by have := h.h3; simp; omega) (by have := h.h3; simp; omega), hl, hm, by rw [ho]; exact h.one, h.below.grown hg h.below.size (fun j hj => by cases hj; have := h.h2; omega), h.h1, h.h2, h.h3⟩
theorem Beside.more {w wr : World} {a b a' b' n m : Nat} {K : Int × Int} {l : List W5} (h : Beside w wr a b a' b' K n l) (hm : n ≤ m) : Beside w wr a b a' b' K m l := ⟨h.wa, h.wo, h.good, Nat.le_trans h.len hm, h.one, h.below, h.h1, h.h2, h.h3⟩

set_option maxRecDepth 100000 in
set_option maxHeartbeats 8000000 in
theorem lawWaitsAlone_walk (w : World) (ao ad bo bd : Int) (v : Value) (L : List Int) (h : SlK w w.heap.size 1 IsByte v L) :
    Calls Try.prog 4 #[.agg #[.int .i64 ao, .int .i64 ad], .agg #[.int .i64 bo, .int .i64 bd], v] w fun e w' => e = .returned (.bool true) ∧ Below w.heap.size w w' := by
  obtain ⟨A, c, rfl, hLc, hcm⟩ := h.shape
  have HS := Lib.hid h
  have HCA := Lib.hid (check_any ao ad)
  have HCB := Lib.hid (check_any bo bd)
  have hkb0 := heap_new (w.alloc (.cells #[.int .i64 ao, .int .i64 ad] tKey)) (.cells #[.int .i64 bo, .int .i64 bd] tKey)
  rw [show (w.alloc (.cells #[.int .i64 ao, .int .i64 ad] tKey)).heap.size = w.heap.size + 1 by simp] at hkb0
  have hka0 := heap_keep (heap_new w (.cells #[.int .i64 ao, .int .i64 ad] tKey)) (below_alloc _ (.cells #[.int .i64 bo, .int .i64 bd] tKey))
  have HB0 := Lib.hid ((below_alloc w (.cells #[.int .i64 ao, .int .i64 ad] tKey)).alloc (by simp) (.cells #[.int .i64 bo, .int .i64 bd] tKey))
  have hz0 : ((w.alloc (.cells #[.int .i64 ao, .int .i64 ad] tKey)).alloc (.cells #[.int .i64 bo, .int .i64 bd] tKey)).heap.size = w.heap.size + 2 := by simp
  clear h
  by_cases h60 : 60 < L.length
  · have hg : (60 : Int) < L.length := by omega
    go_enter Try.func4, Try.ntmps4
    go_wp2_with fail
    refine (waited_true _).mono ?_
    rintro e w9 ⟨rfl, hb⟩
    have HB9 := Lib.hid (bch HB0.out hb HB0.out.size)
    clear hb
    go_wp2_with fail
    go_ret
    exact ⟨rfl, HB9.out⟩
  have hg : (L.length : Int) ≤ 60 := by omega
  obtain ⟨ka0, ka1, _, _⟩ := cell2 hka0
  obtain ⟨kb0, kb1, _, _⟩ := cell2 hkb0
  cases hca : chk ao ad with
  | false =>
    rw [hca] at HCA
    go_enter Try.func4, Try.ntmps4
    go_wp2_with fail
    refine (HCA.out _).mono ?_
    rintro e w1 ⟨rfl, hb⟩
    have HB1 := Lib.hid (bch HB0.out hb HB0.out.size)
    clear hb
    go_wp2_with fail
    refine (waited_true _).mono ?_
    rintro e w9 ⟨rfl, hb⟩
    have HB9 := Lib.hid (bch HB1.out hb HB1.out.size)
    clear hb
    go_wp2_with fail
    go_ret
    exact ⟨rfl, HB9.out⟩
  | true =>
    rw [hca] at HCA
    cases hcb : chk bo bd with
    | false =>
      rw [hcb] at HCB
      go_enter Try.func4, Try.ntmps4
      go_wp2_with fail
      generalize (w.alloc (.cells #[.int .i64 ao, .int .i64 ad] tKey)).alloc (.cells #[.int .i64 bo, .int .i64 bd] tKey) = wX at hka0 hkb0 HB0 hz0 ka0 ka1 kb0 kb1 ⊢
      refine (HCA.out _).mono ?_
      rintro e w1 ⟨rfl, hb⟩
      have HB1 := Lib.hid (bch HB0.out hb HB0.out.size)
      have hkb1 := heap_keep hkb0 hb
      clear hb ka0 ka1 kb0 kb1
      obtain ⟨kb0, kb1, _, _⟩ := cell2 hkb1
      go_wp2_with fail
      refine (HCB.out _).mono ?_
      rintro e w2 ⟨rfl, hb⟩
      have HB2 := Lib.hid (bch HB1.out hb HB1.out.size)
      clear hb
      go_wp2_with fail
      refine (waited_true _).mono ?_
      rintro e w9 ⟨rfl, hb⟩
      have HB9 := Lib.hid (bch HB2.out hb HB2.out.size)
      clear hb
      go_wp2_with fail
      go_ret
      exact ⟨rfl, HB9.out⟩
    | true =>
      rw [hcb] at HCB
      by_cases hab : ((ao, ad) : Int × Int) = (bo, bd)
      · injection hab with e1 e2
        subst e1; subst e2
        go_enter Try.func4, Try.ntmps4
        go_wp2_with fail
        generalize (w.alloc (.cells #[.int .i64 ao, .int .i64 ad] tKey)).alloc (.cells #[.int .i64 ao, .int .i64 ad] tKey) = wX at hka0 hkb0 HB0 hz0 ka0 ka1 kb0 kb1 ⊢
        refine (HCA.out _).mono ?_
        rintro e w1 ⟨rfl, hb⟩
        have HB1 := Lib.hid (bch HB0.out hb HB0.out.size)
        have hka1 := heap_keep hka0 hb
        have hkb1 := heap_keep hkb0 hb
        clear hb ka0 ka1 kb0 kb1 hka0 hkb0
        obtain ⟨kb0, kb1, _, _⟩ := cell2 hkb1
        go_wp2_with fail
        refine (HCB.out _).mono ?_
        rintro e w2 ⟨rfl, hb⟩
        have HB2 := Lib.hid (bch HB1.out hb HB1.out.size)
        have hka2 := heap_keep hka1 hb
        have hkb2 := heap_keep hkb1 hb
        clear hb kb0 kb1
        obtain ⟨ka0, ka1, _, _⟩ := cell2 hka2
        obtain ⟨kb0, kb1, _, _⟩ := cell2 hkb2
        go_wp2_with fail
        refine (waited_true _).mono ?_
        rintro e w9 ⟨rfl, hb⟩
        have HB9 := Lib.hid (bch HB2.out hb HB2.out.size)
        clear hb
        go_wp2_with fail
        go_ret
        exact ⟨rfl, HB9.out⟩
      · have hne : (ao == bo) = false ∨ ((ao == bo) = true ∧ (ad == bd) = false) := by
          cases e1 : ao == bo with
          | false => exact .inl rfl
          | true =>
            cases e2 : ad == bd with
            | false => exact .inr ⟨rfl, rfl⟩
            | true => exact absurd (by rw [eq_of_beq e1, eq_of_beq e2]) hab
        rcases hne with hne1 | ⟨hne1, hne2⟩
        · go_enter Try.func4, Try.ntmps4
          go_wp2_with fail
          generalize (w.alloc (.cells #[.int .i64 ao, .int .i64 ad] tKey)).alloc (.cells #[.int .i64 bo, .int .i64 bd] tKey) = wX at hka0 hkb0 HB0 hz0 ka0 ka1 kb0 kb1 ⊢
          refine (HCA.out _).mono ?_
          rintro e w1 ⟨rfl, hb⟩
          have HB1 := Lib.hid (bch HB0.out hb HB0.out.size)
          have hka1 := heap_keep hka0 hb
          have hkb1 := heap_keep hkb0 hb
          clear hb ka0 ka1 kb0 kb1 hka0 hkb0
          obtain ⟨kb0, kb1, _, _⟩ := cell2 hkb1
          go_wp2_with fail
          refine (HCB.out _).mono ?_
          rintro e w2 ⟨rfl, hb⟩
          have HB2 := Lib.hid (bch HB1.out hb HB1.out.size)
          have hka2 := heap_keep hka1 hb
          have hkb2 := heap_keep hkb1 hb
          clear hb kb0 kb1
          obtain ⟨ka0, ka1, _, _⟩ := cell2 hka2
          obtain ⟨kb0, kb1, _, _⟩ := cell2 hkb2
          have hchb : chkB (bo, bd) = true := hcb
          have hab' : ((ao, ad) : Int × Int) ≠ (bo, bd) := hab
          have HRA := Lib.hid (chk_iff.1 hca)
          go_wp2_with fail
          refine (new_wa w2).mono ?_
          rintro e w3 ⟨a, b, rfl, hn, ha, hb, hbl⟩
          have HN := Lib.hid hn
          have HB3 := Lib.hid (bch HB2.out hbl HB2.out.size)
          have hka3 := heap_keep hka2 hbl
          have hkb3 := heap_keep hkb2 hbl
          have hl2 := hn.lt
          have hs2 : w.heap.size + 2 ≤ w2.heap.size := by have := heap_lt hkb2; omega
          clear hn hbl hka2 hkb2 ka0 ka1 kb0 kb1
          go_wp2_with fail
          refine (new_wa w3).mono ?_
          rintro e w4 ⟨a', b', rfl, hn', ha', hb', hbl⟩
          have HN4 := Lib.hid (HN.out.below hbl)
          have HD4 := Lib.hid hn'
          have HB4 := Lib.hid (bch HB3.out hbl HB3.out.size)
          have hka4 := heap_keep hka3 hbl
          have hkb4 := heap_keep hkb3 hbl
          clear hn' hbl hka3 hkb3
          obtain ⟨kb0, kb1, _, _⟩ := cell2 hkb4
          go_wp2_with fail
          refine (start_wa w4 a b [] bo bd 0 HN4.out (by simp)).mono ?_
          rintro e w5 ⟨rfl, hw5, hg5⟩
          have hst : startW [] (bo, bd) 0 = [((bo, bd), 1, 1, false)] := by simp [startW, putW, hchb, stopW, placeW, nearI]
          rw [hst] at hw5
          have HN5 := Lib.hid hw5
          have HD5 := Lib.hid (HD4.out.kept hg5 (by simp; omega) (by simp; omega))
          have HB5 := Lib.hid (HB4.out.grown hg5 HB4.out.size (fun j hj => by cases hj; omega))
          have hka5 := (hg5.block _ (heap_lt hka4) (by simp; omega)).trans hka4
          have hkb5 := (hg5.block _ (heap_lt hkb4) (by simp; omega)).trans hkb4
          clear hw5 hg5 hka4 hkb4 kb0 kb1
          obtain ⟨kb0, kb1, _, _⟩ := cell2 hkb5
          go_wp2_with fail
          refine (start_wa w5 a' b' [] bo bd 0 HD5.out (by simp)).mono ?_
          rintro e w6 ⟨rfl, hw6, hg6⟩
          rw [hst] at hw6
          have hon : onlyW [((bo, bd), 1, 1, false)] (bo, bd) = [((bo, bd), 1, 1, false)] := by simp [onlyW]
          have HB6 := Lib.hid (show Beside w w6 a b a' b' (bo, bd) 1 [((bo, bd), 1, 1, false)] from ⟨HN5.out.kept hg6 (by simp; omega) (by simp; omega), by rw [hon]; exact hw6, good_one hchb (by simp), by simp, by rw [hon]; simp, HB5.out.grown hg6 HB5.out.size (fun j hj => by cases hj; omega), by omega, by omega, by omega⟩)
          have HKA6 := Lib.hid ((hg6.block _ (heap_lt hka5) (by simp; omega)).trans hka5)
          have HKB6 := Lib.hid ((hg6.block _ (heap_lt hkb5) (by simp; omega)).trans hkb5)
          clear hw6 hg6 hka5 hkb5 kb0 kb1 hst hon
          go_wp2_with fail
          go_loopw [9, 10] (fun s9 s10 wr => ∃ (k : Nat) (nw : Int) (l : List W5), s9 = .int .i64 nw ∧ s10 = .int .i64 k ∧ k ≤ L.length ∧ (0 ≤ nw ∧ nw ≤ 8 * k) ∧ Hid (Beside w wr a b a' b' (bo, bd) (k + 1) l) ∧ Hid (wr.heap[w.heap.size]? = some (.cells #[.int .i64 ao, .int .i64 ad] tKey (0, 0))) ∧ Hid (wr.heap[w.heap.size + 1]? = some (.cells #[.int .i64 bo, .int .i64 bd] tKey (0, 0)))) (fun _ i _ => L.length - (intOf i).toNat)
          case atStart => exact ⟨0, 0, _, rfl, rfl, by omega, by omega, HB6, HKA6, HKB6⟩
          case round =>
            obtain ⟨k, nw, l, rfl, rfl, hk, hnw, HB, HKA, HKB⟩ := hrel
            by_cases hkl : k < L.length
            · obtain ⟨x, hx⟩ : ∃ x, L[k]? = some x := ⟨_, List.getElem?_eq_getElem hkl⟩
              obtain ⟨g, off, cs, rfl, hgl, hcl, hcell, hcs⟩ := HS.out.at hx
              obtain ⟨rfl, hx0, hx1⟩ := hcs
              have c0 := (HB.out.below.cell (p := ⟨g, off + k * 1 + 0, none⟩) hgl).trans (hcell 0 _ rfl)
              rw [Nat.add_zero, Nat.mul_one] at c0
              clear hcell hcl hx
              have hlt : (k : Int) < L.length := by omega
              have hk0 : (0 : Int) ≤ k := by omega
              have hnx : 0 ≤ nw + x % 9 ∧ nw + x % 9 ≤ 8 * (k + 1) := by omega
              obtain ⟨ka0, ka1, _, _⟩ := cell2 HKA.out
              by_cases q0 : x / 9 % 4 = 0
              · have r0 := beqT q0
                go_wp2_with fail
                refine (start_wa wr a b l ao ad (nw + x % 9) HB.out.wa (by have := HB.out.len; omega)).mono ?_
                rintro e wC ⟨rfl, hwC, hgC⟩
                have HBC := Lib.hid (HB.out.both hwC hgC (only_start hab' _) (HB.out.good.start _ _) (show _ ≤ k + 2 by have := start_len l (ao, ad) (nw + x % 9); have := HB.out.len; omega))
                have HKAC := Lib.hid ((hgC.block _ (heap_lt HKA.out) (by have := HB.out.h2; simp; omega)).trans HKA.out)
                have HKBC := Lib.hid ((hgC.block _ (heap_lt HKB.out) (by have := HB.out.h2; simp; omega)).trans HKB.out)
                clear hwC hgC
                generalize startW l (ao, ad) (nw + x % 9) = l' at HBC ⊢
                go_wp2_with fail
                refine (tick_wa wC a b l' (nw + x % 9) HBC.out.wa HBC.out.good (by have := HBC.out.len; omega)).mono ?_
                rintro e wD ⟨vD, rfl, hoD, hwD, hgD⟩
                obtain ⟨AD, cD, rfl, hAD⟩ := own_slice hoD
                have HOD := Lib.hid hoD
                have HAD := Lib.hid hAD
                have HWD := Lib.hid hwD
                have HGD := Lib.hid hgD
                have HWO := Lib.hid (HBC.out.wo.kept hgD (by have := HBC.out.h3; simp; omega) (by have := HBC.out.h3; simp; omega))
                have HKAD := Lib.hid ((hgD.block _ (heap_lt HKAC.out) (by have := HBC.out.h2; simp; omega)).trans HKAC.out)
                have HKBD := Lib.hid ((hgD.block _ (heap_lt HKBC.out) (by have := HBC.out.h2; simp; omega)).trans HKBC.out)
                clear hoD hwD hgD hAD
                go_wp2_with fail
                refine (tick_wa wD a' b' (onlyW l' (bo, bd)) (nw + x % 9) HWO.out (only_good HBC.out.good _) (by have := HBC.out.one; omega)).mono ?_
                rintro e wE ⟨vE, rfl, hoE, hwE, hgE⟩
                obtain ⟨AE, cE, rfl, _⟩ := own_slice hoE
                have HOE := Lib.hid (own_turn HOD.out HWO.out hgE)
                have HBE := Lib.hid (show Beside w wE a b a' b' (bo, bd) (k + 2) (tickW l' (nw + x % 9)) from ⟨HWD.out.kept hgE (by have := HBC.out.h3; simp; omega) (by have := HBC.out.h3; simp; omega), by rw [only_tick]; exact hwE, HBC.out.good.tick _, by rw [tick_len]; exact HBC.out.len, by rw [only_tick, tick_len]; exact HBC.out.one, (HBC.out.below.grown HGD.out HBC.out.below.size (fun j hj => by cases hj; have := HBC.out.h2; omega)).grown hgE (Nat.le_trans HBC.out.below.size HGD.out.size) (fun j hj => by cases hj; have := HBC.out.h2; have := HBC.out.h3; omega), HBC.out.h1, HBC.out.h2, HBC.out.h3⟩)
                have HKAE := Lib.hid ((hgE.block _ (heap_lt HKAD.out) (by have := HBC.out.h2; have := HBC.out.h3; simp; omega)).trans HKAD.out)
                have HKBE := Lib.hid ((hgE.block _ (heap_lt HKBD.out) (by have := HBC.out.h2; have := HBC.out.h3; simp; omega)).trans HKBD.out)
                have HANY := Lib.hid (told_any l' (bo, bd) (nw + x % 9) HBC.out.one)
                have hTl : (toldW l' (nw + x % 9)).length < 10000 := by have := told_len l' (nw + x % 9); have := HBC.out.len; omega
                clear hoE hwE hgE
                generalize toldW l' (nw + x % 9) = TT at HOE HOD HAD HANY hTl ⊢
                generalize (toldW (onlyW l' (bo, bd)) (nw + x % 9)).length = yl at HANY ⊢
                go_wp2_with fail
                go_loopw [13, 14] (fun s13 s14 wq => ∃ j : Nat, s13 = .bool ((TT.take j).any fun q => decide (q = (bo, bd))) ∧ s14 = .int .i64 j ∧ j ≤ TT.length ∧ Hid (wq.heap = wE.heap ∧ Below wE.heap.size wE wq)) (fun _ i _ => TT.length - (intOf i).toNat)
                case atStart => exact ⟨0, by simp, rfl, by omega, rfl, Below.refl _ _⟩
                case round =>
                  obtain ⟨j, rfl, rfl, hj, HQ⟩ := hrel
                  have hkbq := (HQ.out.2.block _ (heap_lt HKBE.out)).trans HKBE.out
                  obtain ⟨kb0, kb1, _, _⟩ := cell2 hkbq
                  by_cases hjl : j < TT.length
                  · obtain ⟨y, hy⟩ : ∃ y, TT[j]? = some y := ⟨_, List.getElem?_eq_getElem hjl⟩
                    obtain ⟨gd, rfl, _, _⟩ := HAD.out (by omega)
                    have d0 := own_cellK encK_len (by omega) (own_keep HOE.out HQ.out.2) hy 0 (by omega)
                    have d1 := own_cellK encK_len (by omega) (own_keep HOE.out HQ.out.2) hy 1 (by omega)
                    have HTK := Lib.hid (show (TT.take (j + 1)).any (fun q => decide (q = (bo, bd))) = ((TT.take j).any (fun q => decide (q = (bo, bd))) || decide (y = (bo, bd))) by rw [List.take_add_one, hy, List.any_append]; simp)
                    have HQ2 := Lib.hid (fun n => (⟨HQ.out.2.os, HQ.out.2.tape, HQ.out.2.output, HQ.out.2.size, HQ.out.2.block⟩ : Below wE.heap.size wE (wr.drewN n)))
                    obtain ⟨qo, qd⟩ := y
                    simp only [encK, List.getElem?_cons_zero, List.getElem?_cons_succ] at d0 d1
                    rw [Nat.add_zero] at d0
                    have hjt : (j : Int) < TT.length := by omega
                    have hj0 : (0 : Int) ≤ j := by omega
                    clear hy
                    cases hB : (TT.take j).any (fun q => decide (q = (bo, bd))) with
                    | true =>
                      go_wp2_with fail
                      go_quiet (fail)
                      go_wp2_with fail
                      go_roundw
                      case rel => exact ⟨j + 1, by rw [HTK.out, hB]; rfl, by go_num, by omega, HQ.out.1, HQ2.out _⟩
                      case measure => simp [intOf]; omega
                    | false =>
                      by_cases hq : ((qo, qd) : Int × Int) = (bo, bd)
                      · injection hq with q1 q2
                        have z1 := beqT q1
                        have z2 := beqT q2
                        have HZ := Lib.hid (show ((qo, qd) : Int × Int) = (bo, bd) by rw [q1, q2])
                        clear q1 q2
                        go_wp2_with fail
                        go_quiet (fail)
                        go_wp2_with fail
                        go_roundw
                        case rel => exact ⟨j + 1, by rw [HTK.out, hB, decide_eq_true HZ.out]; rfl, by go_num, by omega, HQ.out.1, HQ2.out _⟩
                        case measure => simp [intOf]; omega
                      · have HZ := Lib.hid hq
                        have hq' : (qo == bo) = false ∨ ((qo == bo) = true ∧ (qd == bd) = false) := by
                          cases e1 : qo == bo with
                          | false => exact .inl rfl
                          | true =>
                            cases e2 : qd == bd with
                            | false => exact .inr ⟨rfl, rfl⟩
                            | true => exact absurd (by rw [eq_of_beq e1, eq_of_beq e2]) hq
                        clear hq
                        rcases hq' with z1 | ⟨z1, z2⟩
                        · go_wp2_with fail
                          go_quiet (fail)
                          go_wp2_with fail
                          go_roundw
                          case rel => exact ⟨j + 1, by rw [HTK.out, hB, decide_eq_false HZ.out]; rfl, by go_num, by omega, HQ.out.1, HQ2.out _⟩
                          case measure => simp [intOf]; omega
                        · go_wp2_with fail
                          go_quiet (fail)
                          go_wp2_with fail
                          go_roundw
                          case rel => exact ⟨j + 1, by rw [HTK.out, hB, decide_eq_false HZ.out]; rfl, by go_num, by omega, HQ.out.1, HQ2.out _⟩
                          case measure => simp [intOf]; omega
                  · obtain rfl : j = TT.length := by omega
                    rw [List.take_length, HANY.out]
                    have HBW := Lib.hid (show Beside w wr a b a' b' (bo, bd) (k + 2) (tickW l' (nw + x % 9)) from ⟨HBE.out.wa.below HQ.out.2, HBE.out.wo.below HQ.out.2, HBE.out.good, HBE.out.len, HBE.out.one, bch HBE.out.below HQ.out.2 HBE.out.below.size, HBE.out.h1, HBE.out.h2, HBE.out.h3⟩)
                    have HKAW := Lib.hid (heap_keep HKAE.out HQ.out.2)
                    have HKBW := Lib.hid hkbq
                    by_cases hy1 : yl = 1
                    · subst hy1
                      go_wp2_with fail
                      go_roundw
                      case rel => exact ⟨k + 1, nw + x % 9, _, rfl, by go_num, by omega, by omega, HBW, HKAW, HKBW⟩
                      case measure => simp [intOf]; omega
                    · have hy2 : ¬ (yl : Int) = 1 := by omega
                      have hd1 : decide (yl = 1) = false := decide_eq_false hy1
                      have hd2 := beqF hy2
                      go_wp2_with fail
                      go_roundw
                      case rel => exact ⟨k + 1, nw + x % 9, _, rfl, by go_num, by omega, by omega, HBW, HKAW, HKBW⟩
                      case measure => simp [intOf]; omega
              have r0 := beqF q0
              by_cases q1 : x / 9 % 4 = 1
              · have r1 := beqT q1
                go_wp2_with fail
                refine (stop_wa wr a b l ao ad HB.out.wa (by have := HRA.out; omega)).mono ?_
                rintro e wC ⟨rfl, hwC, hgC⟩
                have HBC := Lib.hid (HB.out.both hwC hgC (only_stop hab') (HB.out.good.stop _) (show _ ≤ k + 2 by have := stop_len l (ao, ad); have := HB.out.len; omega))
                have HKAC := Lib.hid ((hgC.block _ (heap_lt HKA.out) (by have := HB.out.h2; simp; omega)).trans HKA.out)
                have HKBC := Lib.hid ((hgC.block _ (heap_lt HKB.out) (by have := HB.out.h2; simp; omega)).trans HKB.out)
                clear hwC hgC
                generalize stopW l (ao, ad) = l' at HBC ⊢
                go_wp2_with fail
                refine (tick_wa wC a b l' (nw + x % 9) HBC.out.wa HBC.out.good (by have := HBC.out.len; omega)).mono ?_
                rintro e wD ⟨vD, rfl, hoD, hwD, hgD⟩
                obtain ⟨AD, cD, rfl, hAD⟩ := own_slice hoD
                have HOD := Lib.hid hoD
                have HAD := Lib.hid hAD
                have HWD := Lib.hid hwD
                have HGD := Lib.hid hgD
                have HWO := Lib.hid (HBC.out.wo.kept hgD (by have := HBC.out.h3; simp; omega) (by have := HBC.out.h3; simp; omega))
                have HKAD := Lib.hid ((hgD.block _ (heap_lt HKAC.out) (by have := HBC.out.h2; simp; omega)).trans HKAC.out)
                have HKBD := Lib.hid ((hgD.block _ (heap_lt HKBC.out) (by have := HBC.out.h2; simp; omega)).trans HKBC.out)
                clear hoD hwD hgD hAD
                go_wp2_with fail
                refine (tick_wa wD a' b' (onlyW l' (bo, bd)) (nw + x % 9) HWO.out (only_good HBC.out.good _) (by have := HBC.out.one; omega)).mono ?_
                rintro e wE ⟨vE, rfl, hoE, hwE, hgE⟩
                obtain ⟨AE, cE, rfl, _⟩ := own_slice hoE
                have HOE := Lib.hid (own_turn HOD.out HWO.out hgE)
                have HBE := Lib.hid (show Beside w wE a b a' b' (bo, bd) (k + 2) (tickW l' (nw + x % 9)) from ⟨HWD.out.kept hgE (by have := HBC.out.h3; simp; omega) (by have := HBC.out.h3; simp; omega), by rw [only_tick]; exact hwE, HBC.out.good.tick _, by rw [tick_len]; exact HBC.out.len, by rw [only_tick, tick_len]; exact HBC.out.one, (HBC.out.below.grown HGD.out HBC.out.below.size (fun j hj => by cases hj; have := HBC.out.h2; omega)).grown hgE (Nat.le_trans HBC.out.below.size HGD.out.size) (fun j hj => by cases hj; have := HBC.out.h2; have := HBC.out.h3; omega), HBC.out.h1, HBC.out.h2, HBC.out.h3⟩)
                have HKAE := Lib.hid ((hgE.block _ (heap_lt HKAD.out) (by have := HBC.out.h2; have := HBC.out.h3; simp; omega)).trans HKAD.out)
                have HKBE := Lib.hid ((hgE.block _ (heap_lt HKBD.out) (by have := HBC.out.h2; have := HBC.out.h3; simp; omega)).trans HKBD.out)
                have HANY := Lib.hid (told_any l' (bo, bd) (nw + x % 9) HBC.out.one)
                have hTl : (toldW l' (nw + x % 9)).length < 10000 := by have := told_len l' (nw + x % 9); have := HBC.out.len; omega
                clear hoE hwE hgE
                generalize toldW l' (nw + x % 9) = TT at HOE HOD HAD HANY hTl ⊢
                generalize (toldW (onlyW l' (bo, bd)) (nw + x % 9)).length = yl at HANY ⊢
                go_wp2_with fail
                go_loopw [13, 14] (fun s13 s14 wq => ∃ j : Nat, s13 = .bool ((TT.take j).any fun q => decide (q = (bo, bd))) ∧ s14 = .int .i64 j ∧ j ≤ TT.length ∧ Hid (wq.heap = wE.heap ∧ Below wE.heap.size wE wq)) (fun _ i _ => TT.length - (intOf i).toNat)
                case atStart => exact ⟨0, by simp, rfl, by omega, rfl, Below.refl _ _⟩
                case round =>
                  obtain ⟨j, rfl, rfl, hj, HQ⟩ := hrel
                  have hkbq := (HQ.out.2.block _ (heap_lt HKBE.out)).trans HKBE.out
                  obtain ⟨kb0, kb1, _, _⟩ := cell2 hkbq
                  by_cases hjl : j < TT.length
                  · obtain ⟨y, hy⟩ : ∃ y, TT[j]? = some y := ⟨_, List.getElem?_eq_getElem hjl⟩
                    obtain ⟨gd, rfl, _, _⟩ := HAD.out (by omega)
                    have d0 := own_cellK encK_len (by omega) (own_keep HOE.out HQ.out.2) hy 0 (by omega)
                    have d1 := own_cellK encK_len (by omega) (own_keep HOE.out HQ.out.2) hy 1 (by omega)
                    have HTK := Lib.hid (show (TT.take (j + 1)).any (fun q => decide (q = (bo, bd))) = ((TT.take j).any (fun q => decide (q = (bo, bd))) || decide (y = (bo, bd))) by rw [List.take_add_one, hy, List.any_append]; simp)
                    have HQ2 := Lib.hid (fun n => (⟨HQ.out.2.os, HQ.out.2.tape, HQ.out.2.output, HQ.out.2.size, HQ.out.2.block⟩ : Below wE.heap.size wE (wr.drewN n)))
                    obtain ⟨qo, qd⟩ := y
                    simp only [encK, List.getElem?_cons_zero, List.getElem?_cons_succ] at d0 d1
                    rw [Nat.add_zero] at d0
                    have hjt : (j : Int) < TT.length := by omega
                    have hj0 : (0 : Int) ≤ j := by omega
                    clear hy
                    cases hB : (TT.take j).any (fun q => decide (q = (bo, bd))) with
                    | true =>
                      go_wp2_with fail
                      go_quiet (fail)
                      go_wp2_with fail
                      go_roundw
                      case rel => exact ⟨j + 1, by rw [HTK.out, hB]; rfl, by go_num, by omega, HQ.out.1, HQ2.out _⟩
                      case measure => simp [intOf]; omega
                    | false =>
                      by_cases hq : ((qo, qd) : Int × Int) = (bo, bd)
                      · injection hq with q1 q2
                        have z1 := beqT q1
                        have z2 := beqT q2
                        have HZ := Lib.hid (show ((qo, qd) : Int × Int) = (bo, bd) by rw [q1, q2])
                        clear q1 q2
                        go_wp2_with fail
                        go_quiet (fail)
                        go_wp2_with fail
                        go_roundw
                        case rel => exact ⟨j + 1, by rw [HTK.out, hB, decide_eq_true HZ.out]; rfl, by go_num, by omega, HQ.out.1, HQ2.out _⟩
                        case measure => simp [intOf]; omega
                      · have HZ := Lib.hid hq
                        have hq' : (qo == bo) = false ∨ ((qo == bo) = true ∧ (qd == bd) = false) := by
                          cases e1 : qo == bo with
                          | false => exact .inl rfl
                          | true =>
                            cases e2 : qd == bd with
                            | false => exact .inr ⟨rfl, rfl⟩
                            | true => exact absurd (by rw [eq_of_beq e1, eq_of_beq e2]) hq
                        clear hq
                        rcases hq' with z1 | ⟨z1, z2⟩
                        · go_wp2_with fail
                          go_quiet (fail)
                          go_wp2_with fail
                          go_roundw
                          case rel => exact ⟨j + 1, by rw [HTK.out, hB, decide_eq_false HZ.out]; rfl, by go_num, by omega, HQ.out.1, HQ2.out _⟩
                          case measure => simp [intOf]; omega
                        · go_wp2_with fail
                          go_quiet (fail)
                          go_wp2_with fail
                          go_roundw
                          case rel => exact ⟨j + 1, by rw [HTK.out, hB, decide_eq_false HZ.out]; rfl, by go_num, by omega, HQ.out.1, HQ2.out _⟩
                          case measure => simp [intOf]; omega
                  · obtain rfl : j = TT.length := by omega
                    rw [List.take_length, HANY.out]
                    have HBW := Lib.hid (show Beside w wr a b a' b' (bo, bd) (k + 2) (tickW l' (nw + x % 9)) from ⟨HBE.out.wa.below HQ.out.2, HBE.out.wo.below HQ.out.2, HBE.out.good, HBE.out.len, HBE.out.one, bch HBE.out.below HQ.out.2 HBE.out.below.size, HBE.out.h1, HBE.out.h2, HBE.out.h3⟩)
                    have HKAW := Lib.hid (heap_keep HKAE.out HQ.out.2)
                    have HKBW := Lib.hid hkbq
                    by_cases hy1 : yl = 1
                    · subst hy1
                      go_wp2_with fail
                      go_roundw
                      case rel => exact ⟨k + 1, nw + x % 9, _, rfl, by go_num, by omega, by omega, HBW, HKAW, HKBW⟩
                      case measure => simp [intOf]; omega
                    · have hy2 : ¬ (yl : Int) = 1 := by omega
                      have hd1 : decide (yl = 1) = false := decide_eq_false hy1
                      have hd2 := beqF hy2
                      go_wp2_with fail
                      go_roundw
                      case rel => exact ⟨k + 1, nw + x % 9, _, rfl, by go_num, by omega, by omega, HBW, HKAW, HKBW⟩
                      case measure => simp [intOf]; omega
              have r1 := beqF q1
              by_cases q2 : x / 9 % 4 = 2
              · have r2 := beqT q2
                go_wp2_with fail
                refine (again_wa wr a b l ao ad (nw + x % 9) HB.out.wa HB.out.good (by have := HB.out.len; omega) (by have := HRA.out; omega)).mono ?_
                rintro e wC ⟨rfl, hwC, hgC⟩
                have HBC : Hid (Beside w wC a b a' b' (bo, bd) (k + 2) (if hasW l (ao, ad) then startW l (ao, ad) (nw + x % 9) else l)) := by
                  refine HB.out.both hwC hgC ?_ ?_ ?_
                  · split
                    · exact only_start hab' _
                    · rfl
                  · split
                    · exact HB.out.good.start _ _
                    · exact HB.out.good
                  · have := start_len l (ao, ad) (nw + x % 9)
                    have := HB.out.len
                    split <;> omega
                have HKAC := Lib.hid ((hgC.block _ (heap_lt HKA.out) (by have := HB.out.h2; simp; omega)).trans HKA.out)
                have HKBC := Lib.hid ((hgC.block _ (heap_lt HKB.out) (by have := HB.out.h2; simp; omega)).trans HKB.out)
                clear hwC hgC
                generalize (if hasW l (ao, ad) then startW l (ao, ad) (nw + x % 9) else l) = l' at HBC ⊢
                go_wp2_with fail
                refine (tick_wa wC a b l' (nw + x % 9) HBC.out.wa HBC.out.good (by have := HBC.out.len; omega)).mono ?_
                rintro e wD ⟨vD, rfl, hoD, hwD, hgD⟩
                obtain ⟨AD, cD, rfl, hAD⟩ := own_slice hoD
                have HOD := Lib.hid hoD
                have HAD := Lib.hid hAD
                have HWD := Lib.hid hwD
                have HGD := Lib.hid hgD
                have HWO := Lib.hid (HBC.out.wo.kept hgD (by have := HBC.out.h3; simp; omega) (by have := HBC.out.h3; simp; omega))
                have HKAD := Lib.hid ((hgD.block _ (heap_lt HKAC.out) (by have := HBC.out.h2; simp; omega)).trans HKAC.out)
                have HKBD := Lib.hid ((hgD.block _ (heap_lt HKBC.out) (by have := HBC.out.h2; simp; omega)).trans HKBC.out)
                clear hoD hwD hgD hAD
                go_wp2_with fail
                refine (tick_wa wD a' b' (onlyW l' (bo, bd)) (nw + x % 9) HWO.out (only_good HBC.out.good _) (by have := HBC.out.one; omega)).mono ?_
                rintro e wE ⟨vE, rfl, hoE, hwE, hgE⟩
                obtain ⟨AE, cE, rfl, _⟩ := own_slice hoE
                have HOE := Lib.hid (own_turn HOD.out HWO.out hgE)
                have HBE := Lib.hid (show Beside w wE a b a' b' (bo, bd) (k + 2) (tickW l' (nw + x % 9)) from ⟨HWD.out.kept hgE (by have := HBC.out.h3; simp; omega) (by have := HBC.out.h3; simp; omega), by rw [only_tick]; exact hwE, HBC.out.good.tick _, by rw [tick_len]; exact HBC.out.len, by rw [only_tick, tick_len]; exact HBC.out.one, (HBC.out.below.grown HGD.out HBC.out.below.size (fun j hj => by cases hj; have := HBC.out.h2; omega)).grown hgE (Nat.le_trans HBC.out.below.size HGD.out.size) (fun j hj => by cases hj; have := HBC.out.h2; have := HBC.out.h3; omega), HBC.out.h1, HBC.out.h2, HBC.out.h3⟩)
                have HKAE := Lib.hid ((hgE.block _ (heap_lt HKAD.out) (by have := HBC.out.h2; have := HBC.out.h3; simp; omega)).trans HKAD.out)
                have HKBE := Lib.hid ((hgE.block _ (heap_lt HKBD.out) (by have := HBC.out.h2; have := HBC.out.h3; simp; omega)).trans HKBD.out)
                have HANY := Lib.hid (told_any l' (bo, bd) (nw + x % 9) HBC.out.one)
                have hTl : (toldW l' (nw + x % 9)).length < 10000 := by have := told_len l' (nw + x % 9); have := HBC.out.len; omega
                clear hoE hwE hgE
                generalize toldW l' (nw + x % 9) = TT at HOE HOD HAD HANY hTl ⊢
                generalize (toldW (onlyW l' (bo, bd)) (nw + x % 9)).length = yl at HANY ⊢
                go_wp2_with fail
                go_loopw [13, 14] (fun s13 s14 wq => ∃ j : Nat, s13 = .bool ((TT.take j).any fun q => decide (q = (bo, bd))) ∧ s14 = .int .i64 j ∧ j ≤ TT.length ∧ Hid (wq.heap = wE.heap ∧ Below wE.heap.size wE wq)) (fun _ i _ => TT.length - (intOf i).toNat)
                case atStart => exact ⟨0, by simp, rfl, by omega, rfl, Below.refl _ _⟩
                case round =>
                  obtain ⟨j, rfl, rfl, hj, HQ⟩ := hrel
                  have hkbq := (HQ.out.2.block _ (heap_lt HKBE.out)).trans HKBE.out
                  obtain ⟨kb0, kb1, _, _⟩ := cell2 hkbq
                  by_cases hjl : j < TT.length
                  · obtain ⟨y, hy⟩ : ∃ y, TT[j]? = some y := ⟨_, List.getElem?_eq_getElem hjl⟩
                    obtain ⟨gd, rfl, _, _⟩ := HAD.out (by omega)
                    have d0 := own_cellK encK_len (by omega) (own_keep HOE.out HQ.out.2) hy 0 (by omega)
                    have d1 := own_cellK encK_len (by omega) (own_keep HOE.out HQ.out.2) hy 1 (by omega)
                    have HTK := Lib.hid (show (TT.take (j + 1)).any (fun q => decide (q = (bo, bd))) = ((TT.take j).any (fun q => decide (q = (bo, bd))) || decide (y = (bo, bd))) by rw [List.take_add_one, hy, List.any_append]; simp)
                    have HQ2 := Lib.hid (fun n => (⟨HQ.out.2.os, HQ.out.2.tape, HQ.out.2.output, HQ.out.2.size, HQ.out.2.block⟩ : Below wE.heap.size wE (wr.drewN n)))
                    obtain ⟨qo, qd⟩ := y
                    simp only [encK, List.getElem?_cons_zero, List.getElem?_cons_succ] at d0 d1
                    rw [Nat.add_zero] at d0
                    have hjt : (j : Int) < TT.length := by omega
                    have hj0 : (0 : Int) ≤ j := by omega
                    clear hy
                    cases hB : (TT.take j).any (fun q => decide (q = (bo, bd))) with
                    | true =>
                      go_wp2_with fail
                      go_quiet (fail)
                      go_wp2_with fail
                      go_roundw
                      case rel => exact ⟨j + 1, by rw [HTK.out, hB]; rfl, by go_num, by omega, HQ.out.1, HQ2.out _⟩
                      case measure => simp [intOf]; omega
                    | false =>
                      by_cases hq : ((qo, qd) : Int × Int) = (bo, bd)
                      · injection hq with q1 q2
                        have z1 := beqT q1
                        have z2 := beqT q2
                        have HZ := Lib.hid (show ((qo, qd) : Int × Int) = (bo, bd) by rw [q1, q2])
                        clear q1 q2
                        go_wp2_with fail
                        go_quiet (fail)
                        go_wp2_with fail
                        go_roundw
                        case rel => exact ⟨j + 1, by rw [HTK.out, hB, decide_eq_true HZ.out]; rfl, by go_num, by omega, HQ.out.1, HQ2.out _⟩
                        case measure => simp [intOf]; omega
                      · have HZ := Lib.hid hq
                        have hq' : (qo == bo) = false ∨ ((qo == bo) = true ∧ (qd == bd) = false) := by
                          cases e1 : qo == bo with
                          | false => exact .inl rfl
                          | true =>
                            cases e2 : qd == bd with
                            | false => exact .inr ⟨rfl, rfl⟩
                            | true => exact absurd (by rw [eq_of_beq e1, eq_of_beq e2]) hq
                        clear hq
                        rcases hq' with z1 | ⟨z1, z2⟩
                        · go_wp2_with fail
                          go_quiet (fail)
                          go_wp2_with fail
                          go_roundw
                          case rel => exact ⟨j + 1, by rw [HTK.out, hB, decide_eq_false HZ.out]; rfl, by go_num, by omega, HQ.out.1, HQ2.out _⟩
                          case measure => simp [intOf]; omega
                        · go_wp2_with fail
                          go_quiet (fail)
                          go_wp2_with fail
                          go_roundw
                          case rel => exact ⟨j + 1, by rw [HTK.out, hB, decide_eq_false HZ.out]; rfl, by go_num, by omega, HQ.out.1, HQ2.out _⟩
                          case measure => simp [intOf]; omega
                  · obtain rfl : j = TT.length := by omega
                    rw [List.take_length, HANY.out]
                    have HBW := Lib.hid (show Beside w wr a b a' b' (bo, bd) (k + 2) (tickW l' (nw + x % 9)) from ⟨HBE.out.wa.below HQ.out.2, HBE.out.wo.below HQ.out.2, HBE.out.good, HBE.out.len, HBE.out.one, bch HBE.out.below HQ.out.2 HBE.out.below.size, HBE.out.h1, HBE.out.h2, HBE.out.h3⟩)
                    have HKAW := Lib.hid (heap_keep HKAE.out HQ.out.2)
                    have HKBW := Lib.hid hkbq
                    by_cases hy1 : yl = 1
                    · subst hy1
                      go_wp2_with fail
                      go_roundw
                      case rel => exact ⟨k + 1, nw + x % 9, _, rfl, by go_num, by omega, by omega, HBW, HKAW, HKBW⟩
                      case measure => simp [intOf]; omega
                    · have hy2 : ¬ (yl : Int) = 1 := by omega
                      have hd1 : decide (yl = 1) = false := decide_eq_false hy1
                      have hd2 := beqF hy2
                      go_wp2_with fail
                      go_roundw
                      case rel => exact ⟨k + 1, nw + x % 9, _, rfl, by go_num, by omega, by omega, HBW, HKAW, HKBW⟩
                      case measure => simp [intOf]; omega
              have r2 := beqF q2
              have HBC := Lib.hid (HB.out.more (show k + 1 ≤ k + 2 by omega))
              have HKAC := HKA
              have HKBC := HKB
              go_wp2_with fail
              refine (tick_wa wr a b l (nw + x % 9) HBC.out.wa HBC.out.good (by have := HBC.out.len; omega)).mono ?_
              rintro e wD ⟨vD, rfl, hoD, hwD, hgD⟩
              obtain ⟨AD, cD, rfl, hAD⟩ := own_slice hoD
              have HOD := Lib.hid hoD
              have HAD := Lib.hid hAD
              have HWD := Lib.hid hwD
              have HGD := Lib.hid hgD
              have HWO := Lib.hid (HBC.out.wo.kept hgD (by have := HBC.out.h3; simp; omega) (by have := HBC.out.h3; simp; omega))
              have HKAD := Lib.hid ((hgD.block _ (heap_lt HKAC.out) (by have := HBC.out.h2; simp; omega)).trans HKAC.out)
              have HKBD := Lib.hid ((hgD.block _ (heap_lt HKBC.out) (by have := HBC.out.h2; simp; omega)).trans HKBC.out)
              clear hoD hwD hgD hAD
              go_wp2_with fail
              refine (tick_wa wD a' b' (onlyW l (bo, bd)) (nw + x % 9) HWO.out (only_good HBC.out.good _) (by have := HBC.out.one; omega)).mono ?_
              rintro e wE ⟨vE, rfl, hoE, hwE, hgE⟩
              obtain ⟨AE, cE, rfl, _⟩ := own_slice hoE
              have HOE := Lib.hid (own_turn HOD.out HWO.out hgE)
              have HBE := Lib.hid (show Beside w wE a b a' b' (bo, bd) (k + 2) (tickW l (nw + x % 9)) from ⟨HWD.out.kept hgE (by have := HBC.out.h3; simp; omega) (by have := HBC.out.h3; simp; omega), by rw [only_tick]; exact hwE, HBC.out.good.tick _, by rw [tick_len]; exact HBC.out.len, by rw [only_tick, tick_len]; exact HBC.out.one, (HBC.out.below.grown HGD.out HBC.out.below.size (fun j hj => by cases hj; have := HBC.out.h2; omega)).grown hgE (Nat.le_trans HBC.out.below.size HGD.out.size) (fun j hj => by cases hj; have := HBC.out.h2; have := HBC.out.h3; omega), HBC.out.h1, HBC.out.h2, HBC.out.h3⟩)
              have HKAE := Lib.hid ((hgE.block _ (heap_lt HKAD.out) (by have := HBC.out.h2; have := HBC.out.h3; simp; omega)).trans HKAD.out)
              have HKBE := Lib.hid ((hgE.block _ (heap_lt HKBD.out) (by have := HBC.out.h2; have := HBC.out.h3; simp; omega)).trans HKBD.out)
              have HANY := Lib.hid (told_any l (bo, bd) (nw + x % 9) HBC.out.one)
              have hTl : (toldW l (nw + x % 9)).length < 10000 := by have := told_len l (nw + x % 9); have := HBC.out.len; omega
              clear hoE hwE hgE
              generalize toldW l (nw + x % 9) = TT at HOE HOD HAD HANY hTl ⊢
              generalize (toldW (onlyW l (bo, bd)) (nw + x % 9)).length = yl at HANY ⊢
              go_wp2_with fail
              go_loopw [13, 14] (fun s13 s14 wq => ∃ j : Nat, s13 = .bool ((TT.take j).any fun q => decide (q = (bo, bd))) ∧ s14 = .int .i64 j ∧ j ≤ TT.length ∧ Hid (wq.heap = wE.heap ∧ Below wE.heap.size wE wq)) (fun _ i _ => TT.length - (intOf i).toNat)
              case atStart => exact ⟨0, by simp, rfl, by omega, rfl, Below.refl _ _⟩
              case round =>
                obtain ⟨j, rfl, rfl, hj, HQ⟩ := hrel
                have hkbq := (HQ.out.2.block _ (heap_lt HKBE.out)).trans HKBE.out
                obtain ⟨kb0, kb1, _, _⟩ := cell2 hkbq
                by_cases hjl : j < TT.length
                · obtain ⟨y, hy⟩ : ∃ y, TT[j]? = some y := ⟨_, List.getElem?_eq_getElem hjl⟩
                  obtain ⟨gd, rfl, _, _⟩ := HAD.out (by omega)
                  have d0 := own_cellK encK_len (by omega) (own_keep HOE.out HQ.out.2) hy 0 (by omega)
                  have d1 := own_cellK encK_len (by omega) (own_keep HOE.out HQ.out.2) hy 1 (by omega)
                  have HTK := Lib.hid (show (TT.take (j + 1)).any (fun q => decide (q = (bo, bd))) = ((TT.take j).any (fun q => decide (q = (bo, bd))) || decide (y = (bo, bd))) by rw [List.take_add_one, hy, List.any_append]; simp)
                  have HQ2 := Lib.hid (fun n => (⟨HQ.out.2.os, HQ.out.2.tape, HQ.out.2.output, HQ.out.2.size, HQ.out.2.block⟩ : Below wE.heap.size wE (wr.drewN n)))
                  obtain ⟨qo, qd⟩ := y
                  simp only [encK, List.getElem?_cons_zero, List.getElem?_cons_succ] at d0 d1
                  rw [Nat.add_zero] at d0
                  have hjt : (j : Int) < TT.length := by omega
                  have hj0 : (0 : Int) ≤ j := by omega
                  clear hy
                  cases hB : (TT.take j).any (fun q => decide (q = (bo, bd))) with
                  | true =>
                    go_wp2_with fail
                    go_quiet (fail)
                    go_wp2_with fail
                    go_roundw
                    case rel => exact ⟨j + 1, by rw [HTK.out, hB]; rfl, by go_num, by omega, HQ.out.1, HQ2.out _⟩
                    case measure => simp [intOf]; omega
                  | false =>
                    by_cases hq : ((qo, qd) : Int × Int) = (bo, bd)
                    · injection hq with q1 q2
                      have z1 := beqT q1
                      have z2 := beqT q2
                      have HZ := Lib.hid (show ((qo, qd) : Int × Int) = (bo, bd) by rw [q1, q2])
                      clear q1 q2
                      go_wp2_with fail
                      go_quiet (fail)
                      go_wp2_with fail
                      go_roundw
                      case rel => exact ⟨j + 1, by rw [HTK.out, hB, decide_eq_true HZ.out]; rfl, by go_num, by omega, HQ.out.1, HQ2.out _⟩
                      case measure => simp [intOf]; omega
                    · have HZ := Lib.hid hq
                      have hq' : (qo == bo) = false ∨ ((qo == bo) = true ∧ (qd == bd) = false) := by
                        cases e1 : qo == bo with
                        | false => exact .inl rfl
                        | true =>
                          cases e2 : qd == bd with
                          | false => exact .inr ⟨rfl, rfl⟩
                          | true => exact absurd (by rw [eq_of_beq e1, eq_of_beq e2]) hq
                      clear hq
                      rcases hq' with z1 | ⟨z1, z2⟩
                      · go_wp2_with fail
                        go_quiet (fail)
                        go_wp2_with fail
                        go_roundw
                        case rel => exact ⟨j + 1, by rw [HTK.out, hB, decide_eq_false HZ.out]; rfl, by go_num, by omega, HQ.out.1, HQ2.out _⟩
                        case measure => simp [intOf]; omega
                      · go_wp2_with fail
                        go_quiet (fail)
                        go_wp2_with fail
                        go_roundw
                        case rel => exact ⟨j + 1, by rw [HTK.out, hB, decide_eq_false HZ.out]; rfl, by go_num, by omega, HQ.out.1, HQ2.out _⟩
                        case measure => simp [intOf]; omega
                · obtain rfl : j = TT.length := by omega
                  rw [List.take_length, HANY.out]
                  have HBW := Lib.hid (show Beside w wr a b a' b' (bo, bd) (k + 2) (tickW l (nw + x % 9)) from ⟨HBE.out.wa.below HQ.out.2, HBE.out.wo.below HQ.out.2, HBE.out.good, HBE.out.len, HBE.out.one, bch HBE.out.below HQ.out.2 HBE.out.below.size, HBE.out.h1, HBE.out.h2, HBE.out.h3⟩)
                  have HKAW := Lib.hid (heap_keep HKAE.out HQ.out.2)
                  have HKBW := Lib.hid hkbq
                  by_cases hy1 : yl = 1
                  · subst hy1
                    go_wp2_with fail
                    go_roundw
                    case rel => exact ⟨k + 1, nw + x % 9, _, rfl, by go_num, by omega, by omega, HBW, HKAW, HKBW⟩
                    case measure => simp [intOf]; omega
                  · have hy2 : ¬ (yl : Int) = 1 := by omega
                    have hd1 : decide (yl = 1) = false := decide_eq_false hy1
                    have hd2 := beqF hy2
                    go_wp2_with fail
                    go_roundw
                    case rel => exact ⟨k + 1, nw + x % 9, _, rfl, by go_num, by omega, by omega, HBW, HKAW, HKBW⟩
                    case measure => simp [intOf]; omega
            · obtain rfl : k = L.length := by omega
              go_wp2_with fail
              refine (waited_true wr).mono ?_
              rintro e wZ ⟨rfl, hbZ⟩
              have HBZ := Lib.hid (bch HB.out.below hbZ HB.out.below.size)
              clear hbZ
              go_wp2_with fail
              go_ret
              exact ⟨rfl, HBZ.out⟩
        · go_enter Try.func4, Try.ntmps4
          go_wp2_with fail
          generalize (w.alloc (.cells #[.int .i64 ao, .int .i64 ad] tKey)).alloc (.cells #[.int .i64 bo, .int .i64 bd] tKey) = wX at hka0 hkb0 HB0 hz0 ka0 ka1 kb0 kb1 ⊢
          refine (HCA.out _).mono ?_
          rintro e w1 ⟨rfl, hb⟩
          have HB1 := Lib.hid (bch HB0.out hb HB0.out.size)
          have hka1 := heap_keep hka0 hb
          have hkb1 := heap_keep hkb0 hb
          clear hb ka0 ka1 kb0 kb1 hka0 hkb0
          obtain ⟨kb0, kb1, _, _⟩ := cell2 hkb1
          go_wp2_with fail
          refine (HCB.out _).mono ?_
          rintro e w2 ⟨rfl, hb⟩
          have HB2 := Lib.hid (bch HB1.out hb HB1.out.size)
          have hka2 := heap_keep hka1 hb
          have hkb2 := heap_keep hkb1 hb
          clear hb kb0 kb1
          obtain ⟨ka0, ka1, _, _⟩ := cell2 hka2
          obtain ⟨kb0, kb1, _, _⟩ := cell2 hkb2
          have hchb : chkB (bo, bd) = true := hcb
          have hab' : ((ao, ad) : Int × Int) ≠ (bo, bd) := hab
          have HRA := Lib.hid (chk_iff.1 hca)
          go_wp2_with fail
          refine (new_wa w2).mono ?_
          rintro e w3 ⟨a, b, rfl, hn, ha, hb, hbl⟩
          have HN := Lib.hid hn
          have HB3 := Lib.hid (bch HB2.out hbl HB2.out.size)
          have hka3 := heap_keep hka2 hbl
          have hkb3 := heap_keep hkb2 hbl
          have hl2 := hn.lt
          have hs2 : w.heap.size + 2 ≤ w2.heap.size := by have := heap_lt hkb2; omega
          clear hn hbl hka2 hkb2 ka0 ka1 kb0 kb1
          go_wp2_with fail
          refine (new_wa w3).mono ?_
          rintro e w4 ⟨a', b', rfl, hn', ha', hb', hbl⟩
          have HN4 := Lib.hid (HN.out.below hbl)
          have HD4 := Lib.hid hn'
          have HB4 := Lib.hid (bch HB3.out hbl HB3.out.size)
          have hka4 := heap_keep hka3 hbl
          have hkb4 := heap_keep hkb3 hbl
          clear hn' hbl hka3 hkb3
          obtain ⟨kb0, kb1, _, _⟩ := cell2 hkb4
          go_wp2_with fail
          refine (start_wa w4 a b [] bo bd 0 HN4.out (by simp)).mono ?_
          rintro e w5 ⟨rfl, hw5, hg5⟩
          have hst : startW [] (bo, bd) 0 = [((bo, bd), 1, 1, false)] := by simp [startW, putW, hchb, stopW, placeW, nearI]
          rw [hst] at hw5
          have HN5 := Lib.hid hw5
          have HD5 := Lib.hid (HD4.out.kept hg5 (by simp; omega) (by simp; omega))
          have HB5 := Lib.hid (HB4.out.grown hg5 HB4.out.size (fun j hj => by cases hj; omega))
          have hka5 := (hg5.block _ (heap_lt hka4) (by simp; omega)).trans hka4
          have hkb5 := (hg5.block _ (heap_lt hkb4) (by simp; omega)).trans hkb4
          clear hw5 hg5 hka4 hkb4 kb0 kb1
          obtain ⟨kb0, kb1, _, _⟩ := cell2 hkb5
          go_wp2_with fail
          refine (start_wa w5 a' b' [] bo bd 0 HD5.out (by simp)).mono ?_
          rintro e w6 ⟨rfl, hw6, hg6⟩
          rw [hst] at hw6
          have hon : onlyW [((bo, bd), 1, 1, false)] (bo, bd) = [((bo, bd), 1, 1, false)] := by simp [onlyW]
          have HB6 := Lib.hid (show Beside w w6 a b a' b' (bo, bd) 1 [((bo, bd), 1, 1, false)] from ⟨HN5.out.kept hg6 (by simp; omega) (by simp; omega), by rw [hon]; exact hw6, good_one hchb (by simp), by simp, by rw [hon]; simp, HB5.out.grown hg6 HB5.out.size (fun j hj => by cases hj; omega), by omega, by omega, by omega⟩)
          have HKA6 := Lib.hid ((hg6.block _ (heap_lt hka5) (by simp; omega)).trans hka5)
          have HKB6 := Lib.hid ((hg6.block _ (heap_lt hkb5) (by simp; omega)).trans hkb5)
          clear hw6 hg6 hka5 hkb5 kb0 kb1 hst hon
          go_wp2_with fail
          go_loopw [9, 10] (fun s9 s10 wr => ∃ (k : Nat) (nw : Int) (l : List W5), s9 = .int .i64 nw ∧ s10 = .int .i64 k ∧ k ≤ L.length ∧ (0 ≤ nw ∧ nw ≤ 8 * k) ∧ Hid (Beside w wr a b a' b' (bo, bd) (k + 1) l) ∧ Hid (wr.heap[w.heap.size]? = some (.cells #[.int .i64 ao, .int .i64 ad] tKey (0, 0))) ∧ Hid (wr.heap[w.heap.size + 1]? = some (.cells #[.int .i64 bo, .int .i64 bd] tKey (0, 0)))) (fun _ i _ => L.length - (intOf i).toNat)
          case atStart => exact ⟨0, 0, _, rfl, rfl, by omega, by omega, HB6, HKA6, HKB6⟩
          case round =>
            obtain ⟨k, nw, l, rfl, rfl, hk, hnw, HB, HKA, HKB⟩ := hrel
            by_cases hkl : k < L.length
            · obtain ⟨x, hx⟩ : ∃ x, L[k]? = some x := ⟨_, List.getElem?_eq_getElem hkl⟩
              obtain ⟨g, off, cs, rfl, hgl, hcl, hcell, hcs⟩ := HS.out.at hx
              obtain ⟨rfl, hx0, hx1⟩ := hcs
              have c0 := (HB.out.below.cell (p := ⟨g, off + k * 1 + 0, none⟩) hgl).trans (hcell 0 _ rfl)
              rw [Nat.add_zero, Nat.mul_one] at c0
              clear hcell hcl hx
              have hlt : (k : Int) < L.length := by omega
              have hk0 : (0 : Int) ≤ k := by omega
              have hnx : 0 ≤ nw + x % 9 ∧ nw + x % 9 ≤ 8 * (k + 1) := by omega
              obtain ⟨ka0, ka1, _, _⟩ := cell2 HKA.out
              by_cases q0 : x / 9 % 4 = 0
              · have r0 := beqT q0
                go_wp2_with fail
                refine (start_wa wr a b l ao ad (nw + x % 9) HB.out.wa (by have := HB.out.len; omega)).mono ?_
                rintro e wC ⟨rfl, hwC, hgC⟩
                have HBC := Lib.hid (HB.out.both hwC hgC (only_start hab' _) (HB.out.good.start _ _) (show _ ≤ k + 2 by have := start_len l (ao, ad) (nw + x % 9); have := HB.out.len; omega))
                have HKAC := Lib.hid ((hgC.block _ (heap_lt HKA.out) (by have := HB.out.h2; simp; omega)).trans HKA.out)
                have HKBC := Lib.hid ((hgC.block _ (heap_lt HKB.out) (by have := HB.out.h2; simp; omega)).trans HKB.out)
                clear hwC hgC
                generalize startW l (ao, ad) (nw + x % 9) = l' at HBC ⊢
                go_wp2_with fail
                refine (tick_wa wC a b l' (nw + x % 9) HBC.out.wa HBC.out.good (by have := HBC.out.len; omega)).mono ?_
                rintro e wD ⟨vD, rfl, hoD, hwD, hgD⟩
                obtain ⟨AD, cD, rfl, hAD⟩ := own_slice hoD
                have HOD := Lib.hid hoD
                have HAD := Lib.hid hAD
                have HWD := Lib.hid hwD
                have HGD := Lib.hid hgD
                have HWO := Lib.hid (HBC.out.wo.kept hgD (by have := HBC.out.h3; simp; omega) (by have := HBC.out.h3; simp; omega))
                have HKAD := Lib.hid ((hgD.block _ (heap_lt HKAC.out) (by have := HBC.out.h2; simp; omega)).trans HKAC.out)
                have HKBD := Lib.hid ((hgD.block _ (heap_lt HKBC.out) (by have := HBC.out.h2; simp; omega)).trans HKBC.out)
                clear hoD hwD hgD hAD
                go_wp2_with fail
                refine (tick_wa wD a' b' (onlyW l' (bo, bd)) (nw + x % 9) HWO.out (only_good HBC.out.good _) (by have := HBC.out.one; omega)).mono ?_
                rintro e wE ⟨vE, rfl, hoE, hwE, hgE⟩
                obtain ⟨AE, cE, rfl, _⟩ := own_slice hoE
                have HOE := Lib.hid (own_turn HOD.out HWO.out hgE)
                have HBE := Lib.hid (show Beside w wE a b a' b' (bo, bd) (k + 2) (tickW l' (nw + x % 9)) from ⟨HWD.out.kept hgE (by have := HBC.out.h3; simp; omega) (by have := HBC.out.h3; simp; omega), by rw [only_tick]; exact hwE, HBC.out.good.tick _, by rw [tick_len]; exact HBC.out.len, by rw [only_tick, tick_len]; exact HBC.out.one, (HBC.out.below.grown HGD.out HBC.out.below.size (fun j hj => by cases hj; have := HBC.out.h2; omega)).grown hgE (Nat.le_trans HBC.out.below.size HGD.out.size) (fun j hj => by cases hj; have := HBC.out.h2; have := HBC.out.h3; omega), HBC.out.h1, HBC.out.h2, HBC.out.h3⟩)
                have HKAE := Lib.hid ((hgE.block _ (heap_lt HKAD.out) (by have := HBC.out.h2; have := HBC.out.h3; simp; omega)).trans HKAD.out)
                have HKBE := Lib.hid ((hgE.block _ (heap_lt HKBD.out) (by have := HBC.out.h2; have := HBC.out.h3; simp; omega)).trans HKBD.out)
                have HANY := Lib.hid (told_any l' (bo, bd) (nw + x % 9) HBC.out.one)
                have hTl : (toldW l' (nw + x % 9)).length < 10000 := by have := told_len l' (nw + x % 9); have := HBC.out.len; omega
                clear hoE hwE hgE
                generalize toldW l' (nw + x % 9) = TT at HOE HOD HAD HANY hTl ⊢
                generalize (toldW (onlyW l' (bo, bd)) (nw + x % 9)).length = yl at HANY ⊢
                go_wp2_with fail
                go_loopw [13, 14] (fun s13 s14 wq => ∃ j : Nat, s13 = .bool ((TT.take j).any fun q => decide (q = (bo, bd))) ∧ s14 = .int .i64 j ∧ j ≤ TT.length ∧ Hid (wq.heap = wE.heap ∧ Below wE.heap.size wE wq)) (fun _ i _ => TT.length - (intOf i).toNat)
                case atStart => exact ⟨0, by simp, rfl, by omega, rfl, Below.refl _ _⟩
                case round =>
                  obtain ⟨j, rfl, rfl, hj, HQ⟩ := hrel
                  have hkbq := (HQ.out.2.block _ (heap_lt HKBE.out)).trans HKBE.out
                  obtain ⟨kb0, kb1, _, _⟩ := cell2 hkbq
                  by_cases hjl : j < TT.length
                  · obtain ⟨y, hy⟩ : ∃ y, TT[j]? = some y := ⟨_, List.getElem?_eq_getElem hjl⟩
                    obtain ⟨gd, rfl, _, _⟩ := HAD.out (by omega)
                    have d0 := own_cellK encK_len (by omega) (own_keep HOE.out HQ.out.2) hy 0 (by omega)
                    have d1 := own_cellK encK_len (by omega) (own_keep HOE.out HQ.out.2) hy 1 (by omega)
                    have HTK := Lib.hid (show (TT.take (j + 1)).any (fun q => decide (q = (bo, bd))) = ((TT.take j).any (fun q => decide (q = (bo, bd))) || decide (y = (bo, bd))) by rw [List.take_add_one, hy, List.any_append]; simp)
                    have HQ2 := Lib.hid (fun n => (⟨HQ.out.2.os, HQ.out.2.tape, HQ.out.2.output, HQ.out.2.size, HQ.out.2.block⟩ : Below wE.heap.size wE (wr.drewN n)))
                    obtain ⟨qo, qd⟩ := y
                    simp only [encK, List.getElem?_cons_zero, List.getElem?_cons_succ] at d0 d1
                    rw [Nat.add_zero] at d0
                    have hjt : (j : Int) < TT.length := by omega
                    have hj0 : (0 : Int) ≤ j := by omega
                    clear hy
                    cases hB : (TT.take j).any (fun q => decide (q = (bo, bd))) with
                    | true =>
                      go_wp2_with fail
                      go_quiet (fail)
                      go_wp2_with fail
                      go_roundw
                      case rel => exact ⟨j + 1, by rw [HTK.out, hB]; rfl, by go_num, by omega, HQ.out.1, HQ2.out _⟩
                      case measure => simp [intOf]; omega
                    | false =>
                      by_cases hq : ((qo, qd) : Int × Int) = (bo, bd)
                      · injection hq with q1 q2
                        have z1 := beqT q1
                        have z2 := beqT q2
                        have HZ := Lib.hid (show ((qo, qd) : Int × Int) = (bo, bd) by rw [q1, q2])
                        clear q1 q2
                        go_wp2_with fail
                        go_quiet (fail)
                        go_wp2_with fail
                        go_roundw
                        case rel => exact ⟨j + 1, by rw [HTK.out, hB, decide_eq_true HZ.out]; rfl, by go_num, by omega, HQ.out.1, HQ2.out _⟩
                        case measure => simp [intOf]; omega
                      · have HZ := Lib.hid hq
                        have hq' : (qo == bo) = false ∨ ((qo == bo) = true ∧ (qd == bd) = false) := by
                          cases e1 : qo == bo with
                          | false => exact .inl rfl
                          | true =>
                            cases e2 : qd == bd with
                            | false => exact .inr ⟨rfl, rfl⟩
                            | true => exact absurd (by rw [eq_of_beq e1, eq_of_beq e2]) hq
                        clear hq
                        rcases hq' with z1 | ⟨z1, z2⟩
                        · go_wp2_with fail
                          go_quiet (fail)
                          go_wp2_with fail
                          go_roundw
                          case rel => exact ⟨j + 1, by rw [HTK.out, hB, decide_eq_false HZ.out]; rfl, by go_num, by omega, HQ.out.1, HQ2.out _⟩
                          case measure => simp [intOf]; omega
                        · go_wp2_with fail
                          go_quiet (fail)
                          go_wp2_with fail
                          go_roundw
                          case rel => exact ⟨j + 1, by rw [HTK.out, hB, decide_eq_false HZ.out]; rfl, by go_num, by omega, HQ.out.1, HQ2.out _⟩
                          case measure => simp [intOf]; omega
                  · obtain rfl : j = TT.length := by omega
                    rw [List.take_length, HANY.out]
                    have HBW := Lib.hid (show Beside w wr a b a' b' (bo, bd) (k + 2) (tickW l' (nw + x % 9)) from ⟨HBE.out.wa.below HQ.out.2, HBE.out.wo.below HQ.out.2, HBE.out.good, HBE.out.len, HBE.out.one, bch HBE.out.below HQ.out.2 HBE.out.below.size, HBE.out.h1, HBE.out.h2, HBE.out.h3⟩)
                    have HKAW := Lib.hid (heap_keep HKAE.out HQ.out.2)
                    have HKBW := Lib.hid hkbq
                    by_cases hy1 : yl = 1
                    · subst hy1
                      go_wp2_with fail
                      go_roundw
                      case rel => exact ⟨k + 1, nw + x % 9, _, rfl, by go_num, by omega, by omega, HBW, HKAW, HKBW⟩
                      case measure => simp [intOf]; omega
                    · have hy2 : ¬ (yl : Int) = 1 := by omega
                      have hd1 : decide (yl = 1) = false := decide_eq_false hy1
                      have hd2 := beqF hy2
                      go_wp2_with fail
                      go_roundw
                      case rel => exact ⟨k + 1, nw + x % 9, _, rfl, by go_num, by omega, by omega, HBW, HKAW, HKBW⟩
                      case measure => simp [intOf]; omega
              have r0 := beqF q0
              by_cases q1 : x / 9 % 4 = 1
              · have r1 := beqT q1
                go_wp2_with fail
                refine (stop_wa wr a b l ao ad HB.out.wa (by have := HRA.out; omega)).mono ?_
                rintro e wC ⟨rfl, hwC, hgC⟩
                have HBC := Lib.hid (HB.out.both hwC hgC (only_stop hab') (HB.out.good.stop _) (show _ ≤ k + 2 by have := stop_len l (ao, ad); have := HB.out.len; omega))
                have HKAC := Lib.hid ((hgC.block _ (heap_lt HKA.out) (by have := HB.out.h2; simp; omega)).trans HKA.out)
                have HKBC := Lib.hid ((hgC.block _ (heap_lt HKB.out) (by have := HB.out.h2; simp; omega)).trans HKB.out)
                clear hwC hgC
                generalize stopW l (ao, ad) = l' at HBC ⊢
                go_wp2_with fail
                refine (tick_wa wC a b l' (nw + x % 9) HBC.out.wa HBC.out.good (by have := HBC.out.len; omega)).mono ?_
                rintro e wD ⟨vD, rfl, hoD, hwD, hgD⟩
                obtain ⟨AD, cD, rfl, hAD⟩ := own_slice hoD
                have HOD := Lib.hid hoD
                have HAD := Lib.hid hAD
                have HWD := Lib.hid hwD
                have HGD := Lib.hid hgD
                have HWO := Lib.hid (HBC.out.wo.kept hgD (by have := HBC.out.h3; simp; omega) (by have := HBC.out.h3; simp; omega))
                have HKAD := Lib.hid ((hgD.block _ (heap_lt HKAC.out) (by have := HBC.out.h2; simp; omega)).trans HKAC.out)
                have HKBD := Lib.hid ((hgD.block _ (heap_lt HKBC.out) (by have := HBC.out.h2; simp; omega)).trans HKBC.out)
                clear hoD hwD hgD hAD
                go_wp2_with fail
                refine (tick_wa wD a' b' (onlyW l' (bo, bd)) (nw + x % 9) HWO.out (only_good HBC.out.good _) (by have := HBC.out.one; omega)).mono ?_
                rintro e wE ⟨vE, rfl, hoE, hwE, hgE⟩
                obtain ⟨AE, cE, rfl, _⟩ := own_slice hoE
                have HOE := Lib.hid (own_turn HOD.out HWO.out hgE)
                have HBE := Lib.hid (show Beside w wE a b a' b' (bo, bd) (k + 2) (tickW l' (nw + x % 9)) from ⟨HWD.out.kept hgE (by have := HBC.out.h3; simp; omega) (by have := HBC.out.h3; simp; omega), by rw [only_tick]; exact hwE, HBC.out.good.tick _, by rw [tick_len]; exact HBC.out.len, by rw [only_tick, tick_len]; exact HBC.out.one, (HBC.out.below.grown HGD.out HBC.out.below.size (fun j hj => by cases hj; have := HBC.out.h2; omega)).grown hgE (Nat.le_trans HBC.out.below.size HGD.out.size) (fun j hj => by cases hj; have := HBC.out.h2; have := HBC.out.h3; omega), HBC.out.h1, HBC.out.h2, HBC.out.h3⟩)
                have HKAE := Lib.hid ((hgE.block _ (heap_lt HKAD.out) (by have := HBC.out.h2; have := HBC.out.h3; simp; omega)).trans HKAD.out)
                have HKBE := Lib.hid ((hgE.block _ (heap_lt HKBD.out) (by have := HBC.out.h2; have := HBC.out.h3; simp; omega)).trans HKBD.out)
                have HANY := Lib.hid (told_any l' (bo, bd) (nw + x % 9) HBC.out.one)
                have hTl : (toldW l' (nw + x % 9)).length < 10000 := by have := told_len l' (nw + x % 9); have := HBC.out.len; omega
                clear hoE hwE hgE
                generalize toldW l' (nw + x % 9) = TT at HOE HOD HAD HANY hTl ⊢
                generalize (toldW (onlyW l' (bo, bd)) (nw + x % 9)).length = yl at HANY ⊢
                go_wp2_with fail
                go_loopw [13, 14] (fun s13 s14 wq => ∃ j : Nat, s13 = .bool ((TT.take j).any fun q => decide (q = (bo, bd))) ∧ s14 = .int .i64 j ∧ j ≤ TT.length ∧ Hid (wq.heap = wE.heap ∧ Below wE.heap.size wE wq)) (fun _ i _ => TT.length - (intOf i).toNat)
                case atStart => exact ⟨0, by simp, rfl, by omega, rfl, Below.refl _ _⟩
                case round =>
                  obtain ⟨j, rfl, rfl, hj, HQ⟩ := hrel
                  have hkbq := (HQ.out.2.block _ (heap_lt HKBE.out)).trans HKBE.out
                  obtain ⟨kb0, kb1, _, _⟩ := cell2 hkbq
                  by_cases hjl : j < TT.length
                  · obtain ⟨y, hy⟩ : ∃ y, TT[j]? = some y := ⟨_, List.getElem?_eq_getElem hjl⟩
                    obtain ⟨gd, rfl, _, _⟩ := HAD.out (by omega)
                    have d0 := own_cellK encK_len (by omega) (own_keep HOE.out HQ.out.2) hy 0 (by omega)
                    have d1 := own_cellK encK_len (by omega) (own_keep HOE.out HQ.out.2) hy 1 (by omega)
                    have HTK := Lib.hid (show (TT.take (j + 1)).any (fun q => decide (q = (bo, bd))) = ((TT.take j).any (fun q => decide (q = (bo, bd))) || decide (y = (bo, bd))) by rw [List.take_add_one, hy, List.any_append]; simp)
                    have HQ2 := Lib.hid (fun n => (⟨HQ.out.2.os, HQ.out.2.tape, HQ.out.2.output, HQ.out.2.size, HQ.out.2.block⟩ : Below wE.heap.size wE (wr.drewN n)))
                    obtain ⟨qo, qd⟩ := y
                    simp only [encK, List.getElem?_cons_zero, List.getElem?_cons_succ] at d0 d1
                    rw [Nat.add_zero] at d0
                    have hjt : (j : Int) < TT.length := by omega
                    have hj0 : (0 : Int) ≤ j := by omega
                    clear hy
                    cases hB : (TT.take j).any (fun q => decide (q = (bo, bd))) with
                    | true =>
                      go_wp2_with fail
                      go_quiet (fail)
                      go_wp2_with fail
                      go_roundw
                      case rel => exact ⟨j + 1, by rw [HTK.out, hB]; rfl, by go_num, by omega, HQ.out.1, HQ2.out _⟩
                      case measure => simp [intOf]; omega
                    | false =>
                      by_cases hq : ((qo, qd) : Int × Int) = (bo, bd)
                      · injection hq with q1 q2
                        have z1 := beqT q1
                        have z2 := beqT q2
                        have HZ := Lib.hid (show ((qo, qd) : Int × Int) = (bo, bd) by rw [q1, q2])
                        clear q1 q2
                        go_wp2_with fail
                        go_quiet (fail)
                        go_wp2_with fail
                        go_roundw
                        case rel => exact ⟨j + 1, by rw [HTK.out, hB, decide_eq_true HZ.out]; rfl, by go_num, by omega, HQ.out.1, HQ2.out _⟩
                        case measure => simp [intOf]; omega
                      · have HZ := Lib.hid hq
                        have hq' : (qo == bo) = false ∨ ((qo == bo) = true ∧ (qd == bd) = false) := by
                          cases e1 : qo == bo with
                          | false => exact .inl rfl
                          | true =>
                            cases e2 : qd == bd with
                            | false => exact .inr ⟨rfl, rfl⟩
                            | true => exact absurd (by rw [eq_of_beq e1, eq_of_beq e2]) hq
                        clear hq
                        rcases hq' with z1 | ⟨z1, z2⟩
                        · go_wp2_with fail
                          go_quiet (fail)
                          go_wp2_with fail
                          go_roundw
                          case rel => exact ⟨j + 1, by rw [HTK.out, hB, decide_eq_false HZ.out]; rfl, by go_num, by omega, HQ.out.1, HQ2.out _⟩
                          case measure => simp [intOf]; omega
                        · go_wp2_with fail
                          go_quiet (fail)
                          go_wp2_with fail
                          go_roundw
                          case rel => exact ⟨j + 1, by rw [HTK.out, hB, decide_eq_false HZ.out]; rfl, by go_num, by omega, HQ.out.1, HQ2.out _⟩
                          case measure => simp [intOf]; omega
                  · obtain rfl : j = TT.length := by omega
                    rw [List.take_length, HANY.out]
                    have HBW := Lib.hid (show Beside w wr a b a' b' (bo, bd) (k + 2) (tickW l' (nw + x % 9)) from ⟨HBE.out.wa.below HQ.out.2, HBE.out.wo.below HQ.out.2, HBE.out.good, HBE.out.len, HBE.out.one, bch HBE.out.below HQ.out.2 HBE.out.below.size, HBE.out.h1, HBE.out.h2, HBE.out.h3⟩)
                    have HKAW := Lib.hid (heap_keep HKAE.out HQ.out.2)
                    have HKBW := Lib.hid hkbq
                    by_cases hy1 : yl = 1
                    · subst hy1
                      go_wp2_with fail
                      go_roundw
                      case rel => exact ⟨k + 1, nw + x % 9, _, rfl, by go_num, by omega, by omega, HBW, HKAW, HKBW⟩
                      case measure => simp [intOf]; omega
                    · have hy2 : ¬ (yl : Int) = 1 := by omega
                      have hd1 : decide (yl = 1) = false := decide_eq_false hy1
                      have hd2 := beqF hy2
                      go_wp2_with fail
                      go_roundw
                      case rel => exact ⟨k + 1, nw + x % 9, _, rfl, by go_num, by omega, by omega, HBW, HKAW, HKBW⟩
                      case measure => simp [intOf]; omega
              have r1 := beqF q1
              by_cases q2 : x / 9 % 4 = 2
              · have r2 := beqT q2
                go_wp2_with fail
                refine (again_wa wr a b l ao ad (nw + x % 9) HB.out.wa HB.out.good (by have := HB.out.len; omega) (by have := HRA.out; omega)).mono ?_
                rintro e wC ⟨rfl, hwC, hgC⟩
                have HBC : Hid (Beside w wC a b a' b' (bo, bd) (k + 2) (if hasW l (ao, ad) then startW l (ao, ad) (nw + x % 9) else l)) := by
                  refine HB.out.both hwC hgC ?_ ?_ ?_
                  · split
                    · exact only_start hab' _
                    · rfl
                  · split
                    · exact HB.out.good.start _ _
                    · exact HB.out.good
                  · have := start_len l (ao, ad) (nw + x % 9)
                    have := HB.out.len
                    split <;> omega
                have HKAC := Lib.hid ((hgC.block _ (heap_lt HKA.out) (by have := HB.out.h2; simp; omega)).trans HKA.out)
                have HKBC := Lib.hid ((hgC.block _ (heap_lt HKB.out) (by have := HB.out.h2; simp; omega)).trans HKB.out)
                clear hwC hgC
                generalize (if hasW l (ao, ad) then startW l (ao, ad) (nw + x % 9) else l) = l' at HBC ⊢
                go_wp2_with fail
                refine (tick_wa wC a b l' (nw + x % 9) HBC.out.wa HBC.out.good (by have := HBC.out.len; omega)).mono ?_
                rintro e wD ⟨vD, rfl, hoD, hwD, hgD⟩
                obtain ⟨AD, cD, rfl, hAD⟩ := own_slice hoD
                have HOD := Lib.hid hoD
                have HAD := Lib.hid hAD
                have HWD := Lib.hid hwD
                have HGD := Lib.hid hgD
                have HWO := Lib.hid (HBC.out.wo.kept hgD (by have := HBC.out.h3; simp; omega) (by have := HBC.out.h3; simp; omega))
                have HKAD := Lib.hid ((hgD.block _ (heap_lt HKAC.out) (by have := HBC.out.h2; simp; omega)).trans HKAC.out)
                have HKBD := Lib.hid ((hgD.block _ (heap_lt HKBC.out) (by have := HBC.out.h2; simp; omega)).trans HKBC.out)
                clear hoD hwD hgD hAD
                go_wp2_with fail
                refine (tick_wa wD a' b' (onlyW l' (bo, bd)) (nw + x % 9) HWO.out (only_good HBC.out.good _) (by have := HBC.out.one; omega)).mono ?_
                rintro e wE ⟨vE, rfl, hoE, hwE, hgE⟩
                obtain ⟨AE, cE, rfl, _⟩ := own_slice hoE
                have HOE := Lib.hid (own_turn HOD.out HWO.out hgE)
                have HBE := Lib.hid (show Beside w wE a b a' b' (bo, bd) (k + 2) (tickW l' (nw + x % 9)) from ⟨HWD.out.kept hgE (by have := HBC.out.h3; simp; omega) (by have := HBC.out.h3; simp; omega), by rw [only_tick]; exact hwE, HBC.out.good.tick _, by rw [tick_len]; exact HBC.out.len, by rw [only_tick, tick_len]; exact HBC.out.one, (HBC.out.below.grown HGD.out HBC.out.below.size (fun j hj => by cases hj; have := HBC.out.h2; omega)).grown hgE (Nat.le_trans HBC.out.below.size HGD.out.size) (fun j hj => by cases hj; have := HBC.out.h2; have := HBC.out.h3; omega), HBC.out.h1, HBC.out.h2, HBC.out.h3⟩)
                have HKAE := Lib.hid ((hgE.block _ (heap_lt HKAD.out) (by have := HBC.out.h2; have := HBC.out.h3; simp; omega)).trans HKAD.out)
                have HKBE := Lib.hid ((hgE.block _ (heap_lt HKBD.out) (by have := HBC.out.h2; have := HBC.out.h3; simp; omega)).trans HKBD.out)
                have HANY := Lib.hid (told_any l' (bo, bd) (nw + x % 9) HBC.out.one)
                have hTl : (toldW l' (nw + x % 9)).length < 10000 := by have := told_len l' (nw + x % 9); have := HBC.out.len; omega
                clear hoE hwE hgE
                generalize toldW l' (nw + x % 9) = TT at HOE HOD HAD HANY hTl ⊢
                generalize (toldW (onlyW l' (bo, bd)) (nw + x % 9)).length = yl at HANY ⊢
                go_wp2_with fail
                go_loopw [13, 14] (fun s13 s14 wq => ∃ j : Nat, s13 = .bool ((TT.take j).any fun q => decide (q = (bo, bd))) ∧ s14 = .int .i64 j ∧ j ≤ TT.length ∧ Hid (wq.heap = wE.heap ∧ Below wE.heap.size wE wq)) (fun _ i _ => TT.length - (intOf i).toNat)
                case atStart => exact ⟨0, by simp, rfl, by omega, rfl, Below.refl _ _⟩
                case round =>
                  obtain ⟨j, rfl, rfl, hj, HQ⟩ := hrel
                  have hkbq := (HQ.out.2.block _ (heap_lt HKBE.out)).trans HKBE.out
                  obtain ⟨kb0, kb1, _, _⟩ := cell2 hkbq
                  by_cases hjl : j < TT.length
                  · obtain ⟨y, hy⟩ : ∃ y, TT[j]? = some y := ⟨_, List.getElem?_eq_getElem hjl⟩
                    obtain ⟨gd, rfl, _, _⟩ := HAD.out (by omega)
                    have d0 := own_cellK encK_len (by omega) (own_keep HOE.out HQ.out.2) hy 0 (by omega)
                    have d1 := own_cellK encK_len (by omega) (own_keep HOE.out HQ.out.2) hy 1 (by omega)
                    have HTK := Lib.hid (show (TT.take (j + 1)).any (fun q => decide (q = (bo, bd))) = ((TT.take j).any (fun q => decide (q = (bo, bd))) || decide (y = (bo, bd))) by rw [List.take_add_one, hy, List.any_append]; simp)
                    have HQ2 := Lib.hid (fun n => (⟨HQ.out.2.os, HQ.out.2.tape, HQ.out.2.output, HQ.out.2.size, HQ.out.2.block⟩ : Below wE.heap.size wE (wr.drewN n)))
                    obtain ⟨qo, qd⟩ := y
                    simp only [encK, List.getElem?_cons_zero, List.getElem?_cons_succ] at d0 d1
                    rw [Nat.add_zero] at d0
                    have hjt : (j : Int) < TT.length := by omega
                    have hj0 : (0 : Int) ≤ j := by omega
                    clear hy
                    cases hB : (TT.take j).any (fun q => decide (q = (bo, bd))) with
                    | true =>
                      go_wp2_with fail
                      go_quiet (fail)
                      go_wp2_with fail
                      go_roundw
                      case rel => exact ⟨j + 1, by rw [HTK.out, hB]; rfl, by go_num, by omega, HQ.out.1, HQ2.out _⟩
                      case measure => simp [intOf]; omega
                    | false =>
                      by_cases hq : ((qo, qd) : Int × Int) = (bo, bd)
                      · injection hq with q1 q2
                        have z1 := beqT q1
                        have z2 := beqT q2
                        have HZ := Lib.hid (show ((qo, qd) : Int × Int) = (bo, bd) by rw [q1, q2])
                        clear q1 q2
                        go_wp2_with fail
                        go_quiet (fail)
                        go_wp2_with fail
                        go_roundw
                        case rel => exact ⟨j + 1, by rw [HTK.out, hB, decide_eq_true HZ.out]; rfl, by go_num, by omega, HQ.out.1, HQ2.out _⟩
                        case measure => simp [intOf]; omega
                      · have HZ := Lib.hid hq
                        have hq' : (qo == bo) = false ∨ ((qo == bo) = true ∧ (qd == bd) = false) := by
                          cases e1 : qo == bo with
                          | false => exact .inl rfl
                          | true =>
                            cases e2 : qd == bd with
                            | false => exact .inr ⟨rfl, rfl⟩
                            | true => exact absurd (by rw [eq_of_beq e1, eq_of_beq e2]) hq
                        clear hq
                        rcases hq' with z1 | ⟨z1, z2⟩
                        · go_wp2_with fail
                          go_quiet (fail)
                          go_wp2_with fail
                          go_roundw
                          case rel => exact ⟨j + 1, by rw [HTK.out, hB, decide_eq_false HZ.out]; rfl, by go_num, by omega, HQ.out.1, HQ2.out _⟩
                          case measure => simp [intOf]; omega
                        · go_wp2_with fail
                          go_quiet (fail)
                          go_wp2_with fail
                          go_roundw
                          case rel => exact ⟨j + 1, by rw [HTK.out, hB, decide_eq_false HZ.out]; rfl, by go_num, by omega, HQ.out.1, HQ2.out _⟩
                          case measure => simp [intOf]; omega
                  · obtain rfl : j = TT.length := by omega
                    rw [List.take_length, HANY.out]
                    have HBW := Lib.hid (show Beside w wr a b a' b' (bo, bd) (k + 2) (tickW l' (nw + x % 9)) from ⟨HBE.out.wa.below HQ.out.2, HBE.out.wo.below HQ.out.2, HBE.out.good, HBE.out.len, HBE.out.one, bch HBE.out.below HQ.out.2 HBE.out.below.size, HBE.out.h1, HBE.out.h2, HBE.out.h3⟩)
                    have HKAW := Lib.hid (heap_keep HKAE.out HQ.out.2)
                    have HKBW := Lib.hid hkbq
                    by_cases hy1 : yl = 1
                    · subst hy1
                      go_wp2_with fail
                      go_roundw
                      case rel => exact ⟨k + 1, nw + x % 9, _, rfl, by go_num, by omega, by omega, HBW, HKAW, HKBW⟩
                      case measure => simp [intOf]; omega
                    · have hy2 : ¬ (yl : Int) = 1 := by omega
                      have hd1 : decide (yl = 1) = false := decide_eq_false hy1
                      have hd2 := beqF hy2
                      go_wp2_with fail
                      go_roundw
                      case rel => exact ⟨k + 1, nw + x % 9, _, rfl, by go_num, by omega, by omega, HBW, HKAW, HKBW⟩
                      case measure => simp [intOf]; omega
              have r2 := beqF q2
              have HBC := Lib.hid (HB.out.more (show k + 1 ≤ k + 2 by omega))
              have HKAC := HKA
              have HKBC := HKB
              go_wp2_with fail
              refine (tick_wa wr a b l (nw + x % 9) HBC.out.wa HBC.out.good (by have := HBC.out.len; omega)).mono ?_
              rintro e wD ⟨vD, rfl, hoD, hwD, hgD⟩
              obtain ⟨AD, cD, rfl, hAD⟩ := own_slice hoD
              have HOD := Lib.hid hoD
              have HAD := Lib.hid hAD
              have HWD := Lib.hid hwD
              have HGD := Lib.hid hgD
              have HWO := Lib.hid (HBC.out.wo.kept hgD (by have := HBC.out.h3; simp; omega) (by have := HBC.out.h3; simp; omega))
              have HKAD := Lib.hid ((hgD.block _ (heap_lt HKAC.out) (by have := HBC.out.h2; simp; omega)).trans HKAC.out)
              have HKBD := Lib.hid ((hgD.block _ (heap_lt HKBC.out) (by have := HBC.out.h2; simp; omega)).trans HKBC.out)
              clear hoD hwD hgD hAD
              go_wp2_with fail
              refine (tick_wa wD a' b' (onlyW l (bo, bd)) (nw + x % 9) HWO.out (only_good HBC.out.good _) (by have := HBC.out.one; omega)).mono ?_
              rintro e wE ⟨vE, rfl, hoE, hwE, hgE⟩
              obtain ⟨AE, cE, rfl, _⟩ := own_slice hoE
              have HOE := Lib.hid (own_turn HOD.out HWO.out hgE)
              have HBE := Lib.hid (show Beside w wE a b a' b' (bo, bd) (k + 2) (tickW l (nw + x % 9)) from ⟨HWD.out.kept hgE (by have := HBC.out.h3; simp; omega) (by have := HBC.out.h3; simp; omega), by rw [only_tick]; exact hwE, HBC.out.good.tick _, by rw [tick_len]; exact HBC.out.len, by rw [only_tick, tick_len]; exact HBC.out.one, (HBC.out.below.grown HGD.out HBC.out.below.size (fun j hj => by cases hj; have := HBC.out.h2; omega)).grown hgE (Nat.le_trans HBC.out.below.size HGD.out.size) (fun j hj => by cases hj; have := HBC.out.h2; have := HBC.out.h3; omega), HBC.out.h1, HBC.out.h2, HBC.out.h3⟩)
              have HKAE := Lib.hid ((hgE.block _ (heap_lt HKAD.out) (by have := HBC.out.h2; have := HBC.out.h3; simp; omega)).trans HKAD.out)
              have HKBE := Lib.hid ((hgE.block _ (heap_lt HKBD.out) (by have := HBC.out.h2; have := HBC.out.h3; simp; omega)).trans HKBD.out)
              have HANY := Lib.hid (told_any l (bo, bd) (nw + x % 9) HBC.out.one)
              have hTl : (toldW l (nw + x % 9)).length < 10000 := by have := told_len l (nw + x % 9); have := HBC.out.len; omega
              clear hoE hwE hgE
              generalize toldW l (nw + x % 9) = TT at HOE HOD HAD HANY hTl ⊢
              generalize (toldW (onlyW l (bo, bd)) (nw + x % 9)).length = yl at HANY ⊢
              go_wp2_with fail
              go_loopw [13, 14] (fun s13 s14 wq => ∃ j : Nat, s13 = .bool ((TT.take j).any fun q => decide (q = (bo, bd))) ∧ s14 = .int .i64 j ∧ j ≤ TT.length ∧ Hid (wq.heap = wE.heap ∧ Below wE.heap.size wE wq)) (fun _ i _ => TT.length - (intOf i).toNat)
              case atStart => exact ⟨0, by simp, rfl, by omega, rfl, Below.refl _ _⟩
              case round =>
                obtain ⟨j, rfl, rfl, hj, HQ⟩ := hrel
                have hkbq := (HQ.out.2.block _ (heap_lt HKBE.out)).trans HKBE.out
                obtain ⟨kb0, kb1, _, _⟩ := cell2 hkbq
                by_cases hjl : j < TT.length
                · obtain ⟨y, hy⟩ : ∃ y, TT[j]? = some y := ⟨_, List.getElem?_eq_getElem hjl⟩
                  obtain ⟨gd, rfl, _, _⟩ := HAD.out (by omega)
                  have d0 := own_cellK encK_len (by omega) (own_keep HOE.out HQ.out.2) hy 0 (by omega)
                  have d1 := own_cellK encK_len (by omega) (own_keep HOE.out HQ.out.2) hy 1 (by omega)
                  have HTK := Lib.hid (show (TT.take (j + 1)).any (fun q => decide (q = (bo, bd))) = ((TT.take j).any (fun q => decide (q = (bo, bd))) || decide (y = (bo, bd))) by rw [List.take_add_one, hy, List.any_append]; simp)
                  have HQ2 := Lib.hid (fun n => (⟨HQ.out.2.os, HQ.out.2.tape, HQ.out.2.output, HQ.out.2.size, HQ.out.2.block⟩ : Below wE.heap.size wE (wr.drewN n)))
                  obtain ⟨qo, qd⟩ := y
                  simp only [encK, List.getElem?_cons_zero, List.getElem?_cons_succ] at d0 d1
                  rw [Nat.add_zero] at d0
                  have hjt : (j : Int) < TT.length := by omega
                  have hj0 : (0 : Int) ≤ j := by omega
                  clear hy
                  cases hB : (TT.take j).any (fun q => decide (q = (bo, bd))) with
                  | true =>
                    go_wp2_with fail
                    go_quiet (fail)
                    go_wp2_with fail
                    go_roundw
                    case rel => exact ⟨j + 1, by rw [HTK.out, hB]; rfl, by go_num, by omega, HQ.out.1, HQ2.out _⟩
                    case measure => simp [intOf]; omega
                  | false =>
                    by_cases hq : ((qo, qd) : Int × Int) = (bo, bd)
                    · injection hq with q1 q2
                      have z1 := beqT q1
                      have z2 := beqT q2
                      have HZ := Lib.hid (show ((qo, qd) : Int × Int) = (bo, bd) by rw [q1, q2])
                      clear q1 q2
                      go_wp2_with fail
                      go_quiet (fail)
                      go_wp2_with fail
                      go_roundw
                      case rel => exact ⟨j + 1, by rw [HTK.out, hB, decide_eq_true HZ.out]; rfl, by go_num, by omega, HQ.out.1, HQ2.out _⟩
                      case measure => simp [intOf]; omega
                    · have HZ := Lib.hid hq
                      have hq' : (qo == bo) = false ∨ ((qo == bo) = true ∧ (qd == bd) = false) := by
                        cases e1 : qo == bo with
                        | false => exact .inl rfl
                        | true =>
                          cases e2 : qd == bd with
                          | false => exact .inr ⟨rfl, rfl⟩
                          | true => exact absurd (by rw [eq_of_beq e1, eq_of_beq e2]) hq
                      clear hq
                      rcases hq' with z1 | ⟨z1, z2⟩
                      · go_wp2_with fail
                        go_quiet (fail)
                        go_wp2_with fail
                        go_roundw
                        case rel => exact ⟨j + 1, by rw [HTK.out, hB, decide_eq_false HZ.out]; rfl, by go_num, by omega, HQ.out.1, HQ2.out _⟩
                        case measure => simp [intOf]; omega
                      · go_wp2_with fail
                        go_quiet (fail)
                        go_wp2_with fail
                        go_roundw
                        case rel => exact ⟨j + 1, by rw [HTK.out, hB, decide_eq_false HZ.out]; rfl, by go_num, by omega, HQ.out.1, HQ2.out _⟩
                        case measure => simp [intOf]; omega
                · obtain rfl : j = TT.length := by omega
                  rw [List.take_length, HANY.out]
                  have HBW := Lib.hid (show Beside w wr a b a' b' (bo, bd) (k + 2) (tickW l (nw + x % 9)) from ⟨HBE.out.wa.below HQ.out.2, HBE.out.wo.below HQ.out.2, HBE.out.good, HBE.out.len, HBE.out.one, bch HBE.out.below HQ.out.2 HBE.out.below.size, HBE.out.h1, HBE.out.h2, HBE.out.h3⟩)
                  have HKAW := Lib.hid (heap_keep HKAE.out HQ.out.2)
                  have HKBW := Lib.hid hkbq
                  by_cases hy1 : yl = 1
                  · subst hy1
                    go_wp2_with fail
                    go_roundw
                    case rel => exact ⟨k + 1, nw + x % 9, _, rfl, by go_num, by omega, by omega, HBW, HKAW, HKBW⟩
                    case measure => simp [intOf]; omega
                  · have hy2 : ¬ (yl : Int) = 1 := by omega
                    have hd1 : decide (yl = 1) = false := decide_eq_false hy1
                    have hd2 := beqF hy2
                    go_wp2_with fail
                    go_roundw
                    case rel => exact ⟨k + 1, nw + x % 9, _, rfl, by go_num, by omega, by omega, HBW, HKAW, HKBW⟩
                    case measure => simp [intOf]; omega
            · obtain rfl : k = L.length := by omega
              go_wp2_with fail
              refine (waited_true wr).mono ?_
              rintro e wZ ⟨rfl, hbZ⟩
              have HBZ := Lib.hid (bch HB.out.below hbZ HB.out.below.size)
              clear hbZ
              go_wp2_with fail
              go_ret
              exact ⟨rfl, HBZ.out⟩
end Go.Proofs.Ytiapahafaoaniaa

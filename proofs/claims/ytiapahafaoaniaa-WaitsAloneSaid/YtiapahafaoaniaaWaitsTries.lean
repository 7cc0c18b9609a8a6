/- law18: WaitsTries. -/
import Derived.Test.YtiapahafaoaniaaWaitsOpen
namespace Go.Proofs.Ytiapahafaoaniaa
open Go.RowKit Go.Maps Wa Key

/-- One deed, looked at: what the tick makes of it. -/
theorem tick_one (K : Int × Int) (t n : Int) (p : Bool) (nw now : Int) (h0 : 0 ≤ t) (h5 : t ≤ 5) (hp : p = true → t = 5) (hn : p = false → n ≤ nw + 16) (hw : nw ≤ now) (hw0 : 0 ≤ now) (hwm : now ≤ 1099511627776) (hb : 0 ≤ n ∧ n ≤ 1099511627792) :
    ∃ (e : Nat) (n' : Int) (p' : Bool), e ≤ 1 ∧ (toldW [(K, t, n, p)] now).length = e ∧ tickW [(K, t, n, p)] now = [(K, t + e, n', p')] ∧ t + e ≤ 5 ∧ (p' = true → t + e = 5) ∧ (p' = false → n' ≤ now + 16) ∧ (p' = false → now < n') ∧ (0 ≤ n' ∧ n' ≤ 1099511627792) := by
  have hm : nearI now = now := by unfold nearI; rw [if_neg (by omega), if_neg (by omega)]
  cases p with
  | true => exact ⟨0, n, true, by omega, by simp [toldW, tellB, dueB], by simp [tickW, tickX, dueB], by simpa using h5, fun h => by simpa using hp h, by simp, by simp, hb⟩
  | false =>
    have hn := hn rfl
    by_cases hd : n ≤ now
    · by_cases h : 5 ≤ t
      · exact ⟨0, n, true, by omega, by simp [toldW, tellB, dueB]; omega, by simp [tickW, tickX, dueB, hm, hd, h], by omega, fun _ => by omega, by simp, by simp, hb⟩
      · have hg := gap_bd (t + 1)
        have hg1 : 1 ≤ gapI (t + 1) := by unfold gapI; rw [if_neg (by omega)]; repeat' split <;> omega
        exact ⟨1, now + gapI (t + 1), false, by omega, by simp [toldW, tellB, dueB, hm, hd, show t < 5 by omega], by simp [tickW, tickX, dueB, hm, hd, h], by omega, by simp, fun _ => by omega, fun _ => by omega, by omega⟩
    · exact ⟨0, n, false, by omega, by simp [toldW, tellB, dueB, hm]; omega, by simp [tickW, tickX, dueB, hm, hd], by omega, by simp, fun _ => by omega, fun _ => by omega, hb⟩

theorem stop_self (k : Int × Int) (t n : Int) (p : Bool) : stopW [(k, t, n, p)] k = [] := by simp [stopW]

/-- Two waits beside each other. -/
theorem WA.beside {w W : World} {a b a' b' : Nat} {l l' : List W5} (h : WA w a b l) (_h' : WA w a' b' l') (h1 : a ≠ b') (h2 : b ≠ b') (hg : w.grownBy W (some b')) : WA W a b l :=
  h.kept hg (by simpa using h1) (by simpa using h2)

set_option maxRecDepth 100000 in
set_option maxHeartbeats 4000000 in
theorem lawWaitsTries_walk (w : World) (o d : Int) (v : Value) (L : List Int) (h : SlK w w.heap.size 1 IsByte v L) :
    Calls Try.prog 5 #[.agg #[.int .i64 o, .int .i64 d], v] w fun e w' => e = .returned (.bool true) ∧ Below w.heap.size w w' := by
  obtain ⟨A, c, rfl, hLc, hcm⟩ := h.shape
  have HS := Lib.hid h
  have HC := Lib.hid (check_any o d)
  have hk0 := heap_new w (.cells #[.int .i64 o, .int .i64 d] tKey)
  have HB0 := Lib.hid (below_alloc w (.cells #[.int .i64 o, .int .i64 d] tKey))
  have hz1 : (w.alloc (.cells #[.int .i64 o, .int .i64 d] tKey)).heap.size = w.heap.size + 1 := by simp
  clear h
  by_cases h100 : 100 < L.length
  · have hg : (100 : Int) < L.length := by omega
    go_enter Try.func5, Try.ntmps5
    go_wp2_with fail
    refine (waited_true _).mono ?_
    rintro e w1 ⟨rfl, hb⟩
    have HB := Lib.hid (bch HB0.out hb (by simp))
    clear hb
    go_wp2_with fail
    go_ret
    exact ⟨rfl, HB.out⟩
  have hg : (L.length : Int) ≤ 100 := by omega
  cases hc : chk o d with
  | false =>
    rw [hc] at HC
    obtain ⟨k0, k1, _, _⟩ := cell2 hk0
    go_enter Try.func5, Try.ntmps5
    go_wp2_with fail
    refine (HC.out _).mono ?_
    rintro e w1 ⟨rfl, hb⟩
    have HB := Lib.hid (bch HB0.out hb (by simp))
    clear hb
    go_wp2_with fail
    refine (waited_true _).mono ?_
    rintro e w2 ⟨rfl, hb⟩
    have HB2 := Lib.hid (bch HB.out hb HB.out.size)
    clear hb
    go_wp2_with fail
    go_ret
    exact ⟨rfl, HB2.out⟩
  | true =>
    rw [hc] at HC
    have hr := chk_iff.1 hc
    have hchk : chkB (o, d) = true := hc
    obtain ⟨k0, k1, _, _⟩ := cell2 hk0
    go_enter Try.func5, Try.ntmps5
    go_wp2_with fail
    generalize w.alloc (.cells #[.int .i64 o, .int .i64 d] tKey) = wX at hk0 HB0 hz1 k0 k1 ⊢
    refine (HC.out _).mono ?_
    rintro e w1 ⟨rfl, hb⟩
    have HB1 := Lib.hid (bch HB0.out hb HB0.out.size)
    have hk1 := heap_keep hk0 hb
    have hs1 := hb.size
    clear hb hk0 k0 k1
    go_wp2_with fail
    refine (new_wa w1).mono ?_
    rintro e w2 ⟨a, b, rfl, hn, ha, hb, hbl⟩
    have HN := Lib.hid hn
    have HB2 := Lib.hid (bch HB1.out hbl HB1.out.size)
    have hk2 := heap_keep hk1 hbl
    have hl2 := hn.lt
    clear hn hbl hk1
    go_wp2_with fail
    refine (new_wa w2).mono ?_
    rintro e w3 ⟨a', b', rfl, hn', ha', hb', hbl⟩
    have HN3 := Lib.hid (HN.out.below hbl)
    have HD3 := Lib.hid hn'
    have HB3 := Lib.hid (bch HB2.out hbl HB2.out.size)
    have hk3 := heap_keep hk2 hbl
    clear hn' hbl hk2
    obtain ⟨k0, k1, _, _⟩ := cell2 hk3
    go_wp2_with fail
    refine (start_wa w3 a b [] o d 0 HN3.out (by simp)).mono ?_
    rintro e w4 ⟨rfl, hw4, hg4⟩
    have HN4 := Lib.hid (show WA w4 a b [((o, d), 1, 1, false)] by
      have : startW [] (o, d) 0 = [((o, d), 1, 1, false)] := by simp [startW, putW, hchk, stopW, placeW, nearI]
      rw [this] at hw4; exact hw4)
    have HD4 := Lib.hid (HD3.out.beside HN3.out (by omega) (by omega) hg4)
    have HB4 := Lib.hid (HB3.out.grown hg4 HB3.out.size (fun j hj => by cases hj; omega))
    have hk4 := (hg4.block _ (heap_lt hk3) (by simp; omega)).trans hk3
    clear hw4 hg4 hk3 k0 k1
    obtain ⟨k0, k1, _, _⟩ := cell2 hk4
    go_wp2_with fail
    refine (due_wa w4 a' b' [] o d 0 HD4.out (by simp)).mono ?_
    rintro e w5 ⟨rfl, hw5, hg5⟩
    have HD5 := Lib.hid (show WA w5 a' b' [((o, d), 0, 0, false)] by
      have : dueW [] (o, d) 0 = [((o, d), 0, 0, false)] := by simp [dueW, putW, hchk, stopW, placeW, nearI]
      rw [this] at hw5; exact hw5)
    have HN5 := Lib.hid (HN4.out.beside HD4.out (by omega) (by omega) hg5)
    have HB5 := Lib.hid (HB4.out.grown hg5 HB4.out.size (fun j hj => by cases hj; omega))
    have hk5 := (hg5.block _ (heap_lt hk4) (by simp; omega)).trans hk4
    have HK5 := Lib.hid hk5
    clear hw5 hg5 hk4 k0 k1 hk5
    go_wp2_with fail
    go_loopw [7, 8, 9, 10] (fun s7 s8 s9 s10 wr => ∃ (k : Nat) (nw t n t2 n2 : Int) (p p2 : Bool), s7 = .int .i64 nw ∧ s8 = .int .i64 t ∧ s9 = .int .i64 t2 ∧ s10 = .int .i64 k ∧ k ≤ L.length ∧ (0 ≤ nw ∧ nw ≤ 255 * k) ∧ (0 ≤ t ∧ t ≤ 5 ∧ 0 ≤ n ∧ n ≤ 1099511627792) ∧ (0 ≤ t2 ∧ t2 ≤ 5 ∧ 0 ≤ n2 ∧ n2 ≤ 1099511627792) ∧ Hid ((p = true → t = 5) ∧ (p = false → n ≤ nw + 16) ∧ (p2 = true → t2 = 5) ∧ (p2 = false → n2 ≤ nw + 16)) ∧ Hid (WA wr a b [((o, d), t, n, p)]) ∧ Hid (WA wr a' b' [((o, d), t2, n2, p2)]) ∧ Hid (wr.heap[w.heap.size]? = some (.cells #[.int .i64 o, .int .i64 d] tKey (0, 0))) ∧ Hid (Below w.heap.size w wr)) (fun _ _ _ i _ => L.length - (intOf i).toNat)
    case atStart => exact ⟨0, 0, 1, 1, 0, 0, false, false, rfl, rfl, rfl, rfl, by omega, by omega, by omega, by omega, ⟨by simp, by simp, by simp, by simp⟩, HN5, HD5, HK5, HB5⟩
    case round =>
      obtain ⟨k, nw, t, n, t2, n2, p, p2, rfl, rfl, rfl, rfl, hk, hnw, ht, ht2, HI, HN, HD, HK, HB⟩ := hrel
      by_cases hkl : k < L.length
      · obtain ⟨x, hx⟩ : ∃ x, L[k]? = some x := ⟨_, List.getElem?_eq_getElem hkl⟩
        obtain ⟨g, off, cs, rfl, hgl, hcl, hcell, hcs⟩ := HS.out.at hx
        obtain ⟨rfl, hx0, hx1⟩ := hcs
        have c0 := (HB.out.cell (p := ⟨g, off + k * 1 + 0, none⟩) hgl).trans (hcell 0 _ rfl)
        rw [Nat.add_zero, Nat.mul_one] at c0
        clear hcell hcl hx
        have hlt : (k : Int) < L.length := by omega
        have hk0 : (0 : Int) ≤ k := by omega
        have hnx : 0 ≤ nw + x ∧ nw + x ≤ 25500 := by omega
        obtain ⟨e1, n', p', he1, hl1, htk1, h51, hp1, hn1, hf1, hb1⟩ := tick_one (o, d) t n p nw (nw + x) ht.1 ht.2.1 HI.out.1 HI.out.2.1 (by omega) (by omega) (by omega) ht.2.2
        obtain ⟨e2, n2', p2', he2, hl2, htk2, h52, hp2, hn2, hf2, hb2⟩ := tick_one (o, d) t2 n2 p2 nw (nw + x) ht2.1 ht2.2.1 HI.out.2.2.1 HI.out.2.2.2 (by omega) (by omega) (by omega) ht2.2.2
        have HI' := Lib.hid (And.intro hp1 (And.intro hn1 (And.intro hp2 hn2)))
        have HF := Lib.hid hf1
        have HT1 := Lib.hid hl1
        have HT2 := Lib.hid hl2
        have HK1 := Lib.hid htk1
        have HK2 := Lib.hid htk2
        clear hp1 hn1 hp2 hn2 hf1 hf2 hl1 hl2 htk1 htk2
        go_wp2_with fail
        refine (tick_wa wr a b _ (nw + x) HN.out (good_one hchk ht) (by simp)).mono ?_
        rintro e wA ⟨vA, rfl, hoA, hwA, hgA⟩
        rw [HK1.out] at hwA
        rw [HT1.out] at hoA
        obtain ⟨AA, cA, rfl, _⟩ := own_slice hoA
        have HNA := Lib.hid hwA
        have HDA := Lib.hid (HD.out.beside HN.out (by omega) (by omega) hgA)
        have HBA := Lib.hid (HB.out.grown hgA HB.out.size (fun j hj => by cases hj; omega))
        have HKA := Lib.hid ((hgA.block _ (heap_lt HK.out) (by simp; omega)).trans HK.out)
        clear hoA hwA hgA
        go_wp2_with fail
        refine (tick_wa wA a' b' _ (nw + x) HDA.out (good_one hchk ht2) (by simp)).mono ?_
        rintro e wB ⟨vB, rfl, hoB, hwB, hgB⟩
        rw [HK2.out] at hwB
        rw [HT2.out] at hoB
        obtain ⟨AB, cB, rfl, _⟩ := own_slice hoB
        have HDB := Lib.hid hwB
        have HNB := Lib.hid (HNA.out.beside HDA.out (by omega) (by omega) hgB)
        have HBB := Lib.hid (HBA.out.grown hgB HBA.out.size (fun j hj => by cases hj; omega))
        have HKB := Lib.hid ((hgB.block _ (heap_lt HKA.out) (by simp; omega)).trans HKA.out)
        clear hoB hwB hgB
        go_wp2_with fail
        refine (list_wa wB a b _ HNB.out (good_one hchk (by simp only []; omega)) (by simp)).mono ?_
        rintro e wC ⟨vC, rfl, hoC, hbC⟩
        obtain ⟨gC, cC, rfl, hcC, _, hgCl⟩ := wrow_one (by simpa using hoC)
        have HNC := Lib.hid (HNB.out.below hbC)
        have HDC := Lib.hid (HDB.out.below hbC)
        have HBC := Lib.hid (bch HBB.out hbC HBB.out.size)
        have HKC := Lib.hid (heap_keep HKB.out hbC)
        have HCC := Lib.hid hcC
        clear hoC hbC hcC
        go_wp2_with fail
        refine (list_wa wC a' b' _ HDC.out (good_one hchk (by simp only []; omega)) (by simp)).mono ?_
        rintro e wD ⟨vD, rfl, hoD, hbD⟩
        obtain ⟨gD, cD, rfl, hcD, _⟩ := wrow_one (by simpa using hoD)
        have HND := Lib.hid (HNC.out.below hbD)
        have HDD := Lib.hid (HDC.out.below hbD)
        have HBD := Lib.hid (bch HBC.out hbD HBC.out.size)
        have HKD := Lib.hid (heap_keep HKC.out hbD)
        have x1 : wD.cell? ⟨gC, 2, none⟩ = some (.int .i64 (t + e1)) := (hbD.cell (p := ⟨gC, 2, none⟩) hgCl).trans (HCC.out 2 (by omega))
        have x2 : wD.cell? ⟨gC, 3, none⟩ = some (.int .i64 n') := (hbD.cell (p := ⟨gC, 3, none⟩) hgCl).trans (HCC.out 3 (by omega))
        have x3 : wD.cell? ⟨gC, 4, none⟩ = some (.bool p') := (hbD.cell (p := ⟨gC, 4, none⟩) hgCl).trans (HCC.out 4 (by omega))
        have y1 : wD.cell? ⟨gD, 2, none⟩ = some (.int .i64 (t2 + e2)) := hcD 2 (by omega)
        clear hoD hbD hcD
        have h51' : ¬ 5 < t + (e1 : Int) := by omega
        have h52' : ¬ 5 < t2 + (e2 : Int) := by omega
        cases p' with
        | true =>
          have h5 : t + (e1 : Int) = 5 := HI'.out.1 rfl
          have hb5 := bneF h5
          have H5 := Lib.hid h5
          clear h5
          go_wp2_with fail
          go_roundw
          case rel => exact ⟨k + 1, nw + x, t + e1, n', t2 + e2, n2', true, p2', rfl, rfl, rfl, by go_num, by omega, by omega, by omega, by omega, ⟨fun _ => H5.out, fun h => (by cases h), HI'.out.2.2.1, HI'.out.2.2.2⟩, HND, HDD, HKD, HBD⟩
          case measure => simp [intOf]; omega
        | false =>
          have h16 := HI'.out.2.1 rfl
          have hnow := HF.out rfl
          go_wp2_with fail
          go_roundw
          case rel => exact ⟨k + 1, nw + x, t + e1, n', t2 + e2, n2', false, p2', rfl, rfl, rfl, by go_num, by omega, by omega, by omega, by omega, ⟨fun h => (by cases h), fun _ => h16, HI'.out.2.2.1, HI'.out.2.2.2⟩, HND, HDD, HKD, HBD⟩
          case measure => simp [intOf]; omega
      · obtain rfl : k = L.length := by omega
        obtain ⟨k0, k1, _, _⟩ := cell2 HK.out
        go_wp2_with fail
        refine (stop_wa wr a b _ o d HN.out (by omega)).mono ?_
        rintro e wA ⟨rfl, hwA, hgA⟩
        rw [stop_self] at hwA
        have HNA := Lib.hid hwA
        have HBA := Lib.hid (HB.out.grown hgA HB.out.size (fun j hj => by cases hj; omega))
        clear hwA hgA
        go_wp2_with fail
        refine (list_wa wA a b [] HNA.out Wa.Good.nil (by simp)).mono ?_
        rintro e wB ⟨vB, rfl, hoB, hbB⟩
        obtain ⟨AB, cB, rfl, _⟩ := own_slice hoB
        have HNB := Lib.hid (HNA.out.below hbB)
        have HBB := Lib.hid (bch HBA.out hbB HBA.out.size)
        clear hoB hbB
        go_wp2_with fail
        refine (tick_wa wB a b [] 1073741824 HNB.out Wa.Good.nil (by simp)).mono ?_
        rintro e wC ⟨vC, rfl, hoC, _, hgC⟩
        obtain ⟨AC, cC, rfl, _⟩ := own_slice hoC
        have HBC := Lib.hid (HBB.out.grown hgC HBB.out.size (fun j hj => by cases hj; omega))
        clear hoC hgC
        rw [show (toldW [] 1073741824).length = 0 from rfl]
        go_wp2_with fail
        refine (waited_true wC).mono ?_
        rintro e wD ⟨rfl, hbD⟩
        have HBD := Lib.hid (bch HBC.out hbD HBC.out.size)
        clear hbD
        go_wp2_with fail
        go_ret
        exact ⟨rfl, HBD.out⟩
end Go.Proofs.Ytiapahafaoaniaa

/- rows.Check, of rows that may be. -/
import Derived.Test.YtkmpagijdhhinaaDoorPartyTell
import Derived.Test.YtkmpagijdhhinaaDoorPartyPure
namespace Go.Proofs.YtkmpagijdhhinaaDoor
open Go.RowKit Go.Maps Key Od Pa

set_option linter.unusedSimpArgs false in
set_option linter.unusedVariables false in
set_option maxRecDepth 100000 in
set_option maxHeartbeats 2000000 in
theorem rowMay_true (w : World) (o d c a q kind : Int) (hT : PT w) (hc : chk o d = true) (hp : partyI d = kind) (ho : rowOk kind ((o, d), c, a, q)) :
    Calls Tryd.prog 45 #[.agg #[.int .i64 o, .int .i64 d, .int .i64 c, .int .i64 a, .int .i64 q], .int .i64 kind] w fun e w' => e = .returned (.bool true) ∧ Below w.heap.size w w' := by
  have HC := Lib.hid (fun W => (check_any o d W).mono (fun e w' h => (⟨by rw [h.1, hc], h.2⟩ : e = .returned (.bool true) ∧ Below W.heap.size W w')))
  have HP := Lib.hid (fun W (hb : Below w.heap.size w W) => (party_any d W (hT.below hb)).mono (fun e w' h => (⟨by rw [h.1, hp], h.2⟩ : e = .returned (.int .i64 kind) ∧ W = w')))
  clear hT hc hp
  rcases ho with ⟨h1, h2, h3⟩ | ⟨h1, ⟨rfl, h3, ha0, ha1⟩ | ⟨hk, h3, hq0, hq1⟩⟩
  · simp only at h1 h2 h3
    subst h1 h2 h3
    have HB := Lib.hid (below_alloc w (.cells #[.int .i64 o, .int .i64 d, .int .i64 2, .int .i64 0, .int .i64 0] tRow))
    have HM := Lib.hid (heap_new w (.cells #[.int .i64 o, .int .i64 d, .int .i64 2, .int .i64 0, .int .i64 0] tRow))
    go_enter Tryd.func45, Tryd.ntmps45
    go_wp2_with fail
    generalize w.alloc (.cells #[.int .i64 o, .int .i64 d, .int .i64 2, .int .i64 0, .int .i64 0] tRow) = wa at HB HM ⊢
    obtain ⟨m0, m1, m2, m3, m4⟩ := cell5 HM.out
    go_wp2_with fail
    refine (HC.out _).mono ?_
    rintro e w1 ⟨rfl, hb⟩
    have HB1 := Lib.hid (bch HB.out hb HB.out.size)
    have HM1 := Lib.hid (heap_keep HM.out hb)
    clear hb m0 m1 m2 m3 m4
    obtain ⟨m0, m1, m2, m3, m4⟩ := cell5 HM1.out
    go_wp2_with fail
    refine (HP.out _ HB1.out).mono ?_
    rintro e w2 ⟨rfl, hw⟩; subst hw
    go_wp2_with fail
    go_ret
    exact ⟨rfl, HB1.out⟩
  · simp only at h1 h3 ha0 ha1
    subst h1 h3
    have HB := Lib.hid (below_alloc w (.cells #[.int .i64 o, .int .i64 d, .int .i64 1, .int .i64 a, .int .i64 0] tRow))
    have HM := Lib.hid (heap_new w (.cells #[.int .i64 o, .int .i64 d, .int .i64 1, .int .i64 a, .int .i64 0] tRow))
    go_enter Tryd.func45, Tryd.ntmps45
    go_wp2_with fail
    generalize w.alloc (.cells #[.int .i64 o, .int .i64 d, .int .i64 1, .int .i64 a, .int .i64 0] tRow) = wa at HB HM ⊢
    obtain ⟨m0, m1, m2, m3, m4⟩ := cell5 HM.out
    go_wp2_with fail
    refine (HC.out _).mono ?_
    rintro e w1 ⟨rfl, hb⟩
    have HB1 := Lib.hid (bch HB.out hb HB.out.size)
    have HM1 := Lib.hid (heap_keep HM.out hb)
    clear hb m0 m1 m2 m3 m4
    obtain ⟨m0, m1, m2, m3, m4⟩ := cell5 HM1.out
    go_wp2_with fail
    refine (HP.out _ HB1.out).mono ?_
    rintro e w2 ⟨rfl, hw⟩; subst hw
    go_wp2_with fail
    go_ret
    exact ⟨rfl, HB1.out⟩
  · simp only at h1 h3 hq0 hq1
    subst h1 h3
    have hk' := beqF hk
    have HB := Lib.hid (below_alloc w (.cells #[.int .i64 o, .int .i64 d, .int .i64 1, .int .i64 0, .int .i64 q] tRow))
    have HM := Lib.hid (heap_new w (.cells #[.int .i64 o, .int .i64 d, .int .i64 1, .int .i64 0, .int .i64 q] tRow))
    go_enter Tryd.func45, Tryd.ntmps45
    go_wp2_with fail
    generalize w.alloc (.cells #[.int .i64 o, .int .i64 d, .int .i64 1, .int .i64 0, .int .i64 q] tRow) = wa at HB HM ⊢
    obtain ⟨m0, m1, m2, m3, m4⟩ := cell5 HM.out
    go_wp2_with fail
    refine (HC.out _).mono ?_
    rintro e w1 ⟨rfl, hb⟩
    have HB1 := Lib.hid (bch HB.out hb HB.out.size)
    have HM1 := Lib.hid (heap_keep HM.out hb)
    clear hb m0 m1 m2 m3 m4
    obtain ⟨m0, m1, m2, m3, m4⟩ := cell5 HM1.out
    go_wp2_with fail
    refine (HP.out _ HB1.out).mono ?_
    rintro e w2 ⟨rfl, hw⟩; subst hw
    go_wp2_with fail
    go_ret
    exact ⟨rfl, HB1.out⟩
set_option linter.unusedSimpArgs false in
set_option linter.unusedVariables false in
set_option maxRecDepth 100000 in
set_option maxHeartbeats 2000000 in
theorem rowsCheck_true (w : World) (B : Nat) (v : Value) (l : List R5) (kind : Int) (hu : w.ownsRow B tRow 5 v l.length (l.flatMap encR)) (hT : PT w) (hk : 0 ≤ kind ∧ kind ≤ 2) (hl : l.length ≤ 400) (hr : Rise l) (hck : ∀ x ∈ l, chk x.1.1 x.1.2 = true ∧ partyI x.1.2 = kind) (ho : ∀ x ∈ l, rowOk kind x) :
    Calls Tryd.prog 22 #[v, .int .i64 kind] w fun e w' => e = .returned (.bool true) ∧ Below w.heap.size w w' := by
  obtain ⟨A, c, rfl, hA⟩ := own_slice hu
  have HA := Lib.hid hA
  have HU := Lib.hid hu
  have HT := Lib.hid hT
  have HR := Lib.hid hr
  have HCK := Lib.hid hck
  have HO := Lib.hid ho
  have hl' : (l.length : Int) ≤ 400 := by omega
  clear hu hA hT hr hck ho
  go_enter Tryd.func22, Tryd.ntmps22
  go_wp2_with fail
  go_loopw [5, 6, 20] (fun _ _ i wr => ∃ k : Nat, i = .int .i64 k ∧ k ≤ l.length ∧ Hid (Below w.heap.size w wr)) (fun _ _ i _ => l.length - (intOf i).toNat)
  case atStart => exact ⟨0, rfl, by omega, Below.refl _ _⟩
  case round =>
    obtain ⟨k, rfl, hk', HBr⟩ := hrel
    by_cases hkl : k < l.length
    · obtain ⟨x, hx⟩ : ∃ x, l[k]? = some x := ⟨_, List.getElem?_eq_getElem hkl⟩
      obtain ⟨g, rfl, _, _⟩ := HA.out (by omega)
      have hxm := List.mem_of_getElem? hx
      have c0 := own_cellK encR_len (by omega) (own_keep HU.out HBr.out) hx 0 (by omega)
      have c1 := own_cellK encR_len (by omega) (own_keep HU.out HBr.out) hx 1 (by omega)
      have c2 := own_cellK encR_len (by omega) (own_keep HU.out HBr.out) hx 2 (by omega)
      have c3 := own_cellK encR_len (by omega) (own_keep HU.out HBr.out) hx 3 (by omega)
      have c4 := own_cellK encR_len (by omega) (own_keep HU.out HBr.out) hx 4 (by omega)
      obtain ⟨⟨o, d⟩, t, n, p⟩ := x
      simp only [encR, List.getElem?_cons_zero, List.getElem?_cons_succ] at c0 c1 c2 c3 c4
      rw [Nat.add_zero] at c0
      have hlt : (k : Int) < l.length := by omega
      have hk0 : (0 : Int) ≤ k := by omega
      have HMay := Lib.hid (fun W (hb : Below w.heap.size w W) => rowMay_true W o d t n p kind (HT.out.below hb) (HCK.out _ hxm).1 (HCK.out _ hxm).2 (HO.out _ hxm))
      have HX := Lib.hid hx
      clear hx hxm
      have HB1 := Lib.hid (HBr.out.alloc HBr.out.size (.cells #[.int .i64 o, .int .i64 d, .int .i64 t, .int .i64 n, .int .i64 p] tRow))
      have HM1 := Lib.hid (heap_new wr (.cells #[.int .i64 o, .int .i64 d, .int .i64 t, .int .i64 n, .int .i64 p] tRow))
      go_wp2_with fail
      generalize hz : wr.alloc (.cells #[.int .i64 o, .int .i64 d, .int .i64 t, .int .i64 n, .int .i64 p] tRow) = wz at HB1 HM1 ⊢
      have HBz := Lib.hid (show Below wr.heap.size wr wz by rw [← hz]; exact below_alloc _ _)
      have HMay' := Lib.hid (fun W (hb : Below wz.heap.size wz W) => HMay.out W (bch HB1.out hb HB1.out.size))
      have HUz := Lib.hid (own_keep HU.out (bch HBr.out HBz.out HBr.out.size))
      clear hz c0 c1 c2 c3 c4 HBz
      generalize wr.heap.size = b0 at HM1 ⊢
      cases k with
      | zero =>
        rw [show ((0 : Nat) : Int) = 0 from rfl] at hlt hk0 ⊢
        refine wp_region_noPanic ?_
        refine wp_region_held_drew (S := (fun w' => Hid (Below wz.heap.size wz w') ∧ w'.cell? ⟨b0, 0, none⟩ = some (.int .i64 o) ∧ w'.cell? ⟨b0, 1, none⟩ = some (.int .i64 d) ∧ w'.cell? ⟨b0, 2, none⟩ = some (.int .i64 t) ∧ w'.cell? ⟨b0, 3, none⟩ = some (.int .i64 n) ∧ w'.cell? ⟨b0, 4, none⟩ = some (.int .i64 p))) (by kernel_rfl) ⟨(below_drew1 (Below.refl _ wz)), cell_at ((((below_drew1 (Below.refl _ wz))).block _ (heap_lt HM1.out)).trans HM1.out) 0 rfl, cell_at ((((below_drew1 (Below.refl _ wz))).block _ (heap_lt HM1.out)).trans HM1.out) 1 rfl, cell_at ((((below_drew1 (Below.refl _ wz))).block _ (heap_lt HM1.out)).trans HM1.out) 2 rfl, cell_at ((((below_drew1 (Below.refl _ wz))).block _ (heap_lt HM1.out)).trans HM1.out) 3 rfl, cell_at ((((below_drew1 (Below.refl _ wz))).block _ (heap_lt HM1.out)).trans HM1.out) 4 rfl⟩ (fun hHeld => ?_)
        refine wpAnyH_take (i := 0) (v := ?va0) rfl (by kernel_rfl) (by kernel_rfl) (by kernel_rfl) (fun _ _ _ h => h) (Or.inl ⟨by rfl, ?hya0⟩) (by assumption) ?resta0
        case hya0 => (intro w0 hSw; (try dsimp only at hSw); go_simp; try with_reducible rfl)
        case' resta0 => try simp only [Act.put, List.getElem_toArray, List.getElem_cons_zero, List.getElem_cons_succ, List.setIfInBounds_toArray, List.set_cons_zero, List.set_cons_succ]
        refine wpAnyH_take (i := 1) (v := ?va1) rfl (by kernel_rfl) (by kernel_rfl) (by kernel_rfl) (fun _ _ _ h => h) (Or.inl ⟨by rfl, ?hya1⟩) (by assumption) ?resta1
        case hya1 => (intro w0 hSw; (try dsimp only at hSw); go_simp; try with_reducible rfl)
        case' resta1 => try simp only [Act.put, List.getElem_toArray, List.getElem_cons_zero, List.getElem_cons_succ, List.setIfInBounds_toArray, List.set_cons_zero, List.set_cons_succ]
        refine wpAnyH_ready (rs := [2]) (by kernel_rfl) (by simp) ?_
        refine AllReadyH.cons rfl (fun K hK => ?_) AllReadyH.nil
        go_simp
        refine (HMay'.out _ (Hid.out (And.left (by assumption)))).mono ?_; rintro e w1 ⟨rfl, hb⟩
        have hbk := bch (Hid.out (And.left (by assumption))) hb (Below.size (Hid.out (And.left (by assumption))))
        refine hK.out _ _ ⟨hbk, cell_at (((hbk).block _ (heap_lt HM1.out)).trans HM1.out) 0 rfl, cell_at (((hbk).block _ (heap_lt HM1.out)).trans HM1.out) 1 rfl, cell_at (((hbk).block _ (heap_lt HM1.out)).trans HM1.out) 2 rfl, cell_at (((hbk).block _ (heap_lt HM1.out)).trans HM1.out) 3 rfl, cell_at (((hbk).block _ (heap_lt HM1.out)).trans HM1.out) 4 rfl⟩ (fun hHeld => ?_)
        clear hK K hb hbk
        try simp only [Act.put, List.getElem_toArray, List.getElem_cons_zero, List.getElem_cons_succ, List.setIfInBounds_toArray, List.set_cons_zero, List.set_cons_succ]
        refine wpAnyH_take (i := 3) (v := ?va3) rfl (by kernel_rfl) (by kernel_rfl) (by kernel_rfl) (fun _ _ _ h => h) (Or.inl ⟨by rfl, ?hya3⟩) (by assumption) ?resta3
        case hya3 => (intro w0 hSw; (try dsimp only at hSw); go_simp; try with_reducible rfl)
        case' resta3 => try simp only [Act.put, List.getElem_toArray, List.getElem_cons_zero, List.getElem_cons_succ, List.setIfInBounds_toArray, List.set_cons_zero, List.set_cons_succ]
        refine wpAnyH_take (i := 4) (v := ?va4) rfl (by kernel_rfl) (by kernel_rfl) (by kernel_rfl) (fun _ _ _ h => h) (Or.inl ⟨by rfl, ?hya4⟩) (by assumption) ?resta4
        case hya4 => (intro w0 hSw; (try dsimp only at hSw); go_simp; try with_reducible rfl)
        case' resta4 => try simp only [Act.put, List.getElem_toArray, List.getElem_cons_zero, List.getElem_cons_succ, List.setIfInBounds_toArray, List.set_cons_zero, List.set_cons_succ]
        refine wpAnyH_take (i := 5) (v := ?va5) rfl (by kernel_rfl) (by kernel_rfl) (by kernel_rfl) (fun _ _ _ h => h) (Or.inl ⟨by rfl, ?hya5⟩) (by assumption) ?resta5
        case hya5 => (intro w0 hSw; (try dsimp only at hSw); go_simp; try with_reducible rfl)
        case' resta5 => try simp only [Act.put, List.getElem_toArray, List.getElem_cons_zero, List.getElem_cons_succ, List.setIfInBounds_toArray, List.set_cons_zero, List.set_cons_succ]
        refine wpAnyH_take (i := 6) (v := ?va6) rfl (by kernel_rfl) (by kernel_rfl) (by kernel_rfl) (fun _ _ _ h => h) (Or.inl ⟨by rfl, ?hya6⟩) (by assumption) ?resta6
        case hya6 => (intro w0 hSw; (try dsimp only at hSw); go_simp; try with_reducible rfl)
        case' resta6 => try simp only [Act.put, List.getElem_toArray, List.getElem_cons_zero, List.getElem_cons_succ, List.setIfInBounds_toArray, List.set_cons_zero, List.set_cons_succ]
        refine wpAnyH_take (i := 7) (v := ?va7) rfl (by kernel_rfl) (by kernel_rfl) (by kernel_rfl) (fun _ _ _ h => h) (Or.inl ⟨by rfl, ?hya7⟩) (by assumption) ?resta7
        case hya7 => (intro w0 hSw; (try dsimp only at hSw); go_simp; try with_reducible rfl)
        case' resta7 => try simp only [Act.put, List.getElem_toArray, List.getElem_cons_zero, List.getElem_cons_succ, List.setIfInBounds_toArray, List.set_cons_zero, List.set_cons_succ]
        refine wpAnyH_take (i := 8) (v := undef) rfl (by kernel_rfl) (by kernel_rfl) (by kernel_rfl) (fun _ _ _ h => h) (Or.inr ⟨by rfl, rfl⟩) (by assumption) ?_
        try simp only [Act.put, List.getElem_toArray, List.getElem_cons_zero, List.getElem_cons_succ, List.setIfInBounds_toArray, List.set_cons_zero, List.set_cons_succ]
        refine wpAnyH_take (i := 9) (v := undef) rfl (by kernel_rfl) (by kernel_rfl) (by kernel_rfl) (fun _ _ _ h => h) (Or.inr ⟨by rfl, rfl⟩) (by assumption) ?_
        try simp only [Act.put, List.getElem_toArray, List.getElem_cons_zero, List.getElem_cons_succ, List.setIfInBounds_toArray, List.set_cons_zero, List.set_cons_succ]
        refine wpAnyH_take (i := 10) (v := undef) rfl (by kernel_rfl) (by kernel_rfl) (by kernel_rfl) (fun _ _ _ h => h) (Or.inr ⟨by rfl, rfl⟩) (by assumption) ?_
        try simp only [Act.put, List.getElem_toArray, List.getElem_cons_zero, List.getElem_cons_succ, List.setIfInBounds_toArray, List.set_cons_zero, List.set_cons_succ]
        refine wpAnyH_take (i := 11) (v := undef) rfl (by kernel_rfl) (by kernel_rfl) (by kernel_rfl) (fun _ _ _ h => h) (Or.inr ⟨by rfl, rfl⟩) (by assumption) ?_
        try simp only [Act.put, List.getElem_toArray, List.getElem_cons_zero, List.getElem_cons_succ, List.setIfInBounds_toArray, List.set_cons_zero, List.set_cons_succ]
        refine wpAnyH_take (i := 12) (v := undef) rfl (by kernel_rfl) (by kernel_rfl) (by kernel_rfl) (fun _ _ _ h => h) (Or.inr ⟨by rfl, rfl⟩) (by assumption) ?_
        try simp only [Act.put, List.getElem_toArray, List.getElem_cons_zero, List.getElem_cons_succ, List.setIfInBounds_toArray, List.set_cons_zero, List.set_cons_succ]
        refine wpAnyH_take (i := 13) (v := undef) rfl (by kernel_rfl) (by kernel_rfl) (by kernel_rfl) (fun _ _ _ h => h) (Or.inr ⟨by rfl, rfl⟩) (by assumption) ?_
        try simp only [Act.put, List.getElem_toArray, List.getElem_cons_zero, List.getElem_cons_succ, List.setIfInBounds_toArray, List.set_cons_zero, List.set_cons_succ]
        refine wpAnyH_take (i := 14) (v := undef) rfl (by kernel_rfl) (by kernel_rfl) (by kernel_rfl) (fun _ _ _ h => h) (Or.inr ⟨by rfl, rfl⟩) (by assumption) ?_
        try simp only [Act.put, List.getElem_toArray, List.getElem_cons_zero, List.getElem_cons_succ, List.setIfInBounds_toArray, List.set_cons_zero, List.set_cons_succ]
        refine wpAnyH_take (i := 15) (v := undef) rfl (by kernel_rfl) (by kernel_rfl) (by kernel_rfl) (fun _ _ _ h => h) (Or.inr ⟨by rfl, rfl⟩) (by assumption) ?_
        try simp only [Act.put, List.getElem_toArray, List.getElem_cons_zero, List.getElem_cons_succ, List.setIfInBounds_toArray, List.set_cons_zero, List.set_cons_succ]
        refine wpAnyH_take (i := 16) (v := undef) rfl (by kernel_rfl) (by kernel_rfl) (by kernel_rfl) (fun _ _ _ h => h) (Or.inr ⟨by rfl, rfl⟩) (by assumption) ?_
        try simp only [Act.put, List.getElem_toArray, List.getElem_cons_zero, List.getElem_cons_succ, List.setIfInBounds_toArray, List.set_cons_zero, List.set_cons_succ]
        refine wpAnyH_take (i := 17) (v := undef) rfl (by kernel_rfl) (by kernel_rfl) (by kernel_rfl) (fun _ _ _ h => h) (Or.inr ⟨by rfl, rfl⟩) (by assumption) ?_
        try simp only [Act.put, List.getElem_toArray, List.getElem_cons_zero, List.getElem_cons_succ, List.setIfInBounds_toArray, List.set_cons_zero, List.set_cons_succ]
        refine wpAnyH_take (i := 18) (v := ?va18) rfl (by kernel_rfl) (by kernel_rfl) (by kernel_rfl) (fun _ _ _ h => h) (Or.inl ⟨by rfl, ?hya18⟩) (by assumption) ?resta18
        case hya18 => (intro w0 hSw; (try dsimp only at hSw); go_simp; try with_reducible rfl)
        case' resta18 => try simp only [Act.put, List.getElem_toArray, List.getElem_cons_zero, List.getElem_cons_succ, List.setIfInBounds_toArray, List.set_cons_zero, List.set_cons_succ]
        refine wpAnyH_take (i := 19) (v := ?va19) rfl (by kernel_rfl) (by kernel_rfl) (by kernel_rfl) (fun _ _ _ h => h) (Or.inl ⟨by rfl, ?hya19⟩) (by assumption) ?resta19
        case hya19 => (intro w0 hSw; (try dsimp only at hSw); go_simp; try with_reducible rfl)
        case' resta19 => try simp only [Act.put, List.getElem_toArray, List.getElem_cons_zero, List.getElem_cons_succ, List.setIfInBounds_toArray, List.set_cons_zero, List.set_cons_succ]
        refine wpAnyH_done (by kernel_rfl) ?_ _
        refine NoPanic.normal ?_
        have HBx := Lib.hid (bch HB1.out (Hid.out hHeld.1) HB1.out.size)
        clear hHeld
        go_wp2_with fail
        go_roundw
        case rel => exact ⟨1, rfl, by omega, HBx⟩
        case measure => simp [intOf]; omega
      | succ j =>
        obtain ⟨y, hy⟩ : ∃ y, l[j]? = some y := ⟨_, List.getElem?_eq_getElem (by omega)⟩
        have hle := List.pairwise_iff_getElem.1 HR.out j (j + 1) (by omega) hkl (by omega)
        rw [(List.getElem?_eq_some_iff.1 hy).2, (List.getElem?_eq_some_iff.1 HX.out).2] at hle
        obtain ⟨⟨o', d'⟩, t', n', p'⟩ := y
        have HL := Lib.hid (fun W => (less_any o' d' o d W).mono (fun e w' h => (⟨by rw [h.1, show lessB o' d' o d = true from hle], h.2⟩ : e = .returned (.bool true) ∧ Below W.heap.size W w')))
        have HD := Lib.hid (fun W (hb : Below wz.heap.size wz W) => (by
          have d0 := own_cellK encR_len (by omega) (own_keep HUz.out hb) hy 0 (by omega)
          have d1 := own_cellK encR_len (by omega) (own_keep HUz.out hb) hy 1 (by omega)
          simp only [encR, List.getElem?_cons_zero, List.getElem?_cons_succ] at d0 d1
          rw [Nat.add_zero] at d0
          exact ⟨d0, d1⟩ : W.cell? ⟨g, j * 5, none⟩ = some (.int .i64 o') ∧ W.cell? ⟨g, j * 5 + 1, none⟩ = some (.int .i64 d')))
        clear hle hy
        have hwr : IntKind.i64.wrap (j : Int) = j := by rw [IntKind.wrap_i64]; omega
        have hjl : j < l.length := by omega
        rw [show ((j + 1 : Nat) : Int) = (j : Int) + 1 from rfl] at hlt hk0 ⊢
        refine wp_region_noPanic ?_
        refine wp_region_held_drew (S := (fun w' => Hid (Below wz.heap.size wz w') ∧ w'.cell? ⟨b0, 0, none⟩ = some (.int .i64 o) ∧ w'.cell? ⟨b0, 1, none⟩ = some (.int .i64 d) ∧ w'.cell? ⟨b0, 2, none⟩ = some (.int .i64 t) ∧ w'.cell? ⟨b0, 3, none⟩ = some (.int .i64 n) ∧ w'.cell? ⟨b0, 4, none⟩ = some (.int .i64 p) ∧ w'.cell? ⟨g, j * 5, none⟩ = some (.int .i64 o') ∧ w'.cell? ⟨g, j * 5 + 1, none⟩ = some (.int .i64 d'))) (by kernel_rfl) ⟨(below_drew1 (Below.refl _ wz)), cell_at ((((below_drew1 (Below.refl _ wz))).block _ (heap_lt HM1.out)).trans HM1.out) 0 rfl, cell_at ((((below_drew1 (Below.refl _ wz))).block _ (heap_lt HM1.out)).trans HM1.out) 1 rfl, cell_at ((((below_drew1 (Below.refl _ wz))).block _ (heap_lt HM1.out)).trans HM1.out) 2 rfl, cell_at ((((below_drew1 (Below.refl _ wz))).block _ (heap_lt HM1.out)).trans HM1.out) 3 rfl, cell_at ((((below_drew1 (Below.refl _ wz))).block _ (heap_lt HM1.out)).trans HM1.out) 4 rfl, (HD.out _ ((below_drew1 (Below.refl _ wz)))).1, (HD.out _ ((below_drew1 (Below.refl _ wz)))).2⟩ (fun hHeld => ?_)
        refine wpAnyH_take (i := 0) (v := ?vb0) rfl (by kernel_rfl) (by kernel_rfl) (by kernel_rfl) (fun _ _ _ h => h) (Or.inl ⟨by rfl, ?hyb0⟩) (by assumption) ?restb0
        case hyb0 => (intro w0 hSw; (try dsimp only at hSw); go_simp; try with_reducible rfl)
        case' restb0 => try simp only [Act.put, List.getElem_toArray, List.getElem_cons_zero, List.getElem_cons_succ, List.setIfInBounds_toArray, List.set_cons_zero, List.set_cons_succ]
        refine wpAnyH_take (i := 1) (v := ?vb1) rfl (by kernel_rfl) (by kernel_rfl) (by kernel_rfl) (fun _ _ _ h => h) (Or.inl ⟨by rfl, ?hyb1⟩) (by assumption) ?restb1
        case hyb1 => (intro w0 hSw; (try dsimp only at hSw); go_simp; try with_reducible rfl)
        case' restb1 => try simp only [Act.put, List.getElem_toArray, List.getElem_cons_zero, List.getElem_cons_succ, List.setIfInBounds_toArray, List.set_cons_zero, List.set_cons_succ]
        refine wpAnyH_ready (rs := [2]) (by kernel_rfl) (by simp) ?_
        refine AllReadyH.cons rfl (fun K hK => ?_) AllReadyH.nil
        go_simp
        refine (HMay'.out _ (Hid.out (And.left (by assumption)))).mono ?_; rintro e w1 ⟨rfl, hb⟩
        have hbk := bch (Hid.out (And.left (by assumption))) hb (Below.size (Hid.out (And.left (by assumption))))
        refine hK.out _ _ ⟨hbk, cell_at (((hbk).block _ (heap_lt HM1.out)).trans HM1.out) 0 rfl, cell_at (((hbk).block _ (heap_lt HM1.out)).trans HM1.out) 1 rfl, cell_at (((hbk).block _ (heap_lt HM1.out)).trans HM1.out) 2 rfl, cell_at (((hbk).block _ (heap_lt HM1.out)).trans HM1.out) 3 rfl, cell_at (((hbk).block _ (heap_lt HM1.out)).trans HM1.out) 4 rfl, (HD.out _ (hbk)).1, (HD.out _ (hbk)).2⟩ (fun hHeld => ?_)
        clear hK K hb hbk
        try simp only [Act.put, List.getElem_toArray, List.getElem_cons_zero, List.getElem_cons_succ, List.setIfInBounds_toArray, List.set_cons_zero, List.set_cons_succ]
        refine wpAnyH_take (i := 3) (v := ?vb3) rfl (by kernel_rfl) (by kernel_rfl) (by kernel_rfl) (fun _ _ _ h => h) (Or.inl ⟨by rfl, ?hyb3⟩) (by assumption) ?restb3
        case hyb3 => (intro w0 hSw; (try dsimp only at hSw); go_simp; try with_reducible rfl)
        case' restb3 => try simp only [Act.put, List.getElem_toArray, List.getElem_cons_zero, List.getElem_cons_succ, List.setIfInBounds_toArray, List.set_cons_zero, List.set_cons_succ]
        refine wpAnyH_take (i := 4) (v := ?vb4) rfl (by kernel_rfl) (by kernel_rfl) (by kernel_rfl) (fun _ _ _ h => h) (Or.inl ⟨by rfl, ?hyb4⟩) (by assumption) ?restb4
        case hyb4 => (intro w0 hSw; (try dsimp only at hSw); go_simp; try with_reducible rfl)
        case' restb4 => try simp only [Act.put, List.getElem_toArray, List.getElem_cons_zero, List.getElem_cons_succ, List.setIfInBounds_toArray, List.set_cons_zero, List.set_cons_succ]
        refine wpAnyH_take (i := 5) (v := ?vb5) rfl (by kernel_rfl) (by kernel_rfl) (by kernel_rfl) (fun _ _ _ h => h) (Or.inl ⟨by rfl, ?hyb5⟩) (by assumption) ?restb5
        case hyb5 => (intro w0 hSw; (try dsimp only at hSw); go_simp; try with_reducible rfl)
        case' restb5 => try simp only [Act.put, List.getElem_toArray, List.getElem_cons_zero, List.getElem_cons_succ, List.setIfInBounds_toArray, List.set_cons_zero, List.set_cons_succ]
        refine wpAnyH_take (i := 6) (v := ?vb6) rfl (by kernel_rfl) (by kernel_rfl) (by kernel_rfl) (fun _ _ _ h => h) (Or.inl ⟨by rfl, ?hyb6⟩) (by assumption) ?restb6
        case hyb6 => (intro w0 hSw; (try dsimp only at hSw); go_simp; try with_reducible rfl)
        case' restb6 => try simp only [Act.put, List.getElem_toArray, List.getElem_cons_zero, List.getElem_cons_succ, List.setIfInBounds_toArray, List.set_cons_zero, List.set_cons_succ]
        refine wpAnyH_take (i := 7) (v := ?vb7) rfl (by kernel_rfl) (by kernel_rfl) (by kernel_rfl) (fun _ _ _ h => h) (Or.inl ⟨by rfl, ?hyb7⟩) (by assumption) ?restb7
        case hyb7 => (intro w0 hSw; (try dsimp only at hSw); go_simp; try with_reducible rfl)
        case' restb7 => try simp only [Act.put, List.getElem_toArray, List.getElem_cons_zero, List.getElem_cons_succ, List.setIfInBounds_toArray, List.set_cons_zero, List.set_cons_succ]
        refine wpAnyH_take (i := 8) (v := ?vb8) rfl (by kernel_rfl) (by kernel_rfl) (by kernel_rfl) (fun _ _ _ h => h) (Or.inl ⟨by rfl, ?hyb8⟩) (by assumption) ?restb8
        case hyb8 => (intro w0 hSw; (try dsimp only at hSw); go_simp; try with_reducible rfl)
        case' restb8 => try simp only [Act.put, List.getElem_toArray, List.getElem_cons_zero, List.getElem_cons_succ, List.setIfInBounds_toArray, List.set_cons_zero, List.set_cons_succ]
        refine wpAnyH_take (i := 9) (v := ?vb9) rfl (by kernel_rfl) (by kernel_rfl) (by kernel_rfl) (fun _ _ _ h => h) (Or.inl ⟨by rfl, ?hyb9⟩) (by assumption) ?restb9
        case hyb9 => (intro w0 hSw; (try dsimp only at hSw); go_simp; try with_reducible rfl)
        case' restb9 => try simp only [Act.put, List.getElem_toArray, List.getElem_cons_zero, List.getElem_cons_succ, List.setIfInBounds_toArray, List.set_cons_zero, List.set_cons_succ]
        refine wpAnyH_take (i := 10) (v := ?vb10) rfl (by kernel_rfl) (by kernel_rfl) (by kernel_rfl) (fun _ _ _ h => h) (Or.inl ⟨by rfl, ?hyb10⟩) (by assumption) ?restb10
        case hyb10 => (intro w0 hSw; (try dsimp only at hSw); go_simp; try with_reducible rfl)
        case' restb10 => try simp only [Act.put, List.getElem_toArray, List.getElem_cons_zero, List.getElem_cons_succ, List.setIfInBounds_toArray, List.set_cons_zero, List.set_cons_succ]
        refine wpAnyH_take (i := 11) (v := ?vb11) rfl (by kernel_rfl) (by kernel_rfl) (by kernel_rfl) (fun _ _ _ h => h) (Or.inl ⟨by rfl, ?hyb11⟩) (by assumption) ?restb11
        case hyb11 => (intro w0 hSw; (try dsimp only at hSw); go_simp; try with_reducible rfl)
        case' restb11 => try simp only [Act.put, List.getElem_toArray, List.getElem_cons_zero, List.getElem_cons_succ, List.setIfInBounds_toArray, List.set_cons_zero, List.set_cons_succ]
        refine wpAnyH_take (i := 12) (v := ?vb12) rfl (by kernel_rfl) (by kernel_rfl) (by kernel_rfl) (fun _ _ _ h => h) (Or.inl ⟨by rfl, ?hyb12⟩) (by assumption) ?restb12
        case hyb12 => (intro w0 hSw; (try dsimp only at hSw); go_simp; try with_reducible rfl)
        case' restb12 => try simp only [Act.put, List.getElem_toArray, List.getElem_cons_zero, List.getElem_cons_succ, List.setIfInBounds_toArray, List.set_cons_zero, List.set_cons_succ]
        refine wpAnyH_take (i := 13) (v := ?vb13) rfl (by kernel_rfl) (by kernel_rfl) (by kernel_rfl) (fun _ _ _ h => h) (Or.inl ⟨by rfl, ?hyb13⟩) (by assumption) ?restb13
        case hyb13 => (intro w0 hSw; (try dsimp only at hSw); go_simp; try with_reducible rfl)
        case' restb13 => try simp only [Act.put, List.getElem_toArray, List.getElem_cons_zero, List.getElem_cons_succ, List.setIfInBounds_toArray, List.set_cons_zero, List.set_cons_succ]
        refine wpAnyH_take (i := 14) (v := ?vb14) rfl (by kernel_rfl) (by kernel_rfl) (by kernel_rfl) (fun _ _ _ h => h) (Or.inl ⟨by rfl, ?hyb14⟩) (by assumption) ?restb14
        case hyb14 => (intro w0 hSw; (try dsimp only at hSw); go_simp; try with_reducible rfl)
        case' restb14 => try simp only [Act.put, List.getElem_toArray, List.getElem_cons_zero, List.getElem_cons_succ, List.setIfInBounds_toArray, List.set_cons_zero, List.set_cons_succ]
        refine wpAnyH_take (i := 15) (v := ?vb15) rfl (by kernel_rfl) (by kernel_rfl) (by kernel_rfl) (fun _ _ _ h => h) (Or.inl ⟨by rfl, ?hyb15⟩) (by assumption) ?restb15
        case hyb15 => (intro w0 hSw; (try dsimp only at hSw); go_simp; try with_reducible rfl)
        case' restb15 => try simp only [Act.put, List.getElem_toArray, List.getElem_cons_zero, List.getElem_cons_succ, List.setIfInBounds_toArray, List.set_cons_zero, List.set_cons_succ]
        refine wpAnyH_ready (rs := [16]) (by kernel_rfl) (by simp) ?_
        refine AllReadyH.cons rfl (fun K hK => ?_) AllReadyH.nil
        go_simp
        refine (HL.out _).mono ?_; rintro e w1 ⟨rfl, hb⟩
        have hbk := bch (Hid.out (And.left (by assumption))) hb (Below.size (Hid.out (And.left (by assumption))))
        refine hK.out _ _ ⟨hbk, cell_at (((hbk).block _ (heap_lt HM1.out)).trans HM1.out) 0 rfl, cell_at (((hbk).block _ (heap_lt HM1.out)).trans HM1.out) 1 rfl, cell_at (((hbk).block _ (heap_lt HM1.out)).trans HM1.out) 2 rfl, cell_at (((hbk).block _ (heap_lt HM1.out)).trans HM1.out) 3 rfl, cell_at (((hbk).block _ (heap_lt HM1.out)).trans HM1.out) 4 rfl, (HD.out _ (hbk)).1, (HD.out _ (hbk)).2⟩ (fun hHeld => ?_)
        clear hK K hb hbk
        try simp only [Act.put, List.getElem_toArray, List.getElem_cons_zero, List.getElem_cons_succ, List.setIfInBounds_toArray, List.set_cons_zero, List.set_cons_succ]
        refine wpAnyH_take (i := 17) (v := ?vb17) rfl (by kernel_rfl) (by kernel_rfl) (by kernel_rfl) (fun _ _ _ h => h) (Or.inl ⟨by rfl, ?hyb17⟩) (by assumption) ?restb17
        case hyb17 => (intro w0 hSw; (try dsimp only at hSw); go_simp; try with_reducible rfl)
        case' restb17 => try simp only [Act.put, List.getElem_toArray, List.getElem_cons_zero, List.getElem_cons_succ, List.setIfInBounds_toArray, List.set_cons_zero, List.set_cons_succ]
        refine wpAnyH_take (i := 18) (v := ?vb18) rfl (by kernel_rfl) (by kernel_rfl) (by kernel_rfl) (fun _ _ _ h => h) (Or.inl ⟨by rfl, ?hyb18⟩) (by assumption) ?restb18
        case hyb18 => (intro w0 hSw; (try dsimp only at hSw); go_simp; try with_reducible rfl)
        case' restb18 => try simp only [Act.put, List.getElem_toArray, List.getElem_cons_zero, List.getElem_cons_succ, List.setIfInBounds_toArray, List.set_cons_zero, List.set_cons_succ]
        refine wpAnyH_take (i := 19) (v := ?vb19) rfl (by kernel_rfl) (by kernel_rfl) (by kernel_rfl) (fun _ _ _ h => h) (Or.inl ⟨by rfl, ?hyb19⟩) (by assumption) ?restb19
        case hyb19 => (intro w0 hSw; (try dsimp only at hSw); go_simp; try with_reducible rfl)
        case' restb19 => try simp only [Act.put, List.getElem_toArray, List.getElem_cons_zero, List.getElem_cons_succ, List.setIfInBounds_toArray, List.set_cons_zero, List.set_cons_succ]
        refine wpAnyH_done (by kernel_rfl) ?_ _
        refine NoPanic.normal ?_
        have HBx := Lib.hid (bch HB1.out (Hid.out hHeld.1) HB1.out.size)
        clear hHeld
        go_wp2_with fail
        go_roundw
        case rel => exact ⟨j + 2, by go_num, by omega, HBx⟩
        case measure => simp [intOf]; omega
    · obtain rfl : k = l.length := by omega
      go_wp2_with fail
      go_ret
      exact ⟨rfl, HBr.out⟩
end Go.Proofs.YtkmpagijdhhinaaDoor

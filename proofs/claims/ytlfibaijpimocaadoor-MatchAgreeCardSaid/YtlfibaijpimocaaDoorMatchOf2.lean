/- An intake of statements, by which it is refused or accepted of each; and the document's. -/
import Derived.Test.YtlfibaijpimocaaDoorMatchOf
namespace Go.Proofs.YtlfibaijpimocaaDoor
open Go.RowKit Go.Maps Key Rw Sa Ma

def ofI (S : List In.Stm) : In.Inn := S.foldl In.accI In.nil
theorem of_succ {S : List In.Stm} {k : Nat} {x : In.Stm} (h : S[k]? = some x) : ofI (S.take (k + 1)) = In.accI (ofI (S.take k)) x := by
  unfold ofI; rw [List.take_add_one, h, List.foldl_append]; rfl
theorem of_fine (S : List In.Stm) : In.Fine (ofI S) := by
  unfold ofI
  have : ∀ (S : List In.Stm) (I : In.Inn), In.Fine I → In.Fine (S.foldl In.accI I) := fun S => by
    induction S with
    | nil => exact fun I h => h
    | cons x S ih => exact fun I h => ih _ (h.acc x)
  exact this S _ In.Fine.nil
/-- A box holds this value's cells. -/
def Bx (w : World) (b : Nat) (T : TypeId) (v : Value) : Prop := ∃ arr, v = .agg arr ∧ w.heap[b]? = some (.cells arr T (0, 0))
theorem Bx.get {w : World} {b : Nat} {T : TypeId} {arr : Array Value} (h : Bx w b T (.agg arr)) : w.heap[b]? = some (.cells arr T (0, 0)) := by
  obtain ⟨a, e, h⟩ := h
  injection e with e
  subst e
  exact h
theorem Bx.keep {w w' : World} {b : Nat} {T : TypeId} {v : Value} (h : Bx w b T v) (hb : Below w.heap.size w w') : Bx w' b T v := by
  obtain ⟨a, e, h⟩ := h; exact ⟨a, e, heap_keep h hb⟩
theorem Bx.turned {w w' : World} {b : Nat} {T : TypeId} {v : Value} (h : Bx w b T v) {S : Nat → Prop} (ht : Turned S w w') (hS : ¬ S b) : Bx w' b T v := by
  obtain ⟨a, e, h⟩ := h; exact ⟨a, e, heap_turned h ht hS⟩
theorem AvR.far {w : World} {v : Value} {I : In.Inn} (h : InR w v I) {b : Nat} (hb : w.heap.size ≤ b) : AvR b v I := by
  obtain ⟨A0, n0, c0, A1, n1, c1, A2, n2, c2, rfl, h0, h1, h2⟩ := h
  refine AvR.of (fun ad n c e hl => ?_) (fun ad n c e hl => ?_) (fun ad n c e hl => ?_)
  · have := rd_near h0 ad n c e hl; omega
  · have := rd_near h1 ad n c e hl; omega
  · have := rd_near h2 ad n c e hl; omega
/-- What an intake and the document's are, and where they lie. -/
structure Two2 (w W : World) (vP vR : Value) (J K : In.Inn) : Prop where
  p : InP W vP J
  r : InR W vR K
  av : ∀ b, w.heap.size ≤ b → b < w.heap.size + 4 → Av b vP J
  ar : ∀ b, w.heap.size ≤ b → b < w.heap.size + 4 → AvR b vR K
  bp : Bx W (w.heap.size + 2) tIn vP
  br : Bx W (w.heap.size + 3) tInR vR
  z0 : W.heap[w.heap.size]? = some (.cells zIn tIn (0, 0))
  z1 : W.heap[w.heap.size + 1]? = some (.cells zInR tInR (0, 0))
  bel : Below w.heap.size w W
theorem Two2.keep {w W W' : World} {vP vR : Value} {J K : In.Inn} (h : Two2 w W vP vR J K) (hb : Below W.heap.size W W') : Two2 w W' vP vR J K :=
  ⟨h.p.below hb, h.r.below hb, h.av, h.ar, h.bp.keep hb, h.br.keep hb, heap_keep h.z0 hb, heap_keep h.z1 hb, bch h.bel hb h.bel.size⟩

set_option linter.unusedSimpArgs false in
set_option linter.unusedVariables false in
set_option maxRecDepth 100000 in
set_option maxHeartbeats 16000000 in
theorem of_any (w : World) (v : Value) (S : List In.Stm) (hS : Sts w v S) (hT : PT w) :
    Calls Tryd.prog 10 #[v] w fun e w' => ∃ vP vR, e = .returned (.tuple #[vP, vR]) ∧ InP w' vP (ofI S) ∧ InR w' vR (ofI S) ∧ Below w.heap.size w w' := by
  obtain ⟨A, c, rfl, hlc, hcm⟩ := SlK.shape hS
  have HS := Lib.hid hS
  have HT := Lib.hid hT
  have hl63 : (S.length : Int) ≤ 9223372036854775807 := by unfold maxLen at hcm; omega
  clear hS hT
  obtain ⟨wa, hA⟩ : ∃ wa, wa = (((w.alloc (.cells zIn tIn)).alloc (.cells zInR tInR)).alloc (.cells zIn tIn)).alloc (.cells zInR tInR) := ⟨_, rfl⟩
  have h2 : Two2 w wa vIn0 vInR0 (ofI (S.take 0)) (ofI (S.take 0)) := by
    obtain ⟨hb0, y0, y1, y2⟩ := three_new w zIn zInR zIn tIn tInR tIn (rfl : ((w.alloc (.cells zIn tIn)).alloc (.cells zInR tInR)).alloc (.cells zIn tIn) = _)
    have hbl := below_alloc (((w.alloc (.cells zIn tIn)).alloc (.cells zInR tInR)).alloc (.cells zIn tIn)) (.cells zInR tInR)
    have y3 := heap_new (((w.alloc (.cells zIn tIn)).alloc (.cells zInR tInR)).alloc (.cells zIn tIn)) (.cells zInR tInR)
    rw [show (((w.alloc (.cells zIn tIn)).alloc (.cells zInR tInR)).alloc (.cells zIn tIn)).heap.size = w.heap.size + 3 by simp] at y3
    rw [hA]
    exact ⟨InP.nil _, InR.nil _, fun b _ _ => Av.nil b, fun b _ _ => AvR.nil b, ⟨_, rfl, heap_keep y2 hbl⟩, ⟨_, rfl, y3⟩, heap_keep y0 hbl, heap_keep y1 hbl, bch hb0 hbl hb0.size⟩
  have HA := Lib.hid hA; have H2 := Lib.hid h2
  clear hA h2
  go_enter Tryd.func10, Tryd.ntmps10
  go_wp2_with fail
  rw [← HA.out]
  go_loopw [6] (fun i wr => ∃ (k : Nat) (vP vR : Value), i = .int .i64 k ∧ k ≤ S.length ∧ Hid (Two2 w wr vP vR (ofI (S.take k)) (ofI (S.take k)))) (fun i _ => S.length - (intOf i).toNat)
  case atStart => exact ⟨0, _, _, rfl, Nat.zero_le _, H2.out⟩
  case round =>
    obtain ⟨k, vP, vR, rfl, hk, HK⟩ := hrel
    have hsw := HK.out.bel.size
    have hz3 : w.heap.size + 3 < wr.heap.size := by obtain ⟨_, _, h⟩ := HK.out.br; exact heap_lt h
    by_cases hkl : k < S.length
    · obtain ⟨x, hx⟩ : ∃ x, S[k]? = some x := ⟨_, List.getElem?_eq_getElem hkl⟩
      obtain ⟨g, off, n', c', Ax, cx, e, hr, _, _, hd⟩ := HS.out.cells hx
      have HDC := Lib.hid hd
      clear hd
      obtain ⟨d0, d1, d2⟩ := HDC.out _ HK.out.bel
      injection e with e1 e2 e3; subst e1; clear e2 e3
      have HX := Lib.hid hx
      have HRD := Lib.hid hr
      have HN := Lib.hid (of_succ hx)
      have hlt : (k : Int) < S.length := by omega
      have hk0 : (0 : Int) ≤ k := by omega
      clear hx hr
      generalize hJ : ofI (S.take k) = J at HK HN
      have HFJ := Lib.hid (hJ ▸ of_fine (S.take k))
      clear hJ
      have HPP := Lib.hid HK.out.p
      have HRR := Lib.hid HK.out.r
      obtain ⟨A0, An0, Ac0, A1, An1, Ac1, A2, An2, Ac2, m, rfl, _⟩ := HK.out.p
      obtain ⟨B0, Bn0, Bc0, B1, Bn1, Bc1, B2, Bn2, Bc2, rfl, _⟩ := HK.out.r
      obtain ⟨i0, i1, i2, i3, i4, i5, i6, i7, i8, i9⟩ := cell10 HK.out.bp.get
      have hgl : g < wr.heap.size := World.block_lt_of_cell? _ _ d0
      have hz2 : w.heap.size + 2 < wr.heap.size := by omega
      obtain ⟨i0, i1, i2, i3, i4, i5, i6, i7, i8, i9⟩ := cell10 HK.out.bp.get
      by_cases he : In.accE J x = 0
      · have HE := Lib.hid he
        have hJ1 : ∃ J1, In.accI J x = J1 := ⟨_, rfl⟩
        obtain ⟨J1, hJ1⟩ := hJ1
        have HJ1 := Lib.hid hJ1
        have HACC := Lib.hid (fun W (hW : Below wr.heap.size wr W) => hJ1 ▸ accept_ok W _ J x _ (HPP.out.below hW) (HRD.out.keep (bch HK.out.bel hW HK.out.bel.size)) (HT.out.below (bch HK.out.bel hW HK.out.bel.size)) HFJ.out he)
        clear hJ1 he
        go_upto_region 6 with (fail)
        have HH := Lib.hid (fun W (hb : Below wr.heap.size wr W) => (⟨Lib.hid hb, (hb.cell (World.block_lt_of_cell? wr _ i0)).trans i0, (hb.cell (World.block_lt_of_cell? wr _ i1)).trans i1, (hb.cell (World.block_lt_of_cell? wr _ i2)).trans i2, (hb.cell (World.block_lt_of_cell? wr _ i3)).trans i3, (hb.cell (World.block_lt_of_cell? wr _ i4)).trans i4, (hb.cell (World.block_lt_of_cell? wr _ i5)).trans i5, (hb.cell (World.block_lt_of_cell? wr _ i6)).trans i6, (hb.cell (World.block_lt_of_cell? wr _ i7)).trans i7, (hb.cell (World.block_lt_of_cell? wr _ i8)).trans i8, (hb.cell (World.block_lt_of_cell? wr _ i9)).trans i9, (hb.cell (World.block_lt_of_cell? wr _ d0)).trans d0, (hb.cell (World.block_lt_of_cell? wr _ d1)).trans d1, (hb.cell (World.block_lt_of_cell? wr _ d2)).trans d2⟩ : (fun w' => Hid (Below wr.heap.size wr w') ∧ w'.cell? ⟨w.heap.size + 2, 0, none⟩ = some (.int .i64 J.a.1) ∧ w'.cell? ⟨w.heap.size + 2, 1, none⟩ = some (.int .i64 J.a.2.1) ∧ w'.cell? ⟨w.heap.size + 2, 2, none⟩ = some (.slice A0 An0 Ac0) ∧ w'.cell? ⟨w.heap.size + 2, 3, none⟩ = some (.int .i64 J.b.1) ∧ w'.cell? ⟨w.heap.size + 2, 4, none⟩ = some (.int .i64 J.b.2.1) ∧ w'.cell? ⟨w.heap.size + 2, 5, none⟩ = some (.slice A1 An1 Ac1) ∧ w'.cell? ⟨w.heap.size + 2, 6, none⟩ = some (.int .i64 J.c.1) ∧ w'.cell? ⟨w.heap.size + 2, 7, none⟩ = some (.int .i64 J.c.2.1) ∧ w'.cell? ⟨w.heap.size + 2, 8, none⟩ = some (.slice A2 An2 Ac2) ∧ w'.cell? ⟨w.heap.size + 2, 9, none⟩ = some (.map m) ∧ w'.cell? ⟨g, off + k * 3, none⟩ = some (.int .i64 x.1) ∧ w'.cell? ⟨g, off + k * 3 + 1, none⟩ = some (.int .i64 x.2.1) ∧ w'.cell? ⟨g, off + k * 3 + 2, none⟩ = some (.slice Ax x.2.2.length cx)) W))
        refine wp_region_noPanic ?_
        refine wp_region_held_drew (S := (fun w' => Hid (Below wr.heap.size wr w') ∧ w'.cell? ⟨w.heap.size + 2, 0, none⟩ = some (.int .i64 J.a.1) ∧ w'.cell? ⟨w.heap.size + 2, 1, none⟩ = some (.int .i64 J.a.2.1) ∧ w'.cell? ⟨w.heap.size + 2, 2, none⟩ = some (.slice A0 An0 Ac0) ∧ w'.cell? ⟨w.heap.size + 2, 3, none⟩ = some (.int .i64 J.b.1) ∧ w'.cell? ⟨w.heap.size + 2, 4, none⟩ = some (.int .i64 J.b.2.1) ∧ w'.cell? ⟨w.heap.size + 2, 5, none⟩ = some (.slice A1 An1 Ac1) ∧ w'.cell? ⟨w.heap.size + 2, 6, none⟩ = some (.int .i64 J.c.1) ∧ w'.cell? ⟨w.heap.size + 2, 7, none⟩ = some (.int .i64 J.c.2.1) ∧ w'.cell? ⟨w.heap.size + 2, 8, none⟩ = some (.slice A2 An2 Ac2) ∧ w'.cell? ⟨w.heap.size + 2, 9, none⟩ = some (.map m) ∧ w'.cell? ⟨g, off + k * 3, none⟩ = some (.int .i64 x.1) ∧ w'.cell? ⟨g, off + k * 3 + 1, none⟩ = some (.int .i64 x.2.1) ∧ w'.cell? ⟨g, off + k * 3 + 2, none⟩ = some (.slice Ax x.2.2.length cx))) (by kernel_rfl) (HH.out _ (below_drew1 (Below.refl wr.heap.size wr))) (fun hHeld => ?_)
        refine wpAnyH_take (i := 0) (v := ?vc0_6) rfl (by kernel_rfl) (by kernel_rfl) (by kernel_rfl) (fun _ _ _ h => h) (Or.inl ⟨by rfl, ?hyc0_6⟩) (by assumption) ?restc0_6
        case hyc0_6 => (intro w0 hSw; (try dsimp only at hSw); go_simp; try with_reducible rfl)
        case' restc0_6 => try simp only [Act.put, List.getElem_toArray, List.getElem_cons_zero, List.getElem_cons_succ, List.setIfInBounds_toArray, List.set_cons_zero, List.set_cons_succ]
        refine wpAnyH_take (i := 1) (v := ?vc1_6) rfl (by kernel_rfl) (by kernel_rfl) (by kernel_rfl) (fun _ _ _ h => h) (Or.inl ⟨by rfl, ?hyc1_6⟩) (by assumption) ?restc1_6
        case hyc1_6 => (intro w0 hSw; (try dsimp only at hSw); go_simp; try with_reducible rfl)
        case' restc1_6 => try simp only [Act.put, List.getElem_toArray, List.getElem_cons_zero, List.getElem_cons_succ, List.setIfInBounds_toArray, List.set_cons_zero, List.set_cons_succ]
        refine wpAnyH_take (i := 2) (v := ?vc2_6) rfl (by kernel_rfl) (by kernel_rfl) (by kernel_rfl) (fun _ _ _ h => h) (Or.inl ⟨by rfl, ?hyc2_6⟩) (by assumption) ?restc2_6
        case hyc2_6 => (intro w0 hSw; (try dsimp only at hSw); go_simp; try with_reducible rfl)
        case' restc2_6 => try simp only [Act.put, List.getElem_toArray, List.getElem_cons_zero, List.getElem_cons_succ, List.setIfInBounds_toArray, List.set_cons_zero, List.set_cons_succ]
        refine wpAnyH_take (i := 3) (v := ?vc3_6) rfl (by kernel_rfl) (by kernel_rfl) (by kernel_rfl) (fun _ _ _ h => h) (Or.inl ⟨by rfl, ?hyc3_6⟩) (by assumption) ?restc3_6
        case hyc3_6 => (intro w0 hSw; (try dsimp only at hSw); go_simp; try with_reducible rfl)
        case' restc3_6 => try simp only [Act.put, List.getElem_toArray, List.getElem_cons_zero, List.getElem_cons_succ, List.setIfInBounds_toArray, List.set_cons_zero, List.set_cons_succ]
        refine wpAnyH_take (i := 4) (v := ?vc4_6) rfl (by kernel_rfl) (by kernel_rfl) (by kernel_rfl) (fun _ _ _ h => h) (Or.inl ⟨by rfl, ?hyc4_6⟩) (by assumption) ?restc4_6
        case hyc4_6 => (intro w0 hSw; (try dsimp only at hSw); go_simp; try with_reducible rfl)
        case' restc4_6 => try simp only [Act.put, List.getElem_toArray, List.getElem_cons_zero, List.getElem_cons_succ, List.setIfInBounds_toArray, List.set_cons_zero, List.set_cons_succ]
        refine wpAnyH_ready (rs := [5, 9]) (by kernel_rfl) (by simp) ?_
        refine AllReadyH.cons rfl (fun K hK => ?_) (AllReadyH.cons rfl (fun K hK => ?_) AllReadyH.nil)
        · go_simp
          refine (HACC.out _ (below_drew1 (Below.refl wr.heap.size wr))).mono ?_
          rintro e w1 ⟨v1, rfl, hv, hav, hb⟩
          have HV1 := Lib.hid hv; have HAV1 := Lib.hid hav
          obtain ⟨C0, Cn0, Cc0, C1, Cn1, Cc1, C2, Cn2, Cc2, m1, rfl, _⟩ := hv
          clear hav
          have HW1 := Lib.hid (bch (below_drew1 (Below.refl wr.heap.size wr)) hb (Below.size (below_drew1 (Below.refl wr.heap.size wr))))
          refine hK.out _ _ (HH.out _ (HW1.out)) (fun hHeld => ?_)
          clear hK K
          try simp only [Act.put, List.getElem_toArray, List.getElem_cons_zero, List.getElem_cons_succ, List.setIfInBounds_toArray, List.set_cons_zero, List.set_cons_succ]
          refine wpAnyH_take (i := 6) (v := ?vc6_7) rfl (by kernel_rfl) (by kernel_rfl) (by kernel_rfl) (fun _ _ _ h => h) (Or.inl ⟨by rfl, ?hyc6_7⟩) (by assumption) ?restc6_7
          case hyc6_7 => (intro w0 hSw; (try dsimp only at hSw); go_simp; try with_reducible rfl)
          case' restc6_7 => try simp only [Act.put, List.getElem_toArray, List.getElem_cons_zero, List.getElem_cons_succ, List.setIfInBounds_toArray, List.set_cons_zero, List.set_cons_succ]
          refine wpAnyH_take (i := 7) (v := ?vc7_7) rfl (by kernel_rfl) (by kernel_rfl) (by kernel_rfl) (fun _ _ _ h => h) (Or.inl ⟨by rfl, ?hyc7_7⟩) (by assumption) ?restc7_7
          case hyc7_7 => (intro w0 hSw; (try dsimp only at hSw); go_simp; try with_reducible rfl)
          case' restc7_7 => try simp only [Act.put, List.getElem_toArray, List.getElem_cons_zero, List.getElem_cons_succ, List.setIfInBounds_toArray, List.set_cons_zero, List.set_cons_succ]
          refine wpAnyH_take (i := 8) (v := ?vc8_7) rfl (by kernel_rfl) (by kernel_rfl) (by kernel_rfl) (fun _ _ _ h => h) (Or.inl ⟨by rfl, ?hyc8_7⟩) (by assumption) ?restc8_7
          case hyc8_7 => (intro w0 hSw; (try dsimp only at hSw); go_simp; try with_reducible rfl)
          case' restc8_7 => try simp only [Act.put, List.getElem_toArray, List.getElem_cons_zero, List.getElem_cons_succ, List.setIfInBounds_toArray, List.set_cons_zero, List.set_cons_succ]
          refine wpAnyH_ready (rs := [9]) (by kernel_rfl) (by simp) ?_
          refine AllReadyH.cons rfl (fun K hK => ?_) AllReadyH.nil
          go_simp
          refine hK.out _ _ (HH.out _ ((bch HW1.out (below_alloc w1 _) HW1.out.size))) (fun hHeld => ?_)
          clear hK K
          try simp only [Act.put, List.getElem_toArray, List.getElem_cons_zero, List.getElem_cons_succ, List.setIfInBounds_toArray, List.set_cons_zero, List.set_cons_succ]
          refine wpAnyH_ready (rs := [10]) (by kernel_rfl) (by simp) ?_
          refine AllReadyH.cons rfl (fun K hK => ?_) AllReadyH.nil
          go_simp
          refine hK.out _ _ (HH.out _ ((bch HW1.out (below_alloc w1 _) HW1.out.size))) (fun hHeld => ?_)
          clear hK K
          try simp only [Act.put, List.getElem_toArray, List.getElem_cons_zero, List.getElem_cons_succ, List.setIfInBounds_toArray, List.set_cons_zero, List.set_cons_succ]
          refine wpAnyH_take (i := 11) (v := ?vc11_8) rfl (by kernel_rfl) (by kernel_rfl) (by kernel_rfl) (fun _ _ _ h => h) (Or.inl ⟨by rfl, ?hyc11_8⟩) (by assumption) ?restc11_8
          case hyc11_8 => (intro w0 hSw; (try dsimp only at hSw); go_simp; try with_reducible rfl)
          case' restc11_8 => try simp only [Act.put, List.getElem_toArray, List.getElem_cons_zero, List.getElem_cons_succ, List.setIfInBounds_toArray, List.set_cons_zero, List.set_cons_succ]
          refine wpAnyH_done (by kernel_rfl) ?_ _
          refine NoPanic.normal ?_
          have HB2 := Lib.hid (bch HW1.out (below_alloc w1 (.cells #[.int .i64 J1.a.1, .int .i64 J1.a.2.1, .slice C0 Cn0 Cc0, .int .i64 J1.b.1, .int .i64 J1.b.2.1, .slice C1 Cn1 Cc1, .int .i64 J1.c.1, .int .i64 J1.c.2.1, .slice C2 Cn2 Cc2, .map m1] tIn)) HW1.out.size)
          have HBX := Lib.hid (heap_new w1 (.cells #[.int .i64 J1.a.1, .int .i64 J1.a.2.1, .slice C0 Cn0 Cc0, .int .i64 J1.b.1, .int .i64 J1.b.2.1, .slice C1 Cn1 Cc1, .int .i64 J1.c.1, .int .i64 J1.c.2.1, .slice C2 Cn2 Cc2, .map m1] tIn))
          have HV2 := Lib.hid (HV1.out.below (below_alloc w1 (.cells #[.int .i64 J1.a.1, .int .i64 J1.a.2.1, .slice C0 Cn0 Cc0, .int .i64 J1.b.1, .int .i64 J1.b.2.1, .slice C1 Cn1 Cc1, .int .i64 J1.c.1, .int .i64 J1.c.2.1, .slice C2 Cn2 Cc2, .map m1] tIn)))
          have HAV2 := Lib.hid (fun b (h1 : w.heap.size ≤ b) (h2 : b < w.heap.size + 4) => HAV1.out b (by simp; omega) (HK.out.av b h1 h2))
          clear HV1 HAV1
          clear hHeld HW1 hb HACC HH
          obtain ⟨w2, hW2⟩ : ∃ w2, w2 = w1.alloc (.cells #[.int .i64 J1.a.1, .int .i64 J1.a.2.1, .slice C0 Cn0 Cc0, .int .i64 J1.b.1, .int .i64 J1.b.2.1, .slice C1 Cn1 Cc1, .int .i64 J1.c.1, .int .i64 J1.c.2.1, .slice C2 Cn2 Cc2, .map m1] tIn) := ⟨_, rfl⟩
          rw [← hW2] at HB2 HBX HV2 ⊢
          clear hW2
          generalize w1.heap.size = b7 at HBX ⊢
          have HK2 := Lib.hid (HK.out.keep HB2.out)
          clear HB2 HK HPP i0 i1 i2 i3 i4 i5 i6 i7 i8 i9 d0 d1 d2
          have hn0 := beqT (rfl : (0 : Int) = 0)
          obtain ⟨i0, i1, i2, i3, i4, i5, i6, i7, i8, i9⟩ := cell10 HBX.out
          obtain ⟨m0, m1', m2, m3, m4, m5, m6, m7, m8, m9⟩ := cell10 HK2.out.bp.get
          obtain ⟨f0, f1, f2, f3, f4, f5, f6, f7, f8, f9⟩ := froz10 HK2.out.bp.get
          go_upto_region 9 with (fail)
          obtain ⟨w3, hw3⟩ : ∃ w3, w3 = set10w w2 (w.heap.size + 2) (.int .i64 J1.a.1) (.int .i64 J1.a.2.1) (.slice C0 Cn0 Cc0) (.int .i64 J1.b.1) (.int .i64 J1.b.2.1) (.slice C1 Cn1 Cc1) (.int .i64 J1.c.1) (.int .i64 J1.c.2.1) (.slice C2 Cn2 Cc2) (.map m1) := ⟨_, rfl⟩
          rw [show (((((((((w2.setCell ⟨w.heap.size + 2, 0, none⟩ (.int .i64 J1.a.1)).setCell ⟨w.heap.size + 2, 1, none⟩ (.int .i64 J1.a.2.1)).setCell ⟨w.heap.size + 2, 2, none⟩ (.slice C0 Cn0 Cc0)).setCell ⟨w.heap.size + 2, 3, none⟩ (.int .i64 J1.b.1)).setCell ⟨w.heap.size + 2, 4, none⟩ (.int .i64 J1.b.2.1)).setCell ⟨w.heap.size + 2, 5, none⟩ (.slice C1 Cn1 Cc1)).setCell ⟨w.heap.size + 2, 6, none⟩ (.int .i64 J1.c.1)).setCell ⟨w.heap.size + 2, 7, none⟩ (.int .i64 J1.c.2.1)).setCell ⟨w.heap.size + 2, 8, none⟩ (.slice C2 Cn2 Cc2)).setCell ⟨w.heap.size + 2, 9, none⟩ (.map m1) = w3 from hw3.symm]
          have ht3 : Turned (fun j => j = w.heap.size + 2) w2 w3 := by rw [hw3]; exact turned_set10 _ _ _ _ _ _ _ _ _ _ _ _
          have HK3 := Lib.hid (show Two2 w w3 _ _ J1 J from ⟨HV2.out.turned ht3 (fun b hb => by rw [hb]; exact HAV2.out _ (by omega) (by omega)), HK2.out.r.turned ht3 (fun b hb => by rw [hb]; exact HK2.out.ar _ (by omega) (by omega)), HAV2.out, HK2.out.ar, ⟨_, rfl, by rw [hw3]; exact set10 HK2.out.bp.get _ _ _ _ _ _ _ _ _ _⟩, HK2.out.br.turned ht3 (by omega), heap_turned HK2.out.z0 ht3 (by omega), heap_turned HK2.out.z1 ht3 (by omega), Below.turned HK2.out.bel ht3 (fun i h => by omega) HK2.out.bel.size⟩)
          clear hw3 ht3 HK2 HV2 HBX HAV2 i0 i1 i2 i3 i4 i5 i6 i7 i8 i9 m0 m1' m2 m3 m4 m5 m6 m7 m8 m9 f0 f1 f2 f3 f4 f5 f6 f7 f8 f9
          have hz33 : w.heap.size + 3 < w3.heap.size := by obtain ⟨_, _, h⟩ := HK3.out.br; exact heap_lt h
          obtain ⟨d0, d1, d2⟩ := HDC.out _ HK3.out.bel
          have hgl3 : g < w3.heap.size := World.block_lt_of_cell? _ _ d0
          obtain ⟨i0, i1, i2, i3, i4, i5, i6, i7, i8⟩ := cell9 HK3.out.br.get
          have HACC := Lib.hid (fun W (hW : Below w3.heap.size w3 W) => HJ1.out ▸ refAccept_ok W _ J x _ (HK3.out.r.below hW) (HRD.out.keep (bch HK3.out.bel hW HK3.out.bel.size)) HE.out)
          have HH := Lib.hid (fun W (hb : Below w3.heap.size w3 W) => (⟨Lib.hid hb, (hb.cell (World.block_lt_of_cell? w3 _ i0)).trans i0, (hb.cell (World.block_lt_of_cell? w3 _ i1)).trans i1, (hb.cell (World.block_lt_of_cell? w3 _ i2)).trans i2, (hb.cell (World.block_lt_of_cell? w3 _ i3)).trans i3, (hb.cell (World.block_lt_of_cell? w3 _ i4)).trans i4, (hb.cell (World.block_lt_of_cell? w3 _ i5)).trans i5, (hb.cell (World.block_lt_of_cell? w3 _ i6)).trans i6, (hb.cell (World.block_lt_of_cell? w3 _ i7)).trans i7, (hb.cell (World.block_lt_of_cell? w3 _ i8)).trans i8, (hb.cell (World.block_lt_of_cell? w3 _ d0)).trans d0, (hb.cell (World.block_lt_of_cell? w3 _ d1)).trans d1, (hb.cell (World.block_lt_of_cell? w3 _ d2)).trans d2⟩ : (fun w' => Hid (Below w3.heap.size w3 w') ∧ w'.cell? ⟨w.heap.size + 3, 0, none⟩ = some (.int .i64 J.a.1) ∧ w'.cell? ⟨w.heap.size + 3, 1, none⟩ = some (.int .i64 J.a.2.1) ∧ w'.cell? ⟨w.heap.size + 3, 2, none⟩ = some (.slice B0 Bn0 Bc0) ∧ w'.cell? ⟨w.heap.size + 3, 3, none⟩ = some (.int .i64 J.b.1) ∧ w'.cell? ⟨w.heap.size + 3, 4, none⟩ = some (.int .i64 J.b.2.1) ∧ w'.cell? ⟨w.heap.size + 3, 5, none⟩ = some (.slice B1 Bn1 Bc1) ∧ w'.cell? ⟨w.heap.size + 3, 6, none⟩ = some (.int .i64 J.c.1) ∧ w'.cell? ⟨w.heap.size + 3, 7, none⟩ = some (.int .i64 J.c.2.1) ∧ w'.cell? ⟨w.heap.size + 3, 8, none⟩ = some (.slice B2 Bn2 Bc2) ∧ w'.cell? ⟨g, off + k * 3, none⟩ = some (.int .i64 x.1) ∧ w'.cell? ⟨g, off + k * 3 + 1, none⟩ = some (.int .i64 x.2.1) ∧ w'.cell? ⟨g, off + k * 3 + 2, none⟩ = some (.slice Ax x.2.2.length cx)) W))
          refine wp_region_noPanic ?_
          refine wp_region_held_drew (S := (fun w' => Hid (Below w3.heap.size w3 w') ∧ w'.cell? ⟨w.heap.size + 3, 0, none⟩ = some (.int .i64 J.a.1) ∧ w'.cell? ⟨w.heap.size + 3, 1, none⟩ = some (.int .i64 J.a.2.1) ∧ w'.cell? ⟨w.heap.size + 3, 2, none⟩ = some (.slice B0 Bn0 Bc0) ∧ w'.cell? ⟨w.heap.size + 3, 3, none⟩ = some (.int .i64 J.b.1) ∧ w'.cell? ⟨w.heap.size + 3, 4, none⟩ = some (.int .i64 J.b.2.1) ∧ w'.cell? ⟨w.heap.size + 3, 5, none⟩ = some (.slice B1 Bn1 Bc1) ∧ w'.cell? ⟨w.heap.size + 3, 6, none⟩ = some (.int .i64 J.c.1) ∧ w'.cell? ⟨w.heap.size + 3, 7, none⟩ = some (.int .i64 J.c.2.1) ∧ w'.cell? ⟨w.heap.size + 3, 8, none⟩ = some (.slice B2 Bn2 Bc2) ∧ w'.cell? ⟨g, off + k * 3, none⟩ = some (.int .i64 x.1) ∧ w'.cell? ⟨g, off + k * 3 + 1, none⟩ = some (.int .i64 x.2.1) ∧ w'.cell? ⟨g, off + k * 3 + 2, none⟩ = some (.slice Ax x.2.2.length cx))) (by kernel_rfl) (HH.out _ (below_drew1 (Below.refl w3.heap.size w3))) (fun hHeld => ?_)
          refine wpAnyH_take (i := 0) (v := ?vc0_1) rfl (by kernel_rfl) (by kernel_rfl) (by kernel_rfl) (fun _ _ _ h => h) (Or.inl ⟨by rfl, ?hyc0_1⟩) (by assumption) ?restc0_1
          case hyc0_1 => (intro w0 hSw; (try dsimp only at hSw); go_simp; try with_reducible rfl)
          case' restc0_1 => try simp only [Act.put, List.getElem_toArray, List.getElem_cons_zero, List.getElem_cons_succ, List.setIfInBounds_toArray, List.set_cons_zero, List.set_cons_succ]
          refine wpAnyH_take (i := 1) (v := ?vc1_1) rfl (by kernel_rfl) (by kernel_rfl) (by kernel_rfl) (fun _ _ _ h => h) (Or.inl ⟨by rfl, ?hyc1_1⟩) (by assumption) ?restc1_1
          case hyc1_1 => (intro w0 hSw; (try dsimp only at hSw); go_simp; try with_reducible rfl)
          case' restc1_1 => try simp only [Act.put, List.getElem_toArray, List.getElem_cons_zero, List.getElem_cons_succ, List.setIfInBounds_toArray, List.set_cons_zero, List.set_cons_succ]
          refine wpAnyH_take (i := 2) (v := ?vc2_1) rfl (by kernel_rfl) (by kernel_rfl) (by kernel_rfl) (fun _ _ _ h => h) (Or.inl ⟨by rfl, ?hyc2_1⟩) (by assumption) ?restc2_1
          case hyc2_1 => (intro w0 hSw; (try dsimp only at hSw); go_simp; try with_reducible rfl)
          case' restc2_1 => try simp only [Act.put, List.getElem_toArray, List.getElem_cons_zero, List.getElem_cons_succ, List.setIfInBounds_toArray, List.set_cons_zero, List.set_cons_succ]
          refine wpAnyH_take (i := 3) (v := ?vc3_1) rfl (by kernel_rfl) (by kernel_rfl) (by kernel_rfl) (fun _ _ _ h => h) (Or.inl ⟨by rfl, ?hyc3_1⟩) (by assumption) ?restc3_1
          case hyc3_1 => (intro w0 hSw; (try dsimp only at hSw); go_simp; try with_reducible rfl)
          case' restc3_1 => try simp only [Act.put, List.getElem_toArray, List.getElem_cons_zero, List.getElem_cons_succ, List.setIfInBounds_toArray, List.set_cons_zero, List.set_cons_succ]
          refine wpAnyH_take (i := 4) (v := ?vc4_1) rfl (by kernel_rfl) (by kernel_rfl) (by kernel_rfl) (fun _ _ _ h => h) (Or.inl ⟨by rfl, ?hyc4_1⟩) (by assumption) ?restc4_1
          case hyc4_1 => (intro w0 hSw; (try dsimp only at hSw); go_simp; try with_reducible rfl)
          case' restc4_1 => try simp only [Act.put, List.getElem_toArray, List.getElem_cons_zero, List.getElem_cons_succ, List.setIfInBounds_toArray, List.set_cons_zero, List.set_cons_succ]
          refine wpAnyH_ready (rs := [5, 9]) (by kernel_rfl) (by simp) ?_
          refine AllReadyH.cons rfl (fun K hK => ?_) (AllReadyH.cons rfl (fun K hK => ?_) AllReadyH.nil)
          · go_simp
            refine (HACC.out _ (below_drew1 (Below.refl w3.heap.size w3))).mono ?_
            rintro e w4 ⟨v4, rfl, hv, hav, hb⟩
            have HV1 := Lib.hid hv; have HAV1 := Lib.hid hav
            obtain ⟨D0, Dn0, Dc0, D1, Dn1, Dc1, D2, Dn2, Dc2, rfl, _⟩ := hv
            clear hav
            have HW1 := Lib.hid (bch (below_drew1 (Below.refl w3.heap.size w3)) hb (Below.size (below_drew1 (Below.refl w3.heap.size w3))))
            refine hK.out _ _ (HH.out _ (HW1.out)) (fun hHeld => ?_)
            clear hK K
            try simp only [Act.put, List.getElem_toArray, List.getElem_cons_zero, List.getElem_cons_succ, List.setIfInBounds_toArray, List.set_cons_zero, List.set_cons_succ]
            refine wpAnyH_take (i := 6) (v := ?vc6_2) rfl (by kernel_rfl) (by kernel_rfl) (by kernel_rfl) (fun _ _ _ h => h) (Or.inl ⟨by rfl, ?hyc6_2⟩) (by assumption) ?restc6_2
            case hyc6_2 => (intro w0 hSw; (try dsimp only at hSw); go_simp; try with_reducible rfl)
            case' restc6_2 => try simp only [Act.put, List.getElem_toArray, List.getElem_cons_zero, List.getElem_cons_succ, List.setIfInBounds_toArray, List.set_cons_zero, List.set_cons_succ]
            refine wpAnyH_take (i := 7) (v := ?vc7_2) rfl (by kernel_rfl) (by kernel_rfl) (by kernel_rfl) (fun _ _ _ h => h) (Or.inl ⟨by rfl, ?hyc7_2⟩) (by assumption) ?restc7_2
            case hyc7_2 => (intro w0 hSw; (try dsimp only at hSw); go_simp; try with_reducible rfl)
            case' restc7_2 => try simp only [Act.put, List.getElem_toArray, List.getElem_cons_zero, List.getElem_cons_succ, List.setIfInBounds_toArray, List.set_cons_zero, List.set_cons_succ]
            refine wpAnyH_take (i := 8) (v := ?vc8_2) rfl (by kernel_rfl) (by kernel_rfl) (by kernel_rfl) (fun _ _ _ h => h) (Or.inl ⟨by rfl, ?hyc8_2⟩) (by assumption) ?restc8_2
            case hyc8_2 => (intro w0 hSw; (try dsimp only at hSw); go_simp; try with_reducible rfl)
            case' restc8_2 => try simp only [Act.put, List.getElem_toArray, List.getElem_cons_zero, List.getElem_cons_succ, List.setIfInBounds_toArray, List.set_cons_zero, List.set_cons_succ]
            refine wpAnyH_ready (rs := [9]) (by kernel_rfl) (by simp) ?_
            refine AllReadyH.cons rfl (fun K hK => ?_) AllReadyH.nil
            go_simp
            refine hK.out _ _ (HH.out _ ((bch HW1.out (below_alloc w4 _) HW1.out.size))) (fun hHeld => ?_)
            clear hK K
            try simp only [Act.put, List.getElem_toArray, List.getElem_cons_zero, List.getElem_cons_succ, List.setIfInBounds_toArray, List.set_cons_zero, List.set_cons_succ]
            refine wpAnyH_ready (rs := [10]) (by kernel_rfl) (by simp) ?_
            refine AllReadyH.cons rfl (fun K hK => ?_) AllReadyH.nil
            go_simp
            refine hK.out _ _ (HH.out _ ((bch HW1.out (below_alloc w4 _) HW1.out.size))) (fun hHeld => ?_)
            clear hK K
            try simp only [Act.put, List.getElem_toArray, List.getElem_cons_zero, List.getElem_cons_succ, List.setIfInBounds_toArray, List.set_cons_zero, List.set_cons_succ]
            refine wpAnyH_take (i := 11) (v := ?vc11_3) rfl (by kernel_rfl) (by kernel_rfl) (by kernel_rfl) (fun _ _ _ h => h) (Or.inl ⟨by rfl, ?hyc11_3⟩) (by assumption) ?restc11_3
            case hyc11_3 => (intro w0 hSw; (try dsimp only at hSw); go_simp; try with_reducible rfl)
            case' restc11_3 => try simp only [Act.put, List.getElem_toArray, List.getElem_cons_zero, List.getElem_cons_succ, List.setIfInBounds_toArray, List.set_cons_zero, List.set_cons_succ]
            refine wpAnyH_done (by kernel_rfl) ?_ _
            refine NoPanic.normal ?_
            have HB2 := Lib.hid (bch HW1.out (below_alloc w4 (.cells #[.int .i64 J1.a.1, .int .i64 J1.a.2.1, .slice D0 Dn0 Dc0, .int .i64 J1.b.1, .int .i64 J1.b.2.1, .slice D1 Dn1 Dc1, .int .i64 J1.c.1, .int .i64 J1.c.2.1, .slice D2 Dn2 Dc2] tInR)) HW1.out.size)
            have HBX := Lib.hid (heap_new w4 (.cells #[.int .i64 J1.a.1, .int .i64 J1.a.2.1, .slice D0 Dn0 Dc0, .int .i64 J1.b.1, .int .i64 J1.b.2.1, .slice D1 Dn1 Dc1, .int .i64 J1.c.1, .int .i64 J1.c.2.1, .slice D2 Dn2 Dc2] tInR))
            have HV2 := Lib.hid (HV1.out.below (below_alloc w4 (.cells #[.int .i64 J1.a.1, .int .i64 J1.a.2.1, .slice D0 Dn0 Dc0, .int .i64 J1.b.1, .int .i64 J1.b.2.1, .slice D1 Dn1 Dc1, .int .i64 J1.c.1, .int .i64 J1.c.2.1, .slice D2 Dn2 Dc2] tInR)))
            have HAV2 := Lib.hid (fun b (h1 : w.heap.size ≤ b) (h2 : b < w.heap.size + 4) => HAV1.out b (HK3.out.ar b h1 h2) (fun ad m c e hl => by have := rd_near HRD.out ad m c e hl; omega))
            clear HV1 HAV1
            clear hHeld HW1 hb HACC HH
            obtain ⟨w5, hW2⟩ : ∃ w5, w5 = w4.alloc (.cells #[.int .i64 J1.a.1, .int .i64 J1.a.2.1, .slice D0 Dn0 Dc0, .int .i64 J1.b.1, .int .i64 J1.b.2.1, .slice D1 Dn1 Dc1, .int .i64 J1.c.1, .int .i64 J1.c.2.1, .slice D2 Dn2 Dc2] tInR) := ⟨_, rfl⟩
            rw [← hW2] at HB2 HBX HV2 ⊢
            clear hW2
            generalize w4.heap.size = b9 at HBX ⊢
            have HK5 := Lib.hid (HK3.out.keep HB2.out)
            clear HB2 HK3 i0 i1 i2 i3 i4 i5 i6 i7 i8 d0 d1 d2
            have hz5 : w.heap.size + 3 < w5.heap.size := heap_lt HK5.out.br.get
            obtain ⟨i0, i1, i2, i3, i4, i5, i6, i7, i8⟩ := cell9 HBX.out
            obtain ⟨m0, m1', m2, m3, m4, m5, m6, m7, m8⟩ := cell9 HK5.out.br.get
            obtain ⟨f0, f1, f2, f3, f4, f5, f6, f7, f8⟩ := froz9 HK5.out.br.get
            have ht6 := turned_set9 w5 (w.heap.size + 3) (.int .i64 J1.a.1) (.int .i64 J1.a.2.1) (.slice D0 Dn0 Dc0) (.int .i64 J1.b.1) (.int .i64 J1.b.2.1) (.slice D1 Dn1 Dc1) (.int .i64 J1.c.1) (.int .i64 J1.c.2.1) (.slice D2 Dn2 Dc2)
            have HK6 := Lib.hid (show Two2 w _ _ _ J1 J1 from ⟨HK5.out.p.turned ht6 (fun b hb => by rw [hb]; exact HK5.out.av _ (by omega) (by omega)), HV2.out.turned ht6 (fun b hb => by rw [hb]; exact HAV2.out _ (by omega) (by omega)), HK5.out.av, HAV2.out, HK5.out.bp.turned ht6 (by omega), ⟨_, rfl, set9 HK5.out.br.get _ _ _ _ _ _ _ _ _⟩, heap_turned HK5.out.z0 ht6 (by omega), heap_turned HK5.out.z1 ht6 (by omega), Below.turned HK5.out.bel ht6 (fun i h => by omega) HK5.out.bel.size⟩)
            clear ht6 HK5 HV2 HAV2 HBX
            go_wp2_with fail
            go_roundw
            case rel => exact ⟨k + 1, _, _, by go_num, by omega, by rw [HN.out, HJ1.out]; exact HK6.out⟩
            case measure => simp [intOf]; omega
          · go_simp
            refine hK.out _ _ (HH.out _ ((bch (below_drew1 (Below.refl w3.heap.size w3)) (below_alloc w3.drew _) (Nat.le_refl _)))) (fun hHeld => ?_)
            clear hK K
            try simp only [Act.put, List.getElem_toArray, List.getElem_cons_zero, List.getElem_cons_succ, List.setIfInBounds_toArray, List.set_cons_zero, List.set_cons_succ]
            refine wpAnyH_ready (rs := [5]) (by kernel_rfl) (by simp) ?_
            refine AllReadyH.cons rfl (fun K hK => ?_) AllReadyH.nil
            go_simp
            have HBd := Lib.hid (bch (below_drew1 (Below.refl w3.heap.size w3)) (below_alloc w3.drew (.cells zInR tInR)) (Nat.le_refl _))
            refine (HACC.out _ HBd.out).mono ?_
            rintro e w4 ⟨v4, rfl, hv, hav, hb⟩
            have HV1 := Lib.hid hv; have HAV1 := Lib.hid hav
            obtain ⟨D0, Dn0, Dc0, D1, Dn1, Dc1, D2, Dn2, Dc2, rfl, _⟩ := hv
            clear hav
            have HW1 := Lib.hid (bch HBd.out hb HBd.out.size)
            refine hK.out _ _ (HH.out _ (HW1.out)) (fun hHeld => ?_)
            clear hK K
            try simp only [Act.put, List.getElem_toArray, List.getElem_cons_zero, List.getElem_cons_succ, List.setIfInBounds_toArray, List.set_cons_zero, List.set_cons_succ]
            refine wpAnyH_take (i := 6) (v := ?vc6_4) rfl (by kernel_rfl) (by kernel_rfl) (by kernel_rfl) (fun _ _ _ h => h) (Or.inl ⟨by rfl, ?hyc6_4⟩) (by assumption) ?restc6_4
            case hyc6_4 => (intro w0 hSw; (try dsimp only at hSw); go_simp; try with_reducible rfl)
            case' restc6_4 => try simp only [Act.put, List.getElem_toArray, List.getElem_cons_zero, List.getElem_cons_succ, List.setIfInBounds_toArray, List.set_cons_zero, List.set_cons_succ]
            refine wpAnyH_take (i := 7) (v := ?vc7_4) rfl (by kernel_rfl) (by kernel_rfl) (by kernel_rfl) (fun _ _ _ h => h) (Or.inl ⟨by rfl, ?hyc7_4⟩) (by assumption) ?restc7_4
            case hyc7_4 => (intro w0 hSw; (try dsimp only at hSw); go_simp; try with_reducible rfl)
            case' restc7_4 => try simp only [Act.put, List.getElem_toArray, List.getElem_cons_zero, List.getElem_cons_succ, List.setIfInBounds_toArray, List.set_cons_zero, List.set_cons_succ]
            refine wpAnyH_take (i := 8) (v := ?vc8_4) rfl (by kernel_rfl) (by kernel_rfl) (by kernel_rfl) (fun _ _ _ h => h) (Or.inl ⟨by rfl, ?hyc8_4⟩) (by assumption) ?restc8_4
            case hyc8_4 => (intro w0 hSw; (try dsimp only at hSw); go_simp; try with_reducible rfl)
            case' restc8_4 => try simp only [Act.put, List.getElem_toArray, List.getElem_cons_zero, List.getElem_cons_succ, List.setIfInBounds_toArray, List.set_cons_zero, List.set_cons_succ]
            have HZ0 := Lib.hid (show w4.heap[w3.heap.size]? = some (.cells zInR tInR (0, 0)) from heap_keep (heap_new w3.drew (.cells zInR tInR)) hb)
            have hzlt : w3.heap.size < w4.heap.size := heap_lt HZ0.out
            obtain ⟨z0, z1, z2, z3, z4, z5, z6, z7, z8⟩ := cell9 HZ0.out
            obtain ⟨f0, f1, f2, f3, f4, f5, f6, f7, f8⟩ := froz9 HZ0.out
            have HTu := Lib.hid (turned_set9 w4 w3.heap.size (.int .i64 J1.a.1) (.int .i64 J1.a.2.1) (.slice D0 Dn0 Dc0) (.int .i64 J1.b.1) (.int .i64 J1.b.2.1) (.slice D1 Dn1 Dc1) (.int .i64 J1.c.1) (.int .i64 J1.c.2.1) (.slice D2 Dn2 Dc2))
            have HSET := Lib.hid (set9 HZ0.out (.int .i64 J1.a.1) (.int .i64 J1.a.2.1) (.slice D0 Dn0 Dc0) (.int .i64 J1.b.1) (.int .i64 J1.b.2.1) (.slice D1 Dn1 Dc1) (.int .i64 J1.c.1) (.int .i64 J1.c.2.1) (.slice D2 Dn2 Dc2))
            unfold set9w at HTu HSET
            have HWs := Lib.hid (Below.turned HW1.out HTu.out (fun i hi => by omega) (Below.size HW1.out))
            refine wpAnyH_ready (rs := [10]) (by kernel_rfl) (by simp) ?_
            refine AllReadyH.cons rfl (fun K hK => ?_) AllReadyH.nil
            go_simp
            refine hK.out _ _ (HH.out _ (HWs.out)) (fun hHeld => ?_)
            clear hK K
            try simp only [Act.put, List.getElem_toArray, List.getElem_cons_zero, List.getElem_cons_succ, List.setIfInBounds_toArray, List.set_cons_zero, List.set_cons_succ]
            refine wpAnyH_take (i := 11) (v := ?vc11_5) rfl (by kernel_rfl) (by kernel_rfl) (by kernel_rfl) (fun _ _ _ h => h) (Or.inl ⟨by rfl, ?hyc11_5⟩) (by assumption) ?restc11_5
            case hyc11_5 => (intro w0 hSw; (try dsimp only at hSw); go_simp; try with_reducible rfl)
            case' restc11_5 => try simp only [Act.put, List.getElem_toArray, List.getElem_cons_zero, List.getElem_cons_succ, List.setIfInBounds_toArray, List.set_cons_zero, List.set_cons_succ]
            refine wpAnyH_done (by kernel_rfl) ?_ _
            refine NoPanic.normal ?_
            have HB2 := Lib.hid HWs.out
            have HBX := Lib.hid HSET.out
            have HAV2 := Lib.hid (fun b (h1 : w.heap.size ≤ b) (h2 : b < w.heap.size + 4) => HAV1.out b (HK3.out.ar b h1 h2) (fun ad m c e hl => by have := rd_near HRD.out ad m c e hl; omega))
            have HV2 := Lib.hid (HV1.out.turned HTu.out (fun b hb => by rw [hb]; exact HAV1.out w3.heap.size (AvR.far HK3.out.r (Nat.le_refl _)) (fun ad m c e hl => by have := rd_near HRD.out ad m c e hl; have := HK3.out.bel.size; omega)))
            clear HV1 HAV1
            clear hHeld HW1 hb HACC HH HBd HZ0 hzlt HTu HSET HWs z0 z1 z2 z3 z4 z5 z6 z7 z8 f0 f1 f2 f3 f4 f5 f6 f7 f8
            obtain ⟨w5, hW2⟩ : ∃ w5, w5 = ((((((((w4.setCell ⟨w3.heap.size, 0, none⟩ (.int .i64 J1.a.1)).setCell ⟨w3.heap.size, 1, none⟩ (.int .i64 J1.a.2.1)).setCell ⟨w3.heap.size, 2, none⟩ (.slice D0 Dn0 Dc0)).setCell ⟨w3.heap.size, 3, none⟩ (.int .i64 J1.b.1)).setCell ⟨w3.heap.size, 4, none⟩ (.int .i64 J1.b.2.1)).setCell ⟨w3.heap.size, 5, none⟩ (.slice D1 Dn1 Dc1)).setCell ⟨w3.heap.size, 6, none⟩ (.int .i64 J1.c.1)).setCell ⟨w3.heap.size, 7, none⟩ (.int .i64 J1.c.2.1)).setCell ⟨w3.heap.size, 8, none⟩ (.slice D2 Dn2 Dc2) := ⟨_, rfl⟩
            rw [← hW2] at HB2 HBX HV2 ⊢
            clear hW2
            generalize hb7 : w3.heap.size = b9 at HBX HB2 ⊢
            rw [← hb7] at HB2
            clear hb7
            have HK5 := Lib.hid (HK3.out.keep HB2.out)
            clear HB2 HK3 i0 i1 i2 i3 i4 i5 i6 i7 i8 d0 d1 d2
            have hz5 : w.heap.size + 3 < w5.heap.size := heap_lt HK5.out.br.get
            obtain ⟨i0, i1, i2, i3, i4, i5, i6, i7, i8⟩ := cell9 HBX.out
            obtain ⟨m0, m1', m2, m3, m4, m5, m6, m7, m8⟩ := cell9 HK5.out.br.get
            obtain ⟨f0, f1, f2, f3, f4, f5, f6, f7, f8⟩ := froz9 HK5.out.br.get
            have ht6 := turned_set9 w5 (w.heap.size + 3) (.int .i64 J1.a.1) (.int .i64 J1.a.2.1) (.slice D0 Dn0 Dc0) (.int .i64 J1.b.1) (.int .i64 J1.b.2.1) (.slice D1 Dn1 Dc1) (.int .i64 J1.c.1) (.int .i64 J1.c.2.1) (.slice D2 Dn2 Dc2)
            have HK6 := Lib.hid (show Two2 w _ _ _ J1 J1 from ⟨HK5.out.p.turned ht6 (fun b hb => by rw [hb]; exact HK5.out.av _ (by omega) (by omega)), HV2.out.turned ht6 (fun b hb => by rw [hb]; exact HAV2.out _ (by omega) (by omega)), HK5.out.av, HAV2.out, HK5.out.bp.turned ht6 (by omega), ⟨_, rfl, set9 HK5.out.br.get _ _ _ _ _ _ _ _ _⟩, heap_turned HK5.out.z0 ht6 (by omega), heap_turned HK5.out.z1 ht6 (by omega), Below.turned HK5.out.bel ht6 (fun i h => by omega) HK5.out.bel.size⟩)
            clear ht6 HK5 HV2 HAV2 HBX
            go_wp2_with fail
            go_roundw
            case rel => exact ⟨k + 1, _, _, by go_num, by omega, by rw [HN.out, HJ1.out]; exact HK6.out⟩
            case measure => simp [intOf]; omega
        · go_simp
          refine hK.out _ _ (HH.out _ ((bch (below_drew1 (Below.refl wr.heap.size wr)) (below_alloc wr.drew _) (Nat.le_refl _)))) (fun hHeld => ?_)
          clear hK K
          try simp only [Act.put, List.getElem_toArray, List.getElem_cons_zero, List.getElem_cons_succ, List.setIfInBounds_toArray, List.set_cons_zero, List.set_cons_succ]
          refine wpAnyH_ready (rs := [5]) (by kernel_rfl) (by simp) ?_
          refine AllReadyH.cons rfl (fun K hK => ?_) AllReadyH.nil
          go_simp
          have HBd := Lib.hid (bch (below_drew1 (Below.refl wr.heap.size wr)) (below_alloc wr.drew (.cells zIn tIn)) (Nat.le_refl _))
          refine (HACC.out _ HBd.out).mono ?_
          rintro e w1 ⟨v1, rfl, hv, hav, hb⟩
          have HV1 := Lib.hid hv; have HAV1 := Lib.hid hav
          obtain ⟨C0, Cn0, Cc0, C1, Cn1, Cc1, C2, Cn2, Cc2, m1, rfl, _⟩ := hv
          clear hav
          have HW1 := Lib.hid (bch HBd.out hb HBd.out.size)
          refine hK.out _ _ (HH.out _ (HW1.out)) (fun hHeld => ?_)
          clear hK K
          try simp only [Act.put, List.getElem_toArray, List.getElem_cons_zero, List.getElem_cons_succ, List.setIfInBounds_toArray, List.set_cons_zero, List.set_cons_succ]
          refine wpAnyH_take (i := 6) (v := ?vc6_9) rfl (by kernel_rfl) (by kernel_rfl) (by kernel_rfl) (fun _ _ _ h => h) (Or.inl ⟨by rfl, ?hyc6_9⟩) (by assumption) ?restc6_9
          case hyc6_9 => (intro w0 hSw; (try dsimp only at hSw); go_simp; try with_reducible rfl)
          case' restc6_9 => try simp only [Act.put, List.getElem_toArray, List.getElem_cons_zero, List.getElem_cons_succ, List.setIfInBounds_toArray, List.set_cons_zero, List.set_cons_succ]
          refine wpAnyH_take (i := 7) (v := ?vc7_9) rfl (by kernel_rfl) (by kernel_rfl) (by kernel_rfl) (fun _ _ _ h => h) (Or.inl ⟨by rfl, ?hyc7_9⟩) (by assumption) ?restc7_9
          case hyc7_9 => (intro w0 hSw; (try dsimp only at hSw); go_simp; try with_reducible rfl)
          case' restc7_9 => try simp only [Act.put, List.getElem_toArray, List.getElem_cons_zero, List.getElem_cons_succ, List.setIfInBounds_toArray, List.set_cons_zero, List.set_cons_succ]
          refine wpAnyH_take (i := 8) (v := ?vc8_9) rfl (by kernel_rfl) (by kernel_rfl) (by kernel_rfl) (fun _ _ _ h => h) (Or.inl ⟨by rfl, ?hyc8_9⟩) (by assumption) ?restc8_9
          case hyc8_9 => (intro w0 hSw; (try dsimp only at hSw); go_simp; try with_reducible rfl)
          case' restc8_9 => try simp only [Act.put, List.getElem_toArray, List.getElem_cons_zero, List.getElem_cons_succ, List.setIfInBounds_toArray, List.set_cons_zero, List.set_cons_succ]
          have HZ0 := Lib.hid (show w1.heap[wr.heap.size]? = some (.cells zIn tIn (0, 0)) from heap_keep (heap_new wr.drew (.cells zIn tIn)) hb)
          have hzlt : wr.heap.size < w1.heap.size := heap_lt HZ0.out
          obtain ⟨z0, z1, z2, z3, z4, z5, z6, z7, z8, z9⟩ := cell10 HZ0.out
          obtain ⟨f0, f1, f2, f3, f4, f5, f6, f7, f8, f9⟩ := froz10 HZ0.out
          have HTu := Lib.hid (turned_set10 w1 wr.heap.size (.int .i64 J1.a.1) (.int .i64 J1.a.2.1) (.slice C0 Cn0 Cc0) (.int .i64 J1.b.1) (.int .i64 J1.b.2.1) (.slice C1 Cn1 Cc1) (.int .i64 J1.c.1) (.int .i64 J1.c.2.1) (.slice C2 Cn2 Cc2) (.map m1))
          have HSET := Lib.hid (set10 HZ0.out (.int .i64 J1.a.1) (.int .i64 J1.a.2.1) (.slice C0 Cn0 Cc0) (.int .i64 J1.b.1) (.int .i64 J1.b.2.1) (.slice C1 Cn1 Cc1) (.int .i64 J1.c.1) (.int .i64 J1.c.2.1) (.slice C2 Cn2 Cc2) (.map m1))
          unfold set10w at HTu HSET
          have HWs := Lib.hid (Below.turned HW1.out HTu.out (fun i hi => by omega) (Below.size HW1.out))
          refine wpAnyH_ready (rs := [10]) (by kernel_rfl) (by simp) ?_
          refine AllReadyH.cons rfl (fun K hK => ?_) AllReadyH.nil
          go_simp
          refine hK.out _ _ (HH.out _ (HWs.out)) (fun hHeld => ?_)
          clear hK K
          try simp only [Act.put, List.getElem_toArray, List.getElem_cons_zero, List.getElem_cons_succ, List.setIfInBounds_toArray, List.set_cons_zero, List.set_cons_succ]
          refine wpAnyH_take (i := 11) (v := ?vc11_10) rfl (by kernel_rfl) (by kernel_rfl) (by kernel_rfl) (fun _ _ _ h => h) (Or.inl ⟨by rfl, ?hyc11_10⟩) (by assumption) ?restc11_10
          case hyc11_10 => (intro w0 hSw; (try dsimp only at hSw); go_simp; try with_reducible rfl)
          case' restc11_10 => try simp only [Act.put, List.getElem_toArray, List.getElem_cons_zero, List.getElem_cons_succ, List.setIfInBounds_toArray, List.set_cons_zero, List.set_cons_succ]
          refine wpAnyH_done (by kernel_rfl) ?_ _
          refine NoPanic.normal ?_
          have HB2 := Lib.hid HWs.out
          have HBX := Lib.hid HSET.out
          have HAV2 := Lib.hid (fun b (h1 : w.heap.size ≤ b) (h2 : b < w.heap.size + 4) => HAV1.out b (by simp; omega) (HK.out.av b h1 h2))
          have HV2 := Lib.hid (HV1.out.turned HTu.out (fun b hb => by rw [hb]; exact HAV1.out wr.heap.size (by simp) (Av.far HPP.out (Nat.le_refl _))))
          clear HV1 HAV1
          clear hHeld HW1 hb HACC HH HBd HZ0 hzlt HTu HSET HWs z0 z1 z2 z3 z4 z5 z6 z7 z8 z9 f0 f1 f2 f3 f4 f5 f6 f7 f8 f9
          obtain ⟨w2, hW2⟩ : ∃ w2, w2 = (((((((((w1.setCell ⟨wr.heap.size, 0, none⟩ (.int .i64 J1.a.1)).setCell ⟨wr.heap.size, 1, none⟩ (.int .i64 J1.a.2.1)).setCell ⟨wr.heap.size, 2, none⟩ (.slice C0 Cn0 Cc0)).setCell ⟨wr.heap.size, 3, none⟩ (.int .i64 J1.b.1)).setCell ⟨wr.heap.size, 4, none⟩ (.int .i64 J1.b.2.1)).setCell ⟨wr.heap.size, 5, none⟩ (.slice C1 Cn1 Cc1)).setCell ⟨wr.heap.size, 6, none⟩ (.int .i64 J1.c.1)).setCell ⟨wr.heap.size, 7, none⟩ (.int .i64 J1.c.2.1)).setCell ⟨wr.heap.size, 8, none⟩ (.slice C2 Cn2 Cc2)).setCell ⟨wr.heap.size, 9, none⟩ (.map m1) := ⟨_, rfl⟩
          rw [← hW2] at HB2 HBX HV2 ⊢
          clear hW2
          generalize hb7 : wr.heap.size = b7 at HBX HB2 ⊢
          rw [← hb7] at HB2
          clear hb7
          have HK2 := Lib.hid (HK.out.keep HB2.out)
          clear HB2 HK HPP i0 i1 i2 i3 i4 i5 i6 i7 i8 i9 d0 d1 d2
          have hn0 := beqT (rfl : (0 : Int) = 0)
          obtain ⟨i0, i1, i2, i3, i4, i5, i6, i7, i8, i9⟩ := cell10 HBX.out
          obtain ⟨m0, m1', m2, m3, m4, m5, m6, m7, m8, m9⟩ := cell10 HK2.out.bp.get
          obtain ⟨f0, f1, f2, f3, f4, f5, f6, f7, f8, f9⟩ := froz10 HK2.out.bp.get
          go_upto_region 9 with (fail)
          obtain ⟨w3, hw3⟩ : ∃ w3, w3 = set10w w2 (w.heap.size + 2) (.int .i64 J1.a.1) (.int .i64 J1.a.2.1) (.slice C0 Cn0 Cc0) (.int .i64 J1.b.1) (.int .i64 J1.b.2.1) (.slice C1 Cn1 Cc1) (.int .i64 J1.c.1) (.int .i64 J1.c.2.1) (.slice C2 Cn2 Cc2) (.map m1) := ⟨_, rfl⟩
          rw [show (((((((((w2.setCell ⟨w.heap.size + 2, 0, none⟩ (.int .i64 J1.a.1)).setCell ⟨w.heap.size + 2, 1, none⟩ (.int .i64 J1.a.2.1)).setCell ⟨w.heap.size + 2, 2, none⟩ (.slice C0 Cn0 Cc0)).setCell ⟨w.heap.size + 2, 3, none⟩ (.int .i64 J1.b.1)).setCell ⟨w.heap.size + 2, 4, none⟩ (.int .i64 J1.b.2.1)).setCell ⟨w.heap.size + 2, 5, none⟩ (.slice C1 Cn1 Cc1)).setCell ⟨w.heap.size + 2, 6, none⟩ (.int .i64 J1.c.1)).setCell ⟨w.heap.size + 2, 7, none⟩ (.int .i64 J1.c.2.1)).setCell ⟨w.heap.size + 2, 8, none⟩ (.slice C2 Cn2 Cc2)).setCell ⟨w.heap.size + 2, 9, none⟩ (.map m1) = w3 from hw3.symm]
          have ht3 : Turned (fun j => j = w.heap.size + 2) w2 w3 := by rw [hw3]; exact turned_set10 _ _ _ _ _ _ _ _ _ _ _ _
          have HK3 := Lib.hid (show Two2 w w3 _ _ J1 J from ⟨HV2.out.turned ht3 (fun b hb => by rw [hb]; exact HAV2.out _ (by omega) (by omega)), HK2.out.r.turned ht3 (fun b hb => by rw [hb]; exact HK2.out.ar _ (by omega) (by omega)), HAV2.out, HK2.out.ar, ⟨_, rfl, by rw [hw3]; exact set10 HK2.out.bp.get _ _ _ _ _ _ _ _ _ _⟩, HK2.out.br.turned ht3 (by omega), heap_turned HK2.out.z0 ht3 (by omega), heap_turned HK2.out.z1 ht3 (by omega), Below.turned HK2.out.bel ht3 (fun i h => by omega) HK2.out.bel.size⟩)
          clear hw3 ht3 HK2 HV2 HBX HAV2 i0 i1 i2 i3 i4 i5 i6 i7 i8 i9 m0 m1' m2 m3 m4 m5 m6 m7 m8 m9 f0 f1 f2 f3 f4 f5 f6 f7 f8 f9
          have hz33 : w.heap.size + 3 < w3.heap.size := by obtain ⟨_, _, h⟩ := HK3.out.br; exact heap_lt h
          obtain ⟨d0, d1, d2⟩ := HDC.out _ HK3.out.bel
          have hgl3 : g < w3.heap.size := World.block_lt_of_cell? _ _ d0
          obtain ⟨i0, i1, i2, i3, i4, i5, i6, i7, i8⟩ := cell9 HK3.out.br.get
          have HACC := Lib.hid (fun W (hW : Below w3.heap.size w3 W) => HJ1.out ▸ refAccept_ok W _ J x _ (HK3.out.r.below hW) (HRD.out.keep (bch HK3.out.bel hW HK3.out.bel.size)) HE.out)
          have HH := Lib.hid (fun W (hb : Below w3.heap.size w3 W) => (⟨Lib.hid hb, (hb.cell (World.block_lt_of_cell? w3 _ i0)).trans i0, (hb.cell (World.block_lt_of_cell? w3 _ i1)).trans i1, (hb.cell (World.block_lt_of_cell? w3 _ i2)).trans i2, (hb.cell (World.block_lt_of_cell? w3 _ i3)).trans i3, (hb.cell (World.block_lt_of_cell? w3 _ i4)).trans i4, (hb.cell (World.block_lt_of_cell? w3 _ i5)).trans i5, (hb.cell (World.block_lt_of_cell? w3 _ i6)).trans i6, (hb.cell (World.block_lt_of_cell? w3 _ i7)).trans i7, (hb.cell (World.block_lt_of_cell? w3 _ i8)).trans i8, (hb.cell (World.block_lt_of_cell? w3 _ d0)).trans d0, (hb.cell (World.block_lt_of_cell? w3 _ d1)).trans d1, (hb.cell (World.block_lt_of_cell? w3 _ d2)).trans d2⟩ : (fun w' => Hid (Below w3.heap.size w3 w') ∧ w'.cell? ⟨w.heap.size + 3, 0, none⟩ = some (.int .i64 J.a.1) ∧ w'.cell? ⟨w.heap.size + 3, 1, none⟩ = some (.int .i64 J.a.2.1) ∧ w'.cell? ⟨w.heap.size + 3, 2, none⟩ = some (.slice B0 Bn0 Bc0) ∧ w'.cell? ⟨w.heap.size + 3, 3, none⟩ = some (.int .i64 J.b.1) ∧ w'.cell? ⟨w.heap.size + 3, 4, none⟩ = some (.int .i64 J.b.2.1) ∧ w'.cell? ⟨w.heap.size + 3, 5, none⟩ = some (.slice B1 Bn1 Bc1) ∧ w'.cell? ⟨w.heap.size + 3, 6, none⟩ = some (.int .i64 J.c.1) ∧ w'.cell? ⟨w.heap.size + 3, 7, none⟩ = some (.int .i64 J.c.2.1) ∧ w'.cell? ⟨w.heap.size + 3, 8, none⟩ = some (.slice B2 Bn2 Bc2) ∧ w'.cell? ⟨g, off + k * 3, none⟩ = some (.int .i64 x.1) ∧ w'.cell? ⟨g, off + k * 3 + 1, none⟩ = some (.int .i64 x.2.1) ∧ w'.cell? ⟨g, off + k * 3 + 2, none⟩ = some (.slice Ax x.2.2.length cx)) W))
          refine wp_region_noPanic ?_
          refine wp_region_held_drew (S := (fun w' => Hid (Below w3.heap.size w3 w') ∧ w'.cell? ⟨w.heap.size + 3, 0, none⟩ = some (.int .i64 J.a.1) ∧ w'.cell? ⟨w.heap.size + 3, 1, none⟩ = some (.int .i64 J.a.2.1) ∧ w'.cell? ⟨w.heap.size + 3, 2, none⟩ = some (.slice B0 Bn0 Bc0) ∧ w'.cell? ⟨w.heap.size + 3, 3, none⟩ = some (.int .i64 J.b.1) ∧ w'.cell? ⟨w.heap.size + 3, 4, none⟩ = some (.int .i64 J.b.2.1) ∧ w'.cell? ⟨w.heap.size + 3, 5, none⟩ = some (.slice B1 Bn1 Bc1) ∧ w'.cell? ⟨w.heap.size + 3, 6, none⟩ = some (.int .i64 J.c.1) ∧ w'.cell? ⟨w.heap.size + 3, 7, none⟩ = some (.int .i64 J.c.2.1) ∧ w'.cell? ⟨w.heap.size + 3, 8, none⟩ = some (.slice B2 Bn2 Bc2) ∧ w'.cell? ⟨g, off + k * 3, none⟩ = some (.int .i64 x.1) ∧ w'.cell? ⟨g, off + k * 3 + 1, none⟩ = some (.int .i64 x.2.1) ∧ w'.cell? ⟨g, off + k * 3 + 2, none⟩ = some (.slice Ax x.2.2.length cx))) (by kernel_rfl) (HH.out _ (below_drew1 (Below.refl w3.heap.size w3))) (fun hHeld => ?_)
          refine wpAnyH_take (i := 0) (v := ?vc0_1z) rfl (by kernel_rfl) (by kernel_rfl) (by kernel_rfl) (fun _ _ _ h => h) (Or.inl ⟨by rfl, ?hyc0_1z⟩) (by assumption) ?restc0_1z
          case hyc0_1z => (intro w0 hSw; (try dsimp only at hSw); go_simp; try with_reducible rfl)
          case' restc0_1z => try simp only [Act.put, List.getElem_toArray, List.getElem_cons_zero, List.getElem_cons_succ, List.setIfInBounds_toArray, List.set_cons_zero, List.set_cons_succ]
          refine wpAnyH_take (i := 1) (v := ?vc1_1z) rfl (by kernel_rfl) (by kernel_rfl) (by kernel_rfl) (fun _ _ _ h => h) (Or.inl ⟨by rfl, ?hyc1_1z⟩) (by assumption) ?restc1_1z
          case hyc1_1z => (intro w0 hSw; (try dsimp only at hSw); go_simp; try with_reducible rfl)
          case' restc1_1z => try simp only [Act.put, List.getElem_toArray, List.getElem_cons_zero, List.getElem_cons_succ, List.setIfInBounds_toArray, List.set_cons_zero, List.set_cons_succ]
          refine wpAnyH_take (i := 2) (v := ?vc2_1z) rfl (by kernel_rfl) (by kernel_rfl) (by kernel_rfl) (fun _ _ _ h => h) (Or.inl ⟨by rfl, ?hyc2_1z⟩) (by assumption) ?restc2_1z
          case hyc2_1z => (intro w0 hSw; (try dsimp only at hSw); go_simp; try with_reducible rfl)
          case' restc2_1z => try simp only [Act.put, List.getElem_toArray, List.getElem_cons_zero, List.getElem_cons_succ, List.setIfInBounds_toArray, List.set_cons_zero, List.set_cons_succ]
          refine wpAnyH_take (i := 3) (v := ?vc3_1z) rfl (by kernel_rfl) (by kernel_rfl) (by kernel_rfl) (fun _ _ _ h => h) (Or.inl ⟨by rfl, ?hyc3_1z⟩) (by assumption) ?restc3_1z
          case hyc3_1z => (intro w0 hSw; (try dsimp only at hSw); go_simp; try with_reducible rfl)
          case' restc3_1z => try simp only [Act.put, List.getElem_toArray, List.getElem_cons_zero, List.getElem_cons_succ, List.setIfInBounds_toArray, List.set_cons_zero, List.set_cons_succ]
          refine wpAnyH_take (i := 4) (v := ?vc4_1z) rfl (by kernel_rfl) (by kernel_rfl) (by kernel_rfl) (fun _ _ _ h => h) (Or.inl ⟨by rfl, ?hyc4_1z⟩) (by assumption) ?restc4_1z
          case hyc4_1z => (intro w0 hSw; (try dsimp only at hSw); go_simp; try with_reducible rfl)
          case' restc4_1z => try simp only [Act.put, List.getElem_toArray, List.getElem_cons_zero, List.getElem_cons_succ, List.setIfInBounds_toArray, List.set_cons_zero, List.set_cons_succ]
          refine wpAnyH_ready (rs := [5, 9]) (by kernel_rfl) (by simp) ?_
          refine AllReadyH.cons rfl (fun K hK => ?_) (AllReadyH.cons rfl (fun K hK => ?_) AllReadyH.nil)
          · go_simp
            refine (HACC.out _ (below_drew1 (Below.refl w3.heap.size w3))).mono ?_
            rintro e w4 ⟨v4, rfl, hv, hav, hb⟩
            have HV1 := Lib.hid hv; have HAV1 := Lib.hid hav
            obtain ⟨D0, Dn0, Dc0, D1, Dn1, Dc1, D2, Dn2, Dc2, rfl, _⟩ := hv
            clear hav
            have HW1 := Lib.hid (bch (below_drew1 (Below.refl w3.heap.size w3)) hb (Below.size (below_drew1 (Below.refl w3.heap.size w3))))
            refine hK.out _ _ (HH.out _ (HW1.out)) (fun hHeld => ?_)
            clear hK K
            try simp only [Act.put, List.getElem_toArray, List.getElem_cons_zero, List.getElem_cons_succ, List.setIfInBounds_toArray, List.set_cons_zero, List.set_cons_succ]
            refine wpAnyH_take (i := 6) (v := ?vc6_2z) rfl (by kernel_rfl) (by kernel_rfl) (by kernel_rfl) (fun _ _ _ h => h) (Or.inl ⟨by rfl, ?hyc6_2z⟩) (by assumption) ?restc6_2z
            case hyc6_2z => (intro w0 hSw; (try dsimp only at hSw); go_simp; try with_reducible rfl)
            case' restc6_2z => try simp only [Act.put, List.getElem_toArray, List.getElem_cons_zero, List.getElem_cons_succ, List.setIfInBounds_toArray, List.set_cons_zero, List.set_cons_succ]
            refine wpAnyH_take (i := 7) (v := ?vc7_2z) rfl (by kernel_rfl) (by kernel_rfl) (by kernel_rfl) (fun _ _ _ h => h) (Or.inl ⟨by rfl, ?hyc7_2z⟩) (by assumption) ?restc7_2z
            case hyc7_2z => (intro w0 hSw; (try dsimp only at hSw); go_simp; try with_reducible rfl)
            case' restc7_2z => try simp only [Act.put, List.getElem_toArray, List.getElem_cons_zero, List.getElem_cons_succ, List.setIfInBounds_toArray, List.set_cons_zero, List.set_cons_succ]
            refine wpAnyH_take (i := 8) (v := ?vc8_2z) rfl (by kernel_rfl) (by kernel_rfl) (by kernel_rfl) (fun _ _ _ h => h) (Or.inl ⟨by rfl, ?hyc8_2z⟩) (by assumption) ?restc8_2z
            case hyc8_2z => (intro w0 hSw; (try dsimp only at hSw); go_simp; try with_reducible rfl)
            case' restc8_2z => try simp only [Act.put, List.getElem_toArray, List.getElem_cons_zero, List.getElem_cons_succ, List.setIfInBounds_toArray, List.set_cons_zero, List.set_cons_succ]
            refine wpAnyH_ready (rs := [9]) (by kernel_rfl) (by simp) ?_
            refine AllReadyH.cons rfl (fun K hK => ?_) AllReadyH.nil
            go_simp
            refine hK.out _ _ (HH.out _ ((bch HW1.out (below_alloc w4 _) HW1.out.size))) (fun hHeld => ?_)
            clear hK K
            try simp only [Act.put, List.getElem_toArray, List.getElem_cons_zero, List.getElem_cons_succ, List.setIfInBounds_toArray, List.set_cons_zero, List.set_cons_succ]
            refine wpAnyH_ready (rs := [10]) (by kernel_rfl) (by simp) ?_
            refine AllReadyH.cons rfl (fun K hK => ?_) AllReadyH.nil
            go_simp
            refine hK.out _ _ (HH.out _ ((bch HW1.out (below_alloc w4 _) HW1.out.size))) (fun hHeld => ?_)
            clear hK K
            try simp only [Act.put, List.getElem_toArray, List.getElem_cons_zero, List.getElem_cons_succ, List.setIfInBounds_toArray, List.set_cons_zero, List.set_cons_succ]
            refine wpAnyH_take (i := 11) (v := ?vc11_3z) rfl (by kernel_rfl) (by kernel_rfl) (by kernel_rfl) (fun _ _ _ h => h) (Or.inl ⟨by rfl, ?hyc11_3z⟩) (by assumption) ?restc11_3z
            case hyc11_3z => (intro w0 hSw; (try dsimp only at hSw); go_simp; try with_reducible rfl)
            case' restc11_3z => try simp only [Act.put, List.getElem_toArray, List.getElem_cons_zero, List.getElem_cons_succ, List.setIfInBounds_toArray, List.set_cons_zero, List.set_cons_succ]
            refine wpAnyH_done (by kernel_rfl) ?_ _
            refine NoPanic.normal ?_
            have HB2 := Lib.hid (bch HW1.out (below_alloc w4 (.cells #[.int .i64 J1.a.1, .int .i64 J1.a.2.1, .slice D0 Dn0 Dc0, .int .i64 J1.b.1, .int .i64 J1.b.2.1, .slice D1 Dn1 Dc1, .int .i64 J1.c.1, .int .i64 J1.c.2.1, .slice D2 Dn2 Dc2] tInR)) HW1.out.size)
            have HBX := Lib.hid (heap_new w4 (.cells #[.int .i64 J1.a.1, .int .i64 J1.a.2.1, .slice D0 Dn0 Dc0, .int .i64 J1.b.1, .int .i64 J1.b.2.1, .slice D1 Dn1 Dc1, .int .i64 J1.c.1, .int .i64 J1.c.2.1, .slice D2 Dn2 Dc2] tInR))
            have HV2 := Lib.hid (HV1.out.below (below_alloc w4 (.cells #[.int .i64 J1.a.1, .int .i64 J1.a.2.1, .slice D0 Dn0 Dc0, .int .i64 J1.b.1, .int .i64 J1.b.2.1, .slice D1 Dn1 Dc1, .int .i64 J1.c.1, .int .i64 J1.c.2.1, .slice D2 Dn2 Dc2] tInR)))
            have HAV2 := Lib.hid (fun b (h1 : w.heap.size ≤ b) (h2 : b < w.heap.size + 4) => HAV1.out b (HK3.out.ar b h1 h2) (fun ad m c e hl => by have := rd_near HRD.out ad m c e hl; omega))
            clear HV1 HAV1
            clear hHeld HW1 hb HACC HH
            obtain ⟨w5, hW2⟩ : ∃ w5, w5 = w4.alloc (.cells #[.int .i64 J1.a.1, .int .i64 J1.a.2.1, .slice D0 Dn0 Dc0, .int .i64 J1.b.1, .int .i64 J1.b.2.1, .slice D1 Dn1 Dc1, .int .i64 J1.c.1, .int .i64 J1.c.2.1, .slice D2 Dn2 Dc2] tInR) := ⟨_, rfl⟩
            rw [← hW2] at HB2 HBX HV2 ⊢
            clear hW2
            generalize w4.heap.size = b9 at HBX ⊢
            have HK5 := Lib.hid (HK3.out.keep HB2.out)
            clear HB2 HK3 i0 i1 i2 i3 i4 i5 i6 i7 i8 d0 d1 d2
            have hz5 : w.heap.size + 3 < w5.heap.size := heap_lt HK5.out.br.get
            obtain ⟨i0, i1, i2, i3, i4, i5, i6, i7, i8⟩ := cell9 HBX.out
            obtain ⟨m0, m1', m2, m3, m4, m5, m6, m7, m8⟩ := cell9 HK5.out.br.get
            obtain ⟨f0, f1, f2, f3, f4, f5, f6, f7, f8⟩ := froz9 HK5.out.br.get
            have ht6 := turned_set9 w5 (w.heap.size + 3) (.int .i64 J1.a.1) (.int .i64 J1.a.2.1) (.slice D0 Dn0 Dc0) (.int .i64 J1.b.1) (.int .i64 J1.b.2.1) (.slice D1 Dn1 Dc1) (.int .i64 J1.c.1) (.int .i64 J1.c.2.1) (.slice D2 Dn2 Dc2)
            have HK6 := Lib.hid (show Two2 w _ _ _ J1 J1 from ⟨HK5.out.p.turned ht6 (fun b hb => by rw [hb]; exact HK5.out.av _ (by omega) (by omega)), HV2.out.turned ht6 (fun b hb => by rw [hb]; exact HAV2.out _ (by omega) (by omega)), HK5.out.av, HAV2.out, HK5.out.bp.turned ht6 (by omega), ⟨_, rfl, set9 HK5.out.br.get _ _ _ _ _ _ _ _ _⟩, heap_turned HK5.out.z0 ht6 (by omega), heap_turned HK5.out.z1 ht6 (by omega), Below.turned HK5.out.bel ht6 (fun i h => by omega) HK5.out.bel.size⟩)
            clear ht6 HK5 HV2 HAV2 HBX
            go_wp2_with fail
            go_roundw
            case rel => exact ⟨k + 1, _, _, by go_num, by omega, by rw [HN.out, HJ1.out]; exact HK6.out⟩
            case measure => simp [intOf]; omega
          · go_simp
            refine hK.out _ _ (HH.out _ ((bch (below_drew1 (Below.refl w3.heap.size w3)) (below_alloc w3.drew _) (Nat.le_refl _)))) (fun hHeld => ?_)
            clear hK K
            try simp only [Act.put, List.getElem_toArray, List.getElem_cons_zero, List.getElem_cons_succ, List.setIfInBounds_toArray, List.set_cons_zero, List.set_cons_succ]
            refine wpAnyH_ready (rs := [5]) (by kernel_rfl) (by simp) ?_
            refine AllReadyH.cons rfl (fun K hK => ?_) AllReadyH.nil
            go_simp
            have HBd := Lib.hid (bch (below_drew1 (Below.refl w3.heap.size w3)) (below_alloc w3.drew (.cells zInR tInR)) (Nat.le_refl _))
            refine (HACC.out _ HBd.out).mono ?_
            rintro e w4 ⟨v4, rfl, hv, hav, hb⟩
            have HV1 := Lib.hid hv; have HAV1 := Lib.hid hav
            obtain ⟨D0, Dn0, Dc0, D1, Dn1, Dc1, D2, Dn2, Dc2, rfl, _⟩ := hv
            clear hav
            have HW1 := Lib.hid (bch HBd.out hb HBd.out.size)
            refine hK.out _ _ (HH.out _ (HW1.out)) (fun hHeld => ?_)
            clear hK K
            try simp only [Act.put, List.getElem_toArray, List.getElem_cons_zero, List.getElem_cons_succ, List.setIfInBounds_toArray, List.set_cons_zero, List.set_cons_succ]
            refine wpAnyH_take (i := 6) (v := ?vc6_4z) rfl (by kernel_rfl) (by kernel_rfl) (by kernel_rfl) (fun _ _ _ h => h) (Or.inl ⟨by rfl, ?hyc6_4z⟩) (by assumption) ?restc6_4z
            case hyc6_4z => (intro w0 hSw; (try dsimp only at hSw); go_simp; try with_reducible rfl)
            case' restc6_4z => try simp only [Act.put, List.getElem_toArray, List.getElem_cons_zero, List.getElem_cons_succ, List.setIfInBounds_toArray, List.set_cons_zero, List.set_cons_succ]
            refine wpAnyH_take (i := 7) (v := ?vc7_4z) rfl (by kernel_rfl) (by kernel_rfl) (by kernel_rfl) (fun _ _ _ h => h) (Or.inl ⟨by rfl, ?hyc7_4z⟩) (by assumption) ?restc7_4z
            case hyc7_4z => (intro w0 hSw; (try dsimp only at hSw); go_simp; try with_reducible rfl)
            case' restc7_4z => try simp only [Act.put, List.getElem_toArray, List.getElem_cons_zero, List.getElem_cons_succ, List.setIfInBounds_toArray, List.set_cons_zero, List.set_cons_succ]
            refine wpAnyH_take (i := 8) (v := ?vc8_4z) rfl (by kernel_rfl) (by kernel_rfl) (by kernel_rfl) (fun _ _ _ h => h) (Or.inl ⟨by rfl, ?hyc8_4z⟩) (by assumption) ?restc8_4z
            case hyc8_4z => (intro w0 hSw; (try dsimp only at hSw); go_simp; try with_reducible rfl)
            case' restc8_4z => try simp only [Act.put, List.getElem_toArray, List.getElem_cons_zero, List.getElem_cons_succ, List.setIfInBounds_toArray, List.set_cons_zero, List.set_cons_succ]
            have HZ0 := Lib.hid (show w4.heap[w3.heap.size]? = some (.cells zInR tInR (0, 0)) from heap_keep (heap_new w3.drew (.cells zInR tInR)) hb)
            have hzlt : w3.heap.size < w4.heap.size := heap_lt HZ0.out
            obtain ⟨z0, z1, z2, z3, z4, z5, z6, z7, z8⟩ := cell9 HZ0.out
            obtain ⟨f0, f1, f2, f3, f4, f5, f6, f7, f8⟩ := froz9 HZ0.out
            have HTu := Lib.hid (turned_set9 w4 w3.heap.size (.int .i64 J1.a.1) (.int .i64 J1.a.2.1) (.slice D0 Dn0 Dc0) (.int .i64 J1.b.1) (.int .i64 J1.b.2.1) (.slice D1 Dn1 Dc1) (.int .i64 J1.c.1) (.int .i64 J1.c.2.1) (.slice D2 Dn2 Dc2))
            have HSET := Lib.hid (set9 HZ0.out (.int .i64 J1.a.1) (.int .i64 J1.a.2.1) (.slice D0 Dn0 Dc0) (.int .i64 J1.b.1) (.int .i64 J1.b.2.1) (.slice D1 Dn1 Dc1) (.int .i64 J1.c.1) (.int .i64 J1.c.2.1) (.slice D2 Dn2 Dc2))
            unfold set9w at HTu HSET
            have HWs := Lib.hid (Below.turned HW1.out HTu.out (fun i hi => by omega) (Below.size HW1.out))
            refine wpAnyH_ready (rs := [10]) (by kernel_rfl) (by simp) ?_
            refine AllReadyH.cons rfl (fun K hK => ?_) AllReadyH.nil
            go_simp
            refine hK.out _ _ (HH.out _ (HWs.out)) (fun hHeld => ?_)
            clear hK K
            try simp only [Act.put, List.getElem_toArray, List.getElem_cons_zero, List.getElem_cons_succ, List.setIfInBounds_toArray, List.set_cons_zero, List.set_cons_succ]
            refine wpAnyH_take (i := 11) (v := ?vc11_5z) rfl (by kernel_rfl) (by kernel_rfl) (by kernel_rfl) (fun _ _ _ h => h) (Or.inl ⟨by rfl, ?hyc11_5z⟩) (by assumption) ?restc11_5z
            case hyc11_5z => (intro w0 hSw; (try dsimp only at hSw); go_simp; try with_reducible rfl)
            case' restc11_5z => try simp only [Act.put, List.getElem_toArray, List.getElem_cons_zero, List.getElem_cons_succ, List.setIfInBounds_toArray, List.set_cons_zero, List.set_cons_succ]
            refine wpAnyH_done (by kernel_rfl) ?_ _
            refine NoPanic.normal ?_
            have HB2 := Lib.hid HWs.out
            have HBX := Lib.hid HSET.out
            have HAV2 := Lib.hid (fun b (h1 : w.heap.size ≤ b) (h2 : b < w.heap.size + 4) => HAV1.out b (HK3.out.ar b h1 h2) (fun ad m c e hl => by have := rd_near HRD.out ad m c e hl; omega))
            have HV2 := Lib.hid (HV1.out.turned HTu.out (fun b hb => by rw [hb]; exact HAV1.out w3.heap.size (AvR.far HK3.out.r (Nat.le_refl _)) (fun ad m c e hl => by have := rd_near HRD.out ad m c e hl; have := HK3.out.bel.size; omega)))
            clear HV1 HAV1
            clear hHeld HW1 hb HACC HH HBd HZ0 hzlt HTu HSET HWs z0 z1 z2 z3 z4 z5 z6 z7 z8 f0 f1 f2 f3 f4 f5 f6 f7 f8
            obtain ⟨w5, hW2⟩ : ∃ w5, w5 = ((((((((w4.setCell ⟨w3.heap.size, 0, none⟩ (.int .i64 J1.a.1)).setCell ⟨w3.heap.size, 1, none⟩ (.int .i64 J1.a.2.1)).setCell ⟨w3.heap.size, 2, none⟩ (.slice D0 Dn0 Dc0)).setCell ⟨w3.heap.size, 3, none⟩ (.int .i64 J1.b.1)).setCell ⟨w3.heap.size, 4, none⟩ (.int .i64 J1.b.2.1)).setCell ⟨w3.heap.size, 5, none⟩ (.slice D1 Dn1 Dc1)).setCell ⟨w3.heap.size, 6, none⟩ (.int .i64 J1.c.1)).setCell ⟨w3.heap.size, 7, none⟩ (.int .i64 J1.c.2.1)).setCell ⟨w3.heap.size, 8, none⟩ (.slice D2 Dn2 Dc2) := ⟨_, rfl⟩
            rw [← hW2] at HB2 HBX HV2 ⊢
            clear hW2
            generalize hb7 : w3.heap.size = b9 at HBX HB2 ⊢
            rw [← hb7] at HB2
            clear hb7
            have HK5 := Lib.hid (HK3.out.keep HB2.out)
            clear HB2 HK3 i0 i1 i2 i3 i4 i5 i6 i7 i8 d0 d1 d2
            have hz5 : w.heap.size + 3 < w5.heap.size := heap_lt HK5.out.br.get
            obtain ⟨i0, i1, i2, i3, i4, i5, i6, i7, i8⟩ := cell9 HBX.out
            obtain ⟨m0, m1', m2, m3, m4, m5, m6, m7, m8⟩ := cell9 HK5.out.br.get
            obtain ⟨f0, f1, f2, f3, f4, f5, f6, f7, f8⟩ := froz9 HK5.out.br.get
            have ht6 := turned_set9 w5 (w.heap.size + 3) (.int .i64 J1.a.1) (.int .i64 J1.a.2.1) (.slice D0 Dn0 Dc0) (.int .i64 J1.b.1) (.int .i64 J1.b.2.1) (.slice D1 Dn1 Dc1) (.int .i64 J1.c.1) (.int .i64 J1.c.2.1) (.slice D2 Dn2 Dc2)
            have HK6 := Lib.hid (show Two2 w _ _ _ J1 J1 from ⟨HK5.out.p.turned ht6 (fun b hb => by rw [hb]; exact HK5.out.av _ (by omega) (by omega)), HV2.out.turned ht6 (fun b hb => by rw [hb]; exact HAV2.out _ (by omega) (by omega)), HK5.out.av, HAV2.out, HK5.out.bp.turned ht6 (by omega), ⟨_, rfl, set9 HK5.out.br.get _ _ _ _ _ _ _ _ _⟩, heap_turned HK5.out.z0 ht6 (by omega), heap_turned HK5.out.z1 ht6 (by omega), Below.turned HK5.out.bel ht6 (fun i h => by omega) HK5.out.bel.size⟩)
            clear ht6 HK5 HV2 HAV2 HBX
            go_wp2_with fail
            go_roundw
            case rel => exact ⟨k + 1, _, _, by go_num, by omega, by rw [HN.out, HJ1.out]; exact HK6.out⟩
            case measure => simp [intOf]; omega
      · have HE := Lib.hid he
        have HJJ := Lib.hid (show In.accI J x = J by unfold In.accI; rw [if_neg he])
        obtain ⟨ee, hee⟩ : ∃ ee, In.accE J x = ee := ⟨_, rfl⟩
        have HEE := Lib.hid hee
        have hn0 := beqF (hee ▸ he)
        have HACC := Lib.hid (fun W (hW : Below wr.heap.size wr W) => hee ▸ accept_no W _ J x _ (HPP.out.below hW) (HRD.out.keep (bch HK.out.bel hW HK.out.bel.size)) (HT.out.below (bch HK.out.bel hW HK.out.bel.size)) he)
        clear hee he
        go_upto_region 6 with (fail)
        have HH := Lib.hid (fun W (hb : Below wr.heap.size wr W) => (⟨Lib.hid hb, (hb.cell (World.block_lt_of_cell? wr _ i0)).trans i0, (hb.cell (World.block_lt_of_cell? wr _ i1)).trans i1, (hb.cell (World.block_lt_of_cell? wr _ i2)).trans i2, (hb.cell (World.block_lt_of_cell? wr _ i3)).trans i3, (hb.cell (World.block_lt_of_cell? wr _ i4)).trans i4, (hb.cell (World.block_lt_of_cell? wr _ i5)).trans i5, (hb.cell (World.block_lt_of_cell? wr _ i6)).trans i6, (hb.cell (World.block_lt_of_cell? wr _ i7)).trans i7, (hb.cell (World.block_lt_of_cell? wr _ i8)).trans i8, (hb.cell (World.block_lt_of_cell? wr _ i9)).trans i9, (hb.cell (World.block_lt_of_cell? wr _ d0)).trans d0, (hb.cell (World.block_lt_of_cell? wr _ d1)).trans d1, (hb.cell (World.block_lt_of_cell? wr _ d2)).trans d2⟩ : (fun w' => Hid (Below wr.heap.size wr w') ∧ w'.cell? ⟨w.heap.size + 2, 0, none⟩ = some (.int .i64 J.a.1) ∧ w'.cell? ⟨w.heap.size + 2, 1, none⟩ = some (.int .i64 J.a.2.1) ∧ w'.cell? ⟨w.heap.size + 2, 2, none⟩ = some (.slice A0 An0 Ac0) ∧ w'.cell? ⟨w.heap.size + 2, 3, none⟩ = some (.int .i64 J.b.1) ∧ w'.cell? ⟨w.heap.size + 2, 4, none⟩ = some (.int .i64 J.b.2.1) ∧ w'.cell? ⟨w.heap.size + 2, 5, none⟩ = some (.slice A1 An1 Ac1) ∧ w'.cell? ⟨w.heap.size + 2, 6, none⟩ = some (.int .i64 J.c.1) ∧ w'.cell? ⟨w.heap.size + 2, 7, none⟩ = some (.int .i64 J.c.2.1) ∧ w'.cell? ⟨w.heap.size + 2, 8, none⟩ = some (.slice A2 An2 Ac2) ∧ w'.cell? ⟨w.heap.size + 2, 9, none⟩ = some (.map m) ∧ w'.cell? ⟨g, off + k * 3, none⟩ = some (.int .i64 x.1) ∧ w'.cell? ⟨g, off + k * 3 + 1, none⟩ = some (.int .i64 x.2.1) ∧ w'.cell? ⟨g, off + k * 3 + 2, none⟩ = some (.slice Ax x.2.2.length cx)) W))
        refine wp_region_noPanic ?_
        refine wp_region_held_drew (S := (fun w' => Hid (Below wr.heap.size wr w') ∧ w'.cell? ⟨w.heap.size + 2, 0, none⟩ = some (.int .i64 J.a.1) ∧ w'.cell? ⟨w.heap.size + 2, 1, none⟩ = some (.int .i64 J.a.2.1) ∧ w'.cell? ⟨w.heap.size + 2, 2, none⟩ = some (.slice A0 An0 Ac0) ∧ w'.cell? ⟨w.heap.size + 2, 3, none⟩ = some (.int .i64 J.b.1) ∧ w'.cell? ⟨w.heap.size + 2, 4, none⟩ = some (.int .i64 J.b.2.1) ∧ w'.cell? ⟨w.heap.size + 2, 5, none⟩ = some (.slice A1 An1 Ac1) ∧ w'.cell? ⟨w.heap.size + 2, 6, none⟩ = some (.int .i64 J.c.1) ∧ w'.cell? ⟨w.heap.size + 2, 7, none⟩ = some (.int .i64 J.c.2.1) ∧ w'.cell? ⟨w.heap.size + 2, 8, none⟩ = some (.slice A2 An2 Ac2) ∧ w'.cell? ⟨w.heap.size + 2, 9, none⟩ = some (.map m) ∧ w'.cell? ⟨g, off + k * 3, none⟩ = some (.int .i64 x.1) ∧ w'.cell? ⟨g, off + k * 3 + 1, none⟩ = some (.int .i64 x.2.1) ∧ w'.cell? ⟨g, off + k * 3 + 2, none⟩ = some (.slice Ax x.2.2.length cx))) (by kernel_rfl) (HH.out _ (below_drew1 (Below.refl wr.heap.size wr))) (fun hHeld => ?_)
        refine wpAnyH_take (i := 0) (v := ?vc0_16) rfl (by kernel_rfl) (by kernel_rfl) (by kernel_rfl) (fun _ _ _ h => h) (Or.inl ⟨by rfl, ?hyc0_16⟩) (by assumption) ?restc0_16
        case hyc0_16 => (intro w0 hSw; (try dsimp only at hSw); go_simp; try with_reducible rfl)
        case' restc0_16 => try simp only [Act.put, List.getElem_toArray, List.getElem_cons_zero, List.getElem_cons_succ, List.setIfInBounds_toArray, List.set_cons_zero, List.set_cons_succ]
        refine wpAnyH_take (i := 1) (v := ?vc1_16) rfl (by kernel_rfl) (by kernel_rfl) (by kernel_rfl) (fun _ _ _ h => h) (Or.inl ⟨by rfl, ?hyc1_16⟩) (by assumption) ?restc1_16
        case hyc1_16 => (intro w0 hSw; (try dsimp only at hSw); go_simp; try with_reducible rfl)
        case' restc1_16 => try simp only [Act.put, List.getElem_toArray, List.getElem_cons_zero, List.getElem_cons_succ, List.setIfInBounds_toArray, List.set_cons_zero, List.set_cons_succ]
        refine wpAnyH_take (i := 2) (v := ?vc2_16) rfl (by kernel_rfl) (by kernel_rfl) (by kernel_rfl) (fun _ _ _ h => h) (Or.inl ⟨by rfl, ?hyc2_16⟩) (by assumption) ?restc2_16
        case hyc2_16 => (intro w0 hSw; (try dsimp only at hSw); go_simp; try with_reducible rfl)
        case' restc2_16 => try simp only [Act.put, List.getElem_toArray, List.getElem_cons_zero, List.getElem_cons_succ, List.setIfInBounds_toArray, List.set_cons_zero, List.set_cons_succ]
        refine wpAnyH_take (i := 3) (v := ?vc3_16) rfl (by kernel_rfl) (by kernel_rfl) (by kernel_rfl) (fun _ _ _ h => h) (Or.inl ⟨by rfl, ?hyc3_16⟩) (by assumption) ?restc3_16
        case hyc3_16 => (intro w0 hSw; (try dsimp only at hSw); go_simp; try with_reducible rfl)
        case' restc3_16 => try simp only [Act.put, List.getElem_toArray, List.getElem_cons_zero, List.getElem_cons_succ, List.setIfInBounds_toArray, List.set_cons_zero, List.set_cons_succ]
        refine wpAnyH_take (i := 4) (v := ?vc4_16) rfl (by kernel_rfl) (by kernel_rfl) (by kernel_rfl) (fun _ _ _ h => h) (Or.inl ⟨by rfl, ?hyc4_16⟩) (by assumption) ?restc4_16
        case hyc4_16 => (intro w0 hSw; (try dsimp only at hSw); go_simp; try with_reducible rfl)
        case' restc4_16 => try simp only [Act.put, List.getElem_toArray, List.getElem_cons_zero, List.getElem_cons_succ, List.setIfInBounds_toArray, List.set_cons_zero, List.set_cons_succ]
        refine wpAnyH_ready (rs := [5, 9]) (by kernel_rfl) (by simp) ?_
        refine AllReadyH.cons rfl (fun K hK => ?_) (AllReadyH.cons rfl (fun K hK => ?_) AllReadyH.nil)
        · go_simp
          refine (HACC.out _ (below_drew1 (Below.refl wr.heap.size wr))).mono ?_
          rintro e w1 ⟨rfl, hb⟩
          have HW1 := Lib.hid (bch (below_drew1 (Below.refl wr.heap.size wr)) hb (Below.size (below_drew1 (Below.refl wr.heap.size wr))))
          refine hK.out _ _ (HH.out _ (HW1.out)) (fun hHeld => ?_)
          clear hK K
          try simp only [Act.put, List.getElem_toArray, List.getElem_cons_zero, List.getElem_cons_succ, List.setIfInBounds_toArray, List.set_cons_zero, List.set_cons_succ]
          refine wpAnyH_take (i := 6) (v := ?vc6_17) rfl (by kernel_rfl) (by kernel_rfl) (by kernel_rfl) (fun _ _ _ h => h) (Or.inl ⟨by rfl, ?hyc6_17⟩) (by assumption) ?restc6_17
          case hyc6_17 => (intro w0 hSw; (try dsimp only at hSw); go_simp; try with_reducible rfl)
          case' restc6_17 => try simp only [Act.put, List.getElem_toArray, List.getElem_cons_zero, List.getElem_cons_succ, List.setIfInBounds_toArray, List.set_cons_zero, List.set_cons_succ]
          refine wpAnyH_take (i := 7) (v := ?vc7_17) rfl (by kernel_rfl) (by kernel_rfl) (by kernel_rfl) (fun _ _ _ h => h) (Or.inl ⟨by rfl, ?hyc7_17⟩) (by assumption) ?restc7_17
          case hyc7_17 => (intro w0 hSw; (try dsimp only at hSw); go_simp; try with_reducible rfl)
          case' restc7_17 => try simp only [Act.put, List.getElem_toArray, List.getElem_cons_zero, List.getElem_cons_succ, List.setIfInBounds_toArray, List.set_cons_zero, List.set_cons_succ]
          refine wpAnyH_take (i := 8) (v := ?vc8_17) rfl (by kernel_rfl) (by kernel_rfl) (by kernel_rfl) (fun _ _ _ h => h) (Or.inl ⟨by rfl, ?hyc8_17⟩) (by assumption) ?restc8_17
          case hyc8_17 => (intro w0 hSw; (try dsimp only at hSw); go_simp; try with_reducible rfl)
          case' restc8_17 => try simp only [Act.put, List.getElem_toArray, List.getElem_cons_zero, List.getElem_cons_succ, List.setIfInBounds_toArray, List.set_cons_zero, List.set_cons_succ]
          refine wpAnyH_ready (rs := [9]) (by kernel_rfl) (by simp) ?_
          refine AllReadyH.cons rfl (fun K hK => ?_) AllReadyH.nil
          go_simp
          refine hK.out _ _ (HH.out _ ((bch HW1.out (below_alloc w1 _) HW1.out.size))) (fun hHeld => ?_)
          clear hK K
          try simp only [Act.put, List.getElem_toArray, List.getElem_cons_zero, List.getElem_cons_succ, List.setIfInBounds_toArray, List.set_cons_zero, List.set_cons_succ]
          refine wpAnyH_ready (rs := [10]) (by kernel_rfl) (by simp) ?_
          refine AllReadyH.cons rfl (fun K hK => ?_) AllReadyH.nil
          go_simp
          refine hK.out _ _ (HH.out _ ((bch HW1.out (below_alloc w1 _) HW1.out.size))) (fun hHeld => ?_)
          clear hK K
          try simp only [Act.put, List.getElem_toArray, List.getElem_cons_zero, List.getElem_cons_succ, List.setIfInBounds_toArray, List.set_cons_zero, List.set_cons_succ]
          refine wpAnyH_take (i := 11) (v := ?vc11_18) rfl (by kernel_rfl) (by kernel_rfl) (by kernel_rfl) (fun _ _ _ h => h) (Or.inl ⟨by rfl, ?hyc11_18⟩) (by assumption) ?restc11_18
          case hyc11_18 => (intro w0 hSw; (try dsimp only at hSw); go_simp; try with_reducible rfl)
          case' restc11_18 => try simp only [Act.put, List.getElem_toArray, List.getElem_cons_zero, List.getElem_cons_succ, List.setIfInBounds_toArray, List.set_cons_zero, List.set_cons_succ]
          refine wpAnyH_done (by kernel_rfl) ?_ _
          refine NoPanic.normal ?_
          have HB2 := Lib.hid (bch HW1.out (below_alloc w1 (.cells #[(.int .i64 0), (.int .i64 0), (.slice none 0 0), (.int .i64 0), (.int .i64 0), (.slice none 0 0), (.int .i64 0), (.int .i64 0), (.slice none 0 0), (.map none)] tIn)) HW1.out.size)
          clear hHeld HW1 hb HACC HH
          obtain ⟨w2, hW2⟩ : ∃ w2, w2 = w1.alloc (.cells #[(.int .i64 0), (.int .i64 0), (.slice none 0 0), (.int .i64 0), (.int .i64 0), (.slice none 0 0), (.int .i64 0), (.int .i64 0), (.slice none 0 0), (.map none)] tIn) := ⟨_, rfl⟩
          rw [← hW2] at HB2 ⊢
          clear hW2
          generalize w1.heap.size = b7 at ⊢
          have HK3 := Lib.hid (HK.out.keep HB2.out)
          clear HB2 HK HPP i0 i1 i2 i3 i4 i5 i6 i7 i8 i9 d0 d1 d2
          generalize w2 = w3 at HK3 ⊢
          go_upto_region 9 with (fail)
          have hz33 : w.heap.size + 3 < w3.heap.size := by obtain ⟨_, _, h⟩ := HK3.out.br; exact heap_lt h
          obtain ⟨d0, d1, d2⟩ := HDC.out _ HK3.out.bel
          have hgl3 : g < w3.heap.size := World.block_lt_of_cell? _ _ d0
          obtain ⟨i0, i1, i2, i3, i4, i5, i6, i7, i8⟩ := cell9 HK3.out.br.get
          have HACC := Lib.hid (fun W (hW : Below w3.heap.size w3 W) => HEE.out ▸ refAccept_no W _ J x _ (HK3.out.r.below hW) (HRD.out.keep (bch HK3.out.bel hW HK3.out.bel.size)) HE.out)
          have HH := Lib.hid (fun W (hb : Below w3.heap.size w3 W) => (⟨Lib.hid hb, (hb.cell (World.block_lt_of_cell? w3 _ i0)).trans i0, (hb.cell (World.block_lt_of_cell? w3 _ i1)).trans i1, (hb.cell (World.block_lt_of_cell? w3 _ i2)).trans i2, (hb.cell (World.block_lt_of_cell? w3 _ i3)).trans i3, (hb.cell (World.block_lt_of_cell? w3 _ i4)).trans i4, (hb.cell (World.block_lt_of_cell? w3 _ i5)).trans i5, (hb.cell (World.block_lt_of_cell? w3 _ i6)).trans i6, (hb.cell (World.block_lt_of_cell? w3 _ i7)).trans i7, (hb.cell (World.block_lt_of_cell? w3 _ i8)).trans i8, (hb.cell (World.block_lt_of_cell? w3 _ d0)).trans d0, (hb.cell (World.block_lt_of_cell? w3 _ d1)).trans d1, (hb.cell (World.block_lt_of_cell? w3 _ d2)).trans d2⟩ : (fun w' => Hid (Below w3.heap.size w3 w') ∧ w'.cell? ⟨w.heap.size + 3, 0, none⟩ = some (.int .i64 J.a.1) ∧ w'.cell? ⟨w.heap.size + 3, 1, none⟩ = some (.int .i64 J.a.2.1) ∧ w'.cell? ⟨w.heap.size + 3, 2, none⟩ = some (.slice B0 Bn0 Bc0) ∧ w'.cell? ⟨w.heap.size + 3, 3, none⟩ = some (.int .i64 J.b.1) ∧ w'.cell? ⟨w.heap.size + 3, 4, none⟩ = some (.int .i64 J.b.2.1) ∧ w'.cell? ⟨w.heap.size + 3, 5, none⟩ = some (.slice B1 Bn1 Bc1) ∧ w'.cell? ⟨w.heap.size + 3, 6, none⟩ = some (.int .i64 J.c.1) ∧ w'.cell? ⟨w.heap.size + 3, 7, none⟩ = some (.int .i64 J.c.2.1) ∧ w'.cell? ⟨w.heap.size + 3, 8, none⟩ = some (.slice B2 Bn2 Bc2) ∧ w'.cell? ⟨g, off + k * 3, none⟩ = some (.int .i64 x.1) ∧ w'.cell? ⟨g, off + k * 3 + 1, none⟩ = some (.int .i64 x.2.1) ∧ w'.cell? ⟨g, off + k * 3 + 2, none⟩ = some (.slice Ax x.2.2.length cx)) W))
          refine wp_region_noPanic ?_
          refine wp_region_held_drew (S := (fun w' => Hid (Below w3.heap.size w3 w') ∧ w'.cell? ⟨w.heap.size + 3, 0, none⟩ = some (.int .i64 J.a.1) ∧ w'.cell? ⟨w.heap.size + 3, 1, none⟩ = some (.int .i64 J.a.2.1) ∧ w'.cell? ⟨w.heap.size + 3, 2, none⟩ = some (.slice B0 Bn0 Bc0) ∧ w'.cell? ⟨w.heap.size + 3, 3, none⟩ = some (.int .i64 J.b.1) ∧ w'.cell? ⟨w.heap.size + 3, 4, none⟩ = some (.int .i64 J.b.2.1) ∧ w'.cell? ⟨w.heap.size + 3, 5, none⟩ = some (.slice B1 Bn1 Bc1) ∧ w'.cell? ⟨w.heap.size + 3, 6, none⟩ = some (.int .i64 J.c.1) ∧ w'.cell? ⟨w.heap.size + 3, 7, none⟩ = some (.int .i64 J.c.2.1) ∧ w'.cell? ⟨w.heap.size + 3, 8, none⟩ = some (.slice B2 Bn2 Bc2) ∧ w'.cell? ⟨g, off + k * 3, none⟩ = some (.int .i64 x.1) ∧ w'.cell? ⟨g, off + k * 3 + 1, none⟩ = some (.int .i64 x.2.1) ∧ w'.cell? ⟨g, off + k * 3 + 2, none⟩ = some (.slice Ax x.2.2.length cx))) (by kernel_rfl) (HH.out _ (below_drew1 (Below.refl w3.heap.size w3))) (fun hHeld => ?_)
          refine wpAnyH_take (i := 0) (v := ?vc0_11) rfl (by kernel_rfl) (by kernel_rfl) (by kernel_rfl) (fun _ _ _ h => h) (Or.inl ⟨by rfl, ?hyc0_11⟩) (by assumption) ?restc0_11
          case hyc0_11 => (intro w0 hSw; (try dsimp only at hSw); go_simp; try with_reducible rfl)
          case' restc0_11 => try simp only [Act.put, List.getElem_toArray, List.getElem_cons_zero, List.getElem_cons_succ, List.setIfInBounds_toArray, List.set_cons_zero, List.set_cons_succ]
          refine wpAnyH_take (i := 1) (v := ?vc1_11) rfl (by kernel_rfl) (by kernel_rfl) (by kernel_rfl) (fun _ _ _ h => h) (Or.inl ⟨by rfl, ?hyc1_11⟩) (by assumption) ?restc1_11
          case hyc1_11 => (intro w0 hSw; (try dsimp only at hSw); go_simp; try with_reducible rfl)
          case' restc1_11 => try simp only [Act.put, List.getElem_toArray, List.getElem_cons_zero, List.getElem_cons_succ, List.setIfInBounds_toArray, List.set_cons_zero, List.set_cons_succ]
          refine wpAnyH_take (i := 2) (v := ?vc2_11) rfl (by kernel_rfl) (by kernel_rfl) (by kernel_rfl) (fun _ _ _ h => h) (Or.inl ⟨by rfl, ?hyc2_11⟩) (by assumption) ?restc2_11
          case hyc2_11 => (intro w0 hSw; (try dsimp only at hSw); go_simp; try with_reducible rfl)
          case' restc2_11 => try simp only [Act.put, List.getElem_toArray, List.getElem_cons_zero, List.getElem_cons_succ, List.setIfInBounds_toArray, List.set_cons_zero, List.set_cons_succ]
          refine wpAnyH_take (i := 3) (v := ?vc3_11) rfl (by kernel_rfl) (by kernel_rfl) (by kernel_rfl) (fun _ _ _ h => h) (Or.inl ⟨by rfl, ?hyc3_11⟩) (by assumption) ?restc3_11
          case hyc3_11 => (intro w0 hSw; (try dsimp only at hSw); go_simp; try with_reducible rfl)
          case' restc3_11 => try simp only [Act.put, List.getElem_toArray, List.getElem_cons_zero, List.getElem_cons_succ, List.setIfInBounds_toArray, List.set_cons_zero, List.set_cons_succ]
          refine wpAnyH_take (i := 4) (v := ?vc4_11) rfl (by kernel_rfl) (by kernel_rfl) (by kernel_rfl) (fun _ _ _ h => h) (Or.inl ⟨by rfl, ?hyc4_11⟩) (by assumption) ?restc4_11
          case hyc4_11 => (intro w0 hSw; (try dsimp only at hSw); go_simp; try with_reducible rfl)
          case' restc4_11 => try simp only [Act.put, List.getElem_toArray, List.getElem_cons_zero, List.getElem_cons_succ, List.setIfInBounds_toArray, List.set_cons_zero, List.set_cons_succ]
          refine wpAnyH_ready (rs := [5, 9]) (by kernel_rfl) (by simp) ?_
          refine AllReadyH.cons rfl (fun K hK => ?_) (AllReadyH.cons rfl (fun K hK => ?_) AllReadyH.nil)
          · go_simp
            refine (HACC.out _ (below_drew1 (Below.refl w3.heap.size w3))).mono ?_
            rintro e w4 ⟨rfl, hb⟩
            have HW1 := Lib.hid (bch (below_drew1 (Below.refl w3.heap.size w3)) hb (Below.size (below_drew1 (Below.refl w3.heap.size w3))))
            refine hK.out _ _ (HH.out _ (HW1.out)) (fun hHeld => ?_)
            clear hK K
            try simp only [Act.put, List.getElem_toArray, List.getElem_cons_zero, List.getElem_cons_succ, List.setIfInBounds_toArray, List.set_cons_zero, List.set_cons_succ]
            refine wpAnyH_take (i := 6) (v := ?vc6_12) rfl (by kernel_rfl) (by kernel_rfl) (by kernel_rfl) (fun _ _ _ h => h) (Or.inl ⟨by rfl, ?hyc6_12⟩) (by assumption) ?restc6_12
            case hyc6_12 => (intro w0 hSw; (try dsimp only at hSw); go_simp; try with_reducible rfl)
            case' restc6_12 => try simp only [Act.put, List.getElem_toArray, List.getElem_cons_zero, List.getElem_cons_succ, List.setIfInBounds_toArray, List.set_cons_zero, List.set_cons_succ]
            refine wpAnyH_take (i := 7) (v := ?vc7_12) rfl (by kernel_rfl) (by kernel_rfl) (by kernel_rfl) (fun _ _ _ h => h) (Or.inl ⟨by rfl, ?hyc7_12⟩) (by assumption) ?restc7_12
            case hyc7_12 => (intro w0 hSw; (try dsimp only at hSw); go_simp; try with_reducible rfl)
            case' restc7_12 => try simp only [Act.put, List.getElem_toArray, List.getElem_cons_zero, List.getElem_cons_succ, List.setIfInBounds_toArray, List.set_cons_zero, List.set_cons_succ]
            refine wpAnyH_take (i := 8) (v := ?vc8_12) rfl (by kernel_rfl) (by kernel_rfl) (by kernel_rfl) (fun _ _ _ h => h) (Or.inl ⟨by rfl, ?hyc8_12⟩) (by assumption) ?restc8_12
            case hyc8_12 => (intro w0 hSw; (try dsimp only at hSw); go_simp; try with_reducible rfl)
            case' restc8_12 => try simp only [Act.put, List.getElem_toArray, List.getElem_cons_zero, List.getElem_cons_succ, List.setIfInBounds_toArray, List.set_cons_zero, List.set_cons_succ]
            refine wpAnyH_ready (rs := [9]) (by kernel_rfl) (by simp) ?_
            refine AllReadyH.cons rfl (fun K hK => ?_) AllReadyH.nil
            go_simp
            refine hK.out _ _ (HH.out _ ((bch HW1.out (below_alloc w4 _) HW1.out.size))) (fun hHeld => ?_)
            clear hK K
            try simp only [Act.put, List.getElem_toArray, List.getElem_cons_zero, List.getElem_cons_succ, List.setIfInBounds_toArray, List.set_cons_zero, List.set_cons_succ]
            refine wpAnyH_ready (rs := [10]) (by kernel_rfl) (by simp) ?_
            refine AllReadyH.cons rfl (fun K hK => ?_) AllReadyH.nil
            go_simp
            refine hK.out _ _ (HH.out _ ((bch HW1.out (below_alloc w4 _) HW1.out.size))) (fun hHeld => ?_)
            clear hK K
            try simp only [Act.put, List.getElem_toArray, List.getElem_cons_zero, List.getElem_cons_succ, List.setIfInBounds_toArray, List.set_cons_zero, List.set_cons_succ]
            refine wpAnyH_take (i := 11) (v := ?vc11_13) rfl (by kernel_rfl) (by kernel_rfl) (by kernel_rfl) (fun _ _ _ h => h) (Or.inl ⟨by rfl, ?hyc11_13⟩) (by assumption) ?restc11_13
            case hyc11_13 => (intro w0 hSw; (try dsimp only at hSw); go_simp; try with_reducible rfl)
            case' restc11_13 => try simp only [Act.put, List.getElem_toArray, List.getElem_cons_zero, List.getElem_cons_succ, List.setIfInBounds_toArray, List.set_cons_zero, List.set_cons_succ]
            refine wpAnyH_done (by kernel_rfl) ?_ _
            refine NoPanic.normal ?_
            have HB2 := Lib.hid (bch HW1.out (below_alloc w4 (.cells #[(.int .i64 0), (.int .i64 0), (.slice none 0 0), (.int .i64 0), (.int .i64 0), (.slice none 0 0), (.int .i64 0), (.int .i64 0), (.slice none 0 0)] tInR)) HW1.out.size)
            clear hHeld HW1 hb HACC HH
            obtain ⟨w5, hW2⟩ : ∃ w5, w5 = w4.alloc (.cells #[(.int .i64 0), (.int .i64 0), (.slice none 0 0), (.int .i64 0), (.int .i64 0), (.slice none 0 0), (.int .i64 0), (.int .i64 0), (.slice none 0 0)] tInR) := ⟨_, rfl⟩
            rw [← hW2] at HB2 ⊢
            clear hW2
            generalize w4.heap.size = b9 at ⊢
            have HK5 := Lib.hid (HK3.out.keep HB2.out)
            clear HB2 HK3 i0 i1 i2 i3 i4 i5 i6 i7 i8 d0 d1 d2
            go_wp2_with fail
            go_roundw
            case rel => exact ⟨k + 1, _, _, by go_num, by omega, by rw [HN.out, HJJ.out]; exact HK5.out⟩
            case measure => simp [intOf]; omega
          · go_simp
            refine hK.out _ _ (HH.out _ ((bch (below_drew1 (Below.refl w3.heap.size w3)) (below_alloc w3.drew _) (Nat.le_refl _)))) (fun hHeld => ?_)
            clear hK K
            try simp only [Act.put, List.getElem_toArray, List.getElem_cons_zero, List.getElem_cons_succ, List.setIfInBounds_toArray, List.set_cons_zero, List.set_cons_succ]
            refine wpAnyH_ready (rs := [5]) (by kernel_rfl) (by simp) ?_
            refine AllReadyH.cons rfl (fun K hK => ?_) AllReadyH.nil
            go_simp
            have HBd := Lib.hid (bch (below_drew1 (Below.refl w3.heap.size w3)) (below_alloc w3.drew (.cells zInR tInR)) (Nat.le_refl _))
            refine (HACC.out _ HBd.out).mono ?_
            rintro e w4 ⟨rfl, hb⟩
            have HW1 := Lib.hid (bch HBd.out hb HBd.out.size)
            refine hK.out _ _ (HH.out _ (HW1.out)) (fun hHeld => ?_)
            clear hK K
            try simp only [Act.put, List.getElem_toArray, List.getElem_cons_zero, List.getElem_cons_succ, List.setIfInBounds_toArray, List.set_cons_zero, List.set_cons_succ]
            refine wpAnyH_take (i := 6) (v := ?vc6_14) rfl (by kernel_rfl) (by kernel_rfl) (by kernel_rfl) (fun _ _ _ h => h) (Or.inl ⟨by rfl, ?hyc6_14⟩) (by assumption) ?restc6_14
            case hyc6_14 => (intro w0 hSw; (try dsimp only at hSw); go_simp; try with_reducible rfl)
            case' restc6_14 => try simp only [Act.put, List.getElem_toArray, List.getElem_cons_zero, List.getElem_cons_succ, List.setIfInBounds_toArray, List.set_cons_zero, List.set_cons_succ]
            refine wpAnyH_take (i := 7) (v := ?vc7_14) rfl (by kernel_rfl) (by kernel_rfl) (by kernel_rfl) (fun _ _ _ h => h) (Or.inl ⟨by rfl, ?hyc7_14⟩) (by assumption) ?restc7_14
            case hyc7_14 => (intro w0 hSw; (try dsimp only at hSw); go_simp; try with_reducible rfl)
            case' restc7_14 => try simp only [Act.put, List.getElem_toArray, List.getElem_cons_zero, List.getElem_cons_succ, List.setIfInBounds_toArray, List.set_cons_zero, List.set_cons_succ]
            refine wpAnyH_take (i := 8) (v := ?vc8_14) rfl (by kernel_rfl) (by kernel_rfl) (by kernel_rfl) (fun _ _ _ h => h) (Or.inl ⟨by rfl, ?hyc8_14⟩) (by assumption) ?restc8_14
            case hyc8_14 => (intro w0 hSw; (try dsimp only at hSw); go_simp; try with_reducible rfl)
            case' restc8_14 => try simp only [Act.put, List.getElem_toArray, List.getElem_cons_zero, List.getElem_cons_succ, List.setIfInBounds_toArray, List.set_cons_zero, List.set_cons_succ]
            have HZ0 := Lib.hid (show w4.heap[w3.heap.size]? = some (.cells zInR tInR (0, 0)) from heap_keep (heap_new w3.drew (.cells zInR tInR)) hb)
            have hzlt : w3.heap.size < w4.heap.size := heap_lt HZ0.out
            obtain ⟨z0, z1, z2, z3, z4, z5, z6, z7, z8⟩ := cell9 HZ0.out
            obtain ⟨f0, f1, f2, f3, f4, f5, f6, f7, f8⟩ := froz9 HZ0.out
            have HTu := Lib.hid (turned_set9 w4 w3.heap.size ((.int .i64 0)) ((.int .i64 0)) ((.slice none 0 0)) ((.int .i64 0)) ((.int .i64 0)) ((.slice none 0 0)) ((.int .i64 0)) ((.int .i64 0)) ((.slice none 0 0)))
            have HSET := Lib.hid (set9 HZ0.out ((.int .i64 0)) ((.int .i64 0)) ((.slice none 0 0)) ((.int .i64 0)) ((.int .i64 0)) ((.slice none 0 0)) ((.int .i64 0)) ((.int .i64 0)) ((.slice none 0 0)))
            unfold set9w at HTu HSET
            have HWs := Lib.hid (Below.turned HW1.out HTu.out (fun i hi => by omega) (Below.size HW1.out))
            refine wpAnyH_ready (rs := [10]) (by kernel_rfl) (by simp) ?_
            refine AllReadyH.cons rfl (fun K hK => ?_) AllReadyH.nil
            go_simp
            refine hK.out _ _ (HH.out _ (HWs.out)) (fun hHeld => ?_)
            clear hK K
            try simp only [Act.put, List.getElem_toArray, List.getElem_cons_zero, List.getElem_cons_succ, List.setIfInBounds_toArray, List.set_cons_zero, List.set_cons_succ]
            refine wpAnyH_take (i := 11) (v := ?vc11_15) rfl (by kernel_rfl) (by kernel_rfl) (by kernel_rfl) (fun _ _ _ h => h) (Or.inl ⟨by rfl, ?hyc11_15⟩) (by assumption) ?restc11_15
            case hyc11_15 => (intro w0 hSw; (try dsimp only at hSw); go_simp; try with_reducible rfl)
            case' restc11_15 => try simp only [Act.put, List.getElem_toArray, List.getElem_cons_zero, List.getElem_cons_succ, List.setIfInBounds_toArray, List.set_cons_zero, List.set_cons_succ]
            refine wpAnyH_done (by kernel_rfl) ?_ _
            refine NoPanic.normal ?_
            have HB2 := Lib.hid HWs.out
            clear hHeld HW1 hb HACC HH HBd HZ0 hzlt HTu HSET HWs z0 z1 z2 z3 z4 z5 z6 z7 z8 f0 f1 f2 f3 f4 f5 f6 f7 f8
            obtain ⟨w5, hW2⟩ : ∃ w5, w5 = ((((((((w4.setCell ⟨w3.heap.size, 0, none⟩ ((.int .i64 0))).setCell ⟨w3.heap.size, 1, none⟩ ((.int .i64 0))).setCell ⟨w3.heap.size, 2, none⟩ ((.slice none 0 0))).setCell ⟨w3.heap.size, 3, none⟩ ((.int .i64 0))).setCell ⟨w3.heap.size, 4, none⟩ ((.int .i64 0))).setCell ⟨w3.heap.size, 5, none⟩ ((.slice none 0 0))).setCell ⟨w3.heap.size, 6, none⟩ ((.int .i64 0))).setCell ⟨w3.heap.size, 7, none⟩ ((.int .i64 0))).setCell ⟨w3.heap.size, 8, none⟩ ((.slice none 0 0)) := ⟨_, rfl⟩
            rw [← hW2] at HB2 ⊢
            clear hW2
            generalize hb7 : w3.heap.size = b9 at HB2 ⊢
            rw [← hb7] at HB2
            clear hb7
            have HK5 := Lib.hid (HK3.out.keep HB2.out)
            clear HB2 HK3 i0 i1 i2 i3 i4 i5 i6 i7 i8 d0 d1 d2
            go_wp2_with fail
            go_roundw
            case rel => exact ⟨k + 1, _, _, by go_num, by omega, by rw [HN.out, HJJ.out]; exact HK5.out⟩
            case measure => simp [intOf]; omega
        · go_simp
          refine hK.out _ _ (HH.out _ ((bch (below_drew1 (Below.refl wr.heap.size wr)) (below_alloc wr.drew _) (Nat.le_refl _)))) (fun hHeld => ?_)
          clear hK K
          try simp only [Act.put, List.getElem_toArray, List.getElem_cons_zero, List.getElem_cons_succ, List.setIfInBounds_toArray, List.set_cons_zero, List.set_cons_succ]
          refine wpAnyH_ready (rs := [5]) (by kernel_rfl) (by simp) ?_
          refine AllReadyH.cons rfl (fun K hK => ?_) AllReadyH.nil
          go_simp
          have HBd := Lib.hid (bch (below_drew1 (Below.refl wr.heap.size wr)) (below_alloc wr.drew (.cells zIn tIn)) (Nat.le_refl _))
          refine (HACC.out _ HBd.out).mono ?_
          rintro e w1 ⟨rfl, hb⟩
          have HW1 := Lib.hid (bch HBd.out hb HBd.out.size)
          refine hK.out _ _ (HH.out _ (HW1.out)) (fun hHeld => ?_)
          clear hK K
          try simp only [Act.put, List.getElem_toArray, List.getElem_cons_zero, List.getElem_cons_succ, List.setIfInBounds_toArray, List.set_cons_zero, List.set_cons_succ]
          refine wpAnyH_take (i := 6) (v := ?vc6_19) rfl (by kernel_rfl) (by kernel_rfl) (by kernel_rfl) (fun _ _ _ h => h) (Or.inl ⟨by rfl, ?hyc6_19⟩) (by assumption) ?restc6_19
          case hyc6_19 => (intro w0 hSw; (try dsimp only at hSw); go_simp; try with_reducible rfl)
          case' restc6_19 => try simp only [Act.put, List.getElem_toArray, List.getElem_cons_zero, List.getElem_cons_succ, List.setIfInBounds_toArray, List.set_cons_zero, List.set_cons_succ]
          refine wpAnyH_take (i := 7) (v := ?vc7_19) rfl (by kernel_rfl) (by kernel_rfl) (by kernel_rfl) (fun _ _ _ h => h) (Or.inl ⟨by rfl, ?hyc7_19⟩) (by assumption) ?restc7_19
          case hyc7_19 => (intro w0 hSw; (try dsimp only at hSw); go_simp; try with_reducible rfl)
          case' restc7_19 => try simp only [Act.put, List.getElem_toArray, List.getElem_cons_zero, List.getElem_cons_succ, List.setIfInBounds_toArray, List.set_cons_zero, List.set_cons_succ]
          refine wpAnyH_take (i := 8) (v := ?vc8_19) rfl (by kernel_rfl) (by kernel_rfl) (by kernel_rfl) (fun _ _ _ h => h) (Or.inl ⟨by rfl, ?hyc8_19⟩) (by assumption) ?restc8_19
          case hyc8_19 => (intro w0 hSw; (try dsimp only at hSw); go_simp; try with_reducible rfl)
          case' restc8_19 => try simp only [Act.put, List.getElem_toArray, List.getElem_cons_zero, List.getElem_cons_succ, List.setIfInBounds_toArray, List.set_cons_zero, List.set_cons_succ]
          have HZ0 := Lib.hid (show w1.heap[wr.heap.size]? = some (.cells zIn tIn (0, 0)) from heap_keep (heap_new wr.drew (.cells zIn tIn)) hb)
          have hzlt : wr.heap.size < w1.heap.size := heap_lt HZ0.out
          obtain ⟨z0, z1, z2, z3, z4, z5, z6, z7, z8, z9⟩ := cell10 HZ0.out
          obtain ⟨f0, f1, f2, f3, f4, f5, f6, f7, f8, f9⟩ := froz10 HZ0.out
          have HTu := Lib.hid (turned_set10 w1 wr.heap.size ((.int .i64 0)) ((.int .i64 0)) ((.slice none 0 0)) ((.int .i64 0)) ((.int .i64 0)) ((.slice none 0 0)) ((.int .i64 0)) ((.int .i64 0)) ((.slice none 0 0)) ((.map none)))
          have HSET := Lib.hid (set10 HZ0.out ((.int .i64 0)) ((.int .i64 0)) ((.slice none 0 0)) ((.int .i64 0)) ((.int .i64 0)) ((.slice none 0 0)) ((.int .i64 0)) ((.int .i64 0)) ((.slice none 0 0)) ((.map none)))
          unfold set10w at HTu HSET
          have HWs := Lib.hid (Below.turned HW1.out HTu.out (fun i hi => by omega) (Below.size HW1.out))
          refine wpAnyH_ready (rs := [10]) (by kernel_rfl) (by simp) ?_
          refine AllReadyH.cons rfl (fun K hK => ?_) AllReadyH.nil
          go_simp
          refine hK.out _ _ (HH.out _ (HWs.out)) (fun hHeld => ?_)
          clear hK K
          try simp only [Act.put, List.getElem_toArray, List.getElem_cons_zero, List.getElem_cons_succ, List.setIfInBounds_toArray, List.set_cons_zero, List.set_cons_succ]
          refine wpAnyH_take (i := 11) (v := ?vc11_20) rfl (by kernel_rfl) (by kernel_rfl) (by kernel_rfl) (fun _ _ _ h => h) (Or.inl ⟨by rfl, ?hyc11_20⟩) (by assumption) ?restc11_20
          case hyc11_20 => (intro w0 hSw; (try dsimp only at hSw); go_simp; try with_reducible rfl)
          case' restc11_20 => try simp only [Act.put, List.getElem_toArray, List.getElem_cons_zero, List.getElem_cons_succ, List.setIfInBounds_toArray, List.set_cons_zero, List.set_cons_succ]
          refine wpAnyH_done (by kernel_rfl) ?_ _
          refine NoPanic.normal ?_
          have HB2 := Lib.hid HWs.out
          clear hHeld HW1 hb HACC HH HBd HZ0 hzlt HTu HSET HWs z0 z1 z2 z3 z4 z5 z6 z7 z8 z9 f0 f1 f2 f3 f4 f5 f6 f7 f8 f9
          obtain ⟨w2, hW2⟩ : ∃ w2, w2 = (((((((((w1.setCell ⟨wr.heap.size, 0, none⟩ ((.int .i64 0))).setCell ⟨wr.heap.size, 1, none⟩ ((.int .i64 0))).setCell ⟨wr.heap.size, 2, none⟩ ((.slice none 0 0))).setCell ⟨wr.heap.size, 3, none⟩ ((.int .i64 0))).setCell ⟨wr.heap.size, 4, none⟩ ((.int .i64 0))).setCell ⟨wr.heap.size, 5, none⟩ ((.slice none 0 0))).setCell ⟨wr.heap.size, 6, none⟩ ((.int .i64 0))).setCell ⟨wr.heap.size, 7, none⟩ ((.int .i64 0))).setCell ⟨wr.heap.size, 8, none⟩ ((.slice none 0 0))).setCell ⟨wr.heap.size, 9, none⟩ ((.map none)) := ⟨_, rfl⟩
          rw [← hW2] at HB2 ⊢
          clear hW2
          generalize hb7 : wr.heap.size = b7 at HB2 ⊢
          rw [← hb7] at HB2
          clear hb7
          have HK3 := Lib.hid (HK.out.keep HB2.out)
          clear HB2 HK HPP i0 i1 i2 i3 i4 i5 i6 i7 i8 i9 d0 d1 d2
          generalize w2 = w3 at HK3 ⊢
          go_upto_region 9 with (fail)
          have hz33 : w.heap.size + 3 < w3.heap.size := by obtain ⟨_, _, h⟩ := HK3.out.br; exact heap_lt h
          obtain ⟨d0, d1, d2⟩ := HDC.out _ HK3.out.bel
          have hgl3 : g < w3.heap.size := World.block_lt_of_cell? _ _ d0
          obtain ⟨i0, i1, i2, i3, i4, i5, i6, i7, i8⟩ := cell9 HK3.out.br.get
          have HACC := Lib.hid (fun W (hW : Below w3.heap.size w3 W) => HEE.out ▸ refAccept_no W _ J x _ (HK3.out.r.below hW) (HRD.out.keep (bch HK3.out.bel hW HK3.out.bel.size)) HE.out)
          have HH := Lib.hid (fun W (hb : Below w3.heap.size w3 W) => (⟨Lib.hid hb, (hb.cell (World.block_lt_of_cell? w3 _ i0)).trans i0, (hb.cell (World.block_lt_of_cell? w3 _ i1)).trans i1, (hb.cell (World.block_lt_of_cell? w3 _ i2)).trans i2, (hb.cell (World.block_lt_of_cell? w3 _ i3)).trans i3, (hb.cell (World.block_lt_of_cell? w3 _ i4)).trans i4, (hb.cell (World.block_lt_of_cell? w3 _ i5)).trans i5, (hb.cell (World.block_lt_of_cell? w3 _ i6)).trans i6, (hb.cell (World.block_lt_of_cell? w3 _ i7)).trans i7, (hb.cell (World.block_lt_of_cell? w3 _ i8)).trans i8, (hb.cell (World.block_lt_of_cell? w3 _ d0)).trans d0, (hb.cell (World.block_lt_of_cell? w3 _ d1)).trans d1, (hb.cell (World.block_lt_of_cell? w3 _ d2)).trans d2⟩ : (fun w' => Hid (Below w3.heap.size w3 w') ∧ w'.cell? ⟨w.heap.size + 3, 0, none⟩ = some (.int .i64 J.a.1) ∧ w'.cell? ⟨w.heap.size + 3, 1, none⟩ = some (.int .i64 J.a.2.1) ∧ w'.cell? ⟨w.heap.size + 3, 2, none⟩ = some (.slice B0 Bn0 Bc0) ∧ w'.cell? ⟨w.heap.size + 3, 3, none⟩ = some (.int .i64 J.b.1) ∧ w'.cell? ⟨w.heap.size + 3, 4, none⟩ = some (.int .i64 J.b.2.1) ∧ w'.cell? ⟨w.heap.size + 3, 5, none⟩ = some (.slice B1 Bn1 Bc1) ∧ w'.cell? ⟨w.heap.size + 3, 6, none⟩ = some (.int .i64 J.c.1) ∧ w'.cell? ⟨w.heap.size + 3, 7, none⟩ = some (.int .i64 J.c.2.1) ∧ w'.cell? ⟨w.heap.size + 3, 8, none⟩ = some (.slice B2 Bn2 Bc2) ∧ w'.cell? ⟨g, off + k * 3, none⟩ = some (.int .i64 x.1) ∧ w'.cell? ⟨g, off + k * 3 + 1, none⟩ = some (.int .i64 x.2.1) ∧ w'.cell? ⟨g, off + k * 3 + 2, none⟩ = some (.slice Ax x.2.2.length cx)) W))
          refine wp_region_noPanic ?_
          refine wp_region_held_drew (S := (fun w' => Hid (Below w3.heap.size w3 w') ∧ w'.cell? ⟨w.heap.size + 3, 0, none⟩ = some (.int .i64 J.a.1) ∧ w'.cell? ⟨w.heap.size + 3, 1, none⟩ = some (.int .i64 J.a.2.1) ∧ w'.cell? ⟨w.heap.size + 3, 2, none⟩ = some (.slice B0 Bn0 Bc0) ∧ w'.cell? ⟨w.heap.size + 3, 3, none⟩ = some (.int .i64 J.b.1) ∧ w'.cell? ⟨w.heap.size + 3, 4, none⟩ = some (.int .i64 J.b.2.1) ∧ w'.cell? ⟨w.heap.size + 3, 5, none⟩ = some (.slice B1 Bn1 Bc1) ∧ w'.cell? ⟨w.heap.size + 3, 6, none⟩ = some (.int .i64 J.c.1) ∧ w'.cell? ⟨w.heap.size + 3, 7, none⟩ = some (.int .i64 J.c.2.1) ∧ w'.cell? ⟨w.heap.size + 3, 8, none⟩ = some (.slice B2 Bn2 Bc2) ∧ w'.cell? ⟨g, off + k * 3, none⟩ = some (.int .i64 x.1) ∧ w'.cell? ⟨g, off + k * 3 + 1, none⟩ = some (.int .i64 x.2.1) ∧ w'.cell? ⟨g, off + k * 3 + 2, none⟩ = some (.slice Ax x.2.2.length cx))) (by kernel_rfl) (HH.out _ (below_drew1 (Below.refl w3.heap.size w3))) (fun hHeld => ?_)
          refine wpAnyH_take (i := 0) (v := ?vc0_11z) rfl (by kernel_rfl) (by kernel_rfl) (by kernel_rfl) (fun _ _ _ h => h) (Or.inl ⟨by rfl, ?hyc0_11z⟩) (by assumption) ?restc0_11z
          case hyc0_11z => (intro w0 hSw; (try dsimp only at hSw); go_simp; try with_reducible rfl)
          case' restc0_11z => try simp only [Act.put, List.getElem_toArray, List.getElem_cons_zero, List.getElem_cons_succ, List.setIfInBounds_toArray, List.set_cons_zero, List.set_cons_succ]
          refine wpAnyH_take (i := 1) (v := ?vc1_11z) rfl (by kernel_rfl) (by kernel_rfl) (by kernel_rfl) (fun _ _ _ h => h) (Or.inl ⟨by rfl, ?hyc1_11z⟩) (by assumption) ?restc1_11z
          case hyc1_11z => (intro w0 hSw; (try dsimp only at hSw); go_simp; try with_reducible rfl)
          case' restc1_11z => try simp only [Act.put, List.getElem_toArray, List.getElem_cons_zero, List.getElem_cons_succ, List.setIfInBounds_toArray, List.set_cons_zero, List.set_cons_succ]
          refine wpAnyH_take (i := 2) (v := ?vc2_11z) rfl (by kernel_rfl) (by kernel_rfl) (by kernel_rfl) (fun _ _ _ h => h) (Or.inl ⟨by rfl, ?hyc2_11z⟩) (by assumption) ?restc2_11z
          case hyc2_11z => (intro w0 hSw; (try dsimp only at hSw); go_simp; try with_reducible rfl)
          case' restc2_11z => try simp only [Act.put, List.getElem_toArray, List.getElem_cons_zero, List.getElem_cons_succ, List.setIfInBounds_toArray, List.set_cons_zero, List.set_cons_succ]
          refine wpAnyH_take (i := 3) (v := ?vc3_11z) rfl (by kernel_rfl) (by kernel_rfl) (by kernel_rfl) (fun _ _ _ h => h) (Or.inl ⟨by rfl, ?hyc3_11z⟩) (by assumption) ?restc3_11z
          case hyc3_11z => (intro w0 hSw; (try dsimp only at hSw); go_simp; try with_reducible rfl)
          case' restc3_11z => try simp only [Act.put, List.getElem_toArray, List.getElem_cons_zero, List.getElem_cons_succ, List.setIfInBounds_toArray, List.set_cons_zero, List.set_cons_succ]
          refine wpAnyH_take (i := 4) (v := ?vc4_11z) rfl (by kernel_rfl) (by kernel_rfl) (by kernel_rfl) (fun _ _ _ h => h) (Or.inl ⟨by rfl, ?hyc4_11z⟩) (by assumption) ?restc4_11z
          case hyc4_11z => (intro w0 hSw; (try dsimp only at hSw); go_simp; try with_reducible rfl)
          case' restc4_11z => try simp only [Act.put, List.getElem_toArray, List.getElem_cons_zero, List.getElem_cons_succ, List.setIfInBounds_toArray, List.set_cons_zero, List.set_cons_succ]
          refine wpAnyH_ready (rs := [5, 9]) (by kernel_rfl) (by simp) ?_
          refine AllReadyH.cons rfl (fun K hK => ?_) (AllReadyH.cons rfl (fun K hK => ?_) AllReadyH.nil)
          · go_simp
            refine (HACC.out _ (below_drew1 (Below.refl w3.heap.size w3))).mono ?_
            rintro e w4 ⟨rfl, hb⟩
            have HW1 := Lib.hid (bch (below_drew1 (Below.refl w3.heap.size w3)) hb (Below.size (below_drew1 (Below.refl w3.heap.size w3))))
            refine hK.out _ _ (HH.out _ (HW1.out)) (fun hHeld => ?_)
            clear hK K
            try simp only [Act.put, List.getElem_toArray, List.getElem_cons_zero, List.getElem_cons_succ, List.setIfInBounds_toArray, List.set_cons_zero, List.set_cons_succ]
            refine wpAnyH_take (i := 6) (v := ?vc6_12z) rfl (by kernel_rfl) (by kernel_rfl) (by kernel_rfl) (fun _ _ _ h => h) (Or.inl ⟨by rfl, ?hyc6_12z⟩) (by assumption) ?restc6_12z
            case hyc6_12z => (intro w0 hSw; (try dsimp only at hSw); go_simp; try with_reducible rfl)
            case' restc6_12z => try simp only [Act.put, List.getElem_toArray, List.getElem_cons_zero, List.getElem_cons_succ, List.setIfInBounds_toArray, List.set_cons_zero, List.set_cons_succ]
            refine wpAnyH_take (i := 7) (v := ?vc7_12z) rfl (by kernel_rfl) (by kernel_rfl) (by kernel_rfl) (fun _ _ _ h => h) (Or.inl ⟨by rfl, ?hyc7_12z⟩) (by assumption) ?restc7_12z
            case hyc7_12z => (intro w0 hSw; (try dsimp only at hSw); go_simp; try with_reducible rfl)
            case' restc7_12z => try simp only [Act.put, List.getElem_toArray, List.getElem_cons_zero, List.getElem_cons_succ, List.setIfInBounds_toArray, List.set_cons_zero, List.set_cons_succ]
            refine wpAnyH_take (i := 8) (v := ?vc8_12z) rfl (by kernel_rfl) (by kernel_rfl) (by kernel_rfl) (fun _ _ _ h => h) (Or.inl ⟨by rfl, ?hyc8_12z⟩) (by assumption) ?restc8_12z
            case hyc8_12z => (intro w0 hSw; (try dsimp only at hSw); go_simp; try with_reducible rfl)
            case' restc8_12z => try simp only [Act.put, List.getElem_toArray, List.getElem_cons_zero, List.getElem_cons_succ, List.setIfInBounds_toArray, List.set_cons_zero, List.set_cons_succ]
            refine wpAnyH_ready (rs := [9]) (by kernel_rfl) (by simp) ?_
            refine AllReadyH.cons rfl (fun K hK => ?_) AllReadyH.nil
            go_simp
            refine hK.out _ _ (HH.out _ ((bch HW1.out (below_alloc w4 _) HW1.out.size))) (fun hHeld => ?_)
            clear hK K
            try simp only [Act.put, List.getElem_toArray, List.getElem_cons_zero, List.getElem_cons_succ, List.setIfInBounds_toArray, List.set_cons_zero, List.set_cons_succ]
            refine wpAnyH_ready (rs := [10]) (by kernel_rfl) (by simp) ?_
            refine AllReadyH.cons rfl (fun K hK => ?_) AllReadyH.nil
            go_simp
            refine hK.out _ _ (HH.out _ ((bch HW1.out (below_alloc w4 _) HW1.out.size))) (fun hHeld => ?_)
            clear hK K
            try simp only [Act.put, List.getElem_toArray, List.getElem_cons_zero, List.getElem_cons_succ, List.setIfInBounds_toArray, List.set_cons_zero, List.set_cons_succ]
            refine wpAnyH_take (i := 11) (v := ?vc11_13z) rfl (by kernel_rfl) (by kernel_rfl) (by kernel_rfl) (fun _ _ _ h => h) (Or.inl ⟨by rfl, ?hyc11_13z⟩) (by assumption) ?restc11_13z
            case hyc11_13z => (intro w0 hSw; (try dsimp only at hSw); go_simp; try with_reducible rfl)
            case' restc11_13z => try simp only [Act.put, List.getElem_toArray, List.getElem_cons_zero, List.getElem_cons_succ, List.setIfInBounds_toArray, List.set_cons_zero, List.set_cons_succ]
            refine wpAnyH_done (by kernel_rfl) ?_ _
            refine NoPanic.normal ?_
            have HB2 := Lib.hid (bch HW1.out (below_alloc w4 (.cells #[(.int .i64 0), (.int .i64 0), (.slice none 0 0), (.int .i64 0), (.int .i64 0), (.slice none 0 0), (.int .i64 0), (.int .i64 0), (.slice none 0 0)] tInR)) HW1.out.size)
            clear hHeld HW1 hb HACC HH
            obtain ⟨w5, hW2⟩ : ∃ w5, w5 = w4.alloc (.cells #[(.int .i64 0), (.int .i64 0), (.slice none 0 0), (.int .i64 0), (.int .i64 0), (.slice none 0 0), (.int .i64 0), (.int .i64 0), (.slice none 0 0)] tInR) := ⟨_, rfl⟩
            rw [← hW2] at HB2 ⊢
            clear hW2
            generalize w4.heap.size = b9 at ⊢
            have HK5 := Lib.hid (HK3.out.keep HB2.out)
            clear HB2 HK3 i0 i1 i2 i3 i4 i5 i6 i7 i8 d0 d1 d2
            go_wp2_with fail
            go_roundw
            case rel => exact ⟨k + 1, _, _, by go_num, by omega, by rw [HN.out, HJJ.out]; exact HK5.out⟩
            case measure => simp [intOf]; omega
          · go_simp
            refine hK.out _ _ (HH.out _ ((bch (below_drew1 (Below.refl w3.heap.size w3)) (below_alloc w3.drew _) (Nat.le_refl _)))) (fun hHeld => ?_)
            clear hK K
            try simp only [Act.put, List.getElem_toArray, List.getElem_cons_zero, List.getElem_cons_succ, List.setIfInBounds_toArray, List.set_cons_zero, List.set_cons_succ]
            refine wpAnyH_ready (rs := [5]) (by kernel_rfl) (by simp) ?_
            refine AllReadyH.cons rfl (fun K hK => ?_) AllReadyH.nil
            go_simp
            have HBd := Lib.hid (bch (below_drew1 (Below.refl w3.heap.size w3)) (below_alloc w3.drew (.cells zInR tInR)) (Nat.le_refl _))
            refine (HACC.out _ HBd.out).mono ?_
            rintro e w4 ⟨rfl, hb⟩
            have HW1 := Lib.hid (bch HBd.out hb HBd.out.size)
            refine hK.out _ _ (HH.out _ (HW1.out)) (fun hHeld => ?_)
            clear hK K
            try simp only [Act.put, List.getElem_toArray, List.getElem_cons_zero, List.getElem_cons_succ, List.setIfInBounds_toArray, List.set_cons_zero, List.set_cons_succ]
            refine wpAnyH_take (i := 6) (v := ?vc6_14z) rfl (by kernel_rfl) (by kernel_rfl) (by kernel_rfl) (fun _ _ _ h => h) (Or.inl ⟨by rfl, ?hyc6_14z⟩) (by assumption) ?restc6_14z
            case hyc6_14z => (intro w0 hSw; (try dsimp only at hSw); go_simp; try with_reducible rfl)
            case' restc6_14z => try simp only [Act.put, List.getElem_toArray, List.getElem_cons_zero, List.getElem_cons_succ, List.setIfInBounds_toArray, List.set_cons_zero, List.set_cons_succ]
            refine wpAnyH_take (i := 7) (v := ?vc7_14z) rfl (by kernel_rfl) (by kernel_rfl) (by kernel_rfl) (fun _ _ _ h => h) (Or.inl ⟨by rfl, ?hyc7_14z⟩) (by assumption) ?restc7_14z
            case hyc7_14z => (intro w0 hSw; (try dsimp only at hSw); go_simp; try with_reducible rfl)
            case' restc7_14z => try simp only [Act.put, List.getElem_toArray, List.getElem_cons_zero, List.getElem_cons_succ, List.setIfInBounds_toArray, List.set_cons_zero, List.set_cons_succ]
            refine wpAnyH_take (i := 8) (v := ?vc8_14z) rfl (by kernel_rfl) (by kernel_rfl) (by kernel_rfl) (fun _ _ _ h => h) (Or.inl ⟨by rfl, ?hyc8_14z⟩) (by assumption) ?restc8_14z
            case hyc8_14z => (intro w0 hSw; (try dsimp only at hSw); go_simp; try with_reducible rfl)
            case' restc8_14z => try simp only [Act.put, List.getElem_toArray, List.getElem_cons_zero, List.getElem_cons_succ, List.setIfInBounds_toArray, List.set_cons_zero, List.set_cons_succ]
            have HZ0 := Lib.hid (show w4.heap[w3.heap.size]? = some (.cells zInR tInR (0, 0)) from heap_keep (heap_new w3.drew (.cells zInR tInR)) hb)
            have hzlt : w3.heap.size < w4.heap.size := heap_lt HZ0.out
            obtain ⟨z0, z1, z2, z3, z4, z5, z6, z7, z8⟩ := cell9 HZ0.out
            obtain ⟨f0, f1, f2, f3, f4, f5, f6, f7, f8⟩ := froz9 HZ0.out
            have HTu := Lib.hid (turned_set9 w4 w3.heap.size ((.int .i64 0)) ((.int .i64 0)) ((.slice none 0 0)) ((.int .i64 0)) ((.int .i64 0)) ((.slice none 0 0)) ((.int .i64 0)) ((.int .i64 0)) ((.slice none 0 0)))
            have HSET := Lib.hid (set9 HZ0.out ((.int .i64 0)) ((.int .i64 0)) ((.slice none 0 0)) ((.int .i64 0)) ((.int .i64 0)) ((.slice none 0 0)) ((.int .i64 0)) ((.int .i64 0)) ((.slice none 0 0)))
            unfold set9w at HTu HSET
            have HWs := Lib.hid (Below.turned HW1.out HTu.out (fun i hi => by omega) (Below.size HW1.out))
            refine wpAnyH_ready (rs := [10]) (by kernel_rfl) (by simp) ?_
            refine AllReadyH.cons rfl (fun K hK => ?_) AllReadyH.nil
            go_simp
            refine hK.out _ _ (HH.out _ (HWs.out)) (fun hHeld => ?_)
            clear hK K
            try simp only [Act.put, List.getElem_toArray, List.getElem_cons_zero, List.getElem_cons_succ, List.setIfInBounds_toArray, List.set_cons_zero, List.set_cons_succ]
            refine wpAnyH_take (i := 11) (v := ?vc11_15z) rfl (by kernel_rfl) (by kernel_rfl) (by kernel_rfl) (fun _ _ _ h => h) (Or.inl ⟨by rfl, ?hyc11_15z⟩) (by assumption) ?restc11_15z
            case hyc11_15z => (intro w0 hSw; (try dsimp only at hSw); go_simp; try with_reducible rfl)
            case' restc11_15z => try simp only [Act.put, List.getElem_toArray, List.getElem_cons_zero, List.getElem_cons_succ, List.setIfInBounds_toArray, List.set_cons_zero, List.set_cons_succ]
            refine wpAnyH_done (by kernel_rfl) ?_ _
            refine NoPanic.normal ?_
            have HB2 := Lib.hid HWs.out
            clear hHeld HW1 hb HACC HH HBd HZ0 hzlt HTu HSET HWs z0 z1 z2 z3 z4 z5 z6 z7 z8 f0 f1 f2 f3 f4 f5 f6 f7 f8
            obtain ⟨w5, hW2⟩ : ∃ w5, w5 = ((((((((w4.setCell ⟨w3.heap.size, 0, none⟩ ((.int .i64 0))).setCell ⟨w3.heap.size, 1, none⟩ ((.int .i64 0))).setCell ⟨w3.heap.size, 2, none⟩ ((.slice none 0 0))).setCell ⟨w3.heap.size, 3, none⟩ ((.int .i64 0))).setCell ⟨w3.heap.size, 4, none⟩ ((.int .i64 0))).setCell ⟨w3.heap.size, 5, none⟩ ((.slice none 0 0))).setCell ⟨w3.heap.size, 6, none⟩ ((.int .i64 0))).setCell ⟨w3.heap.size, 7, none⟩ ((.int .i64 0))).setCell ⟨w3.heap.size, 8, none⟩ ((.slice none 0 0)) := ⟨_, rfl⟩
            rw [← hW2] at HB2 ⊢
            clear hW2
            generalize hb7 : w3.heap.size = b9 at HB2 ⊢
            rw [← hb7] at HB2
            clear hb7
            have HK5 := Lib.hid (HK3.out.keep HB2.out)
            clear HB2 HK3 i0 i1 i2 i3 i4 i5 i6 i7 i8 d0 d1 d2
            go_wp2_with fail
            go_roundw
            case rel => exact ⟨k + 1, _, _, by go_num, by omega, by rw [HN.out, HJJ.out]; exact HK5.out⟩
            case measure => simp [intOf]; omega
    · obtain rfl : k = S.length := by omega
      have HPP := Lib.hid HK.out.p
      have HRR := Lib.hid HK.out.r
      obtain ⟨A0, An0, Ac0, A1, An1, Ac1, A2, An2, Ac2, m, rfl, _⟩ := HK.out.p
      obtain ⟨B0, Bn0, Bc0, B1, Bn1, Bc1, B2, Bn2, Bc2, rfl, _⟩ := HK.out.r
      obtain ⟨i0, i1, i2, i3, i4, i5, i6, i7, i8, i9⟩ := cell10 HK.out.bp.get
      obtain ⟨j0, j1, j2, j3, j4, j5, j6, j7, j8⟩ := cell9 HK.out.br.get
      obtain ⟨m0, m1', m2, m3, m4, m5, m6, m7, m8, m9⟩ := cell10 HK.out.z0
      obtain ⟨f0, f1, f2, f3, f4, f5, f6, f7, f8, f9⟩ := froz10 HK.out.z0
      obtain ⟨n0, n1, n2, n3, n4, n5, n6, n7, n8⟩ := cell9 HK.out.z1
      obtain ⟨p0, p1, p2, p3, p4, p5, p6, p7, p8⟩ := froz9 HK.out.z1
      rw [List.take_length] at *
      go_wp2_with fail
      go_region
      go_wp2_with fail
      obtain ⟨w8, hw8⟩ : ∃ w8, w8 = set10w wr (w.heap.size) (.int .i64 (ofI S).a.1) (.int .i64 (ofI S).a.2.1) (.slice A0 An0 Ac0) (.int .i64 (ofI S).b.1) (.int .i64 (ofI S).b.2.1) (.slice A1 An1 Ac1) (.int .i64 (ofI S).c.1) (.int .i64 (ofI S).c.2.1) (.slice A2 An2 Ac2) (.map m) := ⟨_, rfl⟩
      rw [show (((((((((wr.setCell ⟨w.heap.size, 0, none⟩ (.int .i64 (ofI S).a.1)).setCell ⟨w.heap.size, 1, none⟩ (.int .i64 (ofI S).a.2.1)).setCell ⟨w.heap.size, 2, none⟩ (.slice A0 An0 Ac0)).setCell ⟨w.heap.size, 3, none⟩ (.int .i64 (ofI S).b.1)).setCell ⟨w.heap.size, 4, none⟩ (.int .i64 (ofI S).b.2.1)).setCell ⟨w.heap.size, 5, none⟩ (.slice A1 An1 Ac1)).setCell ⟨w.heap.size, 6, none⟩ (.int .i64 (ofI S).c.1)).setCell ⟨w.heap.size, 7, none⟩ (.int .i64 (ofI S).c.2.1)).setCell ⟨w.heap.size, 8, none⟩ (.slice A2 An2 Ac2)).setCell ⟨w.heap.size, 9, none⟩ (.map m) = w8 from hw8.symm]
      obtain ⟨w9, hw9⟩ : ∃ w9, w9 = set9w w8 (w.heap.size + 1) (.int .i64 (ofI S).a.1) (.int .i64 (ofI S).a.2.1) (.slice B0 Bn0 Bc0) (.int .i64 (ofI S).b.1) (.int .i64 (ofI S).b.2.1) (.slice B1 Bn1 Bc1) (.int .i64 (ofI S).c.1) (.int .i64 (ofI S).c.2.1) (.slice B2 Bn2 Bc2) := ⟨_, rfl⟩
      rw [show ((((((((w8.setCell ⟨w.heap.size + 1, 0, none⟩ (.int .i64 (ofI S).a.1)).setCell ⟨w.heap.size + 1, 1, none⟩ (.int .i64 (ofI S).a.2.1)).setCell ⟨w.heap.size + 1, 2, none⟩ (.slice B0 Bn0 Bc0)).setCell ⟨w.heap.size + 1, 3, none⟩ (.int .i64 (ofI S).b.1)).setCell ⟨w.heap.size + 1, 4, none⟩ (.int .i64 (ofI S).b.2.1)).setCell ⟨w.heap.size + 1, 5, none⟩ (.slice B1 Bn1 Bc1)).setCell ⟨w.heap.size + 1, 6, none⟩ (.int .i64 (ofI S).c.1)).setCell ⟨w.heap.size + 1, 7, none⟩ (.int .i64 (ofI S).c.2.1)).setCell ⟨w.heap.size + 1, 8, none⟩ (.slice B2 Bn2 Bc2) = w9 from hw9.symm]
      have ht8 : Turned (fun j => j = w.heap.size) wr w8 := by rw [hw8]; exact turned_set10 _ _ _ _ _ _ _ _ _ _ _ _
      have ht9 : Turned (fun j => j = w.heap.size + 1) w8 w9 := by rw [hw9]; exact turned_set9 _ _ _ _ _ _ _ _ _ _ _
      have x8 := set10 HK.out.z0 (.int .i64 (ofI S).a.1) (.int .i64 (ofI S).a.2.1) (.slice A0 An0 Ac0) (.int .i64 (ofI S).b.1) (.int .i64 (ofI S).b.2.1) (.slice A1 An1 Ac1) (.int .i64 (ofI S).c.1) (.int .i64 (ofI S).c.2.1) (.slice A2 An2 Ac2) (.map m)
      have x9 := heap_turned (by rw [hw8]; exact x8) ht9 (by omega)
      have y9 := set9 (heap_turned HK.out.z1 ht8 (by omega)) (.int .i64 (ofI S).a.1) (.int .i64 (ofI S).a.2.1) (.slice B0 Bn0 Bc0) (.int .i64 (ofI S).b.1) (.int .i64 (ofI S).b.2.1) (.slice B1 Bn1 Bc1) (.int .i64 (ofI S).c.1) (.int .i64 (ofI S).c.2.1) (.slice B2 Bn2 Bc2)
      rw [show set9w w8 (w.heap.size + 1) (.int .i64 (ofI S).a.1) (.int .i64 (ofI S).a.2.1) (.slice B0 Bn0 Bc0) (.int .i64 (ofI S).b.1) (.int .i64 (ofI S).b.2.1) (.slice B1 Bn1 Bc1) (.int .i64 (ofI S).c.1) (.int .i64 (ofI S).c.2.1) (.slice B2 Bn2 Bc2) = w9 from hw9.symm] at y9
      have HP9 := Lib.hid ((HK.out.p.turned ht8 (fun b hb => by rw [hb]; exact HK.out.av _ (by omega) (by omega))).turned ht9 (fun b hb => by rw [hb]; exact HK.out.av _ (by omega) (by omega)))
      have HR9 := Lib.hid ((HK.out.r.turned ht8 (fun b hb => by rw [hb]; exact HK.out.ar _ (by omega) (by omega))).turned ht9 (fun b hb => by rw [hb]; exact HK.out.ar _ (by omega) (by omega)))
      have hb8 := Below.turned HK.out.bel ht8 (fun i h => by omega) HK.out.bel.size
      have HB9 := Lib.hid (Below.turned hb8 ht9 (fun i h => by omega) hb8.size)
      have hb10 : Below w9.heap.size w9 w9.drew := below_drew1 (Below.refl _ _)
      have HP10 := Lib.hid (HP9.out.below hb10); have HR10 := Lib.hid (HR9.out.below hb10); have HB10 := Lib.hid (bch HB9.out hb10 HB9.out.size)
      have X10 := Lib.hid (heap_keep x9 hb10); have Y10 := Lib.hid (heap_keep y9 hb10)
      clear i0 i1 i2 i3 i4 i5 i6 i7 i8 i9 j0 j1 j2 j3 j4 j5 j6 j7 j8 m0 m1' m2 m3 m4 m5 m6 m7 m8 m9 n0 n1 n2 n3 n4 n5 n6 n7 n8 f0 f1 f2 f3 f4 f5 f6 f7 f8 f9 p0 p1 p2 p3 p4 p5 p6 p7 p8 hb10 hb8 hw8 hw9 ht8 ht9 x8 x9 y9 HP9 HR9 HB9
      generalize w9.drew = wz at HP10 HR10 HB10 X10 Y10 ⊢
      obtain ⟨m0, m1', m2, m3, m4, m5, m6, m7, m8, m9⟩ := cell10 X10.out
      obtain ⟨n0, n1, n2, n3, n4, n5, n6, n7, n8⟩ := cell9 Y10.out
      refine bodyPost_ret (v := .tuple #[.agg #[.int .i64 (ofI S).a.1, .int .i64 (ofI S).a.2.1, .slice A0 An0 Ac0, .int .i64 (ofI S).b.1, .int .i64 (ofI S).b.2.1, .slice A1 An1 Ac1, .int .i64 (ofI S).c.1, .int .i64 (ofI S).c.2.1, .slice A2 An2 Ac2, .map m], .agg #[.int .i64 (ofI S).a.1, .int .i64 (ofI S).a.2.1, .slice B0 Bn0 Bc0, .int .i64 (ofI S).b.1, .int .i64 (ofI S).b.2.1, .slice B1 Bn1 Bc1, .int .i64 (ofI S).c.1, .int .i64 (ofI S).c.2.1, .slice B2 Bn2 Bc2]]) (by simp [results, Tryd.results10, go_sem, m0, m1', m2, m3, m4, m5, m6, m7, m8, m9, n0, n1, n2, n3, n4, n5, n6, n7, n8]) rfl ⟨_, _, rfl, HP10.out, HR10.out, HB10.out⟩
end Go.Proofs.YtlfibaijpimocaaDoor

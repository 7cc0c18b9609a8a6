/- What a core is made of: Parts. -/
import Derived.Test.YtnfbhocppijbjaaDoorCoreMem
import Derived.Test.YtnfbhocppijbjaaDoorCoreStop
import Derived.Test.YtnfbhocppijbjaaDoorIntakeTell
import Derived.Test.YtnfbhocppijbjaaDoorSrcOf
import Derived.Deep.CutRange
import Derived.Laws.StructEq
import Derived.Lib.Hide
namespace Go.Proofs.YtnfbhocppijbjaaDoor
open Go.RowKit Go.Maps Key Rw Sa Co

abbrev tPartsC : TypeId := 42
abbrev tSagasC : TypeId := 38
theorem own_base {w : World} {B B' : Nat} {e : TypeId} {z n : Nat} {v : Value} {xs : List Value} (h : w.ownsRow B e z v n xs) (hB : B' ≤ B) : w.ownsRow B' e z v n xs :=
  ⟨h.1, h.2.imp id fun ⟨g, cap, cur, e, hb, r⟩ => ⟨g, cap, cur, e, Nat.le_trans hB hb, r⟩⟩
set_option linter.unusedSimpArgs false in
set_option linter.unusedVariables false in
set_option maxRecDepth 100000 in
set_option maxHeartbeats 16000000 in
theorem bclone_any {B : Nat} (w : World) (v : Value) (b : List Po) (h : w.ownsRow B tPost 5 v b.length (b.flatMap encP)) (hl : b.length ≤ 100000) (base : Nat) (hbase : base ≤ w.heap.size) :
    Calls Tryd.prog 32 #[v] w fun e w' => ∃ v', e = .returned v' ∧ w'.ownsRow base tPost 5 v' b.length (b.flatMap encP) ∧ Below w.heap.size w w' := by
  obtain ⟨i0, hi, hz0, hz1, hz2⟩ := info_parts post_info
  have q22 : ∀ (w : World) (a : Option Addr) (n c n' c' : Nat), (binOp .eql tPosts (.slice a n c) (.slice none n' c')).run Tryd.prog w = .ok (.bool a.isNone) w := fun w a n c n' c' => Lib.run_eql_slice_nil w _ _ a n c n' c' Tryd.underlying39
  rcases own_ptr h with ⟨rfl, h0⟩ | ⟨g, c, rfl, hgB, hgl, hgc⟩
  · obtain rfl : b = [] := List.length_eq_zero_iff.1 h0
    clear h
    go_enter Tryd.func32, Tryd.ntmps32
    go_wp2_with fail
    go_ret
    exact ⟨_, rfl, World.ownsRow_nil _ _ _ _, Below.refl _ _⟩
  · have HS := Lib.hid (src_own (enc := encP) (z := 5) encP_len (by decide) encP_one h)
    have hb1 := below_alloc w (.cells #[] tPost)
    have HS1 := Lib.hid (src_own (enc := encP) (z := 5) encP_len (by decide) encP_one (own_keep h hb1))
    have HB1 := Lib.hid hb1
    clear h hb1
    go_enter Tryd.func32, Tryd.ntmps32
    go_wp2_with (at_builtin; refine wpList_append_any _ rfl (.tmp 5) (.tmp 6) tPosts rfl base tPost i0 (mkPost ⟨[], 0, 0, 0, 0⟩) 5 48 Tryd.underlying39 hi hz0 hz1 hz2 rfl (by decide) (.slice (some ⟨w.heap.size, 0, none⟩) 0 0) 0 [] rfl (World.ownsRow_made w #[] 0 hbase (Nat.zero_le _) rfl) b.length (b.flatMap encP) HS1.out (by unfold maxLen; omega) (by omega) (by simp; omega) ?_; intro v2 w2 ho2 hg2 hat2; rw [Nat.zero_add, List.nil_append] at ho2; have HO2 := Lib.hid ho2; have HG2 := Lib.hid hg2; clear ho2 hg2 hat2)
    go_ret
    exact ⟨_, rfl, HO2.out, Below.grown HB1.out HG2.out HB1.out.size (fun j hj => by have e : j = w.heap.size := (by simpa [Value.ownBlock] using hj.symm); omega)⟩
set_option linter.unusedSimpArgs false in
set_option linter.unusedVariables false in
set_option maxRecDepth 100000 in
set_option maxHeartbeats 16000000 in
theorem blist_any {B : Nat} {w : World} {bb pm bm : Nat} {vb : Value} {b : List Po} (h : Bw B w bb pm bm vb b) (hl : b.length ≤ 100000) (base : Nat) (hbase : base ≤ w.heap.size) :
    Calls Tryd.prog 15 #[.pointer (some ⟨bb, 0, none⟩)] w fun e w' => ∃ v', e = .returned v' ∧ w'.ownsRow base tPost 5 v' b.length (b.flatMap encP) ∧ Below w.heap.size w w' := by
  have c0 := cell_at h.hd 0 rfl
  have HH := Lib.hid h
  clear h
  go_enter Tryd.func15, Tryd.ntmps15
  go_wp2_with (first
    | (go_at_call 31; refine (bnone_any HH.out).mono ?_; rintro e w1 ⟨rfl, hb⟩; subst hb)
    | (go_at_call 32; refine (bclone_any _ vb b HH.out.ob hl base hbase).mono ?_; rintro e w1 ⟨v', rfl, ho, hb⟩; have HO := Lib.hid ho; have HB := Lib.hid hb; clear ho hb))
  go_ret
  exact ⟨_, rfl, HO.out, HB.out⟩
/-- The block of an own row is none that holds other things. -/
theorem own_off {w : World} {B : Nat} {e T : TypeId} {z n b : Nat} {v : Value} {xs : List Value} {cs : Array Value} {fr : Nat × Nat} (h : w.ownsRow B e z v n xs) (hb : w.heap[b]? = some (.cells cs T fr)) (hT : e ≠ T) : ∀ j, v.ownBlock = some j → j = b → False := by
  intro j hj e
  subst e
  rcases h.2 with ⟨rfl, _⟩ | ⟨g, cap, cur, rfl, _, hg, _⟩
  · cases hj
  · obtain rfl : g = j := by simpa [Value.ownBlock] using hj
    rw [hb] at hg
    injection hg with hg
    injection hg with _ hg _
    exact hT hg.symm
/-- A statement that stands in a box of parts; its rows' memory is made behind it. -/
structure StO (w : World) (bp : Nat) (x : In.Stm) (p s : Int) (A : Option Addr) (n c : Nat) : Prop where
  ep : p = x.1
  es : s = x.2.1
  en : n = x.2.2.length
  rd : Rd w (.slice A n c) x.2.2
  off : ∀ ad n' c', Value.slice A n c = .slice (some ad) n' c' → 0 < x.2.2.length → bp < ad.block
theorem StO.step {w w5 w6 : World} {bp bz : Nat} {x : In.Stm} {p s : Int} {A : Option Addr} {n c : Nat} (h : StO w bz x p s A n c) (hle : bp ≤ bz) (hb : Below w.heap.size w w5) (ht : Turned (fun j => j = bp) w5 w6) : StO w6 bz x p s A n c :=
  ⟨h.ep, h.es, h.en, (h.rd.keep hb).turned ht (fun ad n' c' e hl => by have := h.off ad n' c' e hl; omega), h.off⟩
set_option linter.unusedSimpArgs false in
set_option linter.unusedVariables false in
set_option maxRecDepth 100000 in
set_option maxHeartbeats 16000000 in
theorem cparts_any {B : Nat} {w : World} {cb bb pm bm : Nat} {vl vb vI : Value} {c : Cor} (h : Cw B w cb bb pm bm vl vb vI c) (hl : c.l.length ≤ 100000) (hbl : c.b.length ≤ 100000) :
    Calls Tryd.prog 7 #[.pointer (some ⟨cb, 0, none⟩)] w fun e w' => ∃ As cs Ap cp A0 c0 A1 c1 A2 c2, e = .returned (.agg #[.slice As c.l.length cs, .slice Ap c.b.length cp, .int .i64 c.inn.a.1, .int .i64 c.inn.a.2.1, .slice A0 c.inn.a.2.2.length c0, .int .i64 c.inn.b.1, .int .i64 c.inn.b.2.1, .slice A1 c.inn.b.2.2.length c1, .int .i64 c.inn.c.1, .int .i64 c.inn.c.2.1, .slice A2 c.inn.c.2.2.length c2]) ∧ w'.ownsRow w.heap.size tSaga 12 (.slice As c.l.length cs) c.l.length (c.l.flatMap encS) ∧ w'.ownsRow w.heap.size tPost 5 (.slice Ap c.b.length cp) c.b.length (c.b.flatMap encP) ∧ Rd w' (.slice A0 c.inn.a.2.2.length c0) c.inn.a.2.2 ∧ Rd w' (.slice A1 c.inn.b.2.2.length c1) c.inn.b.2.2 ∧ Rd w' (.slice A2 c.inn.c.2.2.length c2) c.inn.c.2.2 ∧ Below w.heap.size w w' ∧ ∃ bz, w.heap.size ≤ bz ∧ (∀ j, Value.ownBlock (.slice As c.l.length cs) = some j → j ≤ bz) ∧ (∀ j, Value.ownBlock (.slice Ap c.b.length cp) = some j → j ≤ bz) ∧ (∀ ad, A0 = some ad → 0 < c.inn.a.2.2.length → bz < ad.block) ∧ (∀ ad, A1 = some ad → 0 < c.inn.b.2.2.length → bz < ad.block) ∧ ∀ ad, A2 = some ad → 0 < c.inn.c.2.2.length → bz < ad.block := by
  obtain ⟨i0, hi, hz0, hz1, hz2⟩ := info_parts saga_info
  obtain ⟨A, cl, rfl, _⟩ := own_slice h.ol
  obtain ⟨wa, hA⟩ : ∃ wa, wa = w.alloc (.cells #[.slice none 0 0, .slice none 0 0, .int .i64 0, .int .i64 0, .slice none 0 0, .int .i64 0, .int .i64 0, .slice none 0 0, .int .i64 0, .int .i64 0, .slice none 0 0] tPartsC) := ⟨_, rfl⟩
  have hB : Below w.heap.size w wa := by rw [hA]; exact below_alloc _ _
  have HX := Lib.hid (show wa.heap[w.heap.size]? = some (.cells #[.slice none 0 0, .slice none 0 0, .int .i64 0, .int .i64 0, .slice none 0 0, .int .i64 0, .int .i64 0, .slice none 0 0, .int .i64 0, .int .i64 0, .slice none 0 0] tPartsC (0, 0)) by rw [hA]; exact heap_new _ _)
  have HWS := Lib.hid (show wa.heap.size = w.heap.size + 1 by rw [hA]; simp)
  have HC := Lib.hid (h.below hB); have HA := Lib.hid hA; have HB := Lib.hid hB
  clear hA hB h
  obtain ⟨I0, In0, Ic0, I1, In1, Ic1, I2, In2, Ic2, m, rfl, _⟩ := HC.out.ii
  have HSRC := Lib.hid (fun W (hb : Below wa.heap.size wa W) => src_own (enc := encS) (z := 12) encS_len (by decide) encS_one (own_keep HC.out.ol hb))
  have HLI := Lib.hid (fun W (hb : Below wa.heap.size wa W) => blist_any (HC.out.bk.below hb) hbl wa.heap.size hb.size)
  obtain ⟨y0, y1⟩ := HC.out.c01
  go_enter Tryd.func7, Tryd.ntmps7
  go_upto_region 1 with (fail)
  rw [← HA.out]
  go_upto_region 3 with (go_at_call 14; refine (cnone_any HC.out).mono ?_; rintro e w1 ⟨rfl, hb⟩; subst hb)
  go_cut [3] from 8 to 18 (fun p wx => ∃ bp Ac cc Ad cd, p = .pointer (some ⟨bp, 0, none⟩) ∧ wx.heap[bp]? = some (.cells #[.slice Ac c.l.length cc, .slice Ad c.b.length cd, .int .i64 0, .int .i64 0, .slice none 0 0, .int .i64 0, .int .i64 0, .slice none 0 0, .int .i64 0, .int .i64 0, .slice none 0 0] tPartsC (0, 0)) ∧ wx.ownsRow wa.heap.size tSaga 12 (.slice Ac c.l.length cc) c.l.length (c.l.flatMap encS) ∧ wx.ownsRow wa.heap.size tPost 5 (.slice Ad c.b.length cd) c.b.length (c.b.flatMap encP) ∧ wa.heap.size ≤ bp ∧ Below wa.heap.size wa wx)
  case first =>
    have HH := Lib.hid (fun W (hb : Below wa.heap.size wa W) => (⟨Lib.hid hb, (hb.cell (World.block_lt_of_cell? wa _ y0)).trans y0, (hb.cell (World.block_lt_of_cell? wa _ y1)).trans y1⟩ : (fun w' => Hid (Below wa.heap.size wa w') ∧ w'.cell? ⟨cb, 0, none⟩ = some (.slice A c.l.length cl) ∧ w'.cell? ⟨cb, 1, none⟩ = some (.pointer (some ⟨bb, 0, none⟩))) W))
    refine wp_region_noPanic ?_
    refine wp_region_held_drew (S := (fun w' => Hid (Below wa.heap.size wa w') ∧ w'.cell? ⟨cb, 0, none⟩ = some (.slice A c.l.length cl) ∧ w'.cell? ⟨cb, 1, none⟩ = some (.pointer (some ⟨bb, 0, none⟩)))) (by kernel_rfl) (HH.out _ (below_drew1 (Below.refl wa.heap.size wa))) (fun hHeld => ?_)
    refine wpAnyH_take (i := 0) (v := ?vc0_1) rfl (by kernel_rfl) (by kernel_rfl) (by kernel_rfl) (fun _ _ _ h => h) (Or.inl ⟨by rfl, ?hyc0_1⟩) (by assumption) ?restc0_1
    case hyc0_1 => (intro w0 hSw; (try dsimp only at hSw); go_simp; try with_reducible rfl)
    case' restc0_1 => try simp only [Act.put, List.getElem_toArray, List.getElem_cons_zero, List.getElem_cons_succ, List.setIfInBounds_toArray, List.set_cons_zero, List.set_cons_succ]
    refine wpAnyH_take (i := 1) (v := ?vc1_2) rfl (by kernel_rfl) (by kernel_rfl) (by kernel_rfl) (fun _ _ _ h => h) (Or.inl ⟨by rfl, ?hyc1_2⟩) (by assumption) ?restc1_2
    case hyc1_2 => (intro w0 hSw; (try dsimp only at hSw); go_simp; try with_reducible rfl)
    case' restc1_2 => try simp only [Act.put, List.getElem_toArray, List.getElem_cons_zero, List.getElem_cons_succ, List.setIfInBounds_toArray, List.set_cons_zero, List.set_cons_succ]
    refine wpAnyH_take (i := 2) (v := ?vc2_3) rfl (by kernel_rfl) (by kernel_rfl) (by kernel_rfl) (fun _ _ _ h => h) (Or.inl ⟨by rfl, ?hyc2_3⟩) (by assumption) ?restc2_3
    case hyc2_3 => (intro w0 hSw; (try dsimp only at hSw); go_simp; try with_reducible rfl)
    case' restc2_3 => try simp only [Act.put, List.getElem_toArray, List.getElem_cons_zero, List.getElem_cons_succ, List.setIfInBounds_toArray, List.set_cons_zero, List.set_cons_succ]
    refine wpAnyH_take (i := 3) (v := ?vc3_4) rfl (by kernel_rfl) (by kernel_rfl) (by kernel_rfl) (fun _ _ _ h => h) (Or.inl ⟨by rfl, ?hyc3_4⟩) (by assumption) ?restc3_4
    case hyc3_4 => (intro w0 hSw; (try dsimp only at hSw); go_simp; try with_reducible rfl)
    case' restc3_4 => try simp only [Act.put, List.getElem_toArray, List.getElem_cons_zero, List.getElem_cons_succ, List.setIfInBounds_toArray, List.set_cons_zero, List.set_cons_succ]
    refine wpAnyH_take (i := 5) (v := ?vc5_5) rfl (by kernel_rfl) (by kernel_rfl) (by kernel_rfl) (fun _ _ _ h => h) (Or.inl ⟨by rfl, ?hyc5_5⟩) (by assumption) ?restc5_5
    case hyc5_5 => (intro w0 hSw; (try dsimp only at hSw); go_simp; try with_reducible rfl)
    case' restc5_5 => try simp only [Act.put, List.getElem_toArray, List.getElem_cons_zero, List.getElem_cons_succ, List.setIfInBounds_toArray, List.set_cons_zero, List.set_cons_succ]
    refine wpAnyH_take (i := 6) (v := ?vc6_6) rfl (by kernel_rfl) (by kernel_rfl) (by kernel_rfl) (fun _ _ _ h => h) (Or.inl ⟨by rfl, ?hyc6_6⟩) (by assumption) ?restc6_6
    case hyc6_6 => (intro w0 hSw; (try dsimp only at hSw); go_simp; try with_reducible rfl)
    case' restc6_6 => try simp only [Act.put, List.getElem_toArray, List.getElem_cons_zero, List.getElem_cons_succ, List.setIfInBounds_toArray, List.set_cons_zero, List.set_cons_succ]
    refine wpAnyH_take (i := 7) (v := ?vc7_7) rfl (by kernel_rfl) (by kernel_rfl) (by kernel_rfl) (fun _ _ _ h => h) (Or.inl ⟨by rfl, ?hyc7_7⟩) (by assumption) ?restc7_7
    case hyc7_7 => (intro w0 hSw; (try dsimp only at hSw); go_simp; try with_reducible rfl)
    case' restc7_7 => try simp only [Act.put, List.getElem_toArray, List.getElem_cons_zero, List.getElem_cons_succ, List.setIfInBounds_toArray, List.set_cons_zero, List.set_cons_succ]
    refine wpAnyH_take (i := 8) (v := ?vc8_8) rfl (by kernel_rfl) (by kernel_rfl) (by kernel_rfl) (fun _ _ _ h => h) (Or.inl ⟨by rfl, ?hyc8_8⟩) (by assumption) ?restc8_8
    case hyc8_8 => (intro w0 hSw; (try dsimp only at hSw); go_simp; try with_reducible rfl)
    case' restc8_8 => try simp only [Act.put, List.getElem_toArray, List.getElem_cons_zero, List.getElem_cons_succ, List.setIfInBounds_toArray, List.set_cons_zero, List.set_cons_succ]
    refine wpAnyH_ready (rs := [4, 11]) (by kernel_rfl) (by simp) ?_
    refine AllReadyH.cons rfl (fun K hK => ?_) (AllReadyH.cons rfl (fun K hK => ?_) AllReadyH.nil)
    · refine step_append_any _ rfl (.const (.slice none 0 0)) (.tmp 11) tSagasC rfl wa.heap.size tSaga i0 (.agg #[.int .i64 0, .string ⟨#[]⟩, .string ⟨#[]⟩, .int .i64 0, .int .i64 0, .int .i64 0, .int .i64 0, .int .i64 0, .int .i64 0, .int .i64 0, .int .i64 0, .bool false]) 12 112 Tryd.underlying38 hi hz0 hz1 hz2 rfl (by decide) (.slice none 0 0) 0 [] rfl (World.ownsRow_nil _ _ _ _) c.l.length (c.l.flatMap encS) (HSRC.out _ (below_drew1 (Below.refl wa.heap.size wa))) (by unfold maxLen; omega) (by omega) (Below.size (below_drew1 (Below.refl wa.heap.size wa))) ?_
      intro v1 w101 ho hg hat
      rw [Nat.zero_add, List.nil_append] at ho
      obtain ⟨Ac, cc, rfl, _⟩ := own_slice ho
      have hbn := below_of_grown hg
      have HOC := Lib.hid ho
      have HB101 := Lib.hid (bch (below_drew1 (Below.refl wa.heap.size wa)) hbn (Below.size (below_drew1 (Below.refl wa.heap.size wa))))
      clear ho hg hat hbn
      refine hK.out _ _ (HH.out _ HB101.out) (fun hHeld => ?_)
      clear hK K
      try simp only [Act.put, List.getElem_toArray, List.getElem_cons_zero, List.getElem_cons_succ, List.setIfInBounds_toArray, List.set_cons_zero, List.set_cons_succ]
      refine wpAnyH_ready (rs := [9, 11]) (by kernel_rfl) (by simp) ?_
      refine AllReadyH.cons rfl (fun K hK => ?_) (AllReadyH.cons rfl (fun K hK => ?_) AllReadyH.nil)
      · go_simp
        refine (HLI.out _ HB101.out).mono ?_
        rintro e w102 ⟨v2, rfl, ho, hbn⟩
        obtain ⟨Ad, cd, rfl, _⟩ := own_slice ho
        have HOD := Lib.hid ho
        have HB102 := Lib.hid (bch HB101.out hbn (Below.size HB101.out))
        have HOC := Lib.hid (own_keep HOC.out hbn)
        clear ho hbn
        refine hK.out _ _ (HH.out _ HB102.out) (fun hHeld => ?_)
        clear hK K
        try simp only [Act.put, List.getElem_toArray, List.getElem_cons_zero, List.getElem_cons_succ, List.setIfInBounds_toArray, List.set_cons_zero, List.set_cons_succ]
        refine wpAnyH_take (i := 10) (v := ?vc10_9) rfl (by kernel_rfl) (by kernel_rfl) (by kernel_rfl) (fun _ _ _ h => h) (Or.inl ⟨by rfl, ?hyc10_9⟩) (by assumption) ?restc10_9
        case hyc10_9 => (intro w0 hSw; (try dsimp only at hSw); go_simp; try with_reducible rfl)
        case' restc10_9 => try simp only [Act.put, List.getElem_toArray, List.getElem_cons_zero, List.getElem_cons_succ, List.setIfInBounds_toArray, List.set_cons_zero, List.set_cons_succ]
        refine wpAnyH_ready (rs := [11]) (by kernel_rfl) (by simp) ?_
        refine AllReadyH.cons rfl (fun K hK => ?_) AllReadyH.nil
        go_simp
        obtain ⟨w103, hn3⟩ : ∃ W, W = (w102.alloc (.cells #[.slice none 0 0, .slice none 0 0, .int .i64 0, .int .i64 0, .slice none 0 0, .int .i64 0, .int .i64 0, .slice none 0 0, .int .i64 0, .int .i64 0, .slice none 0 0] tPartsC)) := ⟨_, rfl⟩
        have hbn : Below w102.heap.size w102 w103 := by rw [hn3]; exact below_alloc _ _
        have HPX := Lib.hid (show w103.heap[w102.heap.size]? = some (.cells #[.slice none 0 0, .slice none 0 0, .int .i64 0, .int .i64 0, .slice none 0 0, .int .i64 0, .int .i64 0, .slice none 0 0, .int .i64 0, .int .i64 0, .slice none 0 0] tPartsC (0, 0)) by rw [hn3]; exact heap_new _ _)
        have HB103 := Lib.hid (bch HB102.out hbn (Below.size HB102.out))
        have HOC := Lib.hid (own_keep HOC.out hbn)
        have HOD := Lib.hid (own_keep HOD.out hbn)
        rw [← hn3]
        obtain ⟨bp, hbpd⟩ : ∃ bp, bp = w102.heap.size := ⟨_, rfl⟩
        have hbp : wa.heap.size ≤ bp := by have := Below.size HB102.out; omega
        clear hbn hn3
        rw [← hbpd] at HPX
        rw [← hbpd]
        clear hbpd
        refine hK.out _ _ (HH.out _ HB103.out) (fun hHeld => ?_)
        clear hK K
        try simp only [Act.put, List.getElem_toArray, List.getElem_cons_zero, List.getElem_cons_succ, List.setIfInBounds_toArray, List.set_cons_zero, List.set_cons_succ]
        obtain ⟨m0, m1, m2, m3, m4, m5, m6, m7, m8, m9, m10⟩ := cell11 HPX.out
        obtain ⟨f0, f1, f2, f3, f4, f5, f6, f7, f8, f9, f10⟩ := froz11 HPX.out
        refine wpAnyH_ready (rs := [12]) (by kernel_rfl) (by simp) ?_
        refine AllReadyH.cons rfl (fun K hK => ?_) AllReadyH.nil
        go_simp
        have HBZ := Lib.hid (Below.turned HB103.out (turned_set11 w103 bp (.slice Ac c.l.length cc) (.slice Ad c.b.length cd) (.int .i64 0) (.int .i64 0) (.slice none 0 0) (.int .i64 0) (.int .i64 0) (.slice none 0 0) (.int .i64 0) (.int .i64 0) (.slice none 0 0)) (fun i h => by omega) (Below.size HB103.out))
        refine hK.out _ _ (HH.out _ HBZ.out) (fun hHeld => ?_)
        clear hK K
        try simp only [Act.put, List.getElem_toArray, List.getElem_cons_zero, List.getElem_cons_succ, List.setIfInBounds_toArray, List.set_cons_zero, List.set_cons_succ]
        refine wpAnyH_done (by kernel_rfl) ?_ _
        refine NoPanic.normal ?_
        go_wp2_with fail
        go_meet
        have htz := turned_set11 w103 bp (.slice Ac c.l.length cc) (.slice Ad c.b.length cd) (.int .i64 0) (.int .i64 0) (.slice none 0 0) (.int .i64 0) (.int .i64 0) (.slice none 0 0) (.int .i64 0) (.int .i64 0) (.slice none 0 0)
        exact ⟨bp, Ac, cc, Ad, cd, rfl, set11 HPX.out _ _ _ _ _ _ _ _ _ _ _, own_turned HOC.out htz (fun j hj e => own_off HOC.out HPX.out (by decide) j hj e), own_turned HOD.out htz (fun j hj e => own_off HOD.out HPX.out (by decide) j hj e), hbp, HBZ.out⟩
      · go_simp
        obtain ⟨w104, hn4⟩ : ∃ W, W = (w101.alloc (.cells #[.slice none 0 0, .slice none 0 0, .int .i64 0, .int .i64 0, .slice none 0 0, .int .i64 0, .int .i64 0, .slice none 0 0, .int .i64 0, .int .i64 0, .slice none 0 0] tPartsC)) := ⟨_, rfl⟩
        have hbn : Below w101.heap.size w101 w104 := by rw [hn4]; exact below_alloc _ _
        have HPX := Lib.hid (show w104.heap[w101.heap.size]? = some (.cells #[.slice none 0 0, .slice none 0 0, .int .i64 0, .int .i64 0, .slice none 0 0, .int .i64 0, .int .i64 0, .slice none 0 0, .int .i64 0, .int .i64 0, .slice none 0 0] tPartsC (0, 0)) by rw [hn4]; exact heap_new _ _)
        have HB104 := Lib.hid (bch HB101.out hbn (Below.size HB101.out))
        have HOC := Lib.hid (own_keep HOC.out hbn)
        rw [← hn4]
        obtain ⟨bp, hbpd⟩ : ∃ bp, bp = w101.heap.size := ⟨_, rfl⟩
        have hbp : wa.heap.size ≤ bp := by have := Below.size HB101.out; omega
        clear hbn hn4
        rw [← hbpd] at HPX
        rw [← hbpd]
        clear hbpd
        refine hK.out _ _ (HH.out _ HB104.out) (fun hHeld => ?_)
        clear hK K
        try simp only [Act.put, List.getElem_toArray, List.getElem_cons_zero, List.getElem_cons_succ, List.setIfInBounds_toArray, List.set_cons_zero, List.set_cons_succ]
        refine wpAnyH_ready (rs := [9]) (by kernel_rfl) (by simp) ?_
        refine AllReadyH.cons rfl (fun K hK => ?_) AllReadyH.nil
        go_simp
        refine (HLI.out _ HB104.out).mono ?_
        rintro e w105 ⟨v5, rfl, ho, hbn⟩
        obtain ⟨Ad, cd, rfl, _⟩ := own_slice ho
        have HOD := Lib.hid ho
        have HB105 := Lib.hid (bch HB104.out hbn (Below.size HB104.out))
        have HOC := Lib.hid (own_keep HOC.out hbn)
        have HPX := Lib.hid (heap_keep HPX.out hbn)
        clear ho hbn
        refine hK.out _ _ (HH.out _ HB105.out) (fun hHeld => ?_)
        clear hK K
        try simp only [Act.put, List.getElem_toArray, List.getElem_cons_zero, List.getElem_cons_succ, List.setIfInBounds_toArray, List.set_cons_zero, List.set_cons_succ]
        refine wpAnyH_take (i := 10) (v := ?vc10_10) rfl (by kernel_rfl) (by kernel_rfl) (by kernel_rfl) (fun _ _ _ h => h) (Or.inl ⟨by rfl, ?hyc10_10⟩) (by assumption) ?restc10_10
        case hyc10_10 => (intro w0 hSw; (try dsimp only at hSw); go_simp; try with_reducible rfl)
        case' restc10_10 => try simp only [Act.put, List.getElem_toArray, List.getElem_cons_zero, List.getElem_cons_succ, List.setIfInBounds_toArray, List.set_cons_zero, List.set_cons_succ]
        obtain ⟨m0, m1, m2, m3, m4, m5, m6, m7, m8, m9, m10⟩ := cell11 HPX.out
        obtain ⟨f0, f1, f2, f3, f4, f5, f6, f7, f8, f9, f10⟩ := froz11 HPX.out
        refine wpAnyH_ready (rs := [12]) (by kernel_rfl) (by simp) ?_
        refine AllReadyH.cons rfl (fun K hK => ?_) AllReadyH.nil
        go_simp
        have HBZ := Lib.hid (Below.turned HB105.out (turned_set11 w105 bp (.slice Ac c.l.length cc) (.slice Ad c.b.length cd) (.int .i64 0) (.int .i64 0) (.slice none 0 0) (.int .i64 0) (.int .i64 0) (.slice none 0 0) (.int .i64 0) (.int .i64 0) (.slice none 0 0)) (fun i h => by omega) (Below.size HB105.out))
        refine hK.out _ _ (HH.out _ HBZ.out) (fun hHeld => ?_)
        clear hK K
        try simp only [Act.put, List.getElem_toArray, List.getElem_cons_zero, List.getElem_cons_succ, List.setIfInBounds_toArray, List.set_cons_zero, List.set_cons_succ]
        refine wpAnyH_done (by kernel_rfl) ?_ _
        refine NoPanic.normal ?_
        go_wp2_with fail
        go_meet
        have htz := turned_set11 w105 bp (.slice Ac c.l.length cc) (.slice Ad c.b.length cd) (.int .i64 0) (.int .i64 0) (.slice none 0 0) (.int .i64 0) (.int .i64 0) (.slice none 0 0) (.int .i64 0) (.int .i64 0) (.slice none 0 0)
        exact ⟨bp, Ac, cc, Ad, cd, rfl, set11 HPX.out _ _ _ _ _ _ _ _ _ _ _, own_turned HOC.out htz (fun j hj e => own_off HOC.out HPX.out (by decide) j hj e), own_turned HOD.out htz (fun j hj e => own_off HOD.out HPX.out (by decide) j hj e), hbp, HBZ.out⟩
    · go_simp
      obtain ⟨w106, hn6⟩ : ∃ W, W = (wa.alloc (.cells #[.slice none 0 0, .slice none 0 0, .int .i64 0, .int .i64 0, .slice none 0 0, .int .i64 0, .int .i64 0, .slice none 0 0, .int .i64 0, .int .i64 0, .slice none 0 0] tPartsC)).drew := ⟨_, rfl⟩
      have hbn : Below wa.heap.size wa w106 := by rw [hn6]; exact below_drew1 (below_alloc wa _)
      have HPX := Lib.hid (show w106.heap[wa.heap.size]? = some (.cells #[.slice none 0 0, .slice none 0 0, .int .i64 0, .int .i64 0, .slice none 0 0, .int .i64 0, .int .i64 0, .slice none 0 0, .int .i64 0, .int .i64 0, .slice none 0 0] tPartsC (0, 0)) by rw [hn6]; exact heap_new _ _)
      have HB106 := Lib.hid (hbn)
      rw [← hn6]
      obtain ⟨bp, hbpd⟩ : ∃ bp, bp = wa.heap.size := ⟨_, rfl⟩
      have hbp : wa.heap.size ≤ bp := by have := Nat.le_refl wa.heap.size; omega
      clear hbn hn6
      rw [← hbpd] at HPX
      rw [← hbpd]
      clear hbpd
      refine hK.out _ _ (HH.out _ HB106.out) (fun hHeld => ?_)
      clear hK K
      try simp only [Act.put, List.getElem_toArray, List.getElem_cons_zero, List.getElem_cons_succ, List.setIfInBounds_toArray, List.set_cons_zero, List.set_cons_succ]
      refine wpAnyH_ready (rs := [4]) (by kernel_rfl) (by simp) ?_
      refine AllReadyH.cons rfl (fun K hK => ?_) AllReadyH.nil
      refine step_append_any _ rfl (.const (.slice none 0 0)) (.tmp 11) tSagasC rfl wa.heap.size tSaga i0 (.agg #[.int .i64 0, .string ⟨#[]⟩, .string ⟨#[]⟩, .int .i64 0, .int .i64 0, .int .i64 0, .int .i64 0, .int .i64 0, .int .i64 0, .int .i64 0, .int .i64 0, .bool false]) 12 112 Tryd.underlying38 hi hz0 hz1 hz2 rfl (by decide) (.slice none 0 0) 0 [] rfl (World.ownsRow_nil _ _ _ _) c.l.length (c.l.flatMap encS) (HSRC.out _ HB106.out) (by unfold maxLen; omega) (by omega) (Below.size HB106.out) ?_
      intro v7 w107 ho hg hat
      rw [Nat.zero_add, List.nil_append] at ho
      obtain ⟨Ac, cc, rfl, _⟩ := own_slice ho
      have hbn := below_of_grown hg
      have HOC := Lib.hid ho
      have HB107 := Lib.hid (bch HB106.out hbn (Below.size HB106.out))
      have HPX := Lib.hid (heap_keep HPX.out hbn)
      clear ho hg hat hbn
      refine hK.out _ _ (HH.out _ HB107.out) (fun hHeld => ?_)
      clear hK K
      try simp only [Act.put, List.getElem_toArray, List.getElem_cons_zero, List.getElem_cons_succ, List.setIfInBounds_toArray, List.set_cons_zero, List.set_cons_succ]
      refine wpAnyH_ready (rs := [9]) (by kernel_rfl) (by simp) ?_
      refine AllReadyH.cons rfl (fun K hK => ?_) AllReadyH.nil
      go_simp
      refine (HLI.out _ HB107.out).mono ?_
      rintro e w108 ⟨v8, rfl, ho, hbn⟩
      obtain ⟨Ad, cd, rfl, _⟩ := own_slice ho
      have HOD := Lib.hid ho
      have HB108 := Lib.hid (bch HB107.out hbn (Below.size HB107.out))
      have HOC := Lib.hid (own_keep HOC.out hbn)
      have HPX := Lib.hid (heap_keep HPX.out hbn)
      clear ho hbn
      refine hK.out _ _ (HH.out _ HB108.out) (fun hHeld => ?_)
      clear hK K
      try simp only [Act.put, List.getElem_toArray, List.getElem_cons_zero, List.getElem_cons_succ, List.setIfInBounds_toArray, List.set_cons_zero, List.set_cons_succ]
      refine wpAnyH_take (i := 10) (v := ?vc10_11) rfl (by kernel_rfl) (by kernel_rfl) (by kernel_rfl) (fun _ _ _ h => h) (Or.inl ⟨by rfl, ?hyc10_11⟩) (by assumption) ?restc10_11
      case hyc10_11 => (intro w0 hSw; (try dsimp only at hSw); go_simp; try with_reducible rfl)
      case' restc10_11 => try simp only [Act.put, List.getElem_toArray, List.getElem_cons_zero, List.getElem_cons_succ, List.setIfInBounds_toArray, List.set_cons_zero, List.set_cons_succ]
      obtain ⟨m0, m1, m2, m3, m4, m5, m6, m7, m8, m9, m10⟩ := cell11 HPX.out
      obtain ⟨f0, f1, f2, f3, f4, f5, f6, f7, f8, f9, f10⟩ := froz11 HPX.out
      refine wpAnyH_ready (rs := [12]) (by kernel_rfl) (by simp) ?_
      refine AllReadyH.cons rfl (fun K hK => ?_) AllReadyH.nil
      go_simp
      have HBZ := Lib.hid (Below.turned HB108.out (turned_set11 w108 bp (.slice Ac c.l.length cc) (.slice Ad c.b.length cd) (.int .i64 0) (.int .i64 0) (.slice none 0 0) (.int .i64 0) (.int .i64 0) (.slice none 0 0) (.int .i64 0) (.int .i64 0) (.slice none 0 0)) (fun i h => by omega) (Below.size HB108.out))
      refine hK.out _ _ (HH.out _ HBZ.out) (fun hHeld => ?_)
      clear hK K
      try simp only [Act.put, List.getElem_toArray, List.getElem_cons_zero, List.getElem_cons_succ, List.setIfInBounds_toArray, List.set_cons_zero, List.set_cons_succ]
      refine wpAnyH_done (by kernel_rfl) ?_ _
      refine NoPanic.normal ?_
      go_wp2_with fail
      go_meet
      have htz := turned_set11 w108 bp (.slice Ac c.l.length cc) (.slice Ad c.b.length cd) (.int .i64 0) (.int .i64 0) (.slice none 0 0) (.int .i64 0) (.int .i64 0) (.slice none 0 0) (.int .i64 0) (.int .i64 0) (.slice none 0 0)
      exact ⟨bp, Ac, cc, Ad, cd, rfl, set11 HPX.out _ _ _ _ _ _ _ _ _ _ _, own_turned HOC.out htz (fun j hj e => own_off HOC.out HPX.out (by decide) j hj e), own_turned HOD.out htz (fun j hj e => own_off HOD.out HPX.out (by decide) j hj e), hbp, HBZ.out⟩
  case rest =>
    obtain ⟨bp, Ac, cc, Ad, cd, rfl, hp, ho1, ho2, hbp, hbl⟩ := hcut
    obtain ⟨bz, hbz⟩ : ∃ bz, wc.heap.size = bz + 1 := ⟨wc.heap.size - 1, by have := heap_lt hp; omega⟩
    have hbpz : bp ≤ bz := by have := heap_lt hp; omega
    have HOZ := Lib.hid (show (∀ j, Value.ownBlock (.slice Ac c.l.length cc) = some j → j ≤ bz) ∧ ∀ j, Value.ownBlock (.slice Ad c.b.length cd) = some j → j ≤ bz from ⟨fun j hj => by have := (ho1.lt j hj).2; omega, fun j hj => by have := (ho2.lt j hj).2; omega⟩)
    have HP := Lib.hid hp; have HO1 := Lib.hid ho1; have HO2 := Lib.hid ho2; have HBL := Lib.hid hbl
    clear hp ho1 ho2 hbl HSRC HLI y0 y1 HA
    go_wp2_with fail
    go_loopw [19] (fun i wr => ∃ (k : Nat) (p0 s0 : Int) (A0 : Option Addr) (n0 c0 : Nat) (p1 s1 : Int) (A1 : Option Addr) (n1 c1 : Nat) (p2 s2 : Int) (A2 : Option Addr) (n2 c2 : Nat), i = .int .i64 k ∧ k ≤ 3 ∧ Hid (wr.heap[bp]? = some (.cells #[.slice Ac c.l.length cc, .slice Ad c.b.length cd, .int .i64 p0, .int .i64 s0, .slice A0 n0 c0, .int .i64 p1, .int .i64 s1, .slice A1 n1 c1, .int .i64 p2, .int .i64 s2, .slice A2 n2 c2] tPartsC (0, 0))) ∧ Hid (0 < k → StO wr bz c.inn.a p0 s0 A0 n0 c0) ∧ Hid (1 < k → StO wr bz c.inn.b p1 s1 A1 n1 c1) ∧ Hid (2 < k → StO wr bz c.inn.c p2 s2 A2 n2 c2) ∧ Hid (wr.ownsRow wa.heap.size tSaga 12 (.slice Ac c.l.length cc) c.l.length (c.l.flatMap encS)) ∧ Hid (wr.ownsRow wa.heap.size tPost 5 (.slice Ad c.b.length cd) c.b.length (c.b.flatMap encP)) ∧ Hid (Below wa.heap.size wa wr) ∧ bz < wr.heap.size) (fun i _ => 3 - (intOf i).toNat)
    case atStart => exact ⟨0, 0, 0, none, 0, 0, 0, 0, none, 0, 0, 0, 0, none, 0, 0, rfl, by omega, HP.out, fun h => absurd h (by omega), fun h => absurd h (by omega), fun h => absurd h (by omega), HO1.out, HO2.out, HBL.out, by omega⟩
    case round =>
      obtain ⟨k, p0, s0, A0, n0, c0, p1, s1, A1, n1, c1, p2, s2, A2, n2, c2, rfl, hk, HPr, S0, S1, S2, HO1, HO2, HBL, hbw⟩ := hrel
      have HCr := Lib.hid (HC.out.below HBL.out)
      have HCC := Lib.hid (show wr.heap[cb]? = some (.cells #[.slice A c.l.length cl, .pointer (some ⟨bb, 0, none⟩), .int .i64 c.inn.a.1, .int .i64 c.inn.a.2.1, .slice I0 In0 Ic0, .int .i64 c.inn.b.1, .int .i64 c.inn.b.2.1, .slice I1 In1 Ic1, .int .i64 c.inn.c.1, .int .i64 c.inn.c.2.1, .slice I2 In2 Ic2, .map m] tCore (0, 0)) by simpa [inn10] using HCr.out.hc)
      obtain ⟨y0, y1, y2, y3, y4, y5, y6, y7, y8, y9, y10, y11⟩ := cell12 HCC.out
      obtain ⟨m0, m1, m2, m3, m4, m5, m6, m7, m8, m9, m10⟩ := cell11 HPr.out
      rcases (show k = 0 ∨ k = 1 ∨ k = 2 ∨ k = 3 by omega) with rfl | rfl | rfl | rfl
      · go_wp2_with (go_at_call 16; refine (newest_any wr (.agg #[.int .i64 c.inn.a.1, .int .i64 c.inn.a.2.1, .slice I0 In0 Ic0, .int .i64 c.inn.b.1, .int .i64 c.inn.b.2.1, .slice I1 In1 Ic1, .int .i64 c.inn.c.1, .int .i64 c.inn.c.2.1, .slice I2 In2 Ic2, .map m]) c.inn 0 (by decide) (by decide) HCr.out.ii HCr.out.fi).mono ?_; rintro e w5 ⟨A5, c5, rfl, hrd, hfar, hb5⟩; have HRD := Lib.hid hrd; have HFAR := Lib.hid hfar; have HB5 := Lib.hid hb5; have HP5 := Lib.hid (heap_keep HPr.out hb5); clear hrd hfar hb5 m0 m1 m2 m3 m4 m5 m6 m7 m8 m9 m10; obtain ⟨m0, m1, m2, m3, m4, m5, m6, m7, m8, m9, m10⟩ := cell11 HP5.out; obtain ⟨f0, f1, f2, f3, f4, f5, f6, f7, f8, f9, f10⟩ := froz11 HP5.out)
        obtain ⟨w6, hw6⟩ : ∃ w6, w6 = ((w5.setCell ⟨bp, 2, none⟩ (.int .i64 (c.inn.at 0).1)).setCell ⟨bp, 3, none⟩ (.int .i64 (c.inn.at 0).2.1)).setCell ⟨bp, 4, none⟩ (.slice A5 (c.inn.at 0).2.2.length c5) := ⟨_, rfl⟩
        have ht6 : Turned (fun j => j = bp) w5 w6 := by rw [hw6]; exact ((turned_set w5 bp _ _).trans (turned_set _ bp _ _)).trans (turned_set _ bp _ _)
        have hlt : bp < wr.heap.size := heap_lt HPr.out
        have HP6 : w6.heap[bp]? = some (.cells #[.slice Ac c.l.length cc, .slice Ad c.b.length cd, .int .i64 c.inn.a.1, .int .i64 c.inn.a.2.1, .slice A5 c.inn.a.2.2.length c5, .int .i64 p1, .int .i64 s1, .slice A1 n1 c1, .int .i64 p2, .int .i64 s2, .slice A2 n2 c2] tPartsC (0, 0)) := by rw [hw6]; simp [World.setCell, Array.getElem?_modify, HP5.out, In.Inn.at]
        have HB6 : Below wa.heap.size wa w6 := Below.turned (bch HBL.out HB5.out HBL.out.size) ht6 (fun i h => by omega) (Nat.le_trans HBL.out.size HB5.out.size)
        have HO16 := own_turned (own_keep HO1.out HB5.out) ht6 (fun j hj e => own_off (own_keep HO1.out HB5.out) HP5.out (by decide) j hj e)
        have HO26 := own_turned (own_keep HO2.out HB5.out) ht6 (fun j hj e => own_off (own_keep HO2.out HB5.out) HP5.out (by decide) j hj e)
        have HN : StO w6 bz c.inn.a c.inn.a.1 c.inn.a.2.1 A5 c.inn.a.2.2.length c5 := ⟨rfl, rfl, rfl, HRD.out.turned ht6 (fun ad n c' e hl => by have := HFAR.out ad n c' e hl; omega), fun ad n c' e hl => by have := HFAR.out ad n c' e hl; omega⟩
        go_roundw
        case rel =>
          rw [show _ = w6 from hw6.symm]
          exact ⟨1, _, _, _, _, _, _, _, _, _, _, _, _, _, _, _, by go_num, by omega, HP6, fun _ => HN, fun h => absurd h (by omega), fun h => absurd h (by omega), HO16, HO26, HB6, by have := ht6.size; have := HB5.out.size; omega⟩
        case measure => simp [intOf]
      · go_wp2_with (go_at_call 16; refine (newest_any wr (.agg #[.int .i64 c.inn.a.1, .int .i64 c.inn.a.2.1, .slice I0 In0 Ic0, .int .i64 c.inn.b.1, .int .i64 c.inn.b.2.1, .slice I1 In1 Ic1, .int .i64 c.inn.c.1, .int .i64 c.inn.c.2.1, .slice I2 In2 Ic2, .map m]) c.inn 1 (by decide) (by decide) HCr.out.ii HCr.out.fi).mono ?_; rintro e w5 ⟨A5, c5, rfl, hrd, hfar, hb5⟩; have HRD := Lib.hid hrd; have HFAR := Lib.hid hfar; have HB5 := Lib.hid hb5; have HP5 := Lib.hid (heap_keep HPr.out hb5); clear hrd hfar hb5 m0 m1 m2 m3 m4 m5 m6 m7 m8 m9 m10; obtain ⟨m0, m1, m2, m3, m4, m5, m6, m7, m8, m9, m10⟩ := cell11 HP5.out; obtain ⟨f0, f1, f2, f3, f4, f5, f6, f7, f8, f9, f10⟩ := froz11 HP5.out)
        obtain ⟨w6, hw6⟩ : ∃ w6, w6 = ((w5.setCell ⟨bp, 5, none⟩ (.int .i64 (c.inn.at 1).1)).setCell ⟨bp, 6, none⟩ (.int .i64 (c.inn.at 1).2.1)).setCell ⟨bp, 7, none⟩ (.slice A5 (c.inn.at 1).2.2.length c5) := ⟨_, rfl⟩
        have ht6 : Turned (fun j => j = bp) w5 w6 := by rw [hw6]; exact ((turned_set w5 bp _ _).trans (turned_set _ bp _ _)).trans (turned_set _ bp _ _)
        have hlt : bp < wr.heap.size := heap_lt HPr.out
        have HP6 : w6.heap[bp]? = some (.cells #[.slice Ac c.l.length cc, .slice Ad c.b.length cd, .int .i64 p0, .int .i64 s0, .slice A0 n0 c0, .int .i64 c.inn.b.1, .int .i64 c.inn.b.2.1, .slice A5 c.inn.b.2.2.length c5, .int .i64 p2, .int .i64 s2, .slice A2 n2 c2] tPartsC (0, 0)) := by rw [hw6]; simp [World.setCell, Array.getElem?_modify, HP5.out, In.Inn.at]
        have HB6 : Below wa.heap.size wa w6 := Below.turned (bch HBL.out HB5.out HBL.out.size) ht6 (fun i h => by omega) (Nat.le_trans HBL.out.size HB5.out.size)
        have HO16 := own_turned (own_keep HO1.out HB5.out) ht6 (fun j hj e => own_off (own_keep HO1.out HB5.out) HP5.out (by decide) j hj e)
        have HO26 := own_turned (own_keep HO2.out HB5.out) ht6 (fun j hj e => own_off (own_keep HO2.out HB5.out) HP5.out (by decide) j hj e)
        have HN : StO w6 bz c.inn.b c.inn.b.1 c.inn.b.2.1 A5 c.inn.b.2.2.length c5 := ⟨rfl, rfl, rfl, HRD.out.turned ht6 (fun ad n c' e hl => by have := HFAR.out ad n c' e hl; omega), fun ad n c' e hl => by have := HFAR.out ad n c' e hl; omega⟩
        go_roundw
        case rel =>
          rw [show _ = w6 from hw6.symm]
          exact ⟨2, _, _, _, _, _, _, _, _, _, _, _, _, _, _, _, by go_num, by omega, HP6, fun _ => (S0.out (by omega)).step hbpz HB5.out ht6, fun _ => HN, fun h => absurd h (by omega), HO16, HO26, HB6, by have := ht6.size; have := HB5.out.size; omega⟩
        case measure => simp [intOf]
      · go_wp2_with (go_at_call 16; refine (newest_any wr (.agg #[.int .i64 c.inn.a.1, .int .i64 c.inn.a.2.1, .slice I0 In0 Ic0, .int .i64 c.inn.b.1, .int .i64 c.inn.b.2.1, .slice I1 In1 Ic1, .int .i64 c.inn.c.1, .int .i64 c.inn.c.2.1, .slice I2 In2 Ic2, .map m]) c.inn 2 (by decide) (by decide) HCr.out.ii HCr.out.fi).mono ?_; rintro e w5 ⟨A5, c5, rfl, hrd, hfar, hb5⟩; have HRD := Lib.hid hrd; have HFAR := Lib.hid hfar; have HB5 := Lib.hid hb5; have HP5 := Lib.hid (heap_keep HPr.out hb5); clear hrd hfar hb5 m0 m1 m2 m3 m4 m5 m6 m7 m8 m9 m10; obtain ⟨m0, m1, m2, m3, m4, m5, m6, m7, m8, m9, m10⟩ := cell11 HP5.out; obtain ⟨f0, f1, f2, f3, f4, f5, f6, f7, f8, f9, f10⟩ := froz11 HP5.out)
        obtain ⟨w6, hw6⟩ : ∃ w6, w6 = ((w5.setCell ⟨bp, 8, none⟩ (.int .i64 (c.inn.at 2).1)).setCell ⟨bp, 9, none⟩ (.int .i64 (c.inn.at 2).2.1)).setCell ⟨bp, 10, none⟩ (.slice A5 (c.inn.at 2).2.2.length c5) := ⟨_, rfl⟩
        have ht6 : Turned (fun j => j = bp) w5 w6 := by rw [hw6]; exact ((turned_set w5 bp _ _).trans (turned_set _ bp _ _)).trans (turned_set _ bp _ _)
        have hlt : bp < wr.heap.size := heap_lt HPr.out
        have HP6 : w6.heap[bp]? = some (.cells #[.slice Ac c.l.length cc, .slice Ad c.b.length cd, .int .i64 p0, .int .i64 s0, .slice A0 n0 c0, .int .i64 p1, .int .i64 s1, .slice A1 n1 c1, .int .i64 c.inn.c.1, .int .i64 c.inn.c.2.1, .slice A5 c.inn.c.2.2.length c5] tPartsC (0, 0)) := by rw [hw6]; simp [World.setCell, Array.getElem?_modify, HP5.out, In.Inn.at]
        have HB6 : Below wa.heap.size wa w6 := Below.turned (bch HBL.out HB5.out HBL.out.size) ht6 (fun i h => by omega) (Nat.le_trans HBL.out.size HB5.out.size)
        have HO16 := own_turned (own_keep HO1.out HB5.out) ht6 (fun j hj e => own_off (own_keep HO1.out HB5.out) HP5.out (by decide) j hj e)
        have HO26 := own_turned (own_keep HO2.out HB5.out) ht6 (fun j hj e => own_off (own_keep HO2.out HB5.out) HP5.out (by decide) j hj e)
        have HN : StO w6 bz c.inn.c c.inn.c.1 c.inn.c.2.1 A5 c.inn.c.2.2.length c5 := ⟨rfl, rfl, rfl, HRD.out.turned ht6 (fun ad n c' e hl => by have := HFAR.out ad n c' e hl; omega), fun ad n c' e hl => by have := HFAR.out ad n c' e hl; omega⟩
        go_roundw
        case rel =>
          rw [show _ = w6 from hw6.symm]
          exact ⟨3, _, _, _, _, _, _, _, _, _, _, _, _, _, _, _, by go_num, by omega, HP6, fun _ => (S0.out (by omega)).step hbpz HB5.out ht6, fun _ => (S1.out (by omega)).step hbpz HB5.out ht6, fun _ => HN, HO16, HO26, HB6, by have := ht6.size; have := HB5.out.size; omega⟩
        case measure => simp [intOf]
      · obtain ⟨rfl, rfl, rfl, hr0, hf0⟩ := S0.out (by omega)
        obtain ⟨rfl, rfl, rfl, hr1, hf1⟩ := S1.out (by omega)
        obtain ⟨rfl, rfl, rfl, hr2, hf2⟩ := S2.out (by omega)
        have HXr := Lib.hid (heap_keep HX.out (HBL.out))
        obtain ⟨x0, x1, x2, x3, x4, x5, x6, x7, x8, x9, x10⟩ := cell11 HXr.out
        have hws := HWS.out
        have hf0x := fun (ad : Addr) (n c' : Nat) (e : Value.slice A0 c.inn.a.2.2.length c0 = .slice (some ad) n c') (hl : 0 < c.inn.a.2.2.length) => (by have := hf0 ad n c' e hl; omega : ad.block ≠ w.heap.size)
        have hf1x := fun (ad : Addr) (n c' : Nat) (e : Value.slice A1 c.inn.b.2.2.length c1 = .slice (some ad) n c') (hl : 0 < c.inn.b.2.2.length) => (by have := hf1 ad n c' e hl; omega : ad.block ≠ w.heap.size)
        have hf2x := fun (ad : Addr) (n c' : Nat) (e : Value.slice A2 c.inn.c.2.2.length c2 = .slice (some ad) n c') (hl : 0 < c.inn.c.2.2.length) => (by have := hf2 ad n c' e hl; omega : ad.block ≠ w.heap.size)
        clear hws
        obtain ⟨g0, g1, g2, g3, g4, g5, g6, g7, g8, g9, g10⟩ := froz11 HXr.out
        have HR0 := Lib.hid hr0; have HR1 := Lib.hid hr1; have HR2 := Lib.hid hr2
        clear hr0 hr1 hr2 S0 S1 S2
        go_wp2_with fail
        refine bodyPost_ret (v := .agg #[.slice Ac c.l.length cc, .slice Ad c.b.length cd, .int .i64 c.inn.a.1, .int .i64 c.inn.a.2.1, .slice A0 c.inn.a.2.2.length c0, .int .i64 c.inn.b.1, .int .i64 c.inn.b.2.1, .slice A1 c.inn.b.2.2.length c1, .int .i64 c.inn.c.1, .int .i64 c.inn.c.2.1, .slice A2 c.inn.c.2.2.length c2]) (by simp [results, Tryd.results7, go_sem, x0, x1, x2, x3, x4, x5, x6, x7, x8, x9, x10]) rfl ?_
        have htz := turned_set11 wr w.heap.size (.slice Ac c.l.length cc) (.slice Ad c.b.length cd) (.int .i64 c.inn.a.1) (.int .i64 c.inn.a.2.1) (.slice A0 c.inn.a.2.2.length c0) (.int .i64 c.inn.b.1) (.int .i64 c.inn.b.2.1) (.slice A1 c.inn.b.2.2.length c1) (.int .i64 c.inn.c.1) (.int .i64 c.inn.c.2.1) (.slice A2 c.inn.c.2.2.length c2)
        have hws := HWS.out
        exact ⟨Ac, cc, Ad, cd, A0, c0, A1, c1, A2, c2, rfl, own_base (own_turned HO1.out htz (fun j hj e => by have := (HO1.out.lt j hj).1; omega)) (by omega), own_base (own_turned HO2.out htz (fun j hj e => by have := (HO2.out.lt j hj).1; omega)) (by omega), HR0.out.turned htz hf0x, HR1.out.turned htz hf1x, HR2.out.turned htz hf2x, Below.turned (bch HB.out HBL.out HB.out.size) htz (fun i h => by omega) (Nat.le_trans HB.out.size HBL.out.size), bz, by omega, HOZ.out.1, HOZ.out.2, fun ad e hl => hf0 ad _ _ (by rw [e]) hl, fun ad e hl => hf1 ad _ _ (by rw [e]) hl, fun ad e hl => hf2 ad _ _ (by rw [e]) hl⟩
end Go.Proofs.YtnfbhocppijbjaaDoor
/- Postings that are read, whoever they belong to. -/
namespace Go.Proofs.YtnfbhocppijbjaaDoor
open Go.RowKit Go.Maps Key Rw Sa Co

/-- The slice v reads as these postings. -/
def Pos (w : World) (v : Value) (l : List Po) : Prop := SlK w w.heap.size 5 (fun cs x => cs = encP x) v l ∧ NilOk v
theorem Pos.keep {w w' : World} {v : Value} {l : List Po} (h : Pos w v l) (hb : Below w.heap.size w w') : Pos w' v l := ⟨SlK.mono h.1 hb hb.size (fun _ _ _ h => h), h.2⟩
theorem Pos.shape {w : World} {v : Value} {l : List Po} (h : Pos w v l) : ∃ A c, v = .slice A l.length c ∧ l.length ≤ c ∧ c ≤ maxLen := SlK.shape h.1
theorem pos_own {w : World} {B : Nat} {e : TypeId} {v : Value} {l : List Po} (h : w.ownsRow B e 5 v l.length (l.flatMap encP)) : Pos w v l := by
  rcases h.2 with ⟨rfl, h0⟩ | ⟨g, cap, cur, rfl, hB, hg, hc, hm, _⟩
  · rw [List.length_eq_zero_iff.1 h0]; exact ⟨SlK.nil _ _ _ _, fun n c e => by injection e with _ _ e; exact e.symm⟩
  · refine ⟨⟨_, _, _, rfl, rfl, hc, hm, fun i x hi => ⟨g, 0, encP x, rfl, heap_lt hg, rfl, fun j u hj => ?_, rfl⟩⟩, fun n c e => by injection e with e; cases e⟩
    have hj5 : j < 5 := by have := (List.getElem?_eq_some_iff.1 hj).1; simpa [encP_len] using this
    have := own_cellK encP_len (by omega) h hi j hj5
    rw [hj] at this
    rw [Nat.zero_add]
    exact this
theorem Pos.cells {w W : World} {v : Value} {l : List Po} (h : Pos w v l) (hb : Below w.heap.size w W) {k : Nat} {x : Po} (hx : l[k]? = some x) : ∃ g off n c, v = .slice (some ⟨g, off, none⟩) n c ∧
    W.cell? ⟨g, off + k * 5, none⟩ = some (.string ⟨x.id.toArray⟩) ∧ W.cell? ⟨g, off + k * 5 + 1, none⟩ = some (.int .i64 x.ord) ∧ W.cell? ⟨g, off + k * 5 + 2, none⟩ = some (.int .i64 x.deb) ∧ W.cell? ⟨g, off + k * 5 + 3, none⟩ = some (.int .i64 x.cre) ∧ W.cell? ⟨g, off + k * 5 + 4, none⟩ = some (.int .i64 x.amt) := by
  obtain ⟨A, c, rfl, _⟩ := h.shape
  obtain ⟨g, off, cs, rfl, hgl, hcl, hcell, hcs⟩ := h.1.at hx
  subst hcs
  have hk := fun j u hj => (hb.cell (p := ⟨g, off + k * 5 + j, none⟩) hgl).trans (hcell j u hj)
  exact ⟨g, off, _, _, rfl, hk 0 _ rfl, hk 1 _ rfl, hk 2 _ rfl, hk 3 _ rfl, hk 4 _ rfl⟩
end Go.Proofs.YtnfbhocppijbjaaDoor
/- Arrays of ints: are they the same? Of no program. -/
namespace Go.Proofs.YtnfbhocppijbjaaDoor
open Go

theorem all_range_int : ∀ (xs ys : List Int), xs.length = ys.length → ((List.range xs.length).all fun i => xs.getD i 0 == ys.getD i 0) = (xs == ys)
  | [], [], _ => rfl
  | x :: xs, y :: ys, h => by
    have ih := all_range_int xs ys (by simpa using h)
    rw [List.length_cons, List.range_succ_eq_map, List.all_cons, List.all_map]
    simp only [List.getD_cons_zero, Function.comp_def, List.getD_cons_succ, ih]
    simp [List.cons_beq_cons]
  | [], _ :: _, h => by simp at h
  | _ :: _, [], h => by simp at h

section
variable {P : Program} (w : World)
theorem run_equalIn_ints (d : Nat) (t e : TypeId) (n : Nat) (k k' : IntKind) (ht : P.underlying t = some (.array n e)) (he : P.underlying e = some (.int k')) (hsz : ∀ w, (sizeOf e).run P w = .ok 1 w)
    (xs ys : List Int) (hx : xs.length = n) (hy : ys.length = n) :
    (Op.equalIn (d + 2) t (.agg (xs.map (Value.int k)).toArray) (.agg (ys.map (Value.int k)).toArray)).run P w = .ok (xs == ys) w := by
  rw [← all_range_int xs ys (hx.trans hy.symm), hx, List.range_eq_range', Op.equalIn]
  simp only [Sem.run_bind, run_underlying ht, Result.andThen_ok, hsz, Std.Legacy.Range.forIn_eq_forIn_range', Std.Legacy.Range.size, Nat.sub_zero, Nat.add_sub_cancel, Nat.div_one]
  have hl : ∀ i ∈ List.range' 0 n 1, i < n := fun i hi => by simpa using (List.mem_range'_1.1 hi).2
  generalize List.range' 0 n 1 = l at hl ⊢
  induction l with
  | nil => simp
  | cons i l ih =>
    have hi : i < n := hl i (by simp)
    have px : (part e (xs.map (Value.int k)).toArray (i * 1)).run P w = .ok (.int k (xs.getD i 0)) w := by
      simp [part, isAgg, run_underlying he, List.getD, List.getElem?_eq_getElem (show i < xs.length by omega)]
    have py : (part e (ys.map (Value.int k)).toArray (i * 1)).run P w = .ok (.int k (ys.getD i 0)) w := by
      simp [part, isAgg, run_underlying he, List.getD, List.getElem?_eq_getElem (show i < ys.length by omega)]
    have pe : (Op.equalIn (d + 1) e (.int k (xs.getD i 0)) (.int k (ys.getD i 0))).run P w = .ok (xs.getD i 0 == ys.getD i 0) w := run_equalIn_int w d e k k' _ _ he
    simp only [List.forIn_cons, Sem.run_bind, px, py, pe, Result.andThen_ok, List.all_cons]
    cases hb : (xs.getD i 0 == ys.getD i 0)
    · simp
    · simp only [Bool.not_true, Bool.false_eq_true, if_false, Sem.run_pure, Result.andThen_ok, Bool.true_and]
      exact ih fun j hj => hl j (by simp [hj])
theorem run_neq_ints (t e : TypeId) (n : Nat) (k k' : IntKind) (ht : P.underlying t = some (.array n e)) (he : P.underlying e = some (.int k')) (hsz : ∀ w, (sizeOf e).run P w = .ok 1 w)
    (xs ys : List Int) (hx : xs.length = n) (hy : ys.length = n) :
    (binOp .neq t (.agg (xs.map (Value.int k)).toArray) (.agg (ys.map (Value.int k)).toArray)).run P w = .ok (.bool (!(xs == ys))) w := by
  rw [run_neq_struct, run_equalIn_ints w 9998 t e n k k' ht he hsz xs ys hx hy]
  rfl
theorem run_eql_ints (t e : TypeId) (n : Nat) (k k' : IntKind) (ht : P.underlying t = some (.array n e)) (he : P.underlying e = some (.int k')) (hsz : ∀ w, (sizeOf e).run P w = .ok 1 w)
    (xs ys : List Int) (hx : xs.length = n) (hy : ys.length = n) :
    (binOp .eql t (.agg (xs.map (Value.int k)).toArray) (.agg (ys.map (Value.int k)).toArray)).run P w = .ok (.bool (xs == ys)) w := by
  rw [run_eql_struct, run_equalIn_ints w 9998 t e n k k' ht he hsz xs ys hx hy]
  rfl
end
end Go.Proofs.YtnfbhocppijbjaaDoor
/- Have two cores come to the same? -/
namespace Go.Proofs.YtnfbhocppijbjaaDoor
open Go.RowKit Go.Maps Key Rw Sa Co

theorem two_boxes' (w : World) (o p : Obj) {W : World} (h : (w.alloc o).alloc p = W) : Below w.heap.size w W ∧ W.heap[w.heap.size]? = some o ∧ W.heap[w.heap.size + 1]? = some p := by
  subst h
  refine ⟨(below_alloc w _).alloc (by simp) _, heap_keep (heap_new w _) (below_alloc _ _), ?_⟩
  have := heap_new (w.alloc o) p
  rwa [show (w.alloc o).heap.size = w.heap.size + 1 by simp] at this
set_option linter.unusedSimpArgs false in
set_option linter.unusedVariables false in
set_option maxRecDepth 100000 in
set_option maxHeartbeats 16000000 in
theorem eqRow_any (w : World) (o d t n p o' d' t' n' p' : Int) : Calls Tryd.prog 43 #[.agg #[.int .i64 o, .int .i64 d, .int .i64 t, .int .i64 n, .int .i64 p], .agg #[.int .i64 o', .int .i64 d', .int .i64 t', .int .i64 n', .int .i64 p']] w fun e w' => ∃ b, e = .returned (.bool b) ∧ (b = true ↔ ((o, d), t, n, p) = ((o', d'), t', n', p')) ∧ Below w.heap.size w w' := by
  obtain ⟨wb, hwb⟩ : ∃ wb, (w.alloc (.cells #[.int .i64 o, .int .i64 d, .int .i64 t, .int .i64 n, .int .i64 p] tRow)).alloc (.cells #[.int .i64 o', .int .i64 d', .int .i64 t', .int .i64 n', .int .i64 p'] tRow) = wb := ⟨_, rfl⟩
  have h2 := two_boxes' w _ _ hwb
  have HB := Lib.hid h2.1
  obtain ⟨m0, m1, m2, m3, m4⟩ := cell5 h2.2.1
  obtain ⟨q0, q1, q2, q3, q4⟩ := cell5 h2.2.2
  have hWB := Lib.hid hwb
  clear hwb h2
  go_enter Tryd.func43, Tryd.ntmps43
  go_upto_region 1 with (fail)
  rw [hWB.out]
  go_wp2_with fail
  all_goals go_ret
  all_goals exact ⟨_, rfl, by simp_all, HB.out⟩
set_option linter.unusedSimpArgs false in
set_option linter.unusedVariables false in
set_option maxRecDepth 100000 in
set_option maxHeartbeats 16000000 in
theorem eqFunc_any (w : World) (u v : Value) (l m : List R5) (hu : Rd w u l) (hv : Rd w v m) (hl : l.length < 100000) (hm : m.length < 100000) :
    Calls Tryd.prog 44 #[u, v, .func (.func 43) #[] #[]] w fun e w' => ∃ b, e = .returned (.bool b) ∧ (b = true ↔ l = m) ∧ Below w.heap.size w w' := by
  obtain ⟨A, c, rfl, _⟩ := hu.shape
  obtain ⟨A', c', rfl, _⟩ := hv.shape
  have HU := Lib.hid hu; have HV := Lib.hid hv
  clear hu hv
  by_cases hlen : l.length = m.length
  · have hq := bneF (show (l.length : Int) = m.length by omega)
    have HLEN := Lib.hid hlen
    clear hlen
    go_enter Tryd.func44, Tryd.ntmps44
    go_wp2_with fail
    go_loopw [17] (fun i wr => ∃ k : Nat, i = .int .i64 k ∧ k ≤ l.length ∧ Hid (l.take k = m.take k) ∧ Hid (Below w.heap.size w wr)) (fun i _ => l.length - (intOf i).toNat)
    case atStart => exact ⟨0, rfl, by omega, rfl, Below.refl _ _⟩
    case round =>
      obtain ⟨k, rfl, hk, HE, HBr⟩ := hrel
      by_cases hkl : k < l.length
      · obtain ⟨x, hx⟩ : ∃ x, l[k]? = some x := ⟨_, List.getElem?_eq_getElem hkl⟩
        obtain ⟨y, hy⟩ : ∃ y, m[k]? = some y := ⟨_, List.getElem?_eq_getElem (by have := HLEN.out; omega)⟩
        have HXY := Lib.hid (show l.take (k + 1) = l.take k ++ [x] ∧ m.take (k + 1) = m.take k ++ [y] by rw [List.take_add_one, List.take_add_one, hx, hy]; exact ⟨rfl, rfl⟩)
        have HNE := Lib.hid (show x ≠ y → l ≠ m from fun h e => by rw [e, hy] at hx; exact h (Option.some.inj hx).symm)
        obtain ⟨g, off, n', c1, e, c01, c02, c03, c04, c05⟩ := HU.out.cells HBr.out hx
        injection e with e1 e2 e3; subst e1; clear e2 e3
        obtain ⟨g', off', n', c1, e, d01, d02, d03, d04, d05⟩ := HV.out.cells HBr.out hy
        injection e with e1 e2 e3; subst e1; clear e2 e3
        obtain ⟨⟨o, d⟩, t, n, p⟩ := x
        have hlt : (k : Int) < l.length := by omega
        have hltm : (k : Int) < m.length := by have := HLEN.out; omega
        have hk0 : (0 : Int) ≤ k := by omega
        go_upto_region 6 with (fail)
        obtain ⟨w2, hw2⟩ : ∃ w2, w2 = wr.alloc (.cells #[.int .i64 o, .int .i64 d, .int .i64 t, .int .i64 n, .int .i64 p] tRow) := ⟨_, rfl⟩
        rw [← hw2]
        have hb2 : Below wr.heap.size wr w2 := by rw [hw2]; exact below_alloc _ _
        have HX2 := Lib.hid (show w2.heap[wr.heap.size]? = some (.cells #[.int .i64 o, .int .i64 d, .int .i64 t, .int .i64 n, .int .i64 p] tRow (0, 0)) by rw [hw2]; exact heap_new _ _)
        have HB2 := Lib.hid (bch HBr.out hb2 HBr.out.size)
        have hlen2 : w.heap.size ≤ wr.heap.size := HBr.out.size
        clear hw2 hb2 c01 c02 c03 c04 c05 d01 d02 d03 d04 d05
        obtain ⟨g2, off2, n', c1, e, d01, d02, d03, d04, d05⟩ := HV.out.cells HB2.out hy
        injection e with e1 e2 e3
        injection e1 with e1
        injection e1 with e1 e4
        subst e1; subst e4
        clear e2 e3 hx hy
        obtain ⟨⟨o', d'⟩, t', n', p'⟩ := y
        generalize wr.heap.size = br at HX2 hlen2 ⊢
        obtain ⟨q0, q1, q2, q3, q4⟩ := cell5 HX2.out
        go_upto_region 7 with (fail)
        obtain ⟨w3, hw3⟩ : ∃ w3, w3 = w2.alloc (.cells #[.int .i64 o', .int .i64 d', .int .i64 t', .int .i64 n', .int .i64 p'] tRow) := ⟨_, rfl⟩
        rw [← hw3]
        have hb3 : Below w2.heap.size w2 w3 := by rw [hw3]; exact below_alloc _ _
        have HY3 := Lib.hid (show w3.heap[w2.heap.size]? = some (.cells #[.int .i64 o', .int .i64 d', .int .i64 t', .int .i64 n', .int .i64 p'] tRow (0, 0)) by rw [hw3]; exact heap_new _ _)
        have HX3 := Lib.hid (heap_keep HX2.out hb3); have HB3 := Lib.hid (bch HB2.out hb3 HB2.out.size)
        clear hw3 hb3 d01 d02 d03 d04 d05 q0 q1 q2 q3 q4
        generalize w2.heap.size = b2 at HY3 ⊢
        obtain ⟨q0, q1, q2, q3, q4⟩ := cell5 HX3.out
        obtain ⟨r0, r1, r2, r3, r4⟩ := cell5 HY3.out
        go_wp2_with fail
        refine (eqRow_any w3 o d t n p o' d' t' n' p').mono ?_
        rintro e w4 ⟨b, rfl, hbi, hb4⟩
        have HB4 := Lib.hid (bch HB3.out hb4 HB3.out.size); have HBI := Lib.hid hbi
        clear hb4 hbi q0 q1 q2 q3 q4 r0 r1 r2 r3 r4
        cases b with
        | true =>
          have HXE := Lib.hid (show l.take (k + 1) = m.take (k + 1) by rw [HXY.out.1, HXY.out.2, HE.out, HBI.out.1 rfl])
          clear HBI HXY
          go_wp2_with fail
          go_roundw
          case rel => exact ⟨k + 1, by go_num, by omega, HXE.out, HB4.out⟩
          case measure => simp [intOf]; omega
        | false =>
          have HLM := Lib.hid (HNE.out (fun h2 => by have := HBI.out.2 h2; cases this))
          clear HBI HXY HNE
          go_wp2_with fail
          go_ret
          exact ⟨false, rfl, ⟨fun h => (by cases h), fun h => absurd h HLM.out⟩, HB4.out⟩
      · obtain rfl : k = l.length := by omega
        have HEQ := Lib.hid (show l = m by have := HE.out; rw [List.take_length, HLEN.out, List.take_length] at this; exact this)
        go_wp2_with fail
        go_ret
        exact ⟨true, rfl, ⟨fun _ => HEQ.out, fun _ => rfl⟩, HBr.out⟩
  · have hq := bneT (show ¬ (l.length : Int) = m.length by omega)
    have HNE := Lib.hid (show l ≠ m from fun h => hlen (by rw [h]))
    go_enter Tryd.func44, Tryd.ntmps44
    go_wp2_with fail
    go_ret
    exact ⟨false, rfl, ⟨fun h => (by cases h), fun h => absurd h HNE.out⟩, Below.refl _ _⟩
set_option linter.unusedSimpArgs false in
set_option linter.unusedVariables false in
set_option maxRecDepth 100000 in
set_option maxHeartbeats 16000000 in
theorem rowsSame_any (w : World) (u v : Value) (l m : List R5) (p s p' s' : Int) (hu : Rd w u l) (hv : Rd w v m) (hl : l.length < 100000) (hm : m.length < 100000) :
    Calls Tryd.prog 25 #[.agg #[.int .i64 p, .int .i64 s, u], .agg #[.int .i64 p', .int .i64 s', v]] w fun e w' => ∃ b, e = .returned (.bool b) ∧ (b = true ↔ (p, s, l) = (p', s', m)) ∧ Below w.heap.size w w' := by
  obtain ⟨A, c, rfl, _⟩ := hu.shape
  obtain ⟨A', c', rfl, _⟩ := hv.shape
  obtain ⟨wb, hwb⟩ : ∃ wb, (w.alloc (.cells #[.int .i64 p, .int .i64 s, .slice A l.length c] tStat)).alloc (.cells #[.int .i64 p', .int .i64 s', .slice A' m.length c'] tStat) = wb := ⟨_, rfl⟩
  have h2 := two_boxes' w _ _ hwb
  have HB := Lib.hid h2.1
  obtain ⟨m0, m1, m2⟩ := cell3c h2.2.1
  obtain ⟨q0, q1, q2⟩ := cell3c h2.2.2
  have HE := Lib.hid (eqFunc_any wb _ _ l m (hu.keep h2.1) (hv.keep h2.1) hl hm)
  have hWB := Lib.hid hwb
  clear hu hv hwb h2
  by_cases h1 : p = p'
  · have g1 := beqT h1
    by_cases h2 : s = s'
    · have g2 := beqT h2
      have HH := Lib.hid h1; have HH2 := Lib.hid h2
      clear h1 h2
      go_enter Tryd.func25, Tryd.ntmps25
      go_upto_region 1 with (fail)
      rw [hWB.out]
      go_wp2_with fail
      refine HE.out.mono ?_
      rintro e w2 ⟨b, rfl, hbi, hb⟩
      have HBI := Lib.hid hbi; have HB2 := Lib.hid (bch HB.out hb HB.out.size)
      clear hbi hb
      go_wp2_with fail
      all_goals go_ret
      all_goals exact ⟨_, rfl, ⟨fun h => (by simp only [HH.out, HH2.out, HBI.out.1 (by simpa using h)]), fun h => (by have h3 := HBI.out.2 (Prod.mk.inj (Prod.mk.inj h).2).2; simpa using h3)⟩, HB2.out⟩
    · have g2 := beqF h2
      have HH := Lib.hid h2
      clear h1 h2
      go_enter Tryd.func25, Tryd.ntmps25
      go_upto_region 1 with (fail)
      rw [hWB.out]
      go_wp2_with fail
      go_ret
      exact ⟨false, rfl, ⟨fun h => (by cases h), fun h => absurd (Prod.mk.inj (Prod.mk.inj h).2).1 HH.out⟩, HB.out⟩
  · have g1 := beqF h1
    have HH := Lib.hid h1
    clear h1
    go_enter Tryd.func25, Tryd.ntmps25
    go_upto_region 1 with (fail)
    rw [hWB.out]
    go_wp2_with fail
    go_ret
    exact ⟨false, rfl, ⟨fun h => (by cases h), fun h => absurd (Prod.mk.inj h).1 HH.out⟩, HB.out⟩
theorem saga_eq6 (d : Nat) (s t : Sg) (W : World) : (Op.equalIn (d + 2) 49 (.agg #[.int .i64 s.d0, .int .i64 s.d1, .int .i64 s.d2, .int .i64 s.d3, .int .i64 s.d4, .int .i64 s.d5]) (.agg #[.int .i64 t.d0, .int .i64 t.d1, .int .i64 t.d2, .int .i64 t.d3, .int .i64 t.d4, .int .i64 t.d5])).run Tryd.prog W = .ok ([s.d0, s.d1, s.d2, s.d3, s.d4, s.d5] == [t.d0, t.d1, t.d2, t.d3, t.d4, t.d5]) W :=
  run_equalIn_ints W d 49 3 6 .i64 .i64 Tryd.underlying49 Tryd.underlying3 (fun w => by kernel_rfl) [s.d0, s.d1, s.d2, s.d3, s.d4, s.d5] [t.d0, t.d1, t.d2, t.d3, t.d4, t.d5] rfl rfl
theorem saga_neq (s t : Sg) (W : World) : ∃ b, (binOp .neq tSaga (sgV s) (sgV t)).run Tryd.prog W = .ok (.bool b) W ∧ (b = false ↔ s = t) := by
  have h6 := fun d => saga_eq6 d s t W
  rw [run_neq_struct]
  have e1 : (Op.equalIn 10000 tSaga (sgV s) (sgV t)).run Tryd.prog W = (Op.eqFields 9999 (sgA s) (sgA t) (Tryd.prog.fieldsOf tSaga).toList).run Tryd.prog W := run_equalIn_agg W 9999 tSaga _ _ (by kernel_rfl) (by kernel_rfl)
  rw [e1]
  go_simp
  by_cases h : s = t
  · subst h
    exact .inl ⟨by simp, rfl⟩
  · refine .inr ⟨fun h1 h2 h3 h4 h5 h6 h7 h8 h9 h10 h11 h12 => h ?_, h⟩
    cases s; cases t
    simp_all
theorem saga_neqT {s t : Sg} (h : s ≠ t) (W : World) : (binOp .neq tSaga (sgV s) (sgV t)).run Tryd.prog W = .ok (.bool true) W := by
  obtain ⟨b, hb, hi⟩ := saga_neq s t W
  cases b with
  | false => exact absurd (hi.1 rfl) h
  | true => exact hb
theorem saga_neqF (s : Sg) (W : World) : (binOp .neq tSaga (sgV s) (sgV s)).run Tryd.prog W = .ok (.bool false) W := by
  obtain ⟨b, hb, hi⟩ := saga_neq s s W
  rw [hi.2 rfl] at hb
  exact hb
theorem post_neq (s t : Po) (W : World) : ∃ b, (binOp .neq tPost (mkPost s) (mkPost t)).run Tryd.prog W = .ok (.bool b) W ∧ (b = false ↔ s = t) := by
  rw [run_neq_struct]
  have e1 : (Op.equalIn 10000 tPost (mkPost s) (mkPost t)).run Tryd.prog W = (Op.eqFields 9999 #[.string ⟨s.id.toArray⟩, .int .i64 s.ord, .int .i64 s.deb, .int .i64 s.cre, .int .i64 s.amt] #[.string ⟨t.id.toArray⟩, .int .i64 t.ord, .int .i64 t.deb, .int .i64 t.cre, .int .i64 t.amt] (Tryd.prog.fieldsOf tPost).toList).run Tryd.prog W := run_equalIn_agg W 9999 tPost _ _ (by kernel_rfl) (by kernel_rfl)
  rw [e1]
  go_simp
  by_cases h : s = t
  · subst h
    exact .inl ⟨by simp, rfl⟩
  · refine .inr ⟨fun h1 h2 h3 h4 h5 => h ?_, h⟩
    cases s; cases t
    simp_all
theorem post_neqT {s t : Po} (h : s ≠ t) (W : World) : (binOp .neq tPost (mkPost s) (mkPost t)).run Tryd.prog W = .ok (.bool true) W := by
  obtain ⟨b, hb, hi⟩ := post_neq s t W
  cases b with
  | false => exact absurd (hi.1 rfl) h
  | true => exact hb
theorem post_neqF (s : Po) (W : World) : (binOp .neq tPost (mkPost s) (mkPost s)).run Tryd.prog W = .ok (.bool false) W := by
  obtain ⟨b, hb, hi⟩ := post_neq s s W
  rw [hi.2 rfl] at hb
  exact hb
theorem inn_ext {I J : In.Inn} (h0 : I.a = J.a) (h1 : I.b = J.b) (h2 : I.c = J.c) : I = J := by cases I; cases J; simp_all
theorem cor_ext {c d : Cor} (h0 : c.l = d.l) (h1 : c.b = d.b) (h2 : c.inn = d.inn) : c = d := by cases c; cases d; simp_all
set_option linter.unusedSimpArgs false in
set_option linter.unusedVariables false in
set_option maxRecDepth 100000 in
set_option maxHeartbeats 16000000 in
theorem csame_any {B B' : Nat} {w : World} {cb bb pm bm cb2 bb2 pm2 bm2 : Nat} {vl vb vI vl2 vb2 vI2 : Value} {c d : Cor} (h1 : Cw B w cb bb pm bm vl vb vI c) (h2 : Cw B' w cb2 bb2 pm2 bm2 vl2 vb2 vI2 d) (hl1 : c.l.length ≤ 100000) (hb1 : c.b.length ≤ 100000) (hl2 : d.l.length ≤ 100000) (hb2 : d.b.length ≤ 100000)
    (hi1 : c.inn.a.2.2.length < 100000 ∧ c.inn.b.2.2.length < 100000 ∧ c.inn.c.2.2.length < 100000) (hi2 : d.inn.a.2.2.length < 100000 ∧ d.inn.b.2.2.length < 100000 ∧ d.inn.c.2.2.length < 100000) :
    Calls Tryd.prog 9 #[.pointer (some ⟨cb, 0, none⟩), .pointer (some ⟨cb2, 0, none⟩)] w fun e w' => ∃ b, e = .returned (.bool b) ∧ (b = true ↔ c = d) ∧ Below w.heap.size w w' := by
  have H1 := Lib.hid h1; have H2 := Lib.hid h2
  clear h1 h2
  go_enter Tryd.func9, Tryd.ntmps9
  go_wp2_with (go_at_call 14; first | (with_reducible refine (cnone_any H1.out).mono ?_; rintro e w1 ⟨rfl, hb⟩; subst hb) | (with_reducible refine (cnone_any H2.out).mono ?_; rintro e w1 ⟨rfl, hb⟩; subst hb))
  refine (cparts_any H1.out hl1 hb1).mono ?_
  rintro r w1 ⟨As, cs, Ap, cp, A0, c0, A1, c1, A2, c2, rfl, ho1, ho2, hr0, hr1, hr2, hb, _⟩
  have HO1 := Lib.hid ho1; have HO2 := Lib.hid ho2; have HR0 := Lib.hid hr0; have HR1 := Lib.hid hr1; have HR2 := Lib.hid hr2; have HB1 := Lib.hid hb; have H21 := Lib.hid (H2.out.below hb)
  clear ho1 ho2 hr0 hr1 hr2 hb H1 H2
  go_wp2_with fail
  refine (cparts_any H21.out hl2 hb2).mono ?_
  rintro r w2 ⟨Es, es, Ep, ep, E0, e0, E1, e1, E2, e2, rfl, ho1, ho2, hr0, hr1, hr2, hb, _⟩
  obtain ⟨wp, hwp⟩ : ∃ wp, (w2.alloc (.cells #[.slice As c.l.length cs, .slice Ap c.b.length cp, .int .i64 c.inn.a.1, .int .i64 c.inn.a.2.1, .slice A0 c.inn.a.2.2.length c0, .int .i64 c.inn.b.1, .int .i64 c.inn.b.2.1, .slice A1 c.inn.b.2.2.length c1, .int .i64 c.inn.c.1, .int .i64 c.inn.c.2.1, .slice A2 c.inn.c.2.2.length c2] tPartsC)).alloc (.cells #[.slice Es d.l.length es, .slice Ep d.b.length ep, .int .i64 d.inn.a.1, .int .i64 d.inn.a.2.1, .slice E0 d.inn.a.2.2.length e0, .int .i64 d.inn.b.1, .int .i64 d.inn.b.2.1, .slice E1 d.inn.b.2.2.length e1, .int .i64 d.inn.c.1, .int .i64 d.inn.c.2.1, .slice E2 d.inn.c.2.2.length e2] tPartsC) = wp := ⟨_, rfl⟩
  obtain ⟨hb4, hpa, hpb⟩ := two_boxes' w2 _ _ hwp
  have hb5 := bch hb hb4 hb.size
  have HPA := Lib.hid hpa; have HPB := Lib.hid hpb
  have HS1 := Lib.hid ((sgs_own HO1.out).keep hb5); have HP1 := Lib.hid (own_keep HO2.out hb5); have HQ0 := Lib.hid (HR0.out.keep hb5); have HQ1 := Lib.hid (HR1.out.keep hb5); have HQ2 := Lib.hid (HR2.out.keep hb5)
  have HS2 := Lib.hid ((sgs_own ho1).keep hb4); have HP2 := Lib.hid (own_keep ho2 hb4); have HU0 := Lib.hid (hr0.keep hb4); have HU1 := Lib.hid (hr1.keep hb4); have HU2 := Lib.hid (hr2.keep hb4)
  have HBP := Lib.hid (bch HB1.out hb5 HB1.out.size); have HWP := Lib.hid hwp
  clear ho1 ho2 hr0 hr1 hr2 hb hb4 hb5 hpa hpb hwp HO1 HO2 HR0 HR1 HR2 HB1 H21
  go_upto_region 4 with (fail)
  rw [HWP.out]
  generalize w2.heap.size = ba at HPA HPB ⊢
  clear HWP
  obtain ⟨m0, m1, m2, m3, m4, m5, m6, m7, m8, m9, m10⟩ := cell11 HPA.out
  obtain ⟨n0, n1, n2, n3, n4, n5, n6, n7, n8, n9, n10⟩ := cell11 HPB.out
  by_cases hll : c.l.length = d.l.length
  · have q1 := bneF (show (c.l.length : Int) = d.l.length by omega)
    have HLL := Lib.hid hll
    clear hll
    by_cases hlb : c.b.length = d.b.length
    · have q2 := bneF (show (c.b.length : Int) = d.b.length by omega)
      have HLB := Lib.hid hlb
      clear hlb
      go_wp2_with fail
      go_loopw [44] (fun i wr => ∃ k : Nat, i = .int .i64 k ∧ k ≤ c.l.length ∧ Hid (c.l.take k = d.l.take k) ∧ Hid (Below wp.heap.size wp wr)) (fun i _ => c.l.length - (intOf i).toNat)
      case atStart => exact ⟨0, rfl, by omega, rfl, Below.refl _ _⟩
      case round =>
        clear m0 m1 m2 m3 m4 m5 m6 m7 m8 m9 m10 n0 n1 n2 n3 n4 n5 n6 n7 n8 n9 n10
        obtain ⟨k, rfl, hk, HE, HBr⟩ := hrel
        have HPAr := Lib.hid (heap_keep HPA.out HBr.out); have HPBr := Lib.hid (heap_keep HPB.out HBr.out)
        obtain ⟨m0, m1, m2, m3, m4, m5, m6, m7, m8, m9, m10⟩ := cell11 HPAr.out
        obtain ⟨n0, n1, n2, n3, n4, n5, n6, n7, n8, n9, n10⟩ := cell11 HPBr.out
        have hk0 : (0 : Int) ≤ k := by omega
        by_cases hkl : k < c.l.length
        · obtain ⟨x, hx⟩ : ∃ x, c.l[k]? = some x := ⟨_, List.getElem?_eq_getElem hkl⟩
          obtain ⟨y, hy⟩ : ∃ y, d.l[k]? = some y := ⟨_, List.getElem?_eq_getElem (by have := HLL.out; omega)⟩
          have hlt : (k : Int) < c.l.length := by omega
          have hlt2 : (k : Int) < d.l.length := by have := HLL.out; omega
          obtain ⟨g, off, n', c', e, p0, p1, p2, p3, p4, p5, p6, p7, p8, p9, p10, p11⟩ := HS1.out.cells HBr.out hx
          injection e with e1' e2' e3'; subst e1'; clear e2' e3'
          obtain ⟨g2, off2, n', c', e, r0, r1, r2, r3, r4, r5, r6, r7, r8, r9, r10, r11⟩ := HS2.out.cells HBr.out hy
          injection e with e1' e2' e3'; subst e1'; clear e2' e3'
          by_cases hxy : x = y
          · subst hxy
            have hcmp := fun W => saga_neqF x W
            have HE2 := Lib.hid (show c.l.take (k + 1) = d.l.take (k + 1) by rw [List.take_add_one, List.take_add_one, hx, hy, HE.out])
            clear hx hy
            go_wp2_with fail
            go_quiet (fail)
            go_wp2_with fail
            go_roundw
            case rel => exact ⟨k + 1, by go_num, by omega, HE2.out, below_drewN HBr.out _⟩
            case measure => simp [intOf]; omega
          · have hcmp := fun W => saga_neqT hxy W
            have HNE := Lib.hid (show c ≠ d from fun h => hxy (by rw [h, hy] at hx; exact (Option.some.inj hx).symm))
            clear hx hy hxy
            go_wp2_with fail
            go_quiet (fail)
            go_wp2_with fail
            go_ret
            exact ⟨false, rfl, ⟨fun h => (by cases h), fun h => absurd h HNE.out⟩, below_drewN (bch HBP.out HBr.out HBP.out.size) _⟩
        · obtain rfl : k = c.l.length := by omega
          have HCL := Lib.hid (show c.l = d.l by have := HE.out; rw [List.take_length, HLL.out, List.take_length] at this; exact this)
          go_wp2_with fail
          go_loopw [62] (fun i wr => ∃ k : Nat, i = .int .i64 k ∧ k ≤ c.b.length ∧ Hid (c.l = d.l ∧ c.b.take k = d.b.take k) ∧ Hid (Below wp.heap.size wp wr)) (fun i _ => c.b.length - (intOf i).toNat)
          case atStart => exact ⟨0, rfl, by omega, ⟨HCL.out, rfl⟩, HBr.out⟩
          case round =>
            clear m0 m1 m2 m3 m4 m5 m6 m7 m8 m9 m10 n0 n1 n2 n3 n4 n5 n6 n7 n8 n9 n10
            obtain ⟨k, rfl, hk, HE, HBr⟩ := hrel
            have HPAr := Lib.hid (heap_keep HPA.out HBr.out); have HPBr := Lib.hid (heap_keep HPB.out HBr.out)
            obtain ⟨m0, m1, m2, m3, m4, m5, m6, m7, m8, m9, m10⟩ := cell11 HPAr.out
            obtain ⟨n0, n1, n2, n3, n4, n5, n6, n7, n8, n9, n10⟩ := cell11 HPBr.out
            have hk0 : (0 : Int) ≤ k := by omega
            by_cases hkl : k < c.b.length
            · obtain ⟨x, hx⟩ : ∃ x, c.b[k]? = some x := ⟨_, List.getElem?_eq_getElem hkl⟩
              obtain ⟨y, hy⟩ : ∃ y, d.b[k]? = some y := ⟨_, List.getElem?_eq_getElem (by have := HLB.out; omega)⟩
              have hlt : (k : Int) < c.b.length := by omega
              have hlt2 : (k : Int) < d.b.length := by have := HLB.out; omega
              have ho1 := own_keep HP1.out HBr.out
              have ho2 := own_keep HP2.out HBr.out
              obtain ⟨_, h0⟩ | ⟨g1, d1, q1, _, _, hc1⟩ := own_ptr ho1
              · omega
              obtain ⟨_, h0⟩ | ⟨g2, d2, q2, _, _, hc2⟩ := own_ptr ho2
              · have := HLB.out; omega
              injection q1 with q1 q3 q4; subst q1; clear q3 q4
              injection q2 with q2 q3 q4; subst q2; clear q3 q4
              have a0 := own_cellK encP_len (by decide) ho1 hx 0 (by decide)
              have a1 := own_cellK encP_len (by decide) ho1 hx 1 (by decide)
              have a2 := own_cellK encP_len (by decide) ho1 hx 2 (by decide)
              have a3 := own_cellK encP_len (by decide) ho1 hx 3 (by decide)
              have a4 := own_cellK encP_len (by decide) ho1 hx 4 (by decide)
              have b0 := own_cellK encP_len (by decide) ho2 hy 0 (by decide)
              have b1 := own_cellK encP_len (by decide) ho2 hy 1 (by decide)
              have b2 := own_cellK encP_len (by decide) ho2 hy 2 (by decide)
              have b3 := own_cellK encP_len (by decide) ho2 hy 3 (by decide)
              have b4 := own_cellK encP_len (by decide) ho2 hy 4 (by decide)
              simp only [encP, List.getElem?_cons_zero, List.getElem?_cons_succ, Nat.add_zero] at a0 a1 a2 a3 a4 b0 b1 b2 b3 b4
              clear ho1 ho2 hc1 hc2
              by_cases hxy : x = y
              · subst hxy
                have hcmp := fun W => post_neqF x W
                have HE2 := Lib.hid (show c.l = d.l ∧ c.b.take (k + 1) = d.b.take (k + 1) from ⟨HE.out.1, by rw [List.take_add_one, List.take_add_one, hx, hy, HE.out.2]⟩)
                clear hx hy
                go_wp2_with fail
                go_quiet (fail)
                go_wp2_with fail
                go_roundw
                case rel => exact ⟨k + 1, by go_num, by omega, HE2.out, below_drewN HBr.out _⟩
                case measure => simp [intOf]; omega
              · have hcmp := fun W => post_neqT hxy W
                have HNE := Lib.hid (show c ≠ d from fun h => hxy (by rw [h, hy] at hx; exact (Option.some.inj hx).symm))
                clear hx hy hxy
                go_wp2_with fail
                go_quiet (fail)
                go_wp2_with fail
                go_ret
                exact ⟨false, rfl, ⟨fun h => (by cases h), fun h => absurd h HNE.out⟩, below_drewN (bch HBP.out HBr.out HBP.out.size) _⟩
            · obtain rfl : k = c.b.length := by omega
              have HBB := Lib.hid (show c.b = d.b by have := HE.out.2; rw [List.take_length, HLB.out, List.take_length] at this; exact this)
              go_wp2_with fail
              go_loopw [77] (fun i wr => ∃ k : Nat, i = .int .i64 k ∧ k ≤ 3 ∧ Hid (c.l = d.l ∧ c.b = d.b ∧ (0 < k → c.inn.a = d.inn.a) ∧ (1 < k → c.inn.b = d.inn.b) ∧ (2 < k → c.inn.c = d.inn.c)) ∧ Hid (Below wp.heap.size wp wr)) (fun i _ => 3 - (intOf i).toNat)
              case atStart => exact ⟨0, rfl, by omega, ⟨HE.out.1, HBB.out, fun h => absurd h (by omega), fun h => absurd h (by omega), fun h => absurd h (by omega)⟩, HBr.out⟩
              case round =>
                clear m0 m1 m2 m3 m4 m5 m6 m7 m8 m9 m10 n0 n1 n2 n3 n4 n5 n6 n7 n8 n9 n10
                obtain ⟨k, rfl, hk, HE, HBr⟩ := hrel
                have HPAr := Lib.hid (heap_keep HPA.out HBr.out); have HPBr := Lib.hid (heap_keep HPB.out HBr.out)
                obtain ⟨m0, m1, m2, m3, m4, m5, m6, m7, m8, m9, m10⟩ := cell11 HPAr.out
                obtain ⟨n0, n1, n2, n3, n4, n5, n6, n7, n8, n9, n10⟩ := cell11 HPBr.out
                have hk0 : (0 : Int) ≤ k := by omega
                by_cases hkl : k < 3
                · rcases (show k = 0 ∨ k = 1 ∨ k = 2 by omega) with rfl | rfl | rfl
                  · have HRS := Lib.hid (fun W (hW : Below wp.heap.size wp W) => rowsSame_any W _ _ c.inn.a.2.2 d.inn.a.2.2 c.inn.a.1 c.inn.a.2.1 d.inn.a.1 d.inn.a.2.1 (HQ0.out.keep hW) (HU0.out.keep hW) hi1.1 hi2.1)
                    go_wp2_with fail
                    have HH := Lib.hid (fun W (hb : Below wr.heap.size wr W) => (⟨Lib.hid hb, (hb.cell (World.block_lt_of_cell? wr _ m2)).trans m2, (hb.cell (World.block_lt_of_cell? wr _ m3)).trans m3, (hb.cell (World.block_lt_of_cell? wr _ m4)).trans m4, (hb.cell (World.block_lt_of_cell? wr _ n2)).trans n2, (hb.cell (World.block_lt_of_cell? wr _ n3)).trans n3, (hb.cell (World.block_lt_of_cell? wr _ n4)).trans n4⟩ : (fun w' => Hid (Below wr.heap.size wr w') ∧ w'.cell? ⟨ba, 2, none⟩ = some (.int .i64 c.inn.a.1) ∧ w'.cell? ⟨ba, 3, none⟩ = some (.int .i64 c.inn.a.2.1) ∧ w'.cell? ⟨ba, 4, none⟩ = some (.slice A0 c.inn.a.2.2.length c0) ∧ w'.cell? ⟨ba + 1, 2, none⟩ = some (.int .i64 d.inn.a.1) ∧ w'.cell? ⟨ba + 1, 3, none⟩ = some (.int .i64 d.inn.a.2.1) ∧ w'.cell? ⟨ba + 1, 4, none⟩ = some (.slice E0 d.inn.a.2.2.length e0)) W))
                    refine wp_region_noPanic ?_
                    refine wp_region_held_drew (S := (fun w' => Hid (Below wr.heap.size wr w') ∧ w'.cell? ⟨ba, 2, none⟩ = some (.int .i64 c.inn.a.1) ∧ w'.cell? ⟨ba, 3, none⟩ = some (.int .i64 c.inn.a.2.1) ∧ w'.cell? ⟨ba, 4, none⟩ = some (.slice A0 c.inn.a.2.2.length c0) ∧ w'.cell? ⟨ba + 1, 2, none⟩ = some (.int .i64 d.inn.a.1) ∧ w'.cell? ⟨ba + 1, 3, none⟩ = some (.int .i64 d.inn.a.2.1) ∧ w'.cell? ⟨ba + 1, 4, none⟩ = some (.slice E0 d.inn.a.2.2.length e0))) (by kernel_rfl) (HH.out _ (below_drew1 (Below.refl wr.heap.size wr))) (fun hHeld => ?_)
                    refine wpAnyH_take (i := 0) (v := ?vc0_1) rfl (by kernel_rfl) (by kernel_rfl) (by kernel_rfl) (fun _ _ _ h => h) (Or.inl ⟨by rfl, ?hyc0_1⟩) (by assumption) ?restc0_1
                    case hyc0_1 => (intro w0 hSw; (try dsimp only at hSw); go_simp; try with_reducible rfl)
                    case' restc0_1 => try simp only [Act.put, List.getElem_toArray, List.getElem_cons_zero, List.getElem_cons_succ, List.setIfInBounds_toArray, List.set_cons_zero, List.set_cons_succ]
                    refine wpAnyH_take (i := 1) (v := ?vc1_2) rfl (by kernel_rfl) (by kernel_rfl) (by kernel_rfl) (fun _ _ _ h => h) (Or.inl ⟨by rfl, ?hyc1_2⟩) (by assumption) ?restc1_2
                    case hyc1_2 => (intro w0 hSw; (try dsimp only at hSw); go_simp; try with_reducible rfl)
                    case' restc1_2 => try simp only [Act.put, List.getElem_toArray, List.getElem_cons_zero, List.getElem_cons_succ, List.setIfInBounds_toArray, List.set_cons_zero, List.set_cons_succ]
                    refine wpAnyH_take (i := 2) (v := ?vc2_3) rfl (by kernel_rfl) (by kernel_rfl) (by kernel_rfl) (fun _ _ _ h => h) (Or.inl ⟨by rfl, ?hyc2_3⟩) (by assumption) ?restc2_3
                    case hyc2_3 => (intro w0 hSw; (try dsimp only at hSw); go_simp; try with_reducible rfl)
                    case' restc2_3 => try simp only [Act.put, List.getElem_toArray, List.getElem_cons_zero, List.getElem_cons_succ, List.setIfInBounds_toArray, List.set_cons_zero, List.set_cons_succ]
                    refine wpAnyH_take (i := 3) (v := ?vc3_4) rfl (by kernel_rfl) (by kernel_rfl) (by kernel_rfl) (fun _ _ _ h => h) (Or.inl ⟨by rfl, ?hyc3_4⟩) (by assumption) ?restc3_4
                    case hyc3_4 => (intro w0 hSw; (try dsimp only at hSw); go_simp; try with_reducible rfl)
                    case' restc3_4 => try simp only [Act.put, List.getElem_toArray, List.getElem_cons_zero, List.getElem_cons_succ, List.setIfInBounds_toArray, List.set_cons_zero, List.set_cons_succ]
                    refine wpAnyH_take (i := 4) (v := ?vc4_5) rfl (by kernel_rfl) (by kernel_rfl) (by kernel_rfl) (fun _ _ _ h => h) (Or.inl ⟨by rfl, ?hyc4_5⟩) (by assumption) ?restc4_5
                    case hyc4_5 => (intro w0 hSw; (try dsimp only at hSw); go_simp; try with_reducible rfl)
                    case' restc4_5 => try simp only [Act.put, List.getElem_toArray, List.getElem_cons_zero, List.getElem_cons_succ, List.setIfInBounds_toArray, List.set_cons_zero, List.set_cons_succ]
                    refine wpAnyH_take (i := 5) (v := ?vc5_6) rfl (by kernel_rfl) (by kernel_rfl) (by kernel_rfl) (fun _ _ _ h => h) (Or.inl ⟨by rfl, ?hyc5_6⟩) (by assumption) ?restc5_6
                    case hyc5_6 => (intro w0 hSw; (try dsimp only at hSw); go_simp; try with_reducible rfl)
                    case' restc5_6 => try simp only [Act.put, List.getElem_toArray, List.getElem_cons_zero, List.getElem_cons_succ, List.setIfInBounds_toArray, List.set_cons_zero, List.set_cons_succ]
                    refine wpAnyH_take (i := 6) (v := ?vc6_7) rfl (by kernel_rfl) (by kernel_rfl) (by kernel_rfl) (fun _ _ _ h => h) (Or.inl ⟨by rfl, ?hyc6_7⟩) (by assumption) ?restc6_7
                    case hyc6_7 => (intro w0 hSw; (try dsimp only at hSw); go_simp; try with_reducible rfl)
                    case' restc6_7 => try simp only [Act.put, List.getElem_toArray, List.getElem_cons_zero, List.getElem_cons_succ, List.setIfInBounds_toArray, List.set_cons_zero, List.set_cons_succ]
                    refine wpAnyH_take (i := 7) (v := ?vc7_8) rfl (by kernel_rfl) (by kernel_rfl) (by kernel_rfl) (fun _ _ _ h => h) (Or.inl ⟨by rfl, ?hyc7_8⟩) (by assumption) ?restc7_8
                    case hyc7_8 => (intro w0 hSw; (try dsimp only at hSw); go_simp; try with_reducible rfl)
                    case' restc7_8 => try simp only [Act.put, List.getElem_toArray, List.getElem_cons_zero, List.getElem_cons_succ, List.setIfInBounds_toArray, List.set_cons_zero, List.set_cons_succ]
                    refine wpAnyH_ready (rs := [8]) (by kernel_rfl) (by simp) ?_
                    refine AllReadyH.cons rfl (fun K hK => ?_) AllReadyH.nil
                    go_simp
                    refine (HRS.out _ (bch HBr.out (below_drew1 (Below.refl wr.heap.size wr)) HBr.out.size)).mono ?_
                    rintro e w5 ⟨bb', rfl, hbi, hb⟩
                    have HW5 := Lib.hid (bch (below_drew1 (Below.refl wr.heap.size wr)) hb (Below.size (below_drew1 (Below.refl wr.heap.size wr)))); have HBI := Lib.hid hbi
                    clear hb hbi
                    refine hK.out _ _ (HH.out _ (HW5.out)) (fun hHeld => ?_)
                    clear hK K
                    try simp only [Act.put, List.getElem_toArray, List.getElem_cons_zero, List.getElem_cons_succ, List.setIfInBounds_toArray, List.set_cons_zero, List.set_cons_succ]
                    refine wpAnyH_take (i := 9) (v := ?vc9_9) rfl (by kernel_rfl) (by kernel_rfl) (by kernel_rfl) (fun _ _ _ h => h) (Or.inl ⟨by rfl, ?hyc9_9⟩) (by assumption) ?restc9_9
                    case hyc9_9 => (intro w0 hSw; (try dsimp only at hSw); go_simp; try with_reducible rfl)
                    case' restc9_9 => try simp only [Act.put, List.getElem_toArray, List.getElem_cons_zero, List.getElem_cons_succ, List.setIfInBounds_toArray, List.set_cons_zero, List.set_cons_succ]
                    refine wpAnyH_done (by kernel_rfl) ?_ _
                    refine NoPanic.normal ?_
                    have HB5 := Lib.hid (bch HBr.out HW5.out HBr.out.size)
                    clear hHeld HH HRS
                    cases bb' with
                    | true =>
                      have HQE := Lib.hid (show c.inn.a = d.inn.a from HBI.out.1 rfl)
                      clear HBI
                      go_wp2_with fail
                      go_roundw
                      case rel => exact ⟨1, rfl, by omega, ⟨HE.out.1, HE.out.2.1, fun _ => HQE.out, fun h => absurd h (by omega), fun h => absurd h (by omega)⟩, HB5.out⟩
                      case measure => simp [intOf]
                    | false =>
                      have HNE := Lib.hid (show c ≠ d from fun h => by have := HBI.out.2 (by rw [h]); cases this)
                      clear HBI
                      go_wp2_with fail
                      go_ret
                      exact ⟨false, rfl, ⟨fun h => (by cases h), fun h => absurd h HNE.out⟩, bch HBP.out HB5.out HBP.out.size⟩
                  · have HRS := Lib.hid (fun W (hW : Below wp.heap.size wp W) => rowsSame_any W _ _ c.inn.b.2.2 d.inn.b.2.2 c.inn.b.1 c.inn.b.2.1 d.inn.b.1 d.inn.b.2.1 (HQ1.out.keep hW) (HU1.out.keep hW) hi1.2.1 hi2.2.1)
                    go_wp2_with fail
                    have HH := Lib.hid (fun W (hb : Below wr.heap.size wr W) => (⟨Lib.hid hb, (hb.cell (World.block_lt_of_cell? wr _ m5)).trans m5, (hb.cell (World.block_lt_of_cell? wr _ m6)).trans m6, (hb.cell (World.block_lt_of_cell? wr _ m7)).trans m7, (hb.cell (World.block_lt_of_cell? wr _ n5)).trans n5, (hb.cell (World.block_lt_of_cell? wr _ n6)).trans n6, (hb.cell (World.block_lt_of_cell? wr _ n7)).trans n7⟩ : (fun w' => Hid (Below wr.heap.size wr w') ∧ w'.cell? ⟨ba, 5, none⟩ = some (.int .i64 c.inn.b.1) ∧ w'.cell? ⟨ba, 6, none⟩ = some (.int .i64 c.inn.b.2.1) ∧ w'.cell? ⟨ba, 7, none⟩ = some (.slice A1 c.inn.b.2.2.length c1) ∧ w'.cell? ⟨ba + 1, 5, none⟩ = some (.int .i64 d.inn.b.1) ∧ w'.cell? ⟨ba + 1, 6, none⟩ = some (.int .i64 d.inn.b.2.1) ∧ w'.cell? ⟨ba + 1, 7, none⟩ = some (.slice E1 d.inn.b.2.2.length e1)) W))
                    refine wp_region_noPanic ?_
                    refine wp_region_held_drew (S := (fun w' => Hid (Below wr.heap.size wr w') ∧ w'.cell? ⟨ba, 5, none⟩ = some (.int .i64 c.inn.b.1) ∧ w'.cell? ⟨ba, 6, none⟩ = some (.int .i64 c.inn.b.2.1) ∧ w'.cell? ⟨ba, 7, none⟩ = some (.slice A1 c.inn.b.2.2.length c1) ∧ w'.cell? ⟨ba + 1, 5, none⟩ = some (.int .i64 d.inn.b.1) ∧ w'.cell? ⟨ba + 1, 6, none⟩ = some (.int .i64 d.inn.b.2.1) ∧ w'.cell? ⟨ba + 1, 7, none⟩ = some (.slice E1 d.inn.b.2.2.length e1))) (by kernel_rfl) (HH.out _ (below_drew1 (Below.refl wr.heap.size wr))) (fun hHeld => ?_)
                    refine wpAnyH_take (i := 0) (v := ?vc0_10) rfl (by kernel_rfl) (by kernel_rfl) (by kernel_rfl) (fun _ _ _ h => h) (Or.inl ⟨by rfl, ?hyc0_10⟩) (by assumption) ?restc0_10
                    case hyc0_10 => (intro w0 hSw; (try dsimp only at hSw); go_simp; try with_reducible rfl)
                    case' restc0_10 => try simp only [Act.put, List.getElem_toArray, List.getElem_cons_zero, List.getElem_cons_succ, List.setIfInBounds_toArray, List.set_cons_zero, List.set_cons_succ]
                    refine wpAnyH_take (i := 1) (v := ?vc1_11) rfl (by kernel_rfl) (by kernel_rfl) (by kernel_rfl) (fun _ _ _ h => h) (Or.inl ⟨by rfl, ?hyc1_11⟩) (by assumption) ?restc1_11
                    case hyc1_11 => (intro w0 hSw; (try dsimp only at hSw); go_simp; try with_reducible rfl)
                    case' restc1_11 => try simp only [Act.put, List.getElem_toArray, List.getElem_cons_zero, List.getElem_cons_succ, List.setIfInBounds_toArray, List.set_cons_zero, List.set_cons_succ]
                    refine wpAnyH_take (i := 2) (v := ?vc2_12) rfl (by kernel_rfl) (by kernel_rfl) (by kernel_rfl) (fun _ _ _ h => h) (Or.inl ⟨by rfl, ?hyc2_12⟩) (by assumption) ?restc2_12
                    case hyc2_12 => (intro w0 hSw; (try dsimp only at hSw); go_simp; try with_reducible rfl)
                    case' restc2_12 => try simp only [Act.put, List.getElem_toArray, List.getElem_cons_zero, List.getElem_cons_succ, List.setIfInBounds_toArray, List.set_cons_zero, List.set_cons_succ]
                    refine wpAnyH_take (i := 3) (v := ?vc3_13) rfl (by kernel_rfl) (by kernel_rfl) (by kernel_rfl) (fun _ _ _ h => h) (Or.inl ⟨by rfl, ?hyc3_13⟩) (by assumption) ?restc3_13
                    case hyc3_13 => (intro w0 hSw; (try dsimp only at hSw); go_simp; try with_reducible rfl)
                    case' restc3_13 => try simp only [Act.put, List.getElem_toArray, List.getElem_cons_zero, List.getElem_cons_succ, List.setIfInBounds_toArray, List.set_cons_zero, List.set_cons_succ]
                    refine wpAnyH_take (i := 4) (v := ?vc4_14) rfl (by kernel_rfl) (by kernel_rfl) (by kernel_rfl) (fun _ _ _ h => h) (Or.inl ⟨by rfl, ?hyc4_14⟩) (by assumption) ?restc4_14
                    case hyc4_14 => (intro w0 hSw; (try dsimp only at hSw); go_simp; try with_reducible rfl)
                    case' restc4_14 => try simp only [Act.put, List.getElem_toArray, List.getElem_cons_zero, List.getElem_cons_succ, List.setIfInBounds_toArray, List.set_cons_zero, List.set_cons_succ]
                    refine wpAnyH_take (i := 5) (v := ?vc5_15) rfl (by kernel_rfl) (by kernel_rfl) (by kernel_rfl) (fun _ _ _ h => h) (Or.inl ⟨by rfl, ?hyc5_15⟩) (by assumption) ?restc5_15
                    case hyc5_15 => (intro w0 hSw; (try dsimp only at hSw); go_simp; try with_reducible rfl)
                    case' restc5_15 => try simp only [Act.put, List.getElem_toArray, List.getElem_cons_zero, List.getElem_cons_succ, List.setIfInBounds_toArray, List.set_cons_zero, List.set_cons_succ]
                    refine wpAnyH_take (i := 6) (v := ?vc6_16) rfl (by kernel_rfl) (by kernel_rfl) (by kernel_rfl) (fun _ _ _ h => h) (Or.inl ⟨by rfl, ?hyc6_16⟩) (by assumption) ?restc6_16
                    case hyc6_16 => (intro w0 hSw; (try dsimp only at hSw); go_simp; try with_reducible rfl)
                    case' restc6_16 => try simp only [Act.put, List.getElem_toArray, List.getElem_cons_zero, List.getElem_cons_succ, List.setIfInBounds_toArray, List.set_cons_zero, List.set_cons_succ]
                    refine wpAnyH_take (i := 7) (v := ?vc7_17) rfl (by kernel_rfl) (by kernel_rfl) (by kernel_rfl) (fun _ _ _ h => h) (Or.inl ⟨by rfl, ?hyc7_17⟩) (by assumption) ?restc7_17
                    case hyc7_17 => (intro w0 hSw; (try dsimp only at hSw); go_simp; try with_reducible rfl)
                    case' restc7_17 => try simp only [Act.put, List.getElem_toArray, List.getElem_cons_zero, List.getElem_cons_succ, List.setIfInBounds_toArray, List.set_cons_zero, List.set_cons_succ]
                    refine wpAnyH_ready (rs := [8]) (by kernel_rfl) (by simp) ?_
                    refine AllReadyH.cons rfl (fun K hK => ?_) AllReadyH.nil
                    go_simp
                    refine (HRS.out _ (bch HBr.out (below_drew1 (Below.refl wr.heap.size wr)) HBr.out.size)).mono ?_
                    rintro e w5 ⟨bb', rfl, hbi, hb⟩
                    have HW5 := Lib.hid (bch (below_drew1 (Below.refl wr.heap.size wr)) hb (Below.size (below_drew1 (Below.refl wr.heap.size wr)))); have HBI := Lib.hid hbi
                    clear hb hbi
                    refine hK.out _ _ (HH.out _ (HW5.out)) (fun hHeld => ?_)
                    clear hK K
                    try simp only [Act.put, List.getElem_toArray, List.getElem_cons_zero, List.getElem_cons_succ, List.setIfInBounds_toArray, List.set_cons_zero, List.set_cons_succ]
                    refine wpAnyH_take (i := 9) (v := ?vc9_18) rfl (by kernel_rfl) (by kernel_rfl) (by kernel_rfl) (fun _ _ _ h => h) (Or.inl ⟨by rfl, ?hyc9_18⟩) (by assumption) ?restc9_18
                    case hyc9_18 => (intro w0 hSw; (try dsimp only at hSw); go_simp; try with_reducible rfl)
                    case' restc9_18 => try simp only [Act.put, List.getElem_toArray, List.getElem_cons_zero, List.getElem_cons_succ, List.setIfInBounds_toArray, List.set_cons_zero, List.set_cons_succ]
                    refine wpAnyH_done (by kernel_rfl) ?_ _
                    refine NoPanic.normal ?_
                    have HB5 := Lib.hid (bch HBr.out HW5.out HBr.out.size)
                    clear hHeld HH HRS
                    cases bb' with
                    | true =>
                      have HQE := Lib.hid (show c.inn.b = d.inn.b from HBI.out.1 rfl)
                      clear HBI
                      go_wp2_with fail
                      go_roundw
                      case rel => exact ⟨2, rfl, by omega, ⟨HE.out.1, HE.out.2.1, fun _ => HE.out.2.2.1 (by omega), fun _ => HQE.out, fun h => absurd h (by omega)⟩, HB5.out⟩
                      case measure => simp [intOf]
                    | false =>
                      have HNE := Lib.hid (show c ≠ d from fun h => by have := HBI.out.2 (by rw [h]); cases this)
                      clear HBI
                      go_wp2_with fail
                      go_ret
                      exact ⟨false, rfl, ⟨fun h => (by cases h), fun h => absurd h HNE.out⟩, bch HBP.out HB5.out HBP.out.size⟩
                  · have HRS := Lib.hid (fun W (hW : Below wp.heap.size wp W) => rowsSame_any W _ _ c.inn.c.2.2 d.inn.c.2.2 c.inn.c.1 c.inn.c.2.1 d.inn.c.1 d.inn.c.2.1 (HQ2.out.keep hW) (HU2.out.keep hW) hi1.2.2 hi2.2.2)
                    go_wp2_with fail
                    have HH := Lib.hid (fun W (hb : Below wr.heap.size wr W) => (⟨Lib.hid hb, (hb.cell (World.block_lt_of_cell? wr _ m8)).trans m8, (hb.cell (World.block_lt_of_cell? wr _ m9)).trans m9, (hb.cell (World.block_lt_of_cell? wr _ m10)).trans m10, (hb.cell (World.block_lt_of_cell? wr _ n8)).trans n8, (hb.cell (World.block_lt_of_cell? wr _ n9)).trans n9, (hb.cell (World.block_lt_of_cell? wr _ n10)).trans n10⟩ : (fun w' => Hid (Below wr.heap.size wr w') ∧ w'.cell? ⟨ba, 8, none⟩ = some (.int .i64 c.inn.c.1) ∧ w'.cell? ⟨ba, 9, none⟩ = some (.int .i64 c.inn.c.2.1) ∧ w'.cell? ⟨ba, 10, none⟩ = some (.slice A2 c.inn.c.2.2.length c2) ∧ w'.cell? ⟨ba + 1, 8, none⟩ = some (.int .i64 d.inn.c.1) ∧ w'.cell? ⟨ba + 1, 9, none⟩ = some (.int .i64 d.inn.c.2.1) ∧ w'.cell? ⟨ba + 1, 10, none⟩ = some (.slice E2 d.inn.c.2.2.length e2)) W))
                    refine wp_region_noPanic ?_
                    refine wp_region_held_drew (S := (fun w' => Hid (Below wr.heap.size wr w') ∧ w'.cell? ⟨ba, 8, none⟩ = some (.int .i64 c.inn.c.1) ∧ w'.cell? ⟨ba, 9, none⟩ = some (.int .i64 c.inn.c.2.1) ∧ w'.cell? ⟨ba, 10, none⟩ = some (.slice A2 c.inn.c.2.2.length c2) ∧ w'.cell? ⟨ba + 1, 8, none⟩ = some (.int .i64 d.inn.c.1) ∧ w'.cell? ⟨ba + 1, 9, none⟩ = some (.int .i64 d.inn.c.2.1) ∧ w'.cell? ⟨ba + 1, 10, none⟩ = some (.slice E2 d.inn.c.2.2.length e2))) (by kernel_rfl) (HH.out _ (below_drew1 (Below.refl wr.heap.size wr))) (fun hHeld => ?_)
                    refine wpAnyH_take (i := 0) (v := ?vc0_19) rfl (by kernel_rfl) (by kernel_rfl) (by kernel_rfl) (fun _ _ _ h => h) (Or.inl ⟨by rfl, ?hyc0_19⟩) (by assumption) ?restc0_19
                    case hyc0_19 => (intro w0 hSw; (try dsimp only at hSw); go_simp; try with_reducible rfl)
                    case' restc0_19 => try simp only [Act.put, List.getElem_toArray, List.getElem_cons_zero, List.getElem_cons_succ, List.setIfInBounds_toArray, List.set_cons_zero, List.set_cons_succ]
                    refine wpAnyH_take (i := 1) (v := ?vc1_20) rfl (by kernel_rfl) (by kernel_rfl) (by kernel_rfl) (fun _ _ _ h => h) (Or.inl ⟨by rfl, ?hyc1_20⟩) (by assumption) ?restc1_20
                    case hyc1_20 => (intro w0 hSw; (try dsimp only at hSw); go_simp; try with_reducible rfl)
                    case' restc1_20 => try simp only [Act.put, List.getElem_toArray, List.getElem_cons_zero, List.getElem_cons_succ, List.setIfInBounds_toArray, List.set_cons_zero, List.set_cons_succ]
                    refine wpAnyH_take (i := 2) (v := ?vc2_21) rfl (by kernel_rfl) (by kernel_rfl) (by kernel_rfl) (fun _ _ _ h => h) (Or.inl ⟨by rfl, ?hyc2_21⟩) (by assumption) ?restc2_21
                    case hyc2_21 => (intro w0 hSw; (try dsimp only at hSw); go_simp; try with_reducible rfl)
                    case' restc2_21 => try simp only [Act.put, List.getElem_toArray, List.getElem_cons_zero, List.getElem_cons_succ, List.setIfInBounds_toArray, List.set_cons_zero, List.set_cons_succ]
                    refine wpAnyH_take (i := 3) (v := ?vc3_22) rfl (by kernel_rfl) (by kernel_rfl) (by kernel_rfl) (fun _ _ _ h => h) (Or.inl ⟨by rfl, ?hyc3_22⟩) (by assumption) ?restc3_22
                    case hyc3_22 => (intro w0 hSw; (try dsimp only at hSw); go_simp; try with_reducible rfl)
                    case' restc3_22 => try simp only [Act.put, List.getElem_toArray, List.getElem_cons_zero, List.getElem_cons_succ, List.setIfInBounds_toArray, List.set_cons_zero, List.set_cons_succ]
                    refine wpAnyH_take (i := 4) (v := ?vc4_23) rfl (by kernel_rfl) (by kernel_rfl) (by kernel_rfl) (fun _ _ _ h => h) (Or.inl ⟨by rfl, ?hyc4_23⟩) (by assumption) ?restc4_23
                    case hyc4_23 => (intro w0 hSw; (try dsimp only at hSw); go_simp; try with_reducible rfl)
                    case' restc4_23 => try simp only [Act.put, List.getElem_toArray, List.getElem_cons_zero, List.getElem_cons_succ, List.setIfInBounds_toArray, List.set_cons_zero, List.set_cons_succ]
                    refine wpAnyH_take (i := 5) (v := ?vc5_24) rfl (by kernel_rfl) (by kernel_rfl) (by kernel_rfl) (fun _ _ _ h => h) (Or.inl ⟨by rfl, ?hyc5_24⟩) (by assumption) ?restc5_24
                    case hyc5_24 => (intro w0 hSw; (try dsimp only at hSw); go_simp; try with_reducible rfl)
                    case' restc5_24 => try simp only [Act.put, List.getElem_toArray, List.getElem_cons_zero, List.getElem_cons_succ, List.setIfInBounds_toArray, List.set_cons_zero, List.set_cons_succ]
                    refine wpAnyH_take (i := 6) (v := ?vc6_25) rfl (by kernel_rfl) (by kernel_rfl) (by kernel_rfl) (fun _ _ _ h => h) (Or.inl ⟨by rfl, ?hyc6_25⟩) (by assumption) ?restc6_25
                    case hyc6_25 => (intro w0 hSw; (try dsimp only at hSw); go_simp; try with_reducible rfl)
                    case' restc6_25 => try simp only [Act.put, List.getElem_toArray, List.getElem_cons_zero, List.getElem_cons_succ, List.setIfInBounds_toArray, List.set_cons_zero, List.set_cons_succ]
                    refine wpAnyH_take (i := 7) (v := ?vc7_26) rfl (by kernel_rfl) (by kernel_rfl) (by kernel_rfl) (fun _ _ _ h => h) (Or.inl ⟨by rfl, ?hyc7_26⟩) (by assumption) ?restc7_26
                    case hyc7_26 => (intro w0 hSw; (try dsimp only at hSw); go_simp; try with_reducible rfl)
                    case' restc7_26 => try simp only [Act.put, List.getElem_toArray, List.getElem_cons_zero, List.getElem_cons_succ, List.setIfInBounds_toArray, List.set_cons_zero, List.set_cons_succ]
                    refine wpAnyH_ready (rs := [8]) (by kernel_rfl) (by simp) ?_
                    refine AllReadyH.cons rfl (fun K hK => ?_) AllReadyH.nil
                    go_simp
                    refine (HRS.out _ (bch HBr.out (below_drew1 (Below.refl wr.heap.size wr)) HBr.out.size)).mono ?_
                    rintro e w5 ⟨bb', rfl, hbi, hb⟩
                    have HW5 := Lib.hid (bch (below_drew1 (Below.refl wr.heap.size wr)) hb (Below.size (below_drew1 (Below.refl wr.heap.size wr)))); have HBI := Lib.hid hbi
                    clear hb hbi
                    refine hK.out _ _ (HH.out _ (HW5.out)) (fun hHeld => ?_)
                    clear hK K
                    try simp only [Act.put, List.getElem_toArray, List.getElem_cons_zero, List.getElem_cons_succ, List.setIfInBounds_toArray, List.set_cons_zero, List.set_cons_succ]
                    refine wpAnyH_take (i := 9) (v := ?vc9_27) rfl (by kernel_rfl) (by kernel_rfl) (by kernel_rfl) (fun _ _ _ h => h) (Or.inl ⟨by rfl, ?hyc9_27⟩) (by assumption) ?restc9_27
                    case hyc9_27 => (intro w0 hSw; (try dsimp only at hSw); go_simp; try with_reducible rfl)
                    case' restc9_27 => try simp only [Act.put, List.getElem_toArray, List.getElem_cons_zero, List.getElem_cons_succ, List.setIfInBounds_toArray, List.set_cons_zero, List.set_cons_succ]
                    refine wpAnyH_done (by kernel_rfl) ?_ _
                    refine NoPanic.normal ?_
                    have HB5 := Lib.hid (bch HBr.out HW5.out HBr.out.size)
                    clear hHeld HH HRS
                    cases bb' with
                    | true =>
                      have HQE := Lib.hid (show c.inn.c = d.inn.c from HBI.out.1 rfl)
                      clear HBI
                      go_wp2_with fail
                      go_roundw
                      case rel => exact ⟨3, rfl, by omega, ⟨HE.out.1, HE.out.2.1, fun _ => HE.out.2.2.1 (by omega), fun _ => HE.out.2.2.2.1 (by omega), fun _ => HQE.out⟩, HB5.out⟩
                      case measure => simp [intOf]
                    | false =>
                      have HNE := Lib.hid (show c ≠ d from fun h => by have := HBI.out.2 (by rw [h]); cases this)
                      clear HBI
                      go_wp2_with fail
                      go_ret
                      exact ⟨false, rfl, ⟨fun h => (by cases h), fun h => absurd h HNE.out⟩, bch HBP.out HB5.out HBP.out.size⟩
                · obtain rfl : k = 3 := by omega
                  have HEQ := Lib.hid (show c = d from cor_ext HE.out.1 HE.out.2.1 (inn_ext (HE.out.2.2.1 (by omega)) (HE.out.2.2.2.1 (by omega)) (HE.out.2.2.2.2 (by omega))))
                  go_wp2_with fail
                  go_ret
                  exact ⟨true, rfl, ⟨fun _ => HEQ.out, fun _ => rfl⟩, bch HBP.out HBr.out HBP.out.size⟩
    · have q2 := bneT (show ¬ (c.b.length : Int) = d.b.length by omega)
      have HNE := Lib.hid (show c ≠ d from fun h => hlb (by rw [h]))
      clear hlb
      go_wp2_with fail
      go_ret
      exact ⟨false, rfl, ⟨fun h => (by cases h), fun h => absurd h HNE.out⟩, HBP.out⟩
  · have q1 := bneT (show ¬ (c.l.length : Int) = d.l.length by omega)
    have HNE := Lib.hid (show c ≠ d from fun h => hll (by rw [h]))
    clear hll
    go_wp2_with fail
    go_ret
    exact ⟨false, rfl, ⟨fun h => (by cases h), fun h => absurd h HNE.out⟩, HBP.out⟩
end Go.Proofs.YtnfbhocppijbjaaDoor

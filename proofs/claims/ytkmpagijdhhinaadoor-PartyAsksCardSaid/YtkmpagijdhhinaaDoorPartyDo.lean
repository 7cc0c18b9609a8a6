/- A party's do. -/
import Derived.Test.YtkmpagijdhhinaaDoorPartyTaken
import Derived.BigQuiet
namespace Go.Proofs.YtkmpagijdhhinaaDoor
open Go.RowKit Go.Maps Key Od Pa

theorem cell9 {w : World} {b : Nat} {x0 x1 x2 x3 x4 x5 x6 x7 x8 : Value} {T : TypeId} (h : w.heap[b]? = some (.cells #[x0, x1, x2, x3, x4, x5, x6, x7, x8] T (0, 0))) : w.cell? ⟨b, 0, none⟩ = some x0 ∧ w.cell? ⟨b, 1, none⟩ = some x1 ∧ w.cell? ⟨b, 2, none⟩ = some x2 ∧ w.cell? ⟨b, 3, none⟩ = some x3 ∧ w.cell? ⟨b, 4, none⟩ = some x4 ∧ w.cell? ⟨b, 5, none⟩ = some x5 ∧ w.cell? ⟨b, 6, none⟩ = some x6 ∧ w.cell? ⟨b, 7, none⟩ = some x7 ∧ w.cell? ⟨b, 8, none⟩ = some x8 :=
  ⟨cell_at h 0 rfl, cell_at h 1 rfl, cell_at h 2 rfl, cell_at h 3 rfl, cell_at h 4 rfl, cell_at h 5 rfl, cell_at h 6 rfl, cell_at h 7 rfl, cell_at h 8 rfl⟩
/-- The goods' cells. -/
def encG (s : List UInt8) : Array Value := #[.int .u8 (byteI s 0), .int .u8 (byteI s 1), .int .u8 (byteI s 2), .int .u8 (byteI s 3), .int .u8 (byteI s 4), .int .u8 (byteI s 5), .int .u8 (byteI s 6), .int .u8 (byteI s 7), .int .i64 s.length]

theorem lawGoodsL : Go.WideMaps.KeyLaw Tryd.prog tGoods := deep_law_laid (P := Tryd.prog) (show laidOutB Tryd.prog = true by kernel_rfl) (m := 6) (by omega) (k := tGoods) (of_decide_eq_true (by kernel_rfl)) (by kernel_rfl) (by kernel_rfl)

set_option linter.unusedSimpArgs false in
set_option maxRecDepth 100000 in
set_option maxHeartbeats 4000000 in
theorem do_store (w : World) (p bk tk wh : Nat) (stock limit seq : Int) (m : Nat) (st : St) (to o : Int) (sku : ByteArray) (qty amt cd : Int) (h : PA w p bk tk wh 1 stock limit seq m st) (hn : st.rows.length < 100000) (hm : m < 100000)
    (hk : chk o 0 = true) (hnew : ∀ y ∈ st.rows, y.1 ≠ (o, 0)) (hnr : ∀ t, (o, t) ∉ st.rs) (hs : sku.size ≤ 8) (hu : 0 ≤ used st.gs sku.data.toList ∧ used st.gs sku.data.toList ≤ 1000000000) (hst : 0 ≤ stock ∧ stock ≤ 1000000000) (hq : 0 ≤ qty ∧ qty ≤ 999) :
    Calls Tryd.prog 32 #[.pointer (some ⟨p, 0, none⟩), .agg #[.int .i64 to, .int .i64 o, .int .i64 0, .string sku, .int .i64 qty, .int .i64 amt, .int .i64 cd]] w fun e w' => e = .returned (.tuple #[]) ∧ PA w' p bk tk wh 1 stock limit seq (m + 1) (doS 1 stock limit st ⟨to, o, 0, sku.data.toList, qty, amt, cd⟩) ∧ Turned (fun i => i = bk ∨ i = tk ∨ i = wh) w w' := by
  have HP := Lib.hid h
  have hl := h.lt
  have HM := Lib.hid (heap_keep (heap_new w (.cells #[.int .i64 to, .int .i64 o, .int .i64 0, .string sku, .int .i64 qty, .int .i64 amt, .int .i64 cd] tMsg)) (below_alloc _ (.cells #[.int .i64 o, .int .i64 0, .int .i64 0, .int .i64 amt, .int .i64 qty] tRow)))
  have hr1 := heap_new (w.alloc (.cells #[.int .i64 to, .int .i64 o, .int .i64 0, .string sku, .int .i64 qty, .int .i64 amt, .int .i64 cd] tMsg)) (.cells #[.int .i64 o, .int .i64 0, .int .i64 0, .int .i64 amt, .int .i64 qty] tRow)
  rw [show (w.alloc (.cells #[.int .i64 to, .int .i64 o, .int .i64 0, .string sku, .int .i64 qty, .int .i64 amt, .int .i64 cd] tMsg)).heap.size = w.heap.size + 1 by simp] at hr1
  have HR := Lib.hid hr1
  have HB := Lib.hid ((below_alloc w (.cells #[.int .i64 to, .int .i64 o, .int .i64 0, .string sku, .int .i64 qty, .int .i64 amt, .int .i64 cd] tMsg)).alloc (by simp) (.cells #[.int .i64 o, .int .i64 0, .int .i64 0, .int .i64 amt, .int .i64 qty] tRow))
  have HO := Lib.hid (of_any sku)
  clear h hr1
  go_enter Tryd.func32, Tryd.ntmps32
  go_wp2_with fail
  refine (HO.out _ hs).mono ?_
  generalize (w.alloc (.cells #[.int .i64 to, .int .i64 o, .int .i64 0, .string sku, .int .i64 qty, .int .i64 amt, .int .i64 cd] tMsg)).alloc (.cells #[.int .i64 o, .int .i64 0, .int .i64 0, .int .i64 amt, .int .i64 qty] tRow) = w1 at HM HR HB ⊢
  rintro e w2 ⟨rfl, hb⟩
  have hb2 := bch HB.out hb HB.out.size
  have HM2 := Lib.hid (heap_keep HM.out hb)
  have HR2 := Lib.hid (heap_keep HR.out hb)
  have HB2 := Lib.hid hb2
  clear hb hb2 HM HR
  simp only [mkGoods]
  go_wp2_with fail
  have HG := Lib.hid (heap_new w2 (.cells #[.int .u8 (byteI sku.data.toList 0), .int .u8 (byteI sku.data.toList 1), .int .u8 (byteI sku.data.toList 2), .int .u8 (byteI sku.data.toList 3), .int .u8 (byteI sku.data.toList 4), .int .u8 (byteI sku.data.toList 5), .int .u8 (byteI sku.data.toList 6), .int .u8 (byteI sku.data.toList 7), .int .i64 sku.size] tGoods))
  have HB3 := Lib.hid (HB2.out.alloc HB2.out.size (.cells #[.int .u8 (byteI sku.data.toList 0), .int .u8 (byteI sku.data.toList 1), .int .u8 (byteI sku.data.toList 2), .int .u8 (byteI sku.data.toList 3), .int .u8 (byteI sku.data.toList 4), .int .u8 (byteI sku.data.toList 5), .int .u8 (byteI sku.data.toList 6), .int .u8 (byteI sku.data.toList 7), .int .i64 sku.size] tGoods))
  have HM3 := Lib.hid (heap_keep HM2.out (below_alloc w2 (.cells #[.int .u8 (byteI sku.data.toList 0), .int .u8 (byteI sku.data.toList 1), .int .u8 (byteI sku.data.toList 2), .int .u8 (byteI sku.data.toList 3), .int .u8 (byteI sku.data.toList 4), .int .u8 (byteI sku.data.toList 5), .int .u8 (byteI sku.data.toList 6), .int .u8 (byteI sku.data.toList 7), .int .i64 sku.size] tGoods)))
  have HR3 := Lib.hid (heap_keep HR2.out (below_alloc w2 (.cells #[.int .u8 (byteI sku.data.toList 0), .int .u8 (byteI sku.data.toList 1), .int .u8 (byteI sku.data.toList 2), .int .u8 (byteI sku.data.toList 3), .int .u8 (byteI sku.data.toList 4), .int .u8 (byteI sku.data.toList 5), .int .u8 (byteI sku.data.toList 6), .int .u8 (byteI sku.data.toList 7), .int .i64 sku.size] tGoods)))
  have HP3 := Lib.hid (HP.out.below HB3.out)
  clear HM2 HR2 HB2
  generalize w2.alloc (.cells #[.int .u8 (byteI sku.data.toList 0), .int .u8 (byteI sku.data.toList 1), .int .u8 (byteI sku.data.toList 2), .int .u8 (byteI sku.data.toList 3), .int .u8 (byteI sku.data.toList 4), .int .u8 (byteI sku.data.toList 5), .int .u8 (byteI sku.data.toList 6), .int .u8 (byteI sku.data.toList 7), .int .i64 sku.size] tGoods) = w3 at HG HB3 HM3 HR3 HP3 ⊢
  generalize w2.heap.size = gb at HG ⊢
  obtain ⟨T, hT, hT', hTm⟩ := HP3.out.taken
  have HT := Lib.hid hT
  have HT' := Lib.hid hT'
  have hlu : lookT T sku.data.toList = used st.gs sku.data.toList := hT'.2 _ (by simpa using hs)
  have hlk := fun q => look_taken (w := w3.drewN q) (show MapL Tryd.prog tGoods mkGoods mkInt (w3.drewN q) tk T from hT.block rfl) sku.data.toList (by simpa using hs)
  rw [hlu] at hlk
  have HLU := Lib.hid hlu
  clear hT hT' hlu
  have hsz : (sku.data.toList.length : Int) = sku.size := by simp
  simp only [mkGoods, hsz] at hlk
  obtain ⟨e0, e1, e2, e3, e4, e5, e6, e7, e8⟩ := cell9 HG.out
  obtain ⟨g0, g1, g2, g3, g4, g5, g6⟩ := cell7 HM3.out
  obtain ⟨p0, p1, p2, p3, p4, p5, p6⟩ := cell7 HP3.out.hd
  obtain ⟨n, hn'⟩ : ∃ n, used st.gs sku.data.toList = n := ⟨_, rfl⟩
  rw [hn'] at hlk hu HLU
  have HN := Lib.hid hn'
  clear hn' hsz
  have HNR := Lib.hid hnr
  have HNEW := Lib.hid hnew
  clear hnr hnew
  by_cases hen : qty ≤ stock - n
  · have HDN := Lib.hid (show doneB 1 stock limit st ⟨to, o, 0, sku.data.toList, qty, amt, cd⟩ = true by unfold doneB; rw [if_pos rfl]; exact decide_eq_true (by rw [HN.out]; exact hen))
    go_quiet (fail)
    go_wp2_with fail
    have HB4 := Lib.hid (show Below w.heap.size w (w3.drewN nq) from ⟨HB3.out.os, HB3.out.tape, HB3.out.output, HB3.out.size, HB3.out.block⟩)
    have HP4 := Lib.hid (show PA (w3.drewN nq) p bk tk wh 1 stock limit seq m st from HP3.out.turned (S := fun _ => False) ⟨rfl, rfl, rfl, Nat.le_refl _, fun _ _ _ => rfl⟩ id id id id)
    have HT4 := Lib.hid (show MapL Tryd.prog tGoods mkGoods mkInt (w3.drewN nq) tk T from HT.out.block rfl)
    have HM4 := Lib.hid (show (w3.drewN nq).heap[w.heap.size]? = _ from HM3.out)
    have HR4 := Lib.hid (show (w3.drewN nq).heap[w.heap.size + 1]? = _ from HR3.out)
    have HG4 := Lib.hid (show (w3.drewN nq).heap[gb]? = _ from HG.out)
    have hlk1 := hlk (nq + 1)
    have hlk4 : ∀ v, w3.drewN (nq + 1) = v → _ := fun v hv => by rw [hv] at hlk1; exact hlk1
    have hl5 := hlk4 (w3.drewN nq).drew rfl
    clear hlk hlk1 hlk4 e0 e1 e2 e3 e4 e5 e6 e7 e8 g0 g1 g2 g3 g4 g5 g6 p0 p1 p2 p3 p4 p5 p6 HB3 HP3 HT HM3 HR3 HG
    generalize w3.drewN nq = w4 at HB4 HP4 HT4 HM4 HR4 HG4 hl5 ⊢
    obtain ⟨e0, e1, e2, e3, e4, e5, e6, e7, e8⟩ := cell9 HG4.out
    obtain ⟨g0, g1, g2, g3, g4, g5, g6⟩ := cell7 HM4.out
    obtain ⟨p0, p1, p2, p3, p4, p5, p6⟩ := cell7 HP4.out.hd
    have hTT : MapL Tryd.prog tGoods mkGoods mkInt w4.drew tk T := HT4.out.block rfl
    have hs8 : sku.data.toList.length ≤ 8 := by simpa using hs
    obtain ⟨gl, hgl⟩ := goods_reads sku.data.toList hs8
    have hsz : (sku.data.toList.length : Int) = sku.size := by simp
    obtain ⟨v0, sn, w5, hrun, hg5, hz5, hst5⟩ := hTT.entry lawGoodsL mapTaken zeroInt (by unfold maxLen; omega) hgl (mkGoods_inj _ hs8)
    have hlook5 := hTT.entry_look lawGoodsL mapTaken zeroInt (by unfold maxLen; omega) hgl (mkGoods_inj _ hs8) hrun (V := .int .i64 n) (by simp only [mkGoods, hsz]; exact hl5)
    obtain ⟨w6, hrun6, hm6, hg6, hz6⟩ := hst5 w5 (n + qty) rfl
    have hTd : Turned (fun i => i = tk) w4 w4.drew := ⟨rfl, rfl, rfl, Nat.le_refl _, fun _ _ _ => rfl⟩
    have hT5 : Turned (fun i => i = tk) w4 w5 := hTd.trans (Turned.of_grown hg5 (fun j hj => by cases hj; rfl))
    have hT6 : Turned (fun i => i = tk) w4 w6 := hT5.trans (Turned.of_grown hg6 (fun j hj => by cases hj; rfl))
    have hgn := map_ne HT4.out HG4.out
    have hmn := map_ne HT4.out HM4.out
    have hpn := map_ne HT4.out HP4.out.hd
    have HH := Lib.hid (fun W (ht : Turned (fun i => i = tk) w4 W) => (⟨Lib.hid ht, cell_at ((ht.block _ (heap_lt HP4.out.hd) hpn).trans HP4.out.hd) 4 rfl, cell_at ((ht.block _ (heap_lt HM4.out) hmn).trans HM4.out) 4 rfl, cell9 ((ht.block _ (heap_lt HG4.out) hgn).trans HG4.out)⟩ : (fun w' => Hid (Turned (fun i => i = tk) w4 w') ∧ w'.cell? ⟨p, 4, none⟩ = some (.map (some tk)) ∧ w'.cell? ⟨w.heap.size, 4, none⟩ = some (.int .i64 qty) ∧ w'.cell? ⟨gb, 0, none⟩ = some (.int .u8 (byteI sku.data.toList 0)) ∧ w'.cell? ⟨gb, 1, none⟩ = some (.int .u8 (byteI sku.data.toList 1)) ∧ w'.cell? ⟨gb, 2, none⟩ = some (.int .u8 (byteI sku.data.toList 2)) ∧ w'.cell? ⟨gb, 3, none⟩ = some (.int .u8 (byteI sku.data.toList 3)) ∧ w'.cell? ⟨gb, 4, none⟩ = some (.int .u8 (byteI sku.data.toList 4)) ∧ w'.cell? ⟨gb, 5, none⟩ = some (.int .u8 (byteI sku.data.toList 5)) ∧ w'.cell? ⟨gb, 6, none⟩ = some (.int .u8 (byteI sku.data.toList 6)) ∧ w'.cell? ⟨gb, 7, none⟩ = some (.int .u8 (byteI sku.data.toList 7)) ∧ w'.cell? ⟨gb, 8, none⟩ = some (.int .i64 sku.size)) W))
    have hwr : IntKind.i64.wrap (n + qty) = n + qty := by rw [IntKind.wrap_i64]; omega
    simp only [mkGoods, mkInt, hsz, goInt] at hrun hrun6 hlook5
    have HP6 := Lib.hid (show PA w6 p bk tk wh 1 stock limit seq (m + 1) { st with gs := st.gs ++ [(o, sku.data.toList, qty)] } by
      obtain ⟨W, hW, hW', hWm⟩ := HP4.out.what
      have hl4 := HP4.out.lt
      have hne := HP4.out.ne
      refine ⟨(hT6.block p hl4.1 hl4.2.2.2.2.2.1).trans HP4.out.hd, HP4.out.book.block (hT6.block bk hl4.2.1 hne.1), ⟨_, hm6, ?_, ?_⟩, ⟨W, hW.block (hT6.block wh hl4.2.2.2.1 (fun e => hne.2.2 e.symm)), hW', by omega⟩, hne⟩
      · have := taken_add HT'.out hs8 o qty
        rw [HLU.out] at this
        exact this
      · have : (without T sku.data.toList).length ≤ T.length := List.length_filter_le _ _
        simp only [List.length_cons]
        omega)
    have HM6 := Lib.hid ((hT6.block _ (heap_lt HM4.out) hmn).trans HM4.out)
    have HG6 := Lib.hid ((hT6.block _ (heap_lt HG4.out) hgn).trans HG4.out)
    have HR6 := Lib.hid ((hT6.block _ (heap_lt HR4.out) (map_ne HT4.out HR4.out)).trans HR4.out)
    have HT6 := Lib.hid hT6
    clear hst5 hm6 hg5 hg6 hgl hTT hgn hmn hpn
    obtain ⟨f0, f1, f2, f3, f4, f5, f6, f7, f8⟩ := cell9 HG6.out
    obtain ⟨h0, h1, h2, h3, h4, h5, h6⟩ := cell7 HM6.out
    obtain ⟨r0, r1, r2, r3, r4⟩ := cell5 HR6.out
    have q5 := cell_at HP6.out.hd 5 rfl
    obtain ⟨kl, hkl⟩ := key_chk (k := (o, 0)) hk
    have HKL := Lib.hid hkl
    clear hkl
    refine wp_region_noPanic ?_
    refine wp_region_held_drew (S := (fun w' => Hid (Turned (fun i => i = tk) w4 w') ∧ w'.cell? ⟨p, 4, none⟩ = some (.map (some tk)) ∧ w'.cell? ⟨w.heap.size, 4, none⟩ = some (.int .i64 qty) ∧ w'.cell? ⟨gb, 0, none⟩ = some (.int .u8 (byteI sku.data.toList 0)) ∧ w'.cell? ⟨gb, 1, none⟩ = some (.int .u8 (byteI sku.data.toList 1)) ∧ w'.cell? ⟨gb, 2, none⟩ = some (.int .u8 (byteI sku.data.toList 2)) ∧ w'.cell? ⟨gb, 3, none⟩ = some (.int .u8 (byteI sku.data.toList 3)) ∧ w'.cell? ⟨gb, 4, none⟩ = some (.int .u8 (byteI sku.data.toList 4)) ∧ w'.cell? ⟨gb, 5, none⟩ = some (.int .u8 (byteI sku.data.toList 5)) ∧ w'.cell? ⟨gb, 6, none⟩ = some (.int .u8 (byteI sku.data.toList 6)) ∧ w'.cell? ⟨gb, 7, none⟩ = some (.int .u8 (byteI sku.data.toList 7)) ∧ w'.cell? ⟨gb, 8, none⟩ = some (.int .i64 sku.size))) (by kernel_rfl) (HH.out _ hTd) (fun hHeld => ?_)
    refine wpAnyH_take (i := 0) (v := ?vr0) rfl (by kernel_rfl) (by kernel_rfl) (by kernel_rfl) (fun _ _ _ h => h) (Or.inl ⟨by rfl, ?hyr0⟩) (by assumption) ?restr0
    case hyr0 => (intro w0 hSw; (try dsimp only at hSw); go_simp; try with_reducible rfl)
    case' restr0 => try simp only [Act.put, List.getElem_toArray, List.getElem_cons_zero, List.getElem_cons_succ, List.setIfInBounds_toArray, List.set_cons_zero, List.set_cons_succ]
    refine wpAnyH_take (i := 1) (v := ?vr1) rfl (by kernel_rfl) (by kernel_rfl) (by kernel_rfl) (fun _ _ _ h => h) (Or.inl ⟨by rfl, ?hyr1⟩) (by assumption) ?restr1
    case hyr1 => (intro w0 hSw; (try dsimp only at hSw); go_simp; try with_reducible rfl)
    case' restr1 => try simp only [Act.put, List.getElem_toArray, List.getElem_cons_zero, List.getElem_cons_succ, List.setIfInBounds_toArray, List.set_cons_zero, List.set_cons_succ]
    refine wpAnyH_take (i := 2) (v := ?vr2) rfl (by kernel_rfl) (by kernel_rfl) (by kernel_rfl) (fun _ _ _ h => h) (Or.inl ⟨by rfl, ?hyr2⟩) (by assumption) ?restr2
    case hyr2 => (intro w0 hSw; (try dsimp only at hSw); go_simp; try with_reducible rfl)
    case' restr2 => try simp only [Act.put, List.getElem_toArray, List.getElem_cons_zero, List.getElem_cons_succ, List.setIfInBounds_toArray, List.set_cons_zero, List.set_cons_succ]
    refine wpAnyH_take (i := 3) (v := ?vr3) rfl (by kernel_rfl) (by kernel_rfl) (by kernel_rfl) (fun _ _ _ h => h) (Or.inl ⟨by rfl, ?hyr3⟩) (by assumption) ?restr3
    case hyr3 => (intro w0 hSw; (try dsimp only at hSw); go_simp; try with_reducible rfl)
    case' restr3 => try simp only [Act.put, List.getElem_toArray, List.getElem_cons_zero, List.getElem_cons_succ, List.setIfInBounds_toArray, List.set_cons_zero, List.set_cons_succ]
    refine wpAnyH_take (i := 4) (v := ?vr4) rfl (by kernel_rfl) (by kernel_rfl) (by kernel_rfl) (fun _ _ _ h => h) (Or.inl ⟨by rfl, ?hyr4⟩) (by assumption) ?restr4
    case hyr4 => (intro w0 hSw; (try dsimp only at hSw); go_simp; try with_reducible rfl)
    case' restr4 => try simp only [Act.put, List.getElem_toArray, List.getElem_cons_zero, List.getElem_cons_succ, List.setIfInBounds_toArray, List.set_cons_zero, List.set_cons_succ]
    refine wpAnyH_take (i := 6) (v := ?vr6) rfl (by kernel_rfl) (by kernel_rfl) (by kernel_rfl) (fun _ _ _ h => h) (Or.inl ⟨by rfl, ?hyr6⟩) (by assumption) ?restr6
    case hyr6 => (intro w0 hSw; (try dsimp only at hSw); go_simp; try with_reducible rfl)
    case' restr6 => try simp only [Act.put, List.getElem_toArray, List.getElem_cons_zero, List.getElem_cons_succ, List.setIfInBounds_toArray, List.set_cons_zero, List.set_cons_succ]
    refine wpAnyH_take (i := 7) (v := ?vr7) rfl (by kernel_rfl) (by kernel_rfl) (by kernel_rfl) (fun _ _ _ h => h) (Or.inl ⟨by rfl, ?hyr7⟩) (by assumption) ?restr7
    case hyr7 => (intro w0 hSw; (try dsimp only at hSw); go_simp; try with_reducible rfl)
    case' restr7 => try simp only [Act.put, List.getElem_toArray, List.getElem_cons_zero, List.getElem_cons_succ, List.setIfInBounds_toArray, List.set_cons_zero, List.set_cons_succ]
    refine wpAnyH_ready (rs := [5, 9]) (by kernel_rfl) (by simp) ?_
    refine AllReadyH.cons rfl (fun K hK => ?_) (AllReadyH.cons rfl (fun K hK => ?_) AllReadyH.nil)
    rotate_left
    · go_simp
      refine hK.out _ _ (HH.out _ hT5) (fun hHeld => ?_)
      clear hK K
      try simp only [Act.put, List.getElem_toArray, List.getElem_cons_zero, List.getElem_cons_succ, List.setIfInBounds_toArray, List.set_cons_zero, List.set_cons_succ]
      refine wpAnyH_take (i := 10) (v := ?vrb10) rfl (by kernel_rfl) (by kernel_rfl) (by kernel_rfl) (fun _ _ _ h => h) (Or.inl ⟨by rfl, ?hyrb10⟩) (by assumption) ?restrb10
      case hyrb10 => (intro w0 hSw; (try dsimp only at hSw); go_simp; try with_reducible rfl)
      case' restrb10 => try simp only [Act.put, List.getElem_toArray, List.getElem_cons_zero, List.getElem_cons_succ, List.setIfInBounds_toArray, List.set_cons_zero, List.set_cons_succ]
      refine wpAnyH_ready (rs := [5]) (by kernel_rfl) (by simp) ?_
      refine AllReadyH.cons rfl (fun K hK => ?_) AllReadyH.nil
      go_simp
      refine hK.out _ _ (by assumption) (fun hHeld => ?_)
      clear hK K
      try simp only [Act.put, List.getElem_toArray, List.getElem_cons_zero, List.getElem_cons_succ, List.setIfInBounds_toArray, List.set_cons_zero, List.set_cons_succ]
      refine wpAnyH_take (i := 8) (v := ?vrb8) rfl (by kernel_rfl) (by kernel_rfl) (by kernel_rfl) (fun _ _ _ h => h) (Or.inl ⟨by rfl, ?hyrb8⟩) (by assumption) ?restrb8
      case hyrb8 => (intro w0 hSw; (try dsimp only at hSw); go_simp; try with_reducible rfl)
      case' restrb8 => try simp only [Act.put, List.getElem_toArray, List.getElem_cons_zero, List.getElem_cons_succ, List.setIfInBounds_toArray, List.set_cons_zero, List.set_cons_succ]
      refine wpAnyH_ready (rs := [11]) (by kernel_rfl) (by simp) ?_
      refine AllReadyH.cons rfl (fun K hK => ?_) AllReadyH.nil
      go_simp
      refine hK.out _ _ (HH.out _ hT6) (fun hHeld => ?_)
      clear hK K
      try simp only [Act.put, List.getElem_toArray, List.getElem_cons_zero, List.getElem_cons_succ, List.setIfInBounds_toArray, List.set_cons_zero, List.set_cons_succ]
      refine wpAnyH_done (by kernel_rfl) ?_ _
      refine NoPanic.normal ?_
      go_wp2_with fail
      refine wp_region_still_tail 7 (by kernel_rfl) (by kernel_rfl) ?_
      simp only [List.take_succ_cons, List.take_zero, List.drop_succ_cons, List.drop_zero]
      iterate 7 still_step
      refine wpStill_nil ?_
      change wpList _ _ _ _ _ w6.drew
      obtain ⟨W, hW4, hW', hWm⟩ := HP4.out.what
      have hW := hW4.block (HT6.out.block wh HP4.out.lt.2.2.2.1 (fun e => HP4.out.ne.2.2 e.symm))
      refine wpList_storeL _ rfl (.tmp 61) (.tmp 63) (.tmp 64) tWhat rfl tKey tGoods lawKey mapWhat wh W rfl (hW.block rfl) (by unfold maxLen; omega) (o, 0) sku.data.toList rfl rfl HKL.out (mkKey_inj _) ?_
      intro w7 hm7 ht7
      have hW7 : Turned (fun i => i = wh) w6 w7 := (Turned.of_below (below_drew1 (Below.refl _ _))).trans (Turned.of_grown ht7.grown (fun j hj => by cases hj; rfl))
      have HT7 := Lib.hid ((HT6.out.mono (S' := fun i => i = tk ∨ i = wh) (fun i hi => .inl hi)).trans (hW7.mono (fun i hi => .inr hi)))
      have HR7 := Lib.hid ((hW7.block _ (heap_lt HR6.out) (map_ne hW HR6.out)).trans HR6.out)
      have HP7 := Lib.hid (show PA w7 p bk tk wh 1 stock limit seq (m + 1) ⟨st.rows, st.gs ++ [(o, sku.data.toList, qty)], st.rs ++ [(o, sku.data.toList)]⟩ by
        obtain ⟨T', hT', hT2⟩ := HP6.out.taken
        have hl6 := HP6.out.lt
        have hne := HP6.out.ne
        refine ⟨(hW7.block p hl6.1 hl6.2.2.2.2.2.2).trans HP6.out.hd, HP6.out.book.block (hW7.block bk hl6.2.1 hne.2.1), ⟨T', hT'.block (hW7.block tk hl6.2.2.1 hne.2.2), hT2⟩, ⟨_, hm7, what_add hW' HNR.out, ?_⟩, hne⟩
        have : (without W (o, 0)).length ≤ W.length := List.length_filter_le _ _
        simp only [List.length_cons]
        omega)
      clear hm7 ht7 hW hW' hWm hW7 HP6 HM6 HG6 HR6 HT6 f0 f1 f2 f3 f4 f5 f6 f7 f8 h0 h1 h2 h3 h4 h5 h6 r0 r1 r2 r3 r4 q5 hrun hrun6 hlook5
      obtain ⟨r0, r1, r2, r3, r4⟩ := cell5 HR7.out
      go_wp2_with fail
      refine (write_any _ _ _ _ _ _ _ _ _ _ _ _ _ _ _ _ _ HP7.out hn hk HNEW.out).mono ?_
      rintro e w8 ⟨rfl, hp8, ht8⟩
      go_wp2_with fail
      go_end0
      rw [doS, if_pos HDN.out]
      refine ⟨rfl, hp8, ?_⟩
      exact ((Turned.of_below HB4.out).far ((HT7.out.mono (fun i hi => by rcases hi with h | h; exact .inl (.inr (.inl h)); exact .inl (.inr (.inr h)))).trans (ht8.mono (fun i hi => .inl (.inl hi)))))
    · go_simp
      refine hK.out _ _ (by assumption) (fun hHeld => ?_)
      clear hK K
      try simp only [Act.put, List.getElem_toArray, List.getElem_cons_zero, List.getElem_cons_succ, List.setIfInBounds_toArray, List.set_cons_zero, List.set_cons_succ]
      refine wpAnyH_take (i := 8) (v := ?vra8) rfl (by kernel_rfl) (by kernel_rfl) (by kernel_rfl) (fun _ _ _ h => h) (Or.inl ⟨by rfl, ?hyra8⟩) (by assumption) ?restra8
      case hyra8 => (intro w0 hSw; (try dsimp only at hSw); go_simp; try with_reducible rfl)
      case' restra8 => try simp only [Act.put, List.getElem_toArray, List.getElem_cons_zero, List.getElem_cons_succ, List.setIfInBounds_toArray, List.set_cons_zero, List.set_cons_succ]
      refine wpAnyH_ready (rs := [9]) (by kernel_rfl) (by simp) ?_
      refine AllReadyH.cons rfl (fun K hK => ?_) AllReadyH.nil
      go_simp
      refine hK.out _ _ (HH.out _ hT5) (fun hHeld => ?_)
      clear hK K
      try simp only [Act.put, List.getElem_toArray, List.getElem_cons_zero, List.getElem_cons_succ, List.setIfInBounds_toArray, List.set_cons_zero, List.set_cons_succ]
      refine wpAnyH_take (i := 10) (v := ?vra10) rfl (by kernel_rfl) (by kernel_rfl) (by kernel_rfl) (fun _ _ _ h => h) (Or.inl ⟨by rfl, ?hyra10⟩) (by assumption) ?restra10
      case hyra10 => (intro w0 hSw; (try dsimp only at hSw); go_simp; try with_reducible rfl)
      case' restra10 => try simp only [Act.put, List.getElem_toArray, List.getElem_cons_zero, List.getElem_cons_succ, List.setIfInBounds_toArray, List.set_cons_zero, List.set_cons_succ]
      refine wpAnyH_ready (rs := [11]) (by kernel_rfl) (by simp) ?_
      refine AllReadyH.cons rfl (fun K hK => ?_) AllReadyH.nil
      go_simp
      refine hK.out _ _ (HH.out _ hT6) (fun hHeld => ?_)
      clear hK K
      try simp only [Act.put, List.getElem_toArray, List.getElem_cons_zero, List.getElem_cons_succ, List.setIfInBounds_toArray, List.set_cons_zero, List.set_cons_succ]
      refine wpAnyH_done (by kernel_rfl) ?_ _
      refine NoPanic.normal ?_
      go_wp2_with fail
      refine wp_region_still_tail 7 (by kernel_rfl) (by kernel_rfl) ?_
      simp only [List.take_succ_cons, List.take_zero, List.drop_succ_cons, List.drop_zero]
      iterate 7 still_step
      refine wpStill_nil ?_
      change wpList _ _ _ _ _ w6.drew
      obtain ⟨W, hW4, hW', hWm⟩ := HP4.out.what
      have hW := hW4.block (HT6.out.block wh HP4.out.lt.2.2.2.1 (fun e => HP4.out.ne.2.2 e.symm))
      refine wpList_storeL _ rfl (.tmp 61) (.tmp 63) (.tmp 64) tWhat rfl tKey tGoods lawKey mapWhat wh W rfl (hW.block rfl) (by unfold maxLen; omega) (o, 0) sku.data.toList rfl rfl HKL.out (mkKey_inj _) ?_
      intro w7 hm7 ht7
      have hW7 : Turned (fun i => i = wh) w6 w7 := (Turned.of_below (below_drew1 (Below.refl _ _))).trans (Turned.of_grown ht7.grown (fun j hj => by cases hj; rfl))
      have HT7 := Lib.hid ((HT6.out.mono (S' := fun i => i = tk ∨ i = wh) (fun i hi => .inl hi)).trans (hW7.mono (fun i hi => .inr hi)))
      have HR7 := Lib.hid ((hW7.block _ (heap_lt HR6.out) (map_ne hW HR6.out)).trans HR6.out)
      have HP7 := Lib.hid (show PA w7 p bk tk wh 1 stock limit seq (m + 1) ⟨st.rows, st.gs ++ [(o, sku.data.toList, qty)], st.rs ++ [(o, sku.data.toList)]⟩ by
        obtain ⟨T', hT', hT2⟩ := HP6.out.taken
        have hl6 := HP6.out.lt
        have hne := HP6.out.ne
        refine ⟨(hW7.block p hl6.1 hl6.2.2.2.2.2.2).trans HP6.out.hd, HP6.out.book.block (hW7.block bk hl6.2.1 hne.2.1), ⟨T', hT'.block (hW7.block tk hl6.2.2.1 hne.2.2), hT2⟩, ⟨_, hm7, what_add hW' HNR.out, ?_⟩, hne⟩
        have : (without W (o, 0)).length ≤ W.length := List.length_filter_le _ _
        simp only [List.length_cons]
        omega)
      clear hm7 ht7 hW hW' hWm hW7 HP6 HM6 HG6 HR6 HT6 f0 f1 f2 f3 f4 f5 f6 f7 f8 h0 h1 h2 h3 h4 h5 h6 r0 r1 r2 r3 r4 q5 hrun hrun6 hlook5
      obtain ⟨r0, r1, r2, r3, r4⟩ := cell5 HR7.out
      go_wp2_with fail
      refine (write_any _ _ _ _ _ _ _ _ _ _ _ _ _ _ _ _ _ HP7.out hn hk HNEW.out).mono ?_
      rintro e w8 ⟨rfl, hp8, ht8⟩
      go_wp2_with fail
      go_end0
      rw [doS, if_pos HDN.out]
      refine ⟨rfl, hp8, ?_⟩
      exact ((Turned.of_below HB4.out).far ((HT7.out.mono (fun i hi => by rcases hi with h | h; exact .inl (.inr (.inl h)); exact .inl (.inr (.inr h)))).trans (ht8.mono (fun i hi => .inl (.inl hi)))))
  · have HDN := Lib.hid (show doneB 1 stock limit st ⟨to, o, 0, sku.data.toList, qty, amt, cd⟩ = false by unfold doneB; rw [if_pos rfl]; exact decide_eq_false (by rw [HN.out]; exact hen))
    go_quiet (fail)
    obtain ⟨r0, r1, r2, r3, r4⟩ := cell5 (show (w3.drewN nq).heap[w.heap.size + 1]? = _ from HR3.out)
    go_wp2_with fail
    have HB4 := Lib.hid (show Below w.heap.size w (w3.drewN nq) from ⟨HB3.out.os, HB3.out.tape, HB3.out.output, HB3.out.size, HB3.out.block⟩)
    have HP4 := Lib.hid (show PA (w3.drewN nq) p bk tk wh 1 stock limit seq m st from HP3.out.turned (S := fun _ => False) ⟨rfl, rfl, rfl, Nat.le_refl _, fun _ _ _ => rfl⟩ id id id id)
    refine (write_any _ _ _ _ _ _ _ _ _ _ _ _ _ _ _ _ _ HP4.out hn hk HNEW.out).mono ?_
    rintro e w5 ⟨rfl, hp5, ht5⟩
    go_wp2_with fail
    go_end0
    rw [doS, if_neg (by rw [HDN.out]; simp)]
    refine ⟨rfl, hp5.more (by omega), ?_⟩
    exact (Turned.of_below HB4.out).far (ht5.mono (fun i hi => .inl (.inl hi)))
end Go.Proofs.YtkmpagijdhhinaaDoor

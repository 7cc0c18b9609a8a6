/- A party's Ask. -/
import Derived.Test.YtkmpagijdhhinaaDoorPartyDeed
import Derived.Test.YtkmpagijdhhinaaDoorOrdersMay2
namespace Go.Proofs.YtkmpagijdhhinaaDoor
open Go.RowKit Go.Maps Key Od Pa

theorem PT.turned {w w' : World} (h : PT w) {S : Nat → Prop} (ht : Turned S w w') (hS : ¬ S 0) : PT w' := by
  unfold PT Lib.TabIs World.var? at *
  rw [gParties] at *
  simp only [Option.bind_some] at h ⊢
  by_cases hl : 0 < w.heap.size
  · rw [ht.block _ hl hS]
    exact h
  · rw [Array.getElem?_eq_none (by omega)] at h
    simp at h
theorem froz7 {w : World} {b : Nat} {cs : Array Value} {T : TypeId} (h : w.heap[b]? = some (.cells cs T (0, 0))) : w.frozen? ⟨b, 0, none⟩ = false ∧ w.frozen? ⟨b, 1, none⟩ = false ∧ w.frozen? ⟨b, 2, none⟩ = false ∧ w.frozen? ⟨b, 3, none⟩ = false ∧ w.frozen? ⟨b, 4, none⟩ = false ∧ w.frozen? ⟨b, 5, none⟩ = false ∧ w.frozen? ⟨b, 6, none⟩ = false := ⟨frozen_at h _, frozen_at h _, frozen_at h _, frozen_at h _, frozen_at h _, frozen_at h _, frozen_at h _⟩
abbrev set7w (w : World) (b : Nat) (p0 p1 p2 p3 p4 p5 p6 : Value) : World := ((((((w.setCell ⟨b, 0, none⟩ p0).setCell ⟨b, 1, none⟩ p1).setCell ⟨b, 2, none⟩ p2).setCell ⟨b, 3, none⟩ p3).setCell ⟨b, 4, none⟩ p4).setCell ⟨b, 5, none⟩ p5).setCell ⟨b, 6, none⟩ p6
theorem set7 {w : World} {b : Nat} {x0 x1 x2 x3 x4 x5 x6 : Value} {T : TypeId} (h : w.heap[b]? = some (.cells #[x0, x1, x2, x3, x4, x5, x6] T (0, 0))) (p0 p1 p2 p3 p4 p5 p6 : Value) :
    (set7w w b p0 p1 p2 p3 p4 p5 p6).heap[b]? = some (.cells #[p0, p1, p2, p3, p4, p5, p6] T (0, 0)) := by
  simp [set7w, World.setCell, Array.getElem?_modify, h]
theorem drew_heap (w : World) : w.drew.heap = w.heap := rfl
theorem set7d {w : World} {b : Nat} {x0 x1 x2 x3 x4 x5 x6 : Value} {T : TypeId} (h : w.heap[b]? = some (.cells #[x0, x1, x2, x3, x4, x5, x6] T (0, 0))) (p0 p1 p2 p3 p4 p5 p6 : Value) :
    (set7w w b p0 p1 p2 p3 p4 p5 p6).drew.heap[b]? = some (.cells #[p0, p1, p2, p3, p4, p5, p6] T (0, 0)) := by
  rw [drew_heap]
  exact set7 h p0 p1 p2 p3 p4 p5 p6
theorem turned_set7 (w : World) (b : Nat) (p0 p1 p2 p3 p4 p5 p6 : Value) : Turned (fun j => j = b) w (set7w w b p0 p1 p2 p3 p4 p5 p6) :=
  ((((((turned_set w b 0 p0).trans (turned_set _ b 1 p1)).trans (turned_set _ b 2 p2)).trans (turned_set _ b 3 p3)).trans (turned_set _ b 4 p4)).trans (turned_set _ b 5 p5)).trans (turned_set _ b 6 p6)
theorem Turned.drewN {S : Nat → Prop} {a b : World} (h : Turned S a b) (n : Nat) : Turned S a (b.drewN n) := ⟨h.os, h.tape, h.output, h.size, h.block⟩
theorem Turned.drew {S : Nat → Prop} {a b : World} (h : Turned S a b) : Turned S a b.drew := ⟨h.os, h.tape, h.output, h.size, h.block⟩

theorem field_code (o d c a q : Int) (w : World) : (Instr.field tRow (.agg #[.int .i64 o, .int .i64 d, .int .i64 c, .int .i64 a, .int .i64 q]) 1).run Tryd.prog w = .ok (.int .i64 c) w := by kernel_rfl

/-- An answer. -/
def ansM (o d : Int) : Option Int → Value
  | none => .agg #[.int .i64 0, .int .i64 0, .int .i64 0, .string ⟨#[]⟩, .int .i64 0, .int .i64 0, .int .i64 0]
  | some c => .agg #[.int .i64 3, .int .i64 o, .int .i64 d, .string ⟨#[]⟩, .int .i64 0, .int .i64 0, .int .i64 c]

theorem ask_find {kind stock limit : Int} {st : St} (g : Pa.Good kind stock st) {m : Ms} (hm : m.may = true) (ht : m.to = kind) : ∃ y, findR (askS kind stock limit st m).rows (m.o, m.d) = some y := by
  have g' := Pa.Good.ask (limit := limit) g m
  have h : ∃ y ∈ (askS kind stock limit st m).rows, y.1 = (m.o, m.d) := by
    unfold askS
    rw [hm, if_pos (by simp [ht])]
    split
    · rename_i hf
      obtain ⟨x, hx⟩ := Option.isSome_iff_exists.1 hf
      exact ⟨x, (find_some hx).1, (find_some hx).2⟩
    · unfold nextS
      split
      · unfold undoS
        exact ⟨_, mem_ins.2 (.inl rfl), rfl⟩
      · unfold doS
        split
        · exact ⟨_, mem_ins.2 (.inl rfl), rfl⟩
        · exact ⟨_, mem_ins.2 (.inl rfl), rfl⟩
  obtain ⟨y, hy, e⟩ := h
  exact ⟨y, by rw [← e]; exact find_of g'.rise hy⟩

set_option linter.unusedSimpArgs false in
set_option linter.unusedVariables false in
set_option maxRecDepth 100000 in
set_option maxHeartbeats 4000000 in
theorem ask_other (w : World) (p bk tk wh : Nat) (kind stock limit seq : Int) (m : Nat) (st : St) (to o d : Int) (sku : ByteArray) (qty amt cd : Int) (h : PA w p bk tk wh kind stock limit seq m st) (g : Pa.Good kind stock st) (hT : PT w) (hst : 0 ≤ stock ∧ stock ≤ 1000000000) (hn : st.rows.length < 80000) (hm : m < 90000) (hs : sku.size ≤ 1000000000000)
    (hto : to ≠ kind) :
    Calls Tryd.prog 13 #[.pointer (some ⟨p, 0, none⟩), .agg #[.int .i64 to, .int .i64 o, .int .i64 d, .string sku, .int .i64 qty, .int .i64 amt, .int .i64 cd]] w fun e w' => e = .returned (.tuple #[ansM o d (ansS kind stock limit st ⟨to, o, d, sku.data.toList, qty, amt, cd⟩), .bool (ansS kind stock limit st ⟨to, o, d, sku.data.toList, qty, amt, cd⟩).isSome]) ∧ PA w' p bk tk wh kind stock limit seq (m + 1) (askS kind stock limit st ⟨to, o, d, sku.data.toList, qty, amt, cd⟩) ∧ Turned (fun i => i = bk ∨ i = tk ∨ i = wh) w w' := by
  have HP := Lib.hid h
  have hl := h.lt
  have HG := Lib.hid g
  have HM := Lib.hid (heap_keep (heap_new w (.cells #[.int .i64 to, .int .i64 o, .int .i64 d, .string sku, .int .i64 qty, .int .i64 amt, .int .i64 cd] tMsg)) (below_alloc _ (.cells #[.int .i64 0, .int .i64 0, .int .i64 0, .string ⟨#[]⟩, .int .i64 0, .int .i64 0, .int .i64 0] tMsg)))
  have hr1 := heap_new (w.alloc (.cells #[.int .i64 to, .int .i64 o, .int .i64 d, .string sku, .int .i64 qty, .int .i64 amt, .int .i64 cd] tMsg)) (.cells #[.int .i64 0, .int .i64 0, .int .i64 0, .string ⟨#[]⟩, .int .i64 0, .int .i64 0, .int .i64 0] tMsg)
  rw [show (w.alloc (.cells #[.int .i64 to, .int .i64 o, .int .i64 d, .string sku, .int .i64 qty, .int .i64 amt, .int .i64 cd] tMsg)).heap.size = w.heap.size + 1 by simp] at hr1
  have HZ := Lib.hid hr1
  have HB := Lib.hid ((below_alloc w (.cells #[.int .i64 to, .int .i64 o, .int .i64 d, .string sku, .int .i64 qty, .int .i64 amt, .int .i64 cd] tMsg)).alloc (by simp) (.cells #[.int .i64 0, .int .i64 0, .int .i64 0, .string ⟨#[]⟩, .int .i64 0, .int .i64 0, .int .i64 0] tMsg))
  have HT := Lib.hid hT
  have HA := Lib.hid (show ansS kind stock limit st ⟨to, o, d, sku.data.toList, qty, amt, cd⟩ = none ∧ askS kind stock limit st ⟨to, o, d, sku.data.toList, qty, amt, cd⟩ = st by unfold ansS askS; simp [hto])
  have hne := bneT hto
  clear hto
  clear h g hr1 hT
  go_enter Tryd.func13, Tryd.ntmps13
  go_wp2_with fail
  generalize (w.alloc (.cells #[.int .i64 to, .int .i64 o, .int .i64 d, .string sku, .int .i64 qty, .int .i64 amt, .int .i64 cd] tMsg)).alloc (.cells #[.int .i64 0, .int .i64 0, .int .i64 0, .string ⟨#[]⟩, .int .i64 0, .int .i64 0, .int .i64 0] tMsg) = wa at HM HZ HB ⊢
  have HPa := Lib.hid (HP.out.below HB.out)
  have HPh := Lib.hid HPa.out.hd
  have HN := Lib.hid (fun W (hb : Below wa.heap.size wa W) => nonep_no W p bk tk wh kind stock limit seq m st (HPa.out.below hb))
  have HMay := Lib.hid (fun W (hb : Below wa.heap.size wa W) => may_any W to o d sku qty amt cd hs ((HT.out.below HB.out).below hb))
  refine wp_region_noPanic ?_
  refine wp_region_held_drew (S := (fun w' => Hid (Below wa.heap.size wa w') ∧ w'.cell? ⟨w.heap.size, 0, none⟩ = some (.int .i64 to) ∧ w'.cell? ⟨w.heap.size, 1, none⟩ = some (.int .i64 o) ∧ w'.cell? ⟨w.heap.size, 2, none⟩ = some (.int .i64 d) ∧ w'.cell? ⟨w.heap.size, 3, none⟩ = some (.string sku) ∧ w'.cell? ⟨w.heap.size, 4, none⟩ = some (.int .i64 qty) ∧ w'.cell? ⟨w.heap.size, 5, none⟩ = some (.int .i64 amt) ∧ w'.cell? ⟨w.heap.size, 6, none⟩ = some (.int .i64 cd) ∧ w'.cell? ⟨p, 0, none⟩ = some (.int .i64 kind))) (by kernel_rfl) ⟨(below_drew1 (Below.refl _ wa)), cell_at ((((below_drew1 (Below.refl _ wa))).block _ (heap_lt HM.out)).trans HM.out) 0 rfl, cell_at ((((below_drew1 (Below.refl _ wa))).block _ (heap_lt HM.out)).trans HM.out) 1 rfl, cell_at ((((below_drew1 (Below.refl _ wa))).block _ (heap_lt HM.out)).trans HM.out) 2 rfl, cell_at ((((below_drew1 (Below.refl _ wa))).block _ (heap_lt HM.out)).trans HM.out) 3 rfl, cell_at ((((below_drew1 (Below.refl _ wa))).block _ (heap_lt HM.out)).trans HM.out) 4 rfl, cell_at ((((below_drew1 (Below.refl _ wa))).block _ (heap_lt HM.out)).trans HM.out) 5 rfl, cell_at ((((below_drew1 (Below.refl _ wa))).block _ (heap_lt HM.out)).trans HM.out) 6 rfl, cell_at ((((below_drew1 (Below.refl _ wa))).block _ (heap_lt HPh.out)).trans HPh.out) 0 rfl⟩ (fun hHeld => ?_)
  refine wpAnyH_take (i := 0) (v := ?va0) rfl (by kernel_rfl) (by kernel_rfl) (by kernel_rfl) (fun _ _ _ h => h) (Or.inl ⟨by rfl, ?hya0⟩) (by assumption) ?resta0
  case hya0 => (intro w0 hSw; (try dsimp only at hSw); go_simp; try with_reducible rfl)
  case' resta0 => try simp only [Act.put, List.getElem_toArray, List.getElem_cons_zero, List.getElem_cons_succ, List.setIfInBounds_toArray, List.set_cons_zero, List.set_cons_succ]
  refine wpAnyH_ready (rs := [1]) (by kernel_rfl) (by simp) ?_
  refine AllReadyH.cons rfl (fun K hK => ?_) AllReadyH.nil
  go_simp
  refine (HN.out _ (Hid.out (And.left (by assumption)))).mono ?_; rintro e w1 ⟨rfl, hb⟩; subst hb
  refine hK.out _ _ (by assumption) (fun hHeld => ?_)
  clear hK K
  try simp only [Act.put, List.getElem_toArray, List.getElem_cons_zero, List.getElem_cons_succ, List.setIfInBounds_toArray, List.set_cons_zero, List.set_cons_succ]
  refine wpAnyH_take (i := 2) (v := ?va2) rfl (by kernel_rfl) (by kernel_rfl) (by kernel_rfl) (fun _ _ _ h => h) (Or.inl ⟨by rfl, ?hya2⟩) (by assumption) ?resta2
  case hya2 => (intro w0 hSw; (try dsimp only at hSw); go_simp; try with_reducible rfl)
  case' resta2 => try simp only [Act.put, List.getElem_toArray, List.getElem_cons_zero, List.getElem_cons_succ, List.setIfInBounds_toArray, List.set_cons_zero, List.set_cons_succ]
  refine wpAnyH_take (i := 3) (v := ?va3) rfl (by kernel_rfl) (by kernel_rfl) (by kernel_rfl) (fun _ _ _ h => h) (Or.inl ⟨by rfl, ?hya3⟩) (by assumption) ?resta3
  case hya3 => (intro w0 hSw; (try dsimp only at hSw); go_simp; try with_reducible rfl)
  case' resta3 => try simp only [Act.put, List.getElem_toArray, List.getElem_cons_zero, List.getElem_cons_succ, List.setIfInBounds_toArray, List.set_cons_zero, List.set_cons_succ]
  refine wpAnyH_take (i := 4) (v := ?va4) rfl (by kernel_rfl) (by kernel_rfl) (by kernel_rfl) (fun _ _ _ h => h) (Or.inl ⟨by rfl, ?hya4⟩) (by assumption) ?resta4
  case hya4 => (intro w0 hSw; (try dsimp only at hSw); go_simp; try with_reducible rfl)
  case' resta4 => try simp only [Act.put, List.getElem_toArray, List.getElem_cons_zero, List.getElem_cons_succ, List.setIfInBounds_toArray, List.set_cons_zero, List.set_cons_succ]
  refine wpAnyH_take (i := 5) (v := ?va5) rfl (by kernel_rfl) (by kernel_rfl) (by kernel_rfl) (fun _ _ _ h => h) (Or.inl ⟨by rfl, ?hya5⟩) (by assumption) ?resta5
  case hya5 => (intro w0 hSw; (try dsimp only at hSw); go_simp; try with_reducible rfl)
  case' resta5 => try simp only [Act.put, List.getElem_toArray, List.getElem_cons_zero, List.getElem_cons_succ, List.setIfInBounds_toArray, List.set_cons_zero, List.set_cons_succ]
  refine wpAnyH_take (i := 6) (v := ?va6) rfl (by kernel_rfl) (by kernel_rfl) (by kernel_rfl) (fun _ _ _ h => h) (Or.inl ⟨by rfl, ?hya6⟩) (by assumption) ?resta6
  case hya6 => (intro w0 hSw; (try dsimp only at hSw); go_simp; try with_reducible rfl)
  case' resta6 => try simp only [Act.put, List.getElem_toArray, List.getElem_cons_zero, List.getElem_cons_succ, List.setIfInBounds_toArray, List.set_cons_zero, List.set_cons_succ]
  refine wpAnyH_take (i := 7) (v := ?va7) rfl (by kernel_rfl) (by kernel_rfl) (by kernel_rfl) (fun _ _ _ h => h) (Or.inl ⟨by rfl, ?hya7⟩) (by assumption) ?resta7
  case hya7 => (intro w0 hSw; (try dsimp only at hSw); go_simp; try with_reducible rfl)
  case' resta7 => try simp only [Act.put, List.getElem_toArray, List.getElem_cons_zero, List.getElem_cons_succ, List.setIfInBounds_toArray, List.set_cons_zero, List.set_cons_succ]
  refine wpAnyH_take (i := 8) (v := ?va8) rfl (by kernel_rfl) (by kernel_rfl) (by kernel_rfl) (fun _ _ _ h => h) (Or.inl ⟨by rfl, ?hya8⟩) (by assumption) ?resta8
  case hya8 => (intro w0 hSw; (try dsimp only at hSw); go_simp; try with_reducible rfl)
  case' resta8 => try simp only [Act.put, List.getElem_toArray, List.getElem_cons_zero, List.getElem_cons_succ, List.setIfInBounds_toArray, List.set_cons_zero, List.set_cons_succ]
  refine wpAnyH_take (i := 9) (v := ?va9) rfl (by kernel_rfl) (by kernel_rfl) (by kernel_rfl) (fun _ _ _ h => h) (Or.inl ⟨by rfl, ?hya9⟩) (by assumption) ?resta9
  case hya9 => (intro w0 hSw; (try dsimp only at hSw); go_simp; try with_reducible rfl)
  case' resta9 => try simp only [Act.put, List.getElem_toArray, List.getElem_cons_zero, List.getElem_cons_succ, List.setIfInBounds_toArray, List.set_cons_zero, List.set_cons_succ]
  refine wpAnyH_take (i := 10) (v := ?va10) rfl (by kernel_rfl) (by kernel_rfl) (by kernel_rfl) (fun _ _ _ h => h) (Or.inl ⟨by rfl, ?hya10⟩) (by assumption) ?resta10
  case hya10 => (intro w0 hSw; (try dsimp only at hSw); go_simp; try with_reducible rfl)
  case' resta10 => try simp only [Act.put, List.getElem_toArray, List.getElem_cons_zero, List.getElem_cons_succ, List.setIfInBounds_toArray, List.set_cons_zero, List.set_cons_succ]
  refine wpAnyH_take (i := 11) (v := ?va11) rfl (by kernel_rfl) (by kernel_rfl) (by kernel_rfl) (fun _ _ _ h => h) (Or.inl ⟨by rfl, ?hya11⟩) (by assumption) ?resta11
  case hya11 => (intro w0 hSw; (try dsimp only at hSw); go_simp; try with_reducible rfl)
  case' resta11 => try simp only [Act.put, List.getElem_toArray, List.getElem_cons_zero, List.getElem_cons_succ, List.setIfInBounds_toArray, List.set_cons_zero, List.set_cons_succ]
  refine wpAnyH_take (i := 12) (v := undef) rfl (by kernel_rfl) (by kernel_rfl) (by kernel_rfl) (fun _ _ _ h => h) (Or.inr ⟨by rfl, rfl⟩) (by assumption) ?_
  try simp only [Act.put, List.getElem_toArray, List.getElem_cons_zero, List.getElem_cons_succ, List.setIfInBounds_toArray, List.set_cons_zero, List.set_cons_succ]
  refine wpAnyH_take (i := 13) (v := undef) rfl (by kernel_rfl) (by kernel_rfl) (by kernel_rfl) (fun _ _ _ h => h) (Or.inr ⟨by rfl, rfl⟩) (by assumption) ?_
  try simp only [Act.put, List.getElem_toArray, List.getElem_cons_zero, List.getElem_cons_succ, List.setIfInBounds_toArray, List.set_cons_zero, List.set_cons_succ]
  refine wpAnyH_take (i := 14) (v := undef) rfl (by kernel_rfl) (by kernel_rfl) (by kernel_rfl) (fun _ _ _ h => h) (Or.inr ⟨by rfl, rfl⟩) (by assumption) ?_
  try simp only [Act.put, List.getElem_toArray, List.getElem_cons_zero, List.getElem_cons_succ, List.setIfInBounds_toArray, List.set_cons_zero, List.set_cons_succ]
  refine wpAnyH_take (i := 15) (v := ?va15) rfl (by kernel_rfl) (by kernel_rfl) (by kernel_rfl) (fun _ _ _ h => h) (Or.inl ⟨by rfl, ?hya15⟩) (by assumption) ?resta15
  case hya15 => (intro w0 hSw; (try dsimp only at hSw); go_simp; try with_reducible rfl)
  case' resta15 => try simp only [Act.put, List.getElem_toArray, List.getElem_cons_zero, List.getElem_cons_succ, List.setIfInBounds_toArray, List.set_cons_zero, List.set_cons_succ]
  refine wpAnyH_done (by kernel_rfl) ?_ _
  refine NoPanic.normal ?_
  have HBx := Lib.hid (Hid.out hHeld.1)
  have HZx := Lib.hid (heap_keep HZ.out HBx.out)
  clear hHeld
  generalize wa.drew = wx at HBx HZx ⊢
  obtain ⟨z0, z1, z2, z3, z4, z5, z6⟩ := cell7 HZx.out
  obtain ⟨f0, f1, f2, f3, f4, f5, f6⟩ := froz7 HZx.out
  go_wp2_with fail
  have hset := set7 HZx.out (.int .i64 0) (.int .i64 0) (.int .i64 0) (.string ⟨#[]⟩) (.int .i64 0) (.int .i64 0) (.int .i64 0)
  have HTu := Lib.hid (turned_set7 wx (w.heap.size + 1) (.int .i64 0) (.int .i64 0) (.int .i64 0) (.string ⟨#[]⟩) (.int .i64 0) (.int .i64 0) (.int .i64 0))
  unfold set7w at hset HTu
  have HWx := Lib.hid (Turned.trans (Turned.of_below (S := fun i => i = w.heap.size + 1) HB.out) ((Turned.of_below HBx.out).trans HTu.out))
  obtain ⟨m0, m1, m2, m3, m4, m5, m6⟩ := cell7 hset
  refine bodyPost_ret (v := .tuple #[ansM o d none, .bool false]) ?_ rfl ⟨by rw [HA.out.1]; rfl, ?_, ?_⟩
  · clear hset HTu HWx
    simp [results, Tryd.results13, go_sem, m0, m1, m2, m3, m4, m5, m6, ansM]
  · rw [HA.out.2]
    exact (HP.out.turned HWx.out (by omega) (by omega) (by omega) (by omega)).more (by omega)
  · exact (Turned.refl _ w).far (HWx.out.mono (fun i hi => .inr (by omega)))

set_option linter.unusedSimpArgs false in
set_option linter.unusedVariables false in
set_option maxRecDepth 100000 in
set_option maxHeartbeats 4000000 in
theorem ask_maynot (w : World) (p bk tk wh : Nat) (kind stock limit seq : Int) (m : Nat) (st : St) (o d : Int) (sku : ByteArray) (qty amt cd : Int) (h : PA w p bk tk wh kind stock limit seq m st) (g : Pa.Good kind stock st) (hT : PT w) (hst : 0 ≤ stock ∧ stock ≤ 1000000000) (hn : st.rows.length < 80000) (hm : m < 90000) (hs : sku.size ≤ 1000000000000)
    (hmay : mayB kind o d sku.data.toList qty amt cd = false) :
    Calls Tryd.prog 13 #[.pointer (some ⟨p, 0, none⟩), .agg #[.int .i64 kind, .int .i64 o, .int .i64 d, .string sku, .int .i64 qty, .int .i64 amt, .int .i64 cd]] w fun e w' => e = .returned (.tuple #[ansM o d (ansS kind stock limit st ⟨kind, o, d, sku.data.toList, qty, amt, cd⟩), .bool (ansS kind stock limit st ⟨kind, o, d, sku.data.toList, qty, amt, cd⟩).isSome]) ∧ PA w' p bk tk wh kind stock limit seq (m + 1) (askS kind stock limit st ⟨kind, o, d, sku.data.toList, qty, amt, cd⟩) ∧ Turned (fun i => i = bk ∨ i = tk ∨ i = wh) w w' := by
  have HP := Lib.hid h
  have hl := h.lt
  have HG := Lib.hid g
  have HM := Lib.hid (heap_keep (heap_new w (.cells #[.int .i64 kind, .int .i64 o, .int .i64 d, .string sku, .int .i64 qty, .int .i64 amt, .int .i64 cd] tMsg)) (below_alloc _ (.cells #[.int .i64 0, .int .i64 0, .int .i64 0, .string ⟨#[]⟩, .int .i64 0, .int .i64 0, .int .i64 0] tMsg)))
  have hr1 := heap_new (w.alloc (.cells #[.int .i64 kind, .int .i64 o, .int .i64 d, .string sku, .int .i64 qty, .int .i64 amt, .int .i64 cd] tMsg)) (.cells #[.int .i64 0, .int .i64 0, .int .i64 0, .string ⟨#[]⟩, .int .i64 0, .int .i64 0, .int .i64 0] tMsg)
  rw [show (w.alloc (.cells #[.int .i64 kind, .int .i64 o, .int .i64 d, .string sku, .int .i64 qty, .int .i64 amt, .int .i64 cd] tMsg)).heap.size = w.heap.size + 1 by simp] at hr1
  have HZ := Lib.hid hr1
  have HB := Lib.hid ((below_alloc w (.cells #[.int .i64 kind, .int .i64 o, .int .i64 d, .string sku, .int .i64 qty, .int .i64 amt, .int .i64 cd] tMsg)).alloc (by simp) (.cells #[.int .i64 0, .int .i64 0, .int .i64 0, .string ⟨#[]⟩, .int .i64 0, .int .i64 0, .int .i64 0] tMsg))
  have HT := Lib.hid hT
  have HA := Lib.hid (show ansS kind stock limit st ⟨kind, o, d, sku.data.toList, qty, amt, cd⟩ = none ∧ askS kind stock limit st ⟨kind, o, d, sku.data.toList, qty, amt, cd⟩ = st by unfold ansS askS; simp [Ms.may, hmay])
  have hne := bneF (rfl : kind = kind)
  clear h g hr1 hT
  go_enter Tryd.func13, Tryd.ntmps13
  go_wp2_with fail
  generalize (w.alloc (.cells #[.int .i64 kind, .int .i64 o, .int .i64 d, .string sku, .int .i64 qty, .int .i64 amt, .int .i64 cd] tMsg)).alloc (.cells #[.int .i64 0, .int .i64 0, .int .i64 0, .string ⟨#[]⟩, .int .i64 0, .int .i64 0, .int .i64 0] tMsg) = wa at HM HZ HB ⊢
  have HPa := Lib.hid (HP.out.below HB.out)
  have HPh := Lib.hid HPa.out.hd
  have HN := Lib.hid (fun W (hb : Below wa.heap.size wa W) => nonep_no W p bk tk wh kind stock limit seq m st (HPa.out.below hb))
  have HMay := Lib.hid (fun W (hb : Below wa.heap.size wa W) => may_any W kind o d sku qty amt cd hs ((HT.out.below HB.out).below hb))
  simp only [hmay] at HMay
  clear hmay
  refine wp_region_noPanic ?_
  refine wp_region_held_drew (S := (fun w' => Hid (Below wa.heap.size wa w') ∧ w'.cell? ⟨w.heap.size, 0, none⟩ = some (.int .i64 kind) ∧ w'.cell? ⟨w.heap.size, 1, none⟩ = some (.int .i64 o) ∧ w'.cell? ⟨w.heap.size, 2, none⟩ = some (.int .i64 d) ∧ w'.cell? ⟨w.heap.size, 3, none⟩ = some (.string sku) ∧ w'.cell? ⟨w.heap.size, 4, none⟩ = some (.int .i64 qty) ∧ w'.cell? ⟨w.heap.size, 5, none⟩ = some (.int .i64 amt) ∧ w'.cell? ⟨w.heap.size, 6, none⟩ = some (.int .i64 cd) ∧ w'.cell? ⟨p, 0, none⟩ = some (.int .i64 kind))) (by kernel_rfl) ⟨(below_drew1 (Below.refl _ wa)), cell_at ((((below_drew1 (Below.refl _ wa))).block _ (heap_lt HM.out)).trans HM.out) 0 rfl, cell_at ((((below_drew1 (Below.refl _ wa))).block _ (heap_lt HM.out)).trans HM.out) 1 rfl, cell_at ((((below_drew1 (Below.refl _ wa))).block _ (heap_lt HM.out)).trans HM.out) 2 rfl, cell_at ((((below_drew1 (Below.refl _ wa))).block _ (heap_lt HM.out)).trans HM.out) 3 rfl, cell_at ((((below_drew1 (Below.refl _ wa))).block _ (heap_lt HM.out)).trans HM.out) 4 rfl, cell_at ((((below_drew1 (Below.refl _ wa))).block _ (heap_lt HM.out)).trans HM.out) 5 rfl, cell_at ((((below_drew1 (Below.refl _ wa))).block _ (heap_lt HM.out)).trans HM.out) 6 rfl, cell_at ((((below_drew1 (Below.refl _ wa))).block _ (heap_lt HPh.out)).trans HPh.out) 0 rfl⟩ (fun hHeld => ?_)
  refine wpAnyH_take (i := 0) (v := ?vb0) rfl (by kernel_rfl) (by kernel_rfl) (by kernel_rfl) (fun _ _ _ h => h) (Or.inl ⟨by rfl, ?hyb0⟩) (by assumption) ?restb0
  case hyb0 => (intro w0 hSw; (try dsimp only at hSw); go_simp; try with_reducible rfl)
  case' restb0 => try simp only [Act.put, List.getElem_toArray, List.getElem_cons_zero, List.getElem_cons_succ, List.setIfInBounds_toArray, List.set_cons_zero, List.set_cons_succ]
  refine wpAnyH_ready (rs := [1]) (by kernel_rfl) (by simp) ?_
  refine AllReadyH.cons rfl (fun K hK => ?_) AllReadyH.nil
  go_simp
  refine (HN.out _ (Hid.out (And.left (by assumption)))).mono ?_; rintro e w1 ⟨rfl, hb⟩; subst hb
  refine hK.out _ _ (by assumption) (fun hHeld => ?_)
  clear hK K
  try simp only [Act.put, List.getElem_toArray, List.getElem_cons_zero, List.getElem_cons_succ, List.setIfInBounds_toArray, List.set_cons_zero, List.set_cons_succ]
  refine wpAnyH_take (i := 2) (v := ?vb2) rfl (by kernel_rfl) (by kernel_rfl) (by kernel_rfl) (fun _ _ _ h => h) (Or.inl ⟨by rfl, ?hyb2⟩) (by assumption) ?restb2
  case hyb2 => (intro w0 hSw; (try dsimp only at hSw); go_simp; try with_reducible rfl)
  case' restb2 => try simp only [Act.put, List.getElem_toArray, List.getElem_cons_zero, List.getElem_cons_succ, List.setIfInBounds_toArray, List.set_cons_zero, List.set_cons_succ]
  refine wpAnyH_take (i := 3) (v := ?vb3) rfl (by kernel_rfl) (by kernel_rfl) (by kernel_rfl) (fun _ _ _ h => h) (Or.inl ⟨by rfl, ?hyb3⟩) (by assumption) ?restb3
  case hyb3 => (intro w0 hSw; (try dsimp only at hSw); go_simp; try with_reducible rfl)
  case' restb3 => try simp only [Act.put, List.getElem_toArray, List.getElem_cons_zero, List.getElem_cons_succ, List.setIfInBounds_toArray, List.set_cons_zero, List.set_cons_succ]
  refine wpAnyH_take (i := 4) (v := ?vb4) rfl (by kernel_rfl) (by kernel_rfl) (by kernel_rfl) (fun _ _ _ h => h) (Or.inl ⟨by rfl, ?hyb4⟩) (by assumption) ?restb4
  case hyb4 => (intro w0 hSw; (try dsimp only at hSw); go_simp; try with_reducible rfl)
  case' restb4 => try simp only [Act.put, List.getElem_toArray, List.getElem_cons_zero, List.getElem_cons_succ, List.setIfInBounds_toArray, List.set_cons_zero, List.set_cons_succ]
  refine wpAnyH_take (i := 5) (v := ?vb5) rfl (by kernel_rfl) (by kernel_rfl) (by kernel_rfl) (fun _ _ _ h => h) (Or.inl ⟨by rfl, ?hyb5⟩) (by assumption) ?restb5
  case hyb5 => (intro w0 hSw; (try dsimp only at hSw); go_simp; try with_reducible rfl)
  case' restb5 => try simp only [Act.put, List.getElem_toArray, List.getElem_cons_zero, List.getElem_cons_succ, List.setIfInBounds_toArray, List.set_cons_zero, List.set_cons_succ]
  refine wpAnyH_take (i := 6) (v := ?vb6) rfl (by kernel_rfl) (by kernel_rfl) (by kernel_rfl) (fun _ _ _ h => h) (Or.inl ⟨by rfl, ?hyb6⟩) (by assumption) ?restb6
  case hyb6 => (intro w0 hSw; (try dsimp only at hSw); go_simp; try with_reducible rfl)
  case' restb6 => try simp only [Act.put, List.getElem_toArray, List.getElem_cons_zero, List.getElem_cons_succ, List.setIfInBounds_toArray, List.set_cons_zero, List.set_cons_succ]
  refine wpAnyH_take (i := 7) (v := ?vb7) rfl (by kernel_rfl) (by kernel_rfl) (by kernel_rfl) (fun _ _ _ h => h) (Or.inl ⟨by rfl, ?hyb7⟩) (by assumption) ?restb7
  case hyb7 => (intro w0 hSw; (try dsimp only at hSw); go_simp; try with_reducible rfl)
  case' restb7 => try simp only [Act.put, List.getElem_toArray, List.getElem_cons_zero, List.getElem_cons_succ, List.setIfInBounds_toArray, List.set_cons_zero, List.set_cons_succ]
  refine wpAnyH_take (i := 8) (v := ?vb8) rfl (by kernel_rfl) (by kernel_rfl) (by kernel_rfl) (fun _ _ _ h => h) (Or.inl ⟨by rfl, ?hyb8⟩) (by assumption) ?restb8
  case hyb8 => (intro w0 hSw; (try dsimp only at hSw); go_simp; try with_reducible rfl)
  case' restb8 => try simp only [Act.put, List.getElem_toArray, List.getElem_cons_zero, List.getElem_cons_succ, List.setIfInBounds_toArray, List.set_cons_zero, List.set_cons_succ]
  refine wpAnyH_take (i := 9) (v := ?vb9) rfl (by kernel_rfl) (by kernel_rfl) (by kernel_rfl) (fun _ _ _ h => h) (Or.inl ⟨by rfl, ?hyb9⟩) (by assumption) ?restb9
  case hyb9 => (intro w0 hSw; (try dsimp only at hSw); go_simp; try with_reducible rfl)
  case' restb9 => try simp only [Act.put, List.getElem_toArray, List.getElem_cons_zero, List.getElem_cons_succ, List.setIfInBounds_toArray, List.set_cons_zero, List.set_cons_succ]
  refine wpAnyH_take (i := 10) (v := ?vb10) rfl (by kernel_rfl) (by kernel_rfl) (by kernel_rfl) (fun _ _ _ h => h) (Or.inl ⟨by rfl, ?hyb10⟩) (by assumption) ?restb10
  case hyb10 => (intro w0 hSw; (try dsimp only at hSw); go_simp; try with_reducible rfl)
  case' restb10 => try simp only [Act.put, List.getElem_toArray, List.getElem_cons_zero, List.getElem_cons_succ, List.setIfInBounds_toArray, List.set_cons_zero, List.set_cons_succ]
  refine wpAnyH_take (i := 11) (v := ?vb11) rfl (by kernel_rfl) (by kernel_rfl) (by kernel_rfl) (fun _ _ _ h => h) (Or.inl ⟨by rfl, ?hyb11⟩) (by assumption) ?restb11
  case hyb11 => (intro w0 hSw; (try dsimp only at hSw); go_simp; try with_reducible rfl)
  case' restb11 => try simp only [Act.put, List.getElem_toArray, List.getElem_cons_zero, List.getElem_cons_succ, List.setIfInBounds_toArray, List.set_cons_zero, List.set_cons_succ]
  refine wpAnyH_take (i := 12) (v := ?vb12) rfl (by kernel_rfl) (by kernel_rfl) (by kernel_rfl) (fun _ _ _ h => h) (Or.inl ⟨by rfl, ?hyb12⟩) (by assumption) ?restb12
  case hyb12 => (intro w0 hSw; (try dsimp only at hSw); go_simp; try with_reducible rfl)
  case' restb12 => try simp only [Act.put, List.getElem_toArray, List.getElem_cons_zero, List.getElem_cons_succ, List.setIfInBounds_toArray, List.set_cons_zero, List.set_cons_succ]
  refine wpAnyH_ready (rs := [13]) (by kernel_rfl) (by simp) ?_
  refine AllReadyH.cons rfl (fun K hK => ?_) AllReadyH.nil
  go_simp
  refine (HMay.out _ (Hid.out (And.left (by assumption)))).mono ?_; rintro e w1 ⟨rfl, hb⟩
  have hbk := bch (Hid.out (And.left (by assumption))) hb (Below.size (Hid.out (And.left (by assumption))))
  refine hK.out _ _ ⟨hbk, cell_at (((hbk).block _ (heap_lt HM.out)).trans HM.out) 0 rfl, cell_at (((hbk).block _ (heap_lt HM.out)).trans HM.out) 1 rfl, cell_at (((hbk).block _ (heap_lt HM.out)).trans HM.out) 2 rfl, cell_at (((hbk).block _ (heap_lt HM.out)).trans HM.out) 3 rfl, cell_at (((hbk).block _ (heap_lt HM.out)).trans HM.out) 4 rfl, cell_at (((hbk).block _ (heap_lt HM.out)).trans HM.out) 5 rfl, cell_at (((hbk).block _ (heap_lt HM.out)).trans HM.out) 6 rfl, cell_at (((hbk).block _ (heap_lt HPh.out)).trans HPh.out) 0 rfl⟩ (fun hHeld => ?_)
  clear hK K hb hbk
  try simp only [Act.put, List.getElem_toArray, List.getElem_cons_zero, List.getElem_cons_succ, List.setIfInBounds_toArray, List.set_cons_zero, List.set_cons_succ]
  refine wpAnyH_take (i := 14) (v := ?vb14) rfl (by kernel_rfl) (by kernel_rfl) (by kernel_rfl) (fun _ _ _ h => h) (Or.inl ⟨by rfl, ?hyb14⟩) (by assumption) ?restb14
  case hyb14 => (intro w0 hSw; (try dsimp only at hSw); go_simp; try with_reducible rfl)
  case' restb14 => try simp only [Act.put, List.getElem_toArray, List.getElem_cons_zero, List.getElem_cons_succ, List.setIfInBounds_toArray, List.set_cons_zero, List.set_cons_succ]
  refine wpAnyH_take (i := 15) (v := ?vb15) rfl (by kernel_rfl) (by kernel_rfl) (by kernel_rfl) (fun _ _ _ h => h) (Or.inl ⟨by rfl, ?hyb15⟩) (by assumption) ?restb15
  case hyb15 => (intro w0 hSw; (try dsimp only at hSw); go_simp; try with_reducible rfl)
  case' restb15 => try simp only [Act.put, List.getElem_toArray, List.getElem_cons_zero, List.getElem_cons_succ, List.setIfInBounds_toArray, List.set_cons_zero, List.set_cons_succ]
  refine wpAnyH_done (by kernel_rfl) ?_ _
  refine NoPanic.normal ?_
  have HBx := Lib.hid (Hid.out hHeld.1)
  have HZx := Lib.hid (heap_keep HZ.out HBx.out)
  clear hHeld
  generalize w1 = wx at HBx HZx ⊢
  obtain ⟨z0, z1, z2, z3, z4, z5, z6⟩ := cell7 HZx.out
  obtain ⟨f0, f1, f2, f3, f4, f5, f6⟩ := froz7 HZx.out
  go_wp2_with fail
  have hset := set7 HZx.out (.int .i64 0) (.int .i64 0) (.int .i64 0) (.string ⟨#[]⟩) (.int .i64 0) (.int .i64 0) (.int .i64 0)
  have HTu := Lib.hid (turned_set7 wx (w.heap.size + 1) (.int .i64 0) (.int .i64 0) (.int .i64 0) (.string ⟨#[]⟩) (.int .i64 0) (.int .i64 0) (.int .i64 0))
  unfold set7w at hset HTu
  have HWx := Lib.hid (Turned.trans (Turned.of_below (S := fun i => i = w.heap.size + 1) HB.out) ((Turned.of_below HBx.out).trans HTu.out))
  obtain ⟨m0, m1, m2, m3, m4, m5, m6⟩ := cell7 hset
  refine bodyPost_ret (v := .tuple #[ansM o d none, .bool false]) ?_ rfl ⟨by rw [HA.out.1]; rfl, ?_, ?_⟩
  · clear hset HTu HWx
    simp [results, Tryd.results13, go_sem, m0, m1, m2, m3, m4, m5, m6, ansM]
  · rw [HA.out.2]
    exact (HP.out.turned HWx.out (by omega) (by omega) (by omega) (by omega)).more (by omega)
  · exact (Turned.refl _ w).far (HWx.out.mono (fun i hi => .inr (by omega)))

set_option linter.unusedSimpArgs false in
set_option linter.unusedVariables false in
set_option maxRecDepth 100000 in
set_option maxHeartbeats 4000000 in
theorem ask_there (w : World) (p bk tk wh : Nat) (kind stock limit seq : Int) (m : Nat) (st : St) (o d : Int) (sku : ByteArray) (qty amt : Int) (h : PA w p bk tk wh kind stock limit seq m st) (g : Pa.Good kind stock st) (hT : PT w) (hst : 0 ≤ stock ∧ stock ≤ 1000000000) (hn : st.rows.length < 80000) (hm : m < 90000) (hs : sku.size ≤ 1000000000000)
    (hmay : mayB kind o d sku.data.toList qty amt 0 = true) (x : R5) (hf : findR st.rows (o, d) = some x) :
    Calls Tryd.prog 13 #[.pointer (some ⟨p, 0, none⟩), .agg #[.int .i64 kind, .int .i64 o, .int .i64 d, .string sku, .int .i64 qty, .int .i64 amt, .int .i64 0]] w fun e w' => e = .returned (.tuple #[ansM o d (ansS kind stock limit st ⟨kind, o, d, sku.data.toList, qty, amt, 0⟩), .bool (ansS kind stock limit st ⟨kind, o, d, sku.data.toList, qty, amt, 0⟩).isSome]) ∧ PA w' p bk tk wh kind stock limit seq (m + 1) (askS kind stock limit st ⟨kind, o, d, sku.data.toList, qty, amt, 0⟩) ∧ Turned (fun i => i = bk ∨ i = tk ∨ i = wh) w w' := by
  have HP := Lib.hid h
  have hl := h.lt
  have HG := Lib.hid g
  have HM := Lib.hid (heap_keep (heap_new w (.cells #[.int .i64 kind, .int .i64 o, .int .i64 d, .string sku, .int .i64 qty, .int .i64 amt, .int .i64 0] tMsg)) (below_alloc _ (.cells #[.int .i64 0, .int .i64 0, .int .i64 0, .string ⟨#[]⟩, .int .i64 0, .int .i64 0, .int .i64 0] tMsg)))
  have hr1 := heap_new (w.alloc (.cells #[.int .i64 kind, .int .i64 o, .int .i64 d, .string sku, .int .i64 qty, .int .i64 amt, .int .i64 0] tMsg)) (.cells #[.int .i64 0, .int .i64 0, .int .i64 0, .string ⟨#[]⟩, .int .i64 0, .int .i64 0, .int .i64 0] tMsg)
  rw [show (w.alloc (.cells #[.int .i64 kind, .int .i64 o, .int .i64 d, .string sku, .int .i64 qty, .int .i64 amt, .int .i64 0] tMsg)).heap.size = w.heap.size + 1 by simp] at hr1
  have HZ := Lib.hid hr1
  have HB := Lib.hid ((below_alloc w (.cells #[.int .i64 kind, .int .i64 o, .int .i64 d, .string sku, .int .i64 qty, .int .i64 amt, .int .i64 0] tMsg)).alloc (by simp) (.cells #[.int .i64 0, .int .i64 0, .int .i64 0, .string ⟨#[]⟩, .int .i64 0, .int .i64 0, .int .i64 0] tMsg))
  have HT := Lib.hid hT
  have HF := Lib.hid hf
  obtain ⟨xk, xc, xa, xq⟩ := x
  obtain rfl : xk = (o, d) := (find_some HF.out).2
  have hq0 : askS kind stock limit st ⟨kind, o, d, sku.data.toList, qty, amt, 0⟩ = st := by unfold askS; simp [Ms.may, hmay, hf]
  have HA := Lib.hid (show ansS kind stock limit st ⟨kind, o, d, sku.data.toList, qty, amt, 0⟩ = some xc ∧ askS kind stock limit st ⟨kind, o, d, sku.data.toList, qty, amt, 0⟩ = st from ⟨by unfold ansS; rw [hq0]; simp [Ms.may, hmay, hf], hq0⟩)
  have hne := bneF (rfl : kind = kind)
  obtain ⟨kl, hkl⟩ := key_chk (k := (o, d)) (HG.out.key _ (find_some hf).1).1
  have HKL := Lib.hid hkl
  have HRI := Lib.hid HG.out.rise
  have hv : ∀ W, MapL Tryd.prog tKey mkKey mkRow W bk (entR st.rows) → (Instr.lookup tBook (.map (some bk)) (mkKey (o, d)) true).run Tryd.prog W = .ok (.tuple #[mkRow ((o, d), xc, xa, xq), .bool true]) W := fun W hW => by
    rcases hW.look lawKey mapBook (zeroRow W) HKL.out (mkKey_inj _) with ⟨u, hu, r, _⟩ | ⟨hno, _⟩
    · rw [book_one HG.out.rise HF.out hu] at r; exact r
    · exact absurd (mem_entR.2 (find_some HF.out)) (fun hx => hno _ hx rfl)
  clear hf hkl hq0
  clear h g hr1 hT
  go_enter Tryd.func13, Tryd.ntmps13
  go_wp2_with fail
  generalize (w.alloc (.cells #[.int .i64 kind, .int .i64 o, .int .i64 d, .string sku, .int .i64 qty, .int .i64 amt, .int .i64 0] tMsg)).alloc (.cells #[.int .i64 0, .int .i64 0, .int .i64 0, .string ⟨#[]⟩, .int .i64 0, .int .i64 0, .int .i64 0] tMsg) = wa at HM HZ HB ⊢
  have HPa := Lib.hid (HP.out.below HB.out)
  have HPh := Lib.hid HPa.out.hd
  have HN := Lib.hid (fun W (hb : Below wa.heap.size wa W) => nonep_no W p bk tk wh kind stock limit seq m st (HPa.out.below hb))
  have HMay := Lib.hid (fun W (hb : Below wa.heap.size wa W) => may_any W kind o d sku qty amt 0 hs ((HT.out.below HB.out).below hb))
  simp only [hmay] at HMay
  refine wp_region_noPanic ?_
  refine wp_region_held_drew (S := (fun w' => Hid (Below wa.heap.size wa w') ∧ w'.cell? ⟨w.heap.size, 0, none⟩ = some (.int .i64 kind) ∧ w'.cell? ⟨w.heap.size, 1, none⟩ = some (.int .i64 o) ∧ w'.cell? ⟨w.heap.size, 2, none⟩ = some (.int .i64 d) ∧ w'.cell? ⟨w.heap.size, 3, none⟩ = some (.string sku) ∧ w'.cell? ⟨w.heap.size, 4, none⟩ = some (.int .i64 qty) ∧ w'.cell? ⟨w.heap.size, 5, none⟩ = some (.int .i64 amt) ∧ w'.cell? ⟨w.heap.size, 6, none⟩ = some (.int .i64 0) ∧ w'.cell? ⟨p, 0, none⟩ = some (.int .i64 kind))) (by kernel_rfl) ⟨(below_drew1 (Below.refl _ wa)), cell_at ((((below_drew1 (Below.refl _ wa))).block _ (heap_lt HM.out)).trans HM.out) 0 rfl, cell_at ((((below_drew1 (Below.refl _ wa))).block _ (heap_lt HM.out)).trans HM.out) 1 rfl, cell_at ((((below_drew1 (Below.refl _ wa))).block _ (heap_lt HM.out)).trans HM.out) 2 rfl, cell_at ((((below_drew1 (Below.refl _ wa))).block _ (heap_lt HM.out)).trans HM.out) 3 rfl, cell_at ((((below_drew1 (Below.refl _ wa))).block _ (heap_lt HM.out)).trans HM.out) 4 rfl, cell_at ((((below_drew1 (Below.refl _ wa))).block _ (heap_lt HM.out)).trans HM.out) 5 rfl, cell_at ((((below_drew1 (Below.refl _ wa))).block _ (heap_lt HM.out)).trans HM.out) 6 rfl, cell_at ((((below_drew1 (Below.refl _ wa))).block _ (heap_lt HPh.out)).trans HPh.out) 0 rfl⟩ (fun hHeld => ?_)
  refine wpAnyH_take (i := 0) (v := ?vb0) rfl (by kernel_rfl) (by kernel_rfl) (by kernel_rfl) (fun _ _ _ h => h) (Or.inl ⟨by rfl, ?hyb0⟩) (by assumption) ?restb0
  case hyb0 => (intro w0 hSw; (try dsimp only at hSw); go_simp; try with_reducible rfl)
  case' restb0 => try simp only [Act.put, List.getElem_toArray, List.getElem_cons_zero, List.getElem_cons_succ, List.setIfInBounds_toArray, List.set_cons_zero, List.set_cons_succ]
  refine wpAnyH_ready (rs := [1]) (by kernel_rfl) (by simp) ?_
  refine AllReadyH.cons rfl (fun K hK => ?_) AllReadyH.nil
  go_simp
  refine (HN.out _ (Hid.out (And.left (by assumption)))).mono ?_; rintro e w1 ⟨rfl, hb⟩; subst hb
  refine hK.out _ _ (by assumption) (fun hHeld => ?_)
  clear hK K
  try simp only [Act.put, List.getElem_toArray, List.getElem_cons_zero, List.getElem_cons_succ, List.setIfInBounds_toArray, List.set_cons_zero, List.set_cons_succ]
  refine wpAnyH_take (i := 2) (v := ?vb2) rfl (by kernel_rfl) (by kernel_rfl) (by kernel_rfl) (fun _ _ _ h => h) (Or.inl ⟨by rfl, ?hyb2⟩) (by assumption) ?restb2
  case hyb2 => (intro w0 hSw; (try dsimp only at hSw); go_simp; try with_reducible rfl)
  case' restb2 => try simp only [Act.put, List.getElem_toArray, List.getElem_cons_zero, List.getElem_cons_succ, List.setIfInBounds_toArray, List.set_cons_zero, List.set_cons_succ]
  refine wpAnyH_take (i := 3) (v := ?vb3) rfl (by kernel_rfl) (by kernel_rfl) (by kernel_rfl) (fun _ _ _ h => h) (Or.inl ⟨by rfl, ?hyb3⟩) (by assumption) ?restb3
  case hyb3 => (intro w0 hSw; (try dsimp only at hSw); go_simp; try with_reducible rfl)
  case' restb3 => try simp only [Act.put, List.getElem_toArray, List.getElem_cons_zero, List.getElem_cons_succ, List.setIfInBounds_toArray, List.set_cons_zero, List.set_cons_succ]
  refine wpAnyH_take (i := 4) (v := ?vb4) rfl (by kernel_rfl) (by kernel_rfl) (by kernel_rfl) (fun _ _ _ h => h) (Or.inl ⟨by rfl, ?hyb4⟩) (by assumption) ?restb4
  case hyb4 => (intro w0 hSw; (try dsimp only at hSw); go_simp; try with_reducible rfl)
  case' restb4 => try simp only [Act.put, List.getElem_toArray, List.getElem_cons_zero, List.getElem_cons_succ, List.setIfInBounds_toArray, List.set_cons_zero, List.set_cons_succ]
  refine wpAnyH_take (i := 5) (v := ?vb5) rfl (by kernel_rfl) (by kernel_rfl) (by kernel_rfl) (fun _ _ _ h => h) (Or.inl ⟨by rfl, ?hyb5⟩) (by assumption) ?restb5
  case hyb5 => (intro w0 hSw; (try dsimp only at hSw); go_simp; try with_reducible rfl)
  case' restb5 => try simp only [Act.put, List.getElem_toArray, List.getElem_cons_zero, List.getElem_cons_succ, List.setIfInBounds_toArray, List.set_cons_zero, List.set_cons_succ]
  refine wpAnyH_take (i := 6) (v := ?vb6) rfl (by kernel_rfl) (by kernel_rfl) (by kernel_rfl) (fun _ _ _ h => h) (Or.inl ⟨by rfl, ?hyb6⟩) (by assumption) ?restb6
  case hyb6 => (intro w0 hSw; (try dsimp only at hSw); go_simp; try with_reducible rfl)
  case' restb6 => try simp only [Act.put, List.getElem_toArray, List.getElem_cons_zero, List.getElem_cons_succ, List.setIfInBounds_toArray, List.set_cons_zero, List.set_cons_succ]
  refine wpAnyH_take (i := 7) (v := ?vb7) rfl (by kernel_rfl) (by kernel_rfl) (by kernel_rfl) (fun _ _ _ h => h) (Or.inl ⟨by rfl, ?hyb7⟩) (by assumption) ?restb7
  case hyb7 => (intro w0 hSw; (try dsimp only at hSw); go_simp; try with_reducible rfl)
  case' restb7 => try simp only [Act.put, List.getElem_toArray, List.getElem_cons_zero, List.getElem_cons_succ, List.setIfInBounds_toArray, List.set_cons_zero, List.set_cons_succ]
  refine wpAnyH_take (i := 8) (v := ?vb8) rfl (by kernel_rfl) (by kernel_rfl) (by kernel_rfl) (fun _ _ _ h => h) (Or.inl ⟨by rfl, ?hyb8⟩) (by assumption) ?restb8
  case hyb8 => (intro w0 hSw; (try dsimp only at hSw); go_simp; try with_reducible rfl)
  case' restb8 => try simp only [Act.put, List.getElem_toArray, List.getElem_cons_zero, List.getElem_cons_succ, List.setIfInBounds_toArray, List.set_cons_zero, List.set_cons_succ]
  refine wpAnyH_take (i := 9) (v := ?vb9) rfl (by kernel_rfl) (by kernel_rfl) (by kernel_rfl) (fun _ _ _ h => h) (Or.inl ⟨by rfl, ?hyb9⟩) (by assumption) ?restb9
  case hyb9 => (intro w0 hSw; (try dsimp only at hSw); go_simp; try with_reducible rfl)
  case' restb9 => try simp only [Act.put, List.getElem_toArray, List.getElem_cons_zero, List.getElem_cons_succ, List.setIfInBounds_toArray, List.set_cons_zero, List.set_cons_succ]
  refine wpAnyH_take (i := 10) (v := ?vb10) rfl (by kernel_rfl) (by kernel_rfl) (by kernel_rfl) (fun _ _ _ h => h) (Or.inl ⟨by rfl, ?hyb10⟩) (by assumption) ?restb10
  case hyb10 => (intro w0 hSw; (try dsimp only at hSw); go_simp; try with_reducible rfl)
  case' restb10 => try simp only [Act.put, List.getElem_toArray, List.getElem_cons_zero, List.getElem_cons_succ, List.setIfInBounds_toArray, List.set_cons_zero, List.set_cons_succ]
  refine wpAnyH_take (i := 11) (v := ?vb11) rfl (by kernel_rfl) (by kernel_rfl) (by kernel_rfl) (fun _ _ _ h => h) (Or.inl ⟨by rfl, ?hyb11⟩) (by assumption) ?restb11
  case hyb11 => (intro w0 hSw; (try dsimp only at hSw); go_simp; try with_reducible rfl)
  case' restb11 => try simp only [Act.put, List.getElem_toArray, List.getElem_cons_zero, List.getElem_cons_succ, List.setIfInBounds_toArray, List.set_cons_zero, List.set_cons_succ]
  refine wpAnyH_take (i := 12) (v := ?vb12) rfl (by kernel_rfl) (by kernel_rfl) (by kernel_rfl) (fun _ _ _ h => h) (Or.inl ⟨by rfl, ?hyb12⟩) (by assumption) ?restb12
  case hyb12 => (intro w0 hSw; (try dsimp only at hSw); go_simp; try with_reducible rfl)
  case' restb12 => try simp only [Act.put, List.getElem_toArray, List.getElem_cons_zero, List.getElem_cons_succ, List.setIfInBounds_toArray, List.set_cons_zero, List.set_cons_succ]
  refine wpAnyH_ready (rs := [13]) (by kernel_rfl) (by simp) ?_
  refine AllReadyH.cons rfl (fun K hK => ?_) AllReadyH.nil
  go_simp
  refine (HMay.out _ (Hid.out (And.left (by assumption)))).mono ?_; rintro e w1 ⟨rfl, hb⟩
  have hbk := bch (Hid.out (And.left (by assumption))) hb (Below.size (Hid.out (And.left (by assumption))))
  refine hK.out _ _ ⟨hbk, cell_at (((hbk).block _ (heap_lt HM.out)).trans HM.out) 0 rfl, cell_at (((hbk).block _ (heap_lt HM.out)).trans HM.out) 1 rfl, cell_at (((hbk).block _ (heap_lt HM.out)).trans HM.out) 2 rfl, cell_at (((hbk).block _ (heap_lt HM.out)).trans HM.out) 3 rfl, cell_at (((hbk).block _ (heap_lt HM.out)).trans HM.out) 4 rfl, cell_at (((hbk).block _ (heap_lt HM.out)).trans HM.out) 5 rfl, cell_at (((hbk).block _ (heap_lt HM.out)).trans HM.out) 6 rfl, cell_at (((hbk).block _ (heap_lt HPh.out)).trans HPh.out) 0 rfl⟩ (fun hHeld => ?_)
  clear hK K hb hbk
  try simp only [Act.put, List.getElem_toArray, List.getElem_cons_zero, List.getElem_cons_succ, List.setIfInBounds_toArray, List.set_cons_zero, List.set_cons_succ]
  refine wpAnyH_take (i := 14) (v := ?vb14) rfl (by kernel_rfl) (by kernel_rfl) (by kernel_rfl) (fun _ _ _ h => h) (Or.inl ⟨by rfl, ?hyb14⟩) (by assumption) ?restb14
  case hyb14 => (intro w0 hSw; (try dsimp only at hSw); go_simp; try with_reducible rfl)
  case' restb14 => try simp only [Act.put, List.getElem_toArray, List.getElem_cons_zero, List.getElem_cons_succ, List.setIfInBounds_toArray, List.set_cons_zero, List.set_cons_succ]
  refine wpAnyH_take (i := 15) (v := ?vb15) rfl (by kernel_rfl) (by kernel_rfl) (by kernel_rfl) (fun _ _ _ h => h) (Or.inl ⟨by rfl, ?hyb15⟩) (by assumption) ?restb15
  case hyb15 => (intro w0 hSw; (try dsimp only at hSw); go_simp; try with_reducible rfl)
  case' restb15 => try simp only [Act.put, List.getElem_toArray, List.getElem_cons_zero, List.getElem_cons_succ, List.setIfInBounds_toArray, List.set_cons_zero, List.set_cons_succ]
  refine wpAnyH_done (by kernel_rfl) ?_ _
  refine NoPanic.normal ?_
  have HBx := Lib.hid (Hid.out hHeld.1)
  have HZx := Lib.hid (heap_keep HZ.out HBx.out)
  have HMx := Lib.hid (heap_keep HM.out HBx.out)
  have HPx := Lib.hid (HPa.out.below HBx.out)
  have HPy := Lib.hid HPx.out.hd
  have HB2 := Lib.hid (bch HB.out HBx.out HB.out.size)
  clear hHeld HN HMay HPh HPa HM HZ
  generalize w1 = wx at HBx HZx HMx HPx HPy HB2 ⊢
  have HL := Lib.hid (fun W (hb : Below wx.heap.size wx W) => hv W (HPx.out.book.below hb))
  clear hv
  simp only [mkKey, mkRow] at HL
  go_wp2_with fail
  refine wp_region_noPanic ?_
  refine wp_region_held_drew (S := (fun w' => Hid (Below wx.heap.size wx w') ∧ w'.cell? ⟨p, 3, none⟩ = some (.map (some bk)) ∧ w'.cell? ⟨w.heap.size, 1, none⟩ = some (.int .i64 o) ∧ w'.cell? ⟨w.heap.size, 2, none⟩ = some (.int .i64 d) ∧ (Instr.lookup tBook (.map (some bk)) (.agg #[.int .i64 o, .int .i64 d]) true).run Tryd.prog w' = .ok (.tuple #[.agg #[.int .i64 o, .int .i64 d, .int .i64 xc, .int .i64 xa, .int .i64 xq], .bool true]) w')) (by kernel_rfl) ⟨(below_drew1 (Below.refl _ wx)), cell_at ((((below_drew1 (Below.refl _ wx))).block _ (heap_lt HPy.out)).trans HPy.out) 3 rfl, cell_at ((((below_drew1 (Below.refl _ wx))).block _ (heap_lt HMx.out)).trans HMx.out) 1 rfl, cell_at ((((below_drew1 (Below.refl _ wx))).block _ (heap_lt HMx.out)).trans HMx.out) 2 rfl, HL.out _ (below_drew1 (Below.refl _ wx))⟩ (fun hHeld => ?_)
  refine wpAnyH_take (i := 0) (v := ?vt0) rfl (by kernel_rfl) (by kernel_rfl) (by kernel_rfl) (fun _ _ _ h => h) (Or.inl ⟨by rfl, ?hyt0⟩) (by assumption) ?restt0
  case hyt0 => (intro w0 hSw; (try dsimp only at hSw); go_simp; try with_reducible rfl)
  case' restt0 => try simp only [Act.put, List.getElem_toArray, List.getElem_cons_zero, List.getElem_cons_succ, List.setIfInBounds_toArray, List.set_cons_zero, List.set_cons_succ]
  refine wpAnyH_take (i := 1) (v := ?vt1) rfl (by kernel_rfl) (by kernel_rfl) (by kernel_rfl) (fun _ _ _ h => h) (Or.inl ⟨by rfl, ?hyt1⟩) (by assumption) ?restt1
  case hyt1 => (intro w0 hSw; (try dsimp only at hSw); go_simp; try with_reducible rfl)
  case' restt1 => try simp only [Act.put, List.getElem_toArray, List.getElem_cons_zero, List.getElem_cons_succ, List.setIfInBounds_toArray, List.set_cons_zero, List.set_cons_succ]
  refine wpAnyH_take (i := 2) (v := ?vt2) rfl (by kernel_rfl) (by kernel_rfl) (by kernel_rfl) (fun _ _ _ h => h) (Or.inl ⟨by rfl, ?hyt2⟩) (by assumption) ?restt2
  case hyt2 => (intro w0 hSw; (try dsimp only at hSw); go_simp; try with_reducible rfl)
  case' restt2 => try simp only [Act.put, List.getElem_toArray, List.getElem_cons_zero, List.getElem_cons_succ, List.setIfInBounds_toArray, List.set_cons_zero, List.set_cons_succ]
  refine wpAnyH_take (i := 3) (v := ?vt3) rfl (by kernel_rfl) (by kernel_rfl) (by kernel_rfl) (fun _ _ _ h => h) (Or.inl ⟨by rfl, ?hyt3⟩) (by assumption) ?restt3
  case hyt3 => (intro w0 hSw; (try dsimp only at hSw); go_simp; try with_reducible rfl)
  case' restt3 => try simp only [Act.put, List.getElem_toArray, List.getElem_cons_zero, List.getElem_cons_succ, List.setIfInBounds_toArray, List.set_cons_zero, List.set_cons_succ]
  refine wpAnyH_take (i := 4) (v := ?vt4) rfl (by kernel_rfl) (by kernel_rfl) (by kernel_rfl) (fun _ _ _ h => h) (Or.inl ⟨by rfl, ?hyt4⟩) (by assumption) ?restt4
  case hyt4 => (intro w0 hSw; (try dsimp only at hSw); go_simp; try with_reducible rfl)
  case' restt4 => try simp only [Act.put, List.getElem_toArray, List.getElem_cons_zero, List.getElem_cons_succ, List.setIfInBounds_toArray, List.set_cons_zero, List.set_cons_succ]
  refine wpAnyH_take (i := 5) (v := ?vt5) rfl (by kernel_rfl) (by kernel_rfl) (by kernel_rfl) (fun _ _ _ h => h) (Or.inl ⟨by rfl, ?hyt5⟩) (by assumption) ?restt5
  case hyt5 => (intro w0 hSw; (try dsimp only at hSw); go_simp; try with_reducible rfl)
  case' restt5 => try simp only [Act.put, List.getElem_toArray, List.getElem_cons_zero, List.getElem_cons_succ, List.setIfInBounds_toArray, List.set_cons_zero, List.set_cons_succ]
  refine wpAnyH_take (i := 6) (v := ?vt6) rfl (by kernel_rfl) (by kernel_rfl) (by kernel_rfl) (fun _ _ _ h => h) (Or.inl ⟨by rfl, ?hyt6⟩) (by assumption) ?restt6
  case hyt6 => (intro w0 hSw; (try dsimp only at hSw); go_simp; try with_reducible rfl)
  case' restt6 => try simp only [Act.put, List.getElem_toArray, List.getElem_cons_zero, List.getElem_cons_succ, List.setIfInBounds_toArray, List.set_cons_zero, List.set_cons_succ]
  refine wpAnyH_take (i := 7) (v := ?vt7) rfl (by kernel_rfl) (by kernel_rfl) (by kernel_rfl) (fun _ _ _ h => h) (Or.inl ⟨by rfl, ?hyt7⟩) (by assumption) ?restt7
  case hyt7 => (intro w0 hSw; (try dsimp only at hSw); go_simp; try with_reducible rfl)
  case' restt7 => try simp only [Act.put, List.getElem_toArray, List.getElem_cons_zero, List.getElem_cons_succ, List.setIfInBounds_toArray, List.set_cons_zero, List.set_cons_succ]
  refine wpAnyH_take (i := 8) (v := ?vt8) rfl (by kernel_rfl) (by kernel_rfl) (by kernel_rfl) (fun _ _ _ h => h) (Or.inl ⟨by rfl, ?hyt8⟩) (by assumption) ?restt8
  case hyt8 => (intro w0 hSw; (try dsimp only at hSw); go_simp; try with_reducible rfl)
  case' restt8 => try simp only [Act.put, List.getElem_toArray, List.getElem_cons_zero, List.getElem_cons_succ, List.setIfInBounds_toArray, List.set_cons_zero, List.set_cons_succ]
  refine wpAnyH_take (i := 9) (v := ?vt9) rfl (by kernel_rfl) (by kernel_rfl) (by kernel_rfl) (fun _ _ _ h => h) (Or.inl ⟨by rfl, ?hyt9⟩) (by assumption) ?restt9
  case hyt9 => (intro w0 hSw; (try dsimp only at hSw); go_simp; try with_reducible rfl)
  case' restt9 => try simp only [Act.put, List.getElem_toArray, List.getElem_cons_zero, List.getElem_cons_succ, List.setIfInBounds_toArray, List.set_cons_zero, List.set_cons_succ]
  refine wpAnyH_ready (rs := [10]) (by kernel_rfl) (by simp) ?_
  refine AllReadyH.cons rfl (fun K hK => ?_) AllReadyH.nil
  go_simp
  refine hK.out _ _ ⟨(below_drew1 (below_alloc wx _)), cell_at ((((below_drew1 (below_alloc wx _))).block _ (heap_lt HPy.out)).trans HPy.out) 3 rfl, cell_at ((((below_drew1 (below_alloc wx _))).block _ (heap_lt HMx.out)).trans HMx.out) 1 rfl, cell_at ((((below_drew1 (below_alloc wx _))).block _ (heap_lt HMx.out)).trans HMx.out) 2 rfl, HL.out _ (below_drew1 (below_alloc wx _))⟩ (fun hHeld => ?_)
  clear hK K
  try simp only [Act.put, List.getElem_toArray, List.getElem_cons_zero, List.getElem_cons_succ, List.setIfInBounds_toArray, List.set_cons_zero, List.set_cons_succ]
  refine wpAnyH_ready (rs := [11]) (by kernel_rfl) (by simp) ?_
  refine AllReadyH.cons rfl (fun K hK => ?_) AllReadyH.nil
  go_simp
  refine hK.out _ _ ⟨(below_drew1 (below_alloc wx _)), cell_at ((((below_drew1 (below_alloc wx _))).block _ (heap_lt HPy.out)).trans HPy.out) 3 rfl, cell_at ((((below_drew1 (below_alloc wx _))).block _ (heap_lt HMx.out)).trans HMx.out) 1 rfl, cell_at ((((below_drew1 (below_alloc wx _))).block _ (heap_lt HMx.out)).trans HMx.out) 2 rfl, HL.out _ (below_drew1 (below_alloc wx _))⟩ (fun hHeld => ?_)
  clear hK K
  try simp only [Act.put, List.getElem_toArray, List.getElem_cons_zero, List.getElem_cons_succ, List.setIfInBounds_toArray, List.set_cons_zero, List.set_cons_succ]
  refine wpAnyH_take (i := 12) (v := ?vt12) rfl (by kernel_rfl) (by kernel_rfl) (by kernel_rfl) (fun _ _ _ h => h) (Or.inl ⟨by rfl, ?hyt12⟩) (by assumption) ?restt12
  case hyt12 => (intro w0 hSw; (try dsimp only at hSw); go_simp; try with_reducible rfl)
  case' restt12 => try simp only [Act.put, List.getElem_toArray, List.getElem_cons_zero, List.getElem_cons_succ, List.setIfInBounds_toArray, List.set_cons_zero, List.set_cons_succ]
  refine wpAnyH_done (by kernel_rfl) ?_ _
  refine NoPanic.normal ?_
  have HB3 := Lib.hid (Hid.out hHeld.1)
  have HM3 := Lib.hid (heap_keep HMx.out HB3.out)
  have HZ3 := Lib.hid (heap_keep HZx.out HB3.out)
  have HP3 := Lib.hid (HPx.out.below HB3.out)
  have HBw := Lib.hid (bch HB2.out HB3.out HB2.out.size)
  have HLT := Lib.hid (show w.heap.size + 1 < wx.heap.size from heap_lt HZx.out)
  clear hHeld HMx HZx HPx HPy HB2 HBx HL
  generalize (wx.alloc (.cells #[.int .i64 o, .int .i64 d, .int .i64 xc, .int .i64 xa, .int .i64 xq] 45)).drew = w3 at HB3 HM3 HZ3 HP3 HBw ⊢
  obtain ⟨yc, hyc⟩ : ∃ y, xc = y := ⟨_, rfl⟩
  obtain ⟨ya, hya⟩ : ∃ y, xa = y := ⟨_, rfl⟩
  obtain ⟨yq, hyq⟩ : ∃ y, xq = y := ⟨_, rfl⟩
  rw [hyc, hya, hyq] at HF
  rw [hyc] at HA
  clear hyc hya hyq
  have HY := HF
  have HP4 := HP3
  have HM4 := HM3
  have HZ4 := HZ3
  have HTW := Lib.hid (Turned.of_below (S := fun i => i = bk ∨ i = tk ∨ i = wh) HBw.out)
  clear HP3 HM3 HZ3 HBw HB3
  obtain ⟨w4, hw4⟩ : ∃ w4, w4 = w3 := ⟨_, rfl⟩
  rw [← hw4] at HP4 HM4 HZ4 HTW ⊢
  clear hw4
  go_wp2_with fail
  have hv9 : ∀ W, MapL Tryd.prog tKey mkKey mkRow W bk (entR st.rows) → (Instr.lookup tBook (.map (some bk)) (mkKey (o, d)) false).run Tryd.prog W = .ok (mkRow ((o, d), yc, ya, yq)) W := fun W hW => by
    rcases hW.look lawKey mapBook (zeroRow W) HKL.out (mkKey_inj _) with ⟨u, hu, _, r⟩ | ⟨hno, _⟩
    · rw [book_one HRI.out HY.out hu] at r; exact r
    · exact absurd (mem_entR.2 (find_some HY.out)) (fun hx => hno _ hx rfl)
  have HH := Lib.hid (fun W (ht : Turned (fun i => i = w.heap.size + 1) w4 W) => (⟨Lib.hid ht, cell_at ((ht.block _ (heap_lt HM4.out) (by omega)).trans HM4.out) 1 rfl, cell_at ((ht.block _ (heap_lt HM4.out) (by omega)).trans HM4.out) 2 rfl, cell_at ((ht.block _ (heap_lt HP4.out.hd) (by omega)).trans HP4.out.hd) 3 rfl, hv9 W (HP4.out.book.block (ht.block _ HP4.out.lt.2.1 (by omega))), field_code o d yc ya yq W⟩ : (fun w' => Hid (Turned (fun i => i = w.heap.size + 1) w4 w') ∧ w'.cell? ⟨w.heap.size, 1, none⟩ = some (.int .i64 o) ∧ w'.cell? ⟨w.heap.size, 2, none⟩ = some (.int .i64 d) ∧ w'.cell? ⟨p, 3, none⟩ = some (.map (some bk)) ∧ (Instr.lookup tBook (.map (some bk)) (.agg #[.int .i64 o, .int .i64 d]) false).run Tryd.prog w' = .ok (.agg #[.int .i64 o, .int .i64 d, .int .i64 yc, .int .i64 ya, .int .i64 yq]) w' ∧ (Instr.field tRow (.agg #[.int .i64 o, .int .i64 d, .int .i64 yc, .int .i64 ya, .int .i64 yq]) 1).run Tryd.prog w' = .ok (.int .i64 yc) w') W))
  have HTu := Lib.hid (turned_set7 w4 (w.heap.size + 1) (.int .i64 3) (.int .i64 o) (.int .i64 d) (.string ⟨#[]⟩) (.int .i64 0) (.int .i64 0) (.int .i64 yc)).drew
  have hset := set7d HZ4.out (.int .i64 3) (.int .i64 o) (.int .i64 d) (.string ⟨#[]⟩) (.int .i64 0) (.int .i64 0) (.int .i64 yc)
  unfold set7w at hset HTu
  have HSET := Lib.hid hset
  clear hv9 hset
  obtain ⟨z0, z1, z2, z3, z4, z5, z6⟩ := cell7 HZ4.out
  obtain ⟨f0, f1, f2, f3, f4, f5, f6⟩ := froz7 HZ4.out
  refine wp_region_noPanic ?_
  refine wp_region_held_drew (S := (fun w' => Hid (Turned (fun i => i = w.heap.size + 1) w4 w') ∧ w'.cell? ⟨w.heap.size, 1, none⟩ = some (.int .i64 o) ∧ w'.cell? ⟨w.heap.size, 2, none⟩ = some (.int .i64 d) ∧ w'.cell? ⟨p, 3, none⟩ = some (.map (some bk)) ∧ (Instr.lookup tBook (.map (some bk)) (.agg #[.int .i64 o, .int .i64 d]) false).run Tryd.prog w' = .ok (.agg #[.int .i64 o, .int .i64 d, .int .i64 yc, .int .i64 ya, .int .i64 yq]) w' ∧ (Instr.field tRow (.agg #[.int .i64 o, .int .i64 d, .int .i64 yc, .int .i64 ya, .int .i64 yq]) 1).run Tryd.prog w' = .ok (.int .i64 yc) w')) (by kernel_rfl) (HH.out _ (Turned.refl _ w4).drew) (fun hHeld => ?_)
  refine wpAnyH_take (i := 0) (v := ?vz0) rfl (by kernel_rfl) (by kernel_rfl) (by kernel_rfl) (fun _ _ _ h => h) (Or.inl ⟨by rfl, ?hyz0⟩) (by assumption) ?restz0
  case hyz0 => (intro w0 hSw; (try dsimp only at hSw); go_simp; try with_reducible rfl)
  case' restz0 => try simp only [Act.put, List.getElem_toArray, List.getElem_cons_zero, List.getElem_cons_succ, List.setIfInBounds_toArray, List.set_cons_zero, List.set_cons_succ]
  refine wpAnyH_take (i := 1) (v := ?vz1) rfl (by kernel_rfl) (by kernel_rfl) (by kernel_rfl) (fun _ _ _ h => h) (Or.inl ⟨by rfl, ?hyz1⟩) (by assumption) ?restz1
  case hyz1 => (intro w0 hSw; (try dsimp only at hSw); go_simp; try with_reducible rfl)
  case' restz1 => try simp only [Act.put, List.getElem_toArray, List.getElem_cons_zero, List.getElem_cons_succ, List.setIfInBounds_toArray, List.set_cons_zero, List.set_cons_succ]
  refine wpAnyH_take (i := 2) (v := ?vz2) rfl (by kernel_rfl) (by kernel_rfl) (by kernel_rfl) (fun _ _ _ h => h) (Or.inl ⟨by rfl, ?hyz2⟩) (by assumption) ?restz2
  case hyz2 => (intro w0 hSw; (try dsimp only at hSw); go_simp; try with_reducible rfl)
  case' restz2 => try simp only [Act.put, List.getElem_toArray, List.getElem_cons_zero, List.getElem_cons_succ, List.setIfInBounds_toArray, List.set_cons_zero, List.set_cons_succ]
  refine wpAnyH_take (i := 3) (v := ?vz3) rfl (by kernel_rfl) (by kernel_rfl) (by kernel_rfl) (fun _ _ _ h => h) (Or.inl ⟨by rfl, ?hyz3⟩) (by assumption) ?restz3
  case hyz3 => (intro w0 hSw; (try dsimp only at hSw); go_simp; try with_reducible rfl)
  case' restz3 => try simp only [Act.put, List.getElem_toArray, List.getElem_cons_zero, List.getElem_cons_succ, List.setIfInBounds_toArray, List.set_cons_zero, List.set_cons_succ]
  refine wpAnyH_take (i := 4) (v := ?vz4) rfl (by kernel_rfl) (by kernel_rfl) (by kernel_rfl) (fun _ _ _ h => h) (Or.inl ⟨by rfl, ?hyz4⟩) (by assumption) ?restz4
  case hyz4 => (intro w0 hSw; (try dsimp only at hSw); go_simp; try with_reducible rfl)
  case' restz4 => try simp only [Act.put, List.getElem_toArray, List.getElem_cons_zero, List.getElem_cons_succ, List.setIfInBounds_toArray, List.set_cons_zero, List.set_cons_succ]
  refine wpAnyH_take (i := 5) (v := ?vz5) rfl (by kernel_rfl) (by kernel_rfl) (by kernel_rfl) (fun _ _ _ h => h) (Or.inl ⟨by rfl, ?hyz5⟩) (by assumption) ?restz5
  case hyz5 => (intro w0 hSw; (try dsimp only at hSw); go_simp; try with_reducible rfl)
  case' restz5 => try simp only [Act.put, List.getElem_toArray, List.getElem_cons_zero, List.getElem_cons_succ, List.setIfInBounds_toArray, List.set_cons_zero, List.set_cons_succ]
  refine wpAnyH_take (i := 6) (v := ?vz6) rfl (by kernel_rfl) (by kernel_rfl) (by kernel_rfl) (fun _ _ _ h => h) (Or.inl ⟨by rfl, ?hyz6⟩) (by assumption) ?restz6
  case hyz6 => (intro w0 hSw; (try dsimp only at hSw); go_simp; try with_reducible rfl)
  case' restz6 => try simp only [Act.put, List.getElem_toArray, List.getElem_cons_zero, List.getElem_cons_succ, List.setIfInBounds_toArray, List.set_cons_zero, List.set_cons_succ]
  refine wpAnyH_take (i := 7) (v := ?vz7) rfl (by kernel_rfl) (by kernel_rfl) (by kernel_rfl) (fun _ _ _ h => h) (Or.inl ⟨by rfl, ?hyz7⟩) (by assumption) ?restz7
  case hyz7 => (intro w0 hSw; (try dsimp only at hSw); go_simp; try with_reducible rfl)
  case' restz7 => try simp only [Act.put, List.getElem_toArray, List.getElem_cons_zero, List.getElem_cons_succ, List.setIfInBounds_toArray, List.set_cons_zero, List.set_cons_succ]
  refine wpAnyH_take (i := 8) (v := ?vz8) rfl (by kernel_rfl) (by kernel_rfl) (by kernel_rfl) (fun _ _ _ h => h) (Or.inl ⟨by rfl, ?hyz8⟩) (by assumption) ?restz8
  case hyz8 => (intro w0 hSw; (try dsimp only at hSw); go_simp; try with_reducible rfl)
  case' restz8 => try simp only [Act.put, List.getElem_toArray, List.getElem_cons_zero, List.getElem_cons_succ, List.setIfInBounds_toArray, List.set_cons_zero, List.set_cons_succ]
  refine wpAnyH_take (i := 9) (v := ?vz9) rfl (by kernel_rfl) (by kernel_rfl) (by kernel_rfl) (fun _ _ _ h => h) (Or.inl ⟨by rfl, ?hyz9⟩) (by assumption) ?restz9
  case hyz9 => (intro w0 hSw; (try dsimp only at hSw); go_simp; try with_reducible rfl)
  case' restz9 => try simp only [Act.put, List.getElem_toArray, List.getElem_cons_zero, List.getElem_cons_succ, List.setIfInBounds_toArray, List.set_cons_zero, List.set_cons_succ]
  refine wpAnyH_take (i := 10) (v := ?vz10) rfl (by kernel_rfl) (by kernel_rfl) (by kernel_rfl) (fun _ _ _ h => h) (Or.inl ⟨by rfl, ?hyz10⟩) (by assumption) ?restz10
  case hyz10 => (intro w0 hSw; (try dsimp only at hSw); go_simp; try with_reducible rfl)
  case' restz10 => try simp only [Act.put, List.getElem_toArray, List.getElem_cons_zero, List.getElem_cons_succ, List.setIfInBounds_toArray, List.set_cons_zero, List.set_cons_succ]
  refine wpAnyH_ready (rs := [11]) (by kernel_rfl) (by simp) ?_
  refine AllReadyH.cons rfl (fun K hK => ?_) AllReadyH.nil
  go_simp
  refine hK.out _ _ (HH.out _ HTu.out) (fun hHeld => ?_)
  clear hK K
  try simp only [Act.put, List.getElem_toArray, List.getElem_cons_zero, List.getElem_cons_succ, List.setIfInBounds_toArray, List.set_cons_zero, List.set_cons_succ]
  refine wpAnyH_take (i := 12) (v := ?vz12) rfl (by kernel_rfl) (by kernel_rfl) (by kernel_rfl) (fun _ _ _ h => h) (Or.inl ⟨by rfl, ?hyz12⟩) (by assumption) ?restz12
  case hyz12 => (intro w0 hSw; (try dsimp only at hSw); go_simp; try with_reducible rfl)
  case' restz12 => try simp only [Act.put, List.getElem_toArray, List.getElem_cons_zero, List.getElem_cons_succ, List.setIfInBounds_toArray, List.set_cons_zero, List.set_cons_succ]
  refine wpAnyH_done (by kernel_rfl) ?_ _
  refine NoPanic.normal ?_
  go_wp2_with fail
  obtain ⟨m0, m1, m2, m3, m4, m5, m6⟩ := cell7 HSET.out
  clear z0 z1 z2 z3 z4 z5 z6 f0 f1 f2 f3 f4 f5 f6 hHeld
  refine bodyPost_ret (v := .tuple #[ansM o d (some yc), .bool true]) ?_ rfl ⟨by rw [HA.out.1]; rfl, ?_, ?_⟩
  · simp [results, Tryd.results13, go_sem, m0, m1, m2, m3, m4, m5, m6, ansM]
  · rw [HA.out.2]
    have hl4 := HP4.out.lt
    exact (HP4.out.turned (HTu.out) (by omega) (by omega) (by omega) (by omega)).more (by omega)
  · exact (HTW.out).far (HTu.out.mono (fun i hi => .inr (by omega)))

set_option linter.unusedSimpArgs false in
set_option linter.unusedVariables false in
set_option maxRecDepth 100000 in
set_option maxHeartbeats 4000000 in
theorem ask_undo (w : World) (p bk tk wh : Nat) (kind stock limit seq : Int) (m : Nat) (st : St) (o d : Int) (sku : ByteArray) (qty amt : Int) (h : PA w p bk tk wh kind stock limit seq m st) (g : Pa.Good kind stock st) (hT : PT w) (hst : 0 ≤ stock ∧ stock ≤ 1000000000) (hn : st.rows.length < 80000) (hm : m < 90000) (hs : sku.size ≤ 1000000000000)
    (hmay : mayB kind o d sku.data.toList qty amt 0 = true) (hf : findR st.rows (o, d) = none) (hd : 3 ≤ d) :
    Calls Tryd.prog 13 #[.pointer (some ⟨p, 0, none⟩), .agg #[.int .i64 kind, .int .i64 o, .int .i64 d, .string sku, .int .i64 qty, .int .i64 amt, .int .i64 0]] w fun e w' => e = .returned (.tuple #[ansM o d (ansS kind stock limit st ⟨kind, o, d, sku.data.toList, qty, amt, 0⟩), .bool (ansS kind stock limit st ⟨kind, o, d, sku.data.toList, qty, amt, 0⟩).isSome]) ∧ PA w' p bk tk wh kind stock limit seq (m + 1) (askS kind stock limit st ⟨kind, o, d, sku.data.toList, qty, amt, 0⟩) ∧ Turned (fun i => i = bk ∨ i = tk ∨ i = wh) w w' := by
  have HP := Lib.hid h
  have hl := h.lt
  have HG := Lib.hid g
  have HM := Lib.hid (heap_keep (heap_new w (.cells #[.int .i64 kind, .int .i64 o, .int .i64 d, .string sku, .int .i64 qty, .int .i64 amt, .int .i64 0] tMsg)) (below_alloc _ (.cells #[.int .i64 0, .int .i64 0, .int .i64 0, .string ⟨#[]⟩, .int .i64 0, .int .i64 0, .int .i64 0] tMsg)))
  have hr1 := heap_new (w.alloc (.cells #[.int .i64 kind, .int .i64 o, .int .i64 d, .string sku, .int .i64 qty, .int .i64 amt, .int .i64 0] tMsg)) (.cells #[.int .i64 0, .int .i64 0, .int .i64 0, .string ⟨#[]⟩, .int .i64 0, .int .i64 0, .int .i64 0] tMsg)
  rw [show (w.alloc (.cells #[.int .i64 kind, .int .i64 o, .int .i64 d, .string sku, .int .i64 qty, .int .i64 amt, .int .i64 0] tMsg)).heap.size = w.heap.size + 1 by simp] at hr1
  have HZ := Lib.hid hr1
  have HB := Lib.hid ((below_alloc w (.cells #[.int .i64 kind, .int .i64 o, .int .i64 d, .string sku, .int .i64 qty, .int .i64 amt, .int .i64 0] tMsg)).alloc (by simp) (.cells #[.int .i64 0, .int .i64 0, .int .i64 0, .string ⟨#[]⟩, .int .i64 0, .int .i64 0, .int .i64 0] tMsg))
  have HT := Lib.hid hT
  have HF := Lib.hid hf
  have hsome := ask_find (limit := limit) g (m := ⟨kind, o, d, sku.data.toList, qty, amt, 0⟩) hmay rfl
  have HR2 := Lib.hid (Pa.Good.ask (limit := limit) g ⟨kind, o, d, sku.data.toList, qty, amt, 0⟩).rise
  have hq0 : askS kind stock limit st ⟨kind, o, d, sku.data.toList, qty, amt, 0⟩ = undoS kind st ⟨kind, o, d, sku.data.toList, qty, amt, 0⟩ := by unfold askS nextS; simp [Ms.may, hmay, hf, hd]
  obtain ⟨⟨yk, yc, ya, yq⟩, hy⟩ := hsome
  simp only [] at hy
  obtain rfl : yk = (o, d) := (find_some hy).2
  have HA := Lib.hid (show ansS kind stock limit st ⟨kind, o, d, sku.data.toList, qty, amt, 0⟩ = some yc ∧ askS kind stock limit st ⟨kind, o, d, sku.data.toList, qty, amt, 0⟩ = undoS kind st ⟨kind, o, d, sku.data.toList, qty, amt, 0⟩ from ⟨by unfold ansS; simp [Ms.may, hmay, hy], hq0⟩)
  rw [hq0] at hy HR2
  obtain ⟨ST', hST'⟩ : ∃ S, undoS kind st ⟨kind, o, d, sku.data.toList, qty, amt, 0⟩ = S := ⟨_, rfl⟩
  rw [hST'] at hy HR2 HA
  have HS' := Lib.hid hST'
  have HY := Lib.hid hy
  have HRI := HR2
  have HMAY := Lib.hid hmay
  have hne := bneF (rfl : kind = kind)
  have hchk : chk o d = true := (may_says (m := ⟨kind, o, d, sku.data.toList, qty, amt, 0⟩) hmay rfl).1
  have hbd := chk_iff.1 hchk
  obtain ⟨kl, hkl⟩ := key_chk (k := (o, d)) hchk
  have HKL := Lib.hid hkl
  have hv : ∀ W, MapL Tryd.prog tKey mkKey mkRow W bk (entR st.rows) → (Instr.lookup tBook (.map (some bk)) (mkKey (o, d)) true).run Tryd.prog W = .ok (.tuple #[mkRow ((0, 0), 0, 0, 0), .bool false]) W := fun W hW => by
    rcases hW.look lawKey mapBook (zeroRow W) HKL.out (mkKey_inj _) with ⟨u, hu, _⟩ | ⟨_, r, _⟩
    · obtain ⟨h1, h2⟩ := mem_entR.1 hu
      exact absurd h2 (find_none HF.out u h1)
    · exact r
  have HUN := Lib.hid (fun W => undoes_any d W (by unfold Mon.InR; omega))
  rw [show undoI d = (d - 3, true) by unfold undoI; rw [if_pos (by omega)]] at HUN
  clear hf hkl hq0 hy hST' hchk
  clear h g hr1 hT
  go_enter Tryd.func13, Tryd.ntmps13
  go_wp2_with fail
  generalize (w.alloc (.cells #[.int .i64 kind, .int .i64 o, .int .i64 d, .string sku, .int .i64 qty, .int .i64 amt, .int .i64 0] tMsg)).alloc (.cells #[.int .i64 0, .int .i64 0, .int .i64 0, .string ⟨#[]⟩, .int .i64 0, .int .i64 0, .int .i64 0] tMsg) = wa at HM HZ HB ⊢
  have HPa := Lib.hid (HP.out.below HB.out)
  have HPh := Lib.hid HPa.out.hd
  have HN := Lib.hid (fun W (hb : Below wa.heap.size wa W) => nonep_no W p bk tk wh kind stock limit seq m st (HPa.out.below hb))
  have HMay := Lib.hid (fun W (hb : Below wa.heap.size wa W) => may_any W kind o d sku qty amt 0 hs ((HT.out.below HB.out).below hb))
  simp only [hmay] at HMay
  refine wp_region_noPanic ?_
  refine wp_region_held_drew (S := (fun w' => Hid (Below wa.heap.size wa w') ∧ w'.cell? ⟨w.heap.size, 0, none⟩ = some (.int .i64 kind) ∧ w'.cell? ⟨w.heap.size, 1, none⟩ = some (.int .i64 o) ∧ w'.cell? ⟨w.heap.size, 2, none⟩ = some (.int .i64 d) ∧ w'.cell? ⟨w.heap.size, 3, none⟩ = some (.string sku) ∧ w'.cell? ⟨w.heap.size, 4, none⟩ = some (.int .i64 qty) ∧ w'.cell? ⟨w.heap.size, 5, none⟩ = some (.int .i64 amt) ∧ w'.cell? ⟨w.heap.size, 6, none⟩ = some (.int .i64 0) ∧ w'.cell? ⟨p, 0, none⟩ = some (.int .i64 kind))) (by kernel_rfl) ⟨(below_drew1 (Below.refl _ wa)), cell_at ((((below_drew1 (Below.refl _ wa))).block _ (heap_lt HM.out)).trans HM.out) 0 rfl, cell_at ((((below_drew1 (Below.refl _ wa))).block _ (heap_lt HM.out)).trans HM.out) 1 rfl, cell_at ((((below_drew1 (Below.refl _ wa))).block _ (heap_lt HM.out)).trans HM.out) 2 rfl, cell_at ((((below_drew1 (Below.refl _ wa))).block _ (heap_lt HM.out)).trans HM.out) 3 rfl, cell_at ((((below_drew1 (Below.refl _ wa))).block _ (heap_lt HM.out)).trans HM.out) 4 rfl, cell_at ((((below_drew1 (Below.refl _ wa))).block _ (heap_lt HM.out)).trans HM.out) 5 rfl, cell_at ((((below_drew1 (Below.refl _ wa))).block _ (heap_lt HM.out)).trans HM.out) 6 rfl, cell_at ((((below_drew1 (Below.refl _ wa))).block _ (heap_lt HPh.out)).trans HPh.out) 0 rfl⟩ (fun hHeld => ?_)
  refine wpAnyH_take (i := 0) (v := ?vb0) rfl (by kernel_rfl) (by kernel_rfl) (by kernel_rfl) (fun _ _ _ h => h) (Or.inl ⟨by rfl, ?hyb0⟩) (by assumption) ?restb0
  case hyb0 => (intro w0 hSw; (try dsimp only at hSw); go_simp; try with_reducible rfl)
  case' restb0 => try simp only [Act.put, List.getElem_toArray, List.getElem_cons_zero, List.getElem_cons_succ, List.setIfInBounds_toArray, List.set_cons_zero, List.set_cons_succ]
  refine wpAnyH_ready (rs := [1]) (by kernel_rfl) (by simp) ?_
  refine AllReadyH.cons rfl (fun K hK => ?_) AllReadyH.nil
  go_simp
  refine (HN.out _ (Hid.out (And.left (by assumption)))).mono ?_; rintro e w1 ⟨rfl, hb⟩; subst hb
  refine hK.out _ _ (by assumption) (fun hHeld => ?_)
  clear hK K
  try simp only [Act.put, List.getElem_toArray, List.getElem_cons_zero, List.getElem_cons_succ, List.setIfInBounds_toArray, List.set_cons_zero, List.set_cons_succ]
  refine wpAnyH_take (i := 2) (v := ?vb2) rfl (by kernel_rfl) (by kernel_rfl) (by kernel_rfl) (fun _ _ _ h => h) (Or.inl ⟨by rfl, ?hyb2⟩) (by assumption) ?restb2
  case hyb2 => (intro w0 hSw; (try dsimp only at hSw); go_simp; try with_reducible rfl)
  case' restb2 => try simp only [Act.put, List.getElem_toArray, List.getElem_cons_zero, List.getElem_cons_succ, List.setIfInBounds_toArray, List.set_cons_zero, List.set_cons_succ]
  refine wpAnyH_take (i := 3) (v := ?vb3) rfl (by kernel_rfl) (by kernel_rfl) (by kernel_rfl) (fun _ _ _ h => h) (Or.inl ⟨by rfl, ?hyb3⟩) (by assumption) ?restb3
  case hyb3 => (intro w0 hSw; (try dsimp only at hSw); go_simp; try with_reducible rfl)
  case' restb3 => try simp only [Act.put, List.getElem_toArray, List.getElem_cons_zero, List.getElem_cons_succ, List.setIfInBounds_toArray, List.set_cons_zero, List.set_cons_succ]
  refine wpAnyH_take (i := 4) (v := ?vb4) rfl (by kernel_rfl) (by kernel_rfl) (by kernel_rfl) (fun _ _ _ h => h) (Or.inl ⟨by rfl, ?hyb4⟩) (by assumption) ?restb4
  case hyb4 => (intro w0 hSw; (try dsimp only at hSw); go_simp; try with_reducible rfl)
  case' restb4 => try simp only [Act.put, List.getElem_toArray, List.getElem_cons_zero, List.getElem_cons_succ, List.setIfInBounds_toArray, List.set_cons_zero, List.set_cons_succ]
  refine wpAnyH_take (i := 5) (v := ?vb5) rfl (by kernel_rfl) (by kernel_rfl) (by kernel_rfl) (fun _ _ _ h => h) (Or.inl ⟨by rfl, ?hyb5⟩) (by assumption) ?restb5
  case hyb5 => (intro w0 hSw; (try dsimp only at hSw); go_simp; try with_reducible rfl)
  case' restb5 => try simp only [Act.put, List.getElem_toArray, List.getElem_cons_zero, List.getElem_cons_succ, List.setIfInBounds_toArray, List.set_cons_zero, List.set_cons_succ]
  refine wpAnyH_take (i := 6) (v := ?vb6) rfl (by kernel_rfl) (by kernel_rfl) (by kernel_rfl) (fun _ _ _ h => h) (Or.inl ⟨by rfl, ?hyb6⟩) (by assumption) ?restb6
  case hyb6 => (intro w0 hSw; (try dsimp only at hSw); go_simp; try with_reducible rfl)
  case' restb6 => try simp only [Act.put, List.getElem_toArray, List.getElem_cons_zero, List.getElem_cons_succ, List.setIfInBounds_toArray, List.set_cons_zero, List.set_cons_succ]
  refine wpAnyH_take (i := 7) (v := ?vb7) rfl (by kernel_rfl) (by kernel_rfl) (by kernel_rfl) (fun _ _ _ h => h) (Or.inl ⟨by rfl, ?hyb7⟩) (by assumption) ?restb7
  case hyb7 => (intro w0 hSw; (try dsimp only at hSw); go_simp; try with_reducible rfl)
  case' restb7 => try simp only [Act.put, List.getElem_toArray, List.getElem_cons_zero, List.getElem_cons_succ, List.setIfInBounds_toArray, List.set_cons_zero, List.set_cons_succ]
  refine wpAnyH_take (i := 8) (v := ?vb8) rfl (by kernel_rfl) (by kernel_rfl) (by kernel_rfl) (fun _ _ _ h => h) (Or.inl ⟨by rfl, ?hyb8⟩) (by assumption) ?restb8
  case hyb8 => (intro w0 hSw; (try dsimp only at hSw); go_simp; try with_reducible rfl)
  case' restb8 => try simp only [Act.put, List.getElem_toArray, List.getElem_cons_zero, List.getElem_cons_succ, List.setIfInBounds_toArray, List.set_cons_zero, List.set_cons_succ]
  refine wpAnyH_take (i := 9) (v := ?vb9) rfl (by kernel_rfl) (by kernel_rfl) (by kernel_rfl) (fun _ _ _ h => h) (Or.inl ⟨by rfl, ?hyb9⟩) (by assumption) ?restb9
  case hyb9 => (intro w0 hSw; (try dsimp only at hSw); go_simp; try with_reducible rfl)
  case' restb9 => try simp only [Act.put, List.getElem_toArray, List.getElem_cons_zero, List.getElem_cons_succ, List.setIfInBounds_toArray, List.set_cons_zero, List.set_cons_succ]
  refine wpAnyH_take (i := 10) (v := ?vb10) rfl (by kernel_rfl) (by kernel_rfl) (by kernel_rfl) (fun _ _ _ h => h) (Or.inl ⟨by rfl, ?hyb10⟩) (by assumption) ?restb10
  case hyb10 => (intro w0 hSw; (try dsimp only at hSw); go_simp; try with_reducible rfl)
  case' restb10 => try simp only [Act.put, List.getElem_toArray, List.getElem_cons_zero, List.getElem_cons_succ, List.setIfInBounds_toArray, List.set_cons_zero, List.set_cons_succ]
  refine wpAnyH_take (i := 11) (v := ?vb11) rfl (by kernel_rfl) (by kernel_rfl) (by kernel_rfl) (fun _ _ _ h => h) (Or.inl ⟨by rfl, ?hyb11⟩) (by assumption) ?restb11
  case hyb11 => (intro w0 hSw; (try dsimp only at hSw); go_simp; try with_reducible rfl)
  case' restb11 => try simp only [Act.put, List.getElem_toArray, List.getElem_cons_zero, List.getElem_cons_succ, List.setIfInBounds_toArray, List.set_cons_zero, List.set_cons_succ]
  refine wpAnyH_take (i := 12) (v := ?vb12) rfl (by kernel_rfl) (by kernel_rfl) (by kernel_rfl) (fun _ _ _ h => h) (Or.inl ⟨by rfl, ?hyb12⟩) (by assumption) ?restb12
  case hyb12 => (intro w0 hSw; (try dsimp only at hSw); go_simp; try with_reducible rfl)
  case' restb12 => try simp only [Act.put, List.getElem_toArray, List.getElem_cons_zero, List.getElem_cons_succ, List.setIfInBounds_toArray, List.set_cons_zero, List.set_cons_succ]
  refine wpAnyH_ready (rs := [13]) (by kernel_rfl) (by simp) ?_
  refine AllReadyH.cons rfl (fun K hK => ?_) AllReadyH.nil
  go_simp
  refine (HMay.out _ (Hid.out (And.left (by assumption)))).mono ?_; rintro e w1 ⟨rfl, hb⟩
  have hbk := bch (Hid.out (And.left (by assumption))) hb (Below.size (Hid.out (And.left (by assumption))))
  refine hK.out _ _ ⟨hbk, cell_at (((hbk).block _ (heap_lt HM.out)).trans HM.out) 0 rfl, cell_at (((hbk).block _ (heap_lt HM.out)).trans HM.out) 1 rfl, cell_at (((hbk).block _ (heap_lt HM.out)).trans HM.out) 2 rfl, cell_at (((hbk).block _ (heap_lt HM.out)).trans HM.out) 3 rfl, cell_at (((hbk).block _ (heap_lt HM.out)).trans HM.out) 4 rfl, cell_at (((hbk).block _ (heap_lt HM.out)).trans HM.out) 5 rfl, cell_at (((hbk).block _ (heap_lt HM.out)).trans HM.out) 6 rfl, cell_at (((hbk).block _ (heap_lt HPh.out)).trans HPh.out) 0 rfl⟩ (fun hHeld => ?_)
  clear hK K hb hbk
  try simp only [Act.put, List.getElem_toArray, List.getElem_cons_zero, List.getElem_cons_succ, List.setIfInBounds_toArray, List.set_cons_zero, List.set_cons_succ]
  refine wpAnyH_take (i := 14) (v := ?vb14) rfl (by kernel_rfl) (by kernel_rfl) (by kernel_rfl) (fun _ _ _ h => h) (Or.inl ⟨by rfl, ?hyb14⟩) (by assumption) ?restb14
  case hyb14 => (intro w0 hSw; (try dsimp only at hSw); go_simp; try with_reducible rfl)
  case' restb14 => try simp only [Act.put, List.getElem_toArray, List.getElem_cons_zero, List.getElem_cons_succ, List.setIfInBounds_toArray, List.set_cons_zero, List.set_cons_succ]
  refine wpAnyH_take (i := 15) (v := ?vb15) rfl (by kernel_rfl) (by kernel_rfl) (by kernel_rfl) (fun _ _ _ h => h) (Or.inl ⟨by rfl, ?hyb15⟩) (by assumption) ?restb15
  case hyb15 => (intro w0 hSw; (try dsimp only at hSw); go_simp; try with_reducible rfl)
  case' restb15 => try simp only [Act.put, List.getElem_toArray, List.getElem_cons_zero, List.getElem_cons_succ, List.setIfInBounds_toArray, List.set_cons_zero, List.set_cons_succ]
  refine wpAnyH_done (by kernel_rfl) ?_ _
  refine NoPanic.normal ?_
  have HBx := Lib.hid (Hid.out hHeld.1)
  have HZx := Lib.hid (heap_keep HZ.out HBx.out)
  have HMx := Lib.hid (heap_keep HM.out HBx.out)
  have HPx := Lib.hid (HPa.out.below HBx.out)
  have HPy := Lib.hid HPx.out.hd
  have HB2 := Lib.hid (bch HB.out HBx.out HB.out.size)
  clear hHeld HN HMay HPh HPa HM HZ
  generalize w1 = wx at HBx HZx HMx HPx HPy HB2 ⊢
  have HL := Lib.hid (fun W (hb : Below wx.heap.size wx W) => hv W (HPx.out.book.below hb))
  clear hv
  simp only [mkKey, mkRow] at HL
  go_wp2_with fail
  refine wp_region_noPanic ?_
  refine wp_region_held_drew (S := (fun w' => Hid (Below wx.heap.size wx w') ∧ w'.cell? ⟨p, 3, none⟩ = some (.map (some bk)) ∧ w'.cell? ⟨w.heap.size, 1, none⟩ = some (.int .i64 o) ∧ w'.cell? ⟨w.heap.size, 2, none⟩ = some (.int .i64 d) ∧ (Instr.lookup tBook (.map (some bk)) (.agg #[.int .i64 o, .int .i64 d]) true).run Tryd.prog w' = .ok (.tuple #[.agg #[.int .i64 0, .int .i64 0, .int .i64 0, .int .i64 0, .int .i64 0], .bool false]) w')) (by kernel_rfl) ⟨(below_drew1 (Below.refl _ wx)), cell_at ((((below_drew1 (Below.refl _ wx))).block _ (heap_lt HPy.out)).trans HPy.out) 3 rfl, cell_at ((((below_drew1 (Below.refl _ wx))).block _ (heap_lt HMx.out)).trans HMx.out) 1 rfl, cell_at ((((below_drew1 (Below.refl _ wx))).block _ (heap_lt HMx.out)).trans HMx.out) 2 rfl, HL.out _ (below_drew1 (Below.refl _ wx))⟩ (fun hHeld => ?_)
  refine wpAnyH_take (i := 0) (v := ?vt0) rfl (by kernel_rfl) (by kernel_rfl) (by kernel_rfl) (fun _ _ _ h => h) (Or.inl ⟨by rfl, ?hyt0⟩) (by assumption) ?restt0
  case hyt0 => (intro w0 hSw; (try dsimp only at hSw); go_simp; try with_reducible rfl)
  case' restt0 => try simp only [Act.put, List.getElem_toArray, List.getElem_cons_zero, List.getElem_cons_succ, List.setIfInBounds_toArray, List.set_cons_zero, List.set_cons_succ]
  refine wpAnyH_take (i := 1) (v := ?vt1) rfl (by kernel_rfl) (by kernel_rfl) (by kernel_rfl) (fun _ _ _ h => h) (Or.inl ⟨by rfl, ?hyt1⟩) (by assumption) ?restt1
  case hyt1 => (intro w0 hSw; (try dsimp only at hSw); go_simp; try with_reducible rfl)
  case' restt1 => try simp only [Act.put, List.getElem_toArray, List.getElem_cons_zero, List.getElem_cons_succ, List.setIfInBounds_toArray, List.set_cons_zero, List.set_cons_succ]
  refine wpAnyH_take (i := 2) (v := ?vt2) rfl (by kernel_rfl) (by kernel_rfl) (by kernel_rfl) (fun _ _ _ h => h) (Or.inl ⟨by rfl, ?hyt2⟩) (by assumption) ?restt2
  case hyt2 => (intro w0 hSw; (try dsimp only at hSw); go_simp; try with_reducible rfl)
  case' restt2 => try simp only [Act.put, List.getElem_toArray, List.getElem_cons_zero, List.getElem_cons_succ, List.setIfInBounds_toArray, List.set_cons_zero, List.set_cons_succ]
  refine wpAnyH_take (i := 3) (v := ?vt3) rfl (by kernel_rfl) (by kernel_rfl) (by kernel_rfl) (fun _ _ _ h => h) (Or.inl ⟨by rfl, ?hyt3⟩) (by assumption) ?restt3
  case hyt3 => (intro w0 hSw; (try dsimp only at hSw); go_simp; try with_reducible rfl)
  case' restt3 => try simp only [Act.put, List.getElem_toArray, List.getElem_cons_zero, List.getElem_cons_succ, List.setIfInBounds_toArray, List.set_cons_zero, List.set_cons_succ]
  refine wpAnyH_take (i := 4) (v := ?vt4) rfl (by kernel_rfl) (by kernel_rfl) (by kernel_rfl) (fun _ _ _ h => h) (Or.inl ⟨by rfl, ?hyt4⟩) (by assumption) ?restt4
  case hyt4 => (intro w0 hSw; (try dsimp only at hSw); go_simp; try with_reducible rfl)
  case' restt4 => try simp only [Act.put, List.getElem_toArray, List.getElem_cons_zero, List.getElem_cons_succ, List.setIfInBounds_toArray, List.set_cons_zero, List.set_cons_succ]
  refine wpAnyH_take (i := 5) (v := ?vt5) rfl (by kernel_rfl) (by kernel_rfl) (by kernel_rfl) (fun _ _ _ h => h) (Or.inl ⟨by rfl, ?hyt5⟩) (by assumption) ?restt5
  case hyt5 => (intro w0 hSw; (try dsimp only at hSw); go_simp; try with_reducible rfl)
  case' restt5 => try simp only [Act.put, List.getElem_toArray, List.getElem_cons_zero, List.getElem_cons_succ, List.setIfInBounds_toArray, List.set_cons_zero, List.set_cons_succ]
  refine wpAnyH_take (i := 6) (v := ?vt6) rfl (by kernel_rfl) (by kernel_rfl) (by kernel_rfl) (fun _ _ _ h => h) (Or.inl ⟨by rfl, ?hyt6⟩) (by assumption) ?restt6
  case hyt6 => (intro w0 hSw; (try dsimp only at hSw); go_simp; try with_reducible rfl)
  case' restt6 => try simp only [Act.put, List.getElem_toArray, List.getElem_cons_zero, List.getElem_cons_succ, List.setIfInBounds_toArray, List.set_cons_zero, List.set_cons_succ]
  refine wpAnyH_take (i := 7) (v := ?vt7) rfl (by kernel_rfl) (by kernel_rfl) (by kernel_rfl) (fun _ _ _ h => h) (Or.inl ⟨by rfl, ?hyt7⟩) (by assumption) ?restt7
  case hyt7 => (intro w0 hSw; (try dsimp only at hSw); go_simp; try with_reducible rfl)
  case' restt7 => try simp only [Act.put, List.getElem_toArray, List.getElem_cons_zero, List.getElem_cons_succ, List.setIfInBounds_toArray, List.set_cons_zero, List.set_cons_succ]
  refine wpAnyH_take (i := 8) (v := ?vt8) rfl (by kernel_rfl) (by kernel_rfl) (by kernel_rfl) (fun _ _ _ h => h) (Or.inl ⟨by rfl, ?hyt8⟩) (by assumption) ?restt8
  case hyt8 => (intro w0 hSw; (try dsimp only at hSw); go_simp; try with_reducible rfl)
  case' restt8 => try simp only [Act.put, List.getElem_toArray, List.getElem_cons_zero, List.getElem_cons_succ, List.setIfInBounds_toArray, List.set_cons_zero, List.set_cons_succ]
  refine wpAnyH_take (i := 9) (v := ?vt9) rfl (by kernel_rfl) (by kernel_rfl) (by kernel_rfl) (fun _ _ _ h => h) (Or.inl ⟨by rfl, ?hyt9⟩) (by assumption) ?restt9
  case hyt9 => (intro w0 hSw; (try dsimp only at hSw); go_simp; try with_reducible rfl)
  case' restt9 => try simp only [Act.put, List.getElem_toArray, List.getElem_cons_zero, List.getElem_cons_succ, List.setIfInBounds_toArray, List.set_cons_zero, List.set_cons_succ]
  refine wpAnyH_ready (rs := [10]) (by kernel_rfl) (by simp) ?_
  refine AllReadyH.cons rfl (fun K hK => ?_) AllReadyH.nil
  go_simp
  refine hK.out _ _ ⟨(below_drew1 (below_alloc wx _)), cell_at ((((below_drew1 (below_alloc wx _))).block _ (heap_lt HPy.out)).trans HPy.out) 3 rfl, cell_at ((((below_drew1 (below_alloc wx _))).block _ (heap_lt HMx.out)).trans HMx.out) 1 rfl, cell_at ((((below_drew1 (below_alloc wx _))).block _ (heap_lt HMx.out)).trans HMx.out) 2 rfl, HL.out _ (below_drew1 (below_alloc wx _))⟩ (fun hHeld => ?_)
  clear hK K
  try simp only [Act.put, List.getElem_toArray, List.getElem_cons_zero, List.getElem_cons_succ, List.setIfInBounds_toArray, List.set_cons_zero, List.set_cons_succ]
  refine wpAnyH_ready (rs := [11]) (by kernel_rfl) (by simp) ?_
  refine AllReadyH.cons rfl (fun K hK => ?_) AllReadyH.nil
  go_simp
  refine hK.out _ _ ⟨(below_drew1 (below_alloc wx _)), cell_at ((((below_drew1 (below_alloc wx _))).block _ (heap_lt HPy.out)).trans HPy.out) 3 rfl, cell_at ((((below_drew1 (below_alloc wx _))).block _ (heap_lt HMx.out)).trans HMx.out) 1 rfl, cell_at ((((below_drew1 (below_alloc wx _))).block _ (heap_lt HMx.out)).trans HMx.out) 2 rfl, HL.out _ (below_drew1 (below_alloc wx _))⟩ (fun hHeld => ?_)
  clear hK K
  try simp only [Act.put, List.getElem_toArray, List.getElem_cons_zero, List.getElem_cons_succ, List.setIfInBounds_toArray, List.set_cons_zero, List.set_cons_succ]
  refine wpAnyH_take (i := 12) (v := ?vt12) rfl (by kernel_rfl) (by kernel_rfl) (by kernel_rfl) (fun _ _ _ h => h) (Or.inl ⟨by rfl, ?hyt12⟩) (by assumption) ?restt12
  case hyt12 => (intro w0 hSw; (try dsimp only at hSw); go_simp; try with_reducible rfl)
  case' restt12 => try simp only [Act.put, List.getElem_toArray, List.getElem_cons_zero, List.getElem_cons_succ, List.setIfInBounds_toArray, List.set_cons_zero, List.set_cons_succ]
  refine wpAnyH_done (by kernel_rfl) ?_ _
  refine NoPanic.normal ?_
  have HB3 := Lib.hid (Hid.out hHeld.1)
  have HM3 := Lib.hid (heap_keep HMx.out HB3.out)
  have HZ3 := Lib.hid (heap_keep HZx.out HB3.out)
  have HP3 := Lib.hid (HPx.out.below HB3.out)
  have HBw := Lib.hid (bch HB2.out HB3.out HB2.out.size)
  have HLT := Lib.hid (show w.heap.size + 1 < wx.heap.size from heap_lt HZx.out)
  clear hHeld HMx HZx HPx HPy HB2 HBx HL
  generalize (wx.alloc (.cells #[.int .i64 0, .int .i64 0, .int .i64 0, .int .i64 0, .int .i64 0] 45)).drew = w3 at HB3 HM3 HZ3 HP3 HBw ⊢
  obtain ⟨c0, c1, c2, c3, c4, c5, c6⟩ := cell7 HM3.out
  go_wp2_with fail
  refine (HUN.out _).mono ?_
  rintro e w1 ⟨rfl, hw⟩; subst hw
  go_wp2_with fail
  refine (undo_any w3 p bk tk wh kind stock limit seq m st o d sku.data.toList qty amt HP3.out HG.out hst hn hm HMAY.out hd HF.out).mono ?_
  rintro e w4 ⟨rfl, hp4, ht4⟩
  rw [HS'.out] at hp4
  have HP4 := Lib.hid hp4
  have HM4 := Lib.hid ((ht4.block _ (heap_lt HM3.out) (by omega)).trans HM3.out)
  have HZ4 := Lib.hid ((ht4.block _ (heap_lt HZ3.out) (by omega)).trans HZ3.out)
  have HTW := Lib.hid ((Turned.of_below (S := fun i => i = bk ∨ i = tk ∨ i = wh) HBw.out).trans ht4)
  clear hp4 ht4 HP3 HM3 HZ3 HBw HB3 c0 c1 c2 c3 c4 c5 c6
  go_wp2_with fail
  have hv9 : ∀ W, MapL Tryd.prog tKey mkKey mkRow W bk (entR ST'.rows) → (Instr.lookup tBook (.map (some bk)) (mkKey (o, d)) false).run Tryd.prog W = .ok (mkRow ((o, d), yc, ya, yq)) W := fun W hW => by
    rcases hW.look lawKey mapBook (zeroRow W) HKL.out (mkKey_inj _) with ⟨u, hu, _, r⟩ | ⟨hno, _⟩
    · rw [book_one HRI.out HY.out hu] at r; exact r
    · exact absurd (mem_entR.2 (find_some HY.out)) (fun hx => hno _ hx rfl)
  have HH := Lib.hid (fun W (ht : Turned (fun i => i = w.heap.size + 1) w4 W) => (⟨Lib.hid ht, cell_at ((ht.block _ (heap_lt HM4.out) (by omega)).trans HM4.out) 1 rfl, cell_at ((ht.block _ (heap_lt HM4.out) (by omega)).trans HM4.out) 2 rfl, cell_at ((ht.block _ (heap_lt HP4.out.hd) (by omega)).trans HP4.out.hd) 3 rfl, hv9 W (HP4.out.book.block (ht.block _ HP4.out.lt.2.1 (by omega))), field_code o d yc ya yq W⟩ : (fun w' => Hid (Turned (fun i => i = w.heap.size + 1) w4 w') ∧ w'.cell? ⟨w.heap.size, 1, none⟩ = some (.int .i64 o) ∧ w'.cell? ⟨w.heap.size, 2, none⟩ = some (.int .i64 d) ∧ w'.cell? ⟨p, 3, none⟩ = some (.map (some bk)) ∧ (Instr.lookup tBook (.map (some bk)) (.agg #[.int .i64 o, .int .i64 d]) false).run Tryd.prog w' = .ok (.agg #[.int .i64 o, .int .i64 d, .int .i64 yc, .int .i64 ya, .int .i64 yq]) w' ∧ (Instr.field tRow (.agg #[.int .i64 o, .int .i64 d, .int .i64 yc, .int .i64 ya, .int .i64 yq]) 1).run Tryd.prog w' = .ok (.int .i64 yc) w') W))
  have HTu := Lib.hid (turned_set7 w4 (w.heap.size + 1) (.int .i64 3) (.int .i64 o) (.int .i64 d) (.string ⟨#[]⟩) (.int .i64 0) (.int .i64 0) (.int .i64 yc)).drew
  have hset := set7d HZ4.out (.int .i64 3) (.int .i64 o) (.int .i64 d) (.string ⟨#[]⟩) (.int .i64 0) (.int .i64 0) (.int .i64 yc)
  unfold set7w at hset HTu
  have HSET := Lib.hid hset
  clear hv9 hset
  obtain ⟨z0, z1, z2, z3, z4, z5, z6⟩ := cell7 HZ4.out
  obtain ⟨f0, f1, f2, f3, f4, f5, f6⟩ := froz7 HZ4.out
  refine wp_region_noPanic ?_
  refine wp_region_held_drew (S := (fun w' => Hid (Turned (fun i => i = w.heap.size + 1) w4 w') ∧ w'.cell? ⟨w.heap.size, 1, none⟩ = some (.int .i64 o) ∧ w'.cell? ⟨w.heap.size, 2, none⟩ = some (.int .i64 d) ∧ w'.cell? ⟨p, 3, none⟩ = some (.map (some bk)) ∧ (Instr.lookup tBook (.map (some bk)) (.agg #[.int .i64 o, .int .i64 d]) false).run Tryd.prog w' = .ok (.agg #[.int .i64 o, .int .i64 d, .int .i64 yc, .int .i64 ya, .int .i64 yq]) w' ∧ (Instr.field tRow (.agg #[.int .i64 o, .int .i64 d, .int .i64 yc, .int .i64 ya, .int .i64 yq]) 1).run Tryd.prog w' = .ok (.int .i64 yc) w')) (by kernel_rfl) (HH.out _ (Turned.refl _ w4).drew) (fun hHeld => ?_)
  refine wpAnyH_take (i := 0) (v := ?vz0) rfl (by kernel_rfl) (by kernel_rfl) (by kernel_rfl) (fun _ _ _ h => h) (Or.inl ⟨by rfl, ?hyz0⟩) (by assumption) ?restz0
  case hyz0 => (intro w0 hSw; (try dsimp only at hSw); go_simp; try with_reducible rfl)
  case' restz0 => try simp only [Act.put, List.getElem_toArray, List.getElem_cons_zero, List.getElem_cons_succ, List.setIfInBounds_toArray, List.set_cons_zero, List.set_cons_succ]
  refine wpAnyH_take (i := 1) (v := ?vz1) rfl (by kernel_rfl) (by kernel_rfl) (by kernel_rfl) (fun _ _ _ h => h) (Or.inl ⟨by rfl, ?hyz1⟩) (by assumption) ?restz1
  case hyz1 => (intro w0 hSw; (try dsimp only at hSw); go_simp; try with_reducible rfl)
  case' restz1 => try simp only [Act.put, List.getElem_toArray, List.getElem_cons_zero, List.getElem_cons_succ, List.setIfInBounds_toArray, List.set_cons_zero, List.set_cons_succ]
  refine wpAnyH_take (i := 2) (v := ?vz2) rfl (by kernel_rfl) (by kernel_rfl) (by kernel_rfl) (fun _ _ _ h => h) (Or.inl ⟨by rfl, ?hyz2⟩) (by assumption) ?restz2
  case hyz2 => (intro w0 hSw; (try dsimp only at hSw); go_simp; try with_reducible rfl)
  case' restz2 => try simp only [Act.put, List.getElem_toArray, List.getElem_cons_zero, List.getElem_cons_succ, List.setIfInBounds_toArray, List.set_cons_zero, List.set_cons_succ]
  refine wpAnyH_take (i := 3) (v := ?vz3) rfl (by kernel_rfl) (by kernel_rfl) (by kernel_rfl) (fun _ _ _ h => h) (Or.inl ⟨by rfl, ?hyz3⟩) (by assumption) ?restz3
  case hyz3 => (intro w0 hSw; (try dsimp only at hSw); go_simp; try with_reducible rfl)
  case' restz3 => try simp only [Act.put, List.getElem_toArray, List.getElem_cons_zero, List.getElem_cons_succ, List.setIfInBounds_toArray, List.set_cons_zero, List.set_cons_succ]
  refine wpAnyH_take (i := 4) (v := ?vz4) rfl (by kernel_rfl) (by kernel_rfl) (by kernel_rfl) (fun _ _ _ h => h) (Or.inl ⟨by rfl, ?hyz4⟩) (by assumption) ?restz4
  case hyz4 => (intro w0 hSw; (try dsimp only at hSw); go_simp; try with_reducible rfl)
  case' restz4 => try simp only [Act.put, List.getElem_toArray, List.getElem_cons_zero, List.getElem_cons_succ, List.setIfInBounds_toArray, List.set_cons_zero, List.set_cons_succ]
  refine wpAnyH_take (i := 5) (v := ?vz5) rfl (by kernel_rfl) (by kernel_rfl) (by kernel_rfl) (fun _ _ _ h => h) (Or.inl ⟨by rfl, ?hyz5⟩) (by assumption) ?restz5
  case hyz5 => (intro w0 hSw; (try dsimp only at hSw); go_simp; try with_reducible rfl)
  case' restz5 => try simp only [Act.put, List.getElem_toArray, List.getElem_cons_zero, List.getElem_cons_succ, List.setIfInBounds_toArray, List.set_cons_zero, List.set_cons_succ]
  refine wpAnyH_take (i := 6) (v := ?vz6) rfl (by kernel_rfl) (by kernel_rfl) (by kernel_rfl) (fun _ _ _ h => h) (Or.inl ⟨by rfl, ?hyz6⟩) (by assumption) ?restz6
  case hyz6 => (intro w0 hSw; (try dsimp only at hSw); go_simp; try with_reducible rfl)
  case' restz6 => try simp only [Act.put, List.getElem_toArray, List.getElem_cons_zero, List.getElem_cons_succ, List.setIfInBounds_toArray, List.set_cons_zero, List.set_cons_succ]
  refine wpAnyH_take (i := 7) (v := ?vz7) rfl (by kernel_rfl) (by kernel_rfl) (by kernel_rfl) (fun _ _ _ h => h) (Or.inl ⟨by rfl, ?hyz7⟩) (by assumption) ?restz7
  case hyz7 => (intro w0 hSw; (try dsimp only at hSw); go_simp; try with_reducible rfl)
  case' restz7 => try simp only [Act.put, List.getElem_toArray, List.getElem_cons_zero, List.getElem_cons_succ, List.setIfInBounds_toArray, List.set_cons_zero, List.set_cons_succ]
  refine wpAnyH_take (i := 8) (v := ?vz8) rfl (by kernel_rfl) (by kernel_rfl) (by kernel_rfl) (fun _ _ _ h => h) (Or.inl ⟨by rfl, ?hyz8⟩) (by assumption) ?restz8
  case hyz8 => (intro w0 hSw; (try dsimp only at hSw); go_simp; try with_reducible rfl)
  case' restz8 => try simp only [Act.put, List.getElem_toArray, List.getElem_cons_zero, List.getElem_cons_succ, List.setIfInBounds_toArray, List.set_cons_zero, List.set_cons_succ]
  refine wpAnyH_take (i := 9) (v := ?vz9) rfl (by kernel_rfl) (by kernel_rfl) (by kernel_rfl) (fun _ _ _ h => h) (Or.inl ⟨by rfl, ?hyz9⟩) (by assumption) ?restz9
  case hyz9 => (intro w0 hSw; (try dsimp only at hSw); go_simp; try with_reducible rfl)
  case' restz9 => try simp only [Act.put, List.getElem_toArray, List.getElem_cons_zero, List.getElem_cons_succ, List.setIfInBounds_toArray, List.set_cons_zero, List.set_cons_succ]
  refine wpAnyH_take (i := 10) (v := ?vz10) rfl (by kernel_rfl) (by kernel_rfl) (by kernel_rfl) (fun _ _ _ h => h) (Or.inl ⟨by rfl, ?hyz10⟩) (by assumption) ?restz10
  case hyz10 => (intro w0 hSw; (try dsimp only at hSw); go_simp; try with_reducible rfl)
  case' restz10 => try simp only [Act.put, List.getElem_toArray, List.getElem_cons_zero, List.getElem_cons_succ, List.setIfInBounds_toArray, List.set_cons_zero, List.set_cons_succ]
  refine wpAnyH_ready (rs := [11]) (by kernel_rfl) (by simp) ?_
  refine AllReadyH.cons rfl (fun K hK => ?_) AllReadyH.nil
  go_simp
  refine hK.out _ _ (HH.out _ HTu.out) (fun hHeld => ?_)
  clear hK K
  try simp only [Act.put, List.getElem_toArray, List.getElem_cons_zero, List.getElem_cons_succ, List.setIfInBounds_toArray, List.set_cons_zero, List.set_cons_succ]
  refine wpAnyH_take (i := 12) (v := ?vz12) rfl (by kernel_rfl) (by kernel_rfl) (by kernel_rfl) (fun _ _ _ h => h) (Or.inl ⟨by rfl, ?hyz12⟩) (by assumption) ?restz12
  case hyz12 => (intro w0 hSw; (try dsimp only at hSw); go_simp; try with_reducible rfl)
  case' restz12 => try simp only [Act.put, List.getElem_toArray, List.getElem_cons_zero, List.getElem_cons_succ, List.setIfInBounds_toArray, List.set_cons_zero, List.set_cons_succ]
  refine wpAnyH_done (by kernel_rfl) ?_ _
  refine NoPanic.normal ?_
  go_wp2_with fail
  obtain ⟨m0, m1, m2, m3, m4, m5, m6⟩ := cell7 HSET.out
  clear z0 z1 z2 z3 z4 z5 z6 f0 f1 f2 f3 f4 f5 f6 hHeld
  refine bodyPost_ret (v := .tuple #[ansM o d (some yc), .bool true]) ?_ rfl ⟨by rw [HA.out.1]; rfl, ?_, ?_⟩
  · simp [results, Tryd.results13, go_sem, m0, m1, m2, m3, m4, m5, m6, ansM]
  · rw [HA.out.2]
    have hl4 := HP4.out.lt
    exact (HP4.out.turned (HTu.out) (by omega) (by omega) (by omega) (by omega)).more (by omega)
  · exact (HTW.out).far (HTu.out.mono (fun i hi => .inr (by omega)))

set_option linter.unusedSimpArgs false in
set_option linter.unusedVariables false in
set_option maxRecDepth 100000 in
set_option maxHeartbeats 4000000 in
theorem ask_do (w : World) (p bk tk wh : Nat) (kind stock limit seq : Int) (m : Nat) (st : St) (o d : Int) (sku : ByteArray) (qty amt : Int) (h : PA w p bk tk wh kind stock limit seq m st) (g : Pa.Good kind stock st) (hT : PT w) (hst : 0 ≤ stock ∧ stock ≤ 1000000000) (hn : st.rows.length < 80000) (hm : m < 90000) (hs : sku.size ≤ 1000000000000)
    (hmay : mayB kind o d sku.data.toList qty amt 0 = true) (hf : findR st.rows (o, d) = none) (hd : d < 3) :
    Calls Tryd.prog 13 #[.pointer (some ⟨p, 0, none⟩), .agg #[.int .i64 kind, .int .i64 o, .int .i64 d, .string sku, .int .i64 qty, .int .i64 amt, .int .i64 0]] w fun e w' => e = .returned (.tuple #[ansM o d (ansS kind stock limit st ⟨kind, o, d, sku.data.toList, qty, amt, 0⟩), .bool (ansS kind stock limit st ⟨kind, o, d, sku.data.toList, qty, amt, 0⟩).isSome]) ∧ PA w' p bk tk wh kind stock limit seq (m + 1) (askS kind stock limit st ⟨kind, o, d, sku.data.toList, qty, amt, 0⟩) ∧ Turned (fun i => i = bk ∨ i = tk ∨ i = wh) w w' := by
  have HP := Lib.hid h
  have hl := h.lt
  have HG := Lib.hid g
  have HM := Lib.hid (heap_keep (heap_new w (.cells #[.int .i64 kind, .int .i64 o, .int .i64 d, .string sku, .int .i64 qty, .int .i64 amt, .int .i64 0] tMsg)) (below_alloc _ (.cells #[.int .i64 0, .int .i64 0, .int .i64 0, .string ⟨#[]⟩, .int .i64 0, .int .i64 0, .int .i64 0] tMsg)))
  have hr1 := heap_new (w.alloc (.cells #[.int .i64 kind, .int .i64 o, .int .i64 d, .string sku, .int .i64 qty, .int .i64 amt, .int .i64 0] tMsg)) (.cells #[.int .i64 0, .int .i64 0, .int .i64 0, .string ⟨#[]⟩, .int .i64 0, .int .i64 0, .int .i64 0] tMsg)
  rw [show (w.alloc (.cells #[.int .i64 kind, .int .i64 o, .int .i64 d, .string sku, .int .i64 qty, .int .i64 amt, .int .i64 0] tMsg)).heap.size = w.heap.size + 1 by simp] at hr1
  have HZ := Lib.hid hr1
  have HB := Lib.hid ((below_alloc w (.cells #[.int .i64 kind, .int .i64 o, .int .i64 d, .string sku, .int .i64 qty, .int .i64 amt, .int .i64 0] tMsg)).alloc (by simp) (.cells #[.int .i64 0, .int .i64 0, .int .i64 0, .string ⟨#[]⟩, .int .i64 0, .int .i64 0, .int .i64 0] tMsg))
  have HT := Lib.hid hT
  have HF := Lib.hid hf
  have hsome := ask_find (limit := limit) g (m := ⟨kind, o, d, sku.data.toList, qty, amt, 0⟩) hmay rfl
  have HR2 := Lib.hid (Pa.Good.ask (limit := limit) g ⟨kind, o, d, sku.data.toList, qty, amt, 0⟩).rise
  have hq0 : askS kind stock limit st ⟨kind, o, d, sku.data.toList, qty, amt, 0⟩ = doS kind stock limit st ⟨kind, o, d, sku.data.toList, qty, amt, 0⟩ := by unfold askS nextS; simp [Ms.may, hmay, hf, show ¬ 3 ≤ d by omega]
  obtain ⟨⟨yk, yc, ya, yq⟩, hy⟩ := hsome
  simp only [] at hy
  obtain rfl : yk = (o, d) := (find_some hy).2
  have HA := Lib.hid (show ansS kind stock limit st ⟨kind, o, d, sku.data.toList, qty, amt, 0⟩ = some yc ∧ askS kind stock limit st ⟨kind, o, d, sku.data.toList, qty, amt, 0⟩ = doS kind stock limit st ⟨kind, o, d, sku.data.toList, qty, amt, 0⟩ from ⟨by unfold ansS; simp [Ms.may, hmay, hy], hq0⟩)
  rw [hq0] at hy HR2
  obtain ⟨ST', hST'⟩ : ∃ S, doS kind stock limit st ⟨kind, o, d, sku.data.toList, qty, amt, 0⟩ = S := ⟨_, rfl⟩
  rw [hST'] at hy HR2 HA
  have HS' := Lib.hid hST'
  have HY := Lib.hid hy
  have HRI := HR2
  have HMAY := Lib.hid hmay
  have hne := bneF (rfl : kind = kind)
  have hchk : chk o d = true := (may_says (m := ⟨kind, o, d, sku.data.toList, qty, amt, 0⟩) hmay rfl).1
  have hbd := chk_iff.1 hchk
  obtain ⟨kl, hkl⟩ := key_chk (k := (o, d)) hchk
  have HKL := Lib.hid hkl
  have hv : ∀ W, MapL Tryd.prog tKey mkKey mkRow W bk (entR st.rows) → (Instr.lookup tBook (.map (some bk)) (mkKey (o, d)) true).run Tryd.prog W = .ok (.tuple #[mkRow ((0, 0), 0, 0, 0), .bool false]) W := fun W hW => by
    rcases hW.look lawKey mapBook (zeroRow W) HKL.out (mkKey_inj _) with ⟨u, hu, _⟩ | ⟨_, r, _⟩
    · obtain ⟨h1, h2⟩ := mem_entR.1 hu
      exact absurd h2 (find_none HF.out u h1)
    · exact r
  have HUN := Lib.hid (fun W => undoes_any d W (by unfold Mon.InR; omega))
  rw [show undoI d = (0, false) by unfold undoI; rw [if_neg (by omega)]] at HUN
  clear hf hkl hq0 hy hST' hchk
  clear h g hr1 hT
  go_enter Tryd.func13, Tryd.ntmps13
  go_wp2_with fail
  generalize (w.alloc (.cells #[.int .i64 kind, .int .i64 o, .int .i64 d, .string sku, .int .i64 qty, .int .i64 amt, .int .i64 0] tMsg)).alloc (.cells #[.int .i64 0, .int .i64 0, .int .i64 0, .string ⟨#[]⟩, .int .i64 0, .int .i64 0, .int .i64 0] tMsg) = wa at HM HZ HB ⊢
  have HPa := Lib.hid (HP.out.below HB.out)
  have HPh := Lib.hid HPa.out.hd
  have HN := Lib.hid (fun W (hb : Below wa.heap.size wa W) => nonep_no W p bk tk wh kind stock limit seq m st (HPa.out.below hb))
  have HMay := Lib.hid (fun W (hb : Below wa.heap.size wa W) => may_any W kind o d sku qty amt 0 hs ((HT.out.below HB.out).below hb))
  simp only [hmay] at HMay
  refine wp_region_noPanic ?_
  refine wp_region_held_drew (S := (fun w' => Hid (Below wa.heap.size wa w') ∧ w'.cell? ⟨w.heap.size, 0, none⟩ = some (.int .i64 kind) ∧ w'.cell? ⟨w.heap.size, 1, none⟩ = some (.int .i64 o) ∧ w'.cell? ⟨w.heap.size, 2, none⟩ = some (.int .i64 d) ∧ w'.cell? ⟨w.heap.size, 3, none⟩ = some (.string sku) ∧ w'.cell? ⟨w.heap.size, 4, none⟩ = some (.int .i64 qty) ∧ w'.cell? ⟨w.heap.size, 5, none⟩ = some (.int .i64 amt) ∧ w'.cell? ⟨w.heap.size, 6, none⟩ = some (.int .i64 0) ∧ w'.cell? ⟨p, 0, none⟩ = some (.int .i64 kind))) (by kernel_rfl) ⟨(below_drew1 (Below.refl _ wa)), cell_at ((((below_drew1 (Below.refl _ wa))).block _ (heap_lt HM.out)).trans HM.out) 0 rfl, cell_at ((((below_drew1 (Below.refl _ wa))).block _ (heap_lt HM.out)).trans HM.out) 1 rfl, cell_at ((((below_drew1 (Below.refl _ wa))).block _ (heap_lt HM.out)).trans HM.out) 2 rfl, cell_at ((((below_drew1 (Below.refl _ wa))).block _ (heap_lt HM.out)).trans HM.out) 3 rfl, cell_at ((((below_drew1 (Below.refl _ wa))).block _ (heap_lt HM.out)).trans HM.out) 4 rfl, cell_at ((((below_drew1 (Below.refl _ wa))).block _ (heap_lt HM.out)).trans HM.out) 5 rfl, cell_at ((((below_drew1 (Below.refl _ wa))).block _ (heap_lt HM.out)).trans HM.out) 6 rfl, cell_at ((((below_drew1 (Below.refl _ wa))).block _ (heap_lt HPh.out)).trans HPh.out) 0 rfl⟩ (fun hHeld => ?_)
  refine wpAnyH_take (i := 0) (v := ?vb0) rfl (by kernel_rfl) (by kernel_rfl) (by kernel_rfl) (fun _ _ _ h => h) (Or.inl ⟨by rfl, ?hyb0⟩) (by assumption) ?restb0
  case hyb0 => (intro w0 hSw; (try dsimp only at hSw); go_simp; try with_reducible rfl)
  case' restb0 => try simp only [Act.put, List.getElem_toArray, List.getElem_cons_zero, List.getElem_cons_succ, List.setIfInBounds_toArray, List.set_cons_zero, List.set_cons_succ]
  refine wpAnyH_ready (rs := [1]) (by kernel_rfl) (by simp) ?_
  refine AllReadyH.cons rfl (fun K hK => ?_) AllReadyH.nil
  go_simp
  refine (HN.out _ (Hid.out (And.left (by assumption)))).mono ?_; rintro e w1 ⟨rfl, hb⟩; subst hb
  refine hK.out _ _ (by assumption) (fun hHeld => ?_)
  clear hK K
  try simp only [Act.put, List.getElem_toArray, List.getElem_cons_zero, List.getElem_cons_succ, List.setIfInBounds_toArray, List.set_cons_zero, List.set_cons_succ]
  refine wpAnyH_take (i := 2) (v := ?vb2) rfl (by kernel_rfl) (by kernel_rfl) (by kernel_rfl) (fun _ _ _ h => h) (Or.inl ⟨by rfl, ?hyb2⟩) (by assumption) ?restb2
  case hyb2 => (intro w0 hSw; (try dsimp only at hSw); go_simp; try with_reducible rfl)
  case' restb2 => try simp only [Act.put, List.getElem_toArray, List.getElem_cons_zero, List.getElem_cons_succ, List.setIfInBounds_toArray, List.set_cons_zero, List.set_cons_succ]
  refine wpAnyH_take (i := 3) (v := ?vb3) rfl (by kernel_rfl) (by kernel_rfl) (by kernel_rfl) (fun _ _ _ h => h) (Or.inl ⟨by rfl, ?hyb3⟩) (by assumption) ?restb3
  case hyb3 => (intro w0 hSw; (try dsimp only at hSw); go_simp; try with_reducible rfl)
  case' restb3 => try simp only [Act.put, List.getElem_toArray, List.getElem_cons_zero, List.getElem_cons_succ, List.setIfInBounds_toArray, List.set_cons_zero, List.set_cons_succ]
  refine wpAnyH_take (i := 4) (v := ?vb4) rfl (by kernel_rfl) (by kernel_rfl) (by kernel_rfl) (fun _ _ _ h => h) (Or.inl ⟨by rfl, ?hyb4⟩) (by assumption) ?restb4
  case hyb4 => (intro w0 hSw; (try dsimp only at hSw); go_simp; try with_reducible rfl)
  case' restb4 => try simp only [Act.put, List.getElem_toArray, List.getElem_cons_zero, List.getElem_cons_succ, List.setIfInBounds_toArray, List.set_cons_zero, List.set_cons_succ]
  refine wpAnyH_take (i := 5) (v := ?vb5) rfl (by kernel_rfl) (by kernel_rfl) (by kernel_rfl) (fun _ _ _ h => h) (Or.inl ⟨by rfl, ?hyb5⟩) (by assumption) ?restb5
  case hyb5 => (intro w0 hSw; (try dsimp only at hSw); go_simp; try with_reducible rfl)
  case' restb5 => try simp only [Act.put, List.getElem_toArray, List.getElem_cons_zero, List.getElem_cons_succ, List.setIfInBounds_toArray, List.set_cons_zero, List.set_cons_succ]
  refine wpAnyH_take (i := 6) (v := ?vb6) rfl (by kernel_rfl) (by kernel_rfl) (by kernel_rfl) (fun _ _ _ h => h) (Or.inl ⟨by rfl, ?hyb6⟩) (by assumption) ?restb6
  case hyb6 => (intro w0 hSw; (try dsimp only at hSw); go_simp; try with_reducible rfl)
  case' restb6 => try simp only [Act.put, List.getElem_toArray, List.getElem_cons_zero, List.getElem_cons_succ, List.setIfInBounds_toArray, List.set_cons_zero, List.set_cons_succ]
  refine wpAnyH_take (i := 7) (v := ?vb7) rfl (by kernel_rfl) (by kernel_rfl) (by kernel_rfl) (fun _ _ _ h => h) (Or.inl ⟨by rfl, ?hyb7⟩) (by assumption) ?restb7
  case hyb7 => (intro w0 hSw; (try dsimp only at hSw); go_simp; try with_reducible rfl)
  case' restb7 => try simp only [Act.put, List.getElem_toArray, List.getElem_cons_zero, List.getElem_cons_succ, List.setIfInBounds_toArray, List.set_cons_zero, List.set_cons_succ]
  refine wpAnyH_take (i := 8) (v := ?vb8) rfl (by kernel_rfl) (by kernel_rfl) (by kernel_rfl) (fun _ _ _ h => h) (Or.inl ⟨by rfl, ?hyb8⟩) (by assumption) ?restb8
  case hyb8 => (intro w0 hSw; (try dsimp only at hSw); go_simp; try with_reducible rfl)
  case' restb8 => try simp only [Act.put, List.getElem_toArray, List.getElem_cons_zero, List.getElem_cons_succ, List.setIfInBounds_toArray, List.set_cons_zero, List.set_cons_succ]
  refine wpAnyH_take (i := 9) (v := ?vb9) rfl (by kernel_rfl) (by kernel_rfl) (by kernel_rfl) (fun _ _ _ h => h) (Or.inl ⟨by rfl, ?hyb9⟩) (by assumption) ?restb9
  case hyb9 => (intro w0 hSw; (try dsimp only at hSw); go_simp; try with_reducible rfl)
  case' restb9 => try simp only [Act.put, List.getElem_toArray, List.getElem_cons_zero, List.getElem_cons_succ, List.setIfInBounds_toArray, List.set_cons_zero, List.set_cons_succ]
  refine wpAnyH_take (i := 10) (v := ?vb10) rfl (by kernel_rfl) (by kernel_rfl) (by kernel_rfl) (fun _ _ _ h => h) (Or.inl ⟨by rfl, ?hyb10⟩) (by assumption) ?restb10
  case hyb10 => (intro w0 hSw; (try dsimp only at hSw); go_simp; try with_reducible rfl)
  case' restb10 => try simp only [Act.put, List.getElem_toArray, List.getElem_cons_zero, List.getElem_cons_succ, List.setIfInBounds_toArray, List.set_cons_zero, List.set_cons_succ]
  refine wpAnyH_take (i := 11) (v := ?vb11) rfl (by kernel_rfl) (by kernel_rfl) (by kernel_rfl) (fun _ _ _ h => h) (Or.inl ⟨by rfl, ?hyb11⟩) (by assumption) ?restb11
  case hyb11 => (intro w0 hSw; (try dsimp only at hSw); go_simp; try with_reducible rfl)
  case' restb11 => try simp only [Act.put, List.getElem_toArray, List.getElem_cons_zero, List.getElem_cons_succ, List.setIfInBounds_toArray, List.set_cons_zero, List.set_cons_succ]
  refine wpAnyH_take (i := 12) (v := ?vb12) rfl (by kernel_rfl) (by kernel_rfl) (by kernel_rfl) (fun _ _ _ h => h) (Or.inl ⟨by rfl, ?hyb12⟩) (by assumption) ?restb12
  case hyb12 => (intro w0 hSw; (try dsimp only at hSw); go_simp; try with_reducible rfl)
  case' restb12 => try simp only [Act.put, List.getElem_toArray, List.getElem_cons_zero, List.getElem_cons_succ, List.setIfInBounds_toArray, List.set_cons_zero, List.set_cons_succ]
  refine wpAnyH_ready (rs := [13]) (by kernel_rfl) (by simp) ?_
  refine AllReadyH.cons rfl (fun K hK => ?_) AllReadyH.nil
  go_simp
  refine (HMay.out _ (Hid.out (And.left (by assumption)))).mono ?_; rintro e w1 ⟨rfl, hb⟩
  have hbk := bch (Hid.out (And.left (by assumption))) hb (Below.size (Hid.out (And.left (by assumption))))
  refine hK.out _ _ ⟨hbk, cell_at (((hbk).block _ (heap_lt HM.out)).trans HM.out) 0 rfl, cell_at (((hbk).block _ (heap_lt HM.out)).trans HM.out) 1 rfl, cell_at (((hbk).block _ (heap_lt HM.out)).trans HM.out) 2 rfl, cell_at (((hbk).block _ (heap_lt HM.out)).trans HM.out) 3 rfl, cell_at (((hbk).block _ (heap_lt HM.out)).trans HM.out) 4 rfl, cell_at (((hbk).block _ (heap_lt HM.out)).trans HM.out) 5 rfl, cell_at (((hbk).block _ (heap_lt HM.out)).trans HM.out) 6 rfl, cell_at (((hbk).block _ (heap_lt HPh.out)).trans HPh.out) 0 rfl⟩ (fun hHeld => ?_)
  clear hK K hb hbk
  try simp only [Act.put, List.getElem_toArray, List.getElem_cons_zero, List.getElem_cons_succ, List.setIfInBounds_toArray, List.set_cons_zero, List.set_cons_succ]
  refine wpAnyH_take (i := 14) (v := ?vb14) rfl (by kernel_rfl) (by kernel_rfl) (by kernel_rfl) (fun _ _ _ h => h) (Or.inl ⟨by rfl, ?hyb14⟩) (by assumption) ?restb14
  case hyb14 => (intro w0 hSw; (try dsimp only at hSw); go_simp; try with_reducible rfl)
  case' restb14 => try simp only [Act.put, List.getElem_toArray, List.getElem_cons_zero, List.getElem_cons_succ, List.setIfInBounds_toArray, List.set_cons_zero, List.set_cons_succ]
  refine wpAnyH_take (i := 15) (v := ?vb15) rfl (by kernel_rfl) (by kernel_rfl) (by kernel_rfl) (fun _ _ _ h => h) (Or.inl ⟨by rfl, ?hyb15⟩) (by assumption) ?restb15
  case hyb15 => (intro w0 hSw; (try dsimp only at hSw); go_simp; try with_reducible rfl)
  case' restb15 => try simp only [Act.put, List.getElem_toArray, List.getElem_cons_zero, List.getElem_cons_succ, List.setIfInBounds_toArray, List.set_cons_zero, List.set_cons_succ]
  refine wpAnyH_done (by kernel_rfl) ?_ _
  refine NoPanic.normal ?_
  have HBx := Lib.hid (Hid.out hHeld.1)
  have HZx := Lib.hid (heap_keep HZ.out HBx.out)
  have HMx := Lib.hid (heap_keep HM.out HBx.out)
  have HPx := Lib.hid (HPa.out.below HBx.out)
  have HPy := Lib.hid HPx.out.hd
  have HB2 := Lib.hid (bch HB.out HBx.out HB.out.size)
  clear hHeld HN HMay HPh HPa HM HZ
  generalize w1 = wx at HBx HZx HMx HPx HPy HB2 ⊢
  have HL := Lib.hid (fun W (hb : Below wx.heap.size wx W) => hv W (HPx.out.book.below hb))
  clear hv
  simp only [mkKey, mkRow] at HL
  go_wp2_with fail
  refine wp_region_noPanic ?_
  refine wp_region_held_drew (S := (fun w' => Hid (Below wx.heap.size wx w') ∧ w'.cell? ⟨p, 3, none⟩ = some (.map (some bk)) ∧ w'.cell? ⟨w.heap.size, 1, none⟩ = some (.int .i64 o) ∧ w'.cell? ⟨w.heap.size, 2, none⟩ = some (.int .i64 d) ∧ (Instr.lookup tBook (.map (some bk)) (.agg #[.int .i64 o, .int .i64 d]) true).run Tryd.prog w' = .ok (.tuple #[.agg #[.int .i64 0, .int .i64 0, .int .i64 0, .int .i64 0, .int .i64 0], .bool false]) w')) (by kernel_rfl) ⟨(below_drew1 (Below.refl _ wx)), cell_at ((((below_drew1 (Below.refl _ wx))).block _ (heap_lt HPy.out)).trans HPy.out) 3 rfl, cell_at ((((below_drew1 (Below.refl _ wx))).block _ (heap_lt HMx.out)).trans HMx.out) 1 rfl, cell_at ((((below_drew1 (Below.refl _ wx))).block _ (heap_lt HMx.out)).trans HMx.out) 2 rfl, HL.out _ (below_drew1 (Below.refl _ wx))⟩ (fun hHeld => ?_)
  refine wpAnyH_take (i := 0) (v := ?vt0) rfl (by kernel_rfl) (by kernel_rfl) (by kernel_rfl) (fun _ _ _ h => h) (Or.inl ⟨by rfl, ?hyt0⟩) (by assumption) ?restt0
  case hyt0 => (intro w0 hSw; (try dsimp only at hSw); go_simp; try with_reducible rfl)
  case' restt0 => try simp only [Act.put, List.getElem_toArray, List.getElem_cons_zero, List.getElem_cons_succ, List.setIfInBounds_toArray, List.set_cons_zero, List.set_cons_succ]
  refine wpAnyH_take (i := 1) (v := ?vt1) rfl (by kernel_rfl) (by kernel_rfl) (by kernel_rfl) (fun _ _ _ h => h) (Or.inl ⟨by rfl, ?hyt1⟩) (by assumption) ?restt1
  case hyt1 => (intro w0 hSw; (try dsimp only at hSw); go_simp; try with_reducible rfl)
  case' restt1 => try simp only [Act.put, List.getElem_toArray, List.getElem_cons_zero, List.getElem_cons_succ, List.setIfInBounds_toArray, List.set_cons_zero, List.set_cons_succ]
  refine wpAnyH_take (i := 2) (v := ?vt2) rfl (by kernel_rfl) (by kernel_rfl) (by kernel_rfl) (fun _ _ _ h => h) (Or.inl ⟨by rfl, ?hyt2⟩) (by assumption) ?restt2
  case hyt2 => (intro w0 hSw; (try dsimp only at hSw); go_simp; try with_reducible rfl)
  case' restt2 => try simp only [Act.put, List.getElem_toArray, List.getElem_cons_zero, List.getElem_cons_succ, List.setIfInBounds_toArray, List.set_cons_zero, List.set_cons_succ]
  refine wpAnyH_take (i := 3) (v := ?vt3) rfl (by kernel_rfl) (by kernel_rfl) (by kernel_rfl) (fun _ _ _ h => h) (Or.inl ⟨by rfl, ?hyt3⟩) (by assumption) ?restt3
  case hyt3 => (intro w0 hSw; (try dsimp only at hSw); go_simp; try with_reducible rfl)
  case' restt3 => try simp only [Act.put, List.getElem_toArray, List.getElem_cons_zero, List.getElem_cons_succ, List.setIfInBounds_toArray, List.set_cons_zero, List.set_cons_succ]
  refine wpAnyH_take (i := 4) (v := ?vt4) rfl (by kernel_rfl) (by kernel_rfl) (by kernel_rfl) (fun _ _ _ h => h) (Or.inl ⟨by rfl, ?hyt4⟩) (by assumption) ?restt4
  case hyt4 => (intro w0 hSw; (try dsimp only at hSw); go_simp; try with_reducible rfl)
  case' restt4 => try simp only [Act.put, List.getElem_toArray, List.getElem_cons_zero, List.getElem_cons_succ, List.setIfInBounds_toArray, List.set_cons_zero, List.set_cons_succ]
  refine wpAnyH_take (i := 5) (v := ?vt5) rfl (by kernel_rfl) (by kernel_rfl) (by kernel_rfl) (fun _ _ _ h => h) (Or.inl ⟨by rfl, ?hyt5⟩) (by assumption) ?restt5
  case hyt5 => (intro w0 hSw; (try dsimp only at hSw); go_simp; try with_reducible rfl)
  case' restt5 => try simp only [Act.put, List.getElem_toArray, List.getElem_cons_zero, List.getElem_cons_succ, List.setIfInBounds_toArray, List.set_cons_zero, List.set_cons_succ]
  refine wpAnyH_take (i := 6) (v := ?vt6) rfl (by kernel_rfl) (by kernel_rfl) (by kernel_rfl) (fun _ _ _ h => h) (Or.inl ⟨by rfl, ?hyt6⟩) (by assumption) ?restt6
  case hyt6 => (intro w0 hSw; (try dsimp only at hSw); go_simp; try with_reducible rfl)
  case' restt6 => try simp only [Act.put, List.getElem_toArray, List.getElem_cons_zero, List.getElem_cons_succ, List.setIfInBounds_toArray, List.set_cons_zero, List.set_cons_succ]
  refine wpAnyH_take (i := 7) (v := ?vt7) rfl (by kernel_rfl) (by kernel_rfl) (by kernel_rfl) (fun _ _ _ h => h) (Or.inl ⟨by rfl, ?hyt7⟩) (by assumption) ?restt7
  case hyt7 => (intro w0 hSw; (try dsimp only at hSw); go_simp; try with_reducible rfl)
  case' restt7 => try simp only [Act.put, List.getElem_toArray, List.getElem_cons_zero, List.getElem_cons_succ, List.setIfInBounds_toArray, List.set_cons_zero, List.set_cons_succ]
  refine wpAnyH_take (i := 8) (v := ?vt8) rfl (by kernel_rfl) (by kernel_rfl) (by kernel_rfl) (fun _ _ _ h => h) (Or.inl ⟨by rfl, ?hyt8⟩) (by assumption) ?restt8
  case hyt8 => (intro w0 hSw; (try dsimp only at hSw); go_simp; try with_reducible rfl)
  case' restt8 => try simp only [Act.put, List.getElem_toArray, List.getElem_cons_zero, List.getElem_cons_succ, List.setIfInBounds_toArray, List.set_cons_zero, List.set_cons_succ]
  refine wpAnyH_take (i := 9) (v := ?vt9) rfl (by kernel_rfl) (by kernel_rfl) (by kernel_rfl) (fun _ _ _ h => h) (Or.inl ⟨by rfl, ?hyt9⟩) (by assumption) ?restt9
  case hyt9 => (intro w0 hSw; (try dsimp only at hSw); go_simp; try with_reducible rfl)
  case' restt9 => try simp only [Act.put, List.getElem_toArray, List.getElem_cons_zero, List.getElem_cons_succ, List.setIfInBounds_toArray, List.set_cons_zero, List.set_cons_succ]
  refine wpAnyH_ready (rs := [10]) (by kernel_rfl) (by simp) ?_
  refine AllReadyH.cons rfl (fun K hK => ?_) AllReadyH.nil
  go_simp
  refine hK.out _ _ ⟨(below_drew1 (below_alloc wx _)), cell_at ((((below_drew1 (below_alloc wx _))).block _ (heap_lt HPy.out)).trans HPy.out) 3 rfl, cell_at ((((below_drew1 (below_alloc wx _))).block _ (heap_lt HMx.out)).trans HMx.out) 1 rfl, cell_at ((((below_drew1 (below_alloc wx _))).block _ (heap_lt HMx.out)).trans HMx.out) 2 rfl, HL.out _ (below_drew1 (below_alloc wx _))⟩ (fun hHeld => ?_)
  clear hK K
  try simp only [Act.put, List.getElem_toArray, List.getElem_cons_zero, List.getElem_cons_succ, List.setIfInBounds_toArray, List.set_cons_zero, List.set_cons_succ]
  refine wpAnyH_ready (rs := [11]) (by kernel_rfl) (by simp) ?_
  refine AllReadyH.cons rfl (fun K hK => ?_) AllReadyH.nil
  go_simp
  refine hK.out _ _ ⟨(below_drew1 (below_alloc wx _)), cell_at ((((below_drew1 (below_alloc wx _))).block _ (heap_lt HPy.out)).trans HPy.out) 3 rfl, cell_at ((((below_drew1 (below_alloc wx _))).block _ (heap_lt HMx.out)).trans HMx.out) 1 rfl, cell_at ((((below_drew1 (below_alloc wx _))).block _ (heap_lt HMx.out)).trans HMx.out) 2 rfl, HL.out _ (below_drew1 (below_alloc wx _))⟩ (fun hHeld => ?_)
  clear hK K
  try simp only [Act.put, List.getElem_toArray, List.getElem_cons_zero, List.getElem_cons_succ, List.setIfInBounds_toArray, List.set_cons_zero, List.set_cons_succ]
  refine wpAnyH_take (i := 12) (v := ?vt12) rfl (by kernel_rfl) (by kernel_rfl) (by kernel_rfl) (fun _ _ _ h => h) (Or.inl ⟨by rfl, ?hyt12⟩) (by assumption) ?restt12
  case hyt12 => (intro w0 hSw; (try dsimp only at hSw); go_simp; try with_reducible rfl)
  case' restt12 => try simp only [Act.put, List.getElem_toArray, List.getElem_cons_zero, List.getElem_cons_succ, List.setIfInBounds_toArray, List.set_cons_zero, List.set_cons_succ]
  refine wpAnyH_done (by kernel_rfl) ?_ _
  refine NoPanic.normal ?_
  have HB3 := Lib.hid (Hid.out hHeld.1)
  have HM3 := Lib.hid (heap_keep HMx.out HB3.out)
  have HZ3 := Lib.hid (heap_keep HZx.out HB3.out)
  have HP3 := Lib.hid (HPx.out.below HB3.out)
  have HBw := Lib.hid (bch HB2.out HB3.out HB2.out.size)
  have HLT := Lib.hid (show w.heap.size + 1 < wx.heap.size from heap_lt HZx.out)
  clear hHeld HMx HZx HPx HPy HB2 HBx HL
  generalize (wx.alloc (.cells #[.int .i64 0, .int .i64 0, .int .i64 0, .int .i64 0, .int .i64 0] 45)).drew = w3 at HB3 HM3 HZ3 HP3 HBw ⊢
  obtain ⟨c0, c1, c2, c3, c4, c5, c6⟩ := cell7 HM3.out
  go_wp2_with fail
  refine (HUN.out _).mono ?_
  rintro e w1 ⟨rfl, hw⟩; subst hw
  go_wp2_with fail
  refine (do_any w3 p bk tk wh kind stock limit seq m st o d sku qty amt HP3.out HG.out hst (by omega) hm HMAY.out hd HF.out).mono ?_
  rintro e w4 ⟨rfl, hp4, ht4⟩
  rw [HS'.out] at hp4
  have HP4 := Lib.hid hp4
  have HM4 := Lib.hid ((ht4.block _ (heap_lt HM3.out) (by omega)).trans HM3.out)
  have HZ4 := Lib.hid ((ht4.block _ (heap_lt HZ3.out) (by omega)).trans HZ3.out)
  have HTW := Lib.hid ((Turned.of_below (S := fun i => i = bk ∨ i = tk ∨ i = wh) HBw.out).trans ht4)
  clear hp4 ht4 HP3 HM3 HZ3 HBw HB3 c0 c1 c2 c3 c4 c5 c6
  go_wp2_with fail
  have hv9 : ∀ W, MapL Tryd.prog tKey mkKey mkRow W bk (entR ST'.rows) → (Instr.lookup tBook (.map (some bk)) (mkKey (o, d)) false).run Tryd.prog W = .ok (mkRow ((o, d), yc, ya, yq)) W := fun W hW => by
    rcases hW.look lawKey mapBook (zeroRow W) HKL.out (mkKey_inj _) with ⟨u, hu, _, r⟩ | ⟨hno, _⟩
    · rw [book_one HRI.out HY.out hu] at r; exact r
    · exact absurd (mem_entR.2 (find_some HY.out)) (fun hx => hno _ hx rfl)
  have HH := Lib.hid (fun W (ht : Turned (fun i => i = w.heap.size + 1) w4 W) => (⟨Lib.hid ht, cell_at ((ht.block _ (heap_lt HM4.out) (by omega)).trans HM4.out) 1 rfl, cell_at ((ht.block _ (heap_lt HM4.out) (by omega)).trans HM4.out) 2 rfl, cell_at ((ht.block _ (heap_lt HP4.out.hd) (by omega)).trans HP4.out.hd) 3 rfl, hv9 W (HP4.out.book.block (ht.block _ HP4.out.lt.2.1 (by omega))), field_code o d yc ya yq W⟩ : (fun w' => Hid (Turned (fun i => i = w.heap.size + 1) w4 w') ∧ w'.cell? ⟨w.heap.size, 1, none⟩ = some (.int .i64 o) ∧ w'.cell? ⟨w.heap.size, 2, none⟩ = some (.int .i64 d) ∧ w'.cell? ⟨p, 3, none⟩ = some (.map (some bk)) ∧ (Instr.lookup tBook (.map (some bk)) (.agg #[.int .i64 o, .int .i64 d]) false).run Tryd.prog w' = .ok (.agg #[.int .i64 o, .int .i64 d, .int .i64 yc, .int .i64 ya, .int .i64 yq]) w' ∧ (Instr.field tRow (.agg #[.int .i64 o, .int .i64 d, .int .i64 yc, .int .i64 ya, .int .i64 yq]) 1).run Tryd.prog w' = .ok (.int .i64 yc) w') W))
  have HTu := Lib.hid (turned_set7 w4 (w.heap.size + 1) (.int .i64 3) (.int .i64 o) (.int .i64 d) (.string ⟨#[]⟩) (.int .i64 0) (.int .i64 0) (.int .i64 yc)).drew
  have hset := set7d HZ4.out (.int .i64 3) (.int .i64 o) (.int .i64 d) (.string ⟨#[]⟩) (.int .i64 0) (.int .i64 0) (.int .i64 yc)
  unfold set7w at hset HTu
  have HSET := Lib.hid hset
  clear hv9 hset
  obtain ⟨z0, z1, z2, z3, z4, z5, z6⟩ := cell7 HZ4.out
  obtain ⟨f0, f1, f2, f3, f4, f5, f6⟩ := froz7 HZ4.out
  refine wp_region_noPanic ?_
  refine wp_region_held_drew (S := (fun w' => Hid (Turned (fun i => i = w.heap.size + 1) w4 w') ∧ w'.cell? ⟨w.heap.size, 1, none⟩ = some (.int .i64 o) ∧ w'.cell? ⟨w.heap.size, 2, none⟩ = some (.int .i64 d) ∧ w'.cell? ⟨p, 3, none⟩ = some (.map (some bk)) ∧ (Instr.lookup tBook (.map (some bk)) (.agg #[.int .i64 o, .int .i64 d]) false).run Tryd.prog w' = .ok (.agg #[.int .i64 o, .int .i64 d, .int .i64 yc, .int .i64 ya, .int .i64 yq]) w' ∧ (Instr.field tRow (.agg #[.int .i64 o, .int .i64 d, .int .i64 yc, .int .i64 ya, .int .i64 yq]) 1).run Tryd.prog w' = .ok (.int .i64 yc) w')) (by kernel_rfl) (HH.out _ (Turned.refl _ w4).drew) (fun hHeld => ?_)
  refine wpAnyH_take (i := 0) (v := ?vz0) rfl (by kernel_rfl) (by kernel_rfl) (by kernel_rfl) (fun _ _ _ h => h) (Or.inl ⟨by rfl, ?hyz0⟩) (by assumption) ?restz0
  case hyz0 => (intro w0 hSw; (try dsimp only at hSw); go_simp; try with_reducible rfl)
  case' restz0 => try simp only [Act.put, List.getElem_toArray, List.getElem_cons_zero, List.getElem_cons_succ, List.setIfInBounds_toArray, List.set_cons_zero, List.set_cons_succ]
  refine wpAnyH_take (i := 1) (v := ?vz1) rfl (by kernel_rfl) (by kernel_rfl) (by kernel_rfl) (fun _ _ _ h => h) (Or.inl ⟨by rfl, ?hyz1⟩) (by assumption) ?restz1
  case hyz1 => (intro w0 hSw; (try dsimp only at hSw); go_simp; try with_reducible rfl)
  case' restz1 => try simp only [Act.put, List.getElem_toArray, List.getElem_cons_zero, List.getElem_cons_succ, List.setIfInBounds_toArray, List.set_cons_zero, List.set_cons_succ]
  refine wpAnyH_take (i := 2) (v := ?vz2) rfl (by kernel_rfl) (by kernel_rfl) (by kernel_rfl) (fun _ _ _ h => h) (Or.inl ⟨by rfl, ?hyz2⟩) (by assumption) ?restz2
  case hyz2 => (intro w0 hSw; (try dsimp only at hSw); go_simp; try with_reducible rfl)
  case' restz2 => try simp only [Act.put, List.getElem_toArray, List.getElem_cons_zero, List.getElem_cons_succ, List.setIfInBounds_toArray, List.set_cons_zero, List.set_cons_succ]
  refine wpAnyH_take (i := 3) (v := ?vz3) rfl (by kernel_rfl) (by kernel_rfl) (by kernel_rfl) (fun _ _ _ h => h) (Or.inl ⟨by rfl, ?hyz3⟩) (by assumption) ?restz3
  case hyz3 => (intro w0 hSw; (try dsimp only at hSw); go_simp; try with_reducible rfl)
  case' restz3 => try simp only [Act.put, List.getElem_toArray, List.getElem_cons_zero, List.getElem_cons_succ, List.setIfInBounds_toArray, List.set_cons_zero, List.set_cons_succ]
  refine wpAnyH_take (i := 4) (v := ?vz4) rfl (by kernel_rfl) (by kernel_rfl) (by kernel_rfl) (fun _ _ _ h => h) (Or.inl ⟨by rfl, ?hyz4⟩) (by assumption) ?restz4
  case hyz4 => (intro w0 hSw; (try dsimp only at hSw); go_simp; try with_reducible rfl)
  case' restz4 => try simp only [Act.put, List.getElem_toArray, List.getElem_cons_zero, List.getElem_cons_succ, List.setIfInBounds_toArray, List.set_cons_zero, List.set_cons_succ]
  refine wpAnyH_take (i := 5) (v := ?vz5) rfl (by kernel_rfl) (by kernel_rfl) (by kernel_rfl) (fun _ _ _ h => h) (Or.inl ⟨by rfl, ?hyz5⟩) (by assumption) ?restz5
  case hyz5 => (intro w0 hSw; (try dsimp only at hSw); go_simp; try with_reducible rfl)
  case' restz5 => try simp only [Act.put, List.getElem_toArray, List.getElem_cons_zero, List.getElem_cons_succ, List.setIfInBounds_toArray, List.set_cons_zero, List.set_cons_succ]
  refine wpAnyH_take (i := 6) (v := ?vz6) rfl (by kernel_rfl) (by kernel_rfl) (by kernel_rfl) (fun _ _ _ h => h) (Or.inl ⟨by rfl, ?hyz6⟩) (by assumption) ?restz6
  case hyz6 => (intro w0 hSw; (try dsimp only at hSw); go_simp; try with_reducible rfl)
  case' restz6 => try simp only [Act.put, List.getElem_toArray, List.getElem_cons_zero, List.getElem_cons_succ, List.setIfInBounds_toArray, List.set_cons_zero, List.set_cons_succ]
  refine wpAnyH_take (i := 7) (v := ?vz7) rfl (by kernel_rfl) (by kernel_rfl) (by kernel_rfl) (fun _ _ _ h => h) (Or.inl ⟨by rfl, ?hyz7⟩) (by assumption) ?restz7
  case hyz7 => (intro w0 hSw; (try dsimp only at hSw); go_simp; try with_reducible rfl)
  case' restz7 => try simp only [Act.put, List.getElem_toArray, List.getElem_cons_zero, List.getElem_cons_succ, List.setIfInBounds_toArray, List.set_cons_zero, List.set_cons_succ]
  refine wpAnyH_take (i := 8) (v := ?vz8) rfl (by kernel_rfl) (by kernel_rfl) (by kernel_rfl) (fun _ _ _ h => h) (Or.inl ⟨by rfl, ?hyz8⟩) (by assumption) ?restz8
  case hyz8 => (intro w0 hSw; (try dsimp only at hSw); go_simp; try with_reducible rfl)
  case' restz8 => try simp only [Act.put, List.getElem_toArray, List.getElem_cons_zero, List.getElem_cons_succ, List.setIfInBounds_toArray, List.set_cons_zero, List.set_cons_succ]
  refine wpAnyH_take (i := 9) (v := ?vz9) rfl (by kernel_rfl) (by kernel_rfl) (by kernel_rfl) (fun _ _ _ h => h) (Or.inl ⟨by rfl, ?hyz9⟩) (by assumption) ?restz9
  case hyz9 => (intro w0 hSw; (try dsimp only at hSw); go_simp; try with_reducible rfl)
  case' restz9 => try simp only [Act.put, List.getElem_toArray, List.getElem_cons_zero, List.getElem_cons_succ, List.setIfInBounds_toArray, List.set_cons_zero, List.set_cons_succ]
  refine wpAnyH_take (i := 10) (v := ?vz10) rfl (by kernel_rfl) (by kernel_rfl) (by kernel_rfl) (fun _ _ _ h => h) (Or.inl ⟨by rfl, ?hyz10⟩) (by assumption) ?restz10
  case hyz10 => (intro w0 hSw; (try dsimp only at hSw); go_simp; try with_reducible rfl)
  case' restz10 => try simp only [Act.put, List.getElem_toArray, List.getElem_cons_zero, List.getElem_cons_succ, List.setIfInBounds_toArray, List.set_cons_zero, List.set_cons_succ]
  refine wpAnyH_ready (rs := [11]) (by kernel_rfl) (by simp) ?_
  refine AllReadyH.cons rfl (fun K hK => ?_) AllReadyH.nil
  go_simp
  refine hK.out _ _ (HH.out _ HTu.out) (fun hHeld => ?_)
  clear hK K
  try simp only [Act.put, List.getElem_toArray, List.getElem_cons_zero, List.getElem_cons_succ, List.setIfInBounds_toArray, List.set_cons_zero, List.set_cons_succ]
  refine wpAnyH_take (i := 12) (v := ?vz12) rfl (by kernel_rfl) (by kernel_rfl) (by kernel_rfl) (fun _ _ _ h => h) (Or.inl ⟨by rfl, ?hyz12⟩) (by assumption) ?restz12
  case hyz12 => (intro w0 hSw; (try dsimp only at hSw); go_simp; try with_reducible rfl)
  case' restz12 => try simp only [Act.put, List.getElem_toArray, List.getElem_cons_zero, List.getElem_cons_succ, List.setIfInBounds_toArray, List.set_cons_zero, List.set_cons_succ]
  refine wpAnyH_done (by kernel_rfl) ?_ _
  refine NoPanic.normal ?_
  go_wp2_with fail
  obtain ⟨m0, m1, m2, m3, m4, m5, m6⟩ := cell7 HSET.out
  clear z0 z1 z2 z3 z4 z5 z6 f0 f1 f2 f3 f4 f5 f6 hHeld
  refine bodyPost_ret (v := .tuple #[ansM o d (some yc), .bool true]) ?_ rfl ⟨by rw [HA.out.1]; rfl, ?_, ?_⟩
  · simp [results, Tryd.results13, go_sem, m0, m1, m2, m3, m4, m5, m6, ansM]
  · rw [HA.out.2]
    have hl4 := HP4.out.lt
    exact (HP4.out.turned (HTu.out) (by omega) (by omega) (by omega) (by omega)).more (by omega)
  · exact (HTW.out).far (HTu.out.mono (fun i hi => .inr (by omega)))
end Go.Proofs.YtkmpagijdhhinaaDoor

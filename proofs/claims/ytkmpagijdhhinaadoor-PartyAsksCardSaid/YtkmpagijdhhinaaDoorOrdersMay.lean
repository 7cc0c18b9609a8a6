/- orders.May, and the document's: whether a message asks what may be asked. -/
import Derived.Test.YtkmpagijdhhinaaDoorKeyParty
import Derived.Test.YtkmpagijdhhinaaDoorOrdersName
import Derived.Test.YtkmpagijdhhinaaDoorGen
import Derived.Deep.RegionHeld3
import Derived.StillTailTactics
namespace Go.Proofs.YtkmpagijdhhinaaDoor
open Go.RowKit Key Od

abbrev tMsg : TypeId := 35
namespace Od
/-- What stands behind the party: of payment. -/
def payB (sku : List UInt8) (qty amt : Int) : Bool := decide (sku.length = 0) && decide (qty = 0) && decide (1 ≤ amt) && decide (amt ≤ 1099511627776)
def goodsB (sku : List UInt8) (qty amt : Int) : Bool := decide (0 < sku.length) && decide (sku.length ≤ 8) && nameB sku && decide (1 ≤ qty) && decide (qty ≤ 999) && decide (amt = 0)
def mayB (to o d : Int) (sku : List UInt8) (qty amt cd : Int) : Bool := chk o d && decide (partyI d = to) && decide (cd = 0) && (if to = 0 then payB sku qty amt else goodsB sku qty amt)
end Od
theorem cell7 {w : World} {b : Nat} {x0 x1 x2 x3 x4 x5 x6 : Value} {T : TypeId} (h : w.heap[b]? = some (.cells #[x0, x1, x2, x3, x4, x5, x6] T (0, 0))) : w.cell? ⟨b, 0, none⟩ = some x0 ∧ w.cell? ⟨b, 1, none⟩ = some x1 ∧ w.cell? ⟨b, 2, none⟩ = some x2 ∧ w.cell? ⟨b, 3, none⟩ = some x3 ∧ w.cell? ⟨b, 4, none⟩ = some x4 ∧ w.cell? ⟨b, 5, none⟩ = some x5 ∧ w.cell? ⟨b, 6, none⟩ = some x6 :=
  ⟨cell_at h 0 rfl, cell_at h 1 rfl, cell_at h 2 rfl, cell_at h 3 rfl, cell_at h 4 rfl, cell_at h 5 rfl, cell_at h 6 rfl⟩

set_option linter.unusedSimpArgs false in
set_option linter.unusedVariables false in
set_option maxRecDepth 100000 in
set_option maxHeartbeats 4000000 in
theorem refMay_any (w : World) (to o d : Int) (sku : ByteArray) (qty amt cd : Int) (hs : sku.size ≤ 1000000000000) (hd : Mon.InR d) :
    Calls Tryd.prog 33 #[.agg #[.int .i64 to, .int .i64 o, .int .i64 d, .string sku, .int .i64 qty, .int .i64 amt, .int .i64 cd]] w fun e w' => e = .returned (.bool (mayB to o d sku.data.toList qty amt cd)) ∧ Below w.heap.size w w' := by
  have HC := Lib.hid (refCheck_any o d)
  have HP := Lib.hid (fun W => refParty_any d W hd)
  have HKb := Lib.hid (heap_new w (.cells #[.int .i64 to, .int .i64 o, .int .i64 d, .string sku, .int .i64 qty, .int .i64 amt, .int .i64 cd] tMsg))
  have HB := Lib.hid (below_alloc w (.cells #[.int .i64 to, .int .i64 o, .int .i64 d, .string sku, .int .i64 qty, .int .i64 amt, .int .i64 cd] tMsg))
  have HN := Lib.hid (refName_any sku)
  obtain ⟨R, hR⟩ : ∃ R, mayB to o d sku.data.toList qty amt cd = R := ⟨_, rfl⟩
  rw [hR]
  have HR := Lib.hid hR
  clear hR
  cases hc : chk o d with
  | false =>
    have HF := Lib.hid (HR.out.symm.trans (show mayB to o d sku.data.toList qty amt cd = false by simp [mayB, hc]))
    rw [hc] at HC
    go_enter Tryd.func33, Tryd.ntmps33
    go_wp2_with fail
    generalize w.alloc (.cells #[.int .i64 to, .int .i64 o, .int .i64 d, .string sku, .int .i64 qty, .int .i64 amt, .int .i64 cd] tMsg) = wb at HKb HB ⊢
    refine wp_region_noPanic ?_
    refine wp_region_held_drew (S := (fun w' => Hid (Below wb.heap.size wb w') ∧ w'.cell? ⟨w.heap.size, 0, none⟩ = some (.int .i64 to) ∧ w'.cell? ⟨w.heap.size, 1, none⟩ = some (.int .i64 o) ∧ w'.cell? ⟨w.heap.size, 2, none⟩ = some (.int .i64 d) ∧ w'.cell? ⟨w.heap.size, 6, none⟩ = some (.int .i64 cd))) (by kernel_rfl) ⟨(below_drew1 (Below.refl wb.heap.size wb)), cell_at ((((below_drew1 (Below.refl wb.heap.size wb))).block _ (heap_lt HKb.out)).trans HKb.out) 0 rfl, cell_at ((((below_drew1 (Below.refl wb.heap.size wb))).block _ (heap_lt HKb.out)).trans HKb.out) 1 rfl, cell_at ((((below_drew1 (Below.refl wb.heap.size wb))).block _ (heap_lt HKb.out)).trans HKb.out) 2 rfl, cell_at ((((below_drew1 (Below.refl wb.heap.size wb))).block _ (heap_lt HKb.out)).trans HKb.out) 6 rfl⟩ (fun hHeld => ?_)
    refine wpAnyH_take (i := 0) (v := ?va0) rfl (by kernel_rfl) (by kernel_rfl) (by kernel_rfl) (fun _ _ _ h => h) (Or.inl ⟨by rfl, ?hya0⟩) (by assumption) ?resta0
    case hya0 => (intro w0 hSw; (try dsimp only at hSw); go_simp; try with_reducible rfl)
    case' resta0 => try simp only [Act.put, List.getElem_toArray, List.getElem_cons_zero, List.getElem_cons_succ, List.setIfInBounds_toArray, List.set_cons_zero, List.set_cons_succ]
    refine wpAnyH_take (i := 1) (v := ?va1) rfl (by kernel_rfl) (by kernel_rfl) (by kernel_rfl) (fun _ _ _ h => h) (Or.inl ⟨by rfl, ?hya1⟩) (by assumption) ?resta1
    case hya1 => (intro w0 hSw; (try dsimp only at hSw); go_simp; try with_reducible rfl)
    case' resta1 => try simp only [Act.put, List.getElem_toArray, List.getElem_cons_zero, List.getElem_cons_succ, List.setIfInBounds_toArray, List.set_cons_zero, List.set_cons_succ]
    refine wpAnyH_ready (rs := [2]) (by kernel_rfl) (by simp) ?_
    refine AllReadyH.cons rfl (fun K hK => ?_) AllReadyH.nil
    go_simp
    refine (HC.out _).mono ?_; rintro e w1 ⟨rfl, hb⟩
    have hbk := bch (Hid.out (And.left (by assumption))) hb (Below.size (Hid.out (And.left (by assumption))))
    refine hK.out _ _ ⟨hbk, cell_at (((hbk).block _ (heap_lt HKb.out)).trans HKb.out) 0 rfl, cell_at (((hbk).block _ (heap_lt HKb.out)).trans HKb.out) 1 rfl, cell_at (((hbk).block _ (heap_lt HKb.out)).trans HKb.out) 2 rfl, cell_at (((hbk).block _ (heap_lt HKb.out)).trans HKb.out) 6 rfl⟩ (fun hHeld => ?_)
    clear hK K hb hbk
    try simp only [Act.put, List.getElem_toArray, List.getElem_cons_zero, List.getElem_cons_succ, List.setIfInBounds_toArray, List.set_cons_zero, List.set_cons_succ]
    refine wpAnyH_take (i := 3) (v := ?va3) rfl (by kernel_rfl) (by kernel_rfl) (by kernel_rfl) (fun _ _ _ h => h) (Or.inl ⟨by rfl, ?hya3⟩) (by assumption) ?resta3
    case hya3 => (intro w0 hSw; (try dsimp only at hSw); go_simp; try with_reducible rfl)
    case' resta3 => try simp only [Act.put, List.getElem_toArray, List.getElem_cons_zero, List.getElem_cons_succ, List.setIfInBounds_toArray, List.set_cons_zero, List.set_cons_succ]
    refine wpAnyH_take (i := 4) (v := ?va4) rfl (by kernel_rfl) (by kernel_rfl) (by kernel_rfl) (fun _ _ _ h => h) (Or.inl ⟨by rfl, ?hya4⟩) (by assumption) ?resta4
    case hya4 => (intro w0 hSw; (try dsimp only at hSw); go_simp; try with_reducible rfl)
    case' resta4 => try simp only [Act.put, List.getElem_toArray, List.getElem_cons_zero, List.getElem_cons_succ, List.setIfInBounds_toArray, List.set_cons_zero, List.set_cons_succ]
    refine wpAnyH_take (i := 5) (v := undef) rfl (by kernel_rfl) (by kernel_rfl) (by kernel_rfl) (fun _ _ _ h => h) (Or.inr ⟨by rfl, rfl⟩) (by assumption) ?_
    try simp only [Act.put, List.getElem_toArray, List.getElem_cons_zero, List.getElem_cons_succ, List.setIfInBounds_toArray, List.set_cons_zero, List.set_cons_succ]
    refine wpAnyH_take (i := 6) (v := undef) rfl (by kernel_rfl) (by kernel_rfl) (by kernel_rfl) (fun _ _ _ h => h) (Or.inr ⟨by rfl, rfl⟩) (by assumption) ?_
    try simp only [Act.put, List.getElem_toArray, List.getElem_cons_zero, List.getElem_cons_succ, List.setIfInBounds_toArray, List.set_cons_zero, List.set_cons_succ]
    refine wpAnyH_take (i := 7) (v := undef) rfl (by kernel_rfl) (by kernel_rfl) (by kernel_rfl) (fun _ _ _ h => h) (Or.inr ⟨by rfl, rfl⟩) (by assumption) ?_
    try simp only [Act.put, List.getElem_toArray, List.getElem_cons_zero, List.getElem_cons_succ, List.setIfInBounds_toArray, List.set_cons_zero, List.set_cons_succ]
    refine wpAnyH_take (i := 8) (v := undef) rfl (by kernel_rfl) (by kernel_rfl) (by kernel_rfl) (fun _ _ _ h => h) (Or.inr ⟨by rfl, rfl⟩) (by assumption) ?_
    try simp only [Act.put, List.getElem_toArray, List.getElem_cons_zero, List.getElem_cons_succ, List.setIfInBounds_toArray, List.set_cons_zero, List.set_cons_succ]
    refine wpAnyH_take (i := 9) (v := undef) rfl (by kernel_rfl) (by kernel_rfl) (by kernel_rfl) (fun _ _ _ h => h) (Or.inr ⟨by rfl, rfl⟩) (by assumption) ?_
    try simp only [Act.put, List.getElem_toArray, List.getElem_cons_zero, List.getElem_cons_succ, List.setIfInBounds_toArray, List.set_cons_zero, List.set_cons_succ]
    refine wpAnyH_take (i := 10) (v := undef) rfl (by kernel_rfl) (by kernel_rfl) (by kernel_rfl) (fun _ _ _ h => h) (Or.inr ⟨by rfl, rfl⟩) (by assumption) ?_
    try simp only [Act.put, List.getElem_toArray, List.getElem_cons_zero, List.getElem_cons_succ, List.setIfInBounds_toArray, List.set_cons_zero, List.set_cons_succ]
    refine wpAnyH_take (i := 11) (v := undef) rfl (by kernel_rfl) (by kernel_rfl) (by kernel_rfl) (fun _ _ _ h => h) (Or.inr ⟨by rfl, rfl⟩) (by assumption) ?_
    try simp only [Act.put, List.getElem_toArray, List.getElem_cons_zero, List.getElem_cons_succ, List.setIfInBounds_toArray, List.set_cons_zero, List.set_cons_succ]
    refine wpAnyH_take (i := 12) (v := ?va12) rfl (by kernel_rfl) (by kernel_rfl) (by kernel_rfl) (fun _ _ _ h => h) (Or.inl ⟨by rfl, ?hya12⟩) (by assumption) ?resta12
    case hya12 => (intro w0 hSw; (try dsimp only at hSw); go_simp; try with_reducible rfl)
    case' resta12 => try simp only [Act.put, List.getElem_toArray, List.getElem_cons_zero, List.getElem_cons_succ, List.setIfInBounds_toArray, List.set_cons_zero, List.set_cons_succ]
    refine wpAnyH_take (i := 13) (v := ?va13) rfl (by kernel_rfl) (by kernel_rfl) (by kernel_rfl) (fun _ _ _ h => h) (Or.inl ⟨by rfl, ?hya13⟩) (by assumption) ?resta13
    case hya13 => (intro w0 hSw; (try dsimp only at hSw); go_simp; try with_reducible rfl)
    case' resta13 => try simp only [Act.put, List.getElem_toArray, List.getElem_cons_zero, List.getElem_cons_succ, List.setIfInBounds_toArray, List.set_cons_zero, List.set_cons_succ]
    refine wpAnyH_take (i := 14) (v := undef) rfl (by kernel_rfl) (by kernel_rfl) (by kernel_rfl) (fun _ _ _ h => h) (Or.inr ⟨by rfl, rfl⟩) (by assumption) ?_
    try simp only [Act.put, List.getElem_toArray, List.getElem_cons_zero, List.getElem_cons_succ, List.setIfInBounds_toArray, List.set_cons_zero, List.set_cons_succ]
    refine wpAnyH_take (i := 15) (v := undef) rfl (by kernel_rfl) (by kernel_rfl) (by kernel_rfl) (fun _ _ _ h => h) (Or.inr ⟨by rfl, rfl⟩) (by assumption) ?_
    try simp only [Act.put, List.getElem_toArray, List.getElem_cons_zero, List.getElem_cons_succ, List.setIfInBounds_toArray, List.set_cons_zero, List.set_cons_succ]
    refine wpAnyH_take (i := 16) (v := undef) rfl (by kernel_rfl) (by kernel_rfl) (by kernel_rfl) (fun _ _ _ h => h) (Or.inr ⟨by rfl, rfl⟩) (by assumption) ?_
    try simp only [Act.put, List.getElem_toArray, List.getElem_cons_zero, List.getElem_cons_succ, List.setIfInBounds_toArray, List.set_cons_zero, List.set_cons_succ]
    refine wpAnyH_take (i := 17) (v := ?va17) rfl (by kernel_rfl) (by kernel_rfl) (by kernel_rfl) (fun _ _ _ h => h) (Or.inl ⟨by rfl, ?hya17⟩) (by assumption) ?resta17
    case hya17 => (intro w0 hSw; (try dsimp only at hSw); go_simp; try with_reducible rfl)
    case' resta17 => try simp only [Act.put, List.getElem_toArray, List.getElem_cons_zero, List.getElem_cons_succ, List.setIfInBounds_toArray, List.set_cons_zero, List.set_cons_succ]
    refine wpAnyH_done (by kernel_rfl) ?_ _
    refine NoPanic.normal ?_
    go_wp2_with fail
    go_ret
    exact ⟨by rw [HF.out]; rfl, bch HB.out (Hid.out (And.left (by assumption))) HB.out.size⟩
  | true =>
    rw [hc] at HC
    by_cases hp : partyI d = to
    · have hp1 := bneF hp
      by_cases hcd : cd = 0
      · have hcd1 := bneF hcd
        have HM := Lib.hid (HR.out.symm.trans (show mayB to o d sku.data.toList qty amt cd = if to = 0 then payB sku.data.toList qty amt else goodsB sku.data.toList qty amt by simp [mayB, hc, hp, hcd]))
        clear hp hcd
        go_enter Tryd.func33, Tryd.ntmps33
        go_wp2_with fail
        generalize w.alloc (.cells #[.int .i64 to, .int .i64 o, .int .i64 d, .string sku, .int .i64 qty, .int .i64 amt, .int .i64 cd] tMsg) = wb at HKb HB ⊢
        refine wp_region_noPanic ?_
        refine wp_region_held_drew (S := (fun w' => Hid (Below wb.heap.size wb w') ∧ w'.cell? ⟨w.heap.size, 0, none⟩ = some (.int .i64 to) ∧ w'.cell? ⟨w.heap.size, 1, none⟩ = some (.int .i64 o) ∧ w'.cell? ⟨w.heap.size, 2, none⟩ = some (.int .i64 d) ∧ w'.cell? ⟨w.heap.size, 6, none⟩ = some (.int .i64 cd))) (by kernel_rfl) ⟨(below_drew1 (Below.refl wb.heap.size wb)), cell_at ((((below_drew1 (Below.refl wb.heap.size wb))).block _ (heap_lt HKb.out)).trans HKb.out) 0 rfl, cell_at ((((below_drew1 (Below.refl wb.heap.size wb))).block _ (heap_lt HKb.out)).trans HKb.out) 1 rfl, cell_at ((((below_drew1 (Below.refl wb.heap.size wb))).block _ (heap_lt HKb.out)).trans HKb.out) 2 rfl, cell_at ((((below_drew1 (Below.refl wb.heap.size wb))).block _ (heap_lt HKb.out)).trans HKb.out) 6 rfl⟩ (fun hHeld => ?_)
        refine wpAnyH_take (i := 0) (v := ?vc0) rfl (by kernel_rfl) (by kernel_rfl) (by kernel_rfl) (fun _ _ _ h => h) (Or.inl ⟨by rfl, ?hyc0⟩) (by assumption) ?restc0
        case hyc0 => (intro w0 hSw; (try dsimp only at hSw); go_simp; try with_reducible rfl)
        case' restc0 => try simp only [Act.put, List.getElem_toArray, List.getElem_cons_zero, List.getElem_cons_succ, List.setIfInBounds_toArray, List.set_cons_zero, List.set_cons_succ]
        refine wpAnyH_take (i := 1) (v := ?vc1) rfl (by kernel_rfl) (by kernel_rfl) (by kernel_rfl) (fun _ _ _ h => h) (Or.inl ⟨by rfl, ?hyc1⟩) (by assumption) ?restc1
        case hyc1 => (intro w0 hSw; (try dsimp only at hSw); go_simp; try with_reducible rfl)
        case' restc1 => try simp only [Act.put, List.getElem_toArray, List.getElem_cons_zero, List.getElem_cons_succ, List.setIfInBounds_toArray, List.set_cons_zero, List.set_cons_succ]
        refine wpAnyH_ready (rs := [2]) (by kernel_rfl) (by simp) ?_
        refine AllReadyH.cons rfl (fun K hK => ?_) AllReadyH.nil
        go_simp
        refine (HC.out _).mono ?_; rintro e w1 ⟨rfl, hb⟩
        have hbk := bch (Hid.out (And.left (by assumption))) hb (Below.size (Hid.out (And.left (by assumption))))
        refine hK.out _ _ ⟨hbk, cell_at (((hbk).block _ (heap_lt HKb.out)).trans HKb.out) 0 rfl, cell_at (((hbk).block _ (heap_lt HKb.out)).trans HKb.out) 1 rfl, cell_at (((hbk).block _ (heap_lt HKb.out)).trans HKb.out) 2 rfl, cell_at (((hbk).block _ (heap_lt HKb.out)).trans HKb.out) 6 rfl⟩ (fun hHeld => ?_)
        clear hK K hb hbk
        try simp only [Act.put, List.getElem_toArray, List.getElem_cons_zero, List.getElem_cons_succ, List.setIfInBounds_toArray, List.set_cons_zero, List.set_cons_succ]
        refine wpAnyH_take (i := 3) (v := ?vc3) rfl (by kernel_rfl) (by kernel_rfl) (by kernel_rfl) (fun _ _ _ h => h) (Or.inl ⟨by rfl, ?hyc3⟩) (by assumption) ?restc3
        case hyc3 => (intro w0 hSw; (try dsimp only at hSw); go_simp; try with_reducible rfl)
        case' restc3 => try simp only [Act.put, List.getElem_toArray, List.getElem_cons_zero, List.getElem_cons_succ, List.setIfInBounds_toArray, List.set_cons_zero, List.set_cons_succ]
        refine wpAnyH_take (i := 4) (v := ?vc4) rfl (by kernel_rfl) (by kernel_rfl) (by kernel_rfl) (fun _ _ _ h => h) (Or.inl ⟨by rfl, ?hyc4⟩) (by assumption) ?restc4
        case hyc4 => (intro w0 hSw; (try dsimp only at hSw); go_simp; try with_reducible rfl)
        case' restc4 => try simp only [Act.put, List.getElem_toArray, List.getElem_cons_zero, List.getElem_cons_succ, List.setIfInBounds_toArray, List.set_cons_zero, List.set_cons_succ]
        refine wpAnyH_take (i := 5) (v := ?vc5) rfl (by kernel_rfl) (by kernel_rfl) (by kernel_rfl) (fun _ _ _ h => h) (Or.inl ⟨by rfl, ?hyc5⟩) (by assumption) ?restc5
        case hyc5 => (intro w0 hSw; (try dsimp only at hSw); go_simp; try with_reducible rfl)
        case' restc5 => try simp only [Act.put, List.getElem_toArray, List.getElem_cons_zero, List.getElem_cons_succ, List.setIfInBounds_toArray, List.set_cons_zero, List.set_cons_succ]
        refine wpAnyH_take (i := 6) (v := ?vc6) rfl (by kernel_rfl) (by kernel_rfl) (by kernel_rfl) (fun _ _ _ h => h) (Or.inl ⟨by rfl, ?hyc6⟩) (by assumption) ?restc6
        case hyc6 => (intro w0 hSw; (try dsimp only at hSw); go_simp; try with_reducible rfl)
        case' restc6 => try simp only [Act.put, List.getElem_toArray, List.getElem_cons_zero, List.getElem_cons_succ, List.setIfInBounds_toArray, List.set_cons_zero, List.set_cons_succ]
        refine wpAnyH_take (i := 7) (v := ?vc7) rfl (by kernel_rfl) (by kernel_rfl) (by kernel_rfl) (fun _ _ _ h => h) (Or.inl ⟨by rfl, ?hyc7⟩) (by assumption) ?restc7
        case hyc7 => (intro w0 hSw; (try dsimp only at hSw); go_simp; try with_reducible rfl)
        case' restc7 => try simp only [Act.put, List.getElem_toArray, List.getElem_cons_zero, List.getElem_cons_succ, List.setIfInBounds_toArray, List.set_cons_zero, List.set_cons_succ]
        refine wpAnyH_take (i := 9) (v := ?vc9) rfl (by kernel_rfl) (by kernel_rfl) (by kernel_rfl) (fun _ _ _ h => h) (Or.inl ⟨by rfl, ?hyc9⟩) (by assumption) ?restc9
        case hyc9 => (intro w0 hSw; (try dsimp only at hSw); go_simp; try with_reducible rfl)
        case' restc9 => try simp only [Act.put, List.getElem_toArray, List.getElem_cons_zero, List.getElem_cons_succ, List.setIfInBounds_toArray, List.set_cons_zero, List.set_cons_succ]
        refine wpAnyH_take (i := 10) (v := ?vc10) rfl (by kernel_rfl) (by kernel_rfl) (by kernel_rfl) (fun _ _ _ h => h) (Or.inl ⟨by rfl, ?hyc10⟩) (by assumption) ?restc10
        case hyc10 => (intro w0 hSw; (try dsimp only at hSw); go_simp; try with_reducible rfl)
        case' restc10 => try simp only [Act.put, List.getElem_toArray, List.getElem_cons_zero, List.getElem_cons_succ, List.setIfInBounds_toArray, List.set_cons_zero, List.set_cons_succ]
        refine wpAnyH_ready (rs := [8]) (by kernel_rfl) (by simp) ?_
        refine AllReadyH.cons rfl (fun K hK => ?_) AllReadyH.nil
        go_simp
        refine (HP.out _).mono ?_; rintro e w1 ⟨rfl, hb⟩; subst hb
        refine hK.out _ _ (by assumption) (fun hHeld => ?_)
        clear hK K
        try simp only [Act.put, List.getElem_toArray, List.getElem_cons_zero, List.getElem_cons_succ, List.setIfInBounds_toArray, List.set_cons_zero, List.set_cons_succ]
        refine wpAnyH_take (i := 11) (v := ?vc11) rfl (by kernel_rfl) (by kernel_rfl) (by kernel_rfl) (fun _ _ _ h => h) (Or.inl ⟨by rfl, ?hyc11⟩) (by assumption) ?restc11
        case hyc11 => (intro w0 hSw; (try dsimp only at hSw); go_simp; try with_reducible rfl)
        case' restc11 => try simp only [Act.put, List.getElem_toArray, List.getElem_cons_zero, List.getElem_cons_succ, List.setIfInBounds_toArray, List.set_cons_zero, List.set_cons_succ]
        refine wpAnyH_take (i := 12) (v := ?vc12) rfl (by kernel_rfl) (by kernel_rfl) (by kernel_rfl) (fun _ _ _ h => h) (Or.inl ⟨by rfl, ?hyc12⟩) (by assumption) ?restc12
        case hyc12 => (intro w0 hSw; (try dsimp only at hSw); go_simp; try with_reducible rfl)
        case' restc12 => try simp only [Act.put, List.getElem_toArray, List.getElem_cons_zero, List.getElem_cons_succ, List.setIfInBounds_toArray, List.set_cons_zero, List.set_cons_succ]
        refine wpAnyH_take (i := 13) (v := ?vc13) rfl (by kernel_rfl) (by kernel_rfl) (by kernel_rfl) (fun _ _ _ h => h) (Or.inl ⟨by rfl, ?hyc13⟩) (by assumption) ?restc13
        case hyc13 => (intro w0 hSw; (try dsimp only at hSw); go_simp; try with_reducible rfl)
        case' restc13 => try simp only [Act.put, List.getElem_toArray, List.getElem_cons_zero, List.getElem_cons_succ, List.setIfInBounds_toArray, List.set_cons_zero, List.set_cons_succ]
        refine wpAnyH_take (i := 14) (v := ?vc14) rfl (by kernel_rfl) (by kernel_rfl) (by kernel_rfl) (fun _ _ _ h => h) (Or.inl ⟨by rfl, ?hyc14⟩) (by assumption) ?restc14
        case hyc14 => (intro w0 hSw; (try dsimp only at hSw); go_simp; try with_reducible rfl)
        case' restc14 => try simp only [Act.put, List.getElem_toArray, List.getElem_cons_zero, List.getElem_cons_succ, List.setIfInBounds_toArray, List.set_cons_zero, List.set_cons_succ]
        refine wpAnyH_take (i := 15) (v := ?vc15) rfl (by kernel_rfl) (by kernel_rfl) (by kernel_rfl) (fun _ _ _ h => h) (Or.inl ⟨by rfl, ?hyc15⟩) (by assumption) ?restc15
        case hyc15 => (intro w0 hSw; (try dsimp only at hSw); go_simp; try with_reducible rfl)
        case' restc15 => try simp only [Act.put, List.getElem_toArray, List.getElem_cons_zero, List.getElem_cons_succ, List.setIfInBounds_toArray, List.set_cons_zero, List.set_cons_succ]
        refine wpAnyH_take (i := 16) (v := ?vc16) rfl (by kernel_rfl) (by kernel_rfl) (by kernel_rfl) (fun _ _ _ h => h) (Or.inl ⟨by rfl, ?hyc16⟩) (by assumption) ?restc16
        case hyc16 => (intro w0 hSw; (try dsimp only at hSw); go_simp; try with_reducible rfl)
        case' restc16 => try simp only [Act.put, List.getElem_toArray, List.getElem_cons_zero, List.getElem_cons_succ, List.setIfInBounds_toArray, List.set_cons_zero, List.set_cons_succ]
        refine wpAnyH_take (i := 17) (v := ?vc17) rfl (by kernel_rfl) (by kernel_rfl) (by kernel_rfl) (fun _ _ _ h => h) (Or.inl ⟨by rfl, ?hyc17⟩) (by assumption) ?restc17
        case hyc17 => (intro w0 hSw; (try dsimp only at hSw); go_simp; try with_reducible rfl)
        case' restc17 => try simp only [Act.put, List.getElem_toArray, List.getElem_cons_zero, List.getElem_cons_succ, List.setIfInBounds_toArray, List.set_cons_zero, List.set_cons_succ]
        refine wpAnyH_done (by kernel_rfl) ?_ _
        refine NoPanic.normal ?_
        have HS := Lib.hid (show Below wb.heap.size wb w1 from Hid.out (And.left (by assumption)))
        have HKw := Lib.hid (heap_keep HKb.out HS.out)
        have HBw := Lib.hid (bch HB.out HS.out HB.out.size)
        rename_i hHeld
        clear hHeld HS
        obtain ⟨c0, c1, c2, c3, c4, c5, c6⟩ := cell7 HKw.out
        by_cases hto : to = 0
        · have ht := beqT hto
          rw [if_pos hto] at HM
          by_cases h1 : sku.size = 0
          · have g1 : (sku.size : Int) = 0 := by omega
            by_cases h2 : qty = 0
            · have g2 := beqT h2
              by_cases h3 : 1 ≤ amt
              · have g3 : 0 < amt := by omega
                by_cases h4 : amt ≤ 1099511627776
                · skip
                  have HF := Lib.hid (HM.out.trans (show payB sku.data.toList qty amt = true by simp [payB, h1, h2, h3, h4]))
                  go_wp2_with fail
                  go_ret
                  exact ⟨by rw [HF.out]; rfl, HBw.out⟩
                · have HF := Lib.hid (HM.out.trans (show payB sku.data.toList qty amt = false by simp [payB, h4]))
                  have g4 : 1099511627776 < amt := by omega
                  go_wp2_with fail
                  go_ret
                  exact ⟨by rw [HF.out]; rfl, HBw.out⟩
              · have HF := Lib.hid (HM.out.trans (show payB sku.data.toList qty amt = false by simp [payB, h3]))
                have g3 : amt ≤ 0 := by omega
                go_wp2_with fail
                go_ret
                exact ⟨by rw [HF.out]; rfl, HBw.out⟩
            · have HF := Lib.hid (HM.out.trans (show payB sku.data.toList qty amt = false by simp [payB, h2]))
              have g2 := beqF h2
              go_wp2_with fail
              go_ret
              exact ⟨by rw [HF.out]; rfl, HBw.out⟩
          · have HF := Lib.hid (HM.out.trans (show payB sku.data.toList qty amt = false by simp [payB, h1]))
            have g1 : ¬ (sku.size : Int) = 0 := by omega
            have g1' := beqF g1
            go_wp2_with fail
            go_ret
            exact ⟨by rw [HF.out]; rfl, HBw.out⟩
        · have ht := beqF hto
          rw [if_neg hto] at HM
          by_cases h1 : 0 < sku.size
          · have g1 : 0 < (sku.size : Int) := by omega
            by_cases h2 : sku.size ≤ 8
            · have g2 : (sku.size : Int) ≤ 8 := by omega
              cases hnm : nameB sku.data.toList with
              | false =>
                have HF := Lib.hid (HM.out.trans (show goodsB sku.data.toList qty amt = false by simp [goodsB, hnm]))
                rw [hnm] at HN
                go_wp2_with fail
                refine (HN.out _ hs).mono ?_
                rintro e w2 ⟨rfl, hw⟩; subst hw
                go_wp2_with fail
                go_ret
                exact ⟨by rw [HF.out]; rfl, HBw.out⟩
              | true =>
                rw [hnm] at HN
                by_cases h3 : 1 ≤ qty
                · have g3 : 0 < qty := by omega
                  by_cases h4 : qty ≤ 999
                  · skip
                    by_cases h5 : amt = 0
                    · have g5 := beqT h5
                      have HF := Lib.hid (HM.out.trans (show goodsB sku.data.toList qty amt = true by simp [goodsB, hnm, h1, h2, h3, h4, h5]))
                      go_wp2_with fail
                      refine (HN.out _ hs).mono ?_
                      rintro e w2 ⟨rfl, hw⟩; subst hw
                      go_wp2_with fail
                      go_ret
                      exact ⟨by rw [HF.out]; rfl, HBw.out⟩
                    · have HF := Lib.hid (HM.out.trans (show goodsB sku.data.toList qty amt = false by simp [goodsB, h5]))
                      have g5 := beqF h5
                      go_wp2_with fail
                      refine (HN.out _ hs).mono ?_
                      rintro e w2 ⟨rfl, hw⟩; subst hw
                      go_wp2_with fail
                      go_ret
                      exact ⟨by rw [HF.out]; rfl, HBw.out⟩
                  · have HF := Lib.hid (HM.out.trans (show goodsB sku.data.toList qty amt = false by simp [goodsB, h4]))
                    have g4 : 999 < qty := by omega
                    go_wp2_with fail
                    refine (HN.out _ hs).mono ?_
                    rintro e w2 ⟨rfl, hw⟩; subst hw
                    go_wp2_with fail
                    go_ret
                    exact ⟨by rw [HF.out]; rfl, HBw.out⟩
                · have HF := Lib.hid (HM.out.trans (show goodsB sku.data.toList qty amt = false by simp [goodsB, h3]))
                  have g3 : qty ≤ 0 := by omega
                  go_wp2_with fail
                  refine (HN.out _ hs).mono ?_
                  rintro e w2 ⟨rfl, hw⟩; subst hw
                  go_wp2_with fail
                  go_ret
                  exact ⟨by rw [HF.out]; rfl, HBw.out⟩
            · have HF := Lib.hid (HM.out.trans (show goodsB sku.data.toList qty amt = false by simp [goodsB, h2]))
              have g2 : 8 < (sku.size : Int) := by omega
              go_wp2_with fail
              go_ret
              exact ⟨by rw [HF.out]; rfl, HBw.out⟩
          · have HF := Lib.hid (HM.out.trans (show goodsB sku.data.toList qty amt = false by simp [goodsB, h1]))
            have g1 : (sku.size : Int) ≤ 0 := by omega
            go_wp2_with fail
            go_ret
            exact ⟨by rw [HF.out]; rfl, HBw.out⟩
      · have HF := Lib.hid (HR.out.symm.trans (show mayB to o d sku.data.toList qty amt cd = false by simp [mayB, hc, hp, hcd]))
        have hcd1 := bneT hcd
        clear hp
        go_enter Tryd.func33, Tryd.ntmps33
        go_wp2_with fail
        generalize w.alloc (.cells #[.int .i64 to, .int .i64 o, .int .i64 d, .string sku, .int .i64 qty, .int .i64 amt, .int .i64 cd] tMsg) = wb at HKb HB ⊢
        refine wp_region_noPanic ?_
        refine wp_region_held_drew (S := (fun w' => Hid (Below wb.heap.size wb w') ∧ w'.cell? ⟨w.heap.size, 0, none⟩ = some (.int .i64 to) ∧ w'.cell? ⟨w.heap.size, 1, none⟩ = some (.int .i64 o) ∧ w'.cell? ⟨w.heap.size, 2, none⟩ = some (.int .i64 d) ∧ w'.cell? ⟨w.heap.size, 6, none⟩ = some (.int .i64 cd))) (by kernel_rfl) ⟨(below_drew1 (Below.refl wb.heap.size wb)), cell_at ((((below_drew1 (Below.refl wb.heap.size wb))).block _ (heap_lt HKb.out)).trans HKb.out) 0 rfl, cell_at ((((below_drew1 (Below.refl wb.heap.size wb))).block _ (heap_lt HKb.out)).trans HKb.out) 1 rfl, cell_at ((((below_drew1 (Below.refl wb.heap.size wb))).block _ (heap_lt HKb.out)).trans HKb.out) 2 rfl, cell_at ((((below_drew1 (Below.refl wb.heap.size wb))).block _ (heap_lt HKb.out)).trans HKb.out) 6 rfl⟩ (fun hHeld => ?_)
        refine wpAnyH_take (i := 0) (v := ?vd0) rfl (by kernel_rfl) (by kernel_rfl) (by kernel_rfl) (fun _ _ _ h => h) (Or.inl ⟨by rfl, ?hyd0⟩) (by assumption) ?restd0
        case hyd0 => (intro w0 hSw; (try dsimp only at hSw); go_simp; try with_reducible rfl)
        case' restd0 => try simp only [Act.put, List.getElem_toArray, List.getElem_cons_zero, List.getElem_cons_succ, List.setIfInBounds_toArray, List.set_cons_zero, List.set_cons_succ]
        refine wpAnyH_take (i := 1) (v := ?vd1) rfl (by kernel_rfl) (by kernel_rfl) (by kernel_rfl) (fun _ _ _ h => h) (Or.inl ⟨by rfl, ?hyd1⟩) (by assumption) ?restd1
        case hyd1 => (intro w0 hSw; (try dsimp only at hSw); go_simp; try with_reducible rfl)
        case' restd1 => try simp only [Act.put, List.getElem_toArray, List.getElem_cons_zero, List.getElem_cons_succ, List.setIfInBounds_toArray, List.set_cons_zero, List.set_cons_succ]
        refine wpAnyH_ready (rs := [2]) (by kernel_rfl) (by simp) ?_
        refine AllReadyH.cons rfl (fun K hK => ?_) AllReadyH.nil
        go_simp
        refine (HC.out _).mono ?_; rintro e w1 ⟨rfl, hb⟩
        have hbk := bch (Hid.out (And.left (by assumption))) hb (Below.size (Hid.out (And.left (by assumption))))
        refine hK.out _ _ ⟨hbk, cell_at (((hbk).block _ (heap_lt HKb.out)).trans HKb.out) 0 rfl, cell_at (((hbk).block _ (heap_lt HKb.out)).trans HKb.out) 1 rfl, cell_at (((hbk).block _ (heap_lt HKb.out)).trans HKb.out) 2 rfl, cell_at (((hbk).block _ (heap_lt HKb.out)).trans HKb.out) 6 rfl⟩ (fun hHeld => ?_)
        clear hK K hb hbk
        try simp only [Act.put, List.getElem_toArray, List.getElem_cons_zero, List.getElem_cons_succ, List.setIfInBounds_toArray, List.set_cons_zero, List.set_cons_succ]
        refine wpAnyH_take (i := 3) (v := ?vd3) rfl (by kernel_rfl) (by kernel_rfl) (by kernel_rfl) (fun _ _ _ h => h) (Or.inl ⟨by rfl, ?hyd3⟩) (by assumption) ?restd3
        case hyd3 => (intro w0 hSw; (try dsimp only at hSw); go_simp; try with_reducible rfl)
        case' restd3 => try simp only [Act.put, List.getElem_toArray, List.getElem_cons_zero, List.getElem_cons_succ, List.setIfInBounds_toArray, List.set_cons_zero, List.set_cons_succ]
        refine wpAnyH_take (i := 4) (v := ?vd4) rfl (by kernel_rfl) (by kernel_rfl) (by kernel_rfl) (fun _ _ _ h => h) (Or.inl ⟨by rfl, ?hyd4⟩) (by assumption) ?restd4
        case hyd4 => (intro w0 hSw; (try dsimp only at hSw); go_simp; try with_reducible rfl)
        case' restd4 => try simp only [Act.put, List.getElem_toArray, List.getElem_cons_zero, List.getElem_cons_succ, List.setIfInBounds_toArray, List.set_cons_zero, List.set_cons_succ]
        refine wpAnyH_take (i := 5) (v := ?vd5) rfl (by kernel_rfl) (by kernel_rfl) (by kernel_rfl) (fun _ _ _ h => h) (Or.inl ⟨by rfl, ?hyd5⟩) (by assumption) ?restd5
        case hyd5 => (intro w0 hSw; (try dsimp only at hSw); go_simp; try with_reducible rfl)
        case' restd5 => try simp only [Act.put, List.getElem_toArray, List.getElem_cons_zero, List.getElem_cons_succ, List.setIfInBounds_toArray, List.set_cons_zero, List.set_cons_succ]
        refine wpAnyH_take (i := 6) (v := ?vd6) rfl (by kernel_rfl) (by kernel_rfl) (by kernel_rfl) (fun _ _ _ h => h) (Or.inl ⟨by rfl, ?hyd6⟩) (by assumption) ?restd6
        case hyd6 => (intro w0 hSw; (try dsimp only at hSw); go_simp; try with_reducible rfl)
        case' restd6 => try simp only [Act.put, List.getElem_toArray, List.getElem_cons_zero, List.getElem_cons_succ, List.setIfInBounds_toArray, List.set_cons_zero, List.set_cons_succ]
        refine wpAnyH_take (i := 7) (v := ?vd7) rfl (by kernel_rfl) (by kernel_rfl) (by kernel_rfl) (fun _ _ _ h => h) (Or.inl ⟨by rfl, ?hyd7⟩) (by assumption) ?restd7
        case hyd7 => (intro w0 hSw; (try dsimp only at hSw); go_simp; try with_reducible rfl)
        case' restd7 => try simp only [Act.put, List.getElem_toArray, List.getElem_cons_zero, List.getElem_cons_succ, List.setIfInBounds_toArray, List.set_cons_zero, List.set_cons_succ]
        refine wpAnyH_take (i := 9) (v := ?vd9) rfl (by kernel_rfl) (by kernel_rfl) (by kernel_rfl) (fun _ _ _ h => h) (Or.inl ⟨by rfl, ?hyd9⟩) (by assumption) ?restd9
        case hyd9 => (intro w0 hSw; (try dsimp only at hSw); go_simp; try with_reducible rfl)
        case' restd9 => try simp only [Act.put, List.getElem_toArray, List.getElem_cons_zero, List.getElem_cons_succ, List.setIfInBounds_toArray, List.set_cons_zero, List.set_cons_succ]
        refine wpAnyH_take (i := 10) (v := ?vd10) rfl (by kernel_rfl) (by kernel_rfl) (by kernel_rfl) (fun _ _ _ h => h) (Or.inl ⟨by rfl, ?hyd10⟩) (by assumption) ?restd10
        case hyd10 => (intro w0 hSw; (try dsimp only at hSw); go_simp; try with_reducible rfl)
        case' restd10 => try simp only [Act.put, List.getElem_toArray, List.getElem_cons_zero, List.getElem_cons_succ, List.setIfInBounds_toArray, List.set_cons_zero, List.set_cons_succ]
        refine wpAnyH_ready (rs := [8]) (by kernel_rfl) (by simp) ?_
        refine AllReadyH.cons rfl (fun K hK => ?_) AllReadyH.nil
        go_simp
        refine (HP.out _).mono ?_; rintro e w1 ⟨rfl, hb⟩; subst hb
        refine hK.out _ _ (by assumption) (fun hHeld => ?_)
        clear hK K
        try simp only [Act.put, List.getElem_toArray, List.getElem_cons_zero, List.getElem_cons_succ, List.setIfInBounds_toArray, List.set_cons_zero, List.set_cons_succ]
        refine wpAnyH_take (i := 11) (v := ?vd11) rfl (by kernel_rfl) (by kernel_rfl) (by kernel_rfl) (fun _ _ _ h => h) (Or.inl ⟨by rfl, ?hyd11⟩) (by assumption) ?restd11
        case hyd11 => (intro w0 hSw; (try dsimp only at hSw); go_simp; try with_reducible rfl)
        case' restd11 => try simp only [Act.put, List.getElem_toArray, List.getElem_cons_zero, List.getElem_cons_succ, List.setIfInBounds_toArray, List.set_cons_zero, List.set_cons_succ]
        refine wpAnyH_take (i := 12) (v := ?vd12) rfl (by kernel_rfl) (by kernel_rfl) (by kernel_rfl) (fun _ _ _ h => h) (Or.inl ⟨by rfl, ?hyd12⟩) (by assumption) ?restd12
        case hyd12 => (intro w0 hSw; (try dsimp only at hSw); go_simp; try with_reducible rfl)
        case' restd12 => try simp only [Act.put, List.getElem_toArray, List.getElem_cons_zero, List.getElem_cons_succ, List.setIfInBounds_toArray, List.set_cons_zero, List.set_cons_succ]
        refine wpAnyH_take (i := 13) (v := ?vd13) rfl (by kernel_rfl) (by kernel_rfl) (by kernel_rfl) (fun _ _ _ h => h) (Or.inl ⟨by rfl, ?hyd13⟩) (by assumption) ?restd13
        case hyd13 => (intro w0 hSw; (try dsimp only at hSw); go_simp; try with_reducible rfl)
        case' restd13 => try simp only [Act.put, List.getElem_toArray, List.getElem_cons_zero, List.getElem_cons_succ, List.setIfInBounds_toArray, List.set_cons_zero, List.set_cons_succ]
        refine wpAnyH_take (i := 14) (v := ?vd14) rfl (by kernel_rfl) (by kernel_rfl) (by kernel_rfl) (fun _ _ _ h => h) (Or.inl ⟨by rfl, ?hyd14⟩) (by assumption) ?restd14
        case hyd14 => (intro w0 hSw; (try dsimp only at hSw); go_simp; try with_reducible rfl)
        case' restd14 => try simp only [Act.put, List.getElem_toArray, List.getElem_cons_zero, List.getElem_cons_succ, List.setIfInBounds_toArray, List.set_cons_zero, List.set_cons_succ]
        refine wpAnyH_take (i := 15) (v := ?vd15) rfl (by kernel_rfl) (by kernel_rfl) (by kernel_rfl) (fun _ _ _ h => h) (Or.inl ⟨by rfl, ?hyd15⟩) (by assumption) ?restd15
        case hyd15 => (intro w0 hSw; (try dsimp only at hSw); go_simp; try with_reducible rfl)
        case' restd15 => try simp only [Act.put, List.getElem_toArray, List.getElem_cons_zero, List.getElem_cons_succ, List.setIfInBounds_toArray, List.set_cons_zero, List.set_cons_succ]
        refine wpAnyH_take (i := 16) (v := ?vd16) rfl (by kernel_rfl) (by kernel_rfl) (by kernel_rfl) (fun _ _ _ h => h) (Or.inl ⟨by rfl, ?hyd16⟩) (by assumption) ?restd16
        case hyd16 => (intro w0 hSw; (try dsimp only at hSw); go_simp; try with_reducible rfl)
        case' restd16 => try simp only [Act.put, List.getElem_toArray, List.getElem_cons_zero, List.getElem_cons_succ, List.setIfInBounds_toArray, List.set_cons_zero, List.set_cons_succ]
        refine wpAnyH_take (i := 17) (v := ?vd17) rfl (by kernel_rfl) (by kernel_rfl) (by kernel_rfl) (fun _ _ _ h => h) (Or.inl ⟨by rfl, ?hyd17⟩) (by assumption) ?restd17
        case hyd17 => (intro w0 hSw; (try dsimp only at hSw); go_simp; try with_reducible rfl)
        case' restd17 => try simp only [Act.put, List.getElem_toArray, List.getElem_cons_zero, List.getElem_cons_succ, List.setIfInBounds_toArray, List.set_cons_zero, List.set_cons_succ]
        refine wpAnyH_done (by kernel_rfl) ?_ _
        refine NoPanic.normal ?_
        go_wp2_with fail
        go_ret
        exact ⟨by rw [HF.out]; rfl, bch HB.out (Hid.out (And.left (by assumption))) HB.out.size⟩
    · have HF := Lib.hid (HR.out.symm.trans (show mayB to o d sku.data.toList qty amt cd = false by simp [mayB, hc, hp]))
      have hp1 := bneT hp
      clear hp
      go_enter Tryd.func33, Tryd.ntmps33
      go_wp2_with fail
      generalize w.alloc (.cells #[.int .i64 to, .int .i64 o, .int .i64 d, .string sku, .int .i64 qty, .int .i64 amt, .int .i64 cd] tMsg) = wb at HKb HB ⊢
      refine wp_region_noPanic ?_
      refine wp_region_held_drew (S := (fun w' => Hid (Below wb.heap.size wb w') ∧ w'.cell? ⟨w.heap.size, 0, none⟩ = some (.int .i64 to) ∧ w'.cell? ⟨w.heap.size, 1, none⟩ = some (.int .i64 o) ∧ w'.cell? ⟨w.heap.size, 2, none⟩ = some (.int .i64 d) ∧ w'.cell? ⟨w.heap.size, 6, none⟩ = some (.int .i64 cd))) (by kernel_rfl) ⟨(below_drew1 (Below.refl wb.heap.size wb)), cell_at ((((below_drew1 (Below.refl wb.heap.size wb))).block _ (heap_lt HKb.out)).trans HKb.out) 0 rfl, cell_at ((((below_drew1 (Below.refl wb.heap.size wb))).block _ (heap_lt HKb.out)).trans HKb.out) 1 rfl, cell_at ((((below_drew1 (Below.refl wb.heap.size wb))).block _ (heap_lt HKb.out)).trans HKb.out) 2 rfl, cell_at ((((below_drew1 (Below.refl wb.heap.size wb))).block _ (heap_lt HKb.out)).trans HKb.out) 6 rfl⟩ (fun hHeld => ?_)
      refine wpAnyH_take (i := 0) (v := ?vb0) rfl (by kernel_rfl) (by kernel_rfl) (by kernel_rfl) (fun _ _ _ h => h) (Or.inl ⟨by rfl, ?hyb0⟩) (by assumption) ?restb0
      case hyb0 => (intro w0 hSw; (try dsimp only at hSw); go_simp; try with_reducible rfl)
      case' restb0 => try simp only [Act.put, List.getElem_toArray, List.getElem_cons_zero, List.getElem_cons_succ, List.setIfInBounds_toArray, List.set_cons_zero, List.set_cons_succ]
      refine wpAnyH_take (i := 1) (v := ?vb1) rfl (by kernel_rfl) (by kernel_rfl) (by kernel_rfl) (fun _ _ _ h => h) (Or.inl ⟨by rfl, ?hyb1⟩) (by assumption) ?restb1
      case hyb1 => (intro w0 hSw; (try dsimp only at hSw); go_simp; try with_reducible rfl)
      case' restb1 => try simp only [Act.put, List.getElem_toArray, List.getElem_cons_zero, List.getElem_cons_succ, List.setIfInBounds_toArray, List.set_cons_zero, List.set_cons_succ]
      refine wpAnyH_ready (rs := [2]) (by kernel_rfl) (by simp) ?_
      refine AllReadyH.cons rfl (fun K hK => ?_) AllReadyH.nil
      go_simp
      refine (HC.out _).mono ?_; rintro e w1 ⟨rfl, hb⟩
      have hbk := bch (Hid.out (And.left (by assumption))) hb (Below.size (Hid.out (And.left (by assumption))))
      refine hK.out _ _ ⟨hbk, cell_at (((hbk).block _ (heap_lt HKb.out)).trans HKb.out) 0 rfl, cell_at (((hbk).block _ (heap_lt HKb.out)).trans HKb.out) 1 rfl, cell_at (((hbk).block _ (heap_lt HKb.out)).trans HKb.out) 2 rfl, cell_at (((hbk).block _ (heap_lt HKb.out)).trans HKb.out) 6 rfl⟩ (fun hHeld => ?_)
      clear hK K hb hbk
      try simp only [Act.put, List.getElem_toArray, List.getElem_cons_zero, List.getElem_cons_succ, List.setIfInBounds_toArray, List.set_cons_zero, List.set_cons_succ]
      refine wpAnyH_take (i := 3) (v := ?vb3) rfl (by kernel_rfl) (by kernel_rfl) (by kernel_rfl) (fun _ _ _ h => h) (Or.inl ⟨by rfl, ?hyb3⟩) (by assumption) ?restb3
      case hyb3 => (intro w0 hSw; (try dsimp only at hSw); go_simp; try with_reducible rfl)
      case' restb3 => try simp only [Act.put, List.getElem_toArray, List.getElem_cons_zero, List.getElem_cons_succ, List.setIfInBounds_toArray, List.set_cons_zero, List.set_cons_succ]
      refine wpAnyH_take (i := 4) (v := ?vb4) rfl (by kernel_rfl) (by kernel_rfl) (by kernel_rfl) (fun _ _ _ h => h) (Or.inl ⟨by rfl, ?hyb4⟩) (by assumption) ?restb4
      case hyb4 => (intro w0 hSw; (try dsimp only at hSw); go_simp; try with_reducible rfl)
      case' restb4 => try simp only [Act.put, List.getElem_toArray, List.getElem_cons_zero, List.getElem_cons_succ, List.setIfInBounds_toArray, List.set_cons_zero, List.set_cons_succ]
      refine wpAnyH_take (i := 5) (v := ?vb5) rfl (by kernel_rfl) (by kernel_rfl) (by kernel_rfl) (fun _ _ _ h => h) (Or.inl ⟨by rfl, ?hyb5⟩) (by assumption) ?restb5
      case hyb5 => (intro w0 hSw; (try dsimp only at hSw); go_simp; try with_reducible rfl)
      case' restb5 => try simp only [Act.put, List.getElem_toArray, List.getElem_cons_zero, List.getElem_cons_succ, List.setIfInBounds_toArray, List.set_cons_zero, List.set_cons_succ]
      refine wpAnyH_take (i := 6) (v := ?vb6) rfl (by kernel_rfl) (by kernel_rfl) (by kernel_rfl) (fun _ _ _ h => h) (Or.inl ⟨by rfl, ?hyb6⟩) (by assumption) ?restb6
      case hyb6 => (intro w0 hSw; (try dsimp only at hSw); go_simp; try with_reducible rfl)
      case' restb6 => try simp only [Act.put, List.getElem_toArray, List.getElem_cons_zero, List.getElem_cons_succ, List.setIfInBounds_toArray, List.set_cons_zero, List.set_cons_succ]
      refine wpAnyH_take (i := 7) (v := ?vb7) rfl (by kernel_rfl) (by kernel_rfl) (by kernel_rfl) (fun _ _ _ h => h) (Or.inl ⟨by rfl, ?hyb7⟩) (by assumption) ?restb7
      case hyb7 => (intro w0 hSw; (try dsimp only at hSw); go_simp; try with_reducible rfl)
      case' restb7 => try simp only [Act.put, List.getElem_toArray, List.getElem_cons_zero, List.getElem_cons_succ, List.setIfInBounds_toArray, List.set_cons_zero, List.set_cons_succ]
      refine wpAnyH_take (i := 9) (v := ?vb9) rfl (by kernel_rfl) (by kernel_rfl) (by kernel_rfl) (fun _ _ _ h => h) (Or.inl ⟨by rfl, ?hyb9⟩) (by assumption) ?restb9
      case hyb9 => (intro w0 hSw; (try dsimp only at hSw); go_simp; try with_reducible rfl)
      case' restb9 => try simp only [Act.put, List.getElem_toArray, List.getElem_cons_zero, List.getElem_cons_succ, List.setIfInBounds_toArray, List.set_cons_zero, List.set_cons_succ]
      refine wpAnyH_take (i := 10) (v := ?vb10) rfl (by kernel_rfl) (by kernel_rfl) (by kernel_rfl) (fun _ _ _ h => h) (Or.inl ⟨by rfl, ?hyb10⟩) (by assumption) ?restb10
      case hyb10 => (intro w0 hSw; (try dsimp only at hSw); go_simp; try with_reducible rfl)
      case' restb10 => try simp only [Act.put, List.getElem_toArray, List.getElem_cons_zero, List.getElem_cons_succ, List.setIfInBounds_toArray, List.set_cons_zero, List.set_cons_succ]
      refine wpAnyH_ready (rs := [8]) (by kernel_rfl) (by simp) ?_
      refine AllReadyH.cons rfl (fun K hK => ?_) AllReadyH.nil
      go_simp
      refine (HP.out _).mono ?_; rintro e w1 ⟨rfl, hb⟩; subst hb
      refine hK.out _ _ (by assumption) (fun hHeld => ?_)
      clear hK K
      try simp only [Act.put, List.getElem_toArray, List.getElem_cons_zero, List.getElem_cons_succ, List.setIfInBounds_toArray, List.set_cons_zero, List.set_cons_succ]
      refine wpAnyH_take (i := 11) (v := ?vb11) rfl (by kernel_rfl) (by kernel_rfl) (by kernel_rfl) (fun _ _ _ h => h) (Or.inl ⟨by rfl, ?hyb11⟩) (by assumption) ?restb11
      case hyb11 => (intro w0 hSw; (try dsimp only at hSw); go_simp; try with_reducible rfl)
      case' restb11 => try simp only [Act.put, List.getElem_toArray, List.getElem_cons_zero, List.getElem_cons_succ, List.setIfInBounds_toArray, List.set_cons_zero, List.set_cons_succ]
      refine wpAnyH_take (i := 12) (v := ?vb12) rfl (by kernel_rfl) (by kernel_rfl) (by kernel_rfl) (fun _ _ _ h => h) (Or.inl ⟨by rfl, ?hyb12⟩) (by assumption) ?restb12
      case hyb12 => (intro w0 hSw; (try dsimp only at hSw); go_simp; try with_reducible rfl)
      case' restb12 => try simp only [Act.put, List.getElem_toArray, List.getElem_cons_zero, List.getElem_cons_succ, List.setIfInBounds_toArray, List.set_cons_zero, List.set_cons_succ]
      refine wpAnyH_take (i := 13) (v := ?vb13) rfl (by kernel_rfl) (by kernel_rfl) (by kernel_rfl) (fun _ _ _ h => h) (Or.inl ⟨by rfl, ?hyb13⟩) (by assumption) ?restb13
      case hyb13 => (intro w0 hSw; (try dsimp only at hSw); go_simp; try with_reducible rfl)
      case' restb13 => try simp only [Act.put, List.getElem_toArray, List.getElem_cons_zero, List.getElem_cons_succ, List.setIfInBounds_toArray, List.set_cons_zero, List.set_cons_succ]
      refine wpAnyH_take (i := 14) (v := undef) rfl (by kernel_rfl) (by kernel_rfl) (by kernel_rfl) (fun _ _ _ h => h) (Or.inr ⟨by rfl, rfl⟩) (by assumption) ?_
      try simp only [Act.put, List.getElem_toArray, List.getElem_cons_zero, List.getElem_cons_succ, List.setIfInBounds_toArray, List.set_cons_zero, List.set_cons_succ]
      refine wpAnyH_take (i := 15) (v := undef) rfl (by kernel_rfl) (by kernel_rfl) (by kernel_rfl) (fun _ _ _ h => h) (Or.inr ⟨by rfl, rfl⟩) (by assumption) ?_
      try simp only [Act.put, List.getElem_toArray, List.getElem_cons_zero, List.getElem_cons_succ, List.setIfInBounds_toArray, List.set_cons_zero, List.set_cons_succ]
      refine wpAnyH_take (i := 16) (v := undef) rfl (by kernel_rfl) (by kernel_rfl) (by kernel_rfl) (fun _ _ _ h => h) (Or.inr ⟨by rfl, rfl⟩) (by assumption) ?_
      try simp only [Act.put, List.getElem_toArray, List.getElem_cons_zero, List.getElem_cons_succ, List.setIfInBounds_toArray, List.set_cons_zero, List.set_cons_succ]
      refine wpAnyH_take (i := 17) (v := ?vb17) rfl (by kernel_rfl) (by kernel_rfl) (by kernel_rfl) (fun _ _ _ h => h) (Or.inl ⟨by rfl, ?hyb17⟩) (by assumption) ?restb17
      case hyb17 => (intro w0 hSw; (try dsimp only at hSw); go_simp; try with_reducible rfl)
      case' restb17 => try simp only [Act.put, List.getElem_toArray, List.getElem_cons_zero, List.getElem_cons_succ, List.setIfInBounds_toArray, List.set_cons_zero, List.set_cons_succ]
      refine wpAnyH_done (by kernel_rfl) ?_ _
      refine NoPanic.normal ?_
      go_wp2_with fail
      go_ret
      exact ⟨by rw [HF.out]; rfl, bch HB.out (Hid.out (And.left (by assumption))) HB.out.size⟩
end Go.Proofs.YtkmpagijdhhinaaDoor

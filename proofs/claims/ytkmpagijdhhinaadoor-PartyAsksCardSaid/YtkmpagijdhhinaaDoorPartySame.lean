/- law16: Same, of lists that agree; Great. -/
import Derived.Test.YtkmpagijdhhinaaDoorPartyTell
namespace Go.Proofs.YtkmpagijdhhinaaDoor
open Go.RowKit Go.Maps Key Od Pa

set_option maxRecDepth 100000 in
set_option maxHeartbeats 2000000 in
theorem refSame_true (w : World) (B B' : Nat) (u v : Value) (l : List R5) (pa sq : Int) (hu : w.ownsRow B tRow 5 u l.length (l.flatMap encR)) (hv : w.ownsRow B' tRow 5 v l.length (l.flatMap encR)) (hl : l.length < 100000) :
    Calls Tryd.prog 17 #[.agg #[.int .i64 pa, .int .i64 sq, u], .agg #[.int .i64 pa, .int .i64 sq, v]] w fun e w' => e = .returned (.bool true) ∧ Below w.heap.size w w' := by
  obtain ⟨A, c, rfl, hA⟩ := own_slice hu
  obtain ⟨A', c', rfl, hA'⟩ := own_slice hv
  have HA := Lib.hid hA
  have HA' := Lib.hid hA'
  clear hA hA'
  have HM := Lib.hid (heap_keep (heap_new w (.cells #[.int .i64 pa, .int .i64 sq, .slice A l.length c] tStat)) (below_alloc _ (.cells #[.int .i64 pa, .int .i64 sq, .slice A' l.length c'] tStat)))
  have hr1 := heap_new (w.alloc (.cells #[.int .i64 pa, .int .i64 sq, .slice A l.length c] tStat)) (.cells #[.int .i64 pa, .int .i64 sq, .slice A' l.length c'] tStat)
  rw [show (w.alloc (.cells #[.int .i64 pa, .int .i64 sq, .slice A l.length c] tStat)).heap.size = w.heap.size + 1 by simp] at hr1
  have HM' := Lib.hid hr1
  have HB := Lib.hid ((below_alloc w (.cells #[.int .i64 pa, .int .i64 sq, .slice A l.length c] tStat)).alloc (by simp) (.cells #[.int .i64 pa, .int .i64 sq, .slice A' l.length c'] tStat))
  have HU := Lib.hid (own_keep hu HB.out)
  have HV := Lib.hid (own_keep hv HB.out)
  clear hu hv hr1
  go_enter Tryd.func17, Tryd.ntmps17
  go_wp2_with fail
  generalize (w.alloc (.cells #[.int .i64 pa, .int .i64 sq, .slice A l.length c] tStat)).alloc (.cells #[.int .i64 pa, .int .i64 sq, .slice A' l.length c'] tStat) = wb at HB HM HM' HU HV ⊢
  obtain ⟨m0, m1, m2⟩ := cell3c HM.out
  obtain ⟨q0, q1, q2⟩ := cell3c HM'.out
  go_wp2_with fail
  clear m0 m1 m2 q0 q1 q2
  go_loopw [5] (fun i wr => ∃ k : Nat, i = .int .i64 k ∧ k ≤ l.length ∧ Hid (Below wb.heap.size wb wr)) (fun i _ => l.length - (intOf i).toNat)
  case atStart => exact ⟨0, rfl, by omega, ⟨rfl, rfl, rfl, Nat.le_refl _, fun _ _ => rfl⟩⟩
  case round =>
    obtain ⟨k, rfl, hk, HBr⟩ := hrel
    obtain ⟨m0, m1, m2⟩ := cell3c (heap_keep HM.out HBr.out)
    obtain ⟨q0, q1, q2⟩ := cell3c (heap_keep HM'.out HBr.out)
    by_cases hkl : k < l.length
    · obtain ⟨x, hx⟩ : ∃ x, l[k]? = some x := ⟨_, List.getElem?_eq_getElem hkl⟩
      obtain ⟨g, rfl, _, _⟩ := HA.out (by omega)
      obtain ⟨g', rfl, _, _⟩ := HA'.out (by omega)
      have c0 := own_cellK encR_len (by omega) (own_keep HU.out HBr.out) hx 0 (by omega)
      have c1 := own_cellK encR_len (by omega) (own_keep HU.out HBr.out) hx 1 (by omega)
      have c2 := own_cellK encR_len (by omega) (own_keep HU.out HBr.out) hx 2 (by omega)
      have c3 := own_cellK encR_len (by omega) (own_keep HU.out HBr.out) hx 3 (by omega)
      have c4 := own_cellK encR_len (by omega) (own_keep HU.out HBr.out) hx 4 (by omega)
      have d0 := own_cellK encR_len (by omega) (own_keep HV.out HBr.out) hx 0 (by omega)
      have d1 := own_cellK encR_len (by omega) (own_keep HV.out HBr.out) hx 1 (by omega)
      have d2 := own_cellK encR_len (by omega) (own_keep HV.out HBr.out) hx 2 (by omega)
      have d3 := own_cellK encR_len (by omega) (own_keep HV.out HBr.out) hx 3 (by omega)
      have d4 := own_cellK encR_len (by omega) (own_keep HV.out HBr.out) hx 4 (by omega)
      obtain ⟨⟨o, d⟩, t, n, p⟩ := x
      simp only [encR, List.getElem?_cons_zero, List.getElem?_cons_succ] at c0 c1 c2 c3 c4 d0 d1 d2 d3 d4
      rw [Nat.add_zero] at c0 d0
      have hlt : (k : Int) < l.length := by omega
      have hk0 : (0 : Int) ≤ k := by omega
      clear hx
      go_wp2_with fail
      go_quiet (fail)
      go_wp2_with fail
      go_roundw
      case rel => exact ⟨k + 1, by go_num, by omega, ⟨HBr.out.os, HBr.out.tape, HBr.out.output, HBr.out.size, HBr.out.block⟩⟩
      case measure => simp [intOf]; omega
    · obtain rfl : k = l.length := by omega
      go_wp2_with fail
      go_ret
      exact ⟨rfl, bch HB.out HBr.out HB.out.size⟩

theorem same_true (w : World) (B B' : Nat) (u v : Value) (l : List R5) (hu : w.ownsRow B tRow 5 u l.length (l.flatMap encR)) (hv : w.ownsRow B' tRow 5 v l.length (l.flatMap encR)) (hl : l.length < 100000) :
    Calls Tryd.prog 16 #[u, v] w fun e w' => e = .returned (.bool true) ∧ Below w.heap.size w w' := by
  have HS := Lib.hid (fun W (hb : Below w.heap.size w W) => refSame_true W B B' u v l 0 0 (own_keep hu hb) (own_keep hv hb) hl)
  obtain ⟨A, c, rfl, _⟩ := own_slice hu
  obtain ⟨A', c', rfl, _⟩ := own_slice hv
  clear hu hv
  go_enter Tryd.func16, Tryd.ntmps16
  go_wp2_with fail
  refine (HS.out _ (Below.refl _ _)).mono ?_
  rintro e w1 ⟨rfl, hb⟩
  go_wp2_with fail
  go_ret
  exact ⟨rfl, hb⟩
end Go.Proofs.YtkmpagijdhhinaaDoor

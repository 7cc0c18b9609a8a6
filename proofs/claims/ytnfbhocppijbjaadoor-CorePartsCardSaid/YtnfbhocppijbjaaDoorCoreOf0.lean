/- A core takes a statement. -/
import Derived.Test.YtnfbhocppijbjaaDoorCoreStop
import Derived.Deep.CutRange
import Derived.Lib.ItoaLen
namespace Go.Proofs.YtnfbhocppijbjaaDoor
open Go.RowKit Go.Maps Co Key Rw Sa Od

namespace Co
/-- A statement's posting's name. -/
def sidL (q o : Int) : List UInt8 := [115] ++ Lib.itoa q ++ [45] ++ Lib.itoa o
def stmBy (q o by_ : Int) : List Po := if 0 < by_ then [⟨sidL q o, o, 2, 1, by_⟩] else if by_ < 0 then [⟨sidL q o, o, 1, 2, -by_⟩] else []
def stmP1 (I J : In.Inn) (q o : Int) : List Po := stmBy q o (In.netI J o - In.netI I o)
def stmPs (I J : In.Inn) (q : Int) (n : Nat) : List Po := (List.range n).flatMap fun (i : Nat) => stmP1 I J q ((i : Int) + 1)
theorem stmPs_succ (I J : In.Inn) (q : Int) (n : Nat) : stmPs I J q (n + 1) = stmPs I J q n ++ stmP1 I J q ((n : Int) + 1) := by unfold stmPs; rw [List.range_succ, List.flatMap_append]; simp
theorem stmP1_len (I J : In.Inn) (q o : Int) : (stmP1 I J q o).length ≤ 1 := by unfold stmP1 stmBy; split <;> (try split) <;> simp
theorem stmPs_len (I J : In.Inn) (q : Int) (n : Nat) : (stmPs I J q n).length ≤ n := by
  induction n with
  | zero => simp [stmPs]
  | succ n ih => rw [stmPs_succ, List.length_append]; have := stmP1_len I J q ((n : Int) + 1); omega
def stmC (c : Cor) (x : In.Stm) : Cor := if In.accE c.inn x = 0 then { c with b := c.b ++ stmPs c.inn (In.accI c.inn x) x.2.1 60, inn := In.accI c.inn x } else c
end Co
theorem stmPs_from (I J : In.Inn) (q : Int) (n k : Nat) : ∃ R, stmPs I J q (n + k) = stmPs I J q n ++ R := by
  unfold stmPs
  rw [List.range_add, List.flatMap_append]
  exact ⟨_, rfl⟩
theorem stm_fresh {b : List Po} {I J : In.Inn} {q : Int} (h : ((b ++ stmPs I J q 60).map (·.id)).Nodup) {n : Nat} (hn : n < 60) {p : Po} (hp : stmP1 I J q ((n : Int) + 1) = [p]) : ∀ x ∈ b ++ stmPs I J q n, x.id ≠ p.id := by
  obtain ⟨R, hR⟩ := stmPs_from I J q (n + 1) (59 - n)
  rw [show n + 1 + (59 - n) = 60 by omega, stmPs_succ I J q n, hp] at hR
  rw [hR, show b ++ (stmPs I J q n ++ [p] ++ R) = (b ++ stmPs I J q n) ++ (p :: R) by simp, List.map_append, List.nodup_append] at h
  intro x hx e
  exact h.2.2 _ (List.mem_map.2 ⟨x, hx, rfl⟩) _ (List.mem_map.2 ⟨p, List.mem_cons_self .., rfl⟩) e
theorem stm_mem {I J : In.Inn} {q : Int} {n : Nat} (hn : n < 60) {p : Po} (hp : stmP1 I J q ((n : Int) + 1) = [p]) : p ∈ stmPs I J q 60 := by
  obtain ⟨R, hR⟩ := stmPs_from I J q (n + 1) (59 - n)
  rw [show n + 1 + (59 - n) = 60 by omega, stmPs_succ I J q n, hp] at hR
  rw [hR]; simp
theorem inet_bd {I : In.Inn} (hg : In.Fine I) (o : Int) : -1099511627776 ≤ In.netI I o ∧ In.netI I o ≤ 1099511627776 := by
  have h1 := amt_bd hg o 1
  have h2 := amt_bd hg o 4
  unfold In.netI
  omega
theorem own_apartT {w : World} {B : Nat} {e : TypeId} {z n : Nat} {v : Value} {xs : List Value} (h : w.ownsRow B e z v n xs) {r : Nat} {cs : Array Value} {T : TypeId} {fr : Nat × Nat} (hr : w.heap[r]? = some (.cells cs T fr)) (hT : T ≠ e) : v.ownBlock ≠ some r := by
  intro e1
  rcases h.2 with ⟨rfl, _⟩ | ⟨g, cap, cur, rfl, _, hg, _⟩
  · cases e1
  · simp only [Value.ownBlock, Option.some.injEq] at e1
    subst e1
    rw [hr] at hg
    injection hg with hg
    injection hg with _ h2 _
    exact hT h2
theorem set5x {w : World} {b : Nat} {x0 x1 x2 x3 x4 : Value} {T : TypeId} (h : w.heap[b]? = some (.cells #[x0, x1, x2, x3, x4] T (0, 0))) (p0 p1 p2 p3 p4 : Value) : (((((w.setCell ⟨b, 0, none⟩ p0).setCell ⟨b, 1, none⟩ p1).setCell ⟨b, 2, none⟩ p2).setCell ⟨b, 3, none⟩ p3).setCell ⟨b, 4, none⟩ p4).heap[b]? = some (.cells #[p0, p1, p2, p3, p4] T (0, 0)) := by
  simp [World.setCell, Array.getElem?_modify, h]
theorem stm_pos {q o b : Int} (h : 0 < b) : stmBy q o b = [⟨sidL q o, o, 2, 1, b⟩] := by unfold stmBy; rw [if_pos h]
theorem stm_neg {q o b : Int} (h : b < 0) : stmBy q o b = [⟨sidL q o, o, 1, 2, -b⟩] := by unfold stmBy; rw [if_neg (by omega), if_pos h]
theorem stm_nil {q o b : Int} (h1 : ¬ 0 < b) (h2 : ¬ b < 0) : stmBy q o b = [] := by unfold stmBy; rw [if_neg h1, if_neg h2]
theorem set5_345 {w : World} {b : Nat} {x0 x1 x2 x3 x4 : Value} {T : TypeId} (h : w.heap[b]? = some (.cells #[x0, x1, x2, x3, x4] T (0, 0))) (p q r : Value) : (((w.setCell ⟨b, 2, none⟩ p).setCell ⟨b, 3, none⟩ q).setCell ⟨b, 4, none⟩ r).heap[b]? = some (.cells #[x0, x1, p, q, r] T (0, 0)) := by
  simp [World.setCell, Array.getElem?_modify, h]
theorem set_in {w : World} {b : Nat} {x0 x1 x2 x3 x4 x5 x6 x7 x8 x9 x10 x11 : Value} {T : TypeId} (h : w.heap[b]? = some (.cells #[x0, x1, x2, x3, x4, x5, x6, x7, x8, x9, x10, x11] T (0, 0))) (p0 p1 p2 p3 p4 p5 p6 p7 p8 p9 : Value) : ((((((((((w.setCell ⟨b, 2, none⟩ p0).setCell ⟨b, 3, none⟩ p1).setCell ⟨b, 4, none⟩ p2).setCell ⟨b, 5, none⟩ p3).setCell ⟨b, 6, none⟩ p4).setCell ⟨b, 7, none⟩ p5).setCell ⟨b, 8, none⟩ p6).setCell ⟨b, 9, none⟩ p7).setCell ⟨b, 10, none⟩ p8).setCell ⟨b, 11, none⟩ p9).heap[b]? = some (.cells #[x0, x1, p0, p1, p2, p3, p4, p5, p6, p7, p8, p9] T (0, 0)) := by
  simp [World.setCell, Array.getElem?_modify, h]
theorem turned_in (w : World) (b : Nat) (p0 p1 p2 p3 p4 p5 p6 p7 p8 p9 : Value) : Turned (fun j => j = b) w ((((((((((w.setCell ⟨b, 2, none⟩ p0).setCell ⟨b, 3, none⟩ p1).setCell ⟨b, 4, none⟩ p2).setCell ⟨b, 5, none⟩ p3).setCell ⟨b, 6, none⟩ p4).setCell ⟨b, 7, none⟩ p5).setCell ⟨b, 8, none⟩ p6).setCell ⟨b, 9, none⟩ p7).setCell ⟨b, 10, none⟩ p8).setCell ⟨b, 11, none⟩ p9) := ((((((((((turned_set w b 2 p0).trans (turned_set _ b 3 p1)).trans (turned_set _ b 4 p2)).trans (turned_set _ b 5 p3)).trans (turned_set _ b 6 p4)).trans (turned_set _ b 7 p5)).trans (turned_set _ b 8 p6)).trans (turned_set _ b 9 p7)).trans (turned_set _ b 10 p8)).trans (turned_set _ b 11 p9))
theorem sid_join (q o : Int) : (((⟨#[115]⟩ : ByteArray) ++ ⟨(Lib.itoa q).toArray⟩) ++ ⟨#[45]⟩) ++ ⟨(Lib.itoa o).toArray⟩ = ⟨(sidL q o).toArray⟩ := by
  show (((⟨([115] : List UInt8).toArray⟩ : ByteArray) ++ ⟨(Lib.itoa q).toArray⟩) ++ ⟨([45] : List UInt8).toArray⟩) ++ ⟨(Lib.itoa o).toArray⟩ = _
  rw [join_bytes, join_bytes, join_bytes]; rfl
set_option linter.unusedSimpArgs false in
set_option linter.unusedVariables false in
set_option maxRecDepth 100000 in
set_option maxHeartbeats 16000000 in
theorem cstmt_any {B : Nat} {w : World} {cb bb pm bm : Nat} {vl vb vI : Value} {c : Cor} (h : Cw B w cb bb pm bm vl vb vI c) (x : In.Stm) (u : Value) (hu : Rd w u x.2.2) (hT : PT w) (hl : c.l.length ≤ 100000) (hbl : c.b.length ≤ 90000)
    (hmp : In.accE c.inn x = 0 → ∀ p ∈ stmPs c.inn (In.accI c.inn x) x.2.1 60, mayP p) (hnd : In.accE c.inn x = 0 → ((c.b ++ stmPs c.inn (In.accI c.inn x) x.2.1 60).map (·.id)).Nodup)
    (hito : ∀ (n : Int) W, 0 ≤ n → n ≤ 1073741824 → Below B w W → Calls Tryd.prog 47 #[.int .i64 n] W fun e w' => e = .returned (.string ⟨(Lib.itoa n).toArray⟩) ∧ Below W.heap.size W w') :
    Calls Tryd.prog 29 #[.pointer (some ⟨cb, 0, none⟩), .agg #[.int .i64 x.1, .int .i64 x.2.1, u]] w fun e w' => ∃ vb' vI', e = .returned (.int .i64 (In.accE c.inn x)) ∧ Cw B w' cb bb pm bm vl vb' vI' (stmC c x) ∧ Turned (Cs cb bb pm bm vl vb) w w' ∧ (∀ j, vb'.ownBlock = some j → vb.ownBlock = some j ∨ w.heap.size ≤ j) ∧ ∀ j, j < w.heap.size → Av j vI c.inn → Av j vI' (stmC c x).inn := by
  obtain ⟨A, cl, rfl, _⟩ := own_slice h.ol
  have HII := Lib.hid h.ii
  obtain ⟨A0, An0, Ac0, A1, An1, Ac1, A2, An2, Ac2, m, rfl, _⟩ := h.ii
  obtain ⟨Au, cu, rfl, _⟩ := hu.shape
  have HC0 := Lib.hid h
  obtain ⟨wa, hA⟩ : ∃ wa, wa = w.alloc (.cells #[.int .i64 x.1, .int .i64 x.2.1, .slice Au x.2.2.length cu] tStat) := ⟨_, rfl⟩
  have hB : Below w.heap.size w wa := by rw [hA]; exact below_alloc _ _
  have HX := Lib.hid (show wa.heap[w.heap.size]? = some (.cells #[.int .i64 x.1, .int .i64 x.2.1, .slice Au x.2.2.length cu] tStat (0, 0)) by rw [hA]; exact heap_new _ _)
  have HC := Lib.hid (h.below hB); have HA := Lib.hid hA; have HB := Lib.hid hB; have HU := Lib.hid hu; have HT := Lib.hid hT; have HITO := Lib.hid hito
  have HCC := Lib.hid (show wa.heap[cb]? = some (.cells #[.slice A c.l.length cl, .pointer (some ⟨bb, 0, none⟩), .int .i64 c.inn.a.1, .int .i64 c.inn.a.2.1, .slice A0 An0 Ac0, .int .i64 c.inn.b.1, .int .i64 c.inn.b.2.1, .slice A1 An1 Ac1, .int .i64 c.inn.c.1, .int .i64 c.inn.c.2.1, .slice A2 An2 Ac2, .map m] tCore (0, 0)) by simpa [inn10] using HC.out.hc)
  have hsz1 : w.heap.size < wa.heap.size := heap_lt HX.out
  have hcbl : cb < w.heap.size := heap_lt HC0.out.hc
  clear hA hB h hu hT hito
  obtain ⟨k0, k1, k2⟩ := cell3c HX.out
  obtain ⟨y0, y1, y2, y3, y4, y5, y6, y7, y8, y9, y10, y11⟩ := cell12 HCC.out
  go_enter Tryd.func29, Tryd.ntmps29
  go_upto_region 1 with (fail)
  rw [← HA.out]
  by_cases he : In.accE c.inn x = 0
  · have HE := Lib.hid he
    obtain ⟨J, hJ⟩ : ∃ J, In.accI c.inn x = J := ⟨_, rfl⟩
    have HJ := Lib.hid hJ
    have HFJ := Lib.hid (show In.Fine J by rw [← hJ]; exact HC0.out.fi.acc x)
    have HACC := Lib.hid (fun W (hW : Below wa.heap.size wa W) => hJ ▸ accept_ok W _ c.inn x _ (HII.out.below (bch HB.out hW HB.out.size)) (HU.out.keep (bch HB.out hW HB.out.size)) (HT.out.below (bch HB.out hW HB.out.size)) HC0.out.fi he)
    clear he hJ
    go_cut [5, 6] from 9 to 17 (fun p ee wx => ∃ b5 v1, p = .pointer (some ⟨b5, 0, none⟩) ∧ ee = .int .i64 0 ∧ wa.heap.size ≤ b5 ∧ Bx wx b5 tIn v1 ∧ InP wx v1 J ∧ (∀ j, j < wa.heap.size → Av j (.agg #[.int .i64 c.inn.a.1, .int .i64 c.inn.a.2.1, .slice A0 An0 Ac0, .int .i64 c.inn.b.1, .int .i64 c.inn.b.2.1, .slice A1 An1 Ac1, .int .i64 c.inn.c.1, .int .i64 c.inn.c.2.1, .slice A2 An2 Ac2, .map m]) c.inn → Av j v1 J) ∧ Av b5 v1 J ∧ Below wa.heap.size wa wx)
    case first =>
      have HH := Lib.hid (fun W (hb : Below wa.heap.size wa W) => (⟨Lib.hid hb, (hb.cell (World.block_lt_of_cell? wa _ y2)).trans y2, (hb.cell (World.block_lt_of_cell? wa _ y3)).trans y3, (hb.cell (World.block_lt_of_cell? wa _ y4)).trans y4, (hb.cell (World.block_lt_of_cell? wa _ y5)).trans y5, (hb.cell (World.block_lt_of_cell? wa _ y6)).trans y6, (hb.cell (World.block_lt_of_cell? wa _ y7)).trans y7, (hb.cell (World.block_lt_of_cell? wa _ y8)).trans y8, (hb.cell (World.block_lt_of_cell? wa _ y9)).trans y9, (hb.cell (World.block_lt_of_cell? wa _ y10)).trans y10, (hb.cell (World.block_lt_of_cell? wa _ y11)).trans y11, (hb.cell (World.block_lt_of_cell? wa _ k0)).trans k0, (hb.cell (World.block_lt_of_cell? wa _ k1)).trans k1, (hb.cell (World.block_lt_of_cell? wa _ k2)).trans k2⟩ : (fun w' => Hid (Below wa.heap.size wa w') ∧ w'.cell? ⟨cb, 2, none⟩ = some (.int .i64 c.inn.a.1) ∧ w'.cell? ⟨cb, 3, none⟩ = some (.int .i64 c.inn.a.2.1) ∧ w'.cell? ⟨cb, 4, none⟩ = some (.slice A0 An0 Ac0) ∧ w'.cell? ⟨cb, 5, none⟩ = some (.int .i64 c.inn.b.1) ∧ w'.cell? ⟨cb, 6, none⟩ = some (.int .i64 c.inn.b.2.1) ∧ w'.cell? ⟨cb, 7, none⟩ = some (.slice A1 An1 Ac1) ∧ w'.cell? ⟨cb, 8, none⟩ = some (.int .i64 c.inn.c.1) ∧ w'.cell? ⟨cb, 9, none⟩ = some (.int .i64 c.inn.c.2.1) ∧ w'.cell? ⟨cb, 10, none⟩ = some (.slice A2 An2 Ac2) ∧ w'.cell? ⟨cb, 11, none⟩ = some (.map m) ∧ w'.cell? ⟨w.heap.size, 0, none⟩ = some (.int .i64 x.1) ∧ w'.cell? ⟨w.heap.size, 1, none⟩ = some (.int .i64 x.2.1) ∧ w'.cell? ⟨w.heap.size, 2, none⟩ = some (.slice Au x.2.2.length cu)) W))
      refine wp_region_noPanic ?_
      refine wp_region_held_drew (S := (fun w' => Hid (Below wa.heap.size wa w') ∧ w'.cell? ⟨cb, 2, none⟩ = some (.int .i64 c.inn.a.1) ∧ w'.cell? ⟨cb, 3, none⟩ = some (.int .i64 c.inn.a.2.1) ∧ w'.cell? ⟨cb, 4, none⟩ = some (.slice A0 An0 Ac0) ∧ w'.cell? ⟨cb, 5, none⟩ = some (.int .i64 c.inn.b.1) ∧ w'.cell? ⟨cb, 6, none⟩ = some (.int .i64 c.inn.b.2.1) ∧ w'.cell? ⟨cb, 7, none⟩ = some (.slice A1 An1 Ac1) ∧ w'.cell? ⟨cb, 8, none⟩ = some (.int .i64 c.inn.c.1) ∧ w'.cell? ⟨cb, 9, none⟩ = some (.int .i64 c.inn.c.2.1) ∧ w'.cell? ⟨cb, 10, none⟩ = some (.slice A2 An2 Ac2) ∧ w'.cell? ⟨cb, 11, none⟩ = some (.map m) ∧ w'.cell? ⟨w.heap.size, 0, none⟩ = some (.int .i64 x.1) ∧ w'.cell? ⟨w.heap.size, 1, none⟩ = some (.int .i64 x.2.1) ∧ w'.cell? ⟨w.heap.size, 2, none⟩ = some (.slice Au x.2.2.length cu))) (by kernel_rfl) (HH.out _ (below_drew1 (Below.refl wa.heap.size wa))) (fun hHeld => ?_)
      refine wpAnyH_take (i := 0) (v := ?vc0_9) rfl (by kernel_rfl) (by kernel_rfl) (by kernel_rfl) (fun _ _ _ h => h) (Or.inl ⟨by rfl, ?hyc0_9⟩) (by assumption) ?restc0_9
      case hyc0_9 => (intro w0 hSw; (try dsimp only at hSw); go_simp; try with_reducible rfl)
      case' restc0_9 => try simp only [Act.put, List.getElem_toArray, List.getElem_cons_zero, List.getElem_cons_succ, List.setIfInBounds_toArray, List.set_cons_zero, List.set_cons_succ]
      refine wpAnyH_take (i := 1) (v := ?vc1_10) rfl (by kernel_rfl) (by kernel_rfl) (by kernel_rfl) (fun _ _ _ h => h) (Or.inl ⟨by rfl, ?hyc1_10⟩) (by assumption) ?restc1_10
      case hyc1_10 => (intro w0 hSw; (try dsimp only at hSw); go_simp; try with_reducible rfl)
      case' restc1_10 => try simp only [Act.put, List.getElem_toArray, List.getElem_cons_zero, List.getElem_cons_succ, List.setIfInBounds_toArray, List.set_cons_zero, List.set_cons_succ]
      refine wpAnyH_take (i := 2) (v := ?vc2_11) rfl (by kernel_rfl) (by kernel_rfl) (by kernel_rfl) (fun _ _ _ h => h) (Or.inl ⟨by rfl, ?hyc2_11⟩) (by assumption) ?restc2_11
      case hyc2_11 => (intro w0 hSw; (try dsimp only at hSw); go_simp; try with_reducible rfl)
      case' restc2_11 => try simp only [Act.put, List.getElem_toArray, List.getElem_cons_zero, List.getElem_cons_succ, List.setIfInBounds_toArray, List.set_cons_zero, List.set_cons_succ]
      refine wpAnyH_take (i := 3) (v := ?vc3_12) rfl (by kernel_rfl) (by kernel_rfl) (by kernel_rfl) (fun _ _ _ h => h) (Or.inl ⟨by rfl, ?hyc3_12⟩) (by assumption) ?restc3_12
      case hyc3_12 => (intro w0 hSw; (try dsimp only at hSw); go_simp; try with_reducible rfl)
      case' restc3_12 => try simp only [Act.put, List.getElem_toArray, List.getElem_cons_zero, List.getElem_cons_succ, List.setIfInBounds_toArray, List.set_cons_zero, List.set_cons_succ]
      refine wpAnyH_take (i := 4) (v := ?vc4_13) rfl (by kernel_rfl) (by kernel_rfl) (by kernel_rfl) (fun _ _ _ h => h) (Or.inl ⟨by rfl, ?hyc4_13⟩) (by assumption) ?restc4_13
      case hyc4_13 => (intro w0 hSw; (try dsimp only at hSw); go_simp; try with_reducible rfl)
      case' restc4_13 => try simp only [Act.put, List.getElem_toArray, List.getElem_cons_zero, List.getElem_cons_succ, List.setIfInBounds_toArray, List.set_cons_zero, List.set_cons_succ]
      refine wpAnyH_ready (rs := [5, 9]) (by kernel_rfl) (by simp) ?_
      refine AllReadyH.cons rfl (fun K hK => ?_) (AllReadyH.cons rfl (fun K hK => ?_) AllReadyH.nil)
      · go_simp
        refine (HACC.out _ (below_drew1 (Below.refl wa.heap.size wa))).mono ?_
        rintro e w1 ⟨v1, rfl, hv, hav, hb⟩
        have HV1 := Lib.hid hv; have HAV1 := Lib.hid hav
        obtain ⟨C0, Cn0, Cc0, C1, Cn1, Cc1, C2, Cn2, Cc2, mc, rfl, _⟩ := hv
        clear hav
        have HW1 := Lib.hid (bch (below_drew1 (Below.refl wa.heap.size wa)) hb (Below.size (below_drew1 (Below.refl wa.heap.size wa))))
        refine hK.out _ _ (HH.out _ (HW1.out)) (fun hHeld => ?_)
        clear hK K
        try simp only [Act.put, List.getElem_toArray, List.getElem_cons_zero, List.getElem_cons_succ, List.setIfInBounds_toArray, List.set_cons_zero, List.set_cons_succ]
        refine wpAnyH_take (i := 6) (v := ?vc6_1) rfl (by kernel_rfl) (by kernel_rfl) (by kernel_rfl) (fun _ _ _ h => h) (Or.inl ⟨by rfl, ?hyc6_1⟩) (by assumption) ?restc6_1
        case hyc6_1 => (intro w0 hSw; (try dsimp only at hSw); go_simp; try with_reducible rfl)
        case' restc6_1 => try simp only [Act.put, List.getElem_toArray, List.getElem_cons_zero, List.getElem_cons_succ, List.setIfInBounds_toArray, List.set_cons_zero, List.set_cons_succ]
        refine wpAnyH_take (i := 7) (v := ?vc7_2) rfl (by kernel_rfl) (by kernel_rfl) (by kernel_rfl) (fun _ _ _ h => h) (Or.inl ⟨by rfl, ?hyc7_2⟩) (by assumption) ?restc7_2
        case hyc7_2 => (intro w0 hSw; (try dsimp only at hSw); go_simp; try with_reducible rfl)
        case' restc7_2 => try simp only [Act.put, List.getElem_toArray, List.getElem_cons_zero, List.getElem_cons_succ, List.setIfInBounds_toArray, List.set_cons_zero, List.set_cons_succ]
        refine wpAnyH_take (i := 8) (v := ?vc8_3) rfl (by kernel_rfl) (by kernel_rfl) (by kernel_rfl) (fun _ _ _ h => h) (Or.inl ⟨by rfl, ?hyc8_3⟩) (by assumption) ?restc8_3
        case hyc8_3 => (intro w0 hSw; (try dsimp only at hSw); go_simp; try with_reducible rfl)
        case' restc8_3 => try simp only [Act.put, List.getElem_toArray, List.getElem_cons_zero, List.getElem_cons_succ, List.setIfInBounds_toArray, List.set_cons_zero, List.set_cons_succ]
        refine wpAnyH_ready (rs := [9]) (by kernel_rfl) (by simp) ?_
        refine AllReadyH.cons rfl (fun K hK => ?_) AllReadyH.nil
        go_simp
        refine hK.out _ _ (HH.out _ (bch HW1.out (below_alloc w1 _) HW1.out.size)) (fun hHeld => ?_)
        clear hK K
        try simp only [Act.put, List.getElem_toArray, List.getElem_cons_zero, List.getElem_cons_succ, List.setIfInBounds_toArray, List.set_cons_zero, List.set_cons_succ]
        refine wpAnyH_ready (rs := [10]) (by kernel_rfl) (by simp) ?_
        refine AllReadyH.cons rfl (fun K hK => ?_) AllReadyH.nil
        go_simp
        refine hK.out _ _ (HH.out _ (bch HW1.out (below_alloc w1 _) HW1.out.size)) (fun hHeld => ?_)
        clear hK K
        try simp only [Act.put, List.getElem_toArray, List.getElem_cons_zero, List.getElem_cons_succ, List.setIfInBounds_toArray, List.set_cons_zero, List.set_cons_succ]
        refine wpAnyH_take (i := 11) (v := ?vc11_4) rfl (by kernel_rfl) (by kernel_rfl) (by kernel_rfl) (fun _ _ _ h => h) (Or.inl ⟨by rfl, ?hyc11_4⟩) (by assumption) ?restc11_4
        case hyc11_4 => (intro w0 hSw; (try dsimp only at hSw); go_simp; try with_reducible rfl)
        case' restc11_4 => try simp only [Act.put, List.getElem_toArray, List.getElem_cons_zero, List.getElem_cons_succ, List.setIfInBounds_toArray, List.set_cons_zero, List.set_cons_succ]
        refine wpAnyH_done (by kernel_rfl) ?_ _
        refine NoPanic.normal ?_
        go_wp2_with fail
        go_meet
        exact ⟨w1.heap.size, _, rfl, rfl, HW1.out.size, ⟨_, rfl, heap_new _ _⟩, HV1.out.below (below_alloc _ _), fun j hj ha => HAV1.out j (by simpa using hj) ha, Av.far HV1.out (Nat.le_refl _), bch HW1.out (below_alloc w1 _) HW1.out.size⟩
      · go_simp
        refine hK.out _ _ (HH.out _ (bch (below_drew1 (Below.refl wa.heap.size wa)) (below_alloc wa.drew _) (Nat.le_refl _))) (fun hHeld => ?_)
        clear hK K
        try simp only [Act.put, List.getElem_toArray, List.getElem_cons_zero, List.getElem_cons_succ, List.setIfInBounds_toArray, List.set_cons_zero, List.set_cons_succ]
        refine wpAnyH_ready (rs := [5]) (by kernel_rfl) (by simp) ?_
        refine AllReadyH.cons rfl (fun K hK => ?_) AllReadyH.nil
        go_simp
        have HBd := Lib.hid (bch (below_drew1 (Below.refl wa.heap.size wa)) (below_alloc wa.drew (.cells zIn tIn)) (Nat.le_refl _))
        refine (HACC.out _ HBd.out).mono ?_
        rintro e w1 ⟨v1, rfl, hv, hav, hb⟩
        have HV1 := Lib.hid hv; have HAV1 := Lib.hid hav
        obtain ⟨C0, Cn0, Cc0, C1, Cn1, Cc1, C2, Cn2, Cc2, mc, rfl, _⟩ := hv
        clear hav
        have HW1 := Lib.hid (bch HBd.out hb HBd.out.size)
        refine hK.out _ _ (HH.out _ (HW1.out)) (fun hHeld => ?_)
        clear hK K
        try simp only [Act.put, List.getElem_toArray, List.getElem_cons_zero, List.getElem_cons_succ, List.setIfInBounds_toArray, List.set_cons_zero, List.set_cons_succ]
        refine wpAnyH_take (i := 6) (v := ?vc6_5) rfl (by kernel_rfl) (by kernel_rfl) (by kernel_rfl) (fun _ _ _ h => h) (Or.inl ⟨by rfl, ?hyc6_5⟩) (by assumption) ?restc6_5
        case hyc6_5 => (intro w0 hSw; (try dsimp only at hSw); go_simp; try with_reducible rfl)
        case' restc6_5 => try simp only [Act.put, List.getElem_toArray, List.getElem_cons_zero, List.getElem_cons_succ, List.setIfInBounds_toArray, List.set_cons_zero, List.set_cons_succ]
        refine wpAnyH_take (i := 7) (v := ?vc7_6) rfl (by kernel_rfl) (by kernel_rfl) (by kernel_rfl) (fun _ _ _ h => h) (Or.inl ⟨by rfl, ?hyc7_6⟩) (by assumption) ?restc7_6
        case hyc7_6 => (intro w0 hSw; (try dsimp only at hSw); go_simp; try with_reducible rfl)
        case' restc7_6 => try simp only [Act.put, List.getElem_toArray, List.getElem_cons_zero, List.getElem_cons_succ, List.setIfInBounds_toArray, List.set_cons_zero, List.set_cons_succ]
        refine wpAnyH_take (i := 8) (v := ?vc8_7) rfl (by kernel_rfl) (by kernel_rfl) (by kernel_rfl) (fun _ _ _ h => h) (Or.inl ⟨by rfl, ?hyc8_7⟩) (by assumption) ?restc8_7
        case hyc8_7 => (intro w0 hSw; (try dsimp only at hSw); go_simp; try with_reducible rfl)
        case' restc8_7 => try simp only [Act.put, List.getElem_toArray, List.getElem_cons_zero, List.getElem_cons_succ, List.setIfInBounds_toArray, List.set_cons_zero, List.set_cons_succ]
        have HZ0 := Lib.hid (show w1.heap[wa.heap.size]? = some (.cells zIn tIn (0, 0)) from heap_keep (heap_new wa.drew (.cells zIn tIn)) hb)
        obtain ⟨z0, z1, z2, z3, z4, z5, z6, z7, z8, z9⟩ := cell10 HZ0.out
        obtain ⟨f0, f1, f2, f3, f4, f5, f6, f7, f8, f9⟩ := froz10 HZ0.out
        have HTu := Lib.hid (turned_set10 w1 wa.heap.size (.int .i64 J.a.1) (.int .i64 J.a.2.1) (.slice C0 Cn0 Cc0) (.int .i64 J.b.1) (.int .i64 J.b.2.1) (.slice C1 Cn1 Cc1) (.int .i64 J.c.1) (.int .i64 J.c.2.1) (.slice C2 Cn2 Cc2) (.map mc))
        have HSET := Lib.hid (set10 HZ0.out (.int .i64 J.a.1) (.int .i64 J.a.2.1) (.slice C0 Cn0 Cc0) (.int .i64 J.b.1) (.int .i64 J.b.2.1) (.slice C1 Cn1 Cc1) (.int .i64 J.c.1) (.int .i64 J.c.2.1) (.slice C2 Cn2 Cc2) (.map mc))
        unfold set10w at HTu HSET
        have HWs := Lib.hid (Below.turned HW1.out HTu.out (fun i hi => by omega) (Below.size HW1.out))
        refine wpAnyH_ready (rs := [10]) (by kernel_rfl) (by simp) ?_
        refine AllReadyH.cons rfl (fun K hK => ?_) AllReadyH.nil
        go_simp
        refine hK.out _ _ (HH.out _ (HWs.out)) (fun hHeld => ?_)
        clear hK K
        try simp only [Act.put, List.getElem_toArray, List.getElem_cons_zero, List.getElem_cons_succ, List.setIfInBounds_toArray, List.set_cons_zero, List.set_cons_succ]
        refine wpAnyH_take (i := 11) (v := ?vc11_8) rfl (by kernel_rfl) (by kernel_rfl) (by kernel_rfl) (fun _ _ _ h => h) (Or.inl ⟨by rfl, ?hyc11_8⟩) (by assumption) ?restc11_8
        case hyc11_8 => (intro w0 hSw; (try dsimp only at hSw); go_simp; try with_reducible rfl)
        case' restc11_8 => try simp only [Act.put, List.getElem_toArray, List.getElem_cons_zero, List.getElem_cons_succ, List.setIfInBounds_toArray, List.set_cons_zero, List.set_cons_succ]
        refine wpAnyH_done (by kernel_rfl) ?_ _
        refine NoPanic.normal ?_
        have hAvz := HAV1.out wa.heap.size (by simp) (Av.far (HII.out.below HB.out) (Nat.le_refl _))
        go_wp2_with fail
        go_meet
        exact ⟨wa.heap.size, _, rfl, rfl, Nat.le_refl _, ⟨_, rfl, HSET.out⟩, HV1.out.turned HTu.out (fun b hb => by rw [hb]; exact hAvz), fun j hj ha => HAV1.out j (by simp; omega) ha, hAvz, HWs.out⟩
    case rest =>
      obtain ⟨b5, v1, rfl, rfl, hb5, hbx, hv1, hav, hav5, hbl⟩ := hcut
      have HV2 := Lib.hid hv1
      obtain ⟨C0, Cn0, Cc0, C1, Cn1, Cc1, C2, Cn2, Cc2, mc, rfl, _⟩ := hv1
      have HBX := Lib.hid hbx.get
      have HC2 := Lib.hid (HC.out.below hbl); have HX2 := Lib.hid (heap_keep HX.out hbl)
      have HAV := Lib.hid (fun j (hj : Cs cb bb pm bm (.slice A c.l.length cl) vb j) => hav j (by have := (HC0.out.ls hj).2; omega) (HC0.out.av j hj))
      have HT2 := Lib.hid (show Turned (Cs cb bb pm bm (.slice A c.l.length cl) vb) w wc from Turned.of_below (bch HB.out hbl HB.out.size))
      have HAVX := Lib.hid (fun j (hj : j < w.heap.size) (h : Av j (.agg #[.int .i64 c.inn.a.1, .int .i64 c.inn.a.2.1, .slice A0 An0 Ac0, .int .i64 c.inn.b.1, .int .i64 c.inn.b.2.1, .slice A1 An1 Ac1, .int .i64 c.inn.c.1, .int .i64 c.inn.c.2.1, .slice A2 An2 Ac2, .map m]) c.inn) => hav j (by omega) h)
      clear hbx hav hav5 hbl HC HX HCC HACC HA y0 y1 y2 y3 y4 y5 y6 y7 y8 y9 y10 y11 k0 k1 k2 HU
      have HMP := Lib.hid (hmp HE.out); have HND := Lib.hid (hnd HE.out)
      rw [HJ.out] at HMP HND
      clear hmp hnd
      go_wp2_with fail
      go_loopw [7] (fun i wr => ∃ (n : Nat) (vb' : Value), i = .int .i64 ((n : Int) + 1) ∧ n ≤ 60 ∧ Hid (Cw B wr cb bb pm bm (.slice A c.l.length cl) vb' (.agg #[.int .i64 c.inn.a.1, .int .i64 c.inn.a.2.1, .slice A0 An0 Ac0, .int .i64 c.inn.b.1, .int .i64 c.inn.b.2.1, .slice A1 An1 Ac1, .int .i64 c.inn.c.1, .int .i64 c.inn.c.2.1, .slice A2 An2 Ac2, .map m]) { c with b := c.b ++ stmPs c.inn J x.2.1 n }) ∧ Hid (wr.heap[b5]? = some (.cells #[.int .i64 J.a.1, .int .i64 J.a.2.1, .slice C0 Cn0 Cc0, .int .i64 J.b.1, .int .i64 J.b.2.1, .slice C1 Cn1 Cc1, .int .i64 J.c.1, .int .i64 J.c.2.1, .slice C2 Cn2 Cc2, .map mc] tIn (0, 0))) ∧ Hid (wr.heap[w.heap.size]? = some (.cells #[.int .i64 x.1, .int .i64 x.2.1, .slice Au x.2.2.length cu] tStat (0, 0))) ∧ Hid (InP wr (.agg #[.int .i64 J.a.1, .int .i64 J.a.2.1, .slice C0 Cn0 Cc0, .int .i64 J.b.1, .int .i64 J.b.2.1, .slice C1 Cn1 Cc1, .int .i64 J.c.1, .int .i64 J.c.2.1, .slice C2 Cn2 Cc2, .map mc]) J) ∧ Hid (∀ j, Cs cb bb pm bm (.slice A c.l.length cl) vb' j → Av j (.agg #[.int .i64 J.a.1, .int .i64 J.a.2.1, .slice C0 Cn0 Cc0, .int .i64 J.b.1, .int .i64 J.b.2.1, .slice C1 Cn1 Cc1, .int .i64 J.c.1, .int .i64 J.c.2.1, .slice C2 Cn2 Cc2, .map mc]) J) ∧ Hid (Turned (Cs cb bb pm bm (.slice A c.l.length cl) vb) w wr) ∧ Hid (∀ j, vb'.ownBlock = some j → vb.ownBlock = some j ∨ w.heap.size ≤ j)) (fun i _ => 61 - (intOf i).toNat)
      case atStart => exact ⟨0, vb, rfl, by omega, by rw [show stmPs c.inn J x.2.1 0 = [] from rfl, List.append_nil]; exact HC2.out, HBX.out, HX2.out, HV2.out, HAV.out, HT2.out, fun j h => .inl h⟩
      case round =>
        obtain ⟨n, vb', rfl, hn, HCr, HBr, HXr, HVr, HAr, HTr, HFr⟩ := hrel
        by_cases hn60 : n < 60
        · have hn60' : (n : Int) + 1 ≤ 60 := by omega
          have hn0 : (0 : Int) ≤ (n : Int) + 1 := by omega
          have HCCr := Lib.hid (show wr.heap[cb]? = some (.cells #[.slice A c.l.length cl, .pointer (some ⟨bb, 0, none⟩), .int .i64 c.inn.a.1, .int .i64 c.inn.a.2.1, .slice A0 An0 Ac0, .int .i64 c.inn.b.1, .int .i64 c.inn.b.2.1, .slice A1 An1 Ac1, .int .i64 c.inn.c.1, .int .i64 c.inn.c.2.1, .slice A2 An2 Ac2, .map m] tCore (0, 0)) by simpa [inn10] using HCr.out.hc)
          obtain ⟨y0, y1, y2, y3, y4, y5, y6, y7, y8, y9, y10, y11⟩ := cell12 HCCr.out
          obtain ⟨k0, k1, k2⟩ := cell3c HXr.out
          obtain ⟨i0, i1, i2, i3, i4, i5, i6, i7, i8, i9⟩ := cell10 HBr.out
          have hq0 : 0 ≤ x.2.1 ∧ x.2.1 ≤ 1073741824 := by have := HE.out; unfold In.accE at this; split at this; cases this; rename_i hv; have := In.valid_seq (by simpa using hv); omega
          have hbd1 := inet_bd HFJ.out ((n : Int) + 1)
          have hbd2 := inet_bd HC0.out.fi ((n : Int) + 1)
          have hl1 := Lib.itoa_length_le x.2.1 (by omega) (by omega)
          have hl2 := Lib.itoa_length_le ((n : Int) + 1) (by omega) (by omega)
          have hw2 : IntKind.i64.wrap (In.netI J ((n : Int) + 1) - In.netI c.inn ((n : Int) + 1)) = In.netI J ((n : Int) + 1) - In.netI c.inn ((n : Int) + 1) := IntWalk.i64_in _ (by omega)
          have hBw : B ≤ w.heap.size := by have := HC0.out.ge; omega
          have HBB := Lib.hid (Below.turned (Below.refl B w) HTr.out (fun i hi => (HC0.out.ls hi).1) hBw)
          have hP1 : stmP1 c.inn J x.2.1 ((n : Int) + 1) = stmBy x.2.1 ((n : Int) + 1) (In.netI J ((n : Int) + 1) - In.netI c.inn ((n : Int) + 1)) := rfl
          have hBr : B ≤ wr.heap.size := by have := HTr.out.size; omega
          have HP1 := Lib.hid hP1
          clear hP1
          go_wp2_with fail
          have HH := Lib.hid (fun W (hb : Below wr.heap.size wr W) => (⟨Lib.hid hb, (hb.cell (World.block_lt_of_cell? wr _ k1)).trans k1, (hb.cell (World.block_lt_of_cell? wr _ i0)).trans i0, (hb.cell (World.block_lt_of_cell? wr _ i1)).trans i1, (hb.cell (World.block_lt_of_cell? wr _ i2)).trans i2, (hb.cell (World.block_lt_of_cell? wr _ i3)).trans i3, (hb.cell (World.block_lt_of_cell? wr _ i4)).trans i4, (hb.cell (World.block_lt_of_cell? wr _ i5)).trans i5, (hb.cell (World.block_lt_of_cell? wr _ i6)).trans i6, (hb.cell (World.block_lt_of_cell? wr _ i7)).trans i7, (hb.cell (World.block_lt_of_cell? wr _ i8)).trans i8, (hb.cell (World.block_lt_of_cell? wr _ i9)).trans i9, (hb.cell (World.block_lt_of_cell? wr _ y2)).trans y2, (hb.cell (World.block_lt_of_cell? wr _ y3)).trans y3, (hb.cell (World.block_lt_of_cell? wr _ y4)).trans y4, (hb.cell (World.block_lt_of_cell? wr _ y5)).trans y5, (hb.cell (World.block_lt_of_cell? wr _ y6)).trans y6, (hb.cell (World.block_lt_of_cell? wr _ y7)).trans y7, (hb.cell (World.block_lt_of_cell? wr _ y8)).trans y8, (hb.cell (World.block_lt_of_cell? wr _ y9)).trans y9, (hb.cell (World.block_lt_of_cell? wr _ y10)).trans y10, (hb.cell (World.block_lt_of_cell? wr _ y11)).trans y11⟩ : (fun w' => Hid (Below wr.heap.size wr w') ∧ w'.cell? ⟨w.heap.size, 1, none⟩ = some (.int .i64 x.2.1) ∧ w'.cell? ⟨b5, 0, none⟩ = some (.int .i64 J.a.1) ∧ w'.cell? ⟨b5, 1, none⟩ = some (.int .i64 J.a.2.1) ∧ w'.cell? ⟨b5, 2, none⟩ = some (.slice C0 Cn0 Cc0) ∧ w'.cell? ⟨b5, 3, none⟩ = some (.int .i64 J.b.1) ∧ w'.cell? ⟨b5, 4, none⟩ = some (.int .i64 J.b.2.1) ∧ w'.cell? ⟨b5, 5, none⟩ = some (.slice C1 Cn1 Cc1) ∧ w'.cell? ⟨b5, 6, none⟩ = some (.int .i64 J.c.1) ∧ w'.cell? ⟨b5, 7, none⟩ = some (.int .i64 J.c.2.1) ∧ w'.cell? ⟨b5, 8, none⟩ = some (.slice C2 Cn2 Cc2) ∧ w'.cell? ⟨b5, 9, none⟩ = some (.map mc) ∧ w'.cell? ⟨cb, 2, none⟩ = some (.int .i64 c.inn.a.1) ∧ w'.cell? ⟨cb, 3, none⟩ = some (.int .i64 c.inn.a.2.1) ∧ w'.cell? ⟨cb, 4, none⟩ = some (.slice A0 An0 Ac0) ∧ w'.cell? ⟨cb, 5, none⟩ = some (.int .i64 c.inn.b.1) ∧ w'.cell? ⟨cb, 6, none⟩ = some (.int .i64 c.inn.b.2.1) ∧ w'.cell? ⟨cb, 7, none⟩ = some (.slice A1 An1 Ac1) ∧ w'.cell? ⟨cb, 8, none⟩ = some (.int .i64 c.inn.c.1) ∧ w'.cell? ⟨cb, 9, none⟩ = some (.int .i64 c.inn.c.2.1) ∧ w'.cell? ⟨cb, 10, none⟩ = some (.slice A2 An2 Ac2) ∧ w'.cell? ⟨cb, 11, none⟩ = some (.map m)) W))
          refine wp_region_noPanic ?_
          refine wp_region_held_drew (S := (fun w' => Hid (Below wr.heap.size wr w') ∧ w'.cell? ⟨w.heap.size, 1, none⟩ = some (.int .i64 x.2.1) ∧ w'.cell? ⟨b5, 0, none⟩ = some (.int .i64 J.a.1) ∧ w'.cell? ⟨b5, 1, none⟩ = some (.int .i64 J.a.2.1) ∧ w'.cell? ⟨b5, 2, none⟩ = some (.slice C0 Cn0 Cc0) ∧ w'.cell? ⟨b5, 3, none⟩ = some (.int .i64 J.b.1) ∧ w'.cell? ⟨b5, 4, none⟩ = some (.int .i64 J.b.2.1) ∧ w'.cell? ⟨b5, 5, none⟩ = some (.slice C1 Cn1 Cc1) ∧ w'.cell? ⟨b5, 6, none⟩ = some (.int .i64 J.c.1) ∧ w'.cell? ⟨b5, 7, none⟩ = some (.int .i64 J.c.2.1) ∧ w'.cell? ⟨b5, 8, none⟩ = some (.slice C2 Cn2 Cc2) ∧ w'.cell? ⟨b5, 9, none⟩ = some (.map mc) ∧ w'.cell? ⟨cb, 2, none⟩ = some (.int .i64 c.inn.a.1) ∧ w'.cell? ⟨cb, 3, none⟩ = some (.int .i64 c.inn.a.2.1) ∧ w'.cell? ⟨cb, 4, none⟩ = some (.slice A0 An0 Ac0) ∧ w'.cell? ⟨cb, 5, none⟩ = some (.int .i64 c.inn.b.1) ∧ w'.cell? ⟨cb, 6, none⟩ = some (.int .i64 c.inn.b.2.1) ∧ w'.cell? ⟨cb, 7, none⟩ = some (.slice A1 An1 Ac1) ∧ w'.cell? ⟨cb, 8, none⟩ = some (.int .i64 c.inn.c.1) ∧ w'.cell? ⟨cb, 9, none⟩ = some (.int .i64 c.inn.c.2.1) ∧ w'.cell? ⟨cb, 10, none⟩ = some (.slice A2 An2 Ac2) ∧ w'.cell? ⟨cb, 11, none⟩ = some (.map m))) (by kernel_rfl) (HH.out _ (below_drew1 (Below.refl wr.heap.size wr))) (fun hHeld => ?_)
          refine wpAnyH_take (i := 0) (v := ?vc0_14) rfl (by kernel_rfl) (by kernel_rfl) (by kernel_rfl) (fun _ _ _ h => h) (Or.inl ⟨by rfl, ?hyc0_14⟩) (by assumption) ?restc0_14
          case hyc0_14 => (intro w0 hSw; (try dsimp only at hSw); go_simp; try with_reducible rfl)
          case' restc0_14 => try simp only [Act.put, List.getElem_toArray, List.getElem_cons_zero, List.getElem_cons_succ, List.setIfInBounds_toArray, List.set_cons_zero, List.set_cons_succ]
          refine wpAnyH_take (i := 1) (v := ?vc1_15) rfl (by kernel_rfl) (by kernel_rfl) (by kernel_rfl) (fun _ _ _ h => h) (Or.inl ⟨by rfl, ?hyc1_15⟩) (by assumption) ?restc1_15
          case hyc1_15 => (intro w0 hSw; (try dsimp only at hSw); go_simp; try with_reducible rfl)
          case' restc1_15 => try simp only [Act.put, List.getElem_toArray, List.getElem_cons_zero, List.getElem_cons_succ, List.setIfInBounds_toArray, List.set_cons_zero, List.set_cons_succ]
          refine wpAnyH_take (i := 5) (v := ?vc5_16) rfl (by kernel_rfl) (by kernel_rfl) (by kernel_rfl) (fun _ _ _ h => h) (Or.inl ⟨by rfl, ?hyc5_16⟩) (by assumption) ?restc5_16
          case hyc5_16 => (intro w0 hSw; (try dsimp only at hSw); go_simp; try with_reducible rfl)
          case' restc5_16 => try simp only [Act.put, List.getElem_toArray, List.getElem_cons_zero, List.getElem_cons_succ, List.setIfInBounds_toArray, List.set_cons_zero, List.set_cons_succ]
          refine wpAnyH_take (i := 8) (v := ?vc8_17) rfl (by kernel_rfl) (by kernel_rfl) (by kernel_rfl) (fun _ _ _ h => h) (Or.inl ⟨by rfl, ?hyc8_17⟩) (by assumption) ?restc8_17
          case hyc8_17 => (intro w0 hSw; (try dsimp only at hSw); go_simp; try with_reducible rfl)
          case' restc8_17 => try simp only [Act.put, List.getElem_toArray, List.getElem_cons_zero, List.getElem_cons_succ, List.setIfInBounds_toArray, List.set_cons_zero, List.set_cons_succ]
          refine wpAnyH_take (i := 9) (v := ?vc9_18) rfl (by kernel_rfl) (by kernel_rfl) (by kernel_rfl) (fun _ _ _ h => h) (Or.inl ⟨by rfl, ?hyc9_18⟩) (by assumption) ?restc9_18
          case hyc9_18 => (intro w0 hSw; (try dsimp only at hSw); go_simp; try with_reducible rfl)
          case' restc9_18 => try simp only [Act.put, List.getElem_toArray, List.getElem_cons_zero, List.getElem_cons_succ, List.setIfInBounds_toArray, List.set_cons_zero, List.set_cons_succ]
          refine wpAnyH_take (i := 10) (v := ?vc10_19) rfl (by kernel_rfl) (by kernel_rfl) (by kernel_rfl) (fun _ _ _ h => h) (Or.inl ⟨by rfl, ?hyc10_19⟩) (by assumption) ?restc10_19
          case hyc10_19 => (intro w0 hSw; (try dsimp only at hSw); go_simp; try with_reducible rfl)
          case' restc10_19 => try simp only [Act.put, List.getElem_toArray, List.getElem_cons_zero, List.getElem_cons_succ, List.setIfInBounds_toArray, List.set_cons_zero, List.set_cons_succ]
          refine wpAnyH_take (i := 12) (v := ?vc12_20) rfl (by kernel_rfl) (by kernel_rfl) (by kernel_rfl) (fun _ _ _ h => h) (Or.inl ⟨by rfl, ?hyc12_20⟩) (by assumption) ?restc12_20
          case hyc12_20 => (intro w0 hSw; (try dsimp only at hSw); go_simp; try with_reducible rfl)
          case' restc12_20 => try simp only [Act.put, List.getElem_toArray, List.getElem_cons_zero, List.getElem_cons_succ, List.setIfInBounds_toArray, List.set_cons_zero, List.set_cons_succ]
          refine wpAnyH_take (i := 13) (v := ?vc13_21) rfl (by kernel_rfl) (by kernel_rfl) (by kernel_rfl) (fun _ _ _ h => h) (Or.inl ⟨by rfl, ?hyc13_21⟩) (by assumption) ?restc13_21
          case hyc13_21 => (intro w0 hSw; (try dsimp only at hSw); go_simp; try with_reducible rfl)
          case' restc13_21 => try simp only [Act.put, List.getElem_toArray, List.getElem_cons_zero, List.getElem_cons_succ, List.setIfInBounds_toArray, List.set_cons_zero, List.set_cons_succ]
          refine wpAnyH_take (i := 14) (v := ?vc14_22) rfl (by kernel_rfl) (by kernel_rfl) (by kernel_rfl) (fun _ _ _ h => h) (Or.inl ⟨by rfl, ?hyc14_22⟩) (by assumption) ?restc14_22
          case hyc14_22 => (intro w0 hSw; (try dsimp only at hSw); go_simp; try with_reducible rfl)
          case' restc14_22 => try simp only [Act.put, List.getElem_toArray, List.getElem_cons_zero, List.getElem_cons_succ, List.setIfInBounds_toArray, List.set_cons_zero, List.set_cons_succ]
          refine wpAnyH_take (i := 15) (v := ?vc15_23) rfl (by kernel_rfl) (by kernel_rfl) (by kernel_rfl) (fun _ _ _ h => h) (Or.inl ⟨by rfl, ?hyc15_23⟩) (by assumption) ?restc15_23
          case hyc15_23 => (intro w0 hSw; (try dsimp only at hSw); go_simp; try with_reducible rfl)
          case' restc15_23 => try simp only [Act.put, List.getElem_toArray, List.getElem_cons_zero, List.getElem_cons_succ, List.setIfInBounds_toArray, List.set_cons_zero, List.set_cons_succ]
          refine wpAnyH_take (i := 16) (v := ?vc16_24) rfl (by kernel_rfl) (by kernel_rfl) (by kernel_rfl) (fun _ _ _ h => h) (Or.inl ⟨by rfl, ?hyc16_24⟩) (by assumption) ?restc16_24
          case hyc16_24 => (intro w0 hSw; (try dsimp only at hSw); go_simp; try with_reducible rfl)
          case' restc16_24 => try simp only [Act.put, List.getElem_toArray, List.getElem_cons_zero, List.getElem_cons_succ, List.setIfInBounds_toArray, List.set_cons_zero, List.set_cons_succ]
          refine wpAnyH_ready (rs := [2, 20]) (by kernel_rfl) (by simp) ?_
          refine AllReadyH.cons rfl (fun K hK => ?_) (AllReadyH.cons rfl (fun K hK => ?_) AllReadyH.nil)
          · go_simp
            refine (HITO.out x.2.1 wr.drew hq0.1 hq0.2 (bch HBB.out (below_drew1 (Below.refl wr.heap.size wr)) hBr)).mono ?_
            rintro e vv1 ⟨rfl, hbq⟩
            have HQ1 := Lib.hid (bch (below_drew1 (Below.refl wr.heap.size wr)) hbq (Below.size (below_drew1 (Below.refl wr.heap.size wr))))
            clear hbq
            refine hK.out _ _ (HH.out _ (HQ1.out)) (fun hHeld => ?_)
            clear hK K
            try simp only [Act.put, List.getElem_toArray, List.getElem_cons_zero, List.getElem_cons_succ, List.setIfInBounds_toArray, List.set_cons_zero, List.set_cons_succ]
            refine wpAnyH_take (i := 3) (v := ?vc3_25) rfl (by kernel_rfl) (by kernel_rfl) (by kernel_rfl) (fun _ _ _ h => h) (Or.inl ⟨by rfl, ?hyc3_25⟩) (by assumption) ?restc3_25
            case hyc3_25 => (intro w0 hSw; (try dsimp only at hSw); go_simp; rw [if_neg (by first | omega | (simp; omega))]; try rfl)
            case' restc3_25 => try simp only [Act.put, List.getElem_toArray, List.getElem_cons_zero, List.getElem_cons_succ, List.setIfInBounds_toArray, List.set_cons_zero, List.set_cons_succ]
            refine wpAnyH_take (i := 4) (v := ?vc4_26) rfl (by kernel_rfl) (by kernel_rfl) (by kernel_rfl) (fun _ _ _ h => h) (Or.inl ⟨by rfl, ?hyc4_26⟩) (by assumption) ?restc4_26
            case hyc4_26 => (intro w0 hSw; (try dsimp only at hSw); go_simp; rw [if_neg (by first | omega | (simp; omega))]; try rfl)
            case' restc4_26 => try simp only [Act.put, List.getElem_toArray, List.getElem_cons_zero, List.getElem_cons_succ, List.setIfInBounds_toArray, List.set_cons_zero, List.set_cons_succ]
            refine wpAnyH_ready (rs := [6, 20]) (by kernel_rfl) (by simp) ?_
            refine AllReadyH.cons rfl (fun K hK => ?_) (AllReadyH.cons rfl (fun K hK => ?_) AllReadyH.nil)
            · go_simp
              refine (HITO.out ((n : Int) + 1) vv1 (by omega) (by omega) (bch HBB.out HQ1.out hBr)).mono ?_
              rintro e v2 ⟨rfl, hbq⟩
              have HQ2 := Lib.hid (bch HQ1.out hbq (Below.size HQ1.out))
              clear hbq
              refine hK.out _ _ (HH.out _ (HQ2.out)) (fun hHeld => ?_)
              clear hK K
              try simp only [Act.put, List.getElem_toArray, List.getElem_cons_zero, List.getElem_cons_succ, List.setIfInBounds_toArray, List.set_cons_zero, List.set_cons_succ]
              refine wpAnyH_take (i := 7) (v := ?vc7_27) rfl (by kernel_rfl) (by kernel_rfl) (by kernel_rfl) (fun _ _ _ h => h) (Or.inl ⟨by rfl, ?hyc7_27⟩) (by assumption) ?restc7_27
              case hyc7_27 => (intro w0 hSw; (try dsimp only at hSw); go_simp; rw [if_neg (by first | omega | (simp; omega))]; try rfl)
              case' restc7_27 => try simp only [Act.put, List.getElem_toArray, List.getElem_cons_zero, List.getElem_cons_succ, List.setIfInBounds_toArray, List.set_cons_zero, List.set_cons_succ]
              refine wpAnyH_ready (rs := [11, 20]) (by kernel_rfl) (by simp) ?_
              refine AllReadyH.cons rfl (fun K hK => ?_) (AllReadyH.cons rfl (fun K hK => ?_) AllReadyH.nil)
              · go_simp
                refine (inet_any v2 _ J ((n : Int) + 1) (HVr.out.below HQ2.out) HFJ.out ⟨by omega, by omega⟩).mono ?_
                rintro e v3 ⟨rfl, hbq⟩
                have HQ3 := Lib.hid (bch HQ2.out hbq (Below.size HQ2.out))
                clear hbq
                refine hK.out _ _ (HH.out _ (HQ3.out)) (fun hHeld => ?_)
                clear hK K
                try simp only [Act.put, List.getElem_toArray, List.getElem_cons_zero, List.getElem_cons_succ, List.setIfInBounds_toArray, List.set_cons_zero, List.set_cons_succ]
                refine wpAnyH_ready (rs := [17, 20]) (by kernel_rfl) (by simp) ?_
                refine AllReadyH.cons rfl (fun K hK => ?_) (AllReadyH.cons rfl (fun K hK => ?_) AllReadyH.nil)
                · go_simp
                  refine (inet_any v3 _ c.inn ((n : Int) + 1) (HCr.out.ii.below HQ3.out) HC0.out.fi ⟨by omega, by omega⟩).mono ?_
                  rintro e v4 ⟨rfl, hbq⟩
                  have HQ4 := Lib.hid (bch HQ3.out hbq (Below.size HQ3.out))
                  clear hbq
                  refine hK.out _ _ (HH.out _ (HQ4.out)) (fun hHeld => ?_)
                  clear hK K
                  try simp only [Act.put, List.getElem_toArray, List.getElem_cons_zero, List.getElem_cons_succ, List.setIfInBounds_toArray, List.set_cons_zero, List.set_cons_succ]
                  refine wpAnyH_take (i := 18) (v := ?vc18_28) rfl (by kernel_rfl) (by kernel_rfl) (by kernel_rfl) (fun _ _ _ h => h) (Or.inl ⟨by rfl, ?hyc18_28⟩) (by assumption) ?restc18_28
                  case hyc18_28 => (intro w0 hSw; (try dsimp only at hSw); go_simp; try with_reducible rfl)
                  case' restc18_28 => try simp only [Act.put, List.getElem_toArray, List.getElem_cons_zero, List.getElem_cons_succ, List.setIfInBounds_toArray, List.set_cons_zero, List.set_cons_succ]
                  refine wpAnyH_take (i := 19) (v := ?vc19_29) rfl (by kernel_rfl) (by kernel_rfl) (by kernel_rfl) (fun _ _ _ h => h) (Or.inl ⟨by rfl, ?hyc19_29⟩) (by assumption) ?restc19_29
                  case hyc19_29 => (intro w0 hSw; (try dsimp only at hSw); go_simp; try with_reducible rfl)
                  case' restc19_29 => try simp only [Act.put, List.getElem_toArray, List.getElem_cons_zero, List.getElem_cons_succ, List.setIfInBounds_toArray, List.set_cons_zero, List.set_cons_succ]
                  refine wpAnyH_ready (rs := [20]) (by kernel_rfl) (by simp) ?_
                  refine AllReadyH.cons rfl (fun K hK => ?_) AllReadyH.nil
                  go_simp
                  refine hK.out _ _ (HH.out _ (bch HQ4.out (below_alloc v4 _) (Below.size HQ4.out))) (fun hHeld => ?_)
                  clear hK K
                  try simp only [Act.put, List.getElem_toArray, List.getElem_cons_zero, List.getElem_cons_succ, List.setIfInBounds_toArray, List.set_cons_zero, List.set_cons_succ]
                  refine wpAnyH_ready (rs := [21]) (by kernel_rfl) (by simp) ?_
                  refine AllReadyH.cons rfl (fun K hK => ?_) AllReadyH.nil
                  go_simp
                  refine hK.out _ _ (HH.out _ (bch HQ4.out (below_alloc v4 _) (Below.size HQ4.out))) (fun hHeld => ?_)
                  clear hK K
                  try simp only [Act.put, List.getElem_toArray, List.getElem_cons_zero, List.getElem_cons_succ, List.setIfInBounds_toArray, List.set_cons_zero, List.set_cons_succ]
                  refine wpAnyH_done (by kernel_rfl) ?_ _
                  refine NoPanic.normal ?_
                  simp only [sid_join]
                  obtain ⟨by_, hby⟩ : ∃ b, In.netI J ((n : Int) + 1) - In.netI c.inn ((n : Int) + 1) = b := ⟨_, rfl⟩
                  rw [hby] at HP1 ⊢
                  have hbyb : -2199023255552 ≤ by_ ∧ by_ ≤ 2199023255552 := by omega
                  obtain ⟨w8, hw8⟩ : ∃ w8, w8 = v4.alloc (.cells #[.string ⟨(sidL x.2.1 ((n : Int) + 1)).toArray⟩, .int .i64 ((n : Int) + 1), .int .i64 2, .int .i64 1, .int .i64 by_] tPost) := ⟨_, rfl⟩
                  rw [← hw8]
                  have HB8 := Lib.hid (show Below wr.heap.size wr w8 by rw [hw8]; exact bch HQ4.out (below_alloc v4 _) (Below.size HQ4.out))
                  have HP8 := Lib.hid (show w8.heap[v4.heap.size]? = some (.cells #[.string ⟨(sidL x.2.1 ((n : Int) + 1)).toArray⟩, .int .i64 ((n : Int) + 1), .int .i64 2, .int .i64 1, .int .i64 by_] tPost (0, 0)) by rw [hw8]; exact heap_new _ _)
                  have hb8 : wr.heap.size ≤ v4.heap.size := Below.size HQ4.out
                  obtain ⟨b8, hb8e⟩ : ∃ b8, v4.heap.size = b8 := ⟨_, rfl⟩
                  rw [hb8e] at HP8 hb8 ⊢
                  clear hw8 hb8e
                  clear y0 y1 y2 y3 y4 y5 y6 y7 y8 y9 y10 y11 k0 k1 k2 i0 i1 i2 i3 i4 i5 i6 i7 i8 i9 hHeld HH
                  obtain ⟨m0, m1, m2, m3, m4⟩ := cell5 HP8.out
                  obtain ⟨f0, f1, f2, f3, f4⟩ := froz5 HP8.out
                  have hwn : IntKind.i64.wrap (-by_) = -by_ := IntWalk.i64_in _ (by omega)
                  by_cases hneg : by_ < 0
                  · have hpos' : 0 < -by_ := by omega
                    go_upto_region 10 with (fail)
                    obtain ⟨w9, hw9⟩ : ∃ w9, w9 = ((w8.setCell ⟨b8, 2, none⟩ (.int .i64 1)).setCell ⟨b8, 3, none⟩ (.int .i64 2)).setCell ⟨b8, 4, none⟩ (.int .i64 (-by_)) := ⟨_, rfl⟩
                    rw [← hw9]
                    have ht9 : Turned (fun j => j = b8) w8 w9 := by rw [hw9]; exact ((turned_set _ _ _ _).trans (turned_set _ _ _ _)).trans (turned_set _ _ _ _)
                    have HP9 := Lib.hid (show w9.heap[b8]? = some (.cells #[.string ⟨(sidL x.2.1 ((n : Int) + 1)).toArray⟩, .int .i64 ((n : Int) + 1), .int .i64 1, .int .i64 2, .int .i64 (-by_)] tPost (0, 0)) by rw [hw9]; exact set5_345 HP8.out _ _ _)
                    have HB9 := Lib.hid (Below.turned HB8.out ht9 (fun i h => by omega) HB8.out.size)
                    clear hw9 ht9 m0 m1 m2 m3 m4 f0 f1 f2 f3 f4
                    have HPB := Lib.hid (HP1.out.trans (stm_neg hneg))
                    have hm := HMP.out _ (stm_mem hn60 HPB.out)
                    have hf := stm_fresh HND.out hn60 HPB.out
                    have HM := Lib.hid hm; have HF := Lib.hid hf
                    clear hm hf
                    have HC9 := Lib.hid (HCr.out.below HB9.out)
                    have y1' := HC9.out.c01.2
                    obtain ⟨m0, m1, m2, m3, m4⟩ := cell5 HP9.out
                    go_wp2_with fail
                    refine wp_region_still_tail 5 (by kernel_rfl) (by kernel_rfl) ?_
                    simp only [List.take_succ_cons, List.take_zero, List.drop_succ_cons, List.drop_zero]
                    iterate 5 still_step
                    refine wpStill_nil ?_
                    change wpList _ _ _ _ _ w9.drew
                    go_wp2_with fail
                    refine (bpost_any (HC9.out.bk.below (below_drew1 (Below.refl _ w9))) ⟨sidL x.2.1 ((n : Int) + 1), (n : Int) + 1, 1, 2, -by_⟩ HM.out HF.out (by have := stmPs_len c.inn J x.2.1 n; rw [List.length_append]; omega)).mono ?_
                    rintro e wz ⟨vb2, rfl, hnew, htz, hfar⟩
                    have htz' : Turned (Bs bb pm bm vb') w9 wz := (Turned.refl _ w9).drew.trans htz
                    have hbs1 : ∀ j, w.heap.size ≤ j → (∀ cs T, w9.heap[j]? = some (.cells cs T (0, 0)) → T ≠ tPost) → (∃ cs T, w9.heap[j]? = some (.cells cs T (0, 0))) → ¬ Bs bb pm bm vb' j := fun j hj h1 ⟨cs, T, h2⟩ hs => by have := HC0.out.bk.lt; rcases hs with e | e | e | e; omega; omega; omega; exact own_apartT HC9.out.bk.ob h2 (h1 _ _ h2) e
                    have hB9 := heap_keep HBr.out HB9.out
                    have hX9 := heap_keep HXr.out HB9.out
                    have HB' := Lib.hid (heap_turned hB9 htz' (hbs1 b5 (by omega) (fun cs T h => by rw [hB9] at h; injection h with h; injection h with _ h; rw [← h]; decide) ⟨_, _, hB9⟩))
                    have HX' := Lib.hid (heap_turned hX9 htz' (hbs1 _ (Nat.le_refl _) (fun cs T h => by rw [hX9] at h; injection h with h; injection h with _ h; rw [← h]; decide) ⟨_, _, hX9⟩))
                    have HC' := Lib.hid (show Cw B wz cb bb pm bm (.slice A c.l.length cl) vb2 (.agg #[.int .i64 c.inn.a.1, .int .i64 c.inn.a.2.1, .slice A0 An0 Ac0, .int .i64 c.inn.b.1, .int .i64 c.inn.b.2.1, .slice A1 An1 Ac1, .int .i64 c.inn.c.1, .int .i64 c.inn.c.2.1, .slice A2 An2 Ac2, .map m]) { c with b := c.b ++ stmPs c.inn J x.2.1 (n + 1) } by rw [stmPs_succ, HPB.out, ← List.append_assoc]; exact HC9.out.post hnew htz' (fun j hj => hfar j hj))
                    have HV' := Lib.hid ((HVr.out.below HB9.out).turned htz' (fun j hj => HAr.out j (.inr (.inl hj))))
                    have hsz9 := HB9.out.size
                    have hszr := HTr.out.size
                    have HF' := Lib.hid (show ∀ j, vb2.ownBlock = some j → vb.ownBlock = some j ∨ w.heap.size ≤ j from fun j hj => by rcases hfar j hj with h | h; exact HFr.out j h; (right; simp at h; omega))
                    have HA' := Lib.hid (show ∀ j, Cs cb bb pm bm (.slice A c.l.length cl) vb2 j → Av j (.agg #[.int .i64 J.a.1, .int .i64 J.a.2.1, .slice C0 Cn0 Cc0, .int .i64 J.b.1, .int .i64 J.b.2.1, .slice C1 Cn1 Cc1, .int .i64 J.c.1, .int .i64 J.c.2.1, .slice C2 Cn2 Cc2, .map mc]) J from fun j hj => by rcases hj with h | (h | h | h | h) | h; exact HAr.out j (.inl h); exact HAr.out j (.inr (.inl (.inl h))); exact HAr.out j (.inr (.inl (.inr (.inl h)))); exact HAr.out j (.inr (.inl (.inr (.inr (.inl h))))); (rcases hfar j h with h | h; exact HAr.out j (.inr (.inl (.inr (.inr (.inr h))))); exact Av.far HVr.out (by simp at h; omega)); exact HAr.out j (.inr (.inr h)))
                    have HT' := Lib.hid (show Turned (Cs cb bb pm bm (.slice A c.l.length cl) vb) w wz from (HTr.out.trans (Turned.of_below HB9.out)).far (htz'.mono (fun i h => by rcases h with h | h | h | h; exact .inl (.inr (.inl (.inl h))); exact .inl (.inr (.inl (.inr (.inl h)))); exact .inl (.inr (.inl (.inr (.inr (.inl h))))); (rcases HFr.out i h with h | h; exact .inl (.inr (.inl (.inr (.inr (.inr h))))); exact .inr h))))
                    clear hnew htz htz' hfar hbs1 hB9 hX9 m0 m1 m2 m3 m4 y1'
                    go_wp2_with fail
                    go_roundw
                    case rel => exact ⟨n + 1, vb2, by go_num, by omega, HC'.out, HB'.out, HX'.out, HV'.out, HA'.out, HT'.out, HF'.out⟩
                    case measure => simp [intOf]; omega
                  · by_cases hpos : 0 < by_
                    · have HP9 := Lib.hid HP8.out; have HB9 := Lib.hid HB8.out
                      have HPB := Lib.hid (HP1.out.trans (stm_pos hpos))
                      have hm := HMP.out _ (stm_mem hn60 HPB.out)
                      have hf := stm_fresh HND.out hn60 HPB.out
                      have HM := Lib.hid hm; have HF := Lib.hid hf
                      clear hm hf
                      have HC9 := Lib.hid (HCr.out.below HB9.out)
                      have y1' := HC9.out.c01.2
                      obtain ⟨m0, m1, m2, m3, m4⟩ := cell5 HP9.out
                      go_wp2_with fail
                      refine wp_region_still_tail 5 (by kernel_rfl) (by kernel_rfl) ?_
                      simp only [List.take_succ_cons, List.take_zero, List.drop_succ_cons, List.drop_zero]
                      iterate 5 still_step
                      refine wpStill_nil ?_
                      change wpList _ _ _ _ _ w8.drew
                      go_wp2_with fail
                      refine (bpost_any (HC9.out.bk.below (below_drew1 (Below.refl _ w8))) ⟨sidL x.2.1 ((n : Int) + 1), (n : Int) + 1, 2, 1, by_⟩ HM.out HF.out (by have := stmPs_len c.inn J x.2.1 n; rw [List.length_append]; omega)).mono ?_
                      rintro e wz ⟨vb2, rfl, hnew, htz, hfar⟩
                      have htz' : Turned (Bs bb pm bm vb') w8 wz := (Turned.refl _ w8).drew.trans htz
                      have hbs1 : ∀ j, w.heap.size ≤ j → (∀ cs T, w8.heap[j]? = some (.cells cs T (0, 0)) → T ≠ tPost) → (∃ cs T, w8.heap[j]? = some (.cells cs T (0, 0))) → ¬ Bs bb pm bm vb' j := fun j hj h1 ⟨cs, T, h2⟩ hs => by have := HC0.out.bk.lt; rcases hs with e | e | e | e; omega; omega; omega; exact own_apartT HC9.out.bk.ob h2 (h1 _ _ h2) e
                      have hB9 := heap_keep HBr.out HB9.out
                      have hX9 := heap_keep HXr.out HB9.out
                      have HB' := Lib.hid (heap_turned hB9 htz' (hbs1 b5 (by omega) (fun cs T h => by rw [hB9] at h; injection h with h; injection h with _ h; rw [← h]; decide) ⟨_, _, hB9⟩))
                      have HX' := Lib.hid (heap_turned hX9 htz' (hbs1 _ (Nat.le_refl _) (fun cs T h => by rw [hX9] at h; injection h with h; injection h with _ h; rw [← h]; decide) ⟨_, _, hX9⟩))
                      have HC' := Lib.hid (show Cw B wz cb bb pm bm (.slice A c.l.length cl) vb2 (.agg #[.int .i64 c.inn.a.1, .int .i64 c.inn.a.2.1, .slice A0 An0 Ac0, .int .i64 c.inn.b.1, .int .i64 c.inn.b.2.1, .slice A1 An1 Ac1, .int .i64 c.inn.c.1, .int .i64 c.inn.c.2.1, .slice A2 An2 Ac2, .map m]) { c with b := c.b ++ stmPs c.inn J x.2.1 (n + 1) } by rw [stmPs_succ, HPB.out, ← List.append_assoc]; exact HC9.out.post hnew htz' (fun j hj => hfar j hj))
                      have HV' := Lib.hid ((HVr.out.below HB9.out).turned htz' (fun j hj => HAr.out j (.inr (.inl hj))))
                      have hsz9 := HB9.out.size
                      have hszr := HTr.out.size
                      have HF' := Lib.hid (show ∀ j, vb2.ownBlock = some j → vb.ownBlock = some j ∨ w.heap.size ≤ j from fun j hj => by rcases hfar j hj with h | h; exact HFr.out j h; (right; simp at h; omega))
                      have HA' := Lib.hid (show ∀ j, Cs cb bb pm bm (.slice A c.l.length cl) vb2 j → Av j (.agg #[.int .i64 J.a.1, .int .i64 J.a.2.1, .slice C0 Cn0 Cc0, .int .i64 J.b.1, .int .i64 J.b.2.1, .slice C1 Cn1 Cc1, .int .i64 J.c.1, .int .i64 J.c.2.1, .slice C2 Cn2 Cc2, .map mc]) J from fun j hj => by rcases hj with h | (h | h | h | h) | h; exact HAr.out j (.inl h); exact HAr.out j (.inr (.inl (.inl h))); exact HAr.out j (.inr (.inl (.inr (.inl h)))); exact HAr.out j (.inr (.inl (.inr (.inr (.inl h))))); (rcases hfar j h with h | h; exact HAr.out j (.inr (.inl (.inr (.inr (.inr h))))); exact Av.far HVr.out (by simp at h; omega)); exact HAr.out j (.inr (.inr h)))
                      have HT' := Lib.hid (show Turned (Cs cb bb pm bm (.slice A c.l.length cl) vb) w wz from (HTr.out.trans (Turned.of_below HB9.out)).far (htz'.mono (fun i h => by rcases h with h | h | h | h; exact .inl (.inr (.inl (.inl h))); exact .inl (.inr (.inl (.inr (.inl h)))); exact .inl (.inr (.inl (.inr (.inr (.inl h))))); (rcases HFr.out i h with h | h; exact .inl (.inr (.inl (.inr (.inr (.inr h))))); exact .inr h))))
                      clear hnew htz htz' hfar hbs1 hB9 hX9 m0 m1 m2 m3 m4 y1'
                      go_wp2_with fail
                      go_roundw
                      case rel => exact ⟨n + 1, vb2, by go_num, by omega, HC'.out, HB'.out, HX'.out, HV'.out, HA'.out, HT'.out, HF'.out⟩
                      case measure => simp [intOf]; omega
                    · have HPB := Lib.hid (HP1.out.trans (stm_nil hpos hneg))
                      have HN := Lib.hid (show stmPs c.inn J x.2.1 (n + 1) = stmPs c.inn J x.2.1 n by rw [stmPs_succ, HPB.out, List.append_nil])
                      go_wp2_with fail
                      go_roundw
                      case rel => exact ⟨n + 1, vb', by go_num, by omega, by rw [HN.out]; exact HCr.out.below HB8.out, heap_keep HBr.out HB8.out, heap_keep HXr.out HB8.out, HVr.out.below HB8.out, HAr.out, HTr.out.trans (Turned.of_below HB8.out), HFr.out⟩
                      case measure => simp [intOf]; omega
                · go_simp
                  refine hK.out _ _ (HH.out _ (bch HQ3.out (below_alloc v3 _) (Below.size HQ3.out))) (fun hHeld => ?_)
                  clear hK K
                  try simp only [Act.put, List.getElem_toArray, List.getElem_cons_zero, List.getElem_cons_succ, List.setIfInBounds_toArray, List.set_cons_zero, List.set_cons_succ]
                  have HQ5 := Lib.hid (bch HQ3.out (below_alloc v3 (.cells #[.string ⟨#[]⟩, .int .i64 0, .int .i64 0, .int .i64 0, .int .i64 0] tPost)) (Below.size HQ3.out))
                  have HZ5 := Lib.hid (show (v3.alloc (.cells #[.string ⟨#[]⟩, .int .i64 0, .int .i64 0, .int .i64 0, .int .i64 0] tPost)).heap[v3.heap.size]? = some (.cells #[.string ⟨#[]⟩, .int .i64 0, .int .i64 0, .int .i64 0, .int .i64 0] tPost (0, 0)) from heap_new _ _)
                  have hq5 : wr.heap.size ≤ v3.heap.size := Below.size HQ3.out
                  refine wpAnyH_ready (rs := [17]) (by kernel_rfl) (by simp) ?_
                  refine AllReadyH.cons rfl (fun K hK => ?_) AllReadyH.nil
                  go_simp
                  refine (inet_any (v3.alloc (.cells #[.string ⟨#[]⟩, .int .i64 0, .int .i64 0, .int .i64 0, .int .i64 0] tPost)) _ c.inn ((n : Int) + 1) (HCr.out.ii.below HQ5.out) HC0.out.fi ⟨by omega, by omega⟩).mono ?_
                  rintro e v6 ⟨rfl, hbq⟩
                  have HQ6 := Lib.hid (bch HQ5.out hbq (Below.size HQ5.out))
                  have HZ6 := Lib.hid (heap_keep HZ5.out hbq)
                  clear hbq
                  refine hK.out _ _ (HH.out _ (HQ6.out)) (fun hHeld => ?_)
                  clear hK K
                  try simp only [Act.put, List.getElem_toArray, List.getElem_cons_zero, List.getElem_cons_succ, List.setIfInBounds_toArray, List.set_cons_zero, List.set_cons_succ]
                  refine wpAnyH_take (i := 18) (v := ?vc18_30) rfl (by kernel_rfl) (by kernel_rfl) (by kernel_rfl) (fun _ _ _ h => h) (Or.inl ⟨by rfl, ?hyc18_30⟩) (by assumption) ?restc18_30
                  case hyc18_30 => (intro w0 hSw; (try dsimp only at hSw); go_simp; try with_reducible rfl)
                  case' restc18_30 => try simp only [Act.put, List.getElem_toArray, List.getElem_cons_zero, List.getElem_cons_succ, List.setIfInBounds_toArray, List.set_cons_zero, List.set_cons_succ]
                  refine wpAnyH_take (i := 19) (v := ?vc19_31) rfl (by kernel_rfl) (by kernel_rfl) (by kernel_rfl) (fun _ _ _ h => h) (Or.inl ⟨by rfl, ?hyc19_31⟩) (by assumption) ?restc19_31
                  case hyc19_31 => (intro w0 hSw; (try dsimp only at hSw); go_simp; try with_reducible rfl)
                  case' restc19_31 => try simp only [Act.put, List.getElem_toArray, List.getElem_cons_zero, List.getElem_cons_succ, List.setIfInBounds_toArray, List.set_cons_zero, List.set_cons_succ]
                  obtain ⟨z0, z1, z2, z3, z4⟩ := cell5 HZ6.out
                  obtain ⟨f0, f1, f2, f3, f4⟩ := froz5 HZ6.out
                  have HTu := Lib.hid (turned_set5 v6 v3.heap.size ((.string (((⟨#[115]⟩ : ByteArray) ++ ⟨(Lib.itoa x.2.1).toArray⟩) ++ ⟨#[45]⟩ ++ ⟨(Lib.itoa ((n : Int) + 1)).toArray⟩))) (.int .i64 ((n : Int) + 1)) (.int .i64 2) (.int .i64 1) (.int .i64 (In.netI J ((n : Int) + 1) - In.netI c.inn ((n : Int) + 1))))
                  have HSET := Lib.hid (set5x HZ6.out ((.string (((⟨#[115]⟩ : ByteArray) ++ ⟨(Lib.itoa x.2.1).toArray⟩) ++ ⟨#[45]⟩ ++ ⟨(Lib.itoa ((n : Int) + 1)).toArray⟩))) (.int .i64 ((n : Int) + 1)) (.int .i64 2) (.int .i64 1) (.int .i64 (In.netI J ((n : Int) + 1) - In.netI c.inn ((n : Int) + 1))))
                  have HWs := Lib.hid (Below.turned HQ6.out HTu.out (fun i hi => by rw [hi]; exact hq5) (Below.size HQ6.out))
                  refine wpAnyH_ready (rs := [21]) (by kernel_rfl) (by simp) ?_
                  refine AllReadyH.cons rfl (fun K hK => ?_) AllReadyH.nil
                  go_simp
                  refine hK.out _ _ (HH.out _ (HWs.out)) (fun hHeld => ?_)
                  clear hK K
                  try simp only [Act.put, List.getElem_toArray, List.getElem_cons_zero, List.getElem_cons_succ, List.setIfInBounds_toArray, List.set_cons_zero, List.set_cons_succ]
                  refine wpAnyH_done (by kernel_rfl) ?_ _
                  refine NoPanic.normal ?_
                  simp only [sid_join] at HSET HWs ⊢
                  obtain ⟨by_, hby⟩ : ∃ b, In.netI J ((n : Int) + 1) - In.netI c.inn ((n : Int) + 1) = b := ⟨_, rfl⟩
                  rw [hby] at HP1 HSET HWs ⊢
                  have hbyb : -2199023255552 ≤ by_ ∧ by_ ≤ 2199023255552 := by omega
                  generalize hw8 : (((((v6.setCell ⟨v3.heap.size, 0, none⟩ (.string ⟨(sidL x.2.1 ((n : Int) + 1)).toArray⟩)).setCell ⟨v3.heap.size, 1, none⟩ (.int .i64 ((n : Int) + 1))).setCell ⟨v3.heap.size, 2, none⟩ (.int .i64 2)).setCell ⟨v3.heap.size, 3, none⟩ (.int .i64 1)).setCell ⟨v3.heap.size, 4, none⟩ (.int .i64 by_)) = w8 at HSET HWs ⊢
                  have HB8 := Lib.hid HWs.out
                  have HP8 := Lib.hid HSET.out
                  obtain ⟨b8, hb8e, hb8⟩ : ∃ b8, v3.heap.size = b8 ∧ wr.heap.size ≤ b8 := ⟨_, rfl, hq5⟩
                  rw [hb8e] at HP8 ⊢
                  clear hw8 hb8e HTu HSET HWs z0 z1 z2 z3 z4 f0 f1 f2 f3 f4
                  clear y0 y1 y2 y3 y4 y5 y6 y7 y8 y9 y10 y11 k0 k1 k2 i0 i1 i2 i3 i4 i5 i6 i7 i8 i9 hHeld HH
                  obtain ⟨m0, m1, m2, m3, m4⟩ := cell5 HP8.out
                  obtain ⟨f0, f1, f2, f3, f4⟩ := froz5 HP8.out
                  have hwn : IntKind.i64.wrap (-by_) = -by_ := IntWalk.i64_in _ (by omega)
                  by_cases hneg : by_ < 0
                  · have hpos' : 0 < -by_ := by omega
                    go_upto_region 10 with (fail)
                    obtain ⟨w9, hw9⟩ : ∃ w9, w9 = ((w8.setCell ⟨b8, 2, none⟩ (.int .i64 1)).setCell ⟨b8, 3, none⟩ (.int .i64 2)).setCell ⟨b8, 4, none⟩ (.int .i64 (-by_)) := ⟨_, rfl⟩
                    rw [← hw9]
                    have ht9 : Turned (fun j => j = b8) w8 w9 := by rw [hw9]; exact ((turned_set _ _ _ _).trans (turned_set _ _ _ _)).trans (turned_set _ _ _ _)
                    have HP9 := Lib.hid (show w9.heap[b8]? = some (.cells #[.string ⟨(sidL x.2.1 ((n : Int) + 1)).toArray⟩, .int .i64 ((n : Int) + 1), .int .i64 1, .int .i64 2, .int .i64 (-by_)] tPost (0, 0)) by rw [hw9]; exact set5_345 HP8.out _ _ _)
                    have HB9 := Lib.hid (Below.turned HB8.out ht9 (fun i h => by omega) HB8.out.size)
                    clear hw9 ht9 m0 m1 m2 m3 m4 f0 f1 f2 f3 f4
                    have HPB := Lib.hid (HP1.out.trans (stm_neg hneg))
                    have hm := HMP.out _ (stm_mem hn60 HPB.out)
                    have hf := stm_fresh HND.out hn60 HPB.out
                    have HM := Lib.hid hm; have HF := Lib.hid hf
                    clear hm hf
                    have HC9 := Lib.hid (HCr.out.below HB9.out)
                    have y1' := HC9.out.c01.2
                    obtain ⟨m0, m1, m2, m3, m4⟩ := cell5 HP9.out
                    go_wp2_with fail
                    refine wp_region_still_tail 5 (by kernel_rfl) (by kernel_rfl) ?_
                    simp only [List.take_succ_cons, List.take_zero, List.drop_succ_cons, List.drop_zero]
                    iterate 5 still_step
                    refine wpStill_nil ?_
                    change wpList _ _ _ _ _ w9.drew
                    go_wp2_with fail
                    refine (bpost_any (HC9.out.bk.below (below_drew1 (Below.refl _ w9))) ⟨sidL x.2.1 ((n : Int) + 1), (n : Int) + 1, 1, 2, -by_⟩ HM.out HF.out (by have := stmPs_len c.inn J x.2.1 n; rw [List.length_append]; omega)).mono ?_
                    rintro e wz ⟨vb2, rfl, hnew, htz, hfar⟩
                    have htz' : Turned (Bs bb pm bm vb') w9 wz := (Turned.refl _ w9).drew.trans htz
                    have hbs1 : ∀ j, w.heap.size ≤ j → (∀ cs T, w9.heap[j]? = some (.cells cs T (0, 0)) → T ≠ tPost) → (∃ cs T, w9.heap[j]? = some (.cells cs T (0, 0))) → ¬ Bs bb pm bm vb' j := fun j hj h1 ⟨cs, T, h2⟩ hs => by have := HC0.out.bk.lt; rcases hs with e | e | e | e; omega; omega; omega; exact own_apartT HC9.out.bk.ob h2 (h1 _ _ h2) e
                    have hB9 := heap_keep HBr.out HB9.out
                    have hX9 := heap_keep HXr.out HB9.out
                    have HB' := Lib.hid (heap_turned hB9 htz' (hbs1 b5 (by omega) (fun cs T h => by rw [hB9] at h; injection h with h; injection h with _ h; rw [← h]; decide) ⟨_, _, hB9⟩))
                    have HX' := Lib.hid (heap_turned hX9 htz' (hbs1 _ (Nat.le_refl _) (fun cs T h => by rw [hX9] at h; injection h with h; injection h with _ h; rw [← h]; decide) ⟨_, _, hX9⟩))
                    have HC' := Lib.hid (show Cw B wz cb bb pm bm (.slice A c.l.length cl) vb2 (.agg #[.int .i64 c.inn.a.1, .int .i64 c.inn.a.2.1, .slice A0 An0 Ac0, .int .i64 c.inn.b.1, .int .i64 c.inn.b.2.1, .slice A1 An1 Ac1, .int .i64 c.inn.c.1, .int .i64 c.inn.c.2.1, .slice A2 An2 Ac2, .map m]) { c with b := c.b ++ stmPs c.inn J x.2.1 (n + 1) } by rw [stmPs_succ, HPB.out, ← List.append_assoc]; exact HC9.out.post hnew htz' (fun j hj => hfar j hj))
                    have HV' := Lib.hid ((HVr.out.below HB9.out).turned htz' (fun j hj => HAr.out j (.inr (.inl hj))))
                    have hsz9 := HB9.out.size
                    have hszr := HTr.out.size
                    have HF' := Lib.hid (show ∀ j, vb2.ownBlock = some j → vb.ownBlock = some j ∨ w.heap.size ≤ j from fun j hj => by rcases hfar j hj with h | h; exact HFr.out j h; (right; simp at h; omega))
                    have HA' := Lib.hid (show ∀ j, Cs cb bb pm bm (.slice A c.l.length cl) vb2 j → Av j (.agg #[.int .i64 J.a.1, .int .i64 J.a.2.1, .slice C0 Cn0 Cc0, .int .i64 J.b.1, .int .i64 J.b.2.1, .slice C1 Cn1 Cc1, .int .i64 J.c.1, .int .i64 J.c.2.1, .slice C2 Cn2 Cc2, .map mc]) J from fun j hj => by rcases hj with h | (h | h | h | h) | h; exact HAr.out j (.inl h); exact HAr.out j (.inr (.inl (.inl h))); exact HAr.out j (.inr (.inl (.inr (.inl h)))); exact HAr.out j (.inr (.inl (.inr (.inr (.inl h))))); (rcases hfar j h with h | h; exact HAr.out j (.inr (.inl (.inr (.inr (.inr h))))); exact Av.far HVr.out (by simp at h; omega)); exact HAr.out j (.inr (.inr h)))
                    have HT' := Lib.hid (show Turned (Cs cb bb pm bm (.slice A c.l.length cl) vb) w wz from (HTr.out.trans (Turned.of_below HB9.out)).far (htz'.mono (fun i h => by rcases h with h | h | h | h; exact .inl (.inr (.inl (.inl h))); exact .inl (.inr (.inl (.inr (.inl h)))); exact .inl (.inr (.inl (.inr (.inr (.inl h))))); (rcases HFr.out i h with h | h; exact .inl (.inr (.inl (.inr (.inr (.inr h))))); exact .inr h))))
                    clear hnew htz htz' hfar hbs1 hB9 hX9 m0 m1 m2 m3 m4 y1'
                    go_wp2_with fail
                    go_roundw
                    case rel => exact ⟨n + 1, vb2, by go_num, by omega, HC'.out, HB'.out, HX'.out, HV'.out, HA'.out, HT'.out, HF'.out⟩
                    case measure => simp [intOf]; omega
                  · by_cases hpos : 0 < by_
                    · have HP9 := Lib.hid HP8.out; have HB9 := Lib.hid HB8.out
                      have HPB := Lib.hid (HP1.out.trans (stm_pos hpos))
                      have hm := HMP.out _ (stm_mem hn60 HPB.out)
                      have hf := stm_fresh HND.out hn60 HPB.out
                      have HM := Lib.hid hm; have HF := Lib.hid hf
                      clear hm hf
                      have HC9 := Lib.hid (HCr.out.below HB9.out)
                      have y1' := HC9.out.c01.2
                      obtain ⟨m0, m1, m2, m3, m4⟩ := cell5 HP9.out
                      go_wp2_with fail
                      refine wp_region_still_tail 5 (by kernel_rfl) (by kernel_rfl) ?_
                      simp only [List.take_succ_cons, List.take_zero, List.drop_succ_cons, List.drop_zero]
                      iterate 5 still_step
                      refine wpStill_nil ?_
                      change wpList _ _ _ _ _ w8.drew
                      go_wp2_with fail
                      refine (bpost_any (HC9.out.bk.below (below_drew1 (Below.refl _ w8))) ⟨sidL x.2.1 ((n : Int) + 1), (n : Int) + 1, 2, 1, by_⟩ HM.out HF.out (by have := stmPs_len c.inn J x.2.1 n; rw [List.length_append]; omega)).mono ?_
                      rintro e wz ⟨vb2, rfl, hnew, htz, hfar⟩
                      have htz' : Turned (Bs bb pm bm vb') w8 wz := (Turned.refl _ w8).drew.trans htz
                      have hbs1 : ∀ j, w.heap.size ≤ j → (∀ cs T, w8.heap[j]? = some (.cells cs T (0, 0)) → T ≠ tPost) → (∃ cs T, w8.heap[j]? = some (.cells cs T (0, 0))) → ¬ Bs bb pm bm vb' j := fun j hj h1 ⟨cs, T, h2⟩ hs => by have := HC0.out.bk.lt; rcases hs with e | e | e | e; omega; omega; omega; exact own_apartT HC9.out.bk.ob h2 (h1 _ _ h2) e
                      have hB9 := heap_keep HBr.out HB9.out
                      have hX9 := heap_keep HXr.out HB9.out
                      have HB' := Lib.hid (heap_turned hB9 htz' (hbs1 b5 (by omega) (fun cs T h => by rw [hB9] at h; injection h with h; injection h with _ h; rw [← h]; decide) ⟨_, _, hB9⟩))
                      have HX' := Lib.hid (heap_turned hX9 htz' (hbs1 _ (Nat.le_refl _) (fun cs T h => by rw [hX9] at h; injection h with h; injection h with _ h; rw [← h]; decide) ⟨_, _, hX9⟩))
                      have HC' := Lib.hid (show Cw B wz cb bb pm bm (.slice A c.l.length cl) vb2 (.agg #[.int .i64 c.inn.a.1, .int .i64 c.inn.a.2.1, .slice A0 An0 Ac0, .int .i64 c.inn.b.1, .int .i64 c.inn.b.2.1, .slice A1 An1 Ac1, .int .i64 c.inn.c.1, .int .i64 c.inn.c.2.1, .slice A2 An2 Ac2, .map m]) { c with b := c.b ++ stmPs c.inn J x.2.1 (n + 1) } by rw [stmPs_succ, HPB.out, ← List.append_assoc]; exact HC9.out.post hnew htz' (fun j hj => hfar j hj))
                      have HV' := Lib.hid ((HVr.out.below HB9.out).turned htz' (fun j hj => HAr.out j (.inr (.inl hj))))
                      have hsz9 := HB9.out.size
                      have hszr := HTr.out.size
                      have HF' := Lib.hid (show ∀ j, vb2.ownBlock = some j → vb.ownBlock = some j ∨ w.heap.size ≤ j from fun j hj => by rcases hfar j hj with h | h; exact HFr.out j h; (right; simp at h; omega))
                      have HA' := Lib.hid (show ∀ j, Cs cb bb pm bm (.slice A c.l.length cl) vb2 j → Av j (.agg #[.int .i64 J.a.1, .int .i64 J.a.2.1, .slice C0 Cn0 Cc0, .int .i64 J.b.1, .int .i64 J.b.2.1, .slice C1 Cn1 Cc1, .int .i64 J.c.1, .int .i64 J.c.2.1, .slice C2 Cn2 Cc2, .map mc]) J from fun j hj => by rcases hj with h | (h | h | h | h) | h; exact HAr.out j (.inl h); exact HAr.out j (.inr (.inl (.inl h))); exact HAr.out j (.inr (.inl (.inr (.inl h)))); exact HAr.out j (.inr (.inl (.inr (.inr (.inl h))))); (rcases hfar j h with h | h; exact HAr.out j (.inr (.inl (.inr (.inr (.inr h))))); exact Av.far HVr.out (by simp at h; omega)); exact HAr.out j (.inr (.inr h)))
                      have HT' := Lib.hid (show Turned (Cs cb bb pm bm (.slice A c.l.length cl) vb) w wz from (HTr.out.trans (Turned.of_below HB9.out)).far (htz'.mono (fun i h => by rcases h with h | h | h | h; exact .inl (.inr (.inl (.inl h))); exact .inl (.inr (.inl (.inr (.inl h)))); exact .inl (.inr (.inl (.inr (.inr (.inl h))))); (rcases HFr.out i h with h | h; exact .inl (.inr (.inl (.inr (.inr (.inr h))))); exact .inr h))))
                      clear hnew htz htz' hfar hbs1 hB9 hX9 m0 m1 m2 m3 m4 y1'
                      go_wp2_with fail
                      go_roundw
                      case rel => exact ⟨n + 1, vb2, by go_num, by omega, HC'.out, HB'.out, HX'.out, HV'.out, HA'.out, HT'.out, HF'.out⟩
                      case measure => simp [intOf]; omega
                    · have HPB := Lib.hid (HP1.out.trans (stm_nil hpos hneg))
                      have HN := Lib.hid (show stmPs c.inn J x.2.1 (n + 1) = stmPs c.inn J x.2.1 n by rw [stmPs_succ, HPB.out, List.append_nil])
                      go_wp2_with fail
                      go_roundw
                      case rel => exact ⟨n + 1, vb', by go_num, by omega, by rw [HN.out]; exact HCr.out.below HB8.out, heap_keep HBr.out HB8.out, heap_keep HXr.out HB8.out, HVr.out.below HB8.out, HAr.out, HTr.out.trans (Turned.of_below HB8.out), HFr.out⟩
                      case measure => simp [intOf]; omega
              · go_simp
                refine hK.out _ _ (HH.out _ (bch HQ2.out (below_alloc v2 _) (Below.size HQ2.out))) (fun hHeld => ?_)
                clear hK K
                try simp only [Act.put, List.getElem_toArray, List.getElem_cons_zero, List.getElem_cons_succ, List.setIfInBounds_toArray, List.set_cons_zero, List.set_cons_succ]
                have HQ7 := Lib.hid (bch HQ2.out (below_alloc v2 (.cells #[.string ⟨#[]⟩, .int .i64 0, .int .i64 0, .int .i64 0, .int .i64 0] tPost)) (Below.size HQ2.out))
                have HZ7 := Lib.hid (show (v2.alloc (.cells #[.string ⟨#[]⟩, .int .i64 0, .int .i64 0, .int .i64 0, .int .i64 0] tPost)).heap[v2.heap.size]? = some (.cells #[.string ⟨#[]⟩, .int .i64 0, .int .i64 0, .int .i64 0, .int .i64 0] tPost (0, 0)) from heap_new _ _)
                have hq7 : wr.heap.size ≤ v2.heap.size := Below.size HQ2.out
                refine wpAnyH_ready (rs := [11]) (by kernel_rfl) (by simp) ?_
                refine AllReadyH.cons rfl (fun K hK => ?_) AllReadyH.nil
                go_simp
                refine (inet_any (v2.alloc (.cells #[.string ⟨#[]⟩, .int .i64 0, .int .i64 0, .int .i64 0, .int .i64 0] tPost)) _ J ((n : Int) + 1) (HVr.out.below HQ7.out) HFJ.out ⟨by omega, by omega⟩).mono ?_
                rintro e v8 ⟨rfl, hbq⟩
                have HQ8 := Lib.hid (bch HQ7.out hbq (Below.size HQ7.out))
                have HZ8 := Lib.hid (heap_keep HZ7.out hbq)
                clear hbq
                refine hK.out _ _ (HH.out _ (HQ8.out)) (fun hHeld => ?_)
                clear hK K
                try simp only [Act.put, List.getElem_toArray, List.getElem_cons_zero, List.getElem_cons_succ, List.setIfInBounds_toArray, List.set_cons_zero, List.set_cons_succ]
                refine wpAnyH_ready (rs := [17]) (by kernel_rfl) (by simp) ?_
                refine AllReadyH.cons rfl (fun K hK => ?_) AllReadyH.nil
                go_simp
                refine (inet_any v8 _ c.inn ((n : Int) + 1) (HCr.out.ii.below HQ8.out) HC0.out.fi ⟨by omega, by omega⟩).mono ?_
                rintro e v9 ⟨rfl, hbq⟩
                have HQ9 := Lib.hid (bch HQ8.out hbq (Below.size HQ8.out))
                have HZ9 := Lib.hid (heap_keep HZ8.out hbq)
                clear hbq
                refine hK.out _ _ (HH.out _ (HQ9.out)) (fun hHeld => ?_)
                clear hK K
                try simp only [Act.put, List.getElem_toArray, List.getElem_cons_zero, List.getElem_cons_succ, List.setIfInBounds_toArray, List.set_cons_zero, List.set_cons_succ]
                refine wpAnyH_take (i := 18) (v := ?vc18_32) rfl (by kernel_rfl) (by kernel_rfl) (by kernel_rfl) (fun _ _ _ h => h) (Or.inl ⟨by rfl, ?hyc18_32⟩) (by assumption) ?restc18_32
                case hyc18_32 => (intro w0 hSw; (try dsimp only at hSw); go_simp; try with_reducible rfl)
                case' restc18_32 => try simp only [Act.put, List.getElem_toArray, List.getElem_cons_zero, List.getElem_cons_succ, List.setIfInBounds_toArray, List.set_cons_zero, List.set_cons_succ]
                refine wpAnyH_take (i := 19) (v := ?vc19_33) rfl (by kernel_rfl) (by kernel_rfl) (by kernel_rfl) (fun _ _ _ h => h) (Or.inl ⟨by rfl, ?hyc19_33⟩) (by assumption) ?restc19_33
                case hyc19_33 => (intro w0 hSw; (try dsimp only at hSw); go_simp; try with_reducible rfl)
                case' restc19_33 => try simp only [Act.put, List.getElem_toArray, List.getElem_cons_zero, List.getElem_cons_succ, List.setIfInBounds_toArray, List.set_cons_zero, List.set_cons_succ]
                obtain ⟨z0, z1, z2, z3, z4⟩ := cell5 HZ9.out
                obtain ⟨f0, f1, f2, f3, f4⟩ := froz5 HZ9.out
                have HTu := Lib.hid (turned_set5 v9 v2.heap.size ((.string (((⟨#[115]⟩ : ByteArray) ++ ⟨(Lib.itoa x.2.1).toArray⟩) ++ ⟨#[45]⟩ ++ ⟨(Lib.itoa ((n : Int) + 1)).toArray⟩))) (.int .i64 ((n : Int) + 1)) (.int .i64 2) (.int .i64 1) (.int .i64 (In.netI J ((n : Int) + 1) - In.netI c.inn ((n : Int) + 1))))
                have HSET := Lib.hid (set5x HZ9.out ((.string (((⟨#[115]⟩ : ByteArray) ++ ⟨(Lib.itoa x.2.1).toArray⟩) ++ ⟨#[45]⟩ ++ ⟨(Lib.itoa ((n : Int) + 1)).toArray⟩))) (.int .i64 ((n : Int) + 1)) (.int .i64 2) (.int .i64 1) (.int .i64 (In.netI J ((n : Int) + 1) - In.netI c.inn ((n : Int) + 1))))
                have HWs := Lib.hid (Below.turned HQ9.out HTu.out (fun i hi => by rw [hi]; exact hq7) (Below.size HQ9.out))
                refine wpAnyH_ready (rs := [21]) (by kernel_rfl) (by simp) ?_
                refine AllReadyH.cons rfl (fun K hK => ?_) AllReadyH.nil
                go_simp
                refine hK.out _ _ (HH.out _ (HWs.out)) (fun hHeld => ?_)
                clear hK K
                try simp only [Act.put, List.getElem_toArray, List.getElem_cons_zero, List.getElem_cons_succ, List.setIfInBounds_toArray, List.set_cons_zero, List.set_cons_succ]
                refine wpAnyH_done (by kernel_rfl) ?_ _
                refine NoPanic.normal ?_
                simp only [sid_join] at HSET HWs ⊢
                obtain ⟨by_, hby⟩ : ∃ b, In.netI J ((n : Int) + 1) - In.netI c.inn ((n : Int) + 1) = b := ⟨_, rfl⟩
                rw [hby] at HP1 HSET HWs ⊢
                have hbyb : -2199023255552 ≤ by_ ∧ by_ ≤ 2199023255552 := by omega
                generalize hw8 : (((((v9.setCell ⟨v2.heap.size, 0, none⟩ (.string ⟨(sidL x.2.1 ((n : Int) + 1)).toArray⟩)).setCell ⟨v2.heap.size, 1, none⟩ (.int .i64 ((n : Int) + 1))).setCell ⟨v2.heap.size, 2, none⟩ (.int .i64 2)).setCell ⟨v2.heap.size, 3, none⟩ (.int .i64 1)).setCell ⟨v2.heap.size, 4, none⟩ (.int .i64 by_)) = w8 at HSET HWs ⊢
                have HB8 := Lib.hid HWs.out
                have HP8 := Lib.hid HSET.out
                obtain ⟨b8, hb8e, hb8⟩ : ∃ b8, v2.heap.size = b8 ∧ wr.heap.size ≤ b8 := ⟨_, rfl, hq7⟩
                rw [hb8e] at HP8 ⊢
                clear hw8 hb8e HTu HSET HWs z0 z1 z2 z3 z4 f0 f1 f2 f3 f4
                clear y0 y1 y2 y3 y4 y5 y6 y7 y8 y9 y10 y11 k0 k1 k2 i0 i1 i2 i3 i4 i5 i6 i7 i8 i9 hHeld HH
                obtain ⟨m0, m1, m2, m3, m4⟩ := cell5 HP8.out
                obtain ⟨f0, f1, f2, f3, f4⟩ := froz5 HP8.out
                have hwn : IntKind.i64.wrap (-by_) = -by_ := IntWalk.i64_in _ (by omega)
                by_cases hneg : by_ < 0
                · have hpos' : 0 < -by_ := by omega
                  go_upto_region 10 with (fail)
                  obtain ⟨w9, hw9⟩ : ∃ w9, w9 = ((w8.setCell ⟨b8, 2, none⟩ (.int .i64 1)).setCell ⟨b8, 3, none⟩ (.int .i64 2)).setCell ⟨b8, 4, none⟩ (.int .i64 (-by_)) := ⟨_, rfl⟩
                  rw [← hw9]
                  have ht9 : Turned (fun j => j = b8) w8 w9 := by rw [hw9]; exact ((turned_set _ _ _ _).trans (turned_set _ _ _ _)).trans (turned_set _ _ _ _)
                  have HP9 := Lib.hid (show w9.heap[b8]? = some (.cells #[.string ⟨(sidL x.2.1 ((n : Int) + 1)).toArray⟩, .int .i64 ((n : Int) + 1), .int .i64 1, .int .i64 2, .int .i64 (-by_)] tPost (0, 0)) by rw [hw9]; exact set5_345 HP8.out _ _ _)
                  have HB9 := Lib.hid (Below.turned HB8.out ht9 (fun i h => by omega) HB8.out.size)
                  clear hw9 ht9 m0 m1 m2 m3 m4 f0 f1 f2 f3 f4
                  have HPB := Lib.hid (HP1.out.trans (stm_neg hneg))
                  have hm := HMP.out _ (stm_mem hn60 HPB.out)
                  have hf := stm_fresh HND.out hn60 HPB.out
                  have HM := Lib.hid hm; have HF := Lib.hid hf
                  clear hm hf
                  have HC9 := Lib.hid (HCr.out.below HB9.out)
                  have y1' := HC9.out.c01.2
                  obtain ⟨m0, m1, m2, m3, m4⟩ := cell5 HP9.out
                  go_wp2_with fail
                  refine wp_region_still_tail 5 (by kernel_rfl) (by kernel_rfl) ?_
                  simp only [List.take_succ_cons, List.take_zero, List.drop_succ_cons, List.drop_zero]
                  iterate 5 still_step
                  refine wpStill_nil ?_
                  change wpList _ _ _ _ _ w9.drew
                  go_wp2_with fail
                  refine (bpost_any (HC9.out.bk.below (below_drew1 (Below.refl _ w9))) ⟨sidL x.2.1 ((n : Int) + 1), (n : Int) + 1, 1, 2, -by_⟩ HM.out HF.out (by have := stmPs_len c.inn J x.2.1 n; rw [List.length_append]; omega)).mono ?_
                  rintro e wz ⟨vb2, rfl, hnew, htz, hfar⟩
                  have htz' : Turned (Bs bb pm bm vb') w9 wz := (Turned.refl _ w9).drew.trans htz
                  have hbs1 : ∀ j, w.heap.size ≤ j → (∀ cs T, w9.heap[j]? = some (.cells cs T (0, 0)) → T ≠ tPost) → (∃ cs T, w9.heap[j]? = some (.cells cs T (0, 0))) → ¬ Bs bb pm bm vb' j := fun j hj h1 ⟨cs, T, h2⟩ hs => by have := HC0.out.bk.lt; rcases hs with e | e | e | e; omega; omega; omega; exact own_apartT HC9.out.bk.ob h2 (h1 _ _ h2) e
                  have hB9 := heap_keep HBr.out HB9.out
                  have hX9 := heap_keep HXr.out HB9.out
                  have HB' := Lib.hid (heap_turned hB9 htz' (hbs1 b5 (by omega) (fun cs T h => by rw [hB9] at h; injection h with h; injection h with _ h; rw [← h]; decide) ⟨_, _, hB9⟩))
                  have HX' := Lib.hid (heap_turned hX9 htz' (hbs1 _ (Nat.le_refl _) (fun cs T h => by rw [hX9] at h; injection h with h; injection h with _ h; rw [← h]; decide) ⟨_, _, hX9⟩))
                  have HC' := Lib.hid (show Cw B wz cb bb pm bm (.slice A c.l.length cl) vb2 (.agg #[.int .i64 c.inn.a.1, .int .i64 c.inn.a.2.1, .slice A0 An0 Ac0, .int .i64 c.inn.b.1, .int .i64 c.inn.b.2.1, .slice A1 An1 Ac1, .int .i64 c.inn.c.1, .int .i64 c.inn.c.2.1, .slice A2 An2 Ac2, .map m]) { c with b := c.b ++ stmPs c.inn J x.2.1 (n + 1) } by rw [stmPs_succ, HPB.out, ← List.append_assoc]; exact HC9.out.post hnew htz' (fun j hj => hfar j hj))
                  have HV' := Lib.hid ((HVr.out.below HB9.out).turned htz' (fun j hj => HAr.out j (.inr (.inl hj))))
                  have hsz9 := HB9.out.size
                  have hszr := HTr.out.size
                  have HF' := Lib.hid (show ∀ j, vb2.ownBlock = some j → vb.ownBlock = some j ∨ w.heap.size ≤ j from fun j hj => by rcases hfar j hj with h | h; exact HFr.out j h; (right; simp at h; omega))
                  have HA' := Lib.hid (show ∀ j, Cs cb bb pm bm (.slice A c.l.length cl) vb2 j → Av j (.agg #[.int .i64 J.a.1, .int .i64 J.a.2.1, .slice C0 Cn0 Cc0, .int .i64 J.b.1, .int .i64 J.b.2.1, .slice C1 Cn1 Cc1, .int .i64 J.c.1, .int .i64 J.c.2.1, .slice C2 Cn2 Cc2, .map mc]) J from fun j hj => by rcases hj with h | (h | h | h | h) | h; exact HAr.out j (.inl h); exact HAr.out j (.inr (.inl (.inl h))); exact HAr.out j (.inr (.inl (.inr (.inl h)))); exact HAr.out j (.inr (.inl (.inr (.inr (.inl h))))); (rcases hfar j h with h | h; exact HAr.out j (.inr (.inl (.inr (.inr (.inr h))))); exact Av.far HVr.out (by simp at h; omega)); exact HAr.out j (.inr (.inr h)))
                  have HT' := Lib.hid (show Turned (Cs cb bb pm bm (.slice A c.l.length cl) vb) w wz from (HTr.out.trans (Turned.of_below HB9.out)).far (htz'.mono (fun i h => by rcases h with h | h | h | h; exact .inl (.inr (.inl (.inl h))); exact .inl (.inr (.inl (.inr (.inl h)))); exact .inl (.inr (.inl (.inr (.inr (.inl h))))); (rcases HFr.out i h with h | h; exact .inl (.inr (.inl (.inr (.inr (.inr h))))); exact .inr h))))
                  clear hnew htz htz' hfar hbs1 hB9 hX9 m0 m1 m2 m3 m4 y1'
                  go_wp2_with fail
                  go_roundw
                  case rel => exact ⟨n + 1, vb2, by go_num, by omega, HC'.out, HB'.out, HX'.out, HV'.out, HA'.out, HT'.out, HF'.out⟩
                  case measure => simp [intOf]; omega
                · by_cases hpos : 0 < by_
                  · have HP9 := Lib.hid HP8.out; have HB9 := Lib.hid HB8.out
                    have HPB := Lib.hid (HP1.out.trans (stm_pos hpos))
                    have hm := HMP.out _ (stm_mem hn60 HPB.out)
                    have hf := stm_fresh HND.out hn60 HPB.out
                    have HM := Lib.hid hm; have HF := Lib.hid hf
                    clear hm hf
                    have HC9 := Lib.hid (HCr.out.below HB9.out)
                    have y1' := HC9.out.c01.2
                    obtain ⟨m0, m1, m2, m3, m4⟩ := cell5 HP9.out
                    go_wp2_with fail
                    refine wp_region_still_tail 5 (by kernel_rfl) (by kernel_rfl) ?_
                    simp only [List.take_succ_cons, List.take_zero, List.drop_succ_cons, List.drop_zero]
                    iterate 5 still_step
                    refine wpStill_nil ?_
                    change wpList _ _ _ _ _ w8.drew
                    go_wp2_with fail
                    refine (bpost_any (HC9.out.bk.below (below_drew1 (Below.refl _ w8))) ⟨sidL x.2.1 ((n : Int) + 1), (n : Int) + 1, 2, 1, by_⟩ HM.out HF.out (by have := stmPs_len c.inn J x.2.1 n; rw [List.length_append]; omega)).mono ?_
                    rintro e wz ⟨vb2, rfl, hnew, htz, hfar⟩
                    have htz' : Turned (Bs bb pm bm vb') w8 wz := (Turned.refl _ w8).drew.trans htz
                    have hbs1 : ∀ j, w.heap.size ≤ j → (∀ cs T, w8.heap[j]? = some (.cells cs T (0, 0)) → T ≠ tPost) → (∃ cs T, w8.heap[j]? = some (.cells cs T (0, 0))) → ¬ Bs bb pm bm vb' j := fun j hj h1 ⟨cs, T, h2⟩ hs => by have := HC0.out.bk.lt; rcases hs with e | e | e | e; omega; omega; omega; exact own_apartT HC9.out.bk.ob h2 (h1 _ _ h2) e
                    have hB9 := heap_keep HBr.out HB9.out
                    have hX9 := heap_keep HXr.out HB9.out
                    have HB' := Lib.hid (heap_turned hB9 htz' (hbs1 b5 (by omega) (fun cs T h => by rw [hB9] at h; injection h with h; injection h with _ h; rw [← h]; decide) ⟨_, _, hB9⟩))
                    have HX' := Lib.hid (heap_turned hX9 htz' (hbs1 _ (Nat.le_refl _) (fun cs T h => by rw [hX9] at h; injection h with h; injection h with _ h; rw [← h]; decide) ⟨_, _, hX9⟩))
                    have HC' := Lib.hid (show Cw B wz cb bb pm bm (.slice A c.l.length cl) vb2 (.agg #[.int .i64 c.inn.a.1, .int .i64 c.inn.a.2.1, .slice A0 An0 Ac0, .int .i64 c.inn.b.1, .int .i64 c.inn.b.2.1, .slice A1 An1 Ac1, .int .i64 c.inn.c.1, .int .i64 c.inn.c.2.1, .slice A2 An2 Ac2, .map m]) { c with b := c.b ++ stmPs c.inn J x.2.1 (n + 1) } by rw [stmPs_succ, HPB.out, ← List.append_assoc]; exact HC9.out.post hnew htz' (fun j hj => hfar j hj))
                    have HV' := Lib.hid ((HVr.out.below HB9.out).turned htz' (fun j hj => HAr.out j (.inr (.inl hj))))
                    have hsz9 := HB9.out.size
                    have hszr := HTr.out.size
                    have HF' := Lib.hid (show ∀ j, vb2.ownBlock = some j → vb.ownBlock = some j ∨ w.heap.size ≤ j from fun j hj => by rcases hfar j hj with h | h; exact HFr.out j h; (right; simp at h; omega))
                    have HA' := Lib.hid (show ∀ j, Cs cb bb pm bm (.slice A c.l.length cl) vb2 j → Av j (.agg #[.int .i64 J.a.1, .int .i64 J.a.2.1, .slice C0 Cn0 Cc0, .int .i64 J.b.1, .int .i64 J.b.2.1, .slice C1 Cn1 Cc1, .int .i64 J.c.1, .int .i64 J.c.2.1, .slice C2 Cn2 Cc2, .map mc]) J from fun j hj => by rcases hj with h | (h | h | h | h) | h; exact HAr.out j (.inl h); exact HAr.out j (.inr (.inl (.inl h))); exact HAr.out j (.inr (.inl (.inr (.inl h)))); exact HAr.out j (.inr (.inl (.inr (.inr (.inl h))))); (rcases hfar j h with h | h; exact HAr.out j (.inr (.inl (.inr (.inr (.inr h))))); exact Av.far HVr.out (by simp at h; omega)); exact HAr.out j (.inr (.inr h)))
                    have HT' := Lib.hid (show Turned (Cs cb bb pm bm (.slice A c.l.length cl) vb) w wz from (HTr.out.trans (Turned.of_below HB9.out)).far (htz'.mono (fun i h => by rcases h with h | h | h | h; exact .inl (.inr (.inl (.inl h))); exact .inl (.inr (.inl (.inr (.inl h)))); exact .inl (.inr (.inl (.inr (.inr (.inl h))))); (rcases HFr.out i h with h | h; exact .inl (.inr (.inl (.inr (.inr (.inr h))))); exact .inr h))))
                    clear hnew htz htz' hfar hbs1 hB9 hX9 m0 m1 m2 m3 m4 y1'
                    go_wp2_with fail
                    go_roundw
                    case rel => exact ⟨n + 1, vb2, by go_num, by omega, HC'.out, HB'.out, HX'.out, HV'.out, HA'.out, HT'.out, HF'.out⟩
                    case measure => simp [intOf]; omega
                  · have HPB := Lib.hid (HP1.out.trans (stm_nil hpos hneg))
                    have HN := Lib.hid (show stmPs c.inn J x.2.1 (n + 1) = stmPs c.inn J x.2.1 n by rw [stmPs_succ, HPB.out, List.append_nil])
                    go_wp2_with fail
                    go_roundw
                    case rel => exact ⟨n + 1, vb', by go_num, by omega, by rw [HN.out]; exact HCr.out.below HB8.out, heap_keep HBr.out HB8.out, heap_keep HXr.out HB8.out, HVr.out.below HB8.out, HAr.out, HTr.out.trans (Turned.of_below HB8.out), HFr.out⟩
                    case measure => simp [intOf]; omega
            · go_simp
              refine hK.out _ _ (HH.out _ (bch HQ1.out (below_alloc vv1 _) (Below.size HQ1.out))) (fun hHeld => ?_)
              clear hK K
              try simp only [Act.put, List.getElem_toArray, List.getElem_cons_zero, List.getElem_cons_succ, List.setIfInBounds_toArray, List.set_cons_zero, List.set_cons_succ]
              have HQ10 := Lib.hid (bch HQ1.out (below_alloc vv1 (.cells #[.string ⟨#[]⟩, .int .i64 0, .int .i64 0, .int .i64 0, .int .i64 0] tPost)) (Below.size HQ1.out))
              have HZ10 := Lib.hid (show (vv1.alloc (.cells #[.string ⟨#[]⟩, .int .i64 0, .int .i64 0, .int .i64 0, .int .i64 0] tPost)).heap[vv1.heap.size]? = some (.cells #[.string ⟨#[]⟩, .int .i64 0, .int .i64 0, .int .i64 0, .int .i64 0] tPost (0, 0)) from heap_new _ _)
              have hq10 : wr.heap.size ≤ vv1.heap.size := Below.size HQ1.out
              refine wpAnyH_ready (rs := [6]) (by kernel_rfl) (by simp) ?_
              refine AllReadyH.cons rfl (fun K hK => ?_) AllReadyH.nil
              go_simp
              refine (HITO.out ((n : Int) + 1) (vv1.alloc (.cells #[.string ⟨#[]⟩, .int .i64 0, .int .i64 0, .int .i64 0, .int .i64 0] tPost)) (by omega) (by omega) (bch HBB.out HQ10.out hBr)).mono ?_
              rintro e v11 ⟨rfl, hbq⟩
              have HQ11 := Lib.hid (bch HQ10.out hbq (Below.size HQ10.out))
              have HZ11 := Lib.hid (heap_keep HZ10.out hbq)
              clear hbq
              refine hK.out _ _ (HH.out _ (HQ11.out)) (fun hHeld => ?_)
              clear hK K
              try simp only [Act.put, List.getElem_toArray, List.getElem_cons_zero, List.getElem_cons_succ, List.setIfInBounds_toArray, List.set_cons_zero, List.set_cons_succ]
              refine wpAnyH_take (i := 7) (v := ?vc7_34) rfl (by kernel_rfl) (by kernel_rfl) (by kernel_rfl) (fun _ _ _ h => h) (Or.inl ⟨by rfl, ?hyc7_34⟩) (by assumption) ?restc7_34
              case hyc7_34 => (intro w0 hSw; (try dsimp only at hSw); go_simp; rw [if_neg (by first | omega | (simp; omega))]; try rfl)
              case' restc7_34 => try simp only [Act.put, List.getElem_toArray, List.getElem_cons_zero, List.getElem_cons_succ, List.setIfInBounds_toArray, List.set_cons_zero, List.set_cons_succ]
              refine wpAnyH_ready (rs := [11]) (by kernel_rfl) (by simp) ?_
              refine AllReadyH.cons rfl (fun K hK => ?_) AllReadyH.nil
              go_simp
              refine (inet_any v11 _ J ((n : Int) + 1) (HVr.out.below HQ11.out) HFJ.out ⟨by omega, by omega⟩).mono ?_
              rintro e v12 ⟨rfl, hbq⟩
              have HQ12 := Lib.hid (bch HQ11.out hbq (Below.size HQ11.out))
              have HZ12 := Lib.hid (heap_keep HZ11.out hbq)
              clear hbq
              refine hK.out _ _ (HH.out _ (HQ12.out)) (fun hHeld => ?_)
              clear hK K
              try simp only [Act.put, List.getElem_toArray, List.getElem_cons_zero, List.getElem_cons_succ, List.setIfInBounds_toArray, List.set_cons_zero, List.set_cons_succ]
              refine wpAnyH_ready (rs := [17]) (by kernel_rfl) (by simp) ?_
              refine AllReadyH.cons rfl (fun K hK => ?_) AllReadyH.nil
              go_simp
              refine (inet_any v12 _ c.inn ((n : Int) + 1) (HCr.out.ii.below HQ12.out) HC0.out.fi ⟨by omega, by omega⟩).mono ?_
              rintro e v13 ⟨rfl, hbq⟩
              have HQ13 := Lib.hid (bch HQ12.out hbq (Below.size HQ12.out))
              have HZ13 := Lib.hid (heap_keep HZ12.out hbq)
              clear hbq
              refine hK.out _ _ (HH.out _ (HQ13.out)) (fun hHeld => ?_)
              clear hK K
              try simp only [Act.put, List.getElem_toArray, List.getElem_cons_zero, List.getElem_cons_succ, List.setIfInBounds_toArray, List.set_cons_zero, List.set_cons_succ]
              refine wpAnyH_take (i := 18) (v := ?vc18_35) rfl (by kernel_rfl) (by kernel_rfl) (by kernel_rfl) (fun _ _ _ h => h) (Or.inl ⟨by rfl, ?hyc18_35⟩) (by assumption) ?restc18_35
              case hyc18_35 => (intro w0 hSw; (try dsimp only at hSw); go_simp; try with_reducible rfl)
              case' restc18_35 => try simp only [Act.put, List.getElem_toArray, List.getElem_cons_zero, List.getElem_cons_succ, List.setIfInBounds_toArray, List.set_cons_zero, List.set_cons_succ]
              refine wpAnyH_take (i := 19) (v := ?vc19_36) rfl (by kernel_rfl) (by kernel_rfl) (by kernel_rfl) (fun _ _ _ h => h) (Or.inl ⟨by rfl, ?hyc19_36⟩) (by assumption) ?restc19_36
              case hyc19_36 => (intro w0 hSw; (try dsimp only at hSw); go_simp; try with_reducible rfl)
              case' restc19_36 => try simp only [Act.put, List.getElem_toArray, List.getElem_cons_zero, List.getElem_cons_succ, List.setIfInBounds_toArray, List.set_cons_zero, List.set_cons_succ]
              obtain ⟨z0, z1, z2, z3, z4⟩ := cell5 HZ13.out
              obtain ⟨f0, f1, f2, f3, f4⟩ := froz5 HZ13.out
              have HTu := Lib.hid (turned_set5 v13 vv1.heap.size ((.string (((⟨#[115]⟩ : ByteArray) ++ ⟨(Lib.itoa x.2.1).toArray⟩) ++ ⟨#[45]⟩ ++ ⟨(Lib.itoa ((n : Int) + 1)).toArray⟩))) (.int .i64 ((n : Int) + 1)) (.int .i64 2) (.int .i64 1) (.int .i64 (In.netI J ((n : Int) + 1) - In.netI c.inn ((n : Int) + 1))))
              have HSET := Lib.hid (set5x HZ13.out ((.string (((⟨#[115]⟩ : ByteArray) ++ ⟨(Lib.itoa x.2.1).toArray⟩) ++ ⟨#[45]⟩ ++ ⟨(Lib.itoa ((n : Int) + 1)).toArray⟩))) (.int .i64 ((n : Int) + 1)) (.int .i64 2) (.int .i64 1) (.int .i64 (In.netI J ((n : Int) + 1) - In.netI c.inn ((n : Int) + 1))))
              have HWs := Lib.hid (Below.turned HQ13.out HTu.out (fun i hi => by rw [hi]; exact hq10) (Below.size HQ13.out))
              refine wpAnyH_ready (rs := [21]) (by kernel_rfl) (by simp) ?_
              refine AllReadyH.cons rfl (fun K hK => ?_) AllReadyH.nil
              go_simp
              refine hK.out _ _ (HH.out _ (HWs.out)) (fun hHeld => ?_)
              clear hK K
              try simp only [Act.put, List.getElem_toArray, List.getElem_cons_zero, List.getElem_cons_succ, List.setIfInBounds_toArray, List.set_cons_zero, List.set_cons_succ]
              refine wpAnyH_done (by kernel_rfl) ?_ _
              refine NoPanic.normal ?_
              simp only [sid_join] at HSET HWs ⊢
              obtain ⟨by_, hby⟩ : ∃ b, In.netI J ((n : Int) + 1) - In.netI c.inn ((n : Int) + 1) = b := ⟨_, rfl⟩
              rw [hby] at HP1 HSET HWs ⊢
              have hbyb : -2199023255552 ≤ by_ ∧ by_ ≤ 2199023255552 := by omega
              generalize hw8 : (((((v13.setCell ⟨vv1.heap.size, 0, none⟩ (.string ⟨(sidL x.2.1 ((n : Int) + 1)).toArray⟩)).setCell ⟨vv1.heap.size, 1, none⟩ (.int .i64 ((n : Int) + 1))).setCell ⟨vv1.heap.size, 2, none⟩ (.int .i64 2)).setCell ⟨vv1.heap.size, 3, none⟩ (.int .i64 1)).setCell ⟨vv1.heap.size, 4, none⟩ (.int .i64 by_)) = w8 at HSET HWs ⊢
              have HB8 := Lib.hid HWs.out
              have HP8 := Lib.hid HSET.out
              obtain ⟨b8, hb8e, hb8⟩ : ∃ b8, vv1.heap.size = b8 ∧ wr.heap.size ≤ b8 := ⟨_, rfl, hq10⟩
              rw [hb8e] at HP8 ⊢
              clear hw8 hb8e HTu HSET HWs z0 z1 z2 z3 z4 f0 f1 f2 f3 f4
              clear y0 y1 y2 y3 y4 y5 y6 y7 y8 y9 y10 y11 k0 k1 k2 i0 i1 i2 i3 i4 i5 i6 i7 i8 i9 hHeld HH
              obtain ⟨m0, m1, m2, m3, m4⟩ := cell5 HP8.out
              obtain ⟨f0, f1, f2, f3, f4⟩ := froz5 HP8.out
              have hwn : IntKind.i64.wrap (-by_) = -by_ := IntWalk.i64_in _ (by omega)
              by_cases hneg : by_ < 0
              · have hpos' : 0 < -by_ := by omega
                go_upto_region 10 with (fail)
                obtain ⟨w9, hw9⟩ : ∃ w9, w9 = ((w8.setCell ⟨b8, 2, none⟩ (.int .i64 1)).setCell ⟨b8, 3, none⟩ (.int .i64 2)).setCell ⟨b8, 4, none⟩ (.int .i64 (-by_)) := ⟨_, rfl⟩
                rw [← hw9]
                have ht9 : Turned (fun j => j = b8) w8 w9 := by rw [hw9]; exact ((turned_set _ _ _ _).trans (turned_set _ _ _ _)).trans (turned_set _ _ _ _)
                have HP9 := Lib.hid (show w9.heap[b8]? = some (.cells #[.string ⟨(sidL x.2.1 ((n : Int) + 1)).toArray⟩, .int .i64 ((n : Int) + 1), .int .i64 1, .int .i64 2, .int .i64 (-by_)] tPost (0, 0)) by rw [hw9]; exact set5_345 HP8.out _ _ _)
                have HB9 := Lib.hid (Below.turned HB8.out ht9 (fun i h => by omega) HB8.out.size)
                clear hw9 ht9 m0 m1 m2 m3 m4 f0 f1 f2 f3 f4
                have HPB := Lib.hid (HP1.out.trans (stm_neg hneg))
                have hm := HMP.out _ (stm_mem hn60 HPB.out)
                have hf := stm_fresh HND.out hn60 HPB.out
                have HM := Lib.hid hm; have HF := Lib.hid hf
                clear hm hf
                have HC9 := Lib.hid (HCr.out.below HB9.out)
                have y1' := HC9.out.c01.2
                obtain ⟨m0, m1, m2, m3, m4⟩ := cell5 HP9.out
                go_wp2_with fail
                refine wp_region_still_tail 5 (by kernel_rfl) (by kernel_rfl) ?_
                simp only [List.take_succ_cons, List.take_zero, List.drop_succ_cons, List.drop_zero]
                iterate 5 still_step
                refine wpStill_nil ?_
                change wpList _ _ _ _ _ w9.drew
                go_wp2_with fail
                refine (bpost_any (HC9.out.bk.below (below_drew1 (Below.refl _ w9))) ⟨sidL x.2.1 ((n : Int) + 1), (n : Int) + 1, 1, 2, -by_⟩ HM.out HF.out (by have := stmPs_len c.inn J x.2.1 n; rw [List.length_append]; omega)).mono ?_
                rintro e wz ⟨vb2, rfl, hnew, htz, hfar⟩
                have htz' : Turned (Bs bb pm bm vb') w9 wz := (Turned.refl _ w9).drew.trans htz
                have hbs1 : ∀ j, w.heap.size ≤ j → (∀ cs T, w9.heap[j]? = some (.cells cs T (0, 0)) → T ≠ tPost) → (∃ cs T, w9.heap[j]? = some (.cells cs T (0, 0))) → ¬ Bs bb pm bm vb' j := fun j hj h1 ⟨cs, T, h2⟩ hs => by have := HC0.out.bk.lt; rcases hs with e | e | e | e; omega; omega; omega; exact own_apartT HC9.out.bk.ob h2 (h1 _ _ h2) e
                have hB9 := heap_keep HBr.out HB9.out
                have hX9 := heap_keep HXr.out HB9.out
                have HB' := Lib.hid (heap_turned hB9 htz' (hbs1 b5 (by omega) (fun cs T h => by rw [hB9] at h; injection h with h; injection h with _ h; rw [← h]; decide) ⟨_, _, hB9⟩))
                have HX' := Lib.hid (heap_turned hX9 htz' (hbs1 _ (Nat.le_refl _) (fun cs T h => by rw [hX9] at h; injection h with h; injection h with _ h; rw [← h]; decide) ⟨_, _, hX9⟩))
                have HC' := Lib.hid (show Cw B wz cb bb pm bm (.slice A c.l.length cl) vb2 (.agg #[.int .i64 c.inn.a.1, .int .i64 c.inn.a.2.1, .slice A0 An0 Ac0, .int .i64 c.inn.b.1, .int .i64 c.inn.b.2.1, .slice A1 An1 Ac1, .int .i64 c.inn.c.1, .int .i64 c.inn.c.2.1, .slice A2 An2 Ac2, .map m]) { c with b := c.b ++ stmPs c.inn J x.2.1 (n + 1) } by rw [stmPs_succ, HPB.out, ← List.append_assoc]; exact HC9.out.post hnew htz' (fun j hj => hfar j hj))
                have HV' := Lib.hid ((HVr.out.below HB9.out).turned htz' (fun j hj => HAr.out j (.inr (.inl hj))))
                have hsz9 := HB9.out.size
                have hszr := HTr.out.size
                have HF' := Lib.hid (show ∀ j, vb2.ownBlock = some j → vb.ownBlock = some j ∨ w.heap.size ≤ j from fun j hj => by rcases hfar j hj with h | h; exact HFr.out j h; (right; simp at h; omega))
                have HA' := Lib.hid (show ∀ j, Cs cb bb pm bm (.slice A c.l.length cl) vb2 j → Av j (.agg #[.int .i64 J.a.1, .int .i64 J.a.2.1, .slice C0 Cn0 Cc0, .int .i64 J.b.1, .int .i64 J.b.2.1, .slice C1 Cn1 Cc1, .int .i64 J.c.1, .int .i64 J.c.2.1, .slice C2 Cn2 Cc2, .map mc]) J from fun j hj => by rcases hj with h | (h | h | h | h) | h; exact HAr.out j (.inl h); exact HAr.out j (.inr (.inl (.inl h))); exact HAr.out j (.inr (.inl (.inr (.inl h)))); exact HAr.out j (.inr (.inl (.inr (.inr (.inl h))))); (rcases hfar j h with h | h; exact HAr.out j (.inr (.inl (.inr (.inr (.inr h))))); exact Av.far HVr.out (by simp at h; omega)); exact HAr.out j (.inr (.inr h)))
                have HT' := Lib.hid (show Turned (Cs cb bb pm bm (.slice A c.l.length cl) vb) w wz from (HTr.out.trans (Turned.of_below HB9.out)).far (htz'.mono (fun i h => by rcases h with h | h | h | h; exact .inl (.inr (.inl (.inl h))); exact .inl (.inr (.inl (.inr (.inl h)))); exact .inl (.inr (.inl (.inr (.inr (.inl h))))); (rcases HFr.out i h with h | h; exact .inl (.inr (.inl (.inr (.inr (.inr h))))); exact .inr h))))
                clear hnew htz htz' hfar hbs1 hB9 hX9 m0 m1 m2 m3 m4 y1'
                go_wp2_with fail
                go_roundw
                case rel => exact ⟨n + 1, vb2, by go_num, by omega, HC'.out, HB'.out, HX'.out, HV'.out, HA'.out, HT'.out, HF'.out⟩
                case measure => simp [intOf]; omega
              · by_cases hpos : 0 < by_
                · have HP9 := Lib.hid HP8.out; have HB9 := Lib.hid HB8.out
                  have HPB := Lib.hid (HP1.out.trans (stm_pos hpos))
                  have hm := HMP.out _ (stm_mem hn60 HPB.out)
                  have hf := stm_fresh HND.out hn60 HPB.out
                  have HM := Lib.hid hm; have HF := Lib.hid hf
                  clear hm hf
                  have HC9 := Lib.hid (HCr.out.below HB9.out)
                  have y1' := HC9.out.c01.2
                  obtain ⟨m0, m1, m2, m3, m4⟩ := cell5 HP9.out
                  go_wp2_with fail
                  refine wp_region_still_tail 5 (by kernel_rfl) (by kernel_rfl) ?_
                  simp only [List.take_succ_cons, List.take_zero, List.drop_succ_cons, List.drop_zero]
                  iterate 5 still_step
                  refine wpStill_nil ?_
                  change wpList _ _ _ _ _ w8.drew
                  go_wp2_with fail
                  refine (bpost_any (HC9.out.bk.below (below_drew1 (Below.refl _ w8))) ⟨sidL x.2.1 ((n : Int) + 1), (n : Int) + 1, 2, 1, by_⟩ HM.out HF.out (by have := stmPs_len c.inn J x.2.1 n; rw [List.length_append]; omega)).mono ?_
                  rintro e wz ⟨vb2, rfl, hnew, htz, hfar⟩
                  have htz' : Turned (Bs bb pm bm vb') w8 wz := (Turned.refl _ w8).drew.trans htz
                  have hbs1 : ∀ j, w.heap.size ≤ j → (∀ cs T, w8.heap[j]? = some (.cells cs T (0, 0)) → T ≠ tPost) → (∃ cs T, w8.heap[j]? = some (.cells cs T (0, 0))) → ¬ Bs bb pm bm vb' j := fun j hj h1 ⟨cs, T, h2⟩ hs => by have := HC0.out.bk.lt; rcases hs with e | e | e | e; omega; omega; omega; exact own_apartT HC9.out.bk.ob h2 (h1 _ _ h2) e
                  have hB9 := heap_keep HBr.out HB9.out
                  have hX9 := heap_keep HXr.out HB9.out
                  have HB' := Lib.hid (heap_turned hB9 htz' (hbs1 b5 (by omega) (fun cs T h => by rw [hB9] at h; injection h with h; injection h with _ h; rw [← h]; decide) ⟨_, _, hB9⟩))
                  have HX' := Lib.hid (heap_turned hX9 htz' (hbs1 _ (Nat.le_refl _) (fun cs T h => by rw [hX9] at h; injection h with h; injection h with _ h; rw [← h]; decide) ⟨_, _, hX9⟩))
                  have HC' := Lib.hid (show Cw B wz cb bb pm bm (.slice A c.l.length cl) vb2 (.agg #[.int .i64 c.inn.a.1, .int .i64 c.inn.a.2.1, .slice A0 An0 Ac0, .int .i64 c.inn.b.1, .int .i64 c.inn.b.2.1, .slice A1 An1 Ac1, .int .i64 c.inn.c.1, .int .i64 c.inn.c.2.1, .slice A2 An2 Ac2, .map m]) { c with b := c.b ++ stmPs c.inn J x.2.1 (n + 1) } by rw [stmPs_succ, HPB.out, ← List.append_assoc]; exact HC9.out.post hnew htz' (fun j hj => hfar j hj))
                  have HV' := Lib.hid ((HVr.out.below HB9.out).turned htz' (fun j hj => HAr.out j (.inr (.inl hj))))
                  have hsz9 := HB9.out.size
                  have hszr := HTr.out.size
                  have HF' := Lib.hid (show ∀ j, vb2.ownBlock = some j → vb.ownBlock = some j ∨ w.heap.size ≤ j from fun j hj => by rcases hfar j hj with h | h; exact HFr.out j h; (right; simp at h; omega))
                  have HA' := Lib.hid (show ∀ j, Cs cb bb pm bm (.slice A c.l.length cl) vb2 j → Av j (.agg #[.int .i64 J.a.1, .int .i64 J.a.2.1, .slice C0 Cn0 Cc0, .int .i64 J.b.1, .int .i64 J.b.2.1, .slice C1 Cn1 Cc1, .int .i64 J.c.1, .int .i64 J.c.2.1, .slice C2 Cn2 Cc2, .map mc]) J from fun j hj => by rcases hj with h | (h | h | h | h) | h; exact HAr.out j (.inl h); exact HAr.out j (.inr (.inl (.inl h))); exact HAr.out j (.inr (.inl (.inr (.inl h)))); exact HAr.out j (.inr (.inl (.inr (.inr (.inl h))))); (rcases hfar j h with h | h; exact HAr.out j (.inr (.inl (.inr (.inr (.inr h))))); exact Av.far HVr.out (by simp at h; omega)); exact HAr.out j (.inr (.inr h)))
                  have HT' := Lib.hid (show Turned (Cs cb bb pm bm (.slice A c.l.length cl) vb) w wz from (HTr.out.trans (Turned.of_below HB9.out)).far (htz'.mono (fun i h => by rcases h with h | h | h | h; exact .inl (.inr (.inl (.inl h))); exact .inl (.inr (.inl (.inr (.inl h)))); exact .inl (.inr (.inl (.inr (.inr (.inl h))))); (rcases HFr.out i h with h | h; exact .inl (.inr (.inl (.inr (.inr (.inr h))))); exact .inr h))))
                  clear hnew htz htz' hfar hbs1 hB9 hX9 m0 m1 m2 m3 m4 y1'
                  go_wp2_with fail
                  go_roundw
                  case rel => exact ⟨n + 1, vb2, by go_num, by omega, HC'.out, HB'.out, HX'.out, HV'.out, HA'.out, HT'.out, HF'.out⟩
                  case measure => simp [intOf]; omega
                · have HPB := Lib.hid (HP1.out.trans (stm_nil hpos hneg))
                  have HN := Lib.hid (show stmPs c.inn J x.2.1 (n + 1) = stmPs c.inn J x.2.1 n by rw [stmPs_succ, HPB.out, List.append_nil])
                  go_wp2_with fail
                  go_roundw
                  case rel => exact ⟨n + 1, vb', by go_num, by omega, by rw [HN.out]; exact HCr.out.below HB8.out, heap_keep HBr.out HB8.out, heap_keep HXr.out HB8.out, HVr.out.below HB8.out, HAr.out, HTr.out.trans (Turned.of_below HB8.out), HFr.out⟩
                  case measure => simp [intOf]; omega
          · go_simp
            refine hK.out _ _ (HH.out _ (bch (below_drew1 (Below.refl wr.heap.size wr)) (below_alloc wr.drew _) (Below.size (below_drew1 (Below.refl wr.heap.size wr))))) (fun hHeld => ?_)
            clear hK K
            try simp only [Act.put, List.getElem_toArray, List.getElem_cons_zero, List.getElem_cons_succ, List.setIfInBounds_toArray, List.set_cons_zero, List.set_cons_succ]
            have HQ14 := Lib.hid (bch (below_drew1 (Below.refl wr.heap.size wr)) (below_alloc wr.drew (.cells #[.string ⟨#[]⟩, .int .i64 0, .int .i64 0, .int .i64 0, .int .i64 0] tPost)) (Below.size (below_drew1 (Below.refl wr.heap.size wr))))
            have HZ14 := Lib.hid (show (wr.drew.alloc (.cells #[.string ⟨#[]⟩, .int .i64 0, .int .i64 0, .int .i64 0, .int .i64 0] tPost)).heap[wr.heap.size]? = some (.cells #[.string ⟨#[]⟩, .int .i64 0, .int .i64 0, .int .i64 0, .int .i64 0] tPost (0, 0)) from heap_new _ _)
            have hq14 : wr.heap.size ≤ wr.heap.size := Nat.le_refl _
            refine wpAnyH_ready (rs := [2]) (by kernel_rfl) (by simp) ?_
            refine AllReadyH.cons rfl (fun K hK => ?_) AllReadyH.nil
            go_simp
            refine (HITO.out x.2.1 (wr.drew.alloc (.cells #[.string ⟨#[]⟩, .int .i64 0, .int .i64 0, .int .i64 0, .int .i64 0] tPost)) hq0.1 hq0.2 (bch HBB.out HQ14.out hBr)).mono ?_
            rintro e v15 ⟨rfl, hbq⟩
            have HQ15 := Lib.hid (bch HQ14.out hbq (Below.size HQ14.out))
            have HZ15 := Lib.hid (heap_keep HZ14.out hbq)
            clear hbq
            refine hK.out _ _ (HH.out _ (HQ15.out)) (fun hHeld => ?_)
            clear hK K
            try simp only [Act.put, List.getElem_toArray, List.getElem_cons_zero, List.getElem_cons_succ, List.setIfInBounds_toArray, List.set_cons_zero, List.set_cons_succ]
            refine wpAnyH_take (i := 3) (v := ?vc3_37) rfl (by kernel_rfl) (by kernel_rfl) (by kernel_rfl) (fun _ _ _ h => h) (Or.inl ⟨by rfl, ?hyc3_37⟩) (by assumption) ?restc3_37
            case hyc3_37 => (intro w0 hSw; (try dsimp only at hSw); go_simp; rw [if_neg (by first | omega | (simp; omega))]; try rfl)
            case' restc3_37 => try simp only [Act.put, List.getElem_toArray, List.getElem_cons_zero, List.getElem_cons_succ, List.setIfInBounds_toArray, List.set_cons_zero, List.set_cons_succ]
            refine wpAnyH_take (i := 4) (v := ?vc4_38) rfl (by kernel_rfl) (by kernel_rfl) (by kernel_rfl) (fun _ _ _ h => h) (Or.inl ⟨by rfl, ?hyc4_38⟩) (by assumption) ?restc4_38
            case hyc4_38 => (intro w0 hSw; (try dsimp only at hSw); go_simp; rw [if_neg (by first | omega | (simp; omega))]; try rfl)
            case' restc4_38 => try simp only [Act.put, List.getElem_toArray, List.getElem_cons_zero, List.getElem_cons_succ, List.setIfInBounds_toArray, List.set_cons_zero, List.set_cons_succ]
            refine wpAnyH_ready (rs := [6]) (by kernel_rfl) (by simp) ?_
            refine AllReadyH.cons rfl (fun K hK => ?_) AllReadyH.nil
            go_simp
            refine (HITO.out ((n : Int) + 1) v15 (by omega) (by omega) (bch HBB.out HQ15.out hBr)).mono ?_
            rintro e v16 ⟨rfl, hbq⟩
            have HQ16 := Lib.hid (bch HQ15.out hbq (Below.size HQ15.out))
            have HZ16 := Lib.hid (heap_keep HZ15.out hbq)
            clear hbq
            refine hK.out _ _ (HH.out _ (HQ16.out)) (fun hHeld => ?_)
            clear hK K
            try simp only [Act.put, List.getElem_toArray, List.getElem_cons_zero, List.getElem_cons_succ, List.setIfInBounds_toArray, List.set_cons_zero, List.set_cons_succ]
            refine wpAnyH_take (i := 7) (v := ?vc7_39) rfl (by kernel_rfl) (by kernel_rfl) (by kernel_rfl) (fun _ _ _ h => h) (Or.inl ⟨by rfl, ?hyc7_39⟩) (by assumption) ?restc7_39
            case hyc7_39 => (intro w0 hSw; (try dsimp only at hSw); go_simp; rw [if_neg (by first | omega | (simp; omega))]; try rfl)
            case' restc7_39 => try simp only [Act.put, List.getElem_toArray, List.getElem_cons_zero, List.getElem_cons_succ, List.setIfInBounds_toArray, List.set_cons_zero, List.set_cons_succ]
            refine wpAnyH_ready (rs := [11]) (by kernel_rfl) (by simp) ?_
            refine AllReadyH.cons rfl (fun K hK => ?_) AllReadyH.nil
            go_simp
            refine (inet_any v16 _ J ((n : Int) + 1) (HVr.out.below HQ16.out) HFJ.out ⟨by omega, by omega⟩).mono ?_
            rintro e v17 ⟨rfl, hbq⟩
            have HQ17 := Lib.hid (bch HQ16.out hbq (Below.size HQ16.out))
            have HZ17 := Lib.hid (heap_keep HZ16.out hbq)
            clear hbq
            refine hK.out _ _ (HH.out _ (HQ17.out)) (fun hHeld => ?_)
            clear hK K
            try simp only [Act.put, List.getElem_toArray, List.getElem_cons_zero, List.getElem_cons_succ, List.setIfInBounds_toArray, List.set_cons_zero, List.set_cons_succ]
            refine wpAnyH_ready (rs := [17]) (by kernel_rfl) (by simp) ?_
            refine AllReadyH.cons rfl (fun K hK => ?_) AllReadyH.nil
            go_simp
            refine (inet_any v17 _ c.inn ((n : Int) + 1) (HCr.out.ii.below HQ17.out) HC0.out.fi ⟨by omega, by omega⟩).mono ?_
            rintro e v18 ⟨rfl, hbq⟩
            have HQ18 := Lib.hid (bch HQ17.out hbq (Below.size HQ17.out))
            have HZ18 := Lib.hid (heap_keep HZ17.out hbq)
            clear hbq
            refine hK.out _ _ (HH.out _ (HQ18.out)) (fun hHeld => ?_)
            clear hK K
            try simp only [Act.put, List.getElem_toArray, List.getElem_cons_zero, List.getElem_cons_succ, List.setIfInBounds_toArray, List.set_cons_zero, List.set_cons_succ]
            refine wpAnyH_take (i := 18) (v := ?vc18_40) rfl (by kernel_rfl) (by kernel_rfl) (by kernel_rfl) (fun _ _ _ h => h) (Or.inl ⟨by rfl, ?hyc18_40⟩) (by assumption) ?restc18_40
            case hyc18_40 => (intro w0 hSw; (try dsimp only at hSw); go_simp; try with_reducible rfl)
            case' restc18_40 => try simp only [Act.put, List.getElem_toArray, List.getElem_cons_zero, List.getElem_cons_succ, List.setIfInBounds_toArray, List.set_cons_zero, List.set_cons_succ]
            refine wpAnyH_take (i := 19) (v := ?vc19_41) rfl (by kernel_rfl) (by kernel_rfl) (by kernel_rfl) (fun _ _ _ h => h) (Or.inl ⟨by rfl, ?hyc19_41⟩) (by assumption) ?restc19_41
            case hyc19_41 => (intro w0 hSw; (try dsimp only at hSw); go_simp; try with_reducible rfl)
            case' restc19_41 => try simp only [Act.put, List.getElem_toArray, List.getElem_cons_zero, List.getElem_cons_succ, List.setIfInBounds_toArray, List.set_cons_zero, List.set_cons_succ]
            obtain ⟨z0, z1, z2, z3, z4⟩ := cell5 HZ18.out
            obtain ⟨f0, f1, f2, f3, f4⟩ := froz5 HZ18.out
            have HTu := Lib.hid (turned_set5 v18 wr.heap.size ((.string (((⟨#[115]⟩ : ByteArray) ++ ⟨(Lib.itoa x.2.1).toArray⟩) ++ ⟨#[45]⟩ ++ ⟨(Lib.itoa ((n : Int) + 1)).toArray⟩))) (.int .i64 ((n : Int) + 1)) (.int .i64 2) (.int .i64 1) (.int .i64 (In.netI J ((n : Int) + 1) - In.netI c.inn ((n : Int) + 1))))
            have HSET := Lib.hid (set5x HZ18.out ((.string (((⟨#[115]⟩ : ByteArray) ++ ⟨(Lib.itoa x.2.1).toArray⟩) ++ ⟨#[45]⟩ ++ ⟨(Lib.itoa ((n : Int) + 1)).toArray⟩))) (.int .i64 ((n : Int) + 1)) (.int .i64 2) (.int .i64 1) (.int .i64 (In.netI J ((n : Int) + 1) - In.netI c.inn ((n : Int) + 1))))
            have HWs := Lib.hid (Below.turned HQ18.out HTu.out (fun i hi => by rw [hi]; exact hq14) (Below.size HQ18.out))
            refine wpAnyH_ready (rs := [21]) (by kernel_rfl) (by simp) ?_
            refine AllReadyH.cons rfl (fun K hK => ?_) AllReadyH.nil
            go_simp
            refine hK.out _ _ (HH.out _ (HWs.out)) (fun hHeld => ?_)
            clear hK K
            try simp only [Act.put, List.getElem_toArray, List.getElem_cons_zero, List.getElem_cons_succ, List.setIfInBounds_toArray, List.set_cons_zero, List.set_cons_succ]
            refine wpAnyH_done (by kernel_rfl) ?_ _
            refine NoPanic.normal ?_
            simp only [sid_join] at HSET HWs ⊢
            obtain ⟨by_, hby⟩ : ∃ b, In.netI J ((n : Int) + 1) - In.netI c.inn ((n : Int) + 1) = b := ⟨_, rfl⟩
            rw [hby] at HP1 HSET HWs ⊢
            have hbyb : -2199023255552 ≤ by_ ∧ by_ ≤ 2199023255552 := by omega
            generalize hw8 : (((((v18.setCell ⟨wr.heap.size, 0, none⟩ (.string ⟨(sidL x.2.1 ((n : Int) + 1)).toArray⟩)).setCell ⟨wr.heap.size, 1, none⟩ (.int .i64 ((n : Int) + 1))).setCell ⟨wr.heap.size, 2, none⟩ (.int .i64 2)).setCell ⟨wr.heap.size, 3, none⟩ (.int .i64 1)).setCell ⟨wr.heap.size, 4, none⟩ (.int .i64 by_)) = w8 at HSET HWs ⊢
            have HB8 := Lib.hid HWs.out
            have HP8 := Lib.hid HSET.out
            obtain ⟨b8, hb8e, hb8⟩ : ∃ b8, wr.heap.size = b8 ∧ wr.heap.size ≤ b8 := ⟨_, rfl, hq14⟩
            rw [hb8e] at HP8 ⊢
            clear hw8 hb8e HTu HSET HWs z0 z1 z2 z3 z4 f0 f1 f2 f3 f4
            clear y0 y1 y2 y3 y4 y5 y6 y7 y8 y9 y10 y11 k0 k1 k2 i0 i1 i2 i3 i4 i5 i6 i7 i8 i9 hHeld HH
            obtain ⟨m0, m1, m2, m3, m4⟩ := cell5 HP8.out
            obtain ⟨f0, f1, f2, f3, f4⟩ := froz5 HP8.out
            have hwn : IntKind.i64.wrap (-by_) = -by_ := IntWalk.i64_in _ (by omega)
            by_cases hneg : by_ < 0
            · have hpos' : 0 < -by_ := by omega
              go_upto_region 10 with (fail)
              obtain ⟨w9, hw9⟩ : ∃ w9, w9 = ((w8.setCell ⟨b8, 2, none⟩ (.int .i64 1)).setCell ⟨b8, 3, none⟩ (.int .i64 2)).setCell ⟨b8, 4, none⟩ (.int .i64 (-by_)) := ⟨_, rfl⟩
              rw [← hw9]
              have ht9 : Turned (fun j => j = b8) w8 w9 := by rw [hw9]; exact ((turned_set _ _ _ _).trans (turned_set _ _ _ _)).trans (turned_set _ _ _ _)
              have HP9 := Lib.hid (show w9.heap[b8]? = some (.cells #[.string ⟨(sidL x.2.1 ((n : Int) + 1)).toArray⟩, .int .i64 ((n : Int) + 1), .int .i64 1, .int .i64 2, .int .i64 (-by_)] tPost (0, 0)) by rw [hw9]; exact set5_345 HP8.out _ _ _)
              have HB9 := Lib.hid (Below.turned HB8.out ht9 (fun i h => by omega) HB8.out.size)
              clear hw9 ht9 m0 m1 m2 m3 m4 f0 f1 f2 f3 f4
              have HPB := Lib.hid (HP1.out.trans (stm_neg hneg))
              have hm := HMP.out _ (stm_mem hn60 HPB.out)
              have hf := stm_fresh HND.out hn60 HPB.out
              have HM := Lib.hid hm; have HF := Lib.hid hf
              clear hm hf
              have HC9 := Lib.hid (HCr.out.below HB9.out)
              have y1' := HC9.out.c01.2
              obtain ⟨m0, m1, m2, m3, m4⟩ := cell5 HP9.out
              go_wp2_with fail
              refine wp_region_still_tail 5 (by kernel_rfl) (by kernel_rfl) ?_
              simp only [List.take_succ_cons, List.take_zero, List.drop_succ_cons, List.drop_zero]
              iterate 5 still_step
              refine wpStill_nil ?_
              change wpList _ _ _ _ _ w9.drew
              go_wp2_with fail
              refine (bpost_any (HC9.out.bk.below (below_drew1 (Below.refl _ w9))) ⟨sidL x.2.1 ((n : Int) + 1), (n : Int) + 1, 1, 2, -by_⟩ HM.out HF.out (by have := stmPs_len c.inn J x.2.1 n; rw [List.length_append]; omega)).mono ?_
              rintro e wz ⟨vb2, rfl, hnew, htz, hfar⟩
              have htz' : Turned (Bs bb pm bm vb') w9 wz := (Turned.refl _ w9).drew.trans htz
              have hbs1 : ∀ j, w.heap.size ≤ j → (∀ cs T, w9.heap[j]? = some (.cells cs T (0, 0)) → T ≠ tPost) → (∃ cs T, w9.heap[j]? = some (.cells cs T (0, 0))) → ¬ Bs bb pm bm vb' j := fun j hj h1 ⟨cs, T, h2⟩ hs => by have := HC0.out.bk.lt; rcases hs with e | e | e | e; omega; omega; omega; exact own_apartT HC9.out.bk.ob h2 (h1 _ _ h2) e
              have hB9 := heap_keep HBr.out HB9.out
              have hX9 := heap_keep HXr.out HB9.out
              have HB' := Lib.hid (heap_turned hB9 htz' (hbs1 b5 (by omega) (fun cs T h => by rw [hB9] at h; injection h with h; injection h with _ h; rw [← h]; decide) ⟨_, _, hB9⟩))
              have HX' := Lib.hid (heap_turned hX9 htz' (hbs1 _ (Nat.le_refl _) (fun cs T h => by rw [hX9] at h; injection h with h; injection h with _ h; rw [← h]; decide) ⟨_, _, hX9⟩))
              have HC' := Lib.hid (show Cw B wz cb bb pm bm (.slice A c.l.length cl) vb2 (.agg #[.int .i64 c.inn.a.1, .int .i64 c.inn.a.2.1, .slice A0 An0 Ac0, .int .i64 c.inn.b.1, .int .i64 c.inn.b.2.1, .slice A1 An1 Ac1, .int .i64 c.inn.c.1, .int .i64 c.inn.c.2.1, .slice A2 An2 Ac2, .map m]) { c with b := c.b ++ stmPs c.inn J x.2.1 (n + 1) } by rw [stmPs_succ, HPB.out, ← List.append_assoc]; exact HC9.out.post hnew htz' (fun j hj => hfar j hj))
              have HV' := Lib.hid ((HVr.out.below HB9.out).turned htz' (fun j hj => HAr.out j (.inr (.inl hj))))
              have hsz9 := HB9.out.size
              have hszr := HTr.out.size
              have HF' := Lib.hid (show ∀ j, vb2.ownBlock = some j → vb.ownBlock = some j ∨ w.heap.size ≤ j from fun j hj => by rcases hfar j hj with h | h; exact HFr.out j h; (right; simp at h; omega))
              have HA' := Lib.hid (show ∀ j, Cs cb bb pm bm (.slice A c.l.length cl) vb2 j → Av j (.agg #[.int .i64 J.a.1, .int .i64 J.a.2.1, .slice C0 Cn0 Cc0, .int .i64 J.b.1, .int .i64 J.b.2.1, .slice C1 Cn1 Cc1, .int .i64 J.c.1, .int .i64 J.c.2.1, .slice C2 Cn2 Cc2, .map mc]) J from fun j hj => by rcases hj with h | (h | h | h | h) | h; exact HAr.out j (.inl h); exact HAr.out j (.inr (.inl (.inl h))); exact HAr.out j (.inr (.inl (.inr (.inl h)))); exact HAr.out j (.inr (.inl (.inr (.inr (.inl h))))); (rcases hfar j h with h | h; exact HAr.out j (.inr (.inl (.inr (.inr (.inr h))))); exact Av.far HVr.out (by simp at h; omega)); exact HAr.out j (.inr (.inr h)))
              have HT' := Lib.hid (show Turned (Cs cb bb pm bm (.slice A c.l.length cl) vb) w wz from (HTr.out.trans (Turned.of_below HB9.out)).far (htz'.mono (fun i h => by rcases h with h | h | h | h; exact .inl (.inr (.inl (.inl h))); exact .inl (.inr (.inl (.inr (.inl h)))); exact .inl (.inr (.inl (.inr (.inr (.inl h))))); (rcases HFr.out i h with h | h; exact .inl (.inr (.inl (.inr (.inr (.inr h))))); exact .inr h))))
              clear hnew htz htz' hfar hbs1 hB9 hX9 m0 m1 m2 m3 m4 y1'
              go_wp2_with fail
              go_roundw
              case rel => exact ⟨n + 1, vb2, by go_num, by omega, HC'.out, HB'.out, HX'.out, HV'.out, HA'.out, HT'.out, HF'.out⟩
              case measure => simp [intOf]; omega
            · by_cases hpos : 0 < by_
              · have HP9 := Lib.hid HP8.out; have HB9 := Lib.hid HB8.out
                have HPB := Lib.hid (HP1.out.trans (stm_pos hpos))
                have hm := HMP.out _ (stm_mem hn60 HPB.out)
                have hf := stm_fresh HND.out hn60 HPB.out
                have HM := Lib.hid hm; have HF := Lib.hid hf
                clear hm hf
                have HC9 := Lib.hid (HCr.out.below HB9.out)
                have y1' := HC9.out.c01.2
                obtain ⟨m0, m1, m2, m3, m4⟩ := cell5 HP9.out
                go_wp2_with fail
                refine wp_region_still_tail 5 (by kernel_rfl) (by kernel_rfl) ?_
                simp only [List.take_succ_cons, List.take_zero, List.drop_succ_cons, List.drop_zero]
                iterate 5 still_step
                refine wpStill_nil ?_
                change wpList _ _ _ _ _ w8.drew
                go_wp2_with fail
                refine (bpost_any (HC9.out.bk.below (below_drew1 (Below.refl _ w8))) ⟨sidL x.2.1 ((n : Int) + 1), (n : Int) + 1, 2, 1, by_⟩ HM.out HF.out (by have := stmPs_len c.inn J x.2.1 n; rw [List.length_append]; omega)).mono ?_
                rintro e wz ⟨vb2, rfl, hnew, htz, hfar⟩
                have htz' : Turned (Bs bb pm bm vb') w8 wz := (Turned.refl _ w8).drew.trans htz
                have hbs1 : ∀ j, w.heap.size ≤ j → (∀ cs T, w8.heap[j]? = some (.cells cs T (0, 0)) → T ≠ tPost) → (∃ cs T, w8.heap[j]? = some (.cells cs T (0, 0))) → ¬ Bs bb pm bm vb' j := fun j hj h1 ⟨cs, T, h2⟩ hs => by have := HC0.out.bk.lt; rcases hs with e | e | e | e; omega; omega; omega; exact own_apartT HC9.out.bk.ob h2 (h1 _ _ h2) e
                have hB9 := heap_keep HBr.out HB9.out
                have hX9 := heap_keep HXr.out HB9.out
                have HB' := Lib.hid (heap_turned hB9 htz' (hbs1 b5 (by omega) (fun cs T h => by rw [hB9] at h; injection h with h; injection h with _ h; rw [← h]; decide) ⟨_, _, hB9⟩))
                have HX' := Lib.hid (heap_turned hX9 htz' (hbs1 _ (Nat.le_refl _) (fun cs T h => by rw [hX9] at h; injection h with h; injection h with _ h; rw [← h]; decide) ⟨_, _, hX9⟩))
                have HC' := Lib.hid (show Cw B wz cb bb pm bm (.slice A c.l.length cl) vb2 (.agg #[.int .i64 c.inn.a.1, .int .i64 c.inn.a.2.1, .slice A0 An0 Ac0, .int .i64 c.inn.b.1, .int .i64 c.inn.b.2.1, .slice A1 An1 Ac1, .int .i64 c.inn.c.1, .int .i64 c.inn.c.2.1, .slice A2 An2 Ac2, .map m]) { c with b := c.b ++ stmPs c.inn J x.2.1 (n + 1) } by rw [stmPs_succ, HPB.out, ← List.append_assoc]; exact HC9.out.post hnew htz' (fun j hj => hfar j hj))
                have HV' := Lib.hid ((HVr.out.below HB9.out).turned htz' (fun j hj => HAr.out j (.inr (.inl hj))))
                have hsz9 := HB9.out.size
                have hszr := HTr.out.size
                have HF' := Lib.hid (show ∀ j, vb2.ownBlock = some j → vb.ownBlock = some j ∨ w.heap.size ≤ j from fun j hj => by rcases hfar j hj with h | h; exact HFr.out j h; (right; simp at h; omega))
                have HA' := Lib.hid (show ∀ j, Cs cb bb pm bm (.slice A c.l.length cl) vb2 j → Av j (.agg #[.int .i64 J.a.1, .int .i64 J.a.2.1, .slice C0 Cn0 Cc0, .int .i64 J.b.1, .int .i64 J.b.2.1, .slice C1 Cn1 Cc1, .int .i64 J.c.1, .int .i64 J.c.2.1, .slice C2 Cn2 Cc2, .map mc]) J from fun j hj => by rcases hj with h | (h | h | h | h) | h; exact HAr.out j (.inl h); exact HAr.out j (.inr (.inl (.inl h))); exact HAr.out j (.inr (.inl (.inr (.inl h)))); exact HAr.out j (.inr (.inl (.inr (.inr (.inl h))))); (rcases hfar j h with h | h; exact HAr.out j (.inr (.inl (.inr (.inr (.inr h))))); exact Av.far HVr.out (by simp at h; omega)); exact HAr.out j (.inr (.inr h)))
                have HT' := Lib.hid (show Turned (Cs cb bb pm bm (.slice A c.l.length cl) vb) w wz from (HTr.out.trans (Turned.of_below HB9.out)).far (htz'.mono (fun i h => by rcases h with h | h | h | h; exact .inl (.inr (.inl (.inl h))); exact .inl (.inr (.inl (.inr (.inl h)))); exact .inl (.inr (.inl (.inr (.inr (.inl h))))); (rcases HFr.out i h with h | h; exact .inl (.inr (.inl (.inr (.inr (.inr h))))); exact .inr h))))
                clear hnew htz htz' hfar hbs1 hB9 hX9 m0 m1 m2 m3 m4 y1'
                go_wp2_with fail
                go_roundw
                case rel => exact ⟨n + 1, vb2, by go_num, by omega, HC'.out, HB'.out, HX'.out, HV'.out, HA'.out, HT'.out, HF'.out⟩
                case measure => simp [intOf]; omega
              · have HPB := Lib.hid (HP1.out.trans (stm_nil hpos hneg))
                have HN := Lib.hid (show stmPs c.inn J x.2.1 (n + 1) = stmPs c.inn J x.2.1 n by rw [stmPs_succ, HPB.out, List.append_nil])
                go_wp2_with fail
                go_roundw
                case rel => exact ⟨n + 1, vb', by go_num, by omega, by rw [HN.out]; exact HCr.out.below HB8.out, heap_keep HBr.out HB8.out, heap_keep HXr.out HB8.out, HVr.out.below HB8.out, HAr.out, HTr.out.trans (Turned.of_below HB8.out), HFr.out⟩
                case measure => simp [intOf]; omega
        · obtain rfl : n = 60 := by omega
          have HCCr := Lib.hid (show wr.heap[cb]? = some (.cells #[.slice A c.l.length cl, .pointer (some ⟨bb, 0, none⟩), .int .i64 c.inn.a.1, .int .i64 c.inn.a.2.1, .slice A0 An0 Ac0, .int .i64 c.inn.b.1, .int .i64 c.inn.b.2.1, .slice A1 An1 Ac1, .int .i64 c.inn.c.1, .int .i64 c.inn.c.2.1, .slice A2 An2 Ac2, .map m] tCore (0, 0)) by simpa [inn10] using HCr.out.hc)
          obtain ⟨y0, y1, y2, y3, y4, y5, y6, y7, y8, y9, y10, y11⟩ := cell12 HCCr.out
          obtain ⟨f0, f1, f2, f3, f4, f5, f6, f7, f8, f9, f10, f11⟩ := froz12 HCCr.out
          obtain ⟨i0, i1, i2, i3, i4, i5, i6, i7, i8, i9⟩ := cell10 HBr.out
          go_wp2_with fail
          have ht9 := turned_in wr cb (.int .i64 J.a.1) (.int .i64 J.a.2.1) (.slice C0 Cn0 Cc0) (.int .i64 J.b.1) (.int .i64 J.b.2.1) (.slice C1 Cn1 Cc1) (.int .i64 J.c.1) (.int .i64 J.c.2.1) (.slice C2 Cn2 Cc2) (.map mc)
          have hs9 := set_in HCCr.out (.int .i64 J.a.1) (.int .i64 J.a.2.1) (.slice C0 Cn0 Cc0) (.int .i64 J.b.1) (.int .i64 J.b.2.1) (.slice C1 Cn1 Cc1) (.int .i64 J.c.1) (.int .i64 J.c.2.1) (.slice C2 Cn2 Cc2) (.map mc)
          have HSC := Lib.hid (show stmC c x = { c with b := c.b ++ stmPs c.inn J x.2.1 60, inn := J } by unfold stmC; rw [if_pos HE.out, HJ.out])
          have hNEW : Cw B ((((((((((wr.setCell ⟨cb, 2, none⟩ (.int .i64 J.a.1)).setCell ⟨cb, 3, none⟩ (.int .i64 J.a.2.1)).setCell ⟨cb, 4, none⟩ (.slice C0 Cn0 Cc0)).setCell ⟨cb, 5, none⟩ (.int .i64 J.b.1)).setCell ⟨cb, 6, none⟩ (.int .i64 J.b.2.1)).setCell ⟨cb, 7, none⟩ (.slice C1 Cn1 Cc1)).setCell ⟨cb, 8, none⟩ (.int .i64 J.c.1)).setCell ⟨cb, 9, none⟩ (.int .i64 J.c.2.1)).setCell ⟨cb, 10, none⟩ (.slice C2 Cn2 Cc2)).setCell ⟨cb, 11, none⟩ (.map mc)) cb bb pm bm (.slice A c.l.length cl) vb' (.agg #[.int .i64 J.a.1, .int .i64 J.a.2.1, .slice C0 Cn0 Cc0, .int .i64 J.b.1, .int .i64 J.b.2.1, .slice C1 Cn1 Cc1, .int .i64 J.c.1, .int .i64 J.c.2.1, .slice C2 Cn2 Cc2, .map mc]) (stmC c x) := by
              rw [HSC.out]
              exact ⟨by simpa [inn10] using hs9, own_turned HCr.out.ol ht9 (fun j hj hs => (HCr.out.nl j hj).1 hs), HCr.out.bk.kept ht9 (fun j hj hs => HCr.out.cbB (by rw [← hs]; exact hj)), HVr.out.turned ht9 (fun j hs => HAr.out j (.inl hs)), HFJ.out, fun j hj => HAr.out j hj, HCr.out.ge, HCr.out.nc, HCr.out.nl⟩
          have hTN := HTr.out.trans (ht9.mono (S' := Cs cb bb pm bm (.slice A c.l.length cl) vb) (fun i h => .inl h))
          have hAX : ∀ j, j < w.heap.size → Av j (.agg #[.int .i64 c.inn.a.1, .int .i64 c.inn.a.2.1, .slice A0 An0 Ac0, .int .i64 c.inn.b.1, .int .i64 c.inn.b.2.1, .slice A1 An1 Ac1, .int .i64 c.inn.c.1, .int .i64 c.inn.c.2.1, .slice A2 An2 Ac2, .map m]) c.inn → Av j (.agg #[.int .i64 J.a.1, .int .i64 J.a.2.1, .slice C0 Cn0 Cc0, .int .i64 J.b.1, .int .i64 J.b.2.1, .slice C1 Cn1 Cc1, .int .i64 J.c.1, .int .i64 J.c.2.1, .slice C2 Cn2 Cc2, .map mc]) (stmC c x).inn := fun j hj h => by rw [HSC.out]; exact HAVX.out j hj h
          go_ret
          first | exact ⟨vb', _, by rw [HE.out]; rfl, hNEW, hTN, HFr.out, hAX⟩ | exact ⟨by rw [HE.out]; rfl, vb', _, hNEW, hTN, HFr.out, hAX⟩
  · obtain ⟨en, hen⟩ : ∃ en, In.accE c.inn x = en := ⟨_, rfl⟩
    have HE := Lib.hid hen
    have hn1 := bneT (hen ▸ he)
    have HSC := Lib.hid (show stmC c x = c by unfold stmC; rw [if_neg he])
    have HACC := Lib.hid (fun W (hW : Below wa.heap.size wa W) => hen ▸ accept_no W _ c.inn x _ (HII.out.below (bch HB.out hW HB.out.size)) (HU.out.keep (bch HB.out hW HB.out.size)) (HT.out.below (bch HB.out hW HB.out.size)) he)
    clear he hen hmp hnd
    go_cut [5, 6] from 9 to 17 (fun p ee wx => ∃ b5, p = .pointer (some ⟨b5, 0, none⟩) ∧ ee = .int .i64 en ∧ Below wa.heap.size wa wx)
    case first =>
      have HH := Lib.hid (fun W (hb : Below wa.heap.size wa W) => (⟨Lib.hid hb, (hb.cell (World.block_lt_of_cell? wa _ y2)).trans y2, (hb.cell (World.block_lt_of_cell? wa _ y3)).trans y3, (hb.cell (World.block_lt_of_cell? wa _ y4)).trans y4, (hb.cell (World.block_lt_of_cell? wa _ y5)).trans y5, (hb.cell (World.block_lt_of_cell? wa _ y6)).trans y6, (hb.cell (World.block_lt_of_cell? wa _ y7)).trans y7, (hb.cell (World.block_lt_of_cell? wa _ y8)).trans y8, (hb.cell (World.block_lt_of_cell? wa _ y9)).trans y9, (hb.cell (World.block_lt_of_cell? wa _ y10)).trans y10, (hb.cell (World.block_lt_of_cell? wa _ y11)).trans y11, (hb.cell (World.block_lt_of_cell? wa _ k0)).trans k0, (hb.cell (World.block_lt_of_cell? wa _ k1)).trans k1, (hb.cell (World.block_lt_of_cell? wa _ k2)).trans k2⟩ : (fun w' => Hid (Below wa.heap.size wa w') ∧ w'.cell? ⟨cb, 2, none⟩ = some (.int .i64 c.inn.a.1) ∧ w'.cell? ⟨cb, 3, none⟩ = some (.int .i64 c.inn.a.2.1) ∧ w'.cell? ⟨cb, 4, none⟩ = some (.slice A0 An0 Ac0) ∧ w'.cell? ⟨cb, 5, none⟩ = some (.int .i64 c.inn.b.1) ∧ w'.cell? ⟨cb, 6, none⟩ = some (.int .i64 c.inn.b.2.1) ∧ w'.cell? ⟨cb, 7, none⟩ = some (.slice A1 An1 Ac1) ∧ w'.cell? ⟨cb, 8, none⟩ = some (.int .i64 c.inn.c.1) ∧ w'.cell? ⟨cb, 9, none⟩ = some (.int .i64 c.inn.c.2.1) ∧ w'.cell? ⟨cb, 10, none⟩ = some (.slice A2 An2 Ac2) ∧ w'.cell? ⟨cb, 11, none⟩ = some (.map m) ∧ w'.cell? ⟨w.heap.size, 0, none⟩ = some (.int .i64 x.1) ∧ w'.cell? ⟨w.heap.size, 1, none⟩ = some (.int .i64 x.2.1) ∧ w'.cell? ⟨w.heap.size, 2, none⟩ = some (.slice Au x.2.2.length cu)) W))
      refine wp_region_noPanic ?_
      refine wp_region_held_drew (S := (fun w' => Hid (Below wa.heap.size wa w') ∧ w'.cell? ⟨cb, 2, none⟩ = some (.int .i64 c.inn.a.1) ∧ w'.cell? ⟨cb, 3, none⟩ = some (.int .i64 c.inn.a.2.1) ∧ w'.cell? ⟨cb, 4, none⟩ = some (.slice A0 An0 Ac0) ∧ w'.cell? ⟨cb, 5, none⟩ = some (.int .i64 c.inn.b.1) ∧ w'.cell? ⟨cb, 6, none⟩ = some (.int .i64 c.inn.b.2.1) ∧ w'.cell? ⟨cb, 7, none⟩ = some (.slice A1 An1 Ac1) ∧ w'.cell? ⟨cb, 8, none⟩ = some (.int .i64 c.inn.c.1) ∧ w'.cell? ⟨cb, 9, none⟩ = some (.int .i64 c.inn.c.2.1) ∧ w'.cell? ⟨cb, 10, none⟩ = some (.slice A2 An2 Ac2) ∧ w'.cell? ⟨cb, 11, none⟩ = some (.map m) ∧ w'.cell? ⟨w.heap.size, 0, none⟩ = some (.int .i64 x.1) ∧ w'.cell? ⟨w.heap.size, 1, none⟩ = some (.int .i64 x.2.1) ∧ w'.cell? ⟨w.heap.size, 2, none⟩ = some (.slice Au x.2.2.length cu))) (by kernel_rfl) (HH.out _ (below_drew1 (Below.refl wa.heap.size wa))) (fun hHeld => ?_)
      refine wpAnyH_take (i := 0) (v := ?vc0_50) rfl (by kernel_rfl) (by kernel_rfl) (by kernel_rfl) (fun _ _ _ h => h) (Or.inl ⟨by rfl, ?hyc0_50⟩) (by assumption) ?restc0_50
      case hyc0_50 => (intro w0 hSw; (try dsimp only at hSw); go_simp; try with_reducible rfl)
      case' restc0_50 => try simp only [Act.put, List.getElem_toArray, List.getElem_cons_zero, List.getElem_cons_succ, List.setIfInBounds_toArray, List.set_cons_zero, List.set_cons_succ]
      refine wpAnyH_take (i := 1) (v := ?vc1_51) rfl (by kernel_rfl) (by kernel_rfl) (by kernel_rfl) (fun _ _ _ h => h) (Or.inl ⟨by rfl, ?hyc1_51⟩) (by assumption) ?restc1_51
      case hyc1_51 => (intro w0 hSw; (try dsimp only at hSw); go_simp; try with_reducible rfl)
      case' restc1_51 => try simp only [Act.put, List.getElem_toArray, List.getElem_cons_zero, List.getElem_cons_succ, List.setIfInBounds_toArray, List.set_cons_zero, List.set_cons_succ]
      refine wpAnyH_take (i := 2) (v := ?vc2_52) rfl (by kernel_rfl) (by kernel_rfl) (by kernel_rfl) (fun _ _ _ h => h) (Or.inl ⟨by rfl, ?hyc2_52⟩) (by assumption) ?restc2_52
      case hyc2_52 => (intro w0 hSw; (try dsimp only at hSw); go_simp; try with_reducible rfl)
      case' restc2_52 => try simp only [Act.put, List.getElem_toArray, List.getElem_cons_zero, List.getElem_cons_succ, List.setIfInBounds_toArray, List.set_cons_zero, List.set_cons_succ]
      refine wpAnyH_take (i := 3) (v := ?vc3_53) rfl (by kernel_rfl) (by kernel_rfl) (by kernel_rfl) (fun _ _ _ h => h) (Or.inl ⟨by rfl, ?hyc3_53⟩) (by assumption) ?restc3_53
      case hyc3_53 => (intro w0 hSw; (try dsimp only at hSw); go_simp; try with_reducible rfl)
      case' restc3_53 => try simp only [Act.put, List.getElem_toArray, List.getElem_cons_zero, List.getElem_cons_succ, List.setIfInBounds_toArray, List.set_cons_zero, List.set_cons_succ]
      refine wpAnyH_take (i := 4) (v := ?vc4_54) rfl (by kernel_rfl) (by kernel_rfl) (by kernel_rfl) (fun _ _ _ h => h) (Or.inl ⟨by rfl, ?hyc4_54⟩) (by assumption) ?restc4_54
      case hyc4_54 => (intro w0 hSw; (try dsimp only at hSw); go_simp; try with_reducible rfl)
      case' restc4_54 => try simp only [Act.put, List.getElem_toArray, List.getElem_cons_zero, List.getElem_cons_succ, List.setIfInBounds_toArray, List.set_cons_zero, List.set_cons_succ]
      refine wpAnyH_ready (rs := [5, 9]) (by kernel_rfl) (by simp) ?_
      refine AllReadyH.cons rfl (fun K hK => ?_) (AllReadyH.cons rfl (fun K hK => ?_) AllReadyH.nil)
      · go_simp
        refine (HACC.out _ (below_drew1 (Below.refl wa.heap.size wa))).mono ?_
        rintro e w1 ⟨rfl, hb⟩
        have HW1 := Lib.hid (bch (below_drew1 (Below.refl wa.heap.size wa)) hb (Below.size (below_drew1 (Below.refl wa.heap.size wa))))
        refine hK.out _ _ (HH.out _ (HW1.out)) (fun hHeld => ?_)
        clear hK K
        try simp only [Act.put, List.getElem_toArray, List.getElem_cons_zero, List.getElem_cons_succ, List.setIfInBounds_toArray, List.set_cons_zero, List.set_cons_succ]
        refine wpAnyH_take (i := 6) (v := ?vc6_42) rfl (by kernel_rfl) (by kernel_rfl) (by kernel_rfl) (fun _ _ _ h => h) (Or.inl ⟨by rfl, ?hyc6_42⟩) (by assumption) ?restc6_42
        case hyc6_42 => (intro w0 hSw; (try dsimp only at hSw); go_simp; try with_reducible rfl)
        case' restc6_42 => try simp only [Act.put, List.getElem_toArray, List.getElem_cons_zero, List.getElem_cons_succ, List.setIfInBounds_toArray, List.set_cons_zero, List.set_cons_succ]
        refine wpAnyH_take (i := 7) (v := ?vc7_43) rfl (by kernel_rfl) (by kernel_rfl) (by kernel_rfl) (fun _ _ _ h => h) (Or.inl ⟨by rfl, ?hyc7_43⟩) (by assumption) ?restc7_43
        case hyc7_43 => (intro w0 hSw; (try dsimp only at hSw); go_simp; try with_reducible rfl)
        case' restc7_43 => try simp only [Act.put, List.getElem_toArray, List.getElem_cons_zero, List.getElem_cons_succ, List.setIfInBounds_toArray, List.set_cons_zero, List.set_cons_succ]
        refine wpAnyH_take (i := 8) (v := ?vc8_44) rfl (by kernel_rfl) (by kernel_rfl) (by kernel_rfl) (fun _ _ _ h => h) (Or.inl ⟨by rfl, ?hyc8_44⟩) (by assumption) ?restc8_44
        case hyc8_44 => (intro w0 hSw; (try dsimp only at hSw); go_simp; try with_reducible rfl)
        case' restc8_44 => try simp only [Act.put, List.getElem_toArray, List.getElem_cons_zero, List.getElem_cons_succ, List.setIfInBounds_toArray, List.set_cons_zero, List.set_cons_succ]
        refine wpAnyH_ready (rs := [9]) (by kernel_rfl) (by simp) ?_
        refine AllReadyH.cons rfl (fun K hK => ?_) AllReadyH.nil
        go_simp
        refine hK.out _ _ (HH.out _ (bch HW1.out (below_alloc w1 _) HW1.out.size)) (fun hHeld => ?_)
        clear hK K
        try simp only [Act.put, List.getElem_toArray, List.getElem_cons_zero, List.getElem_cons_succ, List.setIfInBounds_toArray, List.set_cons_zero, List.set_cons_succ]
        refine wpAnyH_ready (rs := [10]) (by kernel_rfl) (by simp) ?_
        refine AllReadyH.cons rfl (fun K hK => ?_) AllReadyH.nil
        go_simp
        refine hK.out _ _ (HH.out _ (bch HW1.out (below_alloc w1 _) HW1.out.size)) (fun hHeld => ?_)
        clear hK K
        try simp only [Act.put, List.getElem_toArray, List.getElem_cons_zero, List.getElem_cons_succ, List.setIfInBounds_toArray, List.set_cons_zero, List.set_cons_succ]
        refine wpAnyH_take (i := 11) (v := ?vc11_45) rfl (by kernel_rfl) (by kernel_rfl) (by kernel_rfl) (fun _ _ _ h => h) (Or.inl ⟨by rfl, ?hyc11_45⟩) (by assumption) ?restc11_45
        case hyc11_45 => (intro w0 hSw; (try dsimp only at hSw); go_simp; try with_reducible rfl)
        case' restc11_45 => try simp only [Act.put, List.getElem_toArray, List.getElem_cons_zero, List.getElem_cons_succ, List.setIfInBounds_toArray, List.set_cons_zero, List.set_cons_succ]
        refine wpAnyH_done (by kernel_rfl) ?_ _
        refine NoPanic.normal ?_
        go_wp2_with fail
        go_meet
        exact ⟨w1.heap.size, rfl, rfl, bch HW1.out (below_alloc w1 _) HW1.out.size⟩
      · go_simp
        refine hK.out _ _ (HH.out _ (bch (below_drew1 (Below.refl wa.heap.size wa)) (below_alloc wa.drew _) (Nat.le_refl _))) (fun hHeld => ?_)
        clear hK K
        try simp only [Act.put, List.getElem_toArray, List.getElem_cons_zero, List.getElem_cons_succ, List.setIfInBounds_toArray, List.set_cons_zero, List.set_cons_succ]
        refine wpAnyH_ready (rs := [5]) (by kernel_rfl) (by simp) ?_
        refine AllReadyH.cons rfl (fun K hK => ?_) AllReadyH.nil
        go_simp
        have HBd := Lib.hid (bch (below_drew1 (Below.refl wa.heap.size wa)) (below_alloc wa.drew (.cells zIn tIn)) (Nat.le_refl _))
        refine (HACC.out _ HBd.out).mono ?_
        rintro e w1 ⟨rfl, hb⟩
        have HW1 := Lib.hid (bch HBd.out hb HBd.out.size)
        refine hK.out _ _ (HH.out _ (HW1.out)) (fun hHeld => ?_)
        clear hK K
        try simp only [Act.put, List.getElem_toArray, List.getElem_cons_zero, List.getElem_cons_succ, List.setIfInBounds_toArray, List.set_cons_zero, List.set_cons_succ]
        refine wpAnyH_take (i := 6) (v := ?vc6_46) rfl (by kernel_rfl) (by kernel_rfl) (by kernel_rfl) (fun _ _ _ h => h) (Or.inl ⟨by rfl, ?hyc6_46⟩) (by assumption) ?restc6_46
        case hyc6_46 => (intro w0 hSw; (try dsimp only at hSw); go_simp; try with_reducible rfl)
        case' restc6_46 => try simp only [Act.put, List.getElem_toArray, List.getElem_cons_zero, List.getElem_cons_succ, List.setIfInBounds_toArray, List.set_cons_zero, List.set_cons_succ]
        refine wpAnyH_take (i := 7) (v := ?vc7_47) rfl (by kernel_rfl) (by kernel_rfl) (by kernel_rfl) (fun _ _ _ h => h) (Or.inl ⟨by rfl, ?hyc7_47⟩) (by assumption) ?restc7_47
        case hyc7_47 => (intro w0 hSw; (try dsimp only at hSw); go_simp; try with_reducible rfl)
        case' restc7_47 => try simp only [Act.put, List.getElem_toArray, List.getElem_cons_zero, List.getElem_cons_succ, List.setIfInBounds_toArray, List.set_cons_zero, List.set_cons_succ]
        refine wpAnyH_take (i := 8) (v := ?vc8_48) rfl (by kernel_rfl) (by kernel_rfl) (by kernel_rfl) (fun _ _ _ h => h) (Or.inl ⟨by rfl, ?hyc8_48⟩) (by assumption) ?restc8_48
        case hyc8_48 => (intro w0 hSw; (try dsimp only at hSw); go_simp; try with_reducible rfl)
        case' restc8_48 => try simp only [Act.put, List.getElem_toArray, List.getElem_cons_zero, List.getElem_cons_succ, List.setIfInBounds_toArray, List.set_cons_zero, List.set_cons_succ]
        have HZ0 := Lib.hid (show w1.heap[wa.heap.size]? = some (.cells zIn tIn (0, 0)) from heap_keep (heap_new wa.drew (.cells zIn tIn)) hb)
        obtain ⟨z0, z1, z2, z3, z4, z5, z6, z7, z8, z9⟩ := cell10 HZ0.out
        obtain ⟨f0, f1, f2, f3, f4, f5, f6, f7, f8, f9⟩ := froz10 HZ0.out
        have HTu := Lib.hid (turned_set10 w1 wa.heap.size (.int .i64 0) (.int .i64 0) (.slice none 0 0) (.int .i64 0) (.int .i64 0) (.slice none 0 0) (.int .i64 0) (.int .i64 0) (.slice none 0 0) (.map none))
        unfold set10w at HTu
        have HWs := Lib.hid (Below.turned HW1.out HTu.out (fun i hi => by omega) (Below.size HW1.out))
        refine wpAnyH_ready (rs := [10]) (by kernel_rfl) (by simp) ?_
        refine AllReadyH.cons rfl (fun K hK => ?_) AllReadyH.nil
        go_simp
        refine hK.out _ _ (HH.out _ (HWs.out)) (fun hHeld => ?_)
        clear hK K
        try simp only [Act.put, List.getElem_toArray, List.getElem_cons_zero, List.getElem_cons_succ, List.setIfInBounds_toArray, List.set_cons_zero, List.set_cons_succ]
        refine wpAnyH_take (i := 11) (v := ?vc11_49) rfl (by kernel_rfl) (by kernel_rfl) (by kernel_rfl) (fun _ _ _ h => h) (Or.inl ⟨by rfl, ?hyc11_49⟩) (by assumption) ?restc11_49
        case hyc11_49 => (intro w0 hSw; (try dsimp only at hSw); go_simp; try with_reducible rfl)
        case' restc11_49 => try simp only [Act.put, List.getElem_toArray, List.getElem_cons_zero, List.getElem_cons_succ, List.setIfInBounds_toArray, List.set_cons_zero, List.set_cons_succ]
        refine wpAnyH_done (by kernel_rfl) ?_ _
        refine NoPanic.normal ?_
        go_wp2_with fail
        go_meet
        exact ⟨wa.heap.size, rfl, rfl, HWs.out⟩
    case rest =>
      obtain ⟨b5, rfl, rfl, hbl⟩ := hcut
      go_wp2_with fail
      go_ret
      have hA1 : Cw B wc cb bb pm bm (.slice A c.l.length cl) vb (.agg #[.int .i64 c.inn.a.1, .int .i64 c.inn.a.2.1, .slice A0 An0 Ac0, .int .i64 c.inn.b.1, .int .i64 c.inn.b.2.1, .slice A1 An1 Ac1, .int .i64 c.inn.c.1, .int .i64 c.inn.c.2.1, .slice A2 An2 Ac2, .map m]) (stmC c x) := by rw [HSC.out]; exact HC.out.below hbl
      have hA2 : Turned (Cs cb bb pm bm (.slice A c.l.length cl) vb) w wc := Turned.of_below (bch HB.out hbl HB.out.size)
      have hAX : ∀ j, j < w.heap.size → Av j (.agg #[.int .i64 c.inn.a.1, .int .i64 c.inn.a.2.1, .slice A0 An0 Ac0, .int .i64 c.inn.b.1, .int .i64 c.inn.b.2.1, .slice A1 An1 Ac1, .int .i64 c.inn.c.1, .int .i64 c.inn.c.2.1, .slice A2 An2 Ac2, .map m]) c.inn → Av j (.agg #[.int .i64 c.inn.a.1, .int .i64 c.inn.a.2.1, .slice A0 An0 Ac0, .int .i64 c.inn.b.1, .int .i64 c.inn.b.2.1, .slice A1 An1 Ac1, .int .i64 c.inn.c.1, .int .i64 c.inn.c.2.1, .slice A2 An2 Ac2, .map m]) (stmC c x).inn := fun j hj h => by rw [HSC.out]; exact h
      first | exact ⟨vb, _, by rw [HE.out]; rfl, hA1, hA2, fun j h => .inl h, hAX⟩ | exact ⟨by rw [HE.out]; rfl, vb, _, hA1, hA2, fun j h => .inl h, hAX⟩
end Go.Proofs.YtnfbhocppijbjaaDoor
/- A core takes an entry. -/
namespace Go.Proofs.YtnfbhocppijbjaaDoor
open Go.RowKit Go.Maps Co Key Rw Sa Od

abbrev tEnt : TypeId := 31
namespace Co
/-- An entry: its kind, order, key, code, statement. -/
structure Ent where
  kind : Int
  o : Ord5
  k : Int × Int
  code : Int
  s : In.Stm
def applyE (c : Cor) (e : Ent) : Int := if e.kind = 1 then placeE c e.o else if e.kind = 2 then cstopE c e.k.1 else if e.kind = 3 then replyE c e.k.1 e.k.2 e.code else if e.kind = 4 then In.accE c.inn e.s else 2
def applyC (c : Cor) (e : Ent) : Cor := if e.kind = 1 then placeC c e.o else if e.kind = 2 then cstopC c e.k.1 else if e.kind = 3 then replyC c e.k.1 e.k.2 e.code else if e.kind = 4 then stmC c e.s else c
/-- What is asked of a core ahead of an entry: its postings' names stay apart. -/
structure ApOk (c : Cor) (e : Ent) : Prop where
  l : c.l.length ≤ 60
  b : c.b.length ≤ 90000
  am : ∀ s ∈ c.l, 0 ≤ s.amt ∧ s.amt ≤ 1099511627776
  rep : e.kind = 3 → replyE c e.k.1 e.k.2 e.code = 0 → ∀ p ∈ postR c e.k.1 e.k.2 e.code, mayP p ∧ ∀ x ∈ c.b, x.id ≠ p.id
  stm : e.kind = 4 → In.accE c.inn e.s = 0 → (∀ p ∈ stmPs c.inn (In.accI c.inn e.s) e.s.2.1 60, mayP p) ∧ ((c.b ++ stmPs c.inn (In.accI c.inn e.s) e.s.2.1 60).map (·.id)).Nodup
end Co
theorem cstop_inn (c : Cor) (o : Int) : (cstopC c o).inn = c.inn := by
  unfold cstopC
  split
  · split <;> rfl
  · rfl
theorem reply_inn (c : Cor) (o d code : Int) : (replyC c o d code).inn = c.inn := by
  unfold replyC
  split
  · split <;> rfl
  · rfl
set_option linter.unusedSimpArgs false in
set_option linter.unusedVariables false in
set_option maxRecDepth 100000 in
set_option maxHeartbeats 16000000 in
theorem capply_any {B : Nat} {w : World} {cb bb pm bm : Nat} {vl vb vI : Value} {c : Cor} (h : Cw B w cb bb pm bm vl vb vI c) (e : Ent) (u : Value) (hu : Rd w u e.s.2.2) (hT : PT w) (hok : ApOk c e) (hk : -9223372036854775808 ≤ e.k.1 ∧ e.k.1 ≤ 9223372036854775807)
    (hput : ∀ W, Below B w W → Calls Tryd.prog 46 #[.agg #[.int .i64 e.k.1, .int .i64 e.k.2]] W fun e2 w' => e2 = .returned (.string ⟨(putK e.k.1 e.k.2).toArray⟩) ∧ Below W.heap.size W w')
    (hito : ∀ (n : Int) W, 0 ≤ n → n ≤ 1073741824 → Below B w W → Calls Tryd.prog 47 #[.int .i64 n] W fun e w' => e = .returned (.string ⟨(Lib.itoa n).toArray⟩) ∧ Below W.heap.size W w') :
    Calls Tryd.prog 10 #[.pointer (some ⟨cb, 0, none⟩), .agg #[.int .i64 e.kind, .int .i64 e.o.1, .string ⟨e.o.2.1.toArray⟩, .string ⟨e.o.2.2.1.toArray⟩, .int .i64 e.o.2.2.2.1, .int .i64 e.o.2.2.2.2, .int .i64 e.k.1, .int .i64 e.k.2, .int .i64 e.code, .int .i64 e.s.1, .int .i64 e.s.2.1, u]] w fun e2 w' => ∃ vl' vb' vI', e2 = .returned (.int .i64 (applyE c e)) ∧ Cw B w' cb bb pm bm vl' vb' vI' (applyC c e) ∧ Turned (Cs cb bb pm bm vl vb) w w' ∧ (∀ j, vl'.ownBlock = some j → vl.ownBlock = some j ∨ w.heap.size ≤ j) ∧ (∀ j, vb'.ownBlock = some j → vb.ownBlock = some j ∨ w.heap.size ≤ j) ∧ ∀ j, j < w.heap.size → Av j vI c.inn → Av j vI' (applyC c e).inn := by
  obtain ⟨Au, cu, rfl, _⟩ := hu.shape
  obtain ⟨wa, hA⟩ : ∃ wa, wa = w.alloc (.cells #[.int .i64 e.kind, .int .i64 e.o.1, .string ⟨e.o.2.1.toArray⟩, .string ⟨e.o.2.2.1.toArray⟩, .int .i64 e.o.2.2.2.1, .int .i64 e.o.2.2.2.2, .int .i64 e.k.1, .int .i64 e.k.2, .int .i64 e.code, .int .i64 e.s.1, .int .i64 e.s.2.1, .slice Au e.s.2.2.length cu] tEnt) := ⟨_, rfl⟩
  have hB : Below w.heap.size w wa := by rw [hA]; exact below_alloc _ _
  have HX := Lib.hid (show wa.heap[w.heap.size]? = some (.cells #[.int .i64 e.kind, .int .i64 e.o.1, .string ⟨e.o.2.1.toArray⟩, .string ⟨e.o.2.2.1.toArray⟩, .int .i64 e.o.2.2.2.1, .int .i64 e.o.2.2.2.2, .int .i64 e.k.1, .int .i64 e.k.2, .int .i64 e.code, .int .i64 e.s.1, .int .i64 e.s.2.1, .slice Au e.s.2.2.length cu] tEnt (0, 0)) by rw [hA]; exact heap_new _ _)
  have HC := Lib.hid (h.below hB); have HA := Lib.hid hA; have HB := Lib.hid hB; have HU := Lib.hid (hu.keep hB); have HT := Lib.hid (hT.below hB); have HOK := Lib.hid hok
  have hBw : B ≤ w.heap.size := by have := h.ge; have := heap_lt h.hc; omega
  have HPUT := Lib.hid (fun W (hW : Below B wa W) => hput W ((hB.mono hBw).trans hW)); have HITO := Lib.hid (fun (n : Int) W h0 h1 (hW : Below B wa W) => hito n W h0 h1 ((hB.mono hBw).trans hW))
  have hl5 : c.l.length ≤ 100000 := by have := hok.l; omega
  clear hA hB hu hT hok hput hito
  obtain ⟨m0, m1, m2, m3, m4, m5, m6, m7, m8, m9, m10, m11⟩ := cell12 HX.out
  go_enter Tryd.func10, Tryd.ntmps10
  go_upto_region 1 with (fail)
  rw [← HA.out]
  by_cases hk1 : e.kind = 1
  · have q1 := beqT hk1
    have HE := Lib.hid (show applyE c e = placeE c e.o by unfold applyE; rw [if_pos hk1])
    have HCC := Lib.hid (show applyC c e = placeC c e.o by unfold applyC; rw [if_pos hk1])
    clear hk1
    go_wp2_with (go_at_call 14; refine (cnone_any HC.out).mono ?_; rintro e w1 ⟨rfl, hb⟩; subst hb)
    refine (cplace_any HC.out e.o hl5).mono ?_
    rintro e2 w2 ⟨vl', rfl, hc2, ht2, hf2⟩
    go_wp2_with fail
    go_ret
    exact ⟨vl', vb, vI, by rw [HE.out]; rfl, by rw [HCC.out]; exact hc2, (Turned.of_below HB.out).trans ht2, fun j hj => (hf2 j hj).imp id (fun h => by have := HB.out.size; omega), fun j hj => .inl hj, fun j hj h => by rw [HCC.out]; unfold placeC; split <;> exact h⟩
  · have q1 := beqF hk1
    by_cases hk2 : e.kind = 2
    · have q2 := beqT hk2
      have HE := Lib.hid (show applyE c e = cstopE c e.k.1 by unfold applyE; rw [if_neg hk1]; rw [if_pos hk2])
      have HCC := Lib.hid (show applyC c e = cstopC c e.k.1 by unfold applyC; rw [if_neg hk1]; rw [if_pos hk2])
      clear hk1 hk2
      go_wp2_with (go_at_call 14; refine (cnone_any HC.out).mono ?_; rintro e w1 ⟨rfl, hb⟩; subst hb)
      refine (cstop_any HC.out e.k.1 ⟨by omega, by omega⟩ hl5).mono ?_
      rintro e2 w2 ⟨rfl, hc2, ht2⟩
      go_wp2_with fail
      go_ret
      exact ⟨vl, vb, vI, by rw [HE.out]; rfl, by rw [HCC.out]; exact hc2, (Turned.of_below HB.out).trans ht2, fun j hj => .inl hj, fun j hj => .inl hj, fun j hj h => by rw [HCC.out]; rw [cstop_inn]; exact h⟩
    · have q2 := beqF hk2
      by_cases hk3 : e.kind = 3
      · have q3 := beqT hk3
        have HE := Lib.hid (show applyE c e = replyE c e.k.1 e.k.2 e.code by unfold applyE; rw [if_neg hk1]; rw [if_neg hk2]; rw [if_pos hk3])
        have HCC := Lib.hid (show applyC c e = replyC c e.k.1 e.k.2 e.code by unfold applyC; rw [if_neg hk1]; rw [if_neg hk2]; rw [if_pos hk3])
        have hrep := HOK.out.rep hk3
        have HREP := Lib.hid hrep
        clear hrep
        clear hk1 hk2 hk3
        go_wp2_with (go_at_call 14; refine (cnone_any HC.out).mono ?_; rintro e w1 ⟨rfl, hb⟩; subst hb)
        refine (creply_any HC.out e.k.1 e.k.2 e.code ⟨by omega, by omega⟩ hl5 (by have := HOK.out.b; omega) HOK.out.am HREP.out (fun W hW => HPUT.out W hW)).mono ?_
        rintro e2 w2 ⟨vb', rfl, hc2, ht2, hf2⟩
        go_wp2_with fail
        go_ret
        exact ⟨vl, vb', vI, by rw [HE.out]; rfl, by rw [HCC.out]; exact hc2, (Turned.of_below HB.out).trans ht2, fun j hj => .inl hj, fun j hj => (hf2 j hj).imp id (fun h => by have := HB.out.size; omega), fun j hj h => by rw [HCC.out]; rw [reply_inn]; exact h⟩
      · have q3 := beqF hk3
        by_cases hk4 : e.kind = 4
        · have q4 := beqT hk4
          have HE := Lib.hid (show applyE c e = In.accE c.inn e.s by unfold applyE; rw [if_neg hk1]; rw [if_neg hk2]; rw [if_neg hk3]; rw [if_pos hk4])
          have HCC := Lib.hid (show applyC c e = stmC c e.s by unfold applyC; rw [if_neg hk1]; rw [if_neg hk2]; rw [if_neg hk3]; rw [if_pos hk4])
          have hstm := HOK.out.stm hk4
          have HSTM := Lib.hid hstm
          clear hstm
          clear hk1 hk2 hk3 hk4
          go_wp2_with (go_at_call 14; refine (cnone_any HC.out).mono ?_; rintro e w1 ⟨rfl, hb⟩; subst hb)
          refine (cstmt_any HC.out e.s _ HU.out HT.out hl5 HOK.out.b (fun h => (HSTM.out h).1) (fun h => (HSTM.out h).2) (fun n W h0 h1 hW => HITO.out n W h0 h1 hW)).mono ?_
          rintro e2 w2 ⟨vb', vI', rfl, hc2, ht2, hf2, ha2⟩
          go_wp2_with fail
          go_ret
          exact ⟨vl, vb', vI', by rw [HE.out]; rfl, by rw [HCC.out]; exact hc2, (Turned.of_below HB.out).trans ht2, fun j hj => .inl hj, fun j hj => (hf2 j hj).imp id (fun h => by have := HB.out.size; omega), fun j hj h => by rw [HCC.out]; exact ha2 j (by have := HB.out.size; omega) h⟩
        · have q4 := beqF hk4
          have HE := Lib.hid (show applyE c e = 2 by unfold applyE; rw [if_neg hk1]; rw [if_neg hk2]; rw [if_neg hk3]; rw [if_neg hk4])
          have HCC := Lib.hid (show applyC c e = c by unfold applyC; rw [if_neg hk1]; rw [if_neg hk2]; rw [if_neg hk3]; rw [if_neg hk4])
          clear hk1 hk2 hk3 hk4
          go_wp2_with (go_at_call 14; refine (cnone_any HC.out).mono ?_; rintro e w1 ⟨rfl, hb⟩; subst hb)
          go_ret
          exact ⟨vl, vb, vI, by rw [HE.out]; rfl, by rw [HCC.out]; exact HC.out, Turned.of_below HB.out, fun j hj => .inl hj, fun j hj => .inl hj, fun j hj h => by rw [HCC.out]; exact h⟩
end Go.Proofs.YtnfbhocppijbjaaDoor
/- What holds of a core behind whatever entries, plain. -/
namespace Go.Proofs.YtnfbhocppijbjaaDoor
open Co Key Rw Sa Od

namespace Co
/- All accounts together. -/
theorem five (x d : Int) (h0 : 0 ≤ d) (h4 : d ≤ 4) : (if d = 0 then x else 0) + (if d = 1 then x else 0) + (if d = 2 then x else 0) + (if d = 3 then x else 0) + (if d = 4 then x else 0) = x := by
  obtain rfl | rfl | rfl | rfl | rfl : d = 0 ∨ d = 1 ∨ d = 2 ∨ d = 3 ∨ d = 4 := by omega
  all_goals simp
theorem mov_zero {p : Po} (h : mayP p) : movI p 0 + movI p 1 + movI p 2 + movI p 3 + movI p 4 = 0 := by
  obtain ⟨_, _, _, _, d0, d4, c0, c4, _, _, _⟩ := h
  have h1 := five p.amt p.deb d0 d4
  have h2 := five p.amt p.cre c0 c4
  unfold movI
  omega
theorem bal_cons (p : Po) (b : List Po) (a o : Int) : balI (p :: b) a o = (if o = 0 ∨ p.ord = o then movI p a else 0) + balI b a o := by unfold balI; rw [List.map_cons, List.sum_cons]
theorem bal_zero {b : List Po} (h : ∀ p ∈ b, mayP p) (o : Int) : balI b 0 o + balI b 1 o + balI b 2 o + balI b 3 o + balI b 4 o = 0 := by
  induction b with
  | nil => simp [balI]
  | cons p b ih =>
    have h1 := mov_zero (h p (List.mem_cons_self ..))
    have h2 := ih fun q hq => h q (List.mem_cons_of_mem _ hq)
    simp only [bal_cons]
    split <;> omega
theorem bal_app (b c : List Po) (a o : Int) : balI (b ++ c) a o = balI b a o + balI c a o := by unfold balI; rw [List.map_append, List.sum_append]
/- What of a saga's deeds stays. -/
theorem set_deed (s : Sg) (k j v : Int) (hk : 0 ≤ k ∧ k < 6) (hj : 0 ≤ j ∧ j < 6) : (setI s k v).deed j = if j = k then v else s.deed j := by
  rcases deed6 hk with rfl | rfl | rfl | rfl | rfl | rfl <;> rcases deed6 hj with rfl | rfl | rfl | rfl | rfl | rfl <;> rfl
theorem set_amt (s : Sg) (k v : Int) : (setI s k v).amt = s.amt := by
  unfold setI; repeat' split
  all_goals rfl
theorem onI_set (s : Sg) : onI s = s ∨ ∃ k, (0 ≤ k ∧ k < 6) ∧ s.deed k = 0 ∧ onI s = setI s k 1 := by
  unfold onI
  by_cases hb : backB s = false
  · rw [if_pos hb]
    by_cases h0 : s.d0 = 0
    · rw [if_pos h0]; exact .inr ⟨0, by omega, h0, rfl⟩
    rw [if_neg h0]
    by_cases h1 : s.d1 = 0
    · rw [if_pos h1]; exact .inr ⟨1, by omega, h1, rfl⟩
    rw [if_neg h1]
    by_cases h2 : s.d2 = 0
    · rw [if_pos h2]; exact .inr ⟨2, by omega, h2, rfl⟩
    rw [if_neg h2]; exact .inl rfl
  · rw [if_neg hb]
    by_cases h0 : (s.d2 = 2 ∨ s.d2 = 4) ∧ s.d5 = 0
    · rw [if_pos h0]; exact .inr ⟨5, by omega, h0.2, rfl⟩
    rw [if_neg h0]
    by_cases h1 : (s.d1 = 2 ∨ s.d1 = 4) ∧ s.d4 = 0
    · rw [if_pos h1]; exact .inr ⟨4, by omega, h1.2, rfl⟩
    rw [if_neg h1]
    by_cases h2 : (s.d0 = 2 ∨ s.d0 = 4) ∧ s.d3 = 0
    · rw [if_pos h2]; exact .inr ⟨3, by omega, h2.2, rfl⟩
    rw [if_neg h2]; exact .inl rfl
theorem net_deed (s : Sg) : Sa.netI s = if s.deed 1 = 2 ∧ s.deed 4 ≠ 2 then s.amt else 0 := rfl
theorem onI_net (s : Sg) : Sa.netI (onI s) = Sa.netI s := by
  rcases onI_set s with h | ⟨k, hk, h0, h⟩
  · rw [h]
  · rw [h, net_deed, net_deed, set_deed s k 1 1 hk (by omega), set_deed s k 4 1 hk (by omega), set_amt]
    by_cases e1 : (1 : Int) = k
    · subst e1; rw [if_pos rfl, h0]; simp
    · rw [if_neg e1]
      by_cases e4 : (4 : Int) = k
      · subst e4; rw [if_pos rfl, h0]; simp
      · rw [if_neg e4]
theorem onI_deed (s : Sg) (j : Int) (hj : 0 ≤ j ∧ j < 6) (h : s.deed j ≠ 0) : (onI s).deed j = s.deed j := by
  rcases onI_set s with e | ⟨k, hk, h0, e⟩
  · rw [e]
  · rw [e, set_deed s k j 1 hk hj, if_neg]
    intro ejk; subst ejk; exact h h0
theorem onI_amt (s : Sg) : (onI s).amt = s.amt := by
  rcases onI_set s with e | ⟨k, hk, h0, e⟩
  · rw [e]
  · rw [e, set_amt]
theorem waits_deed {s : Sg} (h : waitsI s ≠ 6) : (0 ≤ waitsI s ∧ waitsI s < 6) ∧ s.deed (waitsI s) = 1 := by
  unfold waitsI at *
  by_cases h0 : s.d0 = 1
  · rw [if_pos h0]; exact ⟨by omega, h0⟩
  rw [if_neg h0] at *
  by_cases h1 : s.d1 = 1
  · rw [if_pos h1]; exact ⟨by omega, h1⟩
  rw [if_neg h1] at *
  by_cases h2 : s.d2 = 1
  · rw [if_pos h2]; exact ⟨by omega, h2⟩
  rw [if_neg h2] at *
  by_cases h3 : s.d3 = 1
  · rw [if_pos h3]; exact ⟨by omega, h3⟩
  rw [if_neg h3] at *
  by_cases h4 : s.d4 = 1
  · rw [if_pos h4]; exact ⟨by omega, h4⟩
  rw [if_neg h4] at *
  by_cases h5 : s.d5 = 1
  · rw [if_pos h5]; exact ⟨by omega, h5⟩
  rw [if_neg h5] at *
  exact absurd rfl h
def doneB (v : Int) : Prop := v = 2 ∨ v = 3
theorem reply_facts {s : Sg} {d code : Int} (h : replyB s d code = true) : (0 ≤ d ∧ d < 6) ∧ s.deed d = 1 ∧ doneB ((replyI s d code).deed d) ∧ (∀ j, 0 ≤ j ∧ j < 6 → doneB (s.deed j) → doneB ((replyI s d code).deed j)) ∧ (replyI s d code).amt = s.amt := by
  unfold replyB at h
  simp only [Bool.and_eq_true, Bool.or_eq_true, decide_eq_true_eq] at h
  obtain ⟨⟨h6, hd⟩, hc⟩ := h
  obtain ⟨hw, h1⟩ := waits_deed h6
  rw [hd] at hw h1
  unfold replyI
  have hsd := set_deed s d d (code + 1) hw hw
  rw [if_pos rfl] at hsd
  refine ⟨hw, h1, ?_, fun j hj hdn => ?_, by rw [onI_amt, set_amt]⟩
  · rw [onI_deed _ d hw (by rw [hsd]; omega), hsd]; unfold doneB; omega
  · have hjd : ¬ j = d := fun e => by subst e; rw [h1] at hdn; unfold doneB at hdn; omega
    have hsj := set_deed s d j (code + 1) hw hj
    rw [if_neg hjd] at hsj
    rw [onI_deed _ j hj (by rw [hsj]; unfold doneB at hdn; omega), hsj]; exact hdn
theorem can_deed (s : Sg) (b : Bool) (k : Int) : ({ s with can := b } : Sg).deed k = s.deed k := rfl
theorem stop_facts {s : Sg} (h : goingB s = true) : Sa.netI (stopI s) = Sa.netI s ∧ (∀ j, 0 ≤ j ∧ j < 6 → doneB (s.deed j) → doneB ((stopI s).deed j)) ∧ (stopI s).amt = s.amt := by
  unfold goingB at h
  simp only [Bool.and_eq_true, decide_eq_true_eq] at h
  obtain ⟨hw, h1⟩ := waits_deed h.1
  unfold stopI
  refine ⟨?_, fun j hj hdn => ?_, by rw [onI_amt]; exact set_amt ..⟩
  · rw [onI_net]
    show Sa.netI (setI s (waitsI s) 4) = _
    rw [net_deed, net_deed, set_deed s _ 1 4 hw (by omega), set_deed s _ 4 4 hw (by omega), set_amt]
    by_cases e1 : (1 : Int) = waitsI s
    · rw [if_pos e1]; rw [← e1] at h1; rw [h1]; simp
    · rw [if_neg e1]
      by_cases e4 : (4 : Int) = waitsI s
      · rw [if_pos e4]; rw [← e4] at h1; rw [h1]; simp
      · rw [if_neg e4]
  · have hjd : ¬ j = waitsI s := fun e => by rw [e, h1] at hdn; unfold doneB at hdn; omega
    have hsj := set_deed s (waitsI s) j 4 hw hj
    rw [if_neg hjd] at hsj
    rw [onI_deed _ j hj (by rw [can_deed, hsj]; unfold doneB at hdn; omega), can_deed, hsj]; exact hdn
/- The names of postings. -/
theorem putK_len10 (o d : Int) : (putK o d).length ≤ 10 := by
  by_cases h : chk o d = true
  · have h1 : (Lib.itoa o).length ≤ 2 := by
      have hc := chk_iff.1 h
      obtain ⟨u, rfl⟩ : ∃ u : Nat, o = (u : Int) := ⟨o.toNat, by omega⟩
      rw [Lib.itoa_nonneg]
      exact Mon.dec_len 1 u (by omega)
    have h2 := wordL_len d
    unfold putK
    rw [if_pos h, List.length_append, List.length_cons]
    omega
  · rw [putK_no h]; simp
theorem itoa_digits {n : Int} (h : 0 ≤ n) : ∀ c ∈ Lib.itoa n, Mon.Digit c := by
  obtain ⟨u, rfl⟩ : ∃ u : Nat, n = (u : Int) := ⟨n.toNat, by omega⟩
  rw [Lib.itoa_nonneg]
  exact Mon.dec_digit u
theorem itoa_inj {a b : Int} (ha : Mon.InR a) (hb : Mon.InR b) (e : Lib.itoa a = Lib.itoa b) : a = b := by
  have h1 := Mon.getM_itoa a ha
  rw [e, Mon.getM_itoa b hb] at h1
  exact (Prod.mk.inj h1).1.symm
theorem sidL_inj {q o q' o' : Int} (h : 0 ≤ q ∧ q ≤ 1073741824) (h' : 0 ≤ q' ∧ q' ≤ 1073741824) (ho : 0 ≤ o ∧ o ≤ 60) (ho' : 0 ≤ o' ∧ o' ≤ 60) (e : sidL q o = sidL q' o') : q = q' ∧ o = o' := by
  unfold sidL at e
  rw [List.append_assoc, List.append_assoc, List.append_assoc, List.append_assoc] at e
  have e := List.append_cancel_left e
  obtain ⟨e1, e2⟩ := split_dash (a := Lib.itoa q) (c := Lib.itoa q') e (itoa_nodash h.1) (itoa_nodash h'.1)
  exact ⟨itoa_inj (by unfold Mon.InR; omega) (by unfold Mon.InR; omega) e1, itoa_inj (by unfold Mon.InR; omega) (by unfold Mon.InR; omega) e2⟩
theorem put_sid {o d q o' : Int} (h : chk o d = true) : putK o d ≠ sidL q o' := by
  intro e
  have hc := chk_iff.1 h
  unfold putK sidL at e
  rw [if_pos h] at e
  cases hi : Lib.itoa o with
  | nil => rw [hi] at e; simp at e
  | cons c l =>
    have hd := itoa_digits (n := o) (by omega) c (by rw [hi]; simp)
    rw [hi] at e
    simp only [List.cons_append, List.nil_append, List.cons.injEq] at e
    rw [e.1] at hd
    unfold Mon.Digit at hd
    exact absurd hd.2 (by decide)
theorem sidL_len {q o : Int} (h : 0 ≤ q ∧ q ≤ 1073741824) (ho : 0 ≤ o ∧ o ≤ 60) : 0 < (sidL q o).length ∧ (sidL q o).length ≤ 1000 := by
  have h1 := Lib.itoa_length_le q (by omega) (by omega)
  have h2 := Lib.itoa_length_le o (by omega) (by omega)
  unfold sidL
  simp only [List.length_append, List.length_cons, List.length_nil]
  omega
/- What a list of rows says. -/
def saidR (l : List R5) (k : Int × Int) : Int := (l.map fun r => if r.1 = k ∧ r.2.1 = 1 then r.2.2.1 else 0).sum
theorem said_cons (r : R5) (l : List R5) (k : Int × Int) : saidR (r :: l) k = (if r.1 = k ∧ r.2.1 = 1 then r.2.2.1 else 0) + saidR l k := by unfold saidR; rw [List.map_cons, List.sum_cons]
theorem said_none {l : List R5} {k : Int × Int} (h : ∀ r ∈ l, r.1 ≠ k) : saidR l k = 0 := by
  induction l with
  | nil => rfl
  | cons r l ih => rw [said_cons, ih fun x hx => h x (List.mem_cons_of_mem _ hx), if_neg fun e => h r (List.mem_cons_self ..) e.1]; rfl
theorem said_find {l : List R5} (hn : (l.map (·.1)).Nodup) (k : Int × Int) : saidR l k = match In.findR l k with | none => 0 | some r => if r.2.1 = 1 then r.2.2.1 else 0 := by
  induction l with
  | nil => rfl
  | cons r l ih =>
    rw [List.map_cons, List.nodup_cons] at hn
    rw [said_cons]
    unfold In.findR
    by_cases hr : r.1 = k
    · rw [List.find?_cons_of_pos (by simpa using hr), said_none fun x hx e => hn.1 (by rw [hr, ← e]; exact List.mem_map.2 ⟨x, hx, rfl⟩)]
      simp [hr]
    · rw [List.find?_cons_of_neg (by simpa using hr), if_neg fun e => hr e.1, Int.zero_add]
      exact ih hn.2
theorem amt_said {I : In.Inn} (h : In.Fine I) {o d : Int} (hk : chk o d = true) (hp : partyI d = 0) : In.amtI I o d = saidR I.a.2.2 (o, d) := by
  unfold In.amtI
  rw [h.rowOf_party hk, hp, said_find (In.ok_nodup h.a)]
  rfl
/-- What the payment's statement says of an order. -/
def saidO (l : List R5) (o : Int) : Int := saidR l (o, 1) - saidR l (o, 4)
theorem net_said {I : In.Inn} (h : In.Fine I) {o : Int} (ho : 1 ≤ o ∧ o ≤ 60) : In.netI I o = saidO I.a.2.2 o := by
  unfold In.netI saidO
  rw [amt_said h (chk_iff.2 (by omega)) (by decide), amt_said h (chk_iff.2 (by omega)) (by decide)]
/- What a statement's postings come to. -/
theorem stm_cases (q o by_ : Int) : (by_ = 0 ∧ stmBy q o by_ = []) ∨ ∃ p, stmBy q o by_ = [p] ∧ p.id = sidL q o ∧ p.ord = o ∧ p.amt = (if 0 < by_ then by_ else -by_) ∧ 0 < p.amt ∧ movI p 1 = -by_ ∧ movI p 2 = by_ ∧ 0 ≤ p.deb ∧ p.deb ≤ 4 ∧ 0 ≤ p.cre ∧ p.cre ≤ 4 ∧ p.deb ≠ p.cre := by
  unfold stmBy
  by_cases h1 : 0 < by_
  · rw [if_pos h1, if_pos h1]
    exact .inr ⟨_, rfl, rfl, rfl, rfl, h1, by simp [movI], by simp [movI], by simp⟩
  · rw [if_neg h1, if_neg h1]
    by_cases h2 : by_ < 0
    · rw [if_pos h2]
      exact .inr ⟨_, rfl, rfl, rfl, rfl, by show 0 < -by_; omega, by simp [movI], by simp [movI], by simp⟩
    · rw [if_neg h2]; exact .inl ⟨by omega, rfl⟩
theorem bal_one (p : Po) (a o : Int) : balI [p] a o = if o = 0 ∨ p.ord = o then movI p a else 0 := by rw [bal_cons]; simp [balI]
theorem stm1_bal (I J : In.Inn) (q n o : Int) (ho : 1 ≤ o) : balI (stmP1 I J q n) 1 o = (if n = o then -(In.netI J o - In.netI I o) else 0) ∧ balI (stmP1 I J q n) 2 o = (if n = o then In.netI J o - In.netI I o else 0) := by
  unfold stmP1
  rcases stm_cases q n (In.netI J n - In.netI I n) with ⟨h0, h⟩ | ⟨p, h, _, ho2, _, _, m1, m2, _⟩
  · rw [h]
    by_cases e : n = o
    · subst e; simp [balI]; omega
    · simp [balI, e]
  · rw [h, bal_one, bal_one, ho2, m1, m2]
    by_cases e : n = o
    · subst e; simp
    · rw [if_neg (by omega), if_neg e, if_neg (by omega), if_neg e]; exact ⟨rfl, rfl⟩
theorem stm_bal (I J : In.Inn) (q : Int) (n : Nat) (o : Int) (ho : 1 ≤ o) : balI (stmPs I J q n) 1 o = (if o ≤ n then -(In.netI J o - In.netI I o) else 0) ∧ balI (stmPs I J q n) 2 o = (if o ≤ n then In.netI J o - In.netI I o else 0) := by
  induction n with
  | zero => simp [stmPs, balI]; omega
  | succ n ih =>
    have h1 := stm1_bal I J q ((n : Int) + 1) o ho
    rw [stmPs_succ, bal_app, bal_app, ih.1, ih.2, h1.1, h1.2]
    by_cases e : o ≤ n
    · rw [if_pos e, if_pos e, if_neg (by omega), if_pos (by push_cast; omega), if_neg (by omega), if_pos (by push_cast; omega)]; omega
    · by_cases e2 : (n : Int) + 1 = o
      · rw [if_neg e, if_neg e, if_pos e2, if_pos (by push_cast; omega), if_pos e2, if_pos (by push_cast; omega)]; omega
      · rw [if_neg e, if_neg e, if_neg e2, if_neg (by push_cast; omega), if_neg e2, if_neg (by push_cast; omega)]; omega
theorem stm_ids (I J : In.Inn) (q : Int) (n : Nat) : ∀ p ∈ stmPs I J q n, ∃ o, 1 ≤ o ∧ o ≤ (n : Int) ∧ p.id = sidL q o ∧ p ∈ stmP1 I J q o := by
  intro p hp
  unfold stmPs at hp
  obtain ⟨i, hi, hpi⟩ := List.mem_flatMap.1 hp
  have := List.mem_range.1 hi
  refine ⟨(i : Int) + 1, by omega, by omega, ?_, hpi⟩
  unfold stmP1 at hpi
  rcases stm_cases q ((i : Int) + 1) (In.netI J ((i : Int) + 1) - In.netI I ((i : Int) + 1)) with ⟨_, h⟩ | ⟨p', h, hid, _⟩
  · rw [h] at hpi; cases hpi
  · rw [h] at hpi; rw [List.mem_singleton.1 hpi]; exact hid
theorem stm_nodup (I J : In.Inn) {q : Int} (hq : 0 ≤ q ∧ q ≤ 1073741824) (n : Nat) (hn : n ≤ 60) : ((stmPs I J q n).map (·.id)).Nodup := by
  induction n with
  | zero => simp [stmPs]
  | succ n ih =>
    rw [stmPs_succ, List.map_append, List.nodup_append]
    refine ⟨ih (by omega), ?_, ?_⟩
    · unfold stmP1
      rcases stm_cases q ((n : Int) + 1) (In.netI J ((n : Int) + 1) - In.netI I ((n : Int) + 1)) with ⟨_, h⟩ | ⟨p', h, hid, _⟩ <;> rw [h] <;> simp
    · intro x hx y hy e
      obtain ⟨p, hp, rfl⟩ := List.mem_map.1 hx
      obtain ⟨p2, hp2, rfl⟩ := List.mem_map.1 hy
      obtain ⟨o, h1, h2, hid, _⟩ := stm_ids I J q n p hp
      unfold stmP1 at hp2
      rcases stm_cases q ((n : Int) + 1) (In.netI J ((n : Int) + 1) - In.netI I ((n : Int) + 1)) with ⟨_, h⟩ | ⟨p', h, hid', _⟩
      · rw [h] at hp2; cases hp2
      · rw [h] at hp2
        obtain rfl := List.mem_singleton.1 hp2
        have := (sidL_inj hq hq (by omega) (by omega) (hid.symm.trans (e.trans hid'))).2
        omega
def netC (c : Cor) (o : Int) : Int := match c.l[o.toNat - 1]? with | none => 0 | some s => Sa.netI s
/-- What holds behind n entries. -/
structure CoI (c : Cor) (n : Nat) : Prop where
  fi : In.Fine c.inn
  le : c.l.length ≤ 60
  am : ∀ s ∈ c.l, 0 ≤ s.amt ∧ s.amt ≤ 1099511627776
  bl : c.b.length ≤ 60 * n
  may : ∀ p ∈ c.b, mayP p
  nd : (c.b.map (·.id)).Nodup
  nm : ∀ p ∈ c.b, (∃ (i : Nat) (d : Int), i < 60 ∧ (0 ≤ d ∧ d < 6) ∧ p.id = putK ((i : Int) + 1) d ∧ ∃ s, c.l[i]? = some s ∧ doneB (s.deed d)) ∨ ∃ q o : Int, p.id = sidL q o ∧ 1 ≤ q ∧ q ≤ c.inn.a.2.1 ∧ 1 ≤ o ∧ o ≤ 60
  sus : ∀ o, 1 ≤ o → o ≤ 60 → balI c.b 1 o = netC c o - In.netI c.inn o
  cash : ∀ o, 1 ≤ o → o ≤ 60 → balI c.b 2 o = In.netI c.inn o
theorem inn_nil_net (o : Int) : In.netI In.nil o = 0 := rfl
theorem CoI.nil : CoI nilC 0 := ⟨In.Fine.nil, by decide, fun s h => (by cases h), by decide, fun p h => (by cases h), List.Pairwise.nil, fun p h => (by cases h), fun o _ _ => (by rw [show netC nilC o = 0 from rfl]; rfl), fun o _ _ => rfl⟩
theorem CoI.more {c : Cor} {n : Nat} (h : CoI c n) : CoI c (n + 1) := ⟨h.fi, h.le, h.am, by have := h.bl; omega, h.may, h.nd, h.nm, h.sus, h.cash⟩
theorem CoI.place {c : Cor} {n : Nat} (h : CoI c n) (o : Ord5) : CoI (placeC c o) (n + 1) := by
  unfold placeC
  by_cases he : placeE c o = 0
  · rw [if_pos he]
    have hcode : codeO o.1 o.2.1 o.2.2.1 o.2.2.2.1 o.2.2.2.2 = 0 := by
      unfold placeE at he
      by_cases hc : codeO o.1 o.2.1 o.2.2.1 o.2.2.2.1 o.2.2.2.2 = 0
      · exact hc
      · rw [if_pos hc] at he; exact absurd he hc
    have hlen : c.l.length < 60 := by
      unfold placeE at he
      rw [if_neg (by rw [hcode]; simp)] at he
      split at he
      · cases he
      · split at he
        · cases he
        · omega
    have hamt := codeO_ok hcode
    have hnet : ∀ q, netC { c with l := c.l ++ [beginI o.1 o.2.1 o.2.2.1 o.2.2.2.1 o.2.2.2.2] } q = netC c q := by
      intro q
      unfold netC
      show (match (c.l ++ [beginI o.1 o.2.1 o.2.2.1 o.2.2.2.1 o.2.2.2.2])[q.toNat - 1]? with | none => 0 | some s => Sa.netI s) = _
      by_cases hq : q.toNat - 1 < c.l.length
      · rw [List.getElem?_append_left hq]
      · rw [List.getElem?_append_right (by omega), List.getElem?_eq_none (l := c.l) (by omega)]
        by_cases h0 : q.toNat - 1 - c.l.length = 0
        · rw [h0]; rfl
        · rw [List.getElem?_eq_none (by simp; omega)]
    refine ⟨h.fi, ?_, ?_, by have := h.bl; show c.b.length ≤ _; omega, h.may, h.nd, ?_, ?_, h.cash⟩
    · show (c.l ++ [_]).length ≤ 60
      rw [List.length_append]; simp; omega
    · intro s hs
      rcases List.mem_append.1 hs with hs | hs
      · exact h.am s hs
      · rw [List.mem_singleton.1 hs]; show 0 ≤ o.2.2.2.2 ∧ o.2.2.2.2 ≤ _; omega
    · intro p hp
      rcases h.nm p hp with ⟨i, d, hi, hd, hid, s, hs, hdn⟩ | hx
      · exact .inl ⟨i, d, hi, hd, hid, s, by show (c.l ++ [_])[i]? = some s; rw [List.getElem?_append_left (List.getElem?_eq_some_iff.1 hs).1]; exact hs, hdn⟩
      · exact .inr hx
    · intro q h1 h2
      rw [hnet q]; exact h.sus q h1 h2
  · rw [if_neg he]; exact h.more
theorem set_named {l : List Sg} {k : Nat} {s t : Sg} (hs : l[k]? = some s) (hk : ∀ j, 0 ≤ j ∧ j < 6 → doneB (s.deed j) → doneB (t.deed j)) {i : Nat} {d : Int} (hd : 0 ≤ d ∧ d < 6) (h : ∃ u, l[i]? = some u ∧ doneB (u.deed d)) : ∃ u, (l.set k t)[i]? = some u ∧ doneB (u.deed d) := by
  obtain ⟨u, hu, hdn⟩ := h
  have hkl := (List.getElem?_eq_some_iff.1 hs).1
  by_cases e : k = i
  · subst e
    rw [hs] at hu
    obtain rfl := Option.some.inj hu
    exact ⟨t, by rw [List.getElem?_set_self hkl], hk d hd hdn⟩
  · exact ⟨u, by rw [List.getElem?_set_ne e]; exact hu, hdn⟩
theorem mem_set_amt {l : List Sg} {k : Nat} {s t : Sg} (hs : l[k]? = some s) (ha : t.amt = s.amt) (h : ∀ s ∈ l, 0 ≤ s.amt ∧ s.amt ≤ 1099511627776) : ∀ x ∈ l.set k t, 0 ≤ x.amt ∧ x.amt ≤ 1099511627776 := by
  intro x hx
  rcases List.mem_or_eq_of_mem_set hx with hx | rfl
  · exact h x hx
  · rw [ha]; exact h s (List.mem_of_getElem? hs)
theorem net_set {c : Cor} {k : Nat} {s t : Sg} (hs : c.l[k]? = some s) (b : List Po) (q : Int) (hq : 1 ≤ q) : netC { c with l := c.l.set k t, b := b } q = if q = (k : Int) + 1 then Sa.netI t else netC c q := by
  have hkl := (List.getElem?_eq_some_iff.1 hs).1
  unfold netC
  show (match (c.l.set k t)[q.toNat - 1]? with | none => 0 | some s => Sa.netI s) = _
  by_cases e : q = (k : Int) + 1
  · rw [if_pos e, show q.toNat - 1 = k by omega, List.getElem?_set_self hkl]
  · rw [if_neg e, List.getElem?_set_ne (by omega)]
theorem CoI.stop {c : Cor} {n : Nat} (h : CoI c n) (o : Int) : CoI (cstopC c o) (n + 1) := by
  unfold cstopC
  by_cases he : cstopE c o = 0
  · rw [if_pos he]
    cases hs : c.l[o.toNat - 1]? with
    | none => exact h.more
    | some s =>
      unfold cstopE at he
      split at he
      · cases he
      · rename_i hn
        rw [hs] at he
        simp only [] at he
        split at he
        · rename_i hg
          obtain ⟨f1, f2, f3⟩ := stop_facts hg
          have hkl := (List.getElem?_eq_some_iff.1 hs).1
          refine ⟨h.fi, by show (c.l.set _ _).length ≤ 60; rw [List.length_set]; exact h.le, mem_set_amt hs f3 h.am, by have := h.bl; show c.b.length ≤ _; omega, h.may, h.nd, ?_, ?_, h.cash⟩
          · intro p hp
            rcases h.nm p hp with ⟨i, d, hi, hd, hid, hx⟩ | hx
            · exact .inl ⟨i, d, hi, hd, hid, set_named hs f2 hd hx⟩
            · exact .inr hx
          · intro q h1 h2
            have hq := net_set (c := c) (t := stopI s) hs c.b q h1
            refine (h.sus q h1 h2).trans ?_
            show _ = netC { c with l := c.l.set (o.toNat - 1) (stopI s), b := c.b } q - _
            rw [hq, f1]
            by_cases e : q = ((o.toNat - 1 : Nat) : Int) + 1
            · rw [if_pos e]
              unfold netC
              rw [show q.toNat - 1 = o.toNat - 1 by omega, hs]
            · rw [if_neg e]
        · cases he
  · rw [if_neg he]; exact h.more
theorem net_bd2 {s : Sg} (h : 0 ≤ s.amt ∧ s.amt ≤ 1099511627776) : 0 ≤ Sa.netI s ∧ Sa.netI s ≤ 1099511627776 := net_bd h
/-- A reply's posting may be, and its name is new. -/
theorem CoI.rep {c : Cor} {n : Nat} (h : CoI c n) (o d code : Int) (he : replyE c o d code = 0) : ∃ (k : Nat) (s : Sg), o = (k : Int) + 1 ∧ k < 60 ∧ c.l[k]? = some s ∧ replyB s d code = true ∧ (∀ p ∈ postR c o d code, mayP p ∧ p.id = putK o d ∧ p.ord = o ∧ movI p 1 = Sa.netI (replyI s d code) - Sa.netI s ∧ movI p 2 = 0 ∧ ∀ x ∈ c.b, x.id ≠ p.id) ∧ (postR c o d code = [] ∧ Sa.netI (replyI s d code) = Sa.netI s ∨ ∃ p, postR c o d code = [p]) := by
  unfold replyE at he
  split at he
  · cases he
  · rename_i hn
    cases hs : c.l[o.toNat - 1]? with
    | none => rw [hs] at he; cases he
    | some s =>
      rw [hs] at he
      simp only [] at he
      split at he
      · rename_i hg
        have hkl := (List.getElem?_eq_some_iff.1 hs).1
        obtain ⟨g1, g2, g3, g4, g5⟩ := reply_facts hg
        have hle := h.le
        have hsa := h.am s (List.mem_of_getElem? hs)
        have n1 := net_bd hsa
        have n2 := net_bd (s := replyI s d code) (by rw [g5]; exact hsa)
        have hck : chk o d = true := chk_iff.2 (by omega)
        have hnew : ∀ x ∈ c.b, x.id ≠ putK o d := by
          intro x hx e
          rcases h.nm x hx with ⟨i, d', hi, hd', hid, u, hu, hdn⟩ | ⟨q, o', hid, _⟩
          · have := putK_inj (chk_iff.2 (by omega)) hck (hid.symm.trans e)
            obtain ⟨e1, e2⟩ := this
            subst e2
            rw [show i = o.toNat - 1 by omega, hs] at hu
            obtain rfl := Option.some.inj hu
            rw [g2] at hdn; unfold doneB at hdn; omega
          · exact put_sid hck (e.symm.trans hid)
        have hlen : 0 < (putK o d).length ∧ (putK o d).length ≤ 1000 := ⟨List.length_pos_iff.2 (putK_ne hck), by have := putK_len10 o d; omega⟩
        refine ⟨o.toNat - 1, s, by omega, by omega, hs, hg, ?_, ?_⟩
        · intro p hp
          unfold postR at hp
          rw [hs] at hp
          simp only [] at hp
          unfold postBy at hp
          split at hp
          · obtain rfl := List.mem_singleton.1 hp
            refine ⟨⟨hlen.1, hlen.2, ?_⟩, rfl, rfl, ?_, ?_, hnew⟩
            · show 1 ≤ o ∧ o ≤ 60 ∧ (0 : Int) ≤ 1 ∧ (1 : Int) ≤ 4 ∧ (0 : Int) ≤ 0 ∧ (0 : Int) ≤ 4 ∧ (1 : Int) ≠ 0 ∧ 0 ≤ Sa.netI (replyI s d code) - Sa.netI s ∧ Sa.netI (replyI s d code) - Sa.netI s ≤ _
              omega
            · simp [movI]
            · simp [movI]
          · split at hp
            · obtain rfl := List.mem_singleton.1 hp
              refine ⟨⟨hlen.1, hlen.2, ?_⟩, rfl, rfl, ?_, ?_, hnew⟩
              · show 1 ≤ o ∧ o ≤ 60 ∧ (0 : Int) ≤ 3 ∧ (3 : Int) ≤ 4 ∧ (0 : Int) ≤ 1 ∧ (1 : Int) ≤ 4 ∧ (3 : Int) ≠ 1 ∧ 0 ≤ -(Sa.netI (replyI s d code) - Sa.netI s) ∧ -(Sa.netI (replyI s d code) - Sa.netI s) ≤ _
                omega
              · simp [movI]
              · simp [movI]
            · cases hp
        · unfold postR
          rw [hs]
          simp only []
          unfold postBy
          split
          · exact .inr ⟨_, rfl⟩
          · split
            · exact .inr ⟨_, rfl⟩
            · exact .inl ⟨rfl, by omega⟩
      · cases he
theorem CoI.reply {c : Cor} {n : Nat} (h : CoI c n) (o d code : Int) : CoI (replyC c o d code) (n + 1) := by
  by_cases he : replyE c o d code = 0
  · obtain ⟨k, s, rfl, hk, hs, hg, hp, hone⟩ := h.rep o d code he
    obtain ⟨g1, g2, g3, g4, g5⟩ := reply_facts hg
    have hkl := (List.getElem?_eq_some_iff.1 hs).1
    have hC : replyC c ((k : Int) + 1) d code = { c with l := c.l.set k (replyI s d code), b := c.b ++ postR c ((k : Int) + 1) d code } := by
      unfold replyC
      rw [if_pos he, show ((k : Int) + 1).toNat - 1 = k by omega, hs]
    have hlen : (postR c ((k : Int) + 1) d code).length ≤ 1 := by
      rcases hone with ⟨h0, _⟩ | ⟨p, h0⟩ <;> rw [h0] <;> simp
    have hb1 : ∀ q : Int, 1 ≤ q → balI (postR c ((k : Int) + 1) d code) 1 q = (if q = (k : Int) + 1 then Sa.netI (replyI s d code) - Sa.netI s else 0) ∧ balI (postR c ((k : Int) + 1) d code) 2 q = 0 := by
      intro q hq
      rcases hone with ⟨h0, hz⟩ | ⟨p, h0⟩
      · rw [h0, hz]; simp [balI]
      · have hpp := hp p (by rw [h0]; simp)
        rw [h0, bal_one, bal_one, hpp.2.2.1, hpp.2.2.2.1, hpp.2.2.2.2.1]
        by_cases e : q = (k : Int) + 1
        · subst e; simp
        · rw [if_neg (by omega), if_neg e]; simp
    rw [hC]
    refine ⟨h.fi, by show (c.l.set _ _).length ≤ 60; rw [List.length_set]; exact h.le, mem_set_amt hs g5 h.am, ?_, ?_, ?_, ?_, ?_, ?_⟩
    · show (c.b ++ _).length ≤ _
      rw [List.length_append]; have := h.bl; omega
    · intro p hm
      rcases List.mem_append.1 hm with hm | hm
      · exact h.may p hm
      · exact (hp p hm).1
    · show ((c.b ++ postR c ((k : Int) + 1) d code).map (·.id)).Nodup
      rw [List.map_append, List.nodup_append]
      refine ⟨h.nd, ?_, ?_⟩
      · rcases hone with ⟨h0, _⟩ | ⟨p, h0⟩ <;> rw [h0] <;> simp
      · intro x hx y hy e
        obtain ⟨p, hpm, rfl⟩ := List.mem_map.1 hx
        obtain ⟨p2, hpm2, rfl⟩ := List.mem_map.1 hy
        exact (hp p2 hpm2).2.2.2.2.2 p hpm e
    · intro p hm
      rcases List.mem_append.1 hm with hm | hm
      · rcases h.nm p hm with ⟨i, d', hi, hd, hid, hx⟩ | hx
        · exact .inl ⟨i, d', hi, hd, hid, set_named hs g4 hd hx⟩
        · exact .inr hx
      · exact .inl ⟨k, d, hk, g1, (hp p hm).2.1, replyI s d code, by show (c.l.set k _)[k]? = _; rw [List.getElem?_set_self hkl], g3⟩
    · intro q h1 h2
      have hq := net_set (c := c) (t := replyI s d code) hs (c.b ++ postR c ((k : Int) + 1) d code) q h1
      rw [hq]
      show balI (c.b ++ _) 1 q = _ - In.netI c.inn q
      rw [bal_app, (hb1 q h1).1, h.sus q h1 h2]
      by_cases e : q = (k : Int) + 1
      · rw [if_pos e, if_pos e]
        have : netC c q = Sa.netI s := by unfold netC; rw [show q.toNat - 1 = k by omega, hs]
        rw [this]; omega
      · rw [if_neg e, if_neg e]; omega
    · intro q h1 h2
      show balI (c.b ++ _) 2 q = In.netI c.inn q
      rw [bal_app, (hb1 q h1).2, h.cash q h1 h2]; omega
  · unfold replyC; rw [if_neg he]; exact h.more
theorem acc_valid {I : In.Inn} {x : In.Stm} (h : In.accE I x = 0) : Rw.validB x.1 x.2.1 x.2.2 = true ∧ (I.at x.1).2.1 < x.2.1 := by
  unfold In.accE at h
  split at h
  · cases h
  · rename_i hv
    split at h
    · cases h
    · exact ⟨by simpa using hv, by omega⟩
theorem acc_other {I : In.Inn} {x : In.Stm} (h : In.accE I x = 0) (hx : x.1 ≠ 0) : (In.accI I x).a = I.a := by
  unfold In.accI
  rw [if_pos h]
  unfold In.Inn.put
  rw [if_neg hx]
  split <;> rfl
theorem acc_pay {I : In.Inn} {x : In.Stm} (h : In.accE I x = 0) (hx : x.1 = 0) : (In.accI I x).a = x := by
  unfold In.accI
  rw [if_pos h]
  unfold In.Inn.put
  rw [if_pos hx]
theorem stm_other {I : In.Inn} (hf : In.Fine I) {x : In.Stm} (h : In.accE I x = 0) (hx : x.1 ≠ 0) (q : Int) (n : Nat) (hn : n ≤ 60) : stmPs I (In.accI I x) q n = [] := by
  induction n with
  | zero => rfl
  | succ n ih =>
    rw [stmPs_succ, ih (by omega)]
    unfold stmP1
    rw [net_said (hf.acc x) (by omega), net_said hf (by omega), acc_other h hx, show saidO I.a.2.2 ((n : Int) + 1) - saidO I.a.2.2 ((n : Int) + 1) = 0 by omega]
    rfl
theorem inet_bd2 {I : In.Inn} (hg : In.Fine I) (o : Int) : -1099511627776 ≤ In.netI I o ∧ In.netI I o ≤ 1099511627776 := by
  have h1 := amt_bd hg o 1
  have h2 := amt_bd hg o 4
  unfold In.netI; omega
/-- A statement's postings may be, and their names are new. -/
theorem CoI.stmOk {c : Cor} {n : Nat} (h : CoI c n) (x : In.Stm) (he : In.accE c.inn x = 0) : (∀ p ∈ stmPs c.inn (In.accI c.inn x) x.2.1 60, mayP p) ∧ ((c.b ++ stmPs c.inn (In.accI c.inn x) x.2.1 60).map (·.id)).Nodup := by
  obtain ⟨hv, hq⟩ := acc_valid he
  have hs := In.valid_seq hv
  constructor
  · intro p hp
    obtain ⟨o, h1, h2, hid, hp1⟩ := stm_ids _ _ _ _ p hp
    unfold stmP1 at hp1
    have b1 := inet_bd2 (h.fi.acc x) o
    have b2 := inet_bd2 h.fi o
    rcases stm_cases x.2.1 o (In.netI (In.accI c.inn x) o - In.netI c.inn o) with ⟨_, h0⟩ | ⟨p', h0, i1, i2, i3, i4, _, _, i5⟩
    · rw [h0] at hp1; cases hp1
    · rw [h0] at hp1
      obtain rfl := List.mem_singleton.1 hp1
      have hl := sidL_len (q := x.2.1) (o := o) (by omega) (by omega)
      rw [← hid] at hl
      have hamt : p.amt ≤ 4398046511104 := by rw [i3]; split <;> omega
      exact ⟨hl.1, hl.2, by omega, by omega, i5.1, i5.2.1, i5.2.2.1, i5.2.2.2.1, i5.2.2.2.2, by omega, hamt⟩
  · rw [List.map_append, List.nodup_append]
    refine ⟨h.nd, stm_nodup _ _ (by omega) 60 (by omega), ?_⟩
    intro a ha b hb e
    obtain ⟨p, hp, rfl⟩ := List.mem_map.1 ha
    obtain ⟨p2, hp2, rfl⟩ := List.mem_map.1 hb
    by_cases hx : x.1 = 0
    · obtain ⟨o, h1, h2, hid, _⟩ := stm_ids _ _ _ _ p2 hp2
      rcases h.nm p hp with ⟨i, d, hi, hd, hid', _⟩ | ⟨q, o', hid', hq1, hq2, ho1, ho2⟩
      · exact put_sid (chk_iff.2 (by omega)) (hid'.symm.trans (e.trans hid))
      · have hat : (c.inn.at x.1) = c.inn.a := by unfold In.Inn.at; rw [if_pos hx]
        rw [hat] at hq
        have := (sidL_inj (by omega) (by omega) (by omega) (by omega) (hid'.symm.trans (e.trans hid))).1
        omega
    · rw [stm_other h.fi he hx _ 60 (by omega)] at hp2; cases hp2
theorem CoI.stm {c : Cor} {n : Nat} (h : CoI c n) (x : In.Stm) : CoI (stmC c x) (n + 1) := by
  unfold stmC
  by_cases he : In.accE c.inn x = 0
  · rw [if_pos he]
    obtain ⟨hm, hn⟩ := h.stmOk x he
    obtain ⟨hv, hq⟩ := acc_valid he
    have hs := In.valid_seq hv
    refine ⟨h.fi.acc x, h.le, h.am, ?_, ?_, hn, ?_, ?_, ?_⟩
    · show (c.b ++ _).length ≤ _
      rw [List.length_append]; have := h.bl; have := stmPs_len c.inn (In.accI c.inn x) x.2.1 60; omega
    · intro p hp
      rcases List.mem_append.1 hp with hp | hp
      · exact h.may p hp
      · exact hm p hp
    · intro p hp
      have hup : c.inn.a.2.1 ≤ (In.accI c.inn x).a.2.1 := by
        by_cases hx : x.1 = 0
        · have hat : (c.inn.at x.1) = c.inn.a := by unfold In.Inn.at; rw [if_pos hx]
          rw [hat] at hq
          rw [acc_pay he hx]; omega
        · rw [acc_other he hx]; omega
      rcases List.mem_append.1 hp with hp | hp
      · rcases h.nm p hp with hx | ⟨q, o, hid, h1, h2, h3⟩
        · exact .inl hx
        · exact .inr ⟨q, o, hid, h1, Int.le_trans h2 hup, h3⟩
      · by_cases hx : x.1 = 0
        · obtain ⟨o, h1, h2, hid, _⟩ := stm_ids _ _ _ _ p hp
          exact .inr ⟨x.2.1, o, hid, by omega, by show x.2.1 ≤ (In.accI c.inn x).a.2.1; rw [acc_pay he hx]; omega, by omega, by omega⟩
        · rw [stm_other h.fi he hx _ 60 (by omega)] at hp; cases hp
    · intro o h1 h2
      show balI (c.b ++ _) 1 o = netC c o - In.netI (In.accI c.inn x) o
      rw [bal_app, (stm_bal _ _ _ 60 o h1).1, if_pos (by omega), h.sus o h1 h2]; omega
    · intro o h1 h2
      show balI (c.b ++ _) 2 o = In.netI (In.accI c.inn x) o
      rw [bal_app, (stm_bal _ _ _ 60 o h1).2, if_pos (by omega), h.cash o h1 h2]; omega
  · rw [if_neg he]; exact h.more
theorem CoI.ok {c : Cor} {n : Nat} (h : CoI c n) (hn : n ≤ 1000) (e : Ent) : ApOk c e :=
  ⟨h.le, by have := h.bl; omega, h.am, fun _ he p hp => by
    obtain ⟨_, _, _, _, _, _, hp2, _⟩ := h.rep _ _ _ he
    exact ⟨(hp2 p hp).1, (hp2 p hp).2.2.2.2.2⟩, fun _ he => h.stmOk e.s he⟩
theorem CoI.apply {c : Cor} {n : Nat} (h : CoI c n) (e : Ent) : CoI (applyC c e) (n + 1) := by
  unfold applyC
  split
  · exact h.place _
  · split
    · exact h.stop _
    · split
      · exact h.reply _ _ _
      · split
        · exact h.stm _
        · exact h.more
/-- The core of entries; those that are refused are left out. -/
def ofL (l : List Ent) (k : Nat) : Cor := (l.take k).foldl applyC nilC
theorem ofL_zero (l : List Ent) : ofL l 0 = nilC := rfl
theorem ofL_succ {l : List Ent} {k : Nat} {e : Ent} (h : l[k]? = some e) : ofL l (k + 1) = applyC (ofL l k) e := by unfold ofL; rw [List.take_add_one, h, List.foldl_append]; rfl
theorem ofL_inv (l : List Ent) : ∀ k, k ≤ l.length → CoI (ofL l k) k
  | 0, _ => CoI.nil
  | k + 1, hk => by
    obtain ⟨e, he⟩ : ∃ e, l[k]? = some e := ⟨_, List.getElem?_eq_getElem hk⟩
    rw [ofL_succ he]
    exact (ofL_inv l k (by omega)).apply e
end Co
end Go.Proofs.YtnfbhocppijbjaaDoor
/- The road to a saga, plain: what saga.Valid walks. -/
namespace Go.Proofs.YtnfbhocppijbjaaDoor
open Co Key Rw Sa Od

namespace Co
/-- In n steps, replies or a cancelling, one comes from a saga to s. -/
inductive ToN (s : Sg) : Nat → Sg → Prop
  | refl : ToN s 0 s
  | reply {n : Nat} {t : Sg} {d code : Int} : replyB t d code = true → ToN s n (replyI t d code) → ToN s (n + 1) t
  | stop {n : Nat} {t : Sg} : goingB t = true → ToN s n (Sa.stopI t) → ToN s (n + 1) t
def setB (v : Int) : Prop := v = 2 ∨ v = 3 ∨ v = 4
theorem reply_code {t : Sg} {d code : Int} (h : replyB t d code = true) : waitsI t = d ∧ waitsI t ≠ 6 ∧ (code = 1 ∨ code = 2 ∧ d ≤ 2) := by
  unfold replyB at h
  simp only [Bool.and_eq_true, Bool.or_eq_true, decide_eq_true_eq] at h
  exact ⟨h.1.2, h.1.1, h.2⟩
theorem reply_deed {t : Sg} {d code : Int} (h : replyB t d code = true) : (0 ≤ d ∧ d < 6) ∧ t.deed d = 1 ∧ (replyI t d code).deed d = code + 1 ∧ ∀ j, 0 ≤ j ∧ j < 6 → setB (t.deed j) → (replyI t d code).deed j = t.deed j := by
  obtain ⟨hd, h6, hc⟩ := reply_code h
  obtain ⟨hw, h1⟩ := waits_deed h6
  rw [hd] at hw h1
  have hs := set_deed t d d (code + 1) hw hw
  rw [if_pos rfl] at hs
  unfold replyI
  refine ⟨hw, h1, by rw [onI_deed _ d hw (by rw [hs]; omega), hs], fun j hj hdn => ?_⟩
  have hjd : ¬ j = d := fun e => by subst e; rw [h1] at hdn; unfold setB at hdn; omega
  have hsj := set_deed t d j (code + 1) hw hj
  rw [if_neg hjd] at hsj
  rw [onI_deed _ j hj (by rw [hsj]; unfold setB at hdn; omega), hsj]
theorem stop_deed {t : Sg} (h : goingB t = true) : waitsI t ≠ 6 ∧ (0 ≤ waitsI t ∧ waitsI t < 6) ∧ t.deed (waitsI t) = 1 ∧ (Sa.stopI t).deed (waitsI t) = 4 ∧ ∀ j, 0 ≤ j ∧ j < 6 → setB (t.deed j) → (Sa.stopI t).deed j = t.deed j := by
  unfold goingB at h
  simp only [Bool.and_eq_true, decide_eq_true_eq] at h
  obtain ⟨hw, h1⟩ := waits_deed h.1
  have hs := set_deed t (waitsI t) (waitsI t) 4 hw hw
  rw [if_pos rfl] at hs
  unfold Sa.stopI
  refine ⟨h.1, hw, h1, by rw [onI_deed _ _ hw (by rw [can_deed, hs]; omega), can_deed, hs], fun j hj hdn => ?_⟩
  have hjd : ¬ j = waitsI t := fun e => by rw [e, h1] at hdn; unfold setB at hdn; omega
  have hsj := set_deed t (waitsI t) j 4 hw hj
  rw [if_neg hjd] at hsj
  rw [onI_deed _ j hj (by rw [can_deed, hsj]; unfold setB at hdn; omega), can_deed, hsj]
theorem ToN.keep {s : Sg} {n : Nat} {t : Sg} (h : ToN s n t) : ∀ j, 0 ≤ j ∧ j < 6 → setB (t.deed j) → s.deed j = t.deed j := by
  induction h with
  | refl => intro j _ _; rfl
  | reply hr _ ih =>
    obtain ⟨_, _, _, hk⟩ := reply_deed hr
    intro j hj hs
    rw [ih j hj (by rw [hk j hj hs]; exact hs), hk j hj hs]
  | stop hg _ ih =>
    obtain ⟨_, _, _, _, hk⟩ := stop_deed hg
    intro j hj hs
    rw [ih j hj (by rw [hk j hj hs]; exact hs), hk j hj hs]
theorem ToN.thenReply {s : Sg} {n : Nat} {t : Sg} (h : ToN s n t) {d code : Int} (hr : replyB s d code = true) : ∃ m, ToN (replyI s d code) m t := by
  induction h with
  | refl => exact ⟨1, .reply hr .refl⟩
  | reply h _ ih => obtain ⟨m, hm⟩ := ih; exact ⟨m + 1, .reply h hm⟩
  | stop h _ ih => obtain ⟨m, hm⟩ := ih; exact ⟨m + 1, .stop h hm⟩
theorem ToN.thenStop {s : Sg} {n : Nat} {t : Sg} (h : ToN s n t) (hg : goingB s = true) : ∃ m, ToN (Sa.stopI s) m t := by
  induction h with
  | refl => exact ⟨1, .stop hg .refl⟩
  | reply h _ ih => obtain ⟨m, hm⟩ := ih; exact ⟨m + 1, .reply h hm⟩
  | stop h _ ih => obtain ⟨m, hm⟩ := ih; exact ⟨m + 1, .stop h hm⟩
/-- What the walk to s sees at t: it is there, or which step comes next. -/
theorem ToN.next {s : Sg} {n : Nat} {t : Sg} (h : ToN s n t) : (n = 0 ∧ t = s) ∨ ∃ m, n = m + 1 ∧ waitsI t ≠ 6 ∧ (0 ≤ waitsI t ∧ waitsI t < 6) ∧ t.deed (waitsI t) = 1 ∧ s.deed (waitsI t) ≠ 1 ∧
    ((s.deed (waitsI t) = 4 ∧ goingB t = true ∧ ToN s m (Sa.stopI t) ∧ (Sa.stopI t).deed (waitsI t) = 4) ∨ (s.deed (waitsI t) = 3 ∧ replyB t (waitsI t) 2 = true ∧ ToN s m (replyI t (waitsI t) 2) ∧ (replyI t (waitsI t) 2).deed (waitsI t) = 3) ∨
      (s.deed (waitsI t) = 2 ∧ replyB t (waitsI t) 1 = true ∧ ToN s m (replyI t (waitsI t) 1) ∧ (replyI t (waitsI t) 1).deed (waitsI t) = 2)) := by
  cases h with
  | refl => exact .inl ⟨rfl, rfl⟩
  | @reply m t d code hr ht =>
    obtain ⟨hd, h6, hc⟩ := reply_code hr
    obtain ⟨hw, h1, h2, _⟩ := reply_deed hr
    subst hd
    have hs := ht.keep _ hw (by rw [h2]; unfold setB; omega)
    rw [h2] at hs
    rcases hc with rfl | ⟨rfl, _⟩
    · exact .inr ⟨m, rfl, h6, hw, h1, by rw [hs]; omega, .inr (.inr ⟨hs, hr, ht, h2⟩)⟩
    · exact .inr ⟨m, rfl, h6, hw, h1, by rw [hs]; omega, .inr (.inl ⟨hs, hr, ht, h2⟩)⟩
  | @stop m t hg ht =>
    obtain ⟨h6, hw, h1, h2, _⟩ := stop_deed hg
    have hs := ht.keep _ hw (by rw [h2]; unfold setB; omega)
    rw [h2] at hs
    exact .inr ⟨m, rfl, h6, hw, h1, by rw [hs]; omega, .inl ⟨hs, hg, ht, h2⟩⟩
end Co
end Go.Proofs.YtnfbhocppijbjaaDoor
/- Each saga of a core came of its order's beginning; the references lie apart. Plain. -/
namespace Go.Proofs.YtnfbhocppijbjaaDoor
open Co Key Rw Sa Od

namespace Co
def ordS (s : Sg) : Ord5 := (s.id, s.ref, s.sku, s.qty, s.amt)
theorem set_ord (s : Sg) (k v : Int) : ordS (setI s k v) = ordS s := by
  unfold setI; repeat' split
  all_goals rfl
theorem onI_ord (s : Sg) : ordS (onI s) = ordS s := by
  rcases onI_set s with e | ⟨k, _, _, e⟩ <;> rw [e]
  exact set_ord ..
theorem reply_ord (s : Sg) (d code : Int) : ordS (replyI s d code) = ordS s := by unfold replyI; rw [onI_ord, set_ord]
theorem stop_ord (s : Sg) : ordS (Sa.stopI s) = ordS s := by
  unfold Sa.stopI
  rw [onI_ord]
  exact set_ord s (waitsI s) 4
/-- The saga at a place: its number, its order, its road. -/
def Came1 (i : Nat) (s : Sg) : Prop := s.id = (i : Int) + 1 ∧ codeO s.id s.ref s.sku s.qty s.amt = 0 ∧ ∃ n, ToN s n (beginI s.id s.ref s.sku s.qty s.amt)
theorem came1_of {i : Nat} {s t : Sg} (h : Came1 i s) (ho : ordS t = ordS s) (hr : ∀ n, ToN s n (beginI s.id s.ref s.sku s.qty s.amt) → ∃ m, ToN t m (beginI s.id s.ref s.sku s.qty s.amt)) : Came1 i t := by
  obtain ⟨h1, h2, n, h3⟩ := h
  unfold ordS at ho
  simp only [Prod.mk.injEq] at ho
  obtain ⟨e1, e2, e3, e4, e5⟩ := ho
  unfold Came1
  rw [e1, e2, e3, e4, e5]
  exact ⟨h1, h2, hr n h3⟩
structure CoH (c : Cor) : Prop where
  at1 : ∀ (i : Nat) (s : Sg), c.l[i]? = some s → Came1 i s
  ref : ∀ (i j : Nat) (s t : Sg), i < j → c.l[i]? = some s → c.l[j]? = some t → s.ref ≠ t.ref
theorem CoH.nil : CoH nilC := ⟨fun i s h => by simp [nilC] at h, fun i j s t _ h => by simp [nilC] at h⟩
theorem CoH.set {c c' : Cor} (h : CoH c) {k : Nat} {s t : Sg} (hs : c.l[k]? = some s) (hc : c'.l = c.l.set k t) (ho : ordS t = ordS s) (hr : ∀ n, ToN s n (beginI s.id s.ref s.sku s.qty s.amt) → ∃ m, ToN t m (beginI s.id s.ref s.sku s.qty s.amt)) : CoH c' := by
  have hkl := (List.getElem?_eq_some_iff.1 hs).1
  have href : t.ref = s.ref := congrArg (fun x => x.2.1) ho
  have hget : ∀ i u, c'.l[i]? = some u → (i = k ∧ u = t) ∨ (i ≠ k ∧ c.l[i]? = some u) := by
    intro i u hu
    rw [hc] at hu
    by_cases e : k = i
    · subst e
      rw [List.getElem?_set_self hkl] at hu
      exact .inl ⟨rfl, (Option.some.inj hu).symm⟩
    · rw [List.getElem?_set_ne e] at hu
      exact .inr ⟨fun h => e h.symm, hu⟩
  refine ⟨fun i u hu => ?_, fun i j u v hij hu hv => ?_⟩
  · rcases hget i u hu with ⟨rfl, rfl⟩ | ⟨_, hu⟩
    · exact came1_of (h.at1 _ _ hs) ho hr
    · exact h.at1 i u hu
  · rcases hget i u hu with ⟨rfl, rfl⟩ | ⟨_, hu⟩
    · rcases hget j v hv with ⟨rfl, _⟩ | ⟨_, hv⟩
      · omega
      · rw [href]; exact h.ref i j s v hij hs hv
    · rcases hget j v hv with ⟨rfl, rfl⟩ | ⟨_, hv⟩
      · rw [href]; exact h.ref i j u s hij hu hs
      · exact h.ref i j u v hij hu hv
theorem CoH.place {c : Cor} (h : CoH c) (o : Ord5) : CoH (placeC c o) := by
  unfold placeC
  by_cases he : placeE c o = 0
  · rw [if_pos he]
    have hcode : codeO o.1 o.2.1 o.2.2.1 o.2.2.2.1 o.2.2.2.2 = 0 := by
      unfold placeE at he
      by_cases hc : codeO o.1 o.2.1 o.2.2.1 o.2.2.2.1 o.2.2.2.2 = 0
      · exact hc
      · rw [if_pos hc] at he; exact absurd he hc
    have hrest : hasB c.l o.2.1 = false ∧ o.1 = (c.l.length : Int) + 1 := by
      unfold placeE at he
      rw [if_neg (by rw [hcode]; simp)] at he
      split at he
      · cases he
      · rename_i hh
        split at he
        · cases he
        · split at he
          · cases he
          · rename_i ho
            exact ⟨by simpa using hh, by omega⟩
    obtain ⟨oid, oref, osku, oq, oa⟩ := o
    obtain ⟨hh, hid⟩ := hrest
    simp only [] at hcode hh hid
    have hnew : Came1 c.l.length (beginI oid oref osku oq oa) := ⟨hid, hcode, 0, .refl⟩
    refine ⟨fun i s hs => ?_, fun i j s t hij hs ht => ?_⟩
    · rw [show ({ c with l := c.l ++ [beginI oid oref osku oq oa] } : Cor).l = c.l ++ [beginI oid oref osku oq oa] from rfl] at hs
      by_cases hi : i < c.l.length
      · rw [List.getElem?_append_left hi] at hs; exact h.at1 i s hs
      · rw [List.getElem?_append_right (by omega)] at hs
        have h0 : i - c.l.length = 0 := by have := (List.getElem?_eq_some_iff.1 hs).1; simpa using this
        rw [h0] at hs
        obtain rfl := Option.some.inj hs
        obtain rfl : i = c.l.length := by omega
        exact hnew
    · rw [show ({ c with l := c.l ++ [beginI oid oref osku oq oa] } : Cor).l = c.l ++ [beginI oid oref osku oq oa] from rfl] at hs ht
      by_cases hj : j < c.l.length
      · rw [List.getElem?_append_left (by omega)] at hs
        rw [List.getElem?_append_left hj] at ht
        exact h.ref i j s t hij hs ht
      · rw [List.getElem?_append_right (by omega)] at ht
        have h0 : j - c.l.length = 0 := by have := (List.getElem?_eq_some_iff.1 ht).1; simpa using this
        rw [h0] at ht
        obtain rfl := Option.some.inj ht
        rw [List.getElem?_append_left (by omega)] at hs
        intro e
        rw [show hasB c.l oref = true from List.any_eq_true.2 ⟨s, List.mem_of_getElem? hs, decide_eq_true e⟩] at hh
        cases hh
  · rw [if_neg he]; exact h
theorem CoH.stop {c : Cor} (h : CoH c) (o : Int) : CoH (cstopC c o) := by
  unfold cstopC
  by_cases he : cstopE c o = 0
  · rw [if_pos he]
    cases hs : c.l[o.toNat - 1]? with
    | none => exact h
    | some s =>
      unfold cstopE at he
      split at he
      · cases he
      · rw [hs] at he
        simp only [] at he
        split at he
        · rename_i hg
          exact h.set hs rfl (stop_ord s) (fun n hn => hn.thenStop hg)
        · cases he
  · rw [if_neg he]; exact h
theorem CoH.reply {c : Cor} {n : Nat} (hi : CoI c n) (h : CoH c) (o d code : Int) : CoH (replyC c o d code) := by
  by_cases he : replyE c o d code = 0
  · obtain ⟨k, s, rfl, hk, hs, hg, _, _⟩ := hi.rep o d code he
    refine h.set (t := replyI s d code) hs ?_ (reply_ord s d code) (fun n hn => hn.thenReply hg)
    unfold replyC
    rw [if_pos he, show ((k : Int) + 1).toNat - 1 = k by omega, hs]
  · unfold replyC; rw [if_neg he]; exact h
theorem CoH.apply {c : Cor} {n : Nat} (hi : CoI c n) (h : CoH c) (e : Ent) : CoH (applyC c e) := by
  unfold applyC
  split
  · exact h.place _
  · split
    · exact h.stop _
    · split
      · exact h.reply hi _ _ _
      · split
        · unfold stmC
          split
          · exact ⟨h.at1, h.ref⟩
          · exact h
        · exact h
theorem ofL_hist (l : List Ent) : ∀ k, k ≤ l.length → CoH (ofL l k)
  | 0, _ => CoH.nil
  | k + 1, hk => by
    obtain ⟨e, he⟩ : ∃ e, l[k]? = some e := ⟨_, List.getElem?_eq_getElem hk⟩
    rw [ofL_succ he]
    exact (ofL_hist l k (by omega)).apply (ofL_inv l k (by omega)) e
end Co
end Go.Proofs.YtnfbhocppijbjaaDoor
/- What core.Of sees of the parts of a core. Plain. -/
namespace Go.Proofs.YtnfbhocppijbjaaDoor
open Co Key Rw Sa Od

namespace Co
theorem CoH.fresh {c : Cor} (h : CoH c) {k : Nat} {s : Sg} (hs : c.l[k]? = some s) : hasB (c.l.take k) s.ref = false := by
  unfold hasB
  rw [List.any_eq_false]
  intro t ht
  obtain ⟨i, hi⟩ := List.getElem?_of_mem ht
  have hik : i < k := by have := (List.getElem?_eq_some_iff.1 hi).1; rw [List.length_take] at this; omega
  rw [List.getElem?_take_of_lt hik] at hi
  simpa using h.ref i k t s hik hi hs
theorem ids_fresh {b : List Po} (h : (b.map (·.id)).Nodup) {k : Nat} {p : Po} (hp : b[k]? = some p) : ∀ x ∈ b.take k, x.id ≠ p.id := by
  intro x hx e
  obtain ⟨hk, hpe⟩ := List.getElem?_eq_some_iff.1 hp
  have e1 : b = b.take k ++ p :: b.drop (k + 1) := by rw [← hpe, List.getElem_cons_drop, List.take_append_drop]
  rw [e1, List.map_append] at h
  exact (List.nodup_append.1 h).2.2 _ (List.mem_map.2 ⟨x, hx, rfl⟩) _ (List.mem_map.2 ⟨p, by simp, rfl⟩) e
/-- The first k parties' statements. -/
def inTo (I : In.Inn) (k : Nat) : In.Inn := ⟨if 0 < k then I.a else In.noS, if 1 < k then I.b else In.noS, if 2 < k then I.c else In.noS⟩
theorem inTo_zero (I : In.Inn) : inTo I 0 = In.nil := rfl
theorem inTo_three (I : In.Inn) : inTo I 3 = I := rfl
def noneS (x : In.Stm) : Prop := x.2.1 = 0 ∧ x.2.2 = [] ∧ x.1 = 0
theorem inTo_fine {I : In.Inn} (h : In.Fine I) (k : Nat) : In.Fine (inTo I k) := by
  unfold inTo
  refine ⟨?_, ?_, ?_⟩
  · show In.Ok 0 (if 0 < k then I.a else In.noS); split; exact h.a; exact .inl rfl
  · show In.Ok 1 (if 1 < k then I.b else In.noS); split; exact h.b; exact .inl rfl
  · show In.Ok 2 (if 2 < k then I.c else In.noS); split; exact h.c; exact .inl rfl
/-- A party's statement: there is none, or it is taken in. -/
theorem inTo_step {I : In.Inn} (h : In.Fine I) (k : Nat) (hk : k < 3) : (I.at k = In.noS ∧ inTo I (k + 1) = inTo I k) ∨
    ((I.at k).2.1 ≠ 0 ∧ (I.at k).1 = (k : Int) ∧ In.accE (inTo I k) (I.at k) = 0 ∧ In.accI (inTo I k) (I.at k) = inTo I (k + 1)) := by
  have key : ∀ (x y : In.Stm) (p : Int) (J K : In.Inn), (p = 0 ∨ p = 1 ∨ p = 2) → In.Ok p x → J.at p = In.noS → J.put p x = K → (x = In.noS → J = K) → (x = In.noS ∧ K = J) ∨ (x.2.1 ≠ 0 ∧ x.1 = p ∧ In.accE J x = 0 ∧ In.accI J x = K) := by
    intro x y p J K hp hok hat hput hno
    rcases hok with e | ⟨e1, hv⟩
    · exact .inl ⟨e, (hno e).symm⟩
    · have hs := In.valid_seq hv
      have hE : In.accE J x = 0 := by
        unfold In.accE
        rw [e1, hv, hat]
        simp [In.noS]
        omega
      refine .inr ⟨by omega, e1, hE, ?_⟩
      unfold In.accI
      rw [if_pos hE, e1, hput]
  rcases (show k = 0 ∨ k = 1 ∨ k = 2 by omega) with rfl | rfl | rfl
  · exact key I.a I.a 0 (inTo I 0) (inTo I 1) (by omega) h.a rfl rfl (fun e => by unfold inTo; simp [e])
  · exact key I.b I.b 1 (inTo I 1) (inTo I 2) (by omega) h.b rfl rfl (fun e => by unfold inTo; simp [e])
  · exact key I.c I.c 2 (inTo I 2) (inTo I 3) (by omega) h.c rfl rfl (fun e => by unfold inTo; simp [e])
end Co
end Go.Proofs.YtnfbhocppijbjaaDoor

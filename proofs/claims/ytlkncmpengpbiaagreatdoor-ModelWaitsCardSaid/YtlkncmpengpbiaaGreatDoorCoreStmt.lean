/- A core takes a statement. -/
import Derived.Test.YtlkncmpengpbiaaGreatDoorCoreReply
import Derived.Test.YtlkncmpengpbiaaGreatDoorIntakeNet
import Derived.Test.YtlkncmpengpbiaaGreatDoorCoreBase
import Derived.Deep.CutRange
import Derived.Lib.ItoaLen
import Derived.Test.YtlkncmpengpbiaaGreatDoorShort
namespace Go.Proofs.YtlkncmpengpbiaaGreatDoor
open Go.RowKit Go.Maps Co Key Rw Sa Od
set_option linter.unusedSimpArgs false
set_option linter.unusedVariables false
set_option maxRecDepth 100000
set_option maxHeartbeats 16000000

namespace Co
/-- A statement's posting's name. -/
def sidL (q o : Int) : List UInt8 := [115] ++ Lib.itoa q ++ [45] ++ Lib.itoa o
def stmBy (q o by_ : Int) : List Po := if 0 < by_ then [⟨sidL q o, o, 2, 1, by_⟩] else if by_ < 0 then [⟨sidL q o, o, 1, 2, -by_⟩] else []
def stmP1 (I J : In.Inn) (q o : Int) : List Po := stmBy q o (In.netI J o - In.netI I o)
def stmPs (I J : In.Inn) (q : Int) (n : Nat) : List Po := (List.range n).flatMap fun (i : Nat) => stmP1 I J q ((i : Int) + 1)
theorem stmPs_succ (I J : In.Inn) (q : Int) (n : Nat) : stmPs I J q (n + 1) = stmPs I J q n ++ stmP1 I J q ((n : Int) + 1) := by unfold stmPs; rw [List.range_succ, List.flatMap_append]; simp
theorem stmP1_len (I J : In.Inn) (q o : Int) : (stmP1 I J q o).length ≤ 1 := by unfold stmP1 stmBy; split <;> (try split) <;> simp
theorem stmPs_len (I J : In.Inn) (q : Int) (n : Nat) : (stmPs I J q n).length ≤ n := by
 induction n with
 | zero => simp [stmPs]
 | succ n ih => rw [stmPs_succ, List.length_append]; have := stmP1_len I J q ((n : Int) + 1); omega
def stmC (c : Cor) (x : In.Stm) : Cor := if In.accE c.inn x = 0 then { c with b := c.b ++ stmPs c.inn (In.accI c.inn x) x.2.1 60, inn := In.accI c.inn x } else c
end Co
theorem stmPs_from (I J : In.Inn) (q : Int) (n k : Nat) : ∃ R, stmPs I J q (n + k) = stmPs I J q n ++ R := by
 unfold stmPs
 rw [List.range_add, List.flatMap_append]
 exact ⟨_, rfl⟩
theorem stm_fresh {b : List Po} {I J : In.Inn} {q : Int} (h : ((b ++ stmPs I J q 60).map (·.id)).Nodup) {n : Nat} (hn : n < 60) {p : Po} (hp : stmP1 I J q ((n : Int) + 1) = [p]) : ∀ x ∈ b ++ stmPs I J q n, x.id ≠ p.id := by
 obtain ⟨R, hR⟩ := stmPs_from I J q (n + 1) (59 - n)
 rw [show n + 1 + (59 - n) = 60 by omega, stmPs_succ I J q n, hp] at hR
 rw [hR, show b ++ (stmPs I J q n ++ [p] ++ R) = (b ++ stmPs I J q n) ++ (p :: R) by simp, List.map_append, List.nodup_append] at h
 intro x hx e
 exact h.2.2 _ (List.mem_map.2 ⟨x, hx, rfl⟩) _ (List.mem_map.2 ⟨p, List.mem_cons_self .., rfl⟩) e
theorem stm_mem {I J : In.Inn} {q : Int} {n : Nat} (hn : n < 60) {p : Po} (hp : stmP1 I J q ((n : Int) + 1) = [p]) : p ∈ stmPs I J q 60 := by
 obtain ⟨R, hR⟩ := stmPs_from I J q (n + 1) (59 - n)
 rw [show n + 1 + (59 - n) = 60 by omega, stmPs_succ I J q n, hp] at hR
 rw [hR]; simp
theorem inet_bd {I : In.Inn} (hg : In.Fine I) (o : Int) : -1099511627776 ≤ In.netI I o ∧ In.netI I o ≤ 1099511627776 := by
 have h1 := amt_bd hg o 1
 have h2 := amt_bd hg o 4
 unfold In.netI
 omega
theorem own_apartT {w : World} {B : Nat} {e : TypeId} {z n : Nat} {v : Value} {xs : List Value} (h : w.ownsRow B e z v n xs) {r : Nat} {cs : Array Value} {T : TypeId} {fr : Nat × Nat} (hr : w.heap[r]? = some (.cells cs T fr)) (hT : T ≠ e) : v.ownBlock ≠ some r := by
 intro e1
 rcases h.2 with ⟨rfl, _⟩ | ⟨g, cap, cur, rfl, _, hg, _⟩
 ·cases e1
 ·simp only [Value.ownBlock, Option.some.injEq] at e1
  subst e1
  rw [hr] at hg
  injection hg with hg
  injection hg with _ h2 _
  exact hT h2
theorem set5x {w : World} {b : Nat} {x0 x1 x2 x3 x4 : Value} {T : TypeId} (h : w.heap[b]? = some (.cells #[x0, x1, x2, x3, x4] T (0, 0))) (p0 p1 p2 p3 p4 : Value) : (((((w.setCell ⟨b, 0, none⟩ p0).setCell ⟨b, 1, none⟩ p1).setCell ⟨b, 2, none⟩ p2).setCell ⟨b, 3, none⟩ p3).setCell ⟨b, 4, none⟩ p4).heap[b]? = some (.cells #[p0, p1, p2, p3, p4] T (0, 0)) := by
 simp [World.setCell, Array.getElem?_modify, h]
theorem stm_pos {q o b : Int} (h : 0 < b) : stmBy q o b = [⟨sidL q o, o, 2, 1, b⟩] := by unfold stmBy; rw [if_pos h]
theorem stm_neg {q o b : Int} (h : b < 0) : stmBy q o b = [⟨sidL q o, o, 1, 2, -b⟩] := by unfold stmBy; rw [if_neg (by omega), if_pos h]
theorem stm_nil {q o b : Int} (h1 : ¬ 0 < b) (h2 : ¬ b < 0) : stmBy q o b = [] := by unfold stmBy; rw [if_neg h1, if_neg h2]
theorem set5_345 {w : World} {b : Nat} {x0 x1 x2 x3 x4 : Value} {T : TypeId} (h : w.heap[b]? = some (.cells #[x0, x1, x2, x3, x4] T (0, 0))) (p q r : Value) : (((w.setCell ⟨b, 2, none⟩ p).setCell ⟨b, 3, none⟩ q).setCell ⟨b, 4, none⟩ r).heap[b]? = some (.cells #[x0, x1, p, q, r] T (0, 0)) := by
 simp [World.setCell, Array.getElem?_modify, h]
theorem set_in {w : World} {b : Nat} {x0 x1 x2 x3 x4 x5 x6 x7 x8 x9 x10 x11 : Value} {T : TypeId} (h : w.heap[b]? = some (.cells #[x0, x1, x2, x3, x4, x5, x6, x7, x8, x9, x10, x11] T (0, 0))) (p0 p1 p2 p3 p4 p5 p6 p7 p8 p9 : Value) : ((((((((((w.setCell ⟨b, 2, none⟩ p0).setCell ⟨b, 3, none⟩ p1).setCell ⟨b, 4, none⟩ p2).setCell ⟨b, 5, none⟩ p3).setCell ⟨b, 6, none⟩ p4).setCell ⟨b, 7, none⟩ p5).setCell ⟨b, 8, none⟩ p6).setCell ⟨b, 9, none⟩ p7).setCell ⟨b, 10, none⟩ p8).setCell ⟨b, 11, none⟩ p9).heap[b]? = some (.cells #[x0, x1, p0, p1, p2, p3, p4, p5, p6, p7, p8, p9] T (0, 0)) := by
 simp [World.setCell, Array.getElem?_modify, h]
theorem turned_in (w : World) (b : Nat) (p0 p1 p2 p3 p4 p5 p6 p7 p8 p9 : Value) : Turned (fun j => j = b) w ((((((((((w.setCell ⟨b, 2, none⟩ p0).setCell ⟨b, 3, none⟩ p1).setCell ⟨b, 4, none⟩ p2).setCell ⟨b, 5, none⟩ p3).setCell ⟨b, 6, none⟩ p4).setCell ⟨b, 7, none⟩ p5).setCell ⟨b, 8, none⟩ p6).setCell ⟨b, 9, none⟩ p7).setCell ⟨b, 10, none⟩ p8).setCell ⟨b, 11, none⟩ p9) := ((((((((((turned_set w b 2 p0).trans (turned_set _ b 3 p1)).trans (turned_set _ b 4 p2)).trans (turned_set _ b 5 p3)).trans (turned_set _ b 6 p4)).trans (turned_set _ b 7 p5)).trans (turned_set _ b 8 p6)).trans (turned_set _ b 9 p7)).trans (turned_set _ b 10 p8)).trans (turned_set _ b 11 p9))
theorem sid_join (q o : Int) : (((⟨#[115]⟩ : ByteArray) ++ ⟨(Lib.itoa q).toArray⟩) ++ ⟨#[45]⟩) ++ ⟨(Lib.itoa o).toArray⟩ = ⟨(sidL q o).toArray⟩ := by
 show (((⟨([115] : List UInt8).toArray⟩ : ByteArray) ++ ⟨(Lib.itoa q).toArray⟩) ++ ⟨([45] : List UInt8).toArray⟩) ++ ⟨(Lib.itoa o).toArray⟩ = _
 rw [join_bytes, join_bytes, join_bytes]; rfl
theorem cstmt_any {B : Nat} {w : World} {cb bb pm bm : Nat} {vl vb vI : Value} {c : Cor} (h : Cw B w cb bb pm bm vl vb vI c) (x : In.Stm) (u : Value) (hu : Rd w u x.2.2) (hT : PT w) (hl : c.l.length ≤ 100000) (hbl : c.b.length ≤ 90000)
  (hmp : In.accE c.inn x = 0 → ∀ p ∈ stmPs c.inn (In.accI c.inn x) x.2.1 60, mayP p) (hnd : In.accE c.inn x = 0 → ((c.b ++ stmPs c.inn (In.accI c.inn x) x.2.1 60).map (·.id)).Nodup)
  (hito : ∀ (n : Int) W, 0 ≤ n → n ≤ 1073741824 → Below B w W → Calls Tryz.prog 104 #[.int .i64 n] W fun e w' => e = .returned (.string ⟨(Lib.itoa n).toArray⟩) ∧ Below W.heap.size W w') :
  Calls Tryz.prog 60 #[.pointer (some ⟨cb, 0, none⟩), .agg #[.int .i64 x.1, .int .i64 x.2.1, u]] w fun e w' => ∃ vb' vI', e = .returned (.int .i64 (In.accE c.inn x)) ∧ Cw B w' cb bb pm bm vl vb' vI' (stmC c x) ∧ Turned (Cs cb bb pm bm vl vb) w w' ∧ (∀ j, vb'.ownBlock = some j → vb.ownBlock = some j ∨ w.heap.size ≤ j) ∧ ∀ j, j < w.heap.size → Av j vI c.inn → Av j vI' (stmC c x).inn := by
 obtain ⟨A, cl, rfl, _⟩ := own_slice h.ol
 have HII := Hd h.ii
 obtain ⟨A0, An0, Ac0, A1, An1, Ac1, A2, An2, Ac2, m, rfl, _⟩ := h.ii
 obtain ⟨Au, cu, rfl, _⟩ := hu.shape
 have HC0 := Hd h
 obtain ⟨wa, hA⟩ : ∃ wa, wa = w.alloc (.cells #[.int .i64 x.1, .int .i64 x.2.1, .slice Au x.2.2.length cu] tStat) := ⟨_, rfl⟩
 have hB : Below w.heap.size w wa := by rw [hA]; exact below_alloc _ _
 have HX := Hd (show wa.heap[w.heap.size]? = some (.cells #[.int .i64 x.1, .int .i64 x.2.1, .slice Au x.2.2.length cu] tStat (0, 0)) by rw [hA]; exact heap_new _ _)
 have HC := Hd (h.below hB); have HA := Hd hA; have HB := Hd hB; have HU := Hd hu; have HT := Hd hT; have HITO := Hd hito
 have HCC := Hd (show wa.heap[cb]? = some (.cells #[.slice A c.l.length cl, .pointer (some ⟨bb, 0, none⟩), .int .i64 c.inn.a.1, .int .i64 c.inn.a.2.1, .slice A0 An0 Ac0, .int .i64 c.inn.b.1, .int .i64 c.inn.b.2.1, .slice A1 An1 Ac1, .int .i64 c.inn.c.1, .int .i64 c.inn.c.2.1, .slice A2 An2 Ac2, .map m] tCore (0, 0)) by simpa [inn10] using HC.out.hc)
 have hsz1 : w.heap.size < wa.heap.size := heap_lt HX.out
 have hcbl : cb < w.heap.size := heap_lt HC0.out.hc
 clear hA hB h hu hT hito
 obtain ⟨k0, k1, k2⟩ := cell3c HX.out
 obtain ⟨y0, y1, y2, y3, y4, y5, y6, y7, y8, y9, y10, y11⟩ := cell12 HCC.out
 go_enter Tryz.func60, Tryz.ntmps60
 go_upto_region 1 with (fail)
 rw [← HA.out]
 by_cases he : In.accE c.inn x = 0
 ·have HE := Hd he
  obtain ⟨J, hJ⟩ : ∃ J, In.accI c.inn x = J := ⟨_, rfl⟩
  have HJ := Hd hJ
  have HFJ := Hd (show In.Fine J by rw [← hJ]; exact HC0.out.fi.acc x)
  have HACC := Hd (fun W (hW : Below wa.heap.size wa W) => hJ ▸ accept_ok W _ c.inn x _ (HII.out.below (bch HB.out hW HB.out.size)) (HU.out.keep (bch HB.out hW HB.out.size)) (HT.out.below (bch HB.out hW HB.out.size)) HC0.out.fi he)
  clear he hJ
  go_cut [5, 6] from 9 to 17 (fun p ee wx => ∃ b5 v1, p = .pointer (some ⟨b5, 0, none⟩) ∧ ee = .int .i64 0 ∧ wa.heap.size ≤ b5 ∧ Bx wx b5 tIn v1 ∧ InP wx v1 J ∧ (∀ j, j < wa.heap.size → Av j (.agg #[.int .i64 c.inn.a.1, .int .i64 c.inn.a.2.1, .slice A0 An0 Ac0, .int .i64 c.inn.b.1, .int .i64 c.inn.b.2.1, .slice A1 An1 Ac1, .int .i64 c.inn.c.1, .int .i64 c.inn.c.2.1, .slice A2 An2 Ac2, .map m]) c.inn → Av j v1 J) ∧ Av b5 v1 J ∧ Below wa.heap.size wa wx)
  case first =>
   have HH := Hd (fun W (hb : Below wa.heap.size wa W) => (⟨Hd hb, kc hb y2, kc hb y3, kc hb y4, kc hb y5, kc hb y6, kc hb y7, kc hb y8, kc hb y9, kc hb y10, kc hb y11, kc hb k0, kc hb k1, kc hb k2⟩ : (fun w' => Hid (Below wa.heap.size wa w') ∧ w'.cell? ⟨cb, 2, none⟩ = some (.int .i64 c.inn.a.1) ∧ w'.cell? ⟨cb, 3, none⟩ = some (.int .i64 c.inn.a.2.1) ∧ w'.cell? ⟨cb, 4, none⟩ = some (.slice A0 An0 Ac0) ∧ w'.cell? ⟨cb, 5, none⟩ = some (.int .i64 c.inn.b.1) ∧ w'.cell? ⟨cb, 6, none⟩ = some (.int .i64 c.inn.b.2.1) ∧ w'.cell? ⟨cb, 7, none⟩ = some (.slice A1 An1 Ac1) ∧ w'.cell? ⟨cb, 8, none⟩ = some (.int .i64 c.inn.c.1) ∧ w'.cell? ⟨cb, 9, none⟩ = some (.int .i64 c.inn.c.2.1) ∧ w'.cell? ⟨cb, 10, none⟩ = some (.slice A2 An2 Ac2) ∧ w'.cell? ⟨cb, 11, none⟩ = some (.map m) ∧ w'.cell? ⟨w.heap.size, 0, none⟩ = some (.int .i64 x.1) ∧ w'.cell? ⟨w.heap.size, 1, none⟩ = some (.int .i64 x.2.1) ∧ w'.cell? ⟨w.heap.size, 2, none⟩ = some (.slice Au x.2.2.length cu)) W))
   refine wp_region_noPanic ?_
   refine wp_region_held_drew (S := (fun w' => Hid (Below wa.heap.size wa w') ∧ w'.cell? ⟨cb, 2, none⟩ = some (.int .i64 c.inn.a.1) ∧ w'.cell? ⟨cb, 3, none⟩ = some (.int .i64 c.inn.a.2.1) ∧ w'.cell? ⟨cb, 4, none⟩ = some (.slice A0 An0 Ac0) ∧ w'.cell? ⟨cb, 5, none⟩ = some (.int .i64 c.inn.b.1) ∧ w'.cell? ⟨cb, 6, none⟩ = some (.int .i64 c.inn.b.2.1) ∧ w'.cell? ⟨cb, 7, none⟩ = some (.slice A1 An1 Ac1) ∧ w'.cell? ⟨cb, 8, none⟩ = some (.int .i64 c.inn.c.1) ∧ w'.cell? ⟨cb, 9, none⟩ = some (.int .i64 c.inn.c.2.1) ∧ w'.cell? ⟨cb, 10, none⟩ = some (.slice A2 An2 Ac2) ∧ w'.cell? ⟨cb, 11, none⟩ = some (.map m) ∧ w'.cell? ⟨w.heap.size, 0, none⟩ = some (.int .i64 x.1) ∧ w'.cell? ⟨w.heap.size, 1, none⟩ = some (.int .i64 x.2.1) ∧ w'.cell? ⟨w.heap.size, 2, none⟩ = some (.slice Au x.2.2.length cu))) (by kernel_rfl) (HH.out _ (below_drew1 (Below.refl wa.heap.size wa))) (fun hHeld => ?_)
   refine tk 0 rfl rfl ‹_› ?_; try go_frame
   refine tk 1 rfl rfl ‹_› ?_; try go_frame
   refine tk 2 rfl rfl ‹_› ?_; try go_frame
   refine tk 3 rfl rfl ‹_› ?_; try go_frame
   refine tk 4 rfl rfl ‹_› ?_; try go_frame
   refine wpAnyH_ready (rs := [5, 9]) (by kernel_rfl) (by simp) ?_
   refine AllReadyH.cons rfl (fun K hK => ?_) (AllReadyH.cons rfl (fun K hK => ?_) AllReadyH.nil)
   ·go_simp
    refine (HACC.out _ (below_drew1 (Below.refl wa.heap.size wa))).mono ?_
    rintro e w1 ⟨v1, rfl, hv, hav, hb⟩
    have HV1 := Hd hv; have HAV1 := Hd hav
    obtain ⟨C0, Cn0, Cc0, C1, Cn1, Cc1, C2, Cn2, Cc2, mc, rfl, _⟩ := hv
    clear hav
    have HW1 := Hd (bch (below_drew1 (Below.refl wa.heap.size wa)) hb (Below.size (below_drew1 (Below.refl wa.heap.size wa))))
    refine hK.out _ _ (HH.out _ (HW1.out)) (fun hHeld => ?_)
    clear hK K
    (try simp only [gx1, gx2, gx3]); try go_frame
    refine tk 6 rfl rfl ‹_› ?_; try go_frame
    refine tk 7 rfl rfl ‹_› ?_; try go_frame
    refine tk 8 rfl rfl ‹_› ?_; try go_frame
    refine rdy 9 rfl (fun K hK => ?_)
    go_simp
    refine hK.out _ _ (HH.out _ (bch HW1.out (below_alloc w1 _) HW1.out.size)) (fun hHeld => ?_)
    clear hK K
    (try simp only [gx1, gx2, gx3]); try go_frame
    refine rdy 10 rfl (fun K hK => ?_)
    go_simp
    refine hK.out _ _ (HH.out _ (bch HW1.out (below_alloc w1 _) HW1.out.size)) (fun hHeld => ?_)
    clear hK K
    (try simp only [gx1, gx2, gx3]); try go_frame
    refine tk 11 rfl rfl ‹_› ?_; try go_frame
    refine wpAnyH_done (by kernel_rfl) ?_ _
    refine NoPanic.normal ?_
    go_wp2_with fail
    go_meet
    exact ⟨w1.heap.size, _, rfl, rfl, HW1.out.size, ⟨_, rfl, heap_new _ _⟩, HV1.out.below (below_alloc _ _), fun j hj ha => HAV1.out j (by simpa using hj) ha, Av.far HV1.out (Nat.le_refl _), bch HW1.out (below_alloc w1 _) HW1.out.size⟩
   ·go_simp
    refine hK.out _ _ (HH.out _ (bch (below_drew1 (Below.refl wa.heap.size wa)) (below_alloc wa.drew _) (Nat.le_refl _))) (fun hHeld => ?_)
    clear hK K
    (try simp only [gx1, gx2, gx3]); try go_frame
    refine rdy 5 rfl (fun K hK => ?_)
    go_simp
    have HBd := Hd (bch (below_drew1 (Below.refl wa.heap.size wa)) (below_alloc wa.drew (.cells zIn tIn)) (Nat.le_refl _))
    refine (HACC.out _ HBd.out).mono ?_
    rintro e w1 ⟨v1, rfl, hv, hav, hb⟩
    have HV1 := Hd hv; have HAV1 := Hd hav
    obtain ⟨C0, Cn0, Cc0, C1, Cn1, Cc1, C2, Cn2, Cc2, mc, rfl, _⟩ := hv
    clear hav
    have HW1 := Hd (bch HBd.out hb HBd.out.size)
    refine hK.out _ _ (HH.out _ (HW1.out)) (fun hHeld => ?_)
    clear hK K
    (try simp only [gx1, gx2, gx3]); try go_frame
    refine tk 6 rfl rfl ‹_› ?_; try go_frame
    refine tk 7 rfl rfl ‹_› ?_; try go_frame
    refine tk 8 rfl rfl ‹_› ?_; try go_frame
    have HZ0 := Hd (show w1.heap[wa.heap.size]? = some (.cells zIn tIn (0, 0)) from heap_keep (heap_new wa.drew (.cells zIn tIn)) hb)
    obtain ⟨z0, z1, z2, z3, z4, z5, z6, z7, z8, z9⟩ := cell10 HZ0.out
    obtain ⟨f0, f1, f2, f3, f4, f5, f6, f7, f8, f9⟩ := froz10 HZ0.out
    have HTu := Hd (turned_set10 w1 wa.heap.size (.int .i64 J.a.1) (.int .i64 J.a.2.1) (.slice C0 Cn0 Cc0) (.int .i64 J.b.1) (.int .i64 J.b.2.1) (.slice C1 Cn1 Cc1) (.int .i64 J.c.1) (.int .i64 J.c.2.1) (.slice C2 Cn2 Cc2) (.map mc))
    have HSET := Hd (set10 HZ0.out (.int .i64 J.a.1) (.int .i64 J.a.2.1) (.slice C0 Cn0 Cc0) (.int .i64 J.b.1) (.int .i64 J.b.2.1) (.slice C1 Cn1 Cc1) (.int .i64 J.c.1) (.int .i64 J.c.2.1) (.slice C2 Cn2 Cc2) (.map mc))
    unfold set10w at HTu HSET
    have HWs := Hd (Below.turned HW1.out HTu.out (fun i hi => by omega) (Below.size HW1.out))
    refine rdy 10 rfl (fun K hK => ?_)
    go_simp
    refine hK.out _ _ (HH.out _ (HWs.out)) (fun hHeld => ?_)
    clear hK K
    (try simp only [gx1, gx2, gx3]); try go_frame
    refine tk 11 rfl rfl ‹_› ?_; try go_frame
    refine wpAnyH_done (by kernel_rfl) ?_ _
    refine NoPanic.normal ?_
    have hAvz := HAV1.out wa.heap.size (by simp) (Av.far (HII.out.below HB.out) (Nat.le_refl _))
    go_wp2_with fail
    go_meet
    exact ⟨wa.heap.size, _, rfl, rfl, Nat.le_refl _, ⟨_, rfl, HSET.out⟩, HV1.out.turned HTu.out (fun b hb => by rw [hb]; exact hAvz), fun j hj ha => HAV1.out j (by simp; omega) ha, hAvz, HWs.out⟩
  case rest =>
   obtain ⟨b5, v1, rfl, rfl, hb5, hbx, hv1, hav, hav5, hbl⟩ := hcut
   have HV2 := Hd hv1
   obtain ⟨C0, Cn0, Cc0, C1, Cn1, Cc1, C2, Cn2, Cc2, mc, rfl, _⟩ := hv1
   have HBX := Hd hbx.get
   have HC2 := Hd (HC.out.below hbl); have HX2 := Hd (heap_keep HX.out hbl)
   have HAV := Hd (fun j (hj : Cs cb bb pm bm (.slice A c.l.length cl) vb j) => hav j (by have := (HC0.out.ls hj).2; omega) (HC0.out.av j hj))
   have HT2 := Hd (show Turned (Cs cb bb pm bm (.slice A c.l.length cl) vb) w wc from Turned.of_below (bch HB.out hbl HB.out.size))
   have HAVX := Hd (fun j (hj : j < w.heap.size) (h : Av j (.agg #[.int .i64 c.inn.a.1, .int .i64 c.inn.a.2.1, .slice A0 An0 Ac0, .int .i64 c.inn.b.1, .int .i64 c.inn.b.2.1, .slice A1 An1 Ac1, .int .i64 c.inn.c.1, .int .i64 c.inn.c.2.1, .slice A2 An2 Ac2, .map m]) c.inn) => hav j (by omega) h)
   clear hbx hav hav5 hbl HC HX HCC HACC HA y0 y1 y2 y3 y4 y5 y6 y7 y8 y9 y10 y11 k0 k1 k2 HU
   have HMP := Hd (hmp HE.out); have HND := Hd (hnd HE.out)
   rw [HJ.out] at HMP HND
   clear hmp hnd
   go_wp2_with fail
   go_loopw [7] (fun i wr => ∃ (n : Nat) (vb' : Value), i = .int .i64 ((n : Int) + 1) ∧ n ≤ 60 ∧ Hid (Cw B wr cb bb pm bm (.slice A c.l.length cl) vb' (.agg #[.int .i64 c.inn.a.1, .int .i64 c.inn.a.2.1, .slice A0 An0 Ac0, .int .i64 c.inn.b.1, .int .i64 c.inn.b.2.1, .slice A1 An1 Ac1, .int .i64 c.inn.c.1, .int .i64 c.inn.c.2.1, .slice A2 An2 Ac2, .map m]) { c with b := c.b ++ stmPs c.inn J x.2.1 n }) ∧ Hid (wr.heap[b5]? = some (.cells #[.int .i64 J.a.1, .int .i64 J.a.2.1, .slice C0 Cn0 Cc0, .int .i64 J.b.1, .int .i64 J.b.2.1, .slice C1 Cn1 Cc1, .int .i64 J.c.1, .int .i64 J.c.2.1, .slice C2 Cn2 Cc2, .map mc] tIn (0, 0))) ∧ Hid (wr.heap[w.heap.size]? = some (.cells #[.int .i64 x.1, .int .i64 x.2.1, .slice Au x.2.2.length cu] tStat (0, 0))) ∧ Hid (InP wr (.agg #[.int .i64 J.a.1, .int .i64 J.a.2.1, .slice C0 Cn0 Cc0, .int .i64 J.b.1, .int .i64 J.b.2.1, .slice C1 Cn1 Cc1, .int .i64 J.c.1, .int .i64 J.c.2.1, .slice C2 Cn2 Cc2, .map mc]) J) ∧ Hid (∀ j, Cs cb bb pm bm (.slice A c.l.length cl) vb' j → Av j (.agg #[.int .i64 J.a.1, .int .i64 J.a.2.1, .slice C0 Cn0 Cc0, .int .i64 J.b.1, .int .i64 J.b.2.1, .slice C1 Cn1 Cc1, .int .i64 J.c.1, .int .i64 J.c.2.1, .slice C2 Cn2 Cc2, .map mc]) J) ∧ Hid (Turned (Cs cb bb pm bm (.slice A c.l.length cl) vb) w wr) ∧ Hid (∀ j, vb'.ownBlock = some j → vb.ownBlock = some j ∨ w.heap.size ≤ j)) (fun i _ => 61 - (intOf i).toNat)
   case atStart => exact ⟨0, vb, rfl, by omega, by rw [show stmPs c.inn J x.2.1 0 = [] from rfl, List.append_nil]; exact HC2.out, HBX.out, HX2.out, HV2.out, HAV.out, HT2.out, fun j h => .inl h⟩
   case round =>
    obtain ⟨n, vb', rfl, hn, HCr, HBr, HXr, HVr, HAr, HTr, HFr⟩ := hrel
    by_cases hn60 : n < 60
    ·have hn60' : (n : Int) + 1 ≤ 60 := by omega
     have hn0 : (0 : Int) ≤ (n : Int) + 1 := by omega
     have HCCr := Hd (show wr.heap[cb]? = some (.cells #[.slice A c.l.length cl, .pointer (some ⟨bb, 0, none⟩), .int .i64 c.inn.a.1, .int .i64 c.inn.a.2.1, .slice A0 An0 Ac0, .int .i64 c.inn.b.1, .int .i64 c.inn.b.2.1, .slice A1 An1 Ac1, .int .i64 c.inn.c.1, .int .i64 c.inn.c.2.1, .slice A2 An2 Ac2, .map m] tCore (0, 0)) by simpa [inn10] using HCr.out.hc)
     obtain ⟨y0, y1, y2, y3, y4, y5, y6, y7, y8, y9, y10, y11⟩ := cell12 HCCr.out
     obtain ⟨k0, k1, k2⟩ := cell3c HXr.out
     obtain ⟨i0, i1, i2, i3, i4, i5, i6, i7, i8, i9⟩ := cell10 HBr.out
     have hq0 : 0 ≤ x.2.1 ∧ x.2.1 ≤ 1073741824 := by have := HE.out; unfold In.accE at this; split at this; cases this; rename_i hv; have := In.valid_seq (by simpa using hv); omega
     have hbd1 := inet_bd HFJ.out ((n : Int) + 1)
     have hbd2 := inet_bd HC0.out.fi ((n : Int) + 1)
     have hl1 := Lib.itoa_length_le x.2.1 (by omega) (by omega)
     have hl2 := Lib.itoa_length_le ((n : Int) + 1) (by omega) (by omega)
     have hw2 : IntKind.i64.wrap (In.netI J ((n : Int) + 1) - In.netI c.inn ((n : Int) + 1)) = In.netI J ((n : Int) + 1) - In.netI c.inn ((n : Int) + 1) := IntWalk.i64_in _ (by omega)
     have hBw : B ≤ w.heap.size := by have := HC0.out.ge; omega
     have HBB := Hd (Below.turned (Below.refl B w) HTr.out (fun i hi => (HC0.out.ls hi).1) hBw)
     have hP1 : stmP1 c.inn J x.2.1 ((n : Int) + 1) = stmBy x.2.1 ((n : Int) + 1) (In.netI J ((n : Int) + 1) - In.netI c.inn ((n : Int) + 1)) := rfl
     have hBr : B ≤ wr.heap.size := by have := HTr.out.size; omega
     have HP1 := Hd hP1
     clear hP1
     go_wp2_with fail
     go_cut [8] from 25 to 44 (fun p wx => ∃ b8, p = .pointer (some ⟨b8, 0, none⟩) ∧ wr.heap.size ≤ b8 ∧ wx.heap[b8]? = some (.cells #[.string ⟨(sidL x.2.1 ((n : Int) + 1)).toArray⟩, .int .i64 ((n : Int) + 1), .int .i64 2, .int .i64 1, .int .i64 (In.netI J ((n : Int) + 1) - In.netI c.inn ((n : Int) + 1))] tPost (0, 0)) ∧ Below wr.heap.size wr wx)
     case first =>
      have HH := Hd (fun W (hb : Below wr.heap.size wr W) => (⟨Hd hb, kc hb k1, kc hb i0, kc hb i1, kc hb i2, kc hb i3, kc hb i4, kc hb i5, kc hb i6, kc hb i7, kc hb i8, kc hb i9, kc hb y2, kc hb y3, kc hb y4, kc hb y5, kc hb y6, kc hb y7, kc hb y8, kc hb y9, kc hb y10, kc hb y11⟩ : (fun w' => Hid (Below wr.heap.size wr w') ∧ w'.cell? ⟨w.heap.size, 1, none⟩ = some (.int .i64 x.2.1) ∧ w'.cell? ⟨b5, 0, none⟩ = some (.int .i64 J.a.1) ∧ w'.cell? ⟨b5, 1, none⟩ = some (.int .i64 J.a.2.1) ∧ w'.cell? ⟨b5, 2, none⟩ = some (.slice C0 Cn0 Cc0) ∧ w'.cell? ⟨b5, 3, none⟩ = some (.int .i64 J.b.1) ∧ w'.cell? ⟨b5, 4, none⟩ = some (.int .i64 J.b.2.1) ∧ w'.cell? ⟨b5, 5, none⟩ = some (.slice C1 Cn1 Cc1) ∧ w'.cell? ⟨b5, 6, none⟩ = some (.int .i64 J.c.1) ∧ w'.cell? ⟨b5, 7, none⟩ = some (.int .i64 J.c.2.1) ∧ w'.cell? ⟨b5, 8, none⟩ = some (.slice C2 Cn2 Cc2) ∧ w'.cell? ⟨b5, 9, none⟩ = some (.map mc) ∧ w'.cell? ⟨cb, 2, none⟩ = some (.int .i64 c.inn.a.1) ∧ w'.cell? ⟨cb, 3, none⟩ = some (.int .i64 c.inn.a.2.1) ∧ w'.cell? ⟨cb, 4, none⟩ = some (.slice A0 An0 Ac0) ∧ w'.cell? ⟨cb, 5, none⟩ = some (.int .i64 c.inn.b.1) ∧ w'.cell? ⟨cb, 6, none⟩ = some (.int .i64 c.inn.b.2.1) ∧ w'.cell? ⟨cb, 7, none⟩ = some (.slice A1 An1 Ac1) ∧ w'.cell? ⟨cb, 8, none⟩ = some (.int .i64 c.inn.c.1) ∧ w'.cell? ⟨cb, 9, none⟩ = some (.int .i64 c.inn.c.2.1) ∧ w'.cell? ⟨cb, 10, none⟩ = some (.slice A2 An2 Ac2) ∧ w'.cell? ⟨cb, 11, none⟩ = some (.map m)) W))
      refine wp_region_noPanic ?_
      refine wp_region_held_drew (S := (fun w' => Hid (Below wr.heap.size wr w') ∧ w'.cell? ⟨w.heap.size, 1, none⟩ = some (.int .i64 x.2.1) ∧ w'.cell? ⟨b5, 0, none⟩ = some (.int .i64 J.a.1) ∧ w'.cell? ⟨b5, 1, none⟩ = some (.int .i64 J.a.2.1) ∧ w'.cell? ⟨b5, 2, none⟩ = some (.slice C0 Cn0 Cc0) ∧ w'.cell? ⟨b5, 3, none⟩ = some (.int .i64 J.b.1) ∧ w'.cell? ⟨b5, 4, none⟩ = some (.int .i64 J.b.2.1) ∧ w'.cell? ⟨b5, 5, none⟩ = some (.slice C1 Cn1 Cc1) ∧ w'.cell? ⟨b5, 6, none⟩ = some (.int .i64 J.c.1) ∧ w'.cell? ⟨b5, 7, none⟩ = some (.int .i64 J.c.2.1) ∧ w'.cell? ⟨b5, 8, none⟩ = some (.slice C2 Cn2 Cc2) ∧ w'.cell? ⟨b5, 9, none⟩ = some (.map mc) ∧ w'.cell? ⟨cb, 2, none⟩ = some (.int .i64 c.inn.a.1) ∧ w'.cell? ⟨cb, 3, none⟩ = some (.int .i64 c.inn.a.2.1) ∧ w'.cell? ⟨cb, 4, none⟩ = some (.slice A0 An0 Ac0) ∧ w'.cell? ⟨cb, 5, none⟩ = some (.int .i64 c.inn.b.1) ∧ w'.cell? ⟨cb, 6, none⟩ = some (.int .i64 c.inn.b.2.1) ∧ w'.cell? ⟨cb, 7, none⟩ = some (.slice A1 An1 Ac1) ∧ w'.cell? ⟨cb, 8, none⟩ = some (.int .i64 c.inn.c.1) ∧ w'.cell? ⟨cb, 9, none⟩ = some (.int .i64 c.inn.c.2.1) ∧ w'.cell? ⟨cb, 10, none⟩ = some (.slice A2 An2 Ac2) ∧ w'.cell? ⟨cb, 11, none⟩ = some (.map m))) (by kernel_rfl) (HH.out _ (below_drew1 (Below.refl wr.heap.size wr))) (fun hHeld => ?_)
      refine tk 0 rfl rfl ‹_› ?_; try go_frame
      refine tk 1 rfl rfl ‹_› ?_; try go_frame
      refine tk 5 rfl rfl ‹_› ?_; try go_frame
      refine tk 8 rfl rfl ‹_› ?_; try go_frame
      refine tk 9 rfl rfl ‹_› ?_; try go_frame
      refine tk 10 rfl rfl ‹_› ?_; try go_frame
      refine tk 12 rfl rfl ‹_› ?_; try go_frame
      refine tk 13 rfl rfl ‹_› ?_; try go_frame
      refine tk 14 rfl rfl ‹_› ?_; try go_frame
      refine tk 15 rfl rfl ‹_› ?_; try go_frame
      refine tk 16 rfl rfl ‹_› ?_; try go_frame
      refine wpAnyH_ready (rs := [2, 20]) (by kernel_rfl) (by simp) ?_
      refine AllReadyH.cons rfl (fun K hK => ?_) (AllReadyH.cons rfl (fun K hK => ?_) AllReadyH.nil)
      ·go_simp
       refine (HITO.out x.2.1 wr.drew hq0.1 hq0.2 (bch HBB.out (below_drew1 (Below.refl wr.heap.size wr)) hBr)).mono ?_
       rintro e vv1 ⟨rfl, hbq⟩
       have HQ1 := Hd (bch (below_drew1 (Below.refl wr.heap.size wr)) hbq (Below.size (below_drew1 (Below.refl wr.heap.size wr))))
       clear hbq
       refine hK.out _ _ (HH.out _ (HQ1.out)) (fun hHeld => ?_)
       clear hK K
       (try simp only [gx1, gx2, gx3]); try go_frame
       refine wpAnyH_take (i := 3) (v := ?vc3_25) rfl (by kernel_rfl) (by kernel_rfl) (by kernel_rfl) (fun _ _ _ h => h) (Or.inl ⟨by rfl, ?hyc3_25⟩) (by assumption) ?restc3_25
       case hyc3_25 => (intro w0 hSw; (try dsimp only at hSw); go_simp; rw [if_neg (by first | omega | (simp; omega))]; try rfl)
       case' restc3_25 => (try simp only [gx1, gx2, gx3]); try go_frame
       refine wpAnyH_take (i := 4) (v := ?vc4_26) rfl (by kernel_rfl) (by kernel_rfl) (by kernel_rfl) (fun _ _ _ h => h) (Or.inl ⟨by rfl, ?hyc4_26⟩) (by assumption) ?restc4_26
       case hyc4_26 => (intro w0 hSw; (try dsimp only at hSw); go_simp; rw [if_neg (by first | omega | (simp; omega))]; try rfl)
       case' restc4_26 => (try simp only [gx1, gx2, gx3]); try go_frame
       refine wpAnyH_ready (rs := [6, 20]) (by kernel_rfl) (by simp) ?_
       refine AllReadyH.cons rfl (fun K hK => ?_) (AllReadyH.cons rfl (fun K hK => ?_) AllReadyH.nil)
       ·go_simp
        refine (HITO.out ((n : Int) + 1) vv1 (by omega) (by omega) (bch HBB.out HQ1.out hBr)).mono ?_
        rintro e v2 ⟨rfl, hbq⟩
        have HQ2 := Hd (bch HQ1.out hbq (Below.size HQ1.out))
        clear hbq
        refine hK.out _ _ (HH.out _ (HQ2.out)) (fun hHeld => ?_)
        clear hK K
        (try simp only [gx1, gx2, gx3]); try go_frame
        refine wpAnyH_take (i := 7) (v := ?vc7_27) rfl (by kernel_rfl) (by kernel_rfl) (by kernel_rfl) (fun _ _ _ h => h) (Or.inl ⟨by rfl, ?hyc7_27⟩) (by assumption) ?restc7_27
        case hyc7_27 => (intro w0 hSw; (try dsimp only at hSw); go_simp; rw [if_neg (by first | omega | (simp; omega))]; try rfl)
        case' restc7_27 => (try simp only [gx1, gx2, gx3]); try go_frame
        refine wpAnyH_ready (rs := [11, 20]) (by kernel_rfl) (by simp) ?_
        refine AllReadyH.cons rfl (fun K hK => ?_) (AllReadyH.cons rfl (fun K hK => ?_) AllReadyH.nil)
        ·go_simp
         refine (inet_any v2 _ J ((n : Int) + 1) (HVr.out.below HQ2.out) HFJ.out ⟨by omega, by omega⟩).mono ?_
         rintro e v3 ⟨rfl, hbq⟩
         have HQ3 := Hd (bch HQ2.out hbq (Below.size HQ2.out))
         clear hbq
         refine hK.out _ _ (HH.out _ (HQ3.out)) (fun hHeld => ?_)
         clear hK K
         (try simp only [gx1, gx2, gx3]); try go_frame
         refine wpAnyH_ready (rs := [17, 20]) (by kernel_rfl) (by simp) ?_
         refine AllReadyH.cons rfl (fun K hK => ?_) (AllReadyH.cons rfl (fun K hK => ?_) AllReadyH.nil)
         ·go_simp
          refine (inet_any v3 _ c.inn ((n : Int) + 1) (HCr.out.ii.below HQ3.out) HC0.out.fi ⟨by omega, by omega⟩).mono ?_
          rintro e v4 ⟨rfl, hbq⟩
          have HQ4 := Hd (bch HQ3.out hbq (Below.size HQ3.out))
          clear hbq
          refine hK.out _ _ (HH.out _ (HQ4.out)) (fun hHeld => ?_)
          clear hK K
          (try simp only [gx1, gx2, gx3]); try go_frame
          refine tk 18 rfl rfl ‹_› ?_; try go_frame
          refine tk 19 rfl rfl ‹_› ?_; try go_frame
          refine rdy 20 rfl (fun K hK => ?_)
          go_simp
          refine hK.out _ _ (HH.out _ (bch HQ4.out (below_alloc v4 _) (Below.size HQ4.out))) (fun hHeld => ?_)
          clear hK K
          (try simp only [gx1, gx2, gx3]); try go_frame
          refine rdy 21 rfl (fun K hK => ?_)
          go_simp
          refine hK.out _ _ (HH.out _ (bch HQ4.out (below_alloc v4 _) (Below.size HQ4.out))) (fun hHeld => ?_)
          clear hK K
          (try simp only [gx1, gx2, gx3]); try go_frame
          refine wpAnyH_done (by kernel_rfl) ?_ _
          refine NoPanic.normal ?_
          go_wp2_with fail
          go_meet
          exact ⟨v4.heap.size, rfl, Below.size HQ4.out, by rw [← sid_join]; exact heap_new _ _, bch HQ4.out (below_alloc v4 _) (Below.size HQ4.out)⟩
         ·go_simp
          refine hK.out _ _ (HH.out _ (bch HQ3.out (below_alloc v3 _) (Below.size HQ3.out))) (fun hHeld => ?_)
          clear hK K
          (try simp only [gx1, gx2, gx3]); try go_frame
          have HQ5 := Hd (bch HQ3.out (below_alloc v3 (.cells #[.string ⟨#[]⟩, .int .i64 0, .int .i64 0, .int .i64 0, .int .i64 0] tPost)) (Below.size HQ3.out))
          have HZ5 := Hd (show (v3.alloc (.cells #[.string ⟨#[]⟩, .int .i64 0, .int .i64 0, .int .i64 0, .int .i64 0] tPost)).heap[v3.heap.size]? = some (.cells #[.string ⟨#[]⟩, .int .i64 0, .int .i64 0, .int .i64 0, .int .i64 0] tPost (0, 0)) from heap_new _ _)
          have hq5 : wr.heap.size ≤ v3.heap.size := Below.size HQ3.out
          refine rdy 17 rfl (fun K hK => ?_)
          go_simp
          refine (inet_any (v3.alloc (.cells #[.string ⟨#[]⟩, .int .i64 0, .int .i64 0, .int .i64 0, .int .i64 0] tPost)) _ c.inn ((n : Int) + 1) (HCr.out.ii.below HQ5.out) HC0.out.fi ⟨by omega, by omega⟩).mono ?_
          rintro e v6 ⟨rfl, hbq⟩
          have HQ6 := Hd (bch HQ5.out hbq (Below.size HQ5.out))
          have HZ6 := Hd (heap_keep HZ5.out hbq)
          clear hbq
          refine hK.out _ _ (HH.out _ (HQ6.out)) (fun hHeld => ?_)
          clear hK K
          (try simp only [gx1, gx2, gx3]); try go_frame
          refine tk 18 rfl rfl ‹_› ?_; try go_frame
          refine tk 19 rfl rfl ‹_› ?_; try go_frame
          obtain ⟨z0, z1, z2, z3, z4⟩ := cell5 HZ6.out
          obtain ⟨f0, f1, f2, f3, f4⟩ := froz5 HZ6.out
          have HTu := Hd (turned_set5 v6 v3.heap.size ((.string (((⟨#[115]⟩ : ByteArray) ++ ⟨(Lib.itoa x.2.1).toArray⟩) ++ ⟨#[45]⟩ ++ ⟨(Lib.itoa ((n : Int) + 1)).toArray⟩))) (.int .i64 ((n : Int) + 1)) (.int .i64 2) (.int .i64 1) (.int .i64 (In.netI J ((n : Int) + 1) - In.netI c.inn ((n : Int) + 1))))
          have HSET := Hd (set5x HZ6.out ((.string (((⟨#[115]⟩ : ByteArray) ++ ⟨(Lib.itoa x.2.1).toArray⟩) ++ ⟨#[45]⟩ ++ ⟨(Lib.itoa ((n : Int) + 1)).toArray⟩))) (.int .i64 ((n : Int) + 1)) (.int .i64 2) (.int .i64 1) (.int .i64 (In.netI J ((n : Int) + 1) - In.netI c.inn ((n : Int) + 1))))
          have HWs := Hd (Below.turned HQ6.out HTu.out (fun i hi => by rw [hi]; exact hq5) (Below.size HQ6.out))
          refine rdy 21 rfl (fun K hK => ?_)
          go_simp
          refine hK.out _ _ (HH.out _ (HWs.out)) (fun hHeld => ?_)
          clear hK K
          (try simp only [gx1, gx2, gx3]); try go_frame
          refine wpAnyH_done (by kernel_rfl) ?_ _
          refine NoPanic.normal ?_
          go_wp2_with fail
          go_meet
          exact ⟨v3.heap.size, rfl, hq5, by rw [← sid_join]; exact HSET.out, HWs.out⟩
        ·go_simp
         refine hK.out _ _ (HH.out _ (bch HQ2.out (below_alloc v2 _) (Below.size HQ2.out))) (fun hHeld => ?_)
         clear hK K
         (try simp only [gx1, gx2, gx3]); try go_frame
         have HQ7 := Hd (bch HQ2.out (below_alloc v2 (.cells #[.string ⟨#[]⟩, .int .i64 0, .int .i64 0, .int .i64 0, .int .i64 0] tPost)) (Below.size HQ2.out))
         have HZ7 := Hd (show (v2.alloc (.cells #[.string ⟨#[]⟩, .int .i64 0, .int .i64 0, .int .i64 0, .int .i64 0] tPost)).heap[v2.heap.size]? = some (.cells #[.string ⟨#[]⟩, .int .i64 0, .int .i64 0, .int .i64 0, .int .i64 0] tPost (0, 0)) from heap_new _ _)
         have hq7 : wr.heap.size ≤ v2.heap.size := Below.size HQ2.out
         refine rdy 11 rfl (fun K hK => ?_)
         go_simp
         refine (inet_any (v2.alloc (.cells #[.string ⟨#[]⟩, .int .i64 0, .int .i64 0, .int .i64 0, .int .i64 0] tPost)) _ J ((n : Int) + 1) (HVr.out.below HQ7.out) HFJ.out ⟨by omega, by omega⟩).mono ?_
         rintro e v8 ⟨rfl, hbq⟩
         have HQ8 := Hd (bch HQ7.out hbq (Below.size HQ7.out))
         have HZ8 := Hd (heap_keep HZ7.out hbq)
         clear hbq
         refine hK.out _ _ (HH.out _ (HQ8.out)) (fun hHeld => ?_)
         clear hK K
         (try simp only [gx1, gx2, gx3]); try go_frame
         refine rdy 17 rfl (fun K hK => ?_)
         go_simp
         refine (inet_any v8 _ c.inn ((n : Int) + 1) (HCr.out.ii.below HQ8.out) HC0.out.fi ⟨by omega, by omega⟩).mono ?_
         rintro e v9 ⟨rfl, hbq⟩
         have HQ9 := Hd (bch HQ8.out hbq (Below.size HQ8.out))
         have HZ9 := Hd (heap_keep HZ8.out hbq)
         clear hbq
         refine hK.out _ _ (HH.out _ (HQ9.out)) (fun hHeld => ?_)
         clear hK K
         (try simp only [gx1, gx2, gx3]); try go_frame
         refine tk 18 rfl rfl ‹_› ?_; try go_frame
         refine tk 19 rfl rfl ‹_› ?_; try go_frame
         obtain ⟨z0, z1, z2, z3, z4⟩ := cell5 HZ9.out
         obtain ⟨f0, f1, f2, f3, f4⟩ := froz5 HZ9.out
         have HTu := Hd (turned_set5 v9 v2.heap.size ((.string (((⟨#[115]⟩ : ByteArray) ++ ⟨(Lib.itoa x.2.1).toArray⟩) ++ ⟨#[45]⟩ ++ ⟨(Lib.itoa ((n : Int) + 1)).toArray⟩))) (.int .i64 ((n : Int) + 1)) (.int .i64 2) (.int .i64 1) (.int .i64 (In.netI J ((n : Int) + 1) - In.netI c.inn ((n : Int) + 1))))
         have HSET := Hd (set5x HZ9.out ((.string (((⟨#[115]⟩ : ByteArray) ++ ⟨(Lib.itoa x.2.1).toArray⟩) ++ ⟨#[45]⟩ ++ ⟨(Lib.itoa ((n : Int) + 1)).toArray⟩))) (.int .i64 ((n : Int) + 1)) (.int .i64 2) (.int .i64 1) (.int .i64 (In.netI J ((n : Int) + 1) - In.netI c.inn ((n : Int) + 1))))
         have HWs := Hd (Below.turned HQ9.out HTu.out (fun i hi => by rw [hi]; exact hq7) (Below.size HQ9.out))
         refine rdy 21 rfl (fun K hK => ?_)
         go_simp
         refine hK.out _ _ (HH.out _ (HWs.out)) (fun hHeld => ?_)
         clear hK K
         (try simp only [gx1, gx2, gx3]); try go_frame
         refine wpAnyH_done (by kernel_rfl) ?_ _
         refine NoPanic.normal ?_
         go_wp2_with fail
         go_meet
         exact ⟨v2.heap.size, rfl, hq7, by rw [← sid_join]; exact HSET.out, HWs.out⟩
       ·go_simp
        refine hK.out _ _ (HH.out _ (bch HQ1.out (below_alloc vv1 _) (Below.size HQ1.out))) (fun hHeld => ?_)
        clear hK K
        (try simp only [gx1, gx2, gx3]); try go_frame
        have HQ10 := Hd (bch HQ1.out (below_alloc vv1 (.cells #[.string ⟨#[]⟩, .int .i64 0, .int .i64 0, .int .i64 0, .int .i64 0] tPost)) (Below.size HQ1.out))
        have HZ10 := Hd (show (vv1.alloc (.cells #[.string ⟨#[]⟩, .int .i64 0, .int .i64 0, .int .i64 0, .int .i64 0] tPost)).heap[vv1.heap.size]? = some (.cells #[.string ⟨#[]⟩, .int .i64 0, .int .i64 0, .int .i64 0, .int .i64 0] tPost (0, 0)) from heap_new _ _)
        have hq10 : wr.heap.size ≤ vv1.heap.size := Below.size HQ1.out
        refine rdy 6 rfl (fun K hK => ?_)
        go_simp
        refine (HITO.out ((n : Int) + 1) (vv1.alloc (.cells #[.string ⟨#[]⟩, .int .i64 0, .int .i64 0, .int .i64 0, .int .i64 0] tPost)) (by omega) (by omega) (bch HBB.out HQ10.out hBr)).mono ?_
        rintro e v11 ⟨rfl, hbq⟩
        have HQ11 := Hd (bch HQ10.out hbq (Below.size HQ10.out))
        have HZ11 := Hd (heap_keep HZ10.out hbq)
        clear hbq
        refine hK.out _ _ (HH.out _ (HQ11.out)) (fun hHeld => ?_)
        clear hK K
        (try simp only [gx1, gx2, gx3]); try go_frame
        refine wpAnyH_take (i := 7) (v := ?vc7_34) rfl (by kernel_rfl) (by kernel_rfl) (by kernel_rfl) (fun _ _ _ h => h) (Or.inl ⟨by rfl, ?hyc7_34⟩) (by assumption) ?restc7_34
        case hyc7_34 => (intro w0 hSw; (try dsimp only at hSw); go_simp; rw [if_neg (by first | omega | (simp; omega))]; try rfl)
        case' restc7_34 => (try simp only [gx1, gx2, gx3]); try go_frame
        refine rdy 11 rfl (fun K hK => ?_)
        go_simp
        refine (inet_any v11 _ J ((n : Int) + 1) (HVr.out.below HQ11.out) HFJ.out ⟨by omega, by omega⟩).mono ?_
        rintro e v12 ⟨rfl, hbq⟩
        have HQ12 := Hd (bch HQ11.out hbq (Below.size HQ11.out))
        have HZ12 := Hd (heap_keep HZ11.out hbq)
        clear hbq
        refine hK.out _ _ (HH.out _ (HQ12.out)) (fun hHeld => ?_)
        clear hK K
        (try simp only [gx1, gx2, gx3]); try go_frame
        refine rdy 17 rfl (fun K hK => ?_)
        go_simp
        refine (inet_any v12 _ c.inn ((n : Int) + 1) (HCr.out.ii.below HQ12.out) HC0.out.fi ⟨by omega, by omega⟩).mono ?_
        rintro e v13 ⟨rfl, hbq⟩
        have HQ13 := Hd (bch HQ12.out hbq (Below.size HQ12.out))
        have HZ13 := Hd (heap_keep HZ12.out hbq)
        clear hbq
        refine hK.out _ _ (HH.out _ (HQ13.out)) (fun hHeld => ?_)
        clear hK K
        (try simp only [gx1, gx2, gx3]); try go_frame
        refine tk 18 rfl rfl ‹_› ?_; try go_frame
        refine tk 19 rfl rfl ‹_› ?_; try go_frame
        obtain ⟨z0, z1, z2, z3, z4⟩ := cell5 HZ13.out
        obtain ⟨f0, f1, f2, f3, f4⟩ := froz5 HZ13.out
        have HTu := Hd (turned_set5 v13 vv1.heap.size ((.string (((⟨#[115]⟩ : ByteArray) ++ ⟨(Lib.itoa x.2.1).toArray⟩) ++ ⟨#[45]⟩ ++ ⟨(Lib.itoa ((n : Int) + 1)).toArray⟩))) (.int .i64 ((n : Int) + 1)) (.int .i64 2) (.int .i64 1) (.int .i64 (In.netI J ((n : Int) + 1) - In.netI c.inn ((n : Int) + 1))))
        have HSET := Hd (set5x HZ13.out ((.string (((⟨#[115]⟩ : ByteArray) ++ ⟨(Lib.itoa x.2.1).toArray⟩) ++ ⟨#[45]⟩ ++ ⟨(Lib.itoa ((n : Int) + 1)).toArray⟩))) (.int .i64 ((n : Int) + 1)) (.int .i64 2) (.int .i64 1) (.int .i64 (In.netI J ((n : Int) + 1) - In.netI c.inn ((n : Int) + 1))))
        have HWs := Hd (Below.turned HQ13.out HTu.out (fun i hi => by rw [hi]; exact hq10) (Below.size HQ13.out))
        refine rdy 21 rfl (fun K hK => ?_)
        go_simp
        refine hK.out _ _ (HH.out _ (HWs.out)) (fun hHeld => ?_)
        clear hK K
        (try simp only [gx1, gx2, gx3]); try go_frame
        refine wpAnyH_done (by kernel_rfl) ?_ _
        refine NoPanic.normal ?_
        go_wp2_with fail
        go_meet
        exact ⟨vv1.heap.size, rfl, hq10, by rw [← sid_join]; exact HSET.out, HWs.out⟩
      ·go_simp
       refine hK.out _ _ (HH.out _ (bch (below_drew1 (Below.refl wr.heap.size wr)) (below_alloc wr.drew _) (Below.size (below_drew1 (Below.refl wr.heap.size wr))))) (fun hHeld => ?_)
       clear hK K
       (try simp only [gx1, gx2, gx3]); try go_frame
       have HQ14 := Hd (bch (below_drew1 (Below.refl wr.heap.size wr)) (below_alloc wr.drew (.cells #[.string ⟨#[]⟩, .int .i64 0, .int .i64 0, .int .i64 0, .int .i64 0] tPost)) (Below.size (below_drew1 (Below.refl wr.heap.size wr))))
       have HZ14 := Hd (show (wr.drew.alloc (.cells #[.string ⟨#[]⟩, .int .i64 0, .int .i64 0, .int .i64 0, .int .i64 0] tPost)).heap[wr.heap.size]? = some (.cells #[.string ⟨#[]⟩, .int .i64 0, .int .i64 0, .int .i64 0, .int .i64 0] tPost (0, 0)) from heap_new _ _)
       have hq14 : wr.heap.size ≤ wr.heap.size := Nat.le_refl _
       refine rdy 2 rfl (fun K hK => ?_)
       go_simp
       refine (HITO.out x.2.1 (wr.drew.alloc (.cells #[.string ⟨#[]⟩, .int .i64 0, .int .i64 0, .int .i64 0, .int .i64 0] tPost)) hq0.1 hq0.2 (bch HBB.out HQ14.out hBr)).mono ?_
       rintro e v15 ⟨rfl, hbq⟩
       have HQ15 := Hd (bch HQ14.out hbq (Below.size HQ14.out))
       have HZ15 := Hd (heap_keep HZ14.out hbq)
       clear hbq
       refine hK.out _ _ (HH.out _ (HQ15.out)) (fun hHeld => ?_)
       clear hK K
       (try simp only [gx1, gx2, gx3]); try go_frame
       refine wpAnyH_take (i := 3) (v := ?vc3_37) rfl (by kernel_rfl) (by kernel_rfl) (by kernel_rfl) (fun _ _ _ h => h) (Or.inl ⟨by rfl, ?hyc3_37⟩) (by assumption) ?restc3_37
       case hyc3_37 => (intro w0 hSw; (try dsimp only at hSw); go_simp; rw [if_neg (by first | omega | (simp; omega))]; try rfl)
       case' restc3_37 => (try simp only [gx1, gx2, gx3]); try go_frame
       refine wpAnyH_take (i := 4) (v := ?vc4_38) rfl (by kernel_rfl) (by kernel_rfl) (by kernel_rfl) (fun _ _ _ h => h) (Or.inl ⟨by rfl, ?hyc4_38⟩) (by assumption) ?restc4_38
       case hyc4_38 => (intro w0 hSw; (try dsimp only at hSw); go_simp; rw [if_neg (by first | omega | (simp; omega))]; try rfl)
       case' restc4_38 => (try simp only [gx1, gx2, gx3]); try go_frame
       refine rdy 6 rfl (fun K hK => ?_)
       go_simp
       refine (HITO.out ((n : Int) + 1) v15 (by omega) (by omega) (bch HBB.out HQ15.out hBr)).mono ?_
       rintro e v16 ⟨rfl, hbq⟩
       have HQ16 := Hd (bch HQ15.out hbq (Below.size HQ15.out))
       have HZ16 := Hd (heap_keep HZ15.out hbq)
       clear hbq
       refine hK.out _ _ (HH.out _ (HQ16.out)) (fun hHeld => ?_)
       clear hK K
       (try simp only [gx1, gx2, gx3]); try go_frame
       refine wpAnyH_take (i := 7) (v := ?vc7_39) rfl (by kernel_rfl) (by kernel_rfl) (by kernel_rfl) (fun _ _ _ h => h) (Or.inl ⟨by rfl, ?hyc7_39⟩) (by assumption) ?restc7_39
       case hyc7_39 => (intro w0 hSw; (try dsimp only at hSw); go_simp; rw [if_neg (by first | omega | (simp; omega))]; try rfl)
       case' restc7_39 => (try simp only [gx1, gx2, gx3]); try go_frame
       refine rdy 11 rfl (fun K hK => ?_)
       go_simp
       refine (inet_any v16 _ J ((n : Int) + 1) (HVr.out.below HQ16.out) HFJ.out ⟨by omega, by omega⟩).mono ?_
       rintro e v17 ⟨rfl, hbq⟩
       have HQ17 := Hd (bch HQ16.out hbq (Below.size HQ16.out))
       have HZ17 := Hd (heap_keep HZ16.out hbq)
       clear hbq
       refine hK.out _ _ (HH.out _ (HQ17.out)) (fun hHeld => ?_)
       clear hK K
       (try simp only [gx1, gx2, gx3]); try go_frame
       refine rdy 17 rfl (fun K hK => ?_)
       go_simp
       refine (inet_any v17 _ c.inn ((n : Int) + 1) (HCr.out.ii.below HQ17.out) HC0.out.fi ⟨by omega, by omega⟩).mono ?_
       rintro e v18 ⟨rfl, hbq⟩
       have HQ18 := Hd (bch HQ17.out hbq (Below.size HQ17.out))
       have HZ18 := Hd (heap_keep HZ17.out hbq)
       clear hbq
       refine hK.out _ _ (HH.out _ (HQ18.out)) (fun hHeld => ?_)
       clear hK K
       (try simp only [gx1, gx2, gx3]); try go_frame
       refine tk 18 rfl rfl ‹_› ?_; try go_frame
       refine tk 19 rfl rfl ‹_› ?_; try go_frame
       obtain ⟨z0, z1, z2, z3, z4⟩ := cell5 HZ18.out
       obtain ⟨f0, f1, f2, f3, f4⟩ := froz5 HZ18.out
       have HTu := Hd (turned_set5 v18 wr.heap.size ((.string (((⟨#[115]⟩ : ByteArray) ++ ⟨(Lib.itoa x.2.1).toArray⟩) ++ ⟨#[45]⟩ ++ ⟨(Lib.itoa ((n : Int) + 1)).toArray⟩))) (.int .i64 ((n : Int) + 1)) (.int .i64 2) (.int .i64 1) (.int .i64 (In.netI J ((n : Int) + 1) - In.netI c.inn ((n : Int) + 1))))
       have HSET := Hd (set5x HZ18.out ((.string (((⟨#[115]⟩ : ByteArray) ++ ⟨(Lib.itoa x.2.1).toArray⟩) ++ ⟨#[45]⟩ ++ ⟨(Lib.itoa ((n : Int) + 1)).toArray⟩))) (.int .i64 ((n : Int) + 1)) (.int .i64 2) (.int .i64 1) (.int .i64 (In.netI J ((n : Int) + 1) - In.netI c.inn ((n : Int) + 1))))
       have HWs := Hd (Below.turned HQ18.out HTu.out (fun i hi => by rw [hi]; exact hq14) (Below.size HQ18.out))
       refine rdy 21 rfl (fun K hK => ?_)
       go_simp
       refine hK.out _ _ (HH.out _ (HWs.out)) (fun hHeld => ?_)
       clear hK K
       (try simp only [gx1, gx2, gx3]); try go_frame
       refine wpAnyH_done (by kernel_rfl) ?_ _
       refine NoPanic.normal ?_
       go_wp2_with fail
       go_meet
       exact ⟨wr.heap.size, rfl, hq14, by rw [← sid_join]; exact HSET.out, HWs.out⟩
     case rest =>
      obtain ⟨b8, rfl, hb8, hp8, hB8⟩ := hcut
      obtain ⟨by_, hby⟩ : ∃ b, In.netI J ((n : Int) + 1) - In.netI c.inn ((n : Int) + 1) = b := ⟨_, rfl⟩
      rw [hby] at HP1 hp8
      have hbyb : -2199023255552 ≤ by_ ∧ by_ ≤ 2199023255552 := by omega
      have HP8 := Hd hp8; have HB8 := Hd hB8
      clear hp8 hB8 hw2
      generalize wc = w8 at HP8 HB8 ⊢
      clear y0 y1 y2 y3 y4 y5 y6 y7 y8 y9 y10 y11 k0 k1 k2 i0 i1 i2 i3 i4 i5 i6 i7 i8 i9
      obtain ⟨m0, m1, m2, m3, m4⟩ := cell5 HP8.out
      obtain ⟨f0, f1, f2, f3, f4⟩ := froz5 HP8.out
      have hwn : IntKind.i64.wrap (-by_) = -by_ := IntWalk.i64_in _ (by omega)
      by_cases hneg : by_ < 0
      ·have hpos' : 0 < -by_ := by omega
       go_upto_region 10 with (fail)
       obtain ⟨w9, hw9⟩ : ∃ w9, w9 = ((w8.setCell ⟨b8, 2, none⟩ (.int .i64 1)).setCell ⟨b8, 3, none⟩ (.int .i64 2)).setCell ⟨b8, 4, none⟩ (.int .i64 (-by_)) := ⟨_, rfl⟩
       rw [← hw9]
       have ht9 : Turned (fun j => j = b8) w8 w9 := by rw [hw9]; exact ((turned_set _ _ _ _).trans (turned_set _ _ _ _)).trans (turned_set _ _ _ _)
       have HP9 := Hd (show w9.heap[b8]? = some (.cells #[.string ⟨(sidL x.2.1 ((n : Int) + 1)).toArray⟩, .int .i64 ((n : Int) + 1), .int .i64 1, .int .i64 2, .int .i64 (-by_)] tPost (0, 0)) by rw [hw9]; exact set5_345 HP8.out _ _ _)
       have HB9 := Hd (Below.turned HB8.out ht9 (fun i h => by omega) HB8.out.size)
       clear hw9 ht9 m0 m1 m2 m3 m4 f0 f1 f2 f3 f4
       have HPB := Hd (HP1.out.trans (stm_neg hneg))
       have hm := HMP.out _ (stm_mem hn60 HPB.out)
       have hf := stm_fresh HND.out hn60 HPB.out
       have HM := Hd hm; have HF := Hd hf
       clear hm hf
       have HC9 := Hd (HCr.out.below HB9.out)
       have y1' := HC9.out.c01.2
       obtain ⟨m0, m1, m2, m3, m4⟩ := cell5 HP9.out
       go_wp2_with fail
       refine wp_region_still_tail 5 (by kernel_rfl) (by kernel_rfl) ?_
       simp only [List.take_succ_cons, List.take_zero, List.drop_succ_cons, List.drop_zero]
       iterate 5 still_step
       refine wpStill_nil ?_
       change wpList _ _ _ _ _ w9.drew
       go_wp2_with fail
       refine (bpost_any (HC9.out.bk.below (below_drew1 (Below.refl _ w9))) ⟨sidL x.2.1 ((n : Int) + 1), (n : Int) + 1, 1, 2, -by_⟩ HM.out HF.out (by have := stmPs_len c.inn J x.2.1 n; rw [List.length_append]; omega)).mono ?_
       rintro e wz ⟨vb2, rfl, hnew, htz, hfar⟩
       have htz' : Turned (Bs bb pm bm vb') w9 wz := (Turned.refl _ w9).drew.trans htz
       have hbs1 : ∀ j, w.heap.size ≤ j → (∀ cs T, w9.heap[j]? = some (.cells cs T (0, 0)) → T ≠ tPost) → (∃ cs T, w9.heap[j]? = some (.cells cs T (0, 0))) → ¬ Bs bb pm bm vb' j := fun j hj h1 ⟨cs, T, h2⟩ hs => by have := HC0.out.bk.lt; rcases hs with e | e | e | e; omega; omega; omega; exact own_apartT HC9.out.bk.ob h2 (h1 _ _ h2) e
       have hB9 := heap_keep HBr.out HB9.out
       have hX9 := heap_keep HXr.out HB9.out
       have HB' := Hd (heap_turned hB9 htz' (hbs1 b5 (by omega) (fun cs T h => by rw [hB9] at h; injection h with h; injection h with _ h; rw [← h]; decide) ⟨_, _, hB9⟩))
       have HX' := Hd (heap_turned hX9 htz' (hbs1 _ (Nat.le_refl _) (fun cs T h => by rw [hX9] at h; injection h with h; injection h with _ h; rw [← h]; decide) ⟨_, _, hX9⟩))
       have HC' := Hd (show Cw B wz cb bb pm bm (.slice A c.l.length cl) vb2 (.agg #[.int .i64 c.inn.a.1, .int .i64 c.inn.a.2.1, .slice A0 An0 Ac0, .int .i64 c.inn.b.1, .int .i64 c.inn.b.2.1, .slice A1 An1 Ac1, .int .i64 c.inn.c.1, .int .i64 c.inn.c.2.1, .slice A2 An2 Ac2, .map m]) { c with b := c.b ++ stmPs c.inn J x.2.1 (n + 1) } by rw [stmPs_succ, HPB.out, ← List.append_assoc]; exact HC9.out.post hnew htz' (fun j hj => hfar j hj))
       have HV' := Hd ((HVr.out.below HB9.out).turned htz' (fun j hj => HAr.out j (.inr (.inl hj))))
       have hsz9 := HB9.out.size
       have hszr := HTr.out.size
       have HF' := Hd (show ∀ j, vb2.ownBlock = some j → vb.ownBlock = some j ∨ w.heap.size ≤ j from fun j hj => by rcases hfar j hj with h | h; exact HFr.out j h; (right; simp at h; omega))
       have HA' := Hd (show ∀ j, Cs cb bb pm bm (.slice A c.l.length cl) vb2 j → Av j (.agg #[.int .i64 J.a.1, .int .i64 J.a.2.1, .slice C0 Cn0 Cc0, .int .i64 J.b.1, .int .i64 J.b.2.1, .slice C1 Cn1 Cc1, .int .i64 J.c.1, .int .i64 J.c.2.1, .slice C2 Cn2 Cc2, .map mc]) J from fun j hj => by rcases hj with h | (h | h | h | h) | h; exact HAr.out j (.inl h); exact HAr.out j (.inr (.inl (.inl h))); exact HAr.out j (.inr (.inl (.inr (.inl h)))); exact HAr.out j (.inr (.inl (.inr (.inr (.inl h))))); (rcases hfar j h with h | h; exact HAr.out j (.inr (.inl (.inr (.inr (.inr h))))); exact Av.far HVr.out (by simp at h; omega)); exact HAr.out j (.inr (.inr h)))
       have HT' := Hd (show Turned (Cs cb bb pm bm (.slice A c.l.length cl) vb) w wz from (HTr.out.trans (Turned.of_below HB9.out)).far (htz'.mono (fun i h => by rcases h with h | h | h | h; exact .inl (.inr (.inl (.inl h))); exact .inl (.inr (.inl (.inr (.inl h)))); exact .inl (.inr (.inl (.inr (.inr (.inl h))))); (rcases HFr.out i h with h | h; exact .inl (.inr (.inl (.inr (.inr (.inr h))))); exact .inr h))))
       clear hnew htz htz' hfar hbs1 hB9 hX9 m0 m1 m2 m3 m4 y1'
       go_wp2_with fail
       go_roundw
       case rel => exact ⟨n + 1, vb2, by go_num, by omega, HC'.out, HB'.out, HX'.out, HV'.out, HA'.out, HT'.out, HF'.out⟩
       case measure => simp [intOf]; omega
      ·by_cases hpos : 0 < by_
       ·have HP9 := Hd HP8.out; have HB9 := Hd HB8.out
        have HPB := Hd (HP1.out.trans (stm_pos hpos))
        have hm := HMP.out _ (stm_mem hn60 HPB.out)
        have hf := stm_fresh HND.out hn60 HPB.out
        have HM := Hd hm; have HF := Hd hf
        clear hm hf
        have HC9 := Hd (HCr.out.below HB9.out)
        have y1' := HC9.out.c01.2
        obtain ⟨m0, m1, m2, m3, m4⟩ := cell5 HP9.out
        go_wp2_with fail
        refine wp_region_still_tail 5 (by kernel_rfl) (by kernel_rfl) ?_
        simp only [List.take_succ_cons, List.take_zero, List.drop_succ_cons, List.drop_zero]
        iterate 5 still_step
        refine wpStill_nil ?_
        change wpList _ _ _ _ _ w8.drew
        go_wp2_with fail
        refine (bpost_any (HC9.out.bk.below (below_drew1 (Below.refl _ w8))) ⟨sidL x.2.1 ((n : Int) + 1), (n : Int) + 1, 2, 1, by_⟩ HM.out HF.out (by have := stmPs_len c.inn J x.2.1 n; rw [List.length_append]; omega)).mono ?_
        rintro e wz ⟨vb2, rfl, hnew, htz, hfar⟩
        have htz' : Turned (Bs bb pm bm vb') w8 wz := (Turned.refl _ w8).drew.trans htz
        have hbs1 : ∀ j, w.heap.size ≤ j → (∀ cs T, w8.heap[j]? = some (.cells cs T (0, 0)) → T ≠ tPost) → (∃ cs T, w8.heap[j]? = some (.cells cs T (0, 0))) → ¬ Bs bb pm bm vb' j := fun j hj h1 ⟨cs, T, h2⟩ hs => by have := HC0.out.bk.lt; rcases hs with e | e | e | e; omega; omega; omega; exact own_apartT HC9.out.bk.ob h2 (h1 _ _ h2) e
        have hB9 := heap_keep HBr.out HB9.out
        have hX9 := heap_keep HXr.out HB9.out
        have HB' := Hd (heap_turned hB9 htz' (hbs1 b5 (by omega) (fun cs T h => by rw [hB9] at h; injection h with h; injection h with _ h; rw [← h]; decide) ⟨_, _, hB9⟩))
        have HX' := Hd (heap_turned hX9 htz' (hbs1 _ (Nat.le_refl _) (fun cs T h => by rw [hX9] at h; injection h with h; injection h with _ h; rw [← h]; decide) ⟨_, _, hX9⟩))
        have HC' := Hd (show Cw B wz cb bb pm bm (.slice A c.l.length cl) vb2 (.agg #[.int .i64 c.inn.a.1, .int .i64 c.inn.a.2.1, .slice A0 An0 Ac0, .int .i64 c.inn.b.1, .int .i64 c.inn.b.2.1, .slice A1 An1 Ac1, .int .i64 c.inn.c.1, .int .i64 c.inn.c.2.1, .slice A2 An2 Ac2, .map m]) { c with b := c.b ++ stmPs c.inn J x.2.1 (n + 1) } by rw [stmPs_succ, HPB.out, ← List.append_assoc]; exact HC9.out.post hnew htz' (fun j hj => hfar j hj))
        have HV' := Hd ((HVr.out.below HB9.out).turned htz' (fun j hj => HAr.out j (.inr (.inl hj))))
        have hsz9 := HB9.out.size
        have hszr := HTr.out.size
        have HF' := Hd (show ∀ j, vb2.ownBlock = some j → vb.ownBlock = some j ∨ w.heap.size ≤ j from fun j hj => by rcases hfar j hj with h | h; exact HFr.out j h; (right; simp at h; omega))
        have HA' := Hd (show ∀ j, Cs cb bb pm bm (.slice A c.l.length cl) vb2 j → Av j (.agg #[.int .i64 J.a.1, .int .i64 J.a.2.1, .slice C0 Cn0 Cc0, .int .i64 J.b.1, .int .i64 J.b.2.1, .slice C1 Cn1 Cc1, .int .i64 J.c.1, .int .i64 J.c.2.1, .slice C2 Cn2 Cc2, .map mc]) J from fun j hj => by rcases hj with h | (h | h | h | h) | h; exact HAr.out j (.inl h); exact HAr.out j (.inr (.inl (.inl h))); exact HAr.out j (.inr (.inl (.inr (.inl h)))); exact HAr.out j (.inr (.inl (.inr (.inr (.inl h))))); (rcases hfar j h with h | h; exact HAr.out j (.inr (.inl (.inr (.inr (.inr h))))); exact Av.far HVr.out (by simp at h; omega)); exact HAr.out j (.inr (.inr h)))
        have HT' := Hd (show Turned (Cs cb bb pm bm (.slice A c.l.length cl) vb) w wz from (HTr.out.trans (Turned.of_below HB9.out)).far (htz'.mono (fun i h => by rcases h with h | h | h | h; exact .inl (.inr (.inl (.inl h))); exact .inl (.inr (.inl (.inr (.inl h)))); exact .inl (.inr (.inl (.inr (.inr (.inl h))))); (rcases HFr.out i h with h | h; exact .inl (.inr (.inl (.inr (.inr (.inr h))))); exact .inr h))))
        clear hnew htz htz' hfar hbs1 hB9 hX9 m0 m1 m2 m3 m4 y1'
        go_wp2_with fail
        go_roundw
        case rel => exact ⟨n + 1, vb2, by go_num, by omega, HC'.out, HB'.out, HX'.out, HV'.out, HA'.out, HT'.out, HF'.out⟩
        case measure => simp [intOf]; omega
       ·have HPB := Hd (HP1.out.trans (stm_nil hpos hneg))
        have HN := Hd (show stmPs c.inn J x.2.1 (n + 1) = stmPs c.inn J x.2.1 n by rw [stmPs_succ, HPB.out, List.append_nil])
        go_wp2_with fail
        go_roundw
        case rel => exact ⟨n + 1, vb', by go_num, by omega, by rw [HN.out]; exact HCr.out.below HB8.out, heap_keep HBr.out HB8.out, heap_keep HXr.out HB8.out, HVr.out.below HB8.out, HAr.out, HTr.out.trans (Turned.of_below HB8.out), HFr.out⟩
        case measure => simp [intOf]; omega
    ·obtain rfl : n = 60 := by omega
     have HCCr := Hd (show wr.heap[cb]? = some (.cells #[.slice A c.l.length cl, .pointer (some ⟨bb, 0, none⟩), .int .i64 c.inn.a.1, .int .i64 c.inn.a.2.1, .slice A0 An0 Ac0, .int .i64 c.inn.b.1, .int .i64 c.inn.b.2.1, .slice A1 An1 Ac1, .int .i64 c.inn.c.1, .int .i64 c.inn.c.2.1, .slice A2 An2 Ac2, .map m] tCore (0, 0)) by simpa [inn10] using HCr.out.hc)
     obtain ⟨y0, y1, y2, y3, y4, y5, y6, y7, y8, y9, y10, y11⟩ := cell12 HCCr.out
     obtain ⟨f0, f1, f2, f3, f4, f5, f6, f7, f8, f9, f10, f11⟩ := froz12 HCCr.out
     obtain ⟨i0, i1, i2, i3, i4, i5, i6, i7, i8, i9⟩ := cell10 HBr.out
     go_wp2_with fail
     have ht9 := turned_in wr cb (.int .i64 J.a.1) (.int .i64 J.a.2.1) (.slice C0 Cn0 Cc0) (.int .i64 J.b.1) (.int .i64 J.b.2.1) (.slice C1 Cn1 Cc1) (.int .i64 J.c.1) (.int .i64 J.c.2.1) (.slice C2 Cn2 Cc2) (.map mc)
     have hs9 := set_in HCCr.out (.int .i64 J.a.1) (.int .i64 J.a.2.1) (.slice C0 Cn0 Cc0) (.int .i64 J.b.1) (.int .i64 J.b.2.1) (.slice C1 Cn1 Cc1) (.int .i64 J.c.1) (.int .i64 J.c.2.1) (.slice C2 Cn2 Cc2) (.map mc)
     have HSC := Hd (show stmC c x = { c with b := c.b ++ stmPs c.inn J x.2.1 60, inn := J } by unfold stmC; rw [if_pos HE.out, HJ.out])
     have hNEW : Cw B ((((((((((wr.setCell ⟨cb, 2, none⟩ (.int .i64 J.a.1)).setCell ⟨cb, 3, none⟩ (.int .i64 J.a.2.1)).setCell ⟨cb, 4, none⟩ (.slice C0 Cn0 Cc0)).setCell ⟨cb, 5, none⟩ (.int .i64 J.b.1)).setCell ⟨cb, 6, none⟩ (.int .i64 J.b.2.1)).setCell ⟨cb, 7, none⟩ (.slice C1 Cn1 Cc1)).setCell ⟨cb, 8, none⟩ (.int .i64 J.c.1)).setCell ⟨cb, 9, none⟩ (.int .i64 J.c.2.1)).setCell ⟨cb, 10, none⟩ (.slice C2 Cn2 Cc2)).setCell ⟨cb, 11, none⟩ (.map mc)) cb bb pm bm (.slice A c.l.length cl) vb' (.agg #[.int .i64 J.a.1, .int .i64 J.a.2.1, .slice C0 Cn0 Cc0, .int .i64 J.b.1, .int .i64 J.b.2.1, .slice C1 Cn1 Cc1, .int .i64 J.c.1, .int .i64 J.c.2.1, .slice C2 Cn2 Cc2, .map mc]) (stmC c x) := by
       rw [HSC.out]
       exact ⟨by simpa [inn10] using hs9, own_turned HCr.out.ol ht9 (fun j hj hs => (HCr.out.nl j hj).1 hs), HCr.out.bk.kept ht9 (fun j hj hs => HCr.out.cbB (by rw [← hs]; exact hj)), HVr.out.turned ht9 (fun j hs => HAr.out j (.inl hs)), HFJ.out, fun j hj => HAr.out j hj, HCr.out.ge, HCr.out.nc, HCr.out.nl⟩
     have hTN := HTr.out.trans (ht9.mono (S' := Cs cb bb pm bm (.slice A c.l.length cl) vb) (fun i h => .inl h))
     have hAX : ∀ j, j < w.heap.size → Av j (.agg #[.int .i64 c.inn.a.1, .int .i64 c.inn.a.2.1, .slice A0 An0 Ac0, .int .i64 c.inn.b.1, .int .i64 c.inn.b.2.1, .slice A1 An1 Ac1, .int .i64 c.inn.c.1, .int .i64 c.inn.c.2.1, .slice A2 An2 Ac2, .map m]) c.inn → Av j (.agg #[.int .i64 J.a.1, .int .i64 J.a.2.1, .slice C0 Cn0 Cc0, .int .i64 J.b.1, .int .i64 J.b.2.1, .slice C1 Cn1 Cc1, .int .i64 J.c.1, .int .i64 J.c.2.1, .slice C2 Cn2 Cc2, .map mc]) (stmC c x).inn := fun j hj h => by rw [HSC.out]; exact HAVX.out j hj h
     go_ret
     first | exact ⟨vb', _, by rw [HE.out]; rfl, hNEW, hTN, HFr.out, hAX⟩ | exact ⟨by rw [HE.out]; rfl, vb', _, hNEW, hTN, HFr.out, hAX⟩
 ·obtain ⟨en, hen⟩ : ∃ en, In.accE c.inn x = en := ⟨_, rfl⟩
  have HE := Hd hen
  have hn1 := bneT (hen ▸ he)
  have HSC := Hd (show stmC c x = c by unfold stmC; rw [if_neg he])
  have HACC := Hd (fun W (hW : Below wa.heap.size wa W) => hen ▸ accept_no W _ c.inn x _ (HII.out.below (bch HB.out hW HB.out.size)) (HU.out.keep (bch HB.out hW HB.out.size)) (HT.out.below (bch HB.out hW HB.out.size)) he)
  clear he hen hmp hnd
  go_cut [5, 6] from 9 to 17 (fun p ee wx => ∃ b5, p = .pointer (some ⟨b5, 0, none⟩) ∧ ee = .int .i64 en ∧ Below wa.heap.size wa wx)
  case first =>
   have HH := Hd (fun W (hb : Below wa.heap.size wa W) => (⟨Hd hb, kc hb y2, kc hb y3, kc hb y4, kc hb y5, kc hb y6, kc hb y7, kc hb y8, kc hb y9, kc hb y10, kc hb y11, kc hb k0, kc hb k1, kc hb k2⟩ : (fun w' => Hid (Below wa.heap.size wa w') ∧ w'.cell? ⟨cb, 2, none⟩ = some (.int .i64 c.inn.a.1) ∧ w'.cell? ⟨cb, 3, none⟩ = some (.int .i64 c.inn.a.2.1) ∧ w'.cell? ⟨cb, 4, none⟩ = some (.slice A0 An0 Ac0) ∧ w'.cell? ⟨cb, 5, none⟩ = some (.int .i64 c.inn.b.1) ∧ w'.cell? ⟨cb, 6, none⟩ = some (.int .i64 c.inn.b.2.1) ∧ w'.cell? ⟨cb, 7, none⟩ = some (.slice A1 An1 Ac1) ∧ w'.cell? ⟨cb, 8, none⟩ = some (.int .i64 c.inn.c.1) ∧ w'.cell? ⟨cb, 9, none⟩ = some (.int .i64 c.inn.c.2.1) ∧ w'.cell? ⟨cb, 10, none⟩ = some (.slice A2 An2 Ac2) ∧ w'.cell? ⟨cb, 11, none⟩ = some (.map m) ∧ w'.cell? ⟨w.heap.size, 0, none⟩ = some (.int .i64 x.1) ∧ w'.cell? ⟨w.heap.size, 1, none⟩ = some (.int .i64 x.2.1) ∧ w'.cell? ⟨w.heap.size, 2, none⟩ = some (.slice Au x.2.2.length cu)) W))
   refine wp_region_noPanic ?_
   refine wp_region_held_drew (S := (fun w' => Hid (Below wa.heap.size wa w') ∧ w'.cell? ⟨cb, 2, none⟩ = some (.int .i64 c.inn.a.1) ∧ w'.cell? ⟨cb, 3, none⟩ = some (.int .i64 c.inn.a.2.1) ∧ w'.cell? ⟨cb, 4, none⟩ = some (.slice A0 An0 Ac0) ∧ w'.cell? ⟨cb, 5, none⟩ = some (.int .i64 c.inn.b.1) ∧ w'.cell? ⟨cb, 6, none⟩ = some (.int .i64 c.inn.b.2.1) ∧ w'.cell? ⟨cb, 7, none⟩ = some (.slice A1 An1 Ac1) ∧ w'.cell? ⟨cb, 8, none⟩ = some (.int .i64 c.inn.c.1) ∧ w'.cell? ⟨cb, 9, none⟩ = some (.int .i64 c.inn.c.2.1) ∧ w'.cell? ⟨cb, 10, none⟩ = some (.slice A2 An2 Ac2) ∧ w'.cell? ⟨cb, 11, none⟩ = some (.map m) ∧ w'.cell? ⟨w.heap.size, 0, none⟩ = some (.int .i64 x.1) ∧ w'.cell? ⟨w.heap.size, 1, none⟩ = some (.int .i64 x.2.1) ∧ w'.cell? ⟨w.heap.size, 2, none⟩ = some (.slice Au x.2.2.length cu))) (by kernel_rfl) (HH.out _ (below_drew1 (Below.refl wa.heap.size wa))) (fun hHeld => ?_)
   refine tk 0 rfl rfl ‹_› ?_; try go_frame
   refine tk 1 rfl rfl ‹_› ?_; try go_frame
   refine tk 2 rfl rfl ‹_› ?_; try go_frame
   refine tk 3 rfl rfl ‹_› ?_; try go_frame
   refine tk 4 rfl rfl ‹_› ?_; try go_frame
   refine wpAnyH_ready (rs := [5, 9]) (by kernel_rfl) (by simp) ?_
   refine AllReadyH.cons rfl (fun K hK => ?_) (AllReadyH.cons rfl (fun K hK => ?_) AllReadyH.nil)
   ·go_simp
    refine (HACC.out _ (below_drew1 (Below.refl wa.heap.size wa))).mono ?_
    rintro e w1 ⟨rfl, hb⟩
    have HW1 := Hd (bch (below_drew1 (Below.refl wa.heap.size wa)) hb (Below.size (below_drew1 (Below.refl wa.heap.size wa))))
    refine hK.out _ _ (HH.out _ (HW1.out)) (fun hHeld => ?_)
    clear hK K
    (try simp only [gx1, gx2, gx3]); try go_frame
    refine tk 6 rfl rfl ‹_› ?_; try go_frame
    refine tk 7 rfl rfl ‹_› ?_; try go_frame
    refine tk 8 rfl rfl ‹_› ?_; try go_frame
    refine rdy 9 rfl (fun K hK => ?_)
    go_simp
    refine hK.out _ _ (HH.out _ (bch HW1.out (below_alloc w1 _) HW1.out.size)) (fun hHeld => ?_)
    clear hK K
    (try simp only [gx1, gx2, gx3]); try go_frame
    refine rdy 10 rfl (fun K hK => ?_)
    go_simp
    refine hK.out _ _ (HH.out _ (bch HW1.out (below_alloc w1 _) HW1.out.size)) (fun hHeld => ?_)
    clear hK K
    (try simp only [gx1, gx2, gx3]); try go_frame
    refine tk 11 rfl rfl ‹_› ?_; try go_frame
    refine wpAnyH_done (by kernel_rfl) ?_ _
    refine NoPanic.normal ?_
    go_wp2_with fail
    go_meet
    exact ⟨w1.heap.size, rfl, rfl, bch HW1.out (below_alloc w1 _) HW1.out.size⟩
   ·go_simp
    refine hK.out _ _ (HH.out _ (bch (below_drew1 (Below.refl wa.heap.size wa)) (below_alloc wa.drew _) (Nat.le_refl _))) (fun hHeld => ?_)
    clear hK K
    (try simp only [gx1, gx2, gx3]); try go_frame
    refine rdy 5 rfl (fun K hK => ?_)
    go_simp
    have HBd := Hd (bch (below_drew1 (Below.refl wa.heap.size wa)) (below_alloc wa.drew (.cells zIn tIn)) (Nat.le_refl _))
    refine (HACC.out _ HBd.out).mono ?_
    rintro e w1 ⟨rfl, hb⟩
    have HW1 := Hd (bch HBd.out hb HBd.out.size)
    refine hK.out _ _ (HH.out _ (HW1.out)) (fun hHeld => ?_)
    clear hK K
    (try simp only [gx1, gx2, gx3]); try go_frame
    refine tk 6 rfl rfl ‹_› ?_; try go_frame
    refine tk 7 rfl rfl ‹_› ?_; try go_frame
    refine tk 8 rfl rfl ‹_› ?_; try go_frame
    have HZ0 := Hd (show w1.heap[wa.heap.size]? = some (.cells zIn tIn (0, 0)) from heap_keep (heap_new wa.drew (.cells zIn tIn)) hb)
    obtain ⟨z0, z1, z2, z3, z4, z5, z6, z7, z8, z9⟩ := cell10 HZ0.out
    obtain ⟨f0, f1, f2, f3, f4, f5, f6, f7, f8, f9⟩ := froz10 HZ0.out
    have HTu := Hd (turned_set10 w1 wa.heap.size (.int .i64 0) (.int .i64 0) (.slice none 0 0) (.int .i64 0) (.int .i64 0) (.slice none 0 0) (.int .i64 0) (.int .i64 0) (.slice none 0 0) (.map none))
    unfold set10w at HTu
    have HWs := Hd (Below.turned HW1.out HTu.out (fun i hi => by omega) (Below.size HW1.out))
    refine rdy 10 rfl (fun K hK => ?_)
    go_simp
    refine hK.out _ _ (HH.out _ (HWs.out)) (fun hHeld => ?_)
    clear hK K
    (try simp only [gx1, gx2, gx3]); try go_frame
    refine tk 11 rfl rfl ‹_› ?_; try go_frame
    refine wpAnyH_done (by kernel_rfl) ?_ _
    refine NoPanic.normal ?_
    go_wp2_with fail
    go_meet
    exact ⟨wa.heap.size, rfl, rfl, HWs.out⟩
  case rest =>
   obtain ⟨b5, rfl, rfl, hbl⟩ := hcut
   go_wp2_with fail
   go_ret
   have hA1 : Cw B wc cb bb pm bm (.slice A c.l.length cl) vb (.agg #[.int .i64 c.inn.a.1, .int .i64 c.inn.a.2.1, .slice A0 An0 Ac0, .int .i64 c.inn.b.1, .int .i64 c.inn.b.2.1, .slice A1 An1 Ac1, .int .i64 c.inn.c.1, .int .i64 c.inn.c.2.1, .slice A2 An2 Ac2, .map m]) (stmC c x) := by rw [HSC.out]; exact HC.out.below hbl
   have hA2 : Turned (Cs cb bb pm bm (.slice A c.l.length cl) vb) w wc := Turned.of_below (bch HB.out hbl HB.out.size)
   have hAX : ∀ j, j < w.heap.size → Av j (.agg #[.int .i64 c.inn.a.1, .int .i64 c.inn.a.2.1, .slice A0 An0 Ac0, .int .i64 c.inn.b.1, .int .i64 c.inn.b.2.1, .slice A1 An1 Ac1, .int .i64 c.inn.c.1, .int .i64 c.inn.c.2.1, .slice A2 An2 Ac2, .map m]) c.inn → Av j (.agg #[.int .i64 c.inn.a.1, .int .i64 c.inn.a.2.1, .slice A0 An0 Ac0, .int .i64 c.inn.b.1, .int .i64 c.inn.b.2.1, .slice A1 An1 Ac1, .int .i64 c.inn.c.1, .int .i64 c.inn.c.2.1, .slice A2 An2 Ac2, .map m]) (stmC c x).inn := fun j hj h => by rw [HSC.out]; exact h
   first | exact ⟨vb, _, by rw [HE.out]; rfl, hA1, hA2, fun j h => .inl h, hAX⟩ | exact ⟨by rw [HE.out]; rfl, vb, _, hA1, hA2, fun j h => .inl h, hAX⟩
end Go.Proofs.YtlkncmpengpbiaaGreatDoor

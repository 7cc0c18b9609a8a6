/- The document's party: its memory; Find, Left, free. -/
import Derived.Test.YtkmpagijdhhinaaDoorPartyTell
import Derived.Test.YtkmpagijdhhinaaDoorPartyPure
import Derived.Test.YtkmpagijdhhinaaDoorSrcOf
import Derived.Test.YtkmpagijdhhinaaDoorRegionTill
import Derived.Test.YtkmpagijdhhinaaDoorQuietTail
import Derived.Deep.RegionHeld3
import Derived.Test.YtkmpagijdhhinaaDoorOrdersMay2
import Derived.Test.YtkmpagijdhhinaaDoorPartyAsk
namespace Go.Proofs.YtkmpagijdhhinaaDoor
open Go.RowKit Go.Maps Key Od Pa

abbrev tRef : TypeId := 43
abbrev tGds : TypeId := 85
abbrev tGdss : TypeId := 41
abbrev G3 : Type := Int × List UInt8 × Int
def encGd (x : G3) : List Value := [.int .i64 x.1, .string ⟨x.2.1.toArray⟩, .int .i64 x.2.2]
theorem encGd_len (x : G3) : (encGd x).length = 3 := rfl
theorem encGd_one (x : G3) : ∀ u ∈ encGd x, u.oneCell' = true := by
  intro u hu; simp [encGd] at hu; rcases hu with rfl | rfl | rfl <;> rfl
theorem gds_info : (Tryd.prog.info? tGds).map (fun i => (i.zero, i.size, i.bytes)) = some (some (.agg #[.int .i64 0, .string ⟨#[]⟩, .int .i64 0]), 3, 32) := by kernel_rfl
theorem own_apart_blk {w : World} {B : Nat} {e : TypeId} {z n : Nat} {v : Value} {xs : List Value} (h : w.ownsRow B e z v n xs) {r : Nat} {cs : Array Value} {T : TypeId} {fr : Nat × Nat} (hr : w.heap[r]? = some (.cells cs T fr)) (hT : T ≠ e) : ∀ j, v.ownBlock = some j → j ≠ r := by
  intro j hj e1
  subst e1
  rcases h.2 with ⟨rfl, _⟩ | ⟨g, cap, cur, rfl, _, hg, _⟩
  · cases hj
  · simp only [Value.ownBlock, Option.some.injEq] at hj
    subst hj
    rw [hg] at hr
    injection hr with hr
    injection hr with _ ht
    exact hT ht.symm

/-- The document's party in memory. -/
structure RP (w : World) (B r : Nat) (kind stock limit seq : Int) (vl vg : Value) (L : List R5) (G : List G3) : Prop where
  hd : w.heap[r]? = some (.cells #[.int .i64 kind, .int .i64 stock, .int .i64 limit, vl, vg, .int .i64 seq] tRef (0, 0))
  rl : w.ownsRow B tRow 5 vl L.length (L.flatMap encR)
  rg : w.ownsRow B tGds 3 vg G.length (G.flatMap encGd)
  lo : B ≤ r
theorem RP.turned {w w' : World} {B r : Nat} {kind stock limit seq : Int} {vl vg : Value} {L : List R5} {G : List G3} (h : RP w B r kind stock limit seq vl vg L G) {S : Nat → Prop} (ht : Turned S w w') (hS : ∀ i, S i → i < B ∨ w.heap.size ≤ i) : RP w' B r kind stock limit seq vl vg L G := by
  have hr := heap_lt h.hd
  refine ⟨(ht.block r hr (fun x => by have := hS _ x; have := h.lo; omega)).trans h.hd, own_turned h.rl ht (fun j hj x => ?_), own_turned h.rg ht (fun j hj x => ?_), h.lo⟩
  · have := hS _ x; have := h.rl.lt j hj; omega
  · have := hS _ x; have := h.rg.lt j hj; omega
theorem RP.below {w w' : World} {B r : Nat} {kind stock limit seq : Int} {vl vg : Value} {L : List R5} {G : List G3} (h : RP w B r kind stock limit seq vl vg L G) (hb : Below w.heap.size w w') : RP w' B r kind stock limit seq vl vg L G :=
  h.turned (S := fun _ => False) (Turned.of_below hb) (fun _ x => x.elim)
theorem cell6 {w : World} {b : Nat} {x0 x1 x2 x3 x4 x5 : Value} {T : TypeId} (h : w.heap[b]? = some (.cells #[x0, x1, x2, x3, x4, x5] T (0, 0))) : w.cell? ⟨b, 0, none⟩ = some x0 ∧ w.cell? ⟨b, 1, none⟩ = some x1 ∧ w.cell? ⟨b, 2, none⟩ = some x2 ∧ w.cell? ⟨b, 3, none⟩ = some x3 ∧ w.cell? ⟨b, 4, none⟩ = some x4 ∧ w.cell? ⟨b, 5, none⟩ = some x5 :=
  ⟨cell_at h 0 rfl, cell_at h 1 rfl, cell_at h 2 rfl, cell_at h 3 rfl, cell_at h 4 rfl, cell_at h 5 rfl⟩

namespace Pa
theorem used_take {G : List G3} {i : Nat} {x : G3} (hx : G[i]? = some x) (s : List UInt8) : used (G.take (i + 1)) s = used (G.take i) s + if x.2.1 = s then x.2.2 else 0 := by
  rw [List.take_add_one, hx]
  exact used_snoc _ _ _
theorem free_take {G : List G3} {i : Nat} {x : G3} (hx : G[i]? = some x) (o : Int) : freeG (G.take (i + 1)) o = freeG (G.take i) o ++ if x.1 = o then [] else [x] := by
  rw [List.take_add_one, hx]
  unfold freeG
  rw [List.filter_append]
  by_cases h : x.1 = o <;> simp [h]
theorem used_part {G : List G3} (h : ∀ o s q, (o, s, q) ∈ G → 1 ≤ q) (i : Nat) (s : List UInt8) : 0 ≤ used (G.take i) s ∧ used (G.take i) s ≤ used G s := by
  have h1 := used_nonneg (g := G.take i) (fun o s q hx => h o s q (List.mem_of_mem_take hx)) s
  have h2 := used_nonneg (g := G.drop i) (fun o s q hx => h o s q (List.mem_of_mem_drop hx)) s
  have h3 : used G s = used (G.take i) s + used (G.drop i) s := by
    conv => lhs; rw [← List.take_append_drop i G]
    unfold used
    rw [List.map_append, List.sum_append]
  omega
theorem find_skip {L : List R5} {i : Nat} {x : R5} {k : Int × Int} (h : findR (L.take i) k = none) (hx : L[i]? = some x) : findR (L.take (i + 1)) k = if x.1 = k then some x else none := by
  rw [List.take_add_one, hx]
  unfold findR at *
  rw [List.find?_append, h]
  by_cases e : x.1 = k <;> simp [e]
theorem find_hit {L : List R5} {i : Nat} {x : R5} {k : Int × Int} (h : findR (L.take i) k = none) (hx : L[i]? = some x) (e : x.1 = k) : findR L k = some x := by
  have h1 := find_skip h hx
  rw [if_pos e] at h1
  unfold findR at *
  conv => lhs; rw [← List.take_append_drop (i + 1) L]
  rw [List.find?_append, h1]
  rfl
end Pa

theorem bytes_list (s : ByteArray) : s.toList = s.data.toList := by rw [ByteArray.toList_eq]
def foundV : Option R5 → Value
  | some x => .tuple #[.agg #[.int .i64 x.1.1, .int .i64 x.1.2, .int .i64 x.2.1, .int .i64 x.2.2.1, .int .i64 x.2.2.2], .bool true]
  | none => .tuple #[.agg #[.int .i64 0, .int .i64 0, .int .i64 0, .int .i64 0, .int .i64 0], .bool false]
abbrev set5w (w : World) (b : Nat) (p0 p1 p2 p3 p4 : Value) : World := ((((w.setCell ⟨b, 0, none⟩ p0).setCell ⟨b, 1, none⟩ p1).setCell ⟨b, 2, none⟩ p2).setCell ⟨b, 3, none⟩ p3).setCell ⟨b, 4, none⟩ p4
theorem set5c {w : World} {b : Nat} {x0 x1 x2 x3 x4 : Value} {T : TypeId} (h : w.heap[b]? = some (.cells #[x0, x1, x2, x3, x4] T (0, 0))) (p0 p1 p2 p3 p4 : Value) : (set5w w b p0 p1 p2 p3 p4).heap[b]? = some (.cells #[p0, p1, p2, p3, p4] T (0, 0)) := by
  simp [set5w, World.setCell, Array.getElem?_modify, h]

set_option linter.unusedSimpArgs false in
set_option linter.unusedVariables false in
set_option maxRecDepth 100000 in
set_option maxHeartbeats 4000000 in
theorem refFind_any (w : World) (B r : Nat) (kind stock limit seq : Int) (vl vg : Value) (L : List R5) (G : List G3) (o d : Int) (h : RP w B r kind stock limit seq vl vg L G) (hl : L.length < 100000) :
    Calls Tryd.prog 34 #[.pointer (some ⟨r, 0, none⟩), .agg #[.int .i64 o, .int .i64 d]] w fun e w' => e = .returned (foundV (findR L (o, d))) ∧ Below w.heap.size w w' := by
  obtain ⟨A, c, rfl, hA⟩ := own_slice h.rl
  have HA := Lib.hid hA
  clear hA
  have HB := Lib.hid ((below_alloc w (.cells #[.int .i64 o, .int .i64 d] tKey)).alloc (by simp) (.cells #[.int .i64 0, .int .i64 0, .int .i64 0, .int .i64 0, .int .i64 0] tRow))
  have HM := Lib.hid (heap_keep (heap_new w (.cells #[.int .i64 o, .int .i64 d] tKey)) (below_alloc _ (.cells #[.int .i64 0, .int .i64 0, .int .i64 0, .int .i64 0, .int .i64 0] tRow)))
  have hr1 := heap_new (w.alloc (.cells #[.int .i64 o, .int .i64 d] tKey)) (.cells #[.int .i64 0, .int .i64 0, .int .i64 0, .int .i64 0, .int .i64 0] tRow)
  rw [show (w.alloc (.cells #[.int .i64 o, .int .i64 d] tKey)).heap.size = w.heap.size + 1 by simp] at hr1
  have HZ := Lib.hid hr1
  have HP := Lib.hid (h.below HB.out)
  clear h hr1
  go_enter Tryd.func34, Tryd.ntmps34
  go_wp2_with fail
  generalize (w.alloc (.cells #[.int .i64 o, .int .i64 d] tKey)).alloc (.cells #[.int .i64 0, .int .i64 0, .int .i64 0, .int .i64 0, .int .i64 0] tRow) = wa at HB HM HZ HP ⊢
  go_loopw [6] (fun i wr => ∃ k : Nat, i = .int .i64 k ∧ k ≤ L.length ∧ Hid (findR (L.take k) (o, d) = none) ∧ Hid (Below wa.heap.size wa wr)) (fun i _ => L.length - (intOf i).toNat)
  case atStart => exact ⟨0, rfl, by omega, (rfl : findR [] (o, d) = none), ⟨rfl, rfl, rfl, Nat.le_refl _, fun _ _ => rfl⟩⟩
  case round =>
    obtain ⟨k, rfl, hk, HF, HBr⟩ := hrel
    have HPr := Lib.hid (HP.out.below HBr.out)
    obtain ⟨p0, p1, p2, p3, p4, p5⟩ := cell6 HPr.out.hd
    obtain ⟨m0, m1, _, _⟩ := cell2 (heap_keep HM.out HBr.out)
    have HZr := Lib.hid (heap_keep HZ.out HBr.out)
    by_cases hkl : k < L.length
    · obtain ⟨x, hx⟩ : ∃ x, L[k]? = some x := ⟨_, List.getElem?_eq_getElem hkl⟩
      obtain ⟨g, rfl, _, _⟩ := HA.out (by omega)
      have c0 := own_cellK encR_len (by omega) HPr.out.rl hx 0 (by omega)
      have c1 := own_cellK encR_len (by omega) HPr.out.rl hx 1 (by omega)
      have c2 := own_cellK encR_len (by omega) HPr.out.rl hx 2 (by omega)
      have c3 := own_cellK encR_len (by omega) HPr.out.rl hx 3 (by omega)
      have c4 := own_cellK encR_len (by omega) HPr.out.rl hx 4 (by omega)
      obtain ⟨⟨o', d'⟩, t, n, q⟩ := x
      simp only [encR, List.getElem?_cons_zero, List.getElem?_cons_succ] at c0 c1 c2 c3 c4
      rw [Nat.add_zero] at c0
      have hlt : (k : Int) < L.length := by omega
      have hk0 : (0 : Int) ≤ k := by omega
      by_cases he : ((o', d') : Int × Int) = (o, d)
      · have HH := Lib.hid (find_hit HF.out hx he)
        injection he with e1 e2
        subst e1; subst e2
        clear hx
        obtain ⟨z0, z1, z2, z3, z4⟩ := cell5 HZr.out
        obtain ⟨f0, f1, f2, f3, f4⟩ := froz5 HZr.out
        go_wp2_with fail
        go_quiet (fail)
        go_wp2_with fail
        have HBq : Below wa.heap.size wa (wr.drewN nq) := ⟨HBr.out.os, HBr.out.tape, HBr.out.output, HBr.out.size, HBr.out.block⟩
        have HZq : (wr.drewN nq).heap[w.heap.size + 1]? = some (.cells #[.int .i64 0, .int .i64 0, .int .i64 0, .int .i64 0, .int .i64 0] tRow (0, 0)) := HZr.out
        generalize wr.drewN nq = wx at HBq HZq ⊢
        have HTu := turned_set5 wx (w.heap.size + 1) (.int .i64 o') (.int .i64 d') (.int .i64 t) (.int .i64 n) (.int .i64 q)
        have HSET := set5c HZq (.int .i64 o') (.int .i64 d') (.int .i64 t) (.int .i64 n) (.int .i64 q)
        unfold set5w at HSET
        obtain ⟨y0, y1, y2, y3, y4⟩ := cell5 HSET
        refine bodyPost_ret (v := .tuple #[.agg #[.int .i64 o', .int .i64 d', .int .i64 t, .int .i64 n, .int .i64 q], .bool true]) ?_ rfl ⟨by rw [HH.out]; rfl, ?_⟩
        · clear HTu HSET HZq
          simp [results, Tryd.results34, go_sem, y0, y1, y2, y3, y4]
        · exact Below.turned (bch HB.out HBq HB.out.size) HTu (fun i hi => by omega) (Nat.le_trans HB.out.size HBq.size)
      · have HF' := Lib.hid ((find_skip HF.out hx).trans (if_neg he))
        have hne : ¬ o' = o ∨ (o' = o ∧ ¬ d' = d) := by
          by_cases h1 : o' = o
          · exact .inr ⟨h1, fun h2 => he (by rw [h1, h2])⟩
          · exact .inl h1
        clear he hx
        rcases hne with h1 | ⟨rfl, h1⟩
        all_goals
          have hb1 := beqF h1
          have hb2 := bneT h1
          clear h1
          go_wp2_with fail
          go_quiet (fail)
          go_wp2_with fail
          go_roundw
          case rel => exact ⟨k + 1, by go_num, by omega, HF', ⟨HBr.out.os, HBr.out.tape, HBr.out.output, HBr.out.size, HBr.out.block⟩⟩
          case measure => simp [intOf]; omega
    · obtain rfl : k = L.length := by omega
      have HH := Lib.hid (show findR L (o, d) = none by have := HF.out; rwa [List.take_length] at this)
      obtain ⟨z0, z1, z2, z3, z4⟩ := cell5 HZr.out
      obtain ⟨f0, f1, f2, f3, f4⟩ := froz5 HZr.out
      have HTu := Lib.hid (turned_set5 wr (w.heap.size + 1) (.int .i64 0) (.int .i64 0) (.int .i64 0) (.int .i64 0) (.int .i64 0))
      have HSET := Lib.hid (set5c HZr.out (.int .i64 0) (.int .i64 0) (.int .i64 0) (.int .i64 0) (.int .i64 0))
      unfold set5w at HTu HSET
      go_wp2_with fail
      obtain ⟨y0, y1, y2, y3, y4⟩ := cell5 HSET.out
      refine bodyPost_ret (v := .tuple #[.agg #[.int .i64 0, .int .i64 0, .int .i64 0, .int .i64 0, .int .i64 0], .bool false]) ?_ rfl ⟨by rw [HH.out]; rfl, ?_⟩
      · simp [results, Tryd.results34, go_sem, y0, y1, y2, y3, y4]
      · exact Below.turned (bch HB.out HBr.out HB.out.size) HTu.out (fun i hi => by omega) (Nat.le_trans HB.out.size HBr.out.size)

set_option linter.unusedSimpArgs false in
set_option linter.unusedVariables false in
set_option maxRecDepth 100000 in
set_option maxHeartbeats 4000000 in
theorem refLeft_any (w : World) (B r : Nat) (kind stock limit seq : Int) (vl vg : Value) (L : List R5) (G : List G3) (sku : ByteArray) (h : RP w B r kind stock limit seq vl vg L G) (hl : G.length < 100000) (hs : 0 ≤ stock ∧ stock ≤ 1000000000) (hq : ∀ o s q, (o, s, q) ∈ G → 1 ≤ q) (hu : used G sku.data.toList ≤ 1000000000) :
    Calls Tryd.prog 44 #[.pointer (some ⟨r, 0, none⟩), .string sku] w fun e w' => e = .returned (.int .i64 (stock - used G sku.data.toList)) ∧ w = w' := by
  obtain ⟨A, c, rfl, hA⟩ := own_slice h.rg
  have HA := Lib.hid hA
  have HP := Lib.hid h
  have HQ := Lib.hid hq
  have HU := Lib.hid hu
  clear hA h hq hu
  obtain ⟨p0, p1, p2, p3, p4, p5⟩ := cell6 HP.out.hd
  go_enter Tryd.func44, Tryd.ntmps44
  go_wp2_with fail
  go_loopw [5, 6] (fun n i wr => ∃ k : Nat, i = .int .i64 k ∧ k ≤ G.length ∧ n = .int .i64 (stock - used (G.take k) sku.data.toList) ∧ w = wr) (fun _ i _ => G.length - (intOf i).toNat)
  case atStart => exact ⟨0, rfl, by omega, by simp [used], rfl⟩
  case round =>
    obtain ⟨k, rfl, hk, rfl, rfl⟩ := hrel
    by_cases hkl : k < G.length
    · obtain ⟨x, hx⟩ : ∃ x, G[k]? = some x := ⟨_, List.getElem?_eq_getElem hkl⟩
      obtain ⟨g, rfl, _, _⟩ := HA.out (by omega)
      have c0 := own_cellK encGd_len (by omega) HP.out.rg hx 0 (by omega)
      have c1 := own_cellK encGd_len (by omega) HP.out.rg hx 1 (by omega)
      have c2 := own_cellK encGd_len (by omega) HP.out.rg hx 2 (by omega)
      have hxm := List.mem_of_getElem? hx
      have HT := Lib.hid (used_take hx sku.data.toList)
      have hb0 := used_part HQ.out k sku.data.toList
      have hb1 := used_part HQ.out (k + 1) sku.data.toList
      have hu := HU.out
      obtain ⟨o, s, q⟩ := x
      have hq1 := HQ.out o s q hxm
      simp only [encGd, List.getElem?_cons_zero, List.getElem?_cons_succ] at c0 c1 c2
      rw [Nat.add_zero] at c0
      have hlt : (k : Int) < G.length := by omega
      have hk0 : (0 : Int) ≤ k := by omega
      clear hx hxm
      by_cases he : s = sku.data.toList
      · have HT' := Lib.hid (HT.out.trans (by rw [if_pos he]))
        have hs1 : (s == sku.toList) = true := by rw [he, bytes_list]; simp
        have hrng : 0 ≤ used (G.take k) sku.data.toList + q ∧ used (G.take k) sku.data.toList + q ≤ 1000000000 := by have := HT'.out; simp only [] at this; omega
        generalize hz : used (G.take k) sku.data.toList = z at hb0 hrng HT' ⊢
        have hz0 : 0 ≤ z := hb0.1
        clear HT he hb1 hu hb0
        go_wp2_with fail
        go_roundw
        case rel => exact ⟨k + 1, by go_num, by omega, by rw [HT'.out, show stock - (z + q) = stock - z - q by omega], trivial⟩
        case measure => simp [intOf]; omega
      · have HT' := Lib.hid (HT.out.trans (by rw [if_neg he, Int.add_zero]))
        have hs1 : (s == sku.toList) = false := by
          rw [beq_eq_false_iff_ne, bytes_list]
          exact he
        clear HT he hb1 hu
        generalize hz : used (G.take k) sku.data.toList = z at hb0 HT' ⊢
        go_wp2_with fail
        go_roundw
        case rel => exact ⟨k + 1, by go_num, by omega, by rw [HT'.out], trivial⟩
        case measure => simp [intOf]; omega
    · obtain rfl : k = G.length := by omega
      rw [List.take_length]
      go_wp2_with fail
      go_ret
      exact ⟨rfl, rfl⟩
end Go.Proofs.YtkmpagijdhhinaaDoor
/- The document's party: write. -/
namespace Go.Proofs.YtkmpagijdhhinaaDoor
open Go.RowKit Go.Maps Key Od Pa

theorem froz6 {w : World} {b : Nat} {cs : Array Value} {T : TypeId} (h : w.heap[b]? = some (.cells cs T (0, 0))) : w.frozen? ⟨b, 0, none⟩ = false ∧ w.frozen? ⟨b, 1, none⟩ = false ∧ w.frozen? ⟨b, 2, none⟩ = false ∧ w.frozen? ⟨b, 3, none⟩ = false ∧ w.frozen? ⟨b, 4, none⟩ = false ∧ w.frozen? ⟨b, 5, none⟩ = false := ⟨frozen_at h _, frozen_at h _, frozen_at h _, frozen_at h _, frozen_at h _, frozen_at h _⟩
theorem take_drop_ins {x : R5} : ∀ {l : List R5} (k : Nat), (∀ y ∈ l.take k, lessR y x = true) → (∀ y, l[k]? = some y → lessR y x = false) → insR l x = l.take k ++ x :: l.drop k
  | l, 0, _, h2 => by
    unfold insR
    cases l with
    | nil => rfl
    | cons y l =>
      have := h2 y rfl
      simp [this]
  | [], k + 1, _, _ => by simp [insR]
  | y :: l, k + 1, h1, h2 => by
    have hy := h1 y (by simp)
    have := take_drop_ins (x := x) (l := l) k (fun z hz => h1 z (by simp [hz])) (fun z hz => h2 z (by simpa using hz))
    unfold insR at this ⊢
    simp only [List.takeWhile_cons, List.dropWhile_cons, hy, if_true, List.cons_append, this, List.take_succ_cons, List.drop_succ_cons]
theorem src_nilIf (W : World) (p : Prop) [Decidable p] (a b : Addr) (c z : Nat) : SrcL W (.slice (if p then some a else some b) 0 c) 0 z [] := by
  split
  · exact ⟨by simp, by simp, .inr ⟨_, _, rfl, fun j x hj => by simp at hj⟩⟩
  · exact ⟨by simp, by simp, .inr ⟨_, _, rfl, fun j x hj => by simp at hj⟩⟩
theorem RP.setL {w W : World} {B r : Nat} {kind stock limit seq : Int} {vl vg : Value} {L : List R5} {G : List G3} (h : RP w B r kind stock limit seq vl vg L G) (hB : B ≤ w.heap.size) (ht : Turned (fun i => w.heap.size ≤ i) w W) {v' : Value} {L' : List R5} (ho : W.ownsRow w.heap.size tRow 5 v' L'.length (L'.flatMap encR)) : RP (W.setCell ⟨r, 3, none⟩ v') B r kind stock limit seq v' vg L' G := by
  have hr := heap_lt h.hd
  have hd := (ht.block r hr (by omega)).trans h.hd
  have hS : Turned (fun j => j = r) W (W.setCell ⟨r, 3, none⟩ v') := turned_set W r 3 v'
  refine ⟨by simp [World.setCell, Array.getElem?_modify, hd], own_weak (own_turned ho hS (fun j hj e => ?_)) hB, own_turned (own_turned h.rg ht (fun j hj e => by have := (h.rg.lt j hj).2; omega)) hS (fun j hj e => ?_), h.lo⟩
  · have := (ho.lt j hj).1; omega
  · have := own_apart_blk h.rg h.hd (by decide) j hj; exact this e
set_option linter.unusedSimpArgs false in
set_option linter.unusedVariables false in
set_option maxRecDepth 100000 in
set_option maxHeartbeats 4000000 in
theorem refWrite_any (w : World) (B r : Nat) (kind stock limit seq : Int) (vl vg : Value) (L : List R5) (G : List G3) (x : R5) (h : RP w B r kind stock limit seq vl vg L G) (hl : L.length < 100000) (hB : B ≤ w.heap.size) :
    Calls Tryd.prog 36 #[.pointer (some ⟨r, 0, none⟩), .agg #[.int .i64 x.1.1, .int .i64 x.1.2, .int .i64 x.2.1, .int .i64 x.2.2.1, .int .i64 x.2.2.2]] w fun e w' => e = .returned (.tuple #[]) ∧ Turned (fun i => i = r) w w' ∧ ∃ v', RP w' B r kind stock limit seq v' vg (insR L x) G ∧ ∀ j, v'.ownBlock = some j → w.heap.size ≤ j := by
  obtain ⟨i0, hi, hz0, hz1, hz2⟩ := info_parts row_info
  obtain ⟨A, c, rfl, hA⟩ := own_slice h.rl
  have HA := Lib.hid hA
  have HP := Lib.hid h
  have hrlt := heap_lt h.hd
  have HB0 := Lib.hid (below_alloc w (.cells #[.int .i64 x.1.1, .int .i64 x.1.2, .int .i64 x.2.1, .int .i64 x.2.2.1, .int .i64 x.2.2.2] tRow))
  have HX0 := Lib.hid (heap_new w (.cells #[.int .i64 x.1.1, .int .i64 x.1.2, .int .i64 x.2.1, .int .i64 x.2.2.1, .int .i64 x.2.2.2] tRow))
  clear h hA
  go_enter Tryd.func36, Tryd.ntmps36
  go_wp2_with fail
  have hwa : (w.alloc (.cells #[.int .i64 x.1.1, .int .i64 x.1.2, .int .i64 x.2.1, .int .i64 x.2.2.1, .int .i64 x.2.2.2] tRow)).heap.size = w.heap.size + 1 := by simp
  generalize w.alloc (.cells #[.int .i64 x.1.1, .int .i64 x.1.2, .int .i64 x.2.1, .int .i64 x.2.2.1, .int .i64 x.2.2.2] tRow) = wa at HB0 HX0 hwa ⊢
  go_loopw [4, 5] (fun u i wr => ∃ k : Nat, i = .int .i64 k ∧ k ≤ L.length ∧ wr.ownsRow (w.heap.size + 1) tRow 5 u k ((L.take k).flatMap encR) ∧ Hid (∀ y ∈ L.take k, lessR y x = true) ∧ Hid (Below wa.heap.size wa wr)) (fun _ i _ => L.length - (intOf i).toNat)
  case atStart => exact ⟨0, rfl, by omega, World.ownsRow_nil _ _ _ _, by intro y hy; simp at hy, Below.refl _ _⟩
  case round =>
    obtain ⟨k, rfl, hk, hrow, HLT, HBr⟩ := hrel
    have HBw := Lib.hid (bch HB0.out HBr.out HB0.out.size)
    have HPr := Lib.hid (HP.out.below HBw.out)
    have HXr := Lib.hid (heap_keep HX0.out HBr.out)
    obtain ⟨p0, p1, p2, p3, p4, p5⟩ := cell6 HPr.out.hd
    obtain ⟨m0, m1, m2, m3, m4⟩ := cell5 HXr.out
    by_cases hkl : k < L.length
    · obtain ⟨y, hy⟩ : ∃ y, L[k]? = some y := ⟨_, List.getElem?_eq_getElem hkl⟩
      obtain ⟨g, rfl, _, hgl⟩ := HA.out (by omega)
      have c0 := own_cellK encR_len (by omega) HPr.out.rl hy 0 (by omega)
      have c1 := own_cellK encR_len (by omega) HPr.out.rl hy 1 (by omega)
      simp only [encR, List.getElem?_cons_zero, List.getElem?_cons_succ] at c0 c1
      rw [Nat.add_zero] at c0
      have hlt : (k : Int) < L.length := by omega
      have hk0 : (0 : Int) ≤ k := by omega
      have HY := Lib.hid hy
      clear hy
      go_wp2_with fail
      refine region_quiet_tail 18 (by kernel_rfl) (by kernel_rfl) ?_
      simp only [List.take_succ_cons, List.take_zero, List.drop_succ_cons, List.drop_zero]
      repeat (go_big_quiet_step (fail))
      refine wpQuiet_nil ?_
      change wpList _ _ _ _ _ wr.drew
      go_wp2_with fail
      refine (refLess_any y.1.1 y.1.2 x.1.1 x.1.2 _).mono ?_
      rintro e w3 ⟨rfl, hb3⟩
      have HB3 := Lib.hid (bch (below_drew1 (Below.refl wr.heap.size wr)) hb3 (Nat.le_refl _))
      have HPz := Lib.hid (HPr.out.below HB3.out)
      have HXz := Lib.hid (heap_keep HXr.out HB3.out)
      have HBz := Lib.hid (bch HBr.out HB3.out HBr.out.size)
      have HWz := Lib.hid (bch HBw.out HB3.out HBw.out.size)
      replace hrow := own_keep hrow HB3.out
      have hz3 := HBz.out.size
      clear hb3 p0 p1 p2 p3 p4 p5 m0 m1 m2 m3 m4 c0 c1
      obtain ⟨p0, p1, p2, p3, p4, p5⟩ := cell6 HPz.out.hd
      cases hls : lessB y.1.1 y.1.2 x.1.1 x.1.2 with
      | true =>
        have HLs := Lib.hid (show lessR y x = true from hls)
        have c0 := own_cellK encR_len (by omega) HPz.out.rl HY.out 0 (by omega)
        have c1 := own_cellK encR_len (by omega) HPz.out.rl HY.out 1 (by omega)
        have c2 := own_cellK encR_len (by omega) HPz.out.rl HY.out 2 (by omega)
        have c3 := own_cellK encR_len (by omega) HPz.out.rl HY.out 3 (by omega)
        have c4 := own_cellK encR_len (by omega) HPz.out.rl HY.out 4 (by omega)
        simp only [encR, List.getElem?_cons_zero, List.getElem?_cons_succ] at c0 c1 c2 c3 c4
        rw [Nat.add_zero] at c0
        clear hls
        go_wp2_with (first
          | (at_builtin; go_loud (refine wpList_append_any _ rfl (.tmp 29) (.tmp 37) tRows rfl (w.heap.size + 1) tRow i0 (mkRow ((0, 0), 0, 0, 0)) 5 40 Tryd.underlying38 hi hz0 hz1 hz2 rfl (by decide) u4 k ((L.take k).flatMap encR) rfl (hrow.alloc _) 1 (encR y) (src_one (heap_new _ _) (encR_one _) rfl) (by unfold maxLen; omega) (by omega) (by simp; omega) ?_; intro v2 W2 ho2 hg2 hat2)))
        go_roundw
        case rel =>
          have HX2 : Turned (fun j => w.heap.size + 1 ≤ j) w3 W2 := (Turned.of_below (below_alloc w3 _)).trans (Turned.of_grown hg2 (fun j hj => (hrow.lt _ hj).1))
          refine ⟨k + 1, by go_num, by omega, ?_, fun z hz => ?_, ?_⟩
          · rw [show (L.take (k + 1)).flatMap encR = (L.take k).flatMap encR ++ encR y by rw [List.take_add_one, HY.out]; simp]
            exact ho2
          · rw [List.take_add_one, HY.out] at hz
            rcases List.mem_append.1 hz with hz | hz
            · exact HLT.out z hz
            · simp at hz
              rw [hz]
              exact HLs.out
          · exact Below.turned HBz.out HX2 (fun j hj => by omega) HBz.out.size
        case measure => simp [intOf]; omega
      | false =>
        have HZ := Lib.hid (take_drop_ins (x := x) (l := L) k HLT.out (fun z hz => by rw [HY.out] at hz; injection hz with hz; subst hz; exact hls))
        clear hls
        obtain ⟨Au, cu, rfl, _⟩ := own_slice hrow
        go_wp2_with fail
        have HH := Lib.hid (fun W (hb : Turned (fun j => w.heap.size + 1 ≤ j) w3 W) => (⟨Lib.hid hb, cell_at ((hb.block _ (heap_lt HXz.out) (fun e => by omega)).trans HXz.out) 0 rfl, cell_at ((hb.block _ (heap_lt HXz.out) (fun e => by omega)).trans HXz.out) 1 rfl, cell_at ((hb.block _ (heap_lt HXz.out) (fun e => by omega)).trans HXz.out) 2 rfl, cell_at ((hb.block _ (heap_lt HXz.out) (fun e => by omega)).trans HXz.out) 3 rfl, cell_at ((hb.block _ (heap_lt HXz.out) (fun e => by omega)).trans HXz.out) 4 rfl, cell_at ((hb.block _ (heap_lt HPz.out.hd) (fun e => by omega)).trans HPz.out.hd) 3 rfl⟩ : (fun w' => Hid (Turned (fun j => w.heap.size + 1 ≤ j) w3 w') ∧ w'.cell? ⟨w.heap.size, 0, none⟩ = some (.int .i64 x.1.1) ∧ w'.cell? ⟨w.heap.size, 1, none⟩ = some (.int .i64 x.1.2) ∧ w'.cell? ⟨w.heap.size, 2, none⟩ = some (.int .i64 x.2.1) ∧ w'.cell? ⟨w.heap.size, 3, none⟩ = some (.int .i64 x.2.2.1) ∧ w'.cell? ⟨w.heap.size, 4, none⟩ = some (.int .i64 x.2.2.2) ∧ w'.cell? ⟨r, 3, none⟩ = some (.slice (some ⟨g, 0, none⟩) L.length c)) W))
        refine wp_region_noPanic ?_
        refine wp_region_till 14 (fun _ => True) (fun w' => Hid (Turned (fun j => w.heap.size + 1 ≤ j) w3 w') ∧ w'.cell? ⟨w.heap.size, 0, none⟩ = some (.int .i64 x.1.1) ∧ w'.cell? ⟨w.heap.size, 1, none⟩ = some (.int .i64 x.1.2) ∧ w'.cell? ⟨w.heap.size, 2, none⟩ = some (.int .i64 x.2.1) ∧ w'.cell? ⟨w.heap.size, 3, none⟩ = some (.int .i64 x.2.2.1) ∧ w'.cell? ⟨w.heap.size, 4, none⟩ = some (.int .i64 x.2.2.2) ∧ w'.cell? ⟨r, 3, none⟩ = some (.slice (some ⟨g, 0, none⟩) L.length c)) (by kernel_rfl) (HH.out _ ((Turned.refl _ _).drew)) (fun hHeld => ?_)
        refine wpAnyT_go (i := 0) (v := ?vt0_1) rfl (by kernel_rfl) (by kernel_rfl) (by kernel_rfl) (fun _ _ _ h => h) (by kernel_rfl) (Or.inl ⟨by rfl, ?hyt0_1⟩) (by assumption) ?restt0_1
        case hyt0_1 => (intro w0 hSw; (try dsimp only at hSw); go_simp; try with_reducible rfl)
        case' restt0_1 => try simp only [Act.put, List.getElem_toArray, List.getElem_cons_zero, List.getElem_cons_succ, List.setIfInBounds_toArray, List.set_cons_zero, List.set_cons_succ]
        refine wpAnyT_go (i := 1) (v := ?vt1_2) rfl (by kernel_rfl) (by kernel_rfl) (by kernel_rfl) (fun _ _ _ h => h) (by kernel_rfl) (Or.inl ⟨by rfl, ?hyt1_2⟩) (by assumption) ?restt1_2
        case hyt1_2 => (intro w0 hSw; (try dsimp only at hSw); go_simp; try with_reducible rfl)
        case' restt1_2 => try simp only [Act.put, List.getElem_toArray, List.getElem_cons_zero, List.getElem_cons_succ, List.setIfInBounds_toArray, List.set_cons_zero, List.set_cons_succ]
        refine wpAnyT_go (i := 2) (v := ?vt2_3) rfl (by kernel_rfl) (by kernel_rfl) (by kernel_rfl) (fun _ _ _ h => h) (by kernel_rfl) (Or.inl ⟨by rfl, ?hyt2_3⟩) (by assumption) ?restt2_3
        case hyt2_3 => (intro w0 hSw; (try dsimp only at hSw); go_simp; try with_reducible rfl)
        case' restt2_3 => try simp only [Act.put, List.getElem_toArray, List.getElem_cons_zero, List.getElem_cons_succ, List.setIfInBounds_toArray, List.set_cons_zero, List.set_cons_succ]
        refine wpAnyT_go (i := 5) (v := ?vt5_4) rfl (by kernel_rfl) (by kernel_rfl) (by kernel_rfl) (fun _ _ _ h => h) (by kernel_rfl) (Or.inl ⟨by rfl, ?hyt5_4⟩) (by assumption) ?restt5_4
        case hyt5_4 => (intro w0 hSw; (try dsimp only at hSw); go_simp; try with_reducible rfl)
        case' restt5_4 => try simp only [Act.put, List.getElem_toArray, List.getElem_cons_zero, List.getElem_cons_succ, List.setIfInBounds_toArray, List.set_cons_zero, List.set_cons_succ]
        refine wpAnyT_go (i := 6) (v := ?vt6_5) rfl (by kernel_rfl) (by kernel_rfl) (by kernel_rfl) (fun _ _ _ h => h) (by kernel_rfl) (Or.inl ⟨by rfl, ?hyt6_5⟩) (by assumption) ?restt6_5
        case hyt6_5 => (intro w0 hSw; (try dsimp only at hSw); go_simp; try with_reducible rfl)
        case' restt6_5 => try simp only [Act.put, List.getElem_toArray, List.getElem_cons_zero, List.getElem_cons_succ, List.setIfInBounds_toArray, List.set_cons_zero, List.set_cons_succ]
        refine wpAnyT_go (i := 7) (v := ?vt7_6) rfl (by kernel_rfl) (by kernel_rfl) (by kernel_rfl) (fun _ _ _ h => h) (by kernel_rfl) (Or.inl ⟨by rfl, ?hyt7_6⟩) (by assumption) ?restt7_6
        case hyt7_6 => (intro w0 hSw; (try dsimp only at hSw); go_simp; try with_reducible rfl)
        case' restt7_6 => try simp only [Act.put, List.getElem_toArray, List.getElem_cons_zero, List.getElem_cons_succ, List.setIfInBounds_toArray, List.set_cons_zero, List.set_cons_succ]
        refine wpAnyT_go (i := 8) (v := ?vt8_7) rfl (by kernel_rfl) (by kernel_rfl) (by kernel_rfl) (fun _ _ _ h => h) (by kernel_rfl) (Or.inl ⟨by rfl, ?hyt8_7⟩) (by assumption) ?restt8_7
        case hyt8_7 => (intro w0 hSw; (try dsimp only at hSw); go_simp; try with_reducible rfl)
        case' restt8_7 => try simp only [Act.put, List.getElem_toArray, List.getElem_cons_zero, List.getElem_cons_succ, List.setIfInBounds_toArray, List.set_cons_zero, List.set_cons_succ]
        refine wpAnyT_go (i := 9) (v := ?vt9_8) rfl (by kernel_rfl) (by kernel_rfl) (by kernel_rfl) (fun _ _ _ h => h) (by kernel_rfl) (Or.inl ⟨by rfl, ?hyt9_8⟩) (by assumption) ?restt9_8
        case hyt9_8 => (intro w0 hSw; (try dsimp only at hSw); go_simp; try with_reducible rfl)
        case' restt9_8 => try simp only [Act.put, List.getElem_toArray, List.getElem_cons_zero, List.getElem_cons_succ, List.setIfInBounds_toArray, List.set_cons_zero, List.set_cons_succ]
        refine wpAnyT_go (i := 10) (v := ?vt10_9) rfl (by kernel_rfl) (by kernel_rfl) (by kernel_rfl) (fun _ _ _ h => h) (by kernel_rfl) (Or.inl ⟨by rfl, ?hyt10_9⟩) (by assumption) ?restt10_9
        case hyt10_9 => (intro w0 hSw; (try dsimp only at hSw); go_simp; try with_reducible rfl)
        case' restt10_9 => try simp only [Act.put, List.getElem_toArray, List.getElem_cons_zero, List.getElem_cons_succ, List.setIfInBounds_toArray, List.set_cons_zero, List.set_cons_succ]
        refine wpAnyT_ready (rs := [3]) (by kernel_rfl) (by simp) ?_
        refine AllReadyT.cons rfl (by kernel_rfl) (fun K hK => ?_) AllReadyT.nil
        go_simp
        refine hK.out _ _ (HH.out _ ((Turned.refl _ w3).drew.trans (Turned.of_below (below_alloc _ _)))) (fun hHeld => ?_)
        clear hK K
        try simp only [Act.put, List.getElem_toArray, List.getElem_cons_zero, List.getElem_cons_succ, List.setIfInBounds_toArray, List.set_cons_zero, List.set_cons_succ]
        refine wpAnyT_ready (rs := [4]) (by kernel_rfl) (by simp) ?_
        refine AllReadyT.cons rfl (by kernel_rfl) (fun K hK => ?_) AllReadyT.nil
        refine step_append_any _ rfl (.tmp 42) (.tmp 44) tRows rfl (w.heap.size + 1) tRow i0 (mkRow ((0, 0), 0, 0, 0)) 5 40 Tryd.underlying38 hi hz0 hz1 hz2 rfl (by decide) (Value.slice Au k cu) k ((L.take k).flatMap encR) rfl (World.ownsRow.alloc (w := w3.drew) hrow _) 1 (encR x) (src_one (heap_new _ _) (encR_one _) rfl) (by unfold maxLen; omega) (by omega) (by simp; omega) ?_
        intro v45 W45 ho45 hg45 _
        have ht45 : Turned (fun j => w.heap.size + 1 ≤ j) w3 W45 := ((Turned.refl _ w3).drew.trans (Turned.of_below (below_alloc _ _))).trans (Turned.of_grown hg45 (fun j hj => (hrow.lt _ hj).1))
        refine hK.out _ _ (HH.out _ (ht45)) (fun hHeld => ?_)
        clear hK K
        try simp only [Act.put, List.getElem_toArray, List.getElem_cons_zero, List.getElem_cons_succ, List.setIfInBounds_toArray, List.set_cons_zero, List.set_cons_succ]
        have ho45' := ho45
        refine wpAnyT_ready (rs := [11]) (by kernel_rfl) (by simp) ?_
        refine AllReadyT.cons rfl (by kernel_rfl) (fun K hK => ?_) AllReadyT.nil
        refine step_append_any _ rfl (.tmp 45) (.tmp 51) tRows rfl (w.heap.size + 1) tRow i0 (mkRow ((0, 0), 0, 0, 0)) 5 40 Tryd.underlying38 hi hz0 hz1 hz2 rfl (by decide) v45 (k + 1) ((L.take k).flatMap encR ++ encR x) rfl ho45 (L.length - k) ((L.drop k).flatMap encR) (src_dropIf (k := k) encR_len (by omega) encR_one (own_turned HPz.out.rl ht45 (fun j hj e => by have h2 := (HP.out.rl.lt j hj).2; omega)) (by omega) (cap_of HP.out.rl)) (by unfold maxLen; omega) (by omega) (by have := ht45.size; omega) ?_
        intro v52 W52 ho52 hg52 _
        obtain ⟨A52, c52, rfl, _⟩ := own_slice ho52
        have ht52 := ht45.trans (Turned.of_grown hg52 (fun j hj => (ho45.lt _ hj).1))
        refine hK.out _ _ (HH.out _ (ht52)) (fun hHeld => ?_)
        clear hK K
        try simp only [Act.put, List.getElem_toArray, List.getElem_cons_zero, List.getElem_cons_succ, List.setIfInBounds_toArray, List.set_cons_zero, List.set_cons_succ]
        refine wpAnyT_go (i := 12) (v := ?vt12_10) rfl (by kernel_rfl) (by kernel_rfl) (by kernel_rfl) (fun _ _ _ h => h) (by kernel_rfl) (Or.inl ⟨by rfl, ?hyt12_10⟩) (by assumption) ?restt12_10
        case hyt12_10 => (intro w0 hSw; (try dsimp only at hSw); go_simp; try with_reducible rfl)
        case' restt12_10 => try simp only [Act.put, List.getElem_toArray, List.getElem_cons_zero, List.getElem_cons_succ, List.setIfInBounds_toArray, List.set_cons_zero, List.set_cons_succ]
        refine wpAnyT_go (i := 13) (v := ?vt13_11) rfl (by kernel_rfl) (by kernel_rfl) (by kernel_rfl) (fun _ _ _ h => h) (by kernel_rfl) (Or.inl ⟨by rfl, ?hyt13_11⟩) (by assumption) ?restt13_11
        case hyt13_11 => (intro w0 hSw; (try dsimp only at hSw); go_simp; try with_reducible rfl)
        case' restt13_11 => try simp only [Act.put, List.getElem_toArray, List.getElem_cons_zero, List.getElem_cons_succ, List.setIfInBounds_toArray, List.set_cons_zero, List.set_cons_succ]
        obtain ⟨_, _, _, q3, _, _⟩ := cell6 ((ht52.block _ (heap_lt HPz.out.hd) (fun e => by omega)).trans HPz.out.hd)
        obtain ⟨_, _, _, f3, _, _⟩ := froz6 ((ht52.block _ (heap_lt HPz.out.hd) (fun e => by omega)).trans HPz.out.hd)
        refine wpAnyT_ready (rs := [14]) (by kernel_rfl) (by simp) ?_
        refine AllReadyT.last rfl (by kernel_rfl) (fun K hK => ?_) AllReadyT.nil
        go_simp
        refine hK.out _ _ trivial (fun hHeld => ?_)
        clear hK K
        try simp only [Act.put, List.getElem_toArray, List.getElem_cons_zero, List.getElem_cons_succ, List.setIfInBounds_toArray, List.set_cons_zero, List.set_cons_succ]
        refine wpAnyT_done (by kernel_rfl) ?_ _
        refine NoPanic.normal ?_
        go_wp2_with fail
        all_goals
          go_end0
          have htw : Turned (fun i => w.heap.size ≤ i) w W52 := (Turned.of_below HWz.out).trans (ht52.mono (fun i hi => by omega))
          have ho : W52.ownsRow w.heap.size tRow 5 (.slice A52 (k + 1 + (L.length - k)) c52) (insR L x).length ((insR L x).flatMap encR) := by
            rw [HZ.out, show (L.take k ++ x :: L.drop k).length = (k + 1 + (L.length - k)) by simp; omega, show (L.take k ++ x :: L.drop k).flatMap encR = (L.take k).flatMap encR ++ encR x ++ (L.drop k).flatMap encR by simp [List.append_assoc]]
            exact own_weak ho52 (Nat.le_succ _)
          exact ⟨rfl, Turned.far (Turned.refl _ w) ((htw.mono (fun i hi => .inr hi)).trans ((turned_set W52 r 3 _).mono (fun i hi => .inl hi))), _, HP.out.setL hB htw ho, fun j hj => (ho.lt j hj).1⟩
    · obtain rfl : k = L.length := by omega
      have hnlt : ¬ (L.length : Int) < L.length := by omega
      have HZ := Lib.hid (take_drop_ins (x := x) (l := L) L.length HLT.out (fun y hy => by rw [List.getElem?_eq_none (by omega)] at hy; cases hy))
      obtain ⟨Au, cu, rfl, _⟩ := own_slice hrow
      rcases own_ptr HP.out.rl with ⟨es, e0⟩ | ⟨g, c', es, _, hgl, _⟩
      · injection es with es1 es2 es3
        obtain rfl := List.eq_nil_of_length_eq_zero e0
        subst es1; subst es3
        clear hk hkl hnlt
        go_wp2_with fail
        go_quiet (fail)
        go_wp2_with fail
        have HB3 := Lib.hid (show Below wr.heap.size wr (wr.drewN nq) from ⟨rfl, rfl, rfl, Nat.le_refl _, fun _ _ => rfl⟩)
        have HPz := Lib.hid (HPr.out.below HB3.out)
        have HXz := Lib.hid (heap_keep HXr.out HB3.out)
        have HBz := Lib.hid (bch HBr.out HB3.out HBr.out.size)
        have HWz := Lib.hid (bch HBw.out HB3.out HBw.out.size)
        replace hrow := own_keep hrow HB3.out
        have hz3 := HBz.out.size
        clear p0 p1 p2 p3 p4 p5 m0 m1 m2 m3 m4
        generalize wr.drewN nq = wz at HPz HXz HBz HWz hrow hz3 ⊢
        have HH := Lib.hid (fun W (hb : Turned (fun j => w.heap.size + 1 ≤ j) wz W) => (⟨Lib.hid hb, cell_at ((hb.block _ (heap_lt HXz.out) (fun e => by omega)).trans HXz.out) 0 rfl, cell_at ((hb.block _ (heap_lt HXz.out) (fun e => by omega)).trans HXz.out) 1 rfl, cell_at ((hb.block _ (heap_lt HXz.out) (fun e => by omega)).trans HXz.out) 2 rfl, cell_at ((hb.block _ (heap_lt HXz.out) (fun e => by omega)).trans HXz.out) 3 rfl, cell_at ((hb.block _ (heap_lt HXz.out) (fun e => by omega)).trans HXz.out) 4 rfl, cell_at ((hb.block _ (heap_lt HPz.out.hd) (fun e => by omega)).trans HPz.out.hd) 3 rfl⟩ : (fun w' => Hid (Turned (fun j => w.heap.size + 1 ≤ j) wz w') ∧ w'.cell? ⟨w.heap.size, 0, none⟩ = some (.int .i64 x.1.1) ∧ w'.cell? ⟨w.heap.size, 1, none⟩ = some (.int .i64 x.1.2) ∧ w'.cell? ⟨w.heap.size, 2, none⟩ = some (.int .i64 x.2.1) ∧ w'.cell? ⟨w.heap.size, 3, none⟩ = some (.int .i64 x.2.2.1) ∧ w'.cell? ⟨w.heap.size, 4, none⟩ = some (.int .i64 x.2.2.2) ∧ w'.cell? ⟨r, 3, none⟩ = some (.slice none 0 0)) W))
        refine wp_region_noPanic ?_
        refine wp_region_till 14 (fun _ => True) (fun w' => Hid (Turned (fun j => w.heap.size + 1 ≤ j) wz w') ∧ w'.cell? ⟨w.heap.size, 0, none⟩ = some (.int .i64 x.1.1) ∧ w'.cell? ⟨w.heap.size, 1, none⟩ = some (.int .i64 x.1.2) ∧ w'.cell? ⟨w.heap.size, 2, none⟩ = some (.int .i64 x.2.1) ∧ w'.cell? ⟨w.heap.size, 3, none⟩ = some (.int .i64 x.2.2.1) ∧ w'.cell? ⟨w.heap.size, 4, none⟩ = some (.int .i64 x.2.2.2) ∧ w'.cell? ⟨r, 3, none⟩ = some (.slice none 0 0)) (by kernel_rfl) (HH.out _ ((Turned.refl _ _).drew)) (fun hHeld => ?_)
        refine wpAnyT_go (i := 0) (v := ?vt0_12) rfl (by kernel_rfl) (by kernel_rfl) (by kernel_rfl) (fun _ _ _ h => h) (by kernel_rfl) (Or.inl ⟨by rfl, ?hyt0_12⟩) (by assumption) ?restt0_12
        case hyt0_12 => (intro w0 hSw; (try dsimp only at hSw); go_simp; try with_reducible rfl)
        case' restt0_12 => try simp only [Act.put, List.getElem_toArray, List.getElem_cons_zero, List.getElem_cons_succ, List.setIfInBounds_toArray, List.set_cons_zero, List.set_cons_succ]
        refine wpAnyT_go (i := 1) (v := ?vt1_13) rfl (by kernel_rfl) (by kernel_rfl) (by kernel_rfl) (fun _ _ _ h => h) (by kernel_rfl) (Or.inl ⟨by rfl, ?hyt1_13⟩) (by assumption) ?restt1_13
        case hyt1_13 => (intro w0 hSw; (try dsimp only at hSw); go_simp; try with_reducible rfl)
        case' restt1_13 => try simp only [Act.put, List.getElem_toArray, List.getElem_cons_zero, List.getElem_cons_succ, List.setIfInBounds_toArray, List.set_cons_zero, List.set_cons_succ]
        refine wpAnyT_go (i := 2) (v := ?vt2_14) rfl (by kernel_rfl) (by kernel_rfl) (by kernel_rfl) (fun _ _ _ h => h) (by kernel_rfl) (Or.inl ⟨by rfl, ?hyt2_14⟩) (by assumption) ?restt2_14
        case hyt2_14 => (intro w0 hSw; (try dsimp only at hSw); go_simp; try with_reducible rfl)
        case' restt2_14 => try simp only [Act.put, List.getElem_toArray, List.getElem_cons_zero, List.getElem_cons_succ, List.setIfInBounds_toArray, List.set_cons_zero, List.set_cons_succ]
        refine wpAnyT_go (i := 5) (v := ?vt5_15) rfl (by kernel_rfl) (by kernel_rfl) (by kernel_rfl) (fun _ _ _ h => h) (by kernel_rfl) (Or.inl ⟨by rfl, ?hyt5_15⟩) (by assumption) ?restt5_15
        case hyt5_15 => (intro w0 hSw; (try dsimp only at hSw); go_simp; try with_reducible rfl)
        case' restt5_15 => try simp only [Act.put, List.getElem_toArray, List.getElem_cons_zero, List.getElem_cons_succ, List.setIfInBounds_toArray, List.set_cons_zero, List.set_cons_succ]
        refine wpAnyT_go (i := 6) (v := ?vt6_16) rfl (by kernel_rfl) (by kernel_rfl) (by kernel_rfl) (fun _ _ _ h => h) (by kernel_rfl) (Or.inl ⟨by rfl, ?hyt6_16⟩) (by assumption) ?restt6_16
        case hyt6_16 => (intro w0 hSw; (try dsimp only at hSw); go_simp; try with_reducible rfl)
        case' restt6_16 => try simp only [Act.put, List.getElem_toArray, List.getElem_cons_zero, List.getElem_cons_succ, List.setIfInBounds_toArray, List.set_cons_zero, List.set_cons_succ]
        refine wpAnyT_go (i := 7) (v := ?vt7_17) rfl (by kernel_rfl) (by kernel_rfl) (by kernel_rfl) (fun _ _ _ h => h) (by kernel_rfl) (Or.inl ⟨by rfl, ?hyt7_17⟩) (by assumption) ?restt7_17
        case hyt7_17 => (intro w0 hSw; (try dsimp only at hSw); go_simp; try with_reducible rfl)
        case' restt7_17 => try simp only [Act.put, List.getElem_toArray, List.getElem_cons_zero, List.getElem_cons_succ, List.setIfInBounds_toArray, List.set_cons_zero, List.set_cons_succ]
        refine wpAnyT_go (i := 8) (v := ?vt8_18) rfl (by kernel_rfl) (by kernel_rfl) (by kernel_rfl) (fun _ _ _ h => h) (by kernel_rfl) (Or.inl ⟨by rfl, ?hyt8_18⟩) (by assumption) ?restt8_18
        case hyt8_18 => (intro w0 hSw; (try dsimp only at hSw); go_simp; try with_reducible rfl)
        case' restt8_18 => try simp only [Act.put, List.getElem_toArray, List.getElem_cons_zero, List.getElem_cons_succ, List.setIfInBounds_toArray, List.set_cons_zero, List.set_cons_succ]
        refine wpAnyT_go (i := 9) (v := ?vt9_19) rfl (by kernel_rfl) (by kernel_rfl) (by kernel_rfl) (fun _ _ _ h => h) (by kernel_rfl) (Or.inl ⟨by rfl, ?hyt9_19⟩) (by assumption) ?restt9_19
        case hyt9_19 => (intro w0 hSw; (try dsimp only at hSw); go_simp; try with_reducible rfl)
        case' restt9_19 => try simp only [Act.put, List.getElem_toArray, List.getElem_cons_zero, List.getElem_cons_succ, List.setIfInBounds_toArray, List.set_cons_zero, List.set_cons_succ]
        refine wpAnyT_go (i := 10) (v := ?vt10_20) rfl (by kernel_rfl) (by kernel_rfl) (by kernel_rfl) (fun _ _ _ h => h) (by kernel_rfl) (Or.inl ⟨by rfl, ?hyt10_20⟩) (by assumption) ?restt10_20
        case hyt10_20 => (intro w0 hSw; (try dsimp only at hSw); go_simp; try with_reducible rfl)
        case' restt10_20 => try simp only [Act.put, List.getElem_toArray, List.getElem_cons_zero, List.getElem_cons_succ, List.setIfInBounds_toArray, List.set_cons_zero, List.set_cons_succ]
        refine wpAnyT_ready (rs := [3]) (by kernel_rfl) (by simp) ?_
        refine AllReadyT.cons rfl (by kernel_rfl) (fun K hK => ?_) AllReadyT.nil
        go_simp
        refine hK.out _ _ (HH.out _ ((Turned.refl _ wz).drew.trans (Turned.of_below (below_alloc _ _)))) (fun hHeld => ?_)
        clear hK K
        try simp only [Act.put, List.getElem_toArray, List.getElem_cons_zero, List.getElem_cons_succ, List.setIfInBounds_toArray, List.set_cons_zero, List.set_cons_succ]
        refine wpAnyT_ready (rs := [4]) (by kernel_rfl) (by simp) ?_
        refine AllReadyT.cons rfl (by kernel_rfl) (fun K hK => ?_) AllReadyT.nil
        refine step_append_any _ rfl (.tmp 42) (.tmp 44) tRows rfl (w.heap.size + 1) tRow i0 (mkRow ((0, 0), 0, 0, 0)) 5 40 Tryd.underlying38 hi hz0 hz1 hz2 rfl (by decide) (Value.slice Au 0 cu) 0 ((([] : List R5).take 0).flatMap encR) rfl (World.ownsRow.alloc (w := wz.drew) hrow _) 1 (encR x) (src_one (heap_new _ _) (encR_one _) rfl) (by unfold maxLen; omega) (by omega) (by simp; omega) ?_
        intro v45 W45 ho45 hg45 _
        have ht45 : Turned (fun j => w.heap.size + 1 ≤ j) wz W45 := ((Turned.refl _ wz).drew.trans (Turned.of_below (below_alloc _ _))).trans (Turned.of_grown hg45 (fun j hj => (hrow.lt _ hj).1))
        refine hK.out _ _ (HH.out _ (ht45)) (fun hHeld => ?_)
        clear hK K
        try simp only [Act.put, List.getElem_toArray, List.getElem_cons_zero, List.getElem_cons_succ, List.setIfInBounds_toArray, List.set_cons_zero, List.set_cons_succ]
        refine wpAnyT_ready (rs := [11]) (by kernel_rfl) (by simp) ?_
        refine AllReadyT.cons rfl (by kernel_rfl) (fun K hK => ?_) AllReadyT.nil
        refine step_append_any _ rfl (.tmp 45) (.tmp 51) tRows rfl (w.heap.size + 1) tRow i0 (mkRow ((0, 0), 0, 0, 0)) 5 40 Tryd.underlying38 hi hz0 hz1 hz2 rfl (by decide) v45 (0 + 1) ((([] : List R5).take 0).flatMap encR ++ encR x) rfl ho45 0 [] (⟨rfl, by simp, .inl ⟨rfl, rfl⟩⟩ : SrcL W45 (.slice none 0 0) 0 5 []) (by unfold maxLen; omega) (by omega) (by have := ht45.size; omega) ?_
        intro v52 W52 ho52 hg52 _
        obtain ⟨A52, c52, rfl, _⟩ := own_slice ho52
        have ht52 := ht45.trans (Turned.of_grown hg52 (fun j hj => (ho45.lt _ hj).1))
        refine hK.out _ _ (HH.out _ (ht52)) (fun hHeld => ?_)
        clear hK K
        try simp only [Act.put, List.getElem_toArray, List.getElem_cons_zero, List.getElem_cons_succ, List.setIfInBounds_toArray, List.set_cons_zero, List.set_cons_succ]
        refine wpAnyT_go (i := 12) (v := ?vt12_21) rfl (by kernel_rfl) (by kernel_rfl) (by kernel_rfl) (fun _ _ _ h => h) (by kernel_rfl) (Or.inl ⟨by rfl, ?hyt12_21⟩) (by assumption) ?restt12_21
        case hyt12_21 => (intro w0 hSw; (try dsimp only at hSw); go_simp; try with_reducible rfl)
        case' restt12_21 => try simp only [Act.put, List.getElem_toArray, List.getElem_cons_zero, List.getElem_cons_succ, List.setIfInBounds_toArray, List.set_cons_zero, List.set_cons_succ]
        refine wpAnyT_go (i := 13) (v := ?vt13_22) rfl (by kernel_rfl) (by kernel_rfl) (by kernel_rfl) (fun _ _ _ h => h) (by kernel_rfl) (Or.inl ⟨by rfl, ?hyt13_22⟩) (by assumption) ?restt13_22
        case hyt13_22 => (intro w0 hSw; (try dsimp only at hSw); go_simp; try with_reducible rfl)
        case' restt13_22 => try simp only [Act.put, List.getElem_toArray, List.getElem_cons_zero, List.getElem_cons_succ, List.setIfInBounds_toArray, List.set_cons_zero, List.set_cons_succ]
        obtain ⟨_, _, _, q3, _, _⟩ := cell6 ((ht52.block _ (heap_lt HPz.out.hd) (fun e => by omega)).trans HPz.out.hd)
        obtain ⟨_, _, _, f3, _, _⟩ := froz6 ((ht52.block _ (heap_lt HPz.out.hd) (fun e => by omega)).trans HPz.out.hd)
        refine wpAnyT_ready (rs := [14]) (by kernel_rfl) (by simp) ?_
        refine AllReadyT.last rfl (by kernel_rfl) (fun K hK => ?_) AllReadyT.nil
        go_simp
        refine hK.out _ _ trivial (fun hHeld => ?_)
        clear hK K
        try simp only [Act.put, List.getElem_toArray, List.getElem_cons_zero, List.getElem_cons_succ, List.setIfInBounds_toArray, List.set_cons_zero, List.set_cons_succ]
        refine wpAnyT_done (by kernel_rfl) ?_ _
        refine NoPanic.normal ?_
        go_wp2_with fail
        all_goals
          go_end0
          have htw : Turned (fun i => w.heap.size ≤ i) w W52 := (Turned.of_below HWz.out).trans (ht52.mono (fun i hi => by omega))
          have ho : W52.ownsRow w.heap.size tRow 5 (.slice A52 (0 + 1 + 0) c52) (insR ([] : List R5) x).length ((insR ([] : List R5) x).flatMap encR) := by
            rw [HZ.out]
            simpa [List.append_assoc] using own_weak ho52 (Nat.le_succ _)
          exact ⟨rfl, Turned.far (Turned.refl _ w) ((htw.mono (fun i hi => .inr hi)).trans ((turned_set W52 r 3 _).mono (fun i hi => .inl hi))), _, HP.out.setL hB htw ho, fun j hj => (ho.lt j hj).1⟩
      · injection es with es1 es2 es3
        subst es1; subst es3
        have hk0 : (0 : Int) ≤ L.length := by omega
        have hkc := cap_of HP.out.rl
        have hkc' : (L.length : Int) ≤ c := by omega
        go_wp2_with fail
        go_quiet (fail)
        go_wp2_with fail
        have HB3 := Lib.hid (show Below wr.heap.size wr (wr.drewN nq) from ⟨rfl, rfl, rfl, Nat.le_refl _, fun _ _ => rfl⟩)
        have HPz := Lib.hid (HPr.out.below HB3.out)
        have HXz := Lib.hid (heap_keep HXr.out HB3.out)
        have HBz := Lib.hid (bch HBr.out HB3.out HBr.out.size)
        have HWz := Lib.hid (bch HBw.out HB3.out HBw.out.size)
        replace hrow := own_keep hrow HB3.out
        have hz3 := HBz.out.size
        clear p0 p1 p2 p3 p4 p5 m0 m1 m2 m3 m4
        generalize wr.drewN nq = wz at HPz HXz HBz HWz hrow hz3 ⊢
        have HH := Lib.hid (fun W (hb : Turned (fun j => w.heap.size + 1 ≤ j) wz W) => (⟨Lib.hid hb, cell_at ((hb.block _ (heap_lt HXz.out) (fun e => by omega)).trans HXz.out) 0 rfl, cell_at ((hb.block _ (heap_lt HXz.out) (fun e => by omega)).trans HXz.out) 1 rfl, cell_at ((hb.block _ (heap_lt HXz.out) (fun e => by omega)).trans HXz.out) 2 rfl, cell_at ((hb.block _ (heap_lt HXz.out) (fun e => by omega)).trans HXz.out) 3 rfl, cell_at ((hb.block _ (heap_lt HXz.out) (fun e => by omega)).trans HXz.out) 4 rfl, cell_at ((hb.block _ (heap_lt HPz.out.hd) (fun e => by omega)).trans HPz.out.hd) 3 rfl⟩ : (fun w' => Hid (Turned (fun j => w.heap.size + 1 ≤ j) wz w') ∧ w'.cell? ⟨w.heap.size, 0, none⟩ = some (.int .i64 x.1.1) ∧ w'.cell? ⟨w.heap.size, 1, none⟩ = some (.int .i64 x.1.2) ∧ w'.cell? ⟨w.heap.size, 2, none⟩ = some (.int .i64 x.2.1) ∧ w'.cell? ⟨w.heap.size, 3, none⟩ = some (.int .i64 x.2.2.1) ∧ w'.cell? ⟨w.heap.size, 4, none⟩ = some (.int .i64 x.2.2.2) ∧ w'.cell? ⟨r, 3, none⟩ = some (.slice (some ⟨g, 0, none⟩) L.length c)) W))
        refine wp_region_noPanic ?_
        refine wp_region_till 14 (fun _ => True) (fun w' => Hid (Turned (fun j => w.heap.size + 1 ≤ j) wz w') ∧ w'.cell? ⟨w.heap.size, 0, none⟩ = some (.int .i64 x.1.1) ∧ w'.cell? ⟨w.heap.size, 1, none⟩ = some (.int .i64 x.1.2) ∧ w'.cell? ⟨w.heap.size, 2, none⟩ = some (.int .i64 x.2.1) ∧ w'.cell? ⟨w.heap.size, 3, none⟩ = some (.int .i64 x.2.2.1) ∧ w'.cell? ⟨w.heap.size, 4, none⟩ = some (.int .i64 x.2.2.2) ∧ w'.cell? ⟨r, 3, none⟩ = some (.slice (some ⟨g, 0, none⟩) L.length c)) (by kernel_rfl) (HH.out _ ((Turned.refl _ _).drew)) (fun hHeld => ?_)
        refine wpAnyT_go (i := 0) (v := ?vt0_23) rfl (by kernel_rfl) (by kernel_rfl) (by kernel_rfl) (fun _ _ _ h => h) (by kernel_rfl) (Or.inl ⟨by rfl, ?hyt0_23⟩) (by assumption) ?restt0_23
        case hyt0_23 => (intro w0 hSw; (try dsimp only at hSw); go_simp; try with_reducible rfl)
        case' restt0_23 => try simp only [Act.put, List.getElem_toArray, List.getElem_cons_zero, List.getElem_cons_succ, List.setIfInBounds_toArray, List.set_cons_zero, List.set_cons_succ]
        refine wpAnyT_go (i := 1) (v := ?vt1_24) rfl (by kernel_rfl) (by kernel_rfl) (by kernel_rfl) (fun _ _ _ h => h) (by kernel_rfl) (Or.inl ⟨by rfl, ?hyt1_24⟩) (by assumption) ?restt1_24
        case hyt1_24 => (intro w0 hSw; (try dsimp only at hSw); go_simp; try with_reducible rfl)
        case' restt1_24 => try simp only [Act.put, List.getElem_toArray, List.getElem_cons_zero, List.getElem_cons_succ, List.setIfInBounds_toArray, List.set_cons_zero, List.set_cons_succ]
        refine wpAnyT_go (i := 2) (v := ?vt2_25) rfl (by kernel_rfl) (by kernel_rfl) (by kernel_rfl) (fun _ _ _ h => h) (by kernel_rfl) (Or.inl ⟨by rfl, ?hyt2_25⟩) (by assumption) ?restt2_25
        case hyt2_25 => (intro w0 hSw; (try dsimp only at hSw); go_simp; try with_reducible rfl)
        case' restt2_25 => try simp only [Act.put, List.getElem_toArray, List.getElem_cons_zero, List.getElem_cons_succ, List.setIfInBounds_toArray, List.set_cons_zero, List.set_cons_succ]
        refine wpAnyT_go (i := 5) (v := ?vt5_26) rfl (by kernel_rfl) (by kernel_rfl) (by kernel_rfl) (fun _ _ _ h => h) (by kernel_rfl) (Or.inl ⟨by rfl, ?hyt5_26⟩) (by assumption) ?restt5_26
        case hyt5_26 => (intro w0 hSw; (try dsimp only at hSw); go_simp; try with_reducible rfl)
        case' restt5_26 => try simp only [Act.put, List.getElem_toArray, List.getElem_cons_zero, List.getElem_cons_succ, List.setIfInBounds_toArray, List.set_cons_zero, List.set_cons_succ]
        refine wpAnyT_go (i := 6) (v := ?vt6_27) rfl (by kernel_rfl) (by kernel_rfl) (by kernel_rfl) (fun _ _ _ h => h) (by kernel_rfl) (Or.inl ⟨by rfl, ?hyt6_27⟩) (by assumption) ?restt6_27
        case hyt6_27 => (intro w0 hSw; (try dsimp only at hSw); go_simp; try with_reducible rfl)
        case' restt6_27 => try simp only [Act.put, List.getElem_toArray, List.getElem_cons_zero, List.getElem_cons_succ, List.setIfInBounds_toArray, List.set_cons_zero, List.set_cons_succ]
        refine wpAnyT_go (i := 7) (v := ?vt7_28) rfl (by kernel_rfl) (by kernel_rfl) (by kernel_rfl) (fun _ _ _ h => h) (by kernel_rfl) (Or.inl ⟨by rfl, ?hyt7_28⟩) (by assumption) ?restt7_28
        case hyt7_28 => (intro w0 hSw; (try dsimp only at hSw); go_simp; try with_reducible rfl)
        case' restt7_28 => try simp only [Act.put, List.getElem_toArray, List.getElem_cons_zero, List.getElem_cons_succ, List.setIfInBounds_toArray, List.set_cons_zero, List.set_cons_succ]
        refine wpAnyT_go (i := 8) (v := ?vt8_29) rfl (by kernel_rfl) (by kernel_rfl) (by kernel_rfl) (fun _ _ _ h => h) (by kernel_rfl) (Or.inl ⟨by rfl, ?hyt8_29⟩) (by assumption) ?restt8_29
        case hyt8_29 => (intro w0 hSw; (try dsimp only at hSw); go_simp; try with_reducible rfl)
        case' restt8_29 => try simp only [Act.put, List.getElem_toArray, List.getElem_cons_zero, List.getElem_cons_succ, List.setIfInBounds_toArray, List.set_cons_zero, List.set_cons_succ]
        refine wpAnyT_go (i := 9) (v := ?vt9_30) rfl (by kernel_rfl) (by kernel_rfl) (by kernel_rfl) (fun _ _ _ h => h) (by kernel_rfl) (Or.inl ⟨by rfl, ?hyt9_30⟩) (by assumption) ?restt9_30
        case hyt9_30 => (intro w0 hSw; (try dsimp only at hSw); go_simp; try with_reducible rfl)
        case' restt9_30 => try simp only [Act.put, List.getElem_toArray, List.getElem_cons_zero, List.getElem_cons_succ, List.setIfInBounds_toArray, List.set_cons_zero, List.set_cons_succ]
        refine wpAnyT_go (i := 10) (v := ?vt10_31) rfl (by kernel_rfl) (by kernel_rfl) (by kernel_rfl) (fun _ _ _ h => h) (by kernel_rfl) (Or.inl ⟨by rfl, ?hyt10_31⟩) (by assumption) ?restt10_31
        case hyt10_31 => (intro w0 hSw; (try dsimp only at hSw); go_simp; try with_reducible rfl)
        case' restt10_31 => try simp only [Act.put, List.getElem_toArray, List.getElem_cons_zero, List.getElem_cons_succ, List.setIfInBounds_toArray, List.set_cons_zero, List.set_cons_succ]
        refine wpAnyT_ready (rs := [3]) (by kernel_rfl) (by simp) ?_
        refine AllReadyT.cons rfl (by kernel_rfl) (fun K hK => ?_) AllReadyT.nil
        go_simp
        refine hK.out _ _ (HH.out _ ((Turned.refl _ wz).drew.trans (Turned.of_below (below_alloc _ _)))) (fun hHeld => ?_)
        clear hK K
        try simp only [Act.put, List.getElem_toArray, List.getElem_cons_zero, List.getElem_cons_succ, List.setIfInBounds_toArray, List.set_cons_zero, List.set_cons_succ]
        refine wpAnyT_ready (rs := [4]) (by kernel_rfl) (by simp) ?_
        refine AllReadyT.cons rfl (by kernel_rfl) (fun K hK => ?_) AllReadyT.nil
        refine step_append_any _ rfl (.tmp 42) (.tmp 44) tRows rfl (w.heap.size + 1) tRow i0 (mkRow ((0, 0), 0, 0, 0)) 5 40 Tryd.underlying38 hi hz0 hz1 hz2 rfl (by decide) (Value.slice Au L.length cu) L.length ((L.take L.length).flatMap encR) rfl (World.ownsRow.alloc (w := wz.drew) hrow _) 1 (encR x) (src_one (heap_new _ _) (encR_one _) rfl) (by unfold maxLen; omega) (by omega) (by simp; omega) ?_
        intro v45 W45 ho45 hg45 _
        have ht45 : Turned (fun j => w.heap.size + 1 ≤ j) wz W45 := ((Turned.refl _ wz).drew.trans (Turned.of_below (below_alloc _ _))).trans (Turned.of_grown hg45 (fun j hj => (hrow.lt _ hj).1))
        refine hK.out _ _ (HH.out _ (ht45)) (fun hHeld => ?_)
        clear hK K
        try simp only [Act.put, List.getElem_toArray, List.getElem_cons_zero, List.getElem_cons_succ, List.setIfInBounds_toArray, List.set_cons_zero, List.set_cons_succ]
        refine wpAnyT_ready (rs := [11]) (by kernel_rfl) (by simp) ?_
        refine AllReadyT.cons rfl (by kernel_rfl) (fun K hK => ?_) AllReadyT.nil
        refine step_append_any _ rfl (.tmp 45) (.tmp 51) tRows rfl (w.heap.size + 1) tRow i0 (mkRow ((0, 0), 0, 0, 0)) 5 40 Tryd.underlying38 hi hz0 hz1 hz2 rfl (by decide) v45 (L.length + 1) ((L.take L.length).flatMap encR ++ encR x) rfl ho45 0 [] (src_nilIf _ _ _ _ _ _) (by unfold maxLen; omega) (by omega) (by have := ht45.size; omega) ?_
        intro v52 W52 ho52 hg52 _
        obtain ⟨A52, c52, rfl, _⟩ := own_slice ho52
        have ht52 := ht45.trans (Turned.of_grown hg52 (fun j hj => (ho45.lt _ hj).1))
        refine hK.out _ _ (HH.out _ (ht52)) (fun hHeld => ?_)
        clear hK K
        try simp only [Act.put, List.getElem_toArray, List.getElem_cons_zero, List.getElem_cons_succ, List.setIfInBounds_toArray, List.set_cons_zero, List.set_cons_succ]
        refine wpAnyT_go (i := 12) (v := ?vt12_32) rfl (by kernel_rfl) (by kernel_rfl) (by kernel_rfl) (fun _ _ _ h => h) (by kernel_rfl) (Or.inl ⟨by rfl, ?hyt12_32⟩) (by assumption) ?restt12_32
        case hyt12_32 => (intro w0 hSw; (try dsimp only at hSw); go_simp; try with_reducible rfl)
        case' restt12_32 => try simp only [Act.put, List.getElem_toArray, List.getElem_cons_zero, List.getElem_cons_succ, List.setIfInBounds_toArray, List.set_cons_zero, List.set_cons_succ]
        refine wpAnyT_go (i := 13) (v := ?vt13_33) rfl (by kernel_rfl) (by kernel_rfl) (by kernel_rfl) (fun _ _ _ h => h) (by kernel_rfl) (Or.inl ⟨by rfl, ?hyt13_33⟩) (by assumption) ?restt13_33
        case hyt13_33 => (intro w0 hSw; (try dsimp only at hSw); go_simp; try with_reducible rfl)
        case' restt13_33 => try simp only [Act.put, List.getElem_toArray, List.getElem_cons_zero, List.getElem_cons_succ, List.setIfInBounds_toArray, List.set_cons_zero, List.set_cons_succ]
        obtain ⟨_, _, _, q3, _, _⟩ := cell6 ((ht52.block _ (heap_lt HPz.out.hd) (fun e => by omega)).trans HPz.out.hd)
        obtain ⟨_, _, _, f3, _, _⟩ := froz6 ((ht52.block _ (heap_lt HPz.out.hd) (fun e => by omega)).trans HPz.out.hd)
        refine wpAnyT_ready (rs := [14]) (by kernel_rfl) (by simp) ?_
        refine AllReadyT.last rfl (by kernel_rfl) (fun K hK => ?_) AllReadyT.nil
        go_simp
        refine hK.out _ _ trivial (fun hHeld => ?_)
        clear hK K
        try simp only [Act.put, List.getElem_toArray, List.getElem_cons_zero, List.getElem_cons_succ, List.setIfInBounds_toArray, List.set_cons_zero, List.set_cons_succ]
        refine wpAnyT_done (by kernel_rfl) ?_ _
        refine NoPanic.normal ?_
        go_wp2_with fail
        all_goals
          go_end0
          have htw : Turned (fun i => w.heap.size ≤ i) w W52 := (Turned.of_below HWz.out).trans (ht52.mono (fun i hi => by omega))
          have ho : W52.ownsRow w.heap.size tRow 5 (.slice A52 (L.length + 1 + 0) c52) (insR L x).length ((insR L x).flatMap encR) := by
            rw [HZ.out]
            simpa [List.append_assoc] using own_weak ho52 (Nat.le_succ _)
          exact ⟨rfl, Turned.far (Turned.refl _ w) ((htw.mono (fun i hi => .inr hi)).trans ((turned_set W52 r 3 _).mono (fun i hi => .inl hi))), _, HP.out.setL hB htw ho, fun j hj => (ho.lt j hj).1⟩
end Go.Proofs.YtkmpagijdhhinaaDoor
/- The document's party: free, does, New. -/
namespace Go.Proofs.YtkmpagijdhhinaaDoor
open Go.RowKit Go.Maps Key Od Pa

theorem RP.setG {w W : World} {B r : Nat} {kind stock limit seq : Int} {vl vg : Value} {L : List R5} {G : List G3} (h : RP w B r kind stock limit seq vl vg L G) (hB : B ≤ w.heap.size) (ht : Turned (fun i => w.heap.size ≤ i) w W) {v' : Value} {G' : List G3} (ho : W.ownsRow w.heap.size tGds 3 v' G'.length (G'.flatMap encGd)) : RP (W.setCell ⟨r, 4, none⟩ v') B r kind stock limit seq vl v' L G' := by
  have hr := heap_lt h.hd
  have hd := (ht.block r hr (by omega)).trans h.hd
  have hS : Turned (fun j => j = r) W (W.setCell ⟨r, 4, none⟩ v') := turned_set W r 4 v'
  refine ⟨by simp [World.setCell, Array.getElem?_modify, hd], own_turned (own_turned h.rl ht (fun j hj e => by have := (h.rl.lt j hj).2; omega)) hS (fun j hj e => ?_), own_weak (own_turned ho hS (fun j hj e => ?_)) hB, h.lo⟩
  · have := own_apart_blk h.rl h.hd (by decide) j hj; exact this e
  · have := (ho.lt j hj).1; omega
theorem below_drewN {B : Nat} {a b : World} (h : Below B a b) (n : Nat) : Below B a (b.drewN n) := ⟨h.os, h.tape, h.output, h.size, h.block⟩
theorem free_len (G : List G3) (o : Int) : (freeG G o).length ≤ G.length := List.length_filter_le _ _

set_option linter.unusedSimpArgs false in
set_option linter.unusedVariables false in
set_option maxRecDepth 100000 in
set_option maxHeartbeats 4000000 in
theorem refFree_any (w : World) (B r : Nat) (kind stock limit seq : Int) (vl vg : Value) (L : List R5) (G : List G3) (o : Int) (h : RP w B r kind stock limit seq vl vg L G) (hl : G.length < 100000) (hB : B ≤ w.heap.size) :
    Calls Tryd.prog 37 #[.pointer (some ⟨r, 0, none⟩), .int .i64 o] w fun e w' => e = .returned (.tuple #[]) ∧ Turned (fun i => i = r) w w' ∧ ∃ v', RP w' B r kind stock limit seq vl v' L (freeG G o) := by
  obtain ⟨i0, hi, hz0, hz1, hz2⟩ := info_parts gds_info
  obtain ⟨A, c, rfl, hA⟩ := own_slice h.rg
  have HA := Lib.hid hA
  have HP := Lib.hid h
  have hrlt := heap_lt h.hd
  clear h hA
  go_enter Tryd.func37, Tryd.ntmps37
  go_wp2_with fail
  go_loopw [4, 5] (fun u i wr => ∃ k : Nat, i = .int .i64 k ∧ k ≤ G.length ∧ wr.ownsRow w.heap.size tGds 3 u (freeG (G.take k) o).length ((freeG (G.take k) o).flatMap encGd) ∧ Hid (Below w.heap.size w wr)) (fun _ i _ => G.length - (intOf i).toNat)
  case atStart => exact ⟨0, rfl, by omega, World.ownsRow_nil _ _ _ _, Below.refl _ _⟩
  case round =>
    obtain ⟨k, rfl, hk, hrow, HBr⟩ := hrel
    have HPr := Lib.hid (HP.out.below HBr.out)
    obtain ⟨p0, p1, p2, p3, p4, p5⟩ := cell6 HPr.out.hd
    have hfl := free_len (G.take k) o
    rw [List.length_take] at hfl
    by_cases hkl : k < G.length
    · obtain ⟨x, hx⟩ : ∃ x, G[k]? = some x := ⟨_, List.getElem?_eq_getElem hkl⟩
      obtain ⟨g, rfl, _, hgl⟩ := HA.out (by omega)
      have c0 := own_cellK encGd_len (by omega) HPr.out.rg hx 0 (by omega)
      have c1 := own_cellK encGd_len (by omega) HPr.out.rg hx 1 (by omega)
      have c2 := own_cellK encGd_len (by omega) HPr.out.rg hx 2 (by omega)
      simp only [encGd, List.getElem?_cons_zero, List.getElem?_cons_succ] at c0 c1 c2
      rw [Nat.add_zero] at c0
      have hlt : (k : Int) < G.length := by omega
      have hk0 : (0 : Int) ≤ k := by omega
      have HF := Lib.hid (free_take hx o)
      have hz3 := HBr.out.size
      clear hx
      by_cases he : x.1 = o
      · have HF' := Lib.hid (show freeG (G.take (k + 1)) o = freeG (G.take k) o by rw [HF.out, if_pos he, List.append_nil])
        have hb : (x.1 != o) = false := by rw [he]; simp
        clear he HF
        go_wp2_with fail
        go_roundw
        case rel => exact ⟨k + 1, by go_num, by omega, by rw [HF'.out]; exact hrow, HBr⟩
        case measure => simp [intOf]; omega
      · have HF' := Lib.hid (show freeG (G.take (k + 1)) o = freeG (G.take k) o ++ [x] by rw [HF.out, if_neg he])
        have hb := bneT he
        clear he HF
        go_wp2_with (first
          | (at_builtin; go_loud (refine wpList_append_any _ rfl (.tmp 25) (.tmp 33) tGdss rfl w.heap.size tGds i0 (.agg #[.int .i64 0, .string ⟨#[]⟩, .int .i64 0]) 3 32 Tryd.underlying41 hi hz0 hz1 hz2 rfl (by decide) u4 (freeG (G.take k) o).length ((freeG (G.take k) o).flatMap encGd) rfl (hrow.alloc _) 1 (encGd x) (src_blk (xs := encGd x) (heap_new _ _) (encGd_one x)) (by unfold maxLen; omega) (by omega) (by simp; omega) ?_; intro v2 W2 ho2 hg2 hat2)))
        go_roundw
        case rel =>
          have HX2 : Turned (fun j => w.heap.size ≤ j) wr W2 := (Turned.of_below (below_alloc wr _)).trans (Turned.of_grown hg2 (fun j hj => (hrow.lt _ hj).1))
          refine ⟨k + 1, by go_num, by omega, ?_, Below.turned HBr.out HX2 (fun j hj => hj) HBr.out.size⟩
          rw [HF'.out, List.length_append, List.flatMap_append]
          simpa using ho2
        case measure => simp [intOf]; omega
    · obtain rfl : k = G.length := by omega
      have hnlt : ¬ (G.length : Int) < G.length := by omega
      rw [List.take_length] at hrow
      obtain ⟨Au, cu, rfl, _⟩ := own_slice hrow
      obtain ⟨f0, f1, f2, f3, f4, f5⟩ := froz6 HPr.out.hd
      have HROW := Lib.hid hrow
      clear hrow
      go_wp2_with fail
      go_end0
      have htw : Turned (fun i => w.heap.size ≤ i) w wr := Turned.of_below HBr.out
      exact ⟨rfl, Turned.far (Turned.refl _ w) ((htw.mono (fun i hi => .inr hi)).trans ((turned_set wr r 4 _).mono (fun i hi => .inl hi))), _, HP.out.setG hB htw HROW.out⟩
set_option linter.unusedSimpArgs false in
set_option linter.unusedVariables false in
set_option maxRecDepth 100000 in
set_option maxHeartbeats 4000000 in
theorem refDoes_any (w : World) (B r : Nat) (kind stock limit seq : Int) (vl vg : Value) (L : List R5) (st : St) (to o d : Int) (sku : ByteArray) (qty amt cd : Int) (h : RP w B r kind stock limit seq vl vg L st.gs) (hl : st.gs.length < 100000) (hs : 0 ≤ stock ∧ stock ≤ 1000000000) (hq : ∀ o s q, (o, s, q) ∈ st.gs → 1 ≤ q) (hu : used st.gs sku.data.toList ≤ 1000000000) (hk : 0 ≤ kind ∧ kind ≤ 2) :
    Calls Tryd.prog 38 #[.pointer (some ⟨r, 0, none⟩), .agg #[.int .i64 to, .int .i64 o, .int .i64 d, .string sku, .int .i64 qty, .int .i64 amt, .int .i64 cd]] w fun e w' => e = .returned (.bool (doneB kind stock limit st ⟨to, o, d, sku.data.toList, qty, amt, cd⟩)) ∧ Below w.heap.size w w' := by
  have HB := Lib.hid (below_alloc w (.cells #[.int .i64 to, .int .i64 o, .int .i64 d, .string sku, .int .i64 qty, .int .i64 amt, .int .i64 cd] tMsg))
  have HM := Lib.hid (heap_new w (.cells #[.int .i64 to, .int .i64 o, .int .i64 d, .string sku, .int .i64 qty, .int .i64 amt, .int .i64 cd] tMsg))
  have HP := Lib.hid (h.below HB.out)
  have HQ := Lib.hid hq
  have h3 : kind = 0 ∨ kind = 1 ∨ kind = 2 := by omega
  clear h hq hk
  generalize hwa : w.alloc (.cells #[.int .i64 to, .int .i64 o, .int .i64 d, .string sku, .int .i64 qty, .int .i64 amt, .int .i64 cd] tMsg) = wa at HB HM HP
  obtain ⟨p0, p1, p2, p3, p4, p5⟩ := cell6 HP.out.hd
  obtain ⟨m0, m1, m2, m3, m4, m5, m6⟩ := cell7 HM.out
  rcases h3 with rfl | rfl | rfl
  · have HF := Lib.hid (show doneB 0 stock limit st ⟨to, o, d, sku.data.toList, qty, amt, cd⟩ = decide (amt ≤ limit) from rfl)
    go_enter Tryd.func38, Tryd.ntmps38
    go_wp2_with fail
    go_quiet (fail)
    go_wp2_with fail
    go_ret
    exact ⟨by rw [HF.out]; rfl, below_drewN HB.out _⟩
  · have HF := Lib.hid (show doneB 1 stock limit st ⟨to, o, d, sku.data.toList, qty, amt, cd⟩ = decide (qty ≤ stock - used st.gs sku.data.toList) from rfl)
    have HLQ := Lib.hid (fun n => (refLeft_any (wa.drewN n) B r 1 stock limit seq vl vg L st.gs sku (HP.out.below (below_drewN (Below.refl _ _) n)) hl hs HQ.out hu).mono (fun e w' h => (⟨h.1, h.2.symm⟩ : e = .returned (.int .i64 (stock - used st.gs sku.data.toList)) ∧ w' = wa.drewN n)))
    generalize stock - used st.gs sku.data.toList = z at HF HLQ
    go_enter Tryd.func38, Tryd.ntmps38
    go_wp2_with fail
    go_quiet ((go_at_call 44; exact Calls.quiet_of_same (HLQ.out _)))
    go_wp2_with fail
    go_ret
    exact ⟨by rw [HF.out]; rfl, below_drewN HB.out _⟩
  · have HF := Lib.hid (show doneB 2 stock limit st ⟨to, o, d, sku.data.toList, qty, amt, cd⟩ = decide (qty ≤ limit) from rfl)
    go_enter Tryd.func38, Tryd.ntmps38
    go_wp2_with fail
    go_quiet (fail)
    go_wp2_with fail
    go_ret
    exact ⟨by rw [HF.out]; rfl, below_drewN HB.out _⟩
theorem refNew_any (w : World) (kind stock limit : Int) (hk : 0 ≤ kind ∧ kind ≤ 2) : Calls Tryd.prog 11 #[.int .i64 kind, .int .i64 stock, .int .i64 limit] w fun e w' => e = .returned (.pointer (some ⟨w.heap.size, 0, none⟩)) ∧ RP w' w.heap.size w.heap.size kind (min (max stock 0) 1000000000) limit 0 (.slice none 0 0) (.slice none 0 0) [] [] ∧ Below w.heap.size w w' := by
  obtain ⟨k0, k2⟩ := hk
  obtain ⟨S, hS⟩ : ∃ S, min (max stock 0) 1000000000 = S := ⟨_, rfl⟩
  by_cases h0 : stock < 0
  · have hS' : S = 0 := by omega
    go_enter Tryd.func11, Tryd.ntmps11
    go_wp2_with fail
    go_ret
    simp only [hS', hS]
    exact ⟨rfl, ⟨heap_new w _, World.ownsRow_nil _ _ _ _, World.ownsRow_nil _ _ _ _, Nat.le_refl _⟩, below_alloc w _⟩
  · have hS' : min stock 1000000000 = S := by omega
    go_enter Tryd.func11, Tryd.ntmps11
    go_wp2_with fail
    go_ret
    exact ⟨rfl, ⟨heap_new w _, World.ownsRow_nil _ _ _ _, World.ownsRow_nil _ _ _ _, Nat.le_refl _⟩, below_alloc w _⟩
theorem refNew_no (w : World) (kind stock limit : Int) (hk : ¬ (0 ≤ kind ∧ kind ≤ 2)) : Calls Tryd.prog 11 #[.int .i64 kind, .int .i64 stock, .int .i64 limit] w fun e w' => e = .returned (.pointer none) ∧ w = w' := by
  by_cases h : kind < 0
  · go_enter Tryd.func11, Tryd.ntmps11
    go_wp2_with fail
    go_ret
    exact ⟨rfl, rfl⟩
  · have h2 : 2 < kind := by omega
    go_enter Tryd.func11, Tryd.ntmps11
    go_wp2_with fail
    go_ret
    exact ⟨rfl, rfl⟩
end Go.Proofs.YtkmpagijdhhinaaDoor
/- The document's party: Ask, where nothing turns; Statement. -/
namespace Go.Proofs.YtkmpagijdhhinaaDoor
open Go.RowKit Go.Maps Key Od Pa

set_option linter.unusedSimpArgs false in
set_option linter.unusedVariables false in
set_option maxRecDepth 100000 in
set_option maxHeartbeats 4000000 in
theorem refAskNo (w : World) (B r : Nat) (kind stock limit seq : Int) (vl vg : Value) (L : List R5) (G : List G3) (to o d : Int) (sku : ByteArray) (qty amt cd : Int) (h : RP w B r kind stock limit seq vl vg L G) (hs : sku.size ≤ 1000000000000) (hd : Mon.InR d) (hm : mayB to o d sku.data.toList qty amt cd = false) :
    Calls Tryd.prog 14 #[.pointer (some ⟨r, 0, none⟩), .agg #[.int .i64 to, .int .i64 o, .int .i64 d, .string sku, .int .i64 qty, .int .i64 amt, .int .i64 cd]] w fun e w' => e = .returned (.tuple #[ansM o d none, .bool false]) ∧ Below w.heap.size w w' := by
  have HM := Lib.hid (heap_keep (heap_new w (.cells #[.int .i64 to, .int .i64 o, .int .i64 d, .string sku, .int .i64 qty, .int .i64 amt, .int .i64 cd] tMsg)) (below_alloc _ (.cells #[.int .i64 0, .int .i64 0, .int .i64 0, .string ⟨#[]⟩, .int .i64 0, .int .i64 0, .int .i64 0] tMsg)))
  have hz := heap_new (w.alloc (.cells #[.int .i64 to, .int .i64 o, .int .i64 d, .string sku, .int .i64 qty, .int .i64 amt, .int .i64 cd] tMsg)) (.cells #[.int .i64 0, .int .i64 0, .int .i64 0, .string ⟨#[]⟩, .int .i64 0, .int .i64 0, .int .i64 0] tMsg)
  rw [show (w.alloc (.cells #[.int .i64 to, .int .i64 o, .int .i64 d, .string sku, .int .i64 qty, .int .i64 amt, .int .i64 cd] tMsg)).heap.size = w.heap.size + 1 by simp] at hz
  have HZ := Lib.hid hz
  have HB := Lib.hid ((below_alloc w (.cells #[.int .i64 to, .int .i64 o, .int .i64 d, .string sku, .int .i64 qty, .int .i64 amt, .int .i64 cd] tMsg)).alloc (by simp) (.cells #[.int .i64 0, .int .i64 0, .int .i64 0, .string ⟨#[]⟩, .int .i64 0, .int .i64 0, .int .i64 0] tMsg))
  have HP := Lib.hid (h.below HB.out)
  have HH := Lib.hid HP.out.hd
  have HMay := Lib.hid (fun W => (refMay_any W to o d sku qty amt cd hs hd).mono (fun e w' h => (⟨h.1.trans (by rw [hm]), h.2⟩ : e = .returned (.bool false) ∧ Below W.heap.size W w')))
  have hB1 : w.heap.size + 1 < ((w.alloc (.cells #[.int .i64 to, .int .i64 o, .int .i64 d, .string sku, .int .i64 qty, .int .i64 amt, .int .i64 cd] tMsg)).alloc (.cells #[.int .i64 0, .int .i64 0, .int .i64 0, .string ⟨#[]⟩, .int .i64 0, .int .i64 0, .int .i64 0] tMsg)).heap.size := by simp
  have hB2 := heap_lt h.hd
  clear hz h hm
  go_enter Tryd.func14, Tryd.ntmps14
  go_wp2_with fail
  generalize (w.alloc (.cells #[.int .i64 to, .int .i64 o, .int .i64 d, .string sku, .int .i64 qty, .int .i64 amt, .int .i64 cd] tMsg)).alloc (.cells #[.int .i64 0, .int .i64 0, .int .i64 0, .string ⟨#[]⟩, .int .i64 0, .int .i64 0, .int .i64 0] tMsg) = wb at HM HZ HB HP HH hB1 ⊢
  refine wp_region_noPanic ?_
  refine wp_region_held_drew (S := (fun w' => Hid (Below wb.heap.size wb w') ∧ w'.cell? ⟨w.heap.size, 0, none⟩ = some (.int .i64 to) ∧ w'.cell? ⟨w.heap.size, 1, none⟩ = some (.int .i64 o) ∧ w'.cell? ⟨w.heap.size, 2, none⟩ = some (.int .i64 d) ∧ w'.cell? ⟨w.heap.size, 3, none⟩ = some (.string sku) ∧ w'.cell? ⟨w.heap.size, 4, none⟩ = some (.int .i64 qty) ∧ w'.cell? ⟨w.heap.size, 5, none⟩ = some (.int .i64 amt) ∧ w'.cell? ⟨w.heap.size, 6, none⟩ = some (.int .i64 cd) ∧ w'.cell? ⟨r, 0, none⟩ = some (.int .i64 kind))) (by kernel_rfl) ⟨(below_drew1 (Below.refl _ wb)), cell_at ((((below_drew1 (Below.refl _ wb))).block _ (heap_lt HM.out)).trans HM.out) 0 rfl, cell_at ((((below_drew1 (Below.refl _ wb))).block _ (heap_lt HM.out)).trans HM.out) 1 rfl, cell_at ((((below_drew1 (Below.refl _ wb))).block _ (heap_lt HM.out)).trans HM.out) 2 rfl, cell_at ((((below_drew1 (Below.refl _ wb))).block _ (heap_lt HM.out)).trans HM.out) 3 rfl, cell_at ((((below_drew1 (Below.refl _ wb))).block _ (heap_lt HM.out)).trans HM.out) 4 rfl, cell_at ((((below_drew1 (Below.refl _ wb))).block _ (heap_lt HM.out)).trans HM.out) 5 rfl, cell_at ((((below_drew1 (Below.refl _ wb))).block _ (heap_lt HM.out)).trans HM.out) 6 rfl, cell_at ((((below_drew1 (Below.refl _ wb))).block _ (heap_lt HH.out)).trans HH.out) 0 rfl⟩ (fun hHeld => ?_)
  refine wpAnyH_take (i := 0) (v := ?vr0) rfl (by kernel_rfl) (by kernel_rfl) (by kernel_rfl) (fun _ _ _ h => h) (Or.inl ⟨by rfl, ?hyr0⟩) (by assumption) ?restr0
  case hyr0 => (intro w0 hSw; (try dsimp only at hSw); go_simp; try with_reducible rfl)
  case' restr0 => try simp only [Act.put, List.getElem_toArray, List.getElem_cons_zero, List.getElem_cons_succ, List.setIfInBounds_toArray, List.set_cons_zero, List.set_cons_succ]
  refine wpAnyH_ready (rs := [1]) (by kernel_rfl) (by simp) ?_
  refine AllReadyH.cons rfl (fun K hK => ?_) AllReadyH.nil
  go_simp
  refine (HMay.out _).mono ?_; rintro e w1 ⟨rfl, hb⟩
  have hbk := bch (Hid.out (And.left (by assumption))) hb (Below.size (Hid.out (And.left (by assumption))))
  refine hK.out _ _ ⟨hbk, cell_at (((hbk).block _ (heap_lt HM.out)).trans HM.out) 0 rfl, cell_at (((hbk).block _ (heap_lt HM.out)).trans HM.out) 1 rfl, cell_at (((hbk).block _ (heap_lt HM.out)).trans HM.out) 2 rfl, cell_at (((hbk).block _ (heap_lt HM.out)).trans HM.out) 3 rfl, cell_at (((hbk).block _ (heap_lt HM.out)).trans HM.out) 4 rfl, cell_at (((hbk).block _ (heap_lt HM.out)).trans HM.out) 5 rfl, cell_at (((hbk).block _ (heap_lt HM.out)).trans HM.out) 6 rfl, cell_at (((hbk).block _ (heap_lt HH.out)).trans HH.out) 0 rfl⟩ (fun hHeld => ?_)
  clear hK K hb hbk
  try simp only [Act.put, List.getElem_toArray, List.getElem_cons_zero, List.getElem_cons_succ, List.setIfInBounds_toArray, List.set_cons_zero, List.set_cons_succ]
  refine wpAnyH_take (i := 2) (v := ?vr2) rfl (by kernel_rfl) (by kernel_rfl) (by kernel_rfl) (fun _ _ _ h => h) (Or.inl ⟨by rfl, ?hyr2⟩) (by assumption) ?restr2
  case hyr2 => (intro w0 hSw; (try dsimp only at hSw); go_simp; try with_reducible rfl)
  case' restr2 => try simp only [Act.put, List.getElem_toArray, List.getElem_cons_zero, List.getElem_cons_succ, List.setIfInBounds_toArray, List.set_cons_zero, List.set_cons_succ]
  refine wpAnyH_take (i := 3) (v := ?vr3) rfl (by kernel_rfl) (by kernel_rfl) (by kernel_rfl) (fun _ _ _ h => h) (Or.inl ⟨by rfl, ?hyr3⟩) (by assumption) ?restr3
  case hyr3 => (intro w0 hSw; (try dsimp only at hSw); go_simp; try with_reducible rfl)
  case' restr3 => try simp only [Act.put, List.getElem_toArray, List.getElem_cons_zero, List.getElem_cons_succ, List.setIfInBounds_toArray, List.set_cons_zero, List.set_cons_succ]
  refine wpAnyH_take (i := 4) (v := undef) rfl (by kernel_rfl) (by kernel_rfl) (by kernel_rfl) (fun _ _ _ h => h) (Or.inr ⟨by rfl, rfl⟩) (by assumption) ?_
  try simp only [Act.put, List.getElem_toArray, List.getElem_cons_zero, List.getElem_cons_succ, List.setIfInBounds_toArray, List.set_cons_zero, List.set_cons_succ]
  refine wpAnyH_take (i := 5) (v := undef) rfl (by kernel_rfl) (by kernel_rfl) (by kernel_rfl) (fun _ _ _ h => h) (Or.inr ⟨by rfl, rfl⟩) (by assumption) ?_
  try simp only [Act.put, List.getElem_toArray, List.getElem_cons_zero, List.getElem_cons_succ, List.setIfInBounds_toArray, List.set_cons_zero, List.set_cons_succ]
  refine wpAnyH_take (i := 6) (v := undef) rfl (by kernel_rfl) (by kernel_rfl) (by kernel_rfl) (fun _ _ _ h => h) (Or.inr ⟨by rfl, rfl⟩) (by assumption) ?_
  try simp only [Act.put, List.getElem_toArray, List.getElem_cons_zero, List.getElem_cons_succ, List.setIfInBounds_toArray, List.set_cons_zero, List.set_cons_succ]
  refine wpAnyH_take (i := 7) (v := undef) rfl (by kernel_rfl) (by kernel_rfl) (by kernel_rfl) (fun _ _ _ h => h) (Or.inr ⟨by rfl, rfl⟩) (by assumption) ?_
  try simp only [Act.put, List.getElem_toArray, List.getElem_cons_zero, List.getElem_cons_succ, List.setIfInBounds_toArray, List.set_cons_zero, List.set_cons_succ]
  refine wpAnyH_take (i := 8) (v := undef) rfl (by kernel_rfl) (by kernel_rfl) (by kernel_rfl) (fun _ _ _ h => h) (Or.inr ⟨by rfl, rfl⟩) (by assumption) ?_
  try simp only [Act.put, List.getElem_toArray, List.getElem_cons_zero, List.getElem_cons_succ, List.setIfInBounds_toArray, List.set_cons_zero, List.set_cons_succ]
  refine wpAnyH_take (i := 9) (v := undef) rfl (by kernel_rfl) (by kernel_rfl) (by kernel_rfl) (fun _ _ _ h => h) (Or.inr ⟨by rfl, rfl⟩) (by assumption) ?_
  try simp only [Act.put, List.getElem_toArray, List.getElem_cons_zero, List.getElem_cons_succ, List.setIfInBounds_toArray, List.set_cons_zero, List.set_cons_succ]
  refine wpAnyH_take (i := 10) (v := undef) rfl (by kernel_rfl) (by kernel_rfl) (by kernel_rfl) (fun _ _ _ h => h) (Or.inr ⟨by rfl, rfl⟩) (by assumption) ?_
  try simp only [Act.put, List.getElem_toArray, List.getElem_cons_zero, List.getElem_cons_succ, List.setIfInBounds_toArray, List.set_cons_zero, List.set_cons_succ]
  refine wpAnyH_take (i := 11) (v := ?vr11) rfl (by kernel_rfl) (by kernel_rfl) (by kernel_rfl) (fun _ _ _ h => h) (Or.inl ⟨by rfl, ?hyr11⟩) (by assumption) ?restr11
  case hyr11 => (intro w0 hSw; (try dsimp only at hSw); go_simp; try with_reducible rfl)
  case' restr11 => try simp only [Act.put, List.getElem_toArray, List.getElem_cons_zero, List.getElem_cons_succ, List.setIfInBounds_toArray, List.set_cons_zero, List.set_cons_succ]
  refine wpAnyH_done (by kernel_rfl) ?_ _
  refine NoPanic.normal ?_
  have HX := Lib.hid (show Below wb.heap.size wb w1 from Hid.out hHeld.1)
  clear hHeld
  have HM1 := Lib.hid (heap_keep HM.out HX.out)
  have HZ1 := Lib.hid (heap_keep HZ.out HX.out)
  have HP1 := Lib.hid (HP.out.below HX.out)
  have HB1 := Lib.hid (bch HB.out HX.out HB.out.size)
  have hB3 : w.heap.size + 1 < w1.heap.size := heap_lt HZ1.out
  clear HM HZ HP HB HX HMay HH hB1
  obtain ⟨z0, z1, z2, z3, z4, z5, z6⟩ := cell7 HZ1.out
  obtain ⟨f0, f1, f2, f3, f4, f5, f6⟩ := froz7 HZ1.out
  go_wp2_with fail
  have HTu := turned_set7 w1 (w.heap.size + 1) (.int .i64 0) (.int .i64 0) (.int .i64 0) (.string ⟨#[]⟩) (.int .i64 0) (.int .i64 0) (.int .i64 0)
  have HSET := set7 HZ1.out (.int .i64 0) (.int .i64 0) (.int .i64 0) (.string ⟨#[]⟩) (.int .i64 0) (.int .i64 0) (.int .i64 0)
  unfold set7w at HSET
  obtain ⟨y0, y1, y2, y3, y4, y5, y6⟩ := cell7 HSET
  refine bodyPost_ret (v := .tuple #[.agg #[.int .i64 0, .int .i64 0, .int .i64 0, .string ⟨#[]⟩, .int .i64 0, .int .i64 0, .int .i64 0], .bool false]) ?_ rfl ⟨?_, ?_⟩
  · clear HTu HSET
    simp [results, Tryd.results14, go_sem, y0, y1, y2, y3, y4, y5, y6]
  · exact rfl
  · exact Below.turned HB1.out HTu (fun i hi => by omega) HB1.out.size
set_option linter.unusedSimpArgs false in
set_option linter.unusedVariables false in
set_option maxRecDepth 100000 in
set_option maxHeartbeats 4000000 in
theorem refAskTo (w : World) (B r : Nat) (kind stock limit seq : Int) (vl vg : Value) (L : List R5) (G : List G3) (to o d : Int) (sku : ByteArray) (qty amt cd : Int) (h : RP w B r kind stock limit seq vl vg L G) (hs : sku.size ≤ 1000000000000) (hd : Mon.InR d) (hm : mayB to o d sku.data.toList qty amt cd = true) (ht : to ≠ kind) :
    Calls Tryd.prog 14 #[.pointer (some ⟨r, 0, none⟩), .agg #[.int .i64 to, .int .i64 o, .int .i64 d, .string sku, .int .i64 qty, .int .i64 amt, .int .i64 cd]] w fun e w' => e = .returned (.tuple #[ansM o d none, .bool false]) ∧ Below w.heap.size w w' := by
  have hb := bneT ht
  clear ht
  have HM := Lib.hid (heap_keep (heap_new w (.cells #[.int .i64 to, .int .i64 o, .int .i64 d, .string sku, .int .i64 qty, .int .i64 amt, .int .i64 cd] tMsg)) (below_alloc _ (.cells #[.int .i64 0, .int .i64 0, .int .i64 0, .string ⟨#[]⟩, .int .i64 0, .int .i64 0, .int .i64 0] tMsg)))
  have hz := heap_new (w.alloc (.cells #[.int .i64 to, .int .i64 o, .int .i64 d, .string sku, .int .i64 qty, .int .i64 amt, .int .i64 cd] tMsg)) (.cells #[.int .i64 0, .int .i64 0, .int .i64 0, .string ⟨#[]⟩, .int .i64 0, .int .i64 0, .int .i64 0] tMsg)
  rw [show (w.alloc (.cells #[.int .i64 to, .int .i64 o, .int .i64 d, .string sku, .int .i64 qty, .int .i64 amt, .int .i64 cd] tMsg)).heap.size = w.heap.size + 1 by simp] at hz
  have HZ := Lib.hid hz
  have HB := Lib.hid ((below_alloc w (.cells #[.int .i64 to, .int .i64 o, .int .i64 d, .string sku, .int .i64 qty, .int .i64 amt, .int .i64 cd] tMsg)).alloc (by simp) (.cells #[.int .i64 0, .int .i64 0, .int .i64 0, .string ⟨#[]⟩, .int .i64 0, .int .i64 0, .int .i64 0] tMsg))
  have HP := Lib.hid (h.below HB.out)
  have HH := Lib.hid HP.out.hd
  have HMay := Lib.hid (fun W => (refMay_any W to o d sku qty amt cd hs hd).mono (fun e w' h => (⟨h.1.trans (by rw [hm]), h.2⟩ : e = .returned (.bool true) ∧ Below W.heap.size W w')))
  have hB1 : w.heap.size + 1 < ((w.alloc (.cells #[.int .i64 to, .int .i64 o, .int .i64 d, .string sku, .int .i64 qty, .int .i64 amt, .int .i64 cd] tMsg)).alloc (.cells #[.int .i64 0, .int .i64 0, .int .i64 0, .string ⟨#[]⟩, .int .i64 0, .int .i64 0, .int .i64 0] tMsg)).heap.size := by simp
  have hB2 := heap_lt h.hd
  clear hz h hm
  go_enter Tryd.func14, Tryd.ntmps14
  go_wp2_with fail
  generalize (w.alloc (.cells #[.int .i64 to, .int .i64 o, .int .i64 d, .string sku, .int .i64 qty, .int .i64 amt, .int .i64 cd] tMsg)).alloc (.cells #[.int .i64 0, .int .i64 0, .int .i64 0, .string ⟨#[]⟩, .int .i64 0, .int .i64 0, .int .i64 0] tMsg) = wb at HM HZ HB HP HH hB1 ⊢
  refine wp_region_noPanic ?_
  refine wp_region_held_drew (S := (fun w' => Hid (Below wb.heap.size wb w') ∧ w'.cell? ⟨w.heap.size, 0, none⟩ = some (.int .i64 to) ∧ w'.cell? ⟨w.heap.size, 1, none⟩ = some (.int .i64 o) ∧ w'.cell? ⟨w.heap.size, 2, none⟩ = some (.int .i64 d) ∧ w'.cell? ⟨w.heap.size, 3, none⟩ = some (.string sku) ∧ w'.cell? ⟨w.heap.size, 4, none⟩ = some (.int .i64 qty) ∧ w'.cell? ⟨w.heap.size, 5, none⟩ = some (.int .i64 amt) ∧ w'.cell? ⟨w.heap.size, 6, none⟩ = some (.int .i64 cd) ∧ w'.cell? ⟨r, 0, none⟩ = some (.int .i64 kind))) (by kernel_rfl) ⟨(below_drew1 (Below.refl _ wb)), cell_at ((((below_drew1 (Below.refl _ wb))).block _ (heap_lt HM.out)).trans HM.out) 0 rfl, cell_at ((((below_drew1 (Below.refl _ wb))).block _ (heap_lt HM.out)).trans HM.out) 1 rfl, cell_at ((((below_drew1 (Below.refl _ wb))).block _ (heap_lt HM.out)).trans HM.out) 2 rfl, cell_at ((((below_drew1 (Below.refl _ wb))).block _ (heap_lt HM.out)).trans HM.out) 3 rfl, cell_at ((((below_drew1 (Below.refl _ wb))).block _ (heap_lt HM.out)).trans HM.out) 4 rfl, cell_at ((((below_drew1 (Below.refl _ wb))).block _ (heap_lt HM.out)).trans HM.out) 5 rfl, cell_at ((((below_drew1 (Below.refl _ wb))).block _ (heap_lt HM.out)).trans HM.out) 6 rfl, cell_at ((((below_drew1 (Below.refl _ wb))).block _ (heap_lt HH.out)).trans HH.out) 0 rfl⟩ (fun hHeld => ?_)
  refine wpAnyH_take (i := 0) (v := ?vr0) rfl (by kernel_rfl) (by kernel_rfl) (by kernel_rfl) (fun _ _ _ h => h) (Or.inl ⟨by rfl, ?hyr0⟩) (by assumption) ?restr0
  case hyr0 => (intro w0 hSw; (try dsimp only at hSw); go_simp; try with_reducible rfl)
  case' restr0 => try simp only [Act.put, List.getElem_toArray, List.getElem_cons_zero, List.getElem_cons_succ, List.setIfInBounds_toArray, List.set_cons_zero, List.set_cons_succ]
  refine wpAnyH_ready (rs := [1]) (by kernel_rfl) (by simp) ?_
  refine AllReadyH.cons rfl (fun K hK => ?_) AllReadyH.nil
  go_simp
  refine (HMay.out _).mono ?_; rintro e w1 ⟨rfl, hb⟩
  have hbk := bch (Hid.out (And.left (by assumption))) hb (Below.size (Hid.out (And.left (by assumption))))
  refine hK.out _ _ ⟨hbk, cell_at (((hbk).block _ (heap_lt HM.out)).trans HM.out) 0 rfl, cell_at (((hbk).block _ (heap_lt HM.out)).trans HM.out) 1 rfl, cell_at (((hbk).block _ (heap_lt HM.out)).trans HM.out) 2 rfl, cell_at (((hbk).block _ (heap_lt HM.out)).trans HM.out) 3 rfl, cell_at (((hbk).block _ (heap_lt HM.out)).trans HM.out) 4 rfl, cell_at (((hbk).block _ (heap_lt HM.out)).trans HM.out) 5 rfl, cell_at (((hbk).block _ (heap_lt HM.out)).trans HM.out) 6 rfl, cell_at (((hbk).block _ (heap_lt HH.out)).trans HH.out) 0 rfl⟩ (fun hHeld => ?_)
  clear hK K hb hbk
  try simp only [Act.put, List.getElem_toArray, List.getElem_cons_zero, List.getElem_cons_succ, List.setIfInBounds_toArray, List.set_cons_zero, List.set_cons_succ]
  refine wpAnyH_take (i := 2) (v := ?vr2) rfl (by kernel_rfl) (by kernel_rfl) (by kernel_rfl) (fun _ _ _ h => h) (Or.inl ⟨by rfl, ?hyr2⟩) (by assumption) ?restr2
  case hyr2 => (intro w0 hSw; (try dsimp only at hSw); go_simp; try with_reducible rfl)
  case' restr2 => try simp only [Act.put, List.getElem_toArray, List.getElem_cons_zero, List.getElem_cons_succ, List.setIfInBounds_toArray, List.set_cons_zero, List.set_cons_succ]
  refine wpAnyH_take (i := 3) (v := ?vr3) rfl (by kernel_rfl) (by kernel_rfl) (by kernel_rfl) (fun _ _ _ h => h) (Or.inl ⟨by rfl, ?hyr3⟩) (by assumption) ?restr3
  case hyr3 => (intro w0 hSw; (try dsimp only at hSw); go_simp; try with_reducible rfl)
  case' restr3 => try simp only [Act.put, List.getElem_toArray, List.getElem_cons_zero, List.getElem_cons_succ, List.setIfInBounds_toArray, List.set_cons_zero, List.set_cons_succ]
  refine wpAnyH_take (i := 4) (v := ?vr4) rfl (by kernel_rfl) (by kernel_rfl) (by kernel_rfl) (fun _ _ _ h => h) (Or.inl ⟨by rfl, ?hyr4⟩) (by assumption) ?restr4
  case hyr4 => (intro w0 hSw; (try dsimp only at hSw); go_simp; try with_reducible rfl)
  case' restr4 => try simp only [Act.put, List.getElem_toArray, List.getElem_cons_zero, List.getElem_cons_succ, List.setIfInBounds_toArray, List.set_cons_zero, List.set_cons_succ]
  refine wpAnyH_take (i := 5) (v := ?vr5) rfl (by kernel_rfl) (by kernel_rfl) (by kernel_rfl) (fun _ _ _ h => h) (Or.inl ⟨by rfl, ?hyr5⟩) (by assumption) ?restr5
  case hyr5 => (intro w0 hSw; (try dsimp only at hSw); go_simp; try with_reducible rfl)
  case' restr5 => try simp only [Act.put, List.getElem_toArray, List.getElem_cons_zero, List.getElem_cons_succ, List.setIfInBounds_toArray, List.set_cons_zero, List.set_cons_succ]
  refine wpAnyH_take (i := 6) (v := ?vr6) rfl (by kernel_rfl) (by kernel_rfl) (by kernel_rfl) (fun _ _ _ h => h) (Or.inl ⟨by rfl, ?hyr6⟩) (by assumption) ?restr6
  case hyr6 => (intro w0 hSw; (try dsimp only at hSw); go_simp; try with_reducible rfl)
  case' restr6 => try simp only [Act.put, List.getElem_toArray, List.getElem_cons_zero, List.getElem_cons_succ, List.setIfInBounds_toArray, List.set_cons_zero, List.set_cons_succ]
  refine wpAnyH_take (i := 7) (v := ?vr7) rfl (by kernel_rfl) (by kernel_rfl) (by kernel_rfl) (fun _ _ _ h => h) (Or.inl ⟨by rfl, ?hyr7⟩) (by assumption) ?restr7
  case hyr7 => (intro w0 hSw; (try dsimp only at hSw); go_simp; try with_reducible rfl)
  case' restr7 => try simp only [Act.put, List.getElem_toArray, List.getElem_cons_zero, List.getElem_cons_succ, List.setIfInBounds_toArray, List.set_cons_zero, List.set_cons_succ]
  refine wpAnyH_take (i := 8) (v := ?vr8) rfl (by kernel_rfl) (by kernel_rfl) (by kernel_rfl) (fun _ _ _ h => h) (Or.inl ⟨by rfl, ?hyr8⟩) (by assumption) ?restr8
  case hyr8 => (intro w0 hSw; (try dsimp only at hSw); go_simp; try with_reducible rfl)
  case' restr8 => try simp only [Act.put, List.getElem_toArray, List.getElem_cons_zero, List.getElem_cons_succ, List.setIfInBounds_toArray, List.set_cons_zero, List.set_cons_succ]
  refine wpAnyH_take (i := 9) (v := ?vr9) rfl (by kernel_rfl) (by kernel_rfl) (by kernel_rfl) (fun _ _ _ h => h) (Or.inl ⟨by rfl, ?hyr9⟩) (by assumption) ?restr9
  case hyr9 => (intro w0 hSw; (try dsimp only at hSw); go_simp; try with_reducible rfl)
  case' restr9 => try simp only [Act.put, List.getElem_toArray, List.getElem_cons_zero, List.getElem_cons_succ, List.setIfInBounds_toArray, List.set_cons_zero, List.set_cons_succ]
  refine wpAnyH_take (i := 10) (v := ?vr10) rfl (by kernel_rfl) (by kernel_rfl) (by kernel_rfl) (fun _ _ _ h => h) (Or.inl ⟨by rfl, ?hyr10⟩) (by assumption) ?restr10
  case hyr10 => (intro w0 hSw; (try dsimp only at hSw); go_simp; try with_reducible rfl)
  case' restr10 => try simp only [Act.put, List.getElem_toArray, List.getElem_cons_zero, List.getElem_cons_succ, List.setIfInBounds_toArray, List.set_cons_zero, List.set_cons_succ]
  refine wpAnyH_take (i := 11) (v := ?vr11) rfl (by kernel_rfl) (by kernel_rfl) (by kernel_rfl) (fun _ _ _ h => h) (Or.inl ⟨by rfl, ?hyr11⟩) (by assumption) ?restr11
  case hyr11 => (intro w0 hSw; (try dsimp only at hSw); go_simp; try with_reducible rfl)
  case' restr11 => try simp only [Act.put, List.getElem_toArray, List.getElem_cons_zero, List.getElem_cons_succ, List.setIfInBounds_toArray, List.set_cons_zero, List.set_cons_succ]
  refine wpAnyH_done (by kernel_rfl) ?_ _
  refine NoPanic.normal ?_
  have HX := Lib.hid (show Below wb.heap.size wb w1 from Hid.out hHeld.1)
  clear hHeld
  have HM1 := Lib.hid (heap_keep HM.out HX.out)
  have HZ1 := Lib.hid (heap_keep HZ.out HX.out)
  have HP1 := Lib.hid (HP.out.below HX.out)
  have HB1 := Lib.hid (bch HB.out HX.out HB.out.size)
  have hB3 : w.heap.size + 1 < w1.heap.size := heap_lt HZ1.out
  clear HM HZ HP HB HX HMay HH hB1
  obtain ⟨z0, z1, z2, z3, z4, z5, z6⟩ := cell7 HZ1.out
  obtain ⟨f0, f1, f2, f3, f4, f5, f6⟩ := froz7 HZ1.out
  go_wp2_with fail
  have HTu := turned_set7 w1 (w.heap.size + 1) (.int .i64 0) (.int .i64 0) (.int .i64 0) (.string ⟨#[]⟩) (.int .i64 0) (.int .i64 0) (.int .i64 0)
  have HSET := set7 HZ1.out (.int .i64 0) (.int .i64 0) (.int .i64 0) (.string ⟨#[]⟩) (.int .i64 0) (.int .i64 0) (.int .i64 0)
  unfold set7w at HSET
  obtain ⟨y0, y1, y2, y3, y4, y5, y6⟩ := cell7 HSET
  refine bodyPost_ret (v := .tuple #[.agg #[.int .i64 0, .int .i64 0, .int .i64 0, .string ⟨#[]⟩, .int .i64 0, .int .i64 0, .int .i64 0], .bool false]) ?_ rfl ⟨?_, ?_⟩
  · clear HTu HSET
    simp [results, Tryd.results14, go_sem, y0, y1, y2, y3, y4, y5, y6]
  · exact rfl
  · exact Below.turned HB1.out HTu (fun i hi => by omega) HB1.out.size
set_option linter.unusedSimpArgs false in
set_option linter.unusedVariables false in
set_option maxRecDepth 100000 in
set_option maxHeartbeats 4000000 in
theorem refAskOld (w : World) (B r : Nat) (kind stock limit seq : Int) (vl vg : Value) (L : List R5) (G : List G3) (to o d : Int) (sku : ByteArray) (qty amt cd : Int) (h : RP w B r kind stock limit seq vl vg L G) (hs : sku.size ≤ 1000000000000) (hd : Mon.InR d) (hm : mayB to o d sku.data.toList qty amt cd = true) (ht : to = kind) (hl : L.length < 100000) (x : R5) (hf : findR L (o, d) = some x) :
    Calls Tryd.prog 14 #[.pointer (some ⟨r, 0, none⟩), .agg #[.int .i64 to, .int .i64 o, .int .i64 d, .string sku, .int .i64 qty, .int .i64 amt, .int .i64 cd]] w fun e w' => e = .returned (.tuple #[ansM o d (some x.2.1), .bool true]) ∧ Below w.heap.size w w' := by
  have hb : (to != kind) = false := by rw [ht]; simp
  clear ht
  have HF := Lib.hid hf
  clear hf
  have HM := Lib.hid (heap_keep (heap_new w (.cells #[.int .i64 to, .int .i64 o, .int .i64 d, .string sku, .int .i64 qty, .int .i64 amt, .int .i64 cd] tMsg)) (below_alloc _ (.cells #[.int .i64 0, .int .i64 0, .int .i64 0, .string ⟨#[]⟩, .int .i64 0, .int .i64 0, .int .i64 0] tMsg)))
  have hz := heap_new (w.alloc (.cells #[.int .i64 to, .int .i64 o, .int .i64 d, .string sku, .int .i64 qty, .int .i64 amt, .int .i64 cd] tMsg)) (.cells #[.int .i64 0, .int .i64 0, .int .i64 0, .string ⟨#[]⟩, .int .i64 0, .int .i64 0, .int .i64 0] tMsg)
  rw [show (w.alloc (.cells #[.int .i64 to, .int .i64 o, .int .i64 d, .string sku, .int .i64 qty, .int .i64 amt, .int .i64 cd] tMsg)).heap.size = w.heap.size + 1 by simp] at hz
  have HZ := Lib.hid hz
  have HB := Lib.hid ((below_alloc w (.cells #[.int .i64 to, .int .i64 o, .int .i64 d, .string sku, .int .i64 qty, .int .i64 amt, .int .i64 cd] tMsg)).alloc (by simp) (.cells #[.int .i64 0, .int .i64 0, .int .i64 0, .string ⟨#[]⟩, .int .i64 0, .int .i64 0, .int .i64 0] tMsg))
  have HP := Lib.hid (h.below HB.out)
  have HH := Lib.hid HP.out.hd
  have HMay := Lib.hid (fun W => (refMay_any W to o d sku qty amt cd hs hd).mono (fun e w' h => (⟨h.1.trans (by rw [hm]), h.2⟩ : e = .returned (.bool true) ∧ Below W.heap.size W w')))
  have hB1 : w.heap.size + 1 < ((w.alloc (.cells #[.int .i64 to, .int .i64 o, .int .i64 d, .string sku, .int .i64 qty, .int .i64 amt, .int .i64 cd] tMsg)).alloc (.cells #[.int .i64 0, .int .i64 0, .int .i64 0, .string ⟨#[]⟩, .int .i64 0, .int .i64 0, .int .i64 0] tMsg)).heap.size := by simp
  have hB2 := heap_lt h.hd
  clear hz h hm
  go_enter Tryd.func14, Tryd.ntmps14
  go_wp2_with fail
  generalize (w.alloc (.cells #[.int .i64 to, .int .i64 o, .int .i64 d, .string sku, .int .i64 qty, .int .i64 amt, .int .i64 cd] tMsg)).alloc (.cells #[.int .i64 0, .int .i64 0, .int .i64 0, .string ⟨#[]⟩, .int .i64 0, .int .i64 0, .int .i64 0] tMsg) = wb at HM HZ HB HP HH hB1 ⊢
  refine wp_region_noPanic ?_
  refine wp_region_held_drew (S := (fun w' => Hid (Below wb.heap.size wb w') ∧ w'.cell? ⟨w.heap.size, 0, none⟩ = some (.int .i64 to) ∧ w'.cell? ⟨w.heap.size, 1, none⟩ = some (.int .i64 o) ∧ w'.cell? ⟨w.heap.size, 2, none⟩ = some (.int .i64 d) ∧ w'.cell? ⟨w.heap.size, 3, none⟩ = some (.string sku) ∧ w'.cell? ⟨w.heap.size, 4, none⟩ = some (.int .i64 qty) ∧ w'.cell? ⟨w.heap.size, 5, none⟩ = some (.int .i64 amt) ∧ w'.cell? ⟨w.heap.size, 6, none⟩ = some (.int .i64 cd) ∧ w'.cell? ⟨r, 0, none⟩ = some (.int .i64 kind))) (by kernel_rfl) ⟨(below_drew1 (Below.refl _ wb)), cell_at ((((below_drew1 (Below.refl _ wb))).block _ (heap_lt HM.out)).trans HM.out) 0 rfl, cell_at ((((below_drew1 (Below.refl _ wb))).block _ (heap_lt HM.out)).trans HM.out) 1 rfl, cell_at ((((below_drew1 (Below.refl _ wb))).block _ (heap_lt HM.out)).trans HM.out) 2 rfl, cell_at ((((below_drew1 (Below.refl _ wb))).block _ (heap_lt HM.out)).trans HM.out) 3 rfl, cell_at ((((below_drew1 (Below.refl _ wb))).block _ (heap_lt HM.out)).trans HM.out) 4 rfl, cell_at ((((below_drew1 (Below.refl _ wb))).block _ (heap_lt HM.out)).trans HM.out) 5 rfl, cell_at ((((below_drew1 (Below.refl _ wb))).block _ (heap_lt HM.out)).trans HM.out) 6 rfl, cell_at ((((below_drew1 (Below.refl _ wb))).block _ (heap_lt HH.out)).trans HH.out) 0 rfl⟩ (fun hHeld => ?_)
  refine wpAnyH_take (i := 0) (v := ?vr0) rfl (by kernel_rfl) (by kernel_rfl) (by kernel_rfl) (fun _ _ _ h => h) (Or.inl ⟨by rfl, ?hyr0⟩) (by assumption) ?restr0
  case hyr0 => (intro w0 hSw; (try dsimp only at hSw); go_simp; try with_reducible rfl)
  case' restr0 => try simp only [Act.put, List.getElem_toArray, List.getElem_cons_zero, List.getElem_cons_succ, List.setIfInBounds_toArray, List.set_cons_zero, List.set_cons_succ]
  refine wpAnyH_ready (rs := [1]) (by kernel_rfl) (by simp) ?_
  refine AllReadyH.cons rfl (fun K hK => ?_) AllReadyH.nil
  go_simp
  refine (HMay.out _).mono ?_; rintro e w1 ⟨rfl, hb⟩
  have hbk := bch (Hid.out (And.left (by assumption))) hb (Below.size (Hid.out (And.left (by assumption))))
  refine hK.out _ _ ⟨hbk, cell_at (((hbk).block _ (heap_lt HM.out)).trans HM.out) 0 rfl, cell_at (((hbk).block _ (heap_lt HM.out)).trans HM.out) 1 rfl, cell_at (((hbk).block _ (heap_lt HM.out)).trans HM.out) 2 rfl, cell_at (((hbk).block _ (heap_lt HM.out)).trans HM.out) 3 rfl, cell_at (((hbk).block _ (heap_lt HM.out)).trans HM.out) 4 rfl, cell_at (((hbk).block _ (heap_lt HM.out)).trans HM.out) 5 rfl, cell_at (((hbk).block _ (heap_lt HM.out)).trans HM.out) 6 rfl, cell_at (((hbk).block _ (heap_lt HH.out)).trans HH.out) 0 rfl⟩ (fun hHeld => ?_)
  clear hK K hb hbk
  try simp only [Act.put, List.getElem_toArray, List.getElem_cons_zero, List.getElem_cons_succ, List.setIfInBounds_toArray, List.set_cons_zero, List.set_cons_succ]
  refine wpAnyH_take (i := 2) (v := ?vr2) rfl (by kernel_rfl) (by kernel_rfl) (by kernel_rfl) (fun _ _ _ h => h) (Or.inl ⟨by rfl, ?hyr2⟩) (by assumption) ?restr2
  case hyr2 => (intro w0 hSw; (try dsimp only at hSw); go_simp; try with_reducible rfl)
  case' restr2 => try simp only [Act.put, List.getElem_toArray, List.getElem_cons_zero, List.getElem_cons_succ, List.setIfInBounds_toArray, List.set_cons_zero, List.set_cons_succ]
  refine wpAnyH_take (i := 3) (v := ?vr3) rfl (by kernel_rfl) (by kernel_rfl) (by kernel_rfl) (fun _ _ _ h => h) (Or.inl ⟨by rfl, ?hyr3⟩) (by assumption) ?restr3
  case hyr3 => (intro w0 hSw; (try dsimp only at hSw); go_simp; try with_reducible rfl)
  case' restr3 => try simp only [Act.put, List.getElem_toArray, List.getElem_cons_zero, List.getElem_cons_succ, List.setIfInBounds_toArray, List.set_cons_zero, List.set_cons_succ]
  refine wpAnyH_take (i := 4) (v := ?vr4) rfl (by kernel_rfl) (by kernel_rfl) (by kernel_rfl) (fun _ _ _ h => h) (Or.inl ⟨by rfl, ?hyr4⟩) (by assumption) ?restr4
  case hyr4 => (intro w0 hSw; (try dsimp only at hSw); go_simp; try with_reducible rfl)
  case' restr4 => try simp only [Act.put, List.getElem_toArray, List.getElem_cons_zero, List.getElem_cons_succ, List.setIfInBounds_toArray, List.set_cons_zero, List.set_cons_succ]
  refine wpAnyH_take (i := 5) (v := ?vr5) rfl (by kernel_rfl) (by kernel_rfl) (by kernel_rfl) (fun _ _ _ h => h) (Or.inl ⟨by rfl, ?hyr5⟩) (by assumption) ?restr5
  case hyr5 => (intro w0 hSw; (try dsimp only at hSw); go_simp; try with_reducible rfl)
  case' restr5 => try simp only [Act.put, List.getElem_toArray, List.getElem_cons_zero, List.getElem_cons_succ, List.setIfInBounds_toArray, List.set_cons_zero, List.set_cons_succ]
  refine wpAnyH_take (i := 6) (v := ?vr6) rfl (by kernel_rfl) (by kernel_rfl) (by kernel_rfl) (fun _ _ _ h => h) (Or.inl ⟨by rfl, ?hyr6⟩) (by assumption) ?restr6
  case hyr6 => (intro w0 hSw; (try dsimp only at hSw); go_simp; try with_reducible rfl)
  case' restr6 => try simp only [Act.put, List.getElem_toArray, List.getElem_cons_zero, List.getElem_cons_succ, List.setIfInBounds_toArray, List.set_cons_zero, List.set_cons_succ]
  refine wpAnyH_take (i := 7) (v := ?vr7) rfl (by kernel_rfl) (by kernel_rfl) (by kernel_rfl) (fun _ _ _ h => h) (Or.inl ⟨by rfl, ?hyr7⟩) (by assumption) ?restr7
  case hyr7 => (intro w0 hSw; (try dsimp only at hSw); go_simp; try with_reducible rfl)
  case' restr7 => try simp only [Act.put, List.getElem_toArray, List.getElem_cons_zero, List.getElem_cons_succ, List.setIfInBounds_toArray, List.set_cons_zero, List.set_cons_succ]
  refine wpAnyH_take (i := 8) (v := ?vr8) rfl (by kernel_rfl) (by kernel_rfl) (by kernel_rfl) (fun _ _ _ h => h) (Or.inl ⟨by rfl, ?hyr8⟩) (by assumption) ?restr8
  case hyr8 => (intro w0 hSw; (try dsimp only at hSw); go_simp; try with_reducible rfl)
  case' restr8 => try simp only [Act.put, List.getElem_toArray, List.getElem_cons_zero, List.getElem_cons_succ, List.setIfInBounds_toArray, List.set_cons_zero, List.set_cons_succ]
  refine wpAnyH_take (i := 9) (v := ?vr9) rfl (by kernel_rfl) (by kernel_rfl) (by kernel_rfl) (fun _ _ _ h => h) (Or.inl ⟨by rfl, ?hyr9⟩) (by assumption) ?restr9
  case hyr9 => (intro w0 hSw; (try dsimp only at hSw); go_simp; try with_reducible rfl)
  case' restr9 => try simp only [Act.put, List.getElem_toArray, List.getElem_cons_zero, List.getElem_cons_succ, List.setIfInBounds_toArray, List.set_cons_zero, List.set_cons_succ]
  refine wpAnyH_take (i := 10) (v := ?vr10) rfl (by kernel_rfl) (by kernel_rfl) (by kernel_rfl) (fun _ _ _ h => h) (Or.inl ⟨by rfl, ?hyr10⟩) (by assumption) ?restr10
  case hyr10 => (intro w0 hSw; (try dsimp only at hSw); go_simp; try with_reducible rfl)
  case' restr10 => try simp only [Act.put, List.getElem_toArray, List.getElem_cons_zero, List.getElem_cons_succ, List.setIfInBounds_toArray, List.set_cons_zero, List.set_cons_succ]
  refine wpAnyH_take (i := 11) (v := ?vr11) rfl (by kernel_rfl) (by kernel_rfl) (by kernel_rfl) (fun _ _ _ h => h) (Or.inl ⟨by rfl, ?hyr11⟩) (by assumption) ?restr11
  case hyr11 => (intro w0 hSw; (try dsimp only at hSw); go_simp; try with_reducible rfl)
  case' restr11 => try simp only [Act.put, List.getElem_toArray, List.getElem_cons_zero, List.getElem_cons_succ, List.setIfInBounds_toArray, List.set_cons_zero, List.set_cons_succ]
  refine wpAnyH_done (by kernel_rfl) ?_ _
  refine NoPanic.normal ?_
  have HX := Lib.hid (show Below wb.heap.size wb w1 from Hid.out hHeld.1)
  clear hHeld
  have HM1 := Lib.hid (heap_keep HM.out HX.out)
  have HZ1 := Lib.hid (heap_keep HZ.out HX.out)
  have HP1 := Lib.hid (HP.out.below HX.out)
  have HB1 := Lib.hid (bch HB.out HX.out HB.out.size)
  have hB3 : w.heap.size + 1 < w1.heap.size := heap_lt HZ1.out
  clear HM HZ HP HB HX HMay HH hB1
  obtain ⟨m0, m1, m2, m3, m4, m5, m6⟩ := cell7 HM1.out
  go_wp2_with fail
  refine (refFind_any w1 B r kind stock limit seq vl vg L G o d HP1.out hl).mono ?_
  rintro e w2 ⟨rfl, hb2⟩
  rw [HF.out]
  unfold foundV
  have HB2 := Lib.hid (bch HB1.out hb2 HB1.out.size)
  have HM2 := Lib.hid (heap_keep (heap_keep HM1.out hb2) (below_alloc w2 (.cells #[.int .i64 x.1.1, .int .i64 x.1.2, .int .i64 x.2.1, .int .i64 x.2.2.1, .int .i64 x.2.2.2] tRow)))
  have HZ2 := Lib.hid (heap_keep (heap_keep HZ1.out hb2) (below_alloc w2 (.cells #[.int .i64 x.1.1, .int .i64 x.1.2, .int .i64 x.2.1, .int .i64 x.2.2.1, .int .i64 x.2.2.2] tRow)))
  have HR2 := Lib.hid (heap_new w2 (.cells #[.int .i64 x.1.1, .int .i64 x.1.2, .int .i64 x.2.1, .int .i64 x.2.2.1, .int .i64 x.2.2.2] tRow))
  have HB3 := Lib.hid (Below.alloc HB2.out HB2.out.size (.cells #[.int .i64 x.1.1, .int .i64 x.1.2, .int .i64 x.2.1, .int .i64 x.2.2.1, .int .i64 x.2.2.2] tRow))
  clear m0 m1 m2 m3 m4 m5 m6 hb2
  obtain ⟨m0, m1, m2, m3, m4, m5, m6⟩ := cell7 HM2.out
  obtain ⟨n0, n1, n2, n3, n4⟩ := cell5 HR2.out
  obtain ⟨z0, z1, z2, z3, z4, z5, z6⟩ := cell7 HZ2.out
  obtain ⟨f0, f1, f2, f3, f4, f5, f6⟩ := froz7 HZ2.out
  go_wp2_with fail
  all_goals
    have HTu := turned_set7 (w2.alloc (.cells #[.int .i64 x.1.1, .int .i64 x.1.2, .int .i64 x.2.1, .int .i64 x.2.2.1, .int .i64 x.2.2.2] tRow)) (w.heap.size + 1) (.int .i64 3) (.int .i64 o) (.int .i64 d) (.string ⟨#[]⟩) (.int .i64 0) (.int .i64 0) (.int .i64 x.2.1)
    have HSET := set7 HZ2.out (.int .i64 3) (.int .i64 o) (.int .i64 d) (.string ⟨#[]⟩) (.int .i64 0) (.int .i64 0) (.int .i64 x.2.1)
    unfold set7w at HSET
    obtain ⟨y0, y1, y2, y3, y4, y5, y6⟩ := cell7 HSET
    refine bodyPost_ret (v := .tuple #[.agg #[.int .i64 3, .int .i64 o, .int .i64 d, .string ⟨#[]⟩, .int .i64 0, .int .i64 0, .int .i64 x.2.1], .bool true]) ?_ rfl ⟨?_, ?_⟩
    · clear HTu HSET
      simp [results, Tryd.results14, go_sem, y0, y1, y2, y3, y4, y5, y6]
    · exact rfl
    · exact Below.turned HB3.out HTu (fun i hi => by omega) HB3.out.size
theorem RP.turn {w w' : World} {B r : Nat} {kind stock limit seq : Int} {vl vg : Value} {L : List R5} {G : List G3} (h : RP w B r kind stock limit seq vl vg L G) {S : Nat → Prop} (ht : Turned S w w') (h0 : ¬ S r) (h1 : ∀ j, vl.ownBlock = some j → ¬ S j) (h2 : ∀ j, vg.ownBlock = some j → ¬ S j) : RP w' B r kind stock limit seq vl vg L G :=
  ⟨(ht.block r (heap_lt h.hd) h0).trans h.hd, own_turned h.rl ht h1, own_turned h.rg ht h2, h.lo⟩
theorem RP.setS {w : World} {B r : Nat} {kind stock limit seq : Int} {vl vg : Value} {L : List R5} {G : List G3} (h : RP w B r kind stock limit seq vl vg L G) (n : Int) : RP (w.setCell ⟨r, 5, none⟩ (.int .i64 n)) B r kind stock limit n vl vg L G := by
  have hS : Turned (fun j => j = r) w (w.setCell ⟨r, 5, none⟩ (.int .i64 n)) := turned_set w r 5 _
  have hd := h.hd
  refine ⟨by simp [World.setCell, Array.getElem?_modify, hd], own_turned h.rl hS (fun j hj e => ?_), own_turned h.rg hS (fun j hj e => ?_), h.lo⟩
  · have := own_apart_blk h.rl h.hd (by decide) j hj; exact this e
  · have := own_apart_blk h.rg h.hd (by decide) j hj; exact this e
set_option linter.unusedSimpArgs false in
set_option linter.unusedVariables false in
set_option maxRecDepth 100000 in
set_option maxHeartbeats 4000000 in
theorem refStat_any (w : World) (B r : Nat) (kind stock limit seq : Int) (vl vg : Value) (L : List R5) (G : List G3) (h : RP w B r kind stock limit seq vl vg L G) (hl : L.length < 100000) (hB : B ≤ w.heap.size) (hsq : 0 ≤ seq ∧ seq < 100000) :
    Calls Tryd.prog 19 #[.pointer (some ⟨r, 0, none⟩)] w fun e w' => ∃ v, e = .returned (.agg #[.int .i64 kind, .int .i64 (seq + 1), v]) ∧ w'.ownsRow w.heap.size tRow 5 v L.length (L.flatMap encR) ∧ Turned (fun i => i = r) w w' ∧ RP w' B r kind stock limit (seq + 1) vl vg L G := by
  obtain ⟨i0, hi, hz0, hz1, hz2⟩ := info_parts row_info
  have hrlt := heap_lt h.hd
  obtain ⟨Al, cl, rfl, _⟩ := own_slice h.rl
  have hsz : (w.setCell ⟨r, 5, none⟩ (.int .i64 (seq + 1))).heap.size = w.heap.size := by simp
  have HZ := heap_new (w.setCell ⟨r, 5, none⟩ (.int .i64 (seq + 1))) (.cells #[.int .i64 0, .int .i64 0, .slice none 0 0] tStat)
  rw [hsz] at HZ
  have HZz := Lib.hid HZ
  have HPz := Lib.hid ((h.setS (seq + 1)).below (below_alloc _ (.cells #[.int .i64 0, .int .i64 0, .slice none 0 0] tStat)))
  have HTz := Lib.hid ((turned_set w r 5 (.int .i64 (seq + 1))).trans (Turned.of_below (below_alloc _ (.cells #[.int .i64 0, .int .i64 0, .slice none 0 0] tStat))))
  have hwz : ((w.setCell ⟨r, 5, none⟩ (.int .i64 (seq + 1))).alloc (.cells #[.int .i64 0, .int .i64 0, .slice none 0 0] tStat)).heap.size = w.heap.size + 1 := by simp
  have HP := Lib.hid (h.below (below_alloc w (.cells #[.int .i64 0, .int .i64 0, .slice none 0 0] tStat)))
  have hrlo := h.lo
  have HVL := Lib.hid (fun j hj => (h.rl.lt j hj).2)
  have HVG := Lib.hid (fun j hj => (h.rg.lt j hj).2)
  clear h HZ
  obtain ⟨p0, p1, p2, p3, p4, p5⟩ := cell6 HP.out.hd
  obtain ⟨g0, g1, g2, g3, g4, g5⟩ := froz6 HP.out.hd
  go_enter Tryd.func19, Tryd.ntmps19
  go_wp2_with fail
  clear p0 p1 p2 p3 p4 p5 g0 g1 g2 g3 g4 g5 HP
  generalize (w.setCell ⟨r, 5, none⟩ (.int .i64 (seq + 1))).alloc (.cells #[.int .i64 0, .int .i64 0, .slice none 0 0] tStat) = wz at HPz HTz HZz hwz ⊢
  have HH := Lib.hid (fun W (hb : Turned (fun j => w.heap.size + 1 ≤ j) wz W) => (⟨Lib.hid hb, cell_at ((hb.block _ (heap_lt HPz.out.hd) (fun e => by omega)).trans HPz.out.hd) 0 rfl, cell_at ((hb.block _ (heap_lt HPz.out.hd) (fun e => by omega)).trans HPz.out.hd) 3 rfl, cell_at ((hb.block _ (heap_lt HPz.out.hd) (fun e => by omega)).trans HPz.out.hd) 5 rfl⟩ : (fun w' => Hid (Turned (fun j => w.heap.size + 1 ≤ j) wz w') ∧ w'.cell? ⟨r, 0, none⟩ = some (.int .i64 kind) ∧ w'.cell? ⟨r, 3, none⟩ = some (.slice Al L.length cl) ∧ w'.cell? ⟨r, 5, none⟩ = some (.int .i64 (seq + 1))) W))
  refine wp_region_noPanic ?_
  refine wp_region_till 14 (fun _ => True) (fun w' => Hid (Turned (fun j => w.heap.size + 1 ≤ j) wz w') ∧ w'.cell? ⟨r, 0, none⟩ = some (.int .i64 kind) ∧ w'.cell? ⟨r, 3, none⟩ = some (.slice Al L.length cl) ∧ w'.cell? ⟨r, 5, none⟩ = some (.int .i64 (seq + 1))) (by kernel_rfl) (HH.out _ ((Turned.refl _ _).drew)) (fun hHeld => ?_)
  refine wpAnyT_go (i := 0) (v := ?vt0_1) rfl (by kernel_rfl) (by kernel_rfl) (by kernel_rfl) (fun _ _ _ h => h) (by kernel_rfl) (Or.inl ⟨by rfl, ?hyt0_1⟩) (by assumption) ?restt0_1
  case hyt0_1 => (intro w0 hSw; (try dsimp only at hSw); go_simp; try with_reducible rfl)
  case' restt0_1 => try simp only [Act.put, List.getElem_toArray, List.getElem_cons_zero, List.getElem_cons_succ, List.setIfInBounds_toArray, List.set_cons_zero, List.set_cons_succ]
  refine wpAnyT_go (i := 1) (v := ?vt1_2) rfl (by kernel_rfl) (by kernel_rfl) (by kernel_rfl) (fun _ _ _ h => h) (by kernel_rfl) (Or.inl ⟨by rfl, ?hyt1_2⟩) (by assumption) ?restt1_2
  case hyt1_2 => (intro w0 hSw; (try dsimp only at hSw); go_simp; try with_reducible rfl)
  case' restt1_2 => try simp only [Act.put, List.getElem_toArray, List.getElem_cons_zero, List.getElem_cons_succ, List.setIfInBounds_toArray, List.set_cons_zero, List.set_cons_succ]
  refine wpAnyT_go (i := 2) (v := ?vt2_3) rfl (by kernel_rfl) (by kernel_rfl) (by kernel_rfl) (fun _ _ _ h => h) (by kernel_rfl) (Or.inl ⟨by rfl, ?hyt2_3⟩) (by assumption) ?restt2_3
  case hyt2_3 => (intro w0 hSw; (try dsimp only at hSw); go_simp; try with_reducible rfl)
  case' restt2_3 => try simp only [Act.put, List.getElem_toArray, List.getElem_cons_zero, List.getElem_cons_succ, List.setIfInBounds_toArray, List.set_cons_zero, List.set_cons_succ]
  refine wpAnyT_go (i := 3) (v := ?vt3_4) rfl (by kernel_rfl) (by kernel_rfl) (by kernel_rfl) (fun _ _ _ h => h) (by kernel_rfl) (Or.inl ⟨by rfl, ?hyt3_4⟩) (by assumption) ?restt3_4
  case hyt3_4 => (intro w0 hSw; (try dsimp only at hSw); go_simp; try with_reducible rfl)
  case' restt3_4 => try simp only [Act.put, List.getElem_toArray, List.getElem_cons_zero, List.getElem_cons_succ, List.setIfInBounds_toArray, List.set_cons_zero, List.set_cons_succ]
  refine wpAnyT_go (i := 4) (v := ?vt4_5) rfl (by kernel_rfl) (by kernel_rfl) (by kernel_rfl) (fun _ _ _ h => h) (by kernel_rfl) (Or.inl ⟨by rfl, ?hyt4_5⟩) (by assumption) ?restt4_5
  case hyt4_5 => (intro w0 hSw; (try dsimp only at hSw); go_simp; try with_reducible rfl)
  case' restt4_5 => try simp only [Act.put, List.getElem_toArray, List.getElem_cons_zero, List.getElem_cons_succ, List.setIfInBounds_toArray, List.set_cons_zero, List.set_cons_succ]
  refine wpAnyT_go (i := 5) (v := ?vt5_6) rfl (by kernel_rfl) (by kernel_rfl) (by kernel_rfl) (fun _ _ _ h => h) (by kernel_rfl) (Or.inl ⟨by rfl, ?hyt5_6⟩) (by assumption) ?restt5_6
  case hyt5_6 => (intro w0 hSw; (try dsimp only at hSw); go_simp; try with_reducible rfl)
  case' restt5_6 => try simp only [Act.put, List.getElem_toArray, List.getElem_cons_zero, List.getElem_cons_succ, List.setIfInBounds_toArray, List.set_cons_zero, List.set_cons_succ]
  refine wpAnyT_go (i := 6) (v := ?vt6_7) rfl (by kernel_rfl) (by kernel_rfl) (by kernel_rfl) (fun _ _ _ h => h) (by kernel_rfl) (Or.inl ⟨by rfl, ?hyt6_7⟩) (by assumption) ?restt6_7
  case hyt6_7 => (intro w0 hSw; (try dsimp only at hSw); go_simp; try with_reducible rfl)
  case' restt6_7 => try simp only [Act.put, List.getElem_toArray, List.getElem_cons_zero, List.getElem_cons_succ, List.setIfInBounds_toArray, List.set_cons_zero, List.set_cons_succ]
  refine wpAnyT_go (i := 7) (v := ?vt7_8) rfl (by kernel_rfl) (by kernel_rfl) (by kernel_rfl) (fun _ _ _ h => h) (by kernel_rfl) (Or.inl ⟨by rfl, ?hyt7_8⟩) (by assumption) ?restt7_8
  case hyt7_8 => (intro w0 hSw; (try dsimp only at hSw); go_simp; try with_reducible rfl)
  case' restt7_8 => try simp only [Act.put, List.getElem_toArray, List.getElem_cons_zero, List.getElem_cons_succ, List.setIfInBounds_toArray, List.set_cons_zero, List.set_cons_succ]
  refine wpAnyT_go (i := 8) (v := ?vt8_9) rfl (by kernel_rfl) (by kernel_rfl) (by kernel_rfl) (fun _ _ _ h => h) (by kernel_rfl) (Or.inl ⟨by rfl, ?hyt8_9⟩) (by assumption) ?restt8_9
  case hyt8_9 => (intro w0 hSw; (try dsimp only at hSw); go_simp; try with_reducible rfl)
  case' restt8_9 => try simp only [Act.put, List.getElem_toArray, List.getElem_cons_zero, List.getElem_cons_succ, List.setIfInBounds_toArray, List.set_cons_zero, List.set_cons_succ]
  refine wpAnyT_go (i := 9) (v := ?vt9_10) rfl (by kernel_rfl) (by kernel_rfl) (by kernel_rfl) (fun _ _ _ h => h) (by kernel_rfl) (Or.inl ⟨by rfl, ?hyt9_10⟩) (by assumption) ?restt9_10
  case hyt9_10 => (intro w0 hSw; (try dsimp only at hSw); go_simp; try with_reducible rfl)
  case' restt9_10 => try simp only [Act.put, List.getElem_toArray, List.getElem_cons_zero, List.getElem_cons_succ, List.setIfInBounds_toArray, List.set_cons_zero, List.set_cons_succ]
  refine wpAnyT_go (i := 10) (v := ?vt10_11) rfl (by kernel_rfl) (by kernel_rfl) (by kernel_rfl) (fun _ _ _ h => h) (by kernel_rfl) (Or.inl ⟨by rfl, ?hyt10_11⟩) (by assumption) ?restt10_11
  case hyt10_11 => (intro w0 hSw; (try dsimp only at hSw); go_simp; try with_reducible rfl)
  case' restt10_11 => try simp only [Act.put, List.getElem_toArray, List.getElem_cons_zero, List.getElem_cons_succ, List.setIfInBounds_toArray, List.set_cons_zero, List.set_cons_succ]
  refine wpAnyT_go (i := 11) (v := ?vt11_12) rfl (by kernel_rfl) (by kernel_rfl) (by kernel_rfl) (fun _ _ _ h => h) (by kernel_rfl) (Or.inl ⟨by rfl, ?hyt11_12⟩) (by assumption) ?restt11_12
  case hyt11_12 => (intro w0 hSw; (try dsimp only at hSw); go_simp; try with_reducible rfl)
  case' restt11_12 => try simp only [Act.put, List.getElem_toArray, List.getElem_cons_zero, List.getElem_cons_succ, List.setIfInBounds_toArray, List.set_cons_zero, List.set_cons_succ]
  refine wpAnyT_ready (rs := [12]) (by kernel_rfl) (by simp) ?_
  refine AllReadyT.cons rfl (by kernel_rfl) (fun K hK => ?_) AllReadyT.nil
  refine step_append_any _ rfl (.const (.slice none 0 0)) (.tmp 27) tRows rfl wz.heap.size tRow i0 (mkRow ((0, 0), 0, 0, 0)) 5 40 Tryd.underlying38 hi hz0 hz1 hz2 rfl (by decide) (.slice none 0 0) 0 [] rfl (World.ownsRow_nil _ _ _ _) L.length (L.flatMap encR) (src_own encR_len (by omega) encR_one (HPz.out.below (below_drew1 (Below.refl _ _))).rl) (by unfold maxLen; omega) (by omega) (Nat.le_refl _) ?_
  intro v28 W28 ho28 hg28 _
  rw [Nat.zero_add, List.nil_append] at ho28
  obtain ⟨A28, c28, rfl, _⟩ := own_slice ho28
  have ht28 : Turned (fun j => w.heap.size + 1 ≤ j) wz W28 := (Turned.refl _ _).drew.trans (Turned.of_grown hg28 (fun j hj => by cases hj))
  refine hK.out _ _ (HH.out _ (ht28)) (fun hHeld => ?_)
  clear hK K
  try simp only [Act.put, List.getElem_toArray, List.getElem_cons_zero, List.getElem_cons_succ, List.setIfInBounds_toArray, List.set_cons_zero, List.set_cons_succ]
  refine wpAnyT_go (i := 13) (v := ?vt13_13) rfl (by kernel_rfl) (by kernel_rfl) (by kernel_rfl) (fun _ _ _ h => h) (by kernel_rfl) (Or.inl ⟨by rfl, ?hyt13_13⟩) (by assumption) ?restt13_13
  case hyt13_13 => (intro w0 hSw; (try dsimp only at hSw); go_simp; try with_reducible rfl)
  case' restt13_13 => try simp only [Act.put, List.getElem_toArray, List.getElem_cons_zero, List.getElem_cons_succ, List.setIfInBounds_toArray, List.set_cons_zero, List.set_cons_succ]
  have HZ28 := Lib.hid ((hg28.block _ (heap_lt HZz.out) (by simp [Value.ownBlock])).trans HZz.out)
  obtain ⟨z0, z1, z2⟩ := cell3c HZ28.out
  obtain ⟨f0, f1, f2⟩ := froz3 HZ28.out
  refine wpAnyT_ready (rs := [14]) (by kernel_rfl) (by simp) ?_
  refine AllReadyT.last rfl (by kernel_rfl) (fun K hK => ?_) AllReadyT.nil
  go_simp
  refine hK.out _ _ trivial (fun hHeld => ?_)
  clear hK K
  try simp only [Act.put, List.getElem_toArray, List.getElem_cons_zero, List.getElem_cons_succ, List.setIfInBounds_toArray, List.set_cons_zero, List.set_cons_succ]
  refine wpAnyT_done (by kernel_rfl) ?_ _
  refine NoPanic.normal ?_
  go_wp2_with fail
  all_goals
    have HSET := set3 HZ28.out (.int .i64 kind) (.int .i64 (seq + 1)) (.slice A28 L.length c28)
    have HT3 := turned_set3 W28 w.heap.size (.int .i64 kind) (.int .i64 (seq + 1)) (.slice A28 L.length c28)
    obtain ⟨y0, y1, y2⟩ := cell3c HSET
    refine bodyPost_ret (v := .agg #[.int .i64 kind, .int .i64 (seq + 1), .slice A28 L.length c28]) ?_ rfl ⟨_, rfl, ?_, ?_, ?_⟩
    · clear HSET HT3
      simp [results, Tryd.results19, go_sem, y0, y1, y2]
    · exact own_weak (own_turned ho28 HT3 (fun j hj e => by have := (ho28.lt j hj).1; omega)) (by omega)
    · exact Turned.far (Turned.refl _ w) (((HTz.out.mono (fun i hi => .inl hi)).trans (ht28.mono (fun i hi => .inr (by omega)))).trans (HT3.mono (fun i hi => .inr (by omega))))
    · exact (HPz.out.turn ht28 (by omega) (fun j hj => by have := HVL.out j hj; omega) (fun j hj => by have := HVG.out j hj; omega)).turn HT3 (by omega) (fun j hj => by have := HVL.out j hj; omega) (fun j hj => by have := HVG.out j hj; omega)
end Go.Proofs.YtkmpagijdhhinaaDoor
/- What stays where the document's party alone turns. -/
namespace Go.Proofs.YtkmpagijdhhinaaDoor
open Go.RowKit Go.Maps Key Od Pa

theorem HidB {w W : World} {b r : Nat} {o : Obj} (h : w.heap[b]? = some o) (ht : Turned (fun i => i = r) w W) (hn : b ≠ r) : W.heap[b]? = some o := (ht.block b (heap_lt h) hn).trans h
theorem HTb {w W W' : World} {r : Nat} (h : Turned (fun i => i = r ∨ w.heap.size ≤ i) w W) (hb : Below W.heap.size W W') : Turned (fun i => i = r ∨ w.heap.size ≤ i) w W' := h.trans (Turned.of_below hb)
theorem HTr {w W W' : World} {r : Nat} (h : Turned (fun i => i = r ∨ w.heap.size ≤ i) w W) (ht : Turned (fun i => i = r) W W') : Turned (fun i => i = r ∨ w.heap.size ≤ i) w W' := h.trans (ht.mono fun _ e => .inl e)
theorem HTs {w W W' : World} {r b : Nat} (h : Turned (fun i => i = r ∨ w.heap.size ≤ i) w W) (ht : Turned (fun i => i = b) W W') (hn : w.heap.size ≤ b) : Turned (fun i => i = r ∨ w.heap.size ≤ i) w W' := h.trans (ht.mono fun _ e => .inr (by omega))
theorem five_w (w : World) (b : Nat) (p0 p1 p2 p3 p4 : Value) : Turned (fun j => j = b) w (((((w.setCell ⟨b, 0, none⟩ p0).setCell ⟨b, 1, none⟩ p1).setCell ⟨b, 2, none⟩ p2).setCell ⟨b, 3, none⟩ p3).setCell ⟨b, 4, none⟩ p4) := turned_set5 w b p0 p1 p2 p3 p4
end Go.Proofs.YtkmpagijdhhinaaDoor

/- stock.Parse: what it computes. -/
import Derived.Test.YtgpjbigelblanaaGreatDoorStockOne
import Derived.Test.YtgpjbigelblanaaGreatDoorStockForm0
import Derived.Test.YtgpjbigelblanaaGreatDoorTurn
namespace Go.Proofs.YtgpjbigelblanaaGreatDoor
open Go.RowKit Go.Maps Key Mon Sk Rw

/-- The element of a slice. -/
theorem Sl.at {α : Type} {w W : World} {B : Nat} {R : Value → α → Prop} {A : Option Addr} {n c : Nat} {L : List α} (h : Sl w B R (.slice A n c) L) (hb : Below B w W) {k : Nat} {x : α} (hx : L[k]? = some x) : ∃ b o u, A = some ⟨b, o, none⟩ ∧ b < B ∧ W.cell? ⟨b, o + k, none⟩ = some u ∧ R u x := by
  obtain ⟨A', n', c', e, _, _, h⟩ := h
  injection e with e1 e2 e3
  subst e1
  obtain ⟨g, hg⟩ : ∃ g, L[0]? = some g := ⟨_, List.getElem?_eq_getElem (by have := (List.getElem?_eq_some_iff.1 hx).1; omega)⟩
  obtain ⟨ad0, u0, e0, _, hc0, _⟩ := h 0 g hg
  obtain ⟨ad, u, rfl, hlt, hc, hr⟩ := h k x hx
  injection e0 with e0
  subst e0
  have hk := (hb.cell (p := ad.add k) (by rw [block_add]; exact hlt)).trans hc
  rw [Addr.add_zero'] at hc0
  have hsp := World.cell?_spot hc0
  obtain ⟨b, o, sp⟩ := ad
  simp only [] at hsp
  subst hsp
  exact ⟨b, o, u, rfl, hlt, by rw [Addr.add_lit] at hk; exact hk, hr⟩
theorem Sl.shape {α : Type} {w : World} {B : Nat} {R : Value → α → Prop} {v : Value} {L : List α} (h : Sl w B R v L) : ∃ A c, v = .slice A L.length c := by
  obtain ⟨A', n', c', rfl, rfl, _, _⟩ := h
  exact ⟨_, _, rfl⟩
namespace Sk
/-- The sizes of what a text's rows are. -/
structure Small (L : List Line) : Prop where
  rows : L.length ≤ 65536
  full : ∀ r ∈ L, r ≠ []
  fields : ∀ r ∈ L, r.length ≤ 65536
  bytes : ∀ r ∈ L, ∀ f ∈ r, f.length ≤ 65536
theorem Small.nil : Small [] := ⟨by simp, by simp, by simp, by simp⟩
theorem csv_small (t : List UInt8) : Small (Csv.parse t).1 := by
  unfold Csv.parse
  by_cases hl : 65536 < t.length
  · rw [if_pos hl]; exact Small.nil
  · rw [if_neg hl]
    unfold Csv.parseOf
    cases hg : Csv.go t Csv.St.init 0 with
    | inr q => exact Small.nil
    | inl st =>
      simp only []
      by_cases hf : Csv.fin t st = 0
      · rw [if_pos hf]
        have hok := Csv.go_ok t Csv.St.init st 0 ⟨by simp [Csv.St.init], by simp [Csv.St.init, Csv.room, Csv.roomRow]⟩ hg
        have hm := hok.many
        have hr := Csv.room_len st.rows hok.full
        refine ⟨by show st.rows.length ≤ _; omega, hok.full, fun r hr => ?_, fun r hr f hf => ?_⟩
        · have h1 := Csv.room_mem st.rows r hr
          have h2 := Csv.roomRow_len r
          omega
        · have h1 := Csv.room_mem st.rows r hr
          have h2 := Csv.roomRow_mem r f hf
          omega
      · rw [if_neg hf]; exact Small.nil
theorem step0_ok {r : Line} {k : Nat} {q q' : Int} {l : List R5} (hk : k = 0) (h : first r = .inl q') : step k r ⟨q, l, false⟩ = .inl ⟨q', l, false⟩ := by unfold step; rw [if_neg (by simp), if_pos hk, h]
theorem step0_bad {r : Line} {k : Nat} {q : Int} {l : List R5} {x : Nat × Nat} (hk : k = 0) (h : first r = .inr x) : step k r ⟨q, l, false⟩ = .inr x := by unfold step; rw [if_neg (by simp), if_pos hk, h]
theorem stepE_ok {r : Line} {k : Nat} {q : Int} {l : List R5} (hk : ¬ k = 0) (he : r.head? = some wEnd) (h : last r l.length = none) : step k r ⟨q, l, false⟩ = .inl ⟨q, l, true⟩ := by unfold step; rw [if_neg (by simp), if_neg hk, if_pos he]; simp only [h]
theorem stepE_bad {r : Line} {k : Nat} {q : Int} {l : List R5} {x : Nat × Nat} (hk : ¬ k = 0) (he : r.head? = some wEnd) (h : last r l.length = some x) : step k r ⟨q, l, false⟩ = .inr x := by unfold step; rw [if_neg (by simp), if_neg hk, if_pos he]; simp only [h]
theorem step1_ok {r : Line} {k : Nat} {q : Int} {l : List R5} {x : R5} (hk : ¬ k = 0) (he : ¬ r.head? = some wEnd) (h : one r l = .inl x) : step k r ⟨q, l, false⟩ = .inl ⟨q, l ++ [x], false⟩ := by unfold step; rw [if_neg (by simp), if_neg hk, if_neg he]; simp only [h]
theorem step1_bad {r : Line} {k : Nat} {q : Int} {l : List R5} {x : Nat × Nat} (hk : ¬ k = 0) (he : ¬ r.head? = some wEnd) (h : one r l = .inr x) : step k r ⟨q, l, false⟩ = .inr x := by unfold step; rw [if_neg (by simp), if_neg hk, if_neg he]; simp only [h]
theorem run_get {L : List Line} {k : Nat} {r : Line} (h : L[k]? = some r) (s : St) : run (L.drop k) k s = match step k r s with | .inl s' => run (L.drop (k + 1)) (k + 1) s' | .inr x => .inr (k + 1, x.1, x.2) := by
  obtain ⟨hk, e⟩ := List.getElem?_eq_some_iff.1 h
  rw [List.drop_eq_getElem_cons hk, run, e]
  rfl
theorem run_end {L : List Line} {k : Nat} (h : ¬ k < L.length) (s : St) : run (L.drop k) k s = .inl s := by rw [List.drop_of_length_le (by omega)]; rfl
end Sk
/-- What a file's reading comes to. -/
def ParsedS (R : Sk.Res) (e : Ending) (w' : World) : Prop := ∃ v, e = .returned (.tuple #[.agg #[.int .i64 R.1.1, .int .i64 R.1.2.1, v], rejV R.2]) ∧ Rd w' v R.1.2.2
theorem parsed_bad {R : Sk.Res} {a b c : Nat} {x y z : Int} {w' : World} (h : R = ((0, 0, []), a, b, c)) (hx : x = (a : Int)) (hy : y = (b : Int)) (hz : z = (c : Int)) : ParsedS R (.returned (.tuple #[.agg #[.int .i64 0, .int .i64 0, .slice none 0 0], .agg #[.int .i64 x, .int .i64 y, .int .i64 z]])) w' := by
  subst h; subst hx; subst hy; subst hz
  exact ⟨_, rfl, Rd.nil _⟩
theorem four_blocks (w w1 : World) (o p x y : Obj) {W : World} (hb : Below ((w.alloc o).alloc p).heap.size ((w.alloc o).alloc p) w1) (h : (w1.alloc x).alloc y = W) : Below w.heap.size w W ∧ W.heap[w.heap.size]? = some o ∧ W.heap[w.heap.size + 1]? = some p ∧ W.heap[w1.heap.size]? = some x ∧ W.heap[w1.heap.size + 1]? = some y ∧ w.heap.size + 1 < w1.heap.size ∧ Below w1.heap.size w1 W := by
  obtain ⟨h1, h2, h3⟩ := two_blocks w o p rfl
  obtain ⟨g1, g2, g3⟩ := two_blocks w1 x y h
  have e2 := heap_keep h2 hb
  have e3 := heap_keep h3 hb
  exact ⟨bch (bch h1 hb h1.size) g1 (bch h1 hb h1.size).size, heap_keep e2 g1, heap_keep e3 g1, g2, g3, heap_lt e3, g1⟩
theorem one_block (w : World) (o : Obj) {W : World} (h : w.alloc o = W) : Below w.heap.size w W ∧ W.heap[w.heap.size]? = some o := by
  subst h; exact ⟨below_alloc _ _, heap_new _ _⟩

/-- What the reading holds between two rows: the results' boxes, the statement's box, its rows. -/
structure PInv (nb b5 : Nat) (w1 wr : World) (vr : Value) (p q : Int) (l : List R5) : Prop where
  r0 : wr.heap[nb]? = some (.cells #[.int .i64 0, .int .i64 0, .slice none 0 0] tStat (0, 0))
  r1 : wr.heap[nb + 1]? = some (.cells #[.int .i64 0, .int .i64 0, .int .i64 0] tRej (0, 0))
  s6 : wr.heap[b5 + 1]? = some (.cells #[.int .i64 p, .int .i64 q, vr] tStat (0, 0))
  own : wr.ownsRow (b5 + 2) tRow 5 vr l.length (l.flatMap encR)
  tab : Below b5 w1 wr
  lt : nb + 1 < b5
theorem PInv.below {nb b5 : Nat} {w1 wr w' : World} {vr : Value} {p q : Int} {l : List R5} (h : PInv nb b5 w1 wr vr p q l) (hb : Below wr.heap.size wr w') : PInv nb b5 w1 w' vr p q l :=
  ⟨heap_keep h.r0 hb, heap_keep h.r1 hb, heap_keep h.s6 hb, own_keep h.own hb, bch h.tab hb (by have := heap_lt h.s6; omega), h.lt⟩
theorem PInv.set {nb b5 : Nat} {w1 wr : World} {vr : Value} {p q : Int} {l : List R5} (h : PInv nb b5 w1 wr vr p q l) {b i : Nat} (hb : b5 + 2 ≤ b) (hv : vr.ownBlock ≠ some b) (x : Value) : PInv nb b5 w1 (wr.setCell ⟨b, i, none⟩ x) vr p q l := by
  have := h.lt
  exact ⟨set_other h.r0 (by omega) _, set_other h.r1 (by omega) _, set_other h.s6 (by omega) _, own_turned h.own (turned_set wr b i x) (fun j hj e => hv (by rw [hj, e])), h.tab.setCell (p := ⟨b, i, none⟩) (by show b5 ≤ b; omega) _, h.lt⟩
theorem PInv.setSeq {nb b5 : Nat} {w1 wr : World} {vr : Value} {p q : Int} {l : List R5} (h : PInv nb b5 w1 wr vr p q l) (q' : Int) : PInv nb b5 w1 (wr.setCell ⟨b5 + 1, 1, none⟩ (.int .i64 q')) vr p q' l := by
  have := h.lt
  refine ⟨set_other h.r0 (by omega) _, set_other h.r1 (by omega) _, ?_, own_turned h.own (turned_set wr (b5 + 1) 1 _) (fun j hj e => by have := (h.own.lt j hj).1; omega), h.tab.setCell (p := ⟨b5 + 1, 1, none⟩) (by show b5 ≤ b5 + 1; omega) _, h.lt⟩
  have h6 := h.s6
  simp [World.setCell, Array.getElem?_modify, h6]
theorem PInv.set3 {nb b5 : Nat} {w1 wr : World} {vr : Value} {p q : Int} {l : List R5} (h : PInv nb b5 w1 wr vr p q l) {b : Nat} (hb : b5 + 2 ≤ b) (hv : vr.ownBlock ≠ some b) (x y z : Value) : PInv nb b5 w1 (((wr.setCell ⟨b, 0, none⟩ x).setCell ⟨b, 1, none⟩ y).setCell ⟨b, 2, none⟩ z) vr p q l := ((h.set hb hv x).set hb hv y).set hb hv z
theorem heap_turned {S : Nat → Prop} {a b : World} {i : Nat} {o : Obj} (h : a.heap[i]? = some o) (ht : Turned S a b) (hi : ¬ S i) : b.heap[i]? = some o := (ht.block i (heap_lt h) hi).trans h
theorem PInv.push {nb b5 : Nat} {w1 w4 w6 : World} {vr v6 : Value} {p q : Int} {l : List R5} (h : PInv nb b5 w1 w4 vr p q l) {y : R5} (ho : w6.ownsRow (b5 + 2) tRow 5 v6 (l.length + 1) (l.flatMap encR ++ encR y)) (ht : Turned (fun j => vr.ownBlock = some j) w4 w6) : PInv nb b5 w1 (w6.setCell ⟨b5 + 1, 2, none⟩ v6) v6 p q (l ++ [y]) := by
  have hlt := h.lt
  have hn : ∀ i, i < b5 + 2 → ¬ vr.ownBlock = some i := fun i hi e => by have := (h.own.lt i e).1; omega
  have s6 := heap_turned h.s6 ht (hn _ (by omega))
  refine ⟨set_other (heap_turned h.r0 ht (hn _ (by omega))) (by omega) _, set_other (heap_turned h.r1 ht (hn _ (by omega))) (by omega) _, ?_, ?_, ?_, h.lt⟩
  · simp [World.setCell, Array.getElem?_modify, s6]
  · have : w6.ownsRow (b5 + 2) tRow 5 v6 (l ++ [y]).length ((l ++ [y]).flatMap encR) := by rw [List.length_append, List.flatMap_append]; simpa using ho
    exact own_turned this (turned_set w6 (b5 + 1) 2 _) (fun j hj e => by have := (ho.lt j hj).1; omega)
  · have hb : Below b5 w1 w6 := Below.turned h.tab ht (fun i hi => by have := (h.own.lt i hi).1; omega) (by have := heap_lt h.s6; omega)
    exact hb.setCell (p := ⟨b5 + 1, 2, none⟩) (by show b5 ≤ b5 + 1; omega) _
theorem PInv.size {nb b5 : Nat} {w1 wr : World} {vr : Value} {p q : Int} {l : List R5} (h : PInv nb b5 w1 wr vr p q l) : b5 + 1 < wr.heap.size := heap_lt h.s6

set_option linter.unusedSimpArgs false in
set_option linter.unusedVariables false in
set_option maxRecDepth 100000 in
set_option maxHeartbeats 4000000 in
theorem sparse_ok (s : ByteArray) (w : World) (L : List Line) (hp : Csv.parse s.data.toList = (L, 0, 0, 0)) (hcall : ∀ W, Calls Tryz.prog 26 #[.string s] W fun e w' => Told (Csv.parse s.data.toList) e w' ∧ Below W.heap.size W w') (hS : SkW w) :
    Calls Tryz.prog 15 #[.string s] w fun e w' => ParsedS (ofTable L) e w' ∧ Below w.heap.size w w' := by
  obtain ⟨i0, hi, hz0, hz1, hz2⟩ := info_parts row_info
  obtain ⟨R, hR⟩ : ∃ R, run L 0 ⟨0, [], false⟩ = R := ⟨_, rfl⟩
  have hOF : ofTable L = ofRun L.length R := by unfold ofTable; rw [hR]
  rw [hOF]
  have hSm : Small L := by have := csv_small s.data.toList; rw [hp] at this; exact this
  have HSM := Lib.hid hSm; have HS := Lib.hid hS
  have HCALL := Lib.hid (fun W => (hcall W).mono fun e w' h => (show (∃ v, e = .returned (.tuple #[v, .agg #[.int .i64 0, .int .i64 0, .int .i64 0]]) ∧ Rowz w' w'.heap.size v L) ∧ Below W.heap.size W w' from ⟨by
    obtain ⟨⟨v, he, hv⟩, _⟩ := h
    rw [hp] at he hv
    exact ⟨v, he, hv⟩, h.2⟩))
  have hLl := hSm.rows
  have HREJ := Lib.hid (fun c k W => sreject_any c k W)
  have HRUN := Lib.hid (show run (L.drop 0) 0 ⟨0, [], false⟩ = R from hR)
  obtain ⟨wa, hwa⟩ : ∃ wa, (w.alloc (.cells #[.int .i64 0, .int .i64 0, .slice none 0 0] tStat)).alloc (.cells #[.int .i64 0, .int .i64 0, .int .i64 0] tRej) = wa := ⟨_, rfl⟩
  have hWA := Lib.hid hwa
  clear hR hOF hSm hS hcall hp hwa
  go_enter Tryz.func15, Tryz.ntmps15
  go_upto_region 1 with (fail)
  rw [hWA.out]
  go_wp2_with fail
  refine (HCALL.out _).mono ?_
  rintro e w1 ⟨⟨v, rfl, hv⟩, hb1⟩
  obtain ⟨Av, cv, rfl⟩ := hv.shape
  have HV := Lib.hid hv
  clear hv
  go_upto_region 5 with (fail)
  obtain ⟨W, hW⟩ : ∃ W, W = (w1.alloc (.cells #[.int .i64 0, .int .i64 0, .int .i64 0] tRej)).alloc (.cells #[.int .i64 1, .int .i64 0, .slice none 0 0] tStat) := ⟨_, rfl⟩
  rw [← hW]
  obtain ⟨hB, g0, g1, g5, g6, hlt, hB1⟩ := four_blocks w w1 _ _ _ _ (by rw [hWA.out]; exact hb1) hW.symm
  have hsz : W.heap.size = w1.heap.size + 2 := by rw [hW]; simp
  have HB01 := Lib.hid (show Below w.heap.size w w1 from bch (by rw [← hWA.out]; exact (two_blocks w _ _ rfl).1) hb1 (by rw [← hWA.out]; simp; omega))
  generalize hnb : w.heap.size = nb at g0 g1 hlt HB01 ⊢
  generalize hb5 : w1.heap.size = b5 at g5 g6 hlt hB1 hsz HV ⊢
  have HNB := Lib.hid hnb; have HB5 := Lib.hid hb5
  have HI0 := Lib.hid (show PInv nb b5 w1 W (.slice none 0 0) 1 0 [] from ⟨g0, g1, g6, World.ownsRow_nil _ _ _ _, hB1, hlt⟩)
  clear hW hB g0 g1 g5 g6 hB1 hnb hb5 hb1 hsz
  go_wp2_with fail
  go_loopw [7, 25] (fun ended i wr => ∃ (k : Nat) (q : Int) (l : List R5) (en : Bool) (vr : Value), i = .int .i64 k ∧ ended = .bool en ∧ k ≤ L.length ∧ l.length ≤ k ∧ Hid (PInv nb b5 w1 wr vr 1 q l) ∧ Hid (run (L.drop k) k ⟨q, l, en⟩ = R)) (fun _ i _ => L.length - (intOf i).toNat)
  case atStart => exact ⟨0, 0, [], false, _, rfl, rfl, by omega, by simp, HI0.out, HRUN.out⟩
  case round =>
    obtain ⟨k, q, l, en, vr, rfl, rfl, hk, hlk, HI, HR⟩ := hrel
    by_cases hkl : k < L.length
    · obtain ⟨r, hr⟩ : ∃ r, L[k]? = some r := ⟨_, List.getElem?_eq_getElem hkl⟩
      obtain ⟨gt, ot, u, e, hgt, hcell, hu⟩ := HV.out.at HI.out.tab hr
      subst e
      have hrm := List.mem_of_getElem? hr
      have hrl := HSM.out.fields r hrm
      have hrb := HSM.out.bytes r hrm
      have hrf := HSM.out.full r hrm
      have HU := Lib.hid (show Strs wr wr.heap.size u r from hu.below HI.out.tab (by have := heap_lt HI.out.s6; omega))
      have HSr := Lib.hid (show SkW wr from (HS.out.below (by have := HB01.out; rw [HNB.out]; exact this)).below (by rw [HB5.out]; exact HI.out.tab))
      have hstep := run_get hr ⟨q, l, en⟩
      rw [HR.out] at hstep
      have HST := Lib.hid hstep
      have hkI : (k : Int) < L.length := by omega
      clear hr hu hrm hstep HR
      cases en with
      | true =>
        obtain ⟨W2, hW2⟩ : ∃ W2, W2 = (wr.alloc (.cells #[.int .i64 0, .int .i64 0, .int .i64 0] tRej)).alloc (.cells #[.int .i64 0, .int .i64 0, .int .i64 0, .int .i64 0, .int .i64 0] tRow) := ⟨_, rfl⟩
        have h2 := two_blocks wr _ _ hW2.symm
        have HX2 := Lib.hid h2.2.1; have HY2 := Lib.hid h2.2.2; have HI2 := Lib.hid (HI.out.below h2.1); have HB2 := Lib.hid h2.1
        have hbx := heap_lt HI.out.s6
        have HWW := Lib.hid hW2
        clear hW2 h2
        generalize hbxx : wr.heap.size = bx at HX2 HY2 HB2 hbx HU ⊢
        have HBX := Lib.hid hbxx
        clear hbxx
        have HNE := Lib.hid (show vr.ownBlock ≠ some bx from fun e => by have := (HI.out.own.lt _ e).2; have := HBX.out; omega)
        go_upto_region 13 with (fail)
        rw [HBX.out]
        rw [← HWW.out]
        obtain ⟨n0, n1, n2, g0, g1, g2⟩ := cell3 HX2.out
        have HBADR := Lib.hid (show R = .inr (k + 1, 1, 7) by rw [HST.out]; rfl)
        have HNE4 := HNE
        go_upto_region 20 with (go_at_call 35; refine (HREJ.out _ _ _).mono ?_; rintro e w3 ⟨rfl, hb3⟩; have HX3 := Lib.hid (heap_keep HX2.out hb3); have HI3 := Lib.hid (HI2.out.below hb3); clear hb3 n0 n1 n2 g0 g1 g2; obtain ⟨n0, n1, n2, g0, g1, g2⟩ := cell3 HX3.out)
        clear n0 n1 n2 g0 g1 g2
        obtain ⟨w4, hw4⟩ : ∃ w4, w4 = ((w3.setCell ⟨bx, 0, none⟩ (.int .i64 0)).setCell ⟨bx, 1, none⟩ (.int .i64 1)).setCell ⟨bx, 2, none⟩ (.int .i64 7) := ⟨_, rfl⟩
        rw [← hw4]
        have HX4 := Lib.hid (show w4.heap[bx]? = some (.cells #[.int .i64 0, .int .i64 1, .int .i64 7] tRej (0, 0)) by rw [hw4]; exact set3 HX3.out _ _ _)
        have HI4 := Lib.hid (show PInv nb b5 w1 w4 vr 1 q l by rw [hw4]; exact HI3.out.set3 (by omega) HNE4.out _ _ _)
        clear hw4
        obtain ⟨n0, n1, n2, g0, g1, g2⟩ := cell3 HX4.out
        have hk1 : (k : Int) + 1 ≤ 65537 := by omega
        have hk0 : (0 : Int) ≤ k := by omega
        go_upto_region 22 with (fail)
        obtain ⟨w5, hw5⟩ : ∃ w5, w5 = w4.setCell ⟨bx, 0, none⟩ (.int .i64 ((k : Int) + 1)) := ⟨_, rfl⟩
        rw [← hw5]
        have hx5 : w5.heap[bx]? = some (.cells #[.int .i64 ((k : Int) + 1), .int .i64 1, .int .i64 7] tRej (0, 0)) := by rw [hw5]; have h := HX4.out; simp [World.setCell, Array.getElem?_modify, h]
        have hi5 := HI4.out.set (b := bx) (i := 0) (by omega) HNE4.out (.int .i64 ((k : Int) + 1))
        rw [← hw5] at hi5
        clear hw5 n0 n1 n2 g0 g1 g2
        obtain ⟨n0, n1, n2, g0, g1, g2⟩ := cell3 hx5
        obtain ⟨m0, m1, m2, f0, f1, f2⟩ := cell3 hi5.r0
        obtain ⟨p0, p1, p2, e0, e1, e2⟩ := cell3 hi5.r1
        have hlt5 := hi5.lt
        have HX5 := Lib.hid hx5; have HI5 := Lib.hid hi5
        clear hx5 hi5
        go_region
        go_wp2_with fail
        obtain ⟨w6, hw6⟩ : ∃ w6, w6 = ((w5.setCell ⟨nb, 0, none⟩ (.int .i64 0)).setCell ⟨nb, 1, none⟩ (.int .i64 0)).setCell ⟨nb, 2, none⟩ (.slice none 0 0) := ⟨_, rfl⟩
        have hr6 : w6.heap[nb]? = some (.cells #[.int .i64 0, .int .i64 0, .slice none 0 0] tStat (0, 0)) := by rw [hw6]; exact set3 HI5.out.r0 _ _ _
        have hs6 : w6.heap[nb + 1]? = some (.cells #[.int .i64 0, .int .i64 0, .int .i64 0] tRej (0, 0)) := by rw [hw6]; exact set_other (set_other (set_other HI5.out.r1 (by omega) _) (by omega) _) (by omega) _
        have hb6 : Below nb w w6 := by rw [hw6]; exact below_set3 (HB01.out.trans (HI5.out.tab.mono (by omega))) (Nat.le_refl _) _ _ _
        rw [← hw6]
        clear hw6
        obtain ⟨w7, hw7⟩ : ∃ w7, w7 = ((w6.setCell ⟨nb + 1, 0, none⟩ (.int .i64 ((k : Int) + 1))).setCell ⟨nb + 1, 1, none⟩ (.int .i64 1)).setCell ⟨nb + 1, 2, none⟩ (.int .i64 7) := ⟨_, rfl⟩
        have hs7 := set3 hs6 (.int .i64 ((k : Int) + 1)) (.int .i64 1) (.int .i64 7)
        rw [← hw7] at hs7
        have hr7 : w7.heap[nb]? = some (.cells #[.int .i64 0, .int .i64 0, .slice none 0 0] tStat (0, 0)) := by rw [hw7]; exact set_other (set_other (set_other hr6 (by omega) _) (by omega) _) (by omega) _
        have hb7 : Below nb w w7 := by rw [hw7]; exact below_set3 hb6 (by omega) _ _ _
        rw [← hw7]
        clear hw7 n0 n1 n2 g0 g1 g2 m0 m1 m2 f0 f1 f2 p0 p1 p2 e0 e1 e2
        obtain ⟨m0, m1, m2, _⟩ := cell3 hr7
        obtain ⟨n0, n1, n2, _⟩ := cell3 hs7
        refine bodyPost_ret (v := .tuple #[.agg #[.int .i64 0, .int .i64 0, .slice none 0 0], .agg #[.int .i64 ((k : Int) + 1), .int .i64 1, .int .i64 7]]) (by simp [results, Tryz.results15, go_sem, m0, m1, m2, n0, n1, n2]) rfl ⟨?_, below_drew1 (HNB.out ▸ hb7)⟩
        exact parsed_bad (R := ofRun L.length R) (a := k + 1) (b := 1) (c := 7) (by rw [HBADR.out]; rfl) (by omega) (by omega) (by omega)
      | false =>
        obtain ⟨W2, hW2⟩ : ∃ W2, W2 = (wr.alloc (.cells #[.int .i64 0, .int .i64 0, .int .i64 0] tRej)).alloc (.cells #[.int .i64 0, .int .i64 0, .int .i64 0, .int .i64 0, .int .i64 0] tRow) := ⟨_, rfl⟩
        have h2 := two_blocks wr _ _ hW2.symm
        have HX2 := Lib.hid h2.2.1; have HY2 := Lib.hid h2.2.2; have HI2 := Lib.hid (HI.out.below h2.1); have HB2 := Lib.hid h2.1
        have hbx := heap_lt HI.out.s6
        have HWW := Lib.hid hW2
        clear hW2 h2
        generalize hbxx : wr.heap.size = bx at HX2 HY2 HB2 hbx HU ⊢
        have HBX := Lib.hid hbxx
        clear hbxx
        have HNE := Lib.hid (show vr.ownBlock ≠ some bx from fun e => by have := (HI.out.own.lt _ e).2; have := HBX.out; omega)
        go_upto_region 13 with (fail)
        rw [HBX.out]
        rw [← HWW.out]
        obtain ⟨n0, n1, n2, g0, g1, g2⟩ := cell3 HX2.out
        by_cases hk0 : k = 0
        · have HK0 := Lib.hid hk0
          have hkq := beqT (show (k : Int) = 0 by omega)
          clear hk0
          have HF := Lib.hid (sfirst_any u r W2 (HU.out.below HB2.out (by have := heap_lt HX2.out; omega)) hrf (by omega) (fun f hf => by have := hrb f hf; omega) (HSr.out.below (by rw [HBX.out]; exact HB2.out)).kw.mw)
          go_upto_region 16 with (fail)
          go_wp2_with fail
          refine HF.out.mono ?_
          rintro e w3 ⟨hfr, hb3⟩
          have HX3 := Lib.hid (heap_keep HX2.out hb3); have HI3 := Lib.hid (HI2.out.below hb3)
          clear hb3 n0 n1 n2 g0 g1 g2
          obtain ⟨n0, n1, n2, g0, g1, g2⟩ := cell3 HX3.out
          obtain ⟨m0, m1, m2, f0, f1, f2⟩ := cell3 HI3.out.s6
          unfold FirstR rej3 at hfr
          cases hf : Sk.first r with
          | inl q' =>
            rw [hf] at hfr
            obtain rfl := hfr
            have HNEXT := Lib.hid (show run (L.drop (k + 1)) (k + 1) ⟨q', l, false⟩ = R by rw [HST.out, step0_ok HK0.out hf])
            clear hf
            go_upto_region 20 with (fail)
            obtain ⟨w9, hw9⟩ : ∃ w9, w9 = w3.setCell ⟨b5 + 1, 1, none⟩ (.int .i64 q') := ⟨_, rfl⟩
            rw [← hw9]
            have HI9 := Lib.hid (HI3.out.setSeq q')
            rw [← hw9] at HI9
            have HX9 := Lib.hid (show w9.heap[bx]? = some (.cells #[.int .i64 0, .int .i64 0, .int .i64 0] tRej (0, 0)) by rw [hw9]; exact set_other HX3.out (by omega) _)
            clear hw9 n0 n1 n2 g0 g1 g2 m0 m1 m2 f0 f1 f2
            have HNE4 := HNE
            obtain ⟨w4, hw4⟩ : ∃ w4, w4 = ((w9.setCell ⟨bx, 0, none⟩ (.int .i64 0)).setCell ⟨bx, 1, none⟩ (.int .i64 0)).setCell ⟨bx, 2, none⟩ (.int .i64 0) := ⟨_, rfl⟩
            rw [← hw4]
            have HX4 := Lib.hid (show w4.heap[bx]? = some (.cells #[.int .i64 0, .int .i64 0, .int .i64 0] tRej (0, 0)) by rw [hw4]; exact set3 HX9.out _ _ _)
            have HI4 := Lib.hid (show PInv nb b5 w1 w4 vr 1 q' l by rw [hw4]; exact HI9.out.set3 (by omega) HNE4.out _ _ _)
            clear hw4
            obtain ⟨n0, n1, n2, g0, g1, g2⟩ := cell3 HX4.out
            have hk1 : (k : Int) + 1 ≤ 65537 := by omega
            go_wp2_with fail
            go_roundw
            case rel => exact ⟨k + 1, q', l, false, _, by go_num, rfl, by omega, by omega, HI4.out, HNEXT.out⟩
            case measure => simp [intOf]; omega
          | inr x =>
            rw [hf] at hfr
            obtain rfl := hfr
            have HBADR := Lib.hid (show R = .inr (k + 1, x.1, x.2) by rw [HST.out, step0_bad HK0.out hf])
            obtain ⟨ci, hci⟩ : ∃ ci : Int, (x.1 : Int) = ci := ⟨_, rfl⟩
            obtain ⟨ki, hki⟩ : ∃ ki : Int, (x.2 : Int) = ki := ⟨_, rfl⟩
            have hc1 := (first_bad hf).1
            have hc0 : 0 < ci := by omega
            clear hf hc1
            rw [hci, hki]
            have HCI := Lib.hid hci; have HKI := Lib.hid hki
            clear hci hki
            go_upto_region 20 with (fail)
            obtain ⟨w9, hw9⟩ : ∃ w9, w9 = w3.setCell ⟨b5 + 1, 1, none⟩ (.int .i64 0) := ⟨_, rfl⟩
            rw [← hw9]
            have HI9 := Lib.hid (HI3.out.setSeq 0)
            rw [← hw9] at HI9
            have HX9 := Lib.hid (show w9.heap[bx]? = some (.cells #[.int .i64 0, .int .i64 0, .int .i64 0] tRej (0, 0)) by rw [hw9]; exact set_other HX3.out (by omega) _)
            clear hw9 n0 n1 n2 g0 g1 g2 m0 m1 m2 f0 f1 f2
            have HNE4 := HNE
            obtain ⟨w4, hw4⟩ : ∃ w4, w4 = ((w9.setCell ⟨bx, 0, none⟩ (.int .i64 0)).setCell ⟨bx, 1, none⟩ (.int .i64 ci)).setCell ⟨bx, 2, none⟩ (.int .i64 ki) := ⟨_, rfl⟩
            rw [← hw4]
            have HX4 := Lib.hid (show w4.heap[bx]? = some (.cells #[.int .i64 0, .int .i64 ci, .int .i64 ki] tRej (0, 0)) by rw [hw4]; exact set3 HX9.out _ _ _)
            have HI4 := Lib.hid (show PInv nb b5 w1 w4 vr 1 0 l by rw [hw4]; exact HI9.out.set3 (by omega) HNE4.out _ _ _)
            clear hw4
            obtain ⟨n0, n1, n2, g0, g1, g2⟩ := cell3 HX4.out
            have hk1 : (k : Int) + 1 ≤ 65537 := by omega
            have hk0 : (0 : Int) ≤ k := by omega
            go_upto_region 22 with (fail)
            obtain ⟨w5, hw5⟩ : ∃ w5, w5 = w4.setCell ⟨bx, 0, none⟩ (.int .i64 ((k : Int) + 1)) := ⟨_, rfl⟩
            rw [← hw5]
            have hx5 : w5.heap[bx]? = some (.cells #[.int .i64 ((k : Int) + 1), .int .i64 ci, .int .i64 ki] tRej (0, 0)) := by rw [hw5]; have h := HX4.out; simp [World.setCell, Array.getElem?_modify, h]
            have hi5 := HI4.out.set (b := bx) (i := 0) (by omega) HNE4.out (.int .i64 ((k : Int) + 1))
            rw [← hw5] at hi5
            clear hw5 n0 n1 n2 g0 g1 g2
            obtain ⟨n0, n1, n2, g0, g1, g2⟩ := cell3 hx5
            obtain ⟨m0, m1, m2, f0, f1, f2⟩ := cell3 hi5.r0
            obtain ⟨p0, p1, p2, e0, e1, e2⟩ := cell3 hi5.r1
            have hlt5 := hi5.lt
            have HX5 := Lib.hid hx5; have HI5 := Lib.hid hi5
            clear hx5 hi5
            go_region
            go_wp2_with fail
            obtain ⟨w6, hw6⟩ : ∃ w6, w6 = ((w5.setCell ⟨nb, 0, none⟩ (.int .i64 0)).setCell ⟨nb, 1, none⟩ (.int .i64 0)).setCell ⟨nb, 2, none⟩ (.slice none 0 0) := ⟨_, rfl⟩
            have hr6 : w6.heap[nb]? = some (.cells #[.int .i64 0, .int .i64 0, .slice none 0 0] tStat (0, 0)) := by rw [hw6]; exact set3 HI5.out.r0 _ _ _
            have hs6 : w6.heap[nb + 1]? = some (.cells #[.int .i64 0, .int .i64 0, .int .i64 0] tRej (0, 0)) := by rw [hw6]; exact set_other (set_other (set_other HI5.out.r1 (by omega) _) (by omega) _) (by omega) _
            have hb6 : Below nb w w6 := by rw [hw6]; exact below_set3 (HB01.out.trans (HI5.out.tab.mono (by omega))) (Nat.le_refl _) _ _ _
            rw [← hw6]
            clear hw6
            obtain ⟨w7, hw7⟩ : ∃ w7, w7 = ((w6.setCell ⟨nb + 1, 0, none⟩ (.int .i64 ((k : Int) + 1))).setCell ⟨nb + 1, 1, none⟩ (.int .i64 ci)).setCell ⟨nb + 1, 2, none⟩ (.int .i64 ki) := ⟨_, rfl⟩
            have hs7 := set3 hs6 (.int .i64 ((k : Int) + 1)) (.int .i64 ci) (.int .i64 ki)
            rw [← hw7] at hs7
            have hr7 : w7.heap[nb]? = some (.cells #[.int .i64 0, .int .i64 0, .slice none 0 0] tStat (0, 0)) := by rw [hw7]; exact set_other (set_other (set_other hr6 (by omega) _) (by omega) _) (by omega) _
            have hb7 : Below nb w w7 := by rw [hw7]; exact below_set3 hb6 (by omega) _ _ _
            rw [← hw7]
            clear hw7 n0 n1 n2 g0 g1 g2 m0 m1 m2 f0 f1 f2 p0 p1 p2 e0 e1 e2
            obtain ⟨m0, m1, m2, _⟩ := cell3 hr7
            obtain ⟨n0, n1, n2, _⟩ := cell3 hs7
            refine bodyPost_ret (v := .tuple #[.agg #[.int .i64 0, .int .i64 0, .slice none 0 0], .agg #[.int .i64 ((k : Int) + 1), .int .i64 ci, .int .i64 ki]]) (by simp [results, Tryz.results15, go_sem, m0, m1, m2, n0, n1, n2]) rfl ⟨?_, below_drew1 (HNB.out ▸ hb7)⟩
            exact parsed_bad (R := ofRun L.length R) (a := k + 1) (b := x.1) (c := x.2) (by rw [HBADR.out]; rfl) (by omega) HCI.out.symm HKI.out.symm
        · have HK0 := Lib.hid hk0
          have hkq := beqF (show ¬ (k : Int) = 0 by omega)
          clear hk0
          obtain ⟨Ar, cr, rfl, _⟩ := own_slice HI.out.own
          obtain ⟨Au, cu, hu0⟩ := HU.out.shape
          subst hu0
          have hu0 : True := trivial
          obtain ⟨f0, hf0⟩ : ∃ f0, r[0]? = some f0 := ⟨_, List.getElem?_eq_getElem (List.length_pos_iff.2 hrf)⟩
          have hlenI : (0 : Int) < r.length := by have := List.length_pos_iff.2 hrf; omega
          have hhead : r.head? = some f0 := by rw [List.head?_eq_getElem?]; exact hf0
          obtain ⟨gu, ou, e, _, c0⟩ := HU.out.at HB2.out hf0
          subst e
          rw [Nat.add_zero] at c0
          clear hf0
          by_cases hh : f0 = wEnd
          · have HEND := Lib.hid (show r.head? = some wEnd by rw [hhead, hh])
            have hq := text_eq hh
            unfold wEnd at hq
            clear hh hhead
            have HF := Lib.hid (slast_any (.slice (some ⟨gu, ou, none⟩) r.length cu) r l.length W2 (HU.out.below HB2.out (by have := heap_lt HX2.out; omega)) (by omega) (fun f hf => by have := hrb f hf; omega) (by omega) (HSr.out.below (by rw [HBX.out]; exact HB2.out)).kw.mw)
            obtain ⟨m0, m1, m2, f0', f1, f2⟩ := cell3 HI2.out.s6
            go_upto_region 18 with (fail)
            go_wp2_with fail
            refine HF.out.mono ?_
            rintro e w3 ⟨hfr, hb3⟩
            have HX3 := Lib.hid (heap_keep HX2.out hb3); have HI3 := Lib.hid (HI2.out.below hb3)
            clear hb3 n0 n1 n2 g0 g1 g2 m0 m1 m2 f0' f1 f2
            obtain ⟨n0, n1, n2, g0, g1, g2⟩ := cell3 HX3.out
            unfold LastR rej3 at hfr
            have HNE4 := HNE
            cases hf : Sk.last r l.length with
            | none =>
              rw [hf] at hfr
              obtain rfl := hfr
              have HNEXT := Lib.hid (show run (L.drop (k + 1)) (k + 1) ⟨q, l, true⟩ = R by rw [HST.out, stepE_ok HK0.out HEND.out hf])
              clear hf
              go_upto_region 20 with (fail)
              clear n0 n1 n2 g0 g1 g2
              obtain ⟨w4, hw4⟩ : ∃ w4, w4 = ((w3.setCell ⟨bx, 0, none⟩ (.int .i64 0)).setCell ⟨bx, 1, none⟩ (.int .i64 0)).setCell ⟨bx, 2, none⟩ (.int .i64 0) := ⟨_, rfl⟩
              rw [← hw4]
              have HX4 := Lib.hid (show w4.heap[bx]? = some (.cells #[.int .i64 0, .int .i64 0, .int .i64 0] tRej (0, 0)) by rw [hw4]; exact set3 HX3.out _ _ _)
              have HI4 := Lib.hid (show PInv nb b5 w1 w4 (.slice Ar l.length cr) 1 q l by rw [hw4]; exact HI3.out.set3 (by omega) HNE4.out _ _ _)
              clear hw4
              obtain ⟨n0, n1, n2, g0, g1, g2⟩ := cell3 HX4.out
              have hk1 : (k : Int) + 1 ≤ 65537 := by omega
              go_wp2_with fail
              go_roundw
              case rel => exact ⟨k + 1, q, l, true, _, by go_num, rfl, by omega, by omega, HI4.out, HNEXT.out⟩
              case measure => simp [intOf]; omega
            | some x =>
              rw [hf] at hfr
              obtain rfl := hfr
              have HBADR := Lib.hid (show R = .inr (k + 1, x.1, x.2) by rw [HST.out, stepE_bad HK0.out HEND.out hf])
              obtain ⟨ci, hci⟩ : ∃ ci : Int, (x.1 : Int) = ci := ⟨_, rfl⟩
              obtain ⟨ki, hki⟩ : ∃ ki : Int, (x.2 : Int) = ki := ⟨_, rfl⟩
              have hc1 := (last_bad hf).1
              have hc0 : 0 < ci := by omega
              clear hf hc1
              rw [hci, hki]
              have HCI := Lib.hid hci; have HKI := Lib.hid hki
              clear hci hki
              go_upto_region 20 with (fail)
              clear n0 n1 n2 g0 g1 g2
              obtain ⟨w4, hw4⟩ : ∃ w4, w4 = ((w3.setCell ⟨bx, 0, none⟩ (.int .i64 0)).setCell ⟨bx, 1, none⟩ (.int .i64 ci)).setCell ⟨bx, 2, none⟩ (.int .i64 ki) := ⟨_, rfl⟩
              rw [← hw4]
              have HX4 := Lib.hid (show w4.heap[bx]? = some (.cells #[.int .i64 0, .int .i64 ci, .int .i64 ki] tRej (0, 0)) by rw [hw4]; exact set3 HX3.out _ _ _)
              have HI4 := Lib.hid (show PInv nb b5 w1 w4 (.slice Ar l.length cr) 1 q l by rw [hw4]; exact HI3.out.set3 (by omega) HNE4.out _ _ _)
              clear hw4
              obtain ⟨n0, n1, n2, g0, g1, g2⟩ := cell3 HX4.out
              have hk1 : (k : Int) + 1 ≤ 65537 := by omega
              have hk0 : (0 : Int) ≤ k := by omega
              go_upto_region 22 with (fail)
              obtain ⟨w5, hw5⟩ : ∃ w5, w5 = w4.setCell ⟨bx, 0, none⟩ (.int .i64 ((k : Int) + 1)) := ⟨_, rfl⟩
              rw [← hw5]
              have hx5 : w5.heap[bx]? = some (.cells #[.int .i64 ((k : Int) + 1), .int .i64 ci, .int .i64 ki] tRej (0, 0)) := by rw [hw5]; have h := HX4.out; simp [World.setCell, Array.getElem?_modify, h]
              have hi5 := HI4.out.set (b := bx) (i := 0) (by omega) HNE4.out (.int .i64 ((k : Int) + 1))
              rw [← hw5] at hi5
              clear hw5 n0 n1 n2 g0 g1 g2
              obtain ⟨n0, n1, n2, g0, g1, g2⟩ := cell3 hx5
              obtain ⟨m0, m1, m2, f0, f1, f2⟩ := cell3 hi5.r0
              obtain ⟨p0, p1, p2, e0, e1, e2⟩ := cell3 hi5.r1
              have hlt5 := hi5.lt
              have HX5 := Lib.hid hx5; have HI5 := Lib.hid hi5
              clear hx5 hi5
              go_region
              go_wp2_with fail
              obtain ⟨w6, hw6⟩ : ∃ w6, w6 = ((w5.setCell ⟨nb, 0, none⟩ (.int .i64 0)).setCell ⟨nb, 1, none⟩ (.int .i64 0)).setCell ⟨nb, 2, none⟩ (.slice none 0 0) := ⟨_, rfl⟩
              have hr6 : w6.heap[nb]? = some (.cells #[.int .i64 0, .int .i64 0, .slice none 0 0] tStat (0, 0)) := by rw [hw6]; exact set3 HI5.out.r0 _ _ _
              have hs6 : w6.heap[nb + 1]? = some (.cells #[.int .i64 0, .int .i64 0, .int .i64 0] tRej (0, 0)) := by rw [hw6]; exact set_other (set_other (set_other HI5.out.r1 (by omega) _) (by omega) _) (by omega) _
              have hb6 : Below nb w w6 := by rw [hw6]; exact below_set3 (HB01.out.trans (HI5.out.tab.mono (by omega))) (Nat.le_refl _) _ _ _
              rw [← hw6]
              clear hw6
              obtain ⟨w7, hw7⟩ : ∃ w7, w7 = ((w6.setCell ⟨nb + 1, 0, none⟩ (.int .i64 ((k : Int) + 1))).setCell ⟨nb + 1, 1, none⟩ (.int .i64 ci)).setCell ⟨nb + 1, 2, none⟩ (.int .i64 ki) := ⟨_, rfl⟩
              have hs7 := set3 hs6 (.int .i64 ((k : Int) + 1)) (.int .i64 ci) (.int .i64 ki)
              rw [← hw7] at hs7
              have hr7 : w7.heap[nb]? = some (.cells #[.int .i64 0, .int .i64 0, .slice none 0 0] tStat (0, 0)) := by rw [hw7]; exact set_other (set_other (set_other hr6 (by omega) _) (by omega) _) (by omega) _
              have hb7 : Below nb w w7 := by rw [hw7]; exact below_set3 hb6 (by omega) _ _ _
              rw [← hw7]
              clear hw7 n0 n1 n2 g0 g1 g2 m0 m1 m2 f0 f1 f2 p0 p1 p2 e0 e1 e2
              obtain ⟨m0, m1, m2, _⟩ := cell3 hr7
              obtain ⟨n0, n1, n2, _⟩ := cell3 hs7
              refine bodyPost_ret (v := .tuple #[.agg #[.int .i64 0, .int .i64 0, .slice none 0 0], .agg #[.int .i64 ((k : Int) + 1), .int .i64 ci, .int .i64 ki]]) (by simp [results, Tryz.results15, go_sem, m0, m1, m2, n0, n1, n2]) rfl ⟨?_, below_drew1 (HNB.out ▸ hb7)⟩
              exact parsed_bad (R := ofRun L.length R) (a := k + 1) (b := x.1) (c := x.2) (by rw [HBADR.out]; rfl) (by omega) HCI.out.symm HKI.out.symm
          · have HEND := Lib.hid (show ¬ r.head? = some wEnd by rw [hhead]; simpa using hh)
            have hq := text_ne hh
            unfold wEnd at hq
            clear hh hhead
            have HNE1 := Lib.hid (show Value.ownBlock (.slice Ar l.length cr) ≠ some (bx + 1) from fun e => by have := (HI.out.own.lt _ e).2; have := HBX.out; omega)
            have HF := Lib.hid (sone_any (.slice (some ⟨gu, ou, none⟩) r.length cu) (.slice Ar l.length cr) r l W2 (HU.out.below HB2.out (by have := heap_lt HX2.out; omega)) (rd_own HI2.out.own) (by omega) (fun f hf => by have := hrb f hf; omega) (HSr.out.below (by rw [HBX.out]; exact HB2.out)))
            obtain ⟨m0, m1, m2, f0', f1, f2⟩ := cell3 HI2.out.s6
            go_upto_region 11 with (fail)
            go_wp2_with fail
            refine HF.out.mono ?_
            rintro e w3 ⟨hfr, hb3⟩
            have HX3 := Lib.hid (heap_keep HX2.out hb3); have HY3 := Lib.hid (heap_keep HY2.out hb3); have HI3 := Lib.hid (HI2.out.below hb3)
            clear hb3 n0 n1 n2 g0 g1 g2 m0 m1 m2 f0' f1 f2
            obtain ⟨n0, n1, n2, g0, g1, g2⟩ := cell3 HX3.out
            obtain ⟨e0, e1, e2, e3, e4⟩ := froz5a HY3.out
            obtain ⟨y0, y1, y2, y3, y4⟩ := cell5 HY3.out
            unfold OneR rej3 mkRow at hfr
            cases hf : Sk.one r l with
            | inl y =>
              rw [hf] at hfr
              obtain rfl := hfr
              have HNEXT := Lib.hid (show run (L.drop (k + 1)) (k + 1) ⟨q, l ++ [y], false⟩ = R by rw [HST.out, step1_ok HK0.out HEND.out hf])
              clear hf
              go_upto_region 12 with (fail)
              clear n0 n1 n2 g0 g1 g2 e0 e1 e2 e3 e4 y0 y1 y2 y3 y4
              obtain ⟨w9, hw9⟩ : ∃ w9, w9 = (((((w3.setCell ⟨bx + 1, 0, none⟩ (.int .i64 y.1.1)).setCell ⟨bx + 1, 1, none⟩ (.int .i64 y.1.2)).setCell ⟨bx + 1, 2, none⟩ (.int .i64 y.2.1)).setCell ⟨bx + 1, 3, none⟩ (.int .i64 y.2.2.1)).setCell ⟨bx + 1, 4, none⟩ (.int .i64 y.2.2.2)) := ⟨_, rfl⟩
              rw [← hw9]
              have HY9 := Lib.hid (show w9.heap[bx + 1]? = some (.cells (encR y).toArray tRow (0, 0)) by rw [hw9]; exact set5a HY3.out _ _ _ _ _)
              have HX9 := Lib.hid (show w9.heap[bx]? = some (.cells #[.int .i64 0, .int .i64 0, .int .i64 0] tRej (0, 0)) by rw [hw9]; exact set_other (set_other (set_other (set_other (set_other HX3.out (by omega) _) (by omega) _) (by omega) _) (by omega) _) (by omega) _)
              have HI9 := Lib.hid (show PInv nb b5 w1 w9 (.slice Ar l.length cr) 1 q l by rw [hw9]; exact ((((HI3.out.set (by omega) HNE1.out _).set (by omega) HNE1.out _).set (by omega) HNE1.out _).set (by omega) HNE1.out _).set (by omega) HNE1.out _)
              clear hw9
              have HNE4 := HNE
              obtain ⟨w4, hw4⟩ : ∃ w4, w4 = ((w9.setCell ⟨bx, 0, none⟩ (.int .i64 0)).setCell ⟨bx, 1, none⟩ (.int .i64 0)).setCell ⟨bx, 2, none⟩ (.int .i64 0) := ⟨_, rfl⟩
              rw [← hw4]
              have HX4 := Lib.hid (show w4.heap[bx]? = some (.cells #[.int .i64 0, .int .i64 0, .int .i64 0] tRej (0, 0)) by rw [hw4]; exact set3 HX9.out _ _ _)
              have HI4 := Lib.hid (show PInv nb b5 w1 w4 (.slice Ar l.length cr) 1 q l by rw [hw4]; exact HI9.out.set3 (by omega) HNE4.out _ _ _)
              have HY4 := Lib.hid (show w4.heap[bx + 1]? = some (.cells (encR y).toArray tRow (0, 0)) by rw [hw4]; exact set_other (set_other (set_other HY9.out (by omega) _) (by omega) _) (by omega) _)
              clear hw4
              obtain ⟨y0, y1, y2, y3, y4⟩ := cell5 HY4.out
              obtain ⟨m0, m1, m2, f0', f1, f2⟩ := cell3 HI4.out.s6
              go_upto_region 20 with (at_builtin; refine wpList_append_any _ rfl (.tmp 38) (.tmp 40) tRows rfl (b5 + 2) tRow i0 (mkRow ((0, 0), 0, 0, 0)) 5 40 Tryz.underlying22 hi hz0 hz1 hz2 rfl (by decide) (.slice Ar l.length cr) l.length (l.flatMap encR) rfl (HI4.out.own.alloc _) 1 (encR y) (src_blk (xs := encR y) (heap_new _ _) (encR_one _)) (by unfold maxLen; omega) (by omega) (by have := HI4.out.size; simp; omega) ?_; intro v6 w6 ho6 hg6 hat6; obtain ⟨A6, c6, rfl, _⟩ := own_slice ho6; have ht6 : Turned (fun j => Value.ownBlock (.slice Ar l.length cr) = some j) w4 w6 := (Turned.of_below (below_alloc _ _)).trans (Turned.of_grown hg6 (fun j h => h)); have hs6 := heap_turned HI4.out.s6 ht6 (fun e => by have := (HI4.out.own.lt _ e).1; omega); obtain ⟨t0, t1, t2, h0, h1, h2⟩ := cell3 hs6; have HT6 := Lib.hid ht6; have HO6 := Lib.hid ho6; have HAT6 := Lib.hid hat6; clear ho6 hg6 hat6 ht6 hs6)
              clear y0 y1 y2 y3 y4 m0 m1 m2 f0' f1 f2 t0 t1 t2 h0 h1 h2
              obtain ⟨w8, hw8⟩ : ∃ w8, w8 = w6.setCell ⟨b5 + 1, 2, none⟩ (.slice A6 (l.length + 1) c6) := ⟨_, rfl⟩
              rw [← hw8]
              have hi8 := HI4.out.push (y := y) HO6.out HT6.out
              rw [← hw8] at hi8
              have HX8 := Lib.hid (show w8.heap[bx]? = some (.cells #[.int .i64 0, .int .i64 0, .int .i64 0] tRej (0, 0)) by rw [hw8]; exact set_other (heap_turned HX4.out HT6.out HNE.out) (by omega) _)
              have HNE8 := Lib.hid (show Value.ownBlock (.slice A6 (l.length + 1) c6) ≠ some bx from fun e => by rcases HAT6.out with h | h; exact HNE.out (h.symm.trans e); (rw [e] at h; injection h with h; have := heap_lt HX4.out; simp at h; omega))
              have HI8 := Lib.hid hi8
              clear hw8 hi8 HX4 HI4 HY4 HNE4 HT6 HO6 HAT6
              have HX4 := HX8; have HI4 := HI8; have HNE4 := HNE8
              clear HX8 HI8 HNE8
              obtain ⟨w4, hw4⟩ : ∃ w4, w4 = w8 := ⟨_, rfl⟩
              rw [← hw4] at HX4 HI4 ⊢
              clear hw4
              obtain ⟨n0, n1, n2, g0, g1, g2⟩ := cell3 HX4.out
              have hk1 : (k : Int) + 1 ≤ 65537 := by omega
              go_wp2_with fail
              go_roundw
              case rel => exact ⟨k + 1, q, (l ++ [y]), false, _, by go_num, rfl, by omega, by simp; omega, HI4.out, HNEXT.out⟩
              case measure => simp [intOf]; omega
            | inr x =>
              rw [hf] at hfr
              obtain ⟨y, rfl⟩ := hfr
              have HBADR := Lib.hid (show R = .inr (k + 1, x.1, x.2) by rw [HST.out, step1_bad HK0.out HEND.out hf])
              obtain ⟨ci, hci⟩ : ∃ ci : Int, (x.1 : Int) = ci := ⟨_, rfl⟩
              obtain ⟨ki, hki⟩ : ∃ ki : Int, (x.2 : Int) = ki := ⟨_, rfl⟩
              have hc1 := (one_bad hf).1
              have hc0 : 0 < ci := by omega
              clear hf hc1
              rw [hci, hki]
              have HCI := Lib.hid hci; have HKI := Lib.hid hki
              clear hci hki
              go_upto_region 12 with (fail)
              clear n0 n1 n2 g0 g1 g2 e0 e1 e2 e3 e4 y0 y1 y2 y3 y4
              obtain ⟨w9, hw9⟩ : ∃ w9, w9 = (((((w3.setCell ⟨bx + 1, 0, none⟩ (.int .i64 y.1.1)).setCell ⟨bx + 1, 1, none⟩ (.int .i64 y.1.2)).setCell ⟨bx + 1, 2, none⟩ (.int .i64 y.2.1)).setCell ⟨bx + 1, 3, none⟩ (.int .i64 y.2.2.1)).setCell ⟨bx + 1, 4, none⟩ (.int .i64 y.2.2.2)) := ⟨_, rfl⟩
              rw [← hw9]
              have HY9 := Lib.hid (show w9.heap[bx + 1]? = some (.cells (encR y).toArray tRow (0, 0)) by rw [hw9]; exact set5a HY3.out _ _ _ _ _)
              have HX9 := Lib.hid (show w9.heap[bx]? = some (.cells #[.int .i64 0, .int .i64 0, .int .i64 0] tRej (0, 0)) by rw [hw9]; exact set_other (set_other (set_other (set_other (set_other HX3.out (by omega) _) (by omega) _) (by omega) _) (by omega) _) (by omega) _)
              have HI9 := Lib.hid (show PInv nb b5 w1 w9 (.slice Ar l.length cr) 1 q l by rw [hw9]; exact ((((HI3.out.set (by omega) HNE1.out _).set (by omega) HNE1.out _).set (by omega) HNE1.out _).set (by omega) HNE1.out _).set (by omega) HNE1.out _)
              clear hw9
              have HNE4 := HNE
              obtain ⟨w4, hw4⟩ : ∃ w4, w4 = ((w9.setCell ⟨bx, 0, none⟩ (.int .i64 0)).setCell ⟨bx, 1, none⟩ (.int .i64 ci)).setCell ⟨bx, 2, none⟩ (.int .i64 ki) := ⟨_, rfl⟩
              rw [← hw4]
              have HX4 := Lib.hid (show w4.heap[bx]? = some (.cells #[.int .i64 0, .int .i64 ci, .int .i64 ki] tRej (0, 0)) by rw [hw4]; exact set3 HX9.out _ _ _)
              have HI4 := Lib.hid (show PInv nb b5 w1 w4 (.slice Ar l.length cr) 1 q l by rw [hw4]; exact HI9.out.set3 (by omega) HNE4.out _ _ _)
              have HY4 := Lib.hid (show w4.heap[bx + 1]? = some (.cells (encR y).toArray tRow (0, 0)) by rw [hw4]; exact set_other (set_other (set_other HY9.out (by omega) _) (by omega) _) (by omega) _)
              clear hw4
              obtain ⟨y0, y1, y2, y3, y4⟩ := cell5 HY4.out
              obtain ⟨m0, m1, m2, f0', f1, f2⟩ := cell3 HI4.out.s6
              go_upto_region 20 with (at_builtin; refine wpList_append_any _ rfl (.tmp 38) (.tmp 40) tRows rfl (b5 + 2) tRow i0 (mkRow ((0, 0), 0, 0, 0)) 5 40 Tryz.underlying22 hi hz0 hz1 hz2 rfl (by decide) (.slice Ar l.length cr) l.length (l.flatMap encR) rfl (HI4.out.own.alloc _) 1 (encR y) (src_blk (xs := encR y) (heap_new _ _) (encR_one _)) (by unfold maxLen; omega) (by omega) (by have := HI4.out.size; simp; omega) ?_; intro v6 w6 ho6 hg6 hat6; obtain ⟨A6, c6, rfl, _⟩ := own_slice ho6; have ht6 : Turned (fun j => Value.ownBlock (.slice Ar l.length cr) = some j) w4 w6 := (Turned.of_below (below_alloc _ _)).trans (Turned.of_grown hg6 (fun j h => h)); have hs6 := heap_turned HI4.out.s6 ht6 (fun e => by have := (HI4.out.own.lt _ e).1; omega); obtain ⟨t0, t1, t2, h0, h1, h2⟩ := cell3 hs6; have HT6 := Lib.hid ht6; have HO6 := Lib.hid ho6; have HAT6 := Lib.hid hat6; clear ho6 hg6 hat6 ht6 hs6)
              clear y0 y1 y2 y3 y4 m0 m1 m2 f0' f1 f2 t0 t1 t2 h0 h1 h2
              obtain ⟨w8, hw8⟩ : ∃ w8, w8 = w6.setCell ⟨b5 + 1, 2, none⟩ (.slice A6 (l.length + 1) c6) := ⟨_, rfl⟩
              rw [← hw8]
              have hi8 := HI4.out.push (y := y) HO6.out HT6.out
              rw [← hw8] at hi8
              have HX8 := Lib.hid (show w8.heap[bx]? = some (.cells #[.int .i64 0, .int .i64 ci, .int .i64 ki] tRej (0, 0)) by rw [hw8]; exact set_other (heap_turned HX4.out HT6.out HNE.out) (by omega) _)
              have HNE8 := Lib.hid (show Value.ownBlock (.slice A6 (l.length + 1) c6) ≠ some bx from fun e => by rcases HAT6.out with h | h; exact HNE.out (h.symm.trans e); (rw [e] at h; injection h with h; have := heap_lt HX4.out; simp at h; omega))
              have HI8 := Lib.hid hi8
              clear hw8 hi8 HX4 HI4 HY4 HNE4 HT6 HO6 HAT6
              have HX4 := HX8; have HI4 := HI8; have HNE4 := HNE8
              clear HX8 HI8 HNE8
              obtain ⟨w4, hw4⟩ : ∃ w4, w4 = w8 := ⟨_, rfl⟩
              rw [← hw4] at HX4 HI4 ⊢
              clear hw4
              obtain ⟨n0, n1, n2, g0, g1, g2⟩ := cell3 HX4.out
              have hk1 : (k : Int) + 1 ≤ 65537 := by omega
              have hk0 : (0 : Int) ≤ k := by omega
              go_upto_region 22 with (fail)
              obtain ⟨w5, hw5⟩ : ∃ w5, w5 = w4.setCell ⟨bx, 0, none⟩ (.int .i64 ((k : Int) + 1)) := ⟨_, rfl⟩
              rw [← hw5]
              have hx5 : w5.heap[bx]? = some (.cells #[.int .i64 ((k : Int) + 1), .int .i64 ci, .int .i64 ki] tRej (0, 0)) := by rw [hw5]; have h := HX4.out; simp [World.setCell, Array.getElem?_modify, h]
              have hi5 := HI4.out.set (b := bx) (i := 0) (by omega) HNE4.out (.int .i64 ((k : Int) + 1))
              rw [← hw5] at hi5
              clear hw5 n0 n1 n2 g0 g1 g2
              obtain ⟨n0, n1, n2, g0, g1, g2⟩ := cell3 hx5
              obtain ⟨m0, m1, m2, f0, f1, f2⟩ := cell3 hi5.r0
              obtain ⟨p0, p1, p2, e0, e1, e2⟩ := cell3 hi5.r1
              have hlt5 := hi5.lt
              have HX5 := Lib.hid hx5; have HI5 := Lib.hid hi5
              clear hx5 hi5
              go_region
              go_wp2_with fail
              obtain ⟨w6, hw6⟩ : ∃ w6, w6 = ((w5.setCell ⟨nb, 0, none⟩ (.int .i64 0)).setCell ⟨nb, 1, none⟩ (.int .i64 0)).setCell ⟨nb, 2, none⟩ (.slice none 0 0) := ⟨_, rfl⟩
              have hr6 : w6.heap[nb]? = some (.cells #[.int .i64 0, .int .i64 0, .slice none 0 0] tStat (0, 0)) := by rw [hw6]; exact set3 HI5.out.r0 _ _ _
              have hs6 : w6.heap[nb + 1]? = some (.cells #[.int .i64 0, .int .i64 0, .int .i64 0] tRej (0, 0)) := by rw [hw6]; exact set_other (set_other (set_other HI5.out.r1 (by omega) _) (by omega) _) (by omega) _
              have hb6 : Below nb w w6 := by rw [hw6]; exact below_set3 (HB01.out.trans (HI5.out.tab.mono (by omega))) (Nat.le_refl _) _ _ _
              rw [← hw6]
              clear hw6
              obtain ⟨w7, hw7⟩ : ∃ w7, w7 = ((w6.setCell ⟨nb + 1, 0, none⟩ (.int .i64 ((k : Int) + 1))).setCell ⟨nb + 1, 1, none⟩ (.int .i64 ci)).setCell ⟨nb + 1, 2, none⟩ (.int .i64 ki) := ⟨_, rfl⟩
              have hs7 := set3 hs6 (.int .i64 ((k : Int) + 1)) (.int .i64 ci) (.int .i64 ki)
              rw [← hw7] at hs7
              have hr7 : w7.heap[nb]? = some (.cells #[.int .i64 0, .int .i64 0, .slice none 0 0] tStat (0, 0)) := by rw [hw7]; exact set_other (set_other (set_other hr6 (by omega) _) (by omega) _) (by omega) _
              have hb7 : Below nb w w7 := by rw [hw7]; exact below_set3 hb6 (by omega) _ _ _
              rw [← hw7]
              clear hw7 n0 n1 n2 g0 g1 g2 m0 m1 m2 f0 f1 f2 p0 p1 p2 e0 e1 e2
              obtain ⟨m0, m1, m2, _⟩ := cell3 hr7
              obtain ⟨n0, n1, n2, _⟩ := cell3 hs7
              refine bodyPost_ret (v := .tuple #[.agg #[.int .i64 0, .int .i64 0, .slice none 0 0], .agg #[.int .i64 ((k : Int) + 1), .int .i64 ci, .int .i64 ki]]) (by simp [results, Tryz.results15, go_sem, m0, m1, m2, n0, n1, n2]) rfl ⟨?_, below_drew1 (HNB.out ▸ hb7)⟩
              exact parsed_bad (R := ofRun L.length R) (a := k + 1) (b := x.1) (c := x.2) (by rw [HBADR.out]; rfl) (by omega) HCI.out.symm HKI.out.symm
    · have hRE := run_end hkl ⟨q, l, en⟩
      rw [HR.out] at hRE
      have HRE := Lib.hid hRE
      obtain rfl : k = L.length := by omega
      have hll : (L.length : Int) + 1 ≤ 65537 := by omega
      clear hRE HR hk hkl
      obtain ⟨m0, m1, m2, f0, f1, f2⟩ := cell3 HI.out.r0
      obtain ⟨p0, p1, p2, e0, e1, e2⟩ := cell3 HI.out.r1
      have hlt5 := HI.out.lt
      cases en with
      | false =>
        go_wp2_with fail
        obtain ⟨w6, hw6⟩ : ∃ w6, w6 = ((wr.setCell ⟨nb, 0, none⟩ (.int .i64 0)).setCell ⟨nb, 1, none⟩ (.int .i64 0)).setCell ⟨nb, 2, none⟩ (.slice none 0 0) := ⟨_, rfl⟩
        have hr6 : w6.heap[nb]? = some (.cells #[.int .i64 0, .int .i64 0, .slice none 0 0] tStat (0, 0)) := by rw [hw6]; exact set3 HI.out.r0 _ _ _
        have hs6 : w6.heap[nb + 1]? = some (.cells #[.int .i64 0, .int .i64 0, .int .i64 0] tRej (0, 0)) := by rw [hw6]; exact set_other (set_other (set_other HI.out.r1 (by omega) _) (by omega) _) (by omega) _
        have ho6 : w6.ownsRow (b5 + 2) tRow 5 vr l.length (l.flatMap encR) := by rw [hw6]; exact own_turned HI.out.own (turned_set3 wr nb _ _ _) (fun j hj e => by have := (HI.out.own.lt j hj).1; omega)
        have hb6 : Below nb w w6 := by rw [hw6]; exact below_set3 (HB01.out.trans (HI.out.tab.mono (by omega))) (Nat.le_refl _) _ _ _
        rw [← hw6]
        clear hw6
        obtain ⟨w7, hw7⟩ : ∃ w7, w7 = ((w6.setCell ⟨nb + 1, 0, none⟩ (.int .i64 ((L.length : Int) + 1))).setCell ⟨nb + 1, 1, none⟩ (.int .i64 1)).setCell ⟨nb + 1, 2, none⟩ (.int .i64 7) := ⟨_, rfl⟩
        have hs7 := set3 hs6 (.int .i64 ((L.length : Int) + 1)) (.int .i64 1) (.int .i64 7)
        rw [← hw7] at hs7
        have hr7 : w7.heap[nb]? = some (.cells #[.int .i64 0, .int .i64 0, .slice none 0 0] tStat (0, 0)) := by rw [hw7]; exact set_other (set_other (set_other hr6 (by omega) _) (by omega) _) (by omega) _
        have ho7 : w7.ownsRow (b5 + 2) tRow 5 vr l.length (l.flatMap encR) := by rw [hw7]; exact own_turned ho6 (turned_set3 w6 (nb + 1) _ _ _) (fun j hj e => by have := (ho6.lt j hj).1; omega)
        have hb7 : Below nb w w7 := by rw [hw7]; exact below_set3 hb6 (by omega) _ _ _
        rw [← hw7]
        clear hw7 m0 m1 m2 f0 f1 f2 p0 p1 p2 e0 e1 e2
        obtain ⟨m0, m1, m2, _⟩ := cell3 hr7
        obtain ⟨n0, n1, n2, _⟩ := cell3 hs7
        refine bodyPost_ret (v := .tuple #[.agg #[.int .i64 0, .int .i64 0, .slice none 0 0], .agg #[.int .i64 ((L.length : Int) + 1), .int .i64 1, .int .i64 7]]) (by simp [results, Tryz.results15, go_sem, m0, m1, m2, n0, n1, n2]) rfl ⟨?_, HNB.out ▸ hb7⟩
        exact parsed_bad (R := ofRun L.length R) (a := L.length + 1) (b := 1) (c := 7) (by rw [HRE.out]; rfl) (by omega) (by omega) (by omega)
      | true =>
        obtain ⟨Ar, cr, rfl, _⟩ := own_slice HI.out.own
        obtain ⟨s0, s1, s2, _⟩ := cell3 HI.out.s6
        go_wp2_with fail
        clear s0 s1 s2
        obtain ⟨w6, hw6⟩ : ∃ w6, w6 = ((wr.setCell ⟨nb, 0, none⟩ (.int .i64 1)).setCell ⟨nb, 1, none⟩ (.int .i64 q)).setCell ⟨nb, 2, none⟩ (.slice Ar l.length cr) := ⟨_, rfl⟩
        have hr6 : w6.heap[nb]? = some (.cells #[.int .i64 1, .int .i64 q, .slice Ar l.length cr] tStat (0, 0)) := by rw [hw6]; exact set3 HI.out.r0 _ _ _
        have hs6 : w6.heap[nb + 1]? = some (.cells #[.int .i64 0, .int .i64 0, .int .i64 0] tRej (0, 0)) := by rw [hw6]; exact set_other (set_other (set_other HI.out.r1 (by omega) _) (by omega) _) (by omega) _
        have ho6 : w6.ownsRow (b5 + 2) tRow 5 (.slice Ar l.length cr) l.length (l.flatMap encR) := by rw [hw6]; exact own_turned HI.out.own (turned_set3 wr nb _ _ _) (fun j hj e => by have := (HI.out.own.lt j hj).1; omega)
        have hb6 : Below nb w w6 := by rw [hw6]; exact below_set3 (HB01.out.trans (HI.out.tab.mono (by omega))) (Nat.le_refl _) _ _ _
        rw [← hw6]
        clear hw6
        obtain ⟨w7, hw7⟩ : ∃ w7, w7 = ((w6.setCell ⟨nb + 1, 0, none⟩ (.int .i64 0)).setCell ⟨nb + 1, 1, none⟩ (.int .i64 0)).setCell ⟨nb + 1, 2, none⟩ (.int .i64 0) := ⟨_, rfl⟩
        have hs7 := set3 hs6 (.int .i64 0) (.int .i64 0) (.int .i64 0)
        rw [← hw7] at hs7
        have hr7 : w7.heap[nb]? = some (.cells #[.int .i64 1, .int .i64 q, .slice Ar l.length cr] tStat (0, 0)) := by rw [hw7]; exact set_other (set_other (set_other hr6 (by omega) _) (by omega) _) (by omega) _
        have ho7 : w7.ownsRow (b5 + 2) tRow 5 (.slice Ar l.length cr) l.length (l.flatMap encR) := by rw [hw7]; exact own_turned ho6 (turned_set3 w6 (nb + 1) _ _ _) (fun j hj e => by have := (ho6.lt j hj).1; omega)
        have hb7 : Below nb w w7 := by rw [hw7]; exact below_set3 hb6 (by omega) _ _ _
        rw [← hw7]
        clear hw7 m0 m1 m2 f0 f1 f2 p0 p1 p2 e0 e1 e2
        obtain ⟨m0, m1, m2, _⟩ := cell3 hr7
        obtain ⟨n0, n1, n2, _⟩ := cell3 hs7
        refine bodyPost_ret (v := .tuple #[.agg #[.int .i64 1, .int .i64 q, .slice Ar l.length cr], .agg #[.int .i64 0, .int .i64 0, .int .i64 0]]) (by simp [results, Tryz.results15, go_sem, m0, m1, m2, n0, n1, n2]) rfl ⟨?_, HNB.out ▸ hb7⟩
        refine ⟨.slice Ar l.length cr, ?_, ?_⟩
        · rw [HRE.out]; rfl
        · rw [HRE.out]; exact rd_own ho7

set_option linter.unusedSimpArgs false in
set_option linter.unusedVariables false in
set_option maxRecDepth 100000 in
set_option maxHeartbeats 4000000 in
theorem sparse_bad (s : ByteArray) (w : World) (L : List Line) (a b c : Nat) (hc : c ≠ 0) (hcall : ∀ W, Calls Tryz.prog 26 #[.string s] W fun e w' => (∃ v, e = .returned (.tuple #[v, rejV (a, b, c)]) ∧ Rowz w' w'.heap.size v L) ∧ Below W.heap.size W w') :
    Calls Tryz.prog 15 #[.string s] w fun e w' => ParsedS ((0, 0, []), a, b, c) e w' ∧ Below w.heap.size w w' := by
  obtain ⟨wa, hwa⟩ : ∃ wa, (w.alloc (.cells #[.int .i64 0, .int .i64 0, .slice none 0 0] tStat)).alloc (.cells #[.int .i64 0, .int .i64 0, .int .i64 0] tRej) = wa := ⟨_, rfl⟩
  have hWA := Lib.hid hwa
  obtain ⟨ai, hai⟩ : ∃ ai : Int, (a : Int) = ai := ⟨_, rfl⟩
  obtain ⟨bi, hbi⟩ : ∃ bi : Int, (b : Int) = bi := ⟨_, rfl⟩
  obtain ⟨ci, hci⟩ : ∃ ci : Int, (c : Int) = ci := ⟨_, rfl⟩
  unfold rejV at hcall
  simp only [hai, hbi, hci] at hcall
  have HCALL := Lib.hid hcall
  have hcn := bneT (show ¬ ci = 0 by omega)
  have HA := Lib.hid hai; have HB := Lib.hid hbi; have HC := Lib.hid hci
  clear hcall hwa hai hbi hci hc
  go_enter Tryz.func15, Tryz.ntmps15
  go_upto_region 1 with (fail)
  rw [hWA.out]
  go_wp2_with fail
  refine (HCALL.out _).mono ?_
  rintro e w1 ⟨⟨v, rfl, _⟩, hb1⟩
  go_upto_region 2 with (fail)
  obtain ⟨W, hW⟩ : ∃ W, W = w1.alloc (.cells #[.int .i64 ai, .int .i64 bi, .int .i64 ci] tRej) := ⟨_, rfl⟩
  rw [← hW]
  have h2 := two_blocks w (.cells #[.int .i64 0, .int .i64 0, .slice none 0 0] tStat) (.cells #[.int .i64 0, .int .i64 0, .int .i64 0] tRej) rfl
  rw [hWA.out] at h2
  have h3 := one_block w1 _ hW.symm
  have HR0 := Lib.hid (heap_keep (heap_keep h2.2.1 hb1) h3.1); have HR1 := Lib.hid (heap_keep (heap_keep h2.2.2 hb1) h3.1); have HX := Lib.hid h3.2
  have HBL := Lib.hid (bch (bch h2.1 hb1 h2.1.size) h3.1 (bch h2.1 hb1 h2.1.size).size)
  have hlt : w.heap.size + 1 < w1.heap.size := heap_lt (heap_keep h2.2.2 hb1)
  clear hW h2 h3 hb1
  generalize hnb : w.heap.size = nb at HR0 HR1 HBL hlt ⊢
  generalize w1.heap.size = b5 at HX hlt ⊢
  have HNB := Lib.hid hnb
  clear hnb
  obtain ⟨n0, n1, n2, g0, g1, g2⟩ := cell3 HX.out
  obtain ⟨m0, m1, m2, f0, f1, f2⟩ := cell3 HR0.out
  obtain ⟨p0, p1, p2, e0, e1, e2⟩ := cell3 HR1.out
  go_wp2_with fail
  go_region
  go_wp2_with fail
  obtain ⟨w6, hw6⟩ : ∃ w6, w6 = ((W.setCell ⟨nb, 0, none⟩ (.int .i64 0)).setCell ⟨nb, 1, none⟩ (.int .i64 0)).setCell ⟨nb, 2, none⟩ (.slice none 0 0) := ⟨_, rfl⟩
  have hr6 : w6.heap[nb]? = some (.cells #[.int .i64 0, .int .i64 0, .slice none 0 0] tStat (0, 0)) := by rw [hw6]; exact set3 HR0.out _ _ _
  have hs6 : w6.heap[nb + 1]? = some (.cells #[.int .i64 0, .int .i64 0, .int .i64 0] tRej (0, 0)) := by rw [hw6]; exact set_other (set_other (set_other HR1.out (by omega) _) (by omega) _) (by omega) _
  have hb6 : Below nb w w6 := by rw [hw6]; exact below_set3 HBL.out (Nat.le_refl _) _ _ _
  rw [← hw6]
  clear hw6
  obtain ⟨w7, hw7⟩ : ∃ w7, w7 = ((w6.setCell ⟨nb + 1, 0, none⟩ (.int .i64 ai)).setCell ⟨nb + 1, 1, none⟩ (.int .i64 bi)).setCell ⟨nb + 1, 2, none⟩ (.int .i64 ci) := ⟨_, rfl⟩
  have hs7 := set3 hs6 (.int .i64 ai) (.int .i64 bi) (.int .i64 ci)
  rw [← hw7] at hs7
  have hr7 : w7.heap[nb]? = some (.cells #[.int .i64 0, .int .i64 0, .slice none 0 0] tStat (0, 0)) := by rw [hw7]; exact set_other (set_other (set_other hr6 (by omega) _) (by omega) _) (by omega) _
  have hb7 : Below nb w w7 := by rw [hw7]; exact below_set3 hb6 (by omega) _ _ _
  rw [← hw7]
  clear hw7 m0 m1 m2 f0 f1 f2 p0 p1 p2 e0 e1 e2 n0 n1 n2 g0 g1 g2
  obtain ⟨m0, m1, m2, _⟩ := cell3 hr7
  obtain ⟨n0, n1, n2, _⟩ := cell3 hs7
  refine bodyPost_ret (v := .tuple #[.agg #[.int .i64 0, .int .i64 0, .slice none 0 0], .agg #[.int .i64 ai, .int .i64 bi, .int .i64 ci]]) (by simp [results, Tryz.results15, go_sem, m0, m1, m2, n0, n1, n2]) rfl ⟨?_, below_drew1 (HNB.out ▸ hb7)⟩
  exact parsed_bad rfl HA.out.symm HB.out.symm HC.out.symm
/-- stock.Parse: what a file's reading comes to. -/
theorem sparse_any (s : ByteArray) (w : World) (hS : SkW w) : Calls Tryz.prog 15 #[.string s] w fun e w' => ParsedS (parseS s.data.toList) e w' ∧ Below w.heap.size w w' := by
  have hcall : ∀ W, Calls Tryz.prog 26 #[.string s] W fun e w' => Told (Csv.parse s.data.toList) e w' ∧ Below W.heap.size W w' := fun W => by
    by_cases h : s.size ≤ 65536
    · exact parse_any s W h
    · exact parse_long s W h
  rcases csv_cases s.data.toList with ⟨a, b, c, e, hc, _, _⟩ | ⟨L, e, _⟩
  · have hp : parseS s.data.toList = ((0, 0, []), a, b, c) := by unfold parseS; rw [e]; simp only []; rw [if_neg hc]
    rw [hp]
    refine sparse_bad s w [] a b c hc fun W => (hcall W).mono fun e2 w' h => ⟨?_, h.2⟩
    have h1 := h.1
    rw [e] at h1
    exact h1
  · have hp : parseS s.data.toList = ofTable L := by unfold parseS; rw [e]; rfl
    rw [hp]
    exact sparse_ok s w L e hcall hS
end Go.Proofs.YtgpjbigelblanaaGreatDoor

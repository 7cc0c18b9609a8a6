/- A party in memory, by what it is; New, none, write. -/
import Derived.Test.YtkmpagijdhhinaaDoorPartyOf
import Derived.Test.YtkmpagijdhhinaaDoorMapEntry
import Derived.StillTailTactics
import Derived.Deep.RegionHeld3
namespace Go.Proofs.YtkmpagijdhhinaaDoor
open Go.RowKit Go.Maps Key Od Pa

/-- Whatever lay there lies there, but for the blocks of S. -/
structure Turned (S : Nat → Prop) (w w' : World) : Prop where
  os : w'.os = w.os
  tape : w'.tape = w.tape
  output : w'.output = w.output
  size : w.heap.size ≤ w'.heap.size
  block : ∀ i, i < w.heap.size → ¬ S i → w'.heap[i]? = w.heap[i]?
theorem Turned.refl (S : Nat → Prop) (w : World) : Turned S w w := ⟨rfl, rfl, rfl, Nat.le_refl _, fun _ _ _ => rfl⟩
theorem Turned.trans {S : Nat → Prop} {a b c : World} (h : Turned S a b) (k : Turned S b c) : Turned S a c :=
  ⟨k.os.trans h.os, k.tape.trans h.tape, k.output.trans h.output, Nat.le_trans h.size k.size, fun i hi hs => (k.block i (Nat.lt_of_lt_of_le hi h.size) hs).trans (h.block i hi hs)⟩
theorem Turned.mono {S S' : Nat → Prop} {a b : World} (h : Turned S a b) (hs : ∀ i, S i → S' i) : Turned S' a b := ⟨h.os, h.tape, h.output, h.size, fun i hi h' => h.block i hi (fun x => h' (hs i x))⟩
theorem Turned.of_below {S : Nat → Prop} {a b : World} (h : Below a.heap.size a b) : Turned S a b := ⟨h.os, h.tape, h.output, h.size, fun i hi _ => h.block i hi⟩
theorem Turned.of_grown {S : Nat → Prop} {a b : World} {r : Option Nat} (h : a.grownBy b r) (hr : ∀ j, r = some j → S j) : Turned S a b := ⟨h.os, h.tape, h.output, h.size, fun i hi hs => h.block i hi (fun e => hs (hr i e.symm))⟩
/-- New blocks may turn as they like. -/
theorem Turned.far {S : Nat → Prop} {a b c : World} (h : Turned S a b) (k : Turned (fun i => S i ∨ a.heap.size ≤ i) b c) : Turned S a c :=
  ⟨k.os.trans h.os, k.tape.trans h.tape, k.output.trans h.output, Nat.le_trans h.size k.size, fun i hi hs => (k.block i (Nat.lt_of_lt_of_le hi h.size) (fun x => x.elim hs (fun x => by omega))).trans (h.block i hi hs)⟩
theorem Below.turned {B : Nat} {a b c : World} {S : Nat → Prop} (h : Below B a b) (k : Turned S b c) (hs : ∀ i, S i → B ≤ i) (hB : B ≤ b.heap.size) : Below B a c :=
  ⟨k.os.trans h.os, k.tape.trans h.tape, k.output.trans h.output, Nat.le_trans h.size k.size, fun i hi => (k.block i (by omega) (fun x => by have := hs i x; omega)).trans (h.block i hi)⟩

abbrev tParty : TypeId := 57
def lookT (T : List (List UInt8 × Int)) (s : List UInt8) : Int := ((T.find? fun x => decide (x.1 = s)).map (·.2)).getD 0
def TakenOk (T : List (List UInt8 × Int)) (g : List (Int × List UInt8 × Int)) : Prop := (∀ x ∈ T, x.1.length ≤ 8) ∧ ∀ s, s.length ≤ 8 → lookT T s = used g s
def WhatOk (W : List ((Int × Int) × List UInt8)) (r : List (Int × List UInt8)) : Prop := ∀ k s, (k, s) ∈ W ↔ k.2 = 0 ∧ (k.1, s) ∈ r

structure PA (w : World) (p bk tk wh : Nat) (kind stock limit seq : Int) (m : Nat) (st : St) : Prop where
  hd : w.heap[p]? = some (.cells #[.int .i64 kind, .int .i64 stock, .int .i64 limit, .map (some bk), .map (some tk), .map (some wh), .int .i64 seq] tParty (0, 0))
  book : MapL Tryd.prog tKey mkKey mkRow w bk (entR st.rows)
  taken : ∃ T, MapL Tryd.prog tGoods mkGoods mkInt w tk T ∧ TakenOk T st.gs ∧ T.length ≤ m
  what : ∃ W, MapL Tryd.prog tKey mkKey mkGoods w wh W ∧ WhatOk W st.rs ∧ W.length ≤ m
  ne : bk ≠ tk ∧ bk ≠ wh ∧ tk ≠ wh

theorem map_ne {P : Program} {k : TypeId} {κ α : Type} {mkK : κ → Value} {mkV : α → Value} {w : World} {b p : Nat} {E : List (κ × α)} {cs : Array Value} {T : TypeId} {fr : Nat × Nat} (h : MapL P k mkK mkV w b E) (hp : w.heap[p]? = some (.cells cs T fr)) : p ≠ b := fun e => by
  subst e
  obtain ⟨⟨D, ⟨es, c, hb, _⟩, _⟩, _, _⟩ := h
  rw [hp] at hb
  cases hb
theorem PA.lt {w : World} {p bk tk wh : Nat} {kind stock limit seq : Int} {m : Nat} {st : St} (h : PA w p bk tk wh kind stock limit seq m st) : p < w.heap.size ∧ bk < w.heap.size ∧ tk < w.heap.size ∧ wh < w.heap.size ∧ p ≠ bk ∧ p ≠ tk ∧ p ≠ wh := by
  obtain ⟨T, ht, _⟩ := h.taken
  obtain ⟨W, hw, _⟩ := h.what
  exact ⟨heap_lt h.hd, h.book.lt, ht.lt, hw.lt, map_ne h.book h.hd, map_ne ht h.hd, map_ne hw h.hd⟩
theorem PA.turned {w w' : World} {p bk tk wh : Nat} {kind stock limit seq : Int} {m : Nat} {st : St} (h : PA w p bk tk wh kind stock limit seq m st) {S : Nat → Prop} (ht : Turned S w w') (h0 : ¬ S p) (h1 : ¬ S bk) (h2 : ¬ S tk) (h3 : ¬ S wh) : PA w' p bk tk wh kind stock limit seq m st := by
  have hl := h.lt
  obtain ⟨T, hT, hT'⟩ := h.taken
  obtain ⟨W, hW, hW'⟩ := h.what
  exact ⟨(ht.block p hl.1 h0).trans h.hd, h.book.block (ht.block bk hl.2.1 h1), ⟨T, hT.block (ht.block tk hl.2.2.1 h2), hT'⟩, ⟨W, hW.block (ht.block wh hl.2.2.2.1 h3), hW'⟩, h.ne⟩
theorem PA.more {w : World} {p bk tk wh : Nat} {kind stock limit seq : Int} {m m' : Nat} {st : St} (h : PA w p bk tk wh kind stock limit seq m st) (hm : m ≤ m') : PA w p bk tk wh kind stock limit seq m' st := by
  obtain ⟨T, hT, hT', hl⟩ := h.taken
  obtain ⟨W, hW, hW', hl'⟩ := h.what
  exact ⟨h.hd, h.book, ⟨T, hT, hT', Nat.le_trans hl hm⟩, ⟨W, hW, hW', Nat.le_trans hl' hm⟩, h.ne⟩
theorem PA.below {w w' : World} {p bk tk wh : Nat} {kind stock limit seq : Int} {m : Nat} {st : St} (h : PA w p bk tk wh kind stock limit seq m st) (hb : Below w.heap.size w w') : PA w' p bk tk wh kind stock limit seq m st :=
  h.turned (S := fun _ => False) (Turned.of_below hb) id id id id

theorem nonep_no (w : World) (p bk tk wh : Nat) (kind stock limit seq : Int) (m : Nat) (st : St) (h : PA w p bk tk wh kind stock limit seq m st) :
    Calls Tryd.prog 26 #[.pointer (some ⟨p, 0, none⟩)] w fun e w' => e = .returned (.bool false) ∧ w = w' := by
  have hm := fun w r => run_eql_map_nil (P := Tryd.prog) w tBook tKey tRow r mapBook
  have c3 := cell_at h.hd 3 rfl
  clear h
  go_enter Tryd.func26, Tryd.ntmps26
  go_wp2_with fail
  go_ret
  exact ⟨rfl, rfl⟩

set_option maxRecDepth 100000 in
set_option maxHeartbeats 1000000 in
theorem write_any (w : World) (p bk tk wh : Nat) (kind stock limit seq : Int) (m : Nat) (st : St) (o d cd amt qty : Int) (done : Bool) (h : PA w p bk tk wh kind stock limit seq m st) (hn : st.rows.length < 100000) (hk : chk o d = true) (hnew : ∀ y ∈ st.rows, y.1 ≠ (o, d)) :
    Calls Tryd.prog 53 #[.pointer (some ⟨p, 0, none⟩), .agg #[.int .i64 o, .int .i64 d, .int .i64 cd, .int .i64 amt, .int .i64 qty], .bool done] w fun e w' => e = .returned (.tuple #[]) ∧ PA w' p bk tk wh kind stock limit seq m { st with rows := insR st.rows ((o, d), if done then (1, amt, qty) else (2, 0, 0)) } ∧ Turned (fun i => i = bk) w w' := by
  have HP := Lib.hid h
  have hl := h.lt
  obtain ⟨kl, hkl⟩ := key_chk (k := (o, d)) hk
  have HL := Lib.hid hkl
  have HST := Lib.hid (fun r => store_ins (l := st.rows) (x := ((o, d), r)) hnew)
  clear h hkl hnew
  cases done with
  | true =>
    go_enter Tryd.func53, Tryd.ntmps53
    go_wp2_with fail
    have hB := below_alloc w (.cells #[.int .i64 o, .int .i64 d, .int .i64 1, .int .i64 amt, .int .i64 qty] tRow)
    have HP1 := Lib.hid (HP.out.below hB)
    have HB := Lib.hid hB
    have hr := heap_new w (.cells #[.int .i64 o, .int .i64 d, .int .i64 1, .int .i64 amt, .int .i64 qty] tRow)
    obtain ⟨e0, e1, e2, e3, e4⟩ := cell5 hr
    have c3 := cell_at HP1.out.hd 3 rfl
    clear hB hr
    generalize w.alloc (.cells #[.int .i64 o, .int .i64 d, .int .i64 1, .int .i64 amt, .int .i64 qty] tRow) = w1 at HP1 HB e0 e1 e2 e3 e4 c3 ⊢
    refine wp_region_still_tail 7 (by kernel_rfl) (by kernel_rfl) ?_
    simp only [List.take_succ_cons, List.take_zero, List.drop_succ_cons, List.drop_zero]
    iterate 7 still_step
    refine wpStill_nil ?_
    change wpList _ _ _ _ _ w1.drew
    refine wpList_storeL _ rfl (.tmp 15) (.tmp 17) (.tmp 18) tBook rfl tKey tRow lawKey mapBook bk (entR st.rows) rfl (HP1.out.book.block rfl) (by rw [entR_len]; unfold maxLen; omega) (o, d) ((o, d), 1, amt, qty) rfl rfl HL.out (mkKey_inj _) ?_
    intro w2 hm2 ht2
    go_wp2_with fail
    go_end0
    have ht : Turned (fun i => i = bk) w1 w2 := (Turned.of_below (below_drew1 (Below.refl _ _))).trans (Turned.of_grown ht2.grown (fun j hj => by cases hj; rfl))
    obtain ⟨T, hT, hT'⟩ := HP1.out.taken
    obtain ⟨W, hW, hW'⟩ := HP1.out.what
    have hl1 := HP1.out.lt
    have hne := HP1.out.ne
    refine ⟨rfl, ⟨(ht.block p hl1.1 hl1.2.2.2.2.1).trans HP1.out.hd, hm2.perm (HST.out (1, amt, qty)), ⟨T, hT.block (ht.block tk hl1.2.2.1 (fun e => hne.1 e.symm)), hT'⟩, ⟨W, hW.block (ht.block wh hl1.2.2.2.1 (fun e => hne.2.1 e.symm)), hW'⟩, hne⟩, (Turned.of_below HB.out).trans ht⟩
  | false =>
    go_enter Tryd.func53, Tryd.ntmps53
    go_wp2_with fail
    have hB := below_alloc w (.cells #[.int .i64 o, .int .i64 d, .int .i64 2, .int .i64 0, .int .i64 0] tRow)
    have HP1 := Lib.hid (HP.out.below hB)
    have HB := Lib.hid hB
    have hr := heap_new w (.cells #[.int .i64 o, .int .i64 d, .int .i64 2, .int .i64 0, .int .i64 0] tRow)
    obtain ⟨e0, e1, e2, e3, e4⟩ := cell5 hr
    have c3 := cell_at HP1.out.hd 3 rfl
    clear hB hr
    generalize w.alloc (.cells #[.int .i64 o, .int .i64 d, .int .i64 2, .int .i64 0, .int .i64 0] tRow) = w1 at HP1 HB e0 e1 e2 e3 e4 c3 ⊢
    refine wp_region_still_tail 7 (by kernel_rfl) (by kernel_rfl) ?_
    simp only [List.take_succ_cons, List.take_zero, List.drop_succ_cons, List.drop_zero]
    iterate 7 still_step
    refine wpStill_nil ?_
    change wpList _ _ _ _ _ w1.drew
    refine wpList_storeL _ rfl (.tmp 15) (.tmp 17) (.tmp 18) tBook rfl tKey tRow lawKey mapBook bk (entR st.rows) rfl (HP1.out.book.block rfl) (by rw [entR_len]; unfold maxLen; omega) (o, d) ((o, d), 2, 0, 0) rfl rfl HL.out (mkKey_inj _) ?_
    intro w2 hm2 ht2
    go_wp2_with fail
    go_end0
    have ht : Turned (fun i => i = bk) w1 w2 := (Turned.of_below (below_drew1 (Below.refl _ _))).trans (Turned.of_grown ht2.grown (fun j hj => by cases hj; rfl))
    obtain ⟨T, hT, hT'⟩ := HP1.out.taken
    obtain ⟨W, hW, hW'⟩ := HP1.out.what
    have hl1 := HP1.out.lt
    have hne := HP1.out.ne
    refine ⟨rfl, ⟨(ht.block p hl1.1 hl1.2.2.2.2.1).trans HP1.out.hd, hm2.perm (HST.out (2, 0, 0)), ⟨T, hT.block (ht.block tk hl1.2.2.1 (fun e => hne.1 e.symm)), hT'⟩, ⟨W, hW.block (ht.block wh hl1.2.2.2.1 (fun e => hne.2.1 e.symm)), hW'⟩, hne⟩, (Turned.of_below HB.out).trans ht⟩

set_option maxRecDepth 100000 in
set_option maxHeartbeats 1000000 in
theorem new_any (w : World) (kind stock limit : Int) (hk : 0 ≤ kind ∧ kind ≤ 2) : Calls Tryd.prog 10 #[.int .i64 kind, .int .i64 stock, .int .i64 limit] w fun e w' => ∃ p bk tk wh, e = .returned (.pointer (some ⟨p, 0, none⟩)) ∧ PA w' p bk tk wh kind (min (max stock 0) 1000000000) limit 0 0 ⟨[], [], []⟩ ∧ w.heap.size ≤ p ∧ w.heap.size ≤ bk ∧ w.heap.size ≤ tk ∧ w.heap.size ≤ wh ∧ Below w.heap.size w w' := by
  have hmm := @run_makeMap Tryd.prog
  obtain ⟨k0, k2⟩ := hk
  obtain ⟨S, hS⟩ : ∃ S, min (max stock 0) 1000000000 = S := ⟨_, rfl⟩
  go_enter Tryd.func10, Tryd.ntmps10
  go_wp2_with fail
  go_ret
  have m1 := MapL.made Tryd.prog tKey mkKey mkRow w
  have m2 := MapL.made Tryd.prog tGoods mkGoods mkInt (w.alloc (.map #[] 0))
  have m3 := MapL.made Tryd.prog tKey mkKey mkGoods ((w.alloc (.map #[] 0)).alloc (.map #[] 0))
  rw [show (w.alloc (.map #[] 0)).heap.size = w.heap.size + 1 by simp] at m2
  rw [show ((w.alloc (.map #[] 0)).alloc (.map #[] 0)).heap.size = w.heap.size + 1 + 1 by simp] at m3
  have hd := heap_new (((w.alloc (.map #[] 0)).alloc (.map #[] 0)).alloc (.map #[] 0)) (.cells #[.int .i64 kind, .int .i64 S, .int .i64 limit, .map (some w.heap.size), .map (some (w.heap.size + 1)), .map (some (w.heap.size + 1 + 1)), .int .i64 0] tParty)
  rw [show (((w.alloc (.map #[] 0)).alloc (.map #[] 0)).alloc (.map #[] 0)).heap.size = w.heap.size + 1 + 1 + 1 by simp] at hd
  rw [hS]
  refine ⟨_, _, _, _, rfl, ⟨hd, ((m1.alloc _).alloc _).alloc _, ⟨[], (m2.alloc _).alloc _, ⟨by simp, fun s _ => by simp [lookT, used]⟩, Nat.le_refl _⟩, ⟨[], m3.alloc _, fun k s => by simp, Nat.le_refl _⟩, by omega, by omega, by omega⟩, by omega, by omega, by omega, by omega, ?_⟩
  exact ((((below_alloc w _).alloc (by simp) _).alloc (by simp; omega) _).alloc (by simp; omega) _)
theorem new_no (w : World) (kind stock limit : Int) (hk : ¬ (0 ≤ kind ∧ kind ≤ 2)) : Calls Tryd.prog 10 #[.int .i64 kind, .int .i64 stock, .int .i64 limit] w fun e w' => e = .returned (.pointer none) ∧ w = w' := by
  by_cases h : kind < 0
  · go_enter Tryd.func10, Tryd.ntmps10
    go_wp2_with fail
    go_ret
    exact ⟨rfl, rfl⟩
  · have h2 : 2 < kind := by omega
    go_enter Tryd.func10, Tryd.ntmps10
    go_wp2_with fail
    go_ret
    exact ⟨rfl, rfl⟩
end Go.Proofs.YtkmpagijdhhinaaDoor

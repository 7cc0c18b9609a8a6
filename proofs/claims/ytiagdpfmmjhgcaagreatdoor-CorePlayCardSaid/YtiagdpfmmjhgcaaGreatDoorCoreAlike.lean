/- Arrays of ints: are they the same? Of no program. -/
import Derived.Laws.StructEq
import Derived.Lib.Hide
import Derived.Test.YtiagdpfmmjhgcaaGreatDoorRefOCk
import Derived.Deep.CutRange
import Derived.Test.YtiagdpfmmjhgcaaGreatDoorShort
import Derived.Test.YtiagdpfmmjhgcaaGreatDoorShelf
import Derived.Test.YtiagdpfmmjhgcaaGreatDoorRefAsks
namespace Go.Proofs.YtiagdpfmmjhgcaaGreatDoor
open Go

theorem all_range_int : ∀ (xs ys : List Int), xs.length = ys.length → ((List.range xs.length).all fun i => xs.getD i 0 == ys.getD i 0) = (xs == ys)
  | [], [], _ => rfl
  | x :: xs, y :: ys, h => by
    have ih := all_range_int xs ys (by simpa using h)
    rw [List.length_cons, List.range_succ_eq_map, List.all_cons, List.all_map]
    simp only [List.getD_cons_zero, Function.comp_def, List.getD_cons_succ, ih]
    simp [List.cons_beq_cons]
  | [], _ :: _, h => by simp at h
  | _ :: _, [], h => by simp at h

section
variable {P : Program} (w : World)
theorem run_equalIn_ints (d : Nat) (t e : TypeId) (n : Nat) (k k' : IntKind) (ht : P.underlying t = some (.array n e)) (he : P.underlying e = some (.int k')) (hsz : ∀ w, (sizeOf e).run P w = .ok 1 w)
    (xs ys : List Int) (hx : xs.length = n) (hy : ys.length = n) :
    (Op.equalIn (d + 2) t (.agg (xs.map (Value.int k)).toArray) (.agg (ys.map (Value.int k)).toArray)).run P w = .ok (xs == ys) w := by
  rw [← all_range_int xs ys (hx.trans hy.symm), hx, List.range_eq_range', Op.equalIn]
  simp only [Sem.run_bind, run_underlying ht, Result.andThen_ok, hsz, Std.Legacy.Range.forIn_eq_forIn_range', Std.Legacy.Range.size, Nat.sub_zero, Nat.add_sub_cancel, Nat.div_one]
  have hl : ∀ i ∈ List.range' 0 n 1, i < n := fun i hi => by simpa using (List.mem_range'_1.1 hi).2
  generalize List.range' 0 n 1 = l at hl ⊢
  induction l with
  | nil => simp
  | cons i l ih =>
    have hi : i < n := hl i (by simp)
    have px : (part e (xs.map (Value.int k)).toArray (i * 1)).run P w = .ok (.int k (xs.getD i 0)) w := by
      simp [part, isAgg, run_underlying he, List.getD, List.getElem?_eq_getElem (show i < xs.length by omega)]
    have py : (part e (ys.map (Value.int k)).toArray (i * 1)).run P w = .ok (.int k (ys.getD i 0)) w := by
      simp [part, isAgg, run_underlying he, List.getD, List.getElem?_eq_getElem (show i < ys.length by omega)]
    have pe : (Op.equalIn (d + 1) e (.int k (xs.getD i 0)) (.int k (ys.getD i 0))).run P w = .ok (xs.getD i 0 == ys.getD i 0) w := run_equalIn_int w d e k k' _ _ he
    simp only [List.forIn_cons, Sem.run_bind, px, py, pe, Result.andThen_ok, List.all_cons]
    cases hb : (xs.getD i 0 == ys.getD i 0)
    · simp
    · simp only [Bool.not_true, Bool.false_eq_true, if_false, Sem.run_pure, Result.andThen_ok, Bool.true_and]
      exact ih fun j hj => hl j (by simp [hj])
end
end Go.Proofs.YtiagdpfmmjhgcaaGreatDoor
/- Have two cores come to the same? -/
namespace Go.Proofs.YtiagdpfmmjhgcaaGreatDoor
open Go.RowKit Go.Maps Key Rw Sa Co
set_option linter.unusedSimpArgs false
set_option linter.unusedVariables false
set_option maxRecDepth 100000
set_option maxHeartbeats 16000000

theorem two_boxes' (w : World) (o p : Obj) {W : World} (h : (w.alloc o).alloc p = W) : Below w.heap.size w W ∧ W.heap[w.heap.size]? = some o ∧ W.heap[w.heap.size + 1]? = some p := by
 subst h
 refine ⟨(below_alloc w _).alloc (by simp) _, heap_keep (heap_new w _) (below_alloc _ _), ?_⟩
 have := heap_new (w.alloc o) p
 rwa [show (w.alloc o).heap.size = w.heap.size + 1 by simp] at this
theorem eqRow_any (w : World) (o d t n p o' d' t' n' p' : Int) : Calls Tryz.prog 74 #[.agg #[.int .i64 o, .int .i64 d, .int .i64 t, .int .i64 n, .int .i64 p], .agg #[.int .i64 o', .int .i64 d', .int .i64 t', .int .i64 n', .int .i64 p']] w fun e w' => ∃ b, e = .returned (.bool b) ∧ (b = true ↔ ((o, d), t, n, p) = ((o', d'), t', n', p')) ∧ Below w.heap.size w w' := by
 obtain ⟨wb, hwb⟩ : ∃ wb, (w.alloc (.cells #[.int .i64 o, .int .i64 d, .int .i64 t, .int .i64 n, .int .i64 p] tRow)).alloc (.cells #[.int .i64 o', .int .i64 d', .int .i64 t', .int .i64 n', .int .i64 p'] tRow) = wb := ⟨_, rfl⟩
 have h2 := two_boxes' w _ _ hwb
 have HB := Hd h2.1
 obtain ⟨m0, m1, m2, m3, m4⟩ := cell5 h2.2.1
 obtain ⟨q0, q1, q2, q3, q4⟩ := cell5 h2.2.2
 have hWB := Hd hwb
 clear hwb h2
 go_enter Tryz.func74, Tryz.ntmps74
 go_upto_region 1 with (fail)
 rw [hWB.out]
 go_wp2_with fail
 all_goals go_ret
 all_goals exact ⟨_, rfl, by simp_all, HB.out⟩
theorem eqFunc_any (w : World) (u v : Value) (l m : List R5) (hu : Rd w u l) (hv : Rd w v m) (hl : l.length < 100000) (hm : m.length < 100000) :
  Calls Tryz.prog 75 #[u, v, .func (.func 74) #[] #[]] w fun e w' => ∃ b, e = .returned (.bool b) ∧ (b = true ↔ l = m) ∧ Below w.heap.size w w' := by
 obtain ⟨A, c, rfl, _⟩ := hu.shape
 obtain ⟨A', c', rfl, _⟩ := hv.shape
 have HU := Hd hu; have HV := Hd hv
 clear hu hv
 by_cases hlen : l.length = m.length
 ·have hq := bneF (show (l.length : Int) = m.length by omega)
  have HLEN := Hd hlen
  clear hlen
  go_enter Tryz.func75, Tryz.ntmps75
  go_wp2_with fail
  go_loopw [17] (fun i wr => ∃ k : Nat, i = .int .i64 k ∧ k ≤ l.length ∧ Hid (l.take k = m.take k) ∧ Hid (Below w.heap.size w wr)) (fun i _ => l.length - (intOf i).toNat)
  case atStart => exact ⟨0, rfl, by omega, rfl, Below.refl _ _⟩
  case round =>
   obtain ⟨k, rfl, hk, HE, HBr⟩ := hrel
   by_cases hkl : k < l.length
   ·obtain ⟨x, hx⟩ : ∃ x, l[k]? = some x := ⟨_, List.getElem?_eq_getElem hkl⟩
    obtain ⟨y, hy⟩ : ∃ y, m[k]? = some y := ⟨_, List.getElem?_eq_getElem (by have := HLEN.out; omega)⟩
    have HXY := Hd (show l.take (k + 1) = l.take k ++ [x] ∧ m.take (k + 1) = m.take k ++ [y] by rw [List.take_add_one, List.take_add_one, hx, hy]; exact ⟨rfl, rfl⟩)
    have HNE := Hd (show x ≠ y → l ≠ m from fun h e => by rw [e, hy] at hx; exact h (Option.some.inj hx).symm)
    obtain ⟨g, off, n', c1, e, c01, c02, c03, c04, c05⟩ := HU.out.cells HBr.out hx
    injection e with e1 e2 e3; subst e1; clear e2 e3
    obtain ⟨g', off', n', c1, e, d01, d02, d03, d04, d05⟩ := HV.out.cells HBr.out hy
    injection e with e1 e2 e3; subst e1; clear e2 e3
    obtain ⟨⟨o, d⟩, t, n, p⟩ := x
    have hlt : (k : Int) < l.length := by omega
    have hltm : (k : Int) < m.length := by have := HLEN.out; omega
    have hk0 : (0 : Int) ≤ k := by omega
    go_upto_region 6 with (fail)
    obtain ⟨w2, hw2⟩ : ∃ w2, w2 = wr.alloc (.cells #[.int .i64 o, .int .i64 d, .int .i64 t, .int .i64 n, .int .i64 p] tRow) := ⟨_, rfl⟩
    rw [← hw2]
    have hb2 : Below wr.heap.size wr w2 := by rw [hw2]; exact below_alloc _ _
    have HX2 := Hd (show w2.heap[wr.heap.size]? = some (.cells #[.int .i64 o, .int .i64 d, .int .i64 t, .int .i64 n, .int .i64 p] tRow (0, 0)) by rw [hw2]; exact heap_new _ _)
    have HB2 := Hd (bch HBr.out hb2 HBr.out.size)
    have hlen2 : w.heap.size ≤ wr.heap.size := HBr.out.size
    clear hw2 hb2 c01 c02 c03 c04 c05 d01 d02 d03 d04 d05
    obtain ⟨g2, off2, n', c1, e, d01, d02, d03, d04, d05⟩ := HV.out.cells HB2.out hy
    injection e with e1 e2 e3
    injection e1 with e1
    injection e1 with e1 e4
    subst e1; subst e4
    clear e2 e3 hx hy
    obtain ⟨⟨o', d'⟩, t', n', p'⟩ := y
    generalize wr.heap.size = br at HX2 hlen2 ⊢
    obtain ⟨q0, q1, q2, q3, q4⟩ := cell5 HX2.out
    go_upto_region 7 with (fail)
    obtain ⟨w3, hw3⟩ : ∃ w3, w3 = w2.alloc (.cells #[.int .i64 o', .int .i64 d', .int .i64 t', .int .i64 n', .int .i64 p'] tRow) := ⟨_, rfl⟩
    rw [← hw3]
    have hb3 : Below w2.heap.size w2 w3 := by rw [hw3]; exact below_alloc _ _
    have HY3 := Hd (show w3.heap[w2.heap.size]? = some (.cells #[.int .i64 o', .int .i64 d', .int .i64 t', .int .i64 n', .int .i64 p'] tRow (0, 0)) by rw [hw3]; exact heap_new _ _)
    have HX3 := Hd (heap_keep HX2.out hb3); have HB3 := Hd (bch HB2.out hb3 HB2.out.size)
    clear hw3 hb3 d01 d02 d03 d04 d05 q0 q1 q2 q3 q4
    generalize w2.heap.size = b2 at HY3 ⊢
    obtain ⟨q0, q1, q2, q3, q4⟩ := cell5 HX3.out
    obtain ⟨r0, r1, r2, r3, r4⟩ := cell5 HY3.out
    go_wp2_with fail
    refine (eqRow_any w3 o d t n p o' d' t' n' p').mono ?_
    rintro e w4 ⟨b, rfl, hbi, hb4⟩
    have HB4 := Hd (bch HB3.out hb4 HB3.out.size); have HBI := Hd hbi
    clear hb4 hbi q0 q1 q2 q3 q4 r0 r1 r2 r3 r4
    cases b with
    | true =>
     have HXE := Hd (show l.take (k + 1) = m.take (k + 1) by rw [HXY.out.1, HXY.out.2, HE.out, HBI.out.1 rfl])
     clear HBI HXY
     go_wp2_with fail
     go_roundw
     case rel => exact ⟨k + 1, by go_num, by omega, HXE.out, HB4.out⟩
     case measure => simp [intOf]; omega
    | false =>
     have HLM := Hd (HNE.out (fun h2 => by have := HBI.out.2 h2; cases this))
     clear HBI HXY HNE
     go_wp2_with fail
     go_ret
     exact ⟨false, rfl, ⟨fun h => (by cases h), fun h => absurd h HLM.out⟩, HB4.out⟩
   ·obtain rfl : k = l.length := by omega
    have HEQ := Hd (show l = m by have := HE.out; rw [List.take_length, HLEN.out, List.take_length] at this; exact this)
    go_wp2_with fail
    go_ret
    exact ⟨true, rfl, ⟨fun _ => HEQ.out, fun _ => rfl⟩, HBr.out⟩
 ·have hq := bneT (show ¬ (l.length : Int) = m.length by omega)
  have HNE := Hd (show l ≠ m from fun h => hlen (by rw [h]))
  go_enter Tryz.func75, Tryz.ntmps75
  go_wp2_with fail
  go_ret
  exact ⟨false, rfl, ⟨fun h => (by cases h), fun h => absurd h HNE.out⟩, Below.refl _ _⟩
theorem rowsSame_any (w : World) (u v : Value) (l m : List R5) (p s p' s' : Int) (hu : Rd w u l) (hv : Rd w v m) (hl : l.length < 100000) (hm : m.length < 100000) :
  Calls Tryz.prog 43 #[.agg #[.int .i64 p, .int .i64 s, u], .agg #[.int .i64 p', .int .i64 s', v]] w fun e w' => ∃ b, e = .returned (.bool b) ∧ (b = true ↔ (p, s, l) = (p', s', m)) ∧ Below w.heap.size w w' := by
 obtain ⟨A, c, rfl, _⟩ := hu.shape
 obtain ⟨A', c', rfl, _⟩ := hv.shape
 obtain ⟨wb, hwb⟩ : ∃ wb, (w.alloc (.cells #[.int .i64 p, .int .i64 s, .slice A l.length c] tStat)).alloc (.cells #[.int .i64 p', .int .i64 s', .slice A' m.length c'] tStat) = wb := ⟨_, rfl⟩
 have h2 := two_boxes' w _ _ hwb
 have HB := Hd h2.1
 obtain ⟨m0, m1, m2⟩ := cell3c h2.2.1
 obtain ⟨q0, q1, q2⟩ := cell3c h2.2.2
 have HE := Hd (eqFunc_any wb _ _ l m (hu.keep h2.1) (hv.keep h2.1) hl hm)
 have hWB := Hd hwb
 clear hu hv hwb h2
 by_cases h1 : p = p'
 ·have g1 := beqT h1
  by_cases h2 : s = s'
  ·have g2 := beqT h2
   have HH := Hd h1; have HH2 := Hd h2
   clear h1 h2
   go_enter Tryz.func43, Tryz.ntmps43
   go_upto_region 1 with (fail)
   rw [hWB.out]
   go_wp2_with fail
   refine HE.out.mono ?_
   rintro e w2 ⟨b, rfl, hbi, hb⟩
   have HBI := Hd hbi; have HB2 := Hd (bch HB.out hb HB.out.size)
   clear hbi hb
   go_wp2_with fail
   all_goals go_ret
   all_goals exact ⟨_, rfl, ⟨fun h => (by simp only [HH.out, HH2.out, HBI.out.1 (by simpa using h)]), fun h => (by have h3 := HBI.out.2 (Prod.mk.inj (Prod.mk.inj h).2).2; simpa using h3)⟩, HB2.out⟩
  ·have g2 := beqF h2
   have HH := Hd h2
   clear h1 h2
   go_enter Tryz.func43, Tryz.ntmps43
   go_upto_region 1 with (fail)
   rw [hWB.out]
   go_wp2_with fail
   go_ret
   exact ⟨false, rfl, ⟨fun h => (by cases h), fun h => absurd (Prod.mk.inj (Prod.mk.inj h).2).1 HH.out⟩, HB.out⟩
 ·have g1 := beqF h1
  have HH := Hd h1
  clear h1
  go_enter Tryz.func43, Tryz.ntmps43
  go_upto_region 1 with (fail)
  rw [hWB.out]
  go_wp2_with fail
  go_ret
  exact ⟨false, rfl, ⟨fun h => (by cases h), fun h => absurd (Prod.mk.inj h).1 HH.out⟩, HB.out⟩
theorem saga_eq6 (d : Nat) (s t : Sg) (W : World) : (Op.equalIn (d + 2) 43 (.agg #[.int .i64 s.d0, .int .i64 s.d1, .int .i64 s.d2, .int .i64 s.d3, .int .i64 s.d4, .int .i64 s.d5]) (.agg #[.int .i64 t.d0, .int .i64 t.d1, .int .i64 t.d2, .int .i64 t.d3, .int .i64 t.d4, .int .i64 t.d5])).run Tryz.prog W = .ok ([s.d0, s.d1, s.d2, s.d3, s.d4, s.d5] == [t.d0, t.d1, t.d2, t.d3, t.d4, t.d5]) W :=
 run_equalIn_ints W d 43 3 6 .i64 .i64 Tryz.underlying43 Tryz.underlying3 (fun w => by kernel_rfl) [s.d0, s.d1, s.d2, s.d3, s.d4, s.d5] [t.d0, t.d1, t.d2, t.d3, t.d4, t.d5] rfl rfl
theorem saga_neq (s t : Sg) (W : World) : ∃ b, (binOp .neq tSaga (sgV s) (sgV t)).run Tryz.prog W = .ok (.bool b) W ∧ (b = false ↔ s = t) := by
 have h6 := fun d => saga_eq6 d s t W
 rw [run_neq_struct]
 have e1 : (Op.equalIn 10000 tSaga (sgV s) (sgV t)).run Tryz.prog W = (Op.eqFields 9999 (sgA s) (sgA t) (Tryz.prog.fieldsOf tSaga).toList).run Tryz.prog W := run_equalIn_agg W 9999 tSaga _ _ (by kernel_rfl) (by kernel_rfl)
 rw [e1]
 go_simp
 by_cases h : s = t
 ·subst h
  exact .inl ⟨by simp, rfl⟩
 ·refine .inr ⟨fun h1 h2 h3 h4 h5 h6 h7 h8 h9 h10 h11 h12 => h ?_, h⟩
  cases s; cases t
  simp_all
theorem saga_neqT {s t : Sg} (h : s ≠ t) (W : World) : (binOp .neq tSaga (sgV s) (sgV t)).run Tryz.prog W = .ok (.bool true) W := by
 obtain ⟨b, hb, hi⟩ := saga_neq s t W
 cases b with
 | false => exact absurd (hi.1 rfl) h
 | true => exact hb
theorem saga_neqF (s : Sg) (W : World) : (binOp .neq tSaga (sgV s) (sgV s)).run Tryz.prog W = .ok (.bool false) W := by
 obtain ⟨b, hb, hi⟩ := saga_neq s s W
 rw [hi.2 rfl] at hb
 exact hb
theorem post_neq (s t : Po) (W : World) : ∃ b, (binOp .neq tPost (mkPost s) (mkPost t)).run Tryz.prog W = .ok (.bool b) W ∧ (b = false ↔ s = t) := by
 rw [run_neq_struct]
 have e1 : (Op.equalIn 10000 tPost (mkPost s) (mkPost t)).run Tryz.prog W = (Op.eqFields 9999 #[.string ⟨s.id.toArray⟩, .int .i64 s.ord, .int .i64 s.deb, .int .i64 s.cre, .int .i64 s.amt] #[.string ⟨t.id.toArray⟩, .int .i64 t.ord, .int .i64 t.deb, .int .i64 t.cre, .int .i64 t.amt] (Tryz.prog.fieldsOf tPost).toList).run Tryz.prog W := run_equalIn_agg W 9999 tPost _ _ (by kernel_rfl) (by kernel_rfl)
 rw [e1]
 go_simp
 by_cases h : s = t
 ·subst h
  exact .inl ⟨by simp, rfl⟩
 ·refine .inr ⟨fun h1 h2 h3 h4 h5 => h ?_, h⟩
  cases s; cases t
  simp_all
theorem post_neqT {s t : Po} (h : s ≠ t) (W : World) : (binOp .neq tPost (mkPost s) (mkPost t)).run Tryz.prog W = .ok (.bool true) W := by
 obtain ⟨b, hb, hi⟩ := post_neq s t W
 cases b with
 | false => exact absurd (hi.1 rfl) h
 | true => exact hb
theorem post_neqF (s : Po) (W : World) : (binOp .neq tPost (mkPost s) (mkPost s)).run Tryz.prog W = .ok (.bool false) W := by
 obtain ⟨b, hb, hi⟩ := post_neq s s W
 rw [hi.2 rfl] at hb
 exact hb
theorem inn_ext {I J : In.Inn} (h0 : I.a = J.a) (h1 : I.b = J.b) (h2 : I.c = J.c) : I = J := by cases I; cases J; simp_all
theorem cor_ext {c d : Cor} (h0 : c.l = d.l) (h1 : c.b = d.b) (h2 : c.inn = d.inn) : c = d := by cases c; cases d; simp_all
theorem csame_any {B B' : Nat} {w : World} {cb bb pm bm cb2 bb2 pm2 bm2 : Nat} {vl vb vI vl2 vb2 vI2 : Value} {c d : Cor} (h1 : Cw B w cb bb pm bm vl vb vI c) (h2 : Cw B' w cb2 bb2 pm2 bm2 vl2 vb2 vI2 d) (hl1 : c.l.length ≤ 100000) (hb1 : c.b.length ≤ 100000) (hl2 : d.l.length ≤ 100000) (hb2 : d.b.length ≤ 100000)
  (hi1 : c.inn.a.2.2.length < 100000 ∧ c.inn.b.2.2.length < 100000 ∧ c.inn.c.2.2.length < 100000) (hi2 : d.inn.a.2.2.length < 100000 ∧ d.inn.b.2.2.length < 100000 ∧ d.inn.c.2.2.length < 100000) :
  Calls Tryz.prog 12 #[.pointer (some ⟨cb, 0, none⟩), .pointer (some ⟨cb2, 0, none⟩)] w fun e w' => ∃ b, e = .returned (.bool b) ∧ (b = true ↔ c = d) ∧ Below w.heap.size w w' := by
 have H1 := Hd h1; have H2 := Hd h2
 clear h1 h2
 go_enter Tryz.func12, Tryz.ntmps12
 go_wp2_with (go_at_call 18; first | (with_reducible refine (cnone_any H1.out).mono ?_; rintro e w1 ⟨rfl, hb⟩; subst hb) | (with_reducible refine (cnone_any H2.out).mono ?_; rintro e w1 ⟨rfl, hb⟩; subst hb))
 refine (cparts_any H1.out hl1 hb1).mono ?_
 rintro r w1 ⟨As, cs, Ap, cp, A0, c0, A1, c1, A2, c2, rfl, ho1, ho2, hr0, hr1, hr2, hb, _⟩
 have HO1 := Hd ho1; have HO2 := Hd ho2; have HR0 := Hd hr0; have HR1 := Hd hr1; have HR2 := Hd hr2; have HB1 := Hd hb; have H21 := Hd (H2.out.below hb)
 clear ho1 ho2 hr0 hr1 hr2 hb H1 H2
 go_wp2_with fail
 refine (cparts_any H21.out hl2 hb2).mono ?_
 rintro r w2 ⟨Es, es, Ep, ep, E0, e0, E1, e1, E2, e2, rfl, ho1, ho2, hr0, hr1, hr2, hb, _⟩
 obtain ⟨wp, hwp⟩ : ∃ wp, (w2.alloc (.cells #[.slice As c.l.length cs, .slice Ap c.b.length cp, .int .i64 c.inn.a.1, .int .i64 c.inn.a.2.1, .slice A0 c.inn.a.2.2.length c0, .int .i64 c.inn.b.1, .int .i64 c.inn.b.2.1, .slice A1 c.inn.b.2.2.length c1, .int .i64 c.inn.c.1, .int .i64 c.inn.c.2.1, .slice A2 c.inn.c.2.2.length c2] tPartsC)).alloc (.cells #[.slice Es d.l.length es, .slice Ep d.b.length ep, .int .i64 d.inn.a.1, .int .i64 d.inn.a.2.1, .slice E0 d.inn.a.2.2.length e0, .int .i64 d.inn.b.1, .int .i64 d.inn.b.2.1, .slice E1 d.inn.b.2.2.length e1, .int .i64 d.inn.c.1, .int .i64 d.inn.c.2.1, .slice E2 d.inn.c.2.2.length e2] tPartsC) = wp := ⟨_, rfl⟩
 obtain ⟨hb4, hpa, hpb⟩ := two_boxes' w2 _ _ hwp
 have hb5 := bch hb hb4 hb.size
 have HPA := Hd hpa; have HPB := Hd hpb
 have HS1 := Hd ((sgs_own HO1.out).keep hb5); have HP1 := Hd (own_keep HO2.out hb5); have HQ0 := Hd (HR0.out.keep hb5); have HQ1 := Hd (HR1.out.keep hb5); have HQ2 := Hd (HR2.out.keep hb5)
 have HS2 := Hd ((sgs_own ho1).keep hb4); have HP2 := Hd (own_keep ho2 hb4); have HU0 := Hd (hr0.keep hb4); have HU1 := Hd (hr1.keep hb4); have HU2 := Hd (hr2.keep hb4)
 have HBP := Hd (bch HB1.out hb5 HB1.out.size); have HWP := Hd hwp
 clear ho1 ho2 hr0 hr1 hr2 hb hb4 hb5 hpa hpb hwp HO1 HO2 HR0 HR1 HR2 HB1 H21
 go_upto_region 4 with (fail)
 rw [HWP.out]
 generalize w2.heap.size = ba at HPA HPB ⊢
 clear HWP
 obtain ⟨m0, m1, m2, m3, m4, m5, m6, m7, m8, m9, m10⟩ := cell11 HPA.out
 obtain ⟨n0, n1, n2, n3, n4, n5, n6, n7, n8, n9, n10⟩ := cell11 HPB.out
 by_cases hll : c.l.length = d.l.length
 ·have q1 := bneF (show (c.l.length : Int) = d.l.length by omega)
  have HLL := Hd hll
  clear hll
  by_cases hlb : c.b.length = d.b.length
  ·have q2 := bneF (show (c.b.length : Int) = d.b.length by omega)
   have HLB := Hd hlb
   clear hlb
   go_wp2_with fail
   go_loopw [44] (fun i wr => ∃ k : Nat, i = .int .i64 k ∧ k ≤ c.l.length ∧ Hid (c.l.take k = d.l.take k) ∧ Hid (Below wp.heap.size wp wr)) (fun i _ => c.l.length - (intOf i).toNat)
   case atStart => exact ⟨0, rfl, by omega, rfl, Below.refl _ _⟩
   case round =>
    clear m0 m1 m2 m3 m4 m5 m6 m7 m8 m9 m10 n0 n1 n2 n3 n4 n5 n6 n7 n8 n9 n10
    obtain ⟨k, rfl, hk, HE, HBr⟩ := hrel
    have HPAr := Hd (heap_keep HPA.out HBr.out); have HPBr := Hd (heap_keep HPB.out HBr.out)
    obtain ⟨m0, m1, m2, m3, m4, m5, m6, m7, m8, m9, m10⟩ := cell11 HPAr.out
    obtain ⟨n0, n1, n2, n3, n4, n5, n6, n7, n8, n9, n10⟩ := cell11 HPBr.out
    have hk0 : (0 : Int) ≤ k := by omega
    by_cases hkl : k < c.l.length
    ·obtain ⟨x, hx⟩ : ∃ x, c.l[k]? = some x := ⟨_, List.getElem?_eq_getElem hkl⟩
     obtain ⟨y, hy⟩ : ∃ y, d.l[k]? = some y := ⟨_, List.getElem?_eq_getElem (by have := HLL.out; omega)⟩
     have hlt : (k : Int) < c.l.length := by omega
     have hlt2 : (k : Int) < d.l.length := by have := HLL.out; omega
     obtain ⟨g, off, n', c', e, p0, p1, p2, p3, p4, p5, p6, p7, p8, p9, p10, p11⟩ := HS1.out.cells HBr.out hx
     injection e with e1' e2' e3'; subst e1'; clear e2' e3'
     obtain ⟨g2, off2, n', c', e, r0, r1, r2, r3, r4, r5, r6, r7, r8, r9, r10, r11⟩ := HS2.out.cells HBr.out hy
     injection e with e1' e2' e3'; subst e1'; clear e2' e3'
     by_cases hxy : x = y
     ·subst hxy
      have hcmp := fun W => saga_neqF x W
      have HE2 := Hd (show c.l.take (k + 1) = d.l.take (k + 1) by rw [List.take_add_one, List.take_add_one, hx, hy, HE.out])
      clear hx hy
      go_wp2_with fail
      go_quiet (fail)
      go_wp2_with fail
      go_roundw
      case rel => exact ⟨k + 1, by go_num, by omega, HE2.out, below_drewN HBr.out _⟩
      case measure => simp [intOf]; omega
     ·have hcmp := fun W => saga_neqT hxy W
      have HNE := Hd (show c ≠ d from fun h => hxy (by rw [h, hy] at hx; exact (Option.some.inj hx).symm))
      clear hx hy hxy
      go_wp2_with fail
      go_quiet (fail)
      go_wp2_with fail
      go_ret
      exact ⟨false, rfl, ⟨fun h => (by cases h), fun h => absurd h HNE.out⟩, below_drewN (bch HBP.out HBr.out HBP.out.size) _⟩
    ·obtain rfl : k = c.l.length := by omega
     have HCL := Hd (show c.l = d.l by have := HE.out; rw [List.take_length, HLL.out, List.take_length] at this; exact this)
     go_wp2_with fail
     go_loopw [62] (fun i wr => ∃ k : Nat, i = .int .i64 k ∧ k ≤ c.b.length ∧ Hid (c.l = d.l ∧ c.b.take k = d.b.take k) ∧ Hid (Below wp.heap.size wp wr)) (fun i _ => c.b.length - (intOf i).toNat)
     case atStart => exact ⟨0, rfl, by omega, ⟨HCL.out, rfl⟩, HBr.out⟩
     case round =>
      clear m0 m1 m2 m3 m4 m5 m6 m7 m8 m9 m10 n0 n1 n2 n3 n4 n5 n6 n7 n8 n9 n10
      obtain ⟨k, rfl, hk, HE, HBr⟩ := hrel
      have HPAr := Hd (heap_keep HPA.out HBr.out); have HPBr := Hd (heap_keep HPB.out HBr.out)
      obtain ⟨m0, m1, m2, m3, m4, m5, m6, m7, m8, m9, m10⟩ := cell11 HPAr.out
      obtain ⟨n0, n1, n2, n3, n4, n5, n6, n7, n8, n9, n10⟩ := cell11 HPBr.out
      have hk0 : (0 : Int) ≤ k := by omega
      by_cases hkl : k < c.b.length
      ·obtain ⟨x, hx⟩ : ∃ x, c.b[k]? = some x := ⟨_, List.getElem?_eq_getElem hkl⟩
       obtain ⟨y, hy⟩ : ∃ y, d.b[k]? = some y := ⟨_, List.getElem?_eq_getElem (by have := HLB.out; omega)⟩
       have hlt : (k : Int) < c.b.length := by omega
       have hlt2 : (k : Int) < d.b.length := by have := HLB.out; omega
       have ho1 := own_keep HP1.out HBr.out
       have ho2 := own_keep HP2.out HBr.out
       obtain ⟨_, h0⟩ | ⟨g1, d1, q1, _, _, hc1⟩ := own_ptr ho1
       ·omega
       obtain ⟨_, h0⟩ | ⟨g2, d2, q2, _, _, hc2⟩ := own_ptr ho2
       ·have := HLB.out; omega
       injection q1 with q1 q3 q4; subst q1; clear q3 q4
       injection q2 with q2 q3 q4; subst q2; clear q3 q4
       have a0 := own_cellK encP_len (by decide) ho1 hx 0 (by decide)
       have a1 := own_cellK encP_len (by decide) ho1 hx 1 (by decide)
       have a2 := own_cellK encP_len (by decide) ho1 hx 2 (by decide)
       have a3 := own_cellK encP_len (by decide) ho1 hx 3 (by decide)
       have a4 := own_cellK encP_len (by decide) ho1 hx 4 (by decide)
       have b0 := own_cellK encP_len (by decide) ho2 hy 0 (by decide)
       have b1 := own_cellK encP_len (by decide) ho2 hy 1 (by decide)
       have b2 := own_cellK encP_len (by decide) ho2 hy 2 (by decide)
       have b3 := own_cellK encP_len (by decide) ho2 hy 3 (by decide)
       have b4 := own_cellK encP_len (by decide) ho2 hy 4 (by decide)
       simp only [encP, List.getElem?_cons_zero, List.getElem?_cons_succ, Nat.add_zero] at a0 a1 a2 a3 a4 b0 b1 b2 b3 b4
       clear ho1 ho2 hc1 hc2
       by_cases hxy : x = y
       ·subst hxy
        have hcmp := fun W => post_neqF x W
        have HE2 := Hd (show c.l = d.l ∧ c.b.take (k + 1) = d.b.take (k + 1) from ⟨HE.out.1, by rw [List.take_add_one, List.take_add_one, hx, hy, HE.out.2]⟩)
        clear hx hy
        go_wp2_with fail
        go_quiet (fail)
        go_wp2_with fail
        go_roundw
        case rel => exact ⟨k + 1, by go_num, by omega, HE2.out, below_drewN HBr.out _⟩
        case measure => simp [intOf]; omega
       ·have hcmp := fun W => post_neqT hxy W
        have HNE := Hd (show c ≠ d from fun h => hxy (by rw [h, hy] at hx; exact (Option.some.inj hx).symm))
        clear hx hy hxy
        go_wp2_with fail
        go_quiet (fail)
        go_wp2_with fail
        go_ret
        exact ⟨false, rfl, ⟨fun h => (by cases h), fun h => absurd h HNE.out⟩, below_drewN (bch HBP.out HBr.out HBP.out.size) _⟩
      ·obtain rfl : k = c.b.length := by omega
       have HBB := Hd (show c.b = d.b by have := HE.out.2; rw [List.take_length, HLB.out, List.take_length] at this; exact this)
       go_wp2_with fail
       go_loopw [77] (fun i wr => ∃ k : Nat, i = .int .i64 k ∧ k ≤ 3 ∧ Hid (c.l = d.l ∧ c.b = d.b ∧ (0 < k → c.inn.a = d.inn.a) ∧ (1 < k → c.inn.b = d.inn.b) ∧ (2 < k → c.inn.c = d.inn.c)) ∧ Hid (Below wp.heap.size wp wr)) (fun i _ => 3 - (intOf i).toNat)
       case atStart => exact ⟨0, rfl, by omega, ⟨HE.out.1, HBB.out, fun h => absurd h (by omega), fun h => absurd h (by omega), fun h => absurd h (by omega)⟩, HBr.out⟩
       case round =>
        clear m0 m1 m2 m3 m4 m5 m6 m7 m8 m9 m10 n0 n1 n2 n3 n4 n5 n6 n7 n8 n9 n10
        obtain ⟨k, rfl, hk, HE, HBr⟩ := hrel
        have HPAr := Hd (heap_keep HPA.out HBr.out); have HPBr := Hd (heap_keep HPB.out HBr.out)
        obtain ⟨m0, m1, m2, m3, m4, m5, m6, m7, m8, m9, m10⟩ := cell11 HPAr.out
        obtain ⟨n0, n1, n2, n3, n4, n5, n6, n7, n8, n9, n10⟩ := cell11 HPBr.out
        have hk0 : (0 : Int) ≤ k := by omega
        by_cases hkl : k < 3
        ·rcases (show k = 0 ∨ k = 1 ∨ k = 2 by omega) with rfl | rfl | rfl
         ·have HRS := Hd (fun W (hW : Below wp.heap.size wp W) => rowsSame_any W _ _ c.inn.a.2.2 d.inn.a.2.2 c.inn.a.1 c.inn.a.2.1 d.inn.a.1 d.inn.a.2.1 (HQ0.out.keep hW) (HU0.out.keep hW) hi1.1 hi2.1)
          go_wp2_with fail
          have HH := Hd (fun W (hb : Below wr.heap.size wr W) => (⟨Hd hb, kc hb m2, kc hb m3, kc hb m4, kc hb n2, kc hb n3, kc hb n4⟩ : (fun w' => Hid (Below wr.heap.size wr w') ∧ w'.cell? ⟨ba, 2, none⟩ = some (.int .i64 c.inn.a.1) ∧ w'.cell? ⟨ba, 3, none⟩ = some (.int .i64 c.inn.a.2.1) ∧ w'.cell? ⟨ba, 4, none⟩ = some (.slice A0 c.inn.a.2.2.length c0) ∧ w'.cell? ⟨ba + 1, 2, none⟩ = some (.int .i64 d.inn.a.1) ∧ w'.cell? ⟨ba + 1, 3, none⟩ = some (.int .i64 d.inn.a.2.1) ∧ w'.cell? ⟨ba + 1, 4, none⟩ = some (.slice E0 d.inn.a.2.2.length e0)) W))
          refine wp_region_noPanic ?_
          refine wp_region_held_drew (S := (fun w' => Hid (Below wr.heap.size wr w') ∧ w'.cell? ⟨ba, 2, none⟩ = some (.int .i64 c.inn.a.1) ∧ w'.cell? ⟨ba, 3, none⟩ = some (.int .i64 c.inn.a.2.1) ∧ w'.cell? ⟨ba, 4, none⟩ = some (.slice A0 c.inn.a.2.2.length c0) ∧ w'.cell? ⟨ba + 1, 2, none⟩ = some (.int .i64 d.inn.a.1) ∧ w'.cell? ⟨ba + 1, 3, none⟩ = some (.int .i64 d.inn.a.2.1) ∧ w'.cell? ⟨ba + 1, 4, none⟩ = some (.slice E0 d.inn.a.2.2.length e0))) (by kernel_rfl) (HH.out _ (below_drew1 (Below.refl wr.heap.size wr))) (fun hHeld => ?_)
          refine tk 0 rfl rfl ‹_› ?_; try go_frame
          refine tk 1 rfl rfl ‹_› ?_; try go_frame
          refine tk 2 rfl rfl ‹_› ?_; try go_frame
          refine tk 3 rfl rfl ‹_› ?_; try go_frame
          refine tk 4 rfl rfl ‹_› ?_; try go_frame
          refine tk 5 rfl rfl ‹_› ?_; try go_frame
          refine tk 6 rfl rfl ‹_› ?_; try go_frame
          refine tk 7 rfl rfl ‹_› ?_; try go_frame
          refine rdy 8 rfl (fun K hK => ?_)
          go_simp
          refine (HRS.out _ (bch HBr.out (below_drew1 (Below.refl wr.heap.size wr)) HBr.out.size)).mono ?_
          rintro e w5 ⟨bb', rfl, hbi, hb⟩
          have HW5 := Hd (bch (below_drew1 (Below.refl wr.heap.size wr)) hb (Below.size (below_drew1 (Below.refl wr.heap.size wr)))); have HBI := Hd hbi
          clear hb hbi
          refine hK.out _ _ (HH.out _ (HW5.out)) (fun hHeld => ?_)
          clear hK K
          (try simp only [gx1, gx2, gx3]); try go_frame
          refine tk 9 rfl rfl ‹_› ?_; try go_frame
          refine wpAnyH_done (by kernel_rfl) ?_ _
          refine NoPanic.normal ?_
          have HB5 := Hd (bch HBr.out HW5.out HBr.out.size)
          clear hHeld HH HRS
          cases bb' with
          | true =>
           have HQE := Hd (show c.inn.a = d.inn.a from HBI.out.1 rfl)
           clear HBI
           go_wp2_with fail
           go_roundw
           case rel => exact ⟨1, rfl, by omega, ⟨HE.out.1, HE.out.2.1, fun _ => HQE.out, fun h => absurd h (by omega), fun h => absurd h (by omega)⟩, HB5.out⟩
           case measure => simp [intOf]
          | false =>
           have HNE := Hd (show c ≠ d from fun h => by have := HBI.out.2 (by rw [h]); cases this)
           clear HBI
           go_wp2_with fail
           go_ret
           exact ⟨false, rfl, ⟨fun h => (by cases h), fun h => absurd h HNE.out⟩, bch HBP.out HB5.out HBP.out.size⟩
         ·have HRS := Hd (fun W (hW : Below wp.heap.size wp W) => rowsSame_any W _ _ c.inn.b.2.2 d.inn.b.2.2 c.inn.b.1 c.inn.b.2.1 d.inn.b.1 d.inn.b.2.1 (HQ1.out.keep hW) (HU1.out.keep hW) hi1.2.1 hi2.2.1)
          go_wp2_with fail
          have HH := Hd (fun W (hb : Below wr.heap.size wr W) => (⟨Hd hb, kc hb m5, kc hb m6, kc hb m7, kc hb n5, kc hb n6, kc hb n7⟩ : (fun w' => Hid (Below wr.heap.size wr w') ∧ w'.cell? ⟨ba, 5, none⟩ = some (.int .i64 c.inn.b.1) ∧ w'.cell? ⟨ba, 6, none⟩ = some (.int .i64 c.inn.b.2.1) ∧ w'.cell? ⟨ba, 7, none⟩ = some (.slice A1 c.inn.b.2.2.length c1) ∧ w'.cell? ⟨ba + 1, 5, none⟩ = some (.int .i64 d.inn.b.1) ∧ w'.cell? ⟨ba + 1, 6, none⟩ = some (.int .i64 d.inn.b.2.1) ∧ w'.cell? ⟨ba + 1, 7, none⟩ = some (.slice E1 d.inn.b.2.2.length e1)) W))
          refine wp_region_noPanic ?_
          refine wp_region_held_drew (S := (fun w' => Hid (Below wr.heap.size wr w') ∧ w'.cell? ⟨ba, 5, none⟩ = some (.int .i64 c.inn.b.1) ∧ w'.cell? ⟨ba, 6, none⟩ = some (.int .i64 c.inn.b.2.1) ∧ w'.cell? ⟨ba, 7, none⟩ = some (.slice A1 c.inn.b.2.2.length c1) ∧ w'.cell? ⟨ba + 1, 5, none⟩ = some (.int .i64 d.inn.b.1) ∧ w'.cell? ⟨ba + 1, 6, none⟩ = some (.int .i64 d.inn.b.2.1) ∧ w'.cell? ⟨ba + 1, 7, none⟩ = some (.slice E1 d.inn.b.2.2.length e1))) (by kernel_rfl) (HH.out _ (below_drew1 (Below.refl wr.heap.size wr))) (fun hHeld => ?_)
          refine tk 0 rfl rfl ‹_› ?_; try go_frame
          refine tk 1 rfl rfl ‹_› ?_; try go_frame
          refine tk 2 rfl rfl ‹_› ?_; try go_frame
          refine tk 3 rfl rfl ‹_› ?_; try go_frame
          refine tk 4 rfl rfl ‹_› ?_; try go_frame
          refine tk 5 rfl rfl ‹_› ?_; try go_frame
          refine tk 6 rfl rfl ‹_› ?_; try go_frame
          refine tk 7 rfl rfl ‹_› ?_; try go_frame
          refine rdy 8 rfl (fun K hK => ?_)
          go_simp
          refine (HRS.out _ (bch HBr.out (below_drew1 (Below.refl wr.heap.size wr)) HBr.out.size)).mono ?_
          rintro e w5 ⟨bb', rfl, hbi, hb⟩
          have HW5 := Hd (bch (below_drew1 (Below.refl wr.heap.size wr)) hb (Below.size (below_drew1 (Below.refl wr.heap.size wr)))); have HBI := Hd hbi
          clear hb hbi
          refine hK.out _ _ (HH.out _ (HW5.out)) (fun hHeld => ?_)
          clear hK K
          (try simp only [gx1, gx2, gx3]); try go_frame
          refine tk 9 rfl rfl ‹_› ?_; try go_frame
          refine wpAnyH_done (by kernel_rfl) ?_ _
          refine NoPanic.normal ?_
          have HB5 := Hd (bch HBr.out HW5.out HBr.out.size)
          clear hHeld HH HRS
          cases bb' with
          | true =>
           have HQE := Hd (show c.inn.b = d.inn.b from HBI.out.1 rfl)
           clear HBI
           go_wp2_with fail
           go_roundw
           case rel => exact ⟨2, rfl, by omega, ⟨HE.out.1, HE.out.2.1, fun _ => HE.out.2.2.1 (by omega), fun _ => HQE.out, fun h => absurd h (by omega)⟩, HB5.out⟩
           case measure => simp [intOf]
          | false =>
           have HNE := Hd (show c ≠ d from fun h => by have := HBI.out.2 (by rw [h]); cases this)
           clear HBI
           go_wp2_with fail
           go_ret
           exact ⟨false, rfl, ⟨fun h => (by cases h), fun h => absurd h HNE.out⟩, bch HBP.out HB5.out HBP.out.size⟩
         ·have HRS := Hd (fun W (hW : Below wp.heap.size wp W) => rowsSame_any W _ _ c.inn.c.2.2 d.inn.c.2.2 c.inn.c.1 c.inn.c.2.1 d.inn.c.1 d.inn.c.2.1 (HQ2.out.keep hW) (HU2.out.keep hW) hi1.2.2 hi2.2.2)
          go_wp2_with fail
          have HH := Hd (fun W (hb : Below wr.heap.size wr W) => (⟨Hd hb, kc hb m8, kc hb m9, kc hb m10, kc hb n8, kc hb n9, kc hb n10⟩ : (fun w' => Hid (Below wr.heap.size wr w') ∧ w'.cell? ⟨ba, 8, none⟩ = some (.int .i64 c.inn.c.1) ∧ w'.cell? ⟨ba, 9, none⟩ = some (.int .i64 c.inn.c.2.1) ∧ w'.cell? ⟨ba, 10, none⟩ = some (.slice A2 c.inn.c.2.2.length c2) ∧ w'.cell? ⟨ba + 1, 8, none⟩ = some (.int .i64 d.inn.c.1) ∧ w'.cell? ⟨ba + 1, 9, none⟩ = some (.int .i64 d.inn.c.2.1) ∧ w'.cell? ⟨ba + 1, 10, none⟩ = some (.slice E2 d.inn.c.2.2.length e2)) W))
          refine wp_region_noPanic ?_
          refine wp_region_held_drew (S := (fun w' => Hid (Below wr.heap.size wr w') ∧ w'.cell? ⟨ba, 8, none⟩ = some (.int .i64 c.inn.c.1) ∧ w'.cell? ⟨ba, 9, none⟩ = some (.int .i64 c.inn.c.2.1) ∧ w'.cell? ⟨ba, 10, none⟩ = some (.slice A2 c.inn.c.2.2.length c2) ∧ w'.cell? ⟨ba + 1, 8, none⟩ = some (.int .i64 d.inn.c.1) ∧ w'.cell? ⟨ba + 1, 9, none⟩ = some (.int .i64 d.inn.c.2.1) ∧ w'.cell? ⟨ba + 1, 10, none⟩ = some (.slice E2 d.inn.c.2.2.length e2))) (by kernel_rfl) (HH.out _ (below_drew1 (Below.refl wr.heap.size wr))) (fun hHeld => ?_)
          refine tk 0 rfl rfl ‹_› ?_; try go_frame
          refine tk 1 rfl rfl ‹_› ?_; try go_frame
          refine tk 2 rfl rfl ‹_› ?_; try go_frame
          refine tk 3 rfl rfl ‹_› ?_; try go_frame
          refine tk 4 rfl rfl ‹_› ?_; try go_frame
          refine tk 5 rfl rfl ‹_› ?_; try go_frame
          refine tk 6 rfl rfl ‹_› ?_; try go_frame
          refine tk 7 rfl rfl ‹_› ?_; try go_frame
          refine rdy 8 rfl (fun K hK => ?_)
          go_simp
          refine (HRS.out _ (bch HBr.out (below_drew1 (Below.refl wr.heap.size wr)) HBr.out.size)).mono ?_
          rintro e w5 ⟨bb', rfl, hbi, hb⟩
          have HW5 := Hd (bch (below_drew1 (Below.refl wr.heap.size wr)) hb (Below.size (below_drew1 (Below.refl wr.heap.size wr)))); have HBI := Hd hbi
          clear hb hbi
          refine hK.out _ _ (HH.out _ (HW5.out)) (fun hHeld => ?_)
          clear hK K
          (try simp only [gx1, gx2, gx3]); try go_frame
          refine tk 9 rfl rfl ‹_› ?_; try go_frame
          refine wpAnyH_done (by kernel_rfl) ?_ _
          refine NoPanic.normal ?_
          have HB5 := Hd (bch HBr.out HW5.out HBr.out.size)
          clear hHeld HH HRS
          cases bb' with
          | true =>
           have HQE := Hd (show c.inn.c = d.inn.c from HBI.out.1 rfl)
           clear HBI
           go_wp2_with fail
           go_roundw
           case rel => exact ⟨3, rfl, by omega, ⟨HE.out.1, HE.out.2.1, fun _ => HE.out.2.2.1 (by omega), fun _ => HE.out.2.2.2.1 (by omega), fun _ => HQE.out⟩, HB5.out⟩
           case measure => simp [intOf]
          | false =>
           have HNE := Hd (show c ≠ d from fun h => by have := HBI.out.2 (by rw [h]); cases this)
           clear HBI
           go_wp2_with fail
           go_ret
           exact ⟨false, rfl, ⟨fun h => (by cases h), fun h => absurd h HNE.out⟩, bch HBP.out HB5.out HBP.out.size⟩
        ·obtain rfl : k = 3 := by omega
         have HEQ := Hd (show c = d from cor_ext HE.out.1 HE.out.2.1 (inn_ext (HE.out.2.2.1 (by omega)) (HE.out.2.2.2.1 (by omega)) (HE.out.2.2.2.2 (by omega))))
         go_wp2_with fail
         go_ret
         exact ⟨true, rfl, ⟨fun _ => HEQ.out, fun _ => rfl⟩, bch HBP.out HBr.out HBP.out.size⟩
  ·have q2 := bneT (show ¬ (c.b.length : Int) = d.b.length by omega)
   have HNE := Hd (show c ≠ d from fun h => hlb (by rw [h]))
   clear hlb
   go_wp2_with fail
   go_ret
   exact ⟨false, rfl, ⟨fun h => (by cases h), fun h => absurd h HNE.out⟩, HBP.out⟩
 ·have q1 := bneT (show ¬ (c.l.length : Int) = d.l.length by omega)
  have HNE := Hd (show c ≠ d from fun h => hll (by rw [h]))
  clear hll
  go_wp2_with fail
  go_ret
  exact ⟨false, rfl, ⟨fun h => (by cases h), fun h => absurd h HNE.out⟩, HBP.out⟩
end Go.Proofs.YtiagdpfmmjhgcaaGreatDoor
/- Another one like it: books.Copy, core.Copy. -/
namespace Go.Proofs.YtiagdpfmmjhgcaaGreatDoor
open Go.RowKit Go.Maps Go.Shelf Key Rw Sa Co
set_option linter.unusedSimpArgs false
set_option linter.unusedVariables false
set_option maxRecDepth 100000
set_option maxHeartbeats 16000000

theorem clonedC {P : Program} {ρ : Ren} (L : Go.Proofs.SlLaysW.n5 P ρ) {k : TypeId} {κ α : Type} {mkK : κ → Value} {mkV : α → Value} (w : World) (b : Nat) (E : List (κ × α)) (h : MapL P k mkK mkV w b E) :
  Calls P (ρ.f 5) #[.map (some b)] w fun e w' => e = .returned (.map (some w.heap.size)) ∧ MapL P k mkK mkV w' w.heap.size E ∧ Below w.heap.size w w' := by
 obtain ⟨⟨D, h1, h2⟩, h3, h4⟩ := h
 refine (Go.Proofs.AnyW.maps_Clone_owns L k (heldBy mkV) b E.length (.map D) w h1).mono ?_
 rintro e w' ⟨rfl, h5, _, hb⟩
 exact ⟨rfl, ⟨⟨D, h5, h2⟩, h3, h4⟩, hb⟩
theorem cloneStr_any (w : World) (b : Nat) (E : List (List UInt8 × Po)) (h : MapL Tryz.prog tStrC mkStrC mkPost w b E) : Calls Tryz.prog 47 #[.map (some b)] w fun e w' => e = .returned (.map (some w.heap.size)) ∧ MapL Tryz.prog tStrC mkStrC mkPost w' w.heap.size E ∧ Below w.heap.size w w' := clonedC Tryz.cloneStr w b E h
theorem cloneSlot_any (w : World) (b : Nat) (E : List ((Int × Int) × Int)) (h : MapL Tryz.prog tSlot mkSlot mkI w b E) : Calls Tryz.prog 48 #[.map (some b)] w fun e w' => e = .returned (.map (some w.heap.size)) ∧ MapL Tryz.prog tSlot mkSlot mkI w' w.heap.size E ∧ Below w.heap.size w w' := clonedC Tryz.cloneSlot w b E h
theorem Bw.base {B B' : Nat} {w : World} {bb pm bm : Nat} {vb : Value} {b : List Po} (h : Bw B w bb pm bm vb b) (hB : B' ≤ B) : Bw B' w bb pm bm vb b :=
 ⟨h.hd, own_base h.ob hB, h.mp, h.mb, ⟨Nat.le_trans hB h.ge.1, Nat.le_trans hB h.ge.2.1, Nat.le_trans hB h.ge.2.2⟩, h.ne, h.oo, h.ok⟩
theorem bcopyB_any {B : Nat} {w : World} {bb pm bm : Nat} {vb : Value} {b : List Po} (h : Bw B w bb pm bm vb b) (hl : b.length ≤ 100000) :
  Calls Tryz.prog 19 #[.pointer (some ⟨bb, 0, none⟩)] w fun e w' => ∃ b2 p2 m2 v2, e = .returned (.pointer (some ⟨b2, 0, none⟩)) ∧ Bw w.heap.size w' b2 p2 m2 v2 b ∧ Below w.heap.size w w' := by
 obtain ⟨E, hE, hE1, hE2⟩ := h.mp
 obtain ⟨G, hG, hG1, hG2⟩ := h.mb
 have HB := Hd h; have HE := Hd hE; have HG := Hd hG; have HE12 := Hd (And.intro hE1 hE2); have HG12 := Hd (And.intro hG1 hG2)
 obtain ⟨c0, c1, c2⟩ := cell3c h.hd
 clear h hE hG hE1 hE2 hG1 hG2
 go_enter Tryz.func19, Tryz.ntmps19
 go_wp2_with (go_at_call 45; refine (bnone_any HB.out).mono ?_; rintro e w1 ⟨rfl, hb⟩; subst hb)
 have HHR := Hd (fun W (hb : Below w.heap.size w W) => (⟨Hd hb, kc hb c0, kc hb c1, kc hb c2⟩ : (fun w' => Hid (Below w.heap.size w w') ∧ w'.cell? ⟨bb, 0, none⟩ = some (vb) ∧ w'.cell? ⟨bb, 1, none⟩ = some (.map (some pm)) ∧ w'.cell? ⟨bb, 2, none⟩ = some (.map (some bm))) W))
 refine wp_region_noPanic ?_
 refine wp_region_held_drew (S := (fun w' => Hid (Below w.heap.size w w') ∧ w'.cell? ⟨bb, 0, none⟩ = some (vb) ∧ w'.cell? ⟨bb, 1, none⟩ = some (.map (some pm)) ∧ w'.cell? ⟨bb, 2, none⟩ = some (.map (some bm)))) (by kernel_rfl) (HHR.out _ (below_drew1 (Below.refl w.heap.size w))) (fun hHeld => ?_)
 refine tk 0 rfl rfl ‹_› ?_; try go_frame
 refine tk 1 rfl rfl ‹_› ?_; try go_frame
 refine tk 2 rfl rfl ‹_› ?_; try go_frame
 refine tk 3 rfl rfl ‹_› ?_; try go_frame
 refine tk 5 rfl rfl ‹_› ?_; try go_frame
 refine tk 6 rfl rfl ‹_› ?_; try go_frame
 refine tk 7 rfl rfl ‹_› ?_; try go_frame
 refine tk 8 rfl rfl ‹_› ?_; try go_frame
 refine tk 10 rfl rfl ‹_› ?_; try go_frame
 refine tk 11 rfl rfl ‹_› ?_; try go_frame
 refine tk 12 rfl rfl ‹_› ?_; try go_frame
 refine tk 13 rfl rfl ‹_› ?_; try go_frame
 refine rdy 4 rfl (fun K hK => ?_)
 go_simp
 refine (bclone_any _ vb b (own_keep HB.out.ob (below_drew1 (Below.refl _ w))) hl w.heap.size (Nat.le_refl _)).mono ?_
 rintro e w1 ⟨v1, rfl, ho1, hb1⟩
 have HO1 := Hd ho1; have HB1 := Hd (bch (below_drew1 (Below.refl w.heap.size w)) hb1 (Nat.le_refl _) : Below w.heap.size w w1)
 clear ho1 hb1
 refine hK.out _ _ (HHR.out _ (HB1.out)) (fun hHeld => ?_)
 clear hK K
 (try simp only [gx1, gx2, gx3]); try go_frame
 refine rdy 9 rfl (fun K hK => ?_)
 go_simp
 refine (cloneStr_any w1 pm E (HE.out.below HB1.out)).mono ?_
 rintro e w2 ⟨rfl, hm2, hb2⟩
 have HM2 := Hd hm2; have HO2 := Hd (own_keep HO1.out hb2); have HB2 := Hd (bch HB1.out hb2 HB1.out.size)
 have hl2 : w1.heap.size < w2.heap.size := hm2.lt
 clear hm2 hb2
 refine hK.out _ _ (HHR.out _ (HB2.out)) (fun hHeld => ?_)
 clear hK K
 (try simp only [gx1, gx2, gx3]); try go_frame
 refine rdy 14 rfl (fun K hK => ?_)
 go_simp
 refine (cloneSlot_any w2 bm G (HG.out.below HB2.out)).mono ?_
 rintro e w3 ⟨rfl, hm3, hb3⟩
 have HM3 := Hd hm3; have HO3 := Hd (own_keep HO2.out hb3); have HB3 := Hd (bch HB2.out hb3 HB2.out.size); have HM23 := Hd (HM2.out.below hb3)
 have hl3 : w2.heap.size < w3.heap.size := hm3.lt
 clear hm3 hb3
 refine hK.out _ _ (HHR.out _ (HB3.out)) (fun hHeld => ?_)
 clear hK K
 (try simp only [gx1, gx2, gx3]); try go_frame
 obtain ⟨Av1, cv1, rfl, _⟩ := own_slice HO1.out
 refine tk 15 rfl rfl ‹_› ?_; try go_frame
 refine rdy 16 rfl (fun K hK => ?_)
 go_simp
 refine hK.out _ _ (HHR.out _ (bch HB3.out (below_alloc w3 _) HB3.out.size)) (fun hHeld => ?_)
 clear hK K
 (try simp only [gx1, gx2, gx3]); try go_frame
 refine tk 17 rfl rfl ‹_› ?_; try go_frame
 refine wpAnyH_done (by kernel_rfl) ?_ _
 refine NoPanic.normal ?_
 clear hHeld HHR
 have hs1 := HB1.out.size
 obtain ⟨w4, hw4⟩ : ∃ w4, w4 = w3.alloc (.cells #[.slice Av1 b.length cv1, .map (some w1.heap.size), .map (some w2.heap.size)] tBooks) := ⟨_, rfl⟩
 rw [← hw4]
 have hb4 : Below w3.heap.size w3 w4 := by rw [hw4]; exact below_alloc _ _
 have hx4 : w4.heap[w3.heap.size]? = some (.cells #[.slice Av1 b.length cv1, .map (some w1.heap.size), .map (some w2.heap.size)] tBooks (0, 0)) := by rw [hw4]; exact heap_new _ _
 have HR4 := Hd (show Bw w.heap.size w4 w3.heap.size w1.heap.size w2.heap.size (.slice Av1 b.length cv1) b from ⟨hx4, own_keep HO3.out hb4, ⟨E, HM23.out.below hb4, HE12.out⟩, ⟨G, HM3.out.below hb4, HG12.out⟩, by omega, by omega, fun j hj => by have := (HO1.out.lt j hj).2; omega, HB.out.ok⟩)
 have HB4 := Hd (bch HB3.out hb4 HB3.out.size)
 clear hw4 hb4 hx4
 go_wp2_with fail
 go_ret
 exact ⟨_, _, _, _, rfl, HR4.out, HB4.out⟩
theorem ccopy_any {B : Nat} {w : World} {cb bb pm bm : Nat} {vl vb vI : Value} {c : Cor} (h : Cw B w cb bb pm bm vl vb vI c) (hl : c.l.length ≤ 100000) (hbl : c.b.length ≤ 100000) :
  Calls Tryz.prog 8 #[.pointer (some ⟨cb, 0, none⟩)] w fun e w' => ∃ c2 b2 p2 m2 vl2 vb2, e = .returned (.pointer (some ⟨c2, 0, none⟩)) ∧ Cw w.heap.size w' c2 b2 p2 m2 vl2 vb2 vI c ∧ Below w.heap.size w w' := by
 obtain ⟨i0, hi, hz0, hz1, hz2⟩ := info_parts saga_info
 obtain ⟨A, cl, rfl, _⟩ := own_slice h.ol
 obtain ⟨I0, In0, Ic0, I1, In1, Ic1, I2, In2, Ic2, m, rfl, _⟩ := h.ii
 have HC := Hd h
 have HX := Hd (show w.heap[cb]? = some (.cells #[.slice A c.l.length cl, .pointer (some ⟨bb, 0, none⟩), .int .i64 c.inn.a.1, .int .i64 c.inn.a.2.1, .slice I0 In0 Ic0, .int .i64 c.inn.b.1, .int .i64 c.inn.b.2.1, .slice I1 In1 Ic1, .int .i64 c.inn.c.1, .int .i64 c.inn.c.2.1, .slice I2 In2 Ic2, .map m] tCore (0, 0)) by simpa [inn10] using h.hc)
 have HSRC := Hd (fun W (hb : Below w.heap.size w W) => src_own (enc := encS) (z := 12) encS_len (by decide) encS_one (own_keep HC.out.ol hb))
 clear h
 obtain ⟨y0, y1, y2, y3, y4, y5, y6, y7, y8, y9, y10, y11⟩ := cell12 HX.out
 go_enter Tryz.func8, Tryz.ntmps8
 go_wp2_with (go_at_call 18; refine (cnone_any HC.out).mono ?_; rintro e w1 ⟨rfl, hb⟩; subst hb)
 have HHR := Hd (fun W (hb : Below w.heap.size w W) => (⟨Hd hb, kc hb y0, kc hb y1, kc hb y2, kc hb y3, kc hb y4, kc hb y5, kc hb y6, kc hb y7, kc hb y8, kc hb y9, kc hb y10, kc hb y11⟩ : (fun w' => Hid (Below w.heap.size w w') ∧ w'.cell? ⟨cb, 0, none⟩ = some (.slice A c.l.length cl) ∧ w'.cell? ⟨cb, 1, none⟩ = some (.pointer (some ⟨bb, 0, none⟩)) ∧ w'.cell? ⟨cb, 2, none⟩ = some (.int .i64 c.inn.a.1) ∧ w'.cell? ⟨cb, 3, none⟩ = some (.int .i64 c.inn.a.2.1) ∧ w'.cell? ⟨cb, 4, none⟩ = some (.slice I0 In0 Ic0) ∧ w'.cell? ⟨cb, 5, none⟩ = some (.int .i64 c.inn.b.1) ∧ w'.cell? ⟨cb, 6, none⟩ = some (.int .i64 c.inn.b.2.1) ∧ w'.cell? ⟨cb, 7, none⟩ = some (.slice I1 In1 Ic1) ∧ w'.cell? ⟨cb, 8, none⟩ = some (.int .i64 c.inn.c.1) ∧ w'.cell? ⟨cb, 9, none⟩ = some (.int .i64 c.inn.c.2.1) ∧ w'.cell? ⟨cb, 10, none⟩ = some (.slice I2 In2 Ic2) ∧ w'.cell? ⟨cb, 11, none⟩ = some (.map m)) W))
 refine wp_region_noPanic ?_
 refine wp_region_held_drew (S := (fun w' => Hid (Below w.heap.size w w') ∧ w'.cell? ⟨cb, 0, none⟩ = some (.slice A c.l.length cl) ∧ w'.cell? ⟨cb, 1, none⟩ = some (.pointer (some ⟨bb, 0, none⟩)) ∧ w'.cell? ⟨cb, 2, none⟩ = some (.int .i64 c.inn.a.1) ∧ w'.cell? ⟨cb, 3, none⟩ = some (.int .i64 c.inn.a.2.1) ∧ w'.cell? ⟨cb, 4, none⟩ = some (.slice I0 In0 Ic0) ∧ w'.cell? ⟨cb, 5, none⟩ = some (.int .i64 c.inn.b.1) ∧ w'.cell? ⟨cb, 6, none⟩ = some (.int .i64 c.inn.b.2.1) ∧ w'.cell? ⟨cb, 7, none⟩ = some (.slice I1 In1 Ic1) ∧ w'.cell? ⟨cb, 8, none⟩ = some (.int .i64 c.inn.c.1) ∧ w'.cell? ⟨cb, 9, none⟩ = some (.int .i64 c.inn.c.2.1) ∧ w'.cell? ⟨cb, 10, none⟩ = some (.slice I2 In2 Ic2) ∧ w'.cell? ⟨cb, 11, none⟩ = some (.map m))) (by kernel_rfl) (HHR.out _ (below_drew1 (Below.refl w.heap.size w))) (fun hHeld => ?_)
 refine tk 0 rfl rfl ‹_› ?_; try go_frame
 refine tk 1 rfl rfl ‹_› ?_; try go_frame
 refine tk 2 rfl rfl ‹_› ?_; try go_frame
 refine tk 3 rfl rfl ‹_› ?_; try go_frame
 refine tk 5 rfl rfl ‹_› ?_; try go_frame
 refine tk 6 rfl rfl ‹_› ?_; try go_frame
 refine tk 7 rfl rfl ‹_› ?_; try go_frame
 refine tk 8 rfl rfl ‹_› ?_; try go_frame
 refine tk 10 rfl rfl ‹_› ?_; try go_frame
 refine tk 11 rfl rfl ‹_› ?_; try go_frame
 refine tk 12 rfl rfl ‹_› ?_; try go_frame
 refine tk 13 rfl rfl ‹_› ?_; try go_frame
 refine rdy 4 rfl (fun K hK => ?_)
 refine step_append_any _ rfl (.const (.slice none 0 0)) (.tmp 8) tSagasC rfl w.heap.size tSaga i0 (.agg #[.int .i64 0, .string ⟨#[]⟩, .string ⟨#[]⟩, .int .i64 0, .int .i64 0, .int .i64 0, .int .i64 0, .int .i64 0, .int .i64 0, .int .i64 0, .int .i64 0, .bool false]) 12 112 Tryz.underlying61 hi hz0 hz1 hz2 rfl (by decide) (.slice none 0 0) 0 [] rfl (World.ownsRow_nil _ _ _ _) c.l.length (c.l.flatMap encS) (HSRC.out _ (below_drew1 (Below.refl w.heap.size w))) (by unfold maxLen; omega) (by omega) (Nat.le_refl _) ?_
 intro v1 w1 ho1 hg1 hat1
 rw [Nat.zero_add, List.nil_append] at ho1
 obtain ⟨A1, c1, rfl, _⟩ := own_slice ho1
 have HO1 := Hd ho1; have HB1 := Hd (bch (below_drew1 (Below.refl w.heap.size w)) (below_of_grown hg1) (Nat.le_refl _) : Below w.heap.size w w1)
 clear ho1 hg1 hat1
 refine hK.out _ _ (HHR.out _ (HB1.out)) (fun hHeld => ?_)
 clear hK K
 (try simp only [gx1, gx2, gx3]); try go_frame
 refine rdy 9 rfl (fun K hK => ?_)
 go_simp
 refine (bcopyB_any (HC.out.bk.below HB1.out) hbl).mono ?_
 rintro e w2 ⟨b2, p2, m2, v2, rfl, hbk, hb2⟩
 have HK2 := Hd hbk; have HO2 := Hd (own_keep HO1.out hb2); have HB2 := Hd (bch HB1.out hb2 HB1.out.size)
 clear hbk hb2
 refine hK.out _ _ (HHR.out _ (HB2.out)) (fun hHeld => ?_)
 clear hK K
 (try simp only [gx1, gx2, gx3]); try go_frame
 refine tk 14 rfl rfl ‹_› ?_; try go_frame
 refine rdy 15 rfl (fun K hK => ?_)
 go_simp
 refine hK.out _ _ (HHR.out _ (bch HB2.out (below_alloc w2 _) HB2.out.size)) (fun hHeld => ?_)
 clear hK K
 (try simp only [gx1, gx2, gx3]); try go_frame
 refine tk 16 rfl rfl ‹_› ?_; try go_frame
 refine wpAnyH_done (by kernel_rfl) ?_ _
 refine NoPanic.normal ?_
 clear hHeld HHR
 have hs1 := HB1.out.size
 obtain ⟨w3, hw3⟩ : ∃ w3, w3 = w2.alloc (.cells #[.slice A1 c.l.length c1, .pointer (some ⟨b2, 0, none⟩), .int .i64 c.inn.a.1, .int .i64 c.inn.a.2.1, .slice I0 In0 Ic0, .int .i64 c.inn.b.1, .int .i64 c.inn.b.2.1, .slice I1 In1 Ic1, .int .i64 c.inn.c.1, .int .i64 c.inn.c.2.1, .slice I2 In2 Ic2, .map m] tCore) := ⟨_, rfl⟩
 rw [← hw3]
 have hb3 : Below w2.heap.size w2 w3 := by rw [hw3]; exact below_alloc _ _
 have hx3 : w3.heap[w2.heap.size]? = some (.cells #[.slice A1 c.l.length c1, .pointer (some ⟨b2, 0, none⟩), .int .i64 c.inn.a.1, .int .i64 c.inn.a.2.1, .slice I0 In0 Ic0, .int .i64 c.inn.b.1, .int .i64 c.inn.b.2.1, .slice I1 In1 Ic1, .int .i64 c.inn.c.1, .int .i64 c.inn.c.2.1, .slice I2 In2 Ic2, .map m] tCore (0, 0)) := by rw [hw3]; exact heap_new _ _
 have hlt := HK2.out.lt
 have hge := HK2.out.ge
 have hvl : ∀ j, (Value.slice A1 c.l.length c1).ownBlock = some j → w.heap.size ≤ j ∧ j < w1.heap.size := fun j hj => HO1.out.lt j hj
 have hbs : ∀ j, Bs b2 p2 m2 v2 j → w1.heap.size ≤ j ∧ j < w2.heap.size := fun j hj => HK2.out.ls hj
 have HR3 := Hd (show Cw w.heap.size w3 w2.heap.size b2 p2 m2 (.slice A1 c.l.length c1) v2 (.agg #[.int .i64 c.inn.a.1, .int .i64 c.inn.a.2.1, .slice I0 In0 Ic0, .int .i64 c.inn.b.1, .int .i64 c.inn.b.2.1, .slice I1 In1 Ic1, .int .i64 c.inn.c.1, .int .i64 c.inn.c.2.1, .slice I2 In2 Ic2, .map m]) c from ⟨by simpa [inn10] using hx3, own_keep HO2.out hb3, (HK2.out.below hb3).base hs1, HC.out.ii.below (bch HB2.out hb3 HB2.out.size), HC.out.fi, fun j hj => Av.far HC.out.ii (by rcases hj with rfl | hj | hj; (have := HB2.out.size; omega); (have := hbs j hj; omega); exact (hvl j hj).1), HB2.out.size, ⟨by omega, by omega, by omega, fun e => by have := hbs _ (.inr (.inr (.inr e))); omega⟩, fun j hj => ⟨by have := hvl j hj; have := HK2.out.lt; omega, fun hs => by have := hvl j hj; have := hbs j hs; omega⟩⟩)
 have HB3 := Hd (bch HB2.out hb3 HB2.out.size)
 clear hw3 hb3 hx3
 go_wp2_with fail
 go_ret
 exact ⟨_, _, _, _, _, _, rfl, HR3.out, HB3.out⟩
end Go.Proofs.YtiagdpfmmjhgcaaGreatDoor
/- Is a core the document's? -/
namespace Go.Proofs.YtiagdpfmmjhgcaaGreatDoor
open Go.RowKit Go.Maps Co Key Rw Sa Od Ma
set_option linter.unusedSimpArgs false
set_option linter.unusedVariables false
set_option maxRecDepth 100000
set_option maxHeartbeats 16000000

theorem refSameT (w : World) (u v : Value) (l : List R5) (pa sq : Int) (hu : Rd w u l) (hv : Rd w v l) (hl : l.length < 100000) :
  Calls Tryz.prog 42 #[.agg #[.int .i64 pa, .int .i64 sq, u], .agg #[.int .i64 pa, .int .i64 sq, v]] w fun e w' => e = .returned (.bool true) ∧ Below w.heap.size w w' := by
 obtain ⟨A, c, rfl, _⟩ := hu.shape
 obtain ⟨A', c', rfl, _⟩ := hv.shape
 obtain ⟨wb, hwb⟩ : ∃ wb, (w.alloc (.cells #[.int .i64 pa, .int .i64 sq, .slice A l.length c] tStat)).alloc (.cells #[.int .i64 pa, .int .i64 sq, .slice A' l.length c'] tStat) = wb := ⟨_, rfl⟩
 have h2 := two_boxes' w _ _ hwb
 have HB := Hd h2.1; have HM := Hd h2.2.1; have HM' := Hd h2.2.2
 have HU := Hd (hu.keep h2.1); have HV := Hd (hv.keep h2.1)
 have hWB := Hd hwb
 clear hu hv hwb h2
 obtain ⟨m0, m1, m2⟩ := cell3c HM.out
 obtain ⟨q0, q1, q2⟩ := cell3c HM'.out
 go_enter Tryz.func42, Tryz.ntmps42
 go_upto_region 1 with (fail)
 rw [hWB.out]
 go_wp2_with fail
 clear m0 m1 m2 q0 q1 q2
 go_loopw [5] (fun i wr => ∃ k : Nat, i = .int .i64 k ∧ k ≤ l.length ∧ Hid (Below wb.heap.size wb wr)) (fun i _ => l.length - (intOf i).toNat)
 case atStart => exact ⟨0, rfl, by omega, ⟨rfl, rfl, rfl, Nat.le_refl _, fun _ _ => rfl⟩⟩
 case round =>
  obtain ⟨k, rfl, hk, HBr⟩ := hrel
  obtain ⟨m0, m1, m2⟩ := cell3c (heap_keep HM.out HBr.out)
  obtain ⟨q0, q1, q2⟩ := cell3c (heap_keep HM'.out HBr.out)
  by_cases hkl : k < l.length
  ·obtain ⟨x, hx⟩ : ∃ x, l[k]? = some x := ⟨_, List.getElem?_eq_getElem hkl⟩
   obtain ⟨g, off, n', c1, e, c01, c02, c03, c04, c05⟩ := HU.out.cells HBr.out hx
   injection e with e1 e2 e3; subst e1; clear e2 e3
   obtain ⟨g', off', n', c1, e, d01, d02, d03, d04, d05⟩ := HV.out.cells HBr.out hx
   injection e with e1 e2 e3; subst e1; clear e2 e3
   obtain ⟨⟨o, d⟩, t, n, p⟩ := x
   have hlt : (k : Int) < l.length := by omega
   have hk0 : (0 : Int) ≤ k := by omega
   clear hx
   go_wp2_with fail
   go_quiet (fail)
   go_wp2_with fail
   go_roundw
   case rel => exact ⟨k + 1, by go_num, by omega, ⟨HBr.out.os, HBr.out.tape, HBr.out.output, HBr.out.size, HBr.out.block⟩⟩
   case measure => simp [intOf]; omega
  ·obtain rfl : k = l.length := by omega
   go_wp2_with fail
   go_ret
   exact ⟨rfl, bch HB.out HBr.out HB.out.size⟩
theorem sameD_any (w : World) (B1 B2 : Nat) (v u : Value) (L : List D3) (h1 : w.ownsRow B1 tDiff 3 v L.length (L.flatMap encD)) (h2 : RDs w B2 u L) (hl : L.length < 10000) :
  Calls Tryz.prog 39 #[v, u] w fun e w' => e = .returned (.bool true) ∧ Below w.heap.size w w' := by
 obtain ⟨A1, c1, rfl, _⟩ := own_slice h1
 obtain ⟨A2, c2, rfl⟩ := h2.shape
 have H1 := Hd h1; have H2 := Hd h2
 have hne := bneF (rfl : (L.length : Int) = L.length)
 clear h1 h2
 go_enter Tryz.func39, Tryz.ntmps39
 go_wp2_with fail
 go_loopw [5] (fun i wr => ∃ k : Nat, i = .int .i64 k ∧ k ≤ L.length ∧ Hid (Below w.heap.size w wr)) (fun i _ => L.length - (intOf i).toNat)
 case atStart => exact ⟨0, rfl, Nat.zero_le _, Below.refl _ _⟩
 case round =>
  obtain ⟨k, rfl, hk, HBr⟩ := hrel
  by_cases hkl : k < L.length
  ·obtain ⟨x, hx⟩ : ∃ x, L[k]? = some x := ⟨_, List.getElem?_eq_getElem hkl⟩
   have ho1 := own_keep H1.out HBr.out
   have ho2 := H2.out.below HBr.out
   obtain ⟨_, h0⟩ | ⟨g1, d1, e1, _, _, hc1⟩ := own_ptr ho1
   ·omega
   obtain ⟨_, h0⟩ | ⟨g2, d2, e2, _, _, hc2⟩ := own_ptr ho2
   ·omega
   injection e1 with e1 e3 e4; subst e1; clear e3 e4
   injection e2 with e2 e3 e4; subst e2; clear e3 e4
   have a0 := own_cellK encD_len (by decide) ho1 hx 0 (by decide)
   have a1 := own_cellK encD_len (by decide) ho1 hx 1 (by decide)
   have a2 := own_cellK encD_len (by decide) ho1 hx 2 (by decide)
   have b0 := own_cellK encD_len (by decide) ho2 hx 0 (by decide)
   have b1 := own_cellK encD_len (by decide) ho2 hx 1 (by decide)
   have b2 := own_cellK encD_len (by decide) ho2 hx 2 (by decide)
   obtain ⟨⟨o, d⟩, t⟩ := x
   simp only [encD, List.getElem?_cons_zero, List.getElem?_cons_succ] at a0 a1 a2 b0 b1 b2
   rw [Nat.add_zero] at a0 b0
   have hlt : (k : Int) < L.length := by omega
   have hk0 : (0 : Int) ≤ k := by omega
   clear hx ho1 ho2
   go_wp2_with fail
   go_quiet (fail)
   go_wp2_with fail
   go_roundw
   case rel => exact ⟨k + 1, by go_num, by omega, below_drewN HBr.out _⟩
   case measure => simp [intOf]; omega
  ·have hlt : (L.length : Int) ≤ k := by omega
   go_wp2_with fail
   go_ret
   exact ⟨rfl, HBr.out⟩
theorem keys_true (w : World) (B B' : Nat) (u v : Value) (l : List (Int × Int)) (hu : w.ownsRow B tKey 2 u l.length (l.flatMap encK)) (hv : w.ownsRow B' tKey 2 v l.length (l.flatMap encK)) (hl : l.length < 10000) :
  Calls Tryz.prog 36 #[u, v] w fun e w' => e = .returned (.bool true) ∧ Below w.heap.size w w' := by
 obtain ⟨A, c, rfl, hA⟩ := own_slice hu
 obtain ⟨A', c', rfl, hA'⟩ := own_slice hv
 have HU := Hd hu
 have HV := Hd hv
 clear hu hv
 have HA := Hd hA
 have HA' := Hd hA'
 clear hA hA'
 go_enter Tryz.func36, Tryz.ntmps36
 go_wp2_with fail
 go_loopw [5] (fun i wr => ∃ k : Nat, i = .int .i64 k ∧ k ≤ l.length ∧ Hid (Below w.heap.size w wr)) (fun i _ => l.length - (intOf i).toNat)
 case atStart => exact ⟨0, rfl, by omega, Below.refl _ _⟩
 case round =>
  obtain ⟨k, rfl, hk, HB⟩ := hrel
  by_cases hkl : k < l.length
  ·obtain ⟨x, hx⟩ : ∃ x, l[k]? = some x := ⟨_, List.getElem?_eq_getElem hkl⟩
   obtain ⟨g, rfl, _, _⟩ := HA.out (by omega)
   obtain ⟨g', rfl, _, _⟩ := HA'.out (by omega)
   have c0 := own_cellK encK_len (by omega) (own_keep HU.out HB.out) hx 0 (by omega)
   have c1 := own_cellK encK_len (by omega) (own_keep HU.out HB.out) hx 1 (by omega)
   have d0 := own_cellK encK_len (by omega) (own_keep HV.out HB.out) hx 0 (by omega)
   have d1 := own_cellK encK_len (by omega) (own_keep HV.out HB.out) hx 1 (by omega)
   obtain ⟨o, d⟩ := x
   simp only [encK, List.getElem?_cons_zero, List.getElem?_cons_succ] at c0 c1 d0 d1
   rw [Nat.add_zero] at c0 d0
   have hlt : (k : Int) < l.length := by omega
   have hk0 : (0 : Int) ≤ k := by omega
   clear hx
   go_wp2_with fail
   go_quiet (fail)
   go_wp2_with fail
   go_roundw
   case rel => exact ⟨k + 1, by go_num, by omega, ⟨HB.out.os, HB.out.tape, HB.out.output, HB.out.size, HB.out.block⟩⟩
   case measure => simp [intOf]; omega
  ·obtain rfl : k = l.length := by omega
   go_wp2_with fail
   go_ret
   exact ⟨rfl, HB.out⟩
theorem sagaR_eq6 (d : Nat) (s t : Sg) (W : World) : (Op.equalIn (d + 2) 43 (.agg #[.int .i64 s.d0, .int .i64 s.d1, .int .i64 s.d2, .int .i64 s.d3, .int .i64 s.d4, .int .i64 s.d5]) (.agg #[.int .i64 t.d0, .int .i64 t.d1, .int .i64 t.d2, .int .i64 t.d3, .int .i64 t.d4, .int .i64 t.d5])).run Tryz.prog W = .ok ([s.d0, s.d1, s.d2, s.d3, s.d4, s.d5] == [t.d0, t.d1, t.d2, t.d3, t.d4, t.d5]) W :=
 run_equalIn_ints W d 43 3 6 .i64 .i64 Tryz.underlying43 Tryz.underlying3 (fun w => by kernel_rfl) [s.d0, s.d1, s.d2, s.d3, s.d4, s.d5] [t.d0, t.d1, t.d2, t.d3, t.d4, t.d5] rfl rfl
theorem sagaR_neq (s t : Sg) (W : World) : ∃ b, (binOp .neq tSagaR (sgV s) (sgV t)).run Tryz.prog W = .ok (.bool b) W ∧ (b = false ↔ s = t) := by
 have h6 := fun d => sagaR_eq6 d s t W
 rw [run_neq_struct]
 have e1 : (Op.equalIn 10000 tSagaR (sgV s) (sgV t)).run Tryz.prog W = (Op.eqFields 9999 (sgA s) (sgA t) (Tryz.prog.fieldsOf tSagaR).toList).run Tryz.prog W := run_equalIn_agg W 9999 tSagaR _ _ (by kernel_rfl) (by kernel_rfl)
 rw [e1]
 go_simp
 by_cases h : s = t
 ·subst h
  exact .inl ⟨by simp, rfl⟩
 ·refine .inr ⟨fun h1 h2 h3 h4 h5 h6 h7 h8 h9 h10 h11 h12 => h ?_, h⟩
  cases s; cases t
  simp_all
theorem sagaR_neqF (s : Sg) (W : World) : (binOp .neq tSagaR (sgV s) (sgV s)).run Tryz.prog W = .ok (.bool false) W := by
 obtain ⟨b, hb, hi⟩ := sagaR_neq s s W
 rw [hi.2 rfl] at hb
 exact hb
theorem alike_any {B : Nat} {w : World} {cb bb pm bm : Nat} {vl vb vI : Value} {rb : Nat} {vL vB vR : Value} {c : Cor} (h : Cw B w cb bb pm bm vl vb vI c) (hr : Rr w rb vL vB vR c) (hid : ∀ (k : Nat) s, c.l[k]? = some s → s.id = (k : Int) + 1) (hl : c.l.length ≤ 60) (hbl : c.b.length ≤ 90000) (hic : c.inn.a.2.2.length < 100000 ∧ c.inn.b.2.2.length < 100000 ∧ c.inn.c.2.2.length < 100000) (hT : PT w) (hdl : (findD c.l c.inn).length < 10000) :
  Calls Tryz.prog 11 #[.pointer (some ⟨cb, 0, none⟩), .pointer (some ⟨rb, 0, none⟩)] w fun e w' => e = .returned (.bool true) ∧ Below w.heap.size w w' := by
 obtain ⟨RL, rl, rfl, hlc, _⟩ := hr.l.shape
 obtain ⟨RB, rbc, rfl, hbc, _⟩ := hr.b.shape
 have HRX := Hd hr.hc
 obtain ⟨D0, n0, g0, D1, n1, g1, D2, n2, g2, rfl, hd0, hd1, hd2⟩ := hr.i
 have HRX := Hd (show w.heap[rb]? = some (.cells #[.slice RL c.l.length rl, .slice RB c.b.length rbc, .int .i64 c.inn.a.1, .int .i64 c.inn.a.2.1, .slice D0 n0 g0, .int .i64 c.inn.b.1, .int .i64 c.inn.b.2.1, .slice D1 n1 g1, .int .i64 c.inn.c.1, .int .i64 c.inn.c.2.1, .slice D2 n2 g2] tCoreR (0, 0)) by simpa [inn10] using HRX.out)
 have HC := Hd h; have HR := Hd hr; have HD0 := Hd hd0; have HD1 := Hd hd1; have HD2 := Hd hd2; have HID := Hd hid; have HT := Hd hT
 clear h hr hd0 hd1 hd2 hid hT
 go_enter Tryz.func11, Tryz.ntmps11
 go_wp2_with fail
 refine (cparts_any HC.out (by omega) (by omega)).mono ?_
 rintro r w1 ⟨As, cs, Ap, cp, A0, c0, A1, c1, A2, c2, rfl, ho1, ho2, hr0, hr1, hr2, hb, _⟩
 go_upto_region 2 with (fail)
 obtain ⟨wp, hwp⟩ : ∃ wp, wp = w1.alloc (.cells #[.slice As c.l.length cs, .slice Ap c.b.length cp, .int .i64 c.inn.a.1, .int .i64 c.inn.a.2.1, .slice A0 c.inn.a.2.2.length c0, .int .i64 c.inn.b.1, .int .i64 c.inn.b.2.1, .slice A1 c.inn.b.2.2.length c1, .int .i64 c.inn.c.1, .int .i64 c.inn.c.2.1, .slice A2 c.inn.c.2.2.length c2] tPartsC) := ⟨_, rfl⟩
 rw [← hwp]
 have hbp : Below w1.heap.size w1 wp := by rw [hwp]; exact below_alloc _ _
 have HPA := Hd (show wp.heap[w1.heap.size]? = some (.cells #[.slice As c.l.length cs, .slice Ap c.b.length cp, .int .i64 c.inn.a.1, .int .i64 c.inn.a.2.1, .slice A0 c.inn.a.2.2.length c0, .int .i64 c.inn.b.1, .int .i64 c.inn.b.2.1, .slice A1 c.inn.b.2.2.length c1, .int .i64 c.inn.c.1, .int .i64 c.inn.c.2.1, .slice A2 c.inn.c.2.2.length c2] tPartsC (0, 0)) by rw [hwp]; exact heap_new _ _)
 have hwp2 := bch hb hbp hb.size
 have HS1 := Hd ((sgs_own ho1).keep hbp); have HP1 := Hd (own_keep ho2 hbp); have HQ0 := Hd (hr0.keep hbp); have HQ1 := Hd (hr1.keep hbp); have HQ2 := Hd (hr2.keep hbp)
 have HCp := Hd (HC.out.below hwp2); have HRp := Hd (HR.out.below hwp2); have HRXp := Hd (heap_keep HRX.out hwp2); have HE0 := Hd (HD0.out.keep hwp2); have HE1 := Hd (HD1.out.keep hwp2); have HE2 := Hd (HD2.out.keep hwp2); have HTp := Hd (HT.out.below hwp2); have HBP := Hd hwp2
 have hid64 : ∀ s ∈ c.l, -9223372036854775808 ≤ s.id ∧ s.id ≤ 9223372036854775807 := fun s hs => by obtain ⟨k, hk⟩ := List.getElem?_of_mem hs; have h1 := HID.out k s hk; have h2 := (List.getElem?_eq_some_iff.1 hk).1; omega
 have HI64 := Hd hid64
 clear hwp hb hbp hwp2 ho1 ho2 hr0 hr1 hr2 HC HR HRX HD0 HD1 HD2 HT hid64
 generalize w1.heap.size = ba at HPA ⊢
 obtain ⟨m0, m1, m2, m3, m4, m5, m6, m7, m8, m9, m10⟩ := cell11 HPA.out
 obtain ⟨q0, q1, q2, q3, q4, q5, q6, q7, q8, q9, q10⟩ := cell11 HRXp.out
 have HH := Hd (fun W (hb : Below wp.heap.size wp W) => (⟨Hd hb, kc hb m0, kc hb m1, kc hb q0, kc hb q1⟩ : (fun w' => Hid (Below wp.heap.size wp w') ∧ w'.cell? ⟨ba, 0, none⟩ = some (.slice As c.l.length cs) ∧ w'.cell? ⟨ba, 1, none⟩ = some (.slice Ap c.b.length cp) ∧ w'.cell? ⟨rb, 0, none⟩ = some (.slice RL c.l.length rl) ∧ w'.cell? ⟨rb, 1, none⟩ = some (.slice RB c.b.length rbc)) W))
 refine wp_region_noPanic ?_
 refine wp_region_held_drew (S := (fun w' => Hid (Below wp.heap.size wp w') ∧ w'.cell? ⟨ba, 0, none⟩ = some (.slice As c.l.length cs) ∧ w'.cell? ⟨ba, 1, none⟩ = some (.slice Ap c.b.length cp) ∧ w'.cell? ⟨rb, 0, none⟩ = some (.slice RL c.l.length rl) ∧ w'.cell? ⟨rb, 1, none⟩ = some (.slice RB c.b.length rbc))) (by kernel_rfl) (HH.out _ (below_drew1 (Below.refl wp.heap.size wp))) (fun hHeld => ?_)
 refine tk 0 rfl rfl ‹_› ?_; try go_frame
 refine tk 1 rfl rfl ‹_› ?_; try go_frame
 refine tk 2 rfl rfl ‹_› ?_; try go_frame
 refine tk 3 rfl rfl ‹_› ?_; try go_frame
 refine tk 4 rfl rfl ‹_› ?_; try go_frame
 refine tk 5 rfl rfl ‹_› ?_; try go_frame
 refine tk 6 rfl rfl ‹_› ?_; try go_frame
 refine tk 7 rfl rfl ‹_› ?_; try go_frame
 refine tk 8 rfl rfl ‹_› ?_; try go_frame
 refine tk 9 rfl rfl ‹_› ?_; try go_frame
 refine tk 10 rfl rfl ‹_› ?_; try go_frame
 refine tk 11 rfl rfl ‹_› ?_; try go_frame
 refine tk 12 rfl rfl ‹_› ?_; try go_frame
 refine tk 13 rfl rfl ‹_› ?_; try go_frame
 refine tk 14 rfl rfl ‹_› ?_; try go_frame
 refine tk 15 rfl rfl ‹_› ?_; try go_frame
 refine tk 16 rfl rfl ‹_› ?_; try go_frame
 refine tk 17 rfl rfl ‹_› ?_; try go_frame
 refine tk 18 rfl rfl ‹_› ?_; try go_frame
 refine tk 19 rfl rfl ‹_› ?_; try go_frame
 refine tk 20 rfl rfl ‹_› ?_; try go_frame
 refine tk 21 rfl rfl ‹_› ?_; try go_frame
 refine tk 23 rfl rfl ‹_› ?_; try go_frame
 refine tk 24 rfl rfl ‹_› ?_; try go_frame
 refine tk 25 rfl rfl ‹_› ?_; try go_frame
 refine tk 26 rfl rfl ‹_› ?_; try go_frame
 refine tk 27 rfl rfl ‹_› ?_; try go_frame
 refine rdy 22 rfl (fun K hK => ?_)
 go_simp
 refine (corders_any (HCp.out.below (below_drew1 (Below.refl wp.heap.size wp)))).mono ?_; rintro e w1 ⟨rfl, hb⟩; subst hb
 refine hK.out _ _ (by assumption) (fun hHeld => ?_)
 clear hK K
 (try simp only [gx1, gx2, gx3]); try go_frame
 refine tk 28 rfl rfl ‹_› ?_; try go_frame
 refine tk 29 rfl rfl ‹_› ?_; try go_frame
 refine tk 30 rfl rfl ‹_› ?_; try go_frame
 refine tk 31 rfl rfl ‹_› ?_; try go_frame
 refine tk 33 rfl rfl ‹_› ?_; try go_frame
 refine rdy 32 rfl (fun K hK => ?_)
 go_simp
 refine (casks_any (HCp.out.below (below_drew1 (Below.refl wp.heap.size wp))) HID.out (by omega)).mono ?_
 rintro e w3 ⟨v3, rfl, ho3, hb3⟩
 have HO3 := Hd ho3; have HB3 := Hd (bch (below_drew1 (Below.refl wp.heap.size wp)) hb3 (Below.size (below_drew1 (Below.refl wp.heap.size wp))))
 clear ho3 hb3
 refine hK.out _ _ (HH.out _ (HB3.out)) (fun hHeld => ?_)
 clear hK K
 (try simp only [gx1, gx2, gx3]); try go_frame
 refine rdy 34 rfl (fun K hK => ?_)
 go_simp
 refine (rasks_any (HRp.out.below HB3.out) HID.out (by omega)).mono ?_
 rintro e w4 ⟨v4, rfl, ho4, hb4⟩
 have HO4 := Hd ho4; have HO34 := Hd (own_keep HO3.out hb4); have HB4 := Hd (bch HB3.out hb4 HB3.out.size)
 clear ho4 hb4
 refine hK.out _ _ (HH.out _ (HB4.out)) (fun hHeld => ?_)
 clear hK K
 (try simp only [gx1, gx2, gx3]); try go_frame
 refine rdy 35 rfl (fun K hK => ?_)
 go_simp
 refine (keys_true _ _ _ _ _ (asksI c.l) HO34.out HO4.out (by have := asks_len c.l; omega)).mono ?_
 rintro e w5 ⟨rfl, hb5⟩
 have HB5 := Hd (bch HB4.out hb5 HB4.out.size)
 clear hb5
 refine hK.out _ _ (HH.out _ (HB5.out)) (fun hHeld => ?_)
 clear hK K
 (try simp only [gx1, gx2, gx3]); try go_frame
 refine tk 36 rfl rfl ‹_› ?_; try go_frame
 refine tk 37 rfl rfl ‹_› ?_; try go_frame
 refine tk 38 rfl rfl ‹_› ?_; try go_frame
 refine tk 39 rfl rfl ‹_› ?_; try go_frame
 refine tk 41 rfl rfl ‹_› ?_; try go_frame
 refine rdy 40 rfl (fun K hK => ?_)
 go_simp
 refine (cdiffs_any (HCp.out.below HB5.out) (by omega) HI64.out (HTp.out.below HB5.out)).mono ?_
 rintro e w6 ⟨v6, rfl, ho6, hb6⟩
 have HO6 := Hd ho6; have HB6 := Hd (bch HB5.out hb6 HB5.out.size)
 clear ho6 hb6
 refine hK.out _ _ (HH.out _ (HB6.out)) (fun hHeld => ?_)
 clear hK K
 (try simp only [gx1, gx2, gx3]); try go_frame
 refine rdy 42 rfl (fun K hK => ?_)
 go_simp
 refine (rdiffs_any (HRp.out.below HB6.out) (by omega)).mono ?_
 rintro e w7 ⟨v7, rfl, ho7, hb7⟩
 have HO7 := Hd ho7; have HO67 := Hd (own_keep HO6.out hb7); have HB7 := Hd (bch HB6.out hb7 HB6.out.size)
 clear ho7 hb7
 refine hK.out _ _ (HH.out _ (HB7.out)) (fun hHeld => ?_)
 clear hK K
 (try simp only [gx1, gx2, gx3]); try go_frame
 refine rdy 43 rfl (fun K hK => ?_)
 go_simp
 refine (sameD_any _ _ _ _ _ (findD c.l c.inn) HO67.out HO7.out hdl).mono ?_
 rintro e w8 ⟨rfl, hb8⟩
 have HB8 := Hd (bch HB7.out hb8 HB7.out.size)
 clear hb8
 refine hK.out _ _ (HH.out _ (HB8.out)) (fun hHeld => ?_)
 clear hK K
 (try simp only [gx1, gx2, gx3]); try go_frame
 refine tk 44 rfl rfl ‹_› ?_; try go_frame
 refine tk 45 rfl rfl ‹_› ?_; try go_frame
 refine wpAnyH_done (by kernel_rfl) ?_ _
 refine NoPanic.normal ?_
 clear hHeld HH HO3 HO4 HO34 HO6 HO7 HO67 HB3 HB4 HB5 HB6 HB7 m0 m1 m2 m3 m4 m5 m6 m7 m8 m9 m10 q0 q1 q2 q3 q4 q5 q6 q7 q8 q9 q10
 go_wp2_with fail
 go_loopw [6] (fun i wr => ∃ k : Nat, i = .int .i64 k ∧ k ≤ c.l.length ∧ Hid (Below wp.heap.size wp wr)) (fun i _ => c.l.length - (intOf i).toNat)
 case atStart => exact ⟨0, rfl, by omega, HB8.out⟩
 case round =>
  obtain ⟨k, rfl, hk, HBr⟩ := hrel
  have HPAr := Hd (heap_keep HPA.out HBr.out); have HRXr := Hd (heap_keep HRXp.out HBr.out)
  obtain ⟨m0, m1, m2, m3, m4, m5, m6, m7, m8, m9, m10⟩ := cell11 HPAr.out
  obtain ⟨q0, q1, q2, q3, q4, q5, q6, q7, q8, q9, q10⟩ := cell11 HRXr.out
  have hk0 : (0 : Int) ≤ k := by omega
  by_cases hkl : k < c.l.length
  ·obtain ⟨x, hx⟩ : ∃ x, c.l[k]? = some x := ⟨_, List.getElem?_eq_getElem hkl⟩
   have hlt : (k : Int) < c.l.length := by omega
   have hcR := fun W => sagaR_neqF x W
   have hcS := fun W => saga_neqF x W
   have hwk : IntKind.i64.wrap ((k : Int) + 1) = (k : Int) + 1 := IntWalk.i64_in _ (by omega)
   go_wp2_with fail
   refine (corder_any (HCp.out.below HBr.out) ((k : Int) + 1) (by omega) (by omega)).mono ?_
   rintro e w2 ⟨hyes, _, hb⟩
   obtain rfl := hyes x (by omega) (by rw [show ((k : Int) + 1).toNat - 1 = k by omega]; exact hx)
   go_upto_region 8 with (fail)
   obtain ⟨w3, hw3⟩ : ∃ w3, w3 = w2.alloc (.cells (sgA x) tSaga) := ⟨_, rfl⟩
   rw [← hw3]
   have hb3 : Below w2.heap.size w2 w3 := by rw [hw3]; exact below_alloc _ _
   have HX3 := Hd (show w3.heap[w2.heap.size]? = some (.cells (sgA x) tSaga (0, 0)) by rw [hw3]; exact heap_new _ _)
   have HB3 := Hd (bch HBr.out (bch hb hb3 hb.size) HBr.out.size)
   clear hyes hw3 hb hb3 HPAr HRXr m0 m1 m2 m3 m4 m5 m6 m7 m8 m9 m10 q0 q1 q2 q3 q4 q5 q6 q7 q8 q9 q10
   generalize w2.heap.size = bx at HX3 ⊢
   have HPAr := Hd (heap_keep HPA.out HB3.out); have HRXr := Hd (heap_keep HRXp.out HB3.out)
   obtain ⟨m0, m1, m2, m3, m4, m5, m6, m7, m8, m9, m10⟩ := cell11 HPAr.out
   obtain ⟨q0, q1, q2, q3, q4, q5, q6, q7, q8, q9, q10⟩ := cell11 HRXr.out
   obtain ⟨t0, t1, t2, t3, t4, t5, t6, t7, t8, t9, t10, t11⟩ := sg_box HX3.out
   obtain ⟨a_g, a_o, n', c', e, d0, d1, d2, d3, d4, d5, d6, d7, d8, d9, d10, d11⟩ := HS1.out.cells HB3.out hx
   injection e with e1' e2' e3'; subst e1'; clear e2' e3'
   obtain ⟨b_g, b_o, n', c', e, f0, f1, f2, f3, f4, f5, f6, f7, f8, f9, f10, f11⟩ := HRp.out.l.cells HB3.out hx
   injection e with e1' e2' e3'; subst e1'; clear e2' e3'
   clear hx
   go_quiet (fail)
   go_wp2_with fail
   go_roundw
   case rel => exact ⟨k + 1, by go_num, by omega, below_drewN HB3.out _⟩
   case measure => simp [intOf]; omega
  ·obtain rfl : k = c.l.length := by omega
   go_wp2_with fail
   clear HPAr HRXr m0 m1 m2 m3 m4 m5 m6 m7 m8 m9 m10 q0 q1 q2 q3 q4 q5 q6 q7 q8 q9 q10
   have HB8 := HBr
   clear HBr
   go_loopw [9] (fun i wr => ∃ k : Nat, i = .int .i64 k ∧ k ≤ c.b.length ∧ Hid (Below wp.heap.size wp wr)) (fun i _ => c.b.length - (intOf i).toNat)
   case atStart => exact ⟨0, rfl, by omega, HB8.out⟩
   case round =>
    obtain ⟨k, rfl, hk, HBr⟩ := hrel
    have HPAr := Hd (heap_keep HPA.out HBr.out); have HRXr := Hd (heap_keep HRXp.out HBr.out)
    obtain ⟨m0, m1, m2, m3, m4, m5, m6, m7, m8, m9, m10⟩ := cell11 HPAr.out
    obtain ⟨q0, q1, q2, q3, q4, q5, q6, q7, q8, q9, q10⟩ := cell11 HRXr.out
    have hk0 : (0 : Int) ≤ k := by omega
    by_cases hkl : k < c.b.length
    ·obtain ⟨x, hx⟩ : ∃ x, c.b[k]? = some x := ⟨_, List.getElem?_eq_getElem hkl⟩
     have hlt : (k : Int) < c.b.length := by omega
     have hcmp := fun W => post_neqF x W
     obtain ⟨a_g, a_o, n', c', e, d0, d1, d2, d3, d4⟩ := (pos_own HP1.out).cells HBr.out hx
     injection e with e1' e2' e3'; subst e1'; clear e2' e3'
     obtain ⟨b_g, b_o, n', c', e, f0, f1, f2, f3, f4⟩ := HRp.out.b.cells HBr.out hx
     injection e with e1' e2' e3'; subst e1'; clear e2' e3'
     clear hx
     go_wp2_with fail
     go_quiet (fail)
     go_wp2_with fail
     go_roundw
     case rel => exact ⟨k + 1, by go_num, by omega, below_drewN HBr.out _⟩
     case measure => simp [intOf]; omega
    ·obtain rfl : k = c.b.length := by omega
     go_wp2_with fail
     clear HPAr HRXr m0 m1 m2 m3 m4 m5 m6 m7 m8 m9 m10 q0 q1 q2 q3 q4 q5 q6 q7 q8 q9 q10
     have HB8 := HBr
     clear HBr
     go_loopw [10] (fun i wr => ∃ k : Nat, i = .int .i64 k ∧ k ≤ 3 ∧ Hid (Below wp.heap.size wp wr)) (fun i _ => 3 - (intOf i).toNat)
     case atStart => exact ⟨0, rfl, by omega, HB8.out⟩
     case round =>
      obtain ⟨k, rfl, hk, HBr⟩ := hrel
      have HPAr := Hd (heap_keep HPA.out HBr.out); have HRXr := Hd (heap_keep HRXp.out HBr.out)
      obtain ⟨m0, m1, m2, m3, m4, m5, m6, m7, m8, m9, m10⟩ := cell11 HPAr.out
      obtain ⟨q0, q1, q2, q3, q4, q5, q6, q7, q8, q9, q10⟩ := cell11 HRXr.out
      have hk0 : (0 : Int) ≤ k := by omega
      by_cases hkl : k < 3
      ·rcases (show k = 0 ∨ k = 1 ∨ k = 2 by omega) with rfl | rfl | rfl
       ·go_wp2_with fail
        have HH := Hd (fun W (hb : Below wr.heap.size wr W) => (⟨Hd hb, kc hb m2, kc hb m3, kc hb m4, kc hb q2, kc hb q3, kc hb q4⟩ : (fun w' => Hid (Below wr.heap.size wr w') ∧ w'.cell? ⟨ba, 2, none⟩ = some (.int .i64 c.inn.a.1) ∧ w'.cell? ⟨ba, 3, none⟩ = some (.int .i64 c.inn.a.2.1) ∧ w'.cell? ⟨ba, 4, none⟩ = some (.slice A0 c.inn.a.2.2.length c0) ∧ w'.cell? ⟨rb, 2, none⟩ = some (.int .i64 c.inn.a.1) ∧ w'.cell? ⟨rb, 3, none⟩ = some (.int .i64 c.inn.a.2.1) ∧ w'.cell? ⟨rb, 4, none⟩ = some (.slice D0 n0 g0)) W))
        refine wp_region_noPanic ?_
        refine wp_region_held_drew (S := (fun w' => Hid (Below wr.heap.size wr w') ∧ w'.cell? ⟨ba, 2, none⟩ = some (.int .i64 c.inn.a.1) ∧ w'.cell? ⟨ba, 3, none⟩ = some (.int .i64 c.inn.a.2.1) ∧ w'.cell? ⟨ba, 4, none⟩ = some (.slice A0 c.inn.a.2.2.length c0) ∧ w'.cell? ⟨rb, 2, none⟩ = some (.int .i64 c.inn.a.1) ∧ w'.cell? ⟨rb, 3, none⟩ = some (.int .i64 c.inn.a.2.1) ∧ w'.cell? ⟨rb, 4, none⟩ = some (.slice D0 n0 g0))) (by kernel_rfl) (HH.out _ (below_drew1 (Below.refl wr.heap.size wr))) (fun hHeld => ?_)
        refine tk 0 rfl rfl ‹_› ?_; try go_frame
        refine tk 1 rfl rfl ‹_› ?_; try go_frame
        refine tk 2 rfl rfl ‹_› ?_; try go_frame
        refine tk 3 rfl rfl ‹_› ?_; try go_frame
        refine tk 4 rfl rfl ‹_› ?_; try go_frame
        refine tk 5 rfl rfl ‹_› ?_; try go_frame
        refine tk 6 rfl rfl ‹_› ?_; try go_frame
        refine tk 7 rfl rfl ‹_› ?_; try go_frame
        refine tk 8 rfl rfl ‹_› ?_; try go_frame
        refine tk 9 rfl rfl ‹_› ?_; try go_frame
        refine tk 10 rfl rfl ‹_› ?_; try go_frame
        refine rdy 11 rfl (fun K hK => ?_)
        go_simp
        refine (refSameT _ _ _ c.inn.a.2.2 c.inn.a.1 c.inn.a.2.1 (HQ0.out.keep (bch HBr.out (below_drew1 (Below.refl wr.heap.size wr)) HBr.out.size)) (HE0.out.keep (bch HBr.out (below_drew1 (Below.refl wr.heap.size wr)) HBr.out.size)) hic.1).mono ?_
        rintro e w5 ⟨rfl, hb⟩
        have HW5 := Hd (bch (below_drew1 (Below.refl wr.heap.size wr)) hb (Below.size (below_drew1 (Below.refl wr.heap.size wr))))
        clear hb
        refine hK.out _ _ (HH.out _ (HW5.out)) (fun hHeld => ?_)
        clear hK K
        (try simp only [gx1, gx2, gx3]); try go_frame
        refine tk 12 rfl rfl ‹_› ?_; try go_frame
        refine wpAnyH_done (by kernel_rfl) ?_ _
        refine NoPanic.normal ?_
        have HB5 := Hd (bch HBr.out HW5.out HBr.out.size)
        clear hHeld HH
        go_wp2_with fail
        go_roundw
        case rel => exact ⟨1, rfl, by omega, HB5.out⟩
        case measure => simp [intOf]
       ·go_wp2_with fail
        have HH := Hd (fun W (hb : Below wr.heap.size wr W) => (⟨Hd hb, kc hb m5, kc hb m6, kc hb m7, kc hb q5, kc hb q6, kc hb q7⟩ : (fun w' => Hid (Below wr.heap.size wr w') ∧ w'.cell? ⟨ba, 5, none⟩ = some (.int .i64 c.inn.b.1) ∧ w'.cell? ⟨ba, 6, none⟩ = some (.int .i64 c.inn.b.2.1) ∧ w'.cell? ⟨ba, 7, none⟩ = some (.slice A1 c.inn.b.2.2.length c1) ∧ w'.cell? ⟨rb, 5, none⟩ = some (.int .i64 c.inn.b.1) ∧ w'.cell? ⟨rb, 6, none⟩ = some (.int .i64 c.inn.b.2.1) ∧ w'.cell? ⟨rb, 7, none⟩ = some (.slice D1 n1 g1)) W))
        refine wp_region_noPanic ?_
        refine wp_region_held_drew (S := (fun w' => Hid (Below wr.heap.size wr w') ∧ w'.cell? ⟨ba, 5, none⟩ = some (.int .i64 c.inn.b.1) ∧ w'.cell? ⟨ba, 6, none⟩ = some (.int .i64 c.inn.b.2.1) ∧ w'.cell? ⟨ba, 7, none⟩ = some (.slice A1 c.inn.b.2.2.length c1) ∧ w'.cell? ⟨rb, 5, none⟩ = some (.int .i64 c.inn.b.1) ∧ w'.cell? ⟨rb, 6, none⟩ = some (.int .i64 c.inn.b.2.1) ∧ w'.cell? ⟨rb, 7, none⟩ = some (.slice D1 n1 g1))) (by kernel_rfl) (HH.out _ (below_drew1 (Below.refl wr.heap.size wr))) (fun hHeld => ?_)
        refine tk 0 rfl rfl ‹_› ?_; try go_frame
        refine tk 1 rfl rfl ‹_› ?_; try go_frame
        refine tk 2 rfl rfl ‹_› ?_; try go_frame
        refine tk 3 rfl rfl ‹_› ?_; try go_frame
        refine tk 4 rfl rfl ‹_› ?_; try go_frame
        refine tk 5 rfl rfl ‹_› ?_; try go_frame
        refine tk 6 rfl rfl ‹_› ?_; try go_frame
        refine tk 7 rfl rfl ‹_› ?_; try go_frame
        refine tk 8 rfl rfl ‹_› ?_; try go_frame
        refine tk 9 rfl rfl ‹_› ?_; try go_frame
        refine tk 10 rfl rfl ‹_› ?_; try go_frame
        refine rdy 11 rfl (fun K hK => ?_)
        go_simp
        refine (refSameT _ _ _ c.inn.b.2.2 c.inn.b.1 c.inn.b.2.1 (HQ1.out.keep (bch HBr.out (below_drew1 (Below.refl wr.heap.size wr)) HBr.out.size)) (HE1.out.keep (bch HBr.out (below_drew1 (Below.refl wr.heap.size wr)) HBr.out.size)) hic.2.1).mono ?_
        rintro e w5 ⟨rfl, hb⟩
        have HW5 := Hd (bch (below_drew1 (Below.refl wr.heap.size wr)) hb (Below.size (below_drew1 (Below.refl wr.heap.size wr))))
        clear hb
        refine hK.out _ _ (HH.out _ (HW5.out)) (fun hHeld => ?_)
        clear hK K
        (try simp only [gx1, gx2, gx3]); try go_frame
        refine tk 12 rfl rfl ‹_› ?_; try go_frame
        refine wpAnyH_done (by kernel_rfl) ?_ _
        refine NoPanic.normal ?_
        have HB5 := Hd (bch HBr.out HW5.out HBr.out.size)
        clear hHeld HH
        go_wp2_with fail
        go_roundw
        case rel => exact ⟨2, rfl, by omega, HB5.out⟩
        case measure => simp [intOf]
       ·go_wp2_with fail
        have HH := Hd (fun W (hb : Below wr.heap.size wr W) => (⟨Hd hb, kc hb m8, kc hb m9, kc hb m10, kc hb q8, kc hb q9, kc hb q10⟩ : (fun w' => Hid (Below wr.heap.size wr w') ∧ w'.cell? ⟨ba, 8, none⟩ = some (.int .i64 c.inn.c.1) ∧ w'.cell? ⟨ba, 9, none⟩ = some (.int .i64 c.inn.c.2.1) ∧ w'.cell? ⟨ba, 10, none⟩ = some (.slice A2 c.inn.c.2.2.length c2) ∧ w'.cell? ⟨rb, 8, none⟩ = some (.int .i64 c.inn.c.1) ∧ w'.cell? ⟨rb, 9, none⟩ = some (.int .i64 c.inn.c.2.1) ∧ w'.cell? ⟨rb, 10, none⟩ = some (.slice D2 n2 g2)) W))
        refine wp_region_noPanic ?_
        refine wp_region_held_drew (S := (fun w' => Hid (Below wr.heap.size wr w') ∧ w'.cell? ⟨ba, 8, none⟩ = some (.int .i64 c.inn.c.1) ∧ w'.cell? ⟨ba, 9, none⟩ = some (.int .i64 c.inn.c.2.1) ∧ w'.cell? ⟨ba, 10, none⟩ = some (.slice A2 c.inn.c.2.2.length c2) ∧ w'.cell? ⟨rb, 8, none⟩ = some (.int .i64 c.inn.c.1) ∧ w'.cell? ⟨rb, 9, none⟩ = some (.int .i64 c.inn.c.2.1) ∧ w'.cell? ⟨rb, 10, none⟩ = some (.slice D2 n2 g2))) (by kernel_rfl) (HH.out _ (below_drew1 (Below.refl wr.heap.size wr))) (fun hHeld => ?_)
        refine tk 0 rfl rfl ‹_› ?_; try go_frame
        refine tk 1 rfl rfl ‹_› ?_; try go_frame
        refine tk 2 rfl rfl ‹_› ?_; try go_frame
        refine tk 3 rfl rfl ‹_› ?_; try go_frame
        refine tk 4 rfl rfl ‹_› ?_; try go_frame
        refine tk 5 rfl rfl ‹_› ?_; try go_frame
        refine tk 6 rfl rfl ‹_› ?_; try go_frame
        refine tk 7 rfl rfl ‹_› ?_; try go_frame
        refine tk 8 rfl rfl ‹_› ?_; try go_frame
        refine tk 9 rfl rfl ‹_› ?_; try go_frame
        refine tk 10 rfl rfl ‹_› ?_; try go_frame
        refine rdy 11 rfl (fun K hK => ?_)
        go_simp
        refine (refSameT _ _ _ c.inn.c.2.2 c.inn.c.1 c.inn.c.2.1 (HQ2.out.keep (bch HBr.out (below_drew1 (Below.refl wr.heap.size wr)) HBr.out.size)) (HE2.out.keep (bch HBr.out (below_drew1 (Below.refl wr.heap.size wr)) HBr.out.size)) hic.2.2).mono ?_
        rintro e w5 ⟨rfl, hb⟩
        have HW5 := Hd (bch (below_drew1 (Below.refl wr.heap.size wr)) hb (Below.size (below_drew1 (Below.refl wr.heap.size wr))))
        clear hb
        refine hK.out _ _ (HH.out _ (HW5.out)) (fun hHeld => ?_)
        clear hK K
        (try simp only [gx1, gx2, gx3]); try go_frame
        refine tk 12 rfl rfl ‹_› ?_; try go_frame
        refine wpAnyH_done (by kernel_rfl) ?_ _
        refine NoPanic.normal ?_
        have HB5 := Hd (bch HBr.out HW5.out HBr.out.size)
        clear hHeld HH
        go_wp2_with fail
        go_roundw
        case rel => exact ⟨3, rfl, by omega, HB5.out⟩
        case measure => simp [intOf]
      ·obtain rfl : k = 3 := by omega
       go_wp2_with fail
       go_ret
       exact ⟨rfl, bch HBP.out HBr.out HBP.out.size⟩
end Go.Proofs.YtiagdpfmmjhgcaaGreatDoor

/- A core takes an entry. -/
import Derived.Test.YtiagdpfmmjhgcaaGreatDoorCoreStmt
import Derived.Test.YtiagdpfmmjhgcaaGreatDoorRefOCk
import Derived.Test.YtiagdpfmmjhgcaaGreatDoorOpenS
import Derived.Test.YtiagdpfmmjhgcaaGreatDoorMatchFind
import Derived.Test.YtiagdpfmmjhgcaaGreatDoorSrcOf
namespace Go.Proofs.YtiagdpfmmjhgcaaGreatDoor
open Go.RowKit Go.Maps Co Key Rw Sa Od

abbrev tEnt : TypeId := 39
namespace Co
/-- An entry: its kind, order, key, code, statement. -/
structure Ent where
  kind : Int
  o : Ord5
  k : Int × Int
  code : Int
  s : In.Stm
def applyE (c : Cor) (e : Ent) : Int := if e.kind = 1 then placeE c e.o else if e.kind = 2 then cstopE c e.k.1 else if e.kind = 3 then replyE c e.k.1 e.k.2 e.code else if e.kind = 4 then In.accE c.inn e.s else 2
def applyC (c : Cor) (e : Ent) : Cor := if e.kind = 1 then placeC c e.o else if e.kind = 2 then cstopC c e.k.1 else if e.kind = 3 then replyC c e.k.1 e.k.2 e.code else if e.kind = 4 then stmC c e.s else c
/-- What is asked of a core ahead of an entry: its postings' names stay apart. -/
structure ApOk (c : Cor) (e : Ent) : Prop where
  l : c.l.length ≤ 60
  b : c.b.length ≤ 90000
  am : ∀ s ∈ c.l, 0 ≤ s.amt ∧ s.amt ≤ 1099511627776
  rep : e.kind = 3 → replyE c e.k.1 e.k.2 e.code = 0 → ∀ p ∈ postR c e.k.1 e.k.2 e.code, mayP p ∧ ∀ x ∈ c.b, x.id ≠ p.id
  stm : e.kind = 4 → In.accE c.inn e.s = 0 → (∀ p ∈ stmPs c.inn (In.accI c.inn e.s) e.s.2.1 60, mayP p) ∧ ((c.b ++ stmPs c.inn (In.accI c.inn e.s) e.s.2.1 60).map (·.id)).Nodup
end Co
theorem cstop_inn (c : Cor) (o : Int) : (cstopC c o).inn = c.inn := by
  unfold cstopC
  split
  · split <;> rfl
  · rfl
theorem reply_inn (c : Cor) (o d code : Int) : (replyC c o d code).inn = c.inn := by
  unfold replyC
  split
  · split <;> rfl
  · rfl
set_option linter.unusedSimpArgs false in
set_option linter.unusedVariables false in
set_option maxRecDepth 100000 in
set_option maxHeartbeats 16000000 in
theorem capply_any {B : Nat} {w : World} {cb bb pm bm : Nat} {vl vb vI : Value} {c : Cor} (h : Cw B w cb bb pm bm vl vb vI c) (e : Ent) (u : Value) (hu : Rd w u e.s.2.2) (hT : PT w) (hok : ApOk c e) (hk : -9223372036854775808 ≤ e.k.1 ∧ e.k.1 ≤ 9223372036854775807)
    (hput : ∀ W, Below B w W → Calls Tryz.prog 56 #[.agg #[.int .i64 e.k.1, .int .i64 e.k.2]] W fun e2 w' => e2 = .returned (.string ⟨(putK e.k.1 e.k.2).toArray⟩) ∧ Below W.heap.size W w')
    (hito : ∀ (n : Int) W, 0 ≤ n → n ≤ 1073741824 → Below B w W → Calls Tryz.prog 58 #[.int .i64 n] W fun e w' => e = .returned (.string ⟨(Lib.itoa n).toArray⟩) ∧ Below W.heap.size W w') :
    Calls Tryz.prog 9 #[.pointer (some ⟨cb, 0, none⟩), .agg #[.int .i64 e.kind, .int .i64 e.o.1, .string ⟨e.o.2.1.toArray⟩, .string ⟨e.o.2.2.1.toArray⟩, .int .i64 e.o.2.2.2.1, .int .i64 e.o.2.2.2.2, .int .i64 e.k.1, .int .i64 e.k.2, .int .i64 e.code, .int .i64 e.s.1, .int .i64 e.s.2.1, u]] w fun e2 w' => ∃ vl' vb' vI', e2 = .returned (.int .i64 (applyE c e)) ∧ Cw B w' cb bb pm bm vl' vb' vI' (applyC c e) ∧ Turned (Cs cb bb pm bm vl vb) w w' ∧ (∀ j, vl'.ownBlock = some j → vl.ownBlock = some j ∨ w.heap.size ≤ j) ∧ (∀ j, vb'.ownBlock = some j → vb.ownBlock = some j ∨ w.heap.size ≤ j) ∧ ∀ j, j < w.heap.size → Av j vI c.inn → Av j vI' (applyC c e).inn := by
  obtain ⟨Au, cu, rfl, _⟩ := hu.shape
  obtain ⟨wa, hA⟩ : ∃ wa, wa = w.alloc (.cells #[.int .i64 e.kind, .int .i64 e.o.1, .string ⟨e.o.2.1.toArray⟩, .string ⟨e.o.2.2.1.toArray⟩, .int .i64 e.o.2.2.2.1, .int .i64 e.o.2.2.2.2, .int .i64 e.k.1, .int .i64 e.k.2, .int .i64 e.code, .int .i64 e.s.1, .int .i64 e.s.2.1, .slice Au e.s.2.2.length cu] tEnt) := ⟨_, rfl⟩
  have hB : Below w.heap.size w wa := by rw [hA]; exact below_alloc _ _
  have HX := Lib.hid (show wa.heap[w.heap.size]? = some (.cells #[.int .i64 e.kind, .int .i64 e.o.1, .string ⟨e.o.2.1.toArray⟩, .string ⟨e.o.2.2.1.toArray⟩, .int .i64 e.o.2.2.2.1, .int .i64 e.o.2.2.2.2, .int .i64 e.k.1, .int .i64 e.k.2, .int .i64 e.code, .int .i64 e.s.1, .int .i64 e.s.2.1, .slice Au e.s.2.2.length cu] tEnt (0, 0)) by rw [hA]; exact heap_new _ _)
  have HC := Lib.hid (h.below hB); have HA := Lib.hid hA; have HB := Lib.hid hB; have HU := Lib.hid (hu.keep hB); have HT := Lib.hid (hT.below hB); have HOK := Lib.hid hok
  have hBw : B ≤ w.heap.size := by have := h.ge; have := heap_lt h.hc; omega
  have HPUT := Lib.hid (fun W (hW : Below B wa W) => hput W ((hB.mono hBw).trans hW)); have HITO := Lib.hid (fun (n : Int) W h0 h1 (hW : Below B wa W) => hito n W h0 h1 ((hB.mono hBw).trans hW))
  have hl5 : c.l.length ≤ 100000 := by have := hok.l; omega
  clear hA hB hu hT hok hput hito
  obtain ⟨m0, m1, m2, m3, m4, m5, m6, m7, m8, m9, m10, m11⟩ := cell12 HX.out
  go_enter Tryz.func9, Tryz.ntmps9
  go_upto_region 1 with (fail)
  rw [← HA.out]
  by_cases hk1 : e.kind = 1
  · have q1 := beqT hk1
    have HE := Lib.hid (show applyE c e = placeE c e.o by unfold applyE; rw [if_pos hk1])
    have HCC := Lib.hid (show applyC c e = placeC c e.o by unfold applyC; rw [if_pos hk1])
    clear hk1
    go_wp2_with (go_at_call 18; refine (cnone_any HC.out).mono ?_; rintro e w1 ⟨rfl, hb⟩; subst hb)
    refine (cplace_any HC.out e.o hl5).mono ?_
    rintro e2 w2 ⟨vl', rfl, hc2, ht2, hf2⟩
    go_wp2_with fail
    go_ret
    exact ⟨vl', vb, vI, by rw [HE.out]; rfl, by rw [HCC.out]; exact hc2, (Turned.of_below HB.out).trans ht2, fun j hj => (hf2 j hj).imp id (fun h => by have := HB.out.size; omega), fun j hj => .inl hj, fun j hj h => by rw [HCC.out]; unfold placeC; split <;> exact h⟩
  · have q1 := beqF hk1
    by_cases hk2 : e.kind = 2
    · have q2 := beqT hk2
      have HE := Lib.hid (show applyE c e = cstopE c e.k.1 by unfold applyE; rw [if_neg hk1]; rw [if_pos hk2])
      have HCC := Lib.hid (show applyC c e = cstopC c e.k.1 by unfold applyC; rw [if_neg hk1]; rw [if_pos hk2])
      clear hk1 hk2
      go_wp2_with (go_at_call 18; refine (cnone_any HC.out).mono ?_; rintro e w1 ⟨rfl, hb⟩; subst hb)
      refine (cstop_any HC.out e.k.1 ⟨by omega, by omega⟩ hl5).mono ?_
      rintro e2 w2 ⟨rfl, hc2, ht2⟩
      go_wp2_with fail
      go_ret
      exact ⟨vl, vb, vI, by rw [HE.out]; rfl, by rw [HCC.out]; exact hc2, (Turned.of_below HB.out).trans ht2, fun j hj => .inl hj, fun j hj => .inl hj, fun j hj h => by rw [HCC.out]; rw [cstop_inn]; exact h⟩
    · have q2 := beqF hk2
      by_cases hk3 : e.kind = 3
      · have q3 := beqT hk3
        have HE := Lib.hid (show applyE c e = replyE c e.k.1 e.k.2 e.code by unfold applyE; rw [if_neg hk1]; rw [if_neg hk2]; rw [if_pos hk3])
        have HCC := Lib.hid (show applyC c e = replyC c e.k.1 e.k.2 e.code by unfold applyC; rw [if_neg hk1]; rw [if_neg hk2]; rw [if_pos hk3])
        have hrep := HOK.out.rep hk3
        have HREP := Lib.hid hrep
        clear hrep
        clear hk1 hk2 hk3
        go_wp2_with (go_at_call 18; refine (cnone_any HC.out).mono ?_; rintro e w1 ⟨rfl, hb⟩; subst hb)
        refine (creply_any HC.out e.k.1 e.k.2 e.code ⟨by omega, by omega⟩ hl5 (by have := HOK.out.b; omega) HOK.out.am HREP.out (fun W hW => HPUT.out W hW)).mono ?_
        rintro e2 w2 ⟨vb', rfl, hc2, ht2, hf2⟩
        go_wp2_with fail
        go_ret
        exact ⟨vl, vb', vI, by rw [HE.out]; rfl, by rw [HCC.out]; exact hc2, (Turned.of_below HB.out).trans ht2, fun j hj => .inl hj, fun j hj => (hf2 j hj).imp id (fun h => by have := HB.out.size; omega), fun j hj h => by rw [HCC.out]; rw [reply_inn]; exact h⟩
      · have q3 := beqF hk3
        by_cases hk4 : e.kind = 4
        · have q4 := beqT hk4
          have HE := Lib.hid (show applyE c e = In.accE c.inn e.s by unfold applyE; rw [if_neg hk1]; rw [if_neg hk2]; rw [if_neg hk3]; rw [if_pos hk4])
          have HCC := Lib.hid (show applyC c e = stmC c e.s by unfold applyC; rw [if_neg hk1]; rw [if_neg hk2]; rw [if_neg hk3]; rw [if_pos hk4])
          have hstm := HOK.out.stm hk4
          have HSTM := Lib.hid hstm
          clear hstm
          clear hk1 hk2 hk3 hk4
          go_wp2_with (go_at_call 18; refine (cnone_any HC.out).mono ?_; rintro e w1 ⟨rfl, hb⟩; subst hb)
          refine (cstmt_any HC.out e.s _ HU.out HT.out hl5 HOK.out.b (fun h => (HSTM.out h).1) (fun h => (HSTM.out h).2) (fun n W h0 h1 hW => HITO.out n W h0 h1 hW)).mono ?_
          rintro e2 w2 ⟨vb', vI', rfl, hc2, ht2, hf2, ha2⟩
          go_wp2_with fail
          go_ret
          exact ⟨vl, vb', vI', by rw [HE.out]; rfl, by rw [HCC.out]; exact hc2, (Turned.of_below HB.out).trans ht2, fun j hj => .inl hj, fun j hj => (hf2 j hj).imp id (fun h => by have := HB.out.size; omega), fun j hj h => by rw [HCC.out]; exact ha2 j (by have := HB.out.size; omega) h⟩
        · have q4 := beqF hk4
          have HE := Lib.hid (show applyE c e = 2 by unfold applyE; rw [if_neg hk1]; rw [if_neg hk2]; rw [if_neg hk3]; rw [if_neg hk4])
          have HCC := Lib.hid (show applyC c e = c by unfold applyC; rw [if_neg hk1]; rw [if_neg hk2]; rw [if_neg hk3]; rw [if_neg hk4])
          clear hk1 hk2 hk3 hk4
          go_wp2_with (go_at_call 18; refine (cnone_any HC.out).mono ?_; rintro e w1 ⟨rfl, hb⟩; subst hb)
          go_ret
          exact ⟨vl, vb, vI, by rw [HE.out]; rfl, by rw [HCC.out]; exact HC.out, Turned.of_below HB.out, fun j hj => .inl hj, fun j hj => .inl hj, fun j hj h => by rw [HCC.out]; exact h⟩
end Go.Proofs.YtiagdpfmmjhgcaaGreatDoor
/- Arguments that are keys, or bytes. -/
namespace Go.Proofs.YtiagdpfmmjhgcaaGreatDoor
open Go.RowKit Go.ChangeShapes Go.WideShapes Go.Deep Go.Joins

section
variable {H : Type} {enc : TypeId × Value → H}
theorem wf64 {a : Int} (h : (Lit.int .i64 a).wf = true) : -9223372036854775808 ≤ a ∧ a ≤ 9223372036854775807 := by simpa [Lit.wf, IntKind.min, IntKind.max, IntKind.signed, IntKind.bits] using h
theorem wfu8 {a : Int} (h : (Lit.int .u8 a).wf = true) : 0 ≤ a ∧ a ≤ 255 := by simpa [Lit.wf, IntKind.min, IntKind.max, IntKind.signed, IntKind.bits] using h
def IsKey (cs : List Value) (x : Int × Int) : Prop := cs = [.int .i64 x.1, .int .i64 x.2] ∧ (-9223372036854775808 ≤ x.1 ∧ x.1 ≤ 9223372036854775807) ∧ (-9223372036854775808 ≤ x.2 ∧ x.2 ≤ 9223372036854775807)
def IsByte (cs : List Value) (x : Int) : Prop := cs = [.int .u8 x] ∧ 0 ≤ x ∧ x ≤ 255
theorem opens_key : Opens enc Tryz.prog 34 (Int × Int) fun _ _ cs x => IsKey cs x :=
  (opens_struct Tryz.underlying34 (k := 2) (by kernel_rfl) (opens_cons (k := 1) (by kernel_rfl) (opens_int Tryz.underlying3) (opens_cons (k := 1) (by kernel_rfl) (opens_int Tryz.underlying3) opens_nil))).imp fun _ _ cs a h => by
    obtain ⟨hl, h0, h1, _⟩ := h
    obtain ⟨x0, x1, rfl⟩ := list2 hl
    simp only [List.drop_zero, List.take_succ_cons, List.take_zero, List.drop_succ_cons, List.cons.injEq, and_true] at h0 h1
    exact ⟨(a.1, a.2.1), by rw [h0.1, h1.1], wf64 h0.2, wf64 h1.2⟩
theorem opens_byte : Opens enc Tryz.prog 5 Int fun _ _ cs x => IsByte cs x :=
  (opens_int Tryz.underlying5).imp fun _ _ _ a h => ⟨a, h.1, wfu8 h.2⟩
end
end Go.Proofs.YtiagdpfmmjhgcaaGreatDoor
/- What the laws of sagas and statements are handed: sagas, statements with their rows, orders. -/
namespace Go.Proofs.YtiagdpfmmjhgcaaGreatDoor
open Go.RowKit Go.ChangeShapes Go.WideShapes Go.Deep Go.Joins Sa

section
variable {H : Type} {enc : TypeId × Value → H} {P : Program}
/-- A slice, and that it has no room where it is nil. -/
theorem opens_sliceN {t e : TypeId} {α : Type} {R : World → Nat → List Value → α → Prop} {k : Nat} (ht : P.underlying t = some (.slice e)) (hk : P.cellsOf e = k) (h0 : 0 < k) (h : Opens enc P e α R) :
    Opens enc P t (List α) fun w B cs L => ∃ v, cs = [v] ∧ SlK w B k (R w B) v L ∧ NilOk v := fun w n cs x B hx hB => by
  obtain ⟨L, v, e1, h1⟩ := opens_slice ht hk h0 h w n cs x B hx hB
  refine ⟨L, v, e1, h1, fun m c e2 => ?_⟩
  rcases open_slice ht hx with ⟨e3, _⟩ | ⟨a, len, cap, m', n', D, Pl, e3, _⟩
  · rw [e1, e2] at e3
    injection e3 with e3
    injection e3 with _ _ e3
  · rw [e1, e2] at e3
    injection e3 with e3
    injection e3 with e3
    cases e3
theorem opens_argN {t e : TypeId} {α : Type} {R : World → Nat → List Value → α → Prop} {k : Nat} {w : World} {r : Reach} {b0 : Nat} {v : Value} {d : DataW H} {p : List MemPlace} (ht : P.underlying t = some (.slice e)) (hk : P.cellsOf e = k) (h0 : 0 < k) (O : Opens enc P e α R)
    (hval : Value.okWide P w r b0 t v) (h : DataW.Trod enc P w 0 (fun _ => true) true t v d p) (hlt : ∀ x ∈ p, x.block < w.heap.size) : ∃ L, SlK w w.heap.size k (R w w.heap.size) v L ∧ NilOk v := by
  obtain ⟨A, n, c, rfl⟩ := okWide_slice ht hval
  obtain ⟨fuel, h⟩ := h
  obtain ⟨L, v', e, hL⟩ := opens_sliceN ht hk h0 O w fuel _ (d, p) w.heap.size h hlt
  have e' : Value.slice A n c = v' := by simpa [Value.cells] using e
  subst e'
  exact ⟨L, hL⟩
def I64 (a : Int) : Prop := -9223372036854775808 ≤ a ∧ a ≤ 9223372036854775807
/-- Six numbers. -/
theorem opens_six {t e : TypeId} (ht : P.underlying t = some (.array 6 e)) (he : P.underlying e = some (.int .i64)) (hk : P.cellsOf t = 6) (hk1 : P.cellsOf e = 1) :
    Opens enc P t (Int × Int × Int × Int × Int × Int) fun _ _ cs x => cs = [.int .i64 x.1, .int .i64 x.2.1, .int .i64 x.2.2.1, .int .i64 x.2.2.2.1, .int .i64 x.2.2.2.2.1, .int .i64 x.2.2.2.2.2] := fun w n cs x B hx hB => by
  obtain ⟨xs, m, _, rfl, hl, hn, hi⟩ := DataW.trod_array ht hx
  rw [hk] at hl
  rw [hk1] at hi
  obtain ⟨x0, x1, x2, x3, x4, x5, rfl⟩ := list6 hl
  have one : ∀ (i : Nat) (u : Value), i < 6 → ((([x0, x1, x2, x3, x4, x5] : List Value).drop (i * 1)).take 1) = [u] → ∃ a, u = .int .i64 a := fun i u h6 hu => by
    have h1 := hi i h6
    rw [hu, List.getElem?_eq_getElem (by omega)] at h1
    obtain ⟨a, e1, _, _⟩ := DataW.trod_int he h1
    injection e1 with e1
    exact ⟨a, e1⟩
  obtain ⟨a0, rfl⟩ := one 0 x0 (by omega) rfl
  obtain ⟨a1, rfl⟩ := one 1 x1 (by omega) rfl
  obtain ⟨a2, rfl⟩ := one 2 x2 (by omega) rfl
  obtain ⟨a3, rfl⟩ := one 3 x3 (by omega) rfl
  obtain ⟨a4, rfl⟩ := one 4 x4 (by omega) rfl
  obtain ⟨a5, rfl⟩ := one 5 x5 (by omega) rfl
  exact ⟨(a0, a1, a2, a3, a4, a5), rfl⟩
end
section
variable {H : Type} {enc : TypeId × Value → H}
/-- An order, as a caller hands it over. -/
def IsOrd (cs : List Value) (x : Int × List UInt8 × List UInt8 × Int × Int) : Prop :=
  cs = [.int .i64 x.1, .string ⟨x.2.1.toArray⟩, .string ⟨x.2.2.1.toArray⟩, .int .i64 x.2.2.2.1, .int .i64 x.2.2.2.2] ∧ I64 x.1 ∧ I64 x.2.2.2.1 ∧ I64 x.2.2.2.2 ∧ x.2.1.length ≤ maxLen ∧ x.2.2.1.length ≤ maxLen
theorem opens_ord : Opens enc Tryz.prog 32 (Int × List UInt8 × List UInt8 × Int × Int) fun _ _ cs x => IsOrd cs x :=
  (opens_struct Tryz.underlying32 (k := 5) (by kernel_rfl) (opens_cons (k := 1) (by kernel_rfl) (opens_int Tryz.underlying3) (opens_cons (k := 1) (by kernel_rfl) (opens_str Tryz.underlying9) (opens_cons (k := 1) (by kernel_rfl) (opens_str Tryz.underlying9) (opens_cons (k := 1) (by kernel_rfl) (opens_int Tryz.underlying3) (opens_cons (k := 1) (by kernel_rfl) (opens_int Tryz.underlying2) opens_nil)))))).imp fun _ _ cs a h => by
    obtain ⟨hl, h0, h1, h2, h3, h4, _⟩ := h
    obtain ⟨x0, x1, x2, x3, x4, rfl⟩ := list5 hl
    simp only [List.drop_zero, List.take_succ_cons, List.take_zero, List.drop_succ_cons, List.cons.injEq, and_true] at h0 h1 h2 h3 h4
    exact ⟨(a.1, a.2.1, a.2.2.1, a.2.2.2.1, a.2.2.2.2.1), by rw [h0.1, h1.1, h2.1, h3.1, h4.1], wf64 h0.2, wf64 h3.2, wf64 h4.2, h1.2, h2.2⟩
def IsSg (cs : List Value) (s : Sg) : Prop := cs = encS s ∧ I64 s.id ∧ I64 s.qty ∧ I64 s.amt
theorem opens_saga : Opens enc Tryz.prog 45 Sg fun _ _ cs x => IsSg cs x :=
  (opens_struct Tryz.underlying45 (k := 12) (by kernel_rfl) (opens_cons (k := 5) (by kernel_rfl) opens_ord (opens_cons (k := 6) (by kernel_rfl) (opens_six Tryz.underlying43 Tryz.underlying3 (by kernel_rfl) (by kernel_rfl)) (opens_cons (k := 1) (by kernel_rfl) (opens_bool Tryz.underlying4) opens_nil)))).imp fun _ _ cs a h => by
    obtain ⟨hl, h0, h1, h2, _⟩ := h
    match cs, hl with
    | [x0, x1, x2, x3, x4, x5, x6, x7, x8, x9, x10, x11], _ =>
      simp only [IsOrd, List.drop_zero, List.take_succ_cons, List.take_zero, List.drop_succ_cons, List.cons.injEq, and_true] at h0 h1 h2
      obtain ⟨⟨rfl, rfl, rfl, rfl, rfl⟩, b0, b1, b2, _⟩ := h0
      obtain ⟨rfl, rfl, rfl, rfl, rfl, rfl⟩ := h1
      subst h2
      exact ⟨⟨a.1.1, a.1.2.1, a.1.2.2.1, a.1.2.2.2.1, a.1.2.2.2.2, a.2.1.1, a.2.1.2.1, a.2.1.2.2.1, a.2.1.2.2.2.1, a.2.1.2.2.2.2.1, a.2.1.2.2.2.2.2, a.2.2.1⟩, rfl, b0, b1, b2⟩
theorem opens_row : Opens enc Tryz.prog 58 R5 fun _ _ cs x => cs = encR x :=
  (opens_struct Tryz.underlying58 (k := 5) (by kernel_rfl) (opens_cons (k := 2) (by kernel_rfl) opens_key (opens_cons (k := 1) (by kernel_rfl) (opens_int Tryz.underlying3) (opens_cons (k := 1) (by kernel_rfl) (opens_int Tryz.underlying2) (opens_cons (k := 1) (by kernel_rfl) (opens_int Tryz.underlying3) opens_nil))))).imp fun _ _ cs a h => by
    obtain ⟨hl, h0, h1, h2, h3, _⟩ := h
    obtain ⟨x0, x1, x2, x3, x4, rfl⟩ := list5 hl
    simp only [IsKey, List.drop_zero, List.take_succ_cons, List.take_zero, List.drop_succ_cons, List.cons.injEq, and_true] at h0 h1 h2 h3
    exact ⟨(a.1, a.2.1, a.2.2.1, a.2.2.2.1), by rw [h0.1.1, h0.1.2, h1.1, h2.1, h3.1]; rfl⟩
/-- A statement, as a caller hands it over. -/
def IsStm (w : World) (B : Nat) (cs : List Value) (x : In.Stm) : Prop := ∃ v, cs = [.int .i64 x.1, .int .i64 x.2.1, v] ∧ I64 x.1 ∧ I64 x.2.1 ∧ SlK w B 5 (fun cs x => cs = encR x) v x.2.2 ∧ NilOk v
theorem opens_stm : Opens enc Tryz.prog 37 In.Stm fun w B cs x => IsStm w B cs x :=
  (opens_struct Tryz.underlying37 (k := 3) (by kernel_rfl) (opens_cons (k := 1) (by kernel_rfl) (opens_int Tryz.underlying3) (opens_cons (k := 1) (by kernel_rfl) (opens_int Tryz.underlying3) (opens_cons (k := 1) (by kernel_rfl) (opens_sliceN Tryz.underlying35 (k := 5) (by kernel_rfl) (by decide) opens_row) opens_nil)))).imp fun w B cs a h => by
    obtain ⟨hl, h0, h1, h2, _⟩ := h
    obtain ⟨x0, x1, x2, rfl⟩ := list3 hl
    simp only [List.drop_zero, List.take_succ_cons, List.take_zero, List.drop_succ_cons, List.cons.injEq, and_true] at h0 h1 h2
    obtain ⟨v, rfl, h3, h4⟩ := h2
    exact ⟨(a.1, a.2.1, a.2.2.1), x2, by rw [h0.1, h1.1], wf64 h0.2, wf64 h1.2, h3, h4⟩
/-- Sagas that came in. -/
theorem sgs_arg {w : World} {v : Value} {l : List Sg} (h : SlK w w.heap.size 12 (fun cs x => IsSg cs x) v l) (hn : NilOk v) : Sgs w v l ∧ ∀ s ∈ l, I64 s.id ∧ I64 s.qty ∧ I64 s.amt := by
  refine ⟨⟨SlK.mono h (Below.refl _ _) (Nat.le_refl _) (fun cs x _ e => e.1), hn⟩, fun s hs => ?_⟩
  obtain ⟨i, hi⟩ := List.getElem?_of_mem hs
  obtain ⟨A, c, rfl, _⟩ := SlK.shape h
  obtain ⟨_, _, _, _, _, _, _, hr⟩ := SlK.at h hi
  exact hr.2
end
end Go.Proofs.YtiagdpfmmjhgcaaGreatDoor
/- Entries, as a caller hands them over. -/
namespace Go.Proofs.YtiagdpfmmjhgcaaGreatDoor
open Go.RowKit Go.ChangeShapes Go.WideShapes Go.Deep Go.Joins Sa Co

section
variable {H : Type} {enc : TypeId × Value → H}
def entV (e : Ent) (v : Value) : List Value := [.int .i64 e.kind, .int .i64 e.o.1, .string ⟨e.o.2.1.toArray⟩, .string ⟨e.o.2.2.1.toArray⟩, .int .i64 e.o.2.2.2.1, .int .i64 e.o.2.2.2.2, .int .i64 e.k.1, .int .i64 e.k.2, .int .i64 e.code, .int .i64 e.s.1, .int .i64 e.s.2.1, v]
/-- The numbers of an entry are numbers. -/
structure EntI (e : Ent) : Prop where
  kd : I64 e.kind
  id : I64 e.o.1
  qt : I64 e.o.2.2.2.1
  am : I64 e.o.2.2.2.2
  ko : I64 e.k.1
  kk : I64 e.k.2
  cd : I64 e.code
  pa : I64 e.s.1
  sq : I64 e.s.2.1
  rf : e.o.2.1.length ≤ maxLen
  sk : e.o.2.2.1.length ≤ maxLen
/-- An entry, as a caller hands it over. -/
def IsEnt (w : World) (B : Nat) (cs : List Value) (e : Ent) : Prop := ∃ v, cs = entV e v ∧ EntI e ∧ SlK w B 5 (fun cs x => cs = encR x) v e.s.2.2 ∧ NilOk v
theorem opens_ent : Opens enc Tryz.prog tEnt Ent fun w B cs e => IsEnt w B cs e :=
  (opens_struct Tryz.underlying39 (k := 12) (by kernel_rfl) (opens_cons (k := 1) (by kernel_rfl) (opens_int Tryz.underlying3) (opens_cons (k := 5) (by kernel_rfl) opens_ord (opens_cons (k := 2) (by kernel_rfl) opens_key (opens_cons (k := 1) (by kernel_rfl) (opens_int Tryz.underlying3) (opens_cons (k := 3) (by kernel_rfl) opens_stm opens_nil)))))).imp fun w B cs a h => by
    obtain ⟨hl, h0, h1, h2, h3, h4, _⟩ := h
    match cs, hl with
    | [x0, x1, x2, x3, x4, x5, x6, x7, x8, x9, x10, x11], _ =>
      simp only [IsOrd, IsKey, IsStm, List.drop_zero, List.take_succ_cons, List.take_zero, List.drop_succ_cons, List.cons.injEq, and_true] at h0 h1 h2 h3 h4
      obtain ⟨⟨rfl, rfl, rfl, rfl, rfl⟩, b0, b1, b2, b3, b4⟩ := h1
      obtain ⟨⟨rfl, rfl⟩, c0, c1⟩ := h2
      obtain ⟨v, ⟨rfl, rfl, rfl⟩, d0, d1, d2, d3⟩ := h4
      exact ⟨⟨a.1, a.2.1, a.2.2.1, a.2.2.2.1, a.2.2.2.2.1⟩, _, by rw [h0.1, h3.1]; rfl, ⟨wf64 h0.2, b0, b1, b2, c0, c1, wf64 h3.2, d0, d1, b3, b4⟩, d2, d3⟩
end
end Go.Proofs.YtiagdpfmmjhgcaaGreatDoor
/- Entries that came in; are they too great? -/
namespace Go.Proofs.YtiagdpfmmjhgcaaGreatDoor
open Go.RowKit Go.Maps Key Rw Sa Co

theorem ent_keep {w w' : World} {cs : List Value} {e : Ent} (h : IsEnt w w.heap.size cs e) (hb : Below w.heap.size w w') : IsEnt w' w'.heap.size cs e := by
  obtain ⟨v, hc, hi, hs, hn⟩ := h
  exact ⟨v, hc, hi, SlK.mono hs hb hb.size (fun _ _ _ h => h), hn⟩
/-- An entry that stands in values. -/
structure EntAt (w : World) (v : Value) (e : Ent) : Prop where
  rd : Rd w v e.s.2.2
  nn : EntI e
theorem IsEnt.at {w : World} {cs : List Value} {e : Ent} (h : IsEnt w w.heap.size cs e) : ∃ A c, cs = entV e (.slice A e.s.2.2.length c) ∧ EntAt w (.slice A e.s.2.2.length c) e := by
  obtain ⟨v, hc, hi, hs, hn⟩ := h
  obtain ⟨A, c, rfl, _⟩ := SlK.shape hs
  exact ⟨A, c, hc, ⟨hs, hn⟩, hi⟩
theorem EntAt.below {w w' : World} {v : Value} {e : Ent} (h : EntAt w v e) (hb : Below w.heap.size w w') : EntAt w' v e := ⟨h.rd.keep hb, h.nn⟩
/-- Entries that came in. -/
def Ents (w : World) (v : Value) (l : List Ent) : Prop := SlK w w.heap.size 12 (fun cs e => IsEnt w w.heap.size cs e) v l
theorem Ents.keep {w w' : World} {v : Value} {l : List Ent} (h : Ents w v l) (hb : Below w.heap.size w w') : Ents w' v l := SlK.mono h hb hb.size (fun _ _ _ h => ent_keep h hb)
theorem Ents.cells {w : World} {v : Value} {l : List Ent} (h : Ents w v l) {k : Nat} {e : Ent} (hx : l[k]? = some e) : ∃ g off n c A c', v = .slice (some ⟨g, off, none⟩) n c ∧ g < w.heap.size ∧ EntAt w (.slice A e.s.2.2.length c') e ∧
    ∀ W, Below w.heap.size w W → W.cell? ⟨g, off + k * 12, none⟩ = some (.int .i64 e.kind) ∧ W.cell? ⟨g, off + k * 12 + 1, none⟩ = some (.int .i64 e.o.1) ∧ W.cell? ⟨g, off + k * 12 + 2, none⟩ = some (.string ⟨e.o.2.1.toArray⟩) ∧ W.cell? ⟨g, off + k * 12 + 3, none⟩ = some (.string ⟨e.o.2.2.1.toArray⟩) ∧ W.cell? ⟨g, off + k * 12 + 4, none⟩ = some (.int .i64 e.o.2.2.2.1) ∧ W.cell? ⟨g, off + k * 12 + 5, none⟩ = some (.int .i64 e.o.2.2.2.2) ∧ W.cell? ⟨g, off + k * 12 + 6, none⟩ = some (.int .i64 e.k.1) ∧ W.cell? ⟨g, off + k * 12 + 7, none⟩ = some (.int .i64 e.k.2) ∧ W.cell? ⟨g, off + k * 12 + 8, none⟩ = some (.int .i64 e.code) ∧ W.cell? ⟨g, off + k * 12 + 9, none⟩ = some (.int .i64 e.s.1) ∧ W.cell? ⟨g, off + k * 12 + 10, none⟩ = some (.int .i64 e.s.2.1) ∧ W.cell? ⟨g, off + k * 12 + 11, none⟩ = some (.slice A e.s.2.2.length c') := by
  obtain ⟨A, c, rfl, _⟩ := SlK.shape h
  obtain ⟨g, off, cs, rfl, hgl, hcl, hcell, he⟩ := SlK.at h hx
  obtain ⟨A', c', rfl, hr⟩ := he.at
  exact ⟨g, off, _, _, A', c', rfl, hgl, hr, fun W hb => by
    have hk := fun j u hj => (hb.cell (p := ⟨g, off + k * 12 + j, none⟩) hgl).trans (hcell j u hj)
    exact ⟨hk 0 _ rfl, hk 1 _ rfl, hk 2 _ rfl, hk 3 _ rfl, hk 4 _ rfl, hk 5 _ rfl, hk 6 _ rfl, hk 7 _ rfl, hk 8 _ rfl, hk 9 _ rfl, hk 10 _ rfl, hk 11 _ rfl⟩⟩
namespace Co
def entG (e : Ent) : Bool := decide (200 < e.o.2.1.length) || decide (200 < e.o.2.2.1.length) || decide (100 < e.s.2.2.length)
def entGG (e : Ent) : Bool := entG e || decide (60 < e.s.2.2.length)
def entsG (l : List Ent) (most : Int) : Bool := l.any entGG || decide (most < l.length)
def entsTo (l : List Ent) (k : Nat) : Bool := (l.take k).any entGG
theorem entsTo_succ {l : List Ent} {k : Nat} {e : Ent} (h : l[k]? = some e) : entsTo l (k + 1) = (entsTo l k || entGG e) := by
  unfold entsTo; rw [List.take_add_one, h, List.any_append]; simp
theorem entsG_hit {l : List Ent} {k : Nat} {e : Ent} (h : l[k]? = some e) (hx : entGG e = true) (m : Int) : entsG l m = true := by
  unfold entsG
  rw [List.any_eq_true.2 ⟨e, List.mem_of_getElem? h, hx⟩]
  rfl
theorem entsG_not {l : List Ent} {m : Int} (h : entsG l m = false) : (∀ e ∈ l, e.o.2.1.length ≤ 200 ∧ e.o.2.2.1.length ≤ 200 ∧ e.s.2.2.length ≤ 60) ∧ (l.length : Int) ≤ m := by
  unfold entsG entGG entG at h
  simp only [Bool.or_eq_false_iff, List.any_eq_false, decide_eq_true_eq, decide_eq_false_iff_not, Bool.or_eq_true, not_or] at h
  exact ⟨fun x hx => by have := h.1 x hx; omega, by omega⟩
end Co
set_option linter.unusedSimpArgs false in
set_option linter.unusedVariables false in
set_option maxRecDepth 100000 in
set_option maxHeartbeats 8000000 in
theorem egreat_any (w : World) (e : Ent) (u : Value) (he : EntAt w u e) :
    Calls Tryz.prog 16 #[.agg #[.int .i64 e.kind, .int .i64 e.o.1, .string ⟨e.o.2.1.toArray⟩, .string ⟨e.o.2.2.1.toArray⟩, .int .i64 e.o.2.2.2.1, .int .i64 e.o.2.2.2.2, .int .i64 e.k.1, .int .i64 e.k.2, .int .i64 e.code, .int .i64 e.s.1, .int .i64 e.s.2.1, u]] w fun r w' => r = .returned (.bool (entG e)) ∧ Below w.heap.size w w' := by
  obtain ⟨A, c, rfl, _, hcm⟩ := SlK.shape he.rd.1
  have hn := he.nn.rf; have hn2 := he.nn.sk
  have hr63 : (e.s.2.2.length : Int) ≤ 9223372036854775807 := by unfold maxLen at hcm; omega
  obtain ⟨wa, hA⟩ : ∃ wa, wa = w.alloc (.cells #[.int .i64 e.kind, .int .i64 e.o.1, .string ⟨e.o.2.1.toArray⟩, .string ⟨e.o.2.2.1.toArray⟩, .int .i64 e.o.2.2.2.1, .int .i64 e.o.2.2.2.2, .int .i64 e.k.1, .int .i64 e.k.2, .int .i64 e.code, .int .i64 e.s.1, .int .i64 e.s.2.1, .slice A e.s.2.2.length c] tEnt) := ⟨_, rfl⟩
  have HB := Lib.hid (show Below w.heap.size w wa by rw [hA]; exact below_alloc _ _)
  have HM := Lib.hid (show wa.heap[w.heap.size]? = some (.cells #[.int .i64 e.kind, .int .i64 e.o.1, .string ⟨e.o.2.1.toArray⟩, .string ⟨e.o.2.2.1.toArray⟩, .int .i64 e.o.2.2.2.1, .int .i64 e.o.2.2.2.2, .int .i64 e.k.1, .int .i64 e.k.2, .int .i64 e.code, .int .i64 e.s.1, .int .i64 e.s.2.1, .slice A e.s.2.2.length c] tEnt (0, 0)) by rw [hA]; exact heap_new _ _)
  have HA := Lib.hid hA
  clear hA he
  obtain ⟨m0, m1, m2, m3, m4, m5, m6, m7, m8, m9, m10, m11⟩ := cell12 HM.out
  go_enter Tryz.func16, Tryz.ntmps16
  go_upto_region 1 with (fail)
  rw [← HA.out]
  by_cases h1 : 200 < e.o.2.1.length
  · have q1 : (200 : Int) < e.o.2.1.length := by omega
    have HF := Lib.hid (show entG e = true by unfold entG; rw [decide_eq_true h1]; rfl)
    go_wp2_with fail
    go_ret
    exact ⟨by rw [HF.out]; rfl, HB.out⟩
  · have q1 : ¬ (200 : Int) < e.o.2.1.length := by omega
    by_cases h2 : 200 < e.o.2.2.1.length
    · have q2 : (200 : Int) < e.o.2.2.1.length := by omega
      have HF := Lib.hid (show entG e = true by unfold entG; rw [decide_eq_true h2, Bool.or_true]; rfl)
      go_wp2_with fail
      go_ret
      exact ⟨by rw [HF.out]; rfl, HB.out⟩
    · have q2 : ¬ (200 : Int) < e.o.2.2.1.length := by omega
      have HF := Lib.hid (show entG e = decide ((100 : Int) < e.s.2.2.length) by unfold entG; rw [decide_eq_false h1, decide_eq_false h2]; simp [Int.ofNat_lt]; omega)
      go_wp2_with fail
      go_ret
      exact ⟨by rw [HF.out]; rfl, HB.out⟩
set_option linter.unusedSimpArgs false in
set_option linter.unusedVariables false in
set_option maxRecDepth 100000 in
set_option maxHeartbeats 8000000 in
theorem egreats_any (w : World) (v : Value) (l : List Ent) (most : Int) (hS : Ents w v l) :
    Calls Tryz.prog 4 #[v, .int .i64 most] w fun e w' => e = .returned (.bool (entsG l most)) ∧ Below w.heap.size w w' := by
  obtain ⟨A, c, rfl, hlc, hcm⟩ := SlK.shape hS
  have HS := Lib.hid hS
  have hl63 : (l.length : Int) ≤ 9223372036854775807 := by unfold maxLen at hcm; omega
  clear hS
  go_enter Tryz.func4, Tryz.ntmps4
  go_wp2_with fail
  go_loopw [5] (fun i wr => ∃ k : Nat, i = .int .i64 k ∧ k ≤ l.length ∧ Hid (entsTo l k = false) ∧ Hid (Below w.heap.size w wr)) (fun i _ => l.length - (intOf i).toNat)
  case atStart => exact ⟨0, rfl, Nat.zero_le _, rfl, Below.refl _ _⟩
  case round =>
    obtain ⟨k, rfl, hk, HG, HBr⟩ := hrel
    by_cases hkl : k < l.length
    · obtain ⟨x, hx⟩ : ∃ x, l[k]? = some x := ⟨_, List.getElem?_eq_getElem hkl⟩
      obtain ⟨g, off, n', c', A', cc, e, hg, hr, hd⟩ := HS.out.cells hx
      obtain ⟨d0, d1, d2, d3, d4, d5, d6, d7, d8, d9, d10, d11⟩ := hd _ HBr.out
      injection e with e1 e2 e3; subst e1; clear e2 e3
      have HR := Lib.hid (hr.below HBr.out)
      have hr63 : (x.s.2.2.length : Int) ≤ 9223372036854775807 := by obtain ⟨_, _, e, h2, h3⟩ := SlK.shape hr.rd.1; unfold maxLen at h3; omega
      have HX := Lib.hid hx; have HD := Lib.hid hd
      have hlt : (k : Int) < l.length := by omega
      have hk0 : (0 : Int) ≤ k := by omega
      clear hx hr hd
      cases hG : entG x with
      | true =>
        have HT := Lib.hid hG
        have HF := Lib.hid (entsG_hit HX.out (show entGG x = true by unfold entGG; rw [hG]; rfl) most)
        clear hG
        go_wp2_with (go_at_call 16; refine (egreat_any _ x _ HR.out).mono ?_; rintro e w1 ⟨rfl, hb⟩; rw [HT.out]; have HB1 := Lib.hid (bch HBr.out hb HBr.out.size); clear hb)
        go_ret
        exact ⟨by rw [HF.out]; rfl, HB1.out⟩
      | false =>
        have HT := Lib.hid hG
        clear hG
        by_cases h6 : 60 < x.s.2.2.length
        · have h6' : (60 : Int) < x.s.2.2.length := by omega
          have HF := Lib.hid (entsG_hit HX.out (show entGG x = true by unfold entGG; rw [decide_eq_true h6, Bool.or_true]) most)
          go_wp2_with (go_at_call 16; refine (egreat_any _ x _ HR.out).mono ?_; rintro e w1 ⟨rfl, hb⟩; rw [HT.out]; have HB1 := Lib.hid (bch HBr.out hb HBr.out.size); clear hb; obtain ⟨c0, c1, c2, c3, c4, c5, c6, c7, c8, c9, c10, c11⟩ := HD.out _ HB1.out)
          go_ret
          exact ⟨by rw [HF.out]; rfl, HB1.out⟩
        · have h6' : ¬ (60 : Int) < x.s.2.2.length := by omega
          have HF := Lib.hid (show entsTo l (k + 1) = false by rw [entsTo_succ HX.out, HG.out]; unfold entGG; rw [HT.out, decide_eq_false h6]; rfl)
          go_wp2_with (go_at_call 16; refine (egreat_any _ x _ HR.out).mono ?_; rintro e w1 ⟨rfl, hb⟩; rw [HT.out]; have HB1 := Lib.hid (bch HBr.out hb HBr.out.size); clear hb; obtain ⟨c0, c1, c2, c3, c4, c5, c6, c7, c8, c9, c10, c11⟩ := HD.out _ HB1.out)
          go_roundw
          case rel => exact ⟨k + 1, by go_num, by omega, HF.out, HB1.out⟩
          case measure => simp [intOf]; omega
    · obtain rfl : k = l.length := by omega
      have HF := Lib.hid (show entsG l most = decide (most < (l.length : Int)) by unfold entsG; rw [show l.any entGG = false from by have := HG.out; unfold entsTo at this; rwa [List.take_length] at this, Bool.false_or])
      by_cases hm : most < (l.length : Int)
      · have HF2 := Lib.hid (HF.out.trans (show decide (most < (l.length : Int)) = true by simpa using hm))
        go_wp2_with fail
        go_ret
        exact ⟨by rw [HF2.out]; rfl, HBr.out⟩
      · have HF2 := Lib.hid (HF.out.trans (show decide (most < (l.length : Int)) = false by simpa using hm))
        go_wp2_with fail
        go_ret
        exact ⟨by rw [HF2.out]; rfl, HBr.out⟩
end Go.Proofs.YtiagdpfmmjhgcaaGreatDoor
/- Rows of elements of k cells, whatever these are: appended, and read again. Entries in a row of the call's own. -/
namespace Go.Proofs.YtiagdpfmmjhgcaaGreatDoor
open Go.RowKit Go.Maps Key Rw Sa Co

theorem flat_getC {k : Nat} (h0 : 0 < k) : ∀ (C : List (List Value)) (_ : ∀ cs ∈ C, cs.length = k) (t : Nat), C.flatten[t]? = (C[t / k]?).bind fun x => x[t % k]?
  | [], _, t => by simp
  | x :: L, hk, t => by
    have hx := hk x (List.mem_cons_self ..)
    have hL := flat_getC h0 L (fun c hc => hk c (List.mem_cons_of_mem _ hc))
    rw [List.flatten_cons]
    by_cases ht : t < k
    · rw [List.getElem?_append_left (by rw [hx]; exact ht), Nat.div_eq_of_lt ht, Nat.mod_eq_of_lt ht]; simp
    · rw [List.getElem?_append_right (by rw [hx]; omega), hx, hL, Nat.div_eq_sub_div (a := t) h0 (by omega), List.getElem?_cons_succ, Nat.mod_eq_sub_mod (a := t) (by omega)]
theorem flat_lenC {k : Nat} : ∀ (C : List (List Value)) (_ : ∀ cs ∈ C, cs.length = k), C.flatten.length = C.length * k
  | [], _ => by simp
  | x :: L, hk => by
    rw [List.flatten_cons, List.length_append, flat_lenC L (fun c hc => hk c (List.mem_cons_of_mem _ hc)), hk x (List.mem_cons_self ..), List.length_cons, Nat.add_mul]; omega
/-- What a slice of elements reads as, as a source of an append. -/
theorem slk_src {α : Type} {w : World} {B k : Nat} {R : List Value → α → Prop} {v : Value} {L : List α} (h : SlK w B k R v L) (h0 : 0 < k) (hn : NilOk v) (h1 : ∀ cs x, R cs x → ∀ u ∈ cs, u.oneCell' = true) :
    ∃ C : List (List Value), C.length = L.length ∧ (∀ cs ∈ C, cs.length = k) ∧ (∀ (i : Nat) cs x, C[i]? = some cs → L[i]? = some x → R cs x) ∧ SrcL w v L.length k C.flatten := by
  obtain ⟨A, n, c, rfl, rfl, hc, hm, hcell⟩ := h
  by_cases hz : L.length = 0
  · obtain rfl := List.length_eq_zero_iff.1 hz
    refine ⟨[], rfl, fun _ h => (by cases h), fun i cs x h => (by simp at h), by simp, fun u h => (by simp at h), ?_⟩
    rcases A with _ | ad
    · obtain rfl := hn 0 c rfl
      exact .inl ⟨rfl, rfl⟩
    · exact .inr ⟨ad, c, rfl, fun j x h => (by simp at h)⟩
  · have hex : ∀ i : Fin L.length, ∃ cs : List Value, cs.length = k ∧ R cs (L[i]'i.2) ∧ ∃ b o, A = some ⟨b, o, none⟩ ∧ ∀ j u, cs[j]? = some u → w.cell? ⟨b, o + i * k + j, none⟩ = some u := by
      intro i
      obtain ⟨b, o, cs, e, _, hk, hcs, hr⟩ := hcell i _ (List.getElem?_eq_getElem i.2)
      exact ⟨cs, hk, hr, b, o, e, hcs⟩
    obtain ⟨f, hf⟩ := Classical.axiomOfChoice hex
    have hlen : (List.ofFn f).length = L.length := List.length_ofFn
    have hget : ∀ i (hi : i < L.length), (List.ofFn f)[i]? = some (f ⟨i, hi⟩) := fun i hi => by rw [List.getElem?_ofFn, dif_pos hi]
    have hk : ∀ cs ∈ List.ofFn f, cs.length = k := by
      intro cs hcs
      obtain ⟨i, hi⟩ := List.getElem?_of_mem hcs
      have hil : i < L.length := by have := (List.getElem?_eq_some_iff.1 hi).1; omega
      rw [hget i hil] at hi
      rw [← Option.some.inj hi]
      exact (hf ⟨i, hil⟩).1
    refine ⟨List.ofFn f, hlen, hk, fun i cs x hi hx => ?_, by rw [flat_lenC _ hk, hlen], fun u hu => ?_, .inr ?_⟩
    · have hil := (List.getElem?_eq_some_iff.1 hx).1
      rw [hget i hil] at hi
      obtain rfl := Option.some.inj hi
      rw [List.getElem?_eq_getElem hil] at hx
      obtain rfl := Option.some.inj hx
      exact (hf ⟨i, hil⟩).2.1
    · obtain ⟨cs, hcs, hu⟩ := List.mem_flatten.1 hu
      obtain ⟨i, hi⟩ := List.getElem?_of_mem hcs
      have hil : i < L.length := by have := (List.getElem?_eq_some_iff.1 hi).1; omega
      rw [hget i hil] at hi
      obtain rfl := Option.some.inj hi
      exact h1 _ _ (hf ⟨i, hil⟩).2.1 u hu
    · obtain ⟨_, _, b, o, hA, _⟩ := hf ⟨0, by omega⟩
      refine ⟨⟨b, o, none⟩, c, by rw [hA], fun j x hj => ?_⟩
      rw [flat_getC h0 _ hk] at hj
      have hjl : j / k < L.length := by
        rcases Nat.lt_or_ge (j / k) L.length with h | h
        · exact h
        · rw [List.getElem?_eq_none (by omega)] at hj; cases hj
      rw [hget _ hjl] at hj
      obtain ⟨_, _, b', o', hA', hcs⟩ := hf ⟨j / k, hjl⟩
      rw [hA] at hA'
      injection hA' with hA'
      injection hA' with e1 e2
      subst e1; subst e2
      have := hcs _ _ hj
      rw [Addr.add_lit]
      rw [show o + j = o + j / k * k + j % k by rw [Nat.add_assoc, Nat.mul_comm, Nat.div_add_mod]]
      exact this
/-- A row of the call's own reads as elements. -/
theorem own_slk {α : Type} {w : World} {B k : Nat} {e : TypeId} {v : Value} {C : List (List Value)} {L : List α} {R : List Value → α → Prop} (h : w.ownsRow B e k v L.length C.flatten) (hC : C.length = L.length) (hk : ∀ cs ∈ C, cs.length = k) (h0 : 0 < k) (hR : ∀ (i : Nat) cs x, C[i]? = some cs → L[i]? = some x → R cs x) :
    SlK w w.heap.size k R v L := by
  rcases h.2 with ⟨rfl, hz⟩ | ⟨g, cap, cur, rfl, hB, hg, hc, hm, _⟩
  · rw [List.length_eq_zero_iff.1 hz]; exact SlK.nil _ _ _ _
  · refine ⟨_, _, _, rfl, rfl, hc, hm, fun i x hi => ?_⟩
    have hil := (List.getElem?_eq_some_iff.1 hi).1
    obtain ⟨cs, hcs⟩ : ∃ cs, C[i]? = some cs := ⟨_, List.getElem?_eq_getElem (by omega)⟩
    have hck := hk cs (List.mem_of_getElem? hcs)
    refine ⟨g, 0, cs, rfl, heap_lt hg, hck, fun j u hj => ?_, hR i cs x hcs hi⟩
    have hjk : j < k := by have := (List.getElem?_eq_some_iff.1 hj).1; omega
    have hlt : i * k + j < L.length * k := by
      calc i * k + j < i * k + k := by omega
        _ = (i + 1) * k := by rw [Nat.add_mul, Nat.one_mul]
        _ ≤ L.length * k := Nat.mul_le_mul_right _ hil
    rw [Nat.zero_add, h.cellAt _ hlt, flat_getC h0 C hk, show (i * k + j) / k = i by rw [Nat.mul_comm, Nat.mul_add_div h0, Nat.div_eq_of_lt hjk]; omega, show (i * k + j) % k = j by rw [Nat.mul_comm, Nat.mul_add_mod, Nat.mod_eq_of_lt hjk], hcs]
    exact hj
theorem ent_one (e : Ent) (A : Option Addr) (n c : Nat) : ∀ u ∈ entV e (.slice A n c), u.oneCell' = true := by
  intro u hu; simp [entV] at hu; rcases hu with rfl | rfl | rfl | rfl | rfl | rfl | rfl | rfl | rfl | rfl | rfl | rfl <;> rfl
end Go.Proofs.YtiagdpfmmjhgcaaGreatDoor

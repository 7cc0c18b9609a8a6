/- A core takes an entry. -/
import Derived.Test.YtlkncmpengpbiaaGreatDoorCoreStmt
import Derived.Test.YtlkncmpengpbiaaGreatDoorCorePt
import Derived.Test.YtlkncmpengpbiaaGreatDoorSrcOf
import Derived.Test.YtlkncmpengpbiaaGreatDoorMatchFind
namespace Go.Proofs.YtlkncmpengpbiaaGreatDoor
open Go.RowKit Go.Maps Co Key Rw Sa Od

abbrev tEnt : TypeId := 36
namespace Co
/-- An entry: its kind, order, key, code, statement. -/
structure Ent where
  kind : Int
  o : Ord5
  k : Int × Int
  code : Int
  s : In.Stm
def applyE (c : Cor) (e : Ent) : Int := if e.kind = 1 then placeE c e.o else if e.kind = 2 then cstopE c e.k.1 else if e.kind = 3 then replyE c e.k.1 e.k.2 e.code else if e.kind = 4 then In.accE c.inn e.s else 2
def applyC (c : Cor) (e : Ent) : Cor := if e.kind = 1 then placeC c e.o else if e.kind = 2 then cstopC c e.k.1 else if e.kind = 3 then replyC c e.k.1 e.k.2 e.code else if e.kind = 4 then stmC c e.s else c
/-- What is asked of a core ahead of an entry: its postings' names stay apart. -/
structure ApOk (c : Cor) (e : Ent) : Prop where
  l : c.l.length ≤ 60
  b : c.b.length ≤ 90000
  am : ∀ s ∈ c.l, 0 ≤ s.amt ∧ s.amt ≤ 1099511627776
  rep : e.kind = 3 → replyE c e.k.1 e.k.2 e.code = 0 → ∀ p ∈ postR c e.k.1 e.k.2 e.code, mayP p ∧ ∀ x ∈ c.b, x.id ≠ p.id
  stm : e.kind = 4 → In.accE c.inn e.s = 0 → (∀ p ∈ stmPs c.inn (In.accI c.inn e.s) e.s.2.1 60, mayP p) ∧ ((c.b ++ stmPs c.inn (In.accI c.inn e.s) e.s.2.1 60).map (·.id)).Nodup
end Co
theorem cstop_inn (c : Cor) (o : Int) : (cstopC c o).inn = c.inn := by
  unfold cstopC
  split
  · split <;> rfl
  · rfl
theorem reply_inn (c : Cor) (o d code : Int) : (replyC c o d code).inn = c.inn := by
  unfold replyC
  split
  · split <;> rfl
  · rfl
set_option linter.unusedSimpArgs false in
set_option linter.unusedVariables false in
set_option maxRecDepth 100000 in
set_option maxHeartbeats 16000000 in
theorem capply_any {B : Nat} {w : World} {cb bb pm bm : Nat} {vl vb vI : Value} {c : Cor} (h : Cw B w cb bb pm bm vl vb vI c) (e : Ent) (u : Value) (hu : Rd w u e.s.2.2) (hT : PT w) (hok : ApOk c e) (hk : -9223372036854775808 ≤ e.k.1 ∧ e.k.1 ≤ 9223372036854775807)
    (hput : ∀ W, Below B w W → Calls Tryz.prog 102 #[.agg #[.int .i64 e.k.1, .int .i64 e.k.2]] W fun e2 w' => e2 = .returned (.string ⟨(putK e.k.1 e.k.2).toArray⟩) ∧ Below W.heap.size W w')
    (hito : ∀ (n : Int) W, 0 ≤ n → n ≤ 1073741824 → Below B w W → Calls Tryz.prog 104 #[.int .i64 n] W fun e w' => e = .returned (.string ⟨(Lib.itoa n).toArray⟩) ∧ Below W.heap.size W w') :
    Calls Tryz.prog 29 #[.pointer (some ⟨cb, 0, none⟩), .agg #[.int .i64 e.kind, .int .i64 e.o.1, .string ⟨e.o.2.1.toArray⟩, .string ⟨e.o.2.2.1.toArray⟩, .int .i64 e.o.2.2.2.1, .int .i64 e.o.2.2.2.2, .int .i64 e.k.1, .int .i64 e.k.2, .int .i64 e.code, .int .i64 e.s.1, .int .i64 e.s.2.1, u]] w fun e2 w' => ∃ vl' vb' vI', e2 = .returned (.int .i64 (applyE c e)) ∧ Cw B w' cb bb pm bm vl' vb' vI' (applyC c e) ∧ Turned (Cs cb bb pm bm vl vb) w w' ∧ (∀ j, vl'.ownBlock = some j → vl.ownBlock = some j ∨ w.heap.size ≤ j) ∧ (∀ j, vb'.ownBlock = some j → vb.ownBlock = some j ∨ w.heap.size ≤ j) ∧ ∀ j, j < w.heap.size → Av j vI c.inn → Av j vI' (applyC c e).inn := by
  obtain ⟨Au, cu, rfl, _⟩ := hu.shape
  obtain ⟨wa, hA⟩ : ∃ wa, wa = w.alloc (.cells #[.int .i64 e.kind, .int .i64 e.o.1, .string ⟨e.o.2.1.toArray⟩, .string ⟨e.o.2.2.1.toArray⟩, .int .i64 e.o.2.2.2.1, .int .i64 e.o.2.2.2.2, .int .i64 e.k.1, .int .i64 e.k.2, .int .i64 e.code, .int .i64 e.s.1, .int .i64 e.s.2.1, .slice Au e.s.2.2.length cu] tEnt) := ⟨_, rfl⟩
  have hB : Below w.heap.size w wa := by rw [hA]; exact below_alloc _ _
  have HX := Lib.hid (show wa.heap[w.heap.size]? = some (.cells #[.int .i64 e.kind, .int .i64 e.o.1, .string ⟨e.o.2.1.toArray⟩, .string ⟨e.o.2.2.1.toArray⟩, .int .i64 e.o.2.2.2.1, .int .i64 e.o.2.2.2.2, .int .i64 e.k.1, .int .i64 e.k.2, .int .i64 e.code, .int .i64 e.s.1, .int .i64 e.s.2.1, .slice Au e.s.2.2.length cu] tEnt (0, 0)) by rw [hA]; exact heap_new _ _)
  have HC := Lib.hid (h.below hB); have HA := Lib.hid hA; have HB := Lib.hid hB; have HU := Lib.hid (hu.keep hB); have HT := Lib.hid (hT.below hB); have HOK := Lib.hid hok
  have hBw : B ≤ w.heap.size := by have := h.ge; have := heap_lt h.hc; omega
  have HPUT := Lib.hid (fun W (hW : Below B wa W) => hput W ((hB.mono hBw).trans hW)); have HITO := Lib.hid (fun (n : Int) W h0 h1 (hW : Below B wa W) => hito n W h0 h1 ((hB.mono hBw).trans hW))
  have hl5 : c.l.length ≤ 100000 := by have := hok.l; omega
  clear hA hB hu hT hok hput hito
  obtain ⟨m0, m1, m2, m3, m4, m5, m6, m7, m8, m9, m10, m11⟩ := cell12 HX.out
  go_enter Tryz.func29, Tryz.ntmps29
  go_upto_region 1 with (fail)
  rw [← HA.out]
  by_cases hk1 : e.kind = 1
  · have q1 := beqT hk1
    have HE := Lib.hid (show applyE c e = placeE c e.o by unfold applyE; rw [if_pos hk1])
    have HCC := Lib.hid (show applyC c e = placeC c e.o by unfold applyC; rw [if_pos hk1])
    clear hk1
    go_wp2_with (go_at_call 39; refine (cnone_any HC.out).mono ?_; rintro e w1 ⟨rfl, hb⟩; subst hb)
    refine (cplace_any HC.out e.o hl5).mono ?_
    rintro e2 w2 ⟨vl', rfl, hc2, ht2, hf2⟩
    go_wp2_with fail
    go_ret
    exact ⟨vl', vb, vI, by rw [HE.out]; rfl, by rw [HCC.out]; exact hc2, (Turned.of_below HB.out).trans ht2, fun j hj => (hf2 j hj).imp id (fun h => by have := HB.out.size; omega), fun j hj => .inl hj, fun j hj h => by rw [HCC.out]; unfold placeC; split <;> exact h⟩
  · have q1 := beqF hk1
    by_cases hk2 : e.kind = 2
    · have q2 := beqT hk2
      have HE := Lib.hid (show applyE c e = cstopE c e.k.1 by unfold applyE; rw [if_neg hk1]; rw [if_pos hk2])
      have HCC := Lib.hid (show applyC c e = cstopC c e.k.1 by unfold applyC; rw [if_neg hk1]; rw [if_pos hk2])
      clear hk1 hk2
      go_wp2_with (go_at_call 39; refine (cnone_any HC.out).mono ?_; rintro e w1 ⟨rfl, hb⟩; subst hb)
      refine (cstop_any HC.out e.k.1 ⟨by omega, by omega⟩ hl5).mono ?_
      rintro e2 w2 ⟨rfl, hc2, ht2⟩
      go_wp2_with fail
      go_ret
      exact ⟨vl, vb, vI, by rw [HE.out]; rfl, by rw [HCC.out]; exact hc2, (Turned.of_below HB.out).trans ht2, fun j hj => .inl hj, fun j hj => .inl hj, fun j hj h => by rw [HCC.out]; rw [cstop_inn]; exact h⟩
    · have q2 := beqF hk2
      by_cases hk3 : e.kind = 3
      · have q3 := beqT hk3
        have HE := Lib.hid (show applyE c e = replyE c e.k.1 e.k.2 e.code by unfold applyE; rw [if_neg hk1]; rw [if_neg hk2]; rw [if_pos hk3])
        have HCC := Lib.hid (show applyC c e = replyC c e.k.1 e.k.2 e.code by unfold applyC; rw [if_neg hk1]; rw [if_neg hk2]; rw [if_pos hk3])
        have hrep := HOK.out.rep hk3
        have HREP := Lib.hid hrep
        clear hrep
        clear hk1 hk2 hk3
        go_wp2_with (go_at_call 39; refine (cnone_any HC.out).mono ?_; rintro e w1 ⟨rfl, hb⟩; subst hb)
        refine (creply_any HC.out e.k.1 e.k.2 e.code ⟨by omega, by omega⟩ hl5 (by have := HOK.out.b; omega) HOK.out.am HREP.out (fun W hW => HPUT.out W hW)).mono ?_
        rintro e2 w2 ⟨vb', rfl, hc2, ht2, hf2⟩
        go_wp2_with fail
        go_ret
        exact ⟨vl, vb', vI, by rw [HE.out]; rfl, by rw [HCC.out]; exact hc2, (Turned.of_below HB.out).trans ht2, fun j hj => .inl hj, fun j hj => (hf2 j hj).imp id (fun h => by have := HB.out.size; omega), fun j hj h => by rw [HCC.out]; rw [reply_inn]; exact h⟩
      · have q3 := beqF hk3
        by_cases hk4 : e.kind = 4
        · have q4 := beqT hk4
          have HE := Lib.hid (show applyE c e = In.accE c.inn e.s by unfold applyE; rw [if_neg hk1]; rw [if_neg hk2]; rw [if_neg hk3]; rw [if_pos hk4])
          have HCC := Lib.hid (show applyC c e = stmC c e.s by unfold applyC; rw [if_neg hk1]; rw [if_neg hk2]; rw [if_neg hk3]; rw [if_pos hk4])
          have hstm := HOK.out.stm hk4
          have HSTM := Lib.hid hstm
          clear hstm
          clear hk1 hk2 hk3 hk4
          go_wp2_with (go_at_call 39; refine (cnone_any HC.out).mono ?_; rintro e w1 ⟨rfl, hb⟩; subst hb)
          refine (cstmt_any HC.out e.s _ HU.out HT.out hl5 HOK.out.b (fun h => (HSTM.out h).1) (fun h => (HSTM.out h).2) (fun n W h0 h1 hW => HITO.out n W h0 h1 hW)).mono ?_
          rintro e2 w2 ⟨vb', vI', rfl, hc2, ht2, hf2, ha2⟩
          go_wp2_with fail
          go_ret
          exact ⟨vl, vb', vI', by rw [HE.out]; rfl, by rw [HCC.out]; exact hc2, (Turned.of_below HB.out).trans ht2, fun j hj => .inl hj, fun j hj => (hf2 j hj).imp id (fun h => by have := HB.out.size; omega), fun j hj h => by rw [HCC.out]; exact ha2 j (by have := HB.out.size; omega) h⟩
        · have q4 := beqF hk4
          have HE := Lib.hid (show applyE c e = 2 by unfold applyE; rw [if_neg hk1]; rw [if_neg hk2]; rw [if_neg hk3]; rw [if_neg hk4])
          have HCC := Lib.hid (show applyC c e = c by unfold applyC; rw [if_neg hk1]; rw [if_neg hk2]; rw [if_neg hk3]; rw [if_neg hk4])
          clear hk1 hk2 hk3 hk4
          go_wp2_with (go_at_call 39; refine (cnone_any HC.out).mono ?_; rintro e w1 ⟨rfl, hb⟩; subst hb)
          go_ret
          exact ⟨vl, vb, vI, by rw [HE.out]; rfl, by rw [HCC.out]; exact HC.out, Turned.of_below HB.out, fun j hj => .inl hj, fun j hj => .inl hj, fun j hj h => by rw [HCC.out]; exact h⟩
end Go.Proofs.YtlkncmpengpbiaaGreatDoor
/- Arguments that are keys, or bytes. -/
namespace Go.Proofs.YtlkncmpengpbiaaGreatDoor
open Go.RowKit Go.ChangeShapes Go.WideShapes Go.Deep Go.Joins

section
variable {H : Type} {enc : TypeId × Value → H}
theorem wf64 {a : Int} (h : (Lit.int .i64 a).wf = true) : -9223372036854775808 ≤ a ∧ a ≤ 9223372036854775807 := by simpa [Lit.wf, IntKind.min, IntKind.max, IntKind.signed, IntKind.bits] using h
theorem wfu8 {a : Int} (h : (Lit.int .u8 a).wf = true) : 0 ≤ a ∧ a ≤ 255 := by simpa [Lit.wf, IntKind.min, IntKind.max, IntKind.signed, IntKind.bits] using h
def IsKey (cs : List Value) (x : Int × Int) : Prop := cs = [.int .i64 x.1, .int .i64 x.2] ∧ (-9223372036854775808 ≤ x.1 ∧ x.1 ≤ 9223372036854775807) ∧ (-9223372036854775808 ≤ x.2 ∧ x.2 ≤ 9223372036854775807)
def IsByte (cs : List Value) (x : Int) : Prop := cs = [.int .u8 x] ∧ 0 ≤ x ∧ x ≤ 255
theorem opens_key : Opens enc Tryz.prog 31 (Int × Int) fun _ _ cs x => IsKey cs x :=
  (opens_struct Tryz.underlying31 (k := 2) (by kernel_rfl) (opens_cons (k := 1) (by kernel_rfl) (opens_int Tryz.underlying3) (opens_cons (k := 1) (by kernel_rfl) (opens_int Tryz.underlying3) opens_nil))).imp fun _ _ cs a h => by
    obtain ⟨hl, h0, h1, _⟩ := h
    obtain ⟨x0, x1, rfl⟩ := list2 hl
    simp only [List.drop_zero, List.take_succ_cons, List.take_zero, List.drop_succ_cons, List.cons.injEq, and_true] at h0 h1
    exact ⟨(a.1, a.2.1), by rw [h0.1, h1.1], wf64 h0.2, wf64 h1.2⟩
theorem opens_byte : Opens enc Tryz.prog 5 Int fun _ _ cs x => IsByte cs x :=
  (opens_int Tryz.underlying5).imp fun _ _ _ a h => ⟨a, h.1, wfu8 h.2⟩
end
end Go.Proofs.YtlkncmpengpbiaaGreatDoor
/- What the laws of sagas and statements are handed: sagas, statements with their rows, orders. -/
namespace Go.Proofs.YtlkncmpengpbiaaGreatDoor
open Go.RowKit Go.ChangeShapes Go.WideShapes Go.Deep Go.Joins Sa

section
variable {H : Type} {enc : TypeId × Value → H} {P : Program}
/-- A slice, and that it has no room where it is nil. -/
theorem opens_sliceN {t e : TypeId} {α : Type} {R : World → Nat → List Value → α → Prop} {k : Nat} (ht : P.underlying t = some (.slice e)) (hk : P.cellsOf e = k) (h0 : 0 < k) (h : Opens enc P e α R) :
    Opens enc P t (List α) fun w B cs L => ∃ v, cs = [v] ∧ SlK w B k (R w B) v L ∧ NilOk v := fun w n cs x B hx hB => by
  obtain ⟨L, v, e1, h1⟩ := opens_slice ht hk h0 h w n cs x B hx hB
  refine ⟨L, v, e1, h1, fun m c e2 => ?_⟩
  rcases open_slice ht hx with ⟨e3, _⟩ | ⟨a, len, cap, m', n', D, Pl, e3, _⟩
  · rw [e1, e2] at e3
    injection e3 with e3
    injection e3 with _ _ e3
  · rw [e1, e2] at e3
    injection e3 with e3
    injection e3 with e3
    cases e3
theorem opens_argN {t e : TypeId} {α : Type} {R : World → Nat → List Value → α → Prop} {k : Nat} {w : World} {r : Reach} {b0 : Nat} {v : Value} {d : DataW H} {p : List MemPlace} (ht : P.underlying t = some (.slice e)) (hk : P.cellsOf e = k) (h0 : 0 < k) (O : Opens enc P e α R)
    (hval : Value.okWide P w r b0 t v) (h : DataW.Trod enc P w 0 (fun _ => true) true t v d p) (hlt : ∀ x ∈ p, x.block < w.heap.size) : ∃ L, SlK w w.heap.size k (R w w.heap.size) v L ∧ NilOk v := by
  obtain ⟨A, n, c, rfl⟩ := okWide_slice ht hval
  obtain ⟨fuel, h⟩ := h
  obtain ⟨L, v', e, hL⟩ := opens_sliceN ht hk h0 O w fuel _ (d, p) w.heap.size h hlt
  have e' : Value.slice A n c = v' := by simpa [Value.cells] using e
  subst e'
  exact ⟨L, hL⟩
def I64 (a : Int) : Prop := -9223372036854775808 ≤ a ∧ a ≤ 9223372036854775807
/-- Six numbers. -/
theorem opens_six {t e : TypeId} (ht : P.underlying t = some (.array 6 e)) (he : P.underlying e = some (.int .i64)) (hk : P.cellsOf t = 6) (hk1 : P.cellsOf e = 1) :
    Opens enc P t (Int × Int × Int × Int × Int × Int) fun _ _ cs x => cs = [.int .i64 x.1, .int .i64 x.2.1, .int .i64 x.2.2.1, .int .i64 x.2.2.2.1, .int .i64 x.2.2.2.2.1, .int .i64 x.2.2.2.2.2] := fun w n cs x B hx hB => by
  obtain ⟨xs, m, _, rfl, hl, hn, hi⟩ := DataW.trod_array ht hx
  rw [hk] at hl
  rw [hk1] at hi
  obtain ⟨x0, x1, x2, x3, x4, x5, rfl⟩ := list6 hl
  have one : ∀ (i : Nat) (u : Value), i < 6 → ((([x0, x1, x2, x3, x4, x5] : List Value).drop (i * 1)).take 1) = [u] → ∃ a, u = .int .i64 a := fun i u h6 hu => by
    have h1 := hi i h6
    rw [hu, List.getElem?_eq_getElem (by omega)] at h1
    obtain ⟨a, e1, _, _⟩ := DataW.trod_int he h1
    injection e1 with e1
    exact ⟨a, e1⟩
  obtain ⟨a0, rfl⟩ := one 0 x0 (by omega) rfl
  obtain ⟨a1, rfl⟩ := one 1 x1 (by omega) rfl
  obtain ⟨a2, rfl⟩ := one 2 x2 (by omega) rfl
  obtain ⟨a3, rfl⟩ := one 3 x3 (by omega) rfl
  obtain ⟨a4, rfl⟩ := one 4 x4 (by omega) rfl
  obtain ⟨a5, rfl⟩ := one 5 x5 (by omega) rfl
  exact ⟨(a0, a1, a2, a3, a4, a5), rfl⟩
end
section
variable {H : Type} {enc : TypeId × Value → H}
/-- An order, as a caller hands it over. -/
def IsOrd (cs : List Value) (x : Int × List UInt8 × List UInt8 × Int × Int) : Prop :=
  cs = [.int .i64 x.1, .string ⟨x.2.1.toArray⟩, .string ⟨x.2.2.1.toArray⟩, .int .i64 x.2.2.2.1, .int .i64 x.2.2.2.2] ∧ I64 x.1 ∧ I64 x.2.2.2.1 ∧ I64 x.2.2.2.2 ∧ x.2.1.length ≤ maxLen ∧ x.2.2.1.length ≤ maxLen
theorem opens_ord : Opens enc Tryz.prog 29 (Int × List UInt8 × List UInt8 × Int × Int) fun _ _ cs x => IsOrd cs x :=
  (opens_struct Tryz.underlying29 (k := 5) (by kernel_rfl) (opens_cons (k := 1) (by kernel_rfl) (opens_int Tryz.underlying3) (opens_cons (k := 1) (by kernel_rfl) (opens_str Tryz.underlying9) (opens_cons (k := 1) (by kernel_rfl) (opens_str Tryz.underlying9) (opens_cons (k := 1) (by kernel_rfl) (opens_int Tryz.underlying3) (opens_cons (k := 1) (by kernel_rfl) (opens_int Tryz.underlying2) opens_nil)))))).imp fun _ _ cs a h => by
    obtain ⟨hl, h0, h1, h2, h3, h4, _⟩ := h
    obtain ⟨x0, x1, x2, x3, x4, rfl⟩ := list5 hl
    simp only [List.drop_zero, List.take_succ_cons, List.take_zero, List.drop_succ_cons, List.cons.injEq, and_true] at h0 h1 h2 h3 h4
    exact ⟨(a.1, a.2.1, a.2.2.1, a.2.2.2.1, a.2.2.2.2.1), by rw [h0.1, h1.1, h2.1, h3.1, h4.1], wf64 h0.2, wf64 h3.2, wf64 h4.2, h1.2, h2.2⟩
def IsSg (cs : List Value) (s : Sg) : Prop := cs = encS s ∧ I64 s.id ∧ I64 s.qty ∧ I64 s.amt
theorem opens_saga : Opens enc Tryz.prog 90 Sg fun _ _ cs x => IsSg cs x :=
  (opens_struct Tryz.underlying90 (k := 12) (by kernel_rfl) (opens_cons (k := 5) (by kernel_rfl) opens_ord (opens_cons (k := 6) (by kernel_rfl) (opens_six Tryz.underlying88 Tryz.underlying3 (by kernel_rfl) (by kernel_rfl)) (opens_cons (k := 1) (by kernel_rfl) (opens_bool Tryz.underlying4) opens_nil)))).imp fun _ _ cs a h => by
    obtain ⟨hl, h0, h1, h2, _⟩ := h
    match cs, hl with
    | [x0, x1, x2, x3, x4, x5, x6, x7, x8, x9, x10, x11], _ =>
      simp only [IsOrd, List.drop_zero, List.take_succ_cons, List.take_zero, List.drop_succ_cons, List.cons.injEq, and_true] at h0 h1 h2
      obtain ⟨⟨rfl, rfl, rfl, rfl, rfl⟩, b0, b1, b2, _⟩ := h0
      obtain ⟨rfl, rfl, rfl, rfl, rfl, rfl⟩ := h1
      subst h2
      exact ⟨⟨a.1.1, a.1.2.1, a.1.2.2.1, a.1.2.2.2.1, a.1.2.2.2.2, a.2.1.1, a.2.1.2.1, a.2.1.2.2.1, a.2.1.2.2.2.1, a.2.1.2.2.2.2.1, a.2.1.2.2.2.2.2, a.2.2.1⟩, rfl, b0, b1, b2⟩
theorem opens_row : Opens enc Tryz.prog 181 R5 fun _ _ cs x => cs = encR x :=
  (opens_struct Tryz.underlying181 (k := 5) (by kernel_rfl) (opens_cons (k := 2) (by kernel_rfl) opens_key (opens_cons (k := 1) (by kernel_rfl) (opens_int Tryz.underlying3) (opens_cons (k := 1) (by kernel_rfl) (opens_int Tryz.underlying2) (opens_cons (k := 1) (by kernel_rfl) (opens_int Tryz.underlying3) opens_nil))))).imp fun _ _ cs a h => by
    obtain ⟨hl, h0, h1, h2, h3, _⟩ := h
    obtain ⟨x0, x1, x2, x3, x4, rfl⟩ := list5 hl
    simp only [IsKey, List.drop_zero, List.take_succ_cons, List.take_zero, List.drop_succ_cons, List.cons.injEq, and_true] at h0 h1 h2 h3
    exact ⟨(a.1, a.2.1, a.2.2.1, a.2.2.2.1), by rw [h0.1.1, h0.1.2, h1.1, h2.1, h3.1]; rfl⟩
/-- A statement, as a caller hands it over. -/
def IsStm (w : World) (B : Nat) (cs : List Value) (x : In.Stm) : Prop := ∃ v, cs = [.int .i64 x.1, .int .i64 x.2.1, v] ∧ I64 x.1 ∧ I64 x.2.1 ∧ SlK w B 5 (fun cs x => cs = encR x) v x.2.2 ∧ NilOk v
theorem opens_stm : Opens enc Tryz.prog 34 In.Stm fun w B cs x => IsStm w B cs x :=
  (opens_struct Tryz.underlying34 (k := 3) (by kernel_rfl) (opens_cons (k := 1) (by kernel_rfl) (opens_int Tryz.underlying3) (opens_cons (k := 1) (by kernel_rfl) (opens_int Tryz.underlying3) (opens_cons (k := 1) (by kernel_rfl) (opens_sliceN Tryz.underlying32 (k := 5) (by kernel_rfl) (by decide) opens_row) opens_nil)))).imp fun w B cs a h => by
    obtain ⟨hl, h0, h1, h2, _⟩ := h
    obtain ⟨x0, x1, x2, rfl⟩ := list3 hl
    simp only [List.drop_zero, List.take_succ_cons, List.take_zero, List.drop_succ_cons, List.cons.injEq, and_true] at h0 h1 h2
    obtain ⟨v, rfl, h3, h4⟩ := h2
    exact ⟨(a.1, a.2.1, a.2.2.1), x2, by rw [h0.1, h1.1], wf64 h0.2, wf64 h1.2, h3, h4⟩
/-- Sagas that came in. -/
theorem sgs_arg {w : World} {v : Value} {l : List Sg} (h : SlK w w.heap.size 12 (fun cs x => IsSg cs x) v l) (hn : NilOk v) : Sgs w v l ∧ ∀ s ∈ l, I64 s.id ∧ I64 s.qty ∧ I64 s.amt := by
  refine ⟨⟨SlK.mono h (Below.refl _ _) (Nat.le_refl _) (fun cs x _ e => e.1), hn⟩, fun s hs => ?_⟩
  obtain ⟨i, hi⟩ := List.getElem?_of_mem hs
  obtain ⟨A, c, rfl, _⟩ := SlK.shape h
  obtain ⟨_, _, _, _, _, _, _, hr⟩ := SlK.at h hi
  exact hr.2
end
end Go.Proofs.YtlkncmpengpbiaaGreatDoor
/- Entries, as a caller hands them over. -/
namespace Go.Proofs.YtlkncmpengpbiaaGreatDoor
open Go.RowKit Go.ChangeShapes Go.WideShapes Go.Deep Go.Joins Sa Co

section
variable {H : Type} {enc : TypeId × Value → H}
def entV (e : Ent) (v : Value) : List Value := [.int .i64 e.kind, .int .i64 e.o.1, .string ⟨e.o.2.1.toArray⟩, .string ⟨e.o.2.2.1.toArray⟩, .int .i64 e.o.2.2.2.1, .int .i64 e.o.2.2.2.2, .int .i64 e.k.1, .int .i64 e.k.2, .int .i64 e.code, .int .i64 e.s.1, .int .i64 e.s.2.1, v]
/-- The numbers of an entry are numbers. -/
structure EntI (e : Ent) : Prop where
  kd : I64 e.kind
  id : I64 e.o.1
  qt : I64 e.o.2.2.2.1
  am : I64 e.o.2.2.2.2
  ko : I64 e.k.1
  kk : I64 e.k.2
  cd : I64 e.code
  pa : I64 e.s.1
  sq : I64 e.s.2.1
  rf : e.o.2.1.length ≤ maxLen
  sk : e.o.2.2.1.length ≤ maxLen
/-- An entry, as a caller hands it over. -/
def IsEnt (w : World) (B : Nat) (cs : List Value) (e : Ent) : Prop := ∃ v, cs = entV e v ∧ EntI e ∧ SlK w B 5 (fun cs x => cs = encR x) v e.s.2.2 ∧ NilOk v
theorem opens_ent : Opens enc Tryz.prog tEnt Ent fun w B cs e => IsEnt w B cs e :=
  (opens_struct Tryz.underlying36 (k := 12) (by kernel_rfl) (opens_cons (k := 1) (by kernel_rfl) (opens_int Tryz.underlying3) (opens_cons (k := 5) (by kernel_rfl) opens_ord (opens_cons (k := 2) (by kernel_rfl) opens_key (opens_cons (k := 1) (by kernel_rfl) (opens_int Tryz.underlying3) (opens_cons (k := 3) (by kernel_rfl) opens_stm opens_nil)))))).imp fun w B cs a h => by
    obtain ⟨hl, h0, h1, h2, h3, h4, _⟩ := h
    match cs, hl with
    | [x0, x1, x2, x3, x4, x5, x6, x7, x8, x9, x10, x11], _ =>
      simp only [IsOrd, IsKey, IsStm, List.drop_zero, List.take_succ_cons, List.take_zero, List.drop_succ_cons, List.cons.injEq, and_true] at h0 h1 h2 h3 h4
      obtain ⟨⟨rfl, rfl, rfl, rfl, rfl⟩, b0, b1, b2, b3, b4⟩ := h1
      obtain ⟨⟨rfl, rfl⟩, c0, c1⟩ := h2
      obtain ⟨v, ⟨rfl, rfl, rfl⟩, d0, d1, d2, d3⟩ := h4
      exact ⟨⟨a.1, a.2.1, a.2.2.1, a.2.2.2.1, a.2.2.2.2.1⟩, _, by rw [h0.1, h3.1]; rfl, ⟨wf64 h0.2, b0, b1, b2, c0, c1, wf64 h3.2, d0, d1, b3, b4⟩, d2, d3⟩
end
end Go.Proofs.YtlkncmpengpbiaaGreatDoor
/- Entries that came in; are they too great? -/
namespace Go.Proofs.YtlkncmpengpbiaaGreatDoor
open Go.RowKit Go.Maps Key Rw Sa Co

theorem ent_keep {w w' : World} {cs : List Value} {e : Ent} (h : IsEnt w w.heap.size cs e) (hb : Below w.heap.size w w') : IsEnt w' w'.heap.size cs e := by
  obtain ⟨v, hc, hi, hs, hn⟩ := h
  exact ⟨v, hc, hi, SlK.mono hs hb hb.size (fun _ _ _ h => h), hn⟩
/-- An entry that stands in values. -/
structure EntAt (w : World) (v : Value) (e : Ent) : Prop where
  rd : Rd w v e.s.2.2
  nn : EntI e
theorem IsEnt.at {w : World} {cs : List Value} {e : Ent} (h : IsEnt w w.heap.size cs e) : ∃ A c, cs = entV e (.slice A e.s.2.2.length c) ∧ EntAt w (.slice A e.s.2.2.length c) e := by
  obtain ⟨v, hc, hi, hs, hn⟩ := h
  obtain ⟨A, c, rfl, _⟩ := SlK.shape hs
  exact ⟨A, c, hc, ⟨hs, hn⟩, hi⟩
theorem EntAt.below {w w' : World} {v : Value} {e : Ent} (h : EntAt w v e) (hb : Below w.heap.size w w') : EntAt w' v e := ⟨h.rd.keep hb, h.nn⟩
/-- Entries that came in. -/
def Ents (w : World) (v : Value) (l : List Ent) : Prop := SlK w w.heap.size 12 (fun cs e => IsEnt w w.heap.size cs e) v l
theorem Ents.keep {w w' : World} {v : Value} {l : List Ent} (h : Ents w v l) (hb : Below w.heap.size w w') : Ents w' v l := SlK.mono h hb hb.size (fun _ _ _ h => ent_keep h hb)
theorem Ents.cells {w : World} {v : Value} {l : List Ent} (h : Ents w v l) {k : Nat} {e : Ent} (hx : l[k]? = some e) : ∃ g off n c A c', v = .slice (some ⟨g, off, none⟩) n c ∧ g < w.heap.size ∧ EntAt w (.slice A e.s.2.2.length c') e ∧
    ∀ W, Below w.heap.size w W → W.cell? ⟨g, off + k * 12, none⟩ = some (.int .i64 e.kind) ∧ W.cell? ⟨g, off + k * 12 + 1, none⟩ = some (.int .i64 e.o.1) ∧ W.cell? ⟨g, off + k * 12 + 2, none⟩ = some (.string ⟨e.o.2.1.toArray⟩) ∧ W.cell? ⟨g, off + k * 12 + 3, none⟩ = some (.string ⟨e.o.2.2.1.toArray⟩) ∧ W.cell? ⟨g, off + k * 12 + 4, none⟩ = some (.int .i64 e.o.2.2.2.1) ∧ W.cell? ⟨g, off + k * 12 + 5, none⟩ = some (.int .i64 e.o.2.2.2.2) ∧ W.cell? ⟨g, off + k * 12 + 6, none⟩ = some (.int .i64 e.k.1) ∧ W.cell? ⟨g, off + k * 12 + 7, none⟩ = some (.int .i64 e.k.2) ∧ W.cell? ⟨g, off + k * 12 + 8, none⟩ = some (.int .i64 e.code) ∧ W.cell? ⟨g, off + k * 12 + 9, none⟩ = some (.int .i64 e.s.1) ∧ W.cell? ⟨g, off + k * 12 + 10, none⟩ = some (.int .i64 e.s.2.1) ∧ W.cell? ⟨g, off + k * 12 + 11, none⟩ = some (.slice A e.s.2.2.length c') := by
  obtain ⟨A, c, rfl, _⟩ := SlK.shape h
  obtain ⟨g, off, cs, rfl, hgl, hcl, hcell, he⟩ := SlK.at h hx
  obtain ⟨A', c', rfl, hr⟩ := he.at
  exact ⟨g, off, _, _, A', c', rfl, hgl, hr, fun W hb => by
    have hk := fun j u hj => (hb.cell (p := ⟨g, off + k * 12 + j, none⟩) hgl).trans (hcell j u hj)
    exact ⟨hk 0 _ rfl, hk 1 _ rfl, hk 2 _ rfl, hk 3 _ rfl, hk 4 _ rfl, hk 5 _ rfl, hk 6 _ rfl, hk 7 _ rfl, hk 8 _ rfl, hk 9 _ rfl, hk 10 _ rfl, hk 11 _ rfl⟩⟩
namespace Co
def entG (e : Ent) : Bool := decide (200 < e.o.2.1.length) || decide (200 < e.o.2.2.1.length) || decide (100 < e.s.2.2.length)
def entGG (e : Ent) : Bool := entG e || decide (60 < e.s.2.2.length)
def entsG (l : List Ent) (most : Int) : Bool := l.any entGG || decide (most < l.length)
def entsTo (l : List Ent) (k : Nat) : Bool := (l.take k).any entGG
theorem entsTo_succ {l : List Ent} {k : Nat} {e : Ent} (h : l[k]? = some e) : entsTo l (k + 1) = (entsTo l k || entGG e) := by
  unfold entsTo; rw [List.take_add_one, h, List.any_append]; simp
theorem entsG_hit {l : List Ent} {k : Nat} {e : Ent} (h : l[k]? = some e) (hx : entGG e = true) (m : Int) : entsG l m = true := by
  unfold entsG
  rw [List.any_eq_true.2 ⟨e, List.mem_of_getElem? h, hx⟩]
  rfl
theorem entsG_not {l : List Ent} {m : Int} (h : entsG l m = false) : (∀ e ∈ l, e.o.2.1.length ≤ 200 ∧ e.o.2.2.1.length ≤ 200 ∧ e.s.2.2.length ≤ 60) ∧ (l.length : Int) ≤ m := by
  unfold entsG entGG entG at h
  simp only [Bool.or_eq_false_iff, List.any_eq_false, decide_eq_true_eq, decide_eq_false_iff_not, Bool.or_eq_true, not_or] at h
  exact ⟨fun x hx => by have := h.1 x hx; omega, by omega⟩
end Co
set_option linter.unusedSimpArgs false in
set_option linter.unusedVariables false in
set_option maxRecDepth 100000 in
set_option maxHeartbeats 8000000 in
theorem egreat_any (w : World) (e : Ent) (u : Value) (he : EntAt w u e) :
    Calls Tryz.prog 26 #[.agg #[.int .i64 e.kind, .int .i64 e.o.1, .string ⟨e.o.2.1.toArray⟩, .string ⟨e.o.2.2.1.toArray⟩, .int .i64 e.o.2.2.2.1, .int .i64 e.o.2.2.2.2, .int .i64 e.k.1, .int .i64 e.k.2, .int .i64 e.code, .int .i64 e.s.1, .int .i64 e.s.2.1, u]] w fun r w' => r = .returned (.bool (entG e)) ∧ Below w.heap.size w w' := by
  obtain ⟨A, c, rfl, _, hcm⟩ := SlK.shape he.rd.1
  have hn := he.nn.rf; have hn2 := he.nn.sk
  have hr63 : (e.s.2.2.length : Int) ≤ 9223372036854775807 := by unfold maxLen at hcm; omega
  obtain ⟨wa, hA⟩ : ∃ wa, wa = w.alloc (.cells #[.int .i64 e.kind, .int .i64 e.o.1, .string ⟨e.o.2.1.toArray⟩, .string ⟨e.o.2.2.1.toArray⟩, .int .i64 e.o.2.2.2.1, .int .i64 e.o.2.2.2.2, .int .i64 e.k.1, .int .i64 e.k.2, .int .i64 e.code, .int .i64 e.s.1, .int .i64 e.s.2.1, .slice A e.s.2.2.length c] tEnt) := ⟨_, rfl⟩
  have HB := Lib.hid (show Below w.heap.size w wa by rw [hA]; exact below_alloc _ _)
  have HM := Lib.hid (show wa.heap[w.heap.size]? = some (.cells #[.int .i64 e.kind, .int .i64 e.o.1, .string ⟨e.o.2.1.toArray⟩, .string ⟨e.o.2.2.1.toArray⟩, .int .i64 e.o.2.2.2.1, .int .i64 e.o.2.2.2.2, .int .i64 e.k.1, .int .i64 e.k.2, .int .i64 e.code, .int .i64 e.s.1, .int .i64 e.s.2.1, .slice A e.s.2.2.length c] tEnt (0, 0)) by rw [hA]; exact heap_new _ _)
  have HA := Lib.hid hA
  clear hA he
  obtain ⟨m0, m1, m2, m3, m4, m5, m6, m7, m8, m9, m10, m11⟩ := cell12 HM.out
  go_enter Tryz.func26, Tryz.ntmps26
  go_upto_region 1 with (fail)
  rw [← HA.out]
  by_cases h1 : 200 < e.o.2.1.length
  · have q1 : (200 : Int) < e.o.2.1.length := by omega
    have HF := Lib.hid (show entG e = true by unfold entG; rw [decide_eq_true h1]; rfl)
    go_wp2_with fail
    go_ret
    exact ⟨by rw [HF.out]; rfl, HB.out⟩
  · have q1 : ¬ (200 : Int) < e.o.2.1.length := by omega
    by_cases h2 : 200 < e.o.2.2.1.length
    · have q2 : (200 : Int) < e.o.2.2.1.length := by omega
      have HF := Lib.hid (show entG e = true by unfold entG; rw [decide_eq_true h2, Bool.or_true]; rfl)
      go_wp2_with fail
      go_ret
      exact ⟨by rw [HF.out]; rfl, HB.out⟩
    · have q2 : ¬ (200 : Int) < e.o.2.2.1.length := by omega
      have HF := Lib.hid (show entG e = decide ((100 : Int) < e.s.2.2.length) by unfold entG; rw [decide_eq_false h1, decide_eq_false h2]; simp [Int.ofNat_lt]; omega)
      go_wp2_with fail
      go_ret
      exact ⟨by rw [HF.out]; rfl, HB.out⟩
end Go.Proofs.YtlkncmpengpbiaaGreatDoor

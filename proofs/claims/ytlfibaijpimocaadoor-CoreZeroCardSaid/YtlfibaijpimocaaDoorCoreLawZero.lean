/- Entries, as a caller hands them over. -/
import Derived.Test.YtlfibaijpimocaaDoorMatchOpen
import Derived.Test.YtlfibaijpimocaaDoorCoreApply
import Derived.Test.YtlfibaijpimocaaDoorCoreMem
import Derived.Test.YtlfibaijpimocaaDoorIntakeTell
import Derived.Test.YtlfibaijpimocaaDoorSrcOf
import Derived.Deep.CutRange
import Derived.Test.YtlfibaijpimocaaDoorCorePut
import Derived.Test.YtlfibaijpimocaaDoorShelf
namespace Go.Proofs.YtlfibaijpimocaaDoor
open Go.RowKit Go.ChangeShapes Go.WideShapes Go.Deep Go.Joins Sa Co

section
variable {H : Type} {enc : TypeId × Value → H}
def entV (e : Ent) (v : Value) : List Value := [.int .i64 e.kind, .int .i64 e.o.1, .string ⟨e.o.2.1.toArray⟩, .string ⟨e.o.2.2.1.toArray⟩, .int .i64 e.o.2.2.2.1, .int .i64 e.o.2.2.2.2, .int .i64 e.k.1, .int .i64 e.k.2, .int .i64 e.code, .int .i64 e.s.1, .int .i64 e.s.2.1, v]
/-- The numbers of an entry are numbers. -/
structure EntI (e : Ent) : Prop where
  kd : I64 e.kind
  id : I64 e.o.1
  qt : I64 e.o.2.2.2.1
  am : I64 e.o.2.2.2.2
  ko : I64 e.k.1
  kk : I64 e.k.2
  cd : I64 e.code
  pa : I64 e.s.1
  sq : I64 e.s.2.1
  rf : e.o.2.1.length ≤ maxLen
  sk : e.o.2.2.1.length ≤ maxLen
/-- An entry, as a caller hands it over. -/
def IsEnt (w : World) (B : Nat) (cs : List Value) (e : Ent) : Prop := ∃ v, cs = entV e v ∧ EntI e ∧ SlK w B 5 (fun cs x => cs = encR x) v e.s.2.2 ∧ NilOk v
theorem opens_ent : Opens enc Tryd.prog tEnt Ent fun w B cs e => IsEnt w B cs e :=
  (opens_struct Tryd.underlying88 (k := 12) (by kernel_rfl) (opens_cons (k := 1) (by kernel_rfl) (opens_int Tryd.underlying3) (opens_cons (k := 5) (by kernel_rfl) opens_ord (opens_cons (k := 2) (by kernel_rfl) opens_key (opens_cons (k := 1) (by kernel_rfl) (opens_int Tryd.underlying3) (opens_cons (k := 3) (by kernel_rfl) opens_stm opens_nil)))))).imp fun w B cs a h => by
    obtain ⟨hl, h0, h1, h2, h3, h4, _⟩ := h
    match cs, hl with
    | [x0, x1, x2, x3, x4, x5, x6, x7, x8, x9, x10, x11], _ =>
      simp only [IsOrd, IsKey, IsStm, List.drop_zero, List.take_succ_cons, List.take_zero, List.drop_succ_cons, List.cons.injEq, and_true] at h0 h1 h2 h3 h4
      obtain ⟨⟨rfl, rfl, rfl, rfl, rfl⟩, b0, b1, b2, b3, b4⟩ := h1
      obtain ⟨⟨rfl, rfl⟩, c0, c1⟩ := h2
      obtain ⟨v, ⟨rfl, rfl, rfl⟩, d0, d1, d2, d3⟩ := h4
      exact ⟨⟨a.1, a.2.1, a.2.2.1, a.2.2.2.1, a.2.2.2.2.1⟩, _, by rw [h0.1, h3.1]; rfl, ⟨wf64 h0.2, b0, b1, b2, c0, c1, wf64 h3.2, d0, d1, b3, b4⟩, d2, d3⟩
end
end Go.Proofs.YtlfibaijpimocaaDoor
/- Entries that came in; are they too great? -/
namespace Go.Proofs.YtlfibaijpimocaaDoor
open Go.RowKit Go.Maps Key Rw Sa Co

theorem ent_keep {w w' : World} {cs : List Value} {e : Ent} (h : IsEnt w w.heap.size cs e) (hb : Below w.heap.size w w') : IsEnt w' w'.heap.size cs e := by
  obtain ⟨v, hc, hi, hs, hn⟩ := h
  exact ⟨v, hc, hi, SlK.mono hs hb hb.size (fun _ _ _ h => h), hn⟩
/-- An entry that stands in values. -/
structure EntAt (w : World) (v : Value) (e : Ent) : Prop where
  rd : Rd w v e.s.2.2
  nn : EntI e
theorem IsEnt.at {w : World} {cs : List Value} {e : Ent} (h : IsEnt w w.heap.size cs e) : ∃ A c, cs = entV e (.slice A e.s.2.2.length c) ∧ EntAt w (.slice A e.s.2.2.length c) e := by
  obtain ⟨v, hc, hi, hs, hn⟩ := h
  obtain ⟨A, c, rfl, _⟩ := SlK.shape hs
  exact ⟨A, c, hc, ⟨hs, hn⟩, hi⟩
theorem EntAt.below {w w' : World} {v : Value} {e : Ent} (h : EntAt w v e) (hb : Below w.heap.size w w') : EntAt w' v e := ⟨h.rd.keep hb, h.nn⟩
/-- Entries that came in. -/
def Ents (w : World) (v : Value) (l : List Ent) : Prop := SlK w w.heap.size 12 (fun cs e => IsEnt w w.heap.size cs e) v l
theorem Ents.keep {w w' : World} {v : Value} {l : List Ent} (h : Ents w v l) (hb : Below w.heap.size w w') : Ents w' v l := SlK.mono h hb hb.size (fun _ _ _ h => ent_keep h hb)
theorem Ents.cells {w : World} {v : Value} {l : List Ent} (h : Ents w v l) {k : Nat} {e : Ent} (hx : l[k]? = some e) : ∃ g off n c A c', v = .slice (some ⟨g, off, none⟩) n c ∧ g < w.heap.size ∧ EntAt w (.slice A e.s.2.2.length c') e ∧
    ∀ W, Below w.heap.size w W → W.cell? ⟨g, off + k * 12, none⟩ = some (.int .i64 e.kind) ∧ W.cell? ⟨g, off + k * 12 + 1, none⟩ = some (.int .i64 e.o.1) ∧ W.cell? ⟨g, off + k * 12 + 2, none⟩ = some (.string ⟨e.o.2.1.toArray⟩) ∧ W.cell? ⟨g, off + k * 12 + 3, none⟩ = some (.string ⟨e.o.2.2.1.toArray⟩) ∧ W.cell? ⟨g, off + k * 12 + 4, none⟩ = some (.int .i64 e.o.2.2.2.1) ∧ W.cell? ⟨g, off + k * 12 + 5, none⟩ = some (.int .i64 e.o.2.2.2.2) ∧ W.cell? ⟨g, off + k * 12 + 6, none⟩ = some (.int .i64 e.k.1) ∧ W.cell? ⟨g, off + k * 12 + 7, none⟩ = some (.int .i64 e.k.2) ∧ W.cell? ⟨g, off + k * 12 + 8, none⟩ = some (.int .i64 e.code) ∧ W.cell? ⟨g, off + k * 12 + 9, none⟩ = some (.int .i64 e.s.1) ∧ W.cell? ⟨g, off + k * 12 + 10, none⟩ = some (.int .i64 e.s.2.1) ∧ W.cell? ⟨g, off + k * 12 + 11, none⟩ = some (.slice A e.s.2.2.length c') := by
  obtain ⟨A, c, rfl, _⟩ := SlK.shape h
  obtain ⟨g, off, cs, rfl, hgl, hcl, hcell, he⟩ := SlK.at h hx
  obtain ⟨A', c', rfl, hr⟩ := he.at
  exact ⟨g, off, _, _, A', c', rfl, hgl, hr, fun W hb => by
    have hk := fun j u hj => (hb.cell (p := ⟨g, off + k * 12 + j, none⟩) hgl).trans (hcell j u hj)
    exact ⟨hk 0 _ rfl, hk 1 _ rfl, hk 2 _ rfl, hk 3 _ rfl, hk 4 _ rfl, hk 5 _ rfl, hk 6 _ rfl, hk 7 _ rfl, hk 8 _ rfl, hk 9 _ rfl, hk 10 _ rfl, hk 11 _ rfl⟩⟩
namespace Co
def entG (e : Ent) : Bool := decide (200 < e.o.2.1.length) || decide (200 < e.o.2.2.1.length) || decide (100 < e.s.2.2.length)
def entGG (e : Ent) : Bool := entG e || decide (60 < e.s.2.2.length)
def entsG (l : List Ent) (most : Int) : Bool := l.any entGG || decide (most < l.length)
def entsTo (l : List Ent) (k : Nat) : Bool := (l.take k).any entGG
theorem entsTo_succ {l : List Ent} {k : Nat} {e : Ent} (h : l[k]? = some e) : entsTo l (k + 1) = (entsTo l k || entGG e) := by
  unfold entsTo; rw [List.take_add_one, h, List.any_append]; simp
theorem entsG_hit {l : List Ent} {k : Nat} {e : Ent} (h : l[k]? = some e) (hx : entGG e = true) (m : Int) : entsG l m = true := by
  unfold entsG
  rw [List.any_eq_true.2 ⟨e, List.mem_of_getElem? h, hx⟩]
  rfl
theorem entsG_not {l : List Ent} {m : Int} (h : entsG l m = false) : (∀ e ∈ l, e.o.2.1.length ≤ 200 ∧ e.o.2.2.1.length ≤ 200 ∧ e.s.2.2.length ≤ 60) ∧ (l.length : Int) ≤ m := by
  unfold entsG entGG entG at h
  simp only [Bool.or_eq_false_iff, List.any_eq_false, decide_eq_true_eq, decide_eq_false_iff_not, Bool.or_eq_true, not_or] at h
  exact ⟨fun x hx => by have := h.1 x hx; omega, by omega⟩
end Co
set_option linter.unusedSimpArgs false in
set_option linter.unusedVariables false in
set_option maxRecDepth 100000 in
set_option maxHeartbeats 8000000 in
theorem egreat_any (w : World) (e : Ent) (u : Value) (he : EntAt w u e) :
    Calls Tryd.prog 51 #[.agg #[.int .i64 e.kind, .int .i64 e.o.1, .string ⟨e.o.2.1.toArray⟩, .string ⟨e.o.2.2.1.toArray⟩, .int .i64 e.o.2.2.2.1, .int .i64 e.o.2.2.2.2, .int .i64 e.k.1, .int .i64 e.k.2, .int .i64 e.code, .int .i64 e.s.1, .int .i64 e.s.2.1, u]] w fun r w' => r = .returned (.bool (entG e)) ∧ Below w.heap.size w w' := by
  obtain ⟨A, c, rfl, _, hcm⟩ := SlK.shape he.rd.1
  have hn := he.nn.rf; have hn2 := he.nn.sk
  have hr63 : (e.s.2.2.length : Int) ≤ 9223372036854775807 := by unfold maxLen at hcm; omega
  obtain ⟨wa, hA⟩ : ∃ wa, wa = w.alloc (.cells #[.int .i64 e.kind, .int .i64 e.o.1, .string ⟨e.o.2.1.toArray⟩, .string ⟨e.o.2.2.1.toArray⟩, .int .i64 e.o.2.2.2.1, .int .i64 e.o.2.2.2.2, .int .i64 e.k.1, .int .i64 e.k.2, .int .i64 e.code, .int .i64 e.s.1, .int .i64 e.s.2.1, .slice A e.s.2.2.length c] tEnt) := ⟨_, rfl⟩
  have HB := Lib.hid (show Below w.heap.size w wa by rw [hA]; exact below_alloc _ _)
  have HM := Lib.hid (show wa.heap[w.heap.size]? = some (.cells #[.int .i64 e.kind, .int .i64 e.o.1, .string ⟨e.o.2.1.toArray⟩, .string ⟨e.o.2.2.1.toArray⟩, .int .i64 e.o.2.2.2.1, .int .i64 e.o.2.2.2.2, .int .i64 e.k.1, .int .i64 e.k.2, .int .i64 e.code, .int .i64 e.s.1, .int .i64 e.s.2.1, .slice A e.s.2.2.length c] tEnt (0, 0)) by rw [hA]; exact heap_new _ _)
  have HA := Lib.hid hA
  clear hA he
  obtain ⟨m0, m1, m2, m3, m4, m5, m6, m7, m8, m9, m10, m11⟩ := cell12 HM.out
  go_enter Tryd.func51, Tryd.ntmps51
  go_upto_region 1 with (fail)
  rw [← HA.out]
  by_cases h1 : 200 < e.o.2.1.length
  · have q1 : (200 : Int) < e.o.2.1.length := by omega
    have HF := Lib.hid (show entG e = true by unfold entG; rw [decide_eq_true h1]; rfl)
    go_wp2_with fail
    go_ret
    exact ⟨by rw [HF.out]; rfl, HB.out⟩
  · have q1 : ¬ (200 : Int) < e.o.2.1.length := by omega
    by_cases h2 : 200 < e.o.2.2.1.length
    · have q2 : (200 : Int) < e.o.2.2.1.length := by omega
      have HF := Lib.hid (show entG e = true by unfold entG; rw [decide_eq_true h2, Bool.or_true]; rfl)
      go_wp2_with fail
      go_ret
      exact ⟨by rw [HF.out]; rfl, HB.out⟩
    · have q2 : ¬ (200 : Int) < e.o.2.2.1.length := by omega
      have HF := Lib.hid (show entG e = decide ((100 : Int) < e.s.2.2.length) by unfold entG; rw [decide_eq_false h1, decide_eq_false h2]; simp [Int.ofNat_lt]; omega)
      go_wp2_with fail
      go_ret
      exact ⟨by rw [HF.out]; rfl, HB.out⟩
set_option linter.unusedSimpArgs false in
set_option linter.unusedVariables false in
set_option maxRecDepth 100000 in
set_option maxHeartbeats 8000000 in
theorem egreats_any (w : World) (v : Value) (l : List Ent) (most : Int) (hS : Ents w v l) :
    Calls Tryd.prog 23 #[v, .int .i64 most] w fun e w' => e = .returned (.bool (entsG l most)) ∧ Below w.heap.size w w' := by
  obtain ⟨A, c, rfl, hlc, hcm⟩ := SlK.shape hS
  have HS := Lib.hid hS
  have hl63 : (l.length : Int) ≤ 9223372036854775807 := by unfold maxLen at hcm; omega
  clear hS
  go_enter Tryd.func23, Tryd.ntmps23
  go_wp2_with fail
  go_loopw [5] (fun i wr => ∃ k : Nat, i = .int .i64 k ∧ k ≤ l.length ∧ Hid (entsTo l k = false) ∧ Hid (Below w.heap.size w wr)) (fun i _ => l.length - (intOf i).toNat)
  case atStart => exact ⟨0, rfl, Nat.zero_le _, rfl, Below.refl _ _⟩
  case round =>
    obtain ⟨k, rfl, hk, HG, HBr⟩ := hrel
    by_cases hkl : k < l.length
    · obtain ⟨x, hx⟩ : ∃ x, l[k]? = some x := ⟨_, List.getElem?_eq_getElem hkl⟩
      obtain ⟨g, off, n', c', A', cc, e, hg, hr, hd⟩ := HS.out.cells hx
      obtain ⟨d0, d1, d2, d3, d4, d5, d6, d7, d8, d9, d10, d11⟩ := hd _ HBr.out
      injection e with e1 e2 e3; subst e1; clear e2 e3
      have HR := Lib.hid (hr.below HBr.out)
      have hr63 : (x.s.2.2.length : Int) ≤ 9223372036854775807 := by obtain ⟨_, _, e, h2, h3⟩ := SlK.shape hr.rd.1; unfold maxLen at h3; omega
      have HX := Lib.hid hx; have HD := Lib.hid hd
      have hlt : (k : Int) < l.length := by omega
      have hk0 : (0 : Int) ≤ k := by omega
      clear hx hr hd
      cases hG : entG x with
      | true =>
        have HT := Lib.hid hG
        have HF := Lib.hid (entsG_hit HX.out (show entGG x = true by unfold entGG; rw [hG]; rfl) most)
        clear hG
        go_wp2_with (go_at_call 51; refine (egreat_any _ x _ HR.out).mono ?_; rintro e w1 ⟨rfl, hb⟩; rw [HT.out]; have HB1 := Lib.hid (bch HBr.out hb HBr.out.size); clear hb)
        go_ret
        exact ⟨by rw [HF.out]; rfl, HB1.out⟩
      | false =>
        have HT := Lib.hid hG
        clear hG
        by_cases h6 : 60 < x.s.2.2.length
        · have h6' : (60 : Int) < x.s.2.2.length := by omega
          have HF := Lib.hid (entsG_hit HX.out (show entGG x = true by unfold entGG; rw [decide_eq_true h6, Bool.or_true]) most)
          go_wp2_with (go_at_call 51; refine (egreat_any _ x _ HR.out).mono ?_; rintro e w1 ⟨rfl, hb⟩; rw [HT.out]; have HB1 := Lib.hid (bch HBr.out hb HBr.out.size); clear hb; obtain ⟨c0, c1, c2, c3, c4, c5, c6, c7, c8, c9, c10, c11⟩ := HD.out _ HB1.out)
          go_ret
          exact ⟨by rw [HF.out]; rfl, HB1.out⟩
        · have h6' : ¬ (60 : Int) < x.s.2.2.length := by omega
          have HF := Lib.hid (show entsTo l (k + 1) = false by rw [entsTo_succ HX.out, HG.out]; unfold entGG; rw [HT.out, decide_eq_false h6]; rfl)
          go_wp2_with (go_at_call 51; refine (egreat_any _ x _ HR.out).mono ?_; rintro e w1 ⟨rfl, hb⟩; rw [HT.out]; have HB1 := Lib.hid (bch HBr.out hb HBr.out.size); clear hb; obtain ⟨c0, c1, c2, c3, c4, c5, c6, c7, c8, c9, c10, c11⟩ := HD.out _ HB1.out)
          go_roundw
          case rel => exact ⟨k + 1, by go_num, by omega, HF.out, HB1.out⟩
          case measure => simp [intOf]; omega
    · obtain rfl : k = l.length := by omega
      have HF := Lib.hid (show entsG l most = decide (most < (l.length : Int)) by unfold entsG; rw [show l.any entGG = false from by have := HG.out; unfold entsTo at this; rwa [List.take_length] at this, Bool.false_or])
      by_cases hm : most < (l.length : Int)
      · have HF2 := Lib.hid (HF.out.trans (show decide (most < (l.length : Int)) = true by simpa using hm))
        go_wp2_with fail
        go_ret
        exact ⟨by rw [HF2.out]; rfl, HBr.out⟩
      · have HF2 := Lib.hid (HF.out.trans (show decide (most < (l.length : Int)) = false by simpa using hm))
        go_wp2_with fail
        go_ret
        exact ⟨by rw [HF2.out]; rfl, HBr.out⟩
end Go.Proofs.YtlfibaijpimocaaDoor
/- The chapter's entries, plain: what a core of them comes to. -/
namespace Go.Proofs.YtlfibaijpimocaaDoor
open Co Key Rw Sa Od

namespace Co
def o0 : Ord5 := (0, [], [], 0, 0)
def s0 : In.Stm := (0, 0, [])
def eM1 : Ent := ⟨1, (1, [97], [98], 2, 500), (0, 0), 0, s0⟩
def eM2 : Ent := ⟨3, o0, (1, 0), 1, s0⟩
def eM3 : Ent := ⟨3, o0, (1, 1), 1, s0⟩
def eM4 : Ent := ⟨4, o0, (0, 0), 0, (0, 1, [((1, 1), 1, 500, 0)])⟩
def eM0 : Ent := ⟨0, o0, (0, 0), 0, s0⟩
def cM1 : Cor := applyC nilC eM1
def cM2 : Cor := applyC cM1 eM2
def cM3 : Cor := applyC cM2 eM3
def cM4 : Cor := applyC cM3 eM4
def cM5 : Cor := applyC cM4 eM1
def cM6 : Cor := applyC cM5 eM2
instance (p : Po) : Decidable (mayP p) := by unfold mayP; infer_instance
theorem aM1 : applyE nilC eM1 = 0 := by decide +kernel
theorem aM2 : applyE cM1 eM2 = 0 := by decide +kernel
theorem aM3 : applyE cM2 eM3 = 0 := by decide +kernel
theorem bM1 : balI cM3.b 1 1 = 500 := by decide +kernel
theorem bM2 : balI cM3.b 0 0 = -500 := by decide +kernel
theorem aM4 : applyE cM3 eM4 = 0 := by decide +kernel
theorem bM3 : balI cM4.b 1 1 = 0 := by decide +kernel
theorem bM4 : balI cM4.b 2 1 = 500 := by decide +kernel
theorem aM5 : applyE cM4 eM1 = 91 := by decide +kernel
theorem aM6 : applyE cM5 eM2 = 92 := by decide +kernel
theorem aM7 : applyE cM6 eM0 = 2 := by decide +kernel
theorem okM1 : ApOk nilC eM1 := ⟨by decide +kernel, by decide +kernel, by decide +kernel, fun h => absurd h (by decide), fun h => absurd h (by decide)⟩
theorem okM2 : ApOk cM1 eM2 := ⟨by decide +kernel, by decide +kernel, by decide +kernel, fun _ => by decide +kernel, fun h => absurd h (by decide)⟩
theorem okM3 : ApOk cM2 eM3 := ⟨by decide +kernel, by decide +kernel, by decide +kernel, fun _ => by decide +kernel, fun h => absurd h (by decide)⟩
theorem okM4 : ApOk cM3 eM4 := ⟨by decide +kernel, by decide +kernel, by decide +kernel, fun h => absurd h (by decide), fun _ _ => by decide +kernel⟩
theorem okM5 : ApOk cM4 eM1 := ⟨by decide +kernel, by decide +kernel, by decide +kernel, fun h => absurd h (by decide), fun h => absurd h (by decide)⟩
theorem okM6 : ApOk cM5 eM2 := ⟨by decide +kernel, by decide +kernel, by decide +kernel, fun _ => by decide +kernel, fun h => absurd h (by decide)⟩
theorem okM7 : ApOk cM6 eM0 := ⟨by decide +kernel, by decide +kernel, by decide +kernel, fun h => absurd h (by decide), fun h => absurd h (by decide)⟩
end Co
end Go.Proofs.YtlfibaijpimocaaDoor
/- The chapter's order: the law's came. -/
namespace Go.Proofs.YtlfibaijpimocaaDoor
open Go.RowKit Go.Maps Co Key Rw Sa Od

theorem Cw.off {B : Nat} {w : World} {cb bb pm bm : Nat} {vl vb vI : Value} {c : Cor} (h : Cw B w cb bb pm bm vl vb vI c) {r : Nat} {cs : Array Value} {T : TypeId} {fr : Nat × Nat} (hr : w.heap[r]? = some (.cells cs T fr)) (h1 : T ≠ tSaga) (h2 : T ≠ tPost) (hlt : cb < r ∧ bb < r ∧ pm < r ∧ bm < r) : ¬ Cs cb bb pm bm vl vb r := by
  rintro (e | (e | e | e | e) | e)
  · omega
  · omega
  · omega
  · omega
  · exact own_apartT h.bk.ob hr h2 e
  · exact own_apartT h.ol hr h1 e
/-- What came holds: its core, the blocks of the entries. -/
structure Cam (w W : World) (cb bb pm bm : Nat) (vl vb vI : Value) (c : Cor) (b4 b3 : Nat) (E4 E3 : Array Value) (T4 T3 : TypeId) : Prop where
  c : Cw w.heap.size W cb bb pm bm vl vb vI c
  e4 : W.heap[b4]? = some (.cells E4 T4 (0, 0))
  e3 : W.heap[b3]? = some (.cells E3 T3 (0, 0))
  lt : cb < b4 ∧ bb < b4 ∧ pm < b4 ∧ bm < b4 ∧ cb < b3 ∧ bb < b3 ∧ pm < b3 ∧ bm < b3
  n4 : T4 ≠ tSaga ∧ T4 ≠ tPost
  n3 : T3 ≠ tSaga ∧ T3 ≠ tPost
  bel : Below w.heap.size w W
theorem Cam.step {w W W' : World} {cb bb pm bm : Nat} {vl vb vI vl' vb' vI' : Value} {c c' : Cor} {b4 b3 : Nat} {E4 E3 : Array Value} {T4 T3 : TypeId} (h : Cam w W cb bb pm bm vl vb vI c b4 b3 E4 E3 T4 T3) (hc : Cw w.heap.size W' cb bb pm bm vl' vb' vI' c') (ht : Turned (Cs cb bb pm bm vl vb) W W') : Cam w W' cb bb pm bm vl' vb' vI' c' b4 b3 E4 E3 T4 T3 :=
  ⟨hc, heap_turned h.e4 ht (h.c.off h.e4 h.n4.1 h.n4.2 ⟨h.lt.1, h.lt.2.1, h.lt.2.2.1, h.lt.2.2.2.1⟩), heap_turned h.e3 ht (h.c.off h.e3 h.n3.1 h.n3.2 h.lt.2.2.2.2), h.lt, h.n4, h.n3, Below.turned h.bel ht (fun _ hi => (h.c.ls hi).1) h.bel.size⟩
theorem Cam.below {w W W' : World} {cb bb pm bm : Nat} {vl vb vI : Value} {c : Cor} {b4 b3 : Nat} {E4 E3 : Array Value} {T4 T3 : TypeId} (h : Cam w W cb bb pm bm vl vb vI c b4 b3 E4 E3 T4 T3) (hb : Below W.heap.size W W') : Cam w W' cb bb pm bm vl vb vI c b4 b3 E4 E3 T4 T3 :=
  ⟨h.c.below hb, heap_keep h.e4 hb, heap_keep h.e3 hb, h.lt, h.n4, h.n3, bch h.bel hb h.bel.size⟩
def cK (k : Nat) : Cor := if k = 0 then nilC else if k = 1 then cM1 else if k = 2 then cM2 else cM3
abbrev entCells (e : Ent) : List Value := [.int .i64 e.kind, .int .i64 e.o.1, .string ⟨e.o.2.1.toArray⟩, .string ⟨e.o.2.2.1.toArray⟩, .int .i64 e.o.2.2.2.1, .int .i64 e.o.2.2.2.2, .int .i64 e.k.1, .int .i64 e.k.2, .int .i64 e.code, .int .i64 e.s.1, .int .i64 e.s.2.1, .slice none 0 0]
abbrev E3s : Array Value := #[.int .i64 1, .int .i64 1, .string ⟨#[97]⟩, .string ⟨#[98]⟩, .int .i64 2, .int .i64 500, .int .i64 0, .int .i64 0, .int .i64 0, .int .i64 0, .int .i64 0, .slice none 0 0,
  .int .i64 3, .int .i64 0, .string ⟨#[]⟩, .string ⟨#[]⟩, .int .i64 0, .int .i64 0, .int .i64 1, .int .i64 0, .int .i64 1, .int .i64 0, .int .i64 0, .slice none 0 0,
  .int .i64 3, .int .i64 0, .string ⟨#[]⟩, .string ⟨#[]⟩, .int .i64 0, .int .i64 0, .int .i64 1, .int .i64 1, .int .i64 1, .int .i64 0, .int .i64 0, .slice none 0 0]
set_option linter.unusedSimpArgs false in
set_option linter.unusedVariables false in
set_option maxRecDepth 100000 in
set_option maxHeartbeats 16000000 in
theorem came_any (w : World) (hT : PT w) (hput : ∀ o d W, Below w.heap.size w W → Calls Tryd.prog 76 #[.agg #[.int .i64 o, .int .i64 d]] W fun e w' => e = .returned (.string ⟨(putK o d).toArray⟩) ∧ Below W.heap.size W w')
    (hito : ∀ (n : Int) W, 0 ≤ n → n ≤ 1073741824 → Below w.heap.size w W → Calls Tryd.prog 77 #[.int .i64 n] W fun e w' => e = .returned (.string ⟨(Lib.itoa n).toArray⟩) ∧ Below W.heap.size W w') :
    Calls Tryd.prog 24 #[] w fun e w' => e = .returned (.bool true) ∧ Below w.heap.size w w' := by
  have HT := Lib.hid hT; have HPUT := Lib.hid hput; have HITO := Lib.hid hito
  clear hT hput hito
  go_enter Tryd.func24, Tryd.ntmps24
  go_wp2_with fail
  refine (cnew_any w).mono ?_
  rintro e w1 ⟨cb, bb, pm, bm, rfl, hc, hb⟩
  go_upto_region 5 with (fail)
  obtain ⟨W, hW⟩ : ∃ W, W = ((w1.alloc (.cells #[.int .i64 1, .string ⟨#[97]⟩, .string ⟨#[98]⟩, .int .i64 2, .int .i64 500] tOrder)).alloc (.cells #[.int .i64 1, .int .i64 1] tKey)).alloc (.cells E3s tEnt) := ⟨_, rfl⟩
  rw [← hW]
  obtain ⟨hB, _, hK, hE⟩ := three_new w1 _ _ _ tOrder tKey tEnt hW
  have hl1 := hc.bk.lt
  have hl2 := heap_lt hc.hc
  obtain ⟨b3, hb3⟩ : ∃ b3, w1.heap.size + 1 = b3 := ⟨_, rfl⟩
  obtain ⟨b4, hb4⟩ : ∃ b4, b3 + 1 = b4 := ⟨_, rfl⟩
  rw [hb3] at hK ⊢
  rw [show w1.heap.size + 2 = b4 by omega] at hE
  rw [hb4]
  have H0 := Lib.hid (show Cam w W cb bb pm bm (.slice none 0 0) (.slice none 0 0) vIn0 (cK 0) b4 b3 E3s #[.int .i64 1, .int .i64 1] tEnt tKey from ⟨hc.below hB, hE, hK, by omega, by decide, by decide, bch hb hB hb.size⟩)
  clear hW hB hK hE hl1 hl2 hb3 hb4 hc hb
  go_wp2_with fail
  go_loopw [5] (fun i wr => ∃ (k : Nat) (vl vb vI : Value), i = .int .i64 k ∧ k ≤ 3 ∧ Hid (Cam w wr cb bb pm bm vl vb vI (cK k) b4 b3 E3s #[.int .i64 1, .int .i64 1] tEnt tKey)) (fun i _ => 3 - (intOf i).toNat)
  case atStart => exact ⟨0, _, _, _, rfl, by omega, H0.out⟩
  case round =>
    obtain ⟨k, vl, vb, vI, rfl, hk, H⟩ := hrel
    obtain rfl | rfl | rfl | rfl : k = 0 ∨ k = 1 ∨ k = 2 ∨ k = 3 := by omega
    · have d0 := cell_at H.out.e4 0 rfl
      have d1 := cell_at H.out.e4 1 rfl
      have d2 := cell_at H.out.e4 2 rfl
      have d3 := cell_at H.out.e4 3 rfl
      have d4 := cell_at H.out.e4 4 rfl
      have d5 := cell_at H.out.e4 5 rfl
      have d6 := cell_at H.out.e4 6 rfl
      have d7 := cell_at H.out.e4 7 rfl
      have d8 := cell_at H.out.e4 8 rfl
      have d9 := cell_at H.out.e4 9 rfl
      have d10 := cell_at H.out.e4 10 rfl
      have d11 := cell_at H.out.e4 11 rfl
      have hcm : ApOk (cK 0) eM1 := okM1
      have ham : applyE (cK 0) eM1 = 0 := aM1
      have hap := capply_any H.out.c eM1 (.slice none 0 0) (Rd.nil _) (HT.out.below H.out.bel) hcm ⟨by decide, by decide⟩ (fun W hW => HPUT.out 0 0 W (H.out.bel.trans hW)) (fun n W h0 h1 hW => HITO.out n W h0 h1 (H.out.bel.trans hW))
      rw [ham] at hap
      have HAP := Lib.hid hap
      clear hap
      clear hcm ham
      go_wp2_with fail
      refine HAP.out.mono ?_
      rintro e w2 ⟨vl', vb', vI', rfl, hc2, ht2, _, _⟩
      have H2 := Lib.hid (show Cam w w2 cb bb pm bm vl' vb' vI' (cK 1) b4 b3 E3s #[.int .i64 1, .int .i64 1] tEnt tKey from H.out.step hc2 ht2)
      clear hc2 ht2 HAP d0 d1 d2 d3 d4 d5 d6 d7 d8 d9 d10 d11
      go_wp2_with fail
      go_roundw
      case rel => exact ⟨1, vl', vb', vI', rfl, by omega, H2.out⟩
      case measure => simp [intOf]
    · have d0 := cell_at H.out.e4 12 rfl
      have d1 := cell_at H.out.e4 13 rfl
      have d2 := cell_at H.out.e4 14 rfl
      have d3 := cell_at H.out.e4 15 rfl
      have d4 := cell_at H.out.e4 16 rfl
      have d5 := cell_at H.out.e4 17 rfl
      have d6 := cell_at H.out.e4 18 rfl
      have d7 := cell_at H.out.e4 19 rfl
      have d8 := cell_at H.out.e4 20 rfl
      have d9 := cell_at H.out.e4 21 rfl
      have d10 := cell_at H.out.e4 22 rfl
      have d11 := cell_at H.out.e4 23 rfl
      have hcm : ApOk (cK 1) eM2 := okM2
      have ham : applyE (cK 1) eM2 = 0 := aM2
      have hap := capply_any H.out.c eM2 (.slice none 0 0) (Rd.nil _) (HT.out.below H.out.bel) hcm ⟨by decide, by decide⟩ (fun W hW => HPUT.out 1 0 W (H.out.bel.trans hW)) (fun n W h0 h1 hW => HITO.out n W h0 h1 (H.out.bel.trans hW))
      rw [ham] at hap
      have HAP := Lib.hid hap
      clear hap
      clear hcm ham
      go_wp2_with fail
      refine HAP.out.mono ?_
      rintro e w2 ⟨vl', vb', vI', rfl, hc2, ht2, _, _⟩
      have H2 := Lib.hid (show Cam w w2 cb bb pm bm vl' vb' vI' (cK 2) b4 b3 E3s #[.int .i64 1, .int .i64 1] tEnt tKey from H.out.step hc2 ht2)
      clear hc2 ht2 HAP d0 d1 d2 d3 d4 d5 d6 d7 d8 d9 d10 d11
      go_wp2_with fail
      go_roundw
      case rel => exact ⟨2, vl', vb', vI', rfl, by omega, H2.out⟩
      case measure => simp [intOf]
    · have d0 := cell_at H.out.e4 24 rfl
      have d1 := cell_at H.out.e4 25 rfl
      have d2 := cell_at H.out.e4 26 rfl
      have d3 := cell_at H.out.e4 27 rfl
      have d4 := cell_at H.out.e4 28 rfl
      have d5 := cell_at H.out.e4 29 rfl
      have d6 := cell_at H.out.e4 30 rfl
      have d7 := cell_at H.out.e4 31 rfl
      have d8 := cell_at H.out.e4 32 rfl
      have d9 := cell_at H.out.e4 33 rfl
      have d10 := cell_at H.out.e4 34 rfl
      have d11 := cell_at H.out.e4 35 rfl
      have hcm : ApOk (cK 2) eM3 := okM3
      have ham : applyE (cK 2) eM3 = 0 := aM3
      have hap := capply_any H.out.c eM3 (.slice none 0 0) (Rd.nil _) (HT.out.below H.out.bel) hcm ⟨by decide, by decide⟩ (fun W hW => HPUT.out 1 1 W (H.out.bel.trans hW)) (fun n W h0 h1 hW => HITO.out n W h0 h1 (H.out.bel.trans hW))
      rw [ham] at hap
      have HAP := Lib.hid hap
      clear hap
      clear hcm ham
      go_wp2_with fail
      refine HAP.out.mono ?_
      rintro e w2 ⟨vl', vb', vI', rfl, hc2, ht2, _, _⟩
      have H2 := Lib.hid (show Cam w w2 cb bb pm bm vl' vb' vI' (cK 3) b4 b3 E3s #[.int .i64 1, .int .i64 1] tEnt tKey from H.out.step hc2 ht2)
      clear hc2 ht2 HAP d0 d1 d2 d3 d4 d5 d6 d7 d8 d9 d10 d11
      go_wp2_with fail
      go_roundw
      case rel => exact ⟨3, vl', vb', vI', rfl, by omega, H2.out⟩
      case measure => simp [intOf]
    · have H3 := Lib.hid (show Cam w wr cb bb pm bm vl vb vI cM3 b4 b3 E3s #[.int .i64 1, .int .i64 1] tEnt tKey from H.out)
      clear H
      have k01 := cell_at H3.out.e3 0 rfl
      have k02 := cell_at H3.out.e3 1 rfl
      go_wp2_with fail
      refine (cbal_any H3.out.c 1 1 (by decide) (by decide)).mono ?_
      rintro e w2 ⟨rfl, hb⟩
      subst hb
      rw [show balI _ 1 1 = 500 from bM1]
      go_wp2_with fail
      refine (cbal_any H3.out.c 0 0 (by decide) (by decide)).mono ?_
      rintro e w2 ⟨rfl, hb⟩
      subst hb
      rw [show balI _ 0 0 = -500 from bM2]
      go_wp2_with fail
      clear k01 k02
      obtain ⟨w3, hw3⟩ : ∃ w3, w3 = wr.alloc (.cells #[.int .i64 1, .int .i64 1, .int .i64 1, .int .i64 500, .int .i64 0] tRow) := ⟨_, rfl⟩
      rw [← hw3]
      have hb3' : Below wr.heap.size wr w3 := by rw [hw3]; exact below_alloc _ _
      have hrow : w3.heap[wr.heap.size]? = some (.cells #[.int .i64 1, .int .i64 1, .int .i64 1, .int .i64 500, .int .i64 0] tRow (0, 0)) := by rw [hw3]; exact heap_new _ _
      have H4 := Lib.hid (H3.out.below hb3')
      have HRW := Lib.hid (show Rd w3 (.slice (some ⟨wr.heap.size, 0, none⟩) 1 1) eM4.s.2.2 from rd_block (c := 1) eM4.s.2.2 hrow rfl (by decide) (by decide))
      clear hw3 hb3' hrow
      generalize wr.heap.size = b9 at HRW ⊢
      have hap := capply_any H4.out.c eM4 (.slice (some ⟨b9, 0, none⟩) 1 1) HRW.out (HT.out.below H4.out.bel) okM4 ⟨by decide, by decide⟩ (fun W hW => HPUT.out 0 0 W (H4.out.bel.trans hW)) (fun n W h0 h1 hW => HITO.out n W h0 h1 (H4.out.bel.trans hW))
      rw [aM4] at hap
      have HAP := Lib.hid hap
      clear hap
      refine HAP.out.mono ?_
      rintro e w4 ⟨vl5, vb5, vI5, rfl, hc2, ht2, _, _⟩
      have H5 := Lib.hid (show Cam w w4 cb bb pm bm vl5 vb5 vI5 cM4 b4 b3 E3s #[.int .i64 1, .int .i64 1] tEnt tKey from H4.out.step hc2 ht2)
      clear hc2 ht2 HAP
      have d0 := cell_at H5.out.e4 0 rfl
      have d1 := cell_at H5.out.e4 1 rfl
      have d2 := cell_at H5.out.e4 2 rfl
      have d3 := cell_at H5.out.e4 3 rfl
      have d4 := cell_at H5.out.e4 4 rfl
      have d5 := cell_at H5.out.e4 5 rfl
      have d6 := cell_at H5.out.e4 6 rfl
      have d7 := cell_at H5.out.e4 7 rfl
      have d8 := cell_at H5.out.e4 8 rfl
      have d9 := cell_at H5.out.e4 9 rfl
      have d10 := cell_at H5.out.e4 10 rfl
      have d11 := cell_at H5.out.e4 11 rfl
      go_wp2_with fail
      refine (cbal_any H5.out.c 1 1 (by decide) (by decide)).mono ?_
      rintro e w2 ⟨rfl, hb⟩
      subst hb
      rw [show balI _ 1 1 = 0 from bM3]
      go_wp2_with fail
      refine (cbal_any H5.out.c 2 1 (by decide) (by decide)).mono ?_
      rintro e w2 ⟨rfl, hb⟩
      subst hb
      rw [show balI _ 2 1 = 500 from bM4]
      go_wp2_with fail
      have hap := capply_any H5.out.c eM1 (.slice none 0 0) (Rd.nil _) (HT.out.below H5.out.bel) okM5 ⟨by decide, by decide⟩ (fun W hW => HPUT.out 0 0 W (H5.out.bel.trans hW)) (fun n W h0 h1 hW => HITO.out n W h0 h1 (H5.out.bel.trans hW))
      rw [aM5] at hap
      have HAP := Lib.hid hap
      clear hap
      refine HAP.out.mono ?_
      rintro e w5 ⟨vl6, vb6, vI6, rfl, hc2, ht2, _, _⟩
      have H6 := Lib.hid (show Cam w w5 cb bb pm bm vl6 vb6 vI6 cM5 b4 b3 E3s #[.int .i64 1, .int .i64 1] tEnt tKey from H5.out.step hc2 ht2)
      clear hc2 ht2 HAP
      clear d0 d1 d2 d3 d4 d5 d6 d7 d8 d9 d10 d11
      have d0 := cell_at H6.out.e4 12 rfl
      have d1 := cell_at H6.out.e4 13 rfl
      have d2 := cell_at H6.out.e4 14 rfl
      have d3 := cell_at H6.out.e4 15 rfl
      have d4 := cell_at H6.out.e4 16 rfl
      have d5 := cell_at H6.out.e4 17 rfl
      have d6 := cell_at H6.out.e4 18 rfl
      have d7 := cell_at H6.out.e4 19 rfl
      have d8 := cell_at H6.out.e4 20 rfl
      have d9 := cell_at H6.out.e4 21 rfl
      have d10 := cell_at H6.out.e4 22 rfl
      have d11 := cell_at H6.out.e4 23 rfl
      go_wp2_with fail
      have hap := capply_any H6.out.c eM2 (.slice none 0 0) (Rd.nil _) (HT.out.below H6.out.bel) okM6 ⟨by decide, by decide⟩ (fun W hW => HPUT.out 1 0 W (H6.out.bel.trans hW)) (fun n W h0 h1 hW => HITO.out n W h0 h1 (H6.out.bel.trans hW))
      rw [aM6] at hap
      have HAP := Lib.hid hap
      clear hap
      refine HAP.out.mono ?_
      rintro e w6 ⟨vl7, vb7, vI7, rfl, hc2, ht2, _, _⟩
      have H7 := Lib.hid (show Cam w w6 cb bb pm bm vl7 vb7 vI7 cM6 b4 b3 E3s #[.int .i64 1, .int .i64 1] tEnt tKey from H6.out.step hc2 ht2)
      clear hc2 ht2 HAP
      clear d0 d1 d2 d3 d4 d5 d6 d7 d8 d9 d10 d11
      go_wp2_with fail
      have hap := capply_any H7.out.c eM0 (.slice none 0 0) (Rd.nil _) (HT.out.below H7.out.bel) okM7 ⟨by decide, by decide⟩ (fun W hW => HPUT.out 0 0 W (H7.out.bel.trans hW)) (fun n W h0 h1 hW => HITO.out n W h0 h1 (H7.out.bel.trans hW))
      rw [aM7] at hap
      have HAP := Lib.hid hap
      clear hap
      refine HAP.out.mono ?_
      rintro e w7 ⟨vl8, vb8, vI8, rfl, hc2, ht2, _, _⟩
      have H8 := Lib.hid (show Cam w w7 cb bb pm bm vl8 vb8 vI8 (applyC cM6 eM0) b4 b3 E3s #[.int .i64 1, .int .i64 1] tEnt tKey from H7.out.step hc2 ht2)
      clear hc2 ht2 HAP
      go_wp2_with fail
      go_ret
      exact ⟨rfl, H8.out.bel⟩
end Go.Proofs.YtlfibaijpimocaaDoor
/- What holds of a core behind whatever entries, plain. -/
namespace Go.Proofs.YtlfibaijpimocaaDoor
open Co Key Rw Sa Od

namespace Co
/- All accounts together. -/
theorem five (x d : Int) (h0 : 0 ≤ d) (h4 : d ≤ 4) : (if d = 0 then x else 0) + (if d = 1 then x else 0) + (if d = 2 then x else 0) + (if d = 3 then x else 0) + (if d = 4 then x else 0) = x := by
  obtain rfl | rfl | rfl | rfl | rfl : d = 0 ∨ d = 1 ∨ d = 2 ∨ d = 3 ∨ d = 4 := by omega
  all_goals simp
theorem mov_zero {p : Po} (h : mayP p) : movI p 0 + movI p 1 + movI p 2 + movI p 3 + movI p 4 = 0 := by
  obtain ⟨_, _, _, _, d0, d4, c0, c4, _, _, _⟩ := h
  have h1 := five p.amt p.deb d0 d4
  have h2 := five p.amt p.cre c0 c4
  unfold movI
  omega
theorem bal_cons (p : Po) (b : List Po) (a o : Int) : balI (p :: b) a o = (if o = 0 ∨ p.ord = o then movI p a else 0) + balI b a o := by unfold balI; rw [List.map_cons, List.sum_cons]
theorem bal_zero {b : List Po} (h : ∀ p ∈ b, mayP p) (o : Int) : balI b 0 o + balI b 1 o + balI b 2 o + balI b 3 o + balI b 4 o = 0 := by
  induction b with
  | nil => simp [balI]
  | cons p b ih =>
    have h1 := mov_zero (h p (List.mem_cons_self ..))
    have h2 := ih fun q hq => h q (List.mem_cons_of_mem _ hq)
    simp only [bal_cons]
    split <;> omega
theorem bal_app (b c : List Po) (a o : Int) : balI (b ++ c) a o = balI b a o + balI c a o := by unfold balI; rw [List.map_append, List.sum_append]
/- What of a saga's deeds stays. -/
theorem set_deed (s : Sg) (k j v : Int) (hk : 0 ≤ k ∧ k < 6) (hj : 0 ≤ j ∧ j < 6) : (setI s k v).deed j = if j = k then v else s.deed j := by
  rcases deed6 hk with rfl | rfl | rfl | rfl | rfl | rfl <;> rcases deed6 hj with rfl | rfl | rfl | rfl | rfl | rfl <;> rfl
theorem set_amt (s : Sg) (k v : Int) : (setI s k v).amt = s.amt := by
  unfold setI; repeat' split
  all_goals rfl
theorem onI_set (s : Sg) : onI s = s ∨ ∃ k, (0 ≤ k ∧ k < 6) ∧ s.deed k = 0 ∧ onI s = setI s k 1 := by
  unfold onI
  by_cases hb : backB s = false
  · rw [if_pos hb]
    by_cases h0 : s.d0 = 0
    · rw [if_pos h0]; exact .inr ⟨0, by omega, h0, rfl⟩
    rw [if_neg h0]
    by_cases h1 : s.d1 = 0
    · rw [if_pos h1]; exact .inr ⟨1, by omega, h1, rfl⟩
    rw [if_neg h1]
    by_cases h2 : s.d2 = 0
    · rw [if_pos h2]; exact .inr ⟨2, by omega, h2, rfl⟩
    rw [if_neg h2]; exact .inl rfl
  · rw [if_neg hb]
    by_cases h0 : (s.d2 = 2 ∨ s.d2 = 4) ∧ s.d5 = 0
    · rw [if_pos h0]; exact .inr ⟨5, by omega, h0.2, rfl⟩
    rw [if_neg h0]
    by_cases h1 : (s.d1 = 2 ∨ s.d1 = 4) ∧ s.d4 = 0
    · rw [if_pos h1]; exact .inr ⟨4, by omega, h1.2, rfl⟩
    rw [if_neg h1]
    by_cases h2 : (s.d0 = 2 ∨ s.d0 = 4) ∧ s.d3 = 0
    · rw [if_pos h2]; exact .inr ⟨3, by omega, h2.2, rfl⟩
    rw [if_neg h2]; exact .inl rfl
theorem net_deed (s : Sg) : Sa.netI s = if s.deed 1 = 2 ∧ s.deed 4 ≠ 2 then s.amt else 0 := rfl
theorem onI_net (s : Sg) : Sa.netI (onI s) = Sa.netI s := by
  rcases onI_set s with h | ⟨k, hk, h0, h⟩
  · rw [h]
  · rw [h, net_deed, net_deed, set_deed s k 1 1 hk (by omega), set_deed s k 4 1 hk (by omega), set_amt]
    by_cases e1 : (1 : Int) = k
    · subst e1; rw [if_pos rfl, h0]; simp
    · rw [if_neg e1]
      by_cases e4 : (4 : Int) = k
      · subst e4; rw [if_pos rfl, h0]; simp
      · rw [if_neg e4]
theorem onI_deed (s : Sg) (j : Int) (hj : 0 ≤ j ∧ j < 6) (h : s.deed j ≠ 0) : (onI s).deed j = s.deed j := by
  rcases onI_set s with e | ⟨k, hk, h0, e⟩
  · rw [e]
  · rw [e, set_deed s k j 1 hk hj, if_neg]
    intro ejk; subst ejk; exact h h0
theorem onI_amt (s : Sg) : (onI s).amt = s.amt := by
  rcases onI_set s with e | ⟨k, hk, h0, e⟩
  · rw [e]
  · rw [e, set_amt]
theorem waits_deed {s : Sg} (h : waitsI s ≠ 6) : (0 ≤ waitsI s ∧ waitsI s < 6) ∧ s.deed (waitsI s) = 1 := by
  unfold waitsI at *
  by_cases h0 : s.d0 = 1
  · rw [if_pos h0]; exact ⟨by omega, h0⟩
  rw [if_neg h0] at *
  by_cases h1 : s.d1 = 1
  · rw [if_pos h1]; exact ⟨by omega, h1⟩
  rw [if_neg h1] at *
  by_cases h2 : s.d2 = 1
  · rw [if_pos h2]; exact ⟨by omega, h2⟩
  rw [if_neg h2] at *
  by_cases h3 : s.d3 = 1
  · rw [if_pos h3]; exact ⟨by omega, h3⟩
  rw [if_neg h3] at *
  by_cases h4 : s.d4 = 1
  · rw [if_pos h4]; exact ⟨by omega, h4⟩
  rw [if_neg h4] at *
  by_cases h5 : s.d5 = 1
  · rw [if_pos h5]; exact ⟨by omega, h5⟩
  rw [if_neg h5] at *
  exact absurd rfl h
def doneB (v : Int) : Prop := v = 2 ∨ v = 3
theorem reply_facts {s : Sg} {d code : Int} (h : replyB s d code = true) : (0 ≤ d ∧ d < 6) ∧ s.deed d = 1 ∧ doneB ((replyI s d code).deed d) ∧ (∀ j, 0 ≤ j ∧ j < 6 → doneB (s.deed j) → doneB ((replyI s d code).deed j)) ∧ (replyI s d code).amt = s.amt := by
  unfold replyB at h
  simp only [Bool.and_eq_true, Bool.or_eq_true, decide_eq_true_eq] at h
  obtain ⟨⟨h6, hd⟩, hc⟩ := h
  obtain ⟨hw, h1⟩ := waits_deed h6
  rw [hd] at hw h1
  unfold replyI
  have hsd := set_deed s d d (code + 1) hw hw
  rw [if_pos rfl] at hsd
  refine ⟨hw, h1, ?_, fun j hj hdn => ?_, by rw [onI_amt, set_amt]⟩
  · rw [onI_deed _ d hw (by rw [hsd]; omega), hsd]; unfold doneB; omega
  · have hjd : ¬ j = d := fun e => by subst e; rw [h1] at hdn; unfold doneB at hdn; omega
    have hsj := set_deed s d j (code + 1) hw hj
    rw [if_neg hjd] at hsj
    rw [onI_deed _ j hj (by rw [hsj]; unfold doneB at hdn; omega), hsj]; exact hdn
theorem can_deed (s : Sg) (b : Bool) (k : Int) : ({ s with can := b } : Sg).deed k = s.deed k := rfl
theorem stop_facts {s : Sg} (h : goingB s = true) : Sa.netI (stopI s) = Sa.netI s ∧ (∀ j, 0 ≤ j ∧ j < 6 → doneB (s.deed j) → doneB ((stopI s).deed j)) ∧ (stopI s).amt = s.amt := by
  unfold goingB at h
  simp only [Bool.and_eq_true, decide_eq_true_eq] at h
  obtain ⟨hw, h1⟩ := waits_deed h.1
  unfold stopI
  refine ⟨?_, fun j hj hdn => ?_, by rw [onI_amt]; exact set_amt ..⟩
  · rw [onI_net]
    show Sa.netI (setI s (waitsI s) 4) = _
    rw [net_deed, net_deed, set_deed s _ 1 4 hw (by omega), set_deed s _ 4 4 hw (by omega), set_amt]
    by_cases e1 : (1 : Int) = waitsI s
    · rw [if_pos e1]; rw [← e1] at h1; rw [h1]; simp
    · rw [if_neg e1]
      by_cases e4 : (4 : Int) = waitsI s
      · rw [if_pos e4]; rw [← e4] at h1; rw [h1]; simp
      · rw [if_neg e4]
  · have hjd : ¬ j = waitsI s := fun e => by rw [e, h1] at hdn; unfold doneB at hdn; omega
    have hsj := set_deed s (waitsI s) j 4 hw hj
    rw [if_neg hjd] at hsj
    rw [onI_deed _ j hj (by rw [can_deed, hsj]; unfold doneB at hdn; omega), can_deed, hsj]; exact hdn
/- The names of postings. -/
theorem putK_len10 (o d : Int) : (putK o d).length ≤ 10 := by
  by_cases h : chk o d = true
  · have h1 : (Lib.itoa o).length ≤ 2 := by
      have hc := chk_iff.1 h
      obtain ⟨u, rfl⟩ : ∃ u : Nat, o = (u : Int) := ⟨o.toNat, by omega⟩
      rw [Lib.itoa_nonneg]
      exact Mon.dec_len 1 u (by omega)
    have h2 := wordL_len d
    unfold putK
    rw [if_pos h, List.length_append, List.length_cons]
    omega
  · rw [putK_no h]; simp
theorem itoa_digits {n : Int} (h : 0 ≤ n) : ∀ c ∈ Lib.itoa n, Mon.Digit c := by
  obtain ⟨u, rfl⟩ : ∃ u : Nat, n = (u : Int) := ⟨n.toNat, by omega⟩
  rw [Lib.itoa_nonneg]
  exact Mon.dec_digit u
theorem itoa_inj {a b : Int} (ha : Mon.InR a) (hb : Mon.InR b) (e : Lib.itoa a = Lib.itoa b) : a = b := by
  have h1 := Mon.getM_itoa a ha
  rw [e, Mon.getM_itoa b hb] at h1
  exact (Prod.mk.inj h1).1.symm
theorem sidL_inj {q o q' o' : Int} (h : 0 ≤ q ∧ q ≤ 1073741824) (h' : 0 ≤ q' ∧ q' ≤ 1073741824) (ho : 0 ≤ o ∧ o ≤ 60) (ho' : 0 ≤ o' ∧ o' ≤ 60) (e : sidL q o = sidL q' o') : q = q' ∧ o = o' := by
  unfold sidL at e
  rw [List.append_assoc, List.append_assoc, List.append_assoc, List.append_assoc] at e
  have e := List.append_cancel_left e
  obtain ⟨e1, e2⟩ := split_dash (a := Lib.itoa q) (c := Lib.itoa q') e (itoa_nodash h.1) (itoa_nodash h'.1)
  exact ⟨itoa_inj (by unfold Mon.InR; omega) (by unfold Mon.InR; omega) e1, itoa_inj (by unfold Mon.InR; omega) (by unfold Mon.InR; omega) e2⟩
theorem put_sid {o d q o' : Int} (h : chk o d = true) : putK o d ≠ sidL q o' := by
  intro e
  have hc := chk_iff.1 h
  unfold putK sidL at e
  rw [if_pos h] at e
  cases hi : Lib.itoa o with
  | nil => rw [hi] at e; simp at e
  | cons c l =>
    have hd := itoa_digits (n := o) (by omega) c (by rw [hi]; simp)
    rw [hi] at e
    simp only [List.cons_append, List.nil_append, List.cons.injEq] at e
    rw [e.1] at hd
    unfold Mon.Digit at hd
    exact absurd hd.2 (by decide)
theorem sidL_len {q o : Int} (h : 0 ≤ q ∧ q ≤ 1073741824) (ho : 0 ≤ o ∧ o ≤ 60) : 0 < (sidL q o).length ∧ (sidL q o).length ≤ 1000 := by
  have h1 := Lib.itoa_length_le q (by omega) (by omega)
  have h2 := Lib.itoa_length_le o (by omega) (by omega)
  unfold sidL
  simp only [List.length_append, List.length_cons, List.length_nil]
  omega
/- What a list of rows says. -/
def saidR (l : List R5) (k : Int × Int) : Int := (l.map fun r => if r.1 = k ∧ r.2.1 = 1 then r.2.2.1 else 0).sum
theorem said_cons (r : R5) (l : List R5) (k : Int × Int) : saidR (r :: l) k = (if r.1 = k ∧ r.2.1 = 1 then r.2.2.1 else 0) + saidR l k := by unfold saidR; rw [List.map_cons, List.sum_cons]
theorem said_none {l : List R5} {k : Int × Int} (h : ∀ r ∈ l, r.1 ≠ k) : saidR l k = 0 := by
  induction l with
  | nil => rfl
  | cons r l ih => rw [said_cons, ih fun x hx => h x (List.mem_cons_of_mem _ hx), if_neg fun e => h r (List.mem_cons_self ..) e.1]; rfl
theorem said_find {l : List R5} (hn : (l.map (·.1)).Nodup) (k : Int × Int) : saidR l k = match In.findR l k with | none => 0 | some r => if r.2.1 = 1 then r.2.2.1 else 0 := by
  induction l with
  | nil => rfl
  | cons r l ih =>
    rw [List.map_cons, List.nodup_cons] at hn
    rw [said_cons]
    unfold In.findR
    by_cases hr : r.1 = k
    · rw [List.find?_cons_of_pos (by simpa using hr), said_none fun x hx e => hn.1 (by rw [hr, ← e]; exact List.mem_map.2 ⟨x, hx, rfl⟩)]
      simp [hr]
    · rw [List.find?_cons_of_neg (by simpa using hr), if_neg fun e => hr e.1, Int.zero_add]
      exact ih hn.2
theorem amt_said {I : In.Inn} (h : In.Fine I) {o d : Int} (hk : chk o d = true) (hp : partyI d = 0) : In.amtI I o d = saidR I.a.2.2 (o, d) := by
  unfold In.amtI
  rw [h.rowOf_party hk, hp, said_find (In.ok_nodup h.a)]
  rfl
/-- What the payment's statement says of an order. -/
def saidO (l : List R5) (o : Int) : Int := saidR l (o, 1) - saidR l (o, 4)
theorem net_said {I : In.Inn} (h : In.Fine I) {o : Int} (ho : 1 ≤ o ∧ o ≤ 60) : In.netI I o = saidO I.a.2.2 o := by
  unfold In.netI saidO
  rw [amt_said h (chk_iff.2 (by omega)) (by decide), amt_said h (chk_iff.2 (by omega)) (by decide)]
/- What a statement's postings come to. -/
theorem stm_cases (q o by_ : Int) : (by_ = 0 ∧ stmBy q o by_ = []) ∨ ∃ p, stmBy q o by_ = [p] ∧ p.id = sidL q o ∧ p.ord = o ∧ p.amt = (if 0 < by_ then by_ else -by_) ∧ 0 < p.amt ∧ movI p 1 = -by_ ∧ movI p 2 = by_ ∧ 0 ≤ p.deb ∧ p.deb ≤ 4 ∧ 0 ≤ p.cre ∧ p.cre ≤ 4 ∧ p.deb ≠ p.cre := by
  unfold stmBy
  by_cases h1 : 0 < by_
  · rw [if_pos h1, if_pos h1]
    exact .inr ⟨_, rfl, rfl, rfl, rfl, h1, by simp [movI], by simp [movI], by simp⟩
  · rw [if_neg h1, if_neg h1]
    by_cases h2 : by_ < 0
    · rw [if_pos h2]
      exact .inr ⟨_, rfl, rfl, rfl, rfl, by show 0 < -by_; omega, by simp [movI], by simp [movI], by simp⟩
    · rw [if_neg h2]; exact .inl ⟨by omega, rfl⟩
theorem bal_one (p : Po) (a o : Int) : balI [p] a o = if o = 0 ∨ p.ord = o then movI p a else 0 := by rw [bal_cons]; simp [balI]
theorem stm1_bal (I J : In.Inn) (q n o : Int) (ho : 1 ≤ o) : balI (stmP1 I J q n) 1 o = (if n = o then -(In.netI J o - In.netI I o) else 0) ∧ balI (stmP1 I J q n) 2 o = (if n = o then In.netI J o - In.netI I o else 0) := by
  unfold stmP1
  rcases stm_cases q n (In.netI J n - In.netI I n) with ⟨h0, h⟩ | ⟨p, h, _, ho2, _, _, m1, m2, _⟩
  · rw [h]
    by_cases e : n = o
    · subst e; simp [balI]; omega
    · simp [balI, e]
  · rw [h, bal_one, bal_one, ho2, m1, m2]
    by_cases e : n = o
    · subst e; simp
    · rw [if_neg (by omega), if_neg e, if_neg (by omega), if_neg e]; exact ⟨rfl, rfl⟩
theorem stm_bal (I J : In.Inn) (q : Int) (n : Nat) (o : Int) (ho : 1 ≤ o) : balI (stmPs I J q n) 1 o = (if o ≤ n then -(In.netI J o - In.netI I o) else 0) ∧ balI (stmPs I J q n) 2 o = (if o ≤ n then In.netI J o - In.netI I o else 0) := by
  induction n with
  | zero => simp [stmPs, balI]; omega
  | succ n ih =>
    have h1 := stm1_bal I J q ((n : Int) + 1) o ho
    rw [stmPs_succ, bal_app, bal_app, ih.1, ih.2, h1.1, h1.2]
    by_cases e : o ≤ n
    · rw [if_pos e, if_pos e, if_neg (by omega), if_pos (by push_cast; omega), if_neg (by omega), if_pos (by push_cast; omega)]; omega
    · by_cases e2 : (n : Int) + 1 = o
      · rw [if_neg e, if_neg e, if_pos e2, if_pos (by push_cast; omega), if_pos e2, if_pos (by push_cast; omega)]; omega
      · rw [if_neg e, if_neg e, if_neg e2, if_neg (by push_cast; omega), if_neg e2, if_neg (by push_cast; omega)]; omega
theorem stm_ids (I J : In.Inn) (q : Int) (n : Nat) : ∀ p ∈ stmPs I J q n, ∃ o, 1 ≤ o ∧ o ≤ (n : Int) ∧ p.id = sidL q o ∧ p ∈ stmP1 I J q o := by
  intro p hp
  unfold stmPs at hp
  obtain ⟨i, hi, hpi⟩ := List.mem_flatMap.1 hp
  have := List.mem_range.1 hi
  refine ⟨(i : Int) + 1, by omega, by omega, ?_, hpi⟩
  unfold stmP1 at hpi
  rcases stm_cases q ((i : Int) + 1) (In.netI J ((i : Int) + 1) - In.netI I ((i : Int) + 1)) with ⟨_, h⟩ | ⟨p', h, hid, _⟩
  · rw [h] at hpi; cases hpi
  · rw [h] at hpi; rw [List.mem_singleton.1 hpi]; exact hid
theorem stm_nodup (I J : In.Inn) {q : Int} (hq : 0 ≤ q ∧ q ≤ 1073741824) (n : Nat) (hn : n ≤ 60) : ((stmPs I J q n).map (·.id)).Nodup := by
  induction n with
  | zero => simp [stmPs]
  | succ n ih =>
    rw [stmPs_succ, List.map_append, List.nodup_append]
    refine ⟨ih (by omega), ?_, ?_⟩
    · unfold stmP1
      rcases stm_cases q ((n : Int) + 1) (In.netI J ((n : Int) + 1) - In.netI I ((n : Int) + 1)) with ⟨_, h⟩ | ⟨p', h, hid, _⟩ <;> rw [h] <;> simp
    · intro x hx y hy e
      obtain ⟨p, hp, rfl⟩ := List.mem_map.1 hx
      obtain ⟨p2, hp2, rfl⟩ := List.mem_map.1 hy
      obtain ⟨o, h1, h2, hid, _⟩ := stm_ids I J q n p hp
      unfold stmP1 at hp2
      rcases stm_cases q ((n : Int) + 1) (In.netI J ((n : Int) + 1) - In.netI I ((n : Int) + 1)) with ⟨_, h⟩ | ⟨p', h, hid', _⟩
      · rw [h] at hp2; cases hp2
      · rw [h] at hp2
        obtain rfl := List.mem_singleton.1 hp2
        have := (sidL_inj hq hq (by omega) (by omega) (hid.symm.trans (e.trans hid'))).2
        omega
def netC (c : Cor) (o : Int) : Int := match c.l[o.toNat - 1]? with | none => 0 | some s => Sa.netI s
/-- What holds behind n entries. -/
structure CoI (c : Cor) (n : Nat) : Prop where
  fi : In.Fine c.inn
  le : c.l.length ≤ 60
  am : ∀ s ∈ c.l, 0 ≤ s.amt ∧ s.amt ≤ 1099511627776
  bl : c.b.length ≤ 60 * n
  may : ∀ p ∈ c.b, mayP p
  nd : (c.b.map (·.id)).Nodup
  nm : ∀ p ∈ c.b, (∃ (i : Nat) (d : Int), i < 60 ∧ (0 ≤ d ∧ d < 6) ∧ p.id = putK ((i : Int) + 1) d ∧ ∃ s, c.l[i]? = some s ∧ doneB (s.deed d)) ∨ ∃ q o : Int, p.id = sidL q o ∧ 1 ≤ q ∧ q ≤ c.inn.a.2.1 ∧ 1 ≤ o ∧ o ≤ 60
  sus : ∀ o, 1 ≤ o → o ≤ 60 → balI c.b 1 o = netC c o - In.netI c.inn o
  cash : ∀ o, 1 ≤ o → o ≤ 60 → balI c.b 2 o = In.netI c.inn o
theorem inn_nil_net (o : Int) : In.netI In.nil o = 0 := rfl
theorem CoI.nil : CoI nilC 0 := ⟨In.Fine.nil, by decide, fun s h => (by cases h), by decide, fun p h => (by cases h), List.Pairwise.nil, fun p h => (by cases h), fun o _ _ => (by rw [show netC nilC o = 0 from rfl]; rfl), fun o _ _ => rfl⟩
theorem CoI.more {c : Cor} {n : Nat} (h : CoI c n) : CoI c (n + 1) := ⟨h.fi, h.le, h.am, by have := h.bl; omega, h.may, h.nd, h.nm, h.sus, h.cash⟩
theorem CoI.place {c : Cor} {n : Nat} (h : CoI c n) (o : Ord5) : CoI (placeC c o) (n + 1) := by
  unfold placeC
  by_cases he : placeE c o = 0
  · rw [if_pos he]
    have hcode : codeO o.1 o.2.1 o.2.2.1 o.2.2.2.1 o.2.2.2.2 = 0 := by
      unfold placeE at he
      by_cases hc : codeO o.1 o.2.1 o.2.2.1 o.2.2.2.1 o.2.2.2.2 = 0
      · exact hc
      · rw [if_pos hc] at he; exact absurd he hc
    have hlen : c.l.length < 60 := by
      unfold placeE at he
      rw [if_neg (by rw [hcode]; simp)] at he
      split at he
      · cases he
      · split at he
        · cases he
        · omega
    have hamt := codeO_ok hcode
    have hnet : ∀ q, netC { c with l := c.l ++ [beginI o.1 o.2.1 o.2.2.1 o.2.2.2.1 o.2.2.2.2] } q = netC c q := by
      intro q
      unfold netC
      show (match (c.l ++ [beginI o.1 o.2.1 o.2.2.1 o.2.2.2.1 o.2.2.2.2])[q.toNat - 1]? with | none => 0 | some s => Sa.netI s) = _
      by_cases hq : q.toNat - 1 < c.l.length
      · rw [List.getElem?_append_left hq]
      · rw [List.getElem?_append_right (by omega), List.getElem?_eq_none (l := c.l) (by omega)]
        by_cases h0 : q.toNat - 1 - c.l.length = 0
        · rw [h0]; rfl
        · rw [List.getElem?_eq_none (by simp; omega)]
    refine ⟨h.fi, ?_, ?_, by have := h.bl; show c.b.length ≤ _; omega, h.may, h.nd, ?_, ?_, h.cash⟩
    · show (c.l ++ [_]).length ≤ 60
      rw [List.length_append]; simp; omega
    · intro s hs
      rcases List.mem_append.1 hs with hs | hs
      · exact h.am s hs
      · rw [List.mem_singleton.1 hs]; show 0 ≤ o.2.2.2.2 ∧ o.2.2.2.2 ≤ _; omega
    · intro p hp
      rcases h.nm p hp with ⟨i, d, hi, hd, hid, s, hs, hdn⟩ | hx
      · exact .inl ⟨i, d, hi, hd, hid, s, by show (c.l ++ [_])[i]? = some s; rw [List.getElem?_append_left (List.getElem?_eq_some_iff.1 hs).1]; exact hs, hdn⟩
      · exact .inr hx
    · intro q h1 h2
      rw [hnet q]; exact h.sus q h1 h2
  · rw [if_neg he]; exact h.more
theorem set_named {l : List Sg} {k : Nat} {s t : Sg} (hs : l[k]? = some s) (hk : ∀ j, 0 ≤ j ∧ j < 6 → doneB (s.deed j) → doneB (t.deed j)) {i : Nat} {d : Int} (hd : 0 ≤ d ∧ d < 6) (h : ∃ u, l[i]? = some u ∧ doneB (u.deed d)) : ∃ u, (l.set k t)[i]? = some u ∧ doneB (u.deed d) := by
  obtain ⟨u, hu, hdn⟩ := h
  have hkl := (List.getElem?_eq_some_iff.1 hs).1
  by_cases e : k = i
  · subst e
    rw [hs] at hu
    obtain rfl := Option.some.inj hu
    exact ⟨t, by rw [List.getElem?_set_self hkl], hk d hd hdn⟩
  · exact ⟨u, by rw [List.getElem?_set_ne e]; exact hu, hdn⟩
theorem mem_set_amt {l : List Sg} {k : Nat} {s t : Sg} (hs : l[k]? = some s) (ha : t.amt = s.amt) (h : ∀ s ∈ l, 0 ≤ s.amt ∧ s.amt ≤ 1099511627776) : ∀ x ∈ l.set k t, 0 ≤ x.amt ∧ x.amt ≤ 1099511627776 := by
  intro x hx
  rcases List.mem_or_eq_of_mem_set hx with hx | rfl
  · exact h x hx
  · rw [ha]; exact h s (List.mem_of_getElem? hs)
theorem net_set {c : Cor} {k : Nat} {s t : Sg} (hs : c.l[k]? = some s) (b : List Po) (q : Int) (hq : 1 ≤ q) : netC { c with l := c.l.set k t, b := b } q = if q = (k : Int) + 1 then Sa.netI t else netC c q := by
  have hkl := (List.getElem?_eq_some_iff.1 hs).1
  unfold netC
  show (match (c.l.set k t)[q.toNat - 1]? with | none => 0 | some s => Sa.netI s) = _
  by_cases e : q = (k : Int) + 1
  · rw [if_pos e, show q.toNat - 1 = k by omega, List.getElem?_set_self hkl]
  · rw [if_neg e, List.getElem?_set_ne (by omega)]
theorem CoI.stop {c : Cor} {n : Nat} (h : CoI c n) (o : Int) : CoI (cstopC c o) (n + 1) := by
  unfold cstopC
  by_cases he : cstopE c o = 0
  · rw [if_pos he]
    cases hs : c.l[o.toNat - 1]? with
    | none => exact h.more
    | some s =>
      unfold cstopE at he
      split at he
      · cases he
      · rename_i hn
        rw [hs] at he
        simp only [] at he
        split at he
        · rename_i hg
          obtain ⟨f1, f2, f3⟩ := stop_facts hg
          have hkl := (List.getElem?_eq_some_iff.1 hs).1
          refine ⟨h.fi, by show (c.l.set _ _).length ≤ 60; rw [List.length_set]; exact h.le, mem_set_amt hs f3 h.am, by have := h.bl; show c.b.length ≤ _; omega, h.may, h.nd, ?_, ?_, h.cash⟩
          · intro p hp
            rcases h.nm p hp with ⟨i, d, hi, hd, hid, hx⟩ | hx
            · exact .inl ⟨i, d, hi, hd, hid, set_named hs f2 hd hx⟩
            · exact .inr hx
          · intro q h1 h2
            have hq := net_set (c := c) (t := stopI s) hs c.b q h1
            refine (h.sus q h1 h2).trans ?_
            show _ = netC { c with l := c.l.set (o.toNat - 1) (stopI s), b := c.b } q - _
            rw [hq, f1]
            by_cases e : q = ((o.toNat - 1 : Nat) : Int) + 1
            · rw [if_pos e]
              unfold netC
              rw [show q.toNat - 1 = o.toNat - 1 by omega, hs]
            · rw [if_neg e]
        · cases he
  · rw [if_neg he]; exact h.more
theorem net_bd2 {s : Sg} (h : 0 ≤ s.amt ∧ s.amt ≤ 1099511627776) : 0 ≤ Sa.netI s ∧ Sa.netI s ≤ 1099511627776 := net_bd h
/-- A reply's posting may be, and its name is new. -/
theorem CoI.rep {c : Cor} {n : Nat} (h : CoI c n) (o d code : Int) (he : replyE c o d code = 0) : ∃ (k : Nat) (s : Sg), o = (k : Int) + 1 ∧ k < 60 ∧ c.l[k]? = some s ∧ replyB s d code = true ∧ (∀ p ∈ postR c o d code, mayP p ∧ p.id = putK o d ∧ p.ord = o ∧ movI p 1 = Sa.netI (replyI s d code) - Sa.netI s ∧ movI p 2 = 0 ∧ ∀ x ∈ c.b, x.id ≠ p.id) ∧ (postR c o d code = [] ∧ Sa.netI (replyI s d code) = Sa.netI s ∨ ∃ p, postR c o d code = [p]) := by
  unfold replyE at he
  split at he
  · cases he
  · rename_i hn
    cases hs : c.l[o.toNat - 1]? with
    | none => rw [hs] at he; cases he
    | some s =>
      rw [hs] at he
      simp only [] at he
      split at he
      · rename_i hg
        have hkl := (List.getElem?_eq_some_iff.1 hs).1
        obtain ⟨g1, g2, g3, g4, g5⟩ := reply_facts hg
        have hle := h.le
        have hsa := h.am s (List.mem_of_getElem? hs)
        have n1 := net_bd hsa
        have n2 := net_bd (s := replyI s d code) (by rw [g5]; exact hsa)
        have hck : chk o d = true := chk_iff.2 (by omega)
        have hnew : ∀ x ∈ c.b, x.id ≠ putK o d := by
          intro x hx e
          rcases h.nm x hx with ⟨i, d', hi, hd', hid, u, hu, hdn⟩ | ⟨q, o', hid, _⟩
          · have := putK_inj (chk_iff.2 (by omega)) hck (hid.symm.trans e)
            obtain ⟨e1, e2⟩ := this
            subst e2
            rw [show i = o.toNat - 1 by omega, hs] at hu
            obtain rfl := Option.some.inj hu
            rw [g2] at hdn; unfold doneB at hdn; omega
          · exact put_sid hck (e.symm.trans hid)
        have hlen : 0 < (putK o d).length ∧ (putK o d).length ≤ 1000 := ⟨List.length_pos_iff.2 (putK_ne hck), by have := putK_len10 o d; omega⟩
        refine ⟨o.toNat - 1, s, by omega, by omega, hs, hg, ?_, ?_⟩
        · intro p hp
          unfold postR at hp
          rw [hs] at hp
          simp only [] at hp
          unfold postBy at hp
          split at hp
          · obtain rfl := List.mem_singleton.1 hp
            refine ⟨⟨hlen.1, hlen.2, ?_⟩, rfl, rfl, ?_, ?_, hnew⟩
            · show 1 ≤ o ∧ o ≤ 60 ∧ (0 : Int) ≤ 1 ∧ (1 : Int) ≤ 4 ∧ (0 : Int) ≤ 0 ∧ (0 : Int) ≤ 4 ∧ (1 : Int) ≠ 0 ∧ 0 ≤ Sa.netI (replyI s d code) - Sa.netI s ∧ Sa.netI (replyI s d code) - Sa.netI s ≤ _
              omega
            · simp [movI]
            · simp [movI]
          · split at hp
            · obtain rfl := List.mem_singleton.1 hp
              refine ⟨⟨hlen.1, hlen.2, ?_⟩, rfl, rfl, ?_, ?_, hnew⟩
              · show 1 ≤ o ∧ o ≤ 60 ∧ (0 : Int) ≤ 3 ∧ (3 : Int) ≤ 4 ∧ (0 : Int) ≤ 1 ∧ (1 : Int) ≤ 4 ∧ (3 : Int) ≠ 1 ∧ 0 ≤ -(Sa.netI (replyI s d code) - Sa.netI s) ∧ -(Sa.netI (replyI s d code) - Sa.netI s) ≤ _
                omega
              · simp [movI]
              · simp [movI]
            · cases hp
        · unfold postR
          rw [hs]
          simp only []
          unfold postBy
          split
          · exact .inr ⟨_, rfl⟩
          · split
            · exact .inr ⟨_, rfl⟩
            · exact .inl ⟨rfl, by omega⟩
      · cases he
theorem CoI.reply {c : Cor} {n : Nat} (h : CoI c n) (o d code : Int) : CoI (replyC c o d code) (n + 1) := by
  by_cases he : replyE c o d code = 0
  · obtain ⟨k, s, rfl, hk, hs, hg, hp, hone⟩ := h.rep o d code he
    obtain ⟨g1, g2, g3, g4, g5⟩ := reply_facts hg
    have hkl := (List.getElem?_eq_some_iff.1 hs).1
    have hC : replyC c ((k : Int) + 1) d code = { c with l := c.l.set k (replyI s d code), b := c.b ++ postR c ((k : Int) + 1) d code } := by
      unfold replyC
      rw [if_pos he, show ((k : Int) + 1).toNat - 1 = k by omega, hs]
    have hlen : (postR c ((k : Int) + 1) d code).length ≤ 1 := by
      rcases hone with ⟨h0, _⟩ | ⟨p, h0⟩ <;> rw [h0] <;> simp
    have hb1 : ∀ q : Int, 1 ≤ q → balI (postR c ((k : Int) + 1) d code) 1 q = (if q = (k : Int) + 1 then Sa.netI (replyI s d code) - Sa.netI s else 0) ∧ balI (postR c ((k : Int) + 1) d code) 2 q = 0 := by
      intro q hq
      rcases hone with ⟨h0, hz⟩ | ⟨p, h0⟩
      · rw [h0, hz]; simp [balI]
      · have hpp := hp p (by rw [h0]; simp)
        rw [h0, bal_one, bal_one, hpp.2.2.1, hpp.2.2.2.1, hpp.2.2.2.2.1]
        by_cases e : q = (k : Int) + 1
        · subst e; simp
        · rw [if_neg (by omega), if_neg e]; simp
    rw [hC]
    refine ⟨h.fi, by show (c.l.set _ _).length ≤ 60; rw [List.length_set]; exact h.le, mem_set_amt hs g5 h.am, ?_, ?_, ?_, ?_, ?_, ?_⟩
    · show (c.b ++ _).length ≤ _
      rw [List.length_append]; have := h.bl; omega
    · intro p hm
      rcases List.mem_append.1 hm with hm | hm
      · exact h.may p hm
      · exact (hp p hm).1
    · show ((c.b ++ postR c ((k : Int) + 1) d code).map (·.id)).Nodup
      rw [List.map_append, List.nodup_append]
      refine ⟨h.nd, ?_, ?_⟩
      · rcases hone with ⟨h0, _⟩ | ⟨p, h0⟩ <;> rw [h0] <;> simp
      · intro x hx y hy e
        obtain ⟨p, hpm, rfl⟩ := List.mem_map.1 hx
        obtain ⟨p2, hpm2, rfl⟩ := List.mem_map.1 hy
        exact (hp p2 hpm2).2.2.2.2.2 p hpm e
    · intro p hm
      rcases List.mem_append.1 hm with hm | hm
      · rcases h.nm p hm with ⟨i, d', hi, hd, hid, hx⟩ | hx
        · exact .inl ⟨i, d', hi, hd, hid, set_named hs g4 hd hx⟩
        · exact .inr hx
      · exact .inl ⟨k, d, hk, g1, (hp p hm).2.1, replyI s d code, by show (c.l.set k _)[k]? = _; rw [List.getElem?_set_self hkl], g3⟩
    · intro q h1 h2
      have hq := net_set (c := c) (t := replyI s d code) hs (c.b ++ postR c ((k : Int) + 1) d code) q h1
      rw [hq]
      show balI (c.b ++ _) 1 q = _ - In.netI c.inn q
      rw [bal_app, (hb1 q h1).1, h.sus q h1 h2]
      by_cases e : q = (k : Int) + 1
      · rw [if_pos e, if_pos e]
        have : netC c q = Sa.netI s := by unfold netC; rw [show q.toNat - 1 = k by omega, hs]
        rw [this]; omega
      · rw [if_neg e, if_neg e]; omega
    · intro q h1 h2
      show balI (c.b ++ _) 2 q = In.netI c.inn q
      rw [bal_app, (hb1 q h1).2, h.cash q h1 h2]; omega
  · unfold replyC; rw [if_neg he]; exact h.more
theorem acc_valid {I : In.Inn} {x : In.Stm} (h : In.accE I x = 0) : Rw.validB x.1 x.2.1 x.2.2 = true ∧ (I.at x.1).2.1 < x.2.1 := by
  unfold In.accE at h
  split at h
  · cases h
  · rename_i hv
    split at h
    · cases h
    · exact ⟨by simpa using hv, by omega⟩
theorem acc_other {I : In.Inn} {x : In.Stm} (h : In.accE I x = 0) (hx : x.1 ≠ 0) : (In.accI I x).a = I.a := by
  unfold In.accI
  rw [if_pos h]
  unfold In.Inn.put
  rw [if_neg hx]
  split <;> rfl
theorem acc_pay {I : In.Inn} {x : In.Stm} (h : In.accE I x = 0) (hx : x.1 = 0) : (In.accI I x).a = x := by
  unfold In.accI
  rw [if_pos h]
  unfold In.Inn.put
  rw [if_pos hx]
theorem stm_other {I : In.Inn} (hf : In.Fine I) {x : In.Stm} (h : In.accE I x = 0) (hx : x.1 ≠ 0) (q : Int) (n : Nat) (hn : n ≤ 60) : stmPs I (In.accI I x) q n = [] := by
  induction n with
  | zero => rfl
  | succ n ih =>
    rw [stmPs_succ, ih (by omega)]
    unfold stmP1
    rw [net_said (hf.acc x) (by omega), net_said hf (by omega), acc_other h hx, show saidO I.a.2.2 ((n : Int) + 1) - saidO I.a.2.2 ((n : Int) + 1) = 0 by omega]
    rfl
theorem inet_bd2 {I : In.Inn} (hg : In.Fine I) (o : Int) : -1099511627776 ≤ In.netI I o ∧ In.netI I o ≤ 1099511627776 := by
  have h1 := amt_bd hg o 1
  have h2 := amt_bd hg o 4
  unfold In.netI; omega
/-- A statement's postings may be, and their names are new. -/
theorem CoI.stmOk {c : Cor} {n : Nat} (h : CoI c n) (x : In.Stm) (he : In.accE c.inn x = 0) : (∀ p ∈ stmPs c.inn (In.accI c.inn x) x.2.1 60, mayP p) ∧ ((c.b ++ stmPs c.inn (In.accI c.inn x) x.2.1 60).map (·.id)).Nodup := by
  obtain ⟨hv, hq⟩ := acc_valid he
  have hs := In.valid_seq hv
  constructor
  · intro p hp
    obtain ⟨o, h1, h2, hid, hp1⟩ := stm_ids _ _ _ _ p hp
    unfold stmP1 at hp1
    have b1 := inet_bd2 (h.fi.acc x) o
    have b2 := inet_bd2 h.fi o
    rcases stm_cases x.2.1 o (In.netI (In.accI c.inn x) o - In.netI c.inn o) with ⟨_, h0⟩ | ⟨p', h0, i1, i2, i3, i4, _, _, i5⟩
    · rw [h0] at hp1; cases hp1
    · rw [h0] at hp1
      obtain rfl := List.mem_singleton.1 hp1
      have hl := sidL_len (q := x.2.1) (o := o) (by omega) (by omega)
      rw [← hid] at hl
      have hamt : p.amt ≤ 4398046511104 := by rw [i3]; split <;> omega
      exact ⟨hl.1, hl.2, by omega, by omega, i5.1, i5.2.1, i5.2.2.1, i5.2.2.2.1, i5.2.2.2.2, by omega, hamt⟩
  · rw [List.map_append, List.nodup_append]
    refine ⟨h.nd, stm_nodup _ _ (by omega) 60 (by omega), ?_⟩
    intro a ha b hb e
    obtain ⟨p, hp, rfl⟩ := List.mem_map.1 ha
    obtain ⟨p2, hp2, rfl⟩ := List.mem_map.1 hb
    by_cases hx : x.1 = 0
    · obtain ⟨o, h1, h2, hid, _⟩ := stm_ids _ _ _ _ p2 hp2
      rcases h.nm p hp with ⟨i, d, hi, hd, hid', _⟩ | ⟨q, o', hid', hq1, hq2, ho1, ho2⟩
      · exact put_sid (chk_iff.2 (by omega)) (hid'.symm.trans (e.trans hid))
      · have hat : (c.inn.at x.1) = c.inn.a := by unfold In.Inn.at; rw [if_pos hx]
        rw [hat] at hq
        have := (sidL_inj (by omega) (by omega) (by omega) (by omega) (hid'.symm.trans (e.trans hid))).1
        omega
    · rw [stm_other h.fi he hx _ 60 (by omega)] at hp2; cases hp2
theorem CoI.stm {c : Cor} {n : Nat} (h : CoI c n) (x : In.Stm) : CoI (stmC c x) (n + 1) := by
  unfold stmC
  by_cases he : In.accE c.inn x = 0
  · rw [if_pos he]
    obtain ⟨hm, hn⟩ := h.stmOk x he
    obtain ⟨hv, hq⟩ := acc_valid he
    have hs := In.valid_seq hv
    refine ⟨h.fi.acc x, h.le, h.am, ?_, ?_, hn, ?_, ?_, ?_⟩
    · show (c.b ++ _).length ≤ _
      rw [List.length_append]; have := h.bl; have := stmPs_len c.inn (In.accI c.inn x) x.2.1 60; omega
    · intro p hp
      rcases List.mem_append.1 hp with hp | hp
      · exact h.may p hp
      · exact hm p hp
    · intro p hp
      have hup : c.inn.a.2.1 ≤ (In.accI c.inn x).a.2.1 := by
        by_cases hx : x.1 = 0
        · have hat : (c.inn.at x.1) = c.inn.a := by unfold In.Inn.at; rw [if_pos hx]
          rw [hat] at hq
          rw [acc_pay he hx]; omega
        · rw [acc_other he hx]; omega
      rcases List.mem_append.1 hp with hp | hp
      · rcases h.nm p hp with hx | ⟨q, o, hid, h1, h2, h3⟩
        · exact .inl hx
        · exact .inr ⟨q, o, hid, h1, Int.le_trans h2 hup, h3⟩
      · by_cases hx : x.1 = 0
        · obtain ⟨o, h1, h2, hid, _⟩ := stm_ids _ _ _ _ p hp
          exact .inr ⟨x.2.1, o, hid, by omega, by show x.2.1 ≤ (In.accI c.inn x).a.2.1; rw [acc_pay he hx]; omega, by omega, by omega⟩
        · rw [stm_other h.fi he hx _ 60 (by omega)] at hp; cases hp
    · intro o h1 h2
      show balI (c.b ++ _) 1 o = netC c o - In.netI (In.accI c.inn x) o
      rw [bal_app, (stm_bal _ _ _ 60 o h1).1, if_pos (by omega), h.sus o h1 h2]; omega
    · intro o h1 h2
      show balI (c.b ++ _) 2 o = In.netI (In.accI c.inn x) o
      rw [bal_app, (stm_bal _ _ _ 60 o h1).2, if_pos (by omega), h.cash o h1 h2]; omega
  · rw [if_neg he]; exact h.more
theorem CoI.ok {c : Cor} {n : Nat} (h : CoI c n) (hn : n ≤ 1000) (e : Ent) : ApOk c e :=
  ⟨h.le, by have := h.bl; omega, h.am, fun _ he p hp => by
    obtain ⟨_, _, _, _, _, _, hp2, _⟩ := h.rep _ _ _ he
    exact ⟨(hp2 p hp).1, (hp2 p hp).2.2.2.2.2⟩, fun _ he => h.stmOk e.s he⟩
theorem CoI.apply {c : Cor} {n : Nat} (h : CoI c n) (e : Ent) : CoI (applyC c e) (n + 1) := by
  unfold applyC
  split
  · exact h.place _
  · split
    · exact h.stop _
    · split
      · exact h.reply _ _ _
      · split
        · exact h.stm _
        · exact h.more
/-- The core of entries; those that are refused are left out. -/
def ofL (l : List Ent) (k : Nat) : Cor := (l.take k).foldl applyC nilC
theorem ofL_zero (l : List Ent) : ofL l 0 = nilC := rfl
theorem ofL_succ {l : List Ent} {k : Nat} {e : Ent} (h : l[k]? = some e) : ofL l (k + 1) = applyC (ofL l k) e := by unfold ofL; rw [List.take_add_one, h, List.foldl_append]; rfl
theorem ofL_inv (l : List Ent) : ∀ k, k ≤ l.length → CoI (ofL l k) k
  | 0, _ => CoI.nil
  | k + 1, hk => by
    obtain ⟨e, he⟩ : ∃ e, l[k]? = some e := ⟨_, List.getElem?_eq_getElem hk⟩
    rw [ofL_succ he]
    exact (ofL_inv l k (by omega)).apply e
end Co
end Go.Proofs.YtlfibaijpimocaaDoor
/- What the payment's rows say, row by row. -/
namespace Go.Proofs.YtlfibaijpimocaaDoor
open Co Key Rw Sa Od

namespace Co
/-- What a row adds. -/
def said1 (r : R5) (o : Int) : Int := if r.1.1 = o ∧ r.2.1 = 1 ∧ r.1.2 = 1 then r.2.2.1 else if r.1.1 = o ∧ r.2.1 = 1 ∧ r.1.2 = 4 then -r.2.2.1 else 0
theorem said_app (l m : List R5) (k : Int × Int) : saidR (l ++ m) k = saidR l k + saidR m k := by unfold saidR; rw [List.map_append, List.sum_append]
theorem said_one (r : R5) (o : Int) : saidR [r] (o, 1) - saidR [r] (o, 4) = said1 r o := by
  rw [said_cons, said_cons]
  obtain ⟨⟨a, d⟩, c, x, q⟩ := r
  unfold said1 saidR
  simp only [Prod.mk.injEq, List.map_nil, List.sum_nil]
  by_cases h1 : a = o
  · by_cases h2 : c = 1
    · by_cases h3 : d = 1
      · subst h3; simp [h1, h2]
      · by_cases h4 : d = 4
        · subst h4; simp [h1, h2]
        · simp [h1, h2, h3, h4]
    · simp [h2]
  · simp [h1]
theorem saidO_succ {l : List R5} {k : Nat} {r : R5} (h : l[k]? = some r) (o : Int) : saidO (l.take (k + 1)) o = saidO (l.take k) o + said1 r o := by
  unfold saidO
  rw [List.take_add_one, h, Option.toList_some, said_app, said_app, ← said_one r o]; omega
theorem said_bd {l : List R5} (h : ∀ r ∈ l, 0 ≤ r.2.2.1 ∧ r.2.2.1 ≤ 1099511627776) (k : Int × Int) : 0 ≤ saidR l k ∧ saidR l k ≤ 1099511627776 * (l.length : Int) := by
  induction l with
  | nil => exact ⟨Int.le_refl _, Int.le_refl _⟩
  | cons r l ih =>
    have h1 := ih fun x hx => h x (List.mem_cons_of_mem _ hx)
    have h2 := h r (List.mem_cons_self ..)
    rw [said_cons, List.length_cons]
    split <;> (push_cast; omega)
theorem saidO_bd {l : List R5} (h : ∀ r ∈ l, 0 ≤ r.2.2.1 ∧ r.2.2.1 ≤ 1099511627776) (hl : l.length ≤ 400) (k : Nat) (o : Int) : -439804651110400 ≤ saidO (l.take k) o ∧ saidO (l.take k) o ≤ 439804651110400 := by
  have h' : ∀ r ∈ l.take k, 0 ≤ r.2.2.1 ∧ r.2.2.1 ≤ 1099511627776 := fun r hr => h r (List.mem_of_mem_take hr)
  have h1 := said_bd h' (o, 1)
  have h2 := said_bd h' (o, 4)
  have h3 : (l.take k).length ≤ 400 := by rw [List.length_take]; omega
  unfold saidO
  omega
theorem ok_amts {x : In.Stm} (h : In.Ok 0 x) : ∀ r ∈ x.2.2, 0 ≤ r.2.2.1 ∧ r.2.2.1 ≤ 1099511627776 := by
  intro r hr
  have := In.ok_rows h r hr
  unfold okRow at this
  by_cases h2 : r.2.1 = 2
  · simp [h2] at this; omega
  · simp [h2] at this; omega
end Co
end Go.Proofs.YtlfibaijpimocaaDoor
/- What a core is made of: Parts. -/
namespace Go.Proofs.YtlfibaijpimocaaDoor
open Go.RowKit Go.Maps Key Rw Sa Co

abbrev tPartsC : TypeId := 80
abbrev tSagasC : TypeId := 22
theorem own_base {w : World} {B B' : Nat} {e : TypeId} {z n : Nat} {v : Value} {xs : List Value} (h : w.ownsRow B e z v n xs) (hB : B' ≤ B) : w.ownsRow B' e z v n xs :=
  ⟨h.1, h.2.imp id fun ⟨g, cap, cur, e, hb, r⟩ => ⟨g, cap, cur, e, Nat.le_trans hB hb, r⟩⟩
set_option linter.unusedSimpArgs false in
set_option linter.unusedVariables false in
set_option maxRecDepth 100000 in
set_option maxHeartbeats 16000000 in
theorem bclone_any {B : Nat} (w : World) (v : Value) (b : List Po) (h : w.ownsRow B tPost 5 v b.length (b.flatMap encP)) (hl : b.length ≤ 100000) (base : Nat) (hbase : base ≤ w.heap.size) :
    Calls Tryd.prog 75 #[v] w fun e w' => ∃ v', e = .returned v' ∧ w'.ownsRow base tPost 5 v' b.length (b.flatMap encP) ∧ Below w.heap.size w w' := by
  obtain ⟨i0, hi, hz0, hz1, hz2⟩ := info_parts post_info
  have q22 : ∀ (w : World) (a : Option Addr) (n c n' c' : Nat), (binOp .eql tPosts (.slice a n c) (.slice none n' c')).run Tryd.prog w = .ok (.bool a.isNone) w := fun w a n c n' c' => Lib.run_eql_slice_nil w _ _ a n c n' c' Tryd.underlying78
  rcases own_ptr h with ⟨rfl, h0⟩ | ⟨g, c, rfl, hgB, hgl, hgc⟩
  · obtain rfl : b = [] := List.length_eq_zero_iff.1 h0
    clear h
    go_enter Tryd.func75, Tryd.ntmps75
    go_wp2_with fail
    go_ret
    exact ⟨_, rfl, World.ownsRow_nil _ _ _ _, Below.refl _ _⟩
  · have HS := Lib.hid (src_own (enc := encP) (z := 5) encP_len (by decide) encP_one h)
    have hb1 := below_alloc w (.cells #[] tPost)
    have HS1 := Lib.hid (src_own (enc := encP) (z := 5) encP_len (by decide) encP_one (own_keep h hb1))
    have HB1 := Lib.hid hb1
    clear h hb1
    go_enter Tryd.func75, Tryd.ntmps75
    go_wp2_with (at_builtin; refine wpList_append_any _ rfl (.tmp 5) (.tmp 6) tPosts rfl base tPost i0 (mkPost ⟨[], 0, 0, 0, 0⟩) 5 48 Tryd.underlying78 hi hz0 hz1 hz2 rfl (by decide) (.slice (some ⟨w.heap.size, 0, none⟩) 0 0) 0 [] rfl (World.ownsRow_made w #[] 0 hbase (Nat.zero_le _) rfl) b.length (b.flatMap encP) HS1.out (by unfold maxLen; omega) (by omega) (by simp; omega) ?_; intro v2 w2 ho2 hg2 hat2; rw [Nat.zero_add, List.nil_append] at ho2; have HO2 := Lib.hid ho2; have HG2 := Lib.hid hg2; clear ho2 hg2 hat2)
    go_ret
    exact ⟨_, rfl, HO2.out, Below.grown HB1.out HG2.out HB1.out.size (fun j hj => by have e : j = w.heap.size := (by simpa [Value.ownBlock] using hj.symm); omega)⟩
set_option linter.unusedSimpArgs false in
set_option linter.unusedVariables false in
set_option maxRecDepth 100000 in
set_option maxHeartbeats 16000000 in
theorem blist_any {B : Nat} {w : World} {bb pm bm : Nat} {vb : Value} {b : List Po} (h : Bw B w bb pm bm vb b) (hl : b.length ≤ 100000) (base : Nat) (hbase : base ≤ w.heap.size) :
    Calls Tryd.prog 54 #[.pointer (some ⟨bb, 0, none⟩)] w fun e w' => ∃ v', e = .returned v' ∧ w'.ownsRow base tPost 5 v' b.length (b.flatMap encP) ∧ Below w.heap.size w w' := by
  have c0 := cell_at h.hd 0 rfl
  have HH := Lib.hid h
  clear h
  go_enter Tryd.func54, Tryd.ntmps54
  go_wp2_with (first
    | (go_at_call 74; refine (bnone_any HH.out).mono ?_; rintro e w1 ⟨rfl, hb⟩; subst hb)
    | (go_at_call 75; refine (bclone_any _ vb b HH.out.ob hl base hbase).mono ?_; rintro e w1 ⟨v', rfl, ho, hb⟩; have HO := Lib.hid ho; have HB := Lib.hid hb; clear ho hb))
  go_ret
  exact ⟨_, rfl, HO.out, HB.out⟩
/-- The block of an own row is none that holds other things. -/
theorem own_off {w : World} {B : Nat} {e T : TypeId} {z n b : Nat} {v : Value} {xs : List Value} {cs : Array Value} {fr : Nat × Nat} (h : w.ownsRow B e z v n xs) (hb : w.heap[b]? = some (.cells cs T fr)) (hT : e ≠ T) : ∀ j, v.ownBlock = some j → j = b → False := by
  intro j hj e
  subst e
  rcases h.2 with ⟨rfl, _⟩ | ⟨g, cap, cur, rfl, _, hg, _⟩
  · cases hj
  · obtain rfl : g = j := by simpa [Value.ownBlock] using hj
    rw [hb] at hg
    injection hg with hg
    injection hg with _ hg _
    exact hT hg.symm
/-- A statement that stands in a box of parts; its rows' memory is made behind it. -/
structure StO (w : World) (bp : Nat) (x : In.Stm) (p s : Int) (A : Option Addr) (n c : Nat) : Prop where
  ep : p = x.1
  es : s = x.2.1
  en : n = x.2.2.length
  rd : Rd w (.slice A n c) x.2.2
  off : ∀ ad n' c', Value.slice A n c = .slice (some ad) n' c' → 0 < x.2.2.length → bp < ad.block
theorem StO.step {w w5 w6 : World} {bp : Nat} {x : In.Stm} {p s : Int} {A : Option Addr} {n c : Nat} (h : StO w bp x p s A n c) (hb : Below w.heap.size w w5) (ht : Turned (fun j => j = bp) w5 w6) : StO w6 bp x p s A n c :=
  ⟨h.ep, h.es, h.en, (h.rd.keep hb).turned ht (fun ad n' c' e hl => by have := h.off ad n' c' e hl; omega), h.off⟩
set_option linter.unusedSimpArgs false in
set_option linter.unusedVariables false in
set_option maxRecDepth 100000 in
set_option maxHeartbeats 16000000 in
theorem cparts_any {B : Nat} {w : World} {cb bb pm bm : Nat} {vl vb vI : Value} {c : Cor} (h : Cw B w cb bb pm bm vl vb vI c) (hl : c.l.length ≤ 100000) (hbl : c.b.length ≤ 100000) :
    Calls Tryd.prog 26 #[.pointer (some ⟨cb, 0, none⟩)] w fun e w' => ∃ As cs Ap cp A0 c0 A1 c1 A2 c2, e = .returned (.agg #[.slice As c.l.length cs, .slice Ap c.b.length cp, .int .i64 c.inn.a.1, .int .i64 c.inn.a.2.1, .slice A0 c.inn.a.2.2.length c0, .int .i64 c.inn.b.1, .int .i64 c.inn.b.2.1, .slice A1 c.inn.b.2.2.length c1, .int .i64 c.inn.c.1, .int .i64 c.inn.c.2.1, .slice A2 c.inn.c.2.2.length c2]) ∧ w'.ownsRow w.heap.size tSaga 12 (.slice As c.l.length cs) c.l.length (c.l.flatMap encS) ∧ w'.ownsRow w.heap.size tPost 5 (.slice Ap c.b.length cp) c.b.length (c.b.flatMap encP) ∧ Rd w' (.slice A0 c.inn.a.2.2.length c0) c.inn.a.2.2 ∧ Rd w' (.slice A1 c.inn.b.2.2.length c1) c.inn.b.2.2 ∧ Rd w' (.slice A2 c.inn.c.2.2.length c2) c.inn.c.2.2 ∧ Below w.heap.size w w' := by
  obtain ⟨i0, hi, hz0, hz1, hz2⟩ := info_parts saga_info
  obtain ⟨A, cl, rfl, _⟩ := own_slice h.ol
  obtain ⟨wa, hA⟩ : ∃ wa, wa = w.alloc (.cells #[.slice none 0 0, .slice none 0 0, .int .i64 0, .int .i64 0, .slice none 0 0, .int .i64 0, .int .i64 0, .slice none 0 0, .int .i64 0, .int .i64 0, .slice none 0 0] tPartsC) := ⟨_, rfl⟩
  have hB : Below w.heap.size w wa := by rw [hA]; exact below_alloc _ _
  have HX := Lib.hid (show wa.heap[w.heap.size]? = some (.cells #[.slice none 0 0, .slice none 0 0, .int .i64 0, .int .i64 0, .slice none 0 0, .int .i64 0, .int .i64 0, .slice none 0 0, .int .i64 0, .int .i64 0, .slice none 0 0] tPartsC (0, 0)) by rw [hA]; exact heap_new _ _)
  have HWS := Lib.hid (show wa.heap.size = w.heap.size + 1 by rw [hA]; simp)
  have HC := Lib.hid (h.below hB); have HA := Lib.hid hA; have HB := Lib.hid hB
  clear hA hB h
  obtain ⟨I0, In0, Ic0, I1, In1, Ic1, I2, In2, Ic2, m, rfl, _⟩ := HC.out.ii
  have HSRC := Lib.hid (fun W (hb : Below wa.heap.size wa W) => src_own (enc := encS) (z := 12) encS_len (by decide) encS_one (own_keep HC.out.ol hb))
  have HLI := Lib.hid (fun W (hb : Below wa.heap.size wa W) => blist_any (HC.out.bk.below hb) hbl wa.heap.size hb.size)
  obtain ⟨y0, y1⟩ := HC.out.c01
  go_enter Tryd.func26, Tryd.ntmps26
  go_upto_region 1 with (fail)
  rw [← HA.out]
  go_upto_region 3 with (go_at_call 53; refine (cnone_any HC.out).mono ?_; rintro e w1 ⟨rfl, hb⟩; subst hb)
  go_cut [3] from 8 to 18 (fun p wx => ∃ bp Ac cc Ad cd, p = .pointer (some ⟨bp, 0, none⟩) ∧ wx.heap[bp]? = some (.cells #[.slice Ac c.l.length cc, .slice Ad c.b.length cd, .int .i64 0, .int .i64 0, .slice none 0 0, .int .i64 0, .int .i64 0, .slice none 0 0, .int .i64 0, .int .i64 0, .slice none 0 0] tPartsC (0, 0)) ∧ wx.ownsRow wa.heap.size tSaga 12 (.slice Ac c.l.length cc) c.l.length (c.l.flatMap encS) ∧ wx.ownsRow wa.heap.size tPost 5 (.slice Ad c.b.length cd) c.b.length (c.b.flatMap encP) ∧ wa.heap.size ≤ bp ∧ Below wa.heap.size wa wx)
  case first =>
    have HH := Lib.hid (fun W (hb : Below wa.heap.size wa W) => (⟨Lib.hid hb, (hb.cell (World.block_lt_of_cell? wa _ y0)).trans y0, (hb.cell (World.block_lt_of_cell? wa _ y1)).trans y1⟩ : (fun w' => Hid (Below wa.heap.size wa w') ∧ w'.cell? ⟨cb, 0, none⟩ = some (.slice A c.l.length cl) ∧ w'.cell? ⟨cb, 1, none⟩ = some (.pointer (some ⟨bb, 0, none⟩))) W))
    refine wp_region_noPanic ?_
    refine wp_region_held_drew (S := (fun w' => Hid (Below wa.heap.size wa w') ∧ w'.cell? ⟨cb, 0, none⟩ = some (.slice A c.l.length cl) ∧ w'.cell? ⟨cb, 1, none⟩ = some (.pointer (some ⟨bb, 0, none⟩)))) (by kernel_rfl) (HH.out _ (below_drew1 (Below.refl wa.heap.size wa))) (fun hHeld => ?_)
    refine wpAnyH_take (i := 0) (v := ?vc0_1) rfl (by kernel_rfl) (by kernel_rfl) (by kernel_rfl) (fun _ _ _ h => h) (Or.inl ⟨by rfl, ?hyc0_1⟩) (by assumption) ?restc0_1
    case hyc0_1 => (intro w0 hSw; (try dsimp only at hSw); go_simp; try with_reducible rfl)
    case' restc0_1 => try simp only [Act.put, List.getElem_toArray, List.getElem_cons_zero, List.getElem_cons_succ, List.setIfInBounds_toArray, List.set_cons_zero, List.set_cons_succ]
    refine wpAnyH_take (i := 1) (v := ?vc1_2) rfl (by kernel_rfl) (by kernel_rfl) (by kernel_rfl) (fun _ _ _ h => h) (Or.inl ⟨by rfl, ?hyc1_2⟩) (by assumption) ?restc1_2
    case hyc1_2 => (intro w0 hSw; (try dsimp only at hSw); go_simp; try with_reducible rfl)
    case' restc1_2 => try simp only [Act.put, List.getElem_toArray, List.getElem_cons_zero, List.getElem_cons_succ, List.setIfInBounds_toArray, List.set_cons_zero, List.set_cons_succ]
    refine wpAnyH_take (i := 2) (v := ?vc2_3) rfl (by kernel_rfl) (by kernel_rfl) (by kernel_rfl) (fun _ _ _ h => h) (Or.inl ⟨by rfl, ?hyc2_3⟩) (by assumption) ?restc2_3
    case hyc2_3 => (intro w0 hSw; (try dsimp only at hSw); go_simp; try with_reducible rfl)
    case' restc2_3 => try simp only [Act.put, List.getElem_toArray, List.getElem_cons_zero, List.getElem_cons_succ, List.setIfInBounds_toArray, List.set_cons_zero, List.set_cons_succ]
    refine wpAnyH_take (i := 3) (v := ?vc3_4) rfl (by kernel_rfl) (by kernel_rfl) (by kernel_rfl) (fun _ _ _ h => h) (Or.inl ⟨by rfl, ?hyc3_4⟩) (by assumption) ?restc3_4
    case hyc3_4 => (intro w0 hSw; (try dsimp only at hSw); go_simp; try with_reducible rfl)
    case' restc3_4 => try simp only [Act.put, List.getElem_toArray, List.getElem_cons_zero, List.getElem_cons_succ, List.setIfInBounds_toArray, List.set_cons_zero, List.set_cons_succ]
    refine wpAnyH_take (i := 5) (v := ?vc5_5) rfl (by kernel_rfl) (by kernel_rfl) (by kernel_rfl) (fun _ _ _ h => h) (Or.inl ⟨by rfl, ?hyc5_5⟩) (by assumption) ?restc5_5
    case hyc5_5 => (intro w0 hSw; (try dsimp only at hSw); go_simp; try with_reducible rfl)
    case' restc5_5 => try simp only [Act.put, List.getElem_toArray, List.getElem_cons_zero, List.getElem_cons_succ, List.setIfInBounds_toArray, List.set_cons_zero, List.set_cons_succ]
    refine wpAnyH_take (i := 6) (v := ?vc6_6) rfl (by kernel_rfl) (by kernel_rfl) (by kernel_rfl) (fun _ _ _ h => h) (Or.inl ⟨by rfl, ?hyc6_6⟩) (by assumption) ?restc6_6
    case hyc6_6 => (intro w0 hSw; (try dsimp only at hSw); go_simp; try with_reducible rfl)
    case' restc6_6 => try simp only [Act.put, List.getElem_toArray, List.getElem_cons_zero, List.getElem_cons_succ, List.setIfInBounds_toArray, List.set_cons_zero, List.set_cons_succ]
    refine wpAnyH_take (i := 7) (v := ?vc7_7) rfl (by kernel_rfl) (by kernel_rfl) (by kernel_rfl) (fun _ _ _ h => h) (Or.inl ⟨by rfl, ?hyc7_7⟩) (by assumption) ?restc7_7
    case hyc7_7 => (intro w0 hSw; (try dsimp only at hSw); go_simp; try with_reducible rfl)
    case' restc7_7 => try simp only [Act.put, List.getElem_toArray, List.getElem_cons_zero, List.getElem_cons_succ, List.setIfInBounds_toArray, List.set_cons_zero, List.set_cons_succ]
    refine wpAnyH_take (i := 8) (v := ?vc8_8) rfl (by kernel_rfl) (by kernel_rfl) (by kernel_rfl) (fun _ _ _ h => h) (Or.inl ⟨by rfl, ?hyc8_8⟩) (by assumption) ?restc8_8
    case hyc8_8 => (intro w0 hSw; (try dsimp only at hSw); go_simp; try with_reducible rfl)
    case' restc8_8 => try simp only [Act.put, List.getElem_toArray, List.getElem_cons_zero, List.getElem_cons_succ, List.setIfInBounds_toArray, List.set_cons_zero, List.set_cons_succ]
    refine wpAnyH_ready (rs := [4, 11]) (by kernel_rfl) (by simp) ?_
    refine AllReadyH.cons rfl (fun K hK => ?_) (AllReadyH.cons rfl (fun K hK => ?_) AllReadyH.nil)
    · refine step_append_any _ rfl (.const (.slice none 0 0)) (.tmp 11) tSagasC rfl wa.heap.size tSaga i0 (.agg #[.int .i64 0, .string ⟨#[]⟩, .string ⟨#[]⟩, .int .i64 0, .int .i64 0, .int .i64 0, .int .i64 0, .int .i64 0, .int .i64 0, .int .i64 0, .int .i64 0, .bool false]) 12 112 Tryd.underlying22 hi hz0 hz1 hz2 rfl (by decide) (.slice none 0 0) 0 [] rfl (World.ownsRow_nil _ _ _ _) c.l.length (c.l.flatMap encS) (HSRC.out _ (below_drew1 (Below.refl wa.heap.size wa))) (by unfold maxLen; omega) (by omega) (Below.size (below_drew1 (Below.refl wa.heap.size wa))) ?_
      intro v1 w101 ho hg hat
      rw [Nat.zero_add, List.nil_append] at ho
      obtain ⟨Ac, cc, rfl, _⟩ := own_slice ho
      have hbn := below_of_grown hg
      have HOC := Lib.hid ho
      have HB101 := Lib.hid (bch (below_drew1 (Below.refl wa.heap.size wa)) hbn (Below.size (below_drew1 (Below.refl wa.heap.size wa))))
      clear ho hg hat hbn
      refine hK.out _ _ (HH.out _ HB101.out) (fun hHeld => ?_)
      clear hK K
      try simp only [Act.put, List.getElem_toArray, List.getElem_cons_zero, List.getElem_cons_succ, List.setIfInBounds_toArray, List.set_cons_zero, List.set_cons_succ]
      refine wpAnyH_ready (rs := [9, 11]) (by kernel_rfl) (by simp) ?_
      refine AllReadyH.cons rfl (fun K hK => ?_) (AllReadyH.cons rfl (fun K hK => ?_) AllReadyH.nil)
      · go_simp
        refine (HLI.out _ HB101.out).mono ?_
        rintro e w102 ⟨v2, rfl, ho, hbn⟩
        obtain ⟨Ad, cd, rfl, _⟩ := own_slice ho
        have HOD := Lib.hid ho
        have HB102 := Lib.hid (bch HB101.out hbn (Below.size HB101.out))
        have HOC := Lib.hid (own_keep HOC.out hbn)
        clear ho hbn
        refine hK.out _ _ (HH.out _ HB102.out) (fun hHeld => ?_)
        clear hK K
        try simp only [Act.put, List.getElem_toArray, List.getElem_cons_zero, List.getElem_cons_succ, List.setIfInBounds_toArray, List.set_cons_zero, List.set_cons_succ]
        refine wpAnyH_take (i := 10) (v := ?vc10_9) rfl (by kernel_rfl) (by kernel_rfl) (by kernel_rfl) (fun _ _ _ h => h) (Or.inl ⟨by rfl, ?hyc10_9⟩) (by assumption) ?restc10_9
        case hyc10_9 => (intro w0 hSw; (try dsimp only at hSw); go_simp; try with_reducible rfl)
        case' restc10_9 => try simp only [Act.put, List.getElem_toArray, List.getElem_cons_zero, List.getElem_cons_succ, List.setIfInBounds_toArray, List.set_cons_zero, List.set_cons_succ]
        refine wpAnyH_ready (rs := [11]) (by kernel_rfl) (by simp) ?_
        refine AllReadyH.cons rfl (fun K hK => ?_) AllReadyH.nil
        go_simp
        obtain ⟨w103, hn3⟩ : ∃ W, W = (w102.alloc (.cells #[.slice none 0 0, .slice none 0 0, .int .i64 0, .int .i64 0, .slice none 0 0, .int .i64 0, .int .i64 0, .slice none 0 0, .int .i64 0, .int .i64 0, .slice none 0 0] tPartsC)) := ⟨_, rfl⟩
        have hbn : Below w102.heap.size w102 w103 := by rw [hn3]; exact below_alloc _ _
        have HPX := Lib.hid (show w103.heap[w102.heap.size]? = some (.cells #[.slice none 0 0, .slice none 0 0, .int .i64 0, .int .i64 0, .slice none 0 0, .int .i64 0, .int .i64 0, .slice none 0 0, .int .i64 0, .int .i64 0, .slice none 0 0] tPartsC (0, 0)) by rw [hn3]; exact heap_new _ _)
        have HB103 := Lib.hid (bch HB102.out hbn (Below.size HB102.out))
        have HOC := Lib.hid (own_keep HOC.out hbn)
        have HOD := Lib.hid (own_keep HOD.out hbn)
        rw [← hn3]
        obtain ⟨bp, hbpd⟩ : ∃ bp, bp = w102.heap.size := ⟨_, rfl⟩
        have hbp : wa.heap.size ≤ bp := by have := Below.size HB102.out; omega
        clear hbn hn3
        rw [← hbpd] at HPX
        rw [← hbpd]
        clear hbpd
        refine hK.out _ _ (HH.out _ HB103.out) (fun hHeld => ?_)
        clear hK K
        try simp only [Act.put, List.getElem_toArray, List.getElem_cons_zero, List.getElem_cons_succ, List.setIfInBounds_toArray, List.set_cons_zero, List.set_cons_succ]
        obtain ⟨m0, m1, m2, m3, m4, m5, m6, m7, m8, m9, m10⟩ := cell11 HPX.out
        obtain ⟨f0, f1, f2, f3, f4, f5, f6, f7, f8, f9, f10⟩ := froz11 HPX.out
        refine wpAnyH_ready (rs := [12]) (by kernel_rfl) (by simp) ?_
        refine AllReadyH.cons rfl (fun K hK => ?_) AllReadyH.nil
        go_simp
        have HBZ := Lib.hid (Below.turned HB103.out (turned_set11 w103 bp (.slice Ac c.l.length cc) (.slice Ad c.b.length cd) (.int .i64 0) (.int .i64 0) (.slice none 0 0) (.int .i64 0) (.int .i64 0) (.slice none 0 0) (.int .i64 0) (.int .i64 0) (.slice none 0 0)) (fun i h => by omega) (Below.size HB103.out))
        refine hK.out _ _ (HH.out _ HBZ.out) (fun hHeld => ?_)
        clear hK K
        try simp only [Act.put, List.getElem_toArray, List.getElem_cons_zero, List.getElem_cons_succ, List.setIfInBounds_toArray, List.set_cons_zero, List.set_cons_succ]
        refine wpAnyH_done (by kernel_rfl) ?_ _
        refine NoPanic.normal ?_
        go_wp2_with fail
        go_meet
        have htz := turned_set11 w103 bp (.slice Ac c.l.length cc) (.slice Ad c.b.length cd) (.int .i64 0) (.int .i64 0) (.slice none 0 0) (.int .i64 0) (.int .i64 0) (.slice none 0 0) (.int .i64 0) (.int .i64 0) (.slice none 0 0)
        exact ⟨bp, Ac, cc, Ad, cd, rfl, set11 HPX.out _ _ _ _ _ _ _ _ _ _ _, own_turned HOC.out htz (fun j hj e => own_off HOC.out HPX.out (by decide) j hj e), own_turned HOD.out htz (fun j hj e => own_off HOD.out HPX.out (by decide) j hj e), hbp, HBZ.out⟩
      · go_simp
        obtain ⟨w104, hn4⟩ : ∃ W, W = (w101.alloc (.cells #[.slice none 0 0, .slice none 0 0, .int .i64 0, .int .i64 0, .slice none 0 0, .int .i64 0, .int .i64 0, .slice none 0 0, .int .i64 0, .int .i64 0, .slice none 0 0] tPartsC)) := ⟨_, rfl⟩
        have hbn : Below w101.heap.size w101 w104 := by rw [hn4]; exact below_alloc _ _
        have HPX := Lib.hid (show w104.heap[w101.heap.size]? = some (.cells #[.slice none 0 0, .slice none 0 0, .int .i64 0, .int .i64 0, .slice none 0 0, .int .i64 0, .int .i64 0, .slice none 0 0, .int .i64 0, .int .i64 0, .slice none 0 0] tPartsC (0, 0)) by rw [hn4]; exact heap_new _ _)
        have HB104 := Lib.hid (bch HB101.out hbn (Below.size HB101.out))
        have HOC := Lib.hid (own_keep HOC.out hbn)
        rw [← hn4]
        obtain ⟨bp, hbpd⟩ : ∃ bp, bp = w101.heap.size := ⟨_, rfl⟩
        have hbp : wa.heap.size ≤ bp := by have := Below.size HB101.out; omega
        clear hbn hn4
        rw [← hbpd] at HPX
        rw [← hbpd]
        clear hbpd
        refine hK.out _ _ (HH.out _ HB104.out) (fun hHeld => ?_)
        clear hK K
        try simp only [Act.put, List.getElem_toArray, List.getElem_cons_zero, List.getElem_cons_succ, List.setIfInBounds_toArray, List.set_cons_zero, List.set_cons_succ]
        refine wpAnyH_ready (rs := [9]) (by kernel_rfl) (by simp) ?_
        refine AllReadyH.cons rfl (fun K hK => ?_) AllReadyH.nil
        go_simp
        refine (HLI.out _ HB104.out).mono ?_
        rintro e w105 ⟨v5, rfl, ho, hbn⟩
        obtain ⟨Ad, cd, rfl, _⟩ := own_slice ho
        have HOD := Lib.hid ho
        have HB105 := Lib.hid (bch HB104.out hbn (Below.size HB104.out))
        have HOC := Lib.hid (own_keep HOC.out hbn)
        have HPX := Lib.hid (heap_keep HPX.out hbn)
        clear ho hbn
        refine hK.out _ _ (HH.out _ HB105.out) (fun hHeld => ?_)
        clear hK K
        try simp only [Act.put, List.getElem_toArray, List.getElem_cons_zero, List.getElem_cons_succ, List.setIfInBounds_toArray, List.set_cons_zero, List.set_cons_succ]
        refine wpAnyH_take (i := 10) (v := ?vc10_10) rfl (by kernel_rfl) (by kernel_rfl) (by kernel_rfl) (fun _ _ _ h => h) (Or.inl ⟨by rfl, ?hyc10_10⟩) (by assumption) ?restc10_10
        case hyc10_10 => (intro w0 hSw; (try dsimp only at hSw); go_simp; try with_reducible rfl)
        case' restc10_10 => try simp only [Act.put, List.getElem_toArray, List.getElem_cons_zero, List.getElem_cons_succ, List.setIfInBounds_toArray, List.set_cons_zero, List.set_cons_succ]
        obtain ⟨m0, m1, m2, m3, m4, m5, m6, m7, m8, m9, m10⟩ := cell11 HPX.out
        obtain ⟨f0, f1, f2, f3, f4, f5, f6, f7, f8, f9, f10⟩ := froz11 HPX.out
        refine wpAnyH_ready (rs := [12]) (by kernel_rfl) (by simp) ?_
        refine AllReadyH.cons rfl (fun K hK => ?_) AllReadyH.nil
        go_simp
        have HBZ := Lib.hid (Below.turned HB105.out (turned_set11 w105 bp (.slice Ac c.l.length cc) (.slice Ad c.b.length cd) (.int .i64 0) (.int .i64 0) (.slice none 0 0) (.int .i64 0) (.int .i64 0) (.slice none 0 0) (.int .i64 0) (.int .i64 0) (.slice none 0 0)) (fun i h => by omega) (Below.size HB105.out))
        refine hK.out _ _ (HH.out _ HBZ.out) (fun hHeld => ?_)
        clear hK K
        try simp only [Act.put, List.getElem_toArray, List.getElem_cons_zero, List.getElem_cons_succ, List.setIfInBounds_toArray, List.set_cons_zero, List.set_cons_succ]
        refine wpAnyH_done (by kernel_rfl) ?_ _
        refine NoPanic.normal ?_
        go_wp2_with fail
        go_meet
        have htz := turned_set11 w105 bp (.slice Ac c.l.length cc) (.slice Ad c.b.length cd) (.int .i64 0) (.int .i64 0) (.slice none 0 0) (.int .i64 0) (.int .i64 0) (.slice none 0 0) (.int .i64 0) (.int .i64 0) (.slice none 0 0)
        exact ⟨bp, Ac, cc, Ad, cd, rfl, set11 HPX.out _ _ _ _ _ _ _ _ _ _ _, own_turned HOC.out htz (fun j hj e => own_off HOC.out HPX.out (by decide) j hj e), own_turned HOD.out htz (fun j hj e => own_off HOD.out HPX.out (by decide) j hj e), hbp, HBZ.out⟩
    · go_simp
      obtain ⟨w106, hn6⟩ : ∃ W, W = (wa.alloc (.cells #[.slice none 0 0, .slice none 0 0, .int .i64 0, .int .i64 0, .slice none 0 0, .int .i64 0, .int .i64 0, .slice none 0 0, .int .i64 0, .int .i64 0, .slice none 0 0] tPartsC)).drew := ⟨_, rfl⟩
      have hbn : Below wa.heap.size wa w106 := by rw [hn6]; exact below_drew1 (below_alloc wa _)
      have HPX := Lib.hid (show w106.heap[wa.heap.size]? = some (.cells #[.slice none 0 0, .slice none 0 0, .int .i64 0, .int .i64 0, .slice none 0 0, .int .i64 0, .int .i64 0, .slice none 0 0, .int .i64 0, .int .i64 0, .slice none 0 0] tPartsC (0, 0)) by rw [hn6]; exact heap_new _ _)
      have HB106 := Lib.hid (hbn)
      rw [← hn6]
      obtain ⟨bp, hbpd⟩ : ∃ bp, bp = wa.heap.size := ⟨_, rfl⟩
      have hbp : wa.heap.size ≤ bp := by have := Nat.le_refl wa.heap.size; omega
      clear hbn hn6
      rw [← hbpd] at HPX
      rw [← hbpd]
      clear hbpd
      refine hK.out _ _ (HH.out _ HB106.out) (fun hHeld => ?_)
      clear hK K
      try simp only [Act.put, List.getElem_toArray, List.getElem_cons_zero, List.getElem_cons_succ, List.setIfInBounds_toArray, List.set_cons_zero, List.set_cons_succ]
      refine wpAnyH_ready (rs := [4]) (by kernel_rfl) (by simp) ?_
      refine AllReadyH.cons rfl (fun K hK => ?_) AllReadyH.nil
      refine step_append_any _ rfl (.const (.slice none 0 0)) (.tmp 11) tSagasC rfl wa.heap.size tSaga i0 (.agg #[.int .i64 0, .string ⟨#[]⟩, .string ⟨#[]⟩, .int .i64 0, .int .i64 0, .int .i64 0, .int .i64 0, .int .i64 0, .int .i64 0, .int .i64 0, .int .i64 0, .bool false]) 12 112 Tryd.underlying22 hi hz0 hz1 hz2 rfl (by decide) (.slice none 0 0) 0 [] rfl (World.ownsRow_nil _ _ _ _) c.l.length (c.l.flatMap encS) (HSRC.out _ HB106.out) (by unfold maxLen; omega) (by omega) (Below.size HB106.out) ?_
      intro v7 w107 ho hg hat
      rw [Nat.zero_add, List.nil_append] at ho
      obtain ⟨Ac, cc, rfl, _⟩ := own_slice ho
      have hbn := below_of_grown hg
      have HOC := Lib.hid ho
      have HB107 := Lib.hid (bch HB106.out hbn (Below.size HB106.out))
      have HPX := Lib.hid (heap_keep HPX.out hbn)
      clear ho hg hat hbn
      refine hK.out _ _ (HH.out _ HB107.out) (fun hHeld => ?_)
      clear hK K
      try simp only [Act.put, List.getElem_toArray, List.getElem_cons_zero, List.getElem_cons_succ, List.setIfInBounds_toArray, List.set_cons_zero, List.set_cons_succ]
      refine wpAnyH_ready (rs := [9]) (by kernel_rfl) (by simp) ?_
      refine AllReadyH.cons rfl (fun K hK => ?_) AllReadyH.nil
      go_simp
      refine (HLI.out _ HB107.out).mono ?_
      rintro e w108 ⟨v8, rfl, ho, hbn⟩
      obtain ⟨Ad, cd, rfl, _⟩ := own_slice ho
      have HOD := Lib.hid ho
      have HB108 := Lib.hid (bch HB107.out hbn (Below.size HB107.out))
      have HOC := Lib.hid (own_keep HOC.out hbn)
      have HPX := Lib.hid (heap_keep HPX.out hbn)
      clear ho hbn
      refine hK.out _ _ (HH.out _ HB108.out) (fun hHeld => ?_)
      clear hK K
      try simp only [Act.put, List.getElem_toArray, List.getElem_cons_zero, List.getElem_cons_succ, List.setIfInBounds_toArray, List.set_cons_zero, List.set_cons_succ]
      refine wpAnyH_take (i := 10) (v := ?vc10_11) rfl (by kernel_rfl) (by kernel_rfl) (by kernel_rfl) (fun _ _ _ h => h) (Or.inl ⟨by rfl, ?hyc10_11⟩) (by assumption) ?restc10_11
      case hyc10_11 => (intro w0 hSw; (try dsimp only at hSw); go_simp; try with_reducible rfl)
      case' restc10_11 => try simp only [Act.put, List.getElem_toArray, List.getElem_cons_zero, List.getElem_cons_succ, List.setIfInBounds_toArray, List.set_cons_zero, List.set_cons_succ]
      obtain ⟨m0, m1, m2, m3, m4, m5, m6, m7, m8, m9, m10⟩ := cell11 HPX.out
      obtain ⟨f0, f1, f2, f3, f4, f5, f6, f7, f8, f9, f10⟩ := froz11 HPX.out
      refine wpAnyH_ready (rs := [12]) (by kernel_rfl) (by simp) ?_
      refine AllReadyH.cons rfl (fun K hK => ?_) AllReadyH.nil
      go_simp
      have HBZ := Lib.hid (Below.turned HB108.out (turned_set11 w108 bp (.slice Ac c.l.length cc) (.slice Ad c.b.length cd) (.int .i64 0) (.int .i64 0) (.slice none 0 0) (.int .i64 0) (.int .i64 0) (.slice none 0 0) (.int .i64 0) (.int .i64 0) (.slice none 0 0)) (fun i h => by omega) (Below.size HB108.out))
      refine hK.out _ _ (HH.out _ HBZ.out) (fun hHeld => ?_)
      clear hK K
      try simp only [Act.put, List.getElem_toArray, List.getElem_cons_zero, List.getElem_cons_succ, List.setIfInBounds_toArray, List.set_cons_zero, List.set_cons_succ]
      refine wpAnyH_done (by kernel_rfl) ?_ _
      refine NoPanic.normal ?_
      go_wp2_with fail
      go_meet
      have htz := turned_set11 w108 bp (.slice Ac c.l.length cc) (.slice Ad c.b.length cd) (.int .i64 0) (.int .i64 0) (.slice none 0 0) (.int .i64 0) (.int .i64 0) (.slice none 0 0) (.int .i64 0) (.int .i64 0) (.slice none 0 0)
      exact ⟨bp, Ac, cc, Ad, cd, rfl, set11 HPX.out _ _ _ _ _ _ _ _ _ _ _, own_turned HOC.out htz (fun j hj e => own_off HOC.out HPX.out (by decide) j hj e), own_turned HOD.out htz (fun j hj e => own_off HOD.out HPX.out (by decide) j hj e), hbp, HBZ.out⟩
  case rest =>
    obtain ⟨bp, Ac, cc, Ad, cd, rfl, hp, ho1, ho2, hbp, hbl⟩ := hcut
    have HP := Lib.hid hp; have HO1 := Lib.hid ho1; have HO2 := Lib.hid ho2; have HBL := Lib.hid hbl
    clear hp ho1 ho2 hbl HSRC HLI y0 y1 HA
    go_wp2_with fail
    go_loopw [19] (fun i wr => ∃ (k : Nat) (p0 s0 : Int) (A0 : Option Addr) (n0 c0 : Nat) (p1 s1 : Int) (A1 : Option Addr) (n1 c1 : Nat) (p2 s2 : Int) (A2 : Option Addr) (n2 c2 : Nat), i = .int .i64 k ∧ k ≤ 3 ∧ Hid (wr.heap[bp]? = some (.cells #[.slice Ac c.l.length cc, .slice Ad c.b.length cd, .int .i64 p0, .int .i64 s0, .slice A0 n0 c0, .int .i64 p1, .int .i64 s1, .slice A1 n1 c1, .int .i64 p2, .int .i64 s2, .slice A2 n2 c2] tPartsC (0, 0))) ∧ Hid (0 < k → StO wr bp c.inn.a p0 s0 A0 n0 c0) ∧ Hid (1 < k → StO wr bp c.inn.b p1 s1 A1 n1 c1) ∧ Hid (2 < k → StO wr bp c.inn.c p2 s2 A2 n2 c2) ∧ Hid (wr.ownsRow wa.heap.size tSaga 12 (.slice Ac c.l.length cc) c.l.length (c.l.flatMap encS)) ∧ Hid (wr.ownsRow wa.heap.size tPost 5 (.slice Ad c.b.length cd) c.b.length (c.b.flatMap encP)) ∧ Hid (Below wa.heap.size wa wr)) (fun i _ => 3 - (intOf i).toNat)
    case atStart => exact ⟨0, 0, 0, none, 0, 0, 0, 0, none, 0, 0, 0, 0, none, 0, 0, rfl, by omega, HP.out, fun h => absurd h (by omega), fun h => absurd h (by omega), fun h => absurd h (by omega), HO1.out, HO2.out, HBL.out⟩
    case round =>
      obtain ⟨k, p0, s0, A0, n0, c0, p1, s1, A1, n1, c1, p2, s2, A2, n2, c2, rfl, hk, HPr, S0, S1, S2, HO1, HO2, HBL⟩ := hrel
      have HCr := Lib.hid (HC.out.below HBL.out)
      have HCC := Lib.hid (show wr.heap[cb]? = some (.cells #[.slice A c.l.length cl, .pointer (some ⟨bb, 0, none⟩), .int .i64 c.inn.a.1, .int .i64 c.inn.a.2.1, .slice I0 In0 Ic0, .int .i64 c.inn.b.1, .int .i64 c.inn.b.2.1, .slice I1 In1 Ic1, .int .i64 c.inn.c.1, .int .i64 c.inn.c.2.1, .slice I2 In2 Ic2, .map m] tCore (0, 0)) by simpa [inn10] using HCr.out.hc)
      obtain ⟨y0, y1, y2, y3, y4, y5, y6, y7, y8, y9, y10, y11⟩ := cell12 HCC.out
      obtain ⟨m0, m1, m2, m3, m4, m5, m6, m7, m8, m9, m10⟩ := cell11 HPr.out
      rcases (show k = 0 ∨ k = 1 ∨ k = 2 ∨ k = 3 by omega) with rfl | rfl | rfl | rfl
      · go_wp2_with (go_at_call 22; refine (newest_any wr (.agg #[.int .i64 c.inn.a.1, .int .i64 c.inn.a.2.1, .slice I0 In0 Ic0, .int .i64 c.inn.b.1, .int .i64 c.inn.b.2.1, .slice I1 In1 Ic1, .int .i64 c.inn.c.1, .int .i64 c.inn.c.2.1, .slice I2 In2 Ic2, .map m]) c.inn 0 (by decide) (by decide) HCr.out.ii HCr.out.fi).mono ?_; rintro e w5 ⟨A5, c5, rfl, hrd, hfar, hb5⟩; have HRD := Lib.hid hrd; have HFAR := Lib.hid hfar; have HB5 := Lib.hid hb5; have HP5 := Lib.hid (heap_keep HPr.out hb5); clear hrd hfar hb5 m0 m1 m2 m3 m4 m5 m6 m7 m8 m9 m10; obtain ⟨m0, m1, m2, m3, m4, m5, m6, m7, m8, m9, m10⟩ := cell11 HP5.out; obtain ⟨f0, f1, f2, f3, f4, f5, f6, f7, f8, f9, f10⟩ := froz11 HP5.out)
        obtain ⟨w6, hw6⟩ : ∃ w6, w6 = ((w5.setCell ⟨bp, 2, none⟩ (.int .i64 (c.inn.at 0).1)).setCell ⟨bp, 3, none⟩ (.int .i64 (c.inn.at 0).2.1)).setCell ⟨bp, 4, none⟩ (.slice A5 (c.inn.at 0).2.2.length c5) := ⟨_, rfl⟩
        have ht6 : Turned (fun j => j = bp) w5 w6 := by rw [hw6]; exact ((turned_set w5 bp _ _).trans (turned_set _ bp _ _)).trans (turned_set _ bp _ _)
        have hlt : bp < wr.heap.size := heap_lt HPr.out
        have HP6 : w6.heap[bp]? = some (.cells #[.slice Ac c.l.length cc, .slice Ad c.b.length cd, .int .i64 c.inn.a.1, .int .i64 c.inn.a.2.1, .slice A5 c.inn.a.2.2.length c5, .int .i64 p1, .int .i64 s1, .slice A1 n1 c1, .int .i64 p2, .int .i64 s2, .slice A2 n2 c2] tPartsC (0, 0)) := by rw [hw6]; simp [World.setCell, Array.getElem?_modify, HP5.out, In.Inn.at]
        have HB6 : Below wa.heap.size wa w6 := Below.turned (bch HBL.out HB5.out HBL.out.size) ht6 (fun i h => by omega) (Nat.le_trans HBL.out.size HB5.out.size)
        have HO16 := own_turned (own_keep HO1.out HB5.out) ht6 (fun j hj e => own_off (own_keep HO1.out HB5.out) HP5.out (by decide) j hj e)
        have HO26 := own_turned (own_keep HO2.out HB5.out) ht6 (fun j hj e => own_off (own_keep HO2.out HB5.out) HP5.out (by decide) j hj e)
        have HN : StO w6 bp c.inn.a c.inn.a.1 c.inn.a.2.1 A5 c.inn.a.2.2.length c5 := ⟨rfl, rfl, rfl, HRD.out.turned ht6 (fun ad n c' e hl => by have := HFAR.out ad n c' e hl; omega), fun ad n c' e hl => by have := HFAR.out ad n c' e hl; omega⟩
        go_roundw
        case rel =>
          rw [show _ = w6 from hw6.symm]
          exact ⟨1, _, _, _, _, _, _, _, _, _, _, _, _, _, _, _, by go_num, by omega, HP6, fun _ => HN, fun h => absurd h (by omega), fun h => absurd h (by omega), HO16, HO26, HB6⟩
        case measure => simp [intOf]
      · go_wp2_with (go_at_call 22; refine (newest_any wr (.agg #[.int .i64 c.inn.a.1, .int .i64 c.inn.a.2.1, .slice I0 In0 Ic0, .int .i64 c.inn.b.1, .int .i64 c.inn.b.2.1, .slice I1 In1 Ic1, .int .i64 c.inn.c.1, .int .i64 c.inn.c.2.1, .slice I2 In2 Ic2, .map m]) c.inn 1 (by decide) (by decide) HCr.out.ii HCr.out.fi).mono ?_; rintro e w5 ⟨A5, c5, rfl, hrd, hfar, hb5⟩; have HRD := Lib.hid hrd; have HFAR := Lib.hid hfar; have HB5 := Lib.hid hb5; have HP5 := Lib.hid (heap_keep HPr.out hb5); clear hrd hfar hb5 m0 m1 m2 m3 m4 m5 m6 m7 m8 m9 m10; obtain ⟨m0, m1, m2, m3, m4, m5, m6, m7, m8, m9, m10⟩ := cell11 HP5.out; obtain ⟨f0, f1, f2, f3, f4, f5, f6, f7, f8, f9, f10⟩ := froz11 HP5.out)
        obtain ⟨w6, hw6⟩ : ∃ w6, w6 = ((w5.setCell ⟨bp, 5, none⟩ (.int .i64 (c.inn.at 1).1)).setCell ⟨bp, 6, none⟩ (.int .i64 (c.inn.at 1).2.1)).setCell ⟨bp, 7, none⟩ (.slice A5 (c.inn.at 1).2.2.length c5) := ⟨_, rfl⟩
        have ht6 : Turned (fun j => j = bp) w5 w6 := by rw [hw6]; exact ((turned_set w5 bp _ _).trans (turned_set _ bp _ _)).trans (turned_set _ bp _ _)
        have hlt : bp < wr.heap.size := heap_lt HPr.out
        have HP6 : w6.heap[bp]? = some (.cells #[.slice Ac c.l.length cc, .slice Ad c.b.length cd, .int .i64 p0, .int .i64 s0, .slice A0 n0 c0, .int .i64 c.inn.b.1, .int .i64 c.inn.b.2.1, .slice A5 c.inn.b.2.2.length c5, .int .i64 p2, .int .i64 s2, .slice A2 n2 c2] tPartsC (0, 0)) := by rw [hw6]; simp [World.setCell, Array.getElem?_modify, HP5.out, In.Inn.at]
        have HB6 : Below wa.heap.size wa w6 := Below.turned (bch HBL.out HB5.out HBL.out.size) ht6 (fun i h => by omega) (Nat.le_trans HBL.out.size HB5.out.size)
        have HO16 := own_turned (own_keep HO1.out HB5.out) ht6 (fun j hj e => own_off (own_keep HO1.out HB5.out) HP5.out (by decide) j hj e)
        have HO26 := own_turned (own_keep HO2.out HB5.out) ht6 (fun j hj e => own_off (own_keep HO2.out HB5.out) HP5.out (by decide) j hj e)
        have HN : StO w6 bp c.inn.b c.inn.b.1 c.inn.b.2.1 A5 c.inn.b.2.2.length c5 := ⟨rfl, rfl, rfl, HRD.out.turned ht6 (fun ad n c' e hl => by have := HFAR.out ad n c' e hl; omega), fun ad n c' e hl => by have := HFAR.out ad n c' e hl; omega⟩
        go_roundw
        case rel =>
          rw [show _ = w6 from hw6.symm]
          exact ⟨2, _, _, _, _, _, _, _, _, _, _, _, _, _, _, _, by go_num, by omega, HP6, fun _ => (S0.out (by omega)).step HB5.out ht6, fun _ => HN, fun h => absurd h (by omega), HO16, HO26, HB6⟩
        case measure => simp [intOf]
      · go_wp2_with (go_at_call 22; refine (newest_any wr (.agg #[.int .i64 c.inn.a.1, .int .i64 c.inn.a.2.1, .slice I0 In0 Ic0, .int .i64 c.inn.b.1, .int .i64 c.inn.b.2.1, .slice I1 In1 Ic1, .int .i64 c.inn.c.1, .int .i64 c.inn.c.2.1, .slice I2 In2 Ic2, .map m]) c.inn 2 (by decide) (by decide) HCr.out.ii HCr.out.fi).mono ?_; rintro e w5 ⟨A5, c5, rfl, hrd, hfar, hb5⟩; have HRD := Lib.hid hrd; have HFAR := Lib.hid hfar; have HB5 := Lib.hid hb5; have HP5 := Lib.hid (heap_keep HPr.out hb5); clear hrd hfar hb5 m0 m1 m2 m3 m4 m5 m6 m7 m8 m9 m10; obtain ⟨m0, m1, m2, m3, m4, m5, m6, m7, m8, m9, m10⟩ := cell11 HP5.out; obtain ⟨f0, f1, f2, f3, f4, f5, f6, f7, f8, f9, f10⟩ := froz11 HP5.out)
        obtain ⟨w6, hw6⟩ : ∃ w6, w6 = ((w5.setCell ⟨bp, 8, none⟩ (.int .i64 (c.inn.at 2).1)).setCell ⟨bp, 9, none⟩ (.int .i64 (c.inn.at 2).2.1)).setCell ⟨bp, 10, none⟩ (.slice A5 (c.inn.at 2).2.2.length c5) := ⟨_, rfl⟩
        have ht6 : Turned (fun j => j = bp) w5 w6 := by rw [hw6]; exact ((turned_set w5 bp _ _).trans (turned_set _ bp _ _)).trans (turned_set _ bp _ _)
        have hlt : bp < wr.heap.size := heap_lt HPr.out
        have HP6 : w6.heap[bp]? = some (.cells #[.slice Ac c.l.length cc, .slice Ad c.b.length cd, .int .i64 p0, .int .i64 s0, .slice A0 n0 c0, .int .i64 p1, .int .i64 s1, .slice A1 n1 c1, .int .i64 c.inn.c.1, .int .i64 c.inn.c.2.1, .slice A5 c.inn.c.2.2.length c5] tPartsC (0, 0)) := by rw [hw6]; simp [World.setCell, Array.getElem?_modify, HP5.out, In.Inn.at]
        have HB6 : Below wa.heap.size wa w6 := Below.turned (bch HBL.out HB5.out HBL.out.size) ht6 (fun i h => by omega) (Nat.le_trans HBL.out.size HB5.out.size)
        have HO16 := own_turned (own_keep HO1.out HB5.out) ht6 (fun j hj e => own_off (own_keep HO1.out HB5.out) HP5.out (by decide) j hj e)
        have HO26 := own_turned (own_keep HO2.out HB5.out) ht6 (fun j hj e => own_off (own_keep HO2.out HB5.out) HP5.out (by decide) j hj e)
        have HN : StO w6 bp c.inn.c c.inn.c.1 c.inn.c.2.1 A5 c.inn.c.2.2.length c5 := ⟨rfl, rfl, rfl, HRD.out.turned ht6 (fun ad n c' e hl => by have := HFAR.out ad n c' e hl; omega), fun ad n c' e hl => by have := HFAR.out ad n c' e hl; omega⟩
        go_roundw
        case rel =>
          rw [show _ = w6 from hw6.symm]
          exact ⟨3, _, _, _, _, _, _, _, _, _, _, _, _, _, _, _, by go_num, by omega, HP6, fun _ => (S0.out (by omega)).step HB5.out ht6, fun _ => (S1.out (by omega)).step HB5.out ht6, fun _ => HN, HO16, HO26, HB6⟩
        case measure => simp [intOf]
      · obtain ⟨rfl, rfl, rfl, hr0, hf0⟩ := S0.out (by omega)
        obtain ⟨rfl, rfl, rfl, hr1, hf1⟩ := S1.out (by omega)
        obtain ⟨rfl, rfl, rfl, hr2, hf2⟩ := S2.out (by omega)
        have HXr := Lib.hid (heap_keep HX.out (HBL.out))
        obtain ⟨x0, x1, x2, x3, x4, x5, x6, x7, x8, x9, x10⟩ := cell11 HXr.out
        have hws := HWS.out
        have hf0x := fun (ad : Addr) (n c' : Nat) (e : Value.slice A0 c.inn.a.2.2.length c0 = .slice (some ad) n c') (hl : 0 < c.inn.a.2.2.length) => (by have := hf0 ad n c' e hl; omega : ad.block ≠ w.heap.size)
        have hf1x := fun (ad : Addr) (n c' : Nat) (e : Value.slice A1 c.inn.b.2.2.length c1 = .slice (some ad) n c') (hl : 0 < c.inn.b.2.2.length) => (by have := hf1 ad n c' e hl; omega : ad.block ≠ w.heap.size)
        have hf2x := fun (ad : Addr) (n c' : Nat) (e : Value.slice A2 c.inn.c.2.2.length c2 = .slice (some ad) n c') (hl : 0 < c.inn.c.2.2.length) => (by have := hf2 ad n c' e hl; omega : ad.block ≠ w.heap.size)
        clear hws
        obtain ⟨g0, g1, g2, g3, g4, g5, g6, g7, g8, g9, g10⟩ := froz11 HXr.out
        have HR0 := Lib.hid hr0; have HR1 := Lib.hid hr1; have HR2 := Lib.hid hr2
        clear hr0 hr1 hr2 S0 S1 S2
        go_wp2_with fail
        refine bodyPost_ret (v := .agg #[.slice Ac c.l.length cc, .slice Ad c.b.length cd, .int .i64 c.inn.a.1, .int .i64 c.inn.a.2.1, .slice A0 c.inn.a.2.2.length c0, .int .i64 c.inn.b.1, .int .i64 c.inn.b.2.1, .slice A1 c.inn.b.2.2.length c1, .int .i64 c.inn.c.1, .int .i64 c.inn.c.2.1, .slice A2 c.inn.c.2.2.length c2]) (by simp [results, Tryd.results26, go_sem, x0, x1, x2, x3, x4, x5, x6, x7, x8, x9, x10]) rfl ?_
        have htz := turned_set11 wr w.heap.size (.slice Ac c.l.length cc) (.slice Ad c.b.length cd) (.int .i64 c.inn.a.1) (.int .i64 c.inn.a.2.1) (.slice A0 c.inn.a.2.2.length c0) (.int .i64 c.inn.b.1) (.int .i64 c.inn.b.2.1) (.slice A1 c.inn.b.2.2.length c1) (.int .i64 c.inn.c.1) (.int .i64 c.inn.c.2.1) (.slice A2 c.inn.c.2.2.length c2)
        have hws := HWS.out
        exact ⟨Ac, cc, Ad, cd, A0, c0, A1, c1, A2, c2, rfl, own_base (own_turned HO1.out htz (fun j hj e => by have := (HO1.out.lt j hj).1; omega)) (by omega), own_base (own_turned HO2.out htz (fun j hj e => by have := (HO2.out.lt j hj).1; omega)) (by omega), HR0.out.turned htz hf0x, HR1.out.turned htz hf1x, HR2.out.turned htz hf2x, Below.turned (bch HB.out HBL.out HB.out.size) htz (fun i h => by omega) (Nat.le_trans HB.out.size HBL.out.size)⟩
end Go.Proofs.YtlfibaijpimocaaDoor
/- What the laid tables give: keys.Put, strconv.Itoa; the law's came. -/
namespace Go.Proofs.YtlfibaijpimocaaDoor
open Go.RowKit Go.Maps Co Key Rw Sa Od

theorem kw_pt {w : World} (h : KW w) : PT w := h.tab
theorem kw_itoa {w : World} (h : KW w) (n : Int) (W : World) (h0 : 0 ≤ n) (h1 : n ≤ 1073741824) (hW : Below w.heap.size w W) : Calls Tryd.prog 77 #[.int .i64 n] W fun e w' => e = .returned (.string ⟨(Lib.itoa n).toArray⟩) ∧ Below W.heap.size W w' := by
  refine (Tryd.strconv_Itoa n (by omega) (by omega) W (h.below hW).mw.tab).mono ?_
  rintro e w' ⟨rfl, k, os, rfl⟩
  exact ⟨rfl, below_growN _ _ _⟩
theorem came_at (w : World) (h : KW w) : Calls Tryd.prog 24 #[] w fun e w' => e = .returned (.bool true) ∧ Below w.heap.size w w' :=
  came_any w (kw_pt h) (fun o d W hW => putK_any o d W (h.below hW)) (fun n W h0 h1 hW => kw_itoa h n W h0 h1 hW)
end Go.Proofs.YtlfibaijpimocaaDoor
/- law24: CoreZero. -/
namespace Go.Proofs.YtlfibaijpimocaaDoor
open Go.RowKit Go.Maps Key Rw Sa Co

namespace Co
def sumB (b : List Po) : Nat → Int → Int
  | 0, _ => 0
  | n + 1, o => sumB b n o + balI b n o
theorem sumB_five {b : List Po} (h : ∀ p ∈ b, mayP p) (o : Int) : sumB b 5 o = 0 := by
  have := bal_zero h o
  simp only [sumB]
  push_cast
  omega
theorem sumB_bd {b : List Po} (h : ∀ a o, -439804651110400000 ≤ balI b a o ∧ balI b a o ≤ 439804651110400000) (o : Int) : ∀ n : Nat, -(439804651110400000 * (n : Int)) ≤ sumB b n o ∧ sumB b n o ≤ 439804651110400000 * (n : Int)
  | 0 => by simp [sumB]
  | n + 1 => by
    have h1 := sumB_bd h o n
    have h2 := h n o
    simp only [sumB]
    push_cast
    omega
theorem netC_bd {c : Cor} {n : Nat} (h : CoI c n) (o : Int) : 0 ≤ netC c o ∧ netC c o ≤ 1099511627776 := by
  unfold netC
  cases hs : c.l[o.toNat - 1]? with
  | none => simp
  | some s => exact net_bd (h.am s (List.mem_of_getElem? hs))
theorem netC_none {c : Cor} {o : Int} (h1 : 1 ≤ o) (h : (c.l.length : Int) < o) : netC c o = 0 := by unfold netC; rw [List.getElem?_eq_none (by omega)]
theorem netC_some {c : Cor} {o : Int} {s : Sg} (h : c.l[o.toNat - 1]? = some s) : netC c o = Sa.netI s := by unfold netC; rw [h]
end Co
set_option linter.unusedSimpArgs false in
set_option linter.unusedVariables false in
set_option maxRecDepth 100000 in
set_option maxHeartbeats 16000000 in
theorem lawCoreZero_walk (w : World) (hK : KW w) (v : Value) (l : List Ent) (hl : Ents w v l) :
    Calls Tryd.prog 6 #[v] w fun r w' => r = .returned (.bool true) ∧ Below w.heap.size w w' := by
  obtain ⟨Al, cl, rfl, hlc, hcm⟩ := SlK.shape hl
  have HL := Lib.hid hl; have HK := Lib.hid hK
  have hl63 : (l.length : Int) ≤ 9223372036854775807 := by unfold maxLen at hcm; omega
  clear hl hK
  go_enter Tryd.func6, Tryd.ntmps6
  go_wp2_with fail
  refine (egreats_any w _ l 60 HL.out).mono ?_
  rintro r w1 ⟨rfl, hb⟩
  have HL1 := Lib.hid (HL.out.keep hb); have HK1 := Lib.hid (HK.out.below hb); have HB1 := Lib.hid hb
  clear hb HL HK
  cases hG : entsG l 60 with
  | true =>
    go_wp2_with fail
    refine (came_at w1 HK1.out).mono ?_
    rintro r w2 ⟨rfl, hb⟩
    have HB2 := Lib.hid (bch HB1.out hb HB1.out.size)
    clear hb
    go_wp2_with fail
    go_ret
    exact ⟨rfl, HB2.out⟩
  | false =>
    have hlen := (entsG_not hG).2
    clear hG
    go_wp2_with fail
    refine (cnew_any w1).mono ?_
    rintro r w2 ⟨cb, bb, pm, bm, rfl, hc, hb⟩
    have HC2 := Lib.hid hc; have HB2 := Lib.hid hb
    clear hc hb
    go_wp2_with fail
    go_loopw [4] (fun i wr => ∃ (k : Nat) (vl vb vI : Value), i = .int .i64 k ∧ k ≤ l.length + 1 ∧ Hid (Cw w1.heap.size wr cb bb pm bm vl vb vI (ofL l (min k l.length))) ∧ Hid (Below w1.heap.size w1 wr)) (fun i _ => l.length + 1 - (intOf i).toNat)
    case atStart => exact ⟨0, _, _, _, rfl, by omega, by rw [Nat.zero_min]; exact HC2.out, HB2.out⟩
    case round =>
      obtain ⟨k, vl, vb, vI, rfl, hk, HC, HB⟩ := hrel
      by_cases hkl : k ≤ l.length
      · have hle : (k : Int) ≤ l.length := by omega
        rw [show min k l.length = k by omega] at HC
        obtain ⟨c, hcd⟩ : ∃ c, ofL l k = c := ⟨_, rfl⟩
        have HI := Lib.hid (ofL_inv l k hkl)
        have HCD := Lib.hid hcd
        rw [hcd] at HC HI
        clear hcd
        have hbl : c.b.length ≤ 3600 := by have := HI.out.bl; omega
        have hll : c.l.length ≤ 60 := HI.out.le
        go_wp2_with fail
        refine (cparts_any HC.out (by omega) (by omega)).mono ?_
        rintro r wA ⟨As, cs, Ap, cp, A0, c0, A1, c1, A2, c2, rfl, ho1, ho2, hr0, hr1, hr2, hb⟩
        obtain ⟨wp, hwp⟩ : ∃ wp, wp = wA.alloc (.cells #[.slice As c.l.length cs, .slice Ap c.b.length cp, .int .i64 c.inn.a.1, .int .i64 c.inn.a.2.1, .slice A0 c.inn.a.2.2.length c0, .int .i64 c.inn.b.1, .int .i64 c.inn.b.2.1, .slice A1 c.inn.b.2.2.length c1, .int .i64 c.inn.c.1, .int .i64 c.inn.c.2.1, .slice A2 c.inn.c.2.2.length c2] tPartsC) := ⟨_, rfl⟩
        have hb2 : Below wr.heap.size wr wp := by rw [hwp]; exact hb.alloc hb.size _
        have HPX := Lib.hid (show wp.heap[wA.heap.size]? = some (.cells #[.slice As c.l.length cs, .slice Ap c.b.length cp, .int .i64 c.inn.a.1, .int .i64 c.inn.a.2.1, .slice A0 c.inn.a.2.2.length c0, .int .i64 c.inn.b.1, .int .i64 c.inn.b.2.1, .slice A1 c.inn.b.2.2.length c1, .int .i64 c.inn.c.1, .int .i64 c.inn.c.2.1, .slice A2 c.inn.c.2.2.length c2] tPartsC (0, 0)) by rw [hwp]; exact heap_new _ _)
        have HR0 := Lib.hid (show Rd wp (.slice A0 c.inn.a.2.2.length c0) c.inn.a.2.2 by rw [hwp]; exact hr0.keep (below_alloc _ _))
        have HCp := Lib.hid (HC.out.below hb2); have HBp := Lib.hid (bch HB.out hb2 HB.out.size)
        have HWP := Lib.hid hwp
        have HBL := Lib.hid (HC.out.bk.many (by omega : c.b.length ≤ 100000))
        clear ho1 ho2 hr0 hr1 hr2 hb hb2 hwp HC HB
        go_upto_region 8 with (fail)
        rw [← HWP.out]
        generalize wA.heap.size = bp at HPX ⊢
        clear HWP
        go_wp2_with fail
        go_loopw [6] (fun o wr => ∃ n : Nat, o = .int .i64 n ∧ n ≤ 9 ∧ Hid (Below wp.heap.size wp wr)) (fun o _ => 9 - (intOf o).toNat)
        case atStart => exact ⟨0, rfl, by omega, Below.refl _ _⟩
        case round =>
          obtain ⟨n, rfl, hn, HBo⟩ := hrel
          by_cases hn8 : n ≤ 8
          · have hn8' : (n : Int) ≤ 8 := by omega
            have HCo := Lib.hid (HCp.out.below HBo.out)
            have hn0 : (0 : Int) ≤ n := by omega
            go_wp2_with fail
            go_loop [7, 8] (fun all a => ∃ m : Nat, a = .int .i64 m ∧ m ≤ 5 ∧ all = .int .i64 (sumB c.b m n)) (fun _ a => 5 - (intOf a).toNat)
            case atStart => exact ⟨0, rfl, by omega, rfl⟩
            case round =>
              obtain ⟨m, rfl, hm, rfl⟩ := hrel
              by_cases hm4 : m ≤ 4
              · have hm4' : (m : Int) ≤ 4 := by omega
                have hs1 := sumB_bd HBL.out n (m + 1)
                have hw1 : IntKind.i64.wrap (sumB c.b m n + balI c.b m n) = sumB c.b (m + 1) n := IntWalk.i64_in _ (by have e : sumB c.b (m + 1) n = sumB c.b m n + balI c.b m n := rfl; rw [← e]; push_cast at hs1; omega)
                go_wp2_with (go_at_call 27; refine (cbal_any HCo.out m n (by omega) (by omega)).mono ?_; rintro r w3 ⟨rfl, hw⟩; subst hw)
                go_round
                case rel => exact ⟨m + 1, by go_num, by omega, rfl⟩
                case measure => simp [intOf]; omega
              · obtain rfl : m = 5 := by omega
                have h50 := bneF (sumB_five HI.out.may n)
                by_cases hz : n = 0
                · subst hz
                  have h50 := bneF (sumB_five HI.out.may 0)
                  go_wp2_with fail
                  go_roundw
                  case rel => exact ⟨1, by go_num, by omega, HBo.out⟩
                  case measure => simp [intOf]
                · have hz' := beqF (show ¬ (n : Int) = 0 by omega)
                  have h1n : (1 : Int) ≤ n := by omega
                  go_wp2_with fail
                  go_loopw [9, 11] (fun said q wr => ∃ m : Nat, q = .int .i64 m ∧ m ≤ c.inn.a.2.2.length ∧ said = .int .i64 (saidO (c.inn.a.2.2.take m) n) ∧ Hid (Below wp.heap.size wp wr)) (fun _ q _ => c.inn.a.2.2.length - (intOf q).toNat)
                  case atStart => exact ⟨0, rfl, by omega, rfl, HBo.out⟩
                  case round =>
                    obtain ⟨m, rfl, hm, rfl, HBq⟩ := hrel
                    have hsl : c.inn.a.2.2.length ≤ 400 := In.ok_len HI.out.fi.a
                    have HPq := Lib.hid (heap_keep HPX.out HBq.out)
                    have p4 := cell_at HPq.out 4 rfl
                    by_cases hml : m < c.inn.a.2.2.length
                    · obtain ⟨x, hx⟩ : ∃ x, c.inn.a.2.2[m]? = some x := ⟨_, List.getElem?_eq_getElem hml⟩
                      obtain ⟨g, off, n', c', e, hd⟩ := HR0.out.cells HBq.out hx
                      injection e with e1 e2 e3; subst e1; clear e2 e3
                      have hsx := saidO_succ hx (n : Int)
                      have hbd := saidO_bd (ok_amts HI.out.fi.a) hsl m n
                      have hbd2 := saidO_bd (ok_amts HI.out.fi.a) hsl (m + 1) n
                      obtain ⟨⟨xo, xd⟩, xc, xa, xq⟩ := x
                      obtain ⟨d0, d1, d2, d3, d4⟩ := hd
                      have hml' : (m : Int) < c.inn.a.2.2.length := by omega
                      have hm0 : (0 : Int) ≤ m := by omega
                      obtain ⟨wq, hwq⟩ : ∃ wq, wq = wr.alloc (.cells #[.int .i64 xo, .int .i64 xd, .int .i64 xc, .int .i64 xa, .int .i64 xq] tRow) := ⟨_, rfl⟩
                      have HXq := Lib.hid (show wq.heap[wr.heap.size]? = some (.cells #[.int .i64 xo, .int .i64 xd, .int .i64 xc, .int .i64 xa, .int .i64 xq] tRow (0, 0)) by rw [hwq]; exact heap_new _ _)
                      have HBw := Lib.hid (show Below wp.heap.size wp wq by rw [hwq]; exact HBq.out.alloc HBq.out.size _)
                      have HWQ := Lib.hid hwq
                      clear hwq hx
                      go_upto_region 24 with (fail)
                      rw [← HWQ.out]
                      clear d0 d1 d2 d3 d4 p4 HWQ
                      generalize wr.heap.size = bx at HXq ⊢
                      obtain ⟨r0, r1, r2, r3, r4⟩ := cell5 HXq.out
                      have hcase : (xo = n ∧ xc = 1 ∧ xd = 1) ∨ (xo = n ∧ xc = 1 ∧ xd = 4) ∨ (xo = n ∧ xc = 1 ∧ xd ≠ 1 ∧ xd ≠ 4) ∨ (xo = n ∧ xc ≠ 1) ∨ xo ≠ n := by omega
                      rcases hcase with ⟨rfl, rfl, rfl⟩ | ⟨rfl, rfl, rfl⟩ | ⟨rfl, rfl, g1, g2⟩ | ⟨rfl, g1⟩ | g1
                      · have hs1 : said1 ((n, 1), 1, xa, xq) n = xa := by simp [said1]
                        have hw1 : IntKind.i64.wrap (saidO (c.inn.a.2.2.take m) n + xa) = saidO (c.inn.a.2.2.take m) n + xa := IntWalk.i64_in _ (by omega)
                        rw [hs1] at hsx
                        clear hs1
                        go_wp2_with fail
                        go_roundw
                        case rel => exact ⟨m + 1, by go_num, by omega, by rw [hsx], HBw.out⟩
                        case measure => simp [intOf]; omega
                      · have hs1 : said1 ((n, 4), 1, xa, xq) n = -xa := by simp [said1]
                        have hw1 : IntKind.i64.wrap (saidO (c.inn.a.2.2.take m) n - xa) = saidO (c.inn.a.2.2.take m) n - xa := IntWalk.i64_in _ (by omega)
                        rw [hs1] at hsx
                        clear hs1
                        go_wp2_with fail
                        go_roundw
                        case rel => exact ⟨m + 1, by go_num, by omega, by rw [hsx]; rfl, HBw.out⟩
                        case measure => simp [intOf]; omega
                      · have hs1 : said1 ((n, xd), 1, xa, xq) n = 0 := by simp [said1, g1, g2]
                        have q1 := beqF g1; have q2 := beqF g2
                        rw [hs1, Int.add_zero] at hsx
                        clear hs1
                        go_wp2_with fail
                        go_roundw
                        case rel => exact ⟨m + 1, by go_num, by omega, by rw [hsx], HBw.out⟩
                        case measure => simp [intOf]; omega
                      · have hs1 : said1 ((n, xd), xc, xa, xq) n = 0 := by simp [said1, g1]
                        have q1 := beqF g1
                        rw [hs1, Int.add_zero] at hsx
                        clear hs1
                        go_wp2_with fail
                        go_roundw
                        case rel => exact ⟨m + 1, by go_num, by omega, by rw [hsx], HBw.out⟩
                        case measure => simp [intOf]; omega
                      · have hs1 : said1 ((xo, xd), xc, xa, xq) n = 0 := by simp [said1, g1]
                        have q1 := beqF g1
                        rw [hs1, Int.add_zero] at hsx
                        clear hs1
                        go_wp2_with fail
                        go_roundw
                        case rel => exact ⟨m + 1, by go_num, by omega, by rw [hsx], HBw.out⟩
                        case measure => simp [intOf]; omega
                    · obtain rfl : m = c.inn.a.2.2.length := by omega
                      rw [List.take_length]
                      have HNS := Lib.hid (net_said HI.out.fi (o := (n : Int)) ⟨h1n, by omega⟩)
                      have hsus := HI.out.sus n h1n (by omega)
                      have hcash := HI.out.cash n h1n (by omega)
                      rw [HNS.out] at hsus hcash
                      have hnb := netC_bd HI.out (n : Int)
                      have hsb := saidO_bd (ok_amts HI.out.fi.a) hsl c.inn.a.2.2.length n
                      rw [List.take_length] at hsb
                      have HCq := Lib.hid (HCp.out.below HBq.out)
                      go_wp2_with fail
                      refine (corder_any HCq.out n (by omega) (by omega)).mono ?_
                      rintro r w5 ⟨hyes, hno, hb⟩
                      by_cases ho : (c.l.length : Int) < n
                      · obtain rfl := hno (.inr ho)
                        obtain ⟨w6, hw6⟩ : ∃ w6, w6 = w5.alloc (.cells (sgA sg0) tSaga) := ⟨_, rfl⟩
                        have hb6 : Below wr.heap.size wr w6 := by rw [hw6]; exact hb.alloc hb.size _
                        have HB6 := Lib.hid (bch HBq.out hb6 HBq.out.size); have HC6 := Lib.hid (HCq.out.below hb6)
                        have HW6 := Lib.hid hw6
                        clear hb hb6 hw6 hyes hno
                        rw [netC_none h1n ho] at hsus hnb
                        go_upto_region 29 with (fail)
                        rw [← HW6.out]
                        clear HW6
                        have hw1 : IntKind.i64.wrap (0 - saidO c.inn.a.2.2 n) = 0 - saidO c.inn.a.2.2 n := IntWalk.i64_in _ (by omega)
                        have q1 := bneF hsus
                        have q2 := bneF hcash
                        have HA1 := Lib.hid (cbal_any HC6.out 1 n (by omega) (by omega)); have HA2 := Lib.hid (cbal_any HC6.out 2 n (by omega) (by omega))
                        go_wp2_with (go_at_call 27; (first | (with_reducible refine (HA1.out).mono ?_) | (with_reducible refine (HA2.out).mono ?_)); rintro r w7 ⟨rfl, hw⟩; subst hw)
                        go_roundw
                        case rel => exact ⟨n + 1, by go_num, by omega, HB6.out⟩
                        case measure => simp [intOf]; omega
                      · obtain ⟨s, hs⟩ : ∃ s, c.l[(n : Int).toNat - 1]? = some s := ⟨_, List.getElem?_eq_getElem (by omega)⟩
                        obtain rfl := hyes s h1n hs
                        obtain ⟨w6, hw6⟩ : ∃ w6, w6 = w5.alloc (.cells (sgA s) tSaga) := ⟨_, rfl⟩
                        have hb6 : Below wr.heap.size wr w6 := by rw [hw6]; exact hb.alloc hb.size _
                        have HS6 := Lib.hid (show w6.heap[w5.heap.size]? = some (.cells (sgA s) tSaga (0, 0)) by rw [hw6]; exact heap_new _ _)
                        have HB6 := Lib.hid (bch HBq.out hb6 HBq.out.size)
                        have HW6 := Lib.hid hw6
                        rw [netC_some hs] at hsus hnb
                        clear hb hw6 hyes hno hs
                        go_upto_region 29 with (fail)
                        rw [← HW6.out]
                        generalize w5.heap.size = b5 at HS6 ⊢
                        clear HW6
                        obtain ⟨z0, z1, z2, z3, z4, z5, z6, z7, z8, z9, z10, z11⟩ := sg_box HS6.out
                        go_wp2_with fail
                        refine (net_any s _).mono ?_
                        rintro r w8 ⟨rfl, hb8⟩
                        have HC6 := Lib.hid (HCq.out.below (bch hb6 hb8 hb6.size)); have HB6 := Lib.hid (bch HB6.out hb8 HB6.out.size)
                        clear hb8 hb6 z0 z1 z2 z3 z4 z5 z6 z7 z8 z9 z10 z11
                        have hw1 : IntKind.i64.wrap (Sa.netI s - saidO c.inn.a.2.2 n) = Sa.netI s - saidO c.inn.a.2.2 n := IntWalk.i64_in _ (by omega)
                        have q1 := bneF hsus
                        have q2 := bneF hcash
                        have HA1 := Lib.hid (cbal_any HC6.out 1 n (by omega) (by omega)); have HA2 := Lib.hid (cbal_any HC6.out 2 n (by omega) (by omega))
                        go_wp2_with (go_at_call 27; (first | (with_reducible refine (HA1.out).mono ?_) | (with_reducible refine (HA2.out).mono ?_)); rintro r w7 ⟨rfl, hw⟩; subst hw)
                        go_roundw
                        case rel => exact ⟨n + 1, by go_num, by omega, HB6.out⟩
                        case measure => simp [intOf]; omega
          · obtain rfl : n = 9 := by omega
            have HCo := Lib.hid (HCp.out.below HBo.out); have HBB := Lib.hid (bch HBp.out HBo.out HBp.out.size)
            by_cases hkl2 : k < l.length
            · have hlt : (k : Int) < l.length := by omega
              obtain ⟨x, hx⟩ : ∃ x, l[k]? = some x := ⟨_, List.getElem?_eq_getElem hkl2⟩
              obtain ⟨g, off, n', c', Ax, cx, e, hg, hr, hd⟩ := HL1.out.cells hx
              obtain ⟨d0, d1, d2, d3, d4, d5, d6, d7, d8, d9, d10, d11⟩ := hd _ HBB.out
              injection e with e1 e2 e3; subst e1; clear e2 e3
              have HR := Lib.hid (hr.below HBB.out)
              have HKo := Lib.hid (HK1.out.below HBB.out)
              have HE := Lib.hid (show ofL l (k + 1) = applyC c x by rw [ofL_succ hx, HCD.out])
              have hk0 : (0 : Int) ≤ k := by omega
              clear hx hr hd
              go_wp2_with fail
              have HBX := Lib.hid (fun W (hW : Below w1.heap.size wr W) => (Below.trans HBB.out hW : Below w1.heap.size w1 W))
              refine (capply_any HCo.out x _ HR.out.rd (kw_pt HKo.out) (HI.out.ok (by omega) x) HR.out.nn.ko (fun W hW => putK_any _ _ W (HK1.out.below (HBX.out W hW))) (fun n W h0 h1 hW => kw_itoa (HK1.out.below (HBX.out W hW)) n W h0 h1 (Below.refl _ _))).mono ?_
              rintro r w9 ⟨vl', vb', vI', rfl, hc9, ht9, _, _⟩
              have hb9 : Below w1.heap.size w1 w9 := Below.turned HBB.out ht9 (fun i h => (HCo.out.ls h).1) HBB.out.size
              have HC9 := Lib.hid hc9; have HB9 := Lib.hid hb9
              clear hc9 ht9 hb9
              go_wp2_with fail
              go_roundw
              case rel => exact ⟨k + 1, vl', vb', vI', by go_num, by omega, by rw [show min (k + 1) l.length = k + 1 by omega, HE.out]; exact HC9.out, HB9.out⟩
              case measure => simp [intOf]; omega
            · obtain rfl : k = l.length := by omega
              have hlt : ¬ (l.length : Int) < l.length := by omega
              go_wp2_with fail
              go_roundw
              case rel => exact ⟨l.length + 1, vl, vb, vI, by go_num, by omega, by rw [show min (l.length + 1) l.length = l.length by omega, HCD.out]; exact HCo.out, HBB.out⟩
              case measure => simp [intOf]
      · obtain rfl : k = l.length + 1 := by omega
        have hle : ¬ ((l.length + 1 : Nat) : Int) ≤ l.length := by omega
        go_wp2_with fail
        refine (came_at wr (HK1.out.below HB.out)).mono ?_
        rintro r w2 ⟨rfl, hb⟩
        have HB2 := Lib.hid (bch (bch HB1.out HB.out HB1.out.size) hb (Nat.le_trans HB1.out.size HB.out.size))
        clear hb
        go_wp2_with fail
        go_ret
        exact ⟨rfl, HB2.out⟩
end Go.Proofs.YtlfibaijpimocaaDoor

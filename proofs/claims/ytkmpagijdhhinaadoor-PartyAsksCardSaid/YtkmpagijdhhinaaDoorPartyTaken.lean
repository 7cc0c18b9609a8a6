/- What is taken of goods: keys that read, and what stands at them. -/
import Derived.Test.YtkmpagijdhhinaaDoorPartyObj
namespace Go.Proofs.YtkmpagijdhhinaaDoor
open Go.RowKit Go.Maps Key Od Pa

theorem byteI_bd (s : List UInt8) (i : Nat) : 0 ≤ byteI s i ∧ byteI s i ≤ 255 := by
  unfold byteI
  cases h : s[i]? with
  | none => simp
  | some c => have := c.toNat_lt; simp; omega
theorem lit_u8 (d : Nat) (z : Int) (h : (Lit.int .u8 z).wf = true) : Tryd.prog.keyLits (d + 1) 5 [.int .u8 z] = some [.int .u8 z] := by
  simp [Program.keyLits, Tryd.underlying5, h]
theorem lit_int (d : Nat) (z : Int) (h : (Lit.int .i64 z).wf = true) : Tryd.prog.keyLits (d + 1) 3 [.int .i64 z] = some [.int .i64 z] := by
  simp [Program.keyLits, Tryd.underlying3, h]
theorem cells8 : Tryd.prog.cellsOf 72 = 8 := by kernel_rfl
theorem cells1 : Tryd.prog.cellsOf 5 = 1 := by kernel_rfl
theorem cellsi : Tryd.prog.cellsOf 3 = 1 := by kernel_rfl
theorem lit_arr (d : Nat) (z0 z1 z2 z3 z4 z5 z6 z7 : Int) (h0 : (Lit.int .u8 z0).wf = true) (h1 : (Lit.int .u8 z1).wf = true) (h2 : (Lit.int .u8 z2).wf = true) (h3 : (Lit.int .u8 z3).wf = true) (h4 : (Lit.int .u8 z4).wf = true) (h5 : (Lit.int .u8 z5).wf = true) (h6 : (Lit.int .u8 z6).wf = true) (h7 : (Lit.int .u8 z7).wf = true) :
    ∃ L, Tryd.prog.keyLits (d + 1 + 1) 72 [.int .u8 z0, .int .u8 z1, .int .u8 z2, .int .u8 z3, .int .u8 z4, .int .u8 z5, .int .u8 z6, .int .u8 z7] = some L := by
  unfold Program.keyLits
  rw [Tryd.underlying72]
  simp only [cells8, cells1, show List.range 8 = [0, 1, 2, 3, 4, 5, 6, 7] from rfl, List.length_cons, List.length_nil, if_true, List.mapM_cons, List.mapM_nil, Nat.zero_mul, Nat.one_mul, Nat.reduceMul, List.drop_zero, List.drop_succ_cons, List.take_succ_cons, List.take_zero, lit_u8 d _ h0, lit_u8 d _ h1, lit_u8 d _ h2, lit_u8 d _ h3, lit_u8 d _ h4, lit_u8 d _ h5, lit_u8 d _ h6, lit_u8 d _ h7]
  exact ⟨_, rfl⟩
set_option maxRecDepth 100000 in
theorem goods_reads (s : List UInt8) (hs : s.length ≤ 8) : ∃ l, keyOf Tryd.prog tGoods (mkGoods s) = some l := by
  have wz : ∀ i, (Lit.int .u8 (byteI s i)).wf = true := fun i => by have := byteI_bd s i; simp [Lit.wf, IntKind.min, IntKind.max, IntKind.signed, IntKind.bits]; omega
  have wn : (Lit.int .i64 (s.length : Int)).wf = true := by simp [Lit.wf, IntKind.min, IntKind.max, IntKind.signed, IntKind.bits]; omega
  have hf : (mkGoods s).formed Tryd.prog tGoods = true := by kernel_rfl
  have hk : Tryd.prog.keyType tGoods = true := by kernel_rfl
  have hc : Tryd.prog.cellsOf tGoods = 9 := by kernel_rfl
  obtain ⟨d, hd⟩ : ∃ d, Tryd.prog.types.size = d + 1 + 1 := ⟨Tryd.prog.types.size - 2, by have : 1 < Tryd.prog.types.size := of_decide_eq_true (by kernel_rfl); omega⟩
  have hl : ∃ L, Tryd.prog.keyLits (Tryd.prog.types.size + 1) tGoods (mkGoods s).cells.toList = some L := by
    rw [hd]
    obtain ⟨L, hL⟩ := lit_arr d _ _ _ _ _ _ _ _ (wz 0) (wz 1) (wz 2) (wz 3) (wz 4) (wz 5) (wz 6) (wz 7)
    have hn := lit_int (d + 1) _ wn
    unfold Program.keyLits
    rw [Tryd.underlying74]
    simp only [mkGoods, Value.cells, hc, List.length_cons, List.length_nil, List.mapM_cons, List.mapM_nil, cells8, cellsi, List.drop_zero, List.drop_succ_cons, List.take_succ_cons, List.take_zero, hL, hn]
    exact ⟨_, (if_pos ⟨trivial, by decide +kernel⟩).trans rfl⟩
  obtain ⟨L, hL⟩ := hl
  unfold keyOf
  rw [Tryd.underlying74]
  simp only [hf, hk, hL, Bool.and_self, if_true, Option.map_some]
  exact ⟨_, rfl⟩

theorem lookT_mem {T : List (List UInt8 × Int)} (hp : T.Pairwise (fun p q => mkGoods p.1 ≠ mkGoods q.1)) {s : List UInt8} {v : Int} (h : (s, v) ∈ T) : lookT T s = v := by
  unfold lookT
  cases hf : T.find? (fun x => decide (x.1 = s)) with
  | none =>
    have := List.find?_eq_none.1 hf _ h
    simp at this
  | some x =>
    have h1 := List.mem_of_find?_eq_some hf
    have h2 : x.1 = s := by have := List.find?_some hf; simpa using this
    have : x = (s, v) := by
      obtain ⟨i, hi⟩ := List.getElem?_of_mem h1
      obtain ⟨j, hj⟩ := List.getElem?_of_mem h
      obtain ⟨hi1, hi2⟩ := List.getElem?_eq_some_iff.1 hi
      obtain ⟨hj1, hj2⟩ := List.getElem?_eq_some_iff.1 hj
      rcases Nat.lt_trichotomy i j with hlt | rfl | hlt
      · have := List.pairwise_iff_getElem.1 hp i j hi1 hj1 hlt
        rw [hi2, hj2, h2] at this
        exact absurd rfl this
      · rw [hi] at hj
        exact Option.some.inj hj
      · have := List.pairwise_iff_getElem.1 hp j i hj1 hi1 hlt
        rw [hi2, hj2, h2] at this
        exact absurd rfl this
    rw [this]
    rfl
theorem lookT_none {T : List (List UInt8 × Int)} {s : List UInt8} (h : ∀ p ∈ T, p.1 ≠ s) : lookT T s = 0 := by
  unfold lookT
  rw [List.find?_eq_none.2 (fun x hx => by simpa using h x hx)]
  rfl
theorem look_taken {w : World} {tk : Nat} {T : List (List UInt8 × Int)} (h : MapL Tryd.prog tGoods mkGoods mkInt w tk T) (s : List UInt8) (hs : s.length ≤ 8) : (Instr.lookup tTaken (.map (some tk)) (mkGoods s) false).run Tryd.prog w = .ok (.int .i64 (lookT T s)) w := by
  obtain ⟨l, hl⟩ := goods_reads s hs
  rcases h.look lawGoods mapTaken (zeroInt w) hl (mkGoods_inj s hs) with ⟨v, hv, _, r⟩ | ⟨hn, _, r⟩
  · rw [lookT_mem h.apart hv]
    exact r
  · rw [lookT_none hn]
    exact r
theorem used_append (g : List (Int × List UInt8 × Int)) (x : Int × List UInt8 × Int) (s : List UInt8) : used (g ++ [x]) s = used g s + if x.2.1 = s then x.2.2 else 0 := by
  unfold used
  rw [List.map_append, List.sum_append]
  simp
theorem lookT_put (T : List (List UInt8 × Int)) (s t : List UInt8) (v : Int) : lookT ((s, v) :: without T s) t = if s = t then v else lookT T t := by
  unfold lookT
  by_cases e : s = t
  · subst e
    simp
  · rw [if_neg e, List.find?_cons_of_neg (by simpa using e)]
    congr 2
    unfold without
    rw [List.find?_filter]
    congr 1
    funext x
    by_cases hx : x.1 = t
    · simp [hx]
      exact fun e' => e e'.symm
    · simp [hx]
theorem taken_add {T : List (List UInt8 × Int)} {g : List (Int × List UInt8 × Int)} (h : TakenOk T g) {s : List UInt8} (hs : s.length ≤ 8) (o q : Int) : TakenOk ((s, lookT T s + q) :: without T s) (g ++ [(o, s, q)]) := by
  refine ⟨fun x hx => ?_, fun t ht => ?_⟩
  · rcases List.mem_cons.1 hx with rfl | hx
    · exact hs
    · exact h.1 x (mem_without.1 hx).1
  · rw [lookT_put, used_append, ← h.2 t ht]
    by_cases e : s = t
    · subst e; simp
    · simp [e]
/-- What an order had reserved is not any more. -/
theorem taken_free {T : List (List UInt8 × Int)} {g g' : List (Int × List UInt8 × Int)} (h : TakenOk T g) {s : List UInt8} (hs : s.length ≤ 8) (q : Int) (hg : ∀ t, used g' t = used g t - if s = t then q else 0) : TakenOk ((s, lookT T s - q) :: without T s) g' := by
  refine ⟨fun x hx => ?_, fun t ht => ?_⟩
  · rcases List.mem_cons.1 hx with rfl | hx
    · exact hs
    · exact h.1 x (mem_without.1 hx).1
  · rw [lookT_put, hg, ← h.2 t ht]
    by_cases e : s = t
    · subst e; simp
    · simp [e]
theorem what_add {W : List ((Int × Int) × List UInt8)} {r : List (Int × List UInt8)} (h : WhatOk W r) {o : Int} {s : List UInt8} (hn : ∀ t, (o, t) ∉ r) : WhatOk (((o, 0), s) :: without W (o, 0)) (r ++ [(o, s)]) := by
  rintro ⟨a, b⟩ t
  constructor
  · intro hx
    rcases List.mem_cons.1 hx with e | hx
    · injection e with e1 e2
      injection e1 with e3 e4
      subst e2; subst e3; subst e4
      exact ⟨rfl, by simp⟩
    · obtain ⟨h1, h2⟩ := (h (a, b) t).1 (mem_without.1 hx).1
      exact ⟨h1, by simp [h2]⟩
  · rintro ⟨h1, h2⟩
    simp only [] at h1
    subst h1
    rcases List.mem_append.1 h2 with h5 | h5
    · refine List.mem_cons.2 (.inr (mem_without.2 ⟨(h (a, 0) t).2 ⟨rfl, h5⟩, fun e => ?_⟩))
      injection e with e _
      exact hn t (by rw [← e]; exact h5)
    · rw [List.mem_singleton] at h5
      injection h5 with e1 e2
      subst e1; subst e2
      exact List.mem_cons_self ..
end Go.Proofs.YtkmpagijdhhinaaDoor

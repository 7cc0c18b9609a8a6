/- Rows of elements of k cells, whatever these are: appended, and read again. Entries in a row of the call's own. -/
import Derived.Test.YtnfbhocppijbjaaDoorCoreCame
import Derived.Test.YtnfbhocppijbjaaDoorSrcOf
import Derived.Test.YtnfbhocppijbjaaDoorCorePut
import Derived.Test.YtnfbhocppijbjaaDoorShelf
import Derived.Test.YtnfbhocppijbjaaDoorCoreOf
import Derived.Test.YtnfbhocppijbjaaDoorCoreSame
import Derived.Deep.DeepHandedRow
import Derived.Lib.LaidTab
import Derived.Stop.LaidErr
import Derived.Maps.OwnSet
import Derived.SizedLaws
import Derived.Test.YtnfbhocppijbjaaDoorCards
import Derived.Test.YtnfbhocppijbjaaDoorTie
import Derived.WalkKit
import Derived.ProofKit
import Derived.OpenShut
import Derived.ShutString
import Derived.ChangeOld
namespace Go.Proofs.YtnfbhocppijbjaaDoor
open Go.RowKit Go.Maps Key Rw Sa Co

theorem flat_getC {k : Nat} (h0 : 0 < k) : ∀ (C : List (List Value)) (_ : ∀ cs ∈ C, cs.length = k) (t : Nat), C.flatten[t]? = (C[t / k]?).bind fun x => x[t % k]?
  | [], _, t => by simp
  | x :: L, hk, t => by
    have hx := hk x (List.mem_cons_self ..)
    have hL := flat_getC h0 L (fun c hc => hk c (List.mem_cons_of_mem _ hc))
    rw [List.flatten_cons]
    by_cases ht : t < k
    · rw [List.getElem?_append_left (by rw [hx]; exact ht), Nat.div_eq_of_lt ht, Nat.mod_eq_of_lt ht]; simp
    · rw [List.getElem?_append_right (by rw [hx]; omega), hx, hL, Nat.div_eq_sub_div (a := t) h0 (by omega), List.getElem?_cons_succ, Nat.mod_eq_sub_mod (a := t) (by omega)]
theorem flat_lenC {k : Nat} : ∀ (C : List (List Value)) (_ : ∀ cs ∈ C, cs.length = k), C.flatten.length = C.length * k
  | [], _ => by simp
  | x :: L, hk => by
    rw [List.flatten_cons, List.length_append, flat_lenC L (fun c hc => hk c (List.mem_cons_of_mem _ hc)), hk x (List.mem_cons_self ..), List.length_cons, Nat.add_mul]; omega
/-- What a slice of elements reads as, as a source of an append. -/
theorem slk_src {α : Type} {w : World} {B k : Nat} {R : List Value → α → Prop} {v : Value} {L : List α} (h : SlK w B k R v L) (h0 : 0 < k) (hn : NilOk v) (h1 : ∀ cs x, R cs x → ∀ u ∈ cs, u.oneCell' = true) :
    ∃ C : List (List Value), C.length = L.length ∧ (∀ cs ∈ C, cs.length = k) ∧ (∀ (i : Nat) cs x, C[i]? = some cs → L[i]? = some x → R cs x) ∧ SrcL w v L.length k C.flatten := by
  obtain ⟨A, n, c, rfl, rfl, hc, hm, hcell⟩ := h
  by_cases hz : L.length = 0
  · obtain rfl := List.length_eq_zero_iff.1 hz
    refine ⟨[], rfl, fun _ h => (by cases h), fun i cs x h => (by simp at h), by simp, fun u h => (by simp at h), ?_⟩
    rcases A with _ | ad
    · obtain rfl := hn 0 c rfl
      exact .inl ⟨rfl, rfl⟩
    · exact .inr ⟨ad, c, rfl, fun j x h => (by simp at h)⟩
  · have hex : ∀ i : Fin L.length, ∃ cs : List Value, cs.length = k ∧ R cs (L[i]'i.2) ∧ ∃ b o, A = some ⟨b, o, none⟩ ∧ ∀ j u, cs[j]? = some u → w.cell? ⟨b, o + i * k + j, none⟩ = some u := by
      intro i
      obtain ⟨b, o, cs, e, _, hk, hcs, hr⟩ := hcell i _ (List.getElem?_eq_getElem i.2)
      exact ⟨cs, hk, hr, b, o, e, hcs⟩
    obtain ⟨f, hf⟩ := Classical.axiomOfChoice hex
    have hlen : (List.ofFn f).length = L.length := List.length_ofFn
    have hget : ∀ i (hi : i < L.length), (List.ofFn f)[i]? = some (f ⟨i, hi⟩) := fun i hi => by rw [List.getElem?_ofFn, dif_pos hi]
    have hk : ∀ cs ∈ List.ofFn f, cs.length = k := by
      intro cs hcs
      obtain ⟨i, hi⟩ := List.getElem?_of_mem hcs
      have hil : i < L.length := by have := (List.getElem?_eq_some_iff.1 hi).1; omega
      rw [hget i hil] at hi
      rw [← Option.some.inj hi]
      exact (hf ⟨i, hil⟩).1
    refine ⟨List.ofFn f, hlen, hk, fun i cs x hi hx => ?_, by rw [flat_lenC _ hk, hlen], fun u hu => ?_, .inr ?_⟩
    · have hil := (List.getElem?_eq_some_iff.1 hx).1
      rw [hget i hil] at hi
      obtain rfl := Option.some.inj hi
      rw [List.getElem?_eq_getElem hil] at hx
      obtain rfl := Option.some.inj hx
      exact (hf ⟨i, hil⟩).2.1
    · obtain ⟨cs, hcs, hu⟩ := List.mem_flatten.1 hu
      obtain ⟨i, hi⟩ := List.getElem?_of_mem hcs
      have hil : i < L.length := by have := (List.getElem?_eq_some_iff.1 hi).1; omega
      rw [hget i hil] at hi
      obtain rfl := Option.some.inj hi
      exact h1 _ _ (hf ⟨i, hil⟩).2.1 u hu
    · obtain ⟨_, _, b, o, hA, _⟩ := hf ⟨0, by omega⟩
      refine ⟨⟨b, o, none⟩, c, by rw [hA], fun j x hj => ?_⟩
      rw [flat_getC h0 _ hk] at hj
      have hjl : j / k < L.length := by
        rcases Nat.lt_or_ge (j / k) L.length with h | h
        · exact h
        · rw [List.getElem?_eq_none (by omega)] at hj; cases hj
      rw [hget _ hjl] at hj
      obtain ⟨_, _, b', o', hA', hcs⟩ := hf ⟨j / k, hjl⟩
      rw [hA] at hA'
      injection hA' with hA'
      injection hA' with e1 e2
      subst e1; subst e2
      have := hcs _ _ hj
      rw [Addr.add_lit]
      rw [show o + j = o + j / k * k + j % k by rw [Nat.add_assoc, Nat.mul_comm, Nat.div_add_mod]]
      exact this
/-- A row of the call's own reads as elements. -/
theorem own_slk {α : Type} {w : World} {B k : Nat} {e : TypeId} {v : Value} {C : List (List Value)} {L : List α} {R : List Value → α → Prop} (h : w.ownsRow B e k v L.length C.flatten) (hC : C.length = L.length) (hk : ∀ cs ∈ C, cs.length = k) (h0 : 0 < k) (hR : ∀ (i : Nat) cs x, C[i]? = some cs → L[i]? = some x → R cs x) :
    SlK w w.heap.size k R v L := by
  rcases h.2 with ⟨rfl, hz⟩ | ⟨g, cap, cur, rfl, hB, hg, hc, hm, _⟩
  · rw [List.length_eq_zero_iff.1 hz]; exact SlK.nil _ _ _ _
  · refine ⟨_, _, _, rfl, rfl, hc, hm, fun i x hi => ?_⟩
    have hil := (List.getElem?_eq_some_iff.1 hi).1
    obtain ⟨cs, hcs⟩ : ∃ cs, C[i]? = some cs := ⟨_, List.getElem?_eq_getElem (by omega)⟩
    have hck := hk cs (List.mem_of_getElem? hcs)
    refine ⟨g, 0, cs, rfl, heap_lt hg, hck, fun j u hj => ?_, hR i cs x hcs hi⟩
    have hjk : j < k := by have := (List.getElem?_eq_some_iff.1 hj).1; omega
    have hlt : i * k + j < L.length * k := by
      calc i * k + j < i * k + k := by omega
        _ = (i + 1) * k := by rw [Nat.add_mul, Nat.one_mul]
        _ ≤ L.length * k := Nat.mul_le_mul_right _ hil
    rw [Nat.zero_add, h.cellAt _ hlt, flat_getC h0 C hk, show (i * k + j) / k = i by rw [Nat.mul_comm, Nat.mul_add_div h0, Nat.div_eq_of_lt hjk]; omega, show (i * k + j) % k = j by rw [Nat.mul_comm, Nat.mul_add_mod, Nat.mod_eq_of_lt hjk], hcs]
    exact hj
theorem ent_one (e : Ent) (A : Option Addr) (n c : Nat) : ∀ u ∈ entV e (.slice A n c), u.oneCell' = true := by
  intro u hu; simp [entV] at hu; rcases hu with rfl | rfl | rfl | rfl | rfl | rfl | rfl | rfl | rfl | rfl | rfl | rfl <;> rfl
end Go.Proofs.YtnfbhocppijbjaaDoor
/- What the laid tables give: keys.Put, strconv.Itoa; the law's came. -/
namespace Go.Proofs.YtnfbhocppijbjaaDoor
open Go.RowKit Go.Maps Co Key Rw Sa Od

theorem kw_pt {w : World} (h : KW w) : PT w := h.tab
theorem kw_itoa {w : World} (h : KW w) (n : Int) (W : World) (h0 : 0 ≤ n) (h1 : n ≤ 1073741824) (hW : Below w.heap.size w W) : Calls Tryd.prog 47 #[.int .i64 n] W fun e w' => e = .returned (.string ⟨(Lib.itoa n).toArray⟩) ∧ Below W.heap.size W w' := by
  refine (Tryd.strconv_Itoa n (by omega) (by omega) W (h.below hW).mw.tab).mono ?_
  rintro e w' ⟨rfl, k, os, rfl⟩
  exact ⟨rfl, below_growN _ _ _⟩
theorem came_at (w : World) (h : KW w) : Calls Tryd.prog 5 #[] w fun e w' => e = .returned (.bool true) ∧ Below w.heap.size w w' :=
  came_any w (kw_pt h) (fun o d W hW => putK_any o d W (h.below hW)) (fun n W h0 h1 hW => kw_itoa h n W h0 h1 hW)
end Go.Proofs.YtnfbhocppijbjaaDoor
/- law24: CoreParts. -/
namespace Go.Proofs.YtnfbhocppijbjaaDoor
open Go.RowKit Go.Maps Key Rw Sa Co Od

abbrev tEnts : TypeId := 22
theorem ent_info : (Tryd.prog.info? tEnt).map (fun i => (i.zero, i.size, i.bytes)) = some (some (.agg #[.int .i64 0, .int .i64 0, .string ⟨#[]⟩, .string ⟨#[]⟩, .int .i64 0, .int .i64 0, .int .i64 0, .int .i64 0, .int .i64 0, .int .i64 0, .int .i64 0, .slice none 0 0]), 12, 128) := by kernel_rfl
set_option linter.unusedSimpArgs false in
set_option linter.unusedVariables false in
set_option maxRecDepth 100000 in
set_option maxHeartbeats 16000000 in
theorem of_any (w : World) (hK : KW w) (v : Value) (l : List Ent) (hl : Ents w v l) (hn : l.length ≤ 1000) :
    Calls Tryd.prog 6 #[v] w fun e w' => ∃ cb bb pm bm vl vb vI, e = .returned (.pointer (some ⟨cb, 0, none⟩)) ∧ Cw w.heap.size w' cb bb pm bm vl vb vI (ofL l l.length) ∧ Below w.heap.size w w' := by
  obtain ⟨A, cl, rfl, hlc, hcm⟩ := SlK.shape hl
  have HL := Lib.hid hl; have HK := Lib.hid hK
  have hl63 : (l.length : Int) ≤ 9223372036854775807 := by unfold maxLen at hcm; omega
  clear hl hK
  go_enter Tryd.func6, Tryd.ntmps6
  go_wp2_with fail
  refine (cnew_any w).mono ?_
  rintro r w2 ⟨cb, bb, pm, bm, rfl, hc, hb⟩
  have HC2 := Lib.hid hc; have HB2 := Lib.hid hb
  clear hc hb
  go_wp2_with fail
  go_loopw [4] (fun i wr => ∃ (k : Nat) (vl vb vI : Value), i = .int .i64 k ∧ k ≤ l.length ∧ Hid (Cw w.heap.size wr cb bb pm bm vl vb vI (ofL l k)) ∧ Hid (Below w.heap.size w wr)) (fun i _ => l.length - (intOf i).toNat)
  case atStart => exact ⟨0, _, _, _, rfl, Nat.zero_le _, HC2.out, HB2.out⟩
  case round =>
    obtain ⟨k, vl, vb, vI, rfl, hk, HC, HB⟩ := hrel
    by_cases hkl : k < l.length
    · have hlt : (k : Int) < l.length := by omega
      obtain ⟨x, hx⟩ : ∃ x, l[k]? = some x := ⟨_, List.getElem?_eq_getElem hkl⟩
      obtain ⟨g, off, n', c', Ax, cx, e, hg, hr, hd⟩ := HL.out.cells hx
      obtain ⟨d0, d1, d2, d3, d4, d5, d6, d7, d8, d9, d10, d11⟩ := hd _ HB.out
      injection e with e1 e2 e3; subst e1; clear e2 e3
      have HR := Lib.hid (hr.below HB.out)
      have HKo := Lib.hid (HK.out.below HB.out)
      have HE := Lib.hid (show ofL l (k + 1) = applyC (ofL l k) x by rw [ofL_succ hx])
      have HI := Lib.hid (ofL_inv l k hk)
      have hk0 : (0 : Int) ≤ k := by omega
      clear hx hr hd
      obtain ⟨c, hc⟩ : ∃ c, ofL l k = c := ⟨_, rfl⟩
      rw [hc] at HC HE HI
      clear hc
      go_wp2_with fail
      have HBX := Lib.hid (fun W (hW : Below w.heap.size wr W) => (Below.trans HB.out hW : Below w.heap.size w W))
      refine (capply_any HC.out x _ HR.out.rd (kw_pt HKo.out) (HI.out.ok (by omega) x) HR.out.nn.ko (fun W hW => putK_any _ _ W (HK.out.below (HBX.out W hW))) (fun n W h0 h1 hW => kw_itoa (HK.out.below (HBX.out W hW)) n W h0 h1 (Below.refl _ _))).mono ?_
      rintro r w9 ⟨vl', vb', vI', rfl, hc9, ht9, _, _⟩
      have hb9 : Below w.heap.size w w9 := Below.turned HB.out ht9 (fun i h => (HC.out.ls h).1) HB.out.size
      have HC9 := Lib.hid hc9; have HB9 := Lib.hid hb9
      clear hc9 ht9 hb9
      go_wp2_with fail
      go_roundw
      case rel => exact ⟨k + 1, vl', vb', vI', by go_num, by omega, by rw [HE.out]; exact HC9.out, HB9.out⟩
      case measure => simp [intOf]; omega
    · obtain rfl : k = l.length := by omega
      go_wp2_with fail
      go_ret
      exact ⟨cb, bb, pm, bm, vl, vb, vI, rfl, HC.out, HB.out⟩
theorem src_keep {w w' : World} {v : Value} {l : List Ent} {news : List Value} (h : SrcL w v l.length 12 news) (hE : Ents w v l) (hb : Below w.heap.size w w') : SrcL w' v l.length 12 news := by
  obtain ⟨h1, h2, h3⟩ := h
  by_cases hz : l.length = 0
  · refine ⟨h1, h2, h3.imp id fun ⟨ad, c, e, h⟩ => ⟨ad, c, e, fun j x hj => ?_⟩⟩
    rw [hz] at h1
    have hn : news = [] := List.eq_nil_of_length_eq_zero (by simpa using h1)
    rw [hn] at hj
    simp at hj
  · obtain ⟨g, off, n, c, A, c', rfl, hg, _⟩ := Ents.cells hE (List.getElem?_eq_getElem (Nat.pos_of_ne_zero hz))
    refine ⟨h1, h2, h3.imp id fun ⟨ad, c, e, h⟩ => ⟨ad, c, e, fun j x hj => ?_⟩⟩
    injection e with e1
    injection e1 with e1
    subst e1
    exact (hb.cell (by rw [block_add]; exact hg)).trans (h j x hj)
/-- The rows of a core's statements are not many. -/
abbrev IcOk (c : Cor) : Prop := c.inn.a.2.2.length < 100000 ∧ c.inn.b.2.2.length < 100000 ∧ c.inn.c.2.2.length < 100000
theorem icok {c : Cor} {n : Nat} (h : CoI c n) : IcOk c := by
  have h0 := In.ok_len h.fi.a; have h1 := In.ok_len h.fi.b; have h2 := In.ok_len h.fi.c
  exact ⟨by omega, by omega, by omega⟩
set_option linter.unusedSimpArgs false in
set_option linter.unusedVariables false in
set_option maxRecDepth 100000 in
set_option maxHeartbeats 16000000 in
theorem lawCoreParts_walk (w : World) (hK : KW w) (v : Value) (l : List Ent) (hl : Ents w v l) (hnv : NilOk v) (y : Ent) (Ay : Option Addr) (cy : Nat) (hy : EntAt w (.slice Ay y.s.2.2.length cy) y) (x : Po) (hx : x.id.length ≤ maxLen) (hlb : l.length * 128 ≤ 140737488351232) :
    Calls Tryd.prog 3 #[v, .agg #[.int .i64 y.kind, .int .i64 y.o.1, .string ⟨y.o.2.1.toArray⟩, .string ⟨y.o.2.2.1.toArray⟩, .int .i64 y.o.2.2.2.1, .int .i64 y.o.2.2.2.2, .int .i64 y.k.1, .int .i64 y.k.2, .int .i64 y.code, .int .i64 y.s.1, .int .i64 y.s.2.1, .slice Ay y.s.2.2.length cy], .agg #[.string ⟨x.id.toArray⟩, .int .i64 x.ord, .int .i64 x.deb, .int .i64 x.cre, .int .i64 x.amt]] w fun e w' => e = .returned (.bool true) ∧ Below w.heap.size w w' := by
  obtain ⟨i0, hi, hz0, hz1, hz2⟩ := info_parts ent_info
  obtain ⟨j0, ji, jz0, jz1, jz2⟩ := info_parts post_info
  obtain ⟨k0, ki, kz0, kz1, kz2⟩ := info_parts saga_info
  obtain ⟨Al, cl, rfl, hlc, hcm⟩ := SlK.shape hl
  obtain ⟨wa, hwa⟩ : ∃ wa, (w.alloc (.cells #[.int .i64 y.kind, .int .i64 y.o.1, .string ⟨y.o.2.1.toArray⟩, .string ⟨y.o.2.2.1.toArray⟩, .int .i64 y.o.2.2.2.1, .int .i64 y.o.2.2.2.2, .int .i64 y.k.1, .int .i64 y.k.2, .int .i64 y.code, .int .i64 y.s.1, .int .i64 y.s.2.1, .slice Ay y.s.2.2.length cy] tEnt)).alloc (.cells #[.string ⟨x.id.toArray⟩, .int .i64 x.ord, .int .i64 x.deb, .int .i64 x.cre, .int .i64 x.amt] tPost) = wa := ⟨_, rfl⟩
  obtain ⟨hB, hXE, hXP⟩ := two_boxes' w _ _ hwa
  have HXE := Lib.hid hXE; have HXP := Lib.hid hXP; have HB := Lib.hid hB; have HWA := Lib.hid hwa; have HY := Lib.hid (hy.below hB); have HL := Lib.hid (hl.keep hB); have HK := Lib.hid (hK.below hB); have HNV := Lib.hid hnv; have HK0 := Lib.hid hK
  have hbe : w.heap.size + 1 < wa.heap.size := heap_lt hXP
  clear hXE hXP hB hwa hy hl hK hnv
  obtain ⟨m0, m1, m2, m3, m4, m5, m6, m7, m8, m9, m10, m11⟩ := cell12 HXE.out
  obtain ⟨p0, p1, p2, p3, p4⟩ := cell5 HXP.out
  obtain ⟨C, hCl, hCk, hCR, hCs⟩ := slk_src HL.out (by decide) HNV.out (fun cs x h u hu => by obtain ⟨A', c', e, _⟩ := h.at; rw [e] at hu; exact ent_one _ _ _ _ u hu)
  go_enter Tryd.func3, Tryd.ntmps3
  go_upto_region 1 with (fail)
  rw [HWA.out]
  have HOW := Lib.hid (show (wa.alloc (.cells #[.int .i64 y.kind, .int .i64 y.o.1, .string ⟨y.o.2.1.toArray⟩, .string ⟨y.o.2.2.1.toArray⟩, .int .i64 y.o.2.2.2.1, .int .i64 y.o.2.2.2.2, .int .i64 y.k.1, .int .i64 y.k.2, .int .i64 y.code, .int .i64 y.s.1, .int .i64 y.s.2.1, .slice Ay y.s.2.2.length cy] tEnt)).ownsRow wa.heap.size tEnt 12 (.slice (some ⟨wa.heap.size, 0, none⟩) 1 1) 1 [.int .i64 y.kind, .int .i64 y.o.1, .string ⟨y.o.2.1.toArray⟩, .string ⟨y.o.2.2.1.toArray⟩, .int .i64 y.o.2.2.2.1, .int .i64 y.o.2.2.2.2, .int .i64 y.k.1, .int .i64 y.k.2, .int .i64 y.code, .int .i64 y.s.1, .int .i64 y.s.2.1, .slice Ay y.s.2.2.length cy] from ⟨rfl, .inr ⟨wa.heap.size, 1, #[.int .i64 y.kind, .int .i64 y.o.1, .string ⟨y.o.2.1.toArray⟩, .string ⟨y.o.2.2.1.toArray⟩, .int .i64 y.o.2.2.2.1, .int .i64 y.o.2.2.2.2, .int .i64 y.k.1, .int .i64 y.k.2, .int .i64 y.code, .int .i64 y.s.1, .int .i64 y.s.2.1, .slice Ay y.s.2.2.length cy], rfl, Nat.le_refl _, heap_new _ _, Nat.le_refl _, by unfold maxLen; omega, rfl, rfl⟩⟩)
  have HSR := Lib.hid (src_keep hCs HL.out (below_alloc wa (.cells #[.int .i64 y.kind, .int .i64 y.o.1, .string ⟨y.o.2.1.toArray⟩, .string ⟨y.o.2.2.1.toArray⟩, .int .i64 y.o.2.2.2.1, .int .i64 y.o.2.2.2.2, .int .i64 y.k.1, .int .i64 y.k.2, .int .i64 y.code, .int .i64 y.s.1, .int .i64 y.s.2.1, .slice Ay y.s.2.2.length cy] tEnt)))
  have HBb := Lib.hid (below_alloc wa (.cells #[.int .i64 y.kind, .int .i64 y.o.1, .string ⟨y.o.2.1.toArray⟩, .string ⟨y.o.2.2.1.toArray⟩, .int .i64 y.o.2.2.2.1, .int .i64 y.o.2.2.2.2, .int .i64 y.k.1, .int .i64 y.k.2, .int .i64 y.code, .int .i64 y.s.1, .int .i64 y.s.2.1, .slice Ay y.s.2.2.length cy] tEnt)); have HCL := Lib.hid hCl; have HCK := Lib.hid hCk; have HCR := Lib.hid hCR
  clear hCl hCk hCR hCs
  go_wp2_with (at_builtin; refine wpList_append_any _ rfl (.tmp 17) (.tmp 18) tEnts rfl wa.heap.size tEnt i0 (.agg #[.int .i64 0, .int .i64 0, .string ⟨#[]⟩, .string ⟨#[]⟩, .int .i64 0, .int .i64 0, .int .i64 0, .int .i64 0, .int .i64 0, .int .i64 0, .int .i64 0, .slice none 0 0]) 12 128 Tryd.underlying22 hi hz0 hz1 hz2 rfl (by decide) (.slice (some ⟨wa.heap.size, 0, none⟩) 1 1) 1 [.int .i64 y.kind, .int .i64 y.o.1, .string ⟨y.o.2.1.toArray⟩, .string ⟨y.o.2.2.1.toArray⟩, .int .i64 y.o.2.2.2.1, .int .i64 y.o.2.2.2.2, .int .i64 y.k.1, .int .i64 y.k.2, .int .i64 y.code, .int .i64 y.s.1, .int .i64 y.s.2.1, .slice Ay y.s.2.2.length cy] rfl HOW.out l.length C.flatten HSR.out (by unfold maxLen; omega) (by omega) HBb.out.size ?_; intro v2 w2 ho2 hg2 hat2)
  have hbb2 : Below wa.heap.size wa w2 := Below.grown HBb.out hg2 HBb.out.size (fun j hj => by have e : j = wa.heap.size := (by simpa [Value.ownBlock] using hj.symm); omega)
  have HEN := Lib.hid (show Ents w2 v2 (y :: l) from own_slk (C := [.int .i64 y.kind, .int .i64 y.o.1, .string ⟨y.o.2.1.toArray⟩, .string ⟨y.o.2.2.1.toArray⟩, .int .i64 y.o.2.2.2.1, .int .i64 y.o.2.2.2.2, .int .i64 y.k.1, .int .i64 y.k.2, .int .i64 y.code, .int .i64 y.s.1, .int .i64 y.s.2.1, .slice Ay y.s.2.2.length cy] :: C) (by rw [List.flatten_cons, List.length_cons, Nat.add_comm]; exact ho2) (by simp [HCL.out]) (fun cs hcs => by rcases List.mem_cons.1 hcs with rfl | h; rfl; exact HCK.out cs h) (by decide) (fun i cs e hi he => by
      match i, hi, he with
      | 0, hi, he => (simp only [List.getElem?_cons_zero, Option.some.injEq] at hi he; subst hi; subst he; exact ⟨_, rfl, HY.out.nn, SlK.mono HY.out.rd.1 hbb2 hbb2.size (fun _ _ _ h => h), HY.out.rd.2⟩)
      | i + 1, hi, he => (simp only [List.getElem?_cons_succ] at hi he; exact ent_keep (HCR.out i cs e hi he) hbb2)))
  have HB2 := Lib.hid hbb2
  clear ho2 hg2 hat2 hbb2 HOW HSR HBb HCL HCK HCR
  go_wp2_with fail
  refine (egreats_any w2 v2 (y :: l) 41 HEN.out).mono ?_
  rintro r w3 ⟨rfl, hb⟩
  have HB3 := Lib.hid (bch HB2.out hb HB2.out.size)
  clear hb HEN HB2 m0 m1 m2 m3 m4 m5 m6 m7 m8 m9 m10 m11 p0 p1 p2 p3 p4
  have HK3 := Lib.hid (HK.out.below HB3.out); have HL3 := Lib.hid (HL.out.keep HB3.out); have HXE3 := Lib.hid (heap_keep HXE.out HB3.out); have HXP3 := Lib.hid (heap_keep HXP.out HB3.out); have HY3 := Lib.hid (HY.out.below HB3.out)
  have hs3 := HB3.out.size
  obtain ⟨p0, p1, p2, p3, p4⟩ := cell5 HXP3.out
  cases hG : entsG (y :: l) 41 with
  | true =>
    go_wp2_with fail
    refine (came_at w3 HK3.out).mono ?_
    rintro r w4 ⟨rfl, hb⟩
    have HBZ := Lib.hid (bch HB3.out hb HB3.out.size)
    clear hb
    go_wp2_with fail
    go_ret
    exact ⟨rfl, bch HB.out HBZ.out HB.out.size⟩
  | false =>
    have hlen := (entsG_not hG).2
    have hlen2 : l.length ≤ 40 := by rw [List.length_cons] at hlen; omega
    clear hG hlen
    by_cases hx2 : 200 < x.id.length
    · have hx2' : (200 : Int) < x.id.length := by omega
      go_wp2_with fail
      refine (came_at w3 HK3.out).mono ?_
      rintro r w4 ⟨rfl, hb⟩
      have HBZ := Lib.hid (bch HB3.out hb HB3.out.size)
      clear hb
      go_wp2_with fail
      go_ret
      exact ⟨rfl, bch HB.out HBZ.out HB.out.size⟩
    · have hx2' : ¬ (200 : Int) < x.id.length := by omega
      go_wp2_with fail
      refine (of_any w3 HK3.out _ l HL3.out (by omega)).mono ?_
      obtain ⟨c, hcd⟩ : ∃ c, ofL l l.length = c := ⟨_, rfl⟩
      have HI := Lib.hid (ofL_inv l l.length (Nat.le_refl _)); have HH := Lib.hid (ofL_hist l l.length (Nat.le_refl _))
      rw [hcd] at HI HH ⊢
      clear hcd
      rintro r w4 ⟨cb, bb, pm, bm, vl, vb, vI, rfl, hc, hb⟩
      have HC4 := Lib.hid hc; have HB4 := Lib.hid hb
      have hcw4 : ∀ j, Cs cb bb pm bm vl vb j → j < w4.heap.size := fun j hj => (hc.ls hj).2
      have hs4 : w3.heap.size ≤ w4.heap.size := hb.size
      clear hc hb
      have hll : c.l.length ≤ 60 := HI.out.le
      have hbl : c.b.length ≤ 2400 := by have := HI.out.bl; omega
      go_wp2_with fail
      refine (cparts_any HC4.out (by omega) (by omega)).mono ?_
      rintro r w5 ⟨As, cs, Ap, cp, A0, c0, A1, c1, A2, c2, rfl, ho1, ho2, hr0, hr1, hr2, hb, hfar⟩
      obtain ⟨wp, hwp⟩ : ∃ wp, wp = w5.alloc (.cells #[.slice As c.l.length cs, .slice Ap c.b.length cp, .int .i64 c.inn.a.1, .int .i64 c.inn.a.2.1, .slice A0 c.inn.a.2.2.length c0, .int .i64 c.inn.b.1, .int .i64 c.inn.b.2.1, .slice A1 c.inn.b.2.2.length c1, .int .i64 c.inn.c.1, .int .i64 c.inn.c.2.1, .slice A2 c.inn.c.2.2.length c2] tPartsC) := ⟨_, rfl⟩
      have hbp : Below w5.heap.size w5 wp := by rw [hwp]; exact below_alloc _ _
      have HPX := Lib.hid (show wp.heap[w5.heap.size]? = some (.cells #[.slice As c.l.length cs, .slice Ap c.b.length cp, .int .i64 c.inn.a.1, .int .i64 c.inn.a.2.1, .slice A0 c.inn.a.2.2.length c0, .int .i64 c.inn.b.1, .int .i64 c.inn.b.2.1, .slice A1 c.inn.b.2.2.length c1, .int .i64 c.inn.c.1, .int .i64 c.inn.c.2.1, .slice A2 c.inn.c.2.2.length c2] tPartsC (0, 0)) by rw [hwp]; exact heap_new _ _)
      have hb45 := bch hb hbp hb.size
      have HO1 := Lib.hid (own_keep ho1 hbp); have HO2 := Lib.hid (own_keep ho2 hbp); have HR0 := Lib.hid (hr0.keep hbp); have HR1 := Lib.hid (hr1.keep hbp); have HR2 := Lib.hid (hr2.keep hbp); have HCp := Lib.hid (HC4.out.below hb45); have HBp := Lib.hid (bch HB4.out hb45 HB4.out.size); have HWP := Lib.hid hwp
      have hs5 : w4.heap.size ≤ w5.heap.size := hb.size
      have hO1lt := HO1.out.lt; have hO2lt := HO2.out.lt; have hnear0 := rd_near hr0; have hnear1 := rd_near hr1; have hnear2 := rd_near hr2
      have HFAR := Lib.hid hfar
      clear hfar ho1 ho2 hr0 hr1 hr2 hb hbp hb45 hwp HC4 HB4 p0 p1 p2 p3 p4
      go_upto_region 5 with (fail)
      rw [← HWP.out]
      obtain ⟨bp, hbpd⟩ : ∃ bp, w5.heap.size = bp := ⟨_, rfl⟩
      rw [hbpd] at HPX hs5 hnear0 hnear1 hnear2 ⊢
      have hcl4 : ∀ j, Cs cb bb pm bm vl vb j → j < wp.heap.size := fun j hj => (HCp.out.ls hj).2
      have HCIp := Lib.hid HCp.out.ii
      clear HWP hbpd
      have hbpl : bp < wp.heap.size := heap_lt HPX.out
      obtain ⟨q0, q1, q2, q3, q4, q5, q6, q7, q8, q9, q10⟩ := cell11 HPX.out
      go_wp2_with fail
      refine (cof_yes wp _ _ _ _ _ c.l c.b c.inn (sgs_own HO1.out) (pos_own HO2.out) HR0.out HR1.out HR2.out l.length HI.out HH.out (by omega) (kw_pt (HK3.out.below HBp.out))).mono ?_
      rintro r w7 ⟨cb2, bb2, pm2, bm2, vl2, vb2, vI2, rfl, hd, hb, hav⟩
      have HD7 := Lib.hid (show Cw wp.heap.size w7 cb2 bb2 pm2 bm2 vl2 vb2 vI2 c from hd); have HAV := Lib.hid hav; have HC7 := Lib.hid (HCp.out.below hb); have HB7 := Lib.hid (bch HBp.out hb HBp.out.size); have HBd := Lib.hid hb
      have hs7 := hb.size
      clear hd hb hav HCp q0 q1 q2 q3 q4 q5 q6 q7 q8 q9 q10
      have HXE7 := Lib.hid (heap_keep HXE3.out HB7.out); have HXP7 := Lib.hid (heap_keep HXP3.out HB7.out); have HPX7 := Lib.hid (heap_keep HPX.out HBd.out); have HY7 := Lib.hid (HY3.out.below HB7.out)
      have HO17 := Lib.hid (own_keep HO1.out HBd.out); have HO27 := Lib.hid (own_keep HO2.out HBd.out); have HR07 := Lib.hid (HR0.out.keep HBd.out); have HR17 := Lib.hid (HR1.out.keep HBd.out); have HR27 := Lib.hid (HR2.out.keep HBd.out)
      clear HPX HO1 HO2 HR0 HR1 HR2 HL3
      obtain ⟨m0, m1, m2, m3, m4, m5, m6, m7, m8, m9, m10, m11⟩ := cell12 HXE7.out
      go_wp2_with fail
      have hc1 : ∀ j, Cs cb bb pm bm vl vb j → wa.heap.size ≤ j ∧ j < wp.heap.size := fun j hj => ⟨by have := (HC7.out.ls hj).1; omega, hcl4 j hj⟩
      have hd1 : ∀ j, Cs cb2 bb2 pm2 bm2 vl2 vb2 j → wp.heap.size ≤ j := fun j hj => (HD7.out.ls hj).1
      have hwap : wa.heap.size ≤ wp.heap.size := Nat.le_trans HB3.out.size HBp.out.size
      have hnse : ¬ (Cs cb bb pm bm vl vb w.heap.size ∨ wp.heap.size ≤ w.heap.size) := fun h => by rcases h with h | h; (have := (hc1 _ h).1; omega); omega
      have hicd : IcOk c := icok HI.out
      have HH := Lib.hid (fun W' (hb : Turned (fun j => Cs cb bb pm bm vl vb j ∨ wp.heap.size ≤ j) w7 W') => (⟨Lib.hid hb, cell_at (heap_turned HXE7.out hb hnse) 0 rfl, cell_at (heap_turned HXE7.out hb hnse) 1 rfl, cell_at (heap_turned HXE7.out hb hnse) 2 rfl, cell_at (heap_turned HXE7.out hb hnse) 3 rfl, cell_at (heap_turned HXE7.out hb hnse) 4 rfl, cell_at (heap_turned HXE7.out hb hnse) 5 rfl, cell_at (heap_turned HXE7.out hb hnse) 6 rfl, cell_at (heap_turned HXE7.out hb hnse) 7 rfl, cell_at (heap_turned HXE7.out hb hnse) 8 rfl, cell_at (heap_turned HXE7.out hb hnse) 9 rfl, cell_at (heap_turned HXE7.out hb hnse) 10 rfl, cell_at (heap_turned HXE7.out hb hnse) 11 rfl⟩ : (fun w' => Hid (Turned (fun j => Cs cb bb pm bm vl vb j ∨ wp.heap.size ≤ j) w7 w') ∧ w'.cell? ⟨w.heap.size, 0, none⟩ = some (.int .i64 y.kind) ∧ w'.cell? ⟨w.heap.size, 1, none⟩ = some (.int .i64 y.o.1) ∧ w'.cell? ⟨w.heap.size, 2, none⟩ = some (.string ⟨y.o.2.1.toArray⟩) ∧ w'.cell? ⟨w.heap.size, 3, none⟩ = some (.string ⟨y.o.2.2.1.toArray⟩) ∧ w'.cell? ⟨w.heap.size, 4, none⟩ = some (.int .i64 y.o.2.2.2.1) ∧ w'.cell? ⟨w.heap.size, 5, none⟩ = some (.int .i64 y.o.2.2.2.2) ∧ w'.cell? ⟨w.heap.size, 6, none⟩ = some (.int .i64 y.k.1) ∧ w'.cell? ⟨w.heap.size, 7, none⟩ = some (.int .i64 y.k.2) ∧ w'.cell? ⟨w.heap.size, 8, none⟩ = some (.int .i64 y.code) ∧ w'.cell? ⟨w.heap.size, 9, none⟩ = some (.int .i64 y.s.1) ∧ w'.cell? ⟨w.heap.size, 10, none⟩ = some (.int .i64 y.s.2.1) ∧ w'.cell? ⟨w.heap.size, 11, none⟩ = some (.slice Ay y.s.2.2.length cy)) W'))
      refine wp_region_noPanic ?_
      refine wp_region_held_drew (S := (fun w' => Hid (Turned (fun j => Cs cb bb pm bm vl vb j ∨ wp.heap.size ≤ j) w7 w') ∧ w'.cell? ⟨w.heap.size, 0, none⟩ = some (.int .i64 y.kind) ∧ w'.cell? ⟨w.heap.size, 1, none⟩ = some (.int .i64 y.o.1) ∧ w'.cell? ⟨w.heap.size, 2, none⟩ = some (.string ⟨y.o.2.1.toArray⟩) ∧ w'.cell? ⟨w.heap.size, 3, none⟩ = some (.string ⟨y.o.2.2.1.toArray⟩) ∧ w'.cell? ⟨w.heap.size, 4, none⟩ = some (.int .i64 y.o.2.2.2.1) ∧ w'.cell? ⟨w.heap.size, 5, none⟩ = some (.int .i64 y.o.2.2.2.2) ∧ w'.cell? ⟨w.heap.size, 6, none⟩ = some (.int .i64 y.k.1) ∧ w'.cell? ⟨w.heap.size, 7, none⟩ = some (.int .i64 y.k.2) ∧ w'.cell? ⟨w.heap.size, 8, none⟩ = some (.int .i64 y.code) ∧ w'.cell? ⟨w.heap.size, 9, none⟩ = some (.int .i64 y.s.1) ∧ w'.cell? ⟨w.heap.size, 10, none⟩ = some (.int .i64 y.s.2.1) ∧ w'.cell? ⟨w.heap.size, 11, none⟩ = some (.slice Ay y.s.2.2.length cy))) (by kernel_rfl) (HH.out _ (Turned.refl _ w7).drew) (fun hHeld => ?_)
      refine wpAnyH_take (i := 0) (v := ?vc0_1) rfl (by kernel_rfl) (by kernel_rfl) (by kernel_rfl) (fun _ _ _ h => h) (Or.inl ⟨by rfl, ?hyc0_1⟩) (by assumption) ?restc0_1
      case hyc0_1 => (intro w0 hSw; (try dsimp only at hSw); go_simp; try with_reducible rfl)
      case' restc0_1 => try simp only [Act.put, List.getElem_toArray, List.getElem_cons_zero, List.getElem_cons_succ, List.setIfInBounds_toArray, List.set_cons_zero, List.set_cons_succ]
      refine wpAnyH_take (i := 1) (v := ?vc1_2) rfl (by kernel_rfl) (by kernel_rfl) (by kernel_rfl) (fun _ _ _ h => h) (Or.inl ⟨by rfl, ?hyc1_2⟩) (by assumption) ?restc1_2
      case hyc1_2 => (intro w0 hSw; (try dsimp only at hSw); go_simp; try with_reducible rfl)
      case' restc1_2 => try simp only [Act.put, List.getElem_toArray, List.getElem_cons_zero, List.getElem_cons_succ, List.setIfInBounds_toArray, List.set_cons_zero, List.set_cons_succ]
      refine wpAnyH_take (i := 2) (v := ?vc2_3) rfl (by kernel_rfl) (by kernel_rfl) (by kernel_rfl) (fun _ _ _ h => h) (Or.inl ⟨by rfl, ?hyc2_3⟩) (by assumption) ?restc2_3
      case hyc2_3 => (intro w0 hSw; (try dsimp only at hSw); go_simp; try with_reducible rfl)
      case' restc2_3 => try simp only [Act.put, List.getElem_toArray, List.getElem_cons_zero, List.getElem_cons_succ, List.setIfInBounds_toArray, List.set_cons_zero, List.set_cons_succ]
      refine wpAnyH_take (i := 3) (v := ?vc3_4) rfl (by kernel_rfl) (by kernel_rfl) (by kernel_rfl) (fun _ _ _ h => h) (Or.inl ⟨by rfl, ?hyc3_4⟩) (by assumption) ?restc3_4
      case hyc3_4 => (intro w0 hSw; (try dsimp only at hSw); go_simp; try with_reducible rfl)
      case' restc3_4 => try simp only [Act.put, List.getElem_toArray, List.getElem_cons_zero, List.getElem_cons_succ, List.setIfInBounds_toArray, List.set_cons_zero, List.set_cons_succ]
      refine wpAnyH_take (i := 4) (v := ?vc4_5) rfl (by kernel_rfl) (by kernel_rfl) (by kernel_rfl) (fun _ _ _ h => h) (Or.inl ⟨by rfl, ?hyc4_5⟩) (by assumption) ?restc4_5
      case hyc4_5 => (intro w0 hSw; (try dsimp only at hSw); go_simp; try with_reducible rfl)
      case' restc4_5 => try simp only [Act.put, List.getElem_toArray, List.getElem_cons_zero, List.getElem_cons_succ, List.setIfInBounds_toArray, List.set_cons_zero, List.set_cons_succ]
      refine wpAnyH_ready (rs := [5]) (by kernel_rfl) (by simp) ?_
      refine AllReadyH.cons rfl (fun K hK => ?_) AllReadyH.nil
      go_simp
      refine (csame_any (HC7.out.below (below_drew1 (Below.refl _ w7))) (HD7.out.below (below_drew1 (Below.refl _ w7))) (by omega) (by omega) (by omega) (by omega) hicd hicd).mono ?_
      rintro r w8 ⟨b8, rfl, hb8i, hb8⟩
      have hb8t : b8 = true := hb8i.2 rfl
      subst hb8t
      have HW8 := Lib.hid (bch (below_drew1 (Below.refl _ w7)) hb8 (Nat.le_refl _) : Below w7.heap.size w7 w8)
      clear hb8i hb8
      refine hK.out _ _ (HH.out _ (Turned.of_below HW8.out)) (fun hHeld => ?_)
      clear hK K
      try simp only [Act.put, List.getElem_toArray, List.getElem_cons_zero, List.getElem_cons_succ, List.setIfInBounds_toArray, List.set_cons_zero, List.set_cons_succ]
      refine wpAnyH_take (i := 6) (v := ?vc6_6) rfl (by kernel_rfl) (by kernel_rfl) (by kernel_rfl) (fun _ _ _ h => h) (Or.inl ⟨by rfl, ?hyc6_6⟩) (by assumption) ?restc6_6
      case hyc6_6 => (intro w0 hSw; (try dsimp only at hSw); go_simp; try with_reducible rfl)
      case' restc6_6 => try simp only [Act.put, List.getElem_toArray, List.getElem_cons_zero, List.getElem_cons_succ, List.setIfInBounds_toArray, List.set_cons_zero, List.set_cons_succ]
      refine wpAnyH_take (i := 7) (v := ?vc7_7) rfl (by kernel_rfl) (by kernel_rfl) (by kernel_rfl) (fun _ _ _ h => h) (Or.inl ⟨by rfl, ?hyc7_7⟩) (by assumption) ?restc7_7
      case hyc7_7 => (intro w0 hSw; (try dsimp only at hSw); go_simp; try with_reducible rfl)
      case' restc7_7 => try simp only [Act.put, List.getElem_toArray, List.getElem_cons_zero, List.getElem_cons_succ, List.setIfInBounds_toArray, List.set_cons_zero, List.set_cons_succ]
      refine wpAnyH_take (i := 8) (v := ?vc8_8) rfl (by kernel_rfl) (by kernel_rfl) (by kernel_rfl) (fun _ _ _ h => h) (Or.inl ⟨by rfl, ?hyc8_8⟩) (by assumption) ?restc8_8
      case hyc8_8 => (intro w0 hSw; (try dsimp only at hSw); go_simp; try with_reducible rfl)
      case' restc8_8 => try simp only [Act.put, List.getElem_toArray, List.getElem_cons_zero, List.getElem_cons_succ, List.setIfInBounds_toArray, List.set_cons_zero, List.set_cons_succ]
      refine wpAnyH_take (i := 9) (v := ?vc9_9) rfl (by kernel_rfl) (by kernel_rfl) (by kernel_rfl) (fun _ _ _ h => h) (Or.inl ⟨by rfl, ?hyc9_9⟩) (by assumption) ?restc9_9
      case hyc9_9 => (intro w0 hSw; (try dsimp only at hSw); go_simp; try with_reducible rfl)
      case' restc9_9 => try simp only [Act.put, List.getElem_toArray, List.getElem_cons_zero, List.getElem_cons_succ, List.setIfInBounds_toArray, List.set_cons_zero, List.set_cons_succ]
      refine wpAnyH_take (i := 10) (v := ?vc10_10) rfl (by kernel_rfl) (by kernel_rfl) (by kernel_rfl) (fun _ _ _ h => h) (Or.inl ⟨by rfl, ?hyc10_10⟩) (by assumption) ?restc10_10
      case hyc10_10 => (intro w0 hSw; (try dsimp only at hSw); go_simp; try with_reducible rfl)
      case' restc10_10 => try simp only [Act.put, List.getElem_toArray, List.getElem_cons_zero, List.getElem_cons_succ, List.setIfInBounds_toArray, List.set_cons_zero, List.set_cons_succ]
      refine wpAnyH_take (i := 12) (v := ?vc12_11) rfl (by kernel_rfl) (by kernel_rfl) (by kernel_rfl) (fun _ _ _ h => h) (Or.inl ⟨by rfl, ?hyc12_11⟩) (by assumption) ?restc12_11
      case hyc12_11 => (intro w0 hSw; (try dsimp only at hSw); go_simp; try with_reducible rfl)
      case' restc12_11 => try simp only [Act.put, List.getElem_toArray, List.getElem_cons_zero, List.getElem_cons_succ, List.setIfInBounds_toArray, List.set_cons_zero, List.set_cons_succ]
      refine wpAnyH_take (i := 13) (v := ?vc13_12) rfl (by kernel_rfl) (by kernel_rfl) (by kernel_rfl) (fun _ _ _ h => h) (Or.inl ⟨by rfl, ?hyc13_12⟩) (by assumption) ?restc13_12
      case hyc13_12 => (intro w0 hSw; (try dsimp only at hSw); go_simp; try with_reducible rfl)
      case' restc13_12 => try simp only [Act.put, List.getElem_toArray, List.getElem_cons_zero, List.getElem_cons_succ, List.setIfInBounds_toArray, List.set_cons_zero, List.set_cons_succ]
      have HC8 := Lib.hid (HC7.out.below HW8.out); have HD8 := Lib.hid (HD7.out.below HW8.out); have HY8 := Lib.hid (HY7.out.below HW8.out)
      have HB8 := Lib.hid (bch HB7.out HW8.out HB7.out.size)
      have hs8 := HW8.out.size
      have HBX := Lib.hid (fun W (hW : Below w3.heap.size w8 W) => (Below.trans HB8.out hW : Below w3.heap.size w3 W))
      have hapOk := HI.out.ok (by omega) y
      have HAP := Lib.hid hapOk
      clear hapOk
      refine wpAnyH_ready (rs := [11]) (by kernel_rfl) (by simp) ?_
      refine AllReadyH.cons rfl (fun K hK => ?_) AllReadyH.nil
      go_simp
      refine (capply_any HC8.out y _ HY8.out.rd (kw_pt (HK3.out.below HB8.out)) HAP.out HY8.out.nn.ko (fun W hW => putK_any _ _ W (HK3.out.below (Below.trans HB8.out (hW.mono (Nat.le_refl _))))) (fun n W h0 h1 hW => kw_itoa (HK3.out.below (Below.trans HB8.out (hW.mono (Nat.le_refl _)))) n W h0 h1 (Below.refl _ _))).mono ?_
      rintro r w9 ⟨vl', vb', vI', rfl, hc9, ht9, hvl9, hvb9, hav9⟩
      have hdis : ∀ j, Cs cb2 bb2 pm2 bm2 vl2 vb2 j → ¬ Cs cb bb pm bm vl vb j := fun j hj h => by have h1 := hd1 j hj; have h2 := (hc1 j h).2; omega
      have HC9 := Lib.hid hc9; have HT9 := Lib.hid ht9
      have HD9 := Lib.hid (HD8.out.kept ht9 hdis (fun j hj => HAV.out j (hc1 j hj).2))
      have HY9 := Lib.hid (⟨HY8.out.rd.turned ht9 (fun ad n c' e hl hs => by have h1 := rd_near HY3.out.rd ad n c' e hl; have := (HC7.out.ls hs).1; omega), HY8.out.nn⟩ : EntAt w9 _ y)
      have HCS9 := Lib.hid (show ∀ j, Cs cb bb pm bm vl' vb' j → ¬ Cs cb2 bb2 pm2 bm2 vl2 vb2 j from fun j hj h => by rcases hj with e | (e | e | e | e) | e; exact hdis j h (.inl e); exact hdis j h (.inr (.inl (.inl e))); exact hdis j h (.inr (.inl (.inr (.inl e)))); exact hdis j h (.inr (.inl (.inr (.inr (.inl e))))); (rcases hvb9 j e with e | e; exact hdis j h (.inr (.inl (.inr (.inr (.inr e))))); (have := (HD8.out.ls h).2; omega)); (rcases hvl9 j e with e | e; exact hdis j h (.inr (.inr e)); (have := (HD8.out.ls h).2; omega)))
      have HAV9 := Lib.hid (show ∀ j, Cs cb2 bb2 pm2 bm2 vl2 vb2 j → Av j vI' (applyC c y).inn from fun j hj => hav9 j (HD8.out.ls hj).2 (Av.far HCIp.out (hd1 j hj)))
      have HT79 := Lib.hid (show Turned (fun j => Cs cb bb pm bm vl vb j ∨ wp.heap.size ≤ j) w7 w9 from (Turned.of_below HW8.out).trans (ht9.mono (fun i h => .inl h)))
      have HB9 := Lib.hid (show Below w3.heap.size w3 w9 from Below.turned HB8.out ht9 (fun i h => (HC8.out.ls h).1) HB8.out.size)
      clear hc9 ht9 hvl9 hvb9 hav9
      refine hK.out _ _ (HH.out _ (HT79.out)) (fun hHeld => ?_)
      clear hK K
      try simp only [Act.put, List.getElem_toArray, List.getElem_cons_zero, List.getElem_cons_succ, List.setIfInBounds_toArray, List.set_cons_zero, List.set_cons_succ]
      refine wpAnyH_ready (rs := [14]) (by kernel_rfl) (by simp) ?_
      refine AllReadyH.cons rfl (fun K hK => ?_) AllReadyH.nil
      go_simp
      refine (capply_any HD9.out y _ HY9.out.rd (kw_pt (HK3.out.below HB9.out)) HAP.out HY9.out.nn.ko (fun W hW => putK_any _ _ W (HK3.out.below (Below.trans HB9.out (hW.mono (by have := HBp.out.size; omega))))) (fun n W h0 h1 hW => kw_itoa (HK3.out.below (Below.trans HB9.out (hW.mono (by have := HBp.out.size; omega)))) n W h0 h1 (Below.refl _ _))).mono ?_
      rintro r w10 ⟨vl3, vb3, vI3, rfl, hd10, ht10, _, _, _⟩
      have HD10 := Lib.hid hd10; have HC10 := Lib.hid (HC9.out.kept ht10 HCS9.out HAV9.out)
      have HT710 := Lib.hid (show Turned (fun j => Cs cb bb pm bm vl vb j ∨ wp.heap.size ≤ j) w7 w10 from HT79.out.trans (ht10.mono (fun i h => .inr (hd1 i h))))
      have HB10 := Lib.hid (show Below w3.heap.size w3 w10 from Below.turned HB9.out ht10 (fun i h => by have := hd1 i h; have := HBp.out.size; omega) HB9.out.size)
      clear hd10 ht10
      refine hK.out _ _ (HH.out _ (HT710.out)) (fun hHeld => ?_)
      clear hK K
      try simp only [Act.put, List.getElem_toArray, List.getElem_cons_zero, List.getElem_cons_succ, List.setIfInBounds_toArray, List.set_cons_zero, List.set_cons_succ]
      refine wpAnyH_take (i := 15) (v := ?vc15_13) rfl (by kernel_rfl) (by kernel_rfl) (by kernel_rfl) (fun _ _ _ h => h) (Or.inl ⟨by rfl, ?hyc15_13⟩) (by assumption) ?restc15_13
      case hyc15_13 => (intro w0 hSw; (try dsimp only at hSw); go_simp; try with_reducible rfl)
      case' restc15_13 => try simp only [Act.put, List.getElem_toArray, List.getElem_cons_zero, List.getElem_cons_succ, List.setIfInBounds_toArray, List.set_cons_zero, List.set_cons_succ]
      refine wpAnyH_take (i := 16) (v := ?vc16_14) rfl (by kernel_rfl) (by kernel_rfl) (by kernel_rfl) (fun _ _ _ h => h) (Or.inl ⟨by rfl, ?hyc16_14⟩) (by assumption) ?restc16_14
      case hyc16_14 => (intro w0 hSw; (try dsimp only at hSw); go_simp; try with_reducible rfl)
      case' restc16_14 => try simp only [Act.put, List.getElem_toArray, List.getElem_cons_zero, List.getElem_cons_succ, List.setIfInBounds_toArray, List.set_cons_zero, List.set_cons_succ]
      refine wpAnyH_take (i := 17) (v := ?vc17_15) rfl (by kernel_rfl) (by kernel_rfl) (by kernel_rfl) (fun _ _ _ h => h) (Or.inl ⟨by rfl, ?hyc17_15⟩) (by assumption) ?restc17_15
      case hyc17_15 => (intro w0 hSw; (try dsimp only at hSw); go_simp; try with_reducible rfl)
      case' restc17_15 => try simp only [Act.put, List.getElem_toArray, List.getElem_cons_zero, List.getElem_cons_succ, List.setIfInBounds_toArray, List.set_cons_zero, List.set_cons_succ]
      refine wpAnyH_take (i := 18) (v := ?vc18_16) rfl (by kernel_rfl) (by kernel_rfl) (by kernel_rfl) (fun _ _ _ h => h) (Or.inl ⟨by rfl, ?hyc18_16⟩) (by assumption) ?restc18_16
      case hyc18_16 => (intro w0 hSw; (try dsimp only at hSw); go_simp; try with_reducible rfl)
      case' restc18_16 => try simp only [Act.put, List.getElem_toArray, List.getElem_cons_zero, List.getElem_cons_succ, List.setIfInBounds_toArray, List.set_cons_zero, List.set_cons_succ]
      refine wpAnyH_take (i := 19) (v := ?vc19_17) rfl (by kernel_rfl) (by kernel_rfl) (by kernel_rfl) (fun _ _ _ h => h) (Or.inl ⟨by rfl, ?hyc19_17⟩) (by assumption) ?restc19_17
      case hyc19_17 => (intro w0 hSw; (try dsimp only at hSw); go_simp; try with_reducible rfl)
      case' restc19_17 => try simp only [Act.put, List.getElem_toArray, List.getElem_cons_zero, List.getElem_cons_succ, List.setIfInBounds_toArray, List.set_cons_zero, List.set_cons_succ]
      have hia := HI.out.apply y
      have hic2 : IcOk (applyC c y) := icok hia
      have hal := hia.le; have hab : (applyC c y).b.length ≤ 60 * (l.length + 1) := hia.bl
      clear hia
      refine wpAnyH_ready (rs := [20]) (by kernel_rfl) (by simp) ?_
      refine AllReadyH.cons rfl (fun K hK => ?_) AllReadyH.nil
      go_simp
      refine (csame_any HC10.out HD10.out (by omega) (by omega) (by omega) (by omega) hic2 hic2).mono ?_
      rintro r w11 ⟨b11, rfl, hbi, hb11⟩
      have hbt : b11 = true := hbi.2 rfl
      subst hbt
      have HT11 := Lib.hid (show Turned (fun j => Cs cb bb pm bm vl vb j ∨ wp.heap.size ≤ j) w7 w11 from HT710.out.trans (Turned.of_below hb11))
      have HB11 := Lib.hid (bch HB10.out hb11 HB10.out.size)
      clear hbi hb11
      refine hK.out _ _ (HH.out _ (HT11.out)) (fun hHeld => ?_)
      clear hK K
      try simp only [Act.put, List.getElem_toArray, List.getElem_cons_zero, List.getElem_cons_succ, List.setIfInBounds_toArray, List.set_cons_zero, List.set_cons_succ]
      refine wpAnyH_take (i := 21) (v := ?vc21_18) rfl (by kernel_rfl) (by kernel_rfl) (by kernel_rfl) (fun _ _ _ h => h) (Or.inl ⟨by rfl, ?hyc21_18⟩) (by assumption) ?restc21_18
      case hyc21_18 => (intro w0 hSw; (try dsimp only at hSw); go_simp; try with_reducible rfl)
      case' restc21_18 => try simp only [Act.put, List.getElem_toArray, List.getElem_cons_zero, List.getElem_cons_succ, List.setIfInBounds_toArray, List.set_cons_zero, List.set_cons_succ]
      refine wpAnyH_take (i := 22) (v := ?vc22_19) rfl (by kernel_rfl) (by kernel_rfl) (by kernel_rfl) (fun _ _ _ h => h) (Or.inl ⟨by rfl, ?hyc22_19⟩) (by assumption) ?restc22_19
      case hyc22_19 => (intro w0 hSw; (try dsimp only at hSw); go_simp; try with_reducible rfl)
      case' restc22_19 => try simp only [Act.put, List.getElem_toArray, List.getElem_cons_zero, List.getElem_cons_succ, List.setIfInBounds_toArray, List.set_cons_zero, List.set_cons_succ]
      refine wpAnyH_done (by kernel_rfl) ?_ _
      refine NoPanic.normal ?_
      clear hHeld HH HC7 HD7 HC8 HD8 HC9 HD9 HC10 HD10 HY8 HY9 HT79 HT710 HB8 HB9 HB10 HCS9 HAV9 HW8 HBX m0 m1 m2 m3 m4 m5 m6 m7 m8 m9 m10 m11
      have hbpn : ¬ (Cs cb bb pm bm vl vb bp ∨ wp.heap.size ≤ bp) := fun h => by rcases h with h | h; (have := hcl4 bp h; have := hcw4 bp h; omega); omega
      have hnx : ¬ (Cs cb bb pm bm vl vb (w.heap.size + 1) ∨ wp.heap.size ≤ w.heap.size + 1) := fun h => by rcases h with h | h; (have := (hc1 _ h).1; omega); omega
      have HPX11 := Lib.hid (heap_turned HPX7.out HT11.out hbpn); have HXP11 := Lib.hid (heap_turned HXP7.out HT11.out hnx)
      have HO111 := Lib.hid (own_turned HO17.out HT11.out (fun j hj h => by have h1 := hO1lt j hj; rcases h with h | h; (have := hcw4 j h; omega); omega)); have HO211 := Lib.hid (own_turned HO27.out HT11.out (fun j hj h => by have h1 := hO2lt j hj; rcases h with h | h; (have := hcw4 j h; omega); omega))
      obtain ⟨bz, hbz0, hbz1, hbz2, hfar0, hfar1, hfar2⟩ := HFAR.out
      have HR011 := Lib.hid (HR07.out.turned HT11.out (fun ad n c' e hl h => by have h2 := hnear0 ad n c' e hl; injection e with e1 _ _; have h1 := hfar0 ad e1 hl; rcases h with h | h; (have := hcw4 _ h; omega); omega)); have HR111 := Lib.hid (HR17.out.turned HT11.out (fun ad n c' e hl h => by have h2 := hnear1 ad n c' e hl; injection e with e1 _ _; have h1 := hfar1 ad e1 hl; rcases h with h | h; (have := hcw4 _ h; omega); omega)); have HR211 := Lib.hid (HR27.out.turned HT11.out (fun ad n c' e hl h => by have h2 := hnear2 ad n c' e hl; injection e with e1 _ _; have h1 := hfar2 ad e1 hl; rcases h with h | h; (have := hcw4 _ h; omega); omega))
      have hs711 : w7.heap.size ≤ w11.heap.size := HT11.out.size
      clear HT11 HPX7 HXP7 HO17 HO27 HR07 HR17 HR27 HXE7 HY7 HAV HAP
      have HBW11 := Lib.hid (bch HB.out (bch HB3.out HB11.out HB3.out.size) HB.out.size)
      obtain ⟨q0, q1, q2, q3, q4, q5, q6, q7, q8, q9, q10⟩ := cell11 HPX11.out
      have hbp11 : bp < w11.heap.size := heap_lt HPX11.out
      have hws11 := HB11.out.size
      by_cases hl0 : 0 < c.l.length
      · have hl0' : (0 : Int) < c.l.length := by omega
        go_upto_region 10 with (fail)
        obtain ⟨w12, hw12⟩ : ∃ w12, w12 = w11.alloc (.cells #[.slice As c.l.length cs, .slice Ap c.b.length cp, .int .i64 c.inn.a.1, .int .i64 c.inn.a.2.1, .slice A0 c.inn.a.2.2.length c0, .int .i64 c.inn.b.1, .int .i64 c.inn.b.2.1, .slice A1 c.inn.b.2.2.length c1, .int .i64 c.inn.c.1, .int .i64 c.inn.c.2.1, .slice A2 c.inn.c.2.2.length c2] tPartsC) := ⟨_, rfl⟩
        rw [← hw12]
        have hb12 : Below w11.heap.size w11 w12 := by rw [hw12]; exact below_alloc _ _
        have HQX12 := Lib.hid (show w12.heap[w11.heap.size]? = some (.cells #[.slice As c.l.length cs, .slice Ap c.b.length cp, .int .i64 c.inn.a.1, .int .i64 c.inn.a.2.1, .slice A0 c.inn.a.2.2.length c0, .int .i64 c.inn.b.1, .int .i64 c.inn.b.2.1, .slice A1 c.inn.b.2.2.length c1, .int .i64 c.inn.c.1, .int .i64 c.inn.c.2.1, .slice A2 c.inn.c.2.2.length c2] tPartsC (0, 0)) by rw [hw12]; exact heap_new _ _)
        have HPX12 := Lib.hid (heap_keep HPX11.out hb12); have HB12 := Lib.hid hb12
        clear hw12 hb12 q0 q1 q2 q3 q4 q5 q6 q7 q8 q9 q10
        obtain ⟨bq, hbq⟩ : ∃ bq, w11.heap.size = bq := ⟨_, rfl⟩
        rw [hbq] at HQX12 ⊢
        have hs12 : bq < w12.heap.size := heap_lt HQX12.out
        obtain ⟨q0, q1, q2, q3, q4, q5, q6, q7, q8, q9, q10⟩ := cell11 HPX12.out
        have HSRC := Lib.hid (src_own (enc := encS) (z := 12) encS_len (by decide) encS_one (own_keep HO111.out HB12.out))
        go_wp2_with (at_builtin; refine wpList_append_any _ rfl (.const (.slice none 0 0)) (.tmp 66) tSagasC rfl w12.heap.size tSaga k0 (.agg #[.int .i64 0, .string ⟨#[]⟩, .string ⟨#[]⟩, .int .i64 0, .int .i64 0, .int .i64 0, .int .i64 0, .int .i64 0, .int .i64 0, .int .i64 0, .int .i64 0, .bool false]) 12 112 Tryd.underlying38 ki kz0 kz1 kz2 rfl (by decide) (.slice none 0 0) 0 [] rfl (World.ownsRow_nil _ _ _ _) c.l.length (c.l.flatMap encS) HSRC.out (by unfold maxLen; omega) (by omega) (Nat.le_refl _) ?_; intro v13 w13 ho13 hg13 hat13; rw [Nat.zero_add, List.nil_append] at ho13; obtain ⟨g, c13, hv13, hgB, hgl, hgc⟩ := (own_ptr ho13).resolve_left (fun h => by have := h.2; omega); subst hv13; have HO13 := Lib.hid ho13; have HB13 := Lib.hid (below_of_grown hg13); have HQX13 := Lib.hid (heap_keep HQX12.out (below_of_grown hg13)); clear ho13 hg13 hat13 q0 q1 q2 q3 q4 q5 q6 q7 q8 q9 q10; obtain ⟨q0, q1, q2, q3, q4, q5, q6, q7, q8, q9, q10⟩ := cell11 HQX13.out; obtain ⟨g0, g1, g2, g3, g4, g5, g6, g7, g8, g9, g10⟩ := froz11 HQX13.out; have gf := HO13.out.frozenAt 0; have gc := own_cellK encS_len (by decide) HO13.out (List.getElem?_eq_getElem hl0) 0 (by decide); rw [Nat.zero_mul] at gc)
        obtain ⟨w14, hw14⟩ : ∃ w14, w14 = w13.setCell ⟨bq, 0, none⟩ (.slice (some ⟨g, 0, none⟩) c.l.length c13) := ⟨_, rfl⟩
        rw [← hw14]
        obtain ⟨w15, hw15⟩ : ∃ w15, w15 = w14.setCell ⟨g, 0, none⟩ (.int .i64 2) := ⟨_, rfl⟩
        rw [← hw15]
        have ht14 : Turned (fun j => j = bq) w13 w14 := by rw [hw14]; exact turned_set _ _ _ _
        have ht15 : Turned (fun j => j = g) w14 w15 := by rw [hw15]; exact turned_set _ _ _ _
        have hO14 := own_turned HO13.out ht14 (fun j hj e => own_off HO13.out HQX13.out (by decide) j hj e)
        have hO15 := (hO14.stored 0 (.int .i64 2)).1
        rw [← hw15] at hO15
        obtain ⟨s0, rr, hlr⟩ : ∃ s0 rr, c.l = s0 :: rr := by
          cases h : c.l with
          | nil => rw [h] at hl0; simp at hl0
          | cons s r => exact ⟨s, r, rfl⟩
        have hq : (c.l.flatMap encS).set 0 (.int .i64 2) = (({ s0 with id := 2 } : Sg) :: rr).flatMap encS := by rw [hlr]; rfl
        have hn : c.l.length = (({ s0 with id := 2 } : Sg) :: rr).length := by rw [hlr]; rfl
        have HSQ := Lib.hid (show Sgs w15 (.slice (some ⟨g, 0, none⟩) c.l.length c13) (({ s0 with id := 2 } : Sg) :: rr) from sgs_own (B := w12.heap.size) (e := tSaga) (by rw [← hn, ← hq]; exact hO15))
        have hT15 : Turned (fun j => bq ≤ j) w11 w15 := (((Turned.of_below HB12.out).trans (Turned.of_below HB13.out)).trans (ht14.mono (fun i h => by omega))).trans (ht15.mono (fun i h => by omega))
        have HPX15 := Lib.hid (heap_turned HPX11.out hT15 (by omega)); have HXP15 := Lib.hid (heap_turned HXP11.out hT15 (by omega))
        have HO115 := Lib.hid (own_turned HO111.out hT15 (fun j hj h => by have := (HO111.out.lt j hj).2; omega)); have HO215 := Lib.hid (own_turned HO211.out hT15 (fun j hj h => by have := (HO211.out.lt j hj).2; omega))
        have HR015 := Lib.hid (HR011.out.turned hT15 (fun ad n c' e hl h => by have h3 := hnear0 ad n c' e hl; omega))
        have HR115 := Lib.hid (HR111.out.turned hT15 (fun ad n c' e hl h => by have h3 := hnear1 ad n c' e hl; omega))
        have HR215 := Lib.hid (HR211.out.turned hT15 (fun ad n c' e hl h => by have h3 := hnear2 ad n c' e hl; omega))
        have HBW15 := Lib.hid (Below.turned HBW11.out hT15 (fun i h => by omega) (by omega))
        have hln := hn
        clear hw14 hw15 ht14 ht15 hO14 hO15 hq hn hT15 HQX13 HO13 HQX12 HPX12 HSRC
        refine (cof_id w15 _ _ _ _ _ (({ s0 with id := 2 } : Sg) :: rr) c.b c.inn HSQ.out (pos_own HO215.out) HR015.out HR115.out HR215.out ⟨_, rfl, by show ¬ ((2 : Int) = 1); decide⟩ (by rw [← hln]; omega)).mono ?_
        rintro r w16 ⟨rfl, hb16⟩
        clear hln hlr
        have HPX16 := Lib.hid (heap_keep HPX15.out hb16); have HXP16 := Lib.hid (heap_keep HXP15.out hb16); have HO116 := Lib.hid (own_keep HO115.out hb16); have HO216 := Lib.hid (own_keep HO215.out hb16); have HR016 := Lib.hid (HR015.out.keep hb16); have HR116 := Lib.hid (HR115.out.keep hb16); have HR216 := Lib.hid (HR215.out.keep hb16); have HBW16 := Lib.hid (bch HBW15.out hb16 HBW15.out.size)
        have hbp16 : bp < w16.heap.size := heap_lt HPX16.out
        have hs16 := HBW16.out.size
        have hs16 := HBW16.out.size
        obtain ⟨q0, q1, q2, q3, q4, q5, q6, q7, q8, q9, q10⟩ := cell11 HPX16.out
        obtain ⟨p0, p1, p2, p3, p4⟩ := cell5 HXP16.out
        obtain ⟨f0, f1, f2, f3, f4⟩ := froz5 HXP16.out
        go_upto_region 16 with (fail)
        obtain ⟨w21, hw21⟩ : ∃ w21, w21 = (((w16.setCell ⟨w.heap.size + 1, 1, none⟩ (.int .i64 1)).setCell ⟨w.heap.size + 1, 2, none⟩ (.int .i64 1)).setCell ⟨w.heap.size + 1, 3, none⟩ (.int .i64 0)).setCell ⟨w.heap.size + 1, 4, none⟩ (.int .i64 5) := ⟨_, rfl⟩
        rw [← hw21]
        have ht21 : Turned (fun j => j = w.heap.size + 1) w16 w21 := by rw [hw21]; exact (((turned_set _ _ _ _).trans (turned_set _ _ _ _)).trans (turned_set _ _ _ _)).trans (turned_set _ _ _ _)
        have HXP21 := Lib.hid (show w21.heap[w.heap.size + 1]? = some (.cells #[.string ⟨x.id.toArray⟩, .int .i64 1, .int .i64 1, .int .i64 0, .int .i64 5] tPost (0, 0)) by rw [hw21]; simp [World.setCell, Array.getElem?_modify, HXP16.out])
        have HPX21 := Lib.hid (heap_turned HPX16.out ht21 (by omega))
        have HO121 := Lib.hid (own_turned HO116.out ht21 (fun j hj e => own_off HO116.out HXP16.out (by decide) j hj e)); have HO221 := Lib.hid (own_turned HO216.out ht21 (fun j hj e => by have := (hO2lt j hj).1; omega))
        have HR021 := Lib.hid (HR016.out.turned ht21 (fun ad n c' e hl h => by injection e with e1 _ _; have h1 := hfar0 ad e1 hl; omega)); have HR121 := Lib.hid (HR116.out.turned ht21 (fun ad n c' e hl h => by have h3 := hnear1 ad n c' e hl; injection e with e1 _ _; have h1 := hfar1 ad e1 hl; omega)); have HR221 := Lib.hid (HR216.out.turned ht21 (fun ad n c' e hl h => by have h3 := hnear2 ad n c' e hl; injection e with e1 _ _; have h1 := hfar2 ad e1 hl; omega))
        have hs21 : w16.heap.size ≤ w21.heap.size := ht21.size
        clear hw21 p0 p1 p2 p3 p4 f0 f1 f2 f3 f4 q0 q1 q2 q3 q4 q5 q6 q7 q8 q9 q10
        obtain ⟨p0, p1, p2, p3, p4⟩ := cell5 HXP21.out
        obtain ⟨q0, q1, q2, q3, q4, q5, q6, q7, q8, q9, q10⟩ := cell11 HPX21.out
        have HOA := Lib.hid (own_keep HO221.out (below_alloc w21 (.cells #[.string ⟨x.id.toArray⟩, .int .i64 1, .int .i64 1, .int .i64 0, .int .i64 5] tPost)))
        go_wp2_with (at_builtin; refine wpList_append_any _ rfl (.tmp 90) (.tmp 92) tPosts rfl w4.heap.size tPost j0 (mkPost ⟨[], 0, 0, 0, 0⟩) 5 48 Tryd.underlying39 ji jz0 jz1 jz2 rfl (by decide) (.slice Ap c.b.length cp) c.b.length (c.b.flatMap encP) rfl HOA.out 1 (encP ⟨x.id, 1, 1, 0, 5⟩) (src_blk (xs := encP ⟨x.id, 1, 1, 0, 5⟩) (heap_new _ _) (encP_one _)) (by unfold maxLen; omega) (by omega) (by simp; omega) ?_; intro v22 w22 ho22 hg22 hat22; obtain ⟨A22, c22, rfl, _⟩ := own_slice ho22; have ht22 : Turned (fun j => Value.ownBlock (.slice Ap c.b.length cp) = some j) w21 w22 := (Turned.of_below (below_alloc w21 _)).trans (Turned.of_grown hg22 (fun j h => h)); have HT22 := Lib.hid ht22; have HO22 := Lib.hid ho22; have HPX22 := Lib.hid (heap_turned HPX21.out ht22 (own_apartT HO221.out HPX21.out (by decide))); clear ho22 hg22 hat22 ht22 q0 q1 q2 q3 q4 q5 q6 q7 q8 q9 q10; obtain ⟨q0, q1, q2, q3, q4, q5, q6, q7, q8, q9, q10⟩ := cell11 HPX22.out; obtain ⟨g0, g1, g2, g3, g4, g5, g6, g7, g8, g9, g10⟩ := froz11 HPX22.out)
        obtain ⟨w23, hw23⟩ : ∃ w23, w23 = w22.setCell ⟨bp, 1, none⟩ (.slice A22 (c.b.length + 1) c22) := ⟨_, rfl⟩
        rw [← hw23]
        have ht23 : Turned (fun j => j = bp) w22 w23 := by rw [hw23]; exact turned_set _ _ _ _
        have hs23 := Nat.le_trans HT22.out.size ht23.size
        clear hw23
        have hapt := own_apart HO121.out HO221.out (by decide)
        have HS23 := Lib.hid (sgs_own (own_turned (own_turned HO121.out HT22.out (fun j hj h => by rcases hapt with e | e; (rw [e] at hj; cases hj); exact e (by rw [hj, h]))) ht23 (fun j hj e => own_off HO121.out HPX21.out (by decide) j hj e)))
        have HP23 := Lib.hid (show Pos w23 (.slice A22 (c.b.length + 1) c22) (c.b ++ [⟨x.id, 1, 1, 0, 5⟩]) from pos_own (by rw [List.length_append, List.flatMap_append]; simpa using own_turned HO22.out ht23 (fun j hj e => own_off HO22.out HPX22.out (by decide) j hj e)))
        have hR0 := (HR021.out.turned HT22.out (fun ad n c' e hl h => by injection e with e1 _ _; have h1 := hfar0 ad e1 hl; have h2 := hbz2 _ h; omega)).turned ht23 (fun ad n c' e hl h => by have h3 := hnear0 ad n c' e hl; injection e with e1 _ _; have h1 := hfar0 ad e1 hl; omega)
        have hR1 := (HR121.out.turned HT22.out (fun ad n c' e hl h => by injection e with e1 _ _; have h1 := hfar1 ad e1 hl; have h2 := hbz2 _ h; omega)).turned ht23 (fun ad n c' e hl h => by have h3 := hnear1 ad n c' e hl; injection e with e1 _ _; have h1 := hfar1 ad e1 hl; omega)
        have hR2 := (HR221.out.turned HT22.out (fun ad n c' e hl h => by injection e with e1 _ _; have h1 := hfar2 ad e1 hl; have h2 := hbz2 _ h; omega)).turned ht23 (fun ad n c' e hl h => by have h3 := hnear2 ad n c' e hl; injection e with e1 _ _; have h1 := hfar2 ad e1 hl; omega)
        have HB23 := Lib.hid (show Below w.heap.size w w23 from Below.turned (Below.turned (Below.turned HBW16.out ht21 (fun i h => by omega) (by omega)) HT22.out (fun i h => by have := (hO2lt i h).1; omega) (by omega)) ht23 (fun i h => by omega) (by have := HT22.out.size; omega))
        have HK23 := Lib.hid (HK0.out.below HB23.out)
        clear ht21 ht23 HT22 HO22 HPX22 q0 q1 q2 q3 q4 q5 q6 q7 q8 q9 q10 g0 g1 g2 g3 g4 g5 g6 g7 g8 g9 g10
        have hxl9 : x.id.length ≤ 1000 := by omega
        have hll9 : l.length ≤ 1000 := by omega
        obtain ⟨x9, hx9⟩ : ∃ x9 : Po, x9 = ⟨x.id, 1, 1, 0, 5⟩ := ⟨_, rfl⟩
        have hxo9 : x9.ord = 1 ∧ x9.deb = 1 ∧ x9.cre = 0 ∧ x9.amt = 5 := by rw [hx9]; exact ⟨rfl, rfl, rfl, rfl⟩
        have hxi9 : x9.id.length ≤ 1000 := by rw [hx9]; exact hxl9
        have HP9 := HP23.out
        rw [← hx9] at HP9
        have hA := cof_more w23 _ _ _ _ _ c.l (c.b ++ [x9]) c.inn HS23.out HP9 hR0 hR1 hR2 c.b x9 rfl l.length
        have hB := hA HI.out
        have hC := hB HH.out
        have hD := hC hll9
        have hE := hD (kw_pt HK23.out) hxo9 hxi9
        refine hE.mono ?_
        rintro r w24 ⟨rfl, hb24⟩
        have HK24 := Lib.hid (HK23.out.below hb24); have HB24 := Lib.hid (bch HB23.out hb24 HB23.out.size)
        clear hb24 hR0 hR1 hR2
        go_wp2_with (go_at_call 5; refine (came_at _ HK24.out).mono ?_; rintro r w25 ⟨rfl, hb25⟩; have HB25 := Lib.hid hb25; clear hb25)
        go_ret
        exact ⟨rfl, bch HB24.out HB25.out HB24.out.size⟩
      · have hl0' : ¬ (0 : Int) < c.l.length := by omega
        obtain ⟨p0, p1, p2, p3, p4⟩ := cell5 HXP11.out
        obtain ⟨f0, f1, f2, f3, f4⟩ := froz5 HXP11.out
        go_upto_region 16 with (fail)
        obtain ⟨w21, hw21⟩ : ∃ w21, w21 = (((w11.setCell ⟨w.heap.size + 1, 1, none⟩ (.int .i64 1)).setCell ⟨w.heap.size + 1, 2, none⟩ (.int .i64 1)).setCell ⟨w.heap.size + 1, 3, none⟩ (.int .i64 0)).setCell ⟨w.heap.size + 1, 4, none⟩ (.int .i64 5) := ⟨_, rfl⟩
        rw [← hw21]
        have ht21 : Turned (fun j => j = w.heap.size + 1) w11 w21 := by rw [hw21]; exact (((turned_set _ _ _ _).trans (turned_set _ _ _ _)).trans (turned_set _ _ _ _)).trans (turned_set _ _ _ _)
        have HXP21 := Lib.hid (show w21.heap[w.heap.size + 1]? = some (.cells #[.string ⟨x.id.toArray⟩, .int .i64 1, .int .i64 1, .int .i64 0, .int .i64 5] tPost (0, 0)) by rw [hw21]; simp [World.setCell, Array.getElem?_modify, HXP11.out])
        have HPX21 := Lib.hid (heap_turned HPX11.out ht21 (by omega))
        have HO121 := Lib.hid (own_turned HO111.out ht21 (fun j hj e => own_off HO111.out HXP11.out (by decide) j hj e)); have HO221 := Lib.hid (own_turned HO211.out ht21 (fun j hj e => by have := (hO2lt j hj).1; omega))
        have HR021 := Lib.hid (HR011.out.turned ht21 (fun ad n c' e hl h => by injection e with e1 _ _; have h1 := hfar0 ad e1 hl; omega)); have HR121 := Lib.hid (HR111.out.turned ht21 (fun ad n c' e hl h => by have h3 := hnear1 ad n c' e hl; injection e with e1 _ _; have h1 := hfar1 ad e1 hl; omega)); have HR221 := Lib.hid (HR211.out.turned ht21 (fun ad n c' e hl h => by have h3 := hnear2 ad n c' e hl; injection e with e1 _ _; have h1 := hfar2 ad e1 hl; omega))
        have hs21 : w11.heap.size ≤ w21.heap.size := ht21.size
        clear hw21 p0 p1 p2 p3 p4 f0 f1 f2 f3 f4 q0 q1 q2 q3 q4 q5 q6 q7 q8 q9 q10
        obtain ⟨p0, p1, p2, p3, p4⟩ := cell5 HXP21.out
        obtain ⟨q0, q1, q2, q3, q4, q5, q6, q7, q8, q9, q10⟩ := cell11 HPX21.out
        have HOA := Lib.hid (own_keep HO221.out (below_alloc w21 (.cells #[.string ⟨x.id.toArray⟩, .int .i64 1, .int .i64 1, .int .i64 0, .int .i64 5] tPost)))
        go_wp2_with (at_builtin; refine wpList_append_any _ rfl (.tmp 90) (.tmp 92) tPosts rfl w4.heap.size tPost j0 (mkPost ⟨[], 0, 0, 0, 0⟩) 5 48 Tryd.underlying39 ji jz0 jz1 jz2 rfl (by decide) (.slice Ap c.b.length cp) c.b.length (c.b.flatMap encP) rfl HOA.out 1 (encP ⟨x.id, 1, 1, 0, 5⟩) (src_blk (xs := encP ⟨x.id, 1, 1, 0, 5⟩) (heap_new _ _) (encP_one _)) (by unfold maxLen; omega) (by omega) (by simp; omega) ?_; intro v22 w22 ho22 hg22 hat22; obtain ⟨A22, c22, rfl, _⟩ := own_slice ho22; have ht22 : Turned (fun j => Value.ownBlock (.slice Ap c.b.length cp) = some j) w21 w22 := (Turned.of_below (below_alloc w21 _)).trans (Turned.of_grown hg22 (fun j h => h)); have HT22 := Lib.hid ht22; have HO22 := Lib.hid ho22; have HPX22 := Lib.hid (heap_turned HPX21.out ht22 (own_apartT HO221.out HPX21.out (by decide))); clear ho22 hg22 hat22 ht22 q0 q1 q2 q3 q4 q5 q6 q7 q8 q9 q10; obtain ⟨q0, q1, q2, q3, q4, q5, q6, q7, q8, q9, q10⟩ := cell11 HPX22.out; obtain ⟨g0, g1, g2, g3, g4, g5, g6, g7, g8, g9, g10⟩ := froz11 HPX22.out)
        obtain ⟨w23, hw23⟩ : ∃ w23, w23 = w22.setCell ⟨bp, 1, none⟩ (.slice A22 (c.b.length + 1) c22) := ⟨_, rfl⟩
        rw [← hw23]
        have ht23 : Turned (fun j => j = bp) w22 w23 := by rw [hw23]; exact turned_set _ _ _ _
        have hs23 := Nat.le_trans HT22.out.size ht23.size
        clear hw23
        have hapt := own_apart HO121.out HO221.out (by decide)
        have HS23 := Lib.hid (sgs_own (own_turned (own_turned HO121.out HT22.out (fun j hj h => by rcases hapt with e | e; (rw [e] at hj; cases hj); exact e (by rw [hj, h]))) ht23 (fun j hj e => own_off HO121.out HPX21.out (by decide) j hj e)))
        have HP23 := Lib.hid (show Pos w23 (.slice A22 (c.b.length + 1) c22) (c.b ++ [⟨x.id, 1, 1, 0, 5⟩]) from pos_own (by rw [List.length_append, List.flatMap_append]; simpa using own_turned HO22.out ht23 (fun j hj e => own_off HO22.out HPX22.out (by decide) j hj e)))
        have hR0 := (HR021.out.turned HT22.out (fun ad n c' e hl h => by injection e with e1 _ _; have h1 := hfar0 ad e1 hl; have h2 := hbz2 _ h; omega)).turned ht23 (fun ad n c' e hl h => by have h3 := hnear0 ad n c' e hl; injection e with e1 _ _; have h1 := hfar0 ad e1 hl; omega)
        have hR1 := (HR121.out.turned HT22.out (fun ad n c' e hl h => by injection e with e1 _ _; have h1 := hfar1 ad e1 hl; have h2 := hbz2 _ h; omega)).turned ht23 (fun ad n c' e hl h => by have h3 := hnear1 ad n c' e hl; injection e with e1 _ _; have h1 := hfar1 ad e1 hl; omega)
        have hR2 := (HR221.out.turned HT22.out (fun ad n c' e hl h => by injection e with e1 _ _; have h1 := hfar2 ad e1 hl; have h2 := hbz2 _ h; omega)).turned ht23 (fun ad n c' e hl h => by have h3 := hnear2 ad n c' e hl; injection e with e1 _ _; have h1 := hfar2 ad e1 hl; omega)
        have HB23 := Lib.hid (show Below w.heap.size w w23 from Below.turned (Below.turned (Below.turned HBW11.out ht21 (fun i h => by omega) (by omega)) HT22.out (fun i h => by have := (hO2lt i h).1; omega) (by omega)) ht23 (fun i h => by omega) (by have := HT22.out.size; omega))
        have HK23 := Lib.hid (HK0.out.below HB23.out)
        clear ht21 ht23 HT22 HO22 HPX22 q0 q1 q2 q3 q4 q5 q6 q7 q8 q9 q10 g0 g1 g2 g3 g4 g5 g6 g7 g8 g9 g10
        have hxl9 : x.id.length ≤ 1000 := by omega
        have hll9 : l.length ≤ 1000 := by omega
        obtain ⟨x9, hx9⟩ : ∃ x9 : Po, x9 = ⟨x.id, 1, 1, 0, 5⟩ := ⟨_, rfl⟩
        have hxo9 : x9.ord = 1 ∧ x9.deb = 1 ∧ x9.cre = 0 ∧ x9.amt = 5 := by rw [hx9]; exact ⟨rfl, rfl, rfl, rfl⟩
        have hxi9 : x9.id.length ≤ 1000 := by rw [hx9]; exact hxl9
        have HP9 := HP23.out
        rw [← hx9] at HP9
        have hA := cof_more w23 _ _ _ _ _ c.l (c.b ++ [x9]) c.inn HS23.out HP9 hR0 hR1 hR2 c.b x9 rfl l.length
        have hB := hA HI.out
        have hC := hB HH.out
        have hD := hC hll9
        have hE := hD (kw_pt HK23.out) hxo9 hxi9
        refine hE.mono ?_
        rintro r w24 ⟨rfl, hb24⟩
        have HK24 := Lib.hid (HK23.out.below hb24); have HB24 := Lib.hid (bch HB23.out hb24 HB23.out.size)
        clear hb24 hR0 hR1 hR2
        go_wp2_with (go_at_call 5; refine (came_at _ HK24.out).mono ?_; rintro r w25 ⟨rfl, hb25⟩; have HB25 := Lib.hid hb25; clear hb25)
        go_ret
        exact ⟨rfl, bch HB24.out HB25.out HB24.out.size⟩
end Go.Proofs.YtnfbhocppijbjaaDoor
/- The frame that the door laws over cores share: what 'laid' gives, the witness' world. -/
namespace Go.Proofs.YtnfbhocppijbjaaDoor
open Go.ChangeShapes Go.WideShapes Go.ChangeAt

theorem doorOwn : ownKnob Tryd.prog.godebug = none := by kernel_rfl
theorem doorLaidOut : laidOutB Tryd.prog = true := by kernel_rfl
theorem gTabC : Tryd.prog.globalNamed "internal/strconv.uint64pow10" = some 2 := by kernel_rfl
theorem gDeedsC : Tryd.prog.globalNamed "consignor/keys.deeds" = some 0 := by kernel_rfl
def doorObj (cs : Array Value) : Obj → Obj
  | .cells _ t frozen => .cells cs t frozen
  | o => o
def tabV (k : IntKind) (zs : List Int) : Array Value := (zs.map fun z => Value.int k z).toArray
/-- So many blocks has the settled world. -/
noncomputable def doorLow : Nat := (World.holding Tryd.prog default ⟨#[], #[], []⟩).heap.size
theorem map_of {name : String} {gl n : Nat} {D : DataW Unit} {r : List (String × DataW Unit)} {W : World} (hgn : Tryd.prog.globalNamed name = some gl) (hgt : (Tryd.prog.globals[gl]?).map (·.type) = some 118) (hDn : ∃ l, D = .map l ∧ l.length = n) (h : laidMet Tryd.prog ((name, D) :: r) W) :
    ∃ b, W.cell? ⟨gl, 0, none⟩ = some (.map (some b)) ∧ gl < W.heap.size ∧ W.ownsMap Tryd.prog tStr (plainElem Tryd.prog tIntK2) b n D := by
  obtain ⟨ps, ⟨g, t, cs, fuel, p, q, hg, ht, hv, hd, _⟩, _⟩ := h
  obtain rfl := Option.some.inj (hgn.symm.trans hg)
  obtain rfl := Option.some.inj (hgt.symm.trans ht)
  obtain ⟨l, rfl, hl⟩ := hDn
  rcases WideElems.open_map Tryd.underlying118 hd with ⟨_, hx⟩ | ⟨bm, es, clock, n', _, hcs, hb, _, F, hx⟩
  · injection hx with hx _
    cases hx
  · have hown := World.ownsMap_of_fit (R := plainElem Tryd.prog tIntK2) hb F (fun x _ z hz => elemAt_plainElem_int Tryd.underlying3 hz)
    injection hx with hx _
    have hc := World.var?_cell hg hv 0
    have e0 : cs[0]? = some (.map (some bm)) := by
      have : cs.toList[0]? = some (.map (some bm)) := by rw [hcs]; rfl
      simpa using this
    rw [e0] at hc
    have hD : DataW.map ((es.toList.map (WideElems.rg Tryd.prog tStr (WideElems.elemAt (fun _ => ()) Tryd.prog W 0 (fun _ => true) false n' tIntK2))).foldr DataW.insert []) = .map l := hx.symm
    have hsz : es.size = n := by
      have := congrArg Maps.size hD
      rw [← hl]
      simpa [Maps.size, length_sorted] using this
    rw [hD, hsz] at hown
    exact ⟨bm, hc, World.block_lt_of_cell? W _ hc, hown⟩

theorem kw_laid {r : List (String × DataW Unit)} {d1 d2 : String × DataW Unit} {W : World}
    (h : laidMet Tryd.prog (d1 :: d2 :: ("internal/strconv.uint64pow10", Lib.tabData .u64 Lib.pow10Tab) :: ("consignor/keys.parties", Lib.tabData .i64 [1, 0, 2, 1, 0, 2]) :: ("consignor/keys.deeds", D6) :: r) W) : KW W :=
  ⟨⟨Lib.tabIs_of_head gTabC (by kernel_rfl) Tryd.underlying128 Tryd.underlying121 (by kernel_rfl) (by kernel_rfl) h.tail.tail⟩, Lib.tabIs_of_head gPartiesK2 (by kernel_rfl) Tryd.underlying49 Tryd.underlying3 (by kernel_rfl) (by kernel_rfl) h.tail.tail.tail, map_of gDeedsC (by kernel_rfl) ⟨_, rfl, rfl⟩ h.tail.tail.tail.tail⟩
abbrev coHeld : Input := ⟨#[.map #[⟨.string ⟨#[114, 101, 115, 101, 114, 118, 101]⟩, .int .i64 0, 0⟩, ⟨.string ⟨#[99, 104, 97, 114, 103, 101]⟩, .int .i64 1, 1⟩, ⟨.string ⟨#[115, 104, 105, 112]⟩, .int .i64 2, 2⟩, ⟨.string ⟨#[114, 101, 108, 101, 97, 115, 101]⟩, .int .i64 3, 3⟩, ⟨.string ⟨#[114, 101, 102, 117, 110, 100]⟩, .int .i64 4, 4⟩, ⟨.string ⟨#[118, 111, 105, 100]⟩, .int .i64 5, 5⟩] 6], #[], []⟩
/-- A WORLD FOR THE WITNESS: the settled one, a map more, the tables as their initialisers lay them. -/
noncomputable def coWorld (os : Os) : World :=
  { World.holding Tryd.prog os coHeld with
    heap := (((((World.holding Tryd.prog os coHeld).heap.modify 2 (doorObj (tabV .u64 [1, 10, 100, 1000, 10000, 100000, 1000000, 10000000, 100000000, 1000000000, 10000000000, 100000000000, 1000000000000, 10000000000000, 100000000000000, 1000000000000000, 10000000000000000, 100000000000000000, 1000000000000000000, 10000000000000000000]))).modify 3 (doorObj (tabV .u8 [0, 1, 28, 2, 29, 14, 24, 3, 30, 22, 20, 15, 25, 17, 4, 8, 31, 27, 13, 23, 21, 19, 16, 7, 26, 12, 18, 6, 11, 5, 10, 9]))).modify 4 (doorObj (tabV .u8 [0, 1, 56, 2, 57, 49, 28, 3, 61, 58, 42, 50, 38, 29, 17, 4, 62, 47, 59, 36, 45, 43, 51, 22, 53, 39, 33, 30, 24, 18, 12, 5, 63, 55, 48, 27, 60, 41, 37, 16, 46, 35, 44, 21, 52, 32, 23, 11, 54, 26, 40, 15, 34, 20, 31, 10, 25, 14, 19, 9, 13, 8, 7, 6]))).modify 1 (doorObj (tabV .i64 [1, 0, 2, 1, 0, 2]))).modify 0 (doorObj #[.map (some doorLow)]) }
end Go.Proofs.YtnfbhocppijbjaaDoor
/- A posting, and the entries with their weight, as a caller hands them over. -/
namespace Go.Proofs.YtnfbhocppijbjaaDoor
open Go.RowKit Go.ChangeShapes Go.WideShapes Go.Deep Go.Joins Sa Co

section
variable {H : Type} {enc : TypeId × Value → H}
/-- A posting, as a caller hands it over. -/
def IsPost (cs : List Value) (x : Po) : Prop := cs = [.string ⟨x.id.toArray⟩, .int .i64 x.ord, .int .i64 x.deb, .int .i64 x.cre, .int .i64 x.amt] ∧ x.id.length ≤ maxLen
theorem opens_post : Opens enc Tryd.prog 33 Po fun _ _ cs x => IsPost cs x :=
  (opens_struct Tryd.underlying33 (k := 5) (by kernel_rfl) (opens_cons (k := 1) (by kernel_rfl) (opens_str Tryd.underlying9) (opens_cons (k := 1) (by kernel_rfl) (opens_int Tryd.underlying3) (opens_cons (k := 1) (by kernel_rfl) (opens_int Tryd.underlying3) (opens_cons (k := 1) (by kernel_rfl) (opens_int Tryd.underlying3) (opens_cons (k := 1) (by kernel_rfl) (opens_int Tryd.underlying2) opens_nil)))))).imp fun _ _ cs a h => by
    obtain ⟨hl, h0, h1, h2, h3, h4, _⟩ := h
    obtain ⟨x0, x1, x2, x3, x4, rfl⟩ := list5 hl
    simp only [List.drop_zero, List.take_succ_cons, List.take_zero, List.drop_succ_cons, List.cons.injEq, and_true] at h0 h1 h2 h3 h4
    exact ⟨⟨a.1, a.2.1, a.2.2.1, a.2.2.2.1, a.2.2.2.2.1⟩, by rw [h0.1, h1.1, h2.1, h3.1, h4.1], h0.2⟩
/-- A slice that is handed over is no longer than its weight. -/
theorem slice_light {P : Program} {W : World} {t e : TypeId} {A : Option Addr} {n c : Nat} {d : DataW H} {p : List MemPlace} {ts : List TypeId} {ds : List (DataW H)} {j : Nat} (ht : P.underlying t = some (.slice e)) (h : DataW.Trod enc P W 0 (fun _ => true) true t (.slice A n c) d p)
    (hWT : (DataW.weightsEach P ts ds).all (· ≤ reachBytes) = true) (hj : ts[j]? = some t) (hd : ds[j]? = some d) : n * P.bytesOf e ≤ reachBytes := by
  obtain ⟨fuel, h⟩ := h
  rcases open_slice ht h with ⟨e3, _⟩ | ⟨a, len, cap, m, n', D, Pl, e3, _, _, _, _, e4, _⟩
  · have e3 : [Value.slice A n c] = [.slice none 0 0] := e3
    injection e3 with e3
    injection e3 with _ e3 _
    subst e3
    simp
  · have e3 : [Value.slice A n c] = [.slice (some a) len cap] := e3
    injection e3 with e3
    injection e3 with _ e3 _
    subst e3
    have e4 := (Prod.mk.inj e4).1
    subst e4
    have h1 := sized_slice hWT hj hd ht
    rw [List.length_map, List.length_range] at h1
    exact Nat.le_trans (Nat.mul_le_mul_right _ (Nat.le_add_right _ _)) h1
end
end Go.Proofs.YtnfbhocppijbjaaDoor
/- consignorlaw24.CoreParts: for every input the law answers true, and what it is handed reads as it did. (The tied card.) -/
namespace Go.Proofs.YtnfbhocppijbjaaDoor.coreParts
open Go.ChangeShapes Go.WideShapes Go.ChangeAt Go.RowKit
open Go.ChangeMaps (open_string shut_string)
set_option linter.unusedVariables false

theorem laid_met (os : Os) : laidMet Tryd.prog Rows.corePartsRow.laid ((coWorld os).forCall (fun _ _ => 0) ⟨#[], #[.slice none 0 0, .agg #[.int .i64 0, .int .i64 0, .string ByteArray.empty, .string ByteArray.empty, .int .i64 0, .int .i64 0, .int .i64 0, .int .i64 0, .int .i64 0, .int .i64 0, .int .i64 0, .slice none 0 0], .agg #[.string ByteArray.empty, .int .i64 0, .int .i64 0, .int .i64 0, .int .i64 0]], []⟩).memory :=
  laidMet_of_run' 8 (by kernel_rfl) (by kernel_rfl)
theorem reads (os : Os) {H : Type} (enc : TypeId × Value → H) : ∃ places, DataW.whole enc Tryd.prog ((coWorld os).forCall (fun _ _ => 0) ⟨#[], #[.slice none 0 0, .agg #[.int .i64 0, .int .i64 0, .string ByteArray.empty, .string ByteArray.empty, .int .i64 0, .int .i64 0, .int .i64 0, .int .i64 0, .int .i64 0, .int .i64 0, .int .i64 0, .slice none 0 0], .agg #[.string ByteArray.empty, .int .i64 0, .int .i64 0, .int .i64 0, .int .i64 0]], []⟩).memory Tryd.f3.params.toList Rows.corePartsSpec.vars false #[Value.slice none 0 0, Value.agg #[.int .i64 0, .int .i64 0, .string ByteArray.empty, .string ByteArray.empty, .int .i64 0, .int .i64 0, .int .i64 0, .int .i64 0, .int .i64 0, .int .i64 0, .int .i64 0, .slice none 0 0], Value.agg #[.string ByteArray.empty, .int .i64 0, .int .i64 0, .int .i64 0, .int .i64 0]].toList 8 = some ([.nil, .agg [.lit (.int .i64 0), .agg [.lit (.int .i64 0), .lit (.string []), .lit (.string []), .lit (.int .i64 0), .lit (.int .i64 0)], .agg [.lit (.int .i64 0), .lit (.int .i64 0)], .lit (.int .i64 0), .agg [.lit (.int .i64 0), .lit (.int .i64 0), .nil]], .agg [.lit (.string []), .lit (.int .i64 0), .lit (.int .i64 0), .lit (.int .i64 0), .lit (.int .i64 0)]], [], places) :=
  ⟨[], by kernel_rfl⟩

set_option maxRecDepth 100000 in
theorem lifted (os : Os) (started : os.Started) (H : Type) (enc : TypeId × Value → H) (F : Stop.Interp) :
    ReturnsInHanded {} Tryd.checked os 3 .any ((OpenSpec.ofChange Rows.corePartsSpec).preRow enc Tryd.prog Tryd.f3 Rows.corePartsRow.domain false Rows.corePartsRow.laid) (((OpenSpec.ofChange Rows.corePartsSpec).at F).post enc Tryd.prog Tryd.f3 false true false false) := by
  obtain ⟨places, hx⟩ := reads os enc
  refine returnsInHanded_of_row (C := Tryd.checked) (s := OpenSpec.ofChange Rows.corePartsSpec) doorOwn started (by kernel_rfl) Tryd.func3
    (witness_row_at (enc := enc) (C := Tryd.checked) false (coWorld os) #[.slice none 0 0, .agg #[.int .i64 0, .int .i64 0, .string ByteArray.empty, .string ByteArray.empty, .int .i64 0, .int .i64 0, .int .i64 0, .int .i64 0, .int .i64 0, .int .i64 0, .int .i64 0, .slice none 0 0], .agg #[.string ByteArray.empty, .int .i64 0, .int .i64 0, .int .i64 0, .int .i64 0]] rfl (by kernel_rfl) (by kernel_rfl) (by kernel_rfl)
      (OpenSpec.preRow_of_cond 8 hx (by kernel_rfl) (fun k hk => by cases hk) (by kernel_rfl) (laid_met os))) ?_
  intro W base args ds gs before hval0 hW _ _ hWT hL hS _
  have hval : ∀ (j : Nat) t v, Tryd.f3.params[j]? = some t → args[j]? = some v → Value.okWide Tryd.prog W .any base t v := hval0
  have hW' := hW
  obtain ⟨p, q, hA0, hV, rfl, hfz, hnd⟩ := hW
  have hA : DataW.TrodAll enc Tryd.prog W 0 (fun _ => true) true Tryd.f3.params.toList args.toList ds p := hA0
  rw [Tryd.params3] at hA hval
  obtain ⟨v0, vs0, d0, ds0, p0, q0, hargs0, rfl, rfl, h0, r0⟩ := trodAll_cons hA
  obtain ⟨v1, vs1, d1, ds1, p1, q1, hargs1, rfl, rfl, h1, r1⟩ := trodAll_cons r0
  obtain ⟨v2, vs2, d2, ds2, p2, q2, hargs2, rfl, rfl, h2, r2⟩ := trodAll_cons r1
  obtain ⟨rfl, rfl, rfl⟩ := trodAll_nil r2
  obtain rfl : args = #[v0, v1, v2] := by cases args; simp_all
  obtain ⟨rfl, rfl⟩ := trodVars_none hV
  have k0 := h0
  have lt0 : ∀ x ∈ p0, x.block < W.heap.size := by obtain ⟨m, hm⟩ := k0; exact DataW.trod_lt m _ _ _ hm
  have k1 := h1
  have lt1 : ∀ x ∈ p1, x.block < W.heap.size := by obtain ⟨m, hm⟩ := k1; exact DataW.trod_lt m _ _ _ hm
  have k2 := h2
  have lt2 : ∀ x ∈ p2, x.block < W.heap.size := by obtain ⟨m, hm⟩ := k2; exact DataW.trod_lt m _ _ _ hm
  obtain ⟨L0, hL0⟩ := opens_argN Tryd.underlying22 (k := 12) (by kernel_rfl) (by decide) opens_ent (hval 0 22 v0 rfl rfl) h0 lt0
  obtain ⟨cs1, x1, rfl, hx1⟩ := opens_agg Tryd.underlying31 opens_ent (hval 1 31 v1 rfl rfl) h1 lt1
  obtain ⟨A1, cc1, hcs1, hat1⟩ := IsEnt.at hx1
  obtain rfl : cs1 = (entV x1 (.slice A1 x1.s.2.2.length cc1)).toArray := Array.toList_inj.1 hcs1
  obtain ⟨cs2, x2, rfl, hx2⟩ := opens_agg Tryd.underlying33 opens_post (hval 2 33 v2 rfl rfl) h2 lt2
  obtain ⟨hcs2, hle2⟩ := hx2
  obtain rfl : cs2 = ([.string ⟨x2.id.toArray⟩, .int .i64 x2.ord, .int .i64 x2.deb, .int .i64 x2.cre, .int .i64 x2.amt] : List Value).toArray := Array.toList_inj.1 hcs2
  have hlb : L0.length * 128 ≤ 140737488351232 := by
    obtain ⟨Aq, cq, hq, _, _⟩ := SlK.shape hL0.1
    have k := k0
    rw [hq] at k
    have h := slice_light Tryd.underlying22 k hWT (j := 0) (by kernel_rfl) rfl
    rw [show Tryd.prog.bytesOf 31 = 128 from by kernel_rfl] at h
    exact h
  clear hA0 hval0
  refine (lawCoreParts_walk W (kw_laid hL) _ L0 hL0.1 hL0.2 x1 _ _ hat1 x2 hle2 hlb).mono fun e W' ⟨he, bel⟩ => ?_
  subst he
  exact ⟨_, rfl, _, _, _, [], _, [], hW', trodAll_mk1 (shut_bool Tryd.underlying4 _), (trodAll_cons_mk (Below.trod doorLaidOut (by kernel_rfl) (of_decide_eq_true (by kernel_rfl)) k0 bel lt0) (trodAll_cons_mk (Below.trod doorLaidOut (by kernel_rfl) (of_decide_eq_true (by kernel_rfl)) k1 bel lt1) (trodAll_cons_mk (Below.trod doorLaidOut (by kernel_rfl) (of_decide_eq_true (by kernel_rfl)) k2 bel lt2) trodAll_mk0))), rfl, bel.frame _, fun h => by cases h⟩

theorem said : Rows.CorePartsSaid :=
  OpenClaim.holds_of_cond 3 Tryd.f3 rfl rfl rfl rfl rfl rfl rfl ⟨rfl, rfl, rfl, rfl, rfl⟩ rfl rfl rfl rfl rfl (by kernel_rfl) Tryd.func3 (by kernel_rfl)
    (of_decide_eq_true (by kernel_rfl)) (by unfold Func.isWrapper; first | (rw [if_pos (by decide +kernel)]; kernel_rfl) | (rw [if_neg (by decide +kernel)]; exact ⟨rfl, rfl⟩))
    (fun os started H enc _ F => by rw [OpenClaim.pre_eq_preRow]; exact lifted os started H enc F)

theorem plain (f : FuncId) (fn : Func) (hf : Tryd.pinned.checked.prog.funcNamed "consignor/consignorlaw24.CoreParts" = some f) (hfn : Tryd.pinned.checked.prog.funcs[f]? = some fn) :
    false = Tryd.pinned.checked.prog.looks [] ∧ ∀ (j : Nat) t, fn.params[j]? = some t → Tryd.pinned.checked.prog.wantsStandIn t = false := by
  obtain rfl : f = 3 := Option.some.inj ((show Tryd.prog.funcNamed "consignor/consignorlaw24.CoreParts" = some 3 by kernel_rfl).symm.trans hf) |>.symm
  obtain rfl : fn = Tryd.f3 := (Option.some.inj (Tryd.func3.symm.trans hfn)).symm
  refine ⟨by kernel_rfl, fun j t ht => ?_⟩
  rw [Tryd.params3] at ht
  have hm : t = 22 ∨ t = 31 ∨ t = 33 := by simpa using Array.mem_of_getElem? ht
  rcases hm with rfl | rfl | rfl
  · exact (show Tryd.prog.wantsStandIn 22 = false by kernel_rfl)
  · exact (show Tryd.prog.wantsStandIn 31 = false by kernel_rfl)
  · exact (show Tryd.prog.wantsStandIn 33 = false by kernel_rfl)

theorem card : Rows.CorePartsCardSaid :=
  Claim7.holds_tied_plain_at .later [] _ _ _ _ said (fun _ h => by cases h) (by kernel_rfl) (fun _ h => by cases h) coreParts_row_tie rfl ⟨rfl, rfl⟩ (by kernel_rfl) rfl plain (by kernel_rfl)
end Go.Proofs.YtnfbhocppijbjaaDoor.coreParts

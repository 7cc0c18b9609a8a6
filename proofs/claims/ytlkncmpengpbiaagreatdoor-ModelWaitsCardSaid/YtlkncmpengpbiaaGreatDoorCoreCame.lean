/- What holds of a core behind whatever entries, plain. -/
import Derived.Test.YtlkncmpengpbiaaGreatDoorCoreGreat
import Derived.Test.YtlkncmpengpbiaaGreatDoorShort
namespace Go.Proofs.YtlkncmpengpbiaaGreatDoor
open Co Key Rw Sa Od
set_option linter.unusedSimpArgs false
set_option linter.unusedVariables false
set_option maxRecDepth 100000
set_option maxHeartbeats 4000000

namespace Co
/- All accounts together. -/
theorem five (x d : Int) (h0 : 0 ≤ d) (h4 : d ≤ 4) : (if d = 0 then x else 0) + (if d = 1 then x else 0) + (if d = 2 then x else 0) + (if d = 3 then x else 0) + (if d = 4 then x else 0) = x := by
 obtain rfl | rfl | rfl | rfl | rfl : d = 0 ∨ d = 1 ∨ d = 2 ∨ d = 3 ∨ d = 4 := by omega
 all_goals simp
theorem mov_zero {p : Po} (h : mayP p) : movI p 0 + movI p 1 + movI p 2 + movI p 3 + movI p 4 = 0 := by
 obtain ⟨_, _, _, _, d0, d4, c0, c4, _, _, _⟩ := h
 have h1 := five p.amt p.deb d0 d4
 have h2 := five p.amt p.cre c0 c4
 unfold movI
 omega
theorem bal_cons (p : Po) (b : List Po) (a o : Int) : balI (p :: b) a o = (if o = 0 ∨ p.ord = o then movI p a else 0) + balI b a o := by unfold balI; rw [List.map_cons, List.sum_cons]
theorem bal_zero {b : List Po} (h : ∀ p ∈ b, mayP p) (o : Int) : balI b 0 o + balI b 1 o + balI b 2 o + balI b 3 o + balI b 4 o = 0 := by
 induction b with
 | nil => simp [balI]
 | cons p b ih =>
  have h1 := mov_zero (h p (List.mem_cons_self ..))
  have h2 := ih fun q hq => h q (List.mem_cons_of_mem _ hq)
  simp only [bal_cons]
  split <;> omega
theorem bal_app (b c : List Po) (a o : Int) : balI (b ++ c) a o = balI b a o + balI c a o := by unfold balI; rw [List.map_append, List.sum_append]
/- What of a saga's deeds stays. -/
theorem set_deed (s : Sg) (k j v : Int) (hk : 0 ≤ k ∧ k < 6) (hj : 0 ≤ j ∧ j < 6) : (setI s k v).deed j = if j = k then v else s.deed j := by
 rcases deed6 hk with rfl | rfl | rfl | rfl | rfl | rfl <;> rcases deed6 hj with rfl | rfl | rfl | rfl | rfl | rfl <;> rfl
theorem set_amt (s : Sg) (k v : Int) : (setI s k v).amt = s.amt := by
 unfold setI; repeat' split
 all_goals rfl
theorem onI_set (s : Sg) : onI s = s ∨ ∃ k, (0 ≤ k ∧ k < 6) ∧ s.deed k = 0 ∧ onI s = setI s k 1 := by
 unfold onI
 by_cases hb : backB s = false
 ·rw [if_pos hb]
  by_cases h0 : s.d0 = 0
  ·rw [if_pos h0]; exact .inr ⟨0, by omega, h0, rfl⟩
  rw [if_neg h0]
  by_cases h1 : s.d1 = 0
  ·rw [if_pos h1]; exact .inr ⟨1, by omega, h1, rfl⟩
  rw [if_neg h1]
  by_cases h2 : s.d2 = 0
  ·rw [if_pos h2]; exact .inr ⟨2, by omega, h2, rfl⟩
  rw [if_neg h2]; exact .inl rfl
 ·rw [if_neg hb]
  by_cases h0 : (s.d2 = 2 ∨ s.d2 = 4) ∧ s.d5 = 0
  ·rw [if_pos h0]; exact .inr ⟨5, by omega, h0.2, rfl⟩
  rw [if_neg h0]
  by_cases h1 : (s.d1 = 2 ∨ s.d1 = 4) ∧ s.d4 = 0
  ·rw [if_pos h1]; exact .inr ⟨4, by omega, h1.2, rfl⟩
  rw [if_neg h1]
  by_cases h2 : (s.d0 = 2 ∨ s.d0 = 4) ∧ s.d3 = 0
  ·rw [if_pos h2]; exact .inr ⟨3, by omega, h2.2, rfl⟩
  rw [if_neg h2]; exact .inl rfl
theorem net_deed (s : Sg) : Sa.netI s = if s.deed 1 = 2 ∧ s.deed 4 ≠ 2 then s.amt else 0 := rfl
theorem onI_net (s : Sg) : Sa.netI (onI s) = Sa.netI s := by
 rcases onI_set s with h | ⟨k, hk, h0, h⟩
 ·rw [h]
 ·rw [h, net_deed, net_deed, set_deed s k 1 1 hk (by omega), set_deed s k 4 1 hk (by omega), set_amt]
  by_cases e1 : (1 : Int) = k
  ·subst e1; rw [if_pos rfl, h0]; simp
  ·rw [if_neg e1]
   by_cases e4 : (4 : Int) = k
   ·subst e4; rw [if_pos rfl, h0]; simp
   ·rw [if_neg e4]
theorem onI_deed (s : Sg) (j : Int) (hj : 0 ≤ j ∧ j < 6) (h : s.deed j ≠ 0) : (onI s).deed j = s.deed j := by
 rcases onI_set s with e | ⟨k, hk, h0, e⟩
 ·rw [e]
 ·rw [e, set_deed s k j 1 hk hj, if_neg]
  intro ejk; subst ejk; exact h h0
theorem onI_amt (s : Sg) : (onI s).amt = s.amt := by
 rcases onI_set s with e | ⟨k, hk, h0, e⟩
 ·rw [e]
 ·rw [e, set_amt]
theorem waits_deed {s : Sg} (h : waitsI s ≠ 6) : (0 ≤ waitsI s ∧ waitsI s < 6) ∧ s.deed (waitsI s) = 1 := by
 unfold waitsI at *
 by_cases h0 : s.d0 = 1
 ·rw [if_pos h0]; exact ⟨by omega, h0⟩
 rw [if_neg h0] at *
 by_cases h1 : s.d1 = 1
 ·rw [if_pos h1]; exact ⟨by omega, h1⟩
 rw [if_neg h1] at *
 by_cases h2 : s.d2 = 1
 ·rw [if_pos h2]; exact ⟨by omega, h2⟩
 rw [if_neg h2] at *
 by_cases h3 : s.d3 = 1
 ·rw [if_pos h3]; exact ⟨by omega, h3⟩
 rw [if_neg h3] at *
 by_cases h4 : s.d4 = 1
 ·rw [if_pos h4]; exact ⟨by omega, h4⟩
 rw [if_neg h4] at *
 by_cases h5 : s.d5 = 1
 ·rw [if_pos h5]; exact ⟨by omega, h5⟩
 rw [if_neg h5] at *
 exact absurd rfl h
def doneB (v : Int) : Prop := v = 2 ∨ v = 3
theorem reply_facts {s : Sg} {d code : Int} (h : replyB s d code = true) : (0 ≤ d ∧ d < 6) ∧ s.deed d = 1 ∧ doneB ((replyI s d code).deed d) ∧ (∀ j, 0 ≤ j ∧ j < 6 → doneB (s.deed j) → doneB ((replyI s d code).deed j)) ∧ (replyI s d code).amt = s.amt := by
 unfold replyB at h
 simp only [Bool.and_eq_true, Bool.or_eq_true, decide_eq_true_eq] at h
 obtain ⟨⟨h6, hd⟩, hc⟩ := h
 obtain ⟨hw, h1⟩ := waits_deed h6
 rw [hd] at hw h1
 unfold replyI
 have hsd := set_deed s d d (code + 1) hw hw
 rw [if_pos rfl] at hsd
 refine ⟨hw, h1, ?_, fun j hj hdn => ?_, by rw [onI_amt, set_amt]⟩
 ·rw [onI_deed _ d hw (by rw [hsd]; omega), hsd]; unfold doneB; omega
 ·have hjd : ¬ j = d := fun e => by subst e; rw [h1] at hdn; unfold doneB at hdn; omega
  have hsj := set_deed s d j (code + 1) hw hj
  rw [if_neg hjd] at hsj
  rw [onI_deed _ j hj (by rw [hsj]; unfold doneB at hdn; omega), hsj]; exact hdn
theorem can_deed (s : Sg) (b : Bool) (k : Int) : ({ s with can := b } : Sg).deed k = s.deed k := rfl
theorem stop_facts {s : Sg} (h : goingB s = true) : Sa.netI (stopI s) = Sa.netI s ∧ (∀ j, 0 ≤ j ∧ j < 6 → doneB (s.deed j) → doneB ((stopI s).deed j)) ∧ (stopI s).amt = s.amt := by
 unfold goingB at h
 simp only [Bool.and_eq_true, decide_eq_true_eq] at h
 obtain ⟨hw, h1⟩ := waits_deed h.1
 unfold stopI
 refine ⟨?_, fun j hj hdn => ?_, by rw [onI_amt]; exact set_amt ..⟩
 ·rw [onI_net]
  show Sa.netI (setI s (waitsI s) 4) = _
  rw [net_deed, net_deed, set_deed s _ 1 4 hw (by omega), set_deed s _ 4 4 hw (by omega), set_amt]
  by_cases e1 : (1 : Int) = waitsI s
  ·rw [if_pos e1]; rw [← e1] at h1; rw [h1]; simp
  ·rw [if_neg e1]
   by_cases e4 : (4 : Int) = waitsI s
   ·rw [if_pos e4]; rw [← e4] at h1; rw [h1]; simp
   ·rw [if_neg e4]
 ·have hjd : ¬ j = waitsI s := fun e => by rw [e, h1] at hdn; unfold doneB at hdn; omega
  have hsj := set_deed s (waitsI s) j 4 hw hj
  rw [if_neg hjd] at hsj
  rw [onI_deed _ j hj (by rw [can_deed, hsj]; unfold doneB at hdn; omega), can_deed, hsj]; exact hdn
/- The names of postings. -/
theorem putK_len10 (o d : Int) : (putK o d).length ≤ 10 := by
 by_cases h : chk o d = true
 ·have h1 : (Lib.itoa o).length ≤ 2 := by
   have hc := chk_iff.1 h
   obtain ⟨u, rfl⟩ : ∃ u : Nat, o = (u : Int) := ⟨o.toNat, by omega⟩
   rw [Lib.itoa_nonneg]
   exact Mon.dec_len 1 u (by omega)
  have h2 := wordL_len d
  unfold putK
  rw [if_pos h, List.length_append, List.length_cons]
  omega
 ·rw [putK_no h]; simp
theorem itoa_digits {n : Int} (h : 0 ≤ n) : ∀ c ∈ Lib.itoa n, Mon.Digit c := by
 obtain ⟨u, rfl⟩ : ∃ u : Nat, n = (u : Int) := ⟨n.toNat, by omega⟩
 rw [Lib.itoa_nonneg]
 exact Mon.dec_digit u
theorem itoa_inj {a b : Int} (ha : Mon.InR a) (hb : Mon.InR b) (e : Lib.itoa a = Lib.itoa b) : a = b := by
 have h1 := Mon.getM_itoa a ha
 rw [e, Mon.getM_itoa b hb] at h1
 exact (Prod.mk.inj h1).1.symm
theorem sidL_inj {q o q' o' : Int} (h : 0 ≤ q ∧ q ≤ 1073741824) (h' : 0 ≤ q' ∧ q' ≤ 1073741824) (ho : 0 ≤ o ∧ o ≤ 60) (ho' : 0 ≤ o' ∧ o' ≤ 60) (e : sidL q o = sidL q' o') : q = q' ∧ o = o' := by
 unfold sidL at e
 rw [List.append_assoc, List.append_assoc, List.append_assoc, List.append_assoc] at e
 have e := List.append_cancel_left e
 obtain ⟨e1, e2⟩ := split_dash (a := Lib.itoa q) (c := Lib.itoa q') e (itoa_nodash h.1) (itoa_nodash h'.1)
 exact ⟨itoa_inj (by unfold Mon.InR; omega) (by unfold Mon.InR; omega) e1, itoa_inj (by unfold Mon.InR; omega) (by unfold Mon.InR; omega) e2⟩
theorem put_sid {o d q o' : Int} (h : chk o d = true) : putK o d ≠ sidL q o' := by
 intro e
 have hc := chk_iff.1 h
 unfold putK sidL at e
 rw [if_pos h] at e
 cases hi : Lib.itoa o with
 | nil => rw [hi] at e; simp at e
 | cons c l =>
  have hd := itoa_digits (n := o) (by omega) c (by rw [hi]; simp)
  rw [hi] at e
  simp only [List.cons_append, List.nil_append, List.cons.injEq] at e
  rw [e.1] at hd
  unfold Mon.Digit at hd
  exact absurd hd.2 (by decide)
theorem sidL_len {q o : Int} (h : 0 ≤ q ∧ q ≤ 1073741824) (ho : 0 ≤ o ∧ o ≤ 60) : 0 < (sidL q o).length ∧ (sidL q o).length ≤ 1000 := by
 have h1 := Lib.itoa_length_le q (by omega) (by omega)
 have h2 := Lib.itoa_length_le o (by omega) (by omega)
 unfold sidL
 simp only [List.length_append, List.length_cons, List.length_nil]
 omega
/- What a list of rows says. -/
def saidR (l : List R5) (k : Int × Int) : Int := (l.map fun r => if r.1 = k ∧ r.2.1 = 1 then r.2.2.1 else 0).sum
theorem said_cons (r : R5) (l : List R5) (k : Int × Int) : saidR (r :: l) k = (if r.1 = k ∧ r.2.1 = 1 then r.2.2.1 else 0) + saidR l k := by unfold saidR; rw [List.map_cons, List.sum_cons]
theorem said_none {l : List R5} {k : Int × Int} (h : ∀ r ∈ l, r.1 ≠ k) : saidR l k = 0 := by
 induction l with
 | nil => rfl
 | cons r l ih => rw [said_cons, ih fun x hx => h x (List.mem_cons_of_mem _ hx), if_neg fun e => h r (List.mem_cons_self ..) e.1]; rfl
theorem said_find {l : List R5} (hn : (l.map (·.1)).Nodup) (k : Int × Int) : saidR l k = match In.findR l k with | none => 0 | some r => if r.2.1 = 1 then r.2.2.1 else 0 := by
 induction l with
 | nil => rfl
 | cons r l ih =>
  rw [List.map_cons, List.nodup_cons] at hn
  rw [said_cons]
  unfold In.findR
  by_cases hr : r.1 = k
  ·rw [List.find?_cons_of_pos (by simpa using hr), said_none fun x hx e => hn.1 (by rw [hr, ← e]; exact List.mem_map.2 ⟨x, hx, rfl⟩)]
   simp [hr]
  ·rw [List.find?_cons_of_neg (by simpa using hr), if_neg fun e => hr e.1, Int.zero_add]
   exact ih hn.2
theorem amt_said {I : In.Inn} (h : In.Fine I) {o d : Int} (hk : chk o d = true) (hp : partyI d = 0) : In.amtI I o d = saidR I.a.2.2 (o, d) := by
 unfold In.amtI
 rw [h.rowOf_party hk, hp, said_find (In.ok_nodup h.a)]
 rfl
/-- What the payment's statement says of an order. -/
def saidO (l : List R5) (o : Int) : Int := saidR l (o, 1) - saidR l (o, 4)
theorem net_said {I : In.Inn} (h : In.Fine I) {o : Int} (ho : 1 ≤ o ∧ o ≤ 60) : In.netI I o = saidO I.a.2.2 o := by
 unfold In.netI saidO
 rw [amt_said h (chk_iff.2 (by omega)) (by decide), amt_said h (chk_iff.2 (by omega)) (by decide)]
/- What a statement's postings come to. -/
theorem stm_cases (q o by_ : Int) : (by_ = 0 ∧ stmBy q o by_ = []) ∨ ∃ p, stmBy q o by_ = [p] ∧ p.id = sidL q o ∧ p.ord = o ∧ p.amt = (if 0 < by_ then by_ else -by_) ∧ 0 < p.amt ∧ movI p 1 = -by_ ∧ movI p 2 = by_ ∧ 0 ≤ p.deb ∧ p.deb ≤ 4 ∧ 0 ≤ p.cre ∧ p.cre ≤ 4 ∧ p.deb ≠ p.cre := by
 unfold stmBy
 by_cases h1 : 0 < by_
 ·rw [if_pos h1, if_pos h1]
  exact .inr ⟨_, rfl, rfl, rfl, rfl, h1, by simp [movI], by simp [movI], by simp⟩
 ·rw [if_neg h1, if_neg h1]
  by_cases h2 : by_ < 0
  ·rw [if_pos h2]
   exact .inr ⟨_, rfl, rfl, rfl, rfl, by show 0 < -by_; omega, by simp [movI], by simp [movI], by simp⟩
  ·rw [if_neg h2]; exact .inl ⟨by omega, rfl⟩
theorem bal_one (p : Po) (a o : Int) : balI [p] a o = if o = 0 ∨ p.ord = o then movI p a else 0 := by rw [bal_cons]; simp [balI]
theorem stm1_bal (I J : In.Inn) (q n o : Int) (ho : 1 ≤ o) : balI (stmP1 I J q n) 1 o = (if n = o then -(In.netI J o - In.netI I o) else 0) ∧ balI (stmP1 I J q n) 2 o = (if n = o then In.netI J o - In.netI I o else 0) := by
 unfold stmP1
 rcases stm_cases q n (In.netI J n - In.netI I n) with ⟨h0, h⟩ | ⟨p, h, _, ho2, _, _, m1, m2, _⟩
 ·rw [h]
  by_cases e : n = o
  ·subst e; simp [balI]; omega
  ·simp [balI, e]
 ·rw [h, bal_one, bal_one, ho2, m1, m2]
  by_cases e : n = o
  ·subst e; simp
  ·rw [if_neg (by omega), if_neg e, if_neg (by omega), if_neg e]; exact ⟨rfl, rfl⟩
theorem stm_bal (I J : In.Inn) (q : Int) (n : Nat) (o : Int) (ho : 1 ≤ o) : balI (stmPs I J q n) 1 o = (if o ≤ n then -(In.netI J o - In.netI I o) else 0) ∧ balI (stmPs I J q n) 2 o = (if o ≤ n then In.netI J o - In.netI I o else 0) := by
 induction n with
 | zero => simp [stmPs, balI]; omega
 | succ n ih =>
  have h1 := stm1_bal I J q ((n : Int) + 1) o ho
  rw [stmPs_succ, bal_app, bal_app, ih.1, ih.2, h1.1, h1.2]
  by_cases e : o ≤ n
  ·rw [if_pos e, if_pos e, if_neg (by omega), if_pos (by push_cast; omega), if_neg (by omega), if_pos (by push_cast; omega)]; omega
  ·by_cases e2 : (n : Int) + 1 = o
   ·rw [if_neg e, if_neg e, if_pos e2, if_pos (by push_cast; omega), if_pos e2, if_pos (by push_cast; omega)]; omega
   ·rw [if_neg e, if_neg e, if_neg e2, if_neg (by push_cast; omega), if_neg e2, if_neg (by push_cast; omega)]; omega
theorem stm_ids (I J : In.Inn) (q : Int) (n : Nat) : ∀ p ∈ stmPs I J q n, ∃ o, 1 ≤ o ∧ o ≤ (n : Int) ∧ p.id = sidL q o ∧ p ∈ stmP1 I J q o := by
 intro p hp
 unfold stmPs at hp
 obtain ⟨i, hi, hpi⟩ := List.mem_flatMap.1 hp
 have := List.mem_range.1 hi
 refine ⟨(i : Int) + 1, by omega, by omega, ?_, hpi⟩
 unfold stmP1 at hpi
 rcases stm_cases q ((i : Int) + 1) (In.netI J ((i : Int) + 1) - In.netI I ((i : Int) + 1)) with ⟨_, h⟩ | ⟨p', h, hid, _⟩
 ·rw [h] at hpi; cases hpi
 ·rw [h] at hpi; rw [List.mem_singleton.1 hpi]; exact hid
theorem stm_nodup (I J : In.Inn) {q : Int} (hq : 0 ≤ q ∧ q ≤ 1073741824) (n : Nat) (hn : n ≤ 60) : ((stmPs I J q n).map (·.id)).Nodup := by
 induction n with
 | zero => simp [stmPs]
 | succ n ih =>
  rw [stmPs_succ, List.map_append, List.nodup_append]
  refine ⟨ih (by omega), ?_, ?_⟩
  ·unfold stmP1
   rcases stm_cases q ((n : Int) + 1) (In.netI J ((n : Int) + 1) - In.netI I ((n : Int) + 1)) with ⟨_, h⟩ | ⟨p', h, hid, _⟩ <;> rw [h] <;> simp
  ·intro x hx y hy e
   obtain ⟨p, hp, rfl⟩ := List.mem_map.1 hx
   obtain ⟨p2, hp2, rfl⟩ := List.mem_map.1 hy
   obtain ⟨o, h1, h2, hid, _⟩ := stm_ids I J q n p hp
   unfold stmP1 at hp2
   rcases stm_cases q ((n : Int) + 1) (In.netI J ((n : Int) + 1) - In.netI I ((n : Int) + 1)) with ⟨_, h⟩ | ⟨p', h, hid', _⟩
   ·rw [h] at hp2; cases hp2
   ·rw [h] at hp2
    obtain rfl := List.mem_singleton.1 hp2
    have := (sidL_inj hq hq (by omega) (by omega) (hid.symm.trans (e.trans hid'))).2
    omega
def netC (c : Cor) (o : Int) : Int := match c.l[o.toNat - 1]? with | none => 0 | some s => Sa.netI s
/-- What holds behind n entries. -/
structure CoI (c : Cor) (n : Nat) : Prop where
 fi : In.Fine c.inn
 le : c.l.length ≤ 60
 am : ∀ s ∈ c.l, 0 ≤ s.amt ∧ s.amt ≤ 1099511627776
 bl : c.b.length ≤ 60 * n
 may : ∀ p ∈ c.b, mayP p
 nd : (c.b.map (·.id)).Nodup
 nm : ∀ p ∈ c.b, (∃ (i : Nat) (d : Int), i < 60 ∧ (0 ≤ d ∧ d < 6) ∧ p.id = putK ((i : Int) + 1) d ∧ ∃ s, c.l[i]? = some s ∧ doneB (s.deed d)) ∨ ∃ q o : Int, p.id = sidL q o ∧ 1 ≤ q ∧ q ≤ c.inn.a.2.1 ∧ 1 ≤ o ∧ o ≤ 60
 sus : ∀ o, 1 ≤ o → o ≤ 60 → balI c.b 1 o = netC c o - In.netI c.inn o
 cash : ∀ o, 1 ≤ o → o ≤ 60 → balI c.b 2 o = In.netI c.inn o
theorem inn_nil_net (o : Int) : In.netI In.nil o = 0 := rfl
theorem CoI.nil : CoI nilC 0 := ⟨In.Fine.nil, by decide, fun s h => (by cases h), by decide, fun p h => (by cases h), List.Pairwise.nil, fun p h => (by cases h), fun o _ _ => (by rw [show netC nilC o = 0 from rfl]; rfl), fun o _ _ => rfl⟩
theorem CoI.more {c : Cor} {n : Nat} (h : CoI c n) : CoI c (n + 1) := ⟨h.fi, h.le, h.am, by have := h.bl; omega, h.may, h.nd, h.nm, h.sus, h.cash⟩
theorem CoI.place {c : Cor} {n : Nat} (h : CoI c n) (o : Ord5) : CoI (placeC c o) (n + 1) := by
 unfold placeC
 by_cases he : placeE c o = 0
 ·rw [if_pos he]
  have hcode : codeO o.1 o.2.1 o.2.2.1 o.2.2.2.1 o.2.2.2.2 = 0 := by
   unfold placeE at he
   by_cases hc : codeO o.1 o.2.1 o.2.2.1 o.2.2.2.1 o.2.2.2.2 = 0
   ·exact hc
   ·rw [if_pos hc] at he; exact absurd he hc
  have hlen : c.l.length < 60 := by
   unfold placeE at he
   rw [if_neg (by rw [hcode]; simp)] at he
   split at he
   ·cases he
   ·split at he
    ·cases he
    ·omega
  have hamt := codeO_ok hcode
  have hnet : ∀ q, netC { c with l := c.l ++ [beginI o.1 o.2.1 o.2.2.1 o.2.2.2.1 o.2.2.2.2] } q = netC c q := by
   intro q
   unfold netC
   show (match (c.l ++ [beginI o.1 o.2.1 o.2.2.1 o.2.2.2.1 o.2.2.2.2])[q.toNat - 1]? with | none => 0 | some s => Sa.netI s) = _
   by_cases hq : q.toNat - 1 < c.l.length
   ·rw [List.getElem?_append_left hq]
   ·rw [List.getElem?_append_right (by omega), List.getElem?_eq_none (l := c.l) (by omega)]
    by_cases h0 : q.toNat - 1 - c.l.length = 0
    ·rw [h0]; rfl
    ·rw [List.getElem?_eq_none (by simp; omega)]
  refine ⟨h.fi, ?_, ?_, by have := h.bl; show c.b.length ≤ _; omega, h.may, h.nd, ?_, ?_, h.cash⟩
  ·show (c.l ++ [_]).length ≤ 60
   rw [List.length_append]; simp; omega
  ·intro s hs
   rcases List.mem_append.1 hs with hs | hs
   ·exact h.am s hs
   ·rw [List.mem_singleton.1 hs]; show 0 ≤ o.2.2.2.2 ∧ o.2.2.2.2 ≤ _; omega
  ·intro p hp
   rcases h.nm p hp with ⟨i, d, hi, hd, hid, s, hs, hdn⟩ | hx
   ·exact .inl ⟨i, d, hi, hd, hid, s, by show (c.l ++ [_])[i]? = some s; rw [List.getElem?_append_left (List.getElem?_eq_some_iff.1 hs).1]; exact hs, hdn⟩
   ·exact .inr hx
  ·intro q h1 h2
   rw [hnet q]; exact h.sus q h1 h2
 ·rw [if_neg he]; exact h.more
theorem set_named {l : List Sg} {k : Nat} {s t : Sg} (hs : l[k]? = some s) (hk : ∀ j, 0 ≤ j ∧ j < 6 → doneB (s.deed j) → doneB (t.deed j)) {i : Nat} {d : Int} (hd : 0 ≤ d ∧ d < 6) (h : ∃ u, l[i]? = some u ∧ doneB (u.deed d)) : ∃ u, (l.set k t)[i]? = some u ∧ doneB (u.deed d) := by
 obtain ⟨u, hu, hdn⟩ := h
 have hkl := (List.getElem?_eq_some_iff.1 hs).1
 by_cases e : k = i
 ·subst e
  rw [hs] at hu
  obtain rfl := Option.some.inj hu
  exact ⟨t, by rw [List.getElem?_set_self hkl], hk d hd hdn⟩
 ·exact ⟨u, by rw [List.getElem?_set_ne e]; exact hu, hdn⟩
theorem mem_set_amt {l : List Sg} {k : Nat} {s t : Sg} (hs : l[k]? = some s) (ha : t.amt = s.amt) (h : ∀ s ∈ l, 0 ≤ s.amt ∧ s.amt ≤ 1099511627776) : ∀ x ∈ l.set k t, 0 ≤ x.amt ∧ x.amt ≤ 1099511627776 := by
 intro x hx
 rcases List.mem_or_eq_of_mem_set hx with hx | rfl
 ·exact h x hx
 ·rw [ha]; exact h s (List.mem_of_getElem? hs)
theorem net_set {c : Cor} {k : Nat} {s t : Sg} (hs : c.l[k]? = some s) (b : List Po) (q : Int) (hq : 1 ≤ q) : netC { c with l := c.l.set k t, b := b } q = if q = (k : Int) + 1 then Sa.netI t else netC c q := by
 have hkl := (List.getElem?_eq_some_iff.1 hs).1
 unfold netC
 show (match (c.l.set k t)[q.toNat - 1]? with | none => 0 | some s => Sa.netI s) = _
 by_cases e : q = (k : Int) + 1
 ·rw [if_pos e, show q.toNat - 1 = k by omega, List.getElem?_set_self hkl]
 ·rw [if_neg e, List.getElem?_set_ne (by omega)]
theorem CoI.stop {c : Cor} {n : Nat} (h : CoI c n) (o : Int) : CoI (cstopC c o) (n + 1) := by
 unfold cstopC
 by_cases he : cstopE c o = 0
 ·rw [if_pos he]
  cases hs : c.l[o.toNat - 1]? with
  | none => exact h.more
  | some s =>
   unfold cstopE at he
   split at he
   ·cases he
   ·rename_i hn
    rw [hs] at he
    simp only [] at he
    split at he
    ·rename_i hg
     obtain ⟨f1, f2, f3⟩ := stop_facts hg
     have hkl := (List.getElem?_eq_some_iff.1 hs).1
     refine ⟨h.fi, by show (c.l.set _ _).length ≤ 60; rw [List.length_set]; exact h.le, mem_set_amt hs f3 h.am, by have := h.bl; show c.b.length ≤ _; omega, h.may, h.nd, ?_, ?_, h.cash⟩
     ·intro p hp
      rcases h.nm p hp with ⟨i, d, hi, hd, hid, hx⟩ | hx
      ·exact .inl ⟨i, d, hi, hd, hid, set_named hs f2 hd hx⟩
      ·exact .inr hx
     ·intro q h1 h2
      have hq := net_set (c := c) (t := stopI s) hs c.b q h1
      refine (h.sus q h1 h2).trans ?_
      show _ = netC { c with l := c.l.set (o.toNat - 1) (stopI s), b := c.b } q - _
      rw [hq, f1]
      by_cases e : q = ((o.toNat - 1 : Nat) : Int) + 1
      ·rw [if_pos e]
       unfold netC
       rw [show q.toNat - 1 = o.toNat - 1 by omega, hs]
      ·rw [if_neg e]
    ·cases he
 ·rw [if_neg he]; exact h.more
theorem net_bd2 {s : Sg} (h : 0 ≤ s.amt ∧ s.amt ≤ 1099511627776) : 0 ≤ Sa.netI s ∧ Sa.netI s ≤ 1099511627776 := net_bd h
/-- A reply's posting may be, and its name is new. -/
theorem CoI.rep {c : Cor} {n : Nat} (h : CoI c n) (o d code : Int) (he : replyE c o d code = 0) : ∃ (k : Nat) (s : Sg), o = (k : Int) + 1 ∧ k < 60 ∧ c.l[k]? = some s ∧ replyB s d code = true ∧ (∀ p ∈ postR c o d code, mayP p ∧ p.id = putK o d ∧ p.ord = o ∧ movI p 1 = Sa.netI (replyI s d code) - Sa.netI s ∧ movI p 2 = 0 ∧ ∀ x ∈ c.b, x.id ≠ p.id) ∧ (postR c o d code = [] ∧ Sa.netI (replyI s d code) = Sa.netI s ∨ ∃ p, postR c o d code = [p]) := by
 unfold replyE at he
 split at he
 ·cases he
 ·rename_i hn
  cases hs : c.l[o.toNat - 1]? with
  | none => rw [hs] at he; cases he
  | some s =>
   rw [hs] at he
   simp only [] at he
   split at he
   ·rename_i hg
    have hkl := (List.getElem?_eq_some_iff.1 hs).1
    obtain ⟨g1, g2, g3, g4, g5⟩ := reply_facts hg
    have hle := h.le
    have hsa := h.am s (List.mem_of_getElem? hs)
    have n1 := net_bd hsa
    have n2 := net_bd (s := replyI s d code) (by rw [g5]; exact hsa)
    have hck : chk o d = true := chk_iff.2 (by omega)
    have hnew : ∀ x ∈ c.b, x.id ≠ putK o d := by
     intro x hx e
     rcases h.nm x hx with ⟨i, d', hi, hd', hid, u, hu, hdn⟩ | ⟨q, o', hid, _⟩
     ·have := putK_inj (chk_iff.2 (by omega)) hck (hid.symm.trans e)
      obtain ⟨e1, e2⟩ := this
      subst e2
      rw [show i = o.toNat - 1 by omega, hs] at hu
      obtain rfl := Option.some.inj hu
      rw [g2] at hdn; unfold doneB at hdn; omega
     ·exact put_sid hck (e.symm.trans hid)
    have hlen : 0 < (putK o d).length ∧ (putK o d).length ≤ 1000 := ⟨List.length_pos_iff.2 (putK_ne hck), by have := putK_len10 o d; omega⟩
    refine ⟨o.toNat - 1, s, by omega, by omega, hs, hg, ?_, ?_⟩
    ·intro p hp
     unfold postR at hp
     rw [hs] at hp
     simp only [] at hp
     unfold postBy at hp
     split at hp
     ·obtain rfl := List.mem_singleton.1 hp
      refine ⟨⟨hlen.1, hlen.2, ?_⟩, rfl, rfl, ?_, ?_, hnew⟩
      ·show 1 ≤ o ∧ o ≤ 60 ∧ (0 : Int) ≤ 1 ∧ (1 : Int) ≤ 4 ∧ (0 : Int) ≤ 0 ∧ (0 : Int) ≤ 4 ∧ (1 : Int) ≠ 0 ∧ 0 ≤ Sa.netI (replyI s d code) - Sa.netI s ∧ Sa.netI (replyI s d code) - Sa.netI s ≤ _
       omega
      ·simp [movI]
      ·simp [movI]
     ·split at hp
      ·obtain rfl := List.mem_singleton.1 hp
       refine ⟨⟨hlen.1, hlen.2, ?_⟩, rfl, rfl, ?_, ?_, hnew⟩
       ·show 1 ≤ o ∧ o ≤ 60 ∧ (0 : Int) ≤ 3 ∧ (3 : Int) ≤ 4 ∧ (0 : Int) ≤ 1 ∧ (1 : Int) ≤ 4 ∧ (3 : Int) ≠ 1 ∧ 0 ≤ -(Sa.netI (replyI s d code) - Sa.netI s) ∧ -(Sa.netI (replyI s d code) - Sa.netI s) ≤ _
        omega
       ·simp [movI]
       ·simp [movI]
      ·cases hp
    ·unfold postR
     rw [hs]
     simp only []
     unfold postBy
     split
     ·exact .inr ⟨_, rfl⟩
     ·split
      ·exact .inr ⟨_, rfl⟩
      ·exact .inl ⟨rfl, by omega⟩
   ·cases he
theorem CoI.reply {c : Cor} {n : Nat} (h : CoI c n) (o d code : Int) : CoI (replyC c o d code) (n + 1) := by
 by_cases he : replyE c o d code = 0
 ·obtain ⟨k, s, rfl, hk, hs, hg, hp, hone⟩ := h.rep o d code he
  obtain ⟨g1, g2, g3, g4, g5⟩ := reply_facts hg
  have hkl := (List.getElem?_eq_some_iff.1 hs).1
  have hC : replyC c ((k : Int) + 1) d code = { c with l := c.l.set k (replyI s d code), b := c.b ++ postR c ((k : Int) + 1) d code } := by
   unfold replyC
   rw [if_pos he, show ((k : Int) + 1).toNat - 1 = k by omega, hs]
  have hlen : (postR c ((k : Int) + 1) d code).length ≤ 1 := by
   rcases hone with ⟨h0, _⟩ | ⟨p, h0⟩ <;> rw [h0] <;> simp
  have hb1 : ∀ q : Int, 1 ≤ q → balI (postR c ((k : Int) + 1) d code) 1 q = (if q = (k : Int) + 1 then Sa.netI (replyI s d code) - Sa.netI s else 0) ∧ balI (postR c ((k : Int) + 1) d code) 2 q = 0 := by
   intro q hq
   rcases hone with ⟨h0, hz⟩ | ⟨p, h0⟩
   ·rw [h0, hz]; simp [balI]
   ·have hpp := hp p (by rw [h0]; simp)
    rw [h0, bal_one, bal_one, hpp.2.2.1, hpp.2.2.2.1, hpp.2.2.2.2.1]
    by_cases e : q = (k : Int) + 1
    ·subst e; simp
    ·rw [if_neg (by omega), if_neg e]; simp
  rw [hC]
  refine ⟨h.fi, by show (c.l.set _ _).length ≤ 60; rw [List.length_set]; exact h.le, mem_set_amt hs g5 h.am, ?_, ?_, ?_, ?_, ?_, ?_⟩
  ·show (c.b ++ _).length ≤ _
   rw [List.length_append]; have := h.bl; omega
  ·intro p hm
   rcases List.mem_append.1 hm with hm | hm
   ·exact h.may p hm
   ·exact (hp p hm).1
  ·show ((c.b ++ postR c ((k : Int) + 1) d code).map (·.id)).Nodup
   rw [List.map_append, List.nodup_append]
   refine ⟨h.nd, ?_, ?_⟩
   ·rcases hone with ⟨h0, _⟩ | ⟨p, h0⟩ <;> rw [h0] <;> simp
   ·intro x hx y hy e
    obtain ⟨p, hpm, rfl⟩ := List.mem_map.1 hx
    obtain ⟨p2, hpm2, rfl⟩ := List.mem_map.1 hy
    exact (hp p2 hpm2).2.2.2.2.2 p hpm e
  ·intro p hm
   rcases List.mem_append.1 hm with hm | hm
   ·rcases h.nm p hm with ⟨i, d', hi, hd, hid, hx⟩ | hx
    ·exact .inl ⟨i, d', hi, hd, hid, set_named hs g4 hd hx⟩
    ·exact .inr hx
   ·exact .inl ⟨k, d, hk, g1, (hp p hm).2.1, replyI s d code, by show (c.l.set k _)[k]? = _; rw [List.getElem?_set_self hkl], g3⟩
  ·intro q h1 h2
   have hq := net_set (c := c) (t := replyI s d code) hs (c.b ++ postR c ((k : Int) + 1) d code) q h1
   rw [hq]
   show balI (c.b ++ _) 1 q = _ - In.netI c.inn q
   rw [bal_app, (hb1 q h1).1, h.sus q h1 h2]
   by_cases e : q = (k : Int) + 1
   ·rw [if_pos e, if_pos e]
    have : netC c q = Sa.netI s := by unfold netC; rw [show q.toNat - 1 = k by omega, hs]
    rw [this]; omega
   ·rw [if_neg e, if_neg e]; omega
  ·intro q h1 h2
   show balI (c.b ++ _) 2 q = In.netI c.inn q
   rw [bal_app, (hb1 q h1).2, h.cash q h1 h2]; omega
 ·unfold replyC; rw [if_neg he]; exact h.more
theorem acc_valid {I : In.Inn} {x : In.Stm} (h : In.accE I x = 0) : Rw.validB x.1 x.2.1 x.2.2 = true ∧ (I.at x.1).2.1 < x.2.1 := by
 unfold In.accE at h
 split at h
 ·cases h
 ·rename_i hv
  split at h
  ·cases h
  ·exact ⟨by simpa using hv, by omega⟩
theorem acc_other {I : In.Inn} {x : In.Stm} (h : In.accE I x = 0) (hx : x.1 ≠ 0) : (In.accI I x).a = I.a := by
 unfold In.accI
 rw [if_pos h]
 unfold In.Inn.put
 rw [if_neg hx]
 split <;> rfl
theorem acc_pay {I : In.Inn} {x : In.Stm} (h : In.accE I x = 0) (hx : x.1 = 0) : (In.accI I x).a = x := by
 unfold In.accI
 rw [if_pos h]
 unfold In.Inn.put
 rw [if_pos hx]
theorem stm_other {I : In.Inn} (hf : In.Fine I) {x : In.Stm} (h : In.accE I x = 0) (hx : x.1 ≠ 0) (q : Int) (n : Nat) (hn : n ≤ 60) : stmPs I (In.accI I x) q n = [] := by
 induction n with
 | zero => rfl
 | succ n ih =>
  rw [stmPs_succ, ih (by omega)]
  unfold stmP1
  rw [net_said (hf.acc x) (by omega), net_said hf (by omega), acc_other h hx, show saidO I.a.2.2 ((n : Int) + 1) - saidO I.a.2.2 ((n : Int) + 1) = 0 by omega]
  rfl
theorem inet_bd2 {I : In.Inn} (hg : In.Fine I) (o : Int) : -1099511627776 ≤ In.netI I o ∧ In.netI I o ≤ 1099511627776 := by
 have h1 := amt_bd hg o 1
 have h2 := amt_bd hg o 4
 unfold In.netI; omega
/-- A statement's postings may be, and their names are new. -/
theorem CoI.stmOk {c : Cor} {n : Nat} (h : CoI c n) (x : In.Stm) (he : In.accE c.inn x = 0) : (∀ p ∈ stmPs c.inn (In.accI c.inn x) x.2.1 60, mayP p) ∧ ((c.b ++ stmPs c.inn (In.accI c.inn x) x.2.1 60).map (·.id)).Nodup := by
 obtain ⟨hv, hq⟩ := acc_valid he
 have hs := In.valid_seq hv
 constructor
 ·intro p hp
  obtain ⟨o, h1, h2, hid, hp1⟩ := stm_ids _ _ _ _ p hp
  unfold stmP1 at hp1
  have b1 := inet_bd2 (h.fi.acc x) o
  have b2 := inet_bd2 h.fi o
  rcases stm_cases x.2.1 o (In.netI (In.accI c.inn x) o - In.netI c.inn o) with ⟨_, h0⟩ | ⟨p', h0, i1, i2, i3, i4, _, _, i5⟩
  ·rw [h0] at hp1; cases hp1
  ·rw [h0] at hp1
   obtain rfl := List.mem_singleton.1 hp1
   have hl := sidL_len (q := x.2.1) (o := o) (by omega) (by omega)
   rw [← hid] at hl
   have hamt : p.amt ≤ 4398046511104 := by rw [i3]; split <;> omega
   exact ⟨hl.1, hl.2, by omega, by omega, i5.1, i5.2.1, i5.2.2.1, i5.2.2.2.1, i5.2.2.2.2, by omega, hamt⟩
 ·rw [List.map_append, List.nodup_append]
  refine ⟨h.nd, stm_nodup _ _ (by omega) 60 (by omega), ?_⟩
  intro a ha b hb e
  obtain ⟨p, hp, rfl⟩ := List.mem_map.1 ha
  obtain ⟨p2, hp2, rfl⟩ := List.mem_map.1 hb
  by_cases hx : x.1 = 0
  ·obtain ⟨o, h1, h2, hid, _⟩ := stm_ids _ _ _ _ p2 hp2
   rcases h.nm p hp with ⟨i, d, hi, hd, hid', _⟩ | ⟨q, o', hid', hq1, hq2, ho1, ho2⟩
   ·exact put_sid (chk_iff.2 (by omega)) (hid'.symm.trans (e.trans hid))
   ·have hat : (c.inn.at x.1) = c.inn.a := by unfold In.Inn.at; rw [if_pos hx]
    rw [hat] at hq
    have := (sidL_inj (by omega) (by omega) (by omega) (by omega) (hid'.symm.trans (e.trans hid))).1
    omega
  ·rw [stm_other h.fi he hx _ 60 (by omega)] at hp2; cases hp2
theorem CoI.stm {c : Cor} {n : Nat} (h : CoI c n) (x : In.Stm) : CoI (stmC c x) (n + 1) := by
 unfold stmC
 by_cases he : In.accE c.inn x = 0
 ·rw [if_pos he]
  obtain ⟨hm, hn⟩ := h.stmOk x he
  obtain ⟨hv, hq⟩ := acc_valid he
  have hs := In.valid_seq hv
  refine ⟨h.fi.acc x, h.le, h.am, ?_, ?_, hn, ?_, ?_, ?_⟩
  ·show (c.b ++ _).length ≤ _
   rw [List.length_append]; have := h.bl; have := stmPs_len c.inn (In.accI c.inn x) x.2.1 60; omega
  ·intro p hp
   rcases List.mem_append.1 hp with hp | hp
   ·exact h.may p hp
   ·exact hm p hp
  ·intro p hp
   have hup : c.inn.a.2.1 ≤ (In.accI c.inn x).a.2.1 := by
    by_cases hx : x.1 = 0
    ·have hat : (c.inn.at x.1) = c.inn.a := by unfold In.Inn.at; rw [if_pos hx]
     rw [hat] at hq
     rw [acc_pay he hx]; omega
    ·rw [acc_other he hx]; omega
   rcases List.mem_append.1 hp with hp | hp
   ·rcases h.nm p hp with hx | ⟨q, o, hid, h1, h2, h3⟩
    ·exact .inl hx
    ·exact .inr ⟨q, o, hid, h1, Int.le_trans h2 hup, h3⟩
   ·by_cases hx : x.1 = 0
    ·obtain ⟨o, h1, h2, hid, _⟩ := stm_ids _ _ _ _ p hp
     exact .inr ⟨x.2.1, o, hid, by omega, by show x.2.1 ≤ (In.accI c.inn x).a.2.1; rw [acc_pay he hx]; omega, by omega, by omega⟩
    ·rw [stm_other h.fi he hx _ 60 (by omega)] at hp; cases hp
  ·intro o h1 h2
   show balI (c.b ++ _) 1 o = netC c o - In.netI (In.accI c.inn x) o
   rw [bal_app, (stm_bal _ _ _ 60 o h1).1, if_pos (by omega), h.sus o h1 h2]; omega
  ·intro o h1 h2
   show balI (c.b ++ _) 2 o = In.netI (In.accI c.inn x) o
   rw [bal_app, (stm_bal _ _ _ 60 o h1).2, if_pos (by omega), h.cash o h1 h2]; omega
 ·rw [if_neg he]; exact h.more
theorem CoI.ok {c : Cor} {n : Nat} (h : CoI c n) (hn : n ≤ 1000) (e : Ent) : ApOk c e :=
 ⟨h.le, by have := h.bl; omega, h.am, fun _ he p hp => by
  obtain ⟨_, _, _, _, _, _, hp2, _⟩ := h.rep _ _ _ he
  exact ⟨(hp2 p hp).1, (hp2 p hp).2.2.2.2.2⟩, fun _ he => h.stmOk e.s he⟩
theorem CoI.apply {c : Cor} {n : Nat} (h : CoI c n) (e : Ent) : CoI (applyC c e) (n + 1) := by
 unfold applyC
 split
 ·exact h.place _
 ·split
  ·exact h.stop _
  ·split
   ·exact h.reply _ _ _
   ·split
    ·exact h.stm _
    ·exact h.more
/-- The core of entries; those that are refused are left out. -/
def ofL (l : List Ent) (k : Nat) : Cor := (l.take k).foldl applyC nilC
theorem ofL_zero (l : List Ent) : ofL l 0 = nilC := rfl
theorem ofL_succ {l : List Ent} {k : Nat} {e : Ent} (h : l[k]? = some e) : ofL l (k + 1) = applyC (ofL l k) e := by unfold ofL; rw [List.take_add_one, h, List.foldl_append]; rfl
theorem ofL_inv (l : List Ent) : ∀ k, k ≤ l.length → CoI (ofL l k) k
 | 0, _ => CoI.nil
 | k + 1, hk => by
  obtain ⟨e, he⟩ : ∃ e, l[k]? = some e := ⟨_, List.getElem?_eq_getElem hk⟩
  rw [ofL_succ he]
  exact (ofL_inv l k (by omega)).apply e
end Co
end Go.Proofs.YtlkncmpengpbiaaGreatDoor
/- The road to a saga, plain: what saga.Valid walks. -/
namespace Go.Proofs.YtlkncmpengpbiaaGreatDoor
open Co Key Rw Sa Od

namespace Co
/-- In n steps, replies or a cancelling, one comes from a saga to s. -/
inductive ToN (s : Sg) : Nat → Sg → Prop
  | refl : ToN s 0 s
  | reply {n : Nat} {t : Sg} {d code : Int} : replyB t d code = true → ToN s n (replyI t d code) → ToN s (n + 1) t
  | stop {n : Nat} {t : Sg} : goingB t = true → ToN s n (Sa.stopI t) → ToN s (n + 1) t
def setB (v : Int) : Prop := v = 2 ∨ v = 3 ∨ v = 4
theorem reply_code {t : Sg} {d code : Int} (h : replyB t d code = true) : waitsI t = d ∧ waitsI t ≠ 6 ∧ (code = 1 ∨ code = 2 ∧ d ≤ 2) := by
  unfold replyB at h
  simp only [Bool.and_eq_true, Bool.or_eq_true, decide_eq_true_eq] at h
  exact ⟨h.1.2, h.1.1, h.2⟩
theorem reply_deed {t : Sg} {d code : Int} (h : replyB t d code = true) : (0 ≤ d ∧ d < 6) ∧ t.deed d = 1 ∧ (replyI t d code).deed d = code + 1 ∧ ∀ j, 0 ≤ j ∧ j < 6 → setB (t.deed j) → (replyI t d code).deed j = t.deed j := by
  obtain ⟨hd, h6, hc⟩ := reply_code h
  obtain ⟨hw, h1⟩ := waits_deed h6
  rw [hd] at hw h1
  have hs := set_deed t d d (code + 1) hw hw
  rw [if_pos rfl] at hs
  unfold replyI
  refine ⟨hw, h1, by rw [onI_deed _ d hw (by rw [hs]; omega), hs], fun j hj hdn => ?_⟩
  have hjd : ¬ j = d := fun e => by subst e; rw [h1] at hdn; unfold setB at hdn; omega
  have hsj := set_deed t d j (code + 1) hw hj
  rw [if_neg hjd] at hsj
  rw [onI_deed _ j hj (by rw [hsj]; unfold setB at hdn; omega), hsj]
theorem stop_deed {t : Sg} (h : goingB t = true) : waitsI t ≠ 6 ∧ (0 ≤ waitsI t ∧ waitsI t < 6) ∧ t.deed (waitsI t) = 1 ∧ (Sa.stopI t).deed (waitsI t) = 4 ∧ ∀ j, 0 ≤ j ∧ j < 6 → setB (t.deed j) → (Sa.stopI t).deed j = t.deed j := by
  unfold goingB at h
  simp only [Bool.and_eq_true, decide_eq_true_eq] at h
  obtain ⟨hw, h1⟩ := waits_deed h.1
  have hs := set_deed t (waitsI t) (waitsI t) 4 hw hw
  rw [if_pos rfl] at hs
  unfold Sa.stopI
  refine ⟨h.1, hw, h1, by rw [onI_deed _ _ hw (by rw [can_deed, hs]; omega), can_deed, hs], fun j hj hdn => ?_⟩
  have hjd : ¬ j = waitsI t := fun e => by rw [e, h1] at hdn; unfold setB at hdn; omega
  have hsj := set_deed t (waitsI t) j 4 hw hj
  rw [if_neg hjd] at hsj
  rw [onI_deed _ j hj (by rw [can_deed, hsj]; unfold setB at hdn; omega), can_deed, hsj]
theorem ToN.keep {s : Sg} {n : Nat} {t : Sg} (h : ToN s n t) : ∀ j, 0 ≤ j ∧ j < 6 → setB (t.deed j) → s.deed j = t.deed j := by
  induction h with
  | refl => intro j _ _; rfl
  | reply hr _ ih =>
    obtain ⟨_, _, _, hk⟩ := reply_deed hr
    intro j hj hs
    rw [ih j hj (by rw [hk j hj hs]; exact hs), hk j hj hs]
  | stop hg _ ih =>
    obtain ⟨_, _, _, _, hk⟩ := stop_deed hg
    intro j hj hs
    rw [ih j hj (by rw [hk j hj hs]; exact hs), hk j hj hs]
theorem ToN.thenReply {s : Sg} {n : Nat} {t : Sg} (h : ToN s n t) {d code : Int} (hr : replyB s d code = true) : ∃ m, ToN (replyI s d code) m t := by
  induction h with
  | refl => exact ⟨1, .reply hr .refl⟩
  | reply h _ ih => obtain ⟨m, hm⟩ := ih; exact ⟨m + 1, .reply h hm⟩
  | stop h _ ih => obtain ⟨m, hm⟩ := ih; exact ⟨m + 1, .stop h hm⟩
theorem ToN.thenStop {s : Sg} {n : Nat} {t : Sg} (h : ToN s n t) (hg : goingB s = true) : ∃ m, ToN (Sa.stopI s) m t := by
  induction h with
  | refl => exact ⟨1, .stop hg .refl⟩
  | reply h _ ih => obtain ⟨m, hm⟩ := ih; exact ⟨m + 1, .reply h hm⟩
  | stop h _ ih => obtain ⟨m, hm⟩ := ih; exact ⟨m + 1, .stop h hm⟩
/-- What the walk to s sees at t: it is there, or which step comes next. -/
theorem ToN.next {s : Sg} {n : Nat} {t : Sg} (h : ToN s n t) : (n = 0 ∧ t = s) ∨ ∃ m, n = m + 1 ∧ waitsI t ≠ 6 ∧ (0 ≤ waitsI t ∧ waitsI t < 6) ∧ t.deed (waitsI t) = 1 ∧ s.deed (waitsI t) ≠ 1 ∧
    ((s.deed (waitsI t) = 4 ∧ goingB t = true ∧ ToN s m (Sa.stopI t) ∧ (Sa.stopI t).deed (waitsI t) = 4) ∨ (s.deed (waitsI t) = 3 ∧ replyB t (waitsI t) 2 = true ∧ ToN s m (replyI t (waitsI t) 2) ∧ (replyI t (waitsI t) 2).deed (waitsI t) = 3) ∨
      (s.deed (waitsI t) = 2 ∧ replyB t (waitsI t) 1 = true ∧ ToN s m (replyI t (waitsI t) 1) ∧ (replyI t (waitsI t) 1).deed (waitsI t) = 2)) := by
  cases h with
  | refl => exact .inl ⟨rfl, rfl⟩
  | @reply m t d code hr ht =>
    obtain ⟨hd, h6, hc⟩ := reply_code hr
    obtain ⟨hw, h1, h2, _⟩ := reply_deed hr
    subst hd
    have hs := ht.keep _ hw (by rw [h2]; unfold setB; omega)
    rw [h2] at hs
    rcases hc with rfl | ⟨rfl, _⟩
    · exact .inr ⟨m, rfl, h6, hw, h1, by rw [hs]; omega, .inr (.inr ⟨hs, hr, ht, h2⟩)⟩
    · exact .inr ⟨m, rfl, h6, hw, h1, by rw [hs]; omega, .inr (.inl ⟨hs, hr, ht, h2⟩)⟩
  | @stop m t hg ht =>
    obtain ⟨h6, hw, h1, h2, _⟩ := stop_deed hg
    have hs := ht.keep _ hw (by rw [h2]; unfold setB; omega)
    rw [h2] at hs
    exact .inr ⟨m, rfl, h6, hw, h1, by rw [hs]; omega, .inl ⟨hs, hg, ht, h2⟩⟩
end Co
end Go.Proofs.YtlkncmpengpbiaaGreatDoor
/- Each saga of a core came of its order's beginning; the references lie apart. Plain. -/
namespace Go.Proofs.YtlkncmpengpbiaaGreatDoor
open Co Key Rw Sa Od

namespace Co
def ordS (s : Sg) : Ord5 := (s.id, s.ref, s.sku, s.qty, s.amt)
theorem set_ord (s : Sg) (k v : Int) : ordS (setI s k v) = ordS s := by
  unfold setI; repeat' split
  all_goals rfl
theorem onI_ord (s : Sg) : ordS (onI s) = ordS s := by
  rcases onI_set s with e | ⟨k, _, _, e⟩ <;> rw [e]
  exact set_ord ..
theorem reply_ord (s : Sg) (d code : Int) : ordS (replyI s d code) = ordS s := by unfold replyI; rw [onI_ord, set_ord]
theorem stop_ord (s : Sg) : ordS (Sa.stopI s) = ordS s := by
  unfold Sa.stopI
  rw [onI_ord]
  exact set_ord s (waitsI s) 4
/-- The saga at a place: its number, its order, its road. -/
def Came1 (i : Nat) (s : Sg) : Prop := s.id = (i : Int) + 1 ∧ codeO s.id s.ref s.sku s.qty s.amt = 0 ∧ ∃ n, ToN s n (beginI s.id s.ref s.sku s.qty s.amt)
theorem came1_of {i : Nat} {s t : Sg} (h : Came1 i s) (ho : ordS t = ordS s) (hr : ∀ n, ToN s n (beginI s.id s.ref s.sku s.qty s.amt) → ∃ m, ToN t m (beginI s.id s.ref s.sku s.qty s.amt)) : Came1 i t := by
  obtain ⟨h1, h2, n, h3⟩ := h
  unfold ordS at ho
  simp only [Prod.mk.injEq] at ho
  obtain ⟨e1, e2, e3, e4, e5⟩ := ho
  unfold Came1
  rw [e1, e2, e3, e4, e5]
  exact ⟨h1, h2, hr n h3⟩
structure CoH (c : Cor) : Prop where
  at1 : ∀ (i : Nat) (s : Sg), c.l[i]? = some s → Came1 i s
  ref : ∀ (i j : Nat) (s t : Sg), i < j → c.l[i]? = some s → c.l[j]? = some t → s.ref ≠ t.ref
theorem CoH.nil : CoH nilC := ⟨fun i s h => by simp [nilC] at h, fun i j s t _ h => by simp [nilC] at h⟩
theorem CoH.set {c c' : Cor} (h : CoH c) {k : Nat} {s t : Sg} (hs : c.l[k]? = some s) (hc : c'.l = c.l.set k t) (ho : ordS t = ordS s) (hr : ∀ n, ToN s n (beginI s.id s.ref s.sku s.qty s.amt) → ∃ m, ToN t m (beginI s.id s.ref s.sku s.qty s.amt)) : CoH c' := by
  have hkl := (List.getElem?_eq_some_iff.1 hs).1
  have href : t.ref = s.ref := congrArg (fun x => x.2.1) ho
  have hget : ∀ i u, c'.l[i]? = some u → (i = k ∧ u = t) ∨ (i ≠ k ∧ c.l[i]? = some u) := by
    intro i u hu
    rw [hc] at hu
    by_cases e : k = i
    · subst e
      rw [List.getElem?_set_self hkl] at hu
      exact .inl ⟨rfl, (Option.some.inj hu).symm⟩
    · rw [List.getElem?_set_ne e] at hu
      exact .inr ⟨fun h => e h.symm, hu⟩
  refine ⟨fun i u hu => ?_, fun i j u v hij hu hv => ?_⟩
  · rcases hget i u hu with ⟨rfl, rfl⟩ | ⟨_, hu⟩
    · exact came1_of (h.at1 _ _ hs) ho hr
    · exact h.at1 i u hu
  · rcases hget i u hu with ⟨rfl, rfl⟩ | ⟨_, hu⟩
    · rcases hget j v hv with ⟨rfl, _⟩ | ⟨_, hv⟩
      · omega
      · rw [href]; exact h.ref i j s v hij hs hv
    · rcases hget j v hv with ⟨rfl, rfl⟩ | ⟨_, hv⟩
      · rw [href]; exact h.ref i j u s hij hu hs
      · exact h.ref i j u v hij hu hv
theorem CoH.place {c : Cor} (h : CoH c) (o : Ord5) : CoH (placeC c o) := by
  unfold placeC
  by_cases he : placeE c o = 0
  · rw [if_pos he]
    have hcode : codeO o.1 o.2.1 o.2.2.1 o.2.2.2.1 o.2.2.2.2 = 0 := by
      unfold placeE at he
      by_cases hc : codeO o.1 o.2.1 o.2.2.1 o.2.2.2.1 o.2.2.2.2 = 0
      · exact hc
      · rw [if_pos hc] at he; exact absurd he hc
    have hrest : hasB c.l o.2.1 = false ∧ o.1 = (c.l.length : Int) + 1 := by
      unfold placeE at he
      rw [if_neg (by rw [hcode]; simp)] at he
      split at he
      · cases he
      · rename_i hh
        split at he
        · cases he
        · split at he
          · cases he
          · rename_i ho
            exact ⟨by simpa using hh, by omega⟩
    obtain ⟨oid, oref, osku, oq, oa⟩ := o
    obtain ⟨hh, hid⟩ := hrest
    simp only [] at hcode hh hid
    have hnew : Came1 c.l.length (beginI oid oref osku oq oa) := ⟨hid, hcode, 0, .refl⟩
    refine ⟨fun i s hs => ?_, fun i j s t hij hs ht => ?_⟩
    · rw [show ({ c with l := c.l ++ [beginI oid oref osku oq oa] } : Cor).l = c.l ++ [beginI oid oref osku oq oa] from rfl] at hs
      by_cases hi : i < c.l.length
      · rw [List.getElem?_append_left hi] at hs; exact h.at1 i s hs
      · rw [List.getElem?_append_right (by omega)] at hs
        have h0 : i - c.l.length = 0 := by have := (List.getElem?_eq_some_iff.1 hs).1; simpa using this
        rw [h0] at hs
        obtain rfl := Option.some.inj hs
        obtain rfl : i = c.l.length := by omega
        exact hnew
    · rw [show ({ c with l := c.l ++ [beginI oid oref osku oq oa] } : Cor).l = c.l ++ [beginI oid oref osku oq oa] from rfl] at hs ht
      by_cases hj : j < c.l.length
      · rw [List.getElem?_append_left (by omega)] at hs
        rw [List.getElem?_append_left hj] at ht
        exact h.ref i j s t hij hs ht
      · rw [List.getElem?_append_right (by omega)] at ht
        have h0 : j - c.l.length = 0 := by have := (List.getElem?_eq_some_iff.1 ht).1; simpa using this
        rw [h0] at ht
        obtain rfl := Option.some.inj ht
        rw [List.getElem?_append_left (by omega)] at hs
        intro e
        rw [show hasB c.l oref = true from List.any_eq_true.2 ⟨s, List.mem_of_getElem? hs, decide_eq_true e⟩] at hh
        cases hh
  · rw [if_neg he]; exact h
theorem CoH.stop {c : Cor} (h : CoH c) (o : Int) : CoH (cstopC c o) := by
  unfold cstopC
  by_cases he : cstopE c o = 0
  · rw [if_pos he]
    cases hs : c.l[o.toNat - 1]? with
    | none => exact h
    | some s =>
      unfold cstopE at he
      split at he
      · cases he
      · rw [hs] at he
        simp only [] at he
        split at he
        · rename_i hg
          exact h.set hs rfl (stop_ord s) (fun n hn => hn.thenStop hg)
        · cases he
  · rw [if_neg he]; exact h
theorem CoH.reply {c : Cor} {n : Nat} (hi : CoI c n) (h : CoH c) (o d code : Int) : CoH (replyC c o d code) := by
  by_cases he : replyE c o d code = 0
  · obtain ⟨k, s, rfl, hk, hs, hg, _, _⟩ := hi.rep o d code he
    refine h.set (t := replyI s d code) hs ?_ (reply_ord s d code) (fun n hn => hn.thenReply hg)
    unfold replyC
    rw [if_pos he, show ((k : Int) + 1).toNat - 1 = k by omega, hs]
  · unfold replyC; rw [if_neg he]; exact h
theorem CoH.apply {c : Cor} {n : Nat} (hi : CoI c n) (h : CoH c) (e : Ent) : CoH (applyC c e) := by
  unfold applyC
  split
  · exact h.place _
  · split
    · exact h.stop _
    · split
      · exact h.reply hi _ _ _
      · split
        · unfold stmC
          split
          · exact ⟨h.at1, h.ref⟩
          · exact h
        · exact h
theorem ofL_hist (l : List Ent) : ∀ k, k ≤ l.length → CoH (ofL l k)
  | 0, _ => CoH.nil
  | k + 1, hk => by
    obtain ⟨e, he⟩ : ∃ e, l[k]? = some e := ⟨_, List.getElem?_eq_getElem hk⟩
    rw [ofL_succ he]
    exact (ofL_hist l k (by omega)).apply (ofL_inv l k (by omega)) e
end Co
end Go.Proofs.YtlkncmpengpbiaaGreatDoor
/- The chapter's entries, plain: what a core of them comes to. -/
namespace Go.Proofs.YtlkncmpengpbiaaGreatDoor
open Co Key Rw Sa Od

namespace Co
def o0 : Ord5 := (0, [], [], 0, 0)
def s0 : In.Stm := (0, 0, [])
def eM1 : Ent := ⟨1, (1, [97], [98], 2, 500), (0, 0), 0, s0⟩
def eM2 : Ent := ⟨3, o0, (1, 0), 1, s0⟩
def eM3 : Ent := ⟨3, o0, (1, 1), 1, s0⟩
def eM4 : Ent := ⟨4, o0, (0, 0), 0, (0, 1, [((1, 1), 1, 500, 0)])⟩
def eM0 : Ent := ⟨0, o0, (0, 0), 0, s0⟩
def cM1 : Cor := applyC nilC eM1
def cM2 : Cor := applyC cM1 eM2
def cM3 : Cor := applyC cM2 eM3
def cM4 : Cor := applyC cM3 eM4
def cM5 : Cor := applyC cM4 eM1
def cM6 : Cor := applyC cM5 eM2
instance (p : Po) : Decidable (mayP p) := by unfold mayP; infer_instance
theorem aM1 : applyE nilC eM1 = 0 := by decide +kernel
theorem aM2 : applyE cM1 eM2 = 0 := by decide +kernel
theorem aM3 : applyE cM2 eM3 = 0 := by decide +kernel
theorem bM1 : balI cM3.b 1 1 = 500 := by decide +kernel
theorem bM2 : balI cM3.b 0 0 = -500 := by decide +kernel
theorem aM4 : applyE cM3 eM4 = 0 := by decide +kernel
theorem bM3 : balI cM4.b 1 1 = 0 := by decide +kernel
theorem bM4 : balI cM4.b 2 1 = 500 := by decide +kernel
theorem aM5 : applyE cM4 eM1 = 91 := by decide +kernel
theorem aM6 : applyE cM5 eM2 = 92 := by decide +kernel
theorem aM7 : applyE cM6 eM0 = 2 := by decide +kernel
theorem okM1 : ApOk nilC eM1 := ⟨by decide +kernel, by decide +kernel, by decide +kernel, fun h => absurd h (by decide), fun h => absurd h (by decide)⟩
theorem okM2 : ApOk cM1 eM2 := ⟨by decide +kernel, by decide +kernel, by decide +kernel, fun _ => by decide +kernel, fun h => absurd h (by decide)⟩
theorem okM3 : ApOk cM2 eM3 := ⟨by decide +kernel, by decide +kernel, by decide +kernel, fun _ => by decide +kernel, fun h => absurd h (by decide)⟩
theorem okM4 : ApOk cM3 eM4 := ⟨by decide +kernel, by decide +kernel, by decide +kernel, fun h => absurd h (by decide), fun _ _ => by decide +kernel⟩
theorem okM5 : ApOk cM4 eM1 := ⟨by decide +kernel, by decide +kernel, by decide +kernel, fun h => absurd h (by decide), fun h => absurd h (by decide)⟩
theorem okM6 : ApOk cM5 eM2 := ⟨by decide +kernel, by decide +kernel, by decide +kernel, fun _ => by decide +kernel, fun h => absurd h (by decide)⟩
theorem okM7 : ApOk cM6 eM0 := ⟨by decide +kernel, by decide +kernel, by decide +kernel, fun h => absurd h (by decide), fun h => absurd h (by decide)⟩
end Co
end Go.Proofs.YtlkncmpengpbiaaGreatDoor
/- The chapter's order: the law's came. -/
namespace Go.Proofs.YtlkncmpengpbiaaGreatDoor
open Go.RowKit Go.Maps Co Key Rw Sa Od
set_option linter.unusedSimpArgs false
set_option linter.unusedVariables false
set_option maxRecDepth 100000
set_option maxHeartbeats 16000000

theorem Cw.off {B : Nat} {w : World} {cb bb pm bm : Nat} {vl vb vI : Value} {c : Cor} (h : Cw B w cb bb pm bm vl vb vI c) {r : Nat} {cs : Array Value} {T : TypeId} {fr : Nat × Nat} (hr : w.heap[r]? = some (.cells cs T fr)) (h1 : T ≠ tSaga) (h2 : T ≠ tPost) (hlt : cb < r ∧ bb < r ∧ pm < r ∧ bm < r) : ¬ Cs cb bb pm bm vl vb r := by
 rintro (e | (e | e | e | e) | e)
 ·omega
 ·omega
 ·omega
 ·omega
 ·exact own_apartT h.bk.ob hr h2 e
 ·exact own_apartT h.ol hr h1 e
/-- What came holds: its core, the blocks of the entries. -/
structure Cam (w W : World) (cb bb pm bm : Nat) (vl vb vI : Value) (c : Cor) (b4 b3 : Nat) (E4 E3 : Array Value) (T4 T3 : TypeId) : Prop where
 c : Cw w.heap.size W cb bb pm bm vl vb vI c
 e4 : W.heap[b4]? = some (.cells E4 T4 (0, 0))
 e3 : W.heap[b3]? = some (.cells E3 T3 (0, 0))
 lt : cb < b4 ∧ bb < b4 ∧ pm < b4 ∧ bm < b4 ∧ cb < b3 ∧ bb < b3 ∧ pm < b3 ∧ bm < b3
 n4 : T4 ≠ tSaga ∧ T4 ≠ tPost
 n3 : T3 ≠ tSaga ∧ T3 ≠ tPost
 bel : Below w.heap.size w W
theorem Cam.step {w W W' : World} {cb bb pm bm : Nat} {vl vb vI vl' vb' vI' : Value} {c c' : Cor} {b4 b3 : Nat} {E4 E3 : Array Value} {T4 T3 : TypeId} (h : Cam w W cb bb pm bm vl vb vI c b4 b3 E4 E3 T4 T3) (hc : Cw w.heap.size W' cb bb pm bm vl' vb' vI' c') (ht : Turned (Cs cb bb pm bm vl vb) W W') : Cam w W' cb bb pm bm vl' vb' vI' c' b4 b3 E4 E3 T4 T3 :=
 ⟨hc, heap_turned h.e4 ht (h.c.off h.e4 h.n4.1 h.n4.2 ⟨h.lt.1, h.lt.2.1, h.lt.2.2.1, h.lt.2.2.2.1⟩), heap_turned h.e3 ht (h.c.off h.e3 h.n3.1 h.n3.2 h.lt.2.2.2.2), h.lt, h.n4, h.n3, Below.turned h.bel ht (fun _ hi => (h.c.ls hi).1) h.bel.size⟩
theorem Cam.below {w W W' : World} {cb bb pm bm : Nat} {vl vb vI : Value} {c : Cor} {b4 b3 : Nat} {E4 E3 : Array Value} {T4 T3 : TypeId} (h : Cam w W cb bb pm bm vl vb vI c b4 b3 E4 E3 T4 T3) (hb : Below W.heap.size W W') : Cam w W' cb bb pm bm vl vb vI c b4 b3 E4 E3 T4 T3 :=
 ⟨h.c.below hb, heap_keep h.e4 hb, heap_keep h.e3 hb, h.lt, h.n4, h.n3, bch h.bel hb h.bel.size⟩
def cK (k : Nat) : Cor := if k = 0 then nilC else if k = 1 then cM1 else if k = 2 then cM2 else cM3
abbrev entCells (e : Ent) : List Value := [.int .i64 e.kind, .int .i64 e.o.1, .string ⟨e.o.2.1.toArray⟩, .string ⟨e.o.2.2.1.toArray⟩, .int .i64 e.o.2.2.2.1, .int .i64 e.o.2.2.2.2, .int .i64 e.k.1, .int .i64 e.k.2, .int .i64 e.code, .int .i64 e.s.1, .int .i64 e.s.2.1, .slice none 0 0]
abbrev E3s : Array Value := #[.int .i64 1, .int .i64 1, .string ⟨#[97]⟩, .string ⟨#[98]⟩, .int .i64 2, .int .i64 500, .int .i64 0, .int .i64 0, .int .i64 0, .int .i64 0, .int .i64 0, .slice none 0 0,
 .int .i64 3, .int .i64 0, .string ⟨#[]⟩, .string ⟨#[]⟩, .int .i64 0, .int .i64 0, .int .i64 1, .int .i64 0, .int .i64 1, .int .i64 0, .int .i64 0, .slice none 0 0,
 .int .i64 3, .int .i64 0, .string ⟨#[]⟩, .string ⟨#[]⟩, .int .i64 0, .int .i64 0, .int .i64 1, .int .i64 1, .int .i64 1, .int .i64 0, .int .i64 0, .slice none 0 0]
end Go.Proofs.YtlkncmpengpbiaaGreatDoor

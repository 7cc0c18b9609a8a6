/- Rows of the call's own whose elements have k cells: where a cell stands. Of no program. -/
import Derived.Laws.OwnMore
import Derived.Sort.OwnSortedInts
import Derived.Deep.CutRange
import Derived.Below
import Derived.Maps.AppendAt
import Derived.RegionTactic
import Derived.Deep.RegionHeldLaw
import Derived.Test.YtlkncmpengpbiaaGreatDoorMem
import Derived.BigQuiet
import Derived.Deep.QuietTactic
import Derived.Deep.Slices
import Derived.SliceStrings
import Derived.ProofKit
import Derived.OpenShut
import Derived.Lib.SmallJoins
namespace Go.Proofs.YtlkncmpengpbiaaGreatDoor
open Go.RowKit

section
variable {α : Type} {enc : α → List Value} {k : Nat}

theorem flat_get (hk : ∀ x, (enc x).length = k) (h0 : 0 < k) : ∀ (L : List α) (t : Nat), (L.flatMap enc)[t]? = (L[t / k]?).bind fun x => (enc x)[t % k]?
  | [], t => by simp
  | x :: L, t => by
    rw [List.flatMap_cons]
    by_cases ht : t < k
    · rw [List.getElem?_append_left (by rw [hk]; exact ht), Nat.div_eq_of_lt ht, Nat.mod_eq_of_lt ht]; simp
    · rw [List.getElem?_append_right (by rw [hk]; omega), hk, flat_get hk h0 L, Nat.div_eq_sub_div (a := t) h0 (by omega), List.getElem?_cons_succ, Nat.mod_eq_sub_mod (a := t) (by omega)]
theorem flat_len (hk : ∀ x, (enc x).length = k) (L : List α) : (L.flatMap enc).length = L.length * k := by
  induction L with
  | nil => simp
  | cons x L ih => rw [List.flatMap_cons, List.length_append, ih, hk, List.length_cons, Nat.add_mul]; omega
end
theorem own_keep {w w' : World} {B : Nat} {e : TypeId} {z n : Nat} {v : Value} {xs : List Value} (h : w.ownsRow B e z v n xs) (hb : Go.RowKit.Below w.heap.size w w') : w'.ownsRow B e z v n xs := by
  refine ⟨h.1, ?_⟩
  rcases h.2 with h2 | ⟨g, cap, cur, hv, hB, hg, r⟩
  · exact .inl h2
  · exact .inr ⟨g, cap, cur, hv, hB, by rw [hb.block g (Array.getElem?_eq_some_iff.1 hg).1]; exact hg, r⟩
end Go.Proofs.YtlkncmpengpbiaaGreatDoor
/- append onto a row of the call's own, whatever is appended (nothing, too), also as a step of a region that draws. Of no program. -/
namespace Go.Proofs.YtlkncmpengpbiaaGreatDoor
open Go.RowKit

/-- The slice's m elements, of size cells each, are these cells. -/
def SrcL (w : World) (u : Value) (m size : Nat) (news : List Value) : Prop :=
  news.length = m * size ∧ (∀ u ∈ news, u.oneCell' = true) ∧ ((u = .slice none 0 0 ∧ m = 0) ∨ ∃ ad c, u = .slice (some ad) m c ∧ ∀ j x, news[j]? = some x → w.cell? (ad.add j) = some x)

theorem SrcL.kept {w w' : World} {u : Value} {m size : Nat} {news : List Value} (h : SrcL w u m size news) {B : Nat} (hb : Below B w w') (hB : ∀ ad m c, u = .slice (some ad) m c → ad.block < B) : SrcL w' u m size news := by
  obtain ⟨h1, h2, h3⟩ := h
  refine ⟨h1, h2, h3.imp id fun ⟨ad, c, e, h⟩ => ⟨ad, c, e, fun j x hj => ?_⟩⟩
  have := hB ad m c e
  rw [hb.cell (by unfold Addr.add; split <;> exact this)]
  exact h j x hj

section
variable {P : Program} (w : World)

theorem run_append_any (base : Nat) (t ty e : TypeId) (i : TypeInfo) (z : Value) (size bytes : Nat) (ht : P.underlying t = some (.slice e)) (hi : P.info? e = some i) (hz : i.zero = some z)
    (hsize : i.size = size) (hby : i.bytes = bytes) (hzs : z.cells.size = size) (hsz : 0 < size)
    (v : Value) (n : Nat) (xs : List Value) (hown : w.ownsRow base e size v n xs) (u : Value) (m : Nat) (news : List Value) (hs : SrcL w u m size news)
    (h63 : n + m ≤ maxLen) (hbytes : (n + m) * bytes ≤ 140737488355328) (hbase : base ≤ w.heap.size) :
    ∃ v' w', (Builtin.append_ #[t, t] ty #[v, u]).run P w = .ok v' w' ∧ w'.ownsRow base e size v' (n + m) (xs ++ news) ∧ w.grownBy w' v.ownBlock ∧ (v'.ownBlock = v.ownBlock ∨ v'.ownBlock = some w.heap.size) := by
  obtain ⟨hl, h1, ⟨rfl, rfl⟩ | ⟨ad, c, rfl, hc⟩⟩ := hs
  · obtain rfl : news = [] := List.eq_nil_of_length_eq_zero (by simpa using hl)
    exact ⟨v, w, run_append_owned_none (P := P) w base t ty e i size ht hi v n xs hown, by simpa using hown, ⟨rfl, rfl, rfl, Nat.le_refl _, fun _ _ _ => rfl⟩, .inl rfl⟩
  · obtain ⟨v', w', hr, h2, h3, _, h5⟩ := run_append_own_at (P := P) w base t ty e i z size bytes ht hi hz hsize hby hzs hsz v n xs hown ad m c news hl hc h1 h63 hbytes hbase
    exact ⟨v', w', hr, h2, h3, h5⟩

theorem wp_append_any {o : Oper} {a : Act} {K : Act → World → Prop} {Q : Exit → Act → World → Prop} (s x : Operand) (t : TypeId)
    (ho : o.op = .call { callee := .builtin .append, args := #[s, x], argTypes := #[t, t] })
    (base : Nat) (e : TypeId) (i : TypeInfo) (z : Value) (size bytes : Nat) (ht : P.underlying t = some (.slice e)) (hi : P.info? e = some i) (hz : i.zero = some z)
    (hsize : i.size = size) (hby : i.bytes = bytes) (hzs : z.cells.size = size) (hsz : 0 < size)
    (v : Value) (n : Nat) (xs : List Value) (hs : a.eval s = v) (hown : w.ownsRow base e size v n xs) (m : Nat) (news : List Value) (hx : SrcL w (a.eval x) m size news)
    (h63 : n + m ≤ maxLen) (hbytes : (n + m) * bytes ≤ 140737488355328) (hbase : base ≤ w.heap.size)
    (h : ∀ v' w', w'.ownsRow base e size v' (n + m) (xs ++ news) → w.grownBy w' v.ownBlock → (v'.ownBlock = v.ownBlock ∨ v'.ownBlock = some w.heap.size) → K (a.put o.dst v') w') : o.wp P a w K Q := by
  obtain ⟨v', w', hr, h2, h3, h4⟩ := run_append_any (P := P) w base t o.type e i z size bytes ht hi hz hsize hby hzs hsz v n xs hown _ m news hx h63 hbytes hbase
  unfold Oper.wp execOp
  simp only [ho, resolve, invoke, builtin, Sem.run_bind, Sem.run_pure, Result.andThen_ok, List.map_toArray, List.map_cons, List.map_nil, hs, hr]
  exact h v' w' h2 h3 h4

theorem wpList_append_any {ops : Array Oper} {rest : List Oper} {o : Oper} {a : Act} {Q : Exit → Act → World → Prop} (hgd : o.guard = none) (s x : Operand) (t : TypeId)
    (ho : o.op = .call { callee := .builtin .append, args := #[s, x], argTypes := #[t, t] })
    (base : Nat) (e : TypeId) (i : TypeInfo) (z : Value) (size bytes : Nat) (ht : P.underlying t = some (.slice e)) (hi : P.info? e = some i) (hz : i.zero = some z)
    (hsize : i.size = size) (hby : i.bytes = bytes) (hzs : z.cells.size = size) (hsz : 0 < size)
    (v : Value) (n : Nat) (xs : List Value) (hs : a.eval s = v) (hown : w.ownsRow base e size v n xs) (m : Nat) (news : List Value) (hx : SrcL w (a.eval x) m size news)
    (h63 : n + m ≤ maxLen) (hbytes : (n + m) * bytes ≤ 140737488355328) (hbase : base ≤ w.heap.size)
    (h : ∀ v' w', w'.ownsRow base e size v' (n + m) (xs ++ news) → w.grownBy w' v.ownBlock → (v'.ownBlock = v.ownBlock ∨ v'.ownBlock = some w.heap.size) → wpList P ops Q rest (a.put o.dst v') w') : wpList P ops Q (o :: rest) a w :=
  wpList_plain hgd fun _ hK => wp_append_any w s x t ho base e i z size bytes ht hi hz hsize hby hzs hsz v n xs hs hown m news hx h63 hbytes hbase fun v' w' h2 h3 h4 => hK _ _ (h v' w' h2 h3 h4)

theorem step_append_any {ops : Array Oper} {o : Oper} {a : Act} {K : Act → World → Prop} {Q : Exit → Act → World → Prop} {E : Prop} (hgd : o.guard = none) (s x : Operand) (t : TypeId)
    (ho : o.op = .call { callee := .builtin .append, args := #[s, x], argTypes := #[t, t] })
    (base : Nat) (e : TypeId) (i : TypeInfo) (z : Value) (size bytes : Nat) (ht : P.underlying t = some (.slice e)) (hi : P.info? e = some i) (hz : i.zero = some z)
    (hsize : i.size = size) (hby : i.bytes = bytes) (hzs : z.cells.size = size) (hsz : 0 < size)
    (v : Value) (n : Nat) (xs : List Value) (hs : a.eval s = v) (hown : w.ownsRow base e size v n xs) (m : Nat) (news : List Value) (hx : SrcL w (a.eval x) m size news)
    (h63 : n + m ≤ maxLen) (hbytes : (n + m) * bytes ≤ 140737488355328) (hbase : base ≤ w.heap.size)
    (h : ∀ v' w', w'.ownsRow base e size v' (n + m) (xs ++ news) → w.grownBy w' v.ownBlock → (v'.ownBlock = v.ownBlock ∨ v'.ownBlock = some w.heap.size) → K (a.put o.dst v') w') :
    if Region.wanted o (yielded ops a.tmps) = true then Oper.wp P o a w K Q else E := by
  have hw : Region.wanted o (yielded ops a.tmps) = true := by simp [Region.wanted, hgd]
  rw [if_pos hw]
  exact wp_append_any w s x t ho base e i z size bytes ht hi hz hsize hby hzs hsz v n xs hs hown m news hx h63 hbytes hbase h
end
end Go.Proofs.YtlkncmpengpbiaaGreatDoor
/- Small words for memory: rows of the call's own, blocks, worlds. Of no program. -/
namespace Go.Proofs.YtlkncmpengpbiaaGreatDoor
open Go.RowKit

theorem flip_calls {P : Program} {f : FuncId} {args : Array Value} {w : World} {v : Value} (h : Calls P f args w fun e w' => e = .returned v ∧ w = w') : Calls P f args w fun e w' => e = .returned v ∧ w' = w := h.mono fun _ _ ⟨h1, h2⟩ => ⟨h1, h2.symm⟩
theorem below_drew1 {B : Nat} {a b : World} (h : Below B a b) : Below B a b.drew := ⟨h.os, h.tape, h.output, h.size, h.block⟩
theorem grown_of_below {w w' : World} (h : Below w.heap.size w w') (row : Option Nat) : w.grownBy w' row := ⟨h.os, h.tape, h.output, h.size, fun i hi _ => h.block i hi⟩
theorem row_ne {w : World} {base : Nat} {e : TypeId} {size : Nat} {v : Value} {n : Nat} {xs : List Value} (h : w.ownsRow base e size v n xs) {b : Nat} (hb : b < base) : some b ≠ v.ownBlock := fun e1 => by
  have := (h.lt _ e1.symm).1
  omega
theorem own_weak {w : World} {B B' : Nat} {e : TypeId} {z n : Nat} {v : Value} {xs : List Value} (h : w.ownsRow B e z v n xs) (hb : B' ≤ B) : w.ownsRow B' e z v n xs :=
  ⟨h.1, h.2.imp id fun ⟨g, cap, cur, hv, hB, r⟩ => ⟨g, cap, cur, hv, Nat.le_trans hb hB, r⟩⟩
theorem five_new (w : World) (x0 x1 x2 x3 x4 : Value) (T : TypeId) : ∀ j u, [x0, x1, x2, x3, x4][j]? = some u → (w.alloc (.cells #[x0, x1, x2, x3, x4] T)).cell? ((⟨w.heap.size, 0, none⟩ : Addr).add j) = some u := by
  intro j u hj
  match j, hj with
  | 0, hj => simp at hj; subst hj; simp [Addr.add]
  | 1, hj => simp at hj; subst hj; simp [Addr.add]
  | 2, hj => simp at hj; subst hj; simp [Addr.add]
  | 3, hj => simp at hj; subst hj; simp [Addr.add]
  | 4, hj => simp at hj; subst hj; simp [Addr.add]
theorem five_at (w : World) (g : Nat) (hg : g = w.heap.size) (x0 x1 x2 x3 x4 : Value) (T : TypeId) : ∀ j u, [x0, x1, x2, x3, x4][j]? = some u → (w.alloc (.cells #[x0, x1, x2, x3, x4] T)).cell? ((⟨g, 0, none⟩ : Addr).add j) = some u := by
  subst hg
  exact five_new w x0 x1 x2 x3 x4 T
theorem own_apart {w : World} {B B' : Nat} {e e' : TypeId} {v v' : Value} {n n' : Nat} {xs xs' : List Value} {z z' : Nat} (h : w.ownsRow B e z v n xs) (h' : w.ownsRow B' e' z' v' n' xs') (hne : e ≠ e') : v.ownBlock = none ∨ v.ownBlock ≠ v'.ownBlock := by
  rcases h.2 with ⟨rfl, _⟩ | ⟨g, cap, cur, rfl, _, hg, _⟩
  · exact .inl rfl
  · rcases h'.2 with ⟨rfl, _⟩ | ⟨g', cap', cur', rfl, _, hg', _⟩
    · exact .inr (by simp [Value.ownBlock])
    · refine .inr fun e => ?_
      simp only [Value.ownBlock, Option.some.injEq] at e
      subst e
      rw [hg] at hg'
      injection hg' with hg'
      injection hg' with _ ht
      exact hne ht
theorem two_at (w : World) (g : Nat) (hg : g = w.heap.size) (x0 x1 : Value) (T : TypeId) : ∀ j u, [x0, x1][j]? = some u → (w.alloc (.cells #[x0, x1] T)).cell? ((⟨g, 0, none⟩ : Addr).add j) = some u := by
  subst hg
  intro j u hj
  match j, hj with
  | 0, hj => simp at hj; subst hj; simp [Addr.add]
  | 1, hj => simp at hj; subst hj; simp [Addr.add]
theorem grown_drew {w w' : World} {row : Option Nat} (h : w.grownBy w' row) : w.grownBy w'.drew row := ⟨h.os, h.tape, h.output, h.size, h.block⟩
theorem cell5 {w : World} {b : Nat} {x0 x1 x2 x3 x4 : Value} {T : TypeId} (h : w.heap[b]? = some (.cells #[x0, x1, x2, x3, x4] T (0, 0))) : w.cell? ⟨b, 0, none⟩ = some x0 ∧ w.cell? ⟨b, 1, none⟩ = some x1 ∧ w.cell? ⟨b, 2, none⟩ = some x2 ∧ w.cell? ⟨b, 3, none⟩ = some x3 ∧ w.cell? ⟨b, 4, none⟩ = some x4 :=
  ⟨cell_at h 0 rfl, cell_at h 1 rfl, cell_at h 2 rfl, cell_at h 3 rfl, cell_at h 4 rfl⟩
theorem row_none {w : World} {B k : Nat} {e : TypeId} {v : Value} {xs : List Value} (h : w.ownsRow B e k v 0 xs) : ∃ A cap, v = .slice A 0 cap := by
  rcases h.2 with ⟨rfl, _⟩ | ⟨g, cap, cur, rfl, _⟩
  · exact ⟨_, _, rfl⟩
  · exact ⟨_, _, rfl⟩
theorem grown_drewN {w w' : World} {row : Option Nat} (h : w.grownBy w' row) (n : Nat) : w.grownBy (w'.drewN n) row := ⟨h.os, h.tape, h.output, h.size, h.block⟩
theorem own_far {w : World} {B : Nat} {e : TypeId} {z n : Nat} {v : Value} {xs : List Value} (h : w.ownsRow B e z v n xs) {b : Nat} (hb : w.heap.size ≤ b) : some b ≠ v.ownBlock := fun e => by
  have := (h.lt b e.symm).2
  omega
theorem set5_3 {w : World} {b : Nat} {x0 x1 x2 x3 x4 : Value} {T : TypeId} (h : w.heap[b]? = some (.cells #[x0, x1, x2, x3, x4] T (0, 0))) (q : Value) : (w.setCell ⟨b, 3, none⟩ q).heap[b]? = some (.cells #[x0, x1, x2, q, x4] T (0, 0)) := by
  simp [World.setCell, Array.getElem?_modify, h]
theorem own_ptr {w : World} {B : Nat} {e : TypeId} {z n : Nat} {v : Value} {xs : List Value} (h : w.ownsRow B e z v n xs) : (v = .slice none 0 0 ∧ n = 0) ∨ ∃ g c, v = .slice (some ⟨g, 0, none⟩) n c ∧ B ≤ g ∧ g < w.heap.size ∧ n ≤ c := by
  rcases h.2 with h | ⟨g, cap, cur, rfl, hB, hg, hc, _⟩
  · exact .inl h
  · exact .inr ⟨g, cap, rfl, hB, heap_lt hg, hc⟩
theorem own_slice {w : World} {B : Nat} {e : TypeId} {z n : Nat} {v : Value} {xs : List Value} (h : w.ownsRow B e z v n xs) : ∃ A c, v = .slice A n c ∧ (0 < n → ∃ g, A = some ⟨g, 0, none⟩ ∧ B ≤ g ∧ g < w.heap.size) := by
  rcases own_ptr h with ⟨rfl, rfl⟩ | ⟨g, c, rfl, h1, h2, _⟩
  · exact ⟨none, 0, rfl, fun h => by omega⟩
  · exact ⟨_, c, rfl, fun _ => ⟨g, rfl, h1, h2⟩⟩
theorem own_cellK {α : Type} {enc : α → List Value} {z : Nat} (hk : ∀ x, (enc x).length = z) (h0 : 0 < z) {w : World} {B g c : Nat} {e : TypeId} {l : List α} (h : w.ownsRow B e z (.slice (some ⟨g, 0, none⟩) l.length c) l.length (l.flatMap enc)) {i : Nat} {x : α} (hx : l[i]? = some x) (j : Nat) (hj : j < z) :
    w.cell? ⟨g, i * z + j, none⟩ = (enc x)[j]? := by
  have hi := (List.getElem?_eq_some_iff.1 hx).1
  have : i * z + j < l.length * z := by
    calc i * z + j < i * z + z := by omega
      _ = (i + 1) * z := by rw [Nat.add_mul, Nat.one_mul]
      _ ≤ l.length * z := Nat.mul_le_mul_right _ hi
  rw [h.cellAt _ this, flat_get hk h0, show (i * z + j) / z = i by rw [Nat.mul_comm, Nat.mul_add_div h0, Nat.div_eq_of_lt hj]; omega, show (i * z + j) % z = j by rw [Nat.mul_comm, Nat.mul_add_mod, Nat.mod_eq_of_lt hj], hx]
  rfl
theorem cell4 {w : World} {b : Nat} {x0 x1 x2 x3 : Value} {T : TypeId} (h : w.heap[b]? = some (.cells #[x0, x1, x2, x3] T (0, 0))) : w.cell? ⟨b, 0, none⟩ = some x0 ∧ w.cell? ⟨b, 1, none⟩ = some x1 ∧ w.cell? ⟨b, 2, none⟩ = some x2 ∧ w.cell? ⟨b, 3, none⟩ = some x3 :=
  ⟨cell_at h 0 rfl, cell_at h 1 rfl, cell_at h 2 rfl, cell_at h 3 rfl⟩
theorem src_one {w : World} {b : Nat} {x0 x1 x2 x3 x4 : Value} {T : TypeId} {fr : Nat × Nat} {k c : Nat} (h : w.heap[b]? = some (.cells #[x0, x1, x2, x3, x4] T fr)) (h1 : ∀ u ∈ [x0, x1, x2, x3, x4], u.oneCell' = true) (hk : k = 1) : SrcL w (.slice (some ⟨b, 0, none⟩) k c) 1 5 [x0, x1, x2, x3, x4] := by
  subst hk
  refine ⟨rfl, h1, .inr ⟨_, _, rfl, fun j x hj => ?_⟩⟩
  rw [Addr.add_lit, Nat.zero_add]
  exact cell_at h j (by simpa using hj)
theorem held5 {wz W : World} {q : Nat} {x0 x1 x2 x3 x4 : Value} {T : TypeId} (h : wz.heap[q]? = some (.cells #[x0, x1, x2, x3, x4] T (0, 0))) (hb : Below wz.heap.size wz W) :
    Hid (Below wz.heap.size wz W) ∧ W.cell? ⟨q, 0, none⟩ = some x0 ∧ W.cell? ⟨q, 1, none⟩ = some x1 ∧ W.cell? ⟨q, 2, none⟩ = some x2 ∧ W.cell? ⟨q, 3, none⟩ = some x3 ∧ W.cell? ⟨q, 4, none⟩ = some x4 :=
  ⟨hb, cell5 ((hb.block _ (heap_lt h)).trans h)⟩
end Go.Proofs.YtlkncmpengpbiaaGreatDoor
/- From an argument's reading to words for memory, by types: numbers, truth values, texts, structs, slices of whatever reads. Of no program. -/
namespace Go.Proofs.YtlkncmpengpbiaaGreatDoor
open Go.ChangeShapes Go.WideShapes Go.Deep Go.Joins Go.RowKit

/-- The slice v reads as the list L, its elements of k cells each by R; its cells lie below block B. -/
def SlK {α : Type} (w : World) (B k : Nat) (R : List Value → α → Prop) (v : Value) (L : List α) : Prop :=
  ∃ A n c, v = .slice A n c ∧ L.length = n ∧ n ≤ c ∧ c ≤ maxLen ∧ ∀ i x, L[i]? = some x → ∃ b o cs, A = some ⟨b, o, none⟩ ∧ b < B ∧ cs.length = k ∧ (∀ j u, cs[j]? = some u → w.cell? ⟨b, o + i * k + j, none⟩ = some u) ∧ R cs x

theorem SlK.mono {α : Type} {w w' : World} {B B' k : Nat} {R R' : List Value → α → Prop} {v : Value} {L : List α} (h : SlK w B k R v L) (hb : Below B w w') (hB : B ≤ B') (hR : ∀ u x, x ∈ L → R u x → R' u x) : SlK w' B' k R' v L := by
  obtain ⟨A, n, c, rfl, hl, hc, hm, h⟩ := h
  refine ⟨A, n, c, rfl, hl, hc, hm, fun i x hi => ?_⟩
  obtain ⟨b, o, cs, rfl, hlt, hk, hcell, hr⟩ := h i x hi
  exact ⟨b, o, cs, rfl, by omega, hk, fun j u hj => (hb.cell hlt).trans (hcell j u hj), hR cs _ (List.mem_of_getElem? hi) hr⟩
theorem SlK.nil {α : Type} (w : World) (B k : Nat) (R : List Value → α → Prop) : SlK w B k R (.slice none 0 0) [] := ⟨none, 0, 0, rfl, rfl, Nat.le_refl _, Nat.zero_le _, fun k x h => by simp at h⟩
/-- An element's cells. -/
theorem SlK.at {α : Type} {w : World} {B k : Nat} {R : List Value → α → Prop} {A : Option Addr} {n c : Nat} {L : List α} (h : SlK w B k R (.slice A n c) L) {i : Nat} {x : α} (hx : L[i]? = some x) :
    ∃ b o cs, A = some ⟨b, o, none⟩ ∧ b < B ∧ cs.length = k ∧ (∀ j u, cs[j]? = some u → w.cell? ⟨b, o + i * k + j, none⟩ = some u) ∧ R cs x := by
  obtain ⟨A', n', c', e, _, _, _, h⟩ := h
  cases e
  exact h i x hx
theorem SlK.shape {α : Type} {w : World} {B k : Nat} {R : List Value → α → Prop} {v : Value} {L : List α} (h : SlK w B k R v L) : ∃ A c, v = .slice A L.length c ∧ L.length ≤ c ∧ c ≤ maxLen := by
  obtain ⟨A, n, c, rfl, rfl, hc, hm, _⟩ := h
  exact ⟨A, c, rfl, hc, hm⟩

section
variable {H : Type} (enc : TypeId × Value → H) (P : Program)

def Opens (t : TypeId) (α : Type) (R : World → Nat → List Value → α → Prop) : Prop :=
  ∀ (w : World) (n : Nat) (cs : List Value) (x : DataW H × List MemPlace) (B : Nat), DataW.trod enc P w 0 (fun _ => true) true n t cs = some x → (∀ y ∈ x.2, y.block < B) → ∃ a, R w B cs a

def OpensF (fs : List Go.Field) (α : Type) (R : World → Nat → List Value → α → Prop) : Prop :=
  ∀ (w : World) (n : Nat) (cs : List Value) (ys : List (DataW H × List MemPlace)) (B : Nat), ys.length = fs.length → (∀ (i : Nat) (f : Go.Field), fs[i]? = some f → DataW.trod enc P w 0 (fun _ => true) true n f.type ((cs.drop f.offset).take (P.cellsOf f.type)) = ys[i]?) → (∀ y ∈ ys, ∀ p ∈ y.2, p.block < B) → ∃ a, R w B cs a
variable {enc P}

theorem Opens.imp {t : TypeId} {α β : Type} {R : World → Nat → List Value → α → Prop} {R' : World → Nat → List Value → β → Prop} (h : Opens enc P t α R) (f : ∀ w B cs a, R w B cs a → ∃ b, R' w B cs b) : Opens enc P t β R' := fun w n cs x B hx hB => by
  obtain ⟨a, ha⟩ := h w n cs x B hx hB
  exact f w B cs a ha
theorem opens_int {t : TypeId} {k : IntKind} (ht : P.underlying t = some (.int k)) : Opens enc P t Int fun _ _ cs a => cs = [.int k a] ∧ (Lit.int k a).wf = true := fun w n cs x B h _ => by
  obtain ⟨a, rfl, _, hw⟩ := DataW.trod_int ht h
  exact ⟨a, rfl, hw⟩
theorem opens_bool {t : TypeId} (ht : P.underlying t = some .bool) : Opens enc P t Bool fun _ _ cs a => cs = [.bool a] := fun w n cs x B h _ => by
  obtain ⟨a, rfl, _⟩ := DataW.trod_bool ht h
  exact ⟨a, rfl⟩
theorem opens_str {t : TypeId} (ht : P.underlying t = some .string) : Opens enc P t (List UInt8) fun _ _ cs a => cs = [.string ⟨a.toArray⟩] ∧ a.length ≤ maxLen := fun w n cs x B h _ => by
  obtain ⟨s, rfl, _, hs⟩ := DataW.trod_string ht h
  exact ⟨s.data.toList, by simp, by simpa using hs⟩
theorem opens_nil : OpensF enc P [] Unit fun _ _ _ _ => True := fun _ _ _ _ _ _ _ _ => ⟨(), trivial⟩
theorem opens_cons {f : Go.Field} {fs : List Go.Field} {α β : Type} {R : World → Nat → List Value → α → Prop} {S : World → Nat → List Value → β → Prop} {k : Nat} (hk : P.cellsOf f.type = k) (h : Opens enc P f.type α R) (hs : OpensF enc P fs β S) :
    OpensF enc P (f :: fs) (α × β) fun w B cs a => R w B ((cs.drop f.offset).take k) a.1 ∧ S w B cs a.2 := fun w n cs ys B hl hy hB => by
  match ys, hl with
  | y :: ys, hl =>
    obtain ⟨a, ha⟩ := h w n _ y B (by have := hy 0 f rfl; simpa using this) (hB y (List.mem_cons_self ..))
    obtain ⟨b, hb⟩ := hs w n cs ys B (by simpa using hl) (fun i f hf => by have := hy (i + 1) f (by simpa using hf); simpa using this) (fun y hy' => hB y (List.mem_cons_of_mem _ hy'))
    exact ⟨(a, b), by rw [← hk]; exact ha, hb⟩
theorem opens_struct {t : TypeId} {fs : Array Go.Field} {α : Type} {R : World → Nat → List Value → α → Prop} {k : Nat} (ht : P.underlying t = some (.struct fs)) (hk : P.cellsOf t = k) (h : OpensF enc P fs.toList α R) : Opens enc P t α fun w B cs a => cs.length = k ∧ R w B cs a := fun w n cs x B hx hB => by
  obtain ⟨xs, m, _, rfl, hl, hlen, hf⟩ := DataW.trod_struct ht hx
  obtain ⟨a, ha⟩ := h w m cs xs B (by simpa using hlen) (fun i f hi => hf i f (by simpa using hi)) (fun y hy p hp => hB p (List.mem_flatMap.2 ⟨y, hy, hp⟩))
  exact ⟨a, hl.trans hk, ha⟩
theorem opens_slice {t e : TypeId} {α : Type} {R : World → Nat → List Value → α → Prop} {k : Nat} (ht : P.underlying t = some (.slice e)) (hk : P.cellsOf e = k) (h0 : 0 < k) (h : Opens enc P e α R) :
    Opens enc P t (List α) fun w B cs L => ∃ v, cs = [v] ∧ SlK w B k (R w B) v L := fun w n cs x B hx hB => by
  rcases open_slice ht hx with ⟨rfl, _⟩ | ⟨a, len, cap, m, n, D, Pl, rfl, _, hl, hc, hm, rfl, hcell⟩
  · exact ⟨[], _, rfl, SlK.nil w B k _⟩
  · simp only [if_true] at hm
    subst hm
    rw [hk] at hcell hB
    have each : ∀ i, i < m → ∃ z : List Value × α, w.cells? 0 (a.add (i * k)) k = some z.1 ∧ R w B z.1 z.2 := fun i hi => by
      obtain ⟨cs', h1, h2⟩ := hcell i hi
      obtain ⟨b, hb⟩ := h w _ cs' _ B h2 (fun y hy => hB y (List.mem_append_right _ (List.mem_flatMap.2 ⟨i, List.mem_range.2 hi, hy⟩)))
      exact ⟨(cs', b), h1, hb⟩
    rcases Nat.eq_zero_or_pos len with h00 | hpos
    · subst h00
      exact ⟨[], _, rfl, some a, 0, m, rfl, rfl, Nat.zero_le _, hc, fun i x hi => by simp at hi⟩
    obtain ⟨z0, _⟩ := each 0 (by omega)
    haveI : Inhabited (List Value × α) := ⟨z0⟩
    obtain ⟨F, hF⟩ := choose_lt (α := List Value × α) (n := m) (p := fun i z => w.cells? 0 (a.add (i * k)) k = some z.1 ∧ R w B z.1 z.2) each
    refine ⟨(List.range len).map fun i => (F i).2, _, rfl, some a, len, m, rfl, by simp, hl, hc, fun i y hi => ?_⟩
    have hil : i < len := by
      have := (List.getElem?_eq_some_iff.1 hi).1
      simpa using this
    have hy : y = (F i).2 := by
      rw [List.getElem?_map, List.getElem?_range hil] at hi
      simpa using hi.symm
    subst hy
    obtain ⟨h1, h2⟩ := hF i (by omega)
    obtain ⟨_, hlen, hcs⟩ := World.cells?_some h1
    have hb : a.block < B := hB (.cell a.block (a.off + i * k)) (List.mem_append_left _ (MemPlace.mem_row.2 ⟨i * k, Nat.mul_lt_mul_of_pos_right (by omega) h0, rfl⟩))
    obtain ⟨_, hlen0, hcs0⟩ := World.cells?_some (hF 0 (by omega)).1
    have hz := hcs0 0 h0
    rw [Nat.zero_mul, Addr.add_zero', Addr.add_zero', List.getElem?_eq_getElem (by omega)] at hz
    have hsp := World.cell?_spot hz
    obtain ⟨b, o, sp⟩ := a
    simp only [] at hsp
    subst hsp
    refine ⟨b, o, (F i).1, rfl, hb, hlen, fun j u hj => ?_, h2⟩
    have := hcs j (by have := (List.getElem?_eq_some_iff.1 hj).1; omega)
    rw [Addr.add_lit, Addr.add_lit, hj] at this
    exact this
theorem opens_arg {t e : TypeId} {α : Type} {R : World → Nat → List Value → α → Prop} {k : Nat} {w : World} {r : Reach} {b0 : Nat} {v : Value} {d : DataW H} {p : List MemPlace} (ht : P.underlying t = some (.slice e)) (hk : P.cellsOf e = k) (h0 : 0 < k) (O : Opens enc P e α R)
    (hval : Value.okWide P w r b0 t v) (h : DataW.Trod enc P w 0 (fun _ => true) true t v d p) (hlt : ∀ x ∈ p, x.block < w.heap.size) : ∃ L, SlK w w.heap.size k (R w w.heap.size) v L := by
  obtain ⟨A, n, c, rfl⟩ := okWide_slice ht hval
  obtain ⟨fuel, h⟩ := h
  obtain ⟨L, v', e, hL⟩ := opens_slice ht hk h0 O w fuel _ (d, p) w.heap.size h hlt
  have e' : Value.slice A n c = v' := by simpa [Value.cells] using e
  subst e'
  exact ⟨L, hL⟩
theorem opens_agg {t : TypeId} {fs : Array Go.Field} {α : Type} {R : World → Nat → List Value → α → Prop} {w : World} {r : Reach} {b0 : Nat} {v : Value} {d : DataW H} {p : List MemPlace} (ht : P.underlying t = some (.struct fs)) (O : Opens enc P t α R)
    (hval : Value.okWide P w r b0 t v) (h : DataW.Trod enc P w 0 (fun _ => true) true t v d p) (hlt : ∀ x ∈ p, x.block < w.heap.size) : ∃ cs a, v = .agg cs ∧ R w w.heap.size cs.toList a := by
  obtain ⟨cs, rfl, _⟩ := okWide_struct ht hval
  obtain ⟨fuel, h⟩ := h
  obtain ⟨a, ha⟩ := O w fuel _ (d, p) w.heap.size h hlt
  exact ⟨cs, a, rfl, ha⟩
end

theorem list1 {α : Type} {l : List α} (h : l.length = 1) : ∃ a, l = [a] := by
  match l, h with
  | [a], _ => exact ⟨a, rfl⟩
theorem list2 {α : Type} {l : List α} (h : l.length = 2) : ∃ a b, l = [a, b] := by
  match l, h with
  | [a, b], _ => exact ⟨a, b, rfl⟩
theorem list3 {α : Type} {l : List α} (h : l.length = 3) : ∃ a b c, l = [a, b, c] := by
  match l, h with
  | [a, b, c], _ => exact ⟨a, b, c, rfl⟩
theorem list4 {α : Type} {l : List α} (h : l.length = 4) : ∃ a b c d, l = [a, b, c, d] := by
  match l, h with
  | [a, b, c, d], _ => exact ⟨a, b, c, d, rfl⟩
theorem list5 {α : Type} {l : List α} (h : l.length = 5) : ∃ a b c d e, l = [a, b, c, d, e] := by
  match l, h with
  | [a, b, c, d, e], _ => exact ⟨a, b, c, d, e, rfl⟩
theorem list6 {α : Type} {l : List α} (h : l.length = 6) : ∃ a b c d e f, l = [a, b, c, d, e, f] := by
  match l, h with
  | [a, b, c, d, e, f], _ => exact ⟨a, b, c, d, e, f, rfl⟩
theorem list7 {α : Type} {l : List α} (h : l.length = 7) : ∃ a b c d e f g, l = [a, b, c, d, e, f, g] := by
  match l, h with
  | [a, b, c, d, e, f, g], _ => exact ⟨a, b, c, d, e, f, g, rfl⟩
end Go.Proofs.YtlkncmpengpbiaaGreatDoor
/- What an append reads: a row of the call's own, what is left of it behind an element, a new block. Of no program. -/
namespace Go.Proofs.YtlkncmpengpbiaaGreatDoor
open Go.RowKit

section
variable {α : Type} {enc : α → List Value} {z : Nat} {W : World} {B : Nat} {e : TypeId} {l : List α}
theorem src_dropK (hz : ∀ x, (enc x).length = z) (h0 : 0 < z) (h1 : ∀ x, ∀ u ∈ enc x, u.oneCell' = true) {g c c' : Nat} (h : W.ownsRow B e z (.slice (some ⟨g, 0, none⟩) l.length c) l.length (l.flatMap enc)) {k : Nat} (hk : k ≤ l.length) :
    SrcL W (.slice (some ⟨g, k * z, none⟩) (l.length - k) c') (l.length - k) z ((l.drop k).flatMap enc) := by
  refine ⟨by rw [flat_len hz, List.length_drop], fun u hu => ?_, .inr ⟨_, _, rfl, fun j x hj => ?_⟩⟩
  · obtain ⟨x, _, hx⟩ := List.mem_flatMap.1 hu
    exact h1 x u hx
  · have hjl := (List.getElem?_eq_some_iff.1 hj).1
    rw [flat_len hz, List.length_drop] at hjl
    have hlt : k * z + j < l.length * z := by
      have : (l.length - k) * z + k * z = l.length * z := by rw [← Nat.add_mul]; congr 1; omega
      omega
    rw [Addr.add_lit, h.cellAt _ hlt, flat_get hz h0, show (k * z + j) / z = k + j / z by rw [Nat.mul_comm, Nat.mul_add_div h0], show (k * z + j) % z = j % z by rw [Nat.mul_comm, Nat.mul_add_mod]]
    rw [flat_get hz h0, List.getElem?_drop] at hj
    exact hj
theorem src_dropIf (hz : ∀ x, (enc x).length = z) (h0 : 0 < z) (h1 : ∀ x, ∀ u ∈ enc x, u.oneCell' = true) {g c : Nat} (h : W.ownsRow B e z (.slice (some ⟨g, 0, none⟩) l.length c) l.length (l.flatMap enc)) {k : Nat} (hk : k ≤ l.length) (hc : l.length ≤ c) :
    SrcL W (.slice (if c = k then some ⟨g, 0, none⟩ else some ⟨g, k * z, none⟩) (l.length - k) (c - k)) (l.length - k) z ((l.drop k).flatMap enc) := by
  split
  · obtain rfl : k = l.length := by omega
    exact ⟨by simp, by simp, .inr ⟨_, _, rfl, fun j x hj => by simp at hj⟩⟩
  · exact src_dropK hz h0 h1 h hk
theorem src_own (hz : ∀ x, (enc x).length = z) (h0 : 0 < z) (h1 : ∀ x, ∀ u ∈ enc x, u.oneCell' = true) {A : Option Addr} {c : Nat} (h : W.ownsRow B e z (.slice A l.length c) l.length (l.flatMap enc)) : SrcL W (.slice A l.length c) l.length z (l.flatMap enc) := by
  rcases own_ptr h with ⟨e1, e2⟩ | ⟨g, c', e1, _, _, _⟩
  · obtain rfl := List.eq_nil_of_length_eq_zero e2
    rw [e1]
    exact ⟨by simp, by simp, .inl ⟨rfl, rfl⟩⟩
  · injection e1 with e1 _ _
    subst e1
    have := src_dropK (c' := c) hz h0 h1 h (k := 0) (Nat.zero_le _)
    rw [Nat.zero_mul, Nat.sub_zero, List.drop_zero] at this
    exact this
end
theorem src_blk {w : World} {b : Nat} {xs : List Value} {T : TypeId} {fr : Nat × Nat} {c : Nat} (h : w.heap[b]? = some (.cells xs.toArray T fr)) (h1 : ∀ u ∈ xs, u.oneCell' = true) : SrcL w (.slice (some ⟨b, 0, none⟩) 1 c) 1 xs.length xs := by
  refine ⟨by simp, h1, .inr ⟨_, _, rfl, fun j x hj => ?_⟩⟩
  rw [Addr.add_lit, Nat.zero_add]
  exact cell_at h j (by simpa using hj)
theorem cap_of {w : World} {B : Nat} {e : TypeId} {z n g c : Nat} {xs : List Value} (h : w.ownsRow B e z (.slice (some ⟨g, 0, none⟩) n c) n xs) : n ≤ c := by
  rcases h.2 with ⟨h, _⟩ | ⟨g', cap, cur, hv, _, _, hc, _⟩
  · cases h
  · injection hv with _ _ e3
    subst e3
    exact hc
end Go.Proofs.YtlkncmpengpbiaaGreatDoor

/- Between two acts of a law: what a party of the program holds. -/
import Derived.Test.YtkmpagijdhhinaaDoorPartySame
import Derived.Test.YtkmpagijdhhinaaDoorPartyCopy
namespace Go.Proofs.YtkmpagijdhhinaaDoor
open Go.RowKit Go.Maps Key Od Pa

theorem PT.lt {w : World} (h : PT w) : 0 < w.heap.size := by
  unfold PT Lib.TabIs World.var? at h
  rw [gParties] at h
  simp only [Option.bind_some] at h
  by_cases hl : 0 < w.heap.size
  · exact hl
  · rw [Array.getElem?_eq_none (by omega)] at h
    simp at h

structure Pl (w wr : World) (p bk tk wh : Nat) (kind stock limit seq : Int) (m : Nat) (st : St) : Prop where
  pa : PA wr p bk tk wh kind stock limit seq m st
  g : Pa.Good kind stock st
  pt : PT wr
  sb : 0 ≤ stock ∧ stock ≤ 1000000000
  ln : st.rows.length ≤ 2 * m
  below : Below w.heap.size w wr
  lp : w.heap.size ≤ p ∧ w.heap.size ≤ bk ∧ w.heap.size ≤ tk ∧ w.heap.size ≤ wh
  lg : 0 < w.heap.size

theorem Pl.turn {w wr W : World} {p bk tk wh m : Nat} {kind stock limit seq : Int} {st : St} (h : Pl w wr p bk tk wh kind stock limit seq m st) {S : Nat → Prop} (ht : Turned S wr W) (hS : ∀ i, S i → w.heap.size ≤ i) (h0 : ¬ S p) (h1 : ¬ S bk) (h2 : ¬ S tk) (h3 : ¬ S wh) : Pl w W p bk tk wh kind stock limit seq m st :=
  ⟨h.pa.turned ht h0 h1 h2 h3, h.g, h.pt.turned ht (fun x => by have := hS _ x; have := h.lg; omega), h.sb, h.ln, Below.turned h.below ht hS h.below.size, h.lp, h.lg⟩
theorem Pl.keep {w wr W : World} {p bk tk wh m : Nat} {kind stock limit seq : Int} {st : St} (h : Pl w wr p bk tk wh kind stock limit seq m st) (hb : Below wr.heap.size wr W) : Pl w W p bk tk wh kind stock limit seq m st :=
  h.turn (S := fun _ => False) (Turned.of_below hb) (fun _ x => x.elim) id id id id
theorem Pl.ask {w wr : World} {p bk tk wh m : Nat} {kind stock limit seq : Int} {st : St} (h : Pl w wr p bk tk wh kind stock limit seq m st) (hm : m ≤ 1000) (to o d : Int) (sku : ByteArray) (qty amt cd : Int) (hs : sku.size ≤ 1000000000000) :
    Calls Tryd.prog 13 #[.pointer (some ⟨p, 0, none⟩), .agg #[.int .i64 to, .int .i64 o, .int .i64 d, .string sku, .int .i64 qty, .int .i64 amt, .int .i64 cd]] wr fun e w' => e = .returned (.tuple #[ansM o d (ansS kind stock limit st ⟨to, o, d, sku.data.toList, qty, amt, cd⟩), .bool (ansS kind stock limit st ⟨to, o, d, sku.data.toList, qty, amt, cd⟩).isSome]) ∧ Pl w w' p bk tk wh kind stock limit seq (m + 1) (askS kind stock limit st ⟨to, o, d, sku.data.toList, qty, amt, cd⟩) ∧ Turned (fun i => i = bk ∨ i = tk ∨ i = wh) wr w' := by
  have hln := h.ln
  refine (ask_any wr p bk tk wh kind stock limit seq m st to o d sku qty amt cd h.pa h.g h.pt h.sb (by omega) (by omega) hs).mono ?_
  rintro e w' ⟨rfl, hp, ht⟩
  have hl := h.lp
  have hS : ∀ i, (i = bk ∨ i = tk ∨ i = wh) → w.heap.size ≤ i := fun i hi => by omega
  have hg := h.lg
  refine ⟨rfl, ⟨hp, Pa.Good.ask h.g _, h.pt.turned ht (fun x => by have := hS _ x; omega), h.sb, ?_, Below.turned h.below ht hS h.below.size, hl, hg⟩, ht⟩
  have := ask_len kind stock limit st ⟨to, o, d, sku.data.toList, qty, amt, cd⟩
  omega
theorem Pl.left {w wr : World} {p bk tk wh m : Nat} {kind stock limit seq : Int} {st : St} (h : Pl w wr p bk tk wh kind stock limit seq m st) (sku : ByteArray) (hs : sku.size ≤ 1000000000000) :
    Calls Tryd.prog 20 #[.pointer (some ⟨p, 0, none⟩), .string sku] wr fun e w' => e = .returned (.int .i64 (leftS kind stock st sku.data.toList)) ∧ Below wr.heap.size wr w' :=
  left_any wr p bk tk wh kind stock limit seq m st sku h.pa h.g h.pt h.sb hs
theorem Pl.rows {w wr : World} {p bk tk wh m : Nat} {kind stock limit seq : Int} {st : St} (h : Pl w wr p bk tk wh kind stock limit seq m st) (hm : m ≤ 1000) :
    Calls Tryd.prog 15 #[.pointer (some ⟨p, 0, none⟩)] wr fun e w' => ∃ v, e = .returned v ∧ w'.ownsRow wr.heap.size tRow 5 v st.rows.length (st.rows.flatMap encR) ∧ Below wr.heap.size wr w' := by
  have hln := h.ln
  exact rows_any wr p bk tk wh kind stock limit seq m st h.pa h.g.rise (fun x hx => (h.g.key x hx).1) (by omega)
theorem Pl.stat {w wr : World} {p bk tk wh m : Nat} {kind stock limit seq : Int} {st : St} (h : Pl w wr p bk tk wh kind stock limit seq m st) (hm : m ≤ 1000) (hsq : 0 ≤ seq ∧ seq < 100000) :
    Calls Tryd.prog 18 #[.pointer (some ⟨p, 0, none⟩)] wr fun e w' => ∃ v, e = .returned (.agg #[.int .i64 kind, .int .i64 (seq + 1), v]) ∧ w'.ownsRow wr.heap.size tRow 5 v st.rows.length (st.rows.flatMap encR) ∧ Pl w w' p bk tk wh kind stock limit (seq + 1) m st ∧ Turned (fun i => i = p) wr w' := by
  have hln := h.ln
  refine (stat_any wr p bk tk wh kind stock limit seq m st h.pa h.g.rise (fun x hx => (h.g.key x hx).1) (by omega) hsq).mono ?_
  rintro e w' ⟨v, rfl, ho, hp, ht⟩
  have hl := h.lp
  have hS : ∀ i, i = p → w.heap.size ≤ i := fun i hi => by omega
  have hg := h.lg
  exact ⟨v, rfl, ho, ⟨hp, h.g, h.pt.turned ht (fun x => by have := hS _ x; omega), h.sb, h.ln, Below.turned h.below ht hS h.below.size, hl, hg⟩, ht⟩
theorem Pl.copy {w wr : World} {p bk tk wh m : Nat} {kind stock limit seq : Int} {st : St} (h : Pl w wr p bk tk wh kind stock limit seq m st) :
    Calls Tryd.prog 12 #[.pointer (some ⟨p, 0, none⟩)] wr fun e w' => ∃ q b t u, e = .returned (.pointer (some ⟨q, 0, none⟩)) ∧ Pl wr w' q b t u kind stock limit seq m st ∧ Below wr.heap.size wr w' := by
  refine (copy_any wr p bk tk wh kind stock limit seq m st h.pa).mono ?_
  rintro e w' ⟨q, b, t, u, rfl, hp, h1, h2, h3, h4, hb⟩
  exact ⟨q, b, t, u, rfl, ⟨hp, h.g, h.pt.below hb, h.sb, h.ln, hb, ⟨h1, h2, h3, h4⟩, Nat.lt_of_lt_of_le h.lg h.below.size⟩, hb⟩
theorem Pl.new (w : World) (hT : PT w) (kind stock limit : Int) (hk : 0 ≤ kind ∧ kind ≤ 2) : Calls Tryd.prog 10 #[.int .i64 kind, .int .i64 stock, .int .i64 limit] w fun e w' => ∃ p bk tk wh, e = .returned (.pointer (some ⟨p, 0, none⟩)) ∧ Pl w w' p bk tk wh kind (min (max stock 0) 1000000000) limit 0 0 ⟨[], [], []⟩ ∧ Below w.heap.size w w' := by
  refine (new_any w kind stock limit hk).mono ?_
  rintro e w' ⟨p, bk, tk, wh, rfl, hp, h1, h2, h3, h4, hb⟩
  exact ⟨p, bk, tk, wh, rfl, ⟨hp, Pa.Good.nil (by omega), hT.below hb, by omega, by simp, hb, ⟨h1, h2, h3, h4⟩, hT.lt⟩, hb⟩
theorem Pl.weak {w v wr : World} {p bk tk wh m : Nat} {kind stock limit seq : Int} {st : St} (h : Pl v wr p bk tk wh kind stock limit seq m st) (hb : Below w.heap.size w wr) (hv : w.heap.size ≤ v.heap.size) (hg : 0 < w.heap.size) : Pl w wr p bk tk wh kind stock limit seq m st :=
  ⟨h.pa, h.g, h.pt, h.sb, h.ln, hb, ⟨Nat.le_trans hv h.lp.1, Nat.le_trans hv h.lp.2.1, Nat.le_trans hv h.lp.2.2.1, Nat.le_trans hv h.lp.2.2.2⟩, hg⟩
end Go.Proofs.YtkmpagijdhhinaaDoor

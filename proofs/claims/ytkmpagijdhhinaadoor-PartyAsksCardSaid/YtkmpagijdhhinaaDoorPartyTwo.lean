/- law16: Great; two parties beside each other; a message of the caller's list. -/
import Derived.Test.YtkmpagijdhhinaaDoorPartyAsked
import Derived.Test.YtkmpagijdhhinaaDoorPartyPure
import Derived.Test.YtkmpagijdhhinaaDoorPartyOpen
namespace Go.Proofs.YtkmpagijdhhinaaDoor
open Go.RowKit Go.Maps Key Od Pa

abbrev Msg6 : Type := Int × (Int × Int) × List UInt8 × Int × Int × Int
abbrev Msgs (w : World) (v : Value) (L : List Msg6) : Prop := SlK w w.heap.size 7 IsMsg v L
namespace Pa
def msOf (x : Msg6) : Ms := ⟨x.1, x.2.1.1, x.2.1.2, x.2.2.1, x.2.2.2.1, x.2.2.2.2.1, x.2.2.2.2.2⟩
def longB (L : List Msg6) : Bool := L.any fun x => decide (50 < x.2.2.1.length)
def greatB (L : List Msg6) (most : Nat) : Bool := longB L || decide (most < L.length)
theorem great_no {L : List Msg6} {most : Nat} (h : greatB L most = false) : L.length ≤ most ∧ ∀ x ∈ L, x.2.2.1.length ≤ 50 := by
  unfold greatB longB at h
  rw [Bool.or_eq_false_iff, List.any_eq_false] at h
  exact ⟨by have := h.2; simp at this; omega, fun x hx => by have := h.1 x hx; simp at this; omega⟩
theorem long_step {L : List Msg6} {k : Nat} {x : Msg6} (h : longB (L.take k) = false) (hx : L[k]? = some x) (hs : x.2.2.1.length ≤ 50) : longB (L.take (k + 1)) = false := by
  unfold longB at *
  rw [List.take_add_one, hx, List.any_append, h]
  simp; omega
theorem long_hit {L : List Msg6} {k : Nat} {x : Msg6} (hx : L[k]? = some x) (hs : 50 < x.2.2.1.length) : longB L = true := by
  unfold longB
  rw [List.any_eq_true]
  exact ⟨x, List.mem_of_getElem? hx, by simpa using hs⟩
end Pa

/-- A message's cells. -/
theorem msg_cells {w wr : World} {v : Value} {L : List Msg6} (h : Msgs w v L) (hb : Below w.heap.size w wr) {k : Nat} {x : Msg6} (hx : L[k]? = some x) : ∃ g off n c, v = .slice (some ⟨g, off, none⟩) n c ∧
    wr.cell? ⟨g, off + k * 7, none⟩ = some (.int .i64 x.1) ∧ wr.cell? ⟨g, off + k * 7 + 1, none⟩ = some (.int .i64 x.2.1.1) ∧ wr.cell? ⟨g, off + k * 7 + 2, none⟩ = some (.int .i64 x.2.1.2) ∧ wr.cell? ⟨g, off + k * 7 + 3, none⟩ = some (.string ⟨x.2.2.1.toArray⟩) ∧ wr.cell? ⟨g, off + k * 7 + 4, none⟩ = some (.int .i64 x.2.2.2.1) ∧ wr.cell? ⟨g, off + k * 7 + 5, none⟩ = some (.int .i64 x.2.2.2.2.1) ∧ wr.cell? ⟨g, off + k * 7 + 6, none⟩ = some (.int .i64 x.2.2.2.2.2) := by
  obtain ⟨A, c, rfl, _⟩ := h.shape
  obtain ⟨g, off, cs, rfl, hgl, hcl, hcell, hcs⟩ := h.at hx
  unfold IsMsg at hcs
  subst hcs
  have hkeep := fun j u hj => (hb.cell (p := ⟨g, off + k * 7 + j, none⟩) hgl).trans (hcell j u hj)
  exact ⟨g, off, _, _, rfl, hkeep 0 _ rfl, hkeep 1 _ rfl, hkeep 2 _ rfl, hkeep 3 _ rfl, hkeep 4 _ rfl, hkeep 5 _ rfl, hkeep 6 _ rfl⟩

set_option maxHeartbeats 2000000 in
theorem great_any (w wr : World) (v : Value) (L : List Msg6) (most : Nat) (h : Msgs w v L) (hb : Below w.heap.size w wr) :
    Calls Tryd.prog 8 #[v, .int .i64 most] wr fun e w' => e = .returned (.bool (greatB L most)) ∧ wr = w' := by
  obtain ⟨A, c, rfl, hLc, hcm⟩ := h.shape
  have HS := Lib.hid h
  have HB := Lib.hid hb
  clear h hb
  have hL63 : (L.length : Int) ≤ 9223372036854775807 := by unfold maxLen at hcm; omega
  go_enter Tryd.func8, Tryd.ntmps8
  go_wp2_with fail
  go_loopw [5] (fun i W => ∃ k : Nat, i = .int .i64 k ∧ k ≤ L.length ∧ Hid (longB (L.take k) = false) ∧ wr = W) (fun i _ => L.length - (intOf i).toNat)
  case atStart => exact ⟨0, rfl, by omega, (rfl : longB [] = false), rfl⟩
  case round =>
    obtain ⟨k, rfl, hk, HF, rfl⟩ := hrel
    by_cases hkl : k < L.length
    · obtain ⟨x, hx⟩ : ∃ x, L[k]? = some x := ⟨_, List.getElem?_eq_getElem hkl⟩
      obtain ⟨g, off, n, c', e, c0, c1, c2, c3, c4, c5, c6⟩ := msg_cells HS.out HB.out hx
      injection e with e1 e2 e3
      subst e1; subst e2; subst e3
      have hlt : (k : Int) < L.length := by omega
      have hk0 : (0 : Int) ≤ k := by omega
      by_cases h50 : 50 < x.2.2.1.length
      · have HG := Lib.hid (show greatB L most = true by unfold greatB; rw [long_hit hx h50]; rfl)
        have h50' : (50 : Int) < x.2.2.1.length := by omega
        clear hx
        go_wp2_with fail
        go_ret
        exact ⟨by rw [HG.out]; rfl, rfl⟩
      · have HF' := Lib.hid (long_step HF.out hx (by omega))
        have h50' : (x.2.2.1.length : Int) ≤ 50 := by omega
        clear hx
        go_wp2_with fail
        go_roundw
        case rel => exact ⟨k + 1, by go_num, by omega, HF', trivial⟩
        case measure => simp [intOf]; omega
    · obtain rfl : k = L.length := by omega
      have HG := Lib.hid (show greatB L most = decide (most < L.length) by unfold greatB; have := HF.out; rw [List.take_length] at this; rw [this]; rfl)
      go_wp2_with fail
      go_ret
      exact ⟨by rw [HG.out]; rfl, rfl⟩

theorem ansM_shape (o d : Int) (r : Option Int) : ∃ a0 a1 a2 a6, ansM o d r = .agg #[.int .i64 a0, .int .i64 a1, .int .i64 a2, .string ⟨#[]⟩, .int .i64 0, .int .i64 0, .int .i64 a6] := by
  cases r with
  | none => exact ⟨_, _, _, _, rfl⟩
  | some c => exact ⟨_, _, _, _, rfl⟩

theorem Pl.tell {w wr : World} {p bk tk wh m : Nat} {kind stock limit seq : Int} {st : St} (h : Pl w wr p bk tk wh kind stock limit seq m st) (hm : m ≤ 1000) (x : Msg6) (hs : x.2.2.1.length ≤ 50) {a0 a1 a2 a6 : Int} {ok : Bool} (hsh : ansM x.2.1.1 x.2.1.2 (ansS kind stock limit st (msOf x)) = .agg #[.int .i64 a0, .int .i64 a1, .int .i64 a2, .string ⟨#[]⟩, .int .i64 0, .int .i64 0, .int .i64 a6]) (hok : (ansS kind stock limit st (msOf x)).isSome = ok) :
    Calls Tryd.prog 13 #[.pointer (some ⟨p, 0, none⟩), .agg #[.int .i64 x.1, .int .i64 x.2.1.1, .int .i64 x.2.1.2, .string ⟨x.2.2.1.toArray⟩, .int .i64 x.2.2.2.1, .int .i64 x.2.2.2.2.1, .int .i64 x.2.2.2.2.2]] wr fun e w' => e = .returned (.tuple #[.agg #[.int .i64 a0, .int .i64 a1, .int .i64 a2, .string ⟨#[]⟩, .int .i64 0, .int .i64 0, .int .i64 a6], .bool ok]) ∧ Pl w w' p bk tk wh kind stock limit seq (m + 1) (askS kind stock limit st (msOf x)) ∧ Turned (fun i => i = bk ∨ i = tk ∨ i = wh) wr w' :=
  (h.ask hm x.1 x.2.1.1 x.2.1.2 ⟨x.2.2.1.toArray⟩ x.2.2.2.1 x.2.2.2.2.1 x.2.2.2.2.2 (by show x.2.2.1.toArray.size ≤ _; simp; omega)).mono fun e w' h => ⟨h.1.trans (by
    show Ending.returned (.tuple #[ansM x.2.1.1 x.2.1.2 (ansS kind stock limit st (msOf x)), .bool (ansS kind stock limit st (msOf x)).isSome]) = _
    rw [hsh, hok]), h.2.1, h.2.2⟩
/-- Two parties of the program, apart. -/
structure Two (w wr : World) (p bk tk wh q b t u : Nat) (kind stock limit : Int) (m1 m2 : Nat) (s1 s2 : St) : Prop where
  one : Pl w wr p bk tk wh kind stock limit 0 m1 s1
  two : Pl w wr q b t u kind stock limit 0 m2 s2
  ne : ∃ z, (p < z ∧ bk < z ∧ tk < z ∧ wh < z) ∧ z ≤ q ∧ z ≤ b ∧ z ≤ t ∧ z ≤ u
theorem Two.keep {w wr W : World} {p bk tk wh q b t u m1 m2 : Nat} {kind stock limit : Int} {s1 s2 : St} (h : Two w wr p bk tk wh q b t u kind stock limit m1 m2 s1 s2) (hb : Below wr.heap.size wr W) : Two w W p bk tk wh q b t u kind stock limit m1 m2 s1 s2 :=
  ⟨h.one.keep hb, h.two.keep hb, h.ne⟩
theorem Two.askP {w wr : World} {p bk tk wh q b t u m1 m2 : Nat} {kind stock limit : Int} {s1 s2 : St} (h : Two w wr p bk tk wh q b t u kind stock limit m1 m2 s1 s2) (hm : m1 ≤ 1000) (to o d : Int) (sku : ByteArray) (qty amt cd : Int) (hs : sku.size ≤ 1000000000000) :
    Calls Tryd.prog 13 #[.pointer (some ⟨p, 0, none⟩), .agg #[.int .i64 to, .int .i64 o, .int .i64 d, .string sku, .int .i64 qty, .int .i64 amt, .int .i64 cd]] wr fun e w' => e = .returned (.tuple #[ansM o d (ansS kind stock limit s1 ⟨to, o, d, sku.data.toList, qty, amt, cd⟩), .bool (ansS kind stock limit s1 ⟨to, o, d, sku.data.toList, qty, amt, cd⟩).isSome]) ∧ Two w w' p bk tk wh q b t u kind stock limit (m1 + 1) m2 (askS kind stock limit s1 ⟨to, o, d, sku.data.toList, qty, amt, cd⟩) s2 ∧ Turned (fun i => i = bk ∨ i = tk ∨ i = wh) wr w' := by
  refine (h.one.ask hm to o d sku qty amt cd hs).mono ?_
  rintro e w' ⟨rfl, hp, ht⟩
  obtain ⟨z, h1, h2⟩ := h.ne
  have hl := h.one.lp
  exact ⟨rfl, ⟨hp, h.two.turn ht (fun i hi => by omega) (by omega) (by omega) (by omega) (by omega), h.ne⟩, ht⟩
theorem Two.askQ {w wr : World} {p bk tk wh q b t u m1 m2 : Nat} {kind stock limit : Int} {s1 s2 : St} (h : Two w wr p bk tk wh q b t u kind stock limit m1 m2 s1 s2) (hm : m2 ≤ 1000) (to o d : Int) (sku : ByteArray) (qty amt cd : Int) (hs : sku.size ≤ 1000000000000) :
    Calls Tryd.prog 13 #[.pointer (some ⟨q, 0, none⟩), .agg #[.int .i64 to, .int .i64 o, .int .i64 d, .string sku, .int .i64 qty, .int .i64 amt, .int .i64 cd]] wr fun e w' => e = .returned (.tuple #[ansM o d (ansS kind stock limit s2 ⟨to, o, d, sku.data.toList, qty, amt, cd⟩), .bool (ansS kind stock limit s2 ⟨to, o, d, sku.data.toList, qty, amt, cd⟩).isSome]) ∧ Two w w' p bk tk wh q b t u kind stock limit m1 (m2 + 1) s1 (askS kind stock limit s2 ⟨to, o, d, sku.data.toList, qty, amt, cd⟩) ∧ Turned (fun i => i = b ∨ i = t ∨ i = u) wr w' := by
  refine (h.two.ask hm to o d sku qty amt cd hs).mono ?_
  rintro e w' ⟨rfl, hp, ht⟩
  obtain ⟨z, h1, h2⟩ := h.ne
  have hl := h.two.lp
  exact ⟨rfl, ⟨h.one.turn ht (fun i hi => by omega) (by omega) (by omega) (by omega) (by omega), hp, h.ne⟩, ht⟩
theorem Two.tellP {w wr : World} {p bk tk wh q b t u m1 m2 : Nat} {kind stock limit : Int} {s1 s2 : St} (h : Two w wr p bk tk wh q b t u kind stock limit m1 m2 s1 s2) (hm : m1 ≤ 1000) (x : Msg6) (hs : x.2.2.1.length ≤ 50) {a0 a1 a2 a6 : Int} {ok : Bool} (hsh : ansM x.2.1.1 x.2.1.2 (ansS kind stock limit s1 (msOf x)) = .agg #[.int .i64 a0, .int .i64 a1, .int .i64 a2, .string ⟨#[]⟩, .int .i64 0, .int .i64 0, .int .i64 a6]) (hok : (ansS kind stock limit s1 (msOf x)).isSome = ok) :
    Calls Tryd.prog 13 #[.pointer (some ⟨p, 0, none⟩), .agg #[.int .i64 x.1, .int .i64 x.2.1.1, .int .i64 x.2.1.2, .string ⟨x.2.2.1.toArray⟩, .int .i64 x.2.2.2.1, .int .i64 x.2.2.2.2.1, .int .i64 x.2.2.2.2.2]] wr fun e w' => e = .returned (.tuple #[.agg #[.int .i64 a0, .int .i64 a1, .int .i64 a2, .string ⟨#[]⟩, .int .i64 0, .int .i64 0, .int .i64 a6], .bool ok]) ∧ Two w w' p bk tk wh q b t u kind stock limit (m1 + 1) m2 (askS kind stock limit s1 (msOf x)) s2 ∧ Turned (fun i => i = bk ∨ i = tk ∨ i = wh) wr w' :=
  (h.askP hm x.1 x.2.1.1 x.2.1.2 ⟨x.2.2.1.toArray⟩ x.2.2.2.1 x.2.2.2.2.1 x.2.2.2.2.2 (by show x.2.2.1.toArray.size ≤ _; simp; omega)).mono fun e w' h => ⟨h.1.trans (by
    show Ending.returned (.tuple #[ansM x.2.1.1 x.2.1.2 (ansS kind stock limit s1 (msOf x)), .bool (ansS kind stock limit s1 (msOf x)).isSome]) = _
    rw [hsh, hok]), h.2.1, h.2.2⟩
theorem Two.tellQ {w wr : World} {p bk tk wh q b t u m1 m2 : Nat} {kind stock limit : Int} {s1 s2 : St} (h : Two w wr p bk tk wh q b t u kind stock limit m1 m2 s1 s2) (hm : m2 ≤ 1000) (x : Msg6) (hs : x.2.2.1.length ≤ 50) {a0 a1 a2 a6 : Int} {ok : Bool} (hsh : ansM x.2.1.1 x.2.1.2 (ansS kind stock limit s2 (msOf x)) = .agg #[.int .i64 a0, .int .i64 a1, .int .i64 a2, .string ⟨#[]⟩, .int .i64 0, .int .i64 0, .int .i64 a6]) (hok : (ansS kind stock limit s2 (msOf x)).isSome = ok) :
    Calls Tryd.prog 13 #[.pointer (some ⟨q, 0, none⟩), .agg #[.int .i64 x.1, .int .i64 x.2.1.1, .int .i64 x.2.1.2, .string ⟨x.2.2.1.toArray⟩, .int .i64 x.2.2.2.1, .int .i64 x.2.2.2.2.1, .int .i64 x.2.2.2.2.2]] wr fun e w' => e = .returned (.tuple #[.agg #[.int .i64 a0, .int .i64 a1, .int .i64 a2, .string ⟨#[]⟩, .int .i64 0, .int .i64 0, .int .i64 a6], .bool ok]) ∧ Two w w' p bk tk wh q b t u kind stock limit m1 (m2 + 1) s1 (askS kind stock limit s2 (msOf x)) ∧ Turned (fun i => i = b ∨ i = t ∨ i = u) wr w' :=
  (h.askQ hm x.1 x.2.1.1 x.2.1.2 ⟨x.2.2.1.toArray⟩ x.2.2.2.1 x.2.2.2.2.1 x.2.2.2.2.2 (by show x.2.2.1.toArray.size ≤ _; simp; omega)).mono fun e w' h => ⟨h.1.trans (by
    show Ending.returned (.tuple #[ansM x.2.1.1 x.2.1.2 (ansS kind stock limit s2 (msOf x)), .bool (ansS kind stock limit s2 (msOf x)).isSome]) = _
    rw [hsh, hok]), h.2.1, h.2.2⟩
/-- What a copy is asked makes no difference. -/
theorem Pl.aside {w wr W : World} {p bk tk wh m c cb ct cu m' : Nat} {kind stock limit seq kind' stock' limit' seq' : Int} {st st' : St} (h : Pl w wr p bk tk wh kind stock limit seq m st) (hc : Pl wr W c cb ct cu kind' stock' limit' seq' m' st') : Pl w W p bk tk wh kind stock limit seq m st := h.keep hc.below
end Go.Proofs.YtkmpagijdhhinaaDoor

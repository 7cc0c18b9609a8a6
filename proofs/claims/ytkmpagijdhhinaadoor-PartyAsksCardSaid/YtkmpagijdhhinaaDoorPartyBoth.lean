/- The document's Ask, whole; the program's party beside the document's. -/
import Derived.Test.YtkmpagijdhhinaaDoorPartyRefAsk2
import Derived.Test.YtkmpagijdhhinaaDoorPartyRefAsk3
import Derived.Test.YtkmpagijdhhinaaDoorPartyTwo
import Derived.Test.YtkmpagijdhhinaaDoorOrdersCheck
namespace Go.Proofs.YtkmpagijdhhinaaDoor
open Go.RowKit Go.Maps Key Od Pa

namespace Pa
theorem ans_row {l : List R5} {x : R5} (h : Rise (insR l x)) : (findR (insR l x) x.1).map (fun y : R5 => y.2.1) = some x.2.1 := by rw [find_of h (mem_ins.2 (.inl rfl))]; rfl
theorem may_chk {m : Ms} (h : m.may = true) : chk m.o m.d = true := by
  unfold Ms.may mayB at h
  simp only [Bool.and_eq_true] at h
  exact h.1.1.1
theorem may_check (s : List UInt8) : mayB 1 1 0 s 1 0 0 = decide (checkI s = 0) := by
  unfold mayB checkI goodsB
  rw [show chk 1 0 = true from rfl, show decide (partyI 0 = 1) = true from rfl, if_neg (by decide)]
  by_cases h0 : s.length = 0
  · simp [h0]
  · by_cases h8 : 8 < s.length
    · simp [h0, h8, show ¬ s.length ≤ 8 by omega]
    · cases hn : nameB s <;> simp [h0, h8, show s.length ≤ 8 by omega, show 0 < s.length by omega]
theorem ask_gs (kind stock limit : Int) (st : St) (m : Ms) : (askS kind stock limit st m).gs.length ≤ st.gs.length + 1 := by
  have hf := free_len st.gs m.o
  unfold askS nextS undoS doS
  split
  · split
    · omega
    · split
      · show (if kind = 1 then freeG st.gs m.o else st.gs).length ≤ _
        split <;> omega
      · split
        · show (if kind = 1 then st.gs ++ [(m.o, m.sku, m.qty)] else st.gs).length ≤ _
          split
          · simp
          · omega
        · simp
  · omega
end Pa
set_option linter.unusedSimpArgs false in
set_option linter.unusedVariables false in
set_option maxRecDepth 100000 in
set_option maxHeartbeats 4000000 in
theorem refAsk_any (w : World) (B r : Nat) (kind stock limit seq : Int) (vl vg : Value) (st : St) (to o d : Int) (sku : ByteArray) (qty amt cd : Int) (h : RP w B r kind stock limit seq vl vg st.rows st.gs) (g : Pa.Good kind stock st) (hs : sku.size ≤ 1000000000000) (hd : Mon.InR d) (hl : st.rows.length < 90000) (hg : st.gs.length < 90000) (hB : B ≤ w.heap.size) (hst : 0 ≤ stock ∧ stock ≤ 1000000000) (hk : 0 ≤ kind ∧ kind ≤ 2) :
    Calls Tryd.prog 14 #[.pointer (some ⟨r, 0, none⟩), .agg #[.int .i64 to, .int .i64 o, .int .i64 d, .string sku, .int .i64 qty, .int .i64 amt, .int .i64 cd]] w fun e w' => e = .returned (.tuple #[ansM o d (ansS kind stock limit st ⟨to, o, d, sku.data.toList, qty, amt, cd⟩), .bool (ansS kind stock limit st ⟨to, o, d, sku.data.toList, qty, amt, cd⟩).isSome]) ∧ Turned (fun i => i = r) w w' ∧ ∃ vl' vg', RP w' B r kind stock limit seq vl' vg' (askS kind stock limit st ⟨to, o, d, sku.data.toList, qty, amt, cd⟩).rows (askS kind stock limit st ⟨to, o, d, sku.data.toList, qty, amt, cd⟩).gs := by
  have hu : used st.gs sku.data.toList ≤ 1000000000 := Int.le_trans (g.le _) hst.2
  have hq : ∀ o s q, (o, s, q) ∈ st.gs → 1 ≤ q := fun a s q hx => (g.gs a s q hx).2.2.1
  cases hm : mayB to o d sku.data.toList qty amt cd with
  | false =>
    refine (refAskNo w B r kind stock limit seq vl vg st.rows st.gs to o d sku qty amt cd h hs hd hm).mono ?_
    rintro e w' ⟨rfl, hb⟩
    have e1 : askS kind stock limit st ⟨to, o, d, sku.data.toList, qty, amt, cd⟩ = st := by unfold askS; simp [Ms.may, hm]
    have e2 : ansS kind stock limit st ⟨to, o, d, sku.data.toList, qty, amt, cd⟩ = none := by unfold ansS; simp [Ms.may, hm]
    rw [e1, e2]
    exact ⟨rfl, Turned.of_below hb, vl, vg, h.below hb⟩
  | true =>
    by_cases ht : to = kind
    · have hmm : (⟨to, o, d, sku.data.toList, qty, amt, cd⟩ : Ms).may = true := hm
      have hc : ((⟨to, o, d, sku.data.toList, qty, amt, cd⟩ : Ms).may && decide ((⟨to, o, d, sku.data.toList, qty, amt, cd⟩ : Ms).to = kind)) = true := by rw [hmm]; exact decide_eq_true ht
      cases hf : findR st.rows (o, d) with
      | some x =>
        refine (refAskOld w B r kind stock limit seq vl vg st.rows st.gs to o d sku qty amt cd h hs hd hm ht (by omega) x hf).mono ?_
        rintro e w' ⟨rfl, hb⟩
        have e1 : askS kind stock limit st ⟨to, o, d, sku.data.toList, qty, amt, cd⟩ = st := by unfold askS; rw [if_pos hc, if_pos (by show (findR st.rows (o, d)).isSome = true; rw [hf]; rfl)]
        have e2 : ansS kind stock limit st ⟨to, o, d, sku.data.toList, qty, amt, cd⟩ = some x.2.1 := by unfold ansS; rw [if_pos hc, e1]; show (findR st.rows (o, d)).map _ = _; rw [hf]; rfl
        rw [e1, e2]
        exact ⟨rfl, Turned.of_below hb, vl, vg, h.below hb⟩
      | none =>
        have hn : ¬ (findR st.rows (o, d)).isSome = true := by rw [hf]; decide
        have hg' := Pa.Good.ask (limit := limit) g (⟨to, o, d, sku.data.toList, qty, amt, cd⟩ : Ms)
        have hd6 : 0 ≤ d ∧ d ≤ 5 := by
          have := may_chk hmm
          unfold chk at this
          simp only [Bool.and_eq_true, decide_eq_true_eq] at this
          omega
        have ha : ∀ (l : List R5) (x : R5), (askS kind stock limit st ⟨to, o, d, sku.data.toList, qty, amt, cd⟩).rows = insR l x → x.1 = (o, d) → ansS kind stock limit st ⟨to, o, d, sku.data.toList, qty, amt, cd⟩ = some x.2.1 := by
          intro l x e1 e2
          unfold ansS
          rw [if_pos hc, e1]
          have := hg'.rise
          rw [e1] at this
          have := ans_row this
          rw [e2] at this
          exact this
        by_cases h3 : 3 ≤ d
        · have e1 : askS kind stock limit st ⟨to, o, d, sku.data.toList, qty, amt, cd⟩ = undoS kind st ⟨to, o, d, sku.data.toList, qty, amt, cd⟩ := by unfold askS; rw [if_pos hc, if_neg hn]; unfold nextS; exact if_pos h3
          refine (refAskUndo w B r kind stock limit seq vl vg st.rows st.gs to o d sku qty amt cd h hs hd hm ht hl hg hB hf (by unfold undoI; rw [if_pos (by omega)])).mono ?_
          rintro e w' ⟨rfl, ht', vl', vg', hp⟩
          rw [ha _ _ (by rw [e1]; rfl) rfl, e1]
          exact ⟨rfl, ht', vl', vg', hp⟩
        · have e1 : askS kind stock limit st ⟨to, o, d, sku.data.toList, qty, amt, cd⟩ = doS kind stock limit st ⟨to, o, d, sku.data.toList, qty, amt, cd⟩ := by unfold askS; rw [if_pos hc, if_neg hn]; unfold nextS; exact if_neg h3
          have hun : undoI d = (0, false) := by unfold undoI; rw [if_neg (by omega)]
          cases hdn : doneB kind stock limit st ⟨to, o, d, sku.data.toList, qty, amt, cd⟩ with
          | false =>
            have e3 : doS kind stock limit st ⟨to, o, d, sku.data.toList, qty, amt, cd⟩ = ⟨insR st.rows ((o, d), 2, 0, 0), st.gs, st.rs⟩ := by unfold doS; rw [hdn]; rfl
            refine (refAskRefuse w B r kind stock limit seq vl vg st.rows st.gs to o d sku qty amt cd h hs hd hm ht hl hg hB hf 0 hun hst hq hu hk hdn).mono ?_
            rintro e w' ⟨rfl, ht', vl', vg', hp⟩
            rw [ha _ _ (by rw [e1, e3]) rfl, e1, e3]
            exact ⟨rfl, ht', vl', vg', hp⟩
          | true =>
            by_cases hk1 : kind = 1
            · have e3 : doS kind stock limit st ⟨to, o, d, sku.data.toList, qty, amt, cd⟩ = ⟨insR st.rows ((o, d), 1, amt, qty), st.gs ++ [(o, sku.data.toList, qty)], st.rs ++ [(o, sku.data.toList)]⟩ := by unfold doS; rw [hdn]; simp [hk1]
              refine (refAskStore w B r kind stock limit seq vl vg st.rows st.gs to o d sku qty amt cd h hs hd hm ht hl hg hB hf 0 hun hst hq hu hk hdn hk1).mono ?_
              rintro e w' ⟨rfl, ht', vl', vg', hp⟩
              rw [ha _ _ (by rw [e1, e3]) rfl, e1, e3]
              exact ⟨rfl, ht', vl', vg', hp⟩
            · have e3 : doS kind stock limit st ⟨to, o, d, sku.data.toList, qty, amt, cd⟩ = ⟨insR st.rows ((o, d), 1, amt, qty), st.gs, st.rs⟩ := by unfold doS; rw [hdn]; simp [hk1]
              refine (refAskDo w B r kind stock limit seq vl vg st.rows st.gs to o d sku qty amt cd h hs hd hm ht hl hg hB hf 0 hun hst hq hu hk hdn hk1).mono ?_
              rintro e w' ⟨rfl, ht', vl', vg', hp⟩
              rw [ha _ _ (by rw [e1, e3]) rfl, e1, e3]
              exact ⟨rfl, ht', vl', vg', hp⟩
    · refine (refAskTo w B r kind stock limit seq vl vg st.rows st.gs to o d sku qty amt cd h hs hd hm ht).mono ?_
      rintro e w' ⟨rfl, hb⟩
      have e1 : askS kind stock limit st ⟨to, o, d, sku.data.toList, qty, amt, cd⟩ = st := by unfold askS; simp [Ms.may, ht]
      have e2 : ansS kind stock limit st ⟨to, o, d, sku.data.toList, qty, amt, cd⟩ = none := by unfold ansS; simp [Ms.may, ht]
      rw [e1, e2]
      exact ⟨rfl, Turned.of_below hb, vl, vg, h.below hb⟩

set_option linter.unusedSimpArgs false in
set_option linter.unusedVariables false in
set_option maxRecDepth 100000 in
set_option maxHeartbeats 4000000 in
theorem lawLeft_any (w : World) (B r : Nat) (kind stock limit seq : Int) (vl vg : Value) (st : St) (sku : ByteArray) (h : RP w B r kind stock limit seq vl vg st.rows st.gs) (g : Pa.Good kind stock st) (hs : sku.size ≤ 1000000000000) (hg : st.gs.length < 90000) (hst : 0 ≤ stock ∧ stock ≤ 1000000000) :
    Calls Tryd.prog 21 #[.pointer (some ⟨r, 0, none⟩), .string sku] w fun e w' => e = .returned (.int .i64 (leftS kind stock st sku.data.toList)) ∧ Below w.heap.size w w' := by
  have hu : used st.gs sku.data.toList ≤ 1000000000 := Int.le_trans (g.le _) hst.2
  have HQ := Lib.hid (show ∀ o s q, (o, s, q) ∈ st.gs → 1 ≤ q from fun a s q hx => (g.gs a s q hx).2.2.1)
  have HP := Lib.hid h
  clear h
  obtain ⟨p0, p1, p2, p3, p4, p5⟩ := cell6 HP.out.hd
  by_cases hk : kind = 1
  · have hb : (kind != 1) = false := by rw [hk]; rfl
    have hmc := may_check sku.data.toList
    have HC := Lib.hid (fun W => refOCheck_any W 1 1 1 sku (by omega) (by omega) (by omega) hs)
    have HF := Lib.hid (show leftS kind stock st sku.data.toList = if checkI sku.data.toList = 0 then stock - used st.gs sku.data.toList else 0 by unfold leftS; rw [hmc]; simp [hk])
    clear hk hmc
    go_enter Tryd.func21, Tryd.ntmps21
    go_wp2_with fail
    refine (HC.out _).mono ?_
    rintro e w1 ⟨rfl, hb1⟩
    have HP1 := Lib.hid (HP.out.below hb1)
    by_cases hc : checkI sku.data.toList = 0
    · have HF' := Lib.hid (HF.out.trans (if_pos hc))
      have hcb : (checkI sku.data.toList != 0) = false := by rw [hc]; rfl
      clear hc HF p0 p1 p2 p3 p4 p5
      go_wp2_with fail
      refine (refLeft_any w1 B r kind stock limit seq vl vg st.rows st.gs sku HP1.out (by omega) hst HQ.out hu).mono ?_
      rintro e w2 ⟨rfl, hw⟩; subst hw
      go_wp2_with fail
      go_ret
      exact ⟨by rw [HF'.out]; rfl, hb1⟩
    · have HF' := Lib.hid (HF.out.trans (if_neg hc))
      have hcb : (checkI sku.data.toList != 0) = true := bneT hc
      clear hc HF p0 p1 p2 p3 p4 p5
      go_wp2_with fail
      go_ret
      exact ⟨by rw [HF'.out]; rfl, hb1⟩
  · have hb : (kind != 1) = true := bneT hk
    have HF := Lib.hid (show leftS kind stock st sku.data.toList = 0 by unfold leftS; rw [if_neg (fun h => hk h.1)])
    clear hk
    go_enter Tryd.func21, Tryd.ntmps21
    go_wp2_with fail
    go_ret
    exact ⟨by rw [HF.out]; rfl, Below.refl _ _⟩

theorem own_ne_map {P : Program} {k : TypeId} {κ α : Type} {mkK : κ → Value} {mkV : α → Value} {w : World} {B z n b : Nat} {e : TypeId} {v : Value} {xs : List Value} {E : List (κ × α)} (h : w.ownsRow B e z v n xs) (hm : MapL P k mkK mkV w b E) : ∀ j, v.ownBlock = some j → j ≠ b := by
  intro j hj
  rcases h.2 with ⟨rfl, _⟩ | ⟨g, cap, cur, rfl, _, hg, _⟩
  · cases hj
  · simp only [Value.ownBlock, Option.some.injEq] at hj
    subst hj
    exact map_ne hm hg
theorem RP.weak {w : World} {B B' r : Nat} {kind stock limit seq : Int} {vl vg : Value} {L : List R5} {G : List G3} (h : RP w B r kind stock limit seq vl vg L G) (hB : B' ≤ B) : RP w B' r kind stock limit seq vl vg L G := ⟨h.hd, own_weak h.rl hB, own_weak h.rg hB, Nat.le_trans hB h.lo⟩

/-- The program's party, and the document's. -/
structure Bo (w wr : World) (p bk tk wh r : Nat) (kind stock limit seq seq2 : Int) (m m2 : Nat) (st st2 : St) : Prop where
  pl : Pl w wr p bk tk wh kind stock limit seq m st
  rp : ∃ vl vg, RP wr w.heap.size r kind stock limit seq2 vl vg st2.rows st2.gs
  g2 : Pa.Good kind stock st2
  ln2 : st2.rows.length ≤ 2 * m2
  gn2 : st2.gs.length ≤ m2
  kd : 0 ≤ kind ∧ kind ≤ 2
theorem Bo.keep {w wr W : World} {p bk tk wh r m m2 : Nat} {kind stock limit seq seq2 : Int} {st st2 : St} (h : Bo w wr p bk tk wh r kind stock limit seq seq2 m m2 st st2) (hb : Below wr.heap.size wr W) : Bo w W p bk tk wh r kind stock limit seq seq2 m m2 st st2 := by
  obtain ⟨vl, vg, hr⟩ := h.rp
  exact ⟨h.pl.keep hb, ⟨vl, vg, hr.below hb⟩, h.g2, h.ln2, h.gn2, h.kd⟩
theorem Bo.ne {w wr : World} {p bk tk wh r m m2 : Nat} {kind stock limit seq seq2 : Int} {st st2 : St} (h : Bo w wr p bk tk wh r kind stock limit seq seq2 m m2 st st2) : r ≠ p ∧ r ≠ bk ∧ r ≠ tk ∧ r ≠ wh := by
  obtain ⟨vl, vg, hr⟩ := h.rp
  obtain ⟨T, ht, _⟩ := h.pl.pa.taken
  obtain ⟨W, hw, _⟩ := h.pl.pa.what
  refine ⟨fun e => ?_, map_ne h.pl.pa.book hr.hd, map_ne ht hr.hd, map_ne hw hr.hd⟩
  subst e
  have h1 := h.pl.pa.hd
  rw [hr.hd] at h1
  injection h1 with h1
  injection h1 with _ h1
  exact absurd h1 (by decide)
theorem Bo.rpP {w wr W : World} {p bk tk wh r m m2 : Nat} {kind stock limit seq seq2 : Int} {st st2 : St} (h : Bo w wr p bk tk wh r kind stock limit seq seq2 m m2 st st2) (ht : Turned (fun i => i = p ∨ i = bk ∨ i = tk ∨ i = wh) wr W) : ∃ vl vg, RP W w.heap.size r kind stock limit seq2 vl vg st2.rows st2.gs := by
  have hn := h.ne
  obtain ⟨vl, vg, hr⟩ := h.rp
  obtain ⟨T, hT, _⟩ := h.pl.pa.taken
  obtain ⟨U, hU, _⟩ := h.pl.pa.what
  refine ⟨vl, vg, hr.turn ht (by show ¬ (r = p ∨ r = bk ∨ r = tk ∨ r = wh); omega) (fun j hj e => ?_) (fun j hj e => ?_)⟩
  · rcases e with e | e | e | e
    · exact own_apart_blk hr.rl h.pl.pa.hd (by decide) j hj e
    · exact own_ne_map hr.rl h.pl.pa.book j hj e
    · exact own_ne_map hr.rl hT j hj e
    · exact own_ne_map hr.rl hU j hj e
  · rcases e with e | e | e | e
    · exact own_apart_blk hr.rg h.pl.pa.hd (by decide) j hj e
    · exact own_ne_map hr.rg h.pl.pa.book j hj e
    · exact own_ne_map hr.rg hT j hj e
    · exact own_ne_map hr.rg hU j hj e
theorem Bo.lt {w wr : World} {p bk tk wh r m m2 : Nat} {kind stock limit seq seq2 : Int} {st st2 : St} (h : Bo w wr p bk tk wh r kind stock limit seq seq2 m m2 st st2) : r < wr.heap.size ∧ w.heap.size ≤ r := by
  obtain ⟨vl, vg, hr⟩ := h.rp
  exact ⟨heap_lt hr.hd, hr.lo⟩
/-- What is new turns nothing. -/
theorem Bo.fresh {w wr W : World} {p bk tk wh r m m2 : Nat} {kind stock limit seq seq2 : Int} {st st2 : St} (h : Bo w wr p bk tk wh r kind stock limit seq seq2 m m2 st st2) (ht : Turned (fun i => wr.heap.size ≤ i) wr W) : Bo w W p bk tk wh r kind stock limit seq seq2 m m2 st st2 := by
  have hl := h.pl.pa.lt
  have hr' := h.lt
  have hs := h.pl.below.size
  obtain ⟨vl, vg, hr⟩ := h.rp
  exact ⟨h.pl.turn ht (fun i hi => by have : wr.heap.size ≤ i := hi; omega) (by show ¬ wr.heap.size ≤ _; omega) (by show ¬ wr.heap.size ≤ _; omega) (by show ¬ wr.heap.size ≤ _; omega) (by show ¬ wr.heap.size ≤ _; omega), ⟨vl, vg, hr.turn ht (by show ¬ wr.heap.size ≤ _; omega) (fun j hj e => by have h1 : wr.heap.size ≤ j := e; have := (hr.rl.lt j hj).2; omega) (fun j hj e => by have h1 : wr.heap.size ≤ j := e; have := (hr.rg.lt j hj).2; omega)⟩, h.g2, h.ln2, h.gn2, h.kd⟩
theorem Bo.tellP {w wr : World} {p bk tk wh r m m2 : Nat} {kind stock limit seq seq2 : Int} {st st2 : St} (h : Bo w wr p bk tk wh r kind stock limit seq seq2 m m2 st st2) (hm : m ≤ 1000) (x : Msg6) (hs : x.2.2.1.length ≤ 50) {a0 a1 a2 a6 : Int} {ok : Bool} (hsh : ansM x.2.1.1 x.2.1.2 (ansS kind stock limit st (msOf x)) = .agg #[.int .i64 a0, .int .i64 a1, .int .i64 a2, .string ⟨#[]⟩, .int .i64 0, .int .i64 0, .int .i64 a6]) (hok : (ansS kind stock limit st (msOf x)).isSome = ok) :
    Calls Tryd.prog 13 #[.pointer (some ⟨p, 0, none⟩), .agg #[.int .i64 x.1, .int .i64 x.2.1.1, .int .i64 x.2.1.2, .string ⟨x.2.2.1.toArray⟩, .int .i64 x.2.2.2.1, .int .i64 x.2.2.2.2.1, .int .i64 x.2.2.2.2.2]] wr fun e w' => e = .returned (.tuple #[.agg #[.int .i64 a0, .int .i64 a1, .int .i64 a2, .string ⟨#[]⟩, .int .i64 0, .int .i64 0, .int .i64 a6], .bool ok]) ∧ Bo w w' p bk tk wh r kind stock limit seq seq2 (m + 1) m2 (askS kind stock limit st (msOf x)) st2 := by
  refine (h.pl.tell hm x hs hsh hok).mono ?_
  rintro e w' ⟨rfl, hp, ht⟩
  exact ⟨rfl, hp, h.rpP (ht.mono fun _ h => .inr h), h.g2, h.ln2, h.gn2, h.kd⟩
theorem Bo.tellR {w wr : World} {p bk tk wh r m m2 : Nat} {kind stock limit seq seq2 : Int} {st st2 : St} (h : Bo w wr p bk tk wh r kind stock limit seq seq2 m m2 st st2) (hm : m2 ≤ 1000) (x : Msg6) (hs : x.2.2.1.length ≤ 50) (hd : Mon.InR x.2.1.2) {a0 a1 a2 a6 : Int} {ok : Bool} (hsh : ansM x.2.1.1 x.2.1.2 (ansS kind stock limit st2 (msOf x)) = .agg #[.int .i64 a0, .int .i64 a1, .int .i64 a2, .string ⟨#[]⟩, .int .i64 0, .int .i64 0, .int .i64 a6]) (hok : (ansS kind stock limit st2 (msOf x)).isSome = ok) :
    Calls Tryd.prog 14 #[.pointer (some ⟨r, 0, none⟩), .agg #[.int .i64 x.1, .int .i64 x.2.1.1, .int .i64 x.2.1.2, .string ⟨x.2.2.1.toArray⟩, .int .i64 x.2.2.2.1, .int .i64 x.2.2.2.2.1, .int .i64 x.2.2.2.2.2]] wr fun e w' => e = .returned (.tuple #[.agg #[.int .i64 a0, .int .i64 a1, .int .i64 a2, .string ⟨#[]⟩, .int .i64 0, .int .i64 0, .int .i64 a6], .bool ok]) ∧ Bo w w' p bk tk wh r kind stock limit seq seq2 m (m2 + 1) st (askS kind stock limit st2 (msOf x)) ∧ Turned (fun i => i = r) wr w' := by
  have hn := h.ne
  have hln := h.ln2
  have hgn := h.gn2
  obtain ⟨vl, vg, hr⟩ := h.rp
  have hlo := hr.lo
  refine (refAsk_any wr w.heap.size r kind stock limit seq2 vl vg st2 x.1 x.2.1.1 x.2.1.2 ⟨x.2.2.1.toArray⟩ x.2.2.2.1 x.2.2.2.2.1 x.2.2.2.2.2 hr h.g2 (by show x.2.2.1.toArray.size ≤ _; simp; omega) hd (by omega) (by omega) h.pl.below.size h.pl.sb h.kd).mono ?_
  rintro e w' ⟨rfl, ht, hp⟩
  refine ⟨by
    show Ending.returned (.tuple #[ansM x.2.1.1 x.2.1.2 (ansS kind stock limit st2 (msOf x)), .bool (ansS kind stock limit st2 (msOf x)).isSome]) = _
    rw [hsh, hok], ⟨h.pl.turn ht (fun i hi => by have : i = r := hi; omega) (fun e => hn.1 e.symm) (fun e => hn.2.1 e.symm) (fun e => hn.2.2.1 e.symm) (fun e => hn.2.2.2 e.symm), hp, Pa.Good.ask h.g2 _, ?_, ?_, h.kd⟩, ht⟩
  · have := ask_len kind stock limit st2 (msOf x); omega
  · have := ask_gs kind stock limit st2 (msOf x); omega
theorem Bo.statP {w wr : World} {p bk tk wh r m m2 : Nat} {kind stock limit seq seq2 : Int} {st st2 : St} (h : Bo w wr p bk tk wh r kind stock limit seq seq2 m m2 st st2) (hm : m ≤ 1000) (hsq : 0 ≤ seq ∧ seq < 100000) :
    Calls Tryd.prog 18 #[.pointer (some ⟨p, 0, none⟩)] wr fun e w' => ∃ v, e = .returned (.agg #[.int .i64 kind, .int .i64 (seq + 1), v]) ∧ w'.ownsRow wr.heap.size tRow 5 v st.rows.length (st.rows.flatMap encR) ∧ Bo w w' p bk tk wh r kind stock limit (seq + 1) seq2 m m2 st st2 := by
  refine (h.pl.stat hm hsq).mono ?_
  rintro e w' ⟨v, rfl, ho, hp, ht⟩
  exact ⟨v, rfl, ho, hp, h.rpP (ht.mono fun _ h => .inl h), h.g2, h.ln2, h.gn2, h.kd⟩
theorem Bo.statR {w wr : World} {p bk tk wh r m m2 : Nat} {kind stock limit seq seq2 : Int} {st st2 : St} (h : Bo w wr p bk tk wh r kind stock limit seq seq2 m m2 st st2) (hm : m2 ≤ 1000) (hsq : 0 ≤ seq2 ∧ seq2 < 100000) :
    Calls Tryd.prog 19 #[.pointer (some ⟨r, 0, none⟩)] wr fun e w' => ∃ v, e = .returned (.agg #[.int .i64 kind, .int .i64 (seq2 + 1), v]) ∧ w'.ownsRow wr.heap.size tRow 5 v st2.rows.length (st2.rows.flatMap encR) ∧ Bo w w' p bk tk wh r kind stock limit seq (seq2 + 1) m m2 st st2 ∧ Turned (fun i => i = r) wr w' := by
  have hn := h.ne
  have hln := h.ln2
  obtain ⟨vl, vg, hr⟩ := h.rp
  have hlo := hr.lo
  refine (refStat_any wr w.heap.size r kind stock limit seq2 vl vg st2.rows st2.gs hr (by omega) h.pl.below.size hsq).mono ?_
  rintro e w' ⟨v, rfl, ho, ht, hp⟩
  exact ⟨v, rfl, ho, ⟨h.pl.turn ht (fun i hi => by have : i = r := hi; omega) (fun e => hn.1 e.symm) (fun e => hn.2.1 e.symm) (fun e => hn.2.2.1 e.symm) (fun e => hn.2.2.2 e.symm), ⟨vl, vg, hp⟩, h.g2, h.ln2, h.gn2, h.kd⟩, ht⟩
theorem Bo.leftR {w wr : World} {p bk tk wh r m m2 : Nat} {kind stock limit seq seq2 : Int} {st st2 : St} (h : Bo w wr p bk tk wh r kind stock limit seq seq2 m m2 st st2) (hm : m2 ≤ 1000) (sku : ByteArray) (hs : sku.size ≤ 1000000000000) :
    Calls Tryd.prog 21 #[.pointer (some ⟨r, 0, none⟩), .string sku] wr fun e w' => e = .returned (.int .i64 (leftS kind stock st2 sku.data.toList)) ∧ Below wr.heap.size wr w' := by
  have hgn := h.gn2
  obtain ⟨vl, vg, hr⟩ := h.rp
  exact lawLeft_any wr w.heap.size r kind stock limit seq2 vl vg st2 sku hr h.g2 hs (by omega) h.pl.sb
end Go.Proofs.YtkmpagijdhhinaaDoor

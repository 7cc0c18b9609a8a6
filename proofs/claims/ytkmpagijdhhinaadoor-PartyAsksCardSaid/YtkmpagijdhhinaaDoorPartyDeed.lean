/- A party's do and undo, where what always holds holds. -/
import Derived.Test.YtkmpagijdhhinaaDoorPartyGood
import Derived.Test.YtkmpagijdhhinaaDoorPartyDo2
import Derived.Test.YtkmpagijdhhinaaDoorPartyUndo
namespace Go.Proofs.YtkmpagijdhhinaaDoor
open Go.RowKit Go.Maps Key Od Pa

theorem do_any (w : World) (p bk tk wh : Nat) (kind stock limit seq : Int) (m : Nat) (st : St) (o d : Int) (sku : ByteArray) (qty amt : Int) (h : PA w p bk tk wh kind stock limit seq m st) (g : Pa.Good kind stock st) (hst : 0 ≤ stock ∧ stock ≤ 1000000000) (hn : st.rows.length < 90000) (hm : m < 90000)
    (hmay : (⟨kind, o, d, sku.data.toList, qty, amt, 0⟩ : Ms).may = true) (hd : d < 3) (hf : findR st.rows (o, d) = none) :
    Calls Tryd.prog 32 #[.pointer (some ⟨p, 0, none⟩), .agg #[.int .i64 kind, .int .i64 o, .int .i64 d, .string sku, .int .i64 qty, .int .i64 amt, .int .i64 0]] w fun e w' => e = .returned (.tuple #[]) ∧ PA w' p bk tk wh kind stock limit seq (m + 1) (doS kind stock limit st ⟨kind, o, d, sku.data.toList, qty, amt, 0⟩) ∧ Turned (fun i => i = bk ∨ i = tk ∨ i = wh) w w' := by
  obtain ⟨hc, hp, _, hq⟩ := may_says hmay rfl
  simp only [] at hc hp hq
  have hb := chk_iff.1 hc
  have hnew := find_none hf
  have hd3 : d = 0 ∨ d = 1 ∨ d = 2 := by omega
  rcases hd3 with rfl | rfl | rfl
  · obtain rfl : kind = 1 := by rw [← hp]; rfl
    rcases hq with ⟨hq, _⟩ | ⟨_, h1, h2, h3, h4⟩
    · exact absurd hq (by decide)
    · refine do_store w p bk tk wh stock limit seq m st 1 o sku qty amt 0 h (by omega) (by omega) hc hnew (fun t ht => ?_) (by simpa using h4) ⟨used_nonneg (fun a s q hx => (g.gs a s q hx).2.2.1) _, Int.le_trans (g.le _) hst.2⟩ hst ⟨by omega, h3⟩
      obtain ⟨_, q, hr, _⟩ := g.rs o t ht
      exact hnew _ hr rfl
  · obtain rfl : kind = 0 := by rw [← hp]; rfl
    exact do_pay w p bk tk wh stock limit seq m st 0 o sku qty amt 0 h (by omega) hc hnew
  · obtain rfl : kind = 2 := by rw [← hp]; rfl
    exact do_carry w p bk tk wh stock limit seq m st 2 o sku qty amt 0 h (by omega) hc hnew

theorem undo_any (w : World) (p bk tk wh : Nat) (kind stock limit seq : Int) (m : Nat) (st : St) (o d : Int) (sku : List UInt8) (qty amt : Int) (h : PA w p bk tk wh kind stock limit seq m st) (g : Pa.Good kind stock st) (hst : 0 ≤ stock ∧ stock ≤ 1000000000) (hn : st.rows.length < 80000) (hm : m < 90000)
    (hmay : (⟨kind, o, d, sku, qty, amt, 0⟩ : Ms).may = true) (hd : 3 ≤ d) (hf : findR st.rows (o, d) = none) :
    Calls Tryd.prog 31 #[.pointer (some ⟨p, 0, none⟩), .agg #[.int .i64 o, .int .i64 d], .agg #[.int .i64 o, .int .i64 (d - 3)]] w fun e w' => e = .returned (.tuple #[]) ∧ PA w' p bk tk wh kind stock limit seq (m + 1) (undoS kind st ⟨kind, o, d, sku, qty, amt, 0⟩) ∧ Turned (fun i => i = bk ∨ i = tk ∨ i = wh) w w' := by
  obtain ⟨hc, hp, _, hq⟩ := may_says hmay rfl
  simp only [] at hc hp hq
  have hb := chk_iff.1 hc
  obtain ⟨hc3, hp3⟩ := party_undo hc hd
  have hnew := find_none hf
  have hrow : ∀ s, (o, s) ∈ st.rs → ∃ q, findR st.rows (o, 0) = some ((o, 0), 1, 0, q) ∧ (d = 3 → (o, s, q) ∈ st.gs) := fun s hs => by
    obtain ⟨_, q, hr, hx⟩ := g.rs o s hs
    refine ⟨q, find_of g.rise hr, fun e => ?_⟩
    rcases hx with hx | ⟨x, hx, e2⟩
    · exact hx
    · exact absurd e2 (by subst e; exact hnew x hx)
  by_cases hh : d = 3 ∧ ∃ s, (o, s) ∈ st.rs
  · obtain ⟨rfl, s, hs⟩ := hh
    obtain rfl : kind = 1 := by rw [← hp]; rfl
    obtain ⟨q, hx, hgs⟩ := hrow s hs
    have hgs := hgs rfl
    obtain ⟨_, h8, hq1, hq2, _⟩ := g.gs o s q hgs
    exact undo_held w p bk tk wh 1 stock limit seq m st 1 o 3 sku qty amt 0 _ h (by omega) (by omega) hc hc3 hnew g.rise hx s h8 hs (fun t ht => g.rsu o t s ht hs) rfl rfl (fun t => free_used g.gsu hgs t) ⟨used_nonneg (fun a s q hx => (g.gs a s q hx).2.2.1) _, Int.le_trans (g.le _) hst.2⟩ ⟨by simp only []; omega, by simp only []; omega⟩
  · have hno : ∀ t, d = 3 → (o, t) ∉ st.rs := fun t e ht => hh ⟨e, t, ht⟩
    have hfr : kind = 1 → freeG st.gs o = st.gs := fun hk => by
      subst hk
      have hd3 : d = 3 := by
        have := (party_rel hc).1.1 hp
        omega
      exact free_none fun s q hx => hno s hd3 (g.gs o s q hx).1
    cases hx : findR st.rows (o, d - 3) with
    | some x => exact undo_row w p bk tk wh kind stock limit seq m st kind o d sku qty amt 0 x h (by omega) hc hc3 hnew g.rise hx hno hfr
    | none => exact undo_none w p bk tk wh kind stock limit seq m st kind o d sku qty amt 0 h (by omega) hc hc3 hnew g.rise hx hno hfr
end Go.Proofs.YtkmpagijdhhinaaDoor

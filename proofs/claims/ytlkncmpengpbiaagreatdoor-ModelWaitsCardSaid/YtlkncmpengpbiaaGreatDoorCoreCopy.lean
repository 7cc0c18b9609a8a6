/- A model, plain: a core, what waits, the tick; what becomes of it. No Go is in sight. -/
import Derived.Test.YtlkncmpengpbiaaGreatDoorCoreAsks
import Derived.Test.YtlkncmpengpbiaaGreatDoorCoreCame
import Derived.Test.YtlkncmpengpbiaaGreatDoorWaitsPure
import Derived.Test.YtlkncmpengpbiaaGreatDoorIntakeNet
import Derived.Test.YtlkncmpengpbiaaGreatDoorKeyTab
import Derived.Test.YtlkncmpengpbiaaGreatDoorCoreBase
import Derived.Deep.RegionWith
import Derived.Test.YtlkncmpengpbiaaGreatDoorCorePt
import Derived.Test.YtlkncmpengpbiaaGreatDoorShelf
import Derived.Test.YtlkncmpengpbiaaGreatDoorShort
namespace Go.Proofs.YtlkncmpengpbiaaGreatDoor
open Key Sa Co Od

namespace Mo
open Wa
def lessK (x y : Int × Int) : Prop := lessB x.1 x.2 y.1 y.2 = true
theorem lessK_asym {x y : Int × Int} (h : lessK x y) : ¬ lessK y x := by unfold lessK lessB at *; simp at *; omega
theorem lessK_ne {x y : Int × Int} (h : lessK x y) : x ≠ y := fun e => by subst e; exact lessK_asym h h
/-- Two rising lists of the same keys are the same. -/
theorem rising_ext {L M : List (Int × Int)} (hL : L.Pairwise lessK) (hM : M.Pairwise lessK) (h : ∀ k, k ∈ L ↔ k ∈ M) : L = M := by
  have hn : ∀ {l : List (Int × Int)}, l.Pairwise lessK → l.Nodup := fun h => h.imp fun h => lessK_ne h
  have hp : L.Perm M := (List.perm_ext_iff_of_nodup (hn hL) (hn hM)).2 h
  exact List.Perm.eq_of_pairwise (le := lessK) (fun _ _ _ _ h1 h2 => absurd h2 (lessK_asym h1)) hL hM hp
def ks (W : List W5) : List (Int × Int) := W.map (·.1)
theorem Good.ks {W : List W5} (h : Wa.Good W) : (ks W).Pairwise lessK := by
  unfold Mo.ks
  rw [List.pairwise_map]
  exact h.srt.imp fun h => h
theorem mem_ks {W : List W5} {k : Int × Int} : k ∈ ks W ↔ ∃ x ∈ W, x.1 = k := by unfold ks; exact List.mem_map
theorem ks_stop {W : List W5} {j k : Int × Int} : k ∈ ks (stopW W j) ↔ k ∈ ks W ∧ k ≠ j := by
  rw [mem_ks, mem_ks]
  constructor
  · rintro ⟨x, hx, rfl⟩; obtain ⟨h1, h2⟩ := mem_stop.1 hx; exact ⟨⟨x, h1, rfl⟩, h2⟩
  · rintro ⟨⟨x, hx, rfl⟩, h⟩; exact ⟨x, mem_stop.2 ⟨hx, h⟩, rfl⟩
theorem ks_put {W : List W5} {x : W5} (hc : chkB x.1 = true) {k : Int × Int} : k ∈ ks (putW W x) ↔ k = x.1 ∨ k ∈ ks W := by
  unfold putW
  rw [if_pos hc, mem_ks]
  constructor
  · rintro ⟨y, hy, rfl⟩
    rcases mem_place.1 hy with rfl | hy
    · exact .inl rfl
    · exact .inr (mem_ks.2 ⟨y, (mem_stop.1 hy).1, rfl⟩)
  · intro h
    by_cases hk : k = x.1
    · exact ⟨x, mem_place.2 (.inl rfl), hk.symm⟩
    · obtain ⟨y, hy, rfl⟩ := mem_ks.1 (h.resolve_left hk)
      exact ⟨y, mem_place.2 (.inr (mem_stop.2 ⟨hy, hk⟩)), rfl⟩
theorem ks_start {W : List W5} {j : Int × Int} (hc : chkB j = true) (now : Int) {k : Int × Int} : k ∈ ks (startW W j now) ↔ k = j ∨ k ∈ ks W := ks_put (x := (j, 1, nearI now + 1, false)) hc
theorem ks_due {W : List W5} {j : Int × Int} (hc : chkB j = true) (now : Int) {k : Int × Int} : k ∈ ks (dueW W j now) ↔ k = j ∨ k ∈ ks W := ks_put (x := (j, 0, nearI now, false)) hc
theorem ks_tick (W : List W5) (now : Int) : ks (tickW W now) = ks W := by
  unfold ks tickW; rw [List.map_map]; congr 1; funext x; exact tick_key _ _
theorem told_ks {W : List W5} {now : Int} {k : Int × Int} (h : k ∈ toldW W now) : k ∈ ks W := by
  unfold toldW at h
  obtain ⟨x, hx, rfl⟩ := List.mem_map.1 h
  exact mem_ks.2 ⟨x, (List.mem_filter.1 hx).1, rfl⟩
def startL (W : List W5) (K : List (Int × Int)) (now : Int) : List W5 := K.foldl (fun W k => startW W k now) W
def dueL (W : List W5) (K : List (Int × Int)) : List W5 := K.foldl (fun W k => dueW W k 0) W
def stopL (W : List W5) (K : List (Int × Int)) : List W5 := K.foldl stopW W
theorem startL_snoc (W : List W5) (K : List (Int × Int)) (k : Int × Int) (now : Int) : startL W (K ++ [k]) now = startW (startL W K now) k now := by unfold startL; rw [List.foldl_append]; rfl
theorem dueL_snoc (W : List W5) (K : List (Int × Int)) (k : Int × Int) : dueL W (K ++ [k]) = dueW (dueL W K) k 0 := by unfold dueL; rw [List.foldl_append]; rfl
theorem stopL_snoc (W : List W5) (K : List (Int × Int)) (k : Int × Int) : stopL W (K ++ [k]) = stopW (stopL W K) k := by unfold stopL; rw [List.foldl_append]; rfl
theorem startL_good (now : Int) : ∀ (K : List (Int × Int)) {W : List W5}, Wa.Good W → Wa.Good (startL W K now)
  | [], _, h => h
  | k :: K, _, h => startL_good now K (h.start k now)
theorem dueL_good : ∀ (K : List (Int × Int)) {W : List W5}, Wa.Good W → Wa.Good (dueL W K)
  | [], _, h => h
  | k :: K, _, h => dueL_good K (h.due k 0)
theorem stopL_good : ∀ (K : List (Int × Int)) {W : List W5}, Wa.Good W → Wa.Good (stopL W K)
  | [], _, h => h
  | k :: K, _, h => stopL_good K (h.stop k)
theorem ks_startL (now : Int) : ∀ (K : List (Int × Int)) (W : List W5), (∀ k ∈ K, chkB k = true) → ∀ k, k ∈ ks (startL W K now) ↔ k ∈ K ∨ k ∈ ks W
  | [], W, _, k => by simp [startL]
  | j :: K, W, h, k => by
    show k ∈ ks (startL (startW W j now) K now) ↔ _
    rw [ks_startL now K _ (fun x hx => h x (List.mem_cons_of_mem _ hx)), ks_start (h j (List.mem_cons_self ..)), List.mem_cons]
    constructor
    · rintro (h | h | h)
      · exact .inl (.inr h)
      · exact .inl (.inl h)
      · exact .inr h
    · rintro ((h | h) | h)
      · exact .inr (.inl h)
      · exact .inl h
      · exact .inr (.inr h)
theorem ks_dueL : ∀ (K : List (Int × Int)) (W : List W5), (∀ k ∈ K, chkB k = true) → ∀ k, k ∈ ks (dueL W K) ↔ k ∈ K ∨ k ∈ ks W
  | [], W, _, k => by simp [dueL]
  | j :: K, W, h, k => by
    show k ∈ ks (dueL (dueW W j 0) K) ↔ _
    rw [ks_dueL K _ (fun x hx => h x (List.mem_cons_of_mem _ hx)), ks_due (h j (List.mem_cons_self ..)), List.mem_cons]
    constructor
    · rintro (h | h | h)
      · exact .inl (.inr h)
      · exact .inl (.inl h)
      · exact .inr h
    · rintro ((h | h) | h)
      · exact .inr (.inl h)
      · exact .inl h
      · exact .inr (.inr h)
theorem stopL_eq : ∀ (K : List (Int × Int)) (W : List W5), stopL W K = W.filter fun x => decide (x.1 ∉ K)
  | [], W => by
    show W = _
    exact (List.filter_eq_self.2 (fun x _ => by simp)).symm
  | k :: K, W => by
    show stopL (stopW W k) K = _
    rw [stopL_eq K]
    unfold stopW
    rw [List.filter_filter]
    congr 1
    funext x
    simp [List.mem_cons, Bool.and_comm]
theorem stopL_perm {K K' : List (Int × Int)} (h : K.Perm K') (W : List W5) : stopL W K = stopL W K' := by
  rw [stopL_eq, stopL_eq]
  congr 1
  funext x
  simp [h.mem_iff]
theorem ks_stopL (K : List (Int × Int)) (W : List W5) (k : Int × Int) : k ∈ ks (stopL W K) ↔ k ∈ ks W ∧ k ∉ K := by
  rw [stopL_eq, mem_ks, mem_ks]
  constructor
  · rintro ⟨x, hx, rfl⟩
    obtain ⟨h1, h2⟩ := List.mem_filter.1 hx
    exact ⟨⟨x, h1, rfl⟩, by simpa using h2⟩
  · rintro ⟨⟨x, hx, rfl⟩, h⟩
    exact ⟨x, List.mem_filter.2 ⟨hx, by simpa using h⟩, rfl⟩
/-- What is asked for anew, what no more. -/
def news (A A' : List (Int × Int)) : List (Int × Int) := A'.filter fun k => decide (k ∉ A)
def olds (A A' : List (Int × Int)) : List (Int × Int) := A.filter fun k => decide (k ∉ A')
def planL (A : List (Int × Int)) (p : Int) : List (Int × Int) := A.filter fun k => decide (partyI k.2 = p)
structure Mod where
  c : Cor
  w : List W5
  now : Int
def doE (m : Mod) (e : Ent) : Int := applyE m.c e
def askC (c : Cor) : List (Int × Int) := asksI c.l
def stopped (m : Mod) (c' : Cor) : List W5 := stopL (startL m.w (news (askC m.c) (askC c')) m.now) (olds (askC m.c) (askC c'))
def doM (m : Mod) (e : Ent) : Mod := if applyE m.c e = 0 then
    ⟨applyC m.c e, (if e.kind = 4 then startL (stopped m (applyC m.c e)) (planL (askC (applyC m.c e)) e.s.1) m.now else stopped m (applyC m.c e)), m.now⟩ else m
/-- What is sent. -/
def doK (m : Mod) (e : Ent) : List (Int × Int) := if applyE m.c e = 0 then
    news (askC m.c) (askC (applyC m.c e)) ++ (if e.kind = 4 then planL (askC (applyC m.c e)) e.s.1 else []) else []
def ofM (c : Cor) : Mod := ⟨c, dueL [] (askC c), 0⟩
def tickM (m : Mod) : Mod := ⟨m.c, tickW m.w (m.now + 1), m.now + 1⟩
/-- What holds of a model: what waits is what the core asks for. -/
structure MoI (m : Mod) : Prop where
  g : Wa.Good m.w
  k : ks m.w = askC m.c
theorem asks_rising {c : Cor} (h : ∀ (k : Nat) s, c.l[k]? = some s → s.id = (k : Int) + 1) : (askC c).Pairwise lessK := by
  unfold askC asksI
  rw [List.pairwise_filterMap]
  rw [List.pairwise_iff_getElem]
  intro i j hi hj hij b hb b' hb'
  have h1 := h i _ (List.getElem?_eq_getElem hi)
  have h2 := h j _ (List.getElem?_eq_getElem hj)
  split at hb
  · split at hb'
    · injection hb with hb; injection hb' with hb'
      subst hb; subst hb'
      unfold lessK lessB
      simp only [decide_eq_true_eq]
      left
      omega
    · cases hb'
  · cases hb
theorem waits_six {s : Sg} (h : Sa.waitsB s = true) : 0 ≤ Sa.waitsN s ∧ Sa.waitsN s < 6 := by
  have hw : waitsI s ≠ 6 := by unfold Sa.waitsB at h; simpa using h
  unfold Sa.waitsN
  rw [if_neg hw]
  exact (waits_deed hw).1
theorem asks_chk {c : Cor} (h : CoH c) (hl : c.l.length ≤ 60) : ∀ k ∈ askC c, chkB k = true := by
  intro k hk
  unfold askC asksI at hk
  obtain ⟨s, hs, hk⟩ := List.mem_filterMap.1 hk
  obtain ⟨i, hi⟩ := List.getElem?_of_mem hs
  have hid := (h.at1 i s hi).1
  have hil := (List.getElem?_eq_some_iff.1 hi).1
  split at hk
  · rename_i hw
    injection hk with hk
    subst hk
    have := waits_six hw
    unfold chkB chk
    simp only [decide_eq_true_eq]
    omega
  · cases hk
theorem MoI.ofM {c : Cor} (h : CoH c) (hl : c.l.length ≤ 60) : MoI (ofM c) := by
  refine ⟨dueL_good _ Wa.Good.nil, ?_⟩
  refine rising_ext (Good.ks (dueL_good _ Wa.Good.nil)) (asks_rising fun k s hs => (h.at1 k s hs).1) fun k => ?_
  show k ∈ ks (dueL [] (askC c)) ↔ _
  rw [ks_dueL _ _ (asks_chk h hl)]
  simp [ks, Mo.ofM]
theorem MoI.tick {m : Mod} (h : MoI m) : MoI (tickM m) := ⟨h.g.tick _, by show ks (tickW m.w _) = _; rw [ks_tick]; exact h.k⟩
theorem MoI.stopped {m : Mod} (h : MoI m) {c' : Cor} (h' : CoH c') (hl : c'.l.length ≤ 60) : Wa.Good (Mo.stopped m c') ∧ ks (Mo.stopped m c') = askC c' := by
  have hg : Wa.Good (Mo.stopped m c') := stopL_good _ (startL_good _ _ h.g)
  have hc := asks_chk h' hl
  refine ⟨hg, rising_ext (Good.ks hg) (asks_rising fun k s hs => (h'.at1 k s hs).1) fun k => ?_⟩
  unfold Mo.stopped
  rw [ks_stopL, ks_startL m.now (news (askC m.c) (askC c')) m.w (fun x hx => hc x (List.mem_filter.1 hx).1), h.k]
  unfold news olds
  simp only [List.mem_filter, decide_eq_true_eq]
  by_cases h1 : k ∈ askC c' <;> by_cases h2 : k ∈ askC m.c <;> simp [h1, h2]
theorem MoI.doM {m : Mod} (h : MoI m) {e : Ent} (h' : CoH (applyC m.c e)) (hl : (applyC m.c e).l.length ≤ 60) : MoI (doM m e) := by
  unfold Mo.doM
  split
  · have hs := h.stopped h' hl
    by_cases h4 : e.kind = 4
    · simp only [h4, if_true]
      have hg := startL_good m.now (planL (askC (applyC m.c e)) e.s.1) hs.1
      refine ⟨hg, rising_ext (Good.ks hg) (asks_rising fun k s hs => (h'.at1 k s hs).1) fun k => ?_⟩
      show k ∈ ks (startL (Mo.stopped m (applyC m.c e)) (planL (askC (applyC m.c e)) e.s.1) m.now) ↔ _
      rw [ks_startL m.now (planL (askC (applyC m.c e)) e.s.1) _ (fun x hx => asks_chk h' hl x (List.mem_filter.1 hx).1), hs.2]
      unfold planL
      simp only [List.mem_filter]
      exact ⟨fun h => h.elim (fun h => h.1) id, .inr⟩
    · simp only [h4, if_false]
      exact ⟨hs.1, hs.2⟩
  · exact h
/-- Each message asks for one of these. -/
theorem sent_in {m : Mod} {e : Ent} : ∀ k ∈ doK m e, k ∈ askC (doM m e).c := by
  intro k hk
  unfold doK at hk
  unfold Mo.doM
  split at hk
  · rename_i h0
    rw [if_pos h0]
    rcases List.mem_append.1 hk with hk | hk
    · exact (List.mem_filter.1 hk).1
    · split at hk
      · exact (List.mem_filter.1 hk).1
      · cases hk
  · cases hk
end Mo
end Go.Proofs.YtlkncmpengpbiaaGreatDoor
/- orders.Msg: what a party is asked for, of any order that may be. -/
namespace Go.Proofs.YtlkncmpengpbiaaGreatDoor
open Go.RowKit Od Key

theorem cell7 {w : World} {b : Nat} {x0 x1 x2 x3 x4 x5 x6 : Value} {T : TypeId} (h : w.heap[b]? = some (.cells #[x0, x1, x2, x3, x4, x5, x6] T (0, 0))) : w.cell? ⟨b, 0, none⟩ = some x0 ∧ w.cell? ⟨b, 1, none⟩ = some x1 ∧ w.cell? ⟨b, 2, none⟩ = some x2 ∧ w.cell? ⟨b, 3, none⟩ = some x3 ∧ w.cell? ⟨b, 4, none⟩ = some x4 ∧ w.cell? ⟨b, 5, none⟩ = some x5 ∧ w.cell? ⟨b, 6, none⟩ = some x6 :=
  ⟨cell_at h 0 rfl, cell_at h 1 rfl, cell_at h 2 rfl, cell_at h 3 rfl, cell_at h 4 rfl, cell_at h 5 rfl, cell_at h 6 rfl⟩
theorem froz7 {w : World} {b : Nat} {cs : Array Value} {T : TypeId} (h : w.heap[b]? = some (.cells cs T (0, 0))) : w.frozen? ⟨b, 0, none⟩ = false ∧ w.frozen? ⟨b, 1, none⟩ = false ∧ w.frozen? ⟨b, 2, none⟩ = false ∧ w.frozen? ⟨b, 3, none⟩ = false ∧ w.frozen? ⟨b, 4, none⟩ = false ∧ w.frozen? ⟨b, 5, none⟩ = false ∧ w.frozen? ⟨b, 6, none⟩ = false := ⟨frozen_at h _, frozen_at h _, frozen_at h _, frozen_at h _, frozen_at h _, frozen_at h _, frozen_at h _⟩
abbrev set7w (w : World) (b : Nat) (p0 p1 p2 p3 p4 p5 p6 : Value) : World := ((((((w.setCell ⟨b, 0, none⟩ p0).setCell ⟨b, 1, none⟩ p1).setCell ⟨b, 2, none⟩ p2).setCell ⟨b, 3, none⟩ p3).setCell ⟨b, 4, none⟩ p4).setCell ⟨b, 5, none⟩ p5).setCell ⟨b, 6, none⟩ p6
theorem set7 {w : World} {b : Nat} {x0 x1 x2 x3 x4 x5 x6 : Value} {T : TypeId} (h : w.heap[b]? = some (.cells #[x0, x1, x2, x3, x4, x5, x6] T (0, 0))) (p0 p1 p2 p3 p4 p5 p6 : Value) :
    (set7w w b p0 p1 p2 p3 p4 p5 p6).heap[b]? = some (.cells #[p0, p1, p2, p3, p4, p5, p6] T (0, 0)) := by
  simp [set7w, World.setCell, Array.getElem?_modify, h]
theorem turned_set7 (w : World) (b : Nat) (p0 p1 p2 p3 p4 p5 p6 : Value) : Turned (fun j => j = b) w (set7w w b p0 p1 p2 p3 p4 p5 p6) :=
  ((((((turned_set w b 0 p0).trans (turned_set _ b 1 p1)).trans (turned_set _ b 2 p2)).trans (turned_set _ b 3 p3)).trans (turned_set _ b 4 p4)).trans (turned_set _ b 5 p5)).trans (turned_set _ b 6 p6)
abbrev M7 := Int × Int × Int × List UInt8 × Int × Int × Int
def msgV (m : M7) : Value := .agg #[.int .i64 m.1, .int .i64 m.2.1, .int .i64 m.2.2.1, .string ⟨m.2.2.2.1.toArray⟩, .int .i64 m.2.2.2.2.1, .int .i64 m.2.2.2.2.2.1, .int .i64 m.2.2.2.2.2.2]
def encM (m : M7) : List Value := [.int .i64 m.1, .int .i64 m.2.1, .int .i64 m.2.2.1, .string ⟨m.2.2.2.1.toArray⟩, .int .i64 m.2.2.2.2.1, .int .i64 m.2.2.2.2.2.1, .int .i64 m.2.2.2.2.2.2]
/-- What is asked of an order. -/
def msgO (id : Int) (s : List UInt8) (q a d : Int) : M7 := if partyI d = 0 then (0, id, d, [], 0, a, 0) else (partyI d, id, d, s, q, 0, 0)
set_option linter.unusedSimpArgs false in
set_option linter.unusedVariables false in
set_option maxRecDepth 100000 in
set_option maxHeartbeats 4000000 in
theorem oMsg_pay (w : World) (hT : PT w) (id qty amt d : Int) (r s : List UInt8) (hc : codeO id r s qty amt = 0) (hd : partyI d = 0) :
    Calls Tryz.prog 66 #[.agg #[.int .i64 id, .string ⟨r.toArray⟩, .string ⟨s.toArray⟩, .int .i64 qty, .int .i64 amt], .int .i64 d] w fun e w' => e = .returned (.agg #[.int .i64 0, .int .i64 id, .int .i64 d, .string ⟨#[]⟩, .int .i64 0, .int .i64 amt, .int .i64 0]) ∧ Below w.heap.size w w' := by
  have HM := Lib.hid (heap_keep (heap_new w (.cells #[.int .i64 id, .string ⟨r.toArray⟩, .string ⟨s.toArray⟩, .int .i64 qty, .int .i64 amt] 29)) (below_alloc _ (.cells #[.int .i64 0, .int .i64 0, .int .i64 0, .string ⟨#[]⟩, .int .i64 0, .int .i64 0, .int .i64 0] 55)))
  have hr1 := heap_new (w.alloc (.cells #[.int .i64 id, .string ⟨r.toArray⟩, .string ⟨s.toArray⟩, .int .i64 qty, .int .i64 amt] 29)) (.cells #[.int .i64 0, .int .i64 0, .int .i64 0, .string ⟨#[]⟩, .int .i64 0, .int .i64 0, .int .i64 0] 55)
  rw [show (w.alloc (.cells #[.int .i64 id, .string ⟨r.toArray⟩, .string ⟨s.toArray⟩, .int .i64 qty, .int .i64 amt] 29)).heap.size = w.heap.size + 1 by simp] at hr1
  have HZ := Lib.hid hr1
  have HB := Lib.hid ((below_alloc w (.cells #[.int .i64 id, .string ⟨r.toArray⟩, .string ⟨s.toArray⟩, .int .i64 qty, .int .i64 amt] 29)).alloc (by simp) (.cells #[.int .i64 0, .int .i64 0, .int .i64 0, .string ⟨#[]⟩, .int .i64 0, .int .i64 0, .int .i64 0] 55))
  have HC := Lib.hid (fun W => (ocheck_any W id qty amt r s).mono fun e w' h => (⟨by rw [h.1, hc], h.2⟩ : e = .returned (.int .i64 0) ∧ Below W.heap.size W w'))
  have HP := Lib.hid (fun W (hb : Below w.heap.size w W) => (party_any d W (hT.below hb)).mono (fun e w' h => (⟨by rw [h.1, hd], h.2⟩ : e = .returned (.int .i64 0) ∧ W = w')))
  
  clear hr1 hc hd hT
  go_enter Tryz.func66, Tryz.ntmps66
  go_wp2_with fail
  generalize (w.alloc (.cells #[.int .i64 id, .string ⟨r.toArray⟩, .string ⟨s.toArray⟩, .int .i64 qty, .int .i64 amt] 29)).alloc (.cells #[.int .i64 0, .int .i64 0, .int .i64 0, .string ⟨#[]⟩, .int .i64 0, .int .i64 0, .int .i64 0] 55) = wa at HM HZ HB ⊢
  refine (HP.out _ HB.out).mono ?_
  rintro e w1 ⟨rfl, hw⟩; subst hw
  obtain ⟨m0, m1, m2, m3, m4⟩ := cell5 HM.out
  go_wp2_with fail
  refine (HC.out _).mono ?_
  rintro e w1 ⟨rfl, hb⟩
  have HBb := Lib.hid (Below.alloc (bch HB.out hb HB.out.size) (Nat.le_trans HB.out.size hb.size) (.cells #[.int .i64 0, .int .i64 id, .int .i64 d, .string ⟨#[]⟩, .int .i64 0, .int .i64 0, .int .i64 0] 55))
  have HMb := Lib.hid (heap_keep (heap_keep HM.out hb) (below_alloc _ (.cells #[.int .i64 0, .int .i64 id, .int .i64 d, .string ⟨#[]⟩, .int .i64 0, .int .i64 0, .int .i64 0] 55)))
  have HZb := Lib.hid (heap_keep (heap_keep HZ.out hb) (below_alloc _ (.cells #[.int .i64 0, .int .i64 id, .int .i64 d, .string ⟨#[]⟩, .int .i64 0, .int .i64 0, .int .i64 0] 55)))
  have HLb := Lib.hid (heap_new w1 (.cells #[.int .i64 0, .int .i64 id, .int .i64 d, .string ⟨#[]⟩, .int .i64 0, .int .i64 0, .int .i64 0] 55))
  have hsz : w.heap.size + 1 < w1.heap.size := heap_lt (heap_keep HZ.out hb)
  obtain ⟨n0, n1, n2, n3, n4⟩ := cell5 (heap_keep HM.out hb)
  have HZw := Lib.hid (heap_keep HZ.out hb)
  have HMw := Lib.hid (heap_keep HM.out hb)
  have HB1 := Lib.hid (bch HB.out hb HB.out.size)
  obtain ⟨k0, k1, k2, k3, k4⟩ := cell5 HMb.out
  obtain ⟨z0, z1, z2, z3, z4, z5, z6⟩ := cell7 (heap_keep HZ.out hb)
  obtain ⟨f0, f1, f2, f3, f4, f5, f6⟩ := froz7 (heap_keep HZ.out hb)
  obtain ⟨y0, y1, y2, y3, y4, y5, y6⟩ := cell7 HZb.out
  obtain ⟨g0, g1, g2, g3, g4, g5, g6⟩ := froz7 HZb.out
  clear hb m0 m1 m2 m3 m4 HM HZ HB
  go_wp2_with fail
  have HT := turned_set7 w1 (w.heap.size + 1) (.int .i64 0) (.int .i64 id) (.int .i64 d) (.string ⟨#[]⟩) (.int .i64 0) (.int .i64 amt) (.int .i64 0)
  have HS := set7 HZw.out (.int .i64 0) (.int .i64 id) (.int .i64 d) (.string ⟨#[]⟩) (.int .i64 0) (.int .i64 amt) (.int .i64 0)
  unfold set7w at HS
  obtain ⟨r0, r1, r2, r3, r4, r5, r6⟩ := cell7 (heap_keep HS (below_alloc _ (.cells #[.int .i64 0, .int .i64 id, .int .i64 d, .string ⟨#[]⟩, .int .i64 0, .int .i64 amt, .int .i64 0] 55)))
  clear z0 z1 z2 z3 z4 z5 z6 f0 f1 f2 f3 f4 f5 f6 y0 y1 y2 y3 y4 y5 y6 g0 g1 g2 g3 g4 g5 g6 HS
  refine bodyPost_ret (v := .agg #[.int .i64 0, .int .i64 id, .int .i64 d, .string ⟨#[]⟩, .int .i64 0, .int .i64 amt, .int .i64 0]) ?_ rfl ⟨rfl, ?_⟩
  · simp [results, Tryz.results66, go_sem, r0, r1, r2, r3, r4, r5, r6]
  · exact Below.alloc (Below.turned HB1.out HT (fun i hi => by omega) HB1.out.size) (Nat.le_trans HB1.out.size HT.size) _
set_option linter.unusedSimpArgs false in
set_option linter.unusedVariables false in
set_option maxRecDepth 100000 in
set_option maxHeartbeats 4000000 in
theorem oMsg_goods (w : World) (hT : PT w) (id qty amt d t : Int) (r s : List UInt8) (hc : codeO id r s qty amt = 0) (hd : partyI d = t) (ht : 0 < t) :
    Calls Tryz.prog 66 #[.agg #[.int .i64 id, .string ⟨r.toArray⟩, .string ⟨s.toArray⟩, .int .i64 qty, .int .i64 amt], .int .i64 d] w fun e w' => e = .returned (.agg #[.int .i64 t, .int .i64 id, .int .i64 d, .string ⟨s.toArray⟩, .int .i64 qty, .int .i64 0, .int .i64 0]) ∧ Below w.heap.size w w' := by
  have HM := Lib.hid (heap_keep (heap_new w (.cells #[.int .i64 id, .string ⟨r.toArray⟩, .string ⟨s.toArray⟩, .int .i64 qty, .int .i64 amt] 29)) (below_alloc _ (.cells #[.int .i64 0, .int .i64 0, .int .i64 0, .string ⟨#[]⟩, .int .i64 0, .int .i64 0, .int .i64 0] 55)))
  have hr1 := heap_new (w.alloc (.cells #[.int .i64 id, .string ⟨r.toArray⟩, .string ⟨s.toArray⟩, .int .i64 qty, .int .i64 amt] 29)) (.cells #[.int .i64 0, .int .i64 0, .int .i64 0, .string ⟨#[]⟩, .int .i64 0, .int .i64 0, .int .i64 0] 55)
  rw [show (w.alloc (.cells #[.int .i64 id, .string ⟨r.toArray⟩, .string ⟨s.toArray⟩, .int .i64 qty, .int .i64 amt] 29)).heap.size = w.heap.size + 1 by simp] at hr1
  have HZ := Lib.hid hr1
  have HB := Lib.hid ((below_alloc w (.cells #[.int .i64 id, .string ⟨r.toArray⟩, .string ⟨s.toArray⟩, .int .i64 qty, .int .i64 amt] 29)).alloc (by simp) (.cells #[.int .i64 0, .int .i64 0, .int .i64 0, .string ⟨#[]⟩, .int .i64 0, .int .i64 0, .int .i64 0] 55))
  have HC := Lib.hid (fun W => (ocheck_any W id qty amt r s).mono fun e w' h => (⟨by rw [h.1, hc], h.2⟩ : e = .returned (.int .i64 0) ∧ Below W.heap.size W w'))
  have HP := Lib.hid (fun W (hb : Below w.heap.size w W) => (party_any d W (hT.below hb)).mono (fun e w' h => (⟨by rw [h.1, hd], h.2⟩ : e = .returned (.int .i64 t) ∧ W = w')))
  have htn := beqF (show ¬ t = 0 by omega)
  clear hr1 hc hd hT
  go_enter Tryz.func66, Tryz.ntmps66
  go_wp2_with fail
  generalize (w.alloc (.cells #[.int .i64 id, .string ⟨r.toArray⟩, .string ⟨s.toArray⟩, .int .i64 qty, .int .i64 amt] 29)).alloc (.cells #[.int .i64 0, .int .i64 0, .int .i64 0, .string ⟨#[]⟩, .int .i64 0, .int .i64 0, .int .i64 0] 55) = wa at HM HZ HB ⊢
  refine (HP.out _ HB.out).mono ?_
  rintro e w1 ⟨rfl, hw⟩; subst hw
  obtain ⟨m0, m1, m2, m3, m4⟩ := cell5 HM.out
  go_wp2_with fail
  refine (HC.out _).mono ?_
  rintro e w1 ⟨rfl, hb⟩
  have HBb := Lib.hid (Below.alloc (bch HB.out hb HB.out.size) (Nat.le_trans HB.out.size hb.size) (.cells #[.int .i64 t, .int .i64 id, .int .i64 d, .string ⟨#[]⟩, .int .i64 0, .int .i64 0, .int .i64 0] 55))
  have HMb := Lib.hid (heap_keep (heap_keep HM.out hb) (below_alloc _ (.cells #[.int .i64 t, .int .i64 id, .int .i64 d, .string ⟨#[]⟩, .int .i64 0, .int .i64 0, .int .i64 0] 55)))
  have HZb := Lib.hid (heap_keep (heap_keep HZ.out hb) (below_alloc _ (.cells #[.int .i64 t, .int .i64 id, .int .i64 d, .string ⟨#[]⟩, .int .i64 0, .int .i64 0, .int .i64 0] 55)))
  have HLb := Lib.hid (heap_new w1 (.cells #[.int .i64 t, .int .i64 id, .int .i64 d, .string ⟨#[]⟩, .int .i64 0, .int .i64 0, .int .i64 0] 55))
  have hsz : w.heap.size + 1 < w1.heap.size := heap_lt (heap_keep HZ.out hb)
  obtain ⟨n0, n1, n2, n3, n4⟩ := cell5 (heap_keep HM.out hb)
  have HZw := Lib.hid (heap_keep HZ.out hb)
  have HMw := Lib.hid (heap_keep HM.out hb)
  have HB1 := Lib.hid (bch HB.out hb HB.out.size)
  obtain ⟨k0, k1, k2, k3, k4⟩ := cell5 HMb.out
  obtain ⟨z0, z1, z2, z3, z4, z5, z6⟩ := cell7 (heap_keep HZ.out hb)
  obtain ⟨f0, f1, f2, f3, f4, f5, f6⟩ := froz7 (heap_keep HZ.out hb)
  obtain ⟨y0, y1, y2, y3, y4, y5, y6⟩ := cell7 HZb.out
  obtain ⟨g0, g1, g2, g3, g4, g5, g6⟩ := froz7 HZb.out
  clear hb m0 m1 m2 m3 m4 HM HZ HB
  go_wp2_with fail
  obtain ⟨kk0, kk1, kk2, kk3, kk4⟩ := cell5 (heap_keep HMw.out (below_alloc _ (.cells #[.int .i64 t, .int .i64 id, .int .i64 d, .string ⟨s.toArray⟩, .int .i64 0, .int .i64 0, .int .i64 0] 55)))
  go_region
  all_goals
    go_wp2_with fail
    have HT := turned_set7 w1 (w.heap.size + 1) (.int .i64 t) (.int .i64 id) (.int .i64 d) (.string ⟨s.toArray⟩) (.int .i64 qty) (.int .i64 0) (.int .i64 0)
    have HS := set7 HZw.out (.int .i64 t) (.int .i64 id) (.int .i64 d) (.string ⟨s.toArray⟩) (.int .i64 qty) (.int .i64 0) (.int .i64 0)
    unfold set7w at HS
    obtain ⟨r0, r1, r2, r3, r4, r5, r6⟩ := cell7 (heap_keep HS (below_alloc _ (.cells #[.int .i64 t, .int .i64 id, .int .i64 d, .string ⟨s.toArray⟩, .int .i64 qty, .int .i64 0, .int .i64 0] 55)))
    clear z0 z1 z2 z3 z4 z5 z6 f0 f1 f2 f3 f4 f5 f6 y0 y1 y2 y3 y4 y5 y6 g0 g1 g2 g3 g4 g5 g6 HS
    refine bodyPost_ret (v := .agg #[.int .i64 t, .int .i64 id, .int .i64 d, .string ⟨s.toArray⟩, .int .i64 qty, .int .i64 0, .int .i64 0]) ?_ rfl ⟨rfl, ?_⟩
    · simp [results, Tryz.results66, go_sem, r0, r1, r2, r3, r4, r5, r6]
    · exact below_drew1 (Below.alloc (Below.turned HB1.out HT (fun i hi => by omega) HB1.out.size) (Nat.le_trans HB1.out.size HT.size) _)

theorem omsg_any (w : World) (hT : PT w) (id qty amt d : Int) (r s : List UInt8) (hc : codeO id r s qty amt = 0) (hd : 0 ≤ d ∧ d < 6) :
    Calls Tryz.prog 66 #[.agg #[.int .i64 id, .string ⟨r.toArray⟩, .string ⟨s.toArray⟩, .int .i64 qty, .int .i64 amt], .int .i64 d] w fun e w' => e = .returned (msgV (msgO id s qty amt d)) ∧ Below w.heap.size w w' := by
  by_cases h0 : partyI d = 0
  · refine (oMsg_pay w hT id qty amt d r s hc h0).mono ?_
    rintro e w' ⟨rfl, hb⟩
    exact ⟨by unfold msgO; rw [if_pos h0]; rfl, hb⟩
  · have hp : 0 < partyI d := by
      unfold partyI at h0 ⊢
      split at h0
      · rename_i h; rw [if_pos h]; omega
      · rename_i h; rw [if_neg h]
        split at h0
        · omega
        · rename_i h'; rw [if_neg h']; rw [if_pos (by omega)]; omega
    refine (oMsg_goods w hT id qty amt d _ r s hc rfl hp).mono ?_
    rintro e w' ⟨rfl, hb⟩
    exact ⟨by unfold msgO; rw [if_neg h0]; rfl, hb⟩
end Go.Proofs.YtlkncmpengpbiaaGreatDoor
/- The model's ask: the message that asks for a deed. -/
namespace Go.Proofs.YtlkncmpengpbiaaGreatDoor
open Go.RowKit Go.Maps Co Key Rw Sa Od
set_option linter.unusedSimpArgs false
set_option linter.unusedVariables false
set_option maxRecDepth 100000
set_option maxHeartbeats 8000000

abbrev tModel : TypeId := 60
abbrev tMsgM : TypeId := 55
theorem mask_at {B : Nat} {w : World} {mb cb bb pm bm : Nat} {x1 x2 vl vb vI : Value} {c : Cor} (hm : w.heap[mb]? = some (.cells #[.pointer (some ⟨cb, 0, none⟩), x1, x2] tModel (0, 0))) (h : Cw B w cb bb pm bm vl vb vI c) (hT : PT w) (hl : c.l.length ≤ 1000) (i : Nat) (s : Sg) (hs : c.l[i]? = some s) (hc : codeO s.id s.ref s.sku s.qty s.amt = 0) (d : Int) (hd : 0 ≤ d ∧ d < 6) :
  Calls Tryz.prog 31 #[.pointer (some ⟨mb, 0, none⟩), .agg #[.int .i64 ((i : Int) + 1), .int .i64 d]] w fun e w' => e = .returned (msgV (msgO s.id s.sku s.qty s.amt d)) ∧ Below w.heap.size w w' := by
 have hil := (List.getElem?_eq_some_iff.1 hs).1
 obtain ⟨wa, hA⟩ : ∃ wa, wa = (w.alloc (.cells #[.int .i64 ((i : Int) + 1), .int .i64 d] tKey)).alloc (.cells #[.int .i64 0, .int .i64 0, .int .i64 0, .string ⟨#[]⟩, .int .i64 0, .int .i64 0, .int .i64 0] tMsgM) := ⟨_, rfl⟩
 have hb : Below w.heap.size w wa := by rw [hA]; exact (below_alloc w _).alloc (by simp) _
 have HK := Hd (show wa.heap[w.heap.size]? = some (.cells #[.int .i64 ((i : Int) + 1), .int .i64 d] tKey (0, 0)) by rw [hA]; exact heap_keep (heap_new w _) (below_alloc _ _))
 have HZ := Hd (show wa.heap[w.heap.size + 1]? = some (.cells #[.int .i64 0, .int .i64 0, .int .i64 0, .string ⟨#[]⟩, .int .i64 0, .int .i64 0, .int .i64 0] tMsgM (0, 0)) by rw [hA]; have := heap_new (w.alloc (.cells #[.int .i64 ((i : Int) + 1), .int .i64 d] tKey)) (.cells #[.int .i64 0, .int .i64 0, .int .i64 0, .string ⟨#[]⟩, .int .i64 0, .int .i64 0, .int .i64 0] tMsgM); rwa [show (w.alloc (.cells #[.int .i64 ((i : Int) + 1), .int .i64 d] tKey)).heap.size = w.heap.size + 1 by simp] at this)
 have HMA := Hd (heap_keep hm hb)
 have HO := Hd (fun W (hW : Below wa.heap.size wa W) => (corder_any (h.below (bch hb hW hb.size)) ((i : Int) + 1) (by omega) (by omega)).mono (fun e w' h => (⟨h.1 s (by omega) (by rw [show ((i : Int) + 1).toNat - 1 = i by omega]; exact hs), h.2.2⟩ : e = .returned (.tuple #[sgV s, .int .i64 0]) ∧ Below W.heap.size W w')))
 have HMSG := Hd (fun W (hW : Below w.heap.size w W) => omsg_any W (hT.below hW) s.id s.qty s.amt d s.ref s.sku hc hd)
 have HB := Hd hb; have HA := Hd hA
 clear hm h hT hs hc hb hA
 go_enter Tryz.func31, Tryz.ntmps31
 go_upto_region 1 with (fail)
 rw [← HA.out]
 clear HA
 obtain ⟨c0, c1, c2⟩ := cell3 HMA.out
 obtain ⟨k0, k1, _, _⟩ := cell2 HK.out
 have HHR := Hd (fun W' (hb : Below wa.heap.size wa W') => (⟨Hd hb, kc hb c0, kc hb k0⟩ : (fun w' => Hid (Below wa.heap.size wa w') ∧ w'.cell? ⟨mb, 0, none⟩ = some (.pointer (some ⟨cb, 0, none⟩)) ∧ w'.cell? ⟨w.heap.size, 0, none⟩ = some (.int .i64 ((i : Int) + 1))) W'))
 refine wp_region_noPanic ?_
 refine wp_region_held_drew (S := (fun w' => Hid (Below wa.heap.size wa w') ∧ w'.cell? ⟨mb, 0, none⟩ = some (.pointer (some ⟨cb, 0, none⟩)) ∧ w'.cell? ⟨w.heap.size, 0, none⟩ = some (.int .i64 ((i : Int) + 1)))) (by kernel_rfl) (HHR.out _ (below_drew1 (Below.refl wa.heap.size wa))) (fun hHeld => ?_)
 refine tk 0 rfl rfl ‹_› ?_; try go_frame
 refine tk 1 rfl rfl ‹_› ?_; try go_frame
 refine tk 2 rfl rfl ‹_› ?_; try go_frame
 refine tk 3 rfl rfl ‹_› ?_; try go_frame
 refine tk 4 rfl rfl ‹_› ?_; try go_frame
 refine tk 5 rfl rfl ‹_› ?_; try go_frame
 refine wpAnyH_ready (rs := [6, 10]) (by kernel_rfl) (by simp) ?_
 refine AllReadyH.cons rfl (fun K hK => ?_) (AllReadyH.cons rfl (fun K hK => ?_) AllReadyH.nil)
 ·go_simp
  refine (HO.out _ (below_drew1 (Below.refl _ _))).mono ?_
  rintro e w1 ⟨rfl, hb1⟩
  have HB1 := Hd (bch (below_drew1 (Below.refl wa.heap.size wa)) hb1 (Nat.le_refl _) : Below wa.heap.size wa w1)
  clear hb1
  refine hK.out _ _ (HHR.out _ (HB1.out)) (fun hHeld => ?_)
  clear hK K
  (try simp only [gx1, gx2, gx3]); try go_frame
  refine tk 7 rfl rfl ‹_› ?_; try go_frame
  refine tk 8 rfl rfl ‹_› ?_; try go_frame
  refine tk 9 rfl rfl ‹_› ?_; try go_frame
  have HX := Hd (heap_new w1 (.cells #[.int .i64 0, .string ⟨#[]⟩, .string ⟨#[]⟩, .int .i64 0, .int .i64 0, .int .i64 0, .int .i64 0, .int .i64 0, .int .i64 0, .int .i64 0, .int .i64 0, .bool false] tSaga))
  refine rdy 10 rfl (fun K hK => ?_)
  go_simp
  refine hK.out _ _ (HHR.out _ (bch HB1.out (below_alloc w1 _) HB1.out.size)) (fun hHeld => ?_)
  clear hK K
  (try simp only [gx1, gx2, gx3]); try go_frame
  refine rdy 11 rfl (fun K hK => ?_)
  obtain ⟨m0, m1, m2, m3, m4, m5, m6, m7, m8, m9, m10, m11⟩ := cell12 HX.out
  obtain ⟨g0, g1, g2, g3, g4, g5, g6, g7, g8, g9, g10, g11⟩ := froz12 HX.out
  go_simp
  refine hK.out _ _ (HHR.out _ (bch HB1.out (below_alloc w1 (.cells (sgA s) tSaga)) HB1.out.size)) (fun hHeld => ?_)
  clear hK K
  (try simp only [gx1, gx2, gx3]); try go_frame
  clear m0 m1 m2 m3 m4 m5 m6 m7 m8 m9 m10 m11 g0 g1 g2 g3 g4 g5 g6 g7 g8 g9 g10 g11
  refine tk 12 rfl rfl ‹_› ?_; try go_frame
  refine wpAnyH_done (by kernel_rfl) ?_ _
  refine NoPanic.normal ?_
  obtain ⟨w5, hw5⟩ : ∃ w5, w5 = w1.alloc (.cells (sgA s) tSaga) := ⟨_, rfl⟩
  rw [← hw5]
  have hb5 : Below wa.heap.size wa w5 := by rw [hw5]; exact bch HB1.out (below_alloc w1 _) HB1.out.size
  have HX5 := Hd (show w5.heap[w1.heap.size]? = some (.cells (sgA s) tSaga (0, 0)) by rw [hw5]; exact heap_new _ _)
  have HB5 := Hd (bch HB.out hb5 HB.out.size); have HZ5 := Hd (heap_keep HZ.out hb5); have HK5 := Hd (heap_keep HK.out hb5)
  clear hw5 hb5 hHeld HHR HX HB1 c0 k0 c1 c2 k1
  generalize w1.heap.size = bs at HX5 ⊢
  obtain ⟨s0, s1, s2, s3, s4, s5, s6, s7, s8, s9, s10, s11⟩ := sg_box HX5.out
  obtain ⟨k0, k1, _, _⟩ := cell2 HK5.out
  go_wp2_with fail
  refine (HMSG.out _ HB5.out).mono ?_
  rintro e w6 ⟨he, hb6⟩
  obtain ⟨mm, hmm⟩ : ∃ mm, msgO s.id s.sku s.qty s.amt d = mm := ⟨_, rfl⟩
  rw [hmm] at he
  subst he
  have HB6 := Hd (bch HB5.out hb6 HB5.out.size); have HZ6 := Hd (heap_keep HZ5.out hb6)
  obtain ⟨z0, z1, z2, z3, z4, z5, z6⟩ := cell7 HZ6.out
  obtain ⟨f0, f1, f2, f3, f4, f5, f6⟩ := froz7 HZ6.out
  clear hb6 s0 s1 s2 s3 s4 s5 s6 s7 s8 s9 s10 s11 k0 k1
  obtain ⟨q0, q1, q2, q3, q4, q5, q6⟩ := mm
  have HMM := Hd hmm
  clear hmm
  unfold msgV
  dsimp only
  go_wp2_with fail
  refine bodyPost_ret (v := msgV (q0, q1, q2, q3, q4, q5, q6)) ?_ rfl ⟨by rw [HMM.out], ?_⟩
  ·simp [results, Tryz.results31, go_sem, msgV, z0, z1, z2, z3, z4, z5, z6]
  ·exact Below.turned HB6.out (turned_set7 w6 (w.heap.size + 1) _ _ _ _ _ _ _) (fun i hi => by omega) HB6.out.size
 ·go_simp
  refine hK.out _ _ (HHR.out _ (bch (below_drew1 (Below.refl wa.heap.size wa)) (below_alloc wa.drew (.cells #[.int .i64 0, .string ⟨#[]⟩, .string ⟨#[]⟩, .int .i64 0, .int .i64 0, .int .i64 0, .int .i64 0, .int .i64 0, .int .i64 0, .int .i64 0, .int .i64 0, .bool false] tSaga)) (Nat.le_refl _))) (fun hHeld => ?_)
  clear hK K
  (try simp only [gx1, gx2, gx3]); try go_frame
  refine rdy 6 rfl (fun K hK => ?_)
  go_simp
  refine (HO.out _ (bch (below_drew1 (Below.refl wa.heap.size wa)) (below_alloc wa.drew (.cells #[.int .i64 0, .string ⟨#[]⟩, .string ⟨#[]⟩, .int .i64 0, .int .i64 0, .int .i64 0, .int .i64 0, .int .i64 0, .int .i64 0, .int .i64 0, .int .i64 0, .bool false] tSaga)) (Nat.le_refl _))).mono ?_
  rintro e w1 ⟨rfl, hb1⟩
  have HX := Hd (show w1.heap[wa.heap.size]? = some (.cells #[.int .i64 0, .string ⟨#[]⟩, .string ⟨#[]⟩, .int .i64 0, .int .i64 0, .int .i64 0, .int .i64 0, .int .i64 0, .int .i64 0, .int .i64 0, .int .i64 0, .bool false] tSaga (0, 0)) from heap_keep (heap_new wa.drew (.cells #[.int .i64 0, .string ⟨#[]⟩, .string ⟨#[]⟩, .int .i64 0, .int .i64 0, .int .i64 0, .int .i64 0, .int .i64 0, .int .i64 0, .int .i64 0, .int .i64 0, .bool false] tSaga)) hb1)
  have HB0 := Hd (bch (below_drew1 (Below.refl wa.heap.size wa)) (below_alloc wa.drew (.cells #[.int .i64 0, .string ⟨#[]⟩, .string ⟨#[]⟩, .int .i64 0, .int .i64 0, .int .i64 0, .int .i64 0, .int .i64 0, .int .i64 0, .int .i64 0, .int .i64 0, .bool false] tSaga)) (Nat.le_refl _) : Below wa.heap.size wa (wa.drew.alloc (.cells #[.int .i64 0, .string ⟨#[]⟩, .string ⟨#[]⟩, .int .i64 0, .int .i64 0, .int .i64 0, .int .i64 0, .int .i64 0, .int .i64 0, .int .i64 0, .int .i64 0, .bool false] tSaga)))
  have HB1 := Hd (bch HB0.out hb1 HB0.out.size)
  clear hb1
  refine hK.out _ _ (HHR.out _ (HB1.out)) (fun hHeld => ?_)
  clear hK K
  (try simp only [gx1, gx2, gx3]); try go_frame
  refine tk 7 rfl rfl ‹_› ?_; try go_frame
  refine tk 8 rfl rfl ‹_› ?_; try go_frame
  refine tk 9 rfl rfl ‹_› ?_; try go_frame
  refine rdy 11 rfl (fun K hK => ?_)
  obtain ⟨m0, m1, m2, m3, m4, m5, m6, m7, m8, m9, m10, m11⟩ := cell12 HX.out
  obtain ⟨g0, g1, g2, g3, g4, g5, g6, g7, g8, g9, g10, g11⟩ := froz12 HX.out
  go_simp
  refine hK.out _ _ (HHR.out _ (Below.turned HB1.out (turned_set12 (w1) wa.heap.size (.int .i64 s.id) (.string ⟨s.ref.toArray⟩) (.string ⟨s.sku.toArray⟩) (.int .i64 s.qty) (.int .i64 s.amt) (.int .i64 s.d0) (.int .i64 s.d1) (.int .i64 s.d2) (.int .i64 s.d3) (.int .i64 s.d4) (.int .i64 s.d5) (.bool s.can)) (fun j hj => by have := HB1.out.size; omega) HB1.out.size)) (fun hHeld => ?_)
  clear hK K
  (try simp only [gx1, gx2, gx3]); try go_frame
  clear m0 m1 m2 m3 m4 m5 m6 m7 m8 m9 m10 m11 g0 g1 g2 g3 g4 g5 g6 g7 g8 g9 g10 g11
  refine tk 12 rfl rfl ‹_› ?_; try go_frame
  refine wpAnyH_done (by kernel_rfl) ?_ _
  refine NoPanic.normal ?_
  obtain ⟨w5, hw5⟩ : ∃ w5, w5 = set12w (w1) wa.heap.size (.int .i64 s.id) (.string ⟨s.ref.toArray⟩) (.string ⟨s.sku.toArray⟩) (.int .i64 s.qty) (.int .i64 s.amt) (.int .i64 s.d0) (.int .i64 s.d1) (.int .i64 s.d2) (.int .i64 s.d3) (.int .i64 s.d4) (.int .i64 s.d5) (.bool s.can) := ⟨_, rfl⟩
  rw [show ((((((((((((w1.setCell ⟨wa.heap.size, 0, none⟩ (.int .i64 s.id)).setCell ⟨wa.heap.size, 1, none⟩ (.string ⟨s.ref.toArray⟩)).setCell ⟨wa.heap.size, 2, none⟩ (.string ⟨s.sku.toArray⟩)).setCell ⟨wa.heap.size, 3, none⟩ (.int .i64 s.qty)).setCell ⟨wa.heap.size, 4, none⟩ (.int .i64 s.amt)).setCell ⟨wa.heap.size, 5, none⟩ (.int .i64 s.d0)).setCell ⟨wa.heap.size, 6, none⟩ (.int .i64 s.d1)).setCell ⟨wa.heap.size, 7, none⟩ (.int .i64 s.d2)).setCell ⟨wa.heap.size, 8, none⟩ (.int .i64 s.d3)).setCell ⟨wa.heap.size, 9, none⟩ (.int .i64 s.d4)).setCell ⟨wa.heap.size, 10, none⟩ (.int .i64 s.d5)).setCell ⟨wa.heap.size, 11, none⟩ (.bool s.can)) = w5 from hw5.symm]
  have hb5 : Below wa.heap.size wa w5 := by rw [hw5]; exact Below.turned HB1.out (turned_set12 w1 wa.heap.size (.int .i64 s.id) (.string ⟨s.ref.toArray⟩) (.string ⟨s.sku.toArray⟩) (.int .i64 s.qty) (.int .i64 s.amt) (.int .i64 s.d0) (.int .i64 s.d1) (.int .i64 s.d2) (.int .i64 s.d3) (.int .i64 s.d4) (.int .i64 s.d5) (.bool s.can)) (fun j hj => by omega) HB1.out.size
  have HX5 := Hd (show w5.heap[wa.heap.size]? = some (.cells (sgA s) tSaga (0, 0)) by rw [hw5]; exact set12 HX.out _ _ _ _ _ _ _ _ _ _ _ _)
  have HB5 := Hd (bch HB.out hb5 HB.out.size); have HZ5 := Hd (heap_keep HZ.out hb5); have HK5 := Hd (heap_keep HK.out hb5)
  clear hw5 hb5 hHeld HHR HX HB1 c0 k0 c1 c2 k1
  generalize wa.heap.size = bs at HX5 ⊢
  obtain ⟨s0, s1, s2, s3, s4, s5, s6, s7, s8, s9, s10, s11⟩ := sg_box HX5.out
  obtain ⟨k0, k1, _, _⟩ := cell2 HK5.out
  go_wp2_with fail
  refine (HMSG.out _ HB5.out).mono ?_
  rintro e w6 ⟨he, hb6⟩
  obtain ⟨mm, hmm⟩ : ∃ mm, msgO s.id s.sku s.qty s.amt d = mm := ⟨_, rfl⟩
  rw [hmm] at he
  subst he
  have HB6 := Hd (bch HB5.out hb6 HB5.out.size); have HZ6 := Hd (heap_keep HZ5.out hb6)
  obtain ⟨z0, z1, z2, z3, z4, z5, z6⟩ := cell7 HZ6.out
  obtain ⟨f0, f1, f2, f3, f4, f5, f6⟩ := froz7 HZ6.out
  clear hb6 s0 s1 s2 s3 s4 s5 s6 s7 s8 s9 s10 s11 k0 k1
  obtain ⟨q0, q1, q2, q3, q4, q5, q6⟩ := mm
  have HMM := Hd hmm
  clear hmm
  unfold msgV
  dsimp only
  go_wp2_with fail
  refine bodyPost_ret (v := msgV (q0, q1, q2, q3, q4, q5, q6)) ?_ rfl ⟨by rw [HMM.out], ?_⟩
  ·simp [results, Tryz.results31, go_sem, msgV, z0, z1, z2, z3, z4, z5, z6]
  ·exact Below.turned HB6.out (turned_set7 w6 (w.heap.size + 1) _ _ _ _ _ _ _) (fun i hi => by omega) HB6.out.size
end Go.Proofs.YtlkncmpengpbiaaGreatDoor
/- Another one like it: books.Copy, core.Copy. -/
namespace Go.Proofs.YtlkncmpengpbiaaGreatDoor
open Go.RowKit Go.Maps Go.Shelf Key Rw Sa Co
set_option linter.unusedSimpArgs false
set_option linter.unusedVariables false
set_option maxRecDepth 100000
set_option maxHeartbeats 16000000

theorem clonedC {P : Program} {ρ : Ren} (L : Go.Proofs.SlLaysW.n5 P ρ) {k : TypeId} {κ α : Type} {mkK : κ → Value} {mkV : α → Value} (w : World) (b : Nat) (E : List (κ × α)) (h : MapL P k mkK mkV w b E) :
  Calls P (ρ.f 5) #[.map (some b)] w fun e w' => e = .returned (.map (some w.heap.size)) ∧ MapL P k mkK mkV w' w.heap.size E ∧ Below w.heap.size w w' := by
 obtain ⟨⟨D, h1, h2⟩, h3, h4⟩ := h
 refine (Go.Proofs.AnyW.maps_Clone_owns L k (heldBy mkV) b E.length (.map D) w h1).mono ?_
 rintro e w' ⟨rfl, h5, _, hb⟩
 exact ⟨rfl, ⟨⟨D, h5, h2⟩, h3, h4⟩, hb⟩
theorem cloneStr_any (w : World) (b : Nat) (E : List (List UInt8 × Po)) (h : MapL Tryz.prog tStrC mkStrC mkPost w b E) : Calls Tryz.prog 110 #[.map (some b)] w fun e w' => e = .returned (.map (some w.heap.size)) ∧ MapL Tryz.prog tStrC mkStrC mkPost w' w.heap.size E ∧ Below w.heap.size w w' := clonedC Tryz.cloneStr w b E h
theorem cloneSlot_any (w : World) (b : Nat) (E : List ((Int × Int) × Int)) (h : MapL Tryz.prog tSlot mkSlot mkI w b E) : Calls Tryz.prog 111 #[.map (some b)] w fun e w' => e = .returned (.map (some w.heap.size)) ∧ MapL Tryz.prog tSlot mkSlot mkI w' w.heap.size E ∧ Below w.heap.size w w' := clonedC Tryz.cloneSlot w b E h
theorem Bw.base {B B' : Nat} {w : World} {bb pm bm : Nat} {vb : Value} {b : List Po} (h : Bw B w bb pm bm vb b) (hB : B' ≤ B) : Bw B' w bb pm bm vb b :=
 ⟨h.hd, own_base h.ob hB, h.mp, h.mb, ⟨Nat.le_trans hB h.ge.1, Nat.le_trans hB h.ge.2.1, Nat.le_trans hB h.ge.2.2⟩, h.ne, h.oo, h.ok⟩
theorem bcopyB_any {B : Nat} {w : World} {bb pm bm : Nat} {vb : Value} {b : List Po} (h : Bw B w bb pm bm vb b) (hl : b.length ≤ 100000) :
  Calls Tryz.prog 69 #[.pointer (some ⟨bb, 0, none⟩)] w fun e w' => ∃ b2 p2 m2 v2, e = .returned (.pointer (some ⟨b2, 0, none⟩)) ∧ Bw w.heap.size w' b2 p2 m2 v2 b ∧ Below w.heap.size w w' := by
 obtain ⟨E, hE, hE1, hE2⟩ := h.mp
 obtain ⟨G, hG, hG1, hG2⟩ := h.mb
 have HB := Hd h; have HE := Hd hE; have HG := Hd hG; have HE12 := Hd (And.intro hE1 hE2); have HG12 := Hd (And.intro hG1 hG2)
 obtain ⟨c0, c1, c2⟩ := cell3c h.hd
 clear h hE hG hE1 hE2 hG1 hG2
 go_enter Tryz.func69, Tryz.ntmps69
 go_wp2_with (go_at_call 108; refine (bnone_any HB.out).mono ?_; rintro e w1 ⟨rfl, hb⟩; subst hb)
 have HHR := Hd (fun W (hb : Below w.heap.size w W) => (⟨Hd hb, kc hb c0, kc hb c1, kc hb c2⟩ : (fun w' => Hid (Below w.heap.size w w') ∧ w'.cell? ⟨bb, 0, none⟩ = some (vb) ∧ w'.cell? ⟨bb, 1, none⟩ = some (.map (some pm)) ∧ w'.cell? ⟨bb, 2, none⟩ = some (.map (some bm))) W))
 refine wp_region_noPanic ?_
 refine wp_region_held_drew (S := (fun w' => Hid (Below w.heap.size w w') ∧ w'.cell? ⟨bb, 0, none⟩ = some (vb) ∧ w'.cell? ⟨bb, 1, none⟩ = some (.map (some pm)) ∧ w'.cell? ⟨bb, 2, none⟩ = some (.map (some bm)))) (by kernel_rfl) (HHR.out _ (below_drew1 (Below.refl w.heap.size w))) (fun hHeld => ?_)
 refine tk 0 rfl rfl ‹_› ?_; try go_frame
 refine tk 1 rfl rfl ‹_› ?_; try go_frame
 refine tk 2 rfl rfl ‹_› ?_; try go_frame
 refine tk 3 rfl rfl ‹_› ?_; try go_frame
 refine tk 5 rfl rfl ‹_› ?_; try go_frame
 refine tk 6 rfl rfl ‹_› ?_; try go_frame
 refine tk 7 rfl rfl ‹_› ?_; try go_frame
 refine tk 8 rfl rfl ‹_› ?_; try go_frame
 refine tk 10 rfl rfl ‹_› ?_; try go_frame
 refine tk 11 rfl rfl ‹_› ?_; try go_frame
 refine tk 12 rfl rfl ‹_› ?_; try go_frame
 refine tk 13 rfl rfl ‹_› ?_; try go_frame
 refine rdy 4 rfl (fun K hK => ?_)
 go_simp
 refine (bclone_any _ vb b (own_keep HB.out.ob (below_drew1 (Below.refl _ w))) hl w.heap.size (Nat.le_refl _)).mono ?_
 rintro e w1 ⟨v1, rfl, ho1, hb1⟩
 have HO1 := Hd ho1; have HB1 := Hd (bch (below_drew1 (Below.refl w.heap.size w)) hb1 (Nat.le_refl _) : Below w.heap.size w w1)
 clear ho1 hb1
 refine hK.out _ _ (HHR.out _ (HB1.out)) (fun hHeld => ?_)
 clear hK K
 (try simp only [gx1, gx2, gx3]); try go_frame
 refine rdy 9 rfl (fun K hK => ?_)
 go_simp
 refine (cloneStr_any w1 pm E (HE.out.below HB1.out)).mono ?_
 rintro e w2 ⟨rfl, hm2, hb2⟩
 have HM2 := Hd hm2; have HO2 := Hd (own_keep HO1.out hb2); have HB2 := Hd (bch HB1.out hb2 HB1.out.size)
 have hl2 : w1.heap.size < w2.heap.size := hm2.lt
 clear hm2 hb2
 refine hK.out _ _ (HHR.out _ (HB2.out)) (fun hHeld => ?_)
 clear hK K
 (try simp only [gx1, gx2, gx3]); try go_frame
 refine rdy 14 rfl (fun K hK => ?_)
 go_simp
 refine (cloneSlot_any w2 bm G (HG.out.below HB2.out)).mono ?_
 rintro e w3 ⟨rfl, hm3, hb3⟩
 have HM3 := Hd hm3; have HO3 := Hd (own_keep HO2.out hb3); have HB3 := Hd (bch HB2.out hb3 HB2.out.size); have HM23 := Hd (HM2.out.below hb3)
 have hl3 : w2.heap.size < w3.heap.size := hm3.lt
 clear hm3 hb3
 refine hK.out _ _ (HHR.out _ (HB3.out)) (fun hHeld => ?_)
 clear hK K
 (try simp only [gx1, gx2, gx3]); try go_frame
 obtain ⟨Av1, cv1, rfl, _⟩ := own_slice HO1.out
 refine tk 15 rfl rfl ‹_› ?_; try go_frame
 refine rdy 16 rfl (fun K hK => ?_)
 go_simp
 refine hK.out _ _ (HHR.out _ (bch HB3.out (below_alloc w3 _) HB3.out.size)) (fun hHeld => ?_)
 clear hK K
 (try simp only [gx1, gx2, gx3]); try go_frame
 refine tk 17 rfl rfl ‹_› ?_; try go_frame
 refine wpAnyH_done (by kernel_rfl) ?_ _
 refine NoPanic.normal ?_
 clear hHeld HHR
 have hs1 := HB1.out.size
 obtain ⟨w4, hw4⟩ : ∃ w4, w4 = w3.alloc (.cells #[.slice Av1 b.length cv1, .map (some w1.heap.size), .map (some w2.heap.size)] tBooks) := ⟨_, rfl⟩
 rw [← hw4]
 have hb4 : Below w3.heap.size w3 w4 := by rw [hw4]; exact below_alloc _ _
 have hx4 : w4.heap[w3.heap.size]? = some (.cells #[.slice Av1 b.length cv1, .map (some w1.heap.size), .map (some w2.heap.size)] tBooks (0, 0)) := by rw [hw4]; exact heap_new _ _
 have HR4 := Hd (show Bw w.heap.size w4 w3.heap.size w1.heap.size w2.heap.size (.slice Av1 b.length cv1) b from ⟨hx4, own_keep HO3.out hb4, ⟨E, HM23.out.below hb4, HE12.out⟩, ⟨G, HM3.out.below hb4, HG12.out⟩, by omega, by omega, fun j hj => by have := (HO1.out.lt j hj).2; omega, HB.out.ok⟩)
 have HB4 := Hd (bch HB3.out hb4 HB3.out.size)
 clear hw4 hb4 hx4
 go_wp2_with fail
 go_ret
 exact ⟨_, _, _, _, rfl, HR4.out, HB4.out⟩
theorem ccopy_any {B : Nat} {w : World} {cb bb pm bm : Nat} {vl vb vI : Value} {c : Cor} (h : Cw B w cb bb pm bm vl vb vI c) (hl : c.l.length ≤ 100000) (hbl : c.b.length ≤ 100000) :
  Calls Tryz.prog 36 #[.pointer (some ⟨cb, 0, none⟩)] w fun e w' => ∃ c2 b2 p2 m2 vl2 vb2, e = .returned (.pointer (some ⟨c2, 0, none⟩)) ∧ Cw w.heap.size w' c2 b2 p2 m2 vl2 vb2 vI c ∧ Below w.heap.size w w' := by
 obtain ⟨i0, hi, hz0, hz1, hz2⟩ := info_parts saga_info
 obtain ⟨A, cl, rfl, _⟩ := own_slice h.ol
 obtain ⟨I0, In0, Ic0, I1, In1, Ic1, I2, In2, Ic2, m, rfl, _⟩ := h.ii
 have HC := Hd h
 have HX := Hd (show w.heap[cb]? = some (.cells #[.slice A c.l.length cl, .pointer (some ⟨bb, 0, none⟩), .int .i64 c.inn.a.1, .int .i64 c.inn.a.2.1, .slice I0 In0 Ic0, .int .i64 c.inn.b.1, .int .i64 c.inn.b.2.1, .slice I1 In1 Ic1, .int .i64 c.inn.c.1, .int .i64 c.inn.c.2.1, .slice I2 In2 Ic2, .map m] tCore (0, 0)) by simpa [inn10] using h.hc)
 have HSRC := Hd (fun W (hb : Below w.heap.size w W) => src_own (enc := encS) (z := 12) encS_len (by decide) encS_one (own_keep HC.out.ol hb))
 clear h
 obtain ⟨y0, y1, y2, y3, y4, y5, y6, y7, y8, y9, y10, y11⟩ := cell12 HX.out
 go_enter Tryz.func36, Tryz.ntmps36
 go_wp2_with (go_at_call 39; refine (cnone_any HC.out).mono ?_; rintro e w1 ⟨rfl, hb⟩; subst hb)
 have HHR := Hd (fun W (hb : Below w.heap.size w W) => (⟨Hd hb, kc hb y0, kc hb y1, kc hb y2, kc hb y3, kc hb y4, kc hb y5, kc hb y6, kc hb y7, kc hb y8, kc hb y9, kc hb y10, kc hb y11⟩ : (fun w' => Hid (Below w.heap.size w w') ∧ w'.cell? ⟨cb, 0, none⟩ = some (.slice A c.l.length cl) ∧ w'.cell? ⟨cb, 1, none⟩ = some (.pointer (some ⟨bb, 0, none⟩)) ∧ w'.cell? ⟨cb, 2, none⟩ = some (.int .i64 c.inn.a.1) ∧ w'.cell? ⟨cb, 3, none⟩ = some (.int .i64 c.inn.a.2.1) ∧ w'.cell? ⟨cb, 4, none⟩ = some (.slice I0 In0 Ic0) ∧ w'.cell? ⟨cb, 5, none⟩ = some (.int .i64 c.inn.b.1) ∧ w'.cell? ⟨cb, 6, none⟩ = some (.int .i64 c.inn.b.2.1) ∧ w'.cell? ⟨cb, 7, none⟩ = some (.slice I1 In1 Ic1) ∧ w'.cell? ⟨cb, 8, none⟩ = some (.int .i64 c.inn.c.1) ∧ w'.cell? ⟨cb, 9, none⟩ = some (.int .i64 c.inn.c.2.1) ∧ w'.cell? ⟨cb, 10, none⟩ = some (.slice I2 In2 Ic2) ∧ w'.cell? ⟨cb, 11, none⟩ = some (.map m)) W))
 refine wp_region_noPanic ?_
 refine wp_region_held_drew (S := (fun w' => Hid (Below w.heap.size w w') ∧ w'.cell? ⟨cb, 0, none⟩ = some (.slice A c.l.length cl) ∧ w'.cell? ⟨cb, 1, none⟩ = some (.pointer (some ⟨bb, 0, none⟩)) ∧ w'.cell? ⟨cb, 2, none⟩ = some (.int .i64 c.inn.a.1) ∧ w'.cell? ⟨cb, 3, none⟩ = some (.int .i64 c.inn.a.2.1) ∧ w'.cell? ⟨cb, 4, none⟩ = some (.slice I0 In0 Ic0) ∧ w'.cell? ⟨cb, 5, none⟩ = some (.int .i64 c.inn.b.1) ∧ w'.cell? ⟨cb, 6, none⟩ = some (.int .i64 c.inn.b.2.1) ∧ w'.cell? ⟨cb, 7, none⟩ = some (.slice I1 In1 Ic1) ∧ w'.cell? ⟨cb, 8, none⟩ = some (.int .i64 c.inn.c.1) ∧ w'.cell? ⟨cb, 9, none⟩ = some (.int .i64 c.inn.c.2.1) ∧ w'.cell? ⟨cb, 10, none⟩ = some (.slice I2 In2 Ic2) ∧ w'.cell? ⟨cb, 11, none⟩ = some (.map m))) (by kernel_rfl) (HHR.out _ (below_drew1 (Below.refl w.heap.size w))) (fun hHeld => ?_)
 refine tk 0 rfl rfl ‹_› ?_; try go_frame
 refine tk 1 rfl rfl ‹_› ?_; try go_frame
 refine tk 2 rfl rfl ‹_› ?_; try go_frame
 refine tk 3 rfl rfl ‹_› ?_; try go_frame
 refine tk 5 rfl rfl ‹_› ?_; try go_frame
 refine tk 6 rfl rfl ‹_› ?_; try go_frame
 refine tk 7 rfl rfl ‹_› ?_; try go_frame
 refine tk 8 rfl rfl ‹_› ?_; try go_frame
 refine tk 10 rfl rfl ‹_› ?_; try go_frame
 refine tk 11 rfl rfl ‹_› ?_; try go_frame
 refine tk 12 rfl rfl ‹_› ?_; try go_frame
 refine tk 13 rfl rfl ‹_› ?_; try go_frame
 refine rdy 4 rfl (fun K hK => ?_)
 refine step_append_any _ rfl (.const (.slice none 0 0)) (.tmp 8) tSagasC rfl w.heap.size tSaga i0 (.agg #[.int .i64 0, .string ⟨#[]⟩, .string ⟨#[]⟩, .int .i64 0, .int .i64 0, .int .i64 0, .int .i64 0, .int .i64 0, .int .i64 0, .int .i64 0, .int .i64 0, .bool false]) 12 112 Tryz.underlying80 hi hz0 hz1 hz2 rfl (by decide) (.slice none 0 0) 0 [] rfl (World.ownsRow_nil _ _ _ _) c.l.length (c.l.flatMap encS) (HSRC.out _ (below_drew1 (Below.refl w.heap.size w))) (by unfold maxLen; omega) (by omega) (Nat.le_refl _) ?_
 intro v1 w1 ho1 hg1 hat1
 rw [Nat.zero_add, List.nil_append] at ho1
 obtain ⟨A1, c1, rfl, _⟩ := own_slice ho1
 have HO1 := Hd ho1; have HB1 := Hd (bch (below_drew1 (Below.refl w.heap.size w)) (below_of_grown hg1) (Nat.le_refl _) : Below w.heap.size w w1)
 clear ho1 hg1 hat1
 refine hK.out _ _ (HHR.out _ (HB1.out)) (fun hHeld => ?_)
 clear hK K
 (try simp only [gx1, gx2, gx3]); try go_frame
 refine rdy 9 rfl (fun K hK => ?_)
 go_simp
 refine (bcopyB_any (HC.out.bk.below HB1.out) hbl).mono ?_
 rintro e w2 ⟨b2, p2, m2, v2, rfl, hbk, hb2⟩
 have HK2 := Hd hbk; have HO2 := Hd (own_keep HO1.out hb2); have HB2 := Hd (bch HB1.out hb2 HB1.out.size)
 clear hbk hb2
 refine hK.out _ _ (HHR.out _ (HB2.out)) (fun hHeld => ?_)
 clear hK K
 (try simp only [gx1, gx2, gx3]); try go_frame
 refine tk 14 rfl rfl ‹_› ?_; try go_frame
 refine rdy 15 rfl (fun K hK => ?_)
 go_simp
 refine hK.out _ _ (HHR.out _ (bch HB2.out (below_alloc w2 _) HB2.out.size)) (fun hHeld => ?_)
 clear hK K
 (try simp only [gx1, gx2, gx3]); try go_frame
 refine tk 16 rfl rfl ‹_› ?_; try go_frame
 refine wpAnyH_done (by kernel_rfl) ?_ _
 refine NoPanic.normal ?_
 clear hHeld HHR
 have hs1 := HB1.out.size
 obtain ⟨w3, hw3⟩ : ∃ w3, w3 = w2.alloc (.cells #[.slice A1 c.l.length c1, .pointer (some ⟨b2, 0, none⟩), .int .i64 c.inn.a.1, .int .i64 c.inn.a.2.1, .slice I0 In0 Ic0, .int .i64 c.inn.b.1, .int .i64 c.inn.b.2.1, .slice I1 In1 Ic1, .int .i64 c.inn.c.1, .int .i64 c.inn.c.2.1, .slice I2 In2 Ic2, .map m] tCore) := ⟨_, rfl⟩
 rw [← hw3]
 have hb3 : Below w2.heap.size w2 w3 := by rw [hw3]; exact below_alloc _ _
 have hx3 : w3.heap[w2.heap.size]? = some (.cells #[.slice A1 c.l.length c1, .pointer (some ⟨b2, 0, none⟩), .int .i64 c.inn.a.1, .int .i64 c.inn.a.2.1, .slice I0 In0 Ic0, .int .i64 c.inn.b.1, .int .i64 c.inn.b.2.1, .slice I1 In1 Ic1, .int .i64 c.inn.c.1, .int .i64 c.inn.c.2.1, .slice I2 In2 Ic2, .map m] tCore (0, 0)) := by rw [hw3]; exact heap_new _ _
 have hlt := HK2.out.lt
 have hge := HK2.out.ge
 have hvl : ∀ j, (Value.slice A1 c.l.length c1).ownBlock = some j → w.heap.size ≤ j ∧ j < w1.heap.size := fun j hj => HO1.out.lt j hj
 have hbs : ∀ j, Bs b2 p2 m2 v2 j → w1.heap.size ≤ j ∧ j < w2.heap.size := fun j hj => HK2.out.ls hj
 have HR3 := Hd (show Cw w.heap.size w3 w2.heap.size b2 p2 m2 (.slice A1 c.l.length c1) v2 (.agg #[.int .i64 c.inn.a.1, .int .i64 c.inn.a.2.1, .slice I0 In0 Ic0, .int .i64 c.inn.b.1, .int .i64 c.inn.b.2.1, .slice I1 In1 Ic1, .int .i64 c.inn.c.1, .int .i64 c.inn.c.2.1, .slice I2 In2 Ic2, .map m]) c from ⟨by simpa [inn10] using hx3, own_keep HO2.out hb3, (HK2.out.below hb3).base hs1, HC.out.ii.below (bch HB2.out hb3 HB2.out.size), HC.out.fi, fun j hj => Av.far HC.out.ii (by rcases hj with rfl | hj | hj; (have := HB2.out.size; omega); (have := hbs j hj; omega); exact (hvl j hj).1), HB2.out.size, ⟨by omega, by omega, by omega, fun e => by have := hbs _ (.inr (.inr (.inr e))); omega⟩, fun j hj => ⟨by have := hvl j hj; have := HK2.out.lt; omega, fun hs => by have := hvl j hj; have := hbs j hs; omega⟩⟩)
 have HB3 := Hd (bch HB2.out hb3 HB2.out.size)
 clear hw3 hb3 hx3
 go_wp2_with fail
 go_ret
 exact ⟨_, _, _, _, _, _, rfl, HR3.out, HB3.out⟩
end Go.Proofs.YtlkncmpengpbiaaGreatDoor

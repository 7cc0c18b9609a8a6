/- Books: balances laid over balances (maps.Copy). -/
import Derived.Test.YtlkncmpengpbiaaGreatDoorBooksMove
import Derived.OrdersHeld
import Derived.Deep.RegionHeld
import Derived.Test.YtlkncmpengpbiaaGreatDoorShort
import Derived.Test.YtlkncmpengpbiaaGreatDoorMatchFind
import Derived.Test.YtlkncmpengpbiaaGreatDoorSagaWalk3
import Derived.Test.YtlkncmpengpbiaaGreatDoorIntakeTell
import Derived.IntWalk
import Derived.StillTailTactics
namespace Go.Proofs.YtlkncmpengpbiaaGreatDoor
open Go.RowKit Go.Maps Co

/-- E' has what is done, and else what E has. -/
def Over (E done E' : List ((Int × Int) × Int)) : Prop := ∀ j, (∀ v, (j, v) ∈ done → lk E' j = v) ∧ ((∀ e ∈ done, e.1 ≠ j) → lk E' j = lk E j)
theorem Over.zero (E : List ((Int × Int) × Int)) : Over E [] E := fun _ => ⟨fun _ h => absurd h (List.not_mem_nil), fun _ => rfl⟩
theorem Over.more {E done E' : List ((Int × Int) × Int)} (h : Over E done E') {x : Int × Int} {v : Int} (hx : ∀ e ∈ done, e.1 ≠ x) : Over E (done ++ [(x, v)]) ((x, v) :: without E' x) := by
  intro j
  refine ⟨fun u hu => ?_, fun hn => ?_⟩
  · rcases List.mem_append.1 hu with hu | hu
    · have hne : j ≠ x := fun e => hx _ hu e
      rw [lk_other _ _ hne]; exact (h j).1 u hu
    · rw [List.mem_singleton] at hu
      injection hu with h1 h2
      subst h1; subst h2
      exact lk_same _ _ _
  · have hne : j ≠ x := fun e => hn (x, v) (List.mem_append.2 (.inr (List.mem_singleton.2 rfl))) e.symm
    rw [lk_other _ _ hne]
    exact (h j).2 (fun e he => hn e (List.mem_append.2 (.inl he)))
theorem Over.perm {E done F E' : List ((Int × Int) × Int)} (h : Over E done E') (hp : done.Perm F) : Over E F E' := fun j =>
  ⟨fun v hv => (h j).1 v (hp.mem_iff.2 hv), fun hn => (h j).2 (fun e he => hn e (hp.mem_iff.1 he))⟩
set_option linter.unusedSimpArgs false in
set_option linter.unusedVariables false in
set_option maxRecDepth 100000 in
set_option maxHeartbeats 8000000 in
theorem bcopy_any {w : World} {d s : Nat} {E F : List ((Int × Int) × Int)} (hE : MapL Tryz.prog tSlot mkSlot mkI w d E) (hF : MapL Tryz.prog tSlot mkSlot mkI w s F) (hds : d ≠ s) (hl : E.length + F.length < maxLen) :
    Calls Tryz.prog 132 #[.map (some d), .map (some s)] w fun e w' => (∃ v, e = .returned v) ∧ ∃ E', MapL Tryz.prog tSlot mkSlot mkI w' d E' ∧ E'.length ≤ E.length + F.length ∧ Over E F E' ∧ Turned (fun j => j = d) w w' := by
  have HE := Lib.hid hE; have HF := Lib.hid hF
  have hdl := hE.lt
  have hnd := Lib.hid (slots_nodup hF)
  clear hE
  go_enter Tryz.func132, Tryz.ntmps132
  go_wp2_with (first
    | (at_range; refine wpList_rangeL _ rfl _ tMapB rfl tSlot tI64 lawSlot mapB s F rfl HF.out ?_; intro w2 cnt0 hrg0 hg0 hs0))
  go_frame
  go_loopw [5] (fun _ wr => ∃ done cnt E', RangeL Tryz.prog tSlot mkSlot mkI wr s w.heap.size F done cnt ∧ Hid (MapL Tryz.prog tSlot mkSlot mkI wr d E') ∧ E'.length ≤ E.length + done.length ∧ Hid (Over E done E') ∧ Hid (Turned (fun j => j = d ∨ w.heap.size ≤ j) w wr)) (fun _ wr => wr.rangeLeft s w.heap.size)
  case atStart => exact ⟨[], cnt0, E, hrg0, HE.out.kept hg0 (by simp), by simp, Over.zero E, Turned.of_grown hg0 (fun j h => by cases h)⟩
  case round =>
    obtain ⟨done, cnt, E', hrg, HMr, hle, HOv, HTr⟩ := hrel
    have hszr := HTr.out.size
    have hrlt := hrg.lt
    have hdn := hrg.len
    go_wp2_with (first
      | (at_next; refine wpList_nextL _ rfl _ rfl tSlot lawSlot s w.heap.size F done cnt rfl hrg (fun hperm => ?_) (fun x v w3 cnt1 hin hnin hrg1 hlt1 hg1 hs1 hen => ?_); rotate_left; (obtain ⟨a, o⟩ := x; simp only [mkSlot] at hen ⊢)))
    · obtain ⟨kl, hkl⟩ := hrg1.keys _ hin
      have HL := Lib.hid (show keyOf Tryz.prog tSlot (mkSlot (a, o)) = some kl from hkl)
      have HM3 := Lib.hid ((HMr.out.kept hg1 (by simp; omega)).alloc (.cells #[.int .i64 a, .int .i64 o] tSlot))
      have hno : ∀ q ∈ done, q.1 ≠ (a, o) := fun q hq e => hnin (by
        have h1 := hrg.sub q hq
        obtain ⟨q1, q2⟩ := q
        have e1 : q1 = (a, o) := e
        subst e1
        rw [show v = q2 from (lk_mem hnd.out hin).symm.trans (lk_mem hnd.out h1)]
        exact hq)
      have HOv2 := Lib.hid (HOv.out.more (v := v) hno)
      have HR4 := Lib.hid (hrg1.alloc (.cells #[.int .i64 a, .int .i64 o] tSlot))
      have HT4 := Lib.hid (HTr.out.trans ((Turned.of_grown (S := fun j => j = d ∨ w.heap.size ≤ j) hg1 (fun j h => by injection h with h; exact .inr (by omega))).trans (Turned.of_below (below_alloc w3 (.cells #[.int .i64 a, .int .i64 o] tSlot)))))
      have hka := heap_new w3 (.cells #[.int .i64 a, .int .i64 o] tSlot)
      have hE'l : E'.length < maxLen := by unfold maxLen at *; omega
      have hE'2 := Lib.hid (without_len E' (a, o))
      clear hkl hno hin hnin
      go_upto_region 3 with (fail)
      obtain ⟨w4, hw4⟩ : ∃ w4, w4 = w3.alloc (.cells #[.int .i64 a, .int .i64 o] tSlot) := ⟨_, rfl⟩
      rw [← hw4] at HM3 HR4 HT4 hka ⊢
      obtain ⟨k0, k1, _, _⟩ := cell2 hka
      rw [hs1] at k0 k1
      clear hw4 hka hrg1 hen
      obtain ⟨w5, hrr, hm5, ht5⟩ := HM3.out.store lawSlot mapB hE'l HL.out (mkSlot_inj _) v
      have hrr : (Instr.mapUpdate tMapB (.map (some d)) (.agg #[.int .i64 a, .int .i64 o]) (mkI v)).run Tryz.prog w4 = .ok () w5 := hrr
      have HRR := Lib.hid hrr
      have HM5 := Lib.hid hm5; have HT5' := Lib.hid ht5.grown
      clear hm5 ht5 hrr
      go_wp2_with fail
      rw [HRR.out]
      go_wp2_with fail
      have HT5 := Lib.hid (HT4.out.trans (Turned.of_grown (S := fun j => j = d ∨ w.heap.size ≤ j) HT5'.out (fun j h => by injection h with h; exact .inl h.symm)))
      have hr5 := HR4.out.kept HT5'.out (by simp; omega) (by simp; omega)
      clear HM3 HT4 HR4 k0 k1
      go_roundw
      case rel => exact ⟨_, cnt1, _, hr5, HM5.out, by have := hE'2.out; rw [List.length_cons, List.length_append, List.length_singleton]; omega, HOv2.out, HT5.out⟩
      case measure => rw [hr5.left, hrg.left]; exact hlt1
    · have HOv2 := Lib.hid (HOv.out.perm hperm)
      have hlf := hperm.length_eq
      go_wp2_with fail
      go_end0
      refine ⟨⟨_, rfl⟩, E', HMr.out, by omega, HOv2.out, ?_⟩
      exact ⟨HTr.out.os, HTr.out.tape, HTr.out.output, HTr.out.size, fun i hi hs => HTr.out.block i hi (fun h => h.elim hs (fun h => by omega))⟩
end Go.Proofs.YtlkncmpengpbiaaGreatDoor
/- A region that draws its order and writes, at its end, a cell that it loads: a condition B on the world TILL the operation st comes up, A behind it. Of no program. -/
namespace Go.Proofs.YtlkncmpengpbiaaGreatDoor
open Go

section
variable {P : Program} {ops : Array Oper} {Q : Exit → Act → World → Prop} {md : Region.Mode} {st : Nat} {A B : World → Prop}

def Till (st : Nat) (A B : World → Prop) (listed : Array Bool) (w : World) : Prop := (listed.getD st true = true → A w) ∧ (listed.getD st true = false → B w)
def wpAnyT (P : Program) (md : Region.Mode) (ops : Array Oper) (Q : Exit → Act → World → Prop) (st : Nat) (A B : World → Prop) : Nat → Array Bool → Act → World → Prop
  | 0, listed, a, w => Region.ready md ops listed = [] ∧ Q .normal a w
  | fuel + 1, listed, a, w =>
    (Region.ready md ops listed = [] → Q .normal a w) ∧
    ∀ i ∈ Region.ready md ops listed, wpOp P ops Q i (fun a' w' => Till st A B (listed.setIfInBounds i true) w' ∧ wpAnyT P md ops Q st A B fuel (listed.setIfInBounds i true) a' w') a w
theorem wpAny_of_till : ∀ (fuel : Nat) (listed : Array Bool) (a : Act) (w : World), wpAnyT P md ops Q st A B fuel listed a w → wpAny P md ops Q fuel listed a w
  | 0, _, _, _, h => h
  | fuel + 1, _, _, _, h => ⟨h.1, fun i hi => wpOp_mono (fun a' w' h' => wpAny_of_till fuel _ a' w' h'.2) (h.2 i hi)⟩

/-- Operation m waits, through operations of C, for number i. -/
def waitsB (md : Region.Mode) (ops : Array Oper) (i : Nat) (C : List Nat) : Bool :=
  C.all fun m => match ops[m]? with | some om => om.after.any (fun e => Region.binds md e && (decide (e.on = i) || C.contains e.on)) | none => false
def unlistedB (C : List Nat) (listed : Array Bool) : Bool := C.all fun m => !(listed.getD m true)

theorem wpAnyT_first {i : Nat} {oi : Oper} {v : Value} {C : List Nat} (hi : ops[i]? = some oi) (hsel : ∀ (j : Nat) (o : Oper) cs b, ops[j]? = some o → o.op ≠ .select cs b)
    (hQ : ∀ c a w, Q (.panic c) (a.put oi.dst v) w → Q (.panic c) a w) (hC : waitsB md ops i C = true) (hst : st ∈ C) :
    ∀ (fuel : Nat) (listed : Array Bool) (a : Act) (w : World),
      (∀ j oj, ops[j]? = some oj → j ≠ i → listed.getD j true = false → (∀ e ∈ oj.after, Region.binds md e = true → e.on ≠ i) → oi.apart ops oj = true) →
      (∀ m ∈ C, listed.getD m true = false) →
      i ∈ Region.ready md ops listed → YieldsIf P ops B oi v a → B w →
      wpAnyT P md ops Q st A B fuel (listed.setIfInBounds i true) (a.put oi.dst v) w → wpAnyT P md ops Q st A B (fuel + 1) listed a w := by
  have hwait : ∀ (listed : Array Bool) j, (∀ m ∈ C, listed.getD m true = false) → listed.getD i true = false → j ∈ Region.ready md ops listed → j ∉ C := by
    intro listed j hl hil hj hjC
    unfold waitsB at hC
    have h1 := List.all_eq_true.1 hC j hjC
    obtain ⟨_, oj, hoj, hall⟩ := mem_ready.1 hj
    rw [hoj] at h1
    simp only [Array.any_eq_true', Bool.and_eq_true, Bool.or_eq_true, decide_eq_true_eq, List.contains_iff_mem] at h1
    obtain ⟨e, he, hb, hor⟩ := h1
    have h2 := hall e he hb
    have h3 : listed.getD e.on true = false := by
      rcases hor with h | h
      · rw [h]; exact hil
      · exact hl _ h
    rcases Nat.lt_or_ge e.on listed.size with h' | h'
    · simp [h'] at h2 h3; rw [h2] at h3; cases h3
    · simp [Array.getElem?_eq_none h'] at h3
  intro fuel
  induction fuel with
  | zero =>
    intro listed a w _ hl hr hy hS H
    have hil := (mem_ready.1 hr).1
    have hiC := hwait listed i hl hil hr
    refine ⟨fun h => (by rw [h] at hr; cases hr), fun j hj => ?_⟩
    by_cases hji : j = i
    · subst hji
      refine hy.wpOp hi hS ⟨?_, H⟩
      have e : (listed.setIfInBounds j true).getD st true = false := by rw [getD_set_ne true (fun e => hiC (by rw [e]; exact hst))]; exact hl _ hst
      exact ⟨fun h => (by rw [e] at h; cases h), fun _ => hS⟩
    · have := ready_mono hj hji
      rw [H.1] at this
      cases this
  | succ fuel ih =>
    intro listed a w hfree hl hr hy hS H
    have hil := (mem_ready.1 hr).1
    have hiC := hwait listed i hl hil hr
    refine ⟨fun h => (by rw [h] at hr; cases hr), fun j hj => ?_⟩
    by_cases hji : j = i
    · subst hji
      refine hy.wpOp hi hS ⟨?_, H⟩
      have e : (listed.setIfInBounds j true).getD st true = false := by rw [getD_set_ne true (fun e => hiC (by rw [e]; exact hst))]; exact hl _ hst
      exact ⟨fun h => (by rw [e] at h; cases h), fun _ => hS⟩
    · have h1 := H.2 j (ready_mono hj hji)
      obtain ⟨hjun, oj, hoj, hall⟩ := mem_ready.1 hj
      have hjC := hwait listed j hl hil hj
      have hnot : ∀ e ∈ oj.after, Region.binds md e = true → e.on ≠ i := fun e he hb heq => by
        have h1 := hall e he hb
        have h0 := (mem_ready.1 hr).1
        rw [heq] at h1
        rcases Nat.lt_or_ge i listed.size with h' | h'
        · simp [h'] at h0 h1; rw [h0] at h1; cases h1
        · simp [Array.getElem?_eq_none h'] at h1
      have h2 := wpOp_putIf hoj (hfree j oj hoj hji hjun hnot) (fun cs b => hsel i oi cs b hi) (fun cs b => hsel j oj cs b hoj) hQ hy h1
      have hfree' : ∀ k ok, ops[k]? = some ok → k ≠ i → (listed.setIfInBounds j true).getD k true = false →
          (∀ e ∈ ok.after, Region.binds md e = true → e.on ≠ i) → oi.apart ops ok = true := fun k ok hk hki hun hno => by
        refine hfree k ok hk hki ?_ hno
        by_cases hjk : j = k
        · subst hjk; exact hjun
        · rw [getD_set_ne true hjk] at hun; exact hun
      have hl' : ∀ m ∈ C, (listed.setIfInBounds j true).getD m true = false := fun m hm => by
        rw [getD_set_ne true (fun e => hjC (by rw [e]; exact hm))]; exact hl m hm
      have e1 : ((listed.setIfInBounds i true).setIfInBounds j true).getD st true = false := by
        rw [Array.setIfInBounds_comm _ _ (Ne.symm hji), getD_set_ne true (fun e => hiC (by rw [e]; exact hst))]; exact hl' _ hst
      refine wpOp_mono (fun a' w' h3 => ⟨⟨fun h => (by rw [hl' _ hst] at h; cases h), fun _ => h3.2.1.2 e1⟩, ih (listed.setIfInBounds j true) a' w' hfree' hl' (ready_mono hr (Ne.symm hji)) h3.1 (h3.2.1.2 e1) ?_⟩) h2
      rw [Array.setIfInBounds_comm _ _ hji]
      exact h3.2.2

theorem wpAnyT_take (C : List Nat) {i : Nat} {oi : Oper} {v : Value} {fuel : Nat} {listed : Array Bool} {a : Act} {w : World} (hi : ops[i]? = some oi)
    (hs : Region.noSelect ops = true) (hf : Region.free md ops listed i = true) (hr : (Region.ready md ops listed).contains i = true)
    (hQ : ∀ c a w, Q (.panic c) (a.put oi.dst v) w → Q (.panic c) a w) (hC : (waitsB md ops i C && unlistedB C listed && C.contains st) = true) (hy : YieldsIf P ops B oi v a) (hS : B w)
    (h : wpAnyT P md ops Q st A B fuel (listed.setIfInBounds i true) (a.put oi.dst v) w) : wpAnyT P md ops Q st A B (fuel + 1) listed a w := by
  simp only [Bool.and_eq_true] at hC
  obtain ⟨⟨h1, h2⟩, h3⟩ := hC
  refine wpAnyT_first hi (Region.noSelect_spec hs) hQ h1 (by simpa using h3) fuel listed a w (Region.free_spec hi hf) (fun m hm => ?_) (by simpa using hr) hy hS h
  unfold unlistedB at h2
  simpa using List.all_eq_true.1 h2 m hm

/-- The operations that wait for number i. -/
def behindL (md : Region.Mode) (ops : Array Oper) (i : Nat) : List Nat := (List.range ops.size).foldl (fun acc m => match ops[m]? with | some om => if om.after.any (fun e => Region.binds md e && (decide (e.on = i) || acc.contains e.on)) then m :: acc else acc | none => acc) []

theorem wpAnyT_go {i : Nat} {oi : Oper} {v : Value} {fuel : Nat} {listed : Array Bool} {a : Act} {w : World} (hi : ops[i]? = some oi)
    (hs : Region.noSelect ops = true) (hf : Region.free md ops listed i = true) (hr : (Region.ready md ops listed).contains i = true)
    (hQ : ∀ c a w, Q (.panic c) (a.put oi.dst v) w → Q (.panic c) a w) (hC : (waitsB md ops i (behindL md ops i) && unlistedB (behindL md ops i) listed && (behindL md ops i).contains st) = true) (hy : YieldsIf P ops B oi v a) (hS : B w)
    (h : wpAnyT P md ops Q st A B fuel (listed.setIfInBounds i true) (a.put oi.dst v) w) : wpAnyT P md ops Q st A B (fuel + 1) listed a w :=
  wpAnyT_take (behindL md ops i) hi hs hf hr hQ hC hy hS h

def AllReadyT (P : Program) (md : Region.Mode) (ops : Array Oper) (Q : Exit → Act → World → Prop) (st : Nat) (A B : World → Prop) (fuel : Nat) (listed : Array Bool) (a : Act) (w : World) (rs : List Nat) : Prop :=
  ∀ i ∈ rs, wpOp P ops Q i (fun a' w' => Till st A B (listed.setIfInBounds i true) w' ∧ wpAnyT P md ops Q st A B fuel (listed.setIfInBounds i true) a' w') a w
theorem AllReadyT.nil {fuel : Nat} {listed : Array Bool} {a : Act} {w : World} : AllReadyT P md ops Q st A B fuel listed a w [] := fun _ h => by cases h
/-- One that comes up ahead of st. -/
theorem AllReadyT.cons {fuel : Nat} {listed : Array Bool} {a : Act} {w : World} {i : Nat} {o : Oper} {rs : List Nat} (ho : ops[i]? = some o) (hst : (listed.setIfInBounds i true).getD st true = false)
    (h : ∀ K' : Act → World → Prop, Shut (∀ a w, B w → (B w → wpAnyT P md ops Q st A B fuel (listed.setIfInBounds i true) a w) → K' a w) → if Region.wanted o (yielded ops a.tmps) = true then Oper.wp P o a w K' Q else K' (a.put o.dst undef) w)
    (hs : AllReadyT P md ops Q st A B fuel listed a w rs) : AllReadyT P md ops Q st A B fuel listed a w (i :: rs) := fun j hj => by
  rcases List.mem_cons.1 hj with rfl | hj
  · exact wpOp_step ho (fun K' hK => h K' (fun a w hS hW => hK a w ⟨⟨fun h => (by rw [hst] at h; cases h), fun _ => hS⟩, hW hS⟩))
  · exact hs j hj
/-- st itself, or one behind it. -/
theorem AllReadyT.last {fuel : Nat} {listed : Array Bool} {a : Act} {w : World} {i : Nat} {o : Oper} {rs : List Nat} (ho : ops[i]? = some o) (hst : (listed.setIfInBounds i true).getD st true = true)
    (h : ∀ K' : Act → World → Prop, Shut (∀ a w, A w → (A w → wpAnyT P md ops Q st A B fuel (listed.setIfInBounds i true) a w) → K' a w) → if Region.wanted o (yielded ops a.tmps) = true then Oper.wp P o a w K' Q else K' (a.put o.dst undef) w)
    (hs : AllReadyT P md ops Q st A B fuel listed a w rs) : AllReadyT P md ops Q st A B fuel listed a w (i :: rs) := fun j hj => by
  rcases List.mem_cons.1 hj with rfl | hj
  · exact wpOp_step ho (fun K' hK => h K' (fun a w hS hW => hK a w ⟨⟨fun _ => hS, fun h => (by rw [hst] at h; cases h)⟩, hW hS⟩))
  · exact hs j hj
theorem wpAnyT_ready {rs : List Nat} {fuel : Nat} {listed : Array Bool} {a : Act} {w : World} (hr : Region.ready md ops listed = rs) (hne : rs ≠ [])
    (h : AllReadyT P md ops Q st A B fuel listed a w rs) : wpAnyT P md ops Q st A B (fuel + 1) listed a w := ⟨fun h0 => absurd (hr ▸ h0) hne, hr ▸ h⟩
theorem wpAnyT_done {listed : Array Bool} {a : Act} {w : World} (hr : Region.ready md ops listed = []) (h : Q .normal a w) :
    ∀ fuel, wpAnyT P md ops Q st A B fuel listed a w
  | 0 => ⟨hr, h⟩
  | _ + 1 => ⟨fun _ => h, by rw [hr]; simp⟩
theorem wp_region_till (st : Nat) (A B : World → Prop) {id : Nat} {a : Act} {w : World} (hm : P.follows .mixedOrders = true) (hS : B w.drew)
    (h : B w.drew → wpAnyT P .any ops Q st A B ops.size (Array.replicate ops.size false) a w.drew) : (Code.region id ops true).wp P Q a w :=
  wp_region_any hm (wpAny_of_till _ _ _ _ (h hS))
end
end Go.Proofs.YtlkncmpengpbiaaGreatDoor
/- Books: a posting that is new is posted. -/
namespace Go.Proofs.YtlkncmpengpbiaaGreatDoor
open Go.RowKit Go.Maps Co
set_option linter.unusedSimpArgs false
set_option linter.unusedVariables false
set_option maxRecDepth 100000
set_option maxHeartbeats 8000000

theorem over_four {b : List Po} {p : Po} (hp : mayP p) {E E' : List ((Int × Int) × Int)} (h : Over E (four b p) E') (hb : ∀ a o, lk E (a, o) = balI b a o) (a o : Int) : lk E' (a, o) = balI (b ++ [p]) a o := by
 by_cases hm : ∃ e ∈ four b p, e.1 = (a, o)
 ·obtain ⟨⟨k, v⟩, he, e1⟩ := hm
  have e1 : k = (a, o) := e1
  subst e1
  rw [(h (a, o)).1 v he]
  exact four_keys he hp
 ·have hn : ∀ e ∈ four b p, e.1 ≠ (a, o) := fun e he e1 => hm ⟨e, he, e1⟩
  rw [(h (a, o)).2 hn, hb]
  exact (not_four (j := (a, o)) hn).symm
theorem slook_no {w : World} {pm : Nat} {E : List (List UInt8 × Po)} (hE : MapL Tryz.prog tStrC mkStrC mkPost w pm E) {s : List UInt8} (hs : s.length ≤ 1000) (hn : ∀ e ∈ E, e.1 ≠ s) :
  (Instr.lookup tMapS (.map (some pm)) (.string ⟨s.toArray⟩) true).run Tryz.prog w = .ok (.tuple #[mkPost ⟨[], 0, 0, 0, 0⟩, .bool false]) w := by
 obtain ⟨l, hl⟩ := str_readsC s hs
 rcases hE.look lawStrC mapS (zeroPost w) hl (mkStr_injC _) with ⟨v, hv, _, hr⟩ | ⟨_, hr, _⟩
 ·exact absurd rfl (hn _ hv)
 ·exact hr
theorem set3_0 {w : World} {b : Nat} {x0 x1 x2 : Value} {T : TypeId} (h : w.heap[b]? = some (.cells #[x0, x1, x2] T (0, 0))) (p : Value) : (w.setCell ⟨b, 0, none⟩ p).heap[b]? = some (.cells #[p, x1, x2] T (0, 0)) := by
 simp [World.setCell, Array.getElem?_modify, h]
theorem bpost_any {B : Nat} {w : World} {bb pm bm : Nat} {vb : Value} {b : List Po} (h : Bw B w bb pm bm vb b) (p : Po) (hp : mayP p) (hf : ∀ x ∈ b, x.id ≠ p.id) (hl : b.length ≤ 100000) :
  Calls Tryz.prog 101 #[.pointer (some ⟨bb, 0, none⟩), mkPost p] w fun e w' => ∃ vb', e = .returned (.int .i64 0) ∧ Bw B w' bb pm bm vb' (b ++ [p]) ∧ Turned (Bs bb pm bm vb) w w' ∧ ∀ j, vb'.ownBlock = some j → vb.ownBlock = some j ∨ w.heap.size ≤ j := by
 obtain ⟨i0, hi, hz0, hz1, hz2⟩ := info_parts post_info
 obtain ⟨Ab, cb, rfl, _⟩ := own_slice h.ob
 have HOL := Hd (fun j hj => (h.ob.lt j hj).2)
 have hlt := h.lt
 have hne := h.ne
 have hge := h.ge
 have hoo := h.oo
 obtain ⟨Ep, hEp, hEl, hEi⟩ := h.mp
 obtain ⟨Eb, hEb, hEbl, hEbal⟩ := h.mb
 have HBAL := Hd hEbal
 have HNO := Hd (fun e (he : e ∈ Ep) => (show e.1 ≠ p.id from fun e1 => by obtain ⟨x, hx, e2⟩ := hEi e he; exact hf x hx (e2.trans e1)))
 have hid : p.id.length ≤ 1000 := hp.2.1
 obtain ⟨wa, hA⟩ : ∃ wa, wa = w.alloc (.cells #[.string ⟨p.id.toArray⟩, .int .i64 p.ord, .int .i64 p.deb, .int .i64 p.cre, .int .i64 p.amt] tPost) := ⟨_, rfl⟩
 have hB : Below w.heap.size w wa := by rw [hA]; exact below_alloc _ _
 have hX : wa.heap[w.heap.size]? = some (.cells #[.string ⟨p.id.toArray⟩, .int .i64 p.ord, .int .i64 p.deb, .int .i64 p.cre, .int .i64 p.amt] tPost (0, 0)) := by rw [hA]; exact heap_new _ _
 have HA := Hd hA; have HB := Hd hB; have HX := Hd hX; have HW := Hd (h.below hB); have HP := Hd hp; have HEI := Hd hEi; have HOK := Hd h.ok
 have HEp := Hd (hEp.below hB); have HEb := Hd (hEb.below hB)
 clear hA hB hX h hp hEi hEp hEb hEbal hf
 obtain ⟨m0, m1, m2, m3, m4⟩ := cell5 HX.out
 obtain ⟨c0, c1, c2⟩ := cell3c HW.out.hd
 have hxlt := heap_lt HX.out
 go_enter Tryz.func101, Tryz.ntmps101
 go_upto_region 1 with (fail)
 rw [← HA.out]
 go_wp2_with (go_at_call 108; refine (bnone_any HW.out).mono ?_; rintro e w1 ⟨rfl, hb⟩; subst hb)
 refine (bmay_any p wa HP.out).mono ?_
 rintro e w1 ⟨rfl, hb⟩
 have HB1 := Hd (bch HB.out hb HB.out.size); have HX1 := Hd (heap_keep HX.out hb); have HW1 := Hd (HW.out.below hb); have HEp1 := Hd (HEp.out.below hb); have HEb1 := Hd (HEb.out.below hb)
 clear hb m0 m1 m2 m3 m4 c0 c1 c2 HX HW HEp HEb HB HA
 obtain ⟨m0, m1, m2, m3, m4⟩ := cell5 HX1.out
 obtain ⟨c0, c1, c2⟩ := cell3c HW1.out.hd
 have hxlt1 := heap_lt HX1.out
 go_wp2_with fail
 have HLK := Hd (fun W (hb : Below w1.heap.size w1 W) => slook_no (HEp1.out.below hb) hid HNO.out)
 have HH := Hd (fun W (hb : Below w1.heap.size w1 W) => (⟨Hd hb, kc hb c1, kc hb m0⟩ : (fun w' => Hid (Below w1.heap.size w1 w') ∧ w'.cell? ⟨bb, 1, none⟩ = some (.map (some pm)) ∧ w'.cell? ⟨w.heap.size, 0, none⟩ = some (.string ⟨p.id.toArray⟩)) W))
 refine wp_region_noPanic ?_
 refine wp_region_held_drew (S := (fun w' => Hid (Below w1.heap.size w1 w') ∧ w'.cell? ⟨bb, 1, none⟩ = some (.map (some pm)) ∧ w'.cell? ⟨w.heap.size, 0, none⟩ = some (.string ⟨p.id.toArray⟩))) (by kernel_rfl) (HH.out _ (below_drew1 (Below.refl w1.heap.size w1))) (fun hHeld => ?_)
 refine tk 0 rfl rfl ‹_› ?_; try go_frame
 refine tk 1 rfl rfl ‹_› ?_; try go_frame
 refine tk 2 rfl rfl ‹_› ?_; try go_frame
 refine tk 3 rfl rfl ‹_› ?_; try go_frame
 refine tk 4 rfl rfl ‹_› ?_; try go_frame
 refine tk 5 rfl rfl ‹_› ?_; try go_frame
 refine wpAnyH_take (i := 6) (v := ?vc6_7) rfl (by kernel_rfl) (by kernel_rfl) (by kernel_rfl) (fun _ _ _ h => h) (Or.inl ⟨by rfl, ?hyc6_7⟩) (by assumption) ?restc6_7
 case hyc6_7 => (intro w0 hSw; (try dsimp only at hSw); go_simp; rw [HLK.out w0 (Hid.out hSw.1)]; rfl)
 case' restc6_7 => (try simp only [gx1, gx2, gx3]); try go_frame
 refine tk 7 rfl rfl ‹_› ?_; try go_frame
 refine tk 8 rfl rfl ‹_› ?_; try go_frame
 refine tk 9 rfl rfl ‹_› ?_; try go_frame
 refine rdy 10 rfl (fun K hK => ?_)
 go_simp
 refine hK.out _ _ (HH.out _ (bch (below_drew1 (Below.refl w1.heap.size w1)) (below_alloc w1.drew _) (Nat.le_refl _))) (fun hHeld => ?_)
 clear hK K
 (try simp only [gx1, gx2, gx3]); try go_frame
 refine rdy 11 rfl (fun K hK => ?_)
 go_simp
 refine hK.out _ _ (HH.out _ (bch (below_drew1 (Below.refl w1.heap.size w1)) (below_alloc w1.drew _) (Nat.le_refl _))) (fun hHeld => ?_)
 clear hK K
 (try simp only [gx1, gx2, gx3]); try go_frame
 refine tk 12 rfl rfl ‹_› ?_; try go_frame
 refine wpAnyH_done (by kernel_rfl) ?_ _
 refine NoPanic.normal ?_
 obtain ⟨w2, hw2⟩ : ∃ w2, w2 = (w1.alloc (.cells #[.string ⟨#[]⟩, .int .i64 0, .int .i64 0, .int .i64 0, .int .i64 0] tPost)).drew := ⟨_, rfl⟩
 rw [← hw2]
 have hb2 : Below w1.heap.size w1 w2 := by rw [hw2]; exact below_drew1' (below_alloc _ _)
 have HB2 := Hd (bch HB1.out hb2 HB1.out.size); have HX2 := Hd (heap_keep HX1.out hb2); have HW2 := Hd (HW1.out.below hb2); have HEp2 := Hd (HEp1.out.below hb2); have HEb2 := Hd (HEb1.out.below hb2)
 clear hw2 hb2 hHeld HH HLK m0 m1 m2 m3 m4 c0 c1 c2 HB1 HX1 HW1 HEp1 HEb1
 obtain ⟨m0, m1, m2, m3, m4⟩ := cell5 HX2.out
 obtain ⟨c0, c1, c2⟩ := cell3c HW2.out.hd
 go_wp2_with fail
 refine (bmoves_any HW2.out p HP.out hl).mono ?_
 rintro e w3 ⟨mo, rfl, hmo, hM, hb⟩
 have HB3 := Hd (bch HB2.out hb HB2.out.size); have HX3 := Hd (heap_keep HX2.out hb); have HW3 := Hd (HW2.out.below hb); have HEp3 := Hd (HEp2.out.below hb); have HEb3 := Hd (HEb2.out.below hb); have HM3 := Hd hM
 have hbm3 : bm ≠ mo := by have := HEb2.out.lt; omega
 clear hb hM m0 m1 m2 m3 m4 c0 c1 c2 HB2 HX2 HW2 HEp2 HEb2
 obtain ⟨c0, c1, c2⟩ := cell3c HW3.out.hd
 go_wp2_with fail
 refine (bcopy_any HEb3.out HM3.out hbm3 (by unfold four maxLen; simp only [List.length_cons, List.length_nil]; omega)).mono ?_
 rintro e w4 ⟨⟨v, rfl⟩, E', hE', hEl', hOv, ht⟩
 have HO4 := Hd (own_turned HW3.out.ob ht (fun j hj hs => (hoo j hj).2.2 hs))
 have HD4 := Hd (heap_turned HW3.out.hd ht (by omega))
 have hxb : w.heap.size ≠ bm := by omega
 have HX4 := Hd (heap_turned HX3.out ht hxb)
 have HEp4 := Hd (HEp3.out.block (ht.block pm HEp3.out.lt hne.2.2))
 have HE4 := Hd hE'
 have HNB := Hd (over_four HP.out hOv HBAL.out)
 have hE'l : E'.length ≤ 4 * b.length + 4 := by simp only [four, List.length_cons, List.length_nil] at hEl'; omega
 have HT4 := Hd (show Turned (Bs bb pm bm (.slice Ab b.length cb)) w w4 from (Turned.of_below HB3.out).trans (ht.mono (fun i h => .inr (.inr (.inl h)))))
 clear ht hE' hEl' hOv HX3 HW3 HEp3 HEb3 HM3 c0 c1 c2
 obtain ⟨m0, m1, m2, m3, m4⟩ := cell5 HX4.out
 obtain ⟨c0, c1, c2⟩ := cell3c HD4.out
 go_wp2_with fail
 refine wp_region_still_tail 7 (by kernel_rfl) (by kernel_rfl) ?_
 simp only [List.take_succ_cons, List.take_zero, List.drop_succ_cons, List.drop_zero]
 iterate 7 still_step
 refine wpStill_nil ?_
 change wpList _ _ _ _ _ w4.drew
 obtain ⟨kl, hkl⟩ := str_readsC p.id hid
 refine wpList_storeL _ rfl (.tmp 47) (.tmp 49) (.tmp 50) tMapS rfl tStrC tPost lawStrC mapS pm Ep rfl (HEp4.out.block rfl) (by unfold maxLen; omega) p.id p rfl rfl hkl (mkStr_injC _) ?_
 intro w5 hm5 ht5
 have ht45 : Turned (fun j => j = pm) w4 w5 := (Turned.refl _ w4).drew.trans (Turned.of_grown ht5.grown (fun j h => by injection h with h; exact h.symm))
 have HO5 := Hd (own_turned HO4.out ht45 (fun j hj hs => (hoo j hj).2.1 hs))
 have HD5 := Hd (heap_turned HD4.out ht45 (by omega))
 have hxp : w.heap.size ≠ pm := by omega
 have HX5 := Hd (heap_turned HX4.out ht45 hxp)
 have HE5 := Hd (HE4.out.block (ht45.block bm HE4.out.lt (fun e => hne.2.2 e.symm)))
 have HM5 := Hd hm5
 have HT5 := Hd (HT4.out.trans (ht45.mono (fun i h => .inr (.inl h))))
 clear hm5 ht5 ht45 hkl m0 m1 m2 m3 m4 c0 c1 c2 HO4 HD4 HX4 HE4 HT4 HEp4
 have hs5 : w.heap.size ≤ w5.heap.size := HT5.out.size
 obtain ⟨m0, m1, m2, m3, m4⟩ := cell5 HX5.out
 obtain ⟨c0, c1, c2⟩ := cell3c HD5.out
 go_wp2_with fail
 have hxo : ¬ Value.ownBlock (.slice Ab b.length cb) = some w.heap.size := fun e => by have := (HO5.out.lt _ e); have h2 := HOL.out _ e; omega
 have hbo : ¬ Value.ownBlock (.slice Ab b.length cb) = some bb := fun e => (hoo _ e).1 rfl
 have HH := Hd (fun W (hb : Turned (fun j => Value.ownBlock (.slice Ab b.length cb) = some j) w5 W) => (⟨Hd hb, cell_at (heap_turned HD5.out hb hbo) 0 rfl, cell_at (heap_turned HX5.out hb hxo) 0 rfl, cell_at (heap_turned HX5.out hb hxo) 1 rfl, cell_at (heap_turned HX5.out hb hxo) 2 rfl, cell_at (heap_turned HX5.out hb hxo) 3 rfl, cell_at (heap_turned HX5.out hb hxo) 4 rfl⟩ : (fun w' => Hid (Turned (fun j => Value.ownBlock (.slice Ab b.length cb) = some j) w5 w') ∧ w'.cell? ⟨bb, 0, none⟩ = some (.slice Ab b.length cb) ∧ w'.cell? ⟨w.heap.size, 0, none⟩ = some (.string ⟨p.id.toArray⟩) ∧ w'.cell? ⟨w.heap.size, 1, none⟩ = some (.int .i64 p.ord) ∧ w'.cell? ⟨w.heap.size, 2, none⟩ = some (.int .i64 p.deb) ∧ w'.cell? ⟨w.heap.size, 3, none⟩ = some (.int .i64 p.cre) ∧ w'.cell? ⟨w.heap.size, 4, none⟩ = some (.int .i64 p.amt)) W))
 refine wp_region_noPanic ?_
 refine wp_region_till 10 (fun _ => True) (fun w' => Hid (Turned (fun j => Value.ownBlock (.slice Ab b.length cb) = some j) w5 w') ∧ w'.cell? ⟨bb, 0, none⟩ = some (.slice Ab b.length cb) ∧ w'.cell? ⟨w.heap.size, 0, none⟩ = some (.string ⟨p.id.toArray⟩) ∧ w'.cell? ⟨w.heap.size, 1, none⟩ = some (.int .i64 p.ord) ∧ w'.cell? ⟨w.heap.size, 2, none⟩ = some (.int .i64 p.deb) ∧ w'.cell? ⟨w.heap.size, 3, none⟩ = some (.int .i64 p.cre) ∧ w'.cell? ⟨w.heap.size, 4, none⟩ = some (.int .i64 p.amt)) (by kernel_rfl) (HH.out _ ((Turned.refl _ w5).drew)) (fun hHeld => ?_)
 refine wpAnyT_go (i := 0) (v := ?vt0_1) rfl (by kernel_rfl) (by kernel_rfl) (by kernel_rfl) (fun _ _ _ h => h) (by kernel_rfl) (Or.inl ⟨by rfl, ?hyt0_1⟩) (by assumption) ?restt0_1
 case hyt0_1 => (intro w0 hSw; (try dsimp only at hSw); go_simp; try with_reducible rfl)
 case' restt0_1 => (try simp only [gx1, gx2, gx3]); try go_frame
 refine wpAnyT_go (i := 1) (v := ?vt1_2) rfl (by kernel_rfl) (by kernel_rfl) (by kernel_rfl) (fun _ _ _ h => h) (by kernel_rfl) (Or.inl ⟨by rfl, ?hyt1_2⟩) (by assumption) ?restt1_2
 case hyt1_2 => (intro w0 hSw; (try dsimp only at hSw); go_simp; try with_reducible rfl)
 case' restt1_2 => (try simp only [gx1, gx2, gx3]); try go_frame
 refine wpAnyT_go (i := 2) (v := ?vt2_3) rfl (by kernel_rfl) (by kernel_rfl) (by kernel_rfl) (fun _ _ _ h => h) (by kernel_rfl) (Or.inl ⟨by rfl, ?hyt2_3⟩) (by assumption) ?restt2_3
 case hyt2_3 => (intro w0 hSw; (try dsimp only at hSw); go_simp; try with_reducible rfl)
 case' restt2_3 => (try simp only [gx1, gx2, gx3]); try go_frame
 refine wpAnyT_go (i := 3) (v := ?vt3_4) rfl (by kernel_rfl) (by kernel_rfl) (by kernel_rfl) (fun _ _ _ h => h) (by kernel_rfl) (Or.inl ⟨by rfl, ?hyt3_4⟩) (by assumption) ?restt3_4
 case hyt3_4 => (intro w0 hSw; (try dsimp only at hSw); go_simp; try with_reducible rfl)
 case' restt3_4 => (try simp only [gx1, gx2, gx3]); try go_frame
 refine wpAnyT_go (i := 4) (v := ?vt4_5) rfl (by kernel_rfl) (by kernel_rfl) (by kernel_rfl) (fun _ _ _ h => h) (by kernel_rfl) (Or.inl ⟨by rfl, ?hyt4_5⟩) (by assumption) ?restt4_5
 case hyt4_5 => (intro w0 hSw; (try dsimp only at hSw); go_simp; try with_reducible rfl)
 case' restt4_5 => (try simp only [gx1, gx2, gx3]); try go_frame
 refine wpAnyT_go (i := 5) (v := ?vt5_6) rfl (by kernel_rfl) (by kernel_rfl) (by kernel_rfl) (fun _ _ _ h => h) (by kernel_rfl) (Or.inl ⟨by rfl, ?hyt5_6⟩) (by assumption) ?restt5_6
 case hyt5_6 => (intro w0 hSw; (try dsimp only at hSw); go_simp; try with_reducible rfl)
 case' restt5_6 => (try simp only [gx1, gx2, gx3]); try go_frame
 refine wpAnyT_ready (rs := [6]) (by kernel_rfl) (by simp) ?_
 refine AllReadyT.cons rfl (by kernel_rfl) (fun K hK => ?_) AllReadyT.nil
 go_simp
 refine hK.out _ _ (HH.out _ ((Turned.refl _ w5).drew.trans (Turned.of_below (below_alloc _ _)))) (fun hHeld => ?_)
 clear hK K
 (try simp only [gx1, gx2, gx3]); try go_frame
 refine wpAnyT_ready (rs := [7]) (by kernel_rfl) (by simp) ?_
 refine AllReadyT.cons rfl (by kernel_rfl) (fun K hK => ?_) AllReadyT.nil
 refine step_append_any _ rfl (.tmp 55) (.tmp 57) tPosts rfl B tPost i0 (mkPost ⟨[], 0, 0, 0, 0⟩) 5 48 Tryz.underlying95 hi hz0 hz1 hz2 rfl (by decide) (.slice Ab b.length cb) b.length (b.flatMap encP) rfl (World.ownsRow.alloc (w := w5.drew) (own_turned HO5.out (Turned.refl (fun _ => False) w5).drew (fun _ _ h => h)) _) 1 (encP p) (src_blk (xs := encP p) (heap_new _ _) (encP_one _)) (by unfold maxLen; omega) (by omega) (by have := HD5.out; have := heap_lt this; simp; omega) ?_
 intro v6 w6 ho6 hg6 hat6
 have ht6 : Turned (fun j => Value.ownBlock (.slice Ab b.length cb) = some j) w5 w6 := ((Turned.refl _ w5).drew.trans (Turned.of_below (below_alloc _ _))).trans (Turned.of_grown hg6 (fun j h => h))
 obtain ⟨A6, c6, rfl, _⟩ := own_slice ho6
 refine hK.out _ _ (HH.out _ (ht6)) (fun hHeld => ?_)
 clear hK K
 (try simp only [gx1, gx2, gx3]); try go_frame
 refine wpAnyT_go (i := 8) (v := ?vt8_7) rfl (by kernel_rfl) (by kernel_rfl) (by kernel_rfl) (fun _ _ _ h => h) (by kernel_rfl) (Or.inl ⟨by rfl, ?hyt8_7⟩) (by assumption) ?restt8_7
 case hyt8_7 => (intro w0 hSw; (try dsimp only at hSw); go_simp; try with_reducible rfl)
 case' restt8_7 => (try simp only [gx1, gx2, gx3]); try go_frame
 refine wpAnyT_go (i := 9) (v := ?vt9_8) rfl (by kernel_rfl) (by kernel_rfl) (by kernel_rfl) (fun _ _ _ h => h) (by kernel_rfl) (Or.inl ⟨by rfl, ?hyt9_8⟩) (by assumption) ?restt9_8
 case hyt9_8 => (intro w0 hSw; (try dsimp only at hSw); go_simp; try with_reducible rfl)
 case' restt9_8 => (try simp only [gx1, gx2, gx3]); try go_frame
 have HD6 := Hd (heap_turned HD5.out ht6 hbo)
 obtain ⟨y0, y1, y2⟩ := cell3c HD6.out
 obtain ⟨f0, f1, f2⟩ := froz3 HD6.out
 refine wpAnyT_ready (rs := [10]) (by kernel_rfl) (by simp) ?_
 refine AllReadyT.last rfl (by kernel_rfl) (fun K hK => ?_) AllReadyT.nil
 go_simp
 refine hK.out _ _ trivial (fun hHeld => ?_)
 clear hK K
 (try simp only [gx1, gx2, gx3]); try go_frame
 refine wpAnyT_done (by kernel_rfl) ?_ _
 refine NoPanic.normal ?_
 have ht7 := turned_set w6 bb 0 (.slice A6 (b.length + 1) c6)
 have hfar6 : ∀ j, Value.ownBlock (.slice A6 (b.length + 1) c6) = some j → Value.ownBlock (.slice Ab b.length cb) = some j ∨ w.heap.size ≤ j := fun j hj => by rcases hat6 with h | h; (exact .inl (by rw [← h]; exact hj)); (right; rw [hj] at h; injection h with h; simp at h; omega)
 have HNEW := Hd (show Bw B (w6.setCell ⟨bb, 0, none⟩ (.slice A6 (b.length + 1) c6)) bb pm bm (.slice A6 (b.length + 1) c6) (b ++ [p]) from {
  hd := set3_0 HD6.out _
  ob := own_turned (by rw [List.length_append, List.flatMap_append]; simpa using ho6) ht7 (fun j hj hs => by rcases hfar6 j hj with h | h; (exact (hoo j h).1 hs); omega)
  mp := ⟨_, (HM5.out.block (ht6.block pm HM5.out.lt (fun e => (hoo _ e).2.1 rfl))).block (ht7.block pm (Nat.lt_of_lt_of_le HM5.out.lt ht6.size) (by omega)), by have := without_len Ep p.id; rw [List.length_cons, List.length_append, List.length_singleton]; omega, fun e he => by
    rcases List.mem_cons.1 he with rfl | he
    ·exact ⟨p, by simp, rfl⟩
    ·obtain ⟨x, hx, e2⟩ := HEI.out e (mem_without.1 he).1
     exact ⟨x, List.mem_append.2 (.inl hx), e2⟩⟩
  mb := ⟨E', (HE5.out.block (ht6.block bm HE5.out.lt (fun e => (hoo _ e).2.2 rfl))).block (ht7.block bm (Nat.lt_of_lt_of_le HE5.out.lt ht6.size) (by omega)), by rw [List.length_append, List.length_singleton]; omega, HNB.out⟩
  ge := hge
  ne := hne
  oo := fun j hj => by rcases hfar6 j hj with h | h; (exact hoo j h); omega
  ok := fun x hx => by rcases List.mem_append.1 hx with hx | hx; (exact HOK.out x hx); (rw [List.mem_singleton] at hx; rw [hx]; exact HP.out) })
 have HTN := Hd (show Turned (Bs bb pm bm (.slice Ab b.length cb)) w (w6.setCell ⟨bb, 0, none⟩ (.slice A6 (b.length + 1) c6)) from (HT5.out.trans (ht6.mono (fun i h => .inr (.inr (.inr h))))).trans (ht7.mono (fun i h => .inl h)))
 have HFR := Hd hfar6
 clear hHeld HH ht6 ht7 ho6 hg6 hat6 y0 y1 y2 f0 f1 f2 hfar6 m0 m1 m2 m3 m4 c0 c1 c2
 go_wp2_with fail
 go_ret
 exact ⟨_, rfl, HNEW.out, HTN.out, HFR.out⟩
end Go.Proofs.YtlkncmpengpbiaaGreatDoor
/- A core in memory: its sagas, books, intake. -/
namespace Go.Proofs.YtlkncmpengpbiaaGreatDoor
open Go.RowKit Go.Maps Co Key Rw Sa
set_option linter.unusedSimpArgs false
set_option linter.unusedVariables false
set_option maxRecDepth 100000
set_option maxHeartbeats 8000000

abbrev tCore : TypeId := 87
namespace Co
structure Cor where
 l : List Sg
 b : List Po
 inn : In.Inn
def nilC : Cor := ⟨[], [], In.nil⟩
end Co
/-- The cells of an intake that stands in a struct. -/
def inn10 : Value → Array Value
 | .agg a => a
 | _ => #[]
/-- The block cb holds a core; all that it owns lies at B or behind. -/
structure Cw (B : Nat) (w : World) (cb bb pm bm : Nat) (vl vb vI : Value) (c : Cor) : Prop where
 hc : w.heap[cb]? = some (.cells (#[vl, .pointer (some ⟨bb, 0, none⟩)] ++ inn10 vI) tCore (0, 0))
 ol : w.ownsRow B tSaga 12 vl c.l.length (c.l.flatMap encS)
 bk : Bw B w bb pm bm vb c.b
 ii : InP w vI c.inn
 fi : In.Fine c.inn
 av : ∀ j, (j = cb ∨ Bs bb pm bm vb j ∨ vl.ownBlock = some j) → Av j vI c.inn
 ge : B ≤ cb
 nc : cb ≠ bb ∧ cb ≠ pm ∧ cb ≠ bm ∧ vb.ownBlock ≠ some cb
 nl : ∀ j, vl.ownBlock = some j → j ≠ cb ∧ ¬ Bs bb pm bm vb j
/-- The blocks that a core may turn. -/
def Cs (cb bb pm bm : Nat) (vl vb : Value) (j : Nat) : Prop := j = cb ∨ Bs bb pm bm vb j ∨ vl.ownBlock = some j
theorem Cw.ls {B : Nat} {w : World} {cb bb pm bm : Nat} {vl vb vI : Value} {c : Cor} (h : Cw B w cb bb pm bm vl vb vI c) {j : Nat} (hj : Cs cb bb pm bm vl vb j) : B ≤ j ∧ j < w.heap.size := by
 rcases hj with rfl | hj | hj
 ·exact ⟨h.ge, heap_lt h.hc⟩
 ·exact h.bk.ls hj
 ·exact h.ol.lt j hj
theorem Cw.kept {B : Nat} {w w' : World} {cb bb pm bm : Nat} {vl vb vI : Value} {c : Cor} (h : Cw B w cb bb pm bm vl vb vI c) {S : Nat → Prop} (ht : Turned S w w') (hS : ∀ j, Cs cb bb pm bm vl vb j → ¬ S j) (hI : ∀ j, S j → Av j vI c.inn) : Cw B w' cb bb pm bm vl vb vI c :=
 ⟨(ht.block _ (heap_lt h.hc) (hS _ (.inl rfl))).trans h.hc, own_turned h.ol ht (fun j hj => hS j (.inr (.inr hj))), h.bk.kept ht (fun j hj => hS j (.inr (.inl hj))), h.ii.turned ht hI, h.fi, h.av, h.ge, h.nc, h.nl⟩
theorem Cw.below {B : Nat} {w w' : World} {cb bb pm bm : Nat} {vl vb vI : Value} {c : Cor} (h : Cw B w cb bb pm bm vl vb vI c) (hb : Below w.heap.size w w') : Cw B w' cb bb pm bm vl vb vI c := h.kept (S := fun _ => False) (Turned.of_below hb) (fun _ _ h => h) (fun _ h => h.elim)
theorem Cw.c01 {B : Nat} {w : World} {cb bb pm bm : Nat} {vl vb vI : Value} {c : Cor} (h : Cw B w cb bb pm bm vl vb vI c) : w.cell? ⟨cb, 0, none⟩ = some vl ∧ w.cell? ⟨cb, 1, none⟩ = some (.pointer (some ⟨bb, 0, none⟩)) := by
 have h' := h.hc
 exact ⟨cell_at h' 0 (by simp [Array.getElem?_append]), cell_at h' 1 (by simp [Array.getElem?_append])⟩
theorem Cw.froz {B : Nat} {w : World} {cb bb pm bm : Nat} {vl vb vI : Value} {c : Cor} (h : Cw B w cb bb pm bm vl vb vI c) (i : Nat) : w.frozen? ⟨cb, i, none⟩ = false := frozen_at h.hc i

theorem bnew_any (w : World) : Calls Tryz.prog 56 #[] w fun e w' => ∃ bb pm bm, e = .returned (.pointer (some ⟨bb, 0, none⟩)) ∧ Bw w.heap.size w' bb pm bm (.slice none 0 0) [] ∧ Below w.heap.size w w' := by
 have hmm := @run_makeMap Tryz.prog
 obtain ⟨wa, hA⟩ : ∃ wa, wa = ((w.alloc (.map #[] 0)).alloc (.map #[] 0)).alloc (.cells #[.slice none 0 0, .map (some w.heap.size), .map (some (w.heap.size + 1))] tBooks) := ⟨_, rfl⟩
 have hB : Below w.heap.size w wa := by rw [hA]; exact ((below_alloc w _).alloc (by simp) _).alloc (by simp; omega) _
 have h1 : MapL Tryz.prog tStrC mkStrC mkPost wa w.heap.size [] := by rw [hA]; exact ((MapL.made Tryz.prog tStrC mkStrC mkPost w).alloc _).alloc _
 have h2 : MapL Tryz.prog tSlot mkSlot mkI wa (w.heap.size + 1) [] := by
  rw [hA]
  have := MapL.made Tryz.prog tSlot mkSlot mkI (w.alloc (.map #[] 0))
  rw [show (w.alloc (.map #[] 0)).heap.size = w.heap.size + 1 by simp] at this
  exact this.alloc _
 have h3 : wa.heap[w.heap.size + 2]? = some (.cells #[.slice none 0 0, .map (some w.heap.size), .map (some (w.heap.size + 1))] tBooks (0, 0)) := by
  rw [hA]
  have := heap_new ((w.alloc (.map #[] 0)).alloc (.map #[] 0)) (.cells #[.slice none 0 0, .map (some w.heap.size), .map (some (w.heap.size + 1))] tBooks)
  rwa [show ((w.alloc (.map #[] 0)).alloc (.map #[] 0)).heap.size = w.heap.size + 2 by simp] at this
 have HR := Hd (show Bw w.heap.size wa (w.heap.size + 2) w.heap.size (w.heap.size + 1) (.slice none 0 0) [] from ⟨h3, World.ownsRow_nil _ _ _ _, ⟨[], h1, Nat.le_refl _, fun e h => by cases h⟩, ⟨[], h2, Nat.zero_le _, fun _ _ => rfl⟩, by omega, by omega, fun j h => (by cases h), fun p h => (by cases h)⟩)
 have HA := Hd hA; have HB := Hd hB
 clear hA hB h1 h2 h3
 go_enter Tryz.func56, Tryz.ntmps56
 go_wp2_with fail
 rw [← HA.out]
 go_ret
 exact ⟨_, _, _, rfl, HR.out, HB.out⟩
theorem cnone_any {B : Nat} {w : World} {cb bb pm bm : Nat} {vl vb vI : Value} {c : Cor} (h : Cw B w cb bb pm bm vl vb vI c) : Calls Tryz.prog 39 #[.pointer (some ⟨cb, 0, none⟩)] w fun e w' => e = .returned (.bool false) ∧ w = w' := by
 obtain ⟨c0, c1⟩ := h.c01
 go_enter Tryz.func39, Tryz.ntmps39
 go_wp2_with fail
 go_ret
 exact ⟨rfl, rfl⟩
theorem cnew_any (w : World) : Calls Tryz.prog 27 #[] w fun e w' => ∃ cb bb pm bm, e = .returned (.pointer (some ⟨cb, 0, none⟩)) ∧ Cw w.heap.size w' cb bb pm bm (.slice none 0 0) (.slice none 0 0) vIn0 nilC ∧ Below w.heap.size w w' := by
 go_enter Tryz.func27, Tryz.ntmps27
 go_wp2_with fail
 refine (bnew_any w).mono ?_
 rintro e w1 ⟨bb, pm, bm, rfl, hb, hbl⟩
 obtain ⟨wa, hA⟩ : ∃ wa, wa = w1.alloc (.cells #[.slice none 0 0, .pointer (some ⟨bb, 0, none⟩), .int .i64 0, .int .i64 0, .slice none 0 0, .int .i64 0, .int .i64 0, .slice none 0 0, .int .i64 0, .int .i64 0, .slice none 0 0, .map none] tCore) := ⟨_, rfl⟩
 have hba : Below w1.heap.size w1 wa := by rw [hA]; exact below_alloc _ _
 have hx : wa.heap[w1.heap.size]? = some (.cells #[.slice none 0 0, .pointer (some ⟨bb, 0, none⟩), .int .i64 0, .int .i64 0, .slice none 0 0, .int .i64 0, .int .i64 0, .slice none 0 0, .int .i64 0, .int .i64 0, .slice none 0 0, .map none] tCore (0, 0)) := by rw [hA]; exact heap_new _ _
 have hl := hb.lt
 have HR := Hd (show Cw w.heap.size wa w1.heap.size bb pm bm (.slice none 0 0) (.slice none 0 0) vIn0 nilC from ⟨hx, World.ownsRow_nil _ _ _ _, hb.below hba, InP.nil _, In.Fine.nil, fun j _ => Av.nil j, hbl.size, ⟨by omega, by omega, by omega, by simp [Value.ownBlock]⟩, fun j h => by cases h⟩)
 have HB := Hd (bch hbl hba hbl.size); have HA := Hd hA
 clear hA hba hx hb hbl
 go_wp2_with fail
 rw [← HA.out]
 go_ret
 exact ⟨_, _, _, _, rfl, HR.out, HB.out⟩
theorem corder_any {B : Nat} {w : World} {cb bb pm bm : Nat} {vl vb vI : Value} {c : Cor} (h : Cw B w cb bb pm bm vl vb vI c) (i : Int) (hi : -9223372036854775808 ≤ i ∧ i ≤ 9223372036854775807) (hl : c.l.length ≤ 100000) :
  Calls Tryz.prog 65 #[.pointer (some ⟨cb, 0, none⟩), .int .i64 i] w fun e w' => (∀ s, 1 ≤ i → c.l[i.toNat - 1]? = some s → e = .returned (.tuple #[sgV s, .int .i64 0])) ∧ (i < 1 ∨ (c.l.length : Int) < i → e = .returned (.tuple #[sgV sg0, .int .i64 4])) ∧ Below w.heap.size w w' := by
 obtain ⟨A, cl, rfl, _⟩ := own_slice h.ol
 obtain ⟨wa, hA⟩ : ∃ wa, wa = w.alloc (.cells (sgA sg0) tSaga) := ⟨_, rfl⟩
 have hB : Below w.heap.size w wa := by rw [hA]; exact below_alloc _ _
 have hX : wa.heap[w.heap.size]? = some (.cells (sgA sg0) tSaga (0, 0)) := by rw [hA]; exact heap_new _ _
 have HC := Hd (h.below hB)
 have HA := Hd hA; have HB := Hd hB; have HX := Hd hX
 clear hA hB hX h
 obtain ⟨c0, c1⟩ := HC.out.c01
 obtain ⟨m0, m1, m2, m3, m4, m5, m6, m7, m8, m9, m10, m11⟩ := cell12 HX.out
 obtain ⟨f0, f1, f2, f3, f4, f5, f6, f7, f8, f9, f10, f11⟩ := froz12 HX.out
 by_cases hno : i < 1 ∨ (c.l.length : Int) < i
 ·have hsp : i < 1 ∨ (1 ≤ i ∧ (c.l.length : Int) < i) := by omega
  rcases hsp with hi1 | ⟨hi1, hi2⟩
  ·have hi1' := decide_eq_true hi1
   go_enter Tryz.func65, Tryz.ntmps65
   go_upto_region 1 with (fail)
   rw [← HA.out]
   go_wp2_with (go_at_call 39; refine (cnone_any HC.out).mono ?_; rintro e w1 ⟨rfl, hb⟩; subst hb)
   refine bodyPost_ret (v := .tuple #[sgV sg0, .int .i64 4]) (by simp [results, Tryz.results65, go_sem, m0, m1, m2, m3, m4, m5, m6, m7, m8, m9, m10, m11]) rfl ⟨fun s h1 h2 => absurd (List.getElem?_eq_some_iff.1 h2).1 (by omega), fun _ => rfl, ?_⟩
   exact Below.turned HB.out (turned_set12 wa w.heap.size _ _ _ _ _ _ _ _ _ _ _ _) (fun i h => by omega) HB.out.size
  ·have hi1' := decide_eq_true hi1
   go_enter Tryz.func65, Tryz.ntmps65
   go_upto_region 1 with (fail)
   rw [← HA.out]
   go_wp2_with (go_at_call 39; refine (cnone_any HC.out).mono ?_; rintro e w1 ⟨rfl, hb⟩; subst hb)
   refine bodyPost_ret (v := .tuple #[sgV sg0, .int .i64 4]) (by simp [results, Tryz.results65, go_sem, m0, m1, m2, m3, m4, m5, m6, m7, m8, m9, m10, m11]) rfl ⟨fun s h1 h2 => absurd (List.getElem?_eq_some_iff.1 h2).1 (by omega), fun _ => rfl, ?_⟩
   exact Below.turned HB.out (turned_set12 wa w.heap.size _ _ _ _ _ _ _ _ _ _ _ _) (fun i h => by omega) HB.out.size
 ·have hi1 : 1 ≤ i := by omega
  have hi2 : i ≤ c.l.length := by omega
  have hi1' : ¬ i < 1 := by omega
  obtain ⟨s, hs⟩ : ∃ s, c.l[i.toNat - 1]? = some s := ⟨_, List.getElem?_eq_getElem (by omega)⟩
  obtain ⟨g, off, n', c', e, d0, d1, d2, d3, d4, d5, d6, d7, d8, d9, d10, d11⟩ := (sgs_own HC.out.ol).cells (Below.refl _ _) hs
  injection e with e1 e2 e3; subst e1; clear e2 e3
  obtain ⟨k, rfl⟩ : ∃ k : Nat, i = (k : Int) + 1 := ⟨(i - 1).toNat, by omega⟩
  have hk0 : (0 : Int) ≤ k := by omega
  have hkl : (k : Int) < c.l.length := by omega
  have hw1 : IntKind.i64.wrap ((k : Int) + 1 - 1) = k := by rw [show (k : Int) + 1 - 1 = k by omega]; exact IntWalk.i64_in _ (by omega)
  rw [show ((k : Int) + 1).toNat - 1 = k by omega] at hs d0 d1 d2 d3 d4 d5 d6 d7 d8 d9 d10 d11
  have HS := Hd hs
  clear hs
  go_enter Tryz.func65, Tryz.ntmps65
  go_upto_region 1 with (fail)
  rw [← HA.out]
  go_wp2_with (go_at_call 39; refine (cnone_any HC.out).mono ?_; rintro e w1 ⟨rfl, hb⟩; subst hb)
  refine bodyPost_ret (v := .tuple #[sgV s, .int .i64 0]) (by simp [results, Tryz.results65, go_sem, m0, m1, m2, m3, m4, m5, m6, m7, m8, m9, m10, m11]) rfl ⟨fun t h1 h2 => ?_, fun h => by omega, ?_⟩
  ·rw [show ((k : Int) + 1).toNat - 1 = k by omega, HS.out] at h2
   rw [Option.some.inj h2]
  ·exact Below.turned HB.out (turned_set12 wa w.heap.size _ _ _ _ _ _ _ _ _ _ _ _) (fun i h => by omega) HB.out.size
end Go.Proofs.YtlkncmpengpbiaaGreatDoor
/- What the core's texts need of the laws of match. -/
namespace Go.Proofs.YtlkncmpengpbiaaGreatDoor
open Go.RowKit Go.Maps Key Rw Sa Co

abbrev Ord5 : Type := Int × List UInt8 × List UInt8 × Int × Int
namespace Sa
theorem setI_keeps (s : Sg) (k v : Int) : (setI s k v).id = s.id ∧ (setI s k v).qty = s.qty ∧ (setI s k v).amt = s.amt := by
  unfold setI; repeat' (first | exact ⟨rfl, rfl, rfl⟩ | split)
theorem onI_keeps (s : Sg) : (onI s).id = s.id ∧ (onI s).qty = s.qty ∧ (onI s).amt = s.amt := by
  unfold onI; repeat' (first | exact ⟨rfl, rfl, rfl⟩ | split)
end Sa
abbrev tSagas : TypeId := 80
theorem saga_info : (Tryz.prog.info? tSaga).map (fun i => (i.zero, i.size, i.bytes)) = some (some (.agg #[.int .i64 0, .string ⟨#[]⟩, .string ⟨#[]⟩, .int .i64 0, .int .i64 0, .int .i64 0, .int .i64 0, .int .i64 0, .int .i64 0, .int .i64 0, .int .i64 0, .bool false]), 12, 112) := by kernel_rfl
/-- A box holds this value's cells. -/
def Bx (w : World) (b : Nat) (T : TypeId) (v : Value) : Prop := ∃ arr, v = .agg arr ∧ w.heap[b]? = some (.cells arr T (0, 0))
theorem Bx.get {w : World} {b : Nat} {T : TypeId} {arr : Array Value} (h : Bx w b T (.agg arr)) : w.heap[b]? = some (.cells arr T (0, 0)) := by
  obtain ⟨a, e, h⟩ := h
  injection e with e
  subst e
  exact h
theorem Bx.keep {w w' : World} {b : Nat} {T : TypeId} {v : Value} (h : Bx w b T v) (hb : Below w.heap.size w w') : Bx w' b T v := by
  obtain ⟨a, e, h⟩ := h; exact ⟨a, e, heap_keep h hb⟩
theorem Bx.turned {w w' : World} {b : Nat} {T : TypeId} {v : Value} (h : Bx w b T v) {S : Nat → Prop} (ht : Turned S w w') (hS : ¬ S b) : Bx w' b T v := by
  obtain ⟨a, e, h⟩ := h; exact ⟨a, e, heap_turned h ht hS⟩
/-- A block that has been made of elements reads as them. -/
theorem slk_block {α : Type} {enc : α → List Value} {z : Nat} (hz : ∀ x, (enc x).length = z) (h0 : 0 < z) {w : World} {b : Nat} {arr : Array Value} {T : TypeId} {fr : Nat × Nat} (l : List α) {c : Nat} (h : w.heap[b]? = some (.cells arr T fr)) (ha : arr.toList = l.flatMap enc) (hl : l.length ≤ c) (hc : c ≤ maxLen) :
    SlK w w.heap.size z (fun cs x => cs = enc x) (.slice (some ⟨b, 0, none⟩) l.length c) l := by
  refine ⟨_, _, _, rfl, rfl, hl, hc, fun i x hi => ⟨b, 0, enc x, rfl, heap_lt h, hz x, fun j u hj => ?_, rfl⟩⟩
  have hjz : j < z := by have := (List.getElem?_eq_some_iff.1 hj).1; rwa [hz] at this
  refine cell_at h _ ?_
  rw [← Array.getElem?_toList, ha, flat_get hz h0, Nat.zero_add, Nat.mul_comm, Nat.mul_add_div h0, Nat.div_eq_of_lt hjz, Nat.add_zero, Nat.mul_add_mod, Nat.mod_eq_of_lt hjz, hi]
  exact hj
theorem rd_block {w : World} {b : Nat} {arr : Array Value} {T : TypeId} {fr : Nat × Nat} (l : List R5) {c : Nat} (h : w.heap[b]? = some (.cells arr T fr)) (ha : arr.toList = l.flatMap encR) (hl : l.length ≤ c) (hc : c ≤ maxLen) : Rd w (.slice (some ⟨b, 0, none⟩) l.length c) l :=
  ⟨slk_block encR_len (by decide) l h ha hl hc, fun n c e => by injection e with e; cases e⟩
end Go.Proofs.YtlkncmpengpbiaaGreatDoor

/- A region that draws its order and writes, at its end, a cell that it loads: a condition B on the world TILL the operation st comes up, A behind it. Of no program. -/
import Derived.OrdersHeld
import Derived.Deep.RegionHeld
namespace Go.Proofs.YtnfbhocppijbjaaDoor
open Go

section
variable {P : Program} {ops : Array Oper} {Q : Exit → Act → World → Prop} {md : Region.Mode} {st : Nat} {A B : World → Prop}

def Till (st : Nat) (A B : World → Prop) (listed : Array Bool) (w : World) : Prop := (listed.getD st true = true → A w) ∧ (listed.getD st true = false → B w)
def wpAnyT (P : Program) (md : Region.Mode) (ops : Array Oper) (Q : Exit → Act → World → Prop) (st : Nat) (A B : World → Prop) : Nat → Array Bool → Act → World → Prop
  | 0, listed, a, w => Region.ready md ops listed = [] ∧ Q .normal a w
  | fuel + 1, listed, a, w =>
    (Region.ready md ops listed = [] → Q .normal a w) ∧
    ∀ i ∈ Region.ready md ops listed, wpOp P ops Q i (fun a' w' => Till st A B (listed.setIfInBounds i true) w' ∧ wpAnyT P md ops Q st A B fuel (listed.setIfInBounds i true) a' w') a w
theorem wpAny_of_till : ∀ (fuel : Nat) (listed : Array Bool) (a : Act) (w : World), wpAnyT P md ops Q st A B fuel listed a w → wpAny P md ops Q fuel listed a w
  | 0, _, _, _, h => h
  | fuel + 1, _, _, _, h => ⟨h.1, fun i hi => wpOp_mono (fun a' w' h' => wpAny_of_till fuel _ a' w' h'.2) (h.2 i hi)⟩

/-- Operation m waits, through operations of C, for number i. -/
def waitsB (md : Region.Mode) (ops : Array Oper) (i : Nat) (C : List Nat) : Bool :=
  C.all fun m => match ops[m]? with | some om => om.after.any (fun e => Region.binds md e && (decide (e.on = i) || C.contains e.on)) | none => false
def unlistedB (C : List Nat) (listed : Array Bool) : Bool := C.all fun m => !(listed.getD m true)

theorem wpAnyT_first {i : Nat} {oi : Oper} {v : Value} {C : List Nat} (hi : ops[i]? = some oi) (hsel : ∀ (j : Nat) (o : Oper) cs b, ops[j]? = some o → o.op ≠ .select cs b)
    (hQ : ∀ c a w, Q (.panic c) (a.put oi.dst v) w → Q (.panic c) a w) (hC : waitsB md ops i C = true) (hst : st ∈ C) :
    ∀ (fuel : Nat) (listed : Array Bool) (a : Act) (w : World),
      (∀ j oj, ops[j]? = some oj → j ≠ i → listed.getD j true = false → (∀ e ∈ oj.after, Region.binds md e = true → e.on ≠ i) → oi.apart ops oj = true) →
      (∀ m ∈ C, listed.getD m true = false) →
      i ∈ Region.ready md ops listed → YieldsIf P ops B oi v a → B w →
      wpAnyT P md ops Q st A B fuel (listed.setIfInBounds i true) (a.put oi.dst v) w → wpAnyT P md ops Q st A B (fuel + 1) listed a w := by
  have hwait : ∀ (listed : Array Bool) j, (∀ m ∈ C, listed.getD m true = false) → listed.getD i true = false → j ∈ Region.ready md ops listed → j ∉ C := by
    intro listed j hl hil hj hjC
    unfold waitsB at hC
    have h1 := List.all_eq_true.1 hC j hjC
    obtain ⟨_, oj, hoj, hall⟩ := mem_ready.1 hj
    rw [hoj] at h1
    simp only [Array.any_eq_true', Bool.and_eq_true, Bool.or_eq_true, decide_eq_true_eq, List.contains_iff_mem] at h1
    obtain ⟨e, he, hb, hor⟩ := h1
    have h2 := hall e he hb
    have h3 : listed.getD e.on true = false := by
      rcases hor with h | h
      · rw [h]; exact hil
      · exact hl _ h
    rcases Nat.lt_or_ge e.on listed.size with h' | h'
    · simp [h'] at h2 h3; rw [h2] at h3; cases h3
    · simp [Array.getElem?_eq_none h'] at h3
  intro fuel
  induction fuel with
  | zero =>
    intro listed a w _ hl hr hy hS H
    have hil := (mem_ready.1 hr).1
    have hiC := hwait listed i hl hil hr
    refine ⟨fun h => (by rw [h] at hr; cases hr), fun j hj => ?_⟩
    by_cases hji : j = i
    · subst hji
      refine hy.wpOp hi hS ⟨?_, H⟩
      have e : (listed.setIfInBounds j true).getD st true = false := by rw [getD_set_ne true (fun e => hiC (by rw [e]; exact hst))]; exact hl _ hst
      exact ⟨fun h => (by rw [e] at h; cases h), fun _ => hS⟩
    · have := ready_mono hj hji
      rw [H.1] at this
      cases this
  | succ fuel ih =>
    intro listed a w hfree hl hr hy hS H
    have hil := (mem_ready.1 hr).1
    have hiC := hwait listed i hl hil hr
    refine ⟨fun h => (by rw [h] at hr; cases hr), fun j hj => ?_⟩
    by_cases hji : j = i
    · subst hji
      refine hy.wpOp hi hS ⟨?_, H⟩
      have e : (listed.setIfInBounds j true).getD st true = false := by rw [getD_set_ne true (fun e => hiC (by rw [e]; exact hst))]; exact hl _ hst
      exact ⟨fun h => (by rw [e] at h; cases h), fun _ => hS⟩
    · have h1 := H.2 j (ready_mono hj hji)
      obtain ⟨hjun, oj, hoj, hall⟩ := mem_ready.1 hj
      have hjC := hwait listed j hl hil hj
      have hnot : ∀ e ∈ oj.after, Region.binds md e = true → e.on ≠ i := fun e he hb heq => by
        have h1 := hall e he hb
        have h0 := (mem_ready.1 hr).1
        rw [heq] at h1
        rcases Nat.lt_or_ge i listed.size with h' | h'
        · simp [h'] at h0 h1; rw [h0] at h1; cases h1
        · simp [Array.getElem?_eq_none h'] at h1
      have h2 := wpOp_putIf hoj (hfree j oj hoj hji hjun hnot) (fun cs b => hsel i oi cs b hi) (fun cs b => hsel j oj cs b hoj) hQ hy h1
      have hfree' : ∀ k ok, ops[k]? = some ok → k ≠ i → (listed.setIfInBounds j true).getD k true = false →
          (∀ e ∈ ok.after, Region.binds md e = true → e.on ≠ i) → oi.apart ops ok = true := fun k ok hk hki hun hno => by
        refine hfree k ok hk hki ?_ hno
        by_cases hjk : j = k
        · subst hjk; exact hjun
        · rw [getD_set_ne true hjk] at hun; exact hun
      have hl' : ∀ m ∈ C, (listed.setIfInBounds j true).getD m true = false := fun m hm => by
        rw [getD_set_ne true (fun e => hjC (by rw [e]; exact hm))]; exact hl m hm
      have e1 : ((listed.setIfInBounds i true).setIfInBounds j true).getD st true = false := by
        rw [Array.setIfInBounds_comm _ _ (Ne.symm hji), getD_set_ne true (fun e => hiC (by rw [e]; exact hst))]; exact hl' _ hst
      refine wpOp_mono (fun a' w' h3 => ⟨⟨fun h => (by rw [hl' _ hst] at h; cases h), fun _ => h3.2.1.2 e1⟩, ih (listed.setIfInBounds j true) a' w' hfree' hl' (ready_mono hr (Ne.symm hji)) h3.1 (h3.2.1.2 e1) ?_⟩) h2
      rw [Array.setIfInBounds_comm _ _ hji]
      exact h3.2.2

theorem wpAnyT_take (C : List Nat) {i : Nat} {oi : Oper} {v : Value} {fuel : Nat} {listed : Array Bool} {a : Act} {w : World} (hi : ops[i]? = some oi)
    (hs : Region.noSelect ops = true) (hf : Region.free md ops listed i = true) (hr : (Region.ready md ops listed).contains i = true)
    (hQ : ∀ c a w, Q (.panic c) (a.put oi.dst v) w → Q (.panic c) a w) (hC : (waitsB md ops i C && unlistedB C listed && C.contains st) = true) (hy : YieldsIf P ops B oi v a) (hS : B w)
    (h : wpAnyT P md ops Q st A B fuel (listed.setIfInBounds i true) (a.put oi.dst v) w) : wpAnyT P md ops Q st A B (fuel + 1) listed a w := by
  simp only [Bool.and_eq_true] at hC
  obtain ⟨⟨h1, h2⟩, h3⟩ := hC
  refine wpAnyT_first hi (Region.noSelect_spec hs) hQ h1 (by simpa using h3) fuel listed a w (Region.free_spec hi hf) (fun m hm => ?_) (by simpa using hr) hy hS h
  unfold unlistedB at h2
  simpa using List.all_eq_true.1 h2 m hm

/-- The operations that wait for number i. -/
def behindL (md : Region.Mode) (ops : Array Oper) (i : Nat) : List Nat := (List.range ops.size).foldl (fun acc m => match ops[m]? with | some om => if om.after.any (fun e => Region.binds md e && (decide (e.on = i) || acc.contains e.on)) then m :: acc else acc | none => acc) []

theorem wpAnyT_go {i : Nat} {oi : Oper} {v : Value} {fuel : Nat} {listed : Array Bool} {a : Act} {w : World} (hi : ops[i]? = some oi)
    (hs : Region.noSelect ops = true) (hf : Region.free md ops listed i = true) (hr : (Region.ready md ops listed).contains i = true)
    (hQ : ∀ c a w, Q (.panic c) (a.put oi.dst v) w → Q (.panic c) a w) (hC : (waitsB md ops i (behindL md ops i) && unlistedB (behindL md ops i) listed && (behindL md ops i).contains st) = true) (hy : YieldsIf P ops B oi v a) (hS : B w)
    (h : wpAnyT P md ops Q st A B fuel (listed.setIfInBounds i true) (a.put oi.dst v) w) : wpAnyT P md ops Q st A B (fuel + 1) listed a w :=
  wpAnyT_take (behindL md ops i) hi hs hf hr hQ hC hy hS h

def AllReadyT (P : Program) (md : Region.Mode) (ops : Array Oper) (Q : Exit → Act → World → Prop) (st : Nat) (A B : World → Prop) (fuel : Nat) (listed : Array Bool) (a : Act) (w : World) (rs : List Nat) : Prop :=
  ∀ i ∈ rs, wpOp P ops Q i (fun a' w' => Till st A B (listed.setIfInBounds i true) w' ∧ wpAnyT P md ops Q st A B fuel (listed.setIfInBounds i true) a' w') a w
theorem AllReadyT.nil {fuel : Nat} {listed : Array Bool} {a : Act} {w : World} : AllReadyT P md ops Q st A B fuel listed a w [] := fun _ h => by cases h
/-- One that comes up ahead of st. -/
theorem AllReadyT.cons {fuel : Nat} {listed : Array Bool} {a : Act} {w : World} {i : Nat} {o : Oper} {rs : List Nat} (ho : ops[i]? = some o) (hst : (listed.setIfInBounds i true).getD st true = false)
    (h : ∀ K' : Act → World → Prop, Shut (∀ a w, B w → (B w → wpAnyT P md ops Q st A B fuel (listed.setIfInBounds i true) a w) → K' a w) → if Region.wanted o (yielded ops a.tmps) = true then Oper.wp P o a w K' Q else K' (a.put o.dst undef) w)
    (hs : AllReadyT P md ops Q st A B fuel listed a w rs) : AllReadyT P md ops Q st A B fuel listed a w (i :: rs) := fun j hj => by
  rcases List.mem_cons.1 hj with rfl | hj
  · exact wpOp_step ho (fun K' hK => h K' (fun a w hS hW => hK a w ⟨⟨fun h => (by rw [hst] at h; cases h), fun _ => hS⟩, hW hS⟩))
  · exact hs j hj
/-- st itself, or one behind it. -/
theorem AllReadyT.last {fuel : Nat} {listed : Array Bool} {a : Act} {w : World} {i : Nat} {o : Oper} {rs : List Nat} (ho : ops[i]? = some o) (hst : (listed.setIfInBounds i true).getD st true = true)
    (h : ∀ K' : Act → World → Prop, Shut (∀ a w, A w → (A w → wpAnyT P md ops Q st A B fuel (listed.setIfInBounds i true) a w) → K' a w) → if Region.wanted o (yielded ops a.tmps) = true then Oper.wp P o a w K' Q else K' (a.put o.dst undef) w)
    (hs : AllReadyT P md ops Q st A B fuel listed a w rs) : AllReadyT P md ops Q st A B fuel listed a w (i :: rs) := fun j hj => by
  rcases List.mem_cons.1 hj with rfl | hj
  · exact wpOp_step ho (fun K' hK => h K' (fun a w hS hW => hK a w ⟨⟨fun _ => hS, fun h => (by rw [hst] at h; cases h)⟩, hW hS⟩))
  · exact hs j hj
theorem wpAnyT_ready {rs : List Nat} {fuel : Nat} {listed : Array Bool} {a : Act} {w : World} (hr : Region.ready md ops listed = rs) (hne : rs ≠ [])
    (h : AllReadyT P md ops Q st A B fuel listed a w rs) : wpAnyT P md ops Q st A B (fuel + 1) listed a w := ⟨fun h0 => absurd (hr ▸ h0) hne, hr ▸ h⟩
theorem wpAnyT_done {listed : Array Bool} {a : Act} {w : World} (hr : Region.ready md ops listed = []) (h : Q .normal a w) :
    ∀ fuel, wpAnyT P md ops Q st A B fuel listed a w
  | 0 => ⟨hr, h⟩
  | _ + 1 => ⟨fun _ => h, by rw [hr]; simp⟩
theorem wp_region_till (st : Nat) (A B : World → Prop) {id : Nat} {a : Act} {w : World} (hm : P.follows .mixedOrders = true) (hS : B w.drew)
    (h : B w.drew → wpAnyT P .any ops Q st A B ops.size (Array.replicate ops.size false) a w.drew) : (Code.region id ops true).wp P Q a w :=
  wp_region_any hm (wpAny_of_till _ _ _ _ (h hS))
end
end Go.Proofs.YtnfbhocppijbjaaDoor

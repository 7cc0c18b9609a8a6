/- Books: balances laid over balances (maps.Copy). -/
import Derived.Test.YtnfbhocppijbjaaDoorBooksMem
namespace Go.Proofs.YtnfbhocppijbjaaDoor
open Go.RowKit Go.Maps Co

/-- E' has what is done, and else what E has. -/
def Over (E done E' : List ((Int × Int) × Int)) : Prop := ∀ j, (∀ v, (j, v) ∈ done → lk E' j = v) ∧ ((∀ e ∈ done, e.1 ≠ j) → lk E' j = lk E j)
theorem Over.zero (E : List ((Int × Int) × Int)) : Over E [] E := fun _ => ⟨fun _ h => absurd h (List.not_mem_nil), fun _ => rfl⟩
theorem Over.more {E done E' : List ((Int × Int) × Int)} (h : Over E done E') {x : Int × Int} {v : Int} (hx : ∀ e ∈ done, e.1 ≠ x) : Over E (done ++ [(x, v)]) ((x, v) :: without E' x) := by
  intro j
  refine ⟨fun u hu => ?_, fun hn => ?_⟩
  · rcases List.mem_append.1 hu with hu | hu
    · have hne : j ≠ x := fun e => hx _ hu e
      rw [lk_other _ _ hne]; exact (h j).1 u hu
    · rw [List.mem_singleton] at hu
      injection hu with h1 h2
      subst h1; subst h2
      exact lk_same _ _ _
  · have hne : j ≠ x := fun e => hn (x, v) (List.mem_append.2 (.inr (List.mem_singleton.2 rfl))) e.symm
    rw [lk_other _ _ hne]
    exact (h j).2 (fun e he => hn e (List.mem_append.2 (.inl he)))
theorem Over.perm {E done F E' : List ((Int × Int) × Int)} (h : Over E done E') (hp : done.Perm F) : Over E F E' := fun j =>
  ⟨fun v hv => (h j).1 v (hp.mem_iff.2 hv), fun hn => (h j).2 (fun e he => hn e (hp.mem_iff.1 he))⟩
set_option linter.unusedSimpArgs false in
set_option linter.unusedVariables false in
set_option maxRecDepth 100000 in
set_option maxHeartbeats 8000000 in
theorem bcopy_any {w : World} {d s : Nat} {E F : List ((Int × Int) × Int)} (hE : MapL Tryd.prog tSlot mkSlot mkI w d E) (hF : MapL Tryd.prog tSlot mkSlot mkI w s F) (hds : d ≠ s) (hl : E.length + F.length < maxLen) :
    Calls Tryd.prog 40 #[.map (some d), .map (some s)] w fun e w' => (∃ v, e = .returned v) ∧ ∃ E', MapL Tryd.prog tSlot mkSlot mkI w' d E' ∧ E'.length ≤ E.length + F.length ∧ Over E F E' ∧ Turned (fun j => j = d) w w' := by
  have HE := Lib.hid hE; have HF := Lib.hid hF
  have hdl := hE.lt
  have hnd := Lib.hid (slots_nodup hF)
  clear hE
  go_enter Tryd.func40, Tryd.ntmps40
  go_wp2_with (first
    | (at_range; refine wpList_rangeL _ rfl _ tMapB rfl tSlot tI64 lawSlot mapB s F rfl HF.out ?_; intro w2 cnt0 hrg0 hg0 hs0))
  go_frame
  go_loopw [5] (fun _ wr => ∃ done cnt E', RangeL Tryd.prog tSlot mkSlot mkI wr s w.heap.size F done cnt ∧ Hid (MapL Tryd.prog tSlot mkSlot mkI wr d E') ∧ E'.length ≤ E.length + done.length ∧ Hid (Over E done E') ∧ Hid (Turned (fun j => j = d ∨ w.heap.size ≤ j) w wr)) (fun _ wr => wr.rangeLeft s w.heap.size)
  case atStart => exact ⟨[], cnt0, E, hrg0, HE.out.kept hg0 (by simp), by simp, Over.zero E, Turned.of_grown hg0 (fun j h => by cases h)⟩
  case round =>
    obtain ⟨done, cnt, E', hrg, HMr, hle, HOv, HTr⟩ := hrel
    have hszr := HTr.out.size
    have hrlt := hrg.lt
    have hdn := hrg.len
    go_wp2_with (first
      | (at_next; refine wpList_nextL _ rfl _ rfl tSlot lawSlot s w.heap.size F done cnt rfl hrg (fun hperm => ?_) (fun x v w3 cnt1 hin hnin hrg1 hlt1 hg1 hs1 hen => ?_); rotate_left; (obtain ⟨a, o⟩ := x; simp only [mkSlot] at hen ⊢)))
    · obtain ⟨kl, hkl⟩ := hrg1.keys _ hin
      have HL := Lib.hid (show keyOf Tryd.prog tSlot (mkSlot (a, o)) = some kl from hkl)
      have HM3 := Lib.hid ((HMr.out.kept hg1 (by simp; omega)).alloc (.cells #[.int .i64 a, .int .i64 o] tSlot))
      have hno : ∀ q ∈ done, q.1 ≠ (a, o) := fun q hq e => hnin (by
        have h1 := hrg.sub q hq
        obtain ⟨q1, q2⟩ := q
        have e1 : q1 = (a, o) := e
        subst e1
        rw [show v = q2 from (lk_mem hnd.out hin).symm.trans (lk_mem hnd.out h1)]
        exact hq)
      have HOv2 := Lib.hid (HOv.out.more (v := v) hno)
      have HR4 := Lib.hid (hrg1.alloc (.cells #[.int .i64 a, .int .i64 o] tSlot))
      have HT4 := Lib.hid (HTr.out.trans ((Turned.of_grown (S := fun j => j = d ∨ w.heap.size ≤ j) hg1 (fun j h => by injection h with h; exact .inr (by omega))).trans (Turned.of_below (below_alloc w3 (.cells #[.int .i64 a, .int .i64 o] tSlot)))))
      have hka := heap_new w3 (.cells #[.int .i64 a, .int .i64 o] tSlot)
      have hE'l : E'.length < maxLen := by unfold maxLen at *; omega
      have hE'2 := Lib.hid (without_len E' (a, o))
      clear hkl hno hin hnin
      go_upto_region 3 with (fail)
      obtain ⟨w4, hw4⟩ : ∃ w4, w4 = w3.alloc (.cells #[.int .i64 a, .int .i64 o] tSlot) := ⟨_, rfl⟩
      rw [← hw4] at HM3 HR4 HT4 hka ⊢
      obtain ⟨k0, k1, _, _⟩ := cell2 hka
      rw [hs1] at k0 k1
      clear hw4 hka hrg1 hen
      obtain ⟨w5, hrr, hm5, ht5⟩ := HM3.out.store lawSlot mapB hE'l HL.out (mkSlot_inj _) v
      have hrr : (Instr.mapUpdate tMapB (.map (some d)) (.agg #[.int .i64 a, .int .i64 o]) (mkI v)).run Tryd.prog w4 = .ok () w5 := hrr
      have HRR := Lib.hid hrr
      have HM5 := Lib.hid hm5; have HT5' := Lib.hid ht5.grown
      clear hm5 ht5 hrr
      go_wp2_with fail
      rw [HRR.out]
      go_wp2_with fail
      have HT5 := Lib.hid (HT4.out.trans (Turned.of_grown (S := fun j => j = d ∨ w.heap.size ≤ j) HT5'.out (fun j h => by injection h with h; exact .inl h.symm)))
      have hr5 := HR4.out.kept HT5'.out (by simp; omega) (by simp; omega)
      clear HM3 HT4 HR4 k0 k1
      go_roundw
      case rel => exact ⟨_, cnt1, _, hr5, HM5.out, by have := hE'2.out; rw [List.length_cons, List.length_append, List.length_singleton]; omega, HOv2.out, HT5.out⟩
      case measure => rw [hr5.left, hrg.left]; exact hlt1
    · have HOv2 := Lib.hid (HOv.out.perm hperm)
      have hlf := hperm.length_eq
      go_wp2_with fail
      go_end0
      refine ⟨⟨_, rfl⟩, E', HMr.out, by omega, HOv2.out, ?_⟩
      exact ⟨HTr.out.os, HTr.out.tape, HTr.out.output, HTr.out.size, fun i hi hs => HTr.out.block i hi (fun h => h.elim hs (fun h => by omega))⟩
end Go.Proofs.YtnfbhocppijbjaaDoor

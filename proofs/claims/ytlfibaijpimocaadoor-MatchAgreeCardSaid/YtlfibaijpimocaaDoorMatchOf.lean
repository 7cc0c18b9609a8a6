/- The laws' own: are differences the same, are statements too great, an intake of statements. -/
import Derived.Test.YtlfibaijpimocaaDoorMatchRef
import Derived.Test.YtlfibaijpimocaaDoorMatchOpen
namespace Go.Proofs.YtlfibaijpimocaaDoor
open Go.RowKit Go.Maps Key Rw Sa Ma

set_option linter.unusedSimpArgs false in
set_option linter.unusedVariables false in
set_option maxRecDepth 100000 in
set_option maxHeartbeats 8000000 in
theorem sameD_any (w : World) (B1 B2 : Nat) (v u : Value) (L : List D3) (h1 : w.ownsRow B1 tDiff 3 v L.length (L.flatMap encD)) (h2 : RDs w B2 u L) (hl : L.length < 10000) :
    Calls Tryd.prog 13 #[v, u] w fun e w' => e = .returned (.bool true) ∧ Below w.heap.size w w' := by
  obtain ⟨A1, c1, rfl, _⟩ := own_slice h1
  obtain ⟨A2, c2, rfl⟩ := h2.shape
  have H1 := Lib.hid h1; have H2 := Lib.hid h2
  have hne := bneF (rfl : (L.length : Int) = L.length)
  clear h1 h2
  go_enter Tryd.func13, Tryd.ntmps13
  go_wp2_with fail
  go_loopw [5] (fun i wr => ∃ k : Nat, i = .int .i64 k ∧ k ≤ L.length ∧ Hid (Below w.heap.size w wr)) (fun i _ => L.length - (intOf i).toNat)
  case atStart => exact ⟨0, rfl, Nat.zero_le _, Below.refl _ _⟩
  case round =>
    obtain ⟨k, rfl, hk, HBr⟩ := hrel
    by_cases hkl : k < L.length
    · obtain ⟨x, hx⟩ : ∃ x, L[k]? = some x := ⟨_, List.getElem?_eq_getElem hkl⟩
      have ho1 := own_keep H1.out HBr.out
      have ho2 := H2.out.below HBr.out
      obtain ⟨_, h0⟩ | ⟨g1, d1, e1, _, _, hc1⟩ := own_ptr ho1
      · omega
      obtain ⟨_, h0⟩ | ⟨g2, d2, e2, _, _, hc2⟩ := own_ptr ho2
      · omega
      injection e1 with e1 e3 e4; subst e1; clear e3 e4
      injection e2 with e2 e3 e4; subst e2; clear e3 e4
      have a0 := own_cellK encD_len (by decide) ho1 hx 0 (by decide)
      have a1 := own_cellK encD_len (by decide) ho1 hx 1 (by decide)
      have a2 := own_cellK encD_len (by decide) ho1 hx 2 (by decide)
      have b0 := own_cellK encD_len (by decide) ho2 hx 0 (by decide)
      have b1 := own_cellK encD_len (by decide) ho2 hx 1 (by decide)
      have b2 := own_cellK encD_len (by decide) ho2 hx 2 (by decide)
      obtain ⟨⟨o, d⟩, t⟩ := x
      simp only [encD, List.getElem?_cons_zero, List.getElem?_cons_succ] at a0 a1 a2 b0 b1 b2
      rw [Nat.add_zero] at a0 b0
      have hlt : (k : Int) < L.length := by omega
      have hk0 : (0 : Int) ≤ k := by omega
      clear hx ho1 ho2
      go_wp2_with fail
      go_quiet (fail)
      go_wp2_with fail
      go_roundw
      case rel => exact ⟨k + 1, by go_num, by omega, below_drewN HBr.out _⟩
      case measure => simp [intOf]; omega
    · have hlt : (L.length : Int) ≤ k := by omega
      go_wp2_with fail
      go_ret
      exact ⟨rfl, HBr.out⟩
/-- Statements that came in. -/
def Sts (w : World) (v : Value) (S : List In.Stm) : Prop := SlK w w.heap.size 3 (fun cs x => IsStm w w.heap.size cs x) v S
theorem stm_keep {w w' : World} {cs : List Value} {x : In.Stm} (h : IsStm w w.heap.size cs x) (hb : Below w.heap.size w w') : IsStm w' w'.heap.size cs x := by
  obtain ⟨v, e, h1, h2, h3, h4⟩ := h
  exact ⟨v, e, h1, h2, SlK.mono h3 hb hb.size (fun _ _ _ h => h), h4⟩
theorem Sts.keep {w w' : World} {v : Value} {S : List In.Stm} (h : Sts w v S) (hb : Below w.heap.size w w') : Sts w' v S := SlK.mono h hb hb.size (fun _ _ _ h => stm_keep h hb)
theorem Sts.cells {w : World} {v : Value} {S : List In.Stm} (h : Sts w v S) {k : Nat} {x : In.Stm} (hx : S[k]? = some x) : ∃ g off n c A c', v = .slice (some ⟨g, off, none⟩) n c ∧ Rd w (.slice A x.2.2.length c') x.2.2 ∧ I64 x.1 ∧ I64 x.2.1 ∧
    ∀ W, Below w.heap.size w W → W.cell? ⟨g, off + k * 3, none⟩ = some (.int .i64 x.1) ∧ W.cell? ⟨g, off + k * 3 + 1, none⟩ = some (.int .i64 x.2.1) ∧ W.cell? ⟨g, off + k * 3 + 2, none⟩ = some (.slice A x.2.2.length c') := by
  obtain ⟨A, c, rfl, _⟩ := SlK.shape h
  obtain ⟨g, off, cs, rfl, hgl, hcl, hcell, u, rfl, b1, b2, hr, hn⟩ := SlK.at h hx
  obtain ⟨A', c', rfl, _⟩ := SlK.shape hr
  exact ⟨g, off, _, _, A', c', rfl, ⟨hr, hn⟩, b1, b2, fun W hb => by
    have hk := fun j u hj => (hb.cell (p := ⟨g, off + k * 3 + j, none⟩) hgl).trans (hcell j u hj)
    exact ⟨hk 0 _ rfl, hk 1 _ rfl, hk 2 _ rfl⟩⟩
def greatB (S : List In.Stm) (most : Int) : Bool := S.any (fun x => decide (60 < x.2.2.length)) || decide (most < S.length)
def greatTo (S : List In.Stm) (k : Nat) : Bool := (S.take k).any fun x => decide (60 < x.2.2.length)
theorem great_succ {S : List In.Stm} {k : Nat} {x : In.Stm} (h : S[k]? = some x) : greatTo S (k + 1) = (greatTo S k || decide (60 < x.2.2.length)) := by
  unfold greatTo; rw [List.take_add_one, h, List.any_append]; simp
theorem great_hit {S : List In.Stm} {k : Nat} {x : In.Stm} (h : S[k]? = some x) (hx : 60 < x.2.2.length) (m : Int) : greatB S m = true := by
  unfold greatB
  rw [List.any_eq_true.2 ⟨x, List.mem_of_getElem? h, by simpa using hx⟩]
  rfl
theorem great_not {S : List In.Stm} {m : Int} (h : greatB S m = false) : (∀ x ∈ S, x.2.2.length ≤ 60) ∧ (S.length : Int) ≤ m := by
  unfold greatB at h
  simp only [Bool.or_eq_false_iff, List.any_eq_false, decide_eq_true_eq, decide_eq_false_iff_not] at h
  exact ⟨fun x hx => by have := h.1 x hx; omega, by omega⟩
set_option linter.unusedSimpArgs false in
set_option linter.unusedVariables false in
set_option maxRecDepth 100000 in
set_option maxHeartbeats 8000000 in
theorem great_any (w : World) (v : Value) (S : List In.Stm) (most : Int) (hS : Sts w v S) :
    Calls Tryd.prog 8 #[v, .int .i64 most] w fun e w' => e = .returned (.bool (greatB S most)) ∧ w = w' := by
  obtain ⟨A, c, rfl, hlc, hcm⟩ := SlK.shape hS
  have HS := Lib.hid hS
  have hl63 : (S.length : Int) ≤ 9223372036854775807 := by unfold maxLen at hcm; omega
  clear hS
  go_enter Tryd.func8, Tryd.ntmps8
  go_wp2_with fail
  go_loop [5] (fun i => ∃ k : Nat, i = .int .i64 k ∧ k ≤ S.length ∧ Hid (greatTo S k = false)) (fun i => S.length - (intOf i).toNat)
  case atStart => exact ⟨0, rfl, Nat.zero_le _, rfl⟩
  case round =>
    obtain ⟨k, rfl, hk, HG⟩ := hrel
    by_cases hkl : k < S.length
    · obtain ⟨x, hx⟩ : ∃ x, S[k]? = some x := ⟨_, List.getElem?_eq_getElem hkl⟩
      obtain ⟨g, off, n', c', A', cc, e, hr, _, _, hd⟩ := HS.out.cells hx
      obtain ⟨d0, d1, d2⟩ := hd _ (Below.refl _ _)
      clear hd
      injection e with e1 e2 e3; subst e1; clear e2 e3
      obtain ⟨_, _, e, _, hm⟩ := hr.shape
      injection e with e1 e2 e3; subst e3; clear e1 e2
      have hr63 : (x.2.2.length : Int) ≤ 9223372036854775807 := by have := hr.1; obtain ⟨_, _, e, h2, h3⟩ := SlK.shape this; unfold maxLen at h3; omega
      have HX := Lib.hid hx
      have hlt : (k : Int) < S.length := by omega
      have hk0 : (0 : Int) ≤ k := by omega
      clear hx hr
      by_cases h6 : 60 < x.2.2.length
      · have h6' : (60 : Int) < x.2.2.length := by omega
        have HF := Lib.hid (great_hit HX.out h6 most)
        go_wp2_with fail
        go_ret
        exact ⟨by rw [HF.out]; rfl, rfl⟩
      · have h6' : ¬ (60 : Int) < x.2.2.length := by omega
        have HF := Lib.hid (show greatTo S (k + 1) = false by rw [great_succ HX.out, HG.out]; simp; omega)
        go_wp2_with fail
        go_round
        case rel => exact ⟨k + 1, by go_num, by omega, HF.out⟩
        case measure => simp [intOf]; omega
    · obtain rfl : k = S.length := by omega
      have HF := Lib.hid (show greatB S most = decide (most < (S.length : Int)) by unfold greatB; rw [show S.any (fun x => decide (60 < x.2.2.length)) = false from by have := HG.out; unfold greatTo at this; rwa [List.take_length] at this, Bool.false_or])
      by_cases hm : most < (S.length : Int)
      · have HF2 := Lib.hid (HF.out.trans (show decide (most < (S.length : Int)) = true by simpa using hm))
        go_wp2_with fail
        go_ret
        exact ⟨by rw [HF2.out]; rfl, rfl⟩
      · have HF2 := Lib.hid (HF.out.trans (show decide (most < (S.length : Int)) = false by simpa using hm))
        go_wp2_with fail
        go_ret
        exact ⟨by rw [HF2.out]; rfl, rfl⟩
end Go.Proofs.YtlfibaijpimocaaDoor

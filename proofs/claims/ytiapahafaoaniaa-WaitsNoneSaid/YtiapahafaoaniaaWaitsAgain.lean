/- waits.Again, Copy. -/
import Derived.Test.YtiapahafaoaniaaWaitsTick
import Derived.BigRegion
namespace Go.Proofs.Ytiapahafaoaniaa
open Go.RowKit Go.Maps Wa Key

theorem has_of {l : List W5} {k : Int × Int} {v : W5} (h : (k, v) ∈ ent l) : hasW l k = true := by
  unfold ent at h
  obtain ⟨x, hx, e⟩ := List.mem_map.1 h
  injection e with e1 e2
  unfold hasW
  exact List.any_eq_true.2 ⟨x, hx, by simp [e1]⟩
theorem has_one {l : List W5} (hg : Wa.Good l) {k : Int × Int} {u v : W5} (hu : (k, u) ∈ ent l) (hv : (k, v) ∈ ent l) : u = v := by
  unfold ent at hu hv
  obtain ⟨x, hx, e1⟩ := List.mem_map.1 hu
  obtain ⟨y, hy, e2⟩ := List.mem_map.1 hv
  injection e1 with e1 e3
  injection e2 with e2 e4
  subst e3; subst e4
  exact hg.uniq hx hy (e1.trans e2.symm)
theorem has_no {l : List W5} {k : Int × Int} (h : ∀ p ∈ ent l, p.1 ≠ k) : hasW l k = false := by
  unfold hasW
  rw [List.any_eq_false]
  intro x hx
  have := h (x.1, x) (List.mem_map.2 ⟨x, hx, rfl⟩)
  simpa using this

set_option maxHeartbeats 1000000 in
theorem again_wa (w : World) (a b : Nat) (l : List W5) (o d now : Int) (h : WA w a b l) (hgd : Wa.Good l) (hl : l.length < 10000) (hk : (-9223372036854775808 ≤ o ∧ o ≤ 9223372036854775807) ∧ (-9223372036854775808 ≤ d ∧ d ≤ 9223372036854775807)) :
    Calls Try.prog 15 #[.pointer (some ⟨a, 0, none⟩), .agg #[.int .i64 o, .int .i64 d], .int .i64 now] w fun e w' => e = .returned (.bool (hasW l (o, d))) ∧ WA w' a b (if hasW l (o, d) then startW l (o, d) now else l) ∧ w.grownBy w' (some b) := by
  obtain ⟨kl, hkl⟩ := key_reads (o, d) hk
  have HL := Lib.hid hkl
  have HM := Lib.hid h
  have HG := Lib.hid hgd
  have hab := h.lt
  have hc := h.cell
  clear h hkl hgd
  go_enter Try.func15, Try.ntmps15
  go_wp2_with fail
  refine (nonep_any _ a b (((below_alloc w _).cell (by simp only []; omega)).trans hc)).mono ?_
  rintro e w0 ⟨rfl, hw⟩; subst hw
  have HB := Lib.hid (below_alloc w (.cells #[.int .i64 o, .int .i64 d] tKey))
  have hca := (HB.out.cell (p := ⟨a, 0, none⟩) (by simp only []; omega)).trans hc
  have hkb := heap_new w (.cells #[.int .i64 o, .int .i64 d] tKey)
  obtain ⟨k0, k1, _, _⟩ := cell2 hkb
  have HK := Lib.hid hkb
  have hz := heap_lt hkb
  have HM1 := Lib.hid (HM.out.below HB.out)
  clear hkb hc
  generalize w.alloc (.cells #[.int .i64 o, .int .i64 d] tKey) = w1 at HB hca k0 k1 hz HK HM1 ⊢
  go_wp2_with fail
  have hlk := fun W (hW : MapL Try.prog tKey mkKey mkWait W b (ent l)) => hW.look lawKey mapW (zeroWait W) HL.out (mkKey_inj _)
  cases hh : hasW l (o, d) with
  | true =>
    have hv : ∃ v : W5, ∀ W, MapL Try.prog tKey mkKey mkWait W b (ent l) → (Instr.lookup tMapW (.map (some b)) (mkKey (o, d)) true).run Try.prog W = .ok (.tuple #[mkWait v, .bool true]) W := by
      obtain ⟨v, hv⟩ : ∃ v : W5, ((o, d), v) ∈ ent l := by
        unfold hasW at hh
        obtain ⟨x, hx, e⟩ := List.any_eq_true.1 hh
        exact ⟨x, List.mem_map.2 ⟨x, hx, by simp at e; rw [e]⟩⟩
      refine ⟨v, fun W hW => ?_⟩
      rcases hlk W hW with ⟨u, hu, r, _⟩ | ⟨hn, _⟩
      · rw [has_one HG.out hu hv] at r
        exact r
      · exact absurd rfl (hn _ hv)
    obtain ⟨⟨⟨o', d'⟩, t, n, p⟩, hv⟩ := hv
    have hA := hv w1.drew (HM1.out.mp.block rfl)
    have hB := hv (w1.alloc (.cells #[.int .i64 0, .int .i64 0, .int .i64 0, .int .i64 0, .bool false] tWait)).drew ((HM1.out.mp.alloc _).block rfl)
    have hca' := ((below_alloc w1 (.cells #[.int .i64 0, .int .i64 0, .int .i64 0, .int .i64 0, .bool false] tWait)).cell (p := ⟨a, 0, none⟩) (by have := HB.out.size; simp only []; omega)).trans hca
    have k0' := ((below_alloc w1 (.cells #[.int .i64 0, .int .i64 0, .int .i64 0, .int .i64 0, .bool false] tWait)).cell (p := ⟨w.heap.size, 0, none⟩) hz).trans k0
    have k1' := ((below_alloc w1 (.cells #[.int .i64 0, .int .i64 0, .int .i64 0, .int .i64 0, .bool false] tWait)).cell (p := ⟨w.heap.size, 1, none⟩) hz).trans k1
    simp only [mkKey, mkWait] at hA hB
    clear hv hlk
    go_region
    all_goals
      go_wp2_with fail
      refine (start_wa _ a b l o d now (HM1.out.below (below_drew1 (below_alloc w1 _))) (by omega)).mono ?_
      rintro e w2 ⟨rfl, hwa, hgr⟩
      have HWA := Lib.hid hwa
      have HGR := Lib.hid (((grown_of_below HB.out (some b)).trans (grown_of_below (below_drew1 (below_alloc w1 _)) (some b))).trans hgr)
      clear hwa hgr
      go_wp2_with fail
      go_ret
      exact ⟨rfl, by simpa using HWA.out, HGR.out⟩
  | false =>
    have hv : ∀ W, MapL Try.prog tKey mkKey mkWait W b (ent l) → (Instr.lookup tMapW (.map (some b)) (mkKey (o, d)) true).run Try.prog W = .ok (.tuple #[mkWait ((0, 0), 0, 0, false), .bool false]) W := by
      intro W hW
      rcases hlk W hW with ⟨u, hu, r, _⟩ | ⟨hn, r, _⟩
      · exact absurd ((has_of hu).symm.trans hh) (by simp)
      · exact r
    have hA := hv w1.drew (HM1.out.mp.block rfl)
    have hB := hv (w1.alloc (.cells #[.int .i64 0, .int .i64 0, .int .i64 0, .int .i64 0, .bool false] tWait)).drew ((HM1.out.mp.alloc _).block rfl)
    have hca' := ((below_alloc w1 (.cells #[.int .i64 0, .int .i64 0, .int .i64 0, .int .i64 0, .bool false] tWait)).cell (p := ⟨a, 0, none⟩) (by have := HB.out.size; simp only []; omega)).trans hca
    have k0' := ((below_alloc w1 (.cells #[.int .i64 0, .int .i64 0, .int .i64 0, .int .i64 0, .bool false] tWait)).cell (p := ⟨w.heap.size, 0, none⟩) hz).trans k0
    have k1' := ((below_alloc w1 (.cells #[.int .i64 0, .int .i64 0, .int .i64 0, .int .i64 0, .bool false] tWait)).cell (p := ⟨w.heap.size, 1, none⟩) hz).trans k1
    simp only [mkKey, mkWait] at hA hB
    clear hv hlk
    go_region
    all_goals
      go_wp2_with fail
      all_goals go_ret
      all_goals exact ⟨rfl, HM1.out.below (below_drew1 (below_alloc w1 _)), (grown_of_below HB.out (some b)).trans (grown_of_below (below_drew1 (below_alloc w1 _)) (some b))⟩
end Go.Proofs.Ytiapahafaoaniaa

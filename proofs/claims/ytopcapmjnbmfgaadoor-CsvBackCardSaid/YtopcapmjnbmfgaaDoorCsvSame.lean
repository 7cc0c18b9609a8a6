/- consignorlaw04.Same answers whether two lists of rows are the same. -/
import Derived.Test.YtopcapmjnbmfgaaDoorMem
import Derived.Deep.QuietTactic
import Derived.BigQuiet
namespace Go.Proofs.YtopcapmjnbmfgaaDoor
open Go.RowKit

set_option maxHeartbeats 1000000 in
theorem same_any (va vb : Value) (LA LB : List (List (List UInt8))) (B : Nat) (w : World) (ha : Rowz w B va LA) (hb : Rowz w B vb LB) (hA : LA.length ≤ 1000000) (hB : LB.length ≤ 1000000)
   (hA2 : ∀ r ∈ LA, r.length ≤ 1000000) (hB2 : ∀ r ∈ LB, r.length ≤ 1000000):
    Calls Tryd.prog 11 #[va, vb] w fun e w' => e = .returned (.bool (decide (LA = LB))) ∧ ∃ n, w' = w.drewN n := by
  obtain ⟨A, n, c, rfl, hl, hc, h⟩ := ha
  obtain ⟨A', n', c', rfl, hl', hc', h'⟩ := hb
  have H := Lib.hid h; have H' := Lib.hid h'; clear h h'
  by_cases hn : n = n'
  · subst hn
    have HL := Lib.hid hl; have HL' := Lib.hid hl'; clear hl hl'
    have hA' : n ≤ 1000000 := by have := HL.out; omega
    go_enter Tryd.func11, Tryd.ntmps11
    go_wp2
    go_loopw [5] (fun i wr => ∃ j : Nat, j ≤ n ∧ i = .int .i64 j ∧ (∃ n, wr = w.drewN n) ∧ Hid (∀ k, k < j → LA[k]? = LB[k]?)) (fun i _ => n - (intOf i).toNat)
    case atStart => exact ⟨0, Nat.zero_le _, rfl, ⟨0, rfl⟩, fun k hk => absurd hk (by omega)⟩
    case round =>
      obtain ⟨j, hj, rfl, ⟨m, rfl⟩, Hs⟩ := hrel
      by_cases hlt : j < n
      · obtain ⟨x, hx⟩ : ∃ x, LA[j]? = some x := ⟨_, List.getElem?_eq_getElem (by have := HL.out; omega)⟩
        obtain ⟨y, hy⟩ : ∃ x, LB[j]? = some x := ⟨_, List.getElem?_eq_getElem (by have := HL'.out; omega)⟩
        obtain ⟨ad, u, rfl, had, hcell, hu⟩ := H.out j x hx
        obtain ⟨ad', u', rfl, had', hcell', hu'⟩ := H'.out j y hy
        obtain ⟨Ai, ni, ci, rfl, hli, hci, hi⟩ := hu
        obtain ⟨Ai', ni', ci', rfl, hli', hci', hi'⟩ := hu'
        have H1 := Lib.hid hi; have H2 := Lib.hid hi'; have H3 := Lib.hid hx; have H4 := Lib.hid hy; have H5 := Lib.hid hli; have H6 := Lib.hid hli'; clear hi hi' hx hy hli hli'
        have hni : ni ≤ 1000000 := by have := hA2 x (List.mem_of_getElem? H3.out); have := H5.out; omega
        have hni' : ni' ≤ 1000000 := by have := hB2 y (List.mem_of_getElem? H4.out); have := H6.out; omega
        by_cases hnn : ni = ni'
        · subst hnn
          have hnn : ((ni : Int) != (ni : Int)) = false := by simp
          go_wp2
          go_quiet (fail)
          go_wp2
          go_loopw [6] (fun i wr => ∃ k : Nat, k ≤ ni ∧ i = .int .i64 k ∧ (∃ n, wr = w.drewN n) ∧ Hid (∀ t, t < k → x[t]? = y[t]?)) (fun i _ => ni - (intOf i).toNat)
          case atStart => exact ⟨0, Nat.zero_le _, rfl, ⟨m + nq, by simp⟩, fun k hk => absurd hk (by omega)⟩
          case round =>
            obtain ⟨k, hk, rfl, ⟨q, rfl⟩, Ht⟩ := hrel
            by_cases hkt : k < ni
            · obtain ⟨a, ha⟩ : ∃ a, x[k]? = some a := ⟨_, List.getElem?_eq_getElem (by have := H5.out; omega)⟩
              obtain ⟨b, hb⟩ : ∃ a, y[k]? = some a := ⟨_, List.getElem?_eq_getElem (by have := H6.out; omega)⟩
              obtain ⟨aa, ua, rfl, haa, hca, hua⟩ := H1.out k a ha
              obtain ⟨ab, ub, rfl, hab, hcb, hub⟩ := H2.out k b hb
              subst hua; subst hub
              have H7 := Lib.hid ha; have H8 := Lib.hid hb; clear ha hb
              go_wp2
              go_quiet (fail)
              go_wp2
              · rename_i hne
                go_ret
                refine ⟨ret_bool ?_, by first | exact ⟨_, rfl⟩ | exact ⟨_, by rw [World.drewN_drewN]⟩⟩
                symm
                rw [decide_eq_false_iff_not]
                rintro rfl
                have e1 := H3.out; have e2 := H4.out
                rw [e1] at e2
                cases e2
                have e1 := H7.out; have e2 := H8.out
                rw [e1] at e2
                cases e2
                simp at hne
              · rename_i hne
                refine ⟨⟨k + 1, by omega, by go_num, ⟨_, rfl⟩, fun t ht => ?_⟩, by simp [intOf]; omega⟩
                by_cases htk : t = k
                · subst htk
                  rw [H7.out, H8.out]
                  simpa using hne
                · exact Ht.out t (by omega)
            · go_wp2
              refine ⟨⟨j + 1, by omega, by go_num, ⟨_, rfl⟩, fun t ht => ?_⟩, by simp [intOf]; omega⟩
              by_cases htk : t = j
              · subst htk
                rw [H3.out, H4.out]
                exact congrArg some (list_ext H5.out H6.out (fun t ht => Ht.out t (by omega)))
              · exact Hs.out t (by omega)
        · have hnn : ((ni : Int) != (ni' : Int)) = true := by simp; omega
          go_wp2
          go_quiet (fail)
          go_wp2
          go_ret
          refine ⟨ret_bool ?_, by first | exact ⟨_, rfl⟩ | exact ⟨_, by rw [World.drewN_drewN]⟩⟩
          symm
          rw [decide_eq_false_iff_not]
          rintro rfl
          have e1 := H3.out; have e2 := H4.out
          rw [e1] at e2
          cases e2
          have e1 := H5.out; have e2 := H6.out
          simp at hnn
          omega
      · go_wp2
        go_ret
        refine ⟨ret_bool ?_, by first | exact ⟨_, rfl⟩ | exact ⟨_, by rw [World.drewN_drewN]⟩⟩
        symm
        rw [decide_eq_true_eq]
        exact list_ext HL.out HL'.out (fun t ht => Hs.out t (by omega))
  · have hn' : ((n : Int) != (n' : Int)) = true := by simp; omega
    have HL := Lib.hid hl; have HL' := Lib.hid hl'; clear hl hl'
    go_enter Tryd.func11, Tryd.ntmps11
    go_wp2
    go_ret
    refine ⟨ret_bool ?_, ⟨0, rfl⟩⟩
    symm
    rw [decide_eq_false_iff_not]
    rintro rfl
    exact hn (by rw [← HL.out, ← HL'.out])
end Go.Proofs.YtopcapmjnbmfgaaDoor

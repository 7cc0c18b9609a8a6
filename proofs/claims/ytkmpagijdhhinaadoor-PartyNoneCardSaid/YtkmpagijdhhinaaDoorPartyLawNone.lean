/- law16: PartyNone. -/
import Derived.Test.YtkmpagijdhhinaaDoorPartyNil
import Derived.Test.YtkmpagijdhhinaaDoorPartyAsked
namespace Go.Proofs.YtkmpagijdhhinaaDoor
open Go.RowKit Go.Maps Key Od Pa

theorem own_nil (w : World) (B : Nat) (e : TypeId) (z : Nat) : w.ownsRow B e z (.slice none 0 0) 0 [] := ⟨by simp, .inl ⟨rfl, rfl⟩⟩
set_option linter.unusedSimpArgs false in
set_option linter.unusedVariables false in
set_option maxRecDepth 100000 in
set_option maxHeartbeats 4000000 in
theorem lawPartyNone_walk (w : World) (hT : PT w) (to o d : Int) (sku : ByteArray) (qty amt cd kind : Int) :
    Calls Tryd.prog 4 #[.agg #[.int .i64 to, .int .i64 o, .int .i64 d, .string sku, .int .i64 qty, .int .i64 amt, .int .i64 cd], .int .i64 kind] w fun e w' => e = .returned (.bool true) ∧ Below w.heap.size w w' := by
  have HK0 := Lib.hid (heap_new w (.cells #[.int .i64 to, .int .i64 o, .int .i64 d, .string sku, .int .i64 qty, .int .i64 amt, .int .i64 cd] tMsg))
  have HB0 := Lib.hid (below_alloc w (.cells #[.int .i64 to, .int .i64 o, .int .i64 d, .string sku, .int .i64 qty, .int .i64 amt, .int .i64 cd] tMsg))
  have HT := Lib.hid hT
  clear hT
  by_cases h50 : 50 < sku.size
  · have hg : (50 : Int) < sku.size := by omega
    go_enter Tryd.func4, Tryd.ntmps4
    go_wp2_with fail
    generalize w.alloc (.cells #[.int .i64 to, .int .i64 o, .int .i64 d, .string sku, .int .i64 qty, .int .i64 amt, .int .i64 cd] tMsg) = w1 at HK0 HB0 ⊢
    obtain ⟨m0, m1, m2, m3, m4, m5, m6⟩ := cell7 HK0.out
    go_wp2_with fail
    refine (asked_true w1 (HT.out.below HB0.out)).mono ?_
    rintro e w2 ⟨rfl, hb⟩
    have HB := Lib.hid (bch HB0.out hb HB0.out.size)
    clear hb
    go_wp2_with fail
    go_ret
    exact ⟨rfl, HB.out⟩
  have hg : (sku.size : Int) ≤ 50 := by omega
  go_enter Tryd.func4, Tryd.ntmps4
  go_wp2_with fail
  generalize w.alloc (.cells #[.int .i64 to, .int .i64 o, .int .i64 d, .string sku, .int .i64 qty, .int .i64 amt, .int .i64 cd] tMsg) = w1 at HK0 HB0 ⊢
  obtain ⟨m0, m1, m2, m3, m4, m5, m6⟩ := cell7 HK0.out
  go_wp2_with fail
  clear m0 m1 m2 m3 m4 m5 m6
  go_loopw [5, 6] (fun v i wr => ∃ n : Nat, i = .int .i64 n ∧ n ≤ 2 ∧ Hid (NoParty wr v) ∧ Hid (wr.heap[w.heap.size]? = some (.cells #[.int .i64 to, .int .i64 o, .int .i64 d, .string sku, .int .i64 qty, .int .i64 amt, .int .i64 cd] tMsg (0, 0))) ∧ Hid (Below w.heap.size w wr)) (fun _ i _ => 2 - (intOf i).toNat)
  case atStart => exact ⟨0, rfl, by omega, .inl rfl, HK0, HB0⟩
  case round =>
    obtain ⟨n, rfl, hn, HN, HK, HB⟩ := hrel
    by_cases h2 : n < 2
    · have hlt : (n : Int) < 2 := by omega
      obtain ⟨m0, m1, m2, m3, m4, m5, m6⟩ := cell7 HK.out
      go_wp2_with fail
      refine (nilAsk wr _ to o d sku qty amt cd HN.out).mono ?_
      rintro e wA ⟨rfl, hb⟩
      have HNA := Lib.hid (HN.out.below (hb.alloc hb.size (.cells #[.int .i64 0, .int .i64 0, .int .i64 0, .string ⟨#[]⟩, .int .i64 0, .int .i64 0, .int .i64 0] tMsg)))
      have HKA := Lib.hid (heap_keep HK.out (hb.alloc hb.size (.cells #[.int .i64 0, .int .i64 0, .int .i64 0, .string ⟨#[]⟩, .int .i64 0, .int .i64 0, .int .i64 0] tMsg)))
      have HBA := Lib.hid (bch HB.out (hb.alloc hb.size (.cells #[.int .i64 0, .int .i64 0, .int .i64 0, .string ⟨#[]⟩, .int .i64 0, .int .i64 0, .int .i64 0] tMsg)) HB.out.size)
      obtain ⟨z0, z1, z2, z3, z4, z5, z6⟩ := cell7 (heap_new wA (.cells #[.int .i64 0, .int .i64 0, .int .i64 0, .string ⟨#[]⟩, .int .i64 0, .int .i64 0, .int .i64 0] tMsg))
      clear hb m0 m1 m2 m3 m4 m5 m6
      go_wp2_with fail
      generalize wA.alloc (.cells #[.int .i64 0, .int .i64 0, .int .i64 0, .string ⟨#[]⟩, .int .i64 0, .int .i64 0, .int .i64 0] tMsg) = wB at HNA HKA HBA z0 z1 z2 z3 z4 z5 z6 ⊢
      refine (nilRows wB _ HNA.out).mono ?_
      rintro e wC ⟨rfl, hw⟩; subst hw
      clear z0 z1 z2 z3 z4 z5 z6
      go_wp2_with fail
      refine (nilStat wB _ HNA.out).mono ?_
      rintro e wC ⟨rfl, hb⟩
      have HNC := Lib.hid (HNA.out.below hb)
      have HKC := Lib.hid (heap_keep HKA.out hb)
      have HBC := Lib.hid (bch HBA.out hb HBA.out.size)
      clear hb
      go_wp2_with fail
      refine (refSame_true wC 0 0 (.slice none 0 0) (.slice none 0 0) [] 0 0 (own_nil _ _ _ _) (own_nil _ _ _ _) (by simp)).mono ?_
      rintro e wD ⟨rfl, hb⟩
      have HND := Lib.hid (HNC.out.below hb)
      have HKD := Lib.hid (heap_keep HKC.out hb)
      have HBD := Lib.hid (bch HBC.out hb HBC.out.size)
      clear hb
      obtain ⟨m0, m1, m2, m3, m4, m5, m6⟩ := cell7 HKD.out
      go_wp2_with fail
      refine (nilLeft wD _ sku HND.out).mono ?_
      rintro e wE ⟨rfl, hb⟩
      have HNE := Lib.hid (HND.out.below hb)
      have HKE := Lib.hid (heap_keep HKD.out hb)
      have HBE := Lib.hid (bch HBD.out hb HBD.out.size)
      clear hb m0 m1 m2 m3 m4 m5 m6
      go_wp2_with fail
      refine (nilpCopy wE _ HNE.out).mono ?_
      rintro e wF ⟨rfl, hw⟩; subst hw
      go_wp2_with fail
      go_roundw
      case rel => exact ⟨n + 1, by go_num, by omega, .inr ⟨_, rfl, cell_at (heap_new wE _) 3 rfl⟩, heap_keep HKE.out (below_alloc _ _), HBE.out.alloc HBE.out.size _⟩
      case measure => simp [intOf]; omega
    · obtain rfl : n = 2 := by omega
      by_cases hk : 0 ≤ kind ∧ kind ≤ 2
      · have q1 := decide_eq_false (show ¬ kind < 0 by omega)
        have q2 := decide_eq_false (show ¬ 2 < kind by omega)
        go_wp2_with fail
        refine (new_any wr kind 1 1 hk).mono ?_
        rintro e wA ⟨p, bk, tk, wh, rfl, _, _, _, _, _, hb⟩
        have HBA := Lib.hid (bch HB.out hb HB.out.size)
        clear hb
        go_wp2_with fail
        refine (asked_true wA (HT.out.below HBA.out)).mono ?_
        rintro e wB ⟨rfl, hb⟩
        have HBB := Lib.hid (bch HBA.out hb HBA.out.size)
        clear hb
        go_wp2_with fail
        go_ret
        exact ⟨rfl, HBB.out⟩
      · have hk2 : kind < 0 ∨ (0 ≤ kind ∧ 2 < kind) := by omega
        go_wp2_with fail
        refine (new_no wr kind 1 1 hk).mono ?_
        rintro e wA ⟨rfl, hw⟩; subst hw
        clear hk
        rcases hk2 with h1 | ⟨h0, h1⟩
        all_goals
          go_wp2_with fail
          refine (asked_true wr (HT.out.below HB.out)).mono ?_
          rintro e wB ⟨rfl, hb⟩
          have HBB := Lib.hid (bch HB.out hb HB.out.size)
          clear hb
          go_wp2_with fail
          go_ret
          exact ⟨rfl, HBB.out⟩
end Go.Proofs.YtkmpagijdhhinaaDoor

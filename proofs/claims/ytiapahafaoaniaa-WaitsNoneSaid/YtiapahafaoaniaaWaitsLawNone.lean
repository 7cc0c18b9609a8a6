/- law18: WaitsNone. -/
import Derived.Test.YtiapahafaoaniaaWaitsNil
import Derived.Test.YtiapahafaoaniaaWaitsPlay
namespace Go.Proofs.Ytiapahafaoaniaa
open Go.RowKit Go.Maps Wa Key

set_option maxRecDepth 100000 in
set_option maxHeartbeats 2000000 in
theorem lawWaitsNone_walk (w : World) (kd o d now : Int) :
    Calls Try.prog 7 #[.agg #[.int .u8 kd, .int .i64 o, .int .i64 d, .int .i64 now]] w fun e w' => e = .returned (.bool true) ∧ Below w.heap.size w w' := by
  have hk0 := heap_new w (.cells #[.int .u8 kd, .int .i64 o, .int .i64 d, .int .i64 now] 45)
  have HB0 := Lib.hid (below_alloc w (.cells #[.int .u8 kd, .int .i64 o, .int .i64 d, .int .i64 now] 45))
  go_enter Try.func7, Try.ntmps7
  go_wp2_with fail
  generalize w.alloc (.cells #[.int .u8 kd, .int .i64 o, .int .i64 d, .int .i64 now] 45) = w1 at hk0 HB0 ⊢
  go_loopw [3, 4] (fun v3 i wr => ∃ n : Nat, i = .int .i64 n ∧ n ≤ 2 ∧ Hid (NoWaits wr v3) ∧ Hid (wr.heap[w.heap.size]? = some (.cells #[.int .u8 kd, .int .i64 o, .int .i64 d, .int .i64 now] 45 (0, 0))) ∧ Hid (Below w.heap.size w wr)) (fun _ i _ => 2 - (intOf i).toNat)
  case atStart => exact ⟨0, rfl, by omega, .inl rfl, hk0, HB0.out⟩
  case round =>
    obtain ⟨n, rfl, hn, HN, HK, HB⟩ := hrel
    by_cases h2 : n < 2
    · have hlt : (n : Int) < 2 := by omega
      obtain ⟨k0, k1, k2, k3⟩ := cell4 HK.out
      go_wp2_with fail
      refine (nilStart wr _ o d now HN.out).mono ?_
      rintro e wA ⟨rfl, hb⟩
      have HNA := Lib.hid (HN.out.below hb)
      have HKA := Lib.hid (heap_keep HK.out hb)
      have HBA := Lib.hid (bch HB.out hb HB.out.size)
      clear hb k0 k1 k2 k3
      obtain ⟨k0, k1, k2, k3⟩ := cell4 HKA.out
      go_wp2_with fail
      refine (nilDue wA _ o d now HNA.out).mono ?_
      rintro e wB ⟨rfl, hb⟩
      have HNB := Lib.hid (HNA.out.below hb)
      have HKB := Lib.hid (heap_keep HKA.out hb)
      have HBB := Lib.hid (bch HBA.out hb HBA.out.size)
      clear hb k0 k1 k2 k3
      obtain ⟨k0, k1, k2, k3⟩ := cell4 HKB.out
      go_wp2_with fail
      refine (nilStop wB _ o d HNB.out).mono ?_
      rintro e wC ⟨rfl, hb⟩
      have HNC := Lib.hid (HNB.out.below hb)
      have HKC := Lib.hid (heap_keep HKB.out hb)
      have HBC := Lib.hid (bch HBB.out hb HBB.out.size)
      clear hb k0 k1 k2 k3
      obtain ⟨k0, k1, k2, k3⟩ := cell4 HKC.out
      go_wp2_with fail
      refine (nilAgain wC _ o d now HNC.out).mono ?_
      rintro e wD ⟨rfl, hb⟩
      have HND := Lib.hid (HNC.out.below hb)
      have HKD := Lib.hid (heap_keep HKC.out hb)
      have HBD := Lib.hid (bch HBC.out hb HBC.out.size)
      clear hb k0 k1 k2 k3
      obtain ⟨k0, k1, k2, k3⟩ := cell4 HKD.out
      go_wp2_with fail
      refine (nilTick wD _ now HND.out).mono ?_
      rintro e wE ⟨rfl, hw⟩; subst hw
      go_wp2_with fail
      refine (nilList wD _ HND.out).mono ?_
      rintro e wE ⟨rfl, hw⟩; subst hw
      go_wp2_with fail
      refine (nilCopy wD _ HND.out).mono ?_
      rintro e wE ⟨rfl, hw⟩; subst hw
      go_wp2_with fail
      go_roundw
      case rel => exact ⟨n + 1, by go_num, by omega, .inr ⟨_, rfl, cell_at (heap_new wD _) 0 rfl⟩, heap_keep HKD.out (below_alloc _ _), HBD.out.alloc HBD.out.size _⟩
      case measure => simp [intOf]; omega
    · obtain rfl : n = 2 := by omega
      go_wp2_with fail
      refine (waited_true wr).mono ?_
      rintro e wA ⟨rfl, hb⟩
      have HBA := Lib.hid (bch HB.out hb HB.out.size)
      clear hb
      go_wp2_with fail
      go_ret
      exact ⟨rfl, HBA.out⟩
end Go.Proofs.Ytiapahafaoaniaa

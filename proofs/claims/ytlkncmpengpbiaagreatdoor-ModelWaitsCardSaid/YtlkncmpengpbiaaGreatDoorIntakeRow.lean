/- The document's intake: Accept, Row. -/
import Derived.Test.YtlkncmpengpbiaaGreatDoorIntakeTell
import Derived.Test.YtlkncmpengpbiaaGreatDoorRefRowValid
import Derived.Test.YtlkncmpengpbiaaGreatDoorShort
namespace Go.Proofs.YtlkncmpengpbiaaGreatDoor
open Go.RowKit Go.Maps Key Rw
set_option linter.unusedSimpArgs false
set_option linter.unusedVariables false
set_option maxRecDepth 100000
set_option maxHeartbeats 4000000

abbrev tInR : TypeId := 97
abbrev zInR : Array Value := #[.int .i64 0, .int .i64 0, .slice none 0 0, .int .i64 0, .int .i64 0, .slice none 0 0, .int .i64 0, .int .i64 0, .slice none 0 0]
/-- The rows of an intake of the document's are not in block b. -/
def AvR (b : Nat) (v : Value) (I : In.Inn) : Prop := ∀ p0 s0 A0 n0 c0 p1 s1 A1 n1 c1 p2 s2 A2 n2 c2, v = .agg #[.int .i64 p0, .int .i64 s0, .slice A0 n0 c0, .int .i64 p1, .int .i64 s1, .slice A1 n1 c1, .int .i64 p2, .int .i64 s2, .slice A2 n2 c2] → OffL b (.slice A0 n0 c0) I.a.2.2.length ∧ OffL b (.slice A1 n1 c1) I.b.2.2.length ∧ OffL b (.slice A2 n2 c2) I.c.2.2.length
theorem AvR.of {b : Nat} {I : In.Inn} {p0 s0 p1 s1 p2 s2 : Int} {A0 A1 A2 : Option Addr} {n0 c0 n1 c1 n2 c2 : Nat} (h0 : OffL b (.slice A0 n0 c0) I.a.2.2.length) (h1 : OffL b (.slice A1 n1 c1) I.b.2.2.length) (h2 : OffL b (.slice A2 n2 c2) I.c.2.2.length) : AvR b (.agg #[.int .i64 p0, .int .i64 s0, .slice A0 n0 c0, .int .i64 p1, .int .i64 s1, .slice A1 n1 c1, .int .i64 p2, .int .i64 s2, .slice A2 n2 c2]) I := by
 intro _ _ _ _ _ _ _ _ _ _ _ _ _ _ _ e
 simp only [Value.agg.injEq, Array.mk.injEq, List.cons.injEq, Value.slice.injEq] at e
 obtain ⟨_, _, ⟨rfl, rfl, rfl⟩, _, _, ⟨rfl, rfl, rfl⟩, _, _, ⟨rfl, rfl, rfl⟩, _⟩ := e
 exact ⟨h0, h1, h2⟩
theorem AvR.nil (b : Nat) : AvR b vInR0 In.nil := AvR.of (fun _ _ _ e => by cases e) (fun _ _ _ e => by cases e) (fun _ _ _ e => by cases e)
theorem InR.turned {w w' : World} {v : Value} {I : In.Inn} (h : InR w v I) {S : Nat → Prop} (ht : Turned S w w') (hS : ∀ b, S b → AvR b v I) : InR w' v I := by
 obtain ⟨A0, n0, c0, A1, n1, c1, A2, n2, c2, rfl, h0, h1, h2⟩ := h
 exact ⟨A0, n0, c0, A1, n1, c1, A2, n2, c2, rfl, h0.turned ht (fun ad n c e hl hs => (hS _ hs _ _ _ _ _ _ _ _ _ _ _ _ _ _ _ rfl).1 ad n c e hl rfl), h1.turned ht (fun ad n c e hl hs => (hS _ hs _ _ _ _ _ _ _ _ _ _ _ _ _ _ _ rfl).2.1 ad n c e hl rfl), h2.turned ht (fun ad n c e hl hs => (hS _ hs _ _ _ _ _ _ _ _ _ _ _ _ _ _ _ rfl).2.2 ad n c e hl rfl)⟩
theorem refValid_at (w : World) (p s : Int) (v : Value) (l : List R5) (hR : Rd w v l) {b : Bool} (hv : validB p s l = b) (W : World) (hb : Below w.heap.size w W) :
  Calls Tryz.prog 120 #[.agg #[.int .i64 p, .int .i64 s, v]] W fun e w' => e = .returned (.bool b) ∧ Below W.heap.size W w' := by
 rw [← hv]; exact refRowsValid_any W p s v l (hR.keep hb)
theorem refAccept_arg (w : World) (v : Value) (I : In.Inn) (p : Int) (s : Int) (u : Value) (l : List R5) (h : InR w v I) (hu : Rd w u l) (hv : validB p s l = false) :
  Calls Tryz.prog 80 #[v, .agg #[.int .i64 p, .int .i64 s, u]] w fun e w' => e = .returned (.tuple #[vInR0, .int .i64 2]) ∧ Below w.heap.size w w' := by
 obtain ⟨A0, n0, c0, A1, n1, c1, A2, n2, c2, rfl, h0, h1, h2⟩ := h
 have HV := Hd (refValid_at w p s u l hu hv)
 have HU := Hd hu
 have H0 := Hd h0; have H1 := Hd h1; have H2 := Hd h2
 obtain ⟨A, c, rfl, _⟩ := hu.shape
 obtain ⟨wa, hA⟩ : ∃ wa, wa = ((w.alloc (.cells #[.int .i64 I.a.1, .int .i64 I.a.2.1, .slice A0 n0 c0, .int .i64 I.b.1, .int .i64 I.b.2.1, .slice A1 n1 c1, .int .i64 I.c.1, .int .i64 I.c.2.1, .slice A2 n2 c2] tInR)).alloc (.cells #[.int .i64 p, .int .i64 s, .slice A l.length c] tStat)).alloc (.cells zInR tInR) := ⟨_, rfl⟩
 obtain ⟨hB, hI, hS, hZ⟩ := three_new w _ _ _ tInR tStat tInR hA
 have HB := Hd hB; have HI := Hd hI; have HS := Hd hS; have HZ := Hd hZ
 have HA := Hd hA
 clear hA hB hI hS hZ hu h0 h1 h2 hv
 go_enter Tryz.func80, Tryz.ntmps80
 go_wp2_with fail
 rw [← HA.out]
 refine (HV.out _ HB.out).mono ?_
 rintro e w1 ⟨rfl, hb⟩
 have HB1 := Hd (bch HB.out hb HB.out.size)
 have HZ1 := Hd (heap_keep HZ.out hb)
 have HI1 := Hd (heap_keep HI.out hb)
 have HS1 := Hd (heap_keep HS.out hb)
 clear hb HA HB HI HS HZ HV
 have hsz2 := heap_lt HZ1.out
 obtain ⟨m0, m1, m2, m3, m4, m5, m6, m7, m8⟩ := cell9 HZ1.out
 obtain ⟨f0, f1, f2, f3, f4, f5, f6, f7, f8⟩ := froz9 HZ1.out
 obtain ⟨i0, i1, i2, i3, i4, i5, i6, i7, i8⟩ := cell9 HI1.out
 obtain ⟨k0, k1, k2⟩ := cell3c HS1.out
 go_wp2_with fail
 refine bodyPost_ret (v := .tuple #[vInR0, .int .i64 2]) (by simp [results, Tryz.results80, go_sem, m0, m1, m2, m3, m4, m5, m6, m7, m8]) rfl ⟨rfl, ?_⟩
 exact Below.turned HB1.out (turned_set9 _ _ _ _ _ _ _ _ _ _ _) (fun i h => by omega) HB1.out.size
theorem refAccept_stale (w : World) (v : Value) (I : In.Inn) (p : Int) (s : Int) (u : Value) (l : List R5) (h : InR w v I) (hu : Rd w u l) (hv : validB p s l = true) (hs : s ≤ (I.at p).2.1) :
  Calls Tryz.prog 80 #[v, .agg #[.int .i64 p, .int .i64 s, u]] w fun e w' => e = .returned (.tuple #[vInR0, .int .i64 93]) ∧ Below w.heap.size w w' := by
 obtain ⟨A0, n0, c0, A1, n1, c1, A2, n2, c2, rfl, h0, h1, h2⟩ := h
 have HV := Hd (refValid_at w p s u l hu hv)
 have HU := Hd hu
 have H0 := Hd h0; have H1 := Hd h1; have H2 := Hd h2
 obtain ⟨A, c, rfl, _⟩ := hu.shape
 obtain ⟨wa, hA⟩ : ∃ wa, wa = ((w.alloc (.cells #[.int .i64 I.a.1, .int .i64 I.a.2.1, .slice A0 n0 c0, .int .i64 I.b.1, .int .i64 I.b.2.1, .slice A1 n1 c1, .int .i64 I.c.1, .int .i64 I.c.2.1, .slice A2 n2 c2] tInR)).alloc (.cells #[.int .i64 p, .int .i64 s, .slice A l.length c] tStat)).alloc (.cells zInR tInR) := ⟨_, rfl⟩
 obtain ⟨hB, hI, hS, hZ⟩ := three_new w _ _ _ tInR tStat tInR hA
 have HB := Hd hB; have HI := Hd hI; have HS := Hd hS; have HZ := Hd hZ
 have HA := Hd hA
 have hp := In.valid_party hv
 rcases hp with rfl | rfl | rfl
 ·have hs' : s ≤ I.a.2.1 := hs
  clear hs
  clear hA hB hI hS hZ hu h0 h1 h2 hv
  go_enter Tryz.func80, Tryz.ntmps80
  go_wp2_with fail
  rw [← HA.out]
  refine (HV.out _ HB.out).mono ?_
  rintro e w1 ⟨rfl, hb⟩
  have HB1 := Hd (bch HB.out hb HB.out.size)
  have HZ1 := Hd (heap_keep HZ.out hb)
  have HI1 := Hd (heap_keep HI.out hb)
  have HS1 := Hd (heap_keep HS.out hb)
  clear hb HA HB HI HS HZ HV
  have hsz2 := heap_lt HZ1.out
  obtain ⟨m0, m1, m2, m3, m4, m5, m6, m7, m8⟩ := cell9 HZ1.out
  obtain ⟨f0, f1, f2, f3, f4, f5, f6, f7, f8⟩ := froz9 HZ1.out
  obtain ⟨i0, i1, i2, i3, i4, i5, i6, i7, i8⟩ := cell9 HI1.out
  obtain ⟨k0, k1, k2⟩ := cell3c HS1.out
  go_wp2_with fail
  go_quiet (fail)
  go_wp2_with fail
  refine bodyPost_ret (v := .tuple #[vInR0, .int .i64 93]) (by simp [results, Tryz.results80, go_sem, m0, m1, m2, m3, m4, m5, m6, m7, m8]) rfl ⟨rfl, ?_⟩
  exact Below.turned (below_drewN HB1.out _) (turned_set9 _ _ _ _ _ _ _ _ _ _ _) (fun i h => by omega) (below_drewN HB1.out _).size
 ·have hs' : s ≤ I.b.2.1 := hs
  clear hs
  clear hA hB hI hS hZ hu h0 h1 h2 hv
  go_enter Tryz.func80, Tryz.ntmps80
  go_wp2_with fail
  rw [← HA.out]
  refine (HV.out _ HB.out).mono ?_
  rintro e w1 ⟨rfl, hb⟩
  have HB1 := Hd (bch HB.out hb HB.out.size)
  have HZ1 := Hd (heap_keep HZ.out hb)
  have HI1 := Hd (heap_keep HI.out hb)
  have HS1 := Hd (heap_keep HS.out hb)
  clear hb HA HB HI HS HZ HV
  have hsz2 := heap_lt HZ1.out
  obtain ⟨m0, m1, m2, m3, m4, m5, m6, m7, m8⟩ := cell9 HZ1.out
  obtain ⟨f0, f1, f2, f3, f4, f5, f6, f7, f8⟩ := froz9 HZ1.out
  obtain ⟨i0, i1, i2, i3, i4, i5, i6, i7, i8⟩ := cell9 HI1.out
  obtain ⟨k0, k1, k2⟩ := cell3c HS1.out
  go_wp2_with fail
  go_quiet (fail)
  go_wp2_with fail
  refine bodyPost_ret (v := .tuple #[vInR0, .int .i64 93]) (by simp [results, Tryz.results80, go_sem, m0, m1, m2, m3, m4, m5, m6, m7, m8]) rfl ⟨rfl, ?_⟩
  exact Below.turned (below_drewN HB1.out _) (turned_set9 _ _ _ _ _ _ _ _ _ _ _) (fun i h => by omega) (below_drewN HB1.out _).size
 ·have hs' : s ≤ I.c.2.1 := hs
  clear hs
  clear hA hB hI hS hZ hu h0 h1 h2 hv
  go_enter Tryz.func80, Tryz.ntmps80
  go_wp2_with fail
  rw [← HA.out]
  refine (HV.out _ HB.out).mono ?_
  rintro e w1 ⟨rfl, hb⟩
  have HB1 := Hd (bch HB.out hb HB.out.size)
  have HZ1 := Hd (heap_keep HZ.out hb)
  have HI1 := Hd (heap_keep HI.out hb)
  have HS1 := Hd (heap_keep HS.out hb)
  clear hb HA HB HI HS HZ HV
  have hsz2 := heap_lt HZ1.out
  obtain ⟨m0, m1, m2, m3, m4, m5, m6, m7, m8⟩ := cell9 HZ1.out
  obtain ⟨f0, f1, f2, f3, f4, f5, f6, f7, f8⟩ := froz9 HZ1.out
  obtain ⟨i0, i1, i2, i3, i4, i5, i6, i7, i8⟩ := cell9 HI1.out
  obtain ⟨k0, k1, k2⟩ := cell3c HS1.out
  go_wp2_with fail
  go_quiet (fail)
  go_wp2_with fail
  refine bodyPost_ret (v := .tuple #[vInR0, .int .i64 93]) (by simp [results, Tryz.results80, go_sem, m0, m1, m2, m3, m4, m5, m6, m7, m8]) rfl ⟨rfl, ?_⟩
  exact Below.turned (below_drewN HB1.out _) (turned_set9 _ _ _ _ _ _ _ _ _ _ _) (fun i h => by omega) (below_drewN HB1.out _).size
theorem refAccept_ok0 (w : World) (v : Value) (I : In.Inn) (s : Int) (u : Value) (l : List R5) (h : InR w v I) (hu : Rd w u l) (hv : validB 0 s l = true) (hs : I.a.2.1 < s) :
  Calls Tryz.prog 80 #[v, .agg #[.int .i64 0, .int .i64 s, u]] w fun e w' => ∃ v', e = .returned (.tuple #[v', .int .i64 0]) ∧ InR w' v' (In.Inn.put I 0 (0, s, l)) ∧ (∀ b, AvR b v I → OffL b u l.length → AvR b v' (In.Inn.put I 0 (0, s, l))) ∧ Below w.heap.size w w' := by
 obtain ⟨A0, n0, c0, A1, n1, c1, A2, n2, c2, rfl, h0, h1, h2⟩ := h
 have HV := Hd (refValid_at w 0 s u l hu hv)
 have HU := Hd hu
 have H0 := Hd h0; have H1 := Hd h1; have H2 := Hd h2
 obtain ⟨A, c, rfl, _⟩ := hu.shape
 obtain ⟨wa, hA⟩ : ∃ wa, wa = ((w.alloc (.cells #[.int .i64 I.a.1, .int .i64 I.a.2.1, .slice A0 n0 c0, .int .i64 I.b.1, .int .i64 I.b.2.1, .slice A1 n1 c1, .int .i64 I.c.1, .int .i64 I.c.2.1, .slice A2 n2 c2] tInR)).alloc (.cells #[.int .i64 0, .int .i64 s, .slice A l.length c] tStat)).alloc (.cells zInR tInR) := ⟨_, rfl⟩
 obtain ⟨hB, hI, hS, hZ⟩ := three_new w _ _ _ tInR tStat tInR hA
 have HB := Hd hB; have HI := Hd hI; have HS := Hd hS; have HZ := Hd hZ
 have HA := Hd hA
 have hs' : ¬ s ≤ I.a.2.1 := by omega
 clear hs
 clear hA hB hI hS hZ hu h0 h1 h2 hv
 go_enter Tryz.func80, Tryz.ntmps80
 go_wp2_with fail
 rw [← HA.out]
 refine (HV.out _ HB.out).mono ?_
 rintro e w1 ⟨rfl, hb⟩
 have HB1 := Hd (bch HB.out hb HB.out.size)
 have HZ1 := Hd (heap_keep HZ.out hb)
 have HI1 := Hd (heap_keep HI.out hb)
 have HS1 := Hd (heap_keep HS.out hb)
 clear hb HA HB HI HS HZ HV
 have hsz2 := heap_lt HZ1.out
 obtain ⟨m0, m1, m2, m3, m4, m5, m6, m7, m8⟩ := cell9 HZ1.out
 obtain ⟨f0, f1, f2, f3, f4, f5, f6, f7, f8⟩ := froz9 HZ1.out
 obtain ⟨i0, i1, i2, i3, i4, i5, i6, i7, i8⟩ := cell9 HI1.out
 obtain ⟨k0, k1, k2⟩ := cell3c HS1.out
 go_wp2_with fail
 go_quiet (fail)
 generalize HDD : w1.drewN _ = wd
 have HDB : Below w1.heap.size w1 wd := by rw [← HDD]; exact below_drewN (Below.refl _ _) _
 clear HDD i0 i1 i2 i3 i4 i5 i6 i7 i8 k0 k1 k2 m0 m1 m2 m3 m4 m5 m6 m7 m8 f0 f1 f2 f3 f4 f5 f6 f7 f8 hsz2
 have HBd := Hd (bch HB1.out HDB HB1.out.size)
 have HId := Hd (heap_keep HI1.out HDB)
 have HSd := Hd (heap_keep HS1.out HDB)
 have HZd := Hd (heap_keep HZ1.out HDB)
 clear HB1 HI1 HS1 HZ1 HDB
 obtain ⟨i0, i1, i2, i3, i4, i5, i6, i7, i8⟩ := cell9 HId.out
 obtain ⟨k0, k1, k2⟩ := cell3c HSd.out
 obtain ⟨f0, f1, f2, f3, f4, f5, f6, f7, f8⟩ := froz9 HId.out
 go_upto_region 6 with (fail)
 obtain ⟨W5, hW5⟩ : ∃ W5, W5 = ((wd.setCell ⟨w.heap.size, 0, none⟩ (.int .i64 0)).setCell ⟨w.heap.size, 1, none⟩ (.int .i64 s)).setCell ⟨w.heap.size, 2, none⟩ (.slice A l.length c) := ⟨_, rfl⟩
 rw [← hW5]
 have ht5 : Turned (fun j => j = w.heap.size) wd W5 := by rw [hW5]; exact ((turned_set _ _ 0 _).trans (turned_set _ _ 1 _)).trans (turned_set _ _ 2 _)
 have hO5 : W5.heap[w.heap.size]? = some (.cells #[.int .i64 0, .int .i64 s, .slice A l.length c, .int .i64 I.b.1, .int .i64 I.b.2.1, .slice A1 n1 c1, .int .i64 I.c.1, .int .i64 I.c.2.1, .slice A2 n2 c2] tInR (0, 0)) := by rw [hW5]; have := HId.out; simp [World.setCell, Array.getElem?_modify, this]
 have HO5 := Hd hO5
 have HB5 := Hd (Below.turned HBd.out ht5 (fun i h => by omega) HBd.out.size)
 have HZ5 := Hd (heap_turned HZd.out ht5 (by omega))
 clear hW5 ht5 hO5 HBd HId HSd HZd i0 i1 i2 i3 i4 i5 i6 i7 i8 k0 k1 k2 f0 f1 f2 f3 f4 f5 f6 f7 f8
 obtain ⟨m0, m1, m2, m3, m4, m5, m6, m7, m8⟩ := cell9 HZ5.out
 obtain ⟨f0, f1, f2, f3, f4, f5, f6, f7, f8⟩ := froz9 HZ5.out
 obtain ⟨i0, i1, i2, i3, i4, i5, i6, i7, i8⟩ := cell9 HO5.out
 go_wp2_with fail
 have HBf := Hd (Below.turned HB5.out (turned_set9 W5 (w.heap.size + 2) (.int .i64 0) (.int .i64 s) (.slice A l.length c) (.int .i64 I.b.1) (.int .i64 I.b.2.1) (.slice A1 n1 c1) (.int .i64 I.c.1) (.int .i64 I.c.2.1) (.slice A2 n2 c2)) (fun i h => by omega) HB5.out.size)
 refine bodyPost_ret (v := .tuple #[.agg #[.int .i64 0, .int .i64 s, .slice A l.length c, .int .i64 I.b.1, .int .i64 I.b.2.1, .slice A1 n1 c1, .int .i64 I.c.1, .int .i64 I.c.2.1, .slice A2 n2 c2], .int .i64 0]) (by simp [results, Tryz.results80, go_sem, m0, m1, m2, m3, m4, m5, m6, m7, m8]) rfl ⟨_, rfl, ?_, ?_, HBf.out⟩
 ·exact ⟨A, l.length, c, A1, n1, c1, A2, n2, c2, rfl, HU.out.keep HBf.out, H1.out.keep HBf.out, H2.out.keep HBf.out⟩
 ·intro b hb hu
  obtain ⟨a0, a1, a2⟩ := hb _ _ _ _ _ _ _ _ _ _ _ _ _ _ _ rfl
  exact AvR.of hu a1 a2
theorem refAccept_ok1 (w : World) (v : Value) (I : In.Inn) (s : Int) (u : Value) (l : List R5) (h : InR w v I) (hu : Rd w u l) (hv : validB 1 s l = true) (hs : I.b.2.1 < s) :
  Calls Tryz.prog 80 #[v, .agg #[.int .i64 1, .int .i64 s, u]] w fun e w' => ∃ v', e = .returned (.tuple #[v', .int .i64 0]) ∧ InR w' v' (In.Inn.put I 1 (1, s, l)) ∧ (∀ b, AvR b v I → OffL b u l.length → AvR b v' (In.Inn.put I 1 (1, s, l))) ∧ Below w.heap.size w w' := by
 obtain ⟨A0, n0, c0, A1, n1, c1, A2, n2, c2, rfl, h0, h1, h2⟩ := h
 have HV := Hd (refValid_at w 1 s u l hu hv)
 have HU := Hd hu
 have H0 := Hd h0; have H1 := Hd h1; have H2 := Hd h2
 obtain ⟨A, c, rfl, _⟩ := hu.shape
 obtain ⟨wa, hA⟩ : ∃ wa, wa = ((w.alloc (.cells #[.int .i64 I.a.1, .int .i64 I.a.2.1, .slice A0 n0 c0, .int .i64 I.b.1, .int .i64 I.b.2.1, .slice A1 n1 c1, .int .i64 I.c.1, .int .i64 I.c.2.1, .slice A2 n2 c2] tInR)).alloc (.cells #[.int .i64 1, .int .i64 s, .slice A l.length c] tStat)).alloc (.cells zInR tInR) := ⟨_, rfl⟩
 obtain ⟨hB, hI, hS, hZ⟩ := three_new w _ _ _ tInR tStat tInR hA
 have HB := Hd hB; have HI := Hd hI; have HS := Hd hS; have HZ := Hd hZ
 have HA := Hd hA
 have hs' : ¬ s ≤ I.b.2.1 := by omega
 clear hs
 clear hA hB hI hS hZ hu h0 h1 h2 hv
 go_enter Tryz.func80, Tryz.ntmps80
 go_wp2_with fail
 rw [← HA.out]
 refine (HV.out _ HB.out).mono ?_
 rintro e w1 ⟨rfl, hb⟩
 have HB1 := Hd (bch HB.out hb HB.out.size)
 have HZ1 := Hd (heap_keep HZ.out hb)
 have HI1 := Hd (heap_keep HI.out hb)
 have HS1 := Hd (heap_keep HS.out hb)
 clear hb HA HB HI HS HZ HV
 have hsz2 := heap_lt HZ1.out
 obtain ⟨m0, m1, m2, m3, m4, m5, m6, m7, m8⟩ := cell9 HZ1.out
 obtain ⟨f0, f1, f2, f3, f4, f5, f6, f7, f8⟩ := froz9 HZ1.out
 obtain ⟨i0, i1, i2, i3, i4, i5, i6, i7, i8⟩ := cell9 HI1.out
 obtain ⟨k0, k1, k2⟩ := cell3c HS1.out
 go_wp2_with fail
 go_quiet (fail)
 generalize HDD : w1.drewN _ = wd
 have HDB : Below w1.heap.size w1 wd := by rw [← HDD]; exact below_drewN (Below.refl _ _) _
 clear HDD i0 i1 i2 i3 i4 i5 i6 i7 i8 k0 k1 k2 m0 m1 m2 m3 m4 m5 m6 m7 m8 f0 f1 f2 f3 f4 f5 f6 f7 f8 hsz2
 have HBd := Hd (bch HB1.out HDB HB1.out.size)
 have HId := Hd (heap_keep HI1.out HDB)
 have HSd := Hd (heap_keep HS1.out HDB)
 have HZd := Hd (heap_keep HZ1.out HDB)
 clear HB1 HI1 HS1 HZ1 HDB
 obtain ⟨i0, i1, i2, i3, i4, i5, i6, i7, i8⟩ := cell9 HId.out
 obtain ⟨k0, k1, k2⟩ := cell3c HSd.out
 obtain ⟨f0, f1, f2, f3, f4, f5, f6, f7, f8⟩ := froz9 HId.out
 go_upto_region 6 with (fail)
 obtain ⟨W5, hW5⟩ : ∃ W5, W5 = ((wd.setCell ⟨w.heap.size, 3, none⟩ (.int .i64 1)).setCell ⟨w.heap.size, 4, none⟩ (.int .i64 s)).setCell ⟨w.heap.size, 5, none⟩ (.slice A l.length c) := ⟨_, rfl⟩
 rw [← hW5]
 have ht5 : Turned (fun j => j = w.heap.size) wd W5 := by rw [hW5]; exact ((turned_set _ _ 3 _).trans (turned_set _ _ 4 _)).trans (turned_set _ _ 5 _)
 have hO5 : W5.heap[w.heap.size]? = some (.cells #[.int .i64 I.a.1, .int .i64 I.a.2.1, .slice A0 n0 c0, .int .i64 1, .int .i64 s, .slice A l.length c, .int .i64 I.c.1, .int .i64 I.c.2.1, .slice A2 n2 c2] tInR (0, 0)) := by rw [hW5]; have := HId.out; simp [World.setCell, Array.getElem?_modify, this]
 have HO5 := Hd hO5
 have HB5 := Hd (Below.turned HBd.out ht5 (fun i h => by omega) HBd.out.size)
 have HZ5 := Hd (heap_turned HZd.out ht5 (by omega))
 clear hW5 ht5 hO5 HBd HId HSd HZd i0 i1 i2 i3 i4 i5 i6 i7 i8 k0 k1 k2 f0 f1 f2 f3 f4 f5 f6 f7 f8
 obtain ⟨m0, m1, m2, m3, m4, m5, m6, m7, m8⟩ := cell9 HZ5.out
 obtain ⟨f0, f1, f2, f3, f4, f5, f6, f7, f8⟩ := froz9 HZ5.out
 obtain ⟨i0, i1, i2, i3, i4, i5, i6, i7, i8⟩ := cell9 HO5.out
 go_wp2_with fail
 have HBf := Hd (Below.turned HB5.out (turned_set9 W5 (w.heap.size + 2) (.int .i64 I.a.1) (.int .i64 I.a.2.1) (.slice A0 n0 c0) (.int .i64 1) (.int .i64 s) (.slice A l.length c) (.int .i64 I.c.1) (.int .i64 I.c.2.1) (.slice A2 n2 c2)) (fun i h => by omega) HB5.out.size)
 refine bodyPost_ret (v := .tuple #[.agg #[.int .i64 I.a.1, .int .i64 I.a.2.1, .slice A0 n0 c0, .int .i64 1, .int .i64 s, .slice A l.length c, .int .i64 I.c.1, .int .i64 I.c.2.1, .slice A2 n2 c2], .int .i64 0]) (by simp [results, Tryz.results80, go_sem, m0, m1, m2, m3, m4, m5, m6, m7, m8]) rfl ⟨_, rfl, ?_, ?_, HBf.out⟩
 ·exact ⟨A0, n0, c0, A, l.length, c, A2, n2, c2, rfl, H0.out.keep HBf.out, HU.out.keep HBf.out, H2.out.keep HBf.out⟩
 ·intro b hb hu
  obtain ⟨a0, a1, a2⟩ := hb _ _ _ _ _ _ _ _ _ _ _ _ _ _ _ rfl
  exact AvR.of a0 hu a2
theorem refAccept_ok2 (w : World) (v : Value) (I : In.Inn) (s : Int) (u : Value) (l : List R5) (h : InR w v I) (hu : Rd w u l) (hv : validB 2 s l = true) (hs : I.c.2.1 < s) :
  Calls Tryz.prog 80 #[v, .agg #[.int .i64 2, .int .i64 s, u]] w fun e w' => ∃ v', e = .returned (.tuple #[v', .int .i64 0]) ∧ InR w' v' (In.Inn.put I 2 (2, s, l)) ∧ (∀ b, AvR b v I → OffL b u l.length → AvR b v' (In.Inn.put I 2 (2, s, l))) ∧ Below w.heap.size w w' := by
 obtain ⟨A0, n0, c0, A1, n1, c1, A2, n2, c2, rfl, h0, h1, h2⟩ := h
 have HV := Hd (refValid_at w 2 s u l hu hv)
 have HU := Hd hu
 have H0 := Hd h0; have H1 := Hd h1; have H2 := Hd h2
 obtain ⟨A, c, rfl, _⟩ := hu.shape
 obtain ⟨wa, hA⟩ : ∃ wa, wa = ((w.alloc (.cells #[.int .i64 I.a.1, .int .i64 I.a.2.1, .slice A0 n0 c0, .int .i64 I.b.1, .int .i64 I.b.2.1, .slice A1 n1 c1, .int .i64 I.c.1, .int .i64 I.c.2.1, .slice A2 n2 c2] tInR)).alloc (.cells #[.int .i64 2, .int .i64 s, .slice A l.length c] tStat)).alloc (.cells zInR tInR) := ⟨_, rfl⟩
 obtain ⟨hB, hI, hS, hZ⟩ := three_new w _ _ _ tInR tStat tInR hA
 have HB := Hd hB; have HI := Hd hI; have HS := Hd hS; have HZ := Hd hZ
 have HA := Hd hA
 have hs' : ¬ s ≤ I.c.2.1 := by omega
 clear hs
 clear hA hB hI hS hZ hu h0 h1 h2 hv
 go_enter Tryz.func80, Tryz.ntmps80
 go_wp2_with fail
 rw [← HA.out]
 refine (HV.out _ HB.out).mono ?_
 rintro e w1 ⟨rfl, hb⟩
 have HB1 := Hd (bch HB.out hb HB.out.size)
 have HZ1 := Hd (heap_keep HZ.out hb)
 have HI1 := Hd (heap_keep HI.out hb)
 have HS1 := Hd (heap_keep HS.out hb)
 clear hb HA HB HI HS HZ HV
 have hsz2 := heap_lt HZ1.out
 obtain ⟨m0, m1, m2, m3, m4, m5, m6, m7, m8⟩ := cell9 HZ1.out
 obtain ⟨f0, f1, f2, f3, f4, f5, f6, f7, f8⟩ := froz9 HZ1.out
 obtain ⟨i0, i1, i2, i3, i4, i5, i6, i7, i8⟩ := cell9 HI1.out
 obtain ⟨k0, k1, k2⟩ := cell3c HS1.out
 go_wp2_with fail
 go_quiet (fail)
 generalize HDD : w1.drewN _ = wd
 have HDB : Below w1.heap.size w1 wd := by rw [← HDD]; exact below_drewN (Below.refl _ _) _
 clear HDD i0 i1 i2 i3 i4 i5 i6 i7 i8 k0 k1 k2 m0 m1 m2 m3 m4 m5 m6 m7 m8 f0 f1 f2 f3 f4 f5 f6 f7 f8 hsz2
 have HBd := Hd (bch HB1.out HDB HB1.out.size)
 have HId := Hd (heap_keep HI1.out HDB)
 have HSd := Hd (heap_keep HS1.out HDB)
 have HZd := Hd (heap_keep HZ1.out HDB)
 clear HB1 HI1 HS1 HZ1 HDB
 obtain ⟨i0, i1, i2, i3, i4, i5, i6, i7, i8⟩ := cell9 HId.out
 obtain ⟨k0, k1, k2⟩ := cell3c HSd.out
 obtain ⟨f0, f1, f2, f3, f4, f5, f6, f7, f8⟩ := froz9 HId.out
 go_upto_region 6 with (fail)
 obtain ⟨W5, hW5⟩ : ∃ W5, W5 = ((wd.setCell ⟨w.heap.size, 6, none⟩ (.int .i64 2)).setCell ⟨w.heap.size, 7, none⟩ (.int .i64 s)).setCell ⟨w.heap.size, 8, none⟩ (.slice A l.length c) := ⟨_, rfl⟩
 rw [← hW5]
 have ht5 : Turned (fun j => j = w.heap.size) wd W5 := by rw [hW5]; exact ((turned_set _ _ 6 _).trans (turned_set _ _ 7 _)).trans (turned_set _ _ 8 _)
 have hO5 : W5.heap[w.heap.size]? = some (.cells #[.int .i64 I.a.1, .int .i64 I.a.2.1, .slice A0 n0 c0, .int .i64 I.b.1, .int .i64 I.b.2.1, .slice A1 n1 c1, .int .i64 2, .int .i64 s, .slice A l.length c] tInR (0, 0)) := by rw [hW5]; have := HId.out; simp [World.setCell, Array.getElem?_modify, this]
 have HO5 := Hd hO5
 have HB5 := Hd (Below.turned HBd.out ht5 (fun i h => by omega) HBd.out.size)
 have HZ5 := Hd (heap_turned HZd.out ht5 (by omega))
 clear hW5 ht5 hO5 HBd HId HSd HZd i0 i1 i2 i3 i4 i5 i6 i7 i8 k0 k1 k2 f0 f1 f2 f3 f4 f5 f6 f7 f8
 obtain ⟨m0, m1, m2, m3, m4, m5, m6, m7, m8⟩ := cell9 HZ5.out
 obtain ⟨f0, f1, f2, f3, f4, f5, f6, f7, f8⟩ := froz9 HZ5.out
 obtain ⟨i0, i1, i2, i3, i4, i5, i6, i7, i8⟩ := cell9 HO5.out
 go_wp2_with fail
 have HBf := Hd (Below.turned HB5.out (turned_set9 W5 (w.heap.size + 2) (.int .i64 I.a.1) (.int .i64 I.a.2.1) (.slice A0 n0 c0) (.int .i64 I.b.1) (.int .i64 I.b.2.1) (.slice A1 n1 c1) (.int .i64 2) (.int .i64 s) (.slice A l.length c)) (fun i h => by omega) HB5.out.size)
 refine bodyPost_ret (v := .tuple #[.agg #[.int .i64 I.a.1, .int .i64 I.a.2.1, .slice A0 n0 c0, .int .i64 I.b.1, .int .i64 I.b.2.1, .slice A1 n1 c1, .int .i64 2, .int .i64 s, .slice A l.length c], .int .i64 0]) (by simp [results, Tryz.results80, go_sem, m0, m1, m2, m3, m4, m5, m6, m7, m8]) rfl ⟨_, rfl, ?_, ?_, HBf.out⟩
 ·exact ⟨A0, n0, c0, A1, n1, c1, A, l.length, c, rfl, H0.out.keep HBf.out, H1.out.keep HBf.out, HU.out.keep HBf.out⟩
 ·intro b hb hu
  obtain ⟨a0, a1, a2⟩ := hb _ _ _ _ _ _ _ _ _ _ _ _ _ _ _ rfl
  exact AvR.of a0 a1 hu
theorem refAccept_ok (w : World) (v : Value) (I : In.Inn) (x : In.Stm) (u : Value) (h : InR w v I) (hu : Rd w u x.2.2) (he : In.accE I x = 0) :
  Calls Tryz.prog 80 #[v, .agg #[.int .i64 x.1, .int .i64 x.2.1, u]] w fun e w' => ∃ v', e = .returned (.tuple #[v', .int .i64 0]) ∧ InR w' v' (In.accI I x) ∧ (∀ b, AvR b v I → OffL b u x.2.2.length → AvR b v' (In.accI I x)) ∧ Below w.heap.size w w' := by
 obtain ⟨p, s, l⟩ := x
 have e : In.accI I (p, s, l) = I.put p (p, s, l) := by unfold In.accI; rw [if_pos he]
 rw [e]
 unfold In.accE at he
 cases hv : validB p s l with
 | false => simp [hv] at he
 | true =>
  have hs : ¬ s ≤ (I.at p).2.1 := fun h => by simp [hv, h] at he
  rcases In.valid_party hv with rfl | rfl | rfl
  ·exact (refAccept_ok0 w v I s u l h hu hv (by have : ¬ s ≤ I.a.2.1 := hs; omega)).mono fun _ _ h => h
  ·exact (refAccept_ok1 w v I s u l h hu hv (by have : ¬ s ≤ I.b.2.1 := hs; omega)).mono fun _ _ h => h
  ·exact (refAccept_ok2 w v I s u l h hu hv (by have : ¬ s ≤ I.c.2.1 := hs; omega)).mono fun _ _ h => h
theorem refAccept_no (w : World) (v : Value) (I : In.Inn) (x : In.Stm) (u : Value) (h : InR w v I) (hu : Rd w u x.2.2) (he : In.accE I x ≠ 0) :
  Calls Tryz.prog 80 #[v, .agg #[.int .i64 x.1, .int .i64 x.2.1, u]] w fun e w' => e = .returned (.tuple #[vInR0, .int .i64 (In.accE I x)]) ∧ Below w.heap.size w w' := by
 obtain ⟨p, s, l⟩ := x
 unfold In.accE at he ⊢
 cases hv : validB p s l with
 | false => simp only [if_true]; exact refAccept_arg w v I p s u l h hu hv
 | true =>
  by_cases hs : s ≤ (I.at p).2.1
  ·simp only [Bool.true_eq_false, if_false, hs, if_true]; exact refAccept_stale w v I p s u l h hu hv hs
  ·simp [hv, hs] at he
end Go.Proofs.YtlkncmpengpbiaaGreatDoor
/- The document's intake: Row. -/
namespace Go.Proofs.YtlkncmpengpbiaaGreatDoor
open Go.RowKit Go.Maps Key Rw
set_option linter.unusedSimpArgs false
set_option linter.unusedVariables false
set_option maxRecDepth 100000
set_option maxHeartbeats 4000000

theorem find_take {L : List R5} {k : Int × Int} {j : Nat} {x : R5} (hx : L[j]? = some x) : In.findR (L.take (j + 1)) k = (In.findR (L.take j) k).or (if x.1 = k then some x else none) := by
 unfold In.findR
 rw [List.take_add_one, hx, List.find?_append]
 by_cases h : x.1 = k <;> simp [h]
theorem find_le {L : List R5} {k : Int × Int} {j : Nat} {x : R5} (h : In.findR (L.take j) k = some x) : In.findR L k = some x := by
 have e : L = L.take j ++ L.drop j := (List.take_append_drop j L).symm
 rw [e]
 unfold In.findR at *
 rw [List.find?_append, h]
 rfl
theorem refCheck_at {o d : Int} {b : Bool} (h : chk o d = b) (W : World) : Calls Tryz.prog 87 #[.agg #[.int .i64 o, .int .i64 d]] W fun e w' => e = .returned (.bool b) ∧ Below W.heap.size W w' := by rw [← h]; exact refCheck_any o d W
theorem refParty_at {d p : Int} (h : partyI d = p) (hd : Mon.InR d) (W : World) : Calls Tryz.prog 88 #[.int .i64 d] W fun e w' => e = .returned (.int .i64 p) ∧ W = w' := by rw [← h]; exact refParty_any d W hd
theorem refRow_no (w : World) (v : Value) (I : In.Inn) (o d : Int) (h : InR w v I) (hg : In.Fine I) (hk : chk o d = false) :
  Calls Tryz.prog 121 #[v, .agg #[.int .i64 o, .int .i64 d]] w fun e w' => e = .returned (.tuple #[.agg #[.int .i64 (rowD (In.rowOf I (o, d))).1.1, .int .i64 (rowD (In.rowOf I (o, d))).1.2, .int .i64 (rowD (In.rowOf I (o, d))).2.1, .int .i64 (rowD (In.rowOf I (o, d))).2.2.1, .int .i64 (rowD (In.rowOf I (o, d))).2.2.2], .bool (In.rowOf I (o, d)).isSome]) ∧ Below w.heap.size w w' := by
 obtain ⟨A0, n0, c0, A1, n1, c1, A2, n2, c2, rfl, h0, h1, h2⟩ := h
 have HE := Hd (In.Fine.rowOf_none hg (k := (o, d)) hk)
 have HC := Hd (refCheck_at hk)
 clear h0 h1 h2 hg hk
 obtain ⟨wa, hA⟩ : ∃ wa, wa = ((w.alloc (.cells #[.int .i64 I.a.1, .int .i64 I.a.2.1, .slice A0 n0 c0, .int .i64 I.b.1, .int .i64 I.b.2.1, .slice A1 n1 c1, .int .i64 I.c.1, .int .i64 I.c.2.1, .slice A2 n2 c2] tInR)).alloc (.cells #[.int .i64 o, .int .i64 d] tKey)).alloc (.cells #[.int .i64 0, .int .i64 0, .int .i64 0, .int .i64 0, .int .i64 0] tRow) := ⟨_, rfl⟩
 obtain ⟨hB, hI, hS, hZ⟩ := three_new w _ _ _ tInR tKey tRow hA
 have HB := Hd hB; have HI := Hd hI; have HS := Hd hS; have HZ := Hd hZ
 have HA := Hd hA
 clear hA hB hI hS hZ
 go_enter Tryz.func121, Tryz.ntmps121
 go_wp2_with fail
 rw [← HA.out]
 refine (HC.out _).mono ?_
 rintro e w1 ⟨rfl, hb⟩
 have HB1 := Hd (bch HB.out hb HB.out.size)
 have HZ1 := Hd (heap_keep HZ.out hb)
 clear hb HA HB HI HS HZ HC
 have hsz2 := heap_lt HZ1.out
 obtain ⟨m0, m1, m2, m3, m4⟩ := cell5 HZ1.out
 obtain ⟨f0, f1, f2, f3, f4⟩ := froz5 HZ1.out
 go_wp2_with fail
 refine bodyPost_ret (v := .tuple #[.agg #[.int .i64 0, .int .i64 0, .int .i64 0, .int .i64 0, .int .i64 0], .bool false]) (by simp [results, Tryz.results121, go_sem, m0, m1, m2, m3, m4]) rfl ⟨by rw [HE.out]; rfl, ?_⟩
 exact Below.turned HB1.out (turned_set5 w1 (w.heap.size + 2) _ _ _ _ _) (fun i h => by omega) HB1.out.size
theorem refRow_0 (w : World) (v : Value) (I : In.Inn) (o d : Int) (h : InR w v I) (hg : In.Fine I) (hk : chk o d = true) (hp : partyI d = 0) :
  Calls Tryz.prog 121 #[v, .agg #[.int .i64 o, .int .i64 d]] w fun e w' => e = .returned (.tuple #[.agg #[.int .i64 (rowD (In.rowOf I (o, d))).1.1, .int .i64 (rowD (In.rowOf I (o, d))).1.2, .int .i64 (rowD (In.rowOf I (o, d))).2.1, .int .i64 (rowD (In.rowOf I (o, d))).2.2.1, .int .i64 (rowD (In.rowOf I (o, d))).2.2.2], .bool (In.rowOf I (o, d)).isSome]) ∧ Below w.heap.size w w' := by
 obtain ⟨A0, n0, c0, A1, n1, c1, A2, n2, c2, rfl, h0, h1, h2⟩ := h
 have HE0 := Hd (show In.rowOf I (o, d) = In.findR I.a.2.2 (o, d) by rw [In.Fine.rowOf_party hg (k := (o, d)) hk, show partyI (o, d).2 = 0 from hp]; rfl)
 have HC := Hd (refCheck_at hk)
 have HP := Hd (refParty_at hp (by unfold chk at hk; simp at hk; exact ⟨by omega, by omega⟩))
 have hll := In.ok_len hg.a
 obtain ⟨A', c', e, hlc, hcm⟩ := h0.shape
 injection e with e1 e2 e3; subst e1; subst e2; subst e3
 have HR := Hd h0
 clear h0 h1 h2 hg hk hp
 obtain ⟨wa, hA⟩ : ∃ wa, wa = ((w.alloc (.cells #[.int .i64 I.a.1, .int .i64 I.a.2.1, .slice A0 I.a.2.2.length c0, .int .i64 I.b.1, .int .i64 I.b.2.1, .slice A1 n1 c1, .int .i64 I.c.1, .int .i64 I.c.2.1, .slice A2 n2 c2] tInR)).alloc (.cells #[.int .i64 o, .int .i64 d] tKey)).alloc (.cells #[.int .i64 0, .int .i64 0, .int .i64 0, .int .i64 0, .int .i64 0] tRow) := ⟨_, rfl⟩
 obtain ⟨hB, hI, hS, hZ⟩ := three_new w _ _ _ tInR tKey tRow hA
 have HB := Hd hB; have HI := Hd hI; have HS := Hd hS; have HZ := Hd hZ
 have HA := Hd hA
 clear hA hB hI hS hZ
 go_enter Tryz.func121, Tryz.ntmps121
 go_wp2_with fail
 rw [← HA.out]
 refine (HC.out _).mono ?_
 rintro e w1 ⟨rfl, hb⟩
 have HB1 := Hd (bch HB.out hb HB.out.size)
 have HZ1 := Hd (heap_keep HZ.out hb)
 have HI1 := Hd (heap_keep HI.out hb)
 have HS1 := Hd (heap_keep HS.out hb)
 clear hb HA HB HI HS HZ HC
 obtain ⟨i0, i1, i2, i3, i4, i5, i6, i7, i8⟩ := cell9 HI1.out
 obtain ⟨k0, k1, _, _⟩ := cell2 HS1.out
 go_wp2_with fail
 refine (HP.out _).mono ?_
 rintro e w2 ⟨rfl, hw⟩; subst hw
 go_wp2_with fail
 clear i0 i1 i2 i3 i4 i5 i6 i7 i8 k0 k1
 go_loopw [7] (fun i wr => ∃ j : Nat, i = .int .i64 j ∧ j ≤ I.a.2.2.length ∧ Hid (In.findR (I.a.2.2.take j) (o, d) = none) ∧ Hid (Below w1.heap.size w1 wr)) (fun i _ => I.a.2.2.length - (intOf i).toNat)
 case atStart => exact ⟨0, rfl, by omega, rfl, Below.refl _ _⟩
 case round =>
  obtain ⟨j, rfl, hj, HF, HBr⟩ := hrel
  have HBw := Hd (bch HB1.out HBr.out HB1.out.size)
  have HZr := Hd (heap_keep HZ1.out HBr.out)
  have HSr := Hd (heap_keep HS1.out HBr.out)
  obtain ⟨k0, k1, _, _⟩ := cell2 HSr.out
  by_cases hjl : j < I.a.2.2.length
  ·obtain ⟨y, hy⟩ : ∃ y, I.a.2.2[j]? = some y := ⟨_, List.getElem?_eq_getElem hjl⟩
   obtain ⟨g, off, n', c', e, d0, d1, d2, d3, d4⟩ := (HR.out.keep HBw.out).cells (Below.refl _ _) hy
   injection e with e1 e2 e3
   subst e1; subst e2; subst e3
   have HT := Hd (find_take (k := (o, d)) hy)
   have hjl' : (j : Int) < I.a.2.2.length := by omega
   have hj0 : (0 : Int) ≤ j := by omega
   clear hy
   obtain ⟨⟨o', d'⟩, t, a, q⟩ := y
   simp only [] at d0 d1 d2 d3 d4
   by_cases he : ((o', d') : Int × Int) = (o, d)
   ·have HE := Hd (show In.rowOf I (o, d) = some ((o', d'), t, a, q) by rw [HE0.out]; exact find_le (j := j + 1) (by rw [HT.out, HF.out, if_pos he]; rfl))
    clear HT
    injection he with e1 e2
    subst e1; subst e2
    obtain ⟨m0, m1, m2, m3, m4⟩ := cell5 HZr.out
    obtain ⟨f0, f1, f2, f3, f4⟩ := froz5 HZr.out
    go_wp2_with fail
    go_quiet (fail)
    go_wp2_with fail
    refine bodyPost_ret (v := .tuple #[.agg #[.int .i64 o', .int .i64 d', .int .i64 t, .int .i64 a, .int .i64 q], .bool true]) (by simp [results, Tryz.results121, go_sem, m0, m1, m2, m3, m4]) rfl ⟨by rw [HE.out]; rfl, ?_⟩
    exact Below.turned (below_drewN HBw.out _) (turned_set5 _ (w.heap.size + 2) _ _ _ _ _) (fun i h => by omega) (below_drewN HBw.out _).size
   ·have HF' := Hd (show In.findR (I.a.2.2.take (j + 1)) (o, d) = none by rw [HT.out, HF.out, if_neg he]; rfl)
    clear HT
    have hne : ¬ o' = o ∨ (o' = o ∧ ¬ d' = d) := by
     by_cases h1 : o' = o
     ·exact .inr ⟨h1, fun h2 => he (by rw [h1, h2])⟩
     ·exact .inl h1
    clear he
    rcases hne with h1 | ⟨rfl, h1⟩
    all_goals
     have hb1 := beqF h1
     have hb2 := bneT h1
     go_wp2_with fail
     go_quiet (fail)
     go_wp2_with fail
     go_roundw
     case rel => exact ⟨j + 1, by go_num, by omega, HF'.out, below_drewN HBr.out _⟩
     case measure => simp [intOf]; omega
  ·have hjl' : (I.a.2.2.length : Int) ≤ j := by omega
   have HE := Hd (show In.rowOf I (o, d) = none by rw [HE0.out]; have := HF.out; rwa [List.take_of_length_le (by omega)] at this)
   obtain ⟨m0, m1, m2, m3, m4⟩ := cell5 HZr.out
   obtain ⟨f0, f1, f2, f3, f4⟩ := froz5 HZr.out
   go_wp2_with fail
   refine bodyPost_ret (v := .tuple #[.agg #[.int .i64 0, .int .i64 0, .int .i64 0, .int .i64 0, .int .i64 0], .bool false]) (by simp [results, Tryz.results121, go_sem, m0, m1, m2, m3, m4]) rfl ⟨by rw [HE.out]; rfl, ?_⟩
   exact Below.turned HBw.out (turned_set5 wr (w.heap.size + 2) _ _ _ _ _) (fun i h => by omega) HBw.out.size
theorem refRow_1 (w : World) (v : Value) (I : In.Inn) (o d : Int) (h : InR w v I) (hg : In.Fine I) (hk : chk o d = true) (hp : partyI d = 1) :
  Calls Tryz.prog 121 #[v, .agg #[.int .i64 o, .int .i64 d]] w fun e w' => e = .returned (.tuple #[.agg #[.int .i64 (rowD (In.rowOf I (o, d))).1.1, .int .i64 (rowD (In.rowOf I (o, d))).1.2, .int .i64 (rowD (In.rowOf I (o, d))).2.1, .int .i64 (rowD (In.rowOf I (o, d))).2.2.1, .int .i64 (rowD (In.rowOf I (o, d))).2.2.2], .bool (In.rowOf I (o, d)).isSome]) ∧ Below w.heap.size w w' := by
 obtain ⟨A0, n0, c0, A1, n1, c1, A2, n2, c2, rfl, h0, h1, h2⟩ := h
 have HE0 := Hd (show In.rowOf I (o, d) = In.findR I.b.2.2 (o, d) by rw [In.Fine.rowOf_party hg (k := (o, d)) hk, show partyI (o, d).2 = 1 from hp]; rfl)
 have HC := Hd (refCheck_at hk)
 have HP := Hd (refParty_at hp (by unfold chk at hk; simp at hk; exact ⟨by omega, by omega⟩))
 have hll := In.ok_len hg.b
 obtain ⟨A', c', e, hlc, hcm⟩ := h1.shape
 injection e with e1 e2 e3; subst e1; subst e2; subst e3
 have HR := Hd h1
 clear h0 h1 h2 hg hk hp
 obtain ⟨wa, hA⟩ : ∃ wa, wa = ((w.alloc (.cells #[.int .i64 I.a.1, .int .i64 I.a.2.1, .slice A0 n0 c0, .int .i64 I.b.1, .int .i64 I.b.2.1, .slice A1 I.b.2.2.length c1, .int .i64 I.c.1, .int .i64 I.c.2.1, .slice A2 n2 c2] tInR)).alloc (.cells #[.int .i64 o, .int .i64 d] tKey)).alloc (.cells #[.int .i64 0, .int .i64 0, .int .i64 0, .int .i64 0, .int .i64 0] tRow) := ⟨_, rfl⟩
 obtain ⟨hB, hI, hS, hZ⟩ := three_new w _ _ _ tInR tKey tRow hA
 have HB := Hd hB; have HI := Hd hI; have HS := Hd hS; have HZ := Hd hZ
 have HA := Hd hA
 clear hA hB hI hS hZ
 go_enter Tryz.func121, Tryz.ntmps121
 go_wp2_with fail
 rw [← HA.out]
 refine (HC.out _).mono ?_
 rintro e w1 ⟨rfl, hb⟩
 have HB1 := Hd (bch HB.out hb HB.out.size)
 have HZ1 := Hd (heap_keep HZ.out hb)
 have HI1 := Hd (heap_keep HI.out hb)
 have HS1 := Hd (heap_keep HS.out hb)
 clear hb HA HB HI HS HZ HC
 obtain ⟨i0, i1, i2, i3, i4, i5, i6, i7, i8⟩ := cell9 HI1.out
 obtain ⟨k0, k1, _, _⟩ := cell2 HS1.out
 go_wp2_with fail
 refine (HP.out _).mono ?_
 rintro e w2 ⟨rfl, hw⟩; subst hw
 go_wp2_with fail
 clear i0 i1 i2 i3 i4 i5 i6 i7 i8 k0 k1
 go_loopw [7] (fun i wr => ∃ j : Nat, i = .int .i64 j ∧ j ≤ I.b.2.2.length ∧ Hid (In.findR (I.b.2.2.take j) (o, d) = none) ∧ Hid (Below w1.heap.size w1 wr)) (fun i _ => I.b.2.2.length - (intOf i).toNat)
 case atStart => exact ⟨0, rfl, by omega, rfl, Below.refl _ _⟩
 case round =>
  obtain ⟨j, rfl, hj, HF, HBr⟩ := hrel
  have HBw := Hd (bch HB1.out HBr.out HB1.out.size)
  have HZr := Hd (heap_keep HZ1.out HBr.out)
  have HSr := Hd (heap_keep HS1.out HBr.out)
  obtain ⟨k0, k1, _, _⟩ := cell2 HSr.out
  by_cases hjl : j < I.b.2.2.length
  ·obtain ⟨y, hy⟩ : ∃ y, I.b.2.2[j]? = some y := ⟨_, List.getElem?_eq_getElem hjl⟩
   obtain ⟨g, off, n', c', e, d0, d1, d2, d3, d4⟩ := (HR.out.keep HBw.out).cells (Below.refl _ _) hy
   injection e with e1 e2 e3
   subst e1; subst e2; subst e3
   have HT := Hd (find_take (k := (o, d)) hy)
   have hjl' : (j : Int) < I.b.2.2.length := by omega
   have hj0 : (0 : Int) ≤ j := by omega
   clear hy
   obtain ⟨⟨o', d'⟩, t, a, q⟩ := y
   simp only [] at d0 d1 d2 d3 d4
   by_cases he : ((o', d') : Int × Int) = (o, d)
   ·have HE := Hd (show In.rowOf I (o, d) = some ((o', d'), t, a, q) by rw [HE0.out]; exact find_le (j := j + 1) (by rw [HT.out, HF.out, if_pos he]; rfl))
    clear HT
    injection he with e1 e2
    subst e1; subst e2
    obtain ⟨m0, m1, m2, m3, m4⟩ := cell5 HZr.out
    obtain ⟨f0, f1, f2, f3, f4⟩ := froz5 HZr.out
    go_wp2_with fail
    go_quiet (fail)
    go_wp2_with fail
    refine bodyPost_ret (v := .tuple #[.agg #[.int .i64 o', .int .i64 d', .int .i64 t, .int .i64 a, .int .i64 q], .bool true]) (by simp [results, Tryz.results121, go_sem, m0, m1, m2, m3, m4]) rfl ⟨by rw [HE.out]; rfl, ?_⟩
    exact Below.turned (below_drewN HBw.out _) (turned_set5 _ (w.heap.size + 2) _ _ _ _ _) (fun i h => by omega) (below_drewN HBw.out _).size
   ·have HF' := Hd (show In.findR (I.b.2.2.take (j + 1)) (o, d) = none by rw [HT.out, HF.out, if_neg he]; rfl)
    clear HT
    have hne : ¬ o' = o ∨ (o' = o ∧ ¬ d' = d) := by
     by_cases h1 : o' = o
     ·exact .inr ⟨h1, fun h2 => he (by rw [h1, h2])⟩
     ·exact .inl h1
    clear he
    rcases hne with h1 | ⟨rfl, h1⟩
    all_goals
     have hb1 := beqF h1
     have hb2 := bneT h1
     go_wp2_with fail
     go_quiet (fail)
     go_wp2_with fail
     go_roundw
     case rel => exact ⟨j + 1, by go_num, by omega, HF'.out, below_drewN HBr.out _⟩
     case measure => simp [intOf]; omega
  ·have hjl' : (I.b.2.2.length : Int) ≤ j := by omega
   have HE := Hd (show In.rowOf I (o, d) = none by rw [HE0.out]; have := HF.out; rwa [List.take_of_length_le (by omega)] at this)
   obtain ⟨m0, m1, m2, m3, m4⟩ := cell5 HZr.out
   obtain ⟨f0, f1, f2, f3, f4⟩ := froz5 HZr.out
   go_wp2_with fail
   refine bodyPost_ret (v := .tuple #[.agg #[.int .i64 0, .int .i64 0, .int .i64 0, .int .i64 0, .int .i64 0], .bool false]) (by simp [results, Tryz.results121, go_sem, m0, m1, m2, m3, m4]) rfl ⟨by rw [HE.out]; rfl, ?_⟩
   exact Below.turned HBw.out (turned_set5 wr (w.heap.size + 2) _ _ _ _ _) (fun i h => by omega) HBw.out.size
theorem refRow_2 (w : World) (v : Value) (I : In.Inn) (o d : Int) (h : InR w v I) (hg : In.Fine I) (hk : chk o d = true) (hp : partyI d = 2) :
  Calls Tryz.prog 121 #[v, .agg #[.int .i64 o, .int .i64 d]] w fun e w' => e = .returned (.tuple #[.agg #[.int .i64 (rowD (In.rowOf I (o, d))).1.1, .int .i64 (rowD (In.rowOf I (o, d))).1.2, .int .i64 (rowD (In.rowOf I (o, d))).2.1, .int .i64 (rowD (In.rowOf I (o, d))).2.2.1, .int .i64 (rowD (In.rowOf I (o, d))).2.2.2], .bool (In.rowOf I (o, d)).isSome]) ∧ Below w.heap.size w w' := by
 obtain ⟨A0, n0, c0, A1, n1, c1, A2, n2, c2, rfl, h0, h1, h2⟩ := h
 have HE0 := Hd (show In.rowOf I (o, d) = In.findR I.c.2.2 (o, d) by rw [In.Fine.rowOf_party hg (k := (o, d)) hk, show partyI (o, d).2 = 2 from hp]; rfl)
 have HC := Hd (refCheck_at hk)
 have HP := Hd (refParty_at hp (by unfold chk at hk; simp at hk; exact ⟨by omega, by omega⟩))
 have hll := In.ok_len hg.c
 obtain ⟨A', c', e, hlc, hcm⟩ := h2.shape
 injection e with e1 e2 e3; subst e1; subst e2; subst e3
 have HR := Hd h2
 clear h0 h1 h2 hg hk hp
 obtain ⟨wa, hA⟩ : ∃ wa, wa = ((w.alloc (.cells #[.int .i64 I.a.1, .int .i64 I.a.2.1, .slice A0 n0 c0, .int .i64 I.b.1, .int .i64 I.b.2.1, .slice A1 n1 c1, .int .i64 I.c.1, .int .i64 I.c.2.1, .slice A2 I.c.2.2.length c2] tInR)).alloc (.cells #[.int .i64 o, .int .i64 d] tKey)).alloc (.cells #[.int .i64 0, .int .i64 0, .int .i64 0, .int .i64 0, .int .i64 0] tRow) := ⟨_, rfl⟩
 obtain ⟨hB, hI, hS, hZ⟩ := three_new w _ _ _ tInR tKey tRow hA
 have HB := Hd hB; have HI := Hd hI; have HS := Hd hS; have HZ := Hd hZ
 have HA := Hd hA
 clear hA hB hI hS hZ
 go_enter Tryz.func121, Tryz.ntmps121
 go_wp2_with fail
 rw [← HA.out]
 refine (HC.out _).mono ?_
 rintro e w1 ⟨rfl, hb⟩
 have HB1 := Hd (bch HB.out hb HB.out.size)
 have HZ1 := Hd (heap_keep HZ.out hb)
 have HI1 := Hd (heap_keep HI.out hb)
 have HS1 := Hd (heap_keep HS.out hb)
 clear hb HA HB HI HS HZ HC
 obtain ⟨i0, i1, i2, i3, i4, i5, i6, i7, i8⟩ := cell9 HI1.out
 obtain ⟨k0, k1, _, _⟩ := cell2 HS1.out
 go_wp2_with fail
 refine (HP.out _).mono ?_
 rintro e w2 ⟨rfl, hw⟩; subst hw
 go_wp2_with fail
 clear i0 i1 i2 i3 i4 i5 i6 i7 i8 k0 k1
 go_loopw [7] (fun i wr => ∃ j : Nat, i = .int .i64 j ∧ j ≤ I.c.2.2.length ∧ Hid (In.findR (I.c.2.2.take j) (o, d) = none) ∧ Hid (Below w1.heap.size w1 wr)) (fun i _ => I.c.2.2.length - (intOf i).toNat)
 case atStart => exact ⟨0, rfl, by omega, rfl, Below.refl _ _⟩
 case round =>
  obtain ⟨j, rfl, hj, HF, HBr⟩ := hrel
  have HBw := Hd (bch HB1.out HBr.out HB1.out.size)
  have HZr := Hd (heap_keep HZ1.out HBr.out)
  have HSr := Hd (heap_keep HS1.out HBr.out)
  obtain ⟨k0, k1, _, _⟩ := cell2 HSr.out
  by_cases hjl : j < I.c.2.2.length
  ·obtain ⟨y, hy⟩ : ∃ y, I.c.2.2[j]? = some y := ⟨_, List.getElem?_eq_getElem hjl⟩
   obtain ⟨g, off, n', c', e, d0, d1, d2, d3, d4⟩ := (HR.out.keep HBw.out).cells (Below.refl _ _) hy
   injection e with e1 e2 e3
   subst e1; subst e2; subst e3
   have HT := Hd (find_take (k := (o, d)) hy)
   have hjl' : (j : Int) < I.c.2.2.length := by omega
   have hj0 : (0 : Int) ≤ j := by omega
   clear hy
   obtain ⟨⟨o', d'⟩, t, a, q⟩ := y
   simp only [] at d0 d1 d2 d3 d4
   by_cases he : ((o', d') : Int × Int) = (o, d)
   ·have HE := Hd (show In.rowOf I (o, d) = some ((o', d'), t, a, q) by rw [HE0.out]; exact find_le (j := j + 1) (by rw [HT.out, HF.out, if_pos he]; rfl))
    clear HT
    injection he with e1 e2
    subst e1; subst e2
    obtain ⟨m0, m1, m2, m3, m4⟩ := cell5 HZr.out
    obtain ⟨f0, f1, f2, f3, f4⟩ := froz5 HZr.out
    go_wp2_with fail
    go_quiet (fail)
    go_wp2_with fail
    refine bodyPost_ret (v := .tuple #[.agg #[.int .i64 o', .int .i64 d', .int .i64 t, .int .i64 a, .int .i64 q], .bool true]) (by simp [results, Tryz.results121, go_sem, m0, m1, m2, m3, m4]) rfl ⟨by rw [HE.out]; rfl, ?_⟩
    exact Below.turned (below_drewN HBw.out _) (turned_set5 _ (w.heap.size + 2) _ _ _ _ _) (fun i h => by omega) (below_drewN HBw.out _).size
   ·have HF' := Hd (show In.findR (I.c.2.2.take (j + 1)) (o, d) = none by rw [HT.out, HF.out, if_neg he]; rfl)
    clear HT
    have hne : ¬ o' = o ∨ (o' = o ∧ ¬ d' = d) := by
     by_cases h1 : o' = o
     ·exact .inr ⟨h1, fun h2 => he (by rw [h1, h2])⟩
     ·exact .inl h1
    clear he
    rcases hne with h1 | ⟨rfl, h1⟩
    all_goals
     have hb1 := beqF h1
     have hb2 := bneT h1
     go_wp2_with fail
     go_quiet (fail)
     go_wp2_with fail
     go_roundw
     case rel => exact ⟨j + 1, by go_num, by omega, HF'.out, below_drewN HBr.out _⟩
     case measure => simp [intOf]; omega
  ·have hjl' : (I.c.2.2.length : Int) ≤ j := by omega
   have HE := Hd (show In.rowOf I (o, d) = none by rw [HE0.out]; have := HF.out; rwa [List.take_of_length_le (by omega)] at this)
   obtain ⟨m0, m1, m2, m3, m4⟩ := cell5 HZr.out
   obtain ⟨f0, f1, f2, f3, f4⟩ := froz5 HZr.out
   go_wp2_with fail
   refine bodyPost_ret (v := .tuple #[.agg #[.int .i64 0, .int .i64 0, .int .i64 0, .int .i64 0, .int .i64 0], .bool false]) (by simp [results, Tryz.results121, go_sem, m0, m1, m2, m3, m4]) rfl ⟨by rw [HE.out]; rfl, ?_⟩
   exact Below.turned HBw.out (turned_set5 wr (w.heap.size + 2) _ _ _ _ _) (fun i h => by omega) HBw.out.size
theorem refRow_any (w : World) (v : Value) (I : In.Inn) (o d : Int) (h : InR w v I) (hg : In.Fine I) :
  Calls Tryz.prog 121 #[v, .agg #[.int .i64 o, .int .i64 d]] w fun e w' => e = .returned (.tuple #[.agg #[.int .i64 (rowD (In.rowOf I (o, d))).1.1, .int .i64 (rowD (In.rowOf I (o, d))).1.2, .int .i64 (rowD (In.rowOf I (o, d))).2.1, .int .i64 (rowD (In.rowOf I (o, d))).2.2.1, .int .i64 (rowD (In.rowOf I (o, d))).2.2.2], .bool (In.rowOf I (o, d)).isSome]) ∧ Below w.heap.size w w' := by
 cases hk : chk o d with
 | false => exact refRow_no w v I o d h hg hk
 | true =>
  have hp : partyI d = 0 ∨ partyI d = 1 ∨ partyI d = 2 := by
   have hk' := hk
   unfold chk at hk'; unfold partyI; simp at hk'; split
   ·omega
   ·split
    ·omega
    ·split
     ·omega
     ·omega
  rcases hp with hp | hp | hp
  ·exact refRow_0 w v I o d h hg hk hp
  ·exact refRow_1 w v I o d h hg hk hp
  ·exact refRow_2 w v I o d h hg hk hp
end Go.Proofs.YtlkncmpengpbiaaGreatDoor

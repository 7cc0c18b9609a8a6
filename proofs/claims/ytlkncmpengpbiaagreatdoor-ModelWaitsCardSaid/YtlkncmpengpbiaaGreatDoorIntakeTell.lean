/- intake.Accept where it takes a statement in: the new intake, its map. -/
import Derived.Test.YtlkncmpengpbiaaGreatDoorIntake
import Derived.StillTailTactics
import Derived.Test.YtlkncmpengpbiaaGreatDoorShort
namespace Go.Proofs.YtlkncmpengpbiaaGreatDoor
open Go.RowKit Go.Maps Key Rw
set_option linter.unusedSimpArgs false
set_option linter.unusedVariables false
set_option maxRecDepth 100000
set_option maxHeartbeats 4000000

theorem accept_ok0 (w : World) (v : Value) (I : In.Inn) (s : Int) (u : Value) (l : List R5) (h : InP w v I) (hu : Rd w u l) (hT : PT w) (hg : In.Fine I) (hv : validB 0 s l = true) (hs : I.a.2.1 < s) :
  Calls Tryz.prog 103 #[v, .agg #[.int .i64 0, .int .i64 s, u]] w fun e w' => ∃ v', e = .returned (.tuple #[v', .int .i64 0]) ∧ InP w' v' (In.Inn.put I 0 (0, s, l)) ∧ (∀ b, b < w.heap.size → Av b v I → Av b v' (In.Inn.put I 0 (0, s, l))) ∧ Below w.heap.size w w' := by
 obtain ⟨A0, n0, c0, A1, n1, c1, A2, n2, c2, m, rfl, h0, h1, h2, h3⟩ := h
 have HV := Hd (valid_at w 0 s u l hu hT hv)
 have HU := Hd hu
 obtain ⟨i0, hi, hz0, hz1, hz2⟩ := info_parts row_info
 obtain ⟨A, c, rfl, hlc, hcm⟩ := hu.shape
 have hll := In.valid_len hv
 have H0 := Hd h0; have H1 := Hd h1; have H2 := Hd h2
 have HG := Hd hg
 have HVV := Hd hv
 obtain ⟨wa, hA⟩ : ∃ wa, wa = ((w.alloc (.cells #[.int .i64 I.a.1, .int .i64 I.a.2.1, .slice A0 n0 c0, .int .i64 I.b.1, .int .i64 I.b.2.1, .slice A1 n1 c1, .int .i64 I.c.1, .int .i64 I.c.2.1, .slice A2 n2 c2, .map m] tIn)).alloc (.cells #[.int .i64 0, .int .i64 s, .slice A l.length c] tStat)).alloc (.cells zIn tIn) := ⟨_, rfl⟩
 obtain ⟨hB, hI, hS, hZ⟩ := three_new w _ _ _ tIn tStat tIn hA
 have HB := Hd hB; have HI := Hd hI; have HS := Hd hS; have HZ := Hd hZ
 have HA := Hd hA
 clear hA hB hI hS hZ
 have hmm := @run_makeMap Tryz.prog
 clear hu hT h0 h1 h2 h3 hv hg
 go_enter Tryz.func103, Tryz.ntmps103
 go_wp2_with fail
 rw [← HA.out]
 refine (HV.out _ HB.out).mono ?_
 rintro e w1 ⟨rfl, hb⟩
 have HB1 := Hd (bch HB.out hb HB.out.size)
 have HZ1 := Hd (heap_keep HZ.out hb)
 have HI1 := Hd (heap_keep HI.out hb)
 have HS1 := Hd (heap_keep HS.out hb)
 clear HA HB HI HS HZ HV hb
 obtain ⟨i0', i1, i2, i3, i4, i5, i6, i7, i8, i9⟩ := cell10 HI1.out
 obtain ⟨k0, k1, k2⟩ := cell3c HS1.out
 have hsz := heap_lt HZ1.out
 have hsz1 : w.heap.size + 1 < w1.heap.size := by omega
 have hsz0 : w.heap.size < w1.heap.size := by omega
 have hs' : ¬ s ≤ I.a.2.1 := by omega
 go_wp2_with fail
 go_quiet (fail)
 generalize HDD : w1.drewN _ = wd
 have HDB : Below w1.heap.size w1 wd := by rw [← HDD]; exact below_drewN (Below.refl _ _) _
 have hsd : wd.heap.size = w1.heap.size := by rw [← HDD]; rfl
 clear HDD i0' i1 i2 i3 i4 i5 i6 i7 i8 i9 k0 k1 k2
 rw [← hsd] at hsz
 have HBd := Hd (bch HB1.out HDB HB1.out.size)
 have HId := Hd (heap_keep HI1.out HDB)
 have HSd := Hd (heap_keep HS1.out HDB)
 have HZd := Hd (heap_keep HZ1.out HDB)
 clear HB1 HI1 HS1 HZ1 HDB hsd hs' hsz1 hsz0
 obtain ⟨i0', i1, i2, i3, i4, i5, i6, i7, i8, i9⟩ := cell10 HId.out
 obtain ⟨W2, hW2⟩ : ∃ W2, W2 = (wd.alloc (.map #[] 0)).alloc (.cells #[.int .i64 I.a.1, .int .i64 I.a.2.1, .slice A0 n0 c0, .int .i64 I.b.1, .int .i64 I.b.2.1, .slice A1 n1 c1, .int .i64 I.c.1, .int .i64 I.c.2.1, .slice A2 n2 c2, .map (some wd.heap.size)] tIn) := ⟨_, rfl⟩
 have hB2 : Below wd.heap.size wd W2 := by rw [hW2]; exact (below_alloc _ _).alloc (by simp) _
 have hO2 : W2.heap[wd.heap.size + 1]? = some (.cells #[.int .i64 I.a.1, .int .i64 I.a.2.1, .slice A0 n0 c0, .int .i64 I.b.1, .int .i64 I.b.2.1, .slice A1 n1 c1, .int .i64 I.c.1, .int .i64 I.c.2.1, .slice A2 n2 c2, .map (some wd.heap.size)] tIn (0, 0)) := by
  rw [hW2]
  have := heap_new (wd.alloc (.map #[] 0)) (.cells #[.int .i64 I.a.1, .int .i64 I.a.2.1, .slice A0 n0 c0, .int .i64 I.b.1, .int .i64 I.b.2.1, .slice A1 n1 c1, .int .i64 I.c.1, .int .i64 I.c.2.1, .slice A2 n2 c2, .map (some wd.heap.size)] tIn)
  rwa [show (wd.alloc (.map #[] 0)).heap.size = wd.heap.size + 1 by simp] at this
 have hM2 : MapL Tryz.prog tKey mkKey mkRow W2 wd.heap.size [] := by rw [hW2]; exact (MapL.made _ _ _ _ wd).alloc _
 have hs2 : W2.heap.size = wd.heap.size + 2 := by rw [hW2]; simp
 have HW2 := Hd hW2; have HB2 := Hd hB2; have HO2 := Hd hO2; have HM2 := Hd hM2
 have hs2' : wd.heap.size + 1 < W2.heap.size := by omega
 clear hW2 hB2 hO2 hM2 hs2
 go_upto_region 6 with (fail)
 rw [← HW2.out]
 have HBw := Hd (bch HBd.out HB2.out HBd.out.size)
 have HS2 := Hd (heap_keep HSd.out HB2.out)
 have HZ2 := Hd (heap_keep HZd.out HB2.out)
 clear HBd HSd HZd HId HB2 HW2 i0' i1 i2 i3 i4 i5 i6 i7 i8 i9
 obtain ⟨k0, k1, k2⟩ := cell3c HS2.out
 go_upto_region 7 with (at_builtin; go_loud (refine wpList_append_any _ rfl (.const (.slice none 0 0)) (.tmp 30) tRows rfl W2.heap.size tRow i0 (mkRow ((0, 0), 0, 0, 0)) 5 40 Tryz.underlying32 hi hz0 hz1 hz2 rfl (by decide) (.slice none 0 0) 0 [] rfl (World.ownsRow_nil _ _ _ _) l.length (l.flatMap encR) (Rd.src (Rd.keep HU.out HBw.out)) (by unfold maxLen; omega) (by omega) (Nat.le_refl _) ?_; intro v2 W3 ho3 hg3 hat3; rw [Nat.zero_add, List.nil_append] at ho3; obtain ⟨A3, c3, e3, hp3⟩ := own_slice2 ho3; subst e3; have hB3 := below_of_grown hg3; have HB3 := Hd (bch HBw.out hB3 HBw.out.size); have HS3 := Hd (heap_keep HS2.out hB3); have HZ3 := Hd (heap_keep HZ2.out hB3); have HO3 := Hd (heap_keep HO2.out hB3); have HM3 := Hd (HM2.out.below hB3); have HR3 := Hd (rd_own ho3); have hs3 := hB3.size; have HQ4 := Hd (show ∀ ad, A3 = some ad → W2.heap.size ≤ ad.block from fun ad e => (hp3 ad e).1); have HP3 := Hd (show ∀ ad n c', Value.slice A3 l.length c3 = .slice (some ad) n c' → 0 < l.length → ¬ ad.block = w.heap.size + 1 from fun ad n c' e hl => by injection e with e; have := (hp3 ad e).1; omega); have HQ3 := Hd (show ∀ ad n c', Value.slice A3 l.length c3 = .slice (some ad) n c' → 0 < l.length → W2.heap.size ≤ ad.block from fun ad n c' e hl => by injection e with e; exact (hp3 ad e).1); clear ho3 hg3 hat3 hp3 hB3 HBw HS2 HZ2 HO2 HM2 k0 k1 k2; obtain ⟨k0, k1, k2⟩ := cell3c HS3.out; obtain ⟨f0, f1, f2⟩ := froz3 HS3.out))
 obtain ⟨W4, hW4⟩ : ∃ W4, W4 = W3.setCell ⟨w.heap.size + 1, 2, none⟩ (.slice A3 l.length c3) := ⟨_, rfl⟩
 rw [← hW4]
 have ht4 : Turned (fun j => j = w.heap.size + 1) W3 W4 := by rw [hW4]; exact turned_set _ _ _ _
 have hS4 : W4.heap[w.heap.size + 1]? = some (.cells #[.int .i64 0, .int .i64 s, .slice A3 l.length c3] tStat (0, 0)) := by
  rw [hW4]; have := HS3.out; simp [World.setCell, Array.getElem?_modify, this]
 have HB4 := Hd (Below.turned HB3.out ht4 (fun i h => by omega) HB3.out.size)
 have HZ4 := Hd (heap_turned HZ3.out ht4 (by omega))
 have HO4 := Hd (heap_turned HO3.out ht4 (by omega))
 have HM4 := Hd (HM3.out.turned ht4 (by omega))
 have HR4 := Hd (HR3.out.turned ht4 HP3.out)
 clear hW4 ht4 HB3 HZ3 HO3 HM3 HR3 HS3 HP3 k0 k1 k2 f0 f1 f2
 obtain ⟨k0, k1, k2⟩ := cell3c hS4
 obtain ⟨i0', i1, i2, i3, i4, i5, i6, i7, i8, i9⟩ := cell10 HO4.out
 obtain ⟨f0, f1, f2, f3, f4, f5, f6, f7, f8, f9⟩ := froz10 HO4.out
 clear hS4
 go_upto_region 8 with (fail)
 obtain ⟨W5, hW5⟩ : ∃ W5, W5 = ((W4.setCell ⟨wd.heap.size + 1, 0, none⟩ (.int .i64 0)).setCell ⟨wd.heap.size + 1, 1, none⟩ (.int .i64 s)).setCell ⟨wd.heap.size + 1, 2, none⟩ (.slice A3 l.length c3) := ⟨_, rfl⟩
 rw [show ((W4.setCell ⟨wd.heap.size + 1, 0, none⟩ (.int .i64 0)).setCell ⟨wd.heap.size + 1, 1, none⟩ (.int .i64 s)).setCell ⟨wd.heap.size + 1, 2, none⟩ (.slice A3 l.length c3) = W5 from hW5.symm]
 have ht5 : Turned (fun j => j = wd.heap.size + 1) W4 W5 := by rw [hW5]; exact ((turned_set _ _ 0 _).trans (turned_set _ _ 1 _)).trans (turned_set _ _ 2 _)
 have hO5 : W5.heap[wd.heap.size + 1]? = some (.cells #[.int .i64 0, .int .i64 s, .slice A3 l.length c3, .int .i64 I.b.1, .int .i64 I.b.2.1, .slice A1 n1 c1, .int .i64 I.c.1, .int .i64 I.c.2.1, .slice A2 n2 c2, .map (some wd.heap.size)] tIn (0, 0)) := by
  rw [hW5]; have := HO4.out; simp [World.setCell, Array.getElem?_modify, this]
 have HB5 := Hd (Below.turned HB4.out ht5 (fun i h => by omega) HB4.out.size)
 have HZ5 := Hd (heap_turned HZ4.out ht5 (by omega))
 have HM5 := Hd (HM4.out.turned ht5 (by omega))
 have HR5 := Hd (HR4.out.turned ht5 (fun ad n c' e hl => by have := HQ3.out ad n c' e hl; omega))
 have HO5 := Hd hO5
 clear hW5 ht5 hO5 HB4 HZ4 HO4 HM4 HR4 k0 k1 k2 f0 f1 f2 f3 f4 f5 f6 f7 f8 f9 i0' i1 i2 i3 i4 i5 i6 i7 i8 i9
 have HGJ := Hd (HG.out.put (p := 0) (x := (0, s, l)) (.inr ⟨rfl, HVV.out⟩) (.inl rfl))
 have HRX := Hd (acc_rows (W := W5) (bm := wd.heap.size) HGJ.out (v0 := .slice A3 l.length c3) (v1 := .slice A1 n1 c1) (v2 := .slice A2 n2 c2)
  (fun W h => HR5.out.turned h (fun ad n c' e hl => by have := HQ3.out ad n c' e hl; omega)) (fun W h => (H1.out.keep HB5.out).turned h (rd_far H1.out (by omega))) (fun W h => (H2.out.keep HB5.out).turned h (rd_far H2.out (by omega))))
 obtain ⟨i0', i1, i2, i3, i4, i5, i6, i7, i8, i9⟩ := cell10 HO5.out
 have hsd1 : wd.heap.size + 1 < W5.heap.size := heap_lt HO5.out
 go_wp2_with fail
 go_loopw [40] (fun i wr => ∃ k : Nat, i = .int .i64 k ∧ k ≤ 3 ∧ Hid (MapL Tryz.prog tKey mkKey mkRow wr wd.heap.size (entR (preK (In.Inn.put I 0 (0, s, l)) k))) ∧ Hid (Turned (fun j => j = wd.heap.size) W5 wr) ∧ Hid (Below w.heap.size w wr)) (fun i _ => 3 - (intOf i).toNat)
 case atStart => exact ⟨0, rfl, by omega, HM5.out, Turned.refl _ _, HB5.out⟩
 case round =>
  obtain ⟨k, rfl, hk, HMr, HTr, HBr⟩ := hrel
  clear i0' i1 i2 i3 i4 i5 i6 i7 i8 i9
  have hszr := HTr.out.size
  by_cases hk3 : k < 3
  ·obtain ⟨x, hx, hidx0⟩ := HRX.out k hk3
   obtain ⟨px, sx, Ax, cx, lx, rfl, hrd, hlen, hpre, hchk, hfr⟩ := hx
   have hidx : ∀ W', (Instr.index 82 (.agg #[.int .i64 0, .int .i64 s, .slice A3 l.length c3, .int .i64 I.b.1, .int .i64 I.b.2.1, .slice A1 n1 c1, .int .i64 I.c.1, .int .i64 I.c.2.1, .slice A2 n2 c2]) (.int .i64 (k : Int))).run Tryz.prog W' = .ok (.agg #[.int .i64 px, .int .i64 sx, .slice Ax lx.length cx]) W' := hidx0
   have HRD := Hd hrd
   have HPRE := Hd hpre
   have HCHK := Hd hchk
   have HFR := Hd hfr
   have HPL := preK_len HGJ.out k
   have hk3' : (k : Int) < 3 := by omega
   clear hidx0 hrd hpre hchk hfr
   go_wp2_with fail
   obtain ⟨wi, hwi⟩ : ∃ wi, wi = wr.alloc (.cells #[.int .i64 px, .int .i64 sx, .slice Ax lx.length cx] tStat) := ⟨_, rfl⟩
   rw [← hwi]
   have HTi := Hd (show Turned (fun j => j = wd.heap.size) W5 wi by rw [hwi]; exact HTr.out.trans (Turned.of_below (below_alloc _ _)))
   have HBi := Hd (show Below w.heap.size w wi by rw [hwi]; exact HBr.out.alloc HBr.out.size _)
   have HMi := Hd (show MapL Tryz.prog tKey mkKey mkRow wi wd.heap.size (entR (preK (In.Inn.put I 0 (0, s, l)) k)) by rw [hwi]; exact HMr.out.alloc _)
   clear hwi
   go_loopw [46] (fun i wq => ∃ j : Nat, i = .int .i64 j ∧ j ≤ lx.length ∧ Hid (MapL Tryz.prog tKey mkKey mkRow wq wd.heap.size (entR (preK (In.Inn.put I 0 (0, s, l)) k ++ lx.take j))) ∧ Hid (Turned (fun j => j = wd.heap.size) W5 wq) ∧ Hid (Below w.heap.size w wq)) (fun i _ => lx.length - (intOf i).toNat)
   case atStart => exact ⟨0, rfl, by omega, by rw [List.take_zero, List.append_nil]; exact HMi.out, HTi.out, HBi.out⟩
   case round =>
    obtain ⟨j, rfl, hj, HMq, HTq, HBq⟩ := hrel
    by_cases hjl : j < lx.length
    ·obtain ⟨y, hy⟩ : ∃ y, lx[j]? = some y := ⟨_, List.getElem?_eq_getElem hjl⟩
     obtain ⟨g, off, n', c', e, d0, d1, d2, d3, d4⟩ := (HRD.out _ HTq.out).cells (Below.refl _ _) hy
     injection e with e1 e2 e3
     subst e1; subst e2; subst e3
     have hck := HCHK.out y (List.mem_of_getElem? hy)
     have HFJ := Hd (HFR.out j y hy)
     have HTK := Hd (show lx.take (j + 1) = lx.take j ++ [y] by rw [List.take_add_one, hy]; rfl)
     obtain ⟨kl, hkl⟩ := key_chk hck
     have HL := Hd hkl
     have hjl' : (j : Int) < lx.length := by omega
     have hj0 : (0 : Int) ≤ j := by omega
     clear hy hkl hck
     obtain ⟨⟨o, d⟩, t, a, q⟩ := y
     simp only [] at d0 d1 d2 d3 d4
     have hszq := HTq.out.size
     go_upto_region 14 with (fail)
     obtain ⟨wm, hwm⟩ : ∃ wm, wm = wr.alloc (.cells #[.int .i64 o, .int .i64 d, .int .i64 t, .int .i64 a, .int .i64 q] tRow) := ⟨_, rfl⟩
     rw [← hwm]
     have HXm := Hd (show wm.heap[wr.heap.size]? = some (.cells #[.int .i64 o, .int .i64 d, .int .i64 t, .int .i64 a, .int .i64 q] tRow (0, 0)) by rw [hwm]; exact heap_new _ _)
     have HTm := Hd (show Turned (fun j => j = wd.heap.size) W5 wm by rw [hwm]; exact HTq.out.trans (Turned.of_below (below_alloc _ _)))
     have HBm := Hd (show Below w.heap.size w wm by rw [hwm]; exact HBq.out.alloc HBq.out.size _)
     have HMm := Hd (show MapL Tryz.prog tKey mkKey mkRow wm wd.heap.size (entR (preK (In.Inn.put I 0 (0, s, l)) k ++ lx.take j)) by rw [hwm]; exact HMq.out.alloc _)
     obtain ⟨d0, d1, d2, d3, d4⟩ := cell5 HXm.out
     obtain ⟨_, _, _, _, _, _, _, _, _, i9⟩ := cell10 (heap_turned HO5.out HTm.out (by omega))
     clear hwm HXm
     have hel : (entR (preK (In.Inn.put I 0 (0, s, l)) k ++ lx.take j)).length < maxLen := by unfold entR maxLen; simp; omega
     go_wp2_with (at_mapUpdate; go_loud (refine wpList_storeL _ rfl (.tmp 51) (.tmp 53) (.tmp 54) tMapR rfl tKey tRow lawKey mapR wd.heap.size (entR (preK (In.Inn.put I 0 (0, s, l)) k ++ lx.take j)) rfl HMm.out hel (o, d) ((o, d), t, a, q) rfl rfl HL.out (mkKey_inj _) ?_; intro wn hmn htn))
     have HM' := Hd (show MapL Tryz.prog tKey mkKey mkRow wn wd.heap.size (entR (preK (In.Inn.put I 0 (0, s, l)) k ++ lx.take (j + 1))) by rw [HTK.out, ← List.append_assoc]; exact hmn.perm (entR_store (y := ((o, d), t, a, q)) HFJ.out))
     have HT' := Hd (HTm.out.trans (Turned.of_grown htn.grown (fun j h => by injection h with h; exact h.symm)))
     have HB' := Hd (HBm.out.grown htn.grown HBm.out.size (fun k hk => by cases hk; omega))
     clear hmn htn
     go_roundw
     case rel => exact ⟨j + 1, by go_num, by omega, HM'.out, HT'.out, HB'.out⟩
     case measure => simp [intOf]; omega
    ·have hjl' : (lx.length : Int) ≤ j := by omega
     have HM' := Hd (show MapL Tryz.prog tKey mkKey mkRow wr wd.heap.size (entR (preK (In.Inn.put I 0 (0, s, l)) (k + 1))) by rw [HPRE.out]; have := HMq.out; rwa [List.take_of_length_le (by omega)] at this)
     clear hidx
     go_wp2_with fail
     go_roundw
     case rel => exact ⟨k + 1, by go_num, by omega, HM'.out, HTq.out, HBq.out⟩
     case measure => simp [intOf]; omega
  ·have hk3' : (3 : Int) ≤ k := by omega
   obtain rfl : k = 3 := by omega
   have HO' := Hd (heap_turned HO5.out HTr.out (by omega))
   have HZ' := Hd (heap_turned HZ5.out HTr.out (by omega))
   obtain ⟨i0', i1, i2, i3, i4, i5, i6, i7, i8, i9⟩ := cell10 HO'.out
   obtain ⟨m0, m1, m2, m3, m4, m5, m6, m7, m8, m9⟩ := cell10 HZ'.out
   obtain ⟨f0, f1, f2, f3, f4, f5, f6, f7, f8, f9⟩ := froz10 HZ'.out
   go_wp2_with fail
   have HBf := Hd (Below.turned HBr.out (turned_set10 wr (w.heap.size + 2) (.int .i64 0) (.int .i64 s) (.slice A3 l.length c3) (.int .i64 I.b.1) (.int .i64 I.b.2.1) (.slice A1 n1 c1) (.int .i64 I.c.1) (.int .i64 I.c.2.1) (.slice A2 n2 c2) (.map (some wd.heap.size))) (fun i h => by omega) HBr.out.size)
   have HR' := HRX.out
   refine bodyPost_ret (v := .tuple #[.agg #[.int .i64 0, .int .i64 s, .slice A3 l.length c3, .int .i64 I.b.1, .int .i64 I.b.2.1, .slice A1 n1 c1, .int .i64 I.c.1, .int .i64 I.c.2.1, .slice A2 n2 c2, .map (some wd.heap.size)], .int .i64 0]) (by simp [results, Tryz.results103, go_sem, m0, m1, m2, m3, m4, m5, m6, m7, m8, m9]) rfl ⟨_, rfl, ?_, ?_, HBf.out⟩
   have htz : Turned (fun j => j = w.heap.size + 2) wr _ := turned_set10 wr (w.heap.size + 2) (.int .i64 0) (.int .i64 s) (.slice A3 l.length c3) (.int .i64 I.b.1) (.int .i64 I.b.2.1) (.slice A1 n1 c1) (.int .i64 I.c.1) (.int .i64 I.c.2.1) (.slice A2 n2 c2) (.map (some wd.heap.size))
   refine ⟨A3, l.length, c3, A1, n1, c1, A2, n2, c2, some wd.heap.size, rfl, ?_, H1.out.keep HBf.out, H2.out.keep HBf.out, .inr ⟨_, rfl, ?_⟩⟩
   ·exact (HR5.out.turned HTr.out (fun ad n c' e hl => by have := HQ3.out ad n c' e hl; omega)).turned htz (fun ad n c' e hl => by have := HQ3.out ad n c' e hl; omega)
   ·exact HMr.out.turned htz (by omega)
   ·intro b hb hav
    obtain ⟨a0, a1, a2, am⟩ := Av.get hav
    exact Av.of (fun ad m c e hl => by have := HQ3.out ad m c e hl; omega) a1 a2 (by simp; omega)
theorem accept_ok1 (w : World) (v : Value) (I : In.Inn) (s : Int) (u : Value) (l : List R5) (h : InP w v I) (hu : Rd w u l) (hT : PT w) (hg : In.Fine I) (hv : validB 1 s l = true) (hs : I.b.2.1 < s) :
  Calls Tryz.prog 103 #[v, .agg #[.int .i64 1, .int .i64 s, u]] w fun e w' => ∃ v', e = .returned (.tuple #[v', .int .i64 0]) ∧ InP w' v' (In.Inn.put I 1 (1, s, l)) ∧ (∀ b, b < w.heap.size → Av b v I → Av b v' (In.Inn.put I 1 (1, s, l))) ∧ Below w.heap.size w w' := by
 obtain ⟨A0, n0, c0, A1, n1, c1, A2, n2, c2, m, rfl, h0, h1, h2, h3⟩ := h
 have HV := Hd (valid_at w 1 s u l hu hT hv)
 have HU := Hd hu
 obtain ⟨i0, hi, hz0, hz1, hz2⟩ := info_parts row_info
 obtain ⟨A, c, rfl, hlc, hcm⟩ := hu.shape
 have hll := In.valid_len hv
 have H0 := Hd h0; have H1 := Hd h1; have H2 := Hd h2
 have HG := Hd hg
 have HVV := Hd hv
 obtain ⟨wa, hA⟩ : ∃ wa, wa = ((w.alloc (.cells #[.int .i64 I.a.1, .int .i64 I.a.2.1, .slice A0 n0 c0, .int .i64 I.b.1, .int .i64 I.b.2.1, .slice A1 n1 c1, .int .i64 I.c.1, .int .i64 I.c.2.1, .slice A2 n2 c2, .map m] tIn)).alloc (.cells #[.int .i64 1, .int .i64 s, .slice A l.length c] tStat)).alloc (.cells zIn tIn) := ⟨_, rfl⟩
 obtain ⟨hB, hI, hS, hZ⟩ := three_new w _ _ _ tIn tStat tIn hA
 have HB := Hd hB; have HI := Hd hI; have HS := Hd hS; have HZ := Hd hZ
 have HA := Hd hA
 clear hA hB hI hS hZ
 have hmm := @run_makeMap Tryz.prog
 clear hu hT h0 h1 h2 h3 hv hg
 go_enter Tryz.func103, Tryz.ntmps103
 go_wp2_with fail
 rw [← HA.out]
 refine (HV.out _ HB.out).mono ?_
 rintro e w1 ⟨rfl, hb⟩
 have HB1 := Hd (bch HB.out hb HB.out.size)
 have HZ1 := Hd (heap_keep HZ.out hb)
 have HI1 := Hd (heap_keep HI.out hb)
 have HS1 := Hd (heap_keep HS.out hb)
 clear HA HB HI HS HZ HV hb
 obtain ⟨i0', i1, i2, i3, i4, i5, i6, i7, i8, i9⟩ := cell10 HI1.out
 obtain ⟨k0, k1, k2⟩ := cell3c HS1.out
 have hsz := heap_lt HZ1.out
 have hsz1 : w.heap.size + 1 < w1.heap.size := by omega
 have hsz0 : w.heap.size < w1.heap.size := by omega
 have hs' : ¬ s ≤ I.b.2.1 := by omega
 go_wp2_with fail
 go_quiet (fail)
 generalize HDD : w1.drewN _ = wd
 have HDB : Below w1.heap.size w1 wd := by rw [← HDD]; exact below_drewN (Below.refl _ _) _
 have hsd : wd.heap.size = w1.heap.size := by rw [← HDD]; rfl
 clear HDD i0' i1 i2 i3 i4 i5 i6 i7 i8 i9 k0 k1 k2
 rw [← hsd] at hsz
 have HBd := Hd (bch HB1.out HDB HB1.out.size)
 have HId := Hd (heap_keep HI1.out HDB)
 have HSd := Hd (heap_keep HS1.out HDB)
 have HZd := Hd (heap_keep HZ1.out HDB)
 clear HB1 HI1 HS1 HZ1 HDB hsd hs' hsz1 hsz0
 obtain ⟨i0', i1, i2, i3, i4, i5, i6, i7, i8, i9⟩ := cell10 HId.out
 obtain ⟨W2, hW2⟩ : ∃ W2, W2 = (wd.alloc (.map #[] 0)).alloc (.cells #[.int .i64 I.a.1, .int .i64 I.a.2.1, .slice A0 n0 c0, .int .i64 I.b.1, .int .i64 I.b.2.1, .slice A1 n1 c1, .int .i64 I.c.1, .int .i64 I.c.2.1, .slice A2 n2 c2, .map (some wd.heap.size)] tIn) := ⟨_, rfl⟩
 have hB2 : Below wd.heap.size wd W2 := by rw [hW2]; exact (below_alloc _ _).alloc (by simp) _
 have hO2 : W2.heap[wd.heap.size + 1]? = some (.cells #[.int .i64 I.a.1, .int .i64 I.a.2.1, .slice A0 n0 c0, .int .i64 I.b.1, .int .i64 I.b.2.1, .slice A1 n1 c1, .int .i64 I.c.1, .int .i64 I.c.2.1, .slice A2 n2 c2, .map (some wd.heap.size)] tIn (0, 0)) := by
  rw [hW2]
  have := heap_new (wd.alloc (.map #[] 0)) (.cells #[.int .i64 I.a.1, .int .i64 I.a.2.1, .slice A0 n0 c0, .int .i64 I.b.1, .int .i64 I.b.2.1, .slice A1 n1 c1, .int .i64 I.c.1, .int .i64 I.c.2.1, .slice A2 n2 c2, .map (some wd.heap.size)] tIn)
  rwa [show (wd.alloc (.map #[] 0)).heap.size = wd.heap.size + 1 by simp] at this
 have hM2 : MapL Tryz.prog tKey mkKey mkRow W2 wd.heap.size [] := by rw [hW2]; exact (MapL.made _ _ _ _ wd).alloc _
 have hs2 : W2.heap.size = wd.heap.size + 2 := by rw [hW2]; simp
 have HW2 := Hd hW2; have HB2 := Hd hB2; have HO2 := Hd hO2; have HM2 := Hd hM2
 have hs2' : wd.heap.size + 1 < W2.heap.size := by omega
 clear hW2 hB2 hO2 hM2 hs2
 go_upto_region 6 with (fail)
 rw [← HW2.out]
 have HBw := Hd (bch HBd.out HB2.out HBd.out.size)
 have HS2 := Hd (heap_keep HSd.out HB2.out)
 have HZ2 := Hd (heap_keep HZd.out HB2.out)
 clear HBd HSd HZd HId HB2 HW2 i0' i1 i2 i3 i4 i5 i6 i7 i8 i9
 obtain ⟨k0, k1, k2⟩ := cell3c HS2.out
 go_upto_region 7 with (at_builtin; go_loud (refine wpList_append_any _ rfl (.const (.slice none 0 0)) (.tmp 30) tRows rfl W2.heap.size tRow i0 (mkRow ((0, 0), 0, 0, 0)) 5 40 Tryz.underlying32 hi hz0 hz1 hz2 rfl (by decide) (.slice none 0 0) 0 [] rfl (World.ownsRow_nil _ _ _ _) l.length (l.flatMap encR) (Rd.src (Rd.keep HU.out HBw.out)) (by unfold maxLen; omega) (by omega) (Nat.le_refl _) ?_; intro v2 W3 ho3 hg3 hat3; rw [Nat.zero_add, List.nil_append] at ho3; obtain ⟨A3, c3, e3, hp3⟩ := own_slice2 ho3; subst e3; have hB3 := below_of_grown hg3; have HB3 := Hd (bch HBw.out hB3 HBw.out.size); have HS3 := Hd (heap_keep HS2.out hB3); have HZ3 := Hd (heap_keep HZ2.out hB3); have HO3 := Hd (heap_keep HO2.out hB3); have HM3 := Hd (HM2.out.below hB3); have HR3 := Hd (rd_own ho3); have hs3 := hB3.size; have HQ4 := Hd (show ∀ ad, A3 = some ad → W2.heap.size ≤ ad.block from fun ad e => (hp3 ad e).1); have HP3 := Hd (show ∀ ad n c', Value.slice A3 l.length c3 = .slice (some ad) n c' → 0 < l.length → ¬ ad.block = w.heap.size + 1 from fun ad n c' e hl => by injection e with e; have := (hp3 ad e).1; omega); have HQ3 := Hd (show ∀ ad n c', Value.slice A3 l.length c3 = .slice (some ad) n c' → 0 < l.length → W2.heap.size ≤ ad.block from fun ad n c' e hl => by injection e with e; exact (hp3 ad e).1); clear ho3 hg3 hat3 hp3 hB3 HBw HS2 HZ2 HO2 HM2 k0 k1 k2; obtain ⟨k0, k1, k2⟩ := cell3c HS3.out; obtain ⟨f0, f1, f2⟩ := froz3 HS3.out))
 obtain ⟨W4, hW4⟩ : ∃ W4, W4 = W3.setCell ⟨w.heap.size + 1, 2, none⟩ (.slice A3 l.length c3) := ⟨_, rfl⟩
 rw [← hW4]
 have ht4 : Turned (fun j => j = w.heap.size + 1) W3 W4 := by rw [hW4]; exact turned_set _ _ _ _
 have hS4 : W4.heap[w.heap.size + 1]? = some (.cells #[.int .i64 1, .int .i64 s, .slice A3 l.length c3] tStat (0, 0)) := by
  rw [hW4]; have := HS3.out; simp [World.setCell, Array.getElem?_modify, this]
 have HB4 := Hd (Below.turned HB3.out ht4 (fun i h => by omega) HB3.out.size)
 have HZ4 := Hd (heap_turned HZ3.out ht4 (by omega))
 have HO4 := Hd (heap_turned HO3.out ht4 (by omega))
 have HM4 := Hd (HM3.out.turned ht4 (by omega))
 have HR4 := Hd (HR3.out.turned ht4 HP3.out)
 clear hW4 ht4 HB3 HZ3 HO3 HM3 HR3 HS3 HP3 k0 k1 k2 f0 f1 f2
 obtain ⟨k0, k1, k2⟩ := cell3c hS4
 obtain ⟨i0', i1, i2, i3, i4, i5, i6, i7, i8, i9⟩ := cell10 HO4.out
 obtain ⟨f0, f1, f2, f3, f4, f5, f6, f7, f8, f9⟩ := froz10 HO4.out
 clear hS4
 go_upto_region 8 with (fail)
 obtain ⟨W5, hW5⟩ : ∃ W5, W5 = ((W4.setCell ⟨wd.heap.size + 1, 3, none⟩ (.int .i64 1)).setCell ⟨wd.heap.size + 1, 4, none⟩ (.int .i64 s)).setCell ⟨wd.heap.size + 1, 5, none⟩ (.slice A3 l.length c3) := ⟨_, rfl⟩
 rw [show ((W4.setCell ⟨wd.heap.size + 1, 3, none⟩ (.int .i64 1)).setCell ⟨wd.heap.size + 1, 4, none⟩ (.int .i64 s)).setCell ⟨wd.heap.size + 1, 5, none⟩ (.slice A3 l.length c3) = W5 from hW5.symm]
 have ht5 : Turned (fun j => j = wd.heap.size + 1) W4 W5 := by rw [hW5]; exact ((turned_set _ _ 3 _).trans (turned_set _ _ 4 _)).trans (turned_set _ _ 5 _)
 have hO5 : W5.heap[wd.heap.size + 1]? = some (.cells #[.int .i64 I.a.1, .int .i64 I.a.2.1, .slice A0 n0 c0, .int .i64 1, .int .i64 s, .slice A3 l.length c3, .int .i64 I.c.1, .int .i64 I.c.2.1, .slice A2 n2 c2, .map (some wd.heap.size)] tIn (0, 0)) := by
  rw [hW5]; have := HO4.out; simp [World.setCell, Array.getElem?_modify, this]
 have HB5 := Hd (Below.turned HB4.out ht5 (fun i h => by omega) HB4.out.size)
 have HZ5 := Hd (heap_turned HZ4.out ht5 (by omega))
 have HM5 := Hd (HM4.out.turned ht5 (by omega))
 have HR5 := Hd (HR4.out.turned ht5 (fun ad n c' e hl => by have := HQ3.out ad n c' e hl; omega))
 have HO5 := Hd hO5
 clear hW5 ht5 hO5 HB4 HZ4 HO4 HM4 HR4 k0 k1 k2 f0 f1 f2 f3 f4 f5 f6 f7 f8 f9 i0' i1 i2 i3 i4 i5 i6 i7 i8 i9
 have HGJ := Hd (HG.out.put (p := 1) (x := (1, s, l)) (.inr ⟨rfl, HVV.out⟩) (.inr (.inl rfl)))
 have HRX := Hd (acc_rows (W := W5) (bm := wd.heap.size) HGJ.out (v0 := .slice A0 n0 c0) (v1 := .slice A3 l.length c3) (v2 := .slice A2 n2 c2)
  (fun W h => (H0.out.keep HB5.out).turned h (rd_far H0.out (by omega))) (fun W h => HR5.out.turned h (fun ad n c' e hl => by have := HQ3.out ad n c' e hl; omega)) (fun W h => (H2.out.keep HB5.out).turned h (rd_far H2.out (by omega))))
 obtain ⟨i0', i1, i2, i3, i4, i5, i6, i7, i8, i9⟩ := cell10 HO5.out
 have hsd1 : wd.heap.size + 1 < W5.heap.size := heap_lt HO5.out
 go_wp2_with fail
 go_loopw [40] (fun i wr => ∃ k : Nat, i = .int .i64 k ∧ k ≤ 3 ∧ Hid (MapL Tryz.prog tKey mkKey mkRow wr wd.heap.size (entR (preK (In.Inn.put I 1 (1, s, l)) k))) ∧ Hid (Turned (fun j => j = wd.heap.size) W5 wr) ∧ Hid (Below w.heap.size w wr)) (fun i _ => 3 - (intOf i).toNat)
 case atStart => exact ⟨0, rfl, by omega, HM5.out, Turned.refl _ _, HB5.out⟩
 case round =>
  obtain ⟨k, rfl, hk, HMr, HTr, HBr⟩ := hrel
  clear i0' i1 i2 i3 i4 i5 i6 i7 i8 i9
  have hszr := HTr.out.size
  by_cases hk3 : k < 3
  ·obtain ⟨x, hx, hidx0⟩ := HRX.out k hk3
   obtain ⟨px, sx, Ax, cx, lx, rfl, hrd, hlen, hpre, hchk, hfr⟩ := hx
   have hidx : ∀ W', (Instr.index 82 (.agg #[.int .i64 I.a.1, .int .i64 I.a.2.1, .slice A0 n0 c0, .int .i64 1, .int .i64 s, .slice A3 l.length c3, .int .i64 I.c.1, .int .i64 I.c.2.1, .slice A2 n2 c2]) (.int .i64 (k : Int))).run Tryz.prog W' = .ok (.agg #[.int .i64 px, .int .i64 sx, .slice Ax lx.length cx]) W' := hidx0
   have HRD := Hd hrd
   have HPRE := Hd hpre
   have HCHK := Hd hchk
   have HFR := Hd hfr
   have HPL := preK_len HGJ.out k
   have hk3' : (k : Int) < 3 := by omega
   clear hidx0 hrd hpre hchk hfr
   go_wp2_with fail
   obtain ⟨wi, hwi⟩ : ∃ wi, wi = wr.alloc (.cells #[.int .i64 px, .int .i64 sx, .slice Ax lx.length cx] tStat) := ⟨_, rfl⟩
   rw [← hwi]
   have HTi := Hd (show Turned (fun j => j = wd.heap.size) W5 wi by rw [hwi]; exact HTr.out.trans (Turned.of_below (below_alloc _ _)))
   have HBi := Hd (show Below w.heap.size w wi by rw [hwi]; exact HBr.out.alloc HBr.out.size _)
   have HMi := Hd (show MapL Tryz.prog tKey mkKey mkRow wi wd.heap.size (entR (preK (In.Inn.put I 1 (1, s, l)) k)) by rw [hwi]; exact HMr.out.alloc _)
   clear hwi
   go_loopw [46] (fun i wq => ∃ j : Nat, i = .int .i64 j ∧ j ≤ lx.length ∧ Hid (MapL Tryz.prog tKey mkKey mkRow wq wd.heap.size (entR (preK (In.Inn.put I 1 (1, s, l)) k ++ lx.take j))) ∧ Hid (Turned (fun j => j = wd.heap.size) W5 wq) ∧ Hid (Below w.heap.size w wq)) (fun i _ => lx.length - (intOf i).toNat)
   case atStart => exact ⟨0, rfl, by omega, by rw [List.take_zero, List.append_nil]; exact HMi.out, HTi.out, HBi.out⟩
   case round =>
    obtain ⟨j, rfl, hj, HMq, HTq, HBq⟩ := hrel
    by_cases hjl : j < lx.length
    ·obtain ⟨y, hy⟩ : ∃ y, lx[j]? = some y := ⟨_, List.getElem?_eq_getElem hjl⟩
     obtain ⟨g, off, n', c', e, d0, d1, d2, d3, d4⟩ := (HRD.out _ HTq.out).cells (Below.refl _ _) hy
     injection e with e1 e2 e3
     subst e1; subst e2; subst e3
     have hck := HCHK.out y (List.mem_of_getElem? hy)
     have HFJ := Hd (HFR.out j y hy)
     have HTK := Hd (show lx.take (j + 1) = lx.take j ++ [y] by rw [List.take_add_one, hy]; rfl)
     obtain ⟨kl, hkl⟩ := key_chk hck
     have HL := Hd hkl
     have hjl' : (j : Int) < lx.length := by omega
     have hj0 : (0 : Int) ≤ j := by omega
     clear hy hkl hck
     obtain ⟨⟨o, d⟩, t, a, q⟩ := y
     simp only [] at d0 d1 d2 d3 d4
     have hszq := HTq.out.size
     go_upto_region 14 with (fail)
     obtain ⟨wm, hwm⟩ : ∃ wm, wm = wr.alloc (.cells #[.int .i64 o, .int .i64 d, .int .i64 t, .int .i64 a, .int .i64 q] tRow) := ⟨_, rfl⟩
     rw [← hwm]
     have HXm := Hd (show wm.heap[wr.heap.size]? = some (.cells #[.int .i64 o, .int .i64 d, .int .i64 t, .int .i64 a, .int .i64 q] tRow (0, 0)) by rw [hwm]; exact heap_new _ _)
     have HTm := Hd (show Turned (fun j => j = wd.heap.size) W5 wm by rw [hwm]; exact HTq.out.trans (Turned.of_below (below_alloc _ _)))
     have HBm := Hd (show Below w.heap.size w wm by rw [hwm]; exact HBq.out.alloc HBq.out.size _)
     have HMm := Hd (show MapL Tryz.prog tKey mkKey mkRow wm wd.heap.size (entR (preK (In.Inn.put I 1 (1, s, l)) k ++ lx.take j)) by rw [hwm]; exact HMq.out.alloc _)
     obtain ⟨d0, d1, d2, d3, d4⟩ := cell5 HXm.out
     obtain ⟨_, _, _, _, _, _, _, _, _, i9⟩ := cell10 (heap_turned HO5.out HTm.out (by omega))
     clear hwm HXm
     have hel : (entR (preK (In.Inn.put I 1 (1, s, l)) k ++ lx.take j)).length < maxLen := by unfold entR maxLen; simp; omega
     go_wp2_with (at_mapUpdate; go_loud (refine wpList_storeL _ rfl (.tmp 51) (.tmp 53) (.tmp 54) tMapR rfl tKey tRow lawKey mapR wd.heap.size (entR (preK (In.Inn.put I 1 (1, s, l)) k ++ lx.take j)) rfl HMm.out hel (o, d) ((o, d), t, a, q) rfl rfl HL.out (mkKey_inj _) ?_; intro wn hmn htn))
     have HM' := Hd (show MapL Tryz.prog tKey mkKey mkRow wn wd.heap.size (entR (preK (In.Inn.put I 1 (1, s, l)) k ++ lx.take (j + 1))) by rw [HTK.out, ← List.append_assoc]; exact hmn.perm (entR_store (y := ((o, d), t, a, q)) HFJ.out))
     have HT' := Hd (HTm.out.trans (Turned.of_grown htn.grown (fun j h => by injection h with h; exact h.symm)))
     have HB' := Hd (HBm.out.grown htn.grown HBm.out.size (fun k hk => by cases hk; omega))
     clear hmn htn
     go_roundw
     case rel => exact ⟨j + 1, by go_num, by omega, HM'.out, HT'.out, HB'.out⟩
     case measure => simp [intOf]; omega
    ·have hjl' : (lx.length : Int) ≤ j := by omega
     have HM' := Hd (show MapL Tryz.prog tKey mkKey mkRow wr wd.heap.size (entR (preK (In.Inn.put I 1 (1, s, l)) (k + 1))) by rw [HPRE.out]; have := HMq.out; rwa [List.take_of_length_le (by omega)] at this)
     clear hidx
     go_wp2_with fail
     go_roundw
     case rel => exact ⟨k + 1, by go_num, by omega, HM'.out, HTq.out, HBq.out⟩
     case measure => simp [intOf]; omega
  ·have hk3' : (3 : Int) ≤ k := by omega
   obtain rfl : k = 3 := by omega
   have HO' := Hd (heap_turned HO5.out HTr.out (by omega))
   have HZ' := Hd (heap_turned HZ5.out HTr.out (by omega))
   obtain ⟨i0', i1, i2, i3, i4, i5, i6, i7, i8, i9⟩ := cell10 HO'.out
   obtain ⟨m0, m1, m2, m3, m4, m5, m6, m7, m8, m9⟩ := cell10 HZ'.out
   obtain ⟨f0, f1, f2, f3, f4, f5, f6, f7, f8, f9⟩ := froz10 HZ'.out
   go_wp2_with fail
   have HBf := Hd (Below.turned HBr.out (turned_set10 wr (w.heap.size + 2) (.int .i64 I.a.1) (.int .i64 I.a.2.1) (.slice A0 n0 c0) (.int .i64 1) (.int .i64 s) (.slice A3 l.length c3) (.int .i64 I.c.1) (.int .i64 I.c.2.1) (.slice A2 n2 c2) (.map (some wd.heap.size))) (fun i h => by omega) HBr.out.size)
   have HR' := HRX.out
   refine bodyPost_ret (v := .tuple #[.agg #[.int .i64 I.a.1, .int .i64 I.a.2.1, .slice A0 n0 c0, .int .i64 1, .int .i64 s, .slice A3 l.length c3, .int .i64 I.c.1, .int .i64 I.c.2.1, .slice A2 n2 c2, .map (some wd.heap.size)], .int .i64 0]) (by simp [results, Tryz.results103, go_sem, m0, m1, m2, m3, m4, m5, m6, m7, m8, m9]) rfl ⟨_, rfl, ?_, ?_, HBf.out⟩
   have htz : Turned (fun j => j = w.heap.size + 2) wr _ := turned_set10 wr (w.heap.size + 2) (.int .i64 I.a.1) (.int .i64 I.a.2.1) (.slice A0 n0 c0) (.int .i64 1) (.int .i64 s) (.slice A3 l.length c3) (.int .i64 I.c.1) (.int .i64 I.c.2.1) (.slice A2 n2 c2) (.map (some wd.heap.size))
   refine ⟨A0, n0, c0, A3, l.length, c3, A2, n2, c2, some wd.heap.size, rfl, H0.out.keep HBf.out, ?_, H2.out.keep HBf.out, .inr ⟨_, rfl, ?_⟩⟩
   ·exact (HR5.out.turned HTr.out (fun ad n c' e hl => by have := HQ3.out ad n c' e hl; omega)).turned htz (fun ad n c' e hl => by have := HQ3.out ad n c' e hl; omega)
   ·exact HMr.out.turned htz (by omega)
   ·intro b hb hav
    obtain ⟨a0, a1, a2, am⟩ := Av.get hav
    exact Av.of a0 (fun ad m c e hl => by have := HQ3.out ad m c e hl; omega) a2 (by simp; omega)
theorem accept_ok2 (w : World) (v : Value) (I : In.Inn) (s : Int) (u : Value) (l : List R5) (h : InP w v I) (hu : Rd w u l) (hT : PT w) (hg : In.Fine I) (hv : validB 2 s l = true) (hs : I.c.2.1 < s) :
  Calls Tryz.prog 103 #[v, .agg #[.int .i64 2, .int .i64 s, u]] w fun e w' => ∃ v', e = .returned (.tuple #[v', .int .i64 0]) ∧ InP w' v' (In.Inn.put I 2 (2, s, l)) ∧ (∀ b, b < w.heap.size → Av b v I → Av b v' (In.Inn.put I 2 (2, s, l))) ∧ Below w.heap.size w w' := by
 obtain ⟨A0, n0, c0, A1, n1, c1, A2, n2, c2, m, rfl, h0, h1, h2, h3⟩ := h
 have HV := Hd (valid_at w 2 s u l hu hT hv)
 have HU := Hd hu
 obtain ⟨i0, hi, hz0, hz1, hz2⟩ := info_parts row_info
 obtain ⟨A, c, rfl, hlc, hcm⟩ := hu.shape
 have hll := In.valid_len hv
 have H0 := Hd h0; have H1 := Hd h1; have H2 := Hd h2
 have HG := Hd hg
 have HVV := Hd hv
 obtain ⟨wa, hA⟩ : ∃ wa, wa = ((w.alloc (.cells #[.int .i64 I.a.1, .int .i64 I.a.2.1, .slice A0 n0 c0, .int .i64 I.b.1, .int .i64 I.b.2.1, .slice A1 n1 c1, .int .i64 I.c.1, .int .i64 I.c.2.1, .slice A2 n2 c2, .map m] tIn)).alloc (.cells #[.int .i64 2, .int .i64 s, .slice A l.length c] tStat)).alloc (.cells zIn tIn) := ⟨_, rfl⟩
 obtain ⟨hB, hI, hS, hZ⟩ := three_new w _ _ _ tIn tStat tIn hA
 have HB := Hd hB; have HI := Hd hI; have HS := Hd hS; have HZ := Hd hZ
 have HA := Hd hA
 clear hA hB hI hS hZ
 have hmm := @run_makeMap Tryz.prog
 clear hu hT h0 h1 h2 h3 hv hg
 go_enter Tryz.func103, Tryz.ntmps103
 go_wp2_with fail
 rw [← HA.out]
 refine (HV.out _ HB.out).mono ?_
 rintro e w1 ⟨rfl, hb⟩
 have HB1 := Hd (bch HB.out hb HB.out.size)
 have HZ1 := Hd (heap_keep HZ.out hb)
 have HI1 := Hd (heap_keep HI.out hb)
 have HS1 := Hd (heap_keep HS.out hb)
 clear HA HB HI HS HZ HV hb
 obtain ⟨i0', i1, i2, i3, i4, i5, i6, i7, i8, i9⟩ := cell10 HI1.out
 obtain ⟨k0, k1, k2⟩ := cell3c HS1.out
 have hsz := heap_lt HZ1.out
 have hsz1 : w.heap.size + 1 < w1.heap.size := by omega
 have hsz0 : w.heap.size < w1.heap.size := by omega
 have hs' : ¬ s ≤ I.c.2.1 := by omega
 go_wp2_with fail
 go_quiet (fail)
 generalize HDD : w1.drewN _ = wd
 have HDB : Below w1.heap.size w1 wd := by rw [← HDD]; exact below_drewN (Below.refl _ _) _
 have hsd : wd.heap.size = w1.heap.size := by rw [← HDD]; rfl
 clear HDD i0' i1 i2 i3 i4 i5 i6 i7 i8 i9 k0 k1 k2
 rw [← hsd] at hsz
 have HBd := Hd (bch HB1.out HDB HB1.out.size)
 have HId := Hd (heap_keep HI1.out HDB)
 have HSd := Hd (heap_keep HS1.out HDB)
 have HZd := Hd (heap_keep HZ1.out HDB)
 clear HB1 HI1 HS1 HZ1 HDB hsd hs' hsz1 hsz0
 obtain ⟨i0', i1, i2, i3, i4, i5, i6, i7, i8, i9⟩ := cell10 HId.out
 obtain ⟨W2, hW2⟩ : ∃ W2, W2 = (wd.alloc (.map #[] 0)).alloc (.cells #[.int .i64 I.a.1, .int .i64 I.a.2.1, .slice A0 n0 c0, .int .i64 I.b.1, .int .i64 I.b.2.1, .slice A1 n1 c1, .int .i64 I.c.1, .int .i64 I.c.2.1, .slice A2 n2 c2, .map (some wd.heap.size)] tIn) := ⟨_, rfl⟩
 have hB2 : Below wd.heap.size wd W2 := by rw [hW2]; exact (below_alloc _ _).alloc (by simp) _
 have hO2 : W2.heap[wd.heap.size + 1]? = some (.cells #[.int .i64 I.a.1, .int .i64 I.a.2.1, .slice A0 n0 c0, .int .i64 I.b.1, .int .i64 I.b.2.1, .slice A1 n1 c1, .int .i64 I.c.1, .int .i64 I.c.2.1, .slice A2 n2 c2, .map (some wd.heap.size)] tIn (0, 0)) := by
  rw [hW2]
  have := heap_new (wd.alloc (.map #[] 0)) (.cells #[.int .i64 I.a.1, .int .i64 I.a.2.1, .slice A0 n0 c0, .int .i64 I.b.1, .int .i64 I.b.2.1, .slice A1 n1 c1, .int .i64 I.c.1, .int .i64 I.c.2.1, .slice A2 n2 c2, .map (some wd.heap.size)] tIn)
  rwa [show (wd.alloc (.map #[] 0)).heap.size = wd.heap.size + 1 by simp] at this
 have hM2 : MapL Tryz.prog tKey mkKey mkRow W2 wd.heap.size [] := by rw [hW2]; exact (MapL.made _ _ _ _ wd).alloc _
 have hs2 : W2.heap.size = wd.heap.size + 2 := by rw [hW2]; simp
 have HW2 := Hd hW2; have HB2 := Hd hB2; have HO2 := Hd hO2; have HM2 := Hd hM2
 have hs2' : wd.heap.size + 1 < W2.heap.size := by omega
 clear hW2 hB2 hO2 hM2 hs2
 go_upto_region 6 with (fail)
 rw [← HW2.out]
 have HBw := Hd (bch HBd.out HB2.out HBd.out.size)
 have HS2 := Hd (heap_keep HSd.out HB2.out)
 have HZ2 := Hd (heap_keep HZd.out HB2.out)
 clear HBd HSd HZd HId HB2 HW2 i0' i1 i2 i3 i4 i5 i6 i7 i8 i9
 obtain ⟨k0, k1, k2⟩ := cell3c HS2.out
 go_upto_region 7 with (at_builtin; go_loud (refine wpList_append_any _ rfl (.const (.slice none 0 0)) (.tmp 30) tRows rfl W2.heap.size tRow i0 (mkRow ((0, 0), 0, 0, 0)) 5 40 Tryz.underlying32 hi hz0 hz1 hz2 rfl (by decide) (.slice none 0 0) 0 [] rfl (World.ownsRow_nil _ _ _ _) l.length (l.flatMap encR) (Rd.src (Rd.keep HU.out HBw.out)) (by unfold maxLen; omega) (by omega) (Nat.le_refl _) ?_; intro v2 W3 ho3 hg3 hat3; rw [Nat.zero_add, List.nil_append] at ho3; obtain ⟨A3, c3, e3, hp3⟩ := own_slice2 ho3; subst e3; have hB3 := below_of_grown hg3; have HB3 := Hd (bch HBw.out hB3 HBw.out.size); have HS3 := Hd (heap_keep HS2.out hB3); have HZ3 := Hd (heap_keep HZ2.out hB3); have HO3 := Hd (heap_keep HO2.out hB3); have HM3 := Hd (HM2.out.below hB3); have HR3 := Hd (rd_own ho3); have hs3 := hB3.size; have HQ4 := Hd (show ∀ ad, A3 = some ad → W2.heap.size ≤ ad.block from fun ad e => (hp3 ad e).1); have HP3 := Hd (show ∀ ad n c', Value.slice A3 l.length c3 = .slice (some ad) n c' → 0 < l.length → ¬ ad.block = w.heap.size + 1 from fun ad n c' e hl => by injection e with e; have := (hp3 ad e).1; omega); have HQ3 := Hd (show ∀ ad n c', Value.slice A3 l.length c3 = .slice (some ad) n c' → 0 < l.length → W2.heap.size ≤ ad.block from fun ad n c' e hl => by injection e with e; exact (hp3 ad e).1); clear ho3 hg3 hat3 hp3 hB3 HBw HS2 HZ2 HO2 HM2 k0 k1 k2; obtain ⟨k0, k1, k2⟩ := cell3c HS3.out; obtain ⟨f0, f1, f2⟩ := froz3 HS3.out))
 obtain ⟨W4, hW4⟩ : ∃ W4, W4 = W3.setCell ⟨w.heap.size + 1, 2, none⟩ (.slice A3 l.length c3) := ⟨_, rfl⟩
 rw [← hW4]
 have ht4 : Turned (fun j => j = w.heap.size + 1) W3 W4 := by rw [hW4]; exact turned_set _ _ _ _
 have hS4 : W4.heap[w.heap.size + 1]? = some (.cells #[.int .i64 2, .int .i64 s, .slice A3 l.length c3] tStat (0, 0)) := by
  rw [hW4]; have := HS3.out; simp [World.setCell, Array.getElem?_modify, this]
 have HB4 := Hd (Below.turned HB3.out ht4 (fun i h => by omega) HB3.out.size)
 have HZ4 := Hd (heap_turned HZ3.out ht4 (by omega))
 have HO4 := Hd (heap_turned HO3.out ht4 (by omega))
 have HM4 := Hd (HM3.out.turned ht4 (by omega))
 have HR4 := Hd (HR3.out.turned ht4 HP3.out)
 clear hW4 ht4 HB3 HZ3 HO3 HM3 HR3 HS3 HP3 k0 k1 k2 f0 f1 f2
 obtain ⟨k0, k1, k2⟩ := cell3c hS4
 obtain ⟨i0', i1, i2, i3, i4, i5, i6, i7, i8, i9⟩ := cell10 HO4.out
 obtain ⟨f0, f1, f2, f3, f4, f5, f6, f7, f8, f9⟩ := froz10 HO4.out
 clear hS4
 go_upto_region 8 with (fail)
 obtain ⟨W5, hW5⟩ : ∃ W5, W5 = ((W4.setCell ⟨wd.heap.size + 1, 6, none⟩ (.int .i64 2)).setCell ⟨wd.heap.size + 1, 7, none⟩ (.int .i64 s)).setCell ⟨wd.heap.size + 1, 8, none⟩ (.slice A3 l.length c3) := ⟨_, rfl⟩
 rw [show ((W4.setCell ⟨wd.heap.size + 1, 6, none⟩ (.int .i64 2)).setCell ⟨wd.heap.size + 1, 7, none⟩ (.int .i64 s)).setCell ⟨wd.heap.size + 1, 8, none⟩ (.slice A3 l.length c3) = W5 from hW5.symm]
 have ht5 : Turned (fun j => j = wd.heap.size + 1) W4 W5 := by rw [hW5]; exact ((turned_set _ _ 6 _).trans (turned_set _ _ 7 _)).trans (turned_set _ _ 8 _)
 have hO5 : W5.heap[wd.heap.size + 1]? = some (.cells #[.int .i64 I.a.1, .int .i64 I.a.2.1, .slice A0 n0 c0, .int .i64 I.b.1, .int .i64 I.b.2.1, .slice A1 n1 c1, .int .i64 2, .int .i64 s, .slice A3 l.length c3, .map (some wd.heap.size)] tIn (0, 0)) := by
  rw [hW5]; have := HO4.out; simp [World.setCell, Array.getElem?_modify, this]
 have HB5 := Hd (Below.turned HB4.out ht5 (fun i h => by omega) HB4.out.size)
 have HZ5 := Hd (heap_turned HZ4.out ht5 (by omega))
 have HM5 := Hd (HM4.out.turned ht5 (by omega))
 have HR5 := Hd (HR4.out.turned ht5 (fun ad n c' e hl => by have := HQ3.out ad n c' e hl; omega))
 have HO5 := Hd hO5
 clear hW5 ht5 hO5 HB4 HZ4 HO4 HM4 HR4 k0 k1 k2 f0 f1 f2 f3 f4 f5 f6 f7 f8 f9 i0' i1 i2 i3 i4 i5 i6 i7 i8 i9
 have HGJ := Hd (HG.out.put (p := 2) (x := (2, s, l)) (.inr ⟨rfl, HVV.out⟩) (.inr (.inr rfl)))
 have HRX := Hd (acc_rows (W := W5) (bm := wd.heap.size) HGJ.out (v0 := .slice A0 n0 c0) (v1 := .slice A1 n1 c1) (v2 := .slice A3 l.length c3)
  (fun W h => (H0.out.keep HB5.out).turned h (rd_far H0.out (by omega))) (fun W h => (H1.out.keep HB5.out).turned h (rd_far H1.out (by omega))) (fun W h => HR5.out.turned h (fun ad n c' e hl => by have := HQ3.out ad n c' e hl; omega)))
 obtain ⟨i0', i1, i2, i3, i4, i5, i6, i7, i8, i9⟩ := cell10 HO5.out
 have hsd1 : wd.heap.size + 1 < W5.heap.size := heap_lt HO5.out
 go_wp2_with fail
 go_loopw [40] (fun i wr => ∃ k : Nat, i = .int .i64 k ∧ k ≤ 3 ∧ Hid (MapL Tryz.prog tKey mkKey mkRow wr wd.heap.size (entR (preK (In.Inn.put I 2 (2, s, l)) k))) ∧ Hid (Turned (fun j => j = wd.heap.size) W5 wr) ∧ Hid (Below w.heap.size w wr)) (fun i _ => 3 - (intOf i).toNat)
 case atStart => exact ⟨0, rfl, by omega, HM5.out, Turned.refl _ _, HB5.out⟩
 case round =>
  obtain ⟨k, rfl, hk, HMr, HTr, HBr⟩ := hrel
  clear i0' i1 i2 i3 i4 i5 i6 i7 i8 i9
  have hszr := HTr.out.size
  by_cases hk3 : k < 3
  ·obtain ⟨x, hx, hidx0⟩ := HRX.out k hk3
   obtain ⟨px, sx, Ax, cx, lx, rfl, hrd, hlen, hpre, hchk, hfr⟩ := hx
   have hidx : ∀ W', (Instr.index 82 (.agg #[.int .i64 I.a.1, .int .i64 I.a.2.1, .slice A0 n0 c0, .int .i64 I.b.1, .int .i64 I.b.2.1, .slice A1 n1 c1, .int .i64 2, .int .i64 s, .slice A3 l.length c3]) (.int .i64 (k : Int))).run Tryz.prog W' = .ok (.agg #[.int .i64 px, .int .i64 sx, .slice Ax lx.length cx]) W' := hidx0
   have HRD := Hd hrd
   have HPRE := Hd hpre
   have HCHK := Hd hchk
   have HFR := Hd hfr
   have HPL := preK_len HGJ.out k
   have hk3' : (k : Int) < 3 := by omega
   clear hidx0 hrd hpre hchk hfr
   go_wp2_with fail
   obtain ⟨wi, hwi⟩ : ∃ wi, wi = wr.alloc (.cells #[.int .i64 px, .int .i64 sx, .slice Ax lx.length cx] tStat) := ⟨_, rfl⟩
   rw [← hwi]
   have HTi := Hd (show Turned (fun j => j = wd.heap.size) W5 wi by rw [hwi]; exact HTr.out.trans (Turned.of_below (below_alloc _ _)))
   have HBi := Hd (show Below w.heap.size w wi by rw [hwi]; exact HBr.out.alloc HBr.out.size _)
   have HMi := Hd (show MapL Tryz.prog tKey mkKey mkRow wi wd.heap.size (entR (preK (In.Inn.put I 2 (2, s, l)) k)) by rw [hwi]; exact HMr.out.alloc _)
   clear hwi
   go_loopw [46] (fun i wq => ∃ j : Nat, i = .int .i64 j ∧ j ≤ lx.length ∧ Hid (MapL Tryz.prog tKey mkKey mkRow wq wd.heap.size (entR (preK (In.Inn.put I 2 (2, s, l)) k ++ lx.take j))) ∧ Hid (Turned (fun j => j = wd.heap.size) W5 wq) ∧ Hid (Below w.heap.size w wq)) (fun i _ => lx.length - (intOf i).toNat)
   case atStart => exact ⟨0, rfl, by omega, by rw [List.take_zero, List.append_nil]; exact HMi.out, HTi.out, HBi.out⟩
   case round =>
    obtain ⟨j, rfl, hj, HMq, HTq, HBq⟩ := hrel
    by_cases hjl : j < lx.length
    ·obtain ⟨y, hy⟩ : ∃ y, lx[j]? = some y := ⟨_, List.getElem?_eq_getElem hjl⟩
     obtain ⟨g, off, n', c', e, d0, d1, d2, d3, d4⟩ := (HRD.out _ HTq.out).cells (Below.refl _ _) hy
     injection e with e1 e2 e3
     subst e1; subst e2; subst e3
     have hck := HCHK.out y (List.mem_of_getElem? hy)
     have HFJ := Hd (HFR.out j y hy)
     have HTK := Hd (show lx.take (j + 1) = lx.take j ++ [y] by rw [List.take_add_one, hy]; rfl)
     obtain ⟨kl, hkl⟩ := key_chk hck
     have HL := Hd hkl
     have hjl' : (j : Int) < lx.length := by omega
     have hj0 : (0 : Int) ≤ j := by omega
     clear hy hkl hck
     obtain ⟨⟨o, d⟩, t, a, q⟩ := y
     simp only [] at d0 d1 d2 d3 d4
     have hszq := HTq.out.size
     go_upto_region 14 with (fail)
     obtain ⟨wm, hwm⟩ : ∃ wm, wm = wr.alloc (.cells #[.int .i64 o, .int .i64 d, .int .i64 t, .int .i64 a, .int .i64 q] tRow) := ⟨_, rfl⟩
     rw [← hwm]
     have HXm := Hd (show wm.heap[wr.heap.size]? = some (.cells #[.int .i64 o, .int .i64 d, .int .i64 t, .int .i64 a, .int .i64 q] tRow (0, 0)) by rw [hwm]; exact heap_new _ _)
     have HTm := Hd (show Turned (fun j => j = wd.heap.size) W5 wm by rw [hwm]; exact HTq.out.trans (Turned.of_below (below_alloc _ _)))
     have HBm := Hd (show Below w.heap.size w wm by rw [hwm]; exact HBq.out.alloc HBq.out.size _)
     have HMm := Hd (show MapL Tryz.prog tKey mkKey mkRow wm wd.heap.size (entR (preK (In.Inn.put I 2 (2, s, l)) k ++ lx.take j)) by rw [hwm]; exact HMq.out.alloc _)
     obtain ⟨d0, d1, d2, d3, d4⟩ := cell5 HXm.out
     obtain ⟨_, _, _, _, _, _, _, _, _, i9⟩ := cell10 (heap_turned HO5.out HTm.out (by omega))
     clear hwm HXm
     have hel : (entR (preK (In.Inn.put I 2 (2, s, l)) k ++ lx.take j)).length < maxLen := by unfold entR maxLen; simp; omega
     go_wp2_with (at_mapUpdate; go_loud (refine wpList_storeL _ rfl (.tmp 51) (.tmp 53) (.tmp 54) tMapR rfl tKey tRow lawKey mapR wd.heap.size (entR (preK (In.Inn.put I 2 (2, s, l)) k ++ lx.take j)) rfl HMm.out hel (o, d) ((o, d), t, a, q) rfl rfl HL.out (mkKey_inj _) ?_; intro wn hmn htn))
     have HM' := Hd (show MapL Tryz.prog tKey mkKey mkRow wn wd.heap.size (entR (preK (In.Inn.put I 2 (2, s, l)) k ++ lx.take (j + 1))) by rw [HTK.out, ← List.append_assoc]; exact hmn.perm (entR_store (y := ((o, d), t, a, q)) HFJ.out))
     have HT' := Hd (HTm.out.trans (Turned.of_grown htn.grown (fun j h => by injection h with h; exact h.symm)))
     have HB' := Hd (HBm.out.grown htn.grown HBm.out.size (fun k hk => by cases hk; omega))
     clear hmn htn
     go_roundw
     case rel => exact ⟨j + 1, by go_num, by omega, HM'.out, HT'.out, HB'.out⟩
     case measure => simp [intOf]; omega
    ·have hjl' : (lx.length : Int) ≤ j := by omega
     have HM' := Hd (show MapL Tryz.prog tKey mkKey mkRow wr wd.heap.size (entR (preK (In.Inn.put I 2 (2, s, l)) (k + 1))) by rw [HPRE.out]; have := HMq.out; rwa [List.take_of_length_le (by omega)] at this)
     clear hidx
     go_wp2_with fail
     go_roundw
     case rel => exact ⟨k + 1, by go_num, by omega, HM'.out, HTq.out, HBq.out⟩
     case measure => simp [intOf]; omega
  ·have hk3' : (3 : Int) ≤ k := by omega
   obtain rfl : k = 3 := by omega
   have HO' := Hd (heap_turned HO5.out HTr.out (by omega))
   have HZ' := Hd (heap_turned HZ5.out HTr.out (by omega))
   obtain ⟨i0', i1, i2, i3, i4, i5, i6, i7, i8, i9⟩ := cell10 HO'.out
   obtain ⟨m0, m1, m2, m3, m4, m5, m6, m7, m8, m9⟩ := cell10 HZ'.out
   obtain ⟨f0, f1, f2, f3, f4, f5, f6, f7, f8, f9⟩ := froz10 HZ'.out
   go_wp2_with fail
   have HBf := Hd (Below.turned HBr.out (turned_set10 wr (w.heap.size + 2) (.int .i64 I.a.1) (.int .i64 I.a.2.1) (.slice A0 n0 c0) (.int .i64 I.b.1) (.int .i64 I.b.2.1) (.slice A1 n1 c1) (.int .i64 2) (.int .i64 s) (.slice A3 l.length c3) (.map (some wd.heap.size))) (fun i h => by omega) HBr.out.size)
   have HR' := HRX.out
   refine bodyPost_ret (v := .tuple #[.agg #[.int .i64 I.a.1, .int .i64 I.a.2.1, .slice A0 n0 c0, .int .i64 I.b.1, .int .i64 I.b.2.1, .slice A1 n1 c1, .int .i64 2, .int .i64 s, .slice A3 l.length c3, .map (some wd.heap.size)], .int .i64 0]) (by simp [results, Tryz.results103, go_sem, m0, m1, m2, m3, m4, m5, m6, m7, m8, m9]) rfl ⟨_, rfl, ?_, ?_, HBf.out⟩
   have htz : Turned (fun j => j = w.heap.size + 2) wr _ := turned_set10 wr (w.heap.size + 2) (.int .i64 I.a.1) (.int .i64 I.a.2.1) (.slice A0 n0 c0) (.int .i64 I.b.1) (.int .i64 I.b.2.1) (.slice A1 n1 c1) (.int .i64 2) (.int .i64 s) (.slice A3 l.length c3) (.map (some wd.heap.size))
   refine ⟨A0, n0, c0, A1, n1, c1, A3, l.length, c3, some wd.heap.size, rfl, H0.out.keep HBf.out, H1.out.keep HBf.out, ?_, .inr ⟨_, rfl, ?_⟩⟩
   ·exact (HR5.out.turned HTr.out (fun ad n c' e hl => by have := HQ3.out ad n c' e hl; omega)).turned htz (fun ad n c' e hl => by have := HQ3.out ad n c' e hl; omega)
   ·exact HMr.out.turned htz (by omega)
   ·intro b hb hav
    obtain ⟨a0, a1, a2, am⟩ := Av.get hav
    exact Av.of a0 a1 (fun ad m c e hl => by have := HQ3.out ad m c e hl; omega) (by simp; omega)
theorem accept_ok (w : World) (v : Value) (I : In.Inn) (x : In.Stm) (u : Value) (h : InP w v I) (hu : Rd w u x.2.2) (hT : PT w) (hg : In.Fine I) (he : In.accE I x = 0) :
  Calls Tryz.prog 103 #[v, .agg #[.int .i64 x.1, .int .i64 x.2.1, u]] w fun e w' => ∃ v', e = .returned (.tuple #[v', .int .i64 0]) ∧ InP w' v' (In.accI I x) ∧ (∀ b, b < w.heap.size → Av b v I → Av b v' (In.accI I x)) ∧ Below w.heap.size w w' := by
 obtain ⟨p, s, l⟩ := x
 have e : In.accI I (p, s, l) = I.put p (p, s, l) := by unfold In.accI; rw [if_pos he]
 rw [e]
 unfold In.accE at he
 cases hv : validB p s l with
 | false => simp [hv] at he
 | true =>
  have hs : ¬ s ≤ (I.at p).2.1 := fun h => by simp [hv, h] at he
  rcases In.valid_party hv with rfl | rfl | rfl
  ·exact accept_ok0 w v I s u l h hu hT hg hv (by have : ¬ s ≤ I.a.2.1 := hs; omega)
  ·exact accept_ok1 w v I s u l h hu hT hg hv (by have : ¬ s ≤ I.b.2.1 := hs; omega)
  ·exact accept_ok2 w v I s u l h hu hT hg hv (by have : ¬ s ≤ I.c.2.1 := hs; omega)
theorem accept_no (w : World) (v : Value) (I : In.Inn) (x : In.Stm) (u : Value) (h : InP w v I) (hu : Rd w u x.2.2) (hT : PT w) (he : In.accE I x ≠ 0) :
  Calls Tryz.prog 103 #[v, .agg #[.int .i64 x.1, .int .i64 x.2.1, u]] w fun e w' => e = .returned (.tuple #[vIn0, .int .i64 (In.accE I x)]) ∧ Below w.heap.size w w' := by
 obtain ⟨p, s, l⟩ := x
 unfold In.accE at he ⊢
 cases hv : validB p s l with
 | false => simp only [if_true]; exact accept_arg w v I p s u l h hu hT hv
 | true =>
  by_cases hs : s ≤ (I.at p).2.1
  ·simp only [Bool.true_eq_false, if_false, hs, if_true]; exact accept_stale w v I p s u l h hu hT hv hs
  ·simp [hv, hs] at he
end Go.Proofs.YtlkncmpengpbiaaGreatDoor
/- intake.Newest, Row: what they tell. -/
namespace Go.Proofs.YtlkncmpengpbiaaGreatDoor
open Go.RowKit Go.Maps Key Rw
set_option linter.unusedSimpArgs false
set_option linter.unusedVariables false
set_option maxRecDepth 100000
set_option maxHeartbeats 4000000

/-- Memory that was not there. -/
def Far (w : World) (v : Value) (len : Nat) : Prop := ∀ ad n c, v = .slice (some ad) n c → 0 < len → w.heap.size ≤ ad.block
theorem rd_copy {w w' : World} {v' : Value} {l : List R5} (h : w'.ownsRow w.heap.size tRow 5 v' (0 + l.length) ([] ++ l.flatMap encR)) : ∃ A c, v' = .slice A l.length c ∧ Rd w' (.slice A l.length c) l := by
 rw [Nat.zero_add, List.nil_append] at h
 have hr := rd_own h
 obtain ⟨A, c, rfl, _⟩ := hr.shape
 exact ⟨A, c, rfl, hr⟩
theorem newest0 (w : World) (v : Value) (I : In.Inn) (h : InP w v I) (hg : In.Fine I) :
  Calls Tryz.prog 124 #[v, .int .i64 0] w fun e w' => ∃ A c, e = .returned (.agg #[.int .i64 I.a.1, .int .i64 I.a.2.1, .slice A I.a.2.2.length c]) ∧ Rd w' (.slice A I.a.2.2.length c) I.a.2.2 ∧ Far w (.slice A I.a.2.2.length c) I.a.2.2.length ∧ Below w.heap.size w w' := by
 obtain ⟨A0, n0, c0, A1, n1, c1, A2, n2, c2, m, rfl, h0, h1, h2, h3⟩ := h
 obtain ⟨i0, hi, hz0, hz1, hz2⟩ := info_parts row_info
 have hll := In.ok_len hg.a
 obtain ⟨A, c, e, hlc, hcm⟩ := h0.shape
 injection e with e1 e2 e3; subst e1; subst e2; subst e3
 have HR := Hd h0
 obtain ⟨wa, hA⟩ : ∃ wa, wa = ((w.alloc (.cells #[.int .i64 I.a.1, .int .i64 I.a.2.1, .slice A0 I.a.2.2.length c0, .int .i64 I.b.1, .int .i64 I.b.2.1, .slice A1 n1 c1, .int .i64 I.c.1, .int .i64 I.c.2.1, .slice A2 n2 c2, .map m] tIn)).alloc (.cells #[.int .i64 0, .int .i64 0, .slice none 0 0] tStat)).alloc (.cells #[.int .i64 I.a.1, .int .i64 I.a.2.1, .slice A0 I.a.2.2.length c0] tStat) := ⟨_, rfl⟩
 obtain ⟨hB, hI, hS, hZ⟩ := three_new w _ _ _ tIn tStat tStat hA
 have HB := Hd hB; have HI := Hd hI; have HS := Hd hS; have HZ := Hd hZ
 have HA := Hd hA
 clear hA hB hI hS hZ hg h0 h1 h2 h3
 go_enter Tryz.func124, Tryz.ntmps124
 go_upto_region 4 with (fail)
 rw [← HA.out]
 obtain ⟨k0, k1, k2⟩ := cell3c HZ.out
 obtain ⟨m0, m1, m2⟩ := cell3c HS.out
 go_upto_region 5 with (at_builtin; go_loud (refine wpList_append_any _ rfl (.const (.slice none 0 0)) (.tmp 18) tRows rfl wa.heap.size tRow i0 (mkRow ((0, 0), 0, 0, 0)) 5 40 Tryz.underlying32 hi hz0 hz1 hz2 rfl (by decide) (.slice none 0 0) 0 [] rfl (World.ownsRow_nil _ _ _ _) I.a.2.2.length (I.a.2.2.flatMap encR) (Rd.src (Rd.keep HR.out HB.out)) (by unfold maxLen; omega) (by omega) (Nat.le_refl _) ?_; intro v2 W3 ho3 hg3 hat3; rw [Nat.zero_add, List.nil_append] at ho3; obtain ⟨A3, c3, e3, hp3⟩ := own_slice ho3; subst e3; have hB3 := below_of_grown hg3; have HB3 := Hd (bch HB.out hB3 HB.out.size); have HS3 := Hd (heap_keep HS.out hB3); have HZ3 := Hd (heap_keep HZ.out hB3); have HR3 := Hd (rd_own ho3); have HP3 := Hd (show ∀ ad n c', Value.slice A3 I.a.2.2.length c3 = .slice (some ad) n c' → 0 < I.a.2.2.length → wa.heap.size ≤ ad.block from fun ad n c' e hl => by obtain ⟨g, e', h1, _⟩ := hp3 hl; rw [e'] at e; injection e with e; injection e with e; subst e; exact h1); clear ho3 hg3 hat3 hp3 hB3 k0 k1 k2 m0 m1 m2; obtain ⟨k0, k1, k2⟩ := cell3c HZ3.out; obtain ⟨f0, f1, f2⟩ := froz3 HZ3.out))
 obtain ⟨W4, hW4⟩ : ∃ W4, W4 = W3.setCell ⟨w.heap.size + 2, 2, none⟩ (.slice A3 I.a.2.2.length c3) := ⟨_, rfl⟩
 rw [show W3.setCell ⟨w.heap.size + 1 + 1, 2, none⟩ (.slice A3 I.a.2.2.length c3) = W4 from hW4.symm]
 have hws : w.heap.size + 2 < wa.heap.size := heap_lt HZ.out
 have ht4 : Turned (fun j => j = w.heap.size + 2) W3 W4 := by rw [hW4]; exact turned_set _ _ _ _
 have hZ4 : W4.heap[w.heap.size + 2]? = some (.cells #[.int .i64 I.a.1, .int .i64 I.a.2.1, .slice A3 I.a.2.2.length c3] tStat (0, 0)) := by
  rw [hW4]; have := HZ3.out; simp [World.setCell, Array.getElem?_modify, this]
 have HB4 := Hd (Below.turned HB3.out ht4 (fun i h => by omega) HB3.out.size)
 have HS4 := Hd (heap_turned HS3.out ht4 (by omega))
 have HR4 := Hd (HR3.out.turned ht4 (fun ad n c' e hl => by have := HP3.out ad n c' e hl; omega))
 clear hW4 ht4 HB3 HS3 HR3 HZ3 k0 k1 k2 f0 f1 f2
 obtain ⟨k0, k1, k2⟩ := cell3c hZ4
 obtain ⟨m0, m1, m2⟩ := cell3c HS4.out
 obtain ⟨f0, f1, f2⟩ := froz3 HS4.out
 clear hZ4
 go_wp2_with fail
 have HBf := Hd (Below.turned HB4.out (turned_set3 W4 (w.heap.size + 1) (.int .i64 I.a.1) (.int .i64 I.a.2.1) (.slice A3 I.a.2.2.length c3)) (fun i h => by omega) HB4.out.size)
 refine bodyPost_ret (v := .agg #[.int .i64 I.a.1, .int .i64 I.a.2.1, .slice A3 I.a.2.2.length c3]) (by simp [results, Tryz.results124, go_sem, m0, m1, m2]) rfl ⟨A3, c3, rfl, ?_, fun ad n c' e hl => by have := HP3.out ad n c' e hl; omega, HBf.out⟩
 exact HR4.out.turned (turned_set3 W4 (w.heap.size + 1) _ _ _) (fun ad n c' e hl => by have := HP3.out ad n c' e hl; omega)
theorem newest1 (w : World) (v : Value) (I : In.Inn) (h : InP w v I) (hg : In.Fine I) :
  Calls Tryz.prog 124 #[v, .int .i64 1] w fun e w' => ∃ A c, e = .returned (.agg #[.int .i64 I.b.1, .int .i64 I.b.2.1, .slice A I.b.2.2.length c]) ∧ Rd w' (.slice A I.b.2.2.length c) I.b.2.2 ∧ Far w (.slice A I.b.2.2.length c) I.b.2.2.length ∧ Below w.heap.size w w' := by
 obtain ⟨A0, n0, c0, A1, n1, c1, A2, n2, c2, m, rfl, h0, h1, h2, h3⟩ := h
 obtain ⟨i0, hi, hz0, hz1, hz2⟩ := info_parts row_info
 have hll := In.ok_len hg.b
 obtain ⟨A, c, e, hlc, hcm⟩ := h1.shape
 injection e with e1 e2 e3; subst e1; subst e2; subst e3
 have HR := Hd h1
 obtain ⟨wa, hA⟩ : ∃ wa, wa = ((w.alloc (.cells #[.int .i64 I.a.1, .int .i64 I.a.2.1, .slice A0 n0 c0, .int .i64 I.b.1, .int .i64 I.b.2.1, .slice A1 I.b.2.2.length c1, .int .i64 I.c.1, .int .i64 I.c.2.1, .slice A2 n2 c2, .map m] tIn)).alloc (.cells #[.int .i64 0, .int .i64 0, .slice none 0 0] tStat)).alloc (.cells #[.int .i64 I.b.1, .int .i64 I.b.2.1, .slice A1 I.b.2.2.length c1] tStat) := ⟨_, rfl⟩
 obtain ⟨hB, hI, hS, hZ⟩ := three_new w _ _ _ tIn tStat tStat hA
 have HB := Hd hB; have HI := Hd hI; have HS := Hd hS; have HZ := Hd hZ
 have HA := Hd hA
 clear hA hB hI hS hZ hg h0 h1 h2 h3
 go_enter Tryz.func124, Tryz.ntmps124
 go_upto_region 4 with (fail)
 rw [← HA.out]
 obtain ⟨k0, k1, k2⟩ := cell3c HZ.out
 obtain ⟨m0, m1, m2⟩ := cell3c HS.out
 go_upto_region 5 with (at_builtin; go_loud (refine wpList_append_any _ rfl (.const (.slice none 0 0)) (.tmp 18) tRows rfl wa.heap.size tRow i0 (mkRow ((0, 0), 0, 0, 0)) 5 40 Tryz.underlying32 hi hz0 hz1 hz2 rfl (by decide) (.slice none 0 0) 0 [] rfl (World.ownsRow_nil _ _ _ _) I.b.2.2.length (I.b.2.2.flatMap encR) (Rd.src (Rd.keep HR.out HB.out)) (by unfold maxLen; omega) (by omega) (Nat.le_refl _) ?_; intro v2 W3 ho3 hg3 hat3; rw [Nat.zero_add, List.nil_append] at ho3; obtain ⟨A3, c3, e3, hp3⟩ := own_slice ho3; subst e3; have hB3 := below_of_grown hg3; have HB3 := Hd (bch HB.out hB3 HB.out.size); have HS3 := Hd (heap_keep HS.out hB3); have HZ3 := Hd (heap_keep HZ.out hB3); have HR3 := Hd (rd_own ho3); have HP3 := Hd (show ∀ ad n c', Value.slice A3 I.b.2.2.length c3 = .slice (some ad) n c' → 0 < I.b.2.2.length → wa.heap.size ≤ ad.block from fun ad n c' e hl => by obtain ⟨g, e', h1, _⟩ := hp3 hl; rw [e'] at e; injection e with e; injection e with e; subst e; exact h1); clear ho3 hg3 hat3 hp3 hB3 k0 k1 k2 m0 m1 m2; obtain ⟨k0, k1, k2⟩ := cell3c HZ3.out; obtain ⟨f0, f1, f2⟩ := froz3 HZ3.out))
 obtain ⟨W4, hW4⟩ : ∃ W4, W4 = W3.setCell ⟨w.heap.size + 2, 2, none⟩ (.slice A3 I.b.2.2.length c3) := ⟨_, rfl⟩
 rw [show W3.setCell ⟨w.heap.size + 1 + 1, 2, none⟩ (.slice A3 I.b.2.2.length c3) = W4 from hW4.symm]
 have hws : w.heap.size + 2 < wa.heap.size := heap_lt HZ.out
 have ht4 : Turned (fun j => j = w.heap.size + 2) W3 W4 := by rw [hW4]; exact turned_set _ _ _ _
 have hZ4 : W4.heap[w.heap.size + 2]? = some (.cells #[.int .i64 I.b.1, .int .i64 I.b.2.1, .slice A3 I.b.2.2.length c3] tStat (0, 0)) := by
  rw [hW4]; have := HZ3.out; simp [World.setCell, Array.getElem?_modify, this]
 have HB4 := Hd (Below.turned HB3.out ht4 (fun i h => by omega) HB3.out.size)
 have HS4 := Hd (heap_turned HS3.out ht4 (by omega))
 have HR4 := Hd (HR3.out.turned ht4 (fun ad n c' e hl => by have := HP3.out ad n c' e hl; omega))
 clear hW4 ht4 HB3 HS3 HR3 HZ3 k0 k1 k2 f0 f1 f2
 obtain ⟨k0, k1, k2⟩ := cell3c hZ4
 obtain ⟨m0, m1, m2⟩ := cell3c HS4.out
 obtain ⟨f0, f1, f2⟩ := froz3 HS4.out
 clear hZ4
 go_wp2_with fail
 have HBf := Hd (Below.turned HB4.out (turned_set3 W4 (w.heap.size + 1) (.int .i64 I.b.1) (.int .i64 I.b.2.1) (.slice A3 I.b.2.2.length c3)) (fun i h => by omega) HB4.out.size)
 refine bodyPost_ret (v := .agg #[.int .i64 I.b.1, .int .i64 I.b.2.1, .slice A3 I.b.2.2.length c3]) (by simp [results, Tryz.results124, go_sem, m0, m1, m2]) rfl ⟨A3, c3, rfl, ?_, fun ad n c' e hl => by have := HP3.out ad n c' e hl; omega, HBf.out⟩
 exact HR4.out.turned (turned_set3 W4 (w.heap.size + 1) _ _ _) (fun ad n c' e hl => by have := HP3.out ad n c' e hl; omega)
theorem newest2 (w : World) (v : Value) (I : In.Inn) (h : InP w v I) (hg : In.Fine I) :
  Calls Tryz.prog 124 #[v, .int .i64 2] w fun e w' => ∃ A c, e = .returned (.agg #[.int .i64 I.c.1, .int .i64 I.c.2.1, .slice A I.c.2.2.length c]) ∧ Rd w' (.slice A I.c.2.2.length c) I.c.2.2 ∧ Far w (.slice A I.c.2.2.length c) I.c.2.2.length ∧ Below w.heap.size w w' := by
 obtain ⟨A0, n0, c0, A1, n1, c1, A2, n2, c2, m, rfl, h0, h1, h2, h3⟩ := h
 obtain ⟨i0, hi, hz0, hz1, hz2⟩ := info_parts row_info
 have hll := In.ok_len hg.c
 obtain ⟨A, c, e, hlc, hcm⟩ := h2.shape
 injection e with e1 e2 e3; subst e1; subst e2; subst e3
 have HR := Hd h2
 obtain ⟨wa, hA⟩ : ∃ wa, wa = ((w.alloc (.cells #[.int .i64 I.a.1, .int .i64 I.a.2.1, .slice A0 n0 c0, .int .i64 I.b.1, .int .i64 I.b.2.1, .slice A1 n1 c1, .int .i64 I.c.1, .int .i64 I.c.2.1, .slice A2 I.c.2.2.length c2, .map m] tIn)).alloc (.cells #[.int .i64 0, .int .i64 0, .slice none 0 0] tStat)).alloc (.cells #[.int .i64 I.c.1, .int .i64 I.c.2.1, .slice A2 I.c.2.2.length c2] tStat) := ⟨_, rfl⟩
 obtain ⟨hB, hI, hS, hZ⟩ := three_new w _ _ _ tIn tStat tStat hA
 have HB := Hd hB; have HI := Hd hI; have HS := Hd hS; have HZ := Hd hZ
 have HA := Hd hA
 clear hA hB hI hS hZ hg h0 h1 h2 h3
 go_enter Tryz.func124, Tryz.ntmps124
 go_upto_region 4 with (fail)
 rw [← HA.out]
 obtain ⟨k0, k1, k2⟩ := cell3c HZ.out
 obtain ⟨m0, m1, m2⟩ := cell3c HS.out
 go_upto_region 5 with (at_builtin; go_loud (refine wpList_append_any _ rfl (.const (.slice none 0 0)) (.tmp 18) tRows rfl wa.heap.size tRow i0 (mkRow ((0, 0), 0, 0, 0)) 5 40 Tryz.underlying32 hi hz0 hz1 hz2 rfl (by decide) (.slice none 0 0) 0 [] rfl (World.ownsRow_nil _ _ _ _) I.c.2.2.length (I.c.2.2.flatMap encR) (Rd.src (Rd.keep HR.out HB.out)) (by unfold maxLen; omega) (by omega) (Nat.le_refl _) ?_; intro v2 W3 ho3 hg3 hat3; rw [Nat.zero_add, List.nil_append] at ho3; obtain ⟨A3, c3, e3, hp3⟩ := own_slice ho3; subst e3; have hB3 := below_of_grown hg3; have HB3 := Hd (bch HB.out hB3 HB.out.size); have HS3 := Hd (heap_keep HS.out hB3); have HZ3 := Hd (heap_keep HZ.out hB3); have HR3 := Hd (rd_own ho3); have HP3 := Hd (show ∀ ad n c', Value.slice A3 I.c.2.2.length c3 = .slice (some ad) n c' → 0 < I.c.2.2.length → wa.heap.size ≤ ad.block from fun ad n c' e hl => by obtain ⟨g, e', h1, _⟩ := hp3 hl; rw [e'] at e; injection e with e; injection e with e; subst e; exact h1); clear ho3 hg3 hat3 hp3 hB3 k0 k1 k2 m0 m1 m2; obtain ⟨k0, k1, k2⟩ := cell3c HZ3.out; obtain ⟨f0, f1, f2⟩ := froz3 HZ3.out))
 obtain ⟨W4, hW4⟩ : ∃ W4, W4 = W3.setCell ⟨w.heap.size + 2, 2, none⟩ (.slice A3 I.c.2.2.length c3) := ⟨_, rfl⟩
 rw [show W3.setCell ⟨w.heap.size + 1 + 1, 2, none⟩ (.slice A3 I.c.2.2.length c3) = W4 from hW4.symm]
 have hws : w.heap.size + 2 < wa.heap.size := heap_lt HZ.out
 have ht4 : Turned (fun j => j = w.heap.size + 2) W3 W4 := by rw [hW4]; exact turned_set _ _ _ _
 have hZ4 : W4.heap[w.heap.size + 2]? = some (.cells #[.int .i64 I.c.1, .int .i64 I.c.2.1, .slice A3 I.c.2.2.length c3] tStat (0, 0)) := by
  rw [hW4]; have := HZ3.out; simp [World.setCell, Array.getElem?_modify, this]
 have HB4 := Hd (Below.turned HB3.out ht4 (fun i h => by omega) HB3.out.size)
 have HS4 := Hd (heap_turned HS3.out ht4 (by omega))
 have HR4 := Hd (HR3.out.turned ht4 (fun ad n c' e hl => by have := HP3.out ad n c' e hl; omega))
 clear hW4 ht4 HB3 HS3 HR3 HZ3 k0 k1 k2 f0 f1 f2
 obtain ⟨k0, k1, k2⟩ := cell3c hZ4
 obtain ⟨m0, m1, m2⟩ := cell3c HS4.out
 obtain ⟨f0, f1, f2⟩ := froz3 HS4.out
 clear hZ4
 go_wp2_with fail
 have HBf := Hd (Below.turned HB4.out (turned_set3 W4 (w.heap.size + 1) (.int .i64 I.c.1) (.int .i64 I.c.2.1) (.slice A3 I.c.2.2.length c3)) (fun i h => by omega) HB4.out.size)
 refine bodyPost_ret (v := .agg #[.int .i64 I.c.1, .int .i64 I.c.2.1, .slice A3 I.c.2.2.length c3]) (by simp [results, Tryz.results124, go_sem, m0, m1, m2]) rfl ⟨A3, c3, rfl, ?_, fun ad n c' e hl => by have := HP3.out ad n c' e hl; omega, HBf.out⟩
 exact HR4.out.turned (turned_set3 W4 (w.heap.size + 1) _ _ _) (fun ad n c' e hl => by have := HP3.out ad n c' e hl; omega)
theorem newest_any (w : World) (v : Value) (I : In.Inn) (p : Int) (hp : 0 ≤ p) (hp2 : p ≤ 2) (h : InP w v I) (hg : In.Fine I) :
  Calls Tryz.prog 124 #[v, .int .i64 p] w fun e w' => ∃ A c, e = .returned (.agg #[.int .i64 (I.at p).1, .int .i64 (I.at p).2.1, .slice A (I.at p).2.2.length c]) ∧ Rd w' (.slice A (I.at p).2.2.length c) (I.at p).2.2 ∧ Far w (.slice A (I.at p).2.2.length c) (I.at p).2.2.length ∧ Below w.heap.size w w' := by
 rcases (show p = 0 ∨ p = 1 ∨ p = 2 by omega) with rfl | rfl | rfl
 ·exact newest0 w v I h hg
 ·exact newest1 w v I h hg
 ·exact newest2 w v I h hg

/-- What a look-up tells: the row, or an empty one. -/
def rowD (o : Option R5) : R5 := o.getD ((0, 0), 0, 0, 0)
theorem row_in {I : In.Inn} (hg : In.Fine I) {k : Int × Int} {x : R5} (h : (k, x) ∈ entR (In.rowsAll I)) : In.rowOf I k = some x := by
 obtain ⟨y, hy, e⟩ := List.mem_map.1 h
 injection e with e1 e2
 subst e1; subst e2
 exact In.find_of hg.nodup hy
theorem row_out {I : In.Inn} {k : Int × Int} (h : ∀ q ∈ entR (In.rowsAll I), q.1 ≠ k) : In.rowOf I k = none := by
 unfold In.rowOf In.findR
 rw [List.find?_eq_none]
 intro x hx
 simpa using h (x.1, x) (List.mem_map.2 ⟨x, hx, rfl⟩)
theorem row_any (w : World) (v : Value) (I : In.Inn) (o d : Int) (h : InP w v I) (hg : In.Fine I) (hk : (-9223372036854775808 ≤ o ∧ o ≤ 9223372036854775807) ∧ (-9223372036854775808 ≤ d ∧ d ≤ 9223372036854775807)) :
  Calls Tryz.prog 153 #[v, .agg #[.int .i64 o, .int .i64 d]] w fun e w' => e = .returned (.tuple #[.agg #[.int .i64 (rowD (In.rowOf I (o, d))).1.1, .int .i64 (rowD (In.rowOf I (o, d))).1.2, .int .i64 (rowD (In.rowOf I (o, d))).2.1, .int .i64 (rowD (In.rowOf I (o, d))).2.2.1, .int .i64 (rowD (In.rowOf I (o, d))).2.2.2], .bool (In.rowOf I (o, d)).isSome]) ∧ Below w.heap.size w w' := by
 obtain ⟨A0, n0, c0, A1, n1, c1, A2, n2, c2, m, rfl, h0, h1, h2, h3⟩ := h
 obtain ⟨kl, hkl⟩ := key_reads (o, d) hk
 have HL := Hd hkl
 clear h0 h1 h2 hk hkl
 obtain ⟨wa, hA⟩ : ∃ wa, wa = ((w.alloc (.cells #[.int .i64 I.a.1, .int .i64 I.a.2.1, .slice A0 n0 c0, .int .i64 I.b.1, .int .i64 I.b.2.1, .slice A1 n1 c1, .int .i64 I.c.1, .int .i64 I.c.2.1, .slice A2 n2 c2, .map m] tIn)).alloc (.cells #[.int .i64 o, .int .i64 d] tKey)).alloc (.cells #[.int .i64 0, .int .i64 0, .int .i64 0, .int .i64 0, .int .i64 0] tRow) := ⟨_, rfl⟩
 obtain ⟨hB, hI, hS, hZ⟩ := three_new w _ _ _ tIn tKey tRow hA
 have HB := Hd hB; have HI := Hd hI; have HS := Hd hS; have HZ := Hd hZ
 have HA := Hd hA
 have HM := Hd (h3.below hB)
 clear hA hB hI hS hZ h3
 rcases HM.out with ⟨rfl, he⟩ | ⟨b, rfl, hm⟩
 ·have hr : In.rowOf I (o, d) = none := row_out (fun q hq => by rw [he] at hq; cases hq)
  have HE := Hd hr
  have hlk := Maps.look_nil (P := Tryz.prog) (w := wa) (t := tMapR) true lawKey mapR (zeroRow wa) HL.out
  simp only [mkKey, mkRow] at hlk
  clear hr he
  go_enter Tryz.func153, Tryz.ntmps153
  go_upto_region 1 with (fail)
  rw [← HA.out]
  obtain ⟨_, _, _, _, _, _, _, _, _, i9⟩ := cell10 HI.out
  obtain ⟨k0, k1, _, _⟩ := cell2 HS.out
  go_upto_region 2 with (fail)
  obtain ⟨wb, hwb⟩ : ∃ wb, wb = wa.alloc (.cells #[.int .i64 0, .int .i64 0, .int .i64 0, .int .i64 0, .int .i64 0] tRow) := ⟨_, rfl⟩
  rw [← hwb]
  have HBb := Hd (show Below w.heap.size w wb by rw [hwb]; exact HB.out.alloc HB.out.size _)
  have HXb := Hd (show wb.heap[wa.heap.size]? = some (.cells #[.int .i64 0, .int .i64 0, .int .i64 0, .int .i64 0, .int .i64 0] tRow (0, 0)) by rw [hwb]; exact heap_new _ _)
  have HZb := Hd (heap_keep HZ.out (show Below wa.heap.size wa wb by rw [hwb]; exact below_alloc _ _))
  clear hwb i9 k0 k1
  obtain ⟨m0, m1, m2, m3, m4⟩ := cell5 HZb.out
  obtain ⟨f0, f1, f2, f3, f4⟩ := froz5 HZb.out
  obtain ⟨x0, x1, x2, x3, x4⟩ := cell5 HXb.out
  go_wp2_with fail
  refine bodyPost_ret (v := .tuple #[.agg #[.int .i64 0, .int .i64 0, .int .i64 0, .int .i64 0, .int .i64 0], .bool false]) (by simp [results, Tryz.results153, go_sem, m0, m1, m2, m3, m4]) rfl ⟨by rw [HE.out]; rfl, ?_⟩
  exact Below.turned HBb.out (turned_set5 wb (w.heap.size + 2) _ _ _ _ _) (fun i h => by omega) HBb.out.size
 ·have HMm := Hd hm
  clear hm
  go_enter Tryz.func153, Tryz.ntmps153
  go_upto_region 1 with (fail)
  rw [← HA.out]
  obtain ⟨_, _, _, _, _, _, _, _, _, i9⟩ := cell10 HI.out
  obtain ⟨k0, k1, _, _⟩ := cell2 HS.out
  go_upto_region 2 with (at_lookup; go_loud (refine wpList_lookL _ true rfl (.tmp 10) (.tmp 11) tMapR rfl tKey tRow lawKey mapR ((0, 0), 0, 0, 0) (zeroRow _) b (entR (In.rowsAll I)) rfl HMm.out (o, d) rfl HL.out (mkKey_inj _) (fun x hx => ?_) (fun hn => ?_); rotate_left; (simp only [mkRow]); rotate_left; (obtain ⟨⟨xo, xd⟩, xc, xa, xq⟩ := x; simp only [mkRow])))
  ·have HE := Hd (row_in hg hx)
   clear hx
   obtain ⟨wb, hwb⟩ : ∃ wb, wb = wa.alloc (.cells #[.int .i64 xo, .int .i64 xd, .int .i64 xc, .int .i64 xa, .int .i64 xq] tRow) := ⟨_, rfl⟩
   rw [← hwb]
   have HBb := Hd (show Below w.heap.size w wb by rw [hwb]; exact HB.out.alloc HB.out.size _)
   have HXb := Hd (show wb.heap[wa.heap.size]? = some (.cells #[.int .i64 xo, .int .i64 xd, .int .i64 xc, .int .i64 xa, .int .i64 xq] tRow (0, 0)) by rw [hwb]; exact heap_new _ _)
   have HZb := Hd (heap_keep HZ.out (show Below wa.heap.size wa wb by rw [hwb]; exact below_alloc _ _))
   clear hwb i9 k0 k1
   obtain ⟨m0, m1, m2, m3, m4⟩ := cell5 HZb.out
   obtain ⟨f0, f1, f2, f3, f4⟩ := froz5 HZb.out
   obtain ⟨x0, x1, x2, x3, x4⟩ := cell5 HXb.out
   go_wp2_with fail
   refine bodyPost_ret (v := .tuple #[.agg #[.int .i64 xo, .int .i64 xd, .int .i64 xc, .int .i64 xa, .int .i64 xq], .bool true]) (by simp [results, Tryz.results153, go_sem, m0, m1, m2, m3, m4]) rfl ⟨by rw [HE.out]; rfl, ?_⟩
   exact Below.turned HBb.out (turned_set5 wb (w.heap.size + 2) _ _ _ _ _) (fun i h => by omega) HBb.out.size
  ·have HE := Hd (row_out hn)
   clear hn
   obtain ⟨wb, hwb⟩ : ∃ wb, wb = wa.alloc (.cells #[.int .i64 0, .int .i64 0, .int .i64 0, .int .i64 0, .int .i64 0] tRow) := ⟨_, rfl⟩
   rw [← hwb]
   have HBb := Hd (show Below w.heap.size w wb by rw [hwb]; exact HB.out.alloc HB.out.size _)
   have HXb := Hd (show wb.heap[wa.heap.size]? = some (.cells #[.int .i64 0, .int .i64 0, .int .i64 0, .int .i64 0, .int .i64 0] tRow (0, 0)) by rw [hwb]; exact heap_new _ _)
   have HZb := Hd (heap_keep HZ.out (show Below wa.heap.size wa wb by rw [hwb]; exact below_alloc _ _))
   clear hwb i9 k0 k1
   obtain ⟨m0, m1, m2, m3, m4⟩ := cell5 HZb.out
   obtain ⟨f0, f1, f2, f3, f4⟩ := froz5 HZb.out
   obtain ⟨x0, x1, x2, x3, x4⟩ := cell5 HXb.out
   go_wp2_with fail
   refine bodyPost_ret (v := .tuple #[.agg #[.int .i64 0, .int .i64 0, .int .i64 0, .int .i64 0, .int .i64 0], .bool false]) (by simp [results, Tryz.results153, go_sem, m0, m1, m2, m3, m4]) rfl ⟨by rw [HE.out]; rfl, ?_⟩
   exact Below.turned HBb.out (turned_set5 wb (w.heap.size + 2) _ _ _ _ _) (fun i h => by omega) HBb.out.size
end Go.Proofs.YtlkncmpengpbiaaGreatDoor

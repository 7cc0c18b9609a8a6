/- match.Find: the differences of the document's order. -/
import Derived.Test.YtiagdpfmmjhgcaaGreatDoorMatchFind
import Derived.StillTailTactics
import Derived.Test.YtiagdpfmmjhgcaaGreatDoorShort
namespace Go.Proofs.YtiagdpfmmjhgcaaGreatDoor
open Go.RowKit Go.Maps Key Rw Sa Ma
set_option linter.unusedSimpArgs false
set_option linter.unusedVariables false
set_option maxRecDepth 100000
set_option maxHeartbeats 8000000

/-- What has been seen: the numbers of the first k sagas. -/
def SeenE (l : List Sg) (k : Nat) (E : List (Int × Int)) : Prop := (∀ p ∈ E, p.2 = 1) ∧ E.length ≤ k ∧ ∀ i, (∃ p ∈ E, p.1 = i) ↔ knownTo l k i = true
theorem first_known (l : List Sg) (k : Nat) (i : Int) : firstB l k i = !knownTo l k i := by
 unfold firstB knownTo
 rw [List.not_any_eq_all_not]
 congr 1
 funext t
 simp
theorem SeenE.more {l : List Sg} {k : Nat} {E : List (Int × Int)} (h : SeenE l k E) {s : Sg} (hs : l[k]? = some s) : SeenE l (k + 1) ((s.id, 1) :: without E s.id) := by
 obtain ⟨h1, h2, h3⟩ := h
 refine ⟨fun p hp => ?_, ?_, fun i => ?_⟩
 ·rcases List.mem_cons.1 hp with rfl | hp
  ·rfl
  ·exact h1 p (mem_without.1 hp).1
 ·have := without_len E s.id; simp; omega
 ·rw [known_succ hs, Bool.or_eq_true, ← h3]
  constructor
  ·rintro ⟨p, hp, rfl⟩
   rcases List.mem_cons.1 hp with rfl | hp
   ·exact .inr (by simp)
   ·exact .inl ⟨p, (mem_without.1 hp).1, rfl⟩
  ·rintro (⟨p, hp, rfl⟩ | h)
   ·by_cases e : p.1 = s.id
    ·exact ⟨(s.id, 1), List.mem_cons_self .., e.symm⟩
    ·exact ⟨p, List.mem_cons_of_mem _ (mem_without.2 ⟨hp, e⟩), rfl⟩
   ·exact ⟨(s.id, 1), List.mem_cons_self .., by simpa using h⟩
theorem SeenE.same {l : List Sg} {k : Nat} {E : List (Int × Int)} (h : SeenE l k E) {s : Sg} (hs : l[k]? = some s) {v : Int} (hv : (s.id, v) ∈ E) : SeenE l (k + 1) E ∧ v = 1 ∧ firstB l k s.id = false := by
 obtain ⟨h1, h2, h3⟩ := h
 have hk : knownTo l k s.id = true := (h3 _).1 ⟨_, hv, rfl⟩
 refine ⟨⟨h1, by omega, fun i => ?_⟩, h1 _ hv, by rw [first_known, hk]; rfl⟩
 rw [known_succ hs, Bool.or_eq_true, ← h3]
 constructor
 ·exact .inl
 ·rintro (h | h)
  ·exact h
  ·simp only [decide_eq_true_eq] at h; subst h; exact ⟨_, hv, rfl⟩
theorem SeenE.new {l : List Sg} {k : Nat} {E : List (Int × Int)} (h : SeenE l k E) {i : Int} (hn : ∀ p ∈ E, p.1 ≠ i) : firstB l k i = true := by
 rw [first_known]
 cases hk : knownTo l k i with
 | false => rfl
 | true =>
  obtain ⟨p, hp, e⟩ := (h.2.2 i).2 hk
  exact absurd e (hn p hp)
theorem saga_first {I : In.Inn} {l : List Sg} {k : Nat} {s : Sg} (hs : l[k]? = some s) (h : firstB l k s.id = true) : sagaD I l k = deedsD I s 6 := by unfold sagaD; rw [hs]; simp [h]
theorem saga_not {I : In.Inn} {l : List Sg} {k : Nat} {s : Sg} (hs : l[k]? = some s) (h : firstB l k s.id = false) : sagaD I l k = [] := by unfold sagaD; rw [hs]; simp [h]

theorem stat_seq (p s : Int) (v : Value) (W : World) : (Instr.field tStat (.agg #[.int .i64 p, .int .i64 s, v]) 1).run Tryz.prog W = .ok (.int .i64 s) W := by kernel_rfl
theorem stat_rows (p s : Int) (A : Option Addr) (n c : Nat) (W : World) : (Instr.field tStat (.agg #[.int .i64 p, .int .i64 s, .slice A n c]) 2).run Tryz.prog W = .ok (.slice A n c) W := by kernel_rfl
theorem preK_succ (I : In.Inn) {p : Nat} (h : p < 3) : preK I (p + 1) = preK I p ++ (I.at (p : Int)).2.2 := by
 rcases (show p = 0 ∨ p = 1 ∨ p = 2 by omega) with rfl | rfl | rfl <;> rfl
theorem known_seen {l : List Sg} {E : List (Int × Int)} (h : SeenE l l.length E) {i v : Int} (hv : (i, v) ∈ E) : v = 1 ∧ knownB l i = true := ⟨h.1 _ hv, by rw [← known_all]; exact (h.2.2 i).1 ⟨_, hv, rfl⟩⟩
theorem known_not {l : List Sg} {E : List (Int × Int)} (h : SeenE l l.length E) {i : Int} (hn : ∀ p ∈ E, p.1 ≠ i) : knownB l i = false := by
 rw [← known_all]
 cases hk : knownTo l l.length i with
 | false => rfl
 | true =>
  obtain ⟨p, hp, e⟩ := (h.2.2 i).2 hk
  exact absurd e (hn p hp)
theorem party_bd {d : Int} (h0 : 0 ≤ d) (h6 : d < 6) : 0 ≤ partyI d ∧ partyI d ≤ 2 := by
 rcases (show d = 0 ∨ d = 1 ∨ d = 2 ∨ d = 3 ∨ d = 4 ∨ d = 5 by omega) with rfl | rfl | rfl | rfl | rfl | rfl <;> decide
abbrev tDiffs : TypeId := 90
abbrev rowOr (I : In.Inn) (i : Int) (d : Nat) : R5 := rowD (In.rowOf I (i, (d : Int)))
theorem known_at (I : In.Inn) (s : Sg) (d : Nat) (hd : d < 6) (W : World) : Calls Tryz.prog 97 #[sgV s, .int .i64 d, .agg #[.int .i64 (rowOr I s.id d).1.1, .int .i64 (rowOr I s.id d).1.2, .int .i64 (rowOr I s.id d).2.1, .int .i64 (rowOr I s.id d).2.2.1, .int .i64 (rowOr I s.id d).2.2.2], .bool (In.rowOf I (s.id, (d : Int))).isSome] W fun e w' => e = .returned (.int .i64 (kindOf I s d)) ∧ Below W.heap.size W w' := by
 rw [← kind_row]
 exact known_any s d _ _ _ _ _ _ W (by omega) (by omega)
theorem find_any (w : World) (v u : Value) (l : List Sg) (I : In.Inn) (hl : l.length ≤ 60) (hids : ∀ s ∈ l, -9223372036854775808 ≤ s.id ∧ s.id ≤ 9223372036854775807) (hS : Sgs w v l) (hI : InP w u I) (hg : In.Fine I) (hT : PT w) :
  Calls Tryz.prog 72 #[v, u] w fun e w' => ∃ v', e = .returned v' ∧ w'.ownsRow w.heap.size tDiff 3 v' (findD l I).length ((findD l I).flatMap encD) ∧ Below w.heap.size w w' := by
 obtain ⟨i0, hi, hz0, hz1, hz2⟩ := info_parts diff_info
 have hmm := @run_makeMap Tryz.prog
 have hsq := stat_seq
 have hsr := stat_rows
 have HII := Hd hI
 obtain ⟨A0, n0, c0, A1, n1, c1, A2, n2, c2, m, rfl, h0, h1, h2, h3⟩ := hI
 obtain ⟨A, c, rfl, hlc, hcm⟩ := hS.shape
 have HS := Hd hS
 have HG := Hd hg
 have HT := Hd hT
 have HID := Hd hids
 obtain ⟨wa, hA⟩ : ∃ wa, wa = (w.alloc (.cells #[.int .i64 I.a.1, .int .i64 I.a.2.1, .slice A0 n0 c0, .int .i64 I.b.1, .int .i64 I.b.2.1, .slice A1 n1 c1, .int .i64 I.c.1, .int .i64 I.c.2.1, .slice A2 n2 c2, .map m] tIn)).alloc (.map #[] 0) := ⟨_, rfl⟩
 have hB : Below w.heap.size w wa := by rw [hA]; exact (below_alloc w _).alloc (by simp) _
 have hX : wa.heap[w.heap.size]? = some (.cells #[.int .i64 I.a.1, .int .i64 I.a.2.1, .slice A0 n0 c0, .int .i64 I.b.1, .int .i64 I.b.2.1, .slice A1 n1 c1, .int .i64 I.c.1, .int .i64 I.c.2.1, .slice A2 n2 c2, .map m] tIn (0, 0)) := by rw [hA]; exact heap_keep (heap_new w _) (below_alloc _ _)
 have hM : MapL Tryz.prog tInt mkI mkI wa (w.heap.size + 1) [] := by
  rw [hA]
  have := MapL.made Tryz.prog tInt mkI mkI (w.alloc (.cells #[.int .i64 I.a.1, .int .i64 I.a.2.1, .slice A0 n0 c0, .int .i64 I.b.1, .int .i64 I.b.2.1, .slice A1 n1 c1, .int .i64 I.c.1, .int .i64 I.c.2.1, .slice A2 n2 c2, .map m] tIn))
  rwa [show (w.alloc (.cells #[.int .i64 I.a.1, .int .i64 I.a.2.1, .slice A0 n0 c0, .int .i64 I.b.1, .int .i64 I.b.2.1, .slice A1 n1 c1, .int .i64 I.c.1, .int .i64 I.c.2.1, .slice A2 n2 c2, .map m] tIn)).heap.size = w.heap.size + 1 by simp] at this
 have HA := Hd hA; have HB := Hd hB; have HX := Hd hX; have HM := Hd hM
 have hasz : w.heap.size + 1 < wa.heap.size := hM.lt
 have haeq : wa.heap.size ≤ w.heap.size + 2 := by rw [hA]; simp
 clear hA hB hX hM h0 h1 h2 h3 hS hg hT hids
 go_enter Tryz.func72, Tryz.ntmps72
 go_wp2_with fail
 rw [← HA.out]
 go_loopw [5, 20] (fun v i wr => ∃ k : Nat, ∃ E, i = .int .i64 k ∧ k ≤ l.length ∧ Hid (wr.ownsRow (w.heap.size + 2) tDiff 3 v (sagasD I l k).length ((sagasD I l k).flatMap encD)) ∧ Hid (MapL Tryz.prog tInt mkI mkI wr (w.heap.size + 1) E) ∧ Hid (SeenE l k E) ∧ Hid (Turned (fun j => j = w.heap.size + 1) wa wr)) (fun _ i _ => l.length - (intOf i).toNat)
 case atStart => exact ⟨0, [], rfl, Nat.zero_le _, World.ownsRow_nil _ _ _ _, HM.out, ⟨by simp, by simp, fun i => by simp [knownTo]⟩, Turned.refl _ _⟩
 case round =>
  obtain ⟨k, E, rfl, hk, HOr, HMr, HSr, HTr⟩ := hrel
  have hszr := HTr.out.size
  have HBr := Hd (show Below w.heap.size w wr from Below.turned HB.out HTr.out (fun i h => by omega) HB.out.size)
  by_cases hkl : k < l.length
  ·obtain ⟨s, hs⟩ : ∃ s, l[k]? = some s := ⟨_, List.getElem?_eq_getElem hkl⟩
   obtain ⟨g, off, n', c', e, d0, d1, d2, d3, d4, d5, d6, d7, d8, d9, d10, d11⟩ := HS.out.cells HBr.out hs
   injection e with e1 e2 e3
   subst e1; subst e2; subst e3
   have HSK := Hd hs
   have hlt : (k : Int) < l.length := by omega
   have hk0 : (0 : Int) ≤ k := by omega
   obtain ⟨kl, hkl'⟩ := int_reads s.id (HID.out s (List.mem_of_getElem? hs))
   have HKL := Hd hkl'
   clear hs hkl'
   go_upto_region 6 with (fail)
   obtain ⟨wb, hwb⟩ : ∃ wb, wb = wr.alloc (.cells (sgA s) tSaga) := ⟨_, rfl⟩
   rw [← hwb]
   have HXb := Hd (show wb.heap[wr.heap.size]? = some (.cells (sgA s) tSaga (0, 0)) by rw [hwb]; exact heap_new _ _)
   have HTb := Hd (show Turned (fun j => j = w.heap.size + 1) wa wb by rw [hwb]; exact HTr.out.trans (Turned.of_below (below_alloc _ _)))
   have HBb := Hd (show Below w.heap.size w wb by rw [hwb]; exact HBr.out.alloc HBr.out.size _)
   have HMb := Hd (show MapL Tryz.prog tInt mkI mkI wb (w.heap.size + 1) E by rw [hwb]; exact HMr.out.alloc _)
   have HOb := Hd (show wb.ownsRow (w.heap.size + 2) tDiff 3 u5 (sagasD I l k).length ((sagasD I l k).flatMap encD) by rw [hwb]; exact own_keep HOr.out (below_alloc _ _))
   clear hwb d0 d1 d2 d3 d4 d5 d6 d7 d8 d9 d10 d11
   obtain ⟨d0, d1, d2, d3, d4, d5, d6, d7, d8, d9, d10, d11⟩ := sg_box HXb.out
   go_upto_region 7 with (at_lookup; go_loud (refine wpList_lookL _ false rfl (.tmp 24) (.tmp 27) tSeen rfl tInt tInt lawInt seenMap 0 (zeroInt _) (w.heap.size + 1) E rfl HMb.out s.id rfl HKL.out (mkI_inj _) (fun x hx => ?_) (fun hn => ?_); rotate_left; skip; rotate_left; (obtain rfl : x = 1 := (SeenE.same HSr.out HSK.out hx).2.1)))
   ·have HSE := Hd (SeenE.same HSr.out HSK.out hx)
    have HOn := Hd (show wb.ownsRow (w.heap.size + 2) tDiff 3 u5 (sagasD I l (k + 1)).length ((sagasD I l (k + 1)).flatMap encD) by rw [sagasD_succ, saga_not HSK.out HSE.out.2.2, List.append_nil]; exact HOb.out)
    clear hx
    go_roundw
    case rel => exact ⟨k + 1, E, by go_num, by omega, HOn.out, HMb.out, HSE.out.1, HTb.out⟩
    case measure => simp [intOf]; omega
   ·have HF := Hd (SeenE.new HSr.out hn)
    have HSE := Hd (SeenE.more HSr.out HSK.out)
    have hEl : E.length < maxLen := by have := HSr.out.2.1; unfold maxLen; omega
    clear hn
    go_upto_region 8 with (first
     | (at_lookup; go_loud (refine wpList_lookL _ false rfl (.tmp 30) (.tmp 33) tSeen rfl tInt tInt lawInt seenMap 0 (zeroInt _) (w.heap.size + 1) E rfl HMb.out s.id rfl HKL.out (mkI_inj _) (fun x hx => absurd (SeenE.same HSr.out HSK.out hx).2.2 (by rw [HF.out]; decide)) (fun hn => ?_); clear hn))
     | (at_mapUpdate; go_loud (refine wpList_storeL _ rfl (.tmp 30) (.tmp 33) (.tmp 35) tSeen rfl tInt tInt lawInt seenMap (w.heap.size + 1) E rfl HMb.out hEl s.id 1 rfl rfl HKL.out (mkI_inj _) ?_; intro wc hmc htc)))
    have HMc := Hd hmc
    have HTc := Hd (HTb.out.trans (Turned.of_grown htc.grown (fun j h => by injection h with h; exact h.symm)))
    have HXc := Hd ((htc.grown.block _ (heap_lt HXb.out) (by simp; omega)).trans HXb.out)
    have HOc := Hd (HOb.out.kept htc.grown (.inr (row_ne (b := w.heap.size + 1) HOb.out (by omega)).symm))
    have hnb := own_far HOr.out (Nat.le_refl wr.heap.size)
    clear hmc htc HMb HTb HXb HOb HBb d0 d1 d2 d3 d4 d5 d6 d7 d8 d9 d10 d11
    generalize hbs : wr.heap.size = bs at HXc hnb ⊢
    clear hbs
    go_wp2_with fail
    go_loopw [5, 36] (fun v i wr => ∃ d : Nat, i = .int .i64 d ∧ d ≤ 6 ∧ Hid (wr.ownsRow (w.heap.size + 2) tDiff 3 v (sagasD I l k ++ deedsD I s d).length ((sagasD I l k ++ deedsD I s d).flatMap encD)) ∧ Hid (MapL Tryz.prog tInt mkI mkI wr (w.heap.size + 1) ((s.id, 1) :: without E s.id)) ∧ Hid (wr.heap[bs]? = some (.cells (sgA s) tSaga (0, 0))) ∧ Hid (some bs ≠ v.ownBlock) ∧ Hid (Turned (fun j => j = w.heap.size + 1) wa wr)) (fun _ i _ => 6 - (intOf i).toNat)
    case atStart => exact ⟨0, rfl, by omega, by rw [show deedsD I s 0 = [] from rfl, List.append_nil]; exact HOc.out, HMc.out, HXc.out, hnb, HTc.out⟩
    case round =>
     obtain ⟨d, rfl, hd, HOd, HMd, HXd, HNd, HTd⟩ := hrel
     have hszd := HTd.out.size
     have HBd := Hd (show Below w.heap.size w wr from Below.turned HB.out HTd.out (fun i h => by omega) HB.out.size)
     by_cases hd6 : d < 6
     ·have hd6' : (d : Int) < 6 := by omega
      have hd0 : (0 : Int) ≤ d := by omega
      have hp0 : 0 ≤ partyI (d : Int) ∧ partyI (d : Int) ≤ 2 := party_bd hd0 hd6'
      obtain ⟨e0, e1, e2, e3, e4, e5, e6, e7, e8, e9, e10, e11⟩ := sg_box HXd.out
      go_upto_region 12 with (fail)
      obtain ⟨wk, hwk⟩ : ∃ wk, wk = wr.alloc (.cells #[.int .i64 s.id, .int .i64 d] tKey) := ⟨_, rfl⟩
      rw [← hwk]
      have HBk := Hd (show Below wr.heap.size wr wk by rw [hwk]; exact below_alloc _ _)
      have HKk := Hd (show wk.heap[wr.heap.size]? = some (.cells #[.int .i64 s.id, .int .i64 d] tKey (0, 0)) by rw [hwk]; exact heap_new _ _)
      have HIk := Hd (heap_keep (heap_turned HX.out HTd.out (by omega)) HBk.out)
      have HBwk := Hd (bch HBd.out HBk.out HBd.out.size)
      clear hwk e0 e1 e2 e3 e4 e5 e6 e7 e8 e9 e10 e11
      obtain ⟨i0', i1, i2, i3, i4, i5, i6, i7, i8, i9⟩ := cell10 HIk.out
      have HP := Hd (fun W (hb : Below w.heap.size w W) => flip_calls (party_any d W (HT.out.below hb)))
      refine wp_region_still_tail 3 (by kernel_rfl) (by kernel_rfl) ?_
      simp only [List.take_succ_cons, List.take_zero, List.drop_succ_cons, List.drop_zero]
      still_step
      still_step
      still_call (HP.out _ (below_drew1 HBwk.out))
      refine wpStill_nil ?_
      change wpList _ _ _ _ _ wk.drew
      go_wp2_with fail
      refine (newest_any _ _ I (partyI d) hp0.1 hp0.2 (HII.out.below (below_drew1 HBwk.out)) HG.out).mono ?_
      rintro e wl ⟨Al, cl, rfl, _, _, hbl⟩
      have HBl := Hd (bch (below_drew1 HBk.out) hbl (below_drew1 HBk.out).size)
      have HKl := Hd (heap_keep (w := wk.drew) HKk.out hbl)
      have HIl := Hd (heap_keep (w := wk.drew) HIk.out hbl)
      clear hbl i0' i1 i2 i3 i4 i5 i6 i7 i8 i9
      by_cases hq : (I.at (partyI (d : Int))).2.1 = 0
      ·have hq1 := beqT hq
       have HD := Hd (show deedsD I s (d + 1) = deedsD I s d by rw [deedsD_succ, show deedD I s d = [] by unfold deedD; rw [if_pos hq], List.append_nil])
       clear hq
       go_wp2_with fail
       go_roundw
       case rel => exact ⟨d + 1, by go_num, by omega, by rw [HD.out]; exact own_keep HOd.out HBl.out, HMd.out.below HBl.out, heap_keep HXd.out HBl.out, HNd.out, HTd.out.trans (Turned.of_below HBl.out)⟩
       case measure => simp [intOf]; omega
      ·have hq1 := beqF hq
       have HQ := Hd hq
       clear hq
       obtain ⟨i0', i1, i2, i3, i4, i5, i6, i7, i8, i9⟩ := cell10 HIl.out
       obtain ⟨k0, k1, _, _⟩ := cell2 HKl.out
       go_wp2_with fail
       refine (row_any _ _ I s.id d (HII.out.below (bch HBd.out HBl.out HBd.out.size)) HG.out ⟨HID.out s (List.mem_of_getElem? HSK.out), by omega⟩).mono ?_
       rintro e wm ⟨rfl, hbm⟩
       have HBm := Hd (bch HBl.out hbm HBl.out.size)
       have HKm := Hd (heap_keep HKl.out hbm)
       clear hbm i0' i1 i2 i3 i4 i5 i6 i7 i8 i9 k0 k1
       go_upto_region 14 with (fail)
       obtain ⟨wn, hwn⟩ : ∃ wn, wn = wm.alloc (.cells #[.int .i64 (rowOr I s.id d).1.1, .int .i64 (rowOr I s.id d).1.2, .int .i64 (rowOr I s.id d).2.1, .int .i64 (rowOr I s.id d).2.2.1, .int .i64 (rowOr I s.id d).2.2.2] tRow) := ⟨_, rfl⟩
       rw [← hwn]
       have HBn := Hd (show Below wr.heap.size wr wn by rw [hwn]; exact HBm.out.alloc HBm.out.size _)
       have HRn := Hd (show wn.heap[wm.heap.size]? = some (.cells #[.int .i64 (rowOr I s.id d).1.1, .int .i64 (rowOr I s.id d).1.2, .int .i64 (rowOr I s.id d).2.1, .int .i64 (rowOr I s.id d).2.2.1, .int .i64 (rowOr I s.id d).2.2.2] tRow (0, 0)) by rw [hwn]; exact heap_new _ _)
       have HKn := Hd (show wn.heap[wr.heap.size]? = some (.cells #[.int .i64 s.id, .int .i64 d] tKey (0, 0)) by rw [hwn]; exact heap_keep HKm.out (below_alloc _ _))
       clear hwn HBm HKm HBl HKl
       obtain ⟨e0, e1, e2, e3, e4, e5, e6, e7, e8, e9, e10, e11⟩ := sg_box (heap_keep HXd.out HBn.out)
       obtain ⟨r0, r1, r2, r3, r4⟩ := cell5 HRn.out
       go_wp2_with fail
       refine (known_at I s d hd6 _).mono ?_
       rintro e wo ⟨rfl, hbo⟩
       have HBo := Hd (bch HBn.out hbo HBn.out.size)
       have HKo := Hd (heap_keep HKn.out hbo)
       clear hbo e0 e1 e2 e3 e4 e5 e6 e7 e8 e9 e10 e11 r0 r1 r2 r3 r4 HBn HRn HKn
       have HXo := Hd (heap_keep HXd.out HBo.out)
       have HMo := Hd (HMd.out.below HBo.out)
       have HOo := Hd (own_keep HOd.out HBo.out)
       have HTo := Hd (HTd.out.trans (Turned.of_below HBo.out))
       have hszo := HBo.out.size
       have hbs := heap_lt HXd.out
       obtain ⟨k0, k1, _, _⟩ := cell2 HKo.out
       by_cases hkd : 0 < kindOf I s d
       ·have HD := Hd (show deedsD I s (d + 1) = deedsD I s d ++ [((s.id, (d : Int)), kindOf I s d)] by rw [deedsD_succ, show deedD I s d = [((s.id, (d : Int)), kindOf I s d)] by unfold deedD; rw [if_neg HQ.out, if_pos hkd]])
        have hln : (sagasD I l k ++ deedsD I s d).length ≤ 400 := by rw [List.length_append]; have := sagas_len I l k; have := deeds_len I s d; omega
        go_wp2_with (at_builtin; go_loud (refine wpList_append_any _ rfl (.tmp 63) (.tmp 67) tDiffs rfl (w.heap.size + 2) tDiff i0 (.agg #[.int .i64 0, .int .i64 0, .int .i64 0]) 3 24 Tryz.underlying90 hi hz0 hz1 hz2 rfl (by decide) _ _ _ rfl (World.ownsRow.alloc HOo.out _) 1 (encD ((s.id, (d : Int)), kindOf I s d)) (src_blk (xs := encD ((s.id, (d : Int)), kindOf I s d)) (heap_new _ _) (encD_one _)) (by unfold maxLen; omega) (by omega) (by simp; omega) ?_; intro v2 wp ho2 hg2 hat2))
        have HO' := Hd (show wp.ownsRow (w.heap.size + 2) tDiff 3 v2 (sagasD I l k ++ deedsD I s (d + 1)).length ((sagasD I l k ++ deedsD I s (d + 1)).flatMap encD) by rw [HD.out, ← List.append_assoc, List.length_append, List.flatMap_append]; simpa using ho2)
        have HM' := Hd ((HMo.out.alloc (.cells (encD ((s.id, (d : Int)), kindOf I s d)).toArray tDiff)).kept hg2 (row_ne HOo.out (by omega)))
        have HX' := Hd ((hg2.block bs (by simp; omega) HNd.out).trans (heap_keep HXo.out (below_alloc _ _)))
        have HN' := Hd (show some bs ≠ v2.ownBlock from by rcases hat2 with h | h; (rw [h]; exact HNd.out); (rw [h]; simp; omega))
        have HT' := Hd ((HTo.out.trans (Turned.of_below (below_alloc _ _))).far (Turned.of_grown hg2 (fun j hj => .inr (by have := (HOo.out.lt j hj).1; omega))))
        clear ho2 hg2 hat2
        go_roundw
        case rel => exact ⟨d + 1, by go_num, by omega, HO'.out, HM'.out, HX'.out, HN'.out, HT'.out⟩
        case measure => simp [intOf]; omega
       ·have HD := Hd (show deedsD I s (d + 1) = deedsD I s d by rw [deedsD_succ, show deedD I s d = [] by unfold deedD; rw [if_neg HQ.out, if_neg hkd], List.append_nil])
        go_wp2_with fail
        go_roundw
        case rel => exact ⟨d + 1, by go_num, by omega, by rw [HD.out]; exact HOo.out, HMo.out, HXo.out, HNd.out, HTo.out⟩
        case measure => simp [intOf]; omega
     ·have hd6' : (6 : Int) ≤ d := by omega
      obtain rfl : d = 6 := by omega
      have HO' := Hd (show wr.ownsRow (w.heap.size + 2) tDiff 3 u5 (sagasD I l (k + 1)).length ((sagasD I l (k + 1)).flatMap encD) by rw [sagasD_succ, saga_first HSK.out HF.out]; exact HOd.out)
      go_wp2_with fail
      go_roundw
      case rel => exact ⟨k + 1, _, by go_num, by omega, HO'.out, HMd.out, HSE.out, HTd.out⟩
      case measure => simp [intOf]; omega
  ·have hkl' : (l.length : Int) ≤ k := by omega
   obtain rfl : k = l.length := by omega
   go_wp2_with fail
   have HAL := Hd (show sagasD I l l.length ++ rowsD l (preK I 0) = sagasD I l l.length by rw [show rowsD l (preK I 0) = [] from rfl, List.append_nil])
   go_loopw [5, 71] (fun v i wr => ∃ p : Nat, i = .int .i64 p ∧ p ≤ 3 ∧ Hid (wr.ownsRow (w.heap.size + 2) tDiff 3 v (sagasD I l l.length ++ rowsD l (preK I p)).length ((sagasD I l l.length ++ rowsD l (preK I p)).flatMap encD)) ∧ Hid (MapL Tryz.prog tInt mkI mkI wr (w.heap.size + 1) E) ∧ Hid (Turned (fun j => j = w.heap.size + 1) wa wr)) (fun _ i _ => 3 - (intOf i).toNat)
   case atStart => exact ⟨0, rfl, by omega, by rw [HAL.out]; exact HOr.out, HMr.out, HTr.out⟩
   case round =>
    obtain ⟨p, rfl, hp, HOp, HMp, HTp⟩ := hrel
    have hszp := HTp.out.size
    have HBp := Hd (show Below w.heap.size w wr from Below.turned HB.out HTp.out (fun i h => by omega) HB.out.size)
    by_cases hp3 : p < 3
    ·have hp3' : (p : Int) < 3 := by omega
     have hp0 : (0 : Int) ≤ p := by omega
     have HIp := Hd (heap_turned HX.out HTp.out (by omega))
     obtain ⟨i0', i1, i2, i3, i4, i5, i6, i7, i8, i9⟩ := cell10 HIp.out
     go_wp2_with fail
     refine (newest_any _ _ I p (by omega) (by omega) (HII.out.below HBp.out) HG.out).mono ?_
     rintro e wl ⟨Al, cl, rfl, hrl, hfl, hbl⟩
     have HRl := Hd hrl
     have HBl := Hd hbl
     have HPS := Hd (preK_succ I hp3)
     have HNl := Hd (show ∀ ad n c', Value.slice Al (I.at (p : Int)).2.2.length cl = .slice (some ad) n c' → 0 < (I.at (p : Int)).2.2.length → some ad.block ≠ u5.ownBlock from fun ad n c' e hl => own_far HOp.out (hfl ad n c' e hl))
     have HLl := Hd (rd_near hrl)
     have HOl := Hd (own_keep HOp.out hbl)
     have HMl := Hd (HMp.out.below hbl)
     have HTl := Hd (HTp.out.trans (Turned.of_below hbl))
     clear hrl hfl hbl i0' i1 i2 i3 i4 i5 i6 i7 i8 i9
     go_wp2_with fail
     have hRl := In.ok_len (HG.out.at (p := (p : Int)) (by omega))
     have HCK := Hd (show ∀ y ∈ (I.at (p : Int)).2.2, chkB y.1 = true from fun y hy => (In.okRow_party (In.ok_rows (HG.out.at (p := (p : Int)) (by omega)) y hy)).2)
     generalize (I.at (p : Int)).2.2 = Rr at HRl HPS HNl HLl HCK hRl ⊢
     have HP4 := preK_len HG.out p
     have hwl : wl.heap.size ≤ wl.heap.size := Nat.le_refl _
     go_loopw [5, 79] (fun v i wr => ∃ j : Nat, i = .int .i64 j ∧ j ≤ Rr.length ∧ Hid (wr.ownsRow (w.heap.size + 2) tDiff 3 v (sagasD I l l.length ++ rowsD l (preK I p ++ Rr.take j)).length ((sagasD I l l.length ++ rowsD l (preK I p ++ Rr.take j)).flatMap encD)) ∧ Hid (MapL Tryz.prog tInt mkI mkI wr (w.heap.size + 1) E) ∧ Hid (Turned (fun j => j = w.heap.size + 1) wa wr) ∧ Hid (Rd wr (.slice Al Rr.length cl) Rr) ∧ Hid (∀ ad n c', Value.slice Al Rr.length cl = .slice (some ad) n c' → 0 < Rr.length → some ad.block ≠ v.ownBlock) ∧ wl.heap.size ≤ wr.heap.size) (fun _ i _ => Rr.length - (intOf i).toNat)
     case atStart => exact ⟨0, rfl, by omega, by rw [List.take_zero, List.append_nil]; exact HOl.out, HMl.out, HTl.out, HRl.out, HNl.out, Nat.le_refl _⟩
     case round =>
      obtain ⟨j, rfl, hj, HOj, HMj, HTj, HRj, HNj, hwj⟩ := hrel
      have hszj := HTj.out.size
      by_cases hjl : j < Rr.length
      ·obtain ⟨y, hy⟩ : ∃ y, Rr[j]? = some y := ⟨_, List.getElem?_eq_getElem hjl⟩
       obtain ⟨g, off, n', c', e, d0, d1, d2, d3, d4⟩ := HRj.out.cells (Below.refl _ _) hy
       injection e with e1 e2 e3
       subst e1; subst e2; subst e3
       have HSN := Hd (rowsD_snoc (l := l) hy (preK I p))
       have hgl := HLl.out ⟨g, off, none⟩ _ _ rfl (by omega)
       have hck := chk_iff.1 (show chk y.1.1 y.1.2 = true from HCK.out y (List.mem_of_getElem? hy))
       obtain ⟨kl, hkl'⟩ := int_reads y.1.1 (by omega)
       have HKL := Hd hkl'
       have hjl' : (j : Int) < Rr.length := by omega
       have hj0 : (0 : Int) ≤ j := by omega
       clear hy hkl'
       obtain ⟨⟨o, d⟩, t, a, q⟩ := y
       simp only [] at d0 d1 d2 d3 d4 HKL hck hgl
       go_upto_region 25 with (fail)
       obtain ⟨wm, hwm⟩ : ∃ wm, wm = wr.alloc (.cells #[.int .i64 o, .int .i64 d, .int .i64 t, .int .i64 a, .int .i64 q] tRow) := ⟨_, rfl⟩
       rw [← hwm]
       have HBm := Hd (show Below wr.heap.size wr wm by rw [hwm]; exact below_alloc _ _)
       have HXm := Hd (show wm.heap[wr.heap.size]? = some (.cells #[.int .i64 o, .int .i64 d, .int .i64 t, .int .i64 a, .int .i64 q] tRow (0, 0)) by rw [hwm]; exact heap_new _ _)
       clear hwm d0 d1 d2 d3 d4
       obtain ⟨d0, d1, d2, d3, d4⟩ := cell5 HXm.out
       have HOm := Hd (own_keep HOj.out HBm.out)
       have HMm := Hd (HMj.out.below HBm.out)
       have HTm := Hd (HTj.out.trans (Turned.of_below HBm.out))
       have HRm := Hd (HRj.out.keep HBm.out)
       have hwm := HBm.out.size
       have hln : (sagasD I l l.length ++ rowsD l (preK I p ++ Rr.take j)).length ≤ 2000 := by rw [List.length_append]; have := sagas_len I l l.length; have := rowsD_len l (preK I p ++ Rr.take j); simp at this; omega
       go_wp2_with (first
        | (at_lookup; go_loud (refine wpList_lookL _ false rfl (.tmp 83) (.tmp 86) tSeen rfl tInt tInt lawInt seenMap 0 (zeroInt _) (w.heap.size + 1) E rfl HMm.out o rfl HKL.out (mkI_inj _) (fun x hx => ?_) (fun hn => ?_); rotate_left; (have HKN := Hd (known_not HSr.out hn); clear hn); rotate_left; (have HKN := Hd (known_seen HSr.out hx).2; obtain rfl : x = 1 := (known_seen HSr.out hx).1; clear hx)))
        | (at_builtin; go_loud (refine wpList_append_any _ rfl (.tmp 89) (.tmp 93) tDiffs rfl (w.heap.size + 2) tDiff i0 (.agg #[.int .i64 0, .int .i64 0, .int .i64 0]) 3 24 Tryz.underlying90 hi hz0 hz1 hz2 rfl (by decide) _ _ _ rfl (World.ownsRow.alloc HOm.out _) 1 (encD ((o, d), 5)) (src_blk (xs := encD ((o, d), 5)) (heap_new _ _) (encD_one _)) (by unfold maxLen; omega) (by omega) (by simp; omega) ?_; intro v2 wp ho2 hg2 hat2)))
       ·have HN2 := Hd (show Ma.rowD l ((o, d), t, a, q) = [] by unfold Ma.rowD; simp [HKN.out])
        go_roundw
        case rel => exact ⟨j + 1, by go_num, by omega, by rw [HSN.out, HN2.out, List.append_nil]; exact HOm.out, HMm.out, HTm.out, HRm.out, HNj.out, by omega⟩
        case measure => simp [intOf]; omega
       ·have HN2 := Hd (show Ma.rowD l ((o, d), t, a, q) = [((o, d), 5)] by unfold Ma.rowD; simp [HKN.out])
        have HO' := Hd (show wp.ownsRow (w.heap.size + 2) tDiff 3 v2 (sagasD I l l.length ++ rowsD l (preK I p ++ Rr.take (j + 1))).length ((sagasD I l l.length ++ rowsD l (preK I p ++ Rr.take (j + 1))).flatMap encD) by rw [HSN.out, HN2.out, ← List.append_assoc, List.length_append, List.flatMap_append]; simpa using ho2)
        have HM' := Hd ((HMm.out.alloc (.cells (encD ((o, d), 5)).toArray tDiff)).kept hg2 (row_ne HOm.out (by omega)))
        have HT' := Hd ((HTm.out.trans (Turned.of_below (below_alloc _ _))).far (Turned.of_grown hg2 (fun j hj => .inr (by have := (HOm.out.lt j hj).1; omega))))
        have HR' := Hd ((HRm.out.keep (below_alloc _ (.cells (encD ((o, d), 5)).toArray tDiff))).turned (S := fun j => some j = u5.ownBlock) (Turned.of_grown hg2 (fun j hj => hj.symm)) (fun ad n c e hl => HNj.out ad n c e hl))
        have HN' := Hd (show ∀ ad n c', Value.slice (some ⟨g, off, none⟩) Rr.length cl = .slice (some ad) n c' → 0 < Rr.length → some ad.block ≠ v2.ownBlock from fun ad n c' e hl => by
         rcases hat2 with h | h
         ·rw [h]; exact HNj.out ad n c' e hl
         ·rw [h]; injection e with e; injection e with e; subst e; simp; omega)
        have hsp : wm.heap.size + 1 ≤ wp.heap.size := by have := hg2.size; simpa using this
        clear ho2 hg2 hat2
        go_roundw
        case rel => exact ⟨j + 1, by go_num, by omega, HO'.out, HM'.out, HT'.out, HR'.out, HN'.out, by omega⟩
        case measure => simp [intOf]; omega
      ·have hjl' : (Rr.length : Int) ≤ j := by omega
       have HO' := Hd (show wr.ownsRow (w.heap.size + 2) tDiff 3 u5 (sagasD I l l.length ++ rowsD l (preK I (p + 1))).length ((sagasD I l l.length ++ rowsD l (preK I (p + 1))).flatMap encD) by rw [HPS.out]; have := HOj.out; rwa [List.take_of_length_le (by omega)] at this)
       go_wp2_with fail
       go_roundw
       case rel => exact ⟨p + 1, by go_num, by omega, HO'.out, HMj.out, HTj.out⟩
       case measure => simp [intOf]; omega
    ·have hp3' : (3 : Int) ≤ p := by omega
     obtain rfl : p = 3 := by omega
     have hln : (allD l I).length < 10000 := by unfold allD; rw [List.length_append]; have := sagas_len I l l.length; have := rowsD_len l (In.rowsAll I); have := preK_len HG.out 3; unfold preK at this; simp at this; omega
     have HO' := Hd (show wr.ownsRow (w.heap.size + 2) tDiff 3 u5 (allD l I).length ((allD l I).flatMap encD) from HOp.out)
     clear HOp
     go_wp2_with fail
     refine (sortD_any _ _ _ _ HO'.out hln).mono ?_
     rintro e wz ⟨rfl, L, hp, hsr, ho, hb⟩
     have HE := Hd (find_eq l HG.out hp hsr)
     have HOz := Hd ho
     have HBf := Hd (show Below w.heap.size w wz from HBp.out.trans (hb.mono (by omega)))
     clear hp hsr ho hb
     go_wp2_with fail
     go_ret
     exact ⟨_, rfl, by rw [← HE.out]; exact own_weak HOz.out (by omega), HBf.out⟩
end Go.Proofs.YtiagdpfmmjhgcaaGreatDoor
/- The document's Find: the differences in order. -/
namespace Go.Proofs.YtiagdpfmmjhgcaaGreatDoor
open Go.RowKit Go.Maps Key Rw Sa Ma
set_option linter.unusedSimpArgs false
set_option linter.unusedVariables false
set_option maxRecDepth 100000
set_option maxHeartbeats 16000000

theorem fold_snoc (C : List D3) (x : D3) : (C ++ [x]).foldl layD [] = layD (C.foldl layD []) x := by rw [List.foldl_append]; rfl
theorem fold_len (C : List D3) : (C.foldl layD []).length = C.length := by have := (fold_perm C []).length_eq; rwa [List.nil_append] at this
theorem refKind_at (I : In.Inn) (s : Sg) (d : Nat) (hd : d < 6) (W : World) : Calls Tryz.prog 101 #[sgV s, .int .i64 d, .agg #[.int .i64 (rowOr I s.id d).1.1, .int .i64 (rowOr I s.id d).1.2, .int .i64 (rowOr I s.id d).2.1, .int .i64 (rowOr I s.id d).2.2.1, .int .i64 (rowOr I s.id d).2.2.2], .bool (In.rowOf I (s.id, (d : Int))).isSome] W fun e w' => e = .returned (.int .i64 (kindOf I s d)) ∧ Below W.heap.size W w' := by
 rw [← kind_row]
 exact refKind_any s d _ _ _ _ _ _ W (by omega) (by omega)
theorem lay_at {w : World} {B : Nat} {v : Value} {C : List D3} (x : D3) (h : RDs w B v (C.foldl layD [])) (hl : C.length < 10000) (hB : B ≤ w.heap.size) :
  Calls Tryz.prog 102 #[v, .agg #[.int .i64 x.1.1, .int .i64 x.1.2, .int .i64 x.2]] w fun e w' => ∃ v', e = .returned v' ∧ RDs w' B v' ((C ++ [x]).foldl layD []) ∧ Below w.heap.size w w' := by
 rw [fold_snoc]
 exact lay_any w B v _ x.1.1 x.1.2 x.2 h (by rw [fold_len]; exact hl) hB

theorem refFind_any (w : World) (v u : Value) (l : List Sg) (I : In.Inn) (hl : l.length ≤ 60) (hS : Sgs w v l) (hI : InR w u I) (hg : In.Fine I) :
  Calls Tryz.prog 73 #[v, u] w fun e w' => ∃ v', e = .returned v' ∧ RDs w' w.heap.size v' (findD l I) ∧ Below w.heap.size w w' := by
 have HII := Hd hI
 obtain ⟨A0, n0, c0, A1, n1, c1, A2, n2, c2, rfl, h0, h1, h2⟩ := hI
 have H0 := Hd h0; have H1 := Hd h1; have H2 := Hd h2
 obtain ⟨A, c, rfl, hlc, hcm⟩ := hS.shape
 have HS := Hd hS
 have HG := Hd hg
 obtain ⟨wa, hA⟩ : ∃ wa, wa = w.alloc (.cells #[.int .i64 I.a.1, .int .i64 I.a.2.1, .slice A0 n0 c0, .int .i64 I.b.1, .int .i64 I.b.2.1, .slice A1 n1 c1, .int .i64 I.c.1, .int .i64 I.c.2.1, .slice A2 n2 c2] tInR) := ⟨_, rfl⟩
 have hB : Below w.heap.size w wa := by rw [hA]; exact below_alloc _ _
 have hX : wa.heap[w.heap.size]? = some (.cells #[.int .i64 I.a.1, .int .i64 I.a.2.1, .slice A0 n0 c0, .int .i64 I.b.1, .int .i64 I.b.2.1, .slice A1 n1 c1, .int .i64 I.c.1, .int .i64 I.c.2.1, .slice A2 n2 c2] tInR (0, 0)) := by rw [hA]; exact heap_new _ _
 have hws : w.heap.size < wa.heap.size := heap_lt hX
 have HA := Hd hA; have HB := Hd hB; have HX := Hd hX
 clear hA hB hX h0 h1 h2 hS hg
 go_enter Tryz.func73, Tryz.ntmps73
 go_wp2_with fail
 rw [← HA.out]
 go_loopw [5, 6] (fun v i wr => ∃ k : Nat, i = .int .i64 k ∧ k ≤ l.length ∧ Hid (RDs wr wa.heap.size v ((sagasD I l k).foldl layD [])) ∧ Hid (Below wa.heap.size wa wr)) (fun _ i _ => l.length - (intOf i).toNat)
 case atStart => exact ⟨0, rfl, Nat.zero_le _, RDs.nil _ _, Below.refl _ _⟩
 case round =>
  obtain ⟨k, rfl, hk, HOr, HBr⟩ := hrel
  have hszr := HBr.out.size
  have HBw := Hd (bch HB.out HBr.out HB.out.size)
  by_cases hkl : k < l.length
  ·obtain ⟨s, hs⟩ : ∃ s, l[k]? = some s := ⟨_, List.getElem?_eq_getElem hkl⟩
   have HSK := Hd hs
   obtain ⟨g, off, n', c', e, d0, d1, d2, d3, d4, d5, d6, d7, d8, d9, d10, d11⟩ := (HS.out.keep HBw.out).cells (Below.refl _ _) hs
   injection e with e1 e2 e3; subst e1; subst e2; subst e3
   have HCK := Hd (fun W (hb : Below w.heap.size w W) => (show W.cell? ⟨g, off + k * 12, none⟩ = some (.int .i64 s.id) by
    obtain ⟨g', off', n'', c'', e, d0, _⟩ := HS.out.cells hb hs
    injection e with e1 e2 e3; injection e1 with e1; injection e1 with e1 e4 _; subst e1; subst e4
    exact d0))
   have hlt : (k : Int) < l.length := by omega
   have hk0 : (0 : Int) ≤ k := by omega
   clear hs d0 d1 d2 d3 d4 d5 d6 d7 d8 d9 d10 d11
   go_wp2_with fail
   go_loopw [7, 8] (fun b i wq => ∃ j : Nat, i = .int .i64 j ∧ j ≤ k ∧ b = .bool (firstB l j s.id) ∧ Hid (Below wr.heap.size wr wq)) (fun _ i _ => k - (intOf i).toNat)
   case atStart => exact ⟨0, rfl, Nat.zero_le _, rfl, Below.refl _ _⟩
   case round =>
    obtain ⟨j, rfl, hj, rfl, HBq⟩ := hrel
    have HBv := Hd (bch HBw.out HBq.out HBw.out.size)
    by_cases hjk : j < k
    ·obtain ⟨t, ht⟩ : ∃ t, l[j]? = some t := ⟨_, List.getElem?_eq_getElem (by omega)⟩
     have HFS := Hd (first_succ ht s.id)
     have dk := HCK.out _ HBv.out
     have dt : wr.cell? ⟨g, off + j * 12, none⟩ = some (.int .i64 t.id) := by
      obtain ⟨g', off', n'', c'', e, d0, _⟩ := HS.out.cells HBv.out ht
      injection e with e1 e2 e3; injection e1 with e1; injection e1 with e1 e4 _; subst e1; subst e4
      exact d0
     have hj0 : (0 : Int) ≤ j := by omega
     have hjl : (j : Int) < l.length := by omega
     have hjk' : (j : Int) < k := by omega
     clear ht
     cases hf : firstB l j s.id with
     | false =>
      have HF := Hd (show firstB l (j + 1) s.id = false by rw [HFS.out, hf]; rfl)
      clear hf
      go_wp2_with fail
      go_quiet (fail)
      go_wp2_with fail
      go_roundw
      case rel => exact ⟨j + 1, by go_num, by omega, by rw [HF.out], below_drewN HBq.out _⟩
      case measure => simp [intOf]; omega
     | true =>
      by_cases hi : t.id = s.id
      ·have hi1 := bneF hi
       have HF := Hd (show firstB l (j + 1) s.id = false by rw [HFS.out, hf]; simp [hi])
       clear hf hi
       go_wp2_with fail
       go_quiet (fail)
       go_wp2_with fail
       go_roundw
       case rel => exact ⟨j + 1, by go_num, by omega, by rw [HF.out], below_drewN HBq.out _⟩
       case measure => simp [intOf]; omega
      ·have hi1 := bneT hi
       have HF := Hd (show firstB l (j + 1) s.id = true by rw [HFS.out, hf]; simp [hi])
       clear hf hi
       go_wp2_with fail
       go_quiet (fail)
       go_wp2_with fail
       go_roundw
       case rel => exact ⟨j + 1, by go_num, by omega, by rw [HF.out], below_drewN HBq.out _⟩
       case measure => simp [intOf]; omega
    ·obtain rfl : j = k := by omega
     have hjk' : ¬ (j : Int) < j := by omega
     have HOv := Hd (HOr.out.below HBq.out)
     have HBu := Hd (bch HBr.out HBq.out HBr.out.size)
     generalize wr = wv at HBv HBq HOv HBu ⊢
     clear HBq HOr HBr HBw
     cases hf : firstB l j s.id with
     | false =>
      have HN := Hd (show sagasD I l (j + 1) = sagasD I l j by rw [sagasD_succ, saga_not HSK.out hf, List.append_nil])
      clear hf
      go_wp2_with fail
      go_loopw [5, 9] (fun v i wq => i = .int .i64 0 ∧ Hid (RDs wq wa.heap.size v ((sagasD I l (j + 1)).foldl layD [])) ∧ Hid (Below wa.heap.size wa wq)) (fun _ _ _ => 0)
      case atStart => exact ⟨rfl, by rw [HN.out]; exact HOv.out, HBu.out⟩
      case round =>
       obtain ⟨rfl, HO', HB'⟩ := hrel
       go_wp2_with fail
       go_roundw
       case rel => exact ⟨j + 1, by go_num, by omega, HO'.out, HB'.out⟩
       case measure => simp [intOf]; omega
     | true =>
      have HN := Hd (show sagasD I l (j + 1) = sagasD I l j ++ deedsD I s 6 by rw [sagasD_succ, saga_first HSK.out hf])
      clear hf
      go_wp2_with fail
      go_loopw [5, 9] (fun v i wr => ∃ d : Nat, i = .int .i64 d ∧ d ≤ 6 ∧ Hid (RDs wr wa.heap.size v ((sagasD I l j ++ deedsD I s d).foldl layD [])) ∧ Hid (Below wa.heap.size wa wr)) (fun _ i _ => 6 - (intOf i).toNat)
      case atStart => exact ⟨0, rfl, by omega, by rw [show deedsD I s 0 = [] from rfl, List.append_nil]; exact HOv.out, HBu.out⟩
      case round =>
       obtain ⟨d, rfl, hd, HOd, HBd⟩ := hrel
       have hszd := HBd.out.size
       have HBw := Hd (bch HB.out HBd.out HB.out.size)
       by_cases hd6 : d < 6
       ·have hd6' : (d : Int) < 6 := by omega
        have hd0 : (0 : Int) ≤ d := by omega
        have dk := HCK.out _ HBw.out
        go_upto_region 14 with (fail)
        obtain ⟨wk, hwk⟩ : ∃ wk, wk = wr.alloc (.cells #[.int .i64 s.id, .int .i64 d] tKey) := ⟨_, rfl⟩
        rw [← hwk]
        have HBk := Hd (show Below wr.heap.size wr wk by rw [hwk]; exact below_alloc _ _)
        have HKk := Hd (show wk.heap[wr.heap.size]? = some (.cells #[.int .i64 s.id, .int .i64 d] tKey (0, 0)) by rw [hwk]; exact heap_new _ _)
        have HIk := Hd (heap_keep HX.out (bch HBd.out HBk.out HBd.out.size))
        clear hwk dk
        obtain ⟨i0, i1, i2, i3, i4, i5, i6, i7, i8⟩ := cell9 HIk.out
        obtain ⟨k0, k1, _, _⟩ := cell2 HKk.out
        obtain ⟨pd, hpd⟩ : ∃ p, partyI (d : Int) = p := ⟨_, rfl⟩
        have hpb := party_bd hd0 hd6'
        have HP := Hd (refParty_at hpd ⟨by omega, by omega⟩)
        rw [hpd] at hpb
        rcases (show pd = 0 ∨ pd = 1 ∨ pd = 2 by omega) with rfl | rfl | rfl
        ·have HQA := Hd (show (I.at (partyI (d : Int))).2.1 = I.a.2.1 by rw [hpd]; rfl)
         clear hpd hpb
         by_cases hq : I.a.2.1 = 0
         ·have hq1 := beqT hq
          have HD := Hd (show deedsD I s (d + 1) = deedsD I s d by rw [deedsD_succ, show deedD I s d = [] by unfold deedD; rw [if_pos (HQA.out.trans hq)], List.append_nil])
          clear hq
          go_wp2_with fail
          refine (HP.out _).mono ?_
          rintro e w2 ⟨rfl, hw⟩; subst hw
          go_wp2_with fail
          go_roundw
          case rel => exact ⟨d + 1, by go_num, by omega, by rw [HD.out]; exact HOd.out.below HBk.out, bch HBd.out HBk.out HBd.out.size⟩
          case measure => simp [intOf]; omega
         ·have hq1 := beqF hq
          have HQ := Hd (show ¬ (I.at (partyI (d : Int))).2.1 = 0 by rw [HQA.out]; exact hq)
          clear hq
          go_wp2_with fail
          refine (HP.out _).mono ?_
          rintro e w2 ⟨rfl, hw⟩; subst hw
          go_wp2_with fail
          refine (refRow_any _ _ I s.id d (HII.out.below (bch HBw.out HBk.out HBw.out.size)) HG.out).mono ?_
          rintro e wm ⟨rfl, hbm⟩
          have HBm := Hd (bch HBk.out hbm HBk.out.size)
          have HKm := Hd (heap_keep HKk.out hbm)
          clear hbm i0 i1 i2 i3 i4 i5 i6 i7 i8 k0 k1
          go_upto_region 16 with (fail)
          obtain ⟨wn, hwn⟩ : ∃ wn, wn = wm.alloc (.cells #[.int .i64 (rowOr I s.id d).1.1, .int .i64 (rowOr I s.id d).1.2, .int .i64 (rowOr I s.id d).2.1, .int .i64 (rowOr I s.id d).2.2.1, .int .i64 (rowOr I s.id d).2.2.2] tRow) := ⟨_, rfl⟩
          rw [← hwn]
          have HBn := Hd (show Below wr.heap.size wr wn by rw [hwn]; exact HBm.out.alloc HBm.out.size _)
          have HRn := Hd (show wn.heap[wm.heap.size]? = some (.cells #[.int .i64 (rowOr I s.id d).1.1, .int .i64 (rowOr I s.id d).1.2, .int .i64 (rowOr I s.id d).2.1, .int .i64 (rowOr I s.id d).2.2.1, .int .i64 (rowOr I s.id d).2.2.2] tRow (0, 0)) by rw [hwn]; exact heap_new _ _)
          have HKn := Hd (show wn.heap[wr.heap.size]? = some (.cells #[.int .i64 s.id, .int .i64 d] tKey (0, 0)) by rw [hwn]; exact heap_keep HKm.out (below_alloc _ _))
          clear hwn HBm HKm
          obtain ⟨g', off', n'', c'', e, d0, d1, d2, d3, d4, d5, d6, d7, d8, d9, d10, d11⟩ := HS.out.cells (bch HBw.out HBn.out HBw.out.size) HSK.out
          injection e with e1 e2 e3; injection e1 with e1; injection e1 with e1 e4 _; subst e1; subst e4; clear e2 e3
          obtain ⟨r0, r1, r2, r3, r4⟩ := cell5 HRn.out
          refine wp_region_still_tail 7 (by kernel_rfl) (by kernel_rfl) ?_
          simp only [List.take_succ_cons, List.take_zero, List.drop_succ_cons, List.drop_zero]
          iterate 7 still_step
          refine wpStill_nil ?_
          change wpList _ _ _ _ _ wn.drew
          go_wp2_with fail
          refine (refKind_at I s d hd6 _).mono ?_
          rintro e wo ⟨rfl, hbo⟩
          have HBo := Hd (bch (below_drew1 HBn.out) hbo HBn.out.size)
          have HKo := Hd (heap_keep (w := wn.drew) HKn.out hbo)
          clear hbo d0 d1 d2 d3 d4 d5 d6 d7 d8 d9 d10 d11 r0 r1 r2 r3 r4 HBn HRn HKn
          have HOo := Hd (HOd.out.below HBo.out)
          have HBx := Hd (bch HBd.out HBo.out HBd.out.size)
          have hszo := HBx.out.size
          obtain ⟨k0, k1, _, _⟩ := cell2 HKo.out
          by_cases hkd : 0 < kindOf I s d
          ·have HD := Hd (show sagasD I l j ++ deedsD I s (d + 1) = (sagasD I l j ++ deedsD I s d) ++ [((s.id, (d : Int)), kindOf I s d)] by rw [deedsD_succ, show deedD I s d = [((s.id, (d : Int)), kindOf I s d)] by unfold deedD; rw [if_neg HQ.out, if_pos hkd], List.append_assoc])
           have hln : (sagasD I l j ++ deedsD I s d).length < 10000 := by rw [List.length_append]; have := sagas_len I l j; have := deeds_len I s d; omega
           go_wp2_with fail
           refine (lay_at ((s.id, (d : Int)), kindOf I s d) HOo.out hln hszo).mono ?_
           rintro e wp ⟨vp, rfl, hop, hbp⟩
           have HO' := Hd (show RDs wp wa.heap.size vp ((sagasD I l j ++ deedsD I s (d + 1)).foldl layD []) by rw [HD.out]; exact hop)
           have HB' := Hd (bch HBx.out hbp HBx.out.size)
           clear hop hbp
           go_wp2_with fail
           go_roundw
           case rel => exact ⟨d + 1, by go_num, by omega, HO'.out, HB'.out⟩
           case measure => simp [intOf]; omega
          ·have HD := Hd (show deedsD I s (d + 1) = deedsD I s d by rw [deedsD_succ, show deedD I s d = [] by unfold deedD; rw [if_neg HQ.out, if_neg hkd], List.append_nil])
           go_wp2_with fail
           go_roundw
           case rel => exact ⟨d + 1, by go_num, by omega, by rw [HD.out]; exact HOo.out, HBx.out⟩
           case measure => simp [intOf]; omega
        ·have HQA := Hd (show (I.at (partyI (d : Int))).2.1 = I.b.2.1 by rw [hpd]; rfl)
         clear hpd hpb
         by_cases hq : I.b.2.1 = 0
         ·have hq1 := beqT hq
          have HD := Hd (show deedsD I s (d + 1) = deedsD I s d by rw [deedsD_succ, show deedD I s d = [] by unfold deedD; rw [if_pos (HQA.out.trans hq)], List.append_nil])
          clear hq
          go_wp2_with fail
          refine (HP.out _).mono ?_
          rintro e w2 ⟨rfl, hw⟩; subst hw
          go_wp2_with fail
          go_roundw
          case rel => exact ⟨d + 1, by go_num, by omega, by rw [HD.out]; exact HOd.out.below HBk.out, bch HBd.out HBk.out HBd.out.size⟩
          case measure => simp [intOf]; omega
         ·have hq1 := beqF hq
          have HQ := Hd (show ¬ (I.at (partyI (d : Int))).2.1 = 0 by rw [HQA.out]; exact hq)
          clear hq
          go_wp2_with fail
          refine (HP.out _).mono ?_
          rintro e w2 ⟨rfl, hw⟩; subst hw
          go_wp2_with fail
          refine (refRow_any _ _ I s.id d (HII.out.below (bch HBw.out HBk.out HBw.out.size)) HG.out).mono ?_
          rintro e wm ⟨rfl, hbm⟩
          have HBm := Hd (bch HBk.out hbm HBk.out.size)
          have HKm := Hd (heap_keep HKk.out hbm)
          clear hbm i0 i1 i2 i3 i4 i5 i6 i7 i8 k0 k1
          go_upto_region 16 with (fail)
          obtain ⟨wn, hwn⟩ : ∃ wn, wn = wm.alloc (.cells #[.int .i64 (rowOr I s.id d).1.1, .int .i64 (rowOr I s.id d).1.2, .int .i64 (rowOr I s.id d).2.1, .int .i64 (rowOr I s.id d).2.2.1, .int .i64 (rowOr I s.id d).2.2.2] tRow) := ⟨_, rfl⟩
          rw [← hwn]
          have HBn := Hd (show Below wr.heap.size wr wn by rw [hwn]; exact HBm.out.alloc HBm.out.size _)
          have HRn := Hd (show wn.heap[wm.heap.size]? = some (.cells #[.int .i64 (rowOr I s.id d).1.1, .int .i64 (rowOr I s.id d).1.2, .int .i64 (rowOr I s.id d).2.1, .int .i64 (rowOr I s.id d).2.2.1, .int .i64 (rowOr I s.id d).2.2.2] tRow (0, 0)) by rw [hwn]; exact heap_new _ _)
          have HKn := Hd (show wn.heap[wr.heap.size]? = some (.cells #[.int .i64 s.id, .int .i64 d] tKey (0, 0)) by rw [hwn]; exact heap_keep HKm.out (below_alloc _ _))
          clear hwn HBm HKm
          obtain ⟨g', off', n'', c'', e, d0, d1, d2, d3, d4, d5, d6, d7, d8, d9, d10, d11⟩ := HS.out.cells (bch HBw.out HBn.out HBw.out.size) HSK.out
          injection e with e1 e2 e3; injection e1 with e1; injection e1 with e1 e4 _; subst e1; subst e4; clear e2 e3
          obtain ⟨r0, r1, r2, r3, r4⟩ := cell5 HRn.out
          refine wp_region_still_tail 7 (by kernel_rfl) (by kernel_rfl) ?_
          simp only [List.take_succ_cons, List.take_zero, List.drop_succ_cons, List.drop_zero]
          iterate 7 still_step
          refine wpStill_nil ?_
          change wpList _ _ _ _ _ wn.drew
          go_wp2_with fail
          refine (refKind_at I s d hd6 _).mono ?_
          rintro e wo ⟨rfl, hbo⟩
          have HBo := Hd (bch (below_drew1 HBn.out) hbo HBn.out.size)
          have HKo := Hd (heap_keep (w := wn.drew) HKn.out hbo)
          clear hbo d0 d1 d2 d3 d4 d5 d6 d7 d8 d9 d10 d11 r0 r1 r2 r3 r4 HBn HRn HKn
          have HOo := Hd (HOd.out.below HBo.out)
          have HBx := Hd (bch HBd.out HBo.out HBd.out.size)
          have hszo := HBx.out.size
          obtain ⟨k0, k1, _, _⟩ := cell2 HKo.out
          by_cases hkd : 0 < kindOf I s d
          ·have HD := Hd (show sagasD I l j ++ deedsD I s (d + 1) = (sagasD I l j ++ deedsD I s d) ++ [((s.id, (d : Int)), kindOf I s d)] by rw [deedsD_succ, show deedD I s d = [((s.id, (d : Int)), kindOf I s d)] by unfold deedD; rw [if_neg HQ.out, if_pos hkd], List.append_assoc])
           have hln : (sagasD I l j ++ deedsD I s d).length < 10000 := by rw [List.length_append]; have := sagas_len I l j; have := deeds_len I s d; omega
           go_wp2_with fail
           refine (lay_at ((s.id, (d : Int)), kindOf I s d) HOo.out hln hszo).mono ?_
           rintro e wp ⟨vp, rfl, hop, hbp⟩
           have HO' := Hd (show RDs wp wa.heap.size vp ((sagasD I l j ++ deedsD I s (d + 1)).foldl layD []) by rw [HD.out]; exact hop)
           have HB' := Hd (bch HBx.out hbp HBx.out.size)
           clear hop hbp
           go_wp2_with fail
           go_roundw
           case rel => exact ⟨d + 1, by go_num, by omega, HO'.out, HB'.out⟩
           case measure => simp [intOf]; omega
          ·have HD := Hd (show deedsD I s (d + 1) = deedsD I s d by rw [deedsD_succ, show deedD I s d = [] by unfold deedD; rw [if_neg HQ.out, if_neg hkd], List.append_nil])
           go_wp2_with fail
           go_roundw
           case rel => exact ⟨d + 1, by go_num, by omega, by rw [HD.out]; exact HOo.out, HBx.out⟩
           case measure => simp [intOf]; omega
        ·have HQA := Hd (show (I.at (partyI (d : Int))).2.1 = I.c.2.1 by rw [hpd]; rfl)
         clear hpd hpb
         by_cases hq : I.c.2.1 = 0
         ·have hq1 := beqT hq
          have HD := Hd (show deedsD I s (d + 1) = deedsD I s d by rw [deedsD_succ, show deedD I s d = [] by unfold deedD; rw [if_pos (HQA.out.trans hq)], List.append_nil])
          clear hq
          go_wp2_with fail
          refine (HP.out _).mono ?_
          rintro e w2 ⟨rfl, hw⟩; subst hw
          go_wp2_with fail
          go_roundw
          case rel => exact ⟨d + 1, by go_num, by omega, by rw [HD.out]; exact HOd.out.below HBk.out, bch HBd.out HBk.out HBd.out.size⟩
          case measure => simp [intOf]; omega
         ·have hq1 := beqF hq
          have HQ := Hd (show ¬ (I.at (partyI (d : Int))).2.1 = 0 by rw [HQA.out]; exact hq)
          clear hq
          go_wp2_with fail
          refine (HP.out _).mono ?_
          rintro e w2 ⟨rfl, hw⟩; subst hw
          go_wp2_with fail
          refine (refRow_any _ _ I s.id d (HII.out.below (bch HBw.out HBk.out HBw.out.size)) HG.out).mono ?_
          rintro e wm ⟨rfl, hbm⟩
          have HBm := Hd (bch HBk.out hbm HBk.out.size)
          have HKm := Hd (heap_keep HKk.out hbm)
          clear hbm i0 i1 i2 i3 i4 i5 i6 i7 i8 k0 k1
          go_upto_region 16 with (fail)
          obtain ⟨wn, hwn⟩ : ∃ wn, wn = wm.alloc (.cells #[.int .i64 (rowOr I s.id d).1.1, .int .i64 (rowOr I s.id d).1.2, .int .i64 (rowOr I s.id d).2.1, .int .i64 (rowOr I s.id d).2.2.1, .int .i64 (rowOr I s.id d).2.2.2] tRow) := ⟨_, rfl⟩
          rw [← hwn]
          have HBn := Hd (show Below wr.heap.size wr wn by rw [hwn]; exact HBm.out.alloc HBm.out.size _)
          have HRn := Hd (show wn.heap[wm.heap.size]? = some (.cells #[.int .i64 (rowOr I s.id d).1.1, .int .i64 (rowOr I s.id d).1.2, .int .i64 (rowOr I s.id d).2.1, .int .i64 (rowOr I s.id d).2.2.1, .int .i64 (rowOr I s.id d).2.2.2] tRow (0, 0)) by rw [hwn]; exact heap_new _ _)
          have HKn := Hd (show wn.heap[wr.heap.size]? = some (.cells #[.int .i64 s.id, .int .i64 d] tKey (0, 0)) by rw [hwn]; exact heap_keep HKm.out (below_alloc _ _))
          clear hwn HBm HKm
          obtain ⟨g', off', n'', c'', e, d0, d1, d2, d3, d4, d5, d6, d7, d8, d9, d10, d11⟩ := HS.out.cells (bch HBw.out HBn.out HBw.out.size) HSK.out
          injection e with e1 e2 e3; injection e1 with e1; injection e1 with e1 e4 _; subst e1; subst e4; clear e2 e3
          obtain ⟨r0, r1, r2, r3, r4⟩ := cell5 HRn.out
          refine wp_region_still_tail 7 (by kernel_rfl) (by kernel_rfl) ?_
          simp only [List.take_succ_cons, List.take_zero, List.drop_succ_cons, List.drop_zero]
          iterate 7 still_step
          refine wpStill_nil ?_
          change wpList _ _ _ _ _ wn.drew
          go_wp2_with fail
          refine (refKind_at I s d hd6 _).mono ?_
          rintro e wo ⟨rfl, hbo⟩
          have HBo := Hd (bch (below_drew1 HBn.out) hbo HBn.out.size)
          have HKo := Hd (heap_keep (w := wn.drew) HKn.out hbo)
          clear hbo d0 d1 d2 d3 d4 d5 d6 d7 d8 d9 d10 d11 r0 r1 r2 r3 r4 HBn HRn HKn
          have HOo := Hd (HOd.out.below HBo.out)
          have HBx := Hd (bch HBd.out HBo.out HBd.out.size)
          have hszo := HBx.out.size
          obtain ⟨k0, k1, _, _⟩ := cell2 HKo.out
          by_cases hkd : 0 < kindOf I s d
          ·have HD := Hd (show sagasD I l j ++ deedsD I s (d + 1) = (sagasD I l j ++ deedsD I s d) ++ [((s.id, (d : Int)), kindOf I s d)] by rw [deedsD_succ, show deedD I s d = [((s.id, (d : Int)), kindOf I s d)] by unfold deedD; rw [if_neg HQ.out, if_pos hkd], List.append_assoc])
           have hln : (sagasD I l j ++ deedsD I s d).length < 10000 := by rw [List.length_append]; have := sagas_len I l j; have := deeds_len I s d; omega
           go_wp2_with fail
           refine (lay_at ((s.id, (d : Int)), kindOf I s d) HOo.out hln hszo).mono ?_
           rintro e wp ⟨vp, rfl, hop, hbp⟩
           have HO' := Hd (show RDs wp wa.heap.size vp ((sagasD I l j ++ deedsD I s (d + 1)).foldl layD []) by rw [HD.out]; exact hop)
           have HB' := Hd (bch HBx.out hbp HBx.out.size)
           clear hop hbp
           go_wp2_with fail
           go_roundw
           case rel => exact ⟨d + 1, by go_num, by omega, HO'.out, HB'.out⟩
           case measure => simp [intOf]; omega
          ·have HD := Hd (show deedsD I s (d + 1) = deedsD I s d by rw [deedsD_succ, show deedD I s d = [] by unfold deedD; rw [if_neg HQ.out, if_neg hkd], List.append_nil])
           go_wp2_with fail
           go_roundw
           case rel => exact ⟨d + 1, by go_num, by omega, by rw [HD.out]; exact HOo.out, HBx.out⟩
           case measure => simp [intOf]; omega
       ·have hd6' : (6 : Int) ≤ d := by omega
        obtain rfl : d = 6 := by omega
        have HO' := Hd (show RDs wr wa.heap.size u5 ((sagasD I l (j + 1)).foldl layD []) by rw [HN.out]; exact HOd.out)
        go_wp2_with fail
        go_roundw
        case rel => exact ⟨j + 1, by go_num, by omega, HO'.out, HBd.out⟩
        case measure => simp [intOf]; omega
  ·have hkl' : (l.length : Int) ≤ k := by omega
   obtain rfl : k = l.length := by omega
   have HAL := Hd (show sagasD I l l.length ++ rowsD l (preK I (0 : Int).toNat) = sagasD I l l.length by rw [show rowsD l (preK I (0 : Int).toNat) = [] from rfl, List.append_nil])
   go_wp2_with fail
   go_loopw [5, 14] (fun v i wr => ∃ p : Int, i = .int .i64 p ∧ 0 ≤ p ∧ p ≤ 3 ∧ Hid (RDs wr wa.heap.size v ((sagasD I l l.length ++ rowsD l (preK I p.toNat)).foldl layD [])) ∧ Hid (Below wa.heap.size wa wr)) (fun _ i _ => 3 - (intOf i).toNat)
   case atStart => exact ⟨0, rfl, by omega, by omega, by rw [HAL.out]; exact HOr.out, HBr.out⟩
   case round =>
    obtain ⟨p, rfl, hp0, hp3, HOp, HBp⟩ := hrel
    rcases (show p = 0 ∨ p = 1 ∨ p = 2 ∨ p = 3 by omega) with rfl | rfl | rfl | rfl
    ·have HPS := Hd (show preK I (1 : Int).toNat = preK I (0 : Int).toNat ++ I.a.2.2 from preK_succ I (p := 0) (by omega))
     have hRl := In.ok_len HG.out.a
     have HP4 := preK_len HG.out (0 : Int).toNat
     obtain ⟨_, _, e, _⟩ := H0.out.shape
     injection e with e1 e2 e3; subst e2; clear e1 e3
     have HCKR := Hd (show ∀ y ∈ I.a.2.2, chkB y.1 = true from fun y hy => (In.okRow_party (In.ok_rows HG.out.a y hy)).2)
     generalize preK I (0 : Int).toNat = PK at HOp HPS HP4
     go_wp2_with fail
     go_loopw [5, 15] (fun v i wr => ∃ j : Nat, i = .int .i64 j ∧ j ≤ I.a.2.2.length ∧ Hid (RDs wr wa.heap.size v ((sagasD I l l.length ++ rowsD l (PK ++ I.a.2.2.take j)).foldl layD [])) ∧ Hid (Below wa.heap.size wa wr)) (fun _ i _ => I.a.2.2.length - (intOf i).toNat)
     case atStart => exact ⟨0, rfl, Nat.zero_le _, by rw [List.take_zero, List.append_nil]; exact HOp.out, HBp.out⟩
     case round =>
      obtain ⟨j, rfl, hj, HOj, HBj⟩ := hrel
      have hszj := HBj.out.size
      have HBw := Hd (bch HB.out HBj.out HB.out.size)
      have HIj := Hd (heap_keep HX.out HBj.out)
      obtain ⟨i0, i1, i2, i3, i4, i5, i6, i7, i8⟩ := cell9 HIj.out
      by_cases hjl : j < I.a.2.2.length
      ·obtain ⟨y, hy⟩ : ∃ y, I.a.2.2[j]? = some y := ⟨_, List.getElem?_eq_getElem hjl⟩
       have HSN := Hd (rowsD_snoc (l := l) hy PK)
       have HYY := Hd hy
       obtain ⟨g, off, n', c', e, d0, d1, d2, d3, d4⟩ := (H0.out.keep HBw.out).cells (Below.refl _ _) hy
       injection e with e1 e2 e3
       subst e1; clear e2 e3
       have HDD := Hd (fun W (hb : Below w.heap.size w W) => (show W.cell? ⟨g, off + j * 5, none⟩ = some (.int .i64 y.1.1) ∧ W.cell? ⟨g, off + j * 5 + 1, none⟩ = some (.int .i64 y.1.2) by
        obtain ⟨g', off', n'', c'', e, d0, d1, _⟩ := H0.out.cells hb HYY.out
        injection e with e1 e2 e3; injection e1 with e1; injection e1 with e1 e4 _; subst e1; subst e4
        exact ⟨d0, d1⟩))
       have hjl' : (j : Int) < I.a.2.2.length := by omega
       have hj0 : (0 : Int) ≤ j := by omega
       clear hy
       obtain ⟨⟨o, d⟩, t, a, q'⟩ := y
       simp only [] at d0 d1 HDD
       clear d2 d3 d4
       go_wp2_with fail
       go_loopw [16, 17] (fun b i wq => ∃ k : Nat, i = .int .i64 k ∧ k ≤ l.length ∧ b = .bool (knownTo l k o) ∧ Hid (Below wr.heap.size wr wq)) (fun _ i _ => l.length - (intOf i).toNat)
       case atStart => exact ⟨0, rfl, Nat.zero_le _, rfl, Below.refl _ _⟩
       case round =>
        obtain ⟨k, rfl, hk, rfl, HBq⟩ := hrel
        have HBv := Hd (bch HBw.out HBq.out HBw.out.size)
        have HIq := Hd (heap_keep HIj.out HBq.out)
        clear i0 i1 i2 i3 i4 i5 i6 i7 i8 d0 d1
        obtain ⟨i0, i1, i2, i3, i4, i5, i6, i7, i8⟩ := cell9 HIq.out
        obtain ⟨d0, d1⟩ := HDD.out _ HBv.out
        by_cases hkl : k < l.length
        ·obtain ⟨s, hs⟩ : ∃ s, l[k]? = some s := ⟨_, List.getElem?_eq_getElem hkl⟩
         have HKS := Hd (known_succ hs o)
         obtain ⟨gs, offs, n', c', e, t0, _⟩ := (HS.out.keep HBv.out).cells (Below.refl _ _) hs
         injection e with e1 e2 e3
         subst e1; clear e2 e3
         have hk0 : (0 : Int) ≤ k := by omega
         have hkl' : (k : Int) < l.length := by omega
         clear hs
         cases hf : knownTo l k o with
         | true =>
          have HF := Hd (show knownTo l (k + 1) o = true by rw [HKS.out, hf]; rfl)
          clear hf
          go_wp2_with fail
          go_quiet (fail)
          go_wp2_with fail
          go_roundw
          case rel => exact ⟨k + 1, by go_num, by omega, by rw [HF.out], below_drewN HBq.out _⟩
          case measure => simp [intOf]; omega
         | false =>
          by_cases hi : s.id = o
          ·have hi1 := beqT hi
           have HF := Hd (show knownTo l (k + 1) o = true by rw [HKS.out, hf]; simp [hi])
           clear hf hi
           go_wp2_with fail
           go_quiet (fail)
           go_wp2_with fail
           go_roundw
           case rel => exact ⟨k + 1, by go_num, by omega, by rw [HF.out], below_drewN HBq.out _⟩
           case measure => simp [intOf]; omega
          ·have hi1 := beqF hi
           have HF := Hd (show knownTo l (k + 1) o = false by rw [HKS.out, hf]; simp [hi])
           clear hf hi
           go_wp2_with fail
           go_quiet (fail)
           go_wp2_with fail
           go_roundw
           case rel => exact ⟨k + 1, by go_num, by omega, by rw [HF.out], below_drewN HBq.out _⟩
           case measure => simp [intOf]; omega
        ·have hkl' : ¬ (k : Int) < l.length := by omega
         obtain rfl : k = l.length := by omega
         have HOq := Hd (HOj.out.below HBq.out)
         have HBz := Hd (bch HBj.out HBq.out HBj.out.size)
         have hszz := HBz.out.size
         cases hf : knownTo l l.length o with
         | true =>
          have HN2 := Hd (show Ma.rowD l ((o, d), t, a, q') = [] by unfold Ma.rowD; rw [← known_all, hf]; rfl)
          clear hf
          go_wp2_with fail
          go_roundw
          case rel => exact ⟨j + 1, by go_num, by omega, by rw [HSN.out, HN2.out, List.append_nil]; exact HOq.out, HBz.out⟩
          case measure => simp [intOf]; omega
         | false =>
          have HN2 := Hd (show Ma.rowD l ((o, d), t, a, q') = [((o, d), 5)] by unfold Ma.rowD; rw [← known_all, hf]; rfl)
          clear hf
          have hln : (sagasD I l l.length ++ rowsD l (PK ++ I.a.2.2.take j)).length < 10000 := by rw [List.length_append]; have := sagas_len I l l.length; have := rowsD_len l (PK ++ I.a.2.2.take j); simp at this; omega
          go_wp2_with fail
          refine (lay_at ((o, d), 5) HOq.out hln hszz).mono ?_
          rintro e wp ⟨vp, rfl, hop, hbp⟩
          have HO' := Hd (show RDs wp wa.heap.size vp ((sagasD I l l.length ++ rowsD l (PK ++ I.a.2.2.take (j + 1))).foldl layD []) by rw [HSN.out, HN2.out, ← List.append_assoc]; exact hop)
          have HB' := Hd (bch HBz.out hbp HBz.out.size)
          clear hop hbp
          go_wp2_with fail
          go_roundw
          case rel => exact ⟨j + 1, by go_num, by omega, HO'.out, HB'.out⟩
          case measure => simp [intOf]; omega
      ·have hjl' : (I.a.2.2.length : Int) ≤ j := by omega
       have HO' := Hd (show RDs wr wa.heap.size u5 ((sagasD I l l.length ++ rowsD l (preK I (1 : Int).toNat)).foldl layD []) by rw [HPS.out]; have := HOj.out; rwa [List.take_of_length_le (by omega)] at this)
       go_wp2_with fail
       go_roundw
       case rel => exact ⟨1, rfl, by omega, by omega, HO'.out, HBj.out⟩
       case measure => simp [intOf]
    ·have HPS := Hd (show preK I (2 : Int).toNat = preK I (1 : Int).toNat ++ I.b.2.2 from preK_succ I (p := 1) (by omega))
     have hRl := In.ok_len HG.out.b
     have HP4 := preK_len HG.out (1 : Int).toNat
     obtain ⟨_, _, e, _⟩ := H1.out.shape
     injection e with e1 e2 e3; subst e2; clear e1 e3
     have HCKR := Hd (show ∀ y ∈ I.b.2.2, chkB y.1 = true from fun y hy => (In.okRow_party (In.ok_rows HG.out.b y hy)).2)
     generalize preK I (1 : Int).toNat = PK at HOp HPS HP4
     go_wp2_with fail
     go_loopw [5, 15] (fun v i wr => ∃ j : Nat, i = .int .i64 j ∧ j ≤ I.b.2.2.length ∧ Hid (RDs wr wa.heap.size v ((sagasD I l l.length ++ rowsD l (PK ++ I.b.2.2.take j)).foldl layD [])) ∧ Hid (Below wa.heap.size wa wr)) (fun _ i _ => I.b.2.2.length - (intOf i).toNat)
     case atStart => exact ⟨0, rfl, Nat.zero_le _, by rw [List.take_zero, List.append_nil]; exact HOp.out, HBp.out⟩
     case round =>
      obtain ⟨j, rfl, hj, HOj, HBj⟩ := hrel
      have hszj := HBj.out.size
      have HBw := Hd (bch HB.out HBj.out HB.out.size)
      have HIj := Hd (heap_keep HX.out HBj.out)
      obtain ⟨i0, i1, i2, i3, i4, i5, i6, i7, i8⟩ := cell9 HIj.out
      by_cases hjl : j < I.b.2.2.length
      ·obtain ⟨y, hy⟩ : ∃ y, I.b.2.2[j]? = some y := ⟨_, List.getElem?_eq_getElem hjl⟩
       have HSN := Hd (rowsD_snoc (l := l) hy PK)
       have HYY := Hd hy
       obtain ⟨g, off, n', c', e, d0, d1, d2, d3, d4⟩ := (H1.out.keep HBw.out).cells (Below.refl _ _) hy
       injection e with e1 e2 e3
       subst e1; clear e2 e3
       have HDD := Hd (fun W (hb : Below w.heap.size w W) => (show W.cell? ⟨g, off + j * 5, none⟩ = some (.int .i64 y.1.1) ∧ W.cell? ⟨g, off + j * 5 + 1, none⟩ = some (.int .i64 y.1.2) by
        obtain ⟨g', off', n'', c'', e, d0, d1, _⟩ := H1.out.cells hb HYY.out
        injection e with e1 e2 e3; injection e1 with e1; injection e1 with e1 e4 _; subst e1; subst e4
        exact ⟨d0, d1⟩))
       have hjl' : (j : Int) < I.b.2.2.length := by omega
       have hj0 : (0 : Int) ≤ j := by omega
       clear hy
       obtain ⟨⟨o, d⟩, t, a, q'⟩ := y
       simp only [] at d0 d1 HDD
       clear d2 d3 d4
       go_wp2_with fail
       go_loopw [16, 17] (fun b i wq => ∃ k : Nat, i = .int .i64 k ∧ k ≤ l.length ∧ b = .bool (knownTo l k o) ∧ Hid (Below wr.heap.size wr wq)) (fun _ i _ => l.length - (intOf i).toNat)
       case atStart => exact ⟨0, rfl, Nat.zero_le _, rfl, Below.refl _ _⟩
       case round =>
        obtain ⟨k, rfl, hk, rfl, HBq⟩ := hrel
        have HBv := Hd (bch HBw.out HBq.out HBw.out.size)
        have HIq := Hd (heap_keep HIj.out HBq.out)
        clear i0 i1 i2 i3 i4 i5 i6 i7 i8 d0 d1
        obtain ⟨i0, i1, i2, i3, i4, i5, i6, i7, i8⟩ := cell9 HIq.out
        obtain ⟨d0, d1⟩ := HDD.out _ HBv.out
        by_cases hkl : k < l.length
        ·obtain ⟨s, hs⟩ : ∃ s, l[k]? = some s := ⟨_, List.getElem?_eq_getElem hkl⟩
         have HKS := Hd (known_succ hs o)
         obtain ⟨gs, offs, n', c', e, t0, _⟩ := (HS.out.keep HBv.out).cells (Below.refl _ _) hs
         injection e with e1 e2 e3
         subst e1; clear e2 e3
         have hk0 : (0 : Int) ≤ k := by omega
         have hkl' : (k : Int) < l.length := by omega
         clear hs
         cases hf : knownTo l k o with
         | true =>
          have HF := Hd (show knownTo l (k + 1) o = true by rw [HKS.out, hf]; rfl)
          clear hf
          go_wp2_with fail
          go_quiet (fail)
          go_wp2_with fail
          go_roundw
          case rel => exact ⟨k + 1, by go_num, by omega, by rw [HF.out], below_drewN HBq.out _⟩
          case measure => simp [intOf]; omega
         | false =>
          by_cases hi : s.id = o
          ·have hi1 := beqT hi
           have HF := Hd (show knownTo l (k + 1) o = true by rw [HKS.out, hf]; simp [hi])
           clear hf hi
           go_wp2_with fail
           go_quiet (fail)
           go_wp2_with fail
           go_roundw
           case rel => exact ⟨k + 1, by go_num, by omega, by rw [HF.out], below_drewN HBq.out _⟩
           case measure => simp [intOf]; omega
          ·have hi1 := beqF hi
           have HF := Hd (show knownTo l (k + 1) o = false by rw [HKS.out, hf]; simp [hi])
           clear hf hi
           go_wp2_with fail
           go_quiet (fail)
           go_wp2_with fail
           go_roundw
           case rel => exact ⟨k + 1, by go_num, by omega, by rw [HF.out], below_drewN HBq.out _⟩
           case measure => simp [intOf]; omega
        ·have hkl' : ¬ (k : Int) < l.length := by omega
         obtain rfl : k = l.length := by omega
         have HOq := Hd (HOj.out.below HBq.out)
         have HBz := Hd (bch HBj.out HBq.out HBj.out.size)
         have hszz := HBz.out.size
         cases hf : knownTo l l.length o with
         | true =>
          have HN2 := Hd (show Ma.rowD l ((o, d), t, a, q') = [] by unfold Ma.rowD; rw [← known_all, hf]; rfl)
          clear hf
          go_wp2_with fail
          go_roundw
          case rel => exact ⟨j + 1, by go_num, by omega, by rw [HSN.out, HN2.out, List.append_nil]; exact HOq.out, HBz.out⟩
          case measure => simp [intOf]; omega
         | false =>
          have HN2 := Hd (show Ma.rowD l ((o, d), t, a, q') = [((o, d), 5)] by unfold Ma.rowD; rw [← known_all, hf]; rfl)
          clear hf
          have hln : (sagasD I l l.length ++ rowsD l (PK ++ I.b.2.2.take j)).length < 10000 := by rw [List.length_append]; have := sagas_len I l l.length; have := rowsD_len l (PK ++ I.b.2.2.take j); simp at this; omega
          go_wp2_with fail
          refine (lay_at ((o, d), 5) HOq.out hln hszz).mono ?_
          rintro e wp ⟨vp, rfl, hop, hbp⟩
          have HO' := Hd (show RDs wp wa.heap.size vp ((sagasD I l l.length ++ rowsD l (PK ++ I.b.2.2.take (j + 1))).foldl layD []) by rw [HSN.out, HN2.out, ← List.append_assoc]; exact hop)
          have HB' := Hd (bch HBz.out hbp HBz.out.size)
          clear hop hbp
          go_wp2_with fail
          go_roundw
          case rel => exact ⟨j + 1, by go_num, by omega, HO'.out, HB'.out⟩
          case measure => simp [intOf]; omega
      ·have hjl' : (I.b.2.2.length : Int) ≤ j := by omega
       have HO' := Hd (show RDs wr wa.heap.size u5 ((sagasD I l l.length ++ rowsD l (preK I (2 : Int).toNat)).foldl layD []) by rw [HPS.out]; have := HOj.out; rwa [List.take_of_length_le (by omega)] at this)
       go_wp2_with fail
       go_roundw
       case rel => exact ⟨2, rfl, by omega, by omega, HO'.out, HBj.out⟩
       case measure => simp [intOf]
    ·have HPS := Hd (show preK I (3 : Int).toNat = preK I (2 : Int).toNat ++ I.c.2.2 from preK_succ I (p := 2) (by omega))
     have hRl := In.ok_len HG.out.c
     have HP4 := preK_len HG.out (2 : Int).toNat
     obtain ⟨_, _, e, _⟩ := H2.out.shape
     injection e with e1 e2 e3; subst e2; clear e1 e3
     have HCKR := Hd (show ∀ y ∈ I.c.2.2, chkB y.1 = true from fun y hy => (In.okRow_party (In.ok_rows HG.out.c y hy)).2)
     generalize preK I (2 : Int).toNat = PK at HOp HPS HP4
     go_wp2_with fail
     go_loopw [5, 15] (fun v i wr => ∃ j : Nat, i = .int .i64 j ∧ j ≤ I.c.2.2.length ∧ Hid (RDs wr wa.heap.size v ((sagasD I l l.length ++ rowsD l (PK ++ I.c.2.2.take j)).foldl layD [])) ∧ Hid (Below wa.heap.size wa wr)) (fun _ i _ => I.c.2.2.length - (intOf i).toNat)
     case atStart => exact ⟨0, rfl, Nat.zero_le _, by rw [List.take_zero, List.append_nil]; exact HOp.out, HBp.out⟩
     case round =>
      obtain ⟨j, rfl, hj, HOj, HBj⟩ := hrel
      have hszj := HBj.out.size
      have HBw := Hd (bch HB.out HBj.out HB.out.size)
      have HIj := Hd (heap_keep HX.out HBj.out)
      obtain ⟨i0, i1, i2, i3, i4, i5, i6, i7, i8⟩ := cell9 HIj.out
      by_cases hjl : j < I.c.2.2.length
      ·obtain ⟨y, hy⟩ : ∃ y, I.c.2.2[j]? = some y := ⟨_, List.getElem?_eq_getElem hjl⟩
       have HSN := Hd (rowsD_snoc (l := l) hy PK)
       have HYY := Hd hy
       obtain ⟨g, off, n', c', e, d0, d1, d2, d3, d4⟩ := (H2.out.keep HBw.out).cells (Below.refl _ _) hy
       injection e with e1 e2 e3
       subst e1; clear e2 e3
       have HDD := Hd (fun W (hb : Below w.heap.size w W) => (show W.cell? ⟨g, off + j * 5, none⟩ = some (.int .i64 y.1.1) ∧ W.cell? ⟨g, off + j * 5 + 1, none⟩ = some (.int .i64 y.1.2) by
        obtain ⟨g', off', n'', c'', e, d0, d1, _⟩ := H2.out.cells hb HYY.out
        injection e with e1 e2 e3; injection e1 with e1; injection e1 with e1 e4 _; subst e1; subst e4
        exact ⟨d0, d1⟩))
       have hjl' : (j : Int) < I.c.2.2.length := by omega
       have hj0 : (0 : Int) ≤ j := by omega
       clear hy
       obtain ⟨⟨o, d⟩, t, a, q'⟩ := y
       simp only [] at d0 d1 HDD
       clear d2 d3 d4
       go_wp2_with fail
       go_loopw [16, 17] (fun b i wq => ∃ k : Nat, i = .int .i64 k ∧ k ≤ l.length ∧ b = .bool (knownTo l k o) ∧ Hid (Below wr.heap.size wr wq)) (fun _ i _ => l.length - (intOf i).toNat)
       case atStart => exact ⟨0, rfl, Nat.zero_le _, rfl, Below.refl _ _⟩
       case round =>
        obtain ⟨k, rfl, hk, rfl, HBq⟩ := hrel
        have HBv := Hd (bch HBw.out HBq.out HBw.out.size)
        have HIq := Hd (heap_keep HIj.out HBq.out)
        clear i0 i1 i2 i3 i4 i5 i6 i7 i8 d0 d1
        obtain ⟨i0, i1, i2, i3, i4, i5, i6, i7, i8⟩ := cell9 HIq.out
        obtain ⟨d0, d1⟩ := HDD.out _ HBv.out
        by_cases hkl : k < l.length
        ·obtain ⟨s, hs⟩ : ∃ s, l[k]? = some s := ⟨_, List.getElem?_eq_getElem hkl⟩
         have HKS := Hd (known_succ hs o)
         obtain ⟨gs, offs, n', c', e, t0, _⟩ := (HS.out.keep HBv.out).cells (Below.refl _ _) hs
         injection e with e1 e2 e3
         subst e1; clear e2 e3
         have hk0 : (0 : Int) ≤ k := by omega
         have hkl' : (k : Int) < l.length := by omega
         clear hs
         cases hf : knownTo l k o with
         | true =>
          have HF := Hd (show knownTo l (k + 1) o = true by rw [HKS.out, hf]; rfl)
          clear hf
          go_wp2_with fail
          go_quiet (fail)
          go_wp2_with fail
          go_roundw
          case rel => exact ⟨k + 1, by go_num, by omega, by rw [HF.out], below_drewN HBq.out _⟩
          case measure => simp [intOf]; omega
         | false =>
          by_cases hi : s.id = o
          ·have hi1 := beqT hi
           have HF := Hd (show knownTo l (k + 1) o = true by rw [HKS.out, hf]; simp [hi])
           clear hf hi
           go_wp2_with fail
           go_quiet (fail)
           go_wp2_with fail
           go_roundw
           case rel => exact ⟨k + 1, by go_num, by omega, by rw [HF.out], below_drewN HBq.out _⟩
           case measure => simp [intOf]; omega
          ·have hi1 := beqF hi
           have HF := Hd (show knownTo l (k + 1) o = false by rw [HKS.out, hf]; simp [hi])
           clear hf hi
           go_wp2_with fail
           go_quiet (fail)
           go_wp2_with fail
           go_roundw
           case rel => exact ⟨k + 1, by go_num, by omega, by rw [HF.out], below_drewN HBq.out _⟩
           case measure => simp [intOf]; omega
        ·have hkl' : ¬ (k : Int) < l.length := by omega
         obtain rfl : k = l.length := by omega
         have HOq := Hd (HOj.out.below HBq.out)
         have HBz := Hd (bch HBj.out HBq.out HBj.out.size)
         have hszz := HBz.out.size
         cases hf : knownTo l l.length o with
         | true =>
          have HN2 := Hd (show Ma.rowD l ((o, d), t, a, q') = [] by unfold Ma.rowD; rw [← known_all, hf]; rfl)
          clear hf
          go_wp2_with fail
          go_roundw
          case rel => exact ⟨j + 1, by go_num, by omega, by rw [HSN.out, HN2.out, List.append_nil]; exact HOq.out, HBz.out⟩
          case measure => simp [intOf]; omega
         | false =>
          have HN2 := Hd (show Ma.rowD l ((o, d), t, a, q') = [((o, d), 5)] by unfold Ma.rowD; rw [← known_all, hf]; rfl)
          clear hf
          have hln : (sagasD I l l.length ++ rowsD l (PK ++ I.c.2.2.take j)).length < 10000 := by rw [List.length_append]; have := sagas_len I l l.length; have := rowsD_len l (PK ++ I.c.2.2.take j); simp at this; omega
          go_wp2_with fail
          refine (lay_at ((o, d), 5) HOq.out hln hszz).mono ?_
          rintro e wp ⟨vp, rfl, hop, hbp⟩
          have HO' := Hd (show RDs wp wa.heap.size vp ((sagasD I l l.length ++ rowsD l (PK ++ I.c.2.2.take (j + 1))).foldl layD []) by rw [HSN.out, HN2.out, ← List.append_assoc]; exact hop)
          have HB' := Hd (bch HBz.out hbp HBz.out.size)
          clear hop hbp
          go_wp2_with fail
          go_roundw
          case rel => exact ⟨j + 1, by go_num, by omega, HO'.out, HB'.out⟩
          case measure => simp [intOf]; omega
      ·have hjl' : (I.c.2.2.length : Int) ≤ j := by omega
       have HO' := Hd (show RDs wr wa.heap.size u5 ((sagasD I l l.length ++ rowsD l (preK I (3 : Int).toNat)).foldl layD []) by rw [HPS.out]; have := HOj.out; rwa [List.take_of_length_le (by omega)] at this)
       go_wp2_with fail
       go_roundw
       case rel => exact ⟨3, rfl, by omega, by omega, HO'.out, HBj.out⟩
       case measure => simp [intOf]
    ·have HO' := Hd (show RDs wr wa.heap.size u5 (findD l I) from HOp.out)
     have HBf := Hd (bch HB.out HBp.out HB.out.size)
     clear HOp
     go_wp2_with fail
     go_ret
     exact ⟨_, rfl, own_weak HO'.out (by omega), HBf.out⟩
end Go.Proofs.YtiagdpfmmjhgcaaGreatDoor

/- manifest's reject, put, number, cell, read: what they compute. -/
import Derived.Test.YtgpjbigelblanaaGreatDoorManifestGen
import Derived.Test.YtgpjbigelblanaaGreatDoorKeyMap
namespace Go.Proofs.YtgpjbigelblanaaGreatDoor
open Go.RowKit Go.Maps Key Mon Mf Rw

theorem mreject_any (c k : Int) (w : World) : Calls Tryz.prog 78 #[.int .i64 c, .int .i64 k] w fun e w' => e = .returned (.agg #[.int .i64 0, .int .i64 c, .int .i64 k]) ∧ Below w.heap.size w w' := by
  go_enter Tryz.func78, Tryz.ntmps78
  go_wp2_with fail
  refine bodyPost_ret (v := .agg #[.int .i64 0, .int .i64 c, .int .i64 k]) (by simp [results, Tryz.results78, go_sem]) rfl ⟨rfl, below_alloc _ _⟩
theorem mput_any (n : Int) (w : World) (hn : InR n) (hM : MW w) : Calls Tryz.prog 46 #[.int .i64 n] w fun e w' => e = .returned (.string ⟨(Lib.itoa n).toArray⟩) ∧ Below w.heap.size w w' := by
  have HP := Lib.hid (put_any n w hn hM)
  clear hM
  obtain ⟨hn1, hn2⟩ := hn
  go_enter Tryz.func46, Tryz.ntmps46
  go_wp2_with fail
  refine HP.out.mono ?_
  rintro e w1 ⟨rfl, hb⟩
  have HB := Lib.hid hb
  clear hb
  go_wp2_with fail
  go_ret
  exact ⟨rfl, HB.out⟩
theorem mnumber_any (s : ByteArray) (a b : Int) (w : World) (hs : s.size ≤ 1000000) (hM : MW w) : Calls Tryz.prog 95 #[.string s, .int .i64 a, .int .i64 b] w fun e w' => e = .returned (.tuple #[.int .i64 (getM s.data.toList).1, .bool (Sk.numB s.data.toList a b)]) ∧ Below w.heap.size w w' := by
  obtain ⟨x, y, hR⟩ : ∃ x y, getM s.data.toList = (x, y) := ⟨_, _, rfl⟩
  have HG := Lib.hid (get_any s w hs hM)
  have HN := Lib.hid (show Sk.numB s.data.toList a b = (y && decide (a ≤ x) && decide (x ≤ b)) by unfold Sk.numB; rw [hR])
  rw [hR] at HG
  unfold pairV at HG
  rw [hR, HN.out]
  clear hR hM
  cases y with
  | false =>
    go_enter Tryz.func95, Tryz.ntmps95
    go_wp2_with fail
    refine HG.out.mono ?_
    rintro e w1 ⟨rfl, hb⟩
    have HB := Lib.hid hb
    clear hb
    go_wp2_with fail
    go_ret2
    exact ⟨rfl, HB.out⟩
  | true =>
    by_cases h1 : a ≤ x
    · have q1 := decide_eq_true h1
      by_cases h2 : x ≤ b
      · have q2 := decide_eq_true h2
        go_enter Tryz.func95, Tryz.ntmps95
        go_wp2_with fail
        refine HG.out.mono ?_
        rintro e w1 ⟨rfl, hb⟩
        have HB := Lib.hid hb
        clear hb
        go_wp2_with fail
        go_ret2
        exact ⟨by rw [q1, q2]; rfl, HB.out⟩
      · have q2 := decide_eq_false h2
        go_enter Tryz.func95, Tryz.ntmps95
        go_wp2_with fail
        refine HG.out.mono ?_
        rintro e w1 ⟨rfl, hb⟩
        have HB := Lib.hid hb
        clear hb
        go_wp2_with fail
        go_ret2
        exact ⟨by rw [q1, q2]; rfl, HB.out⟩
    · have q1 := decide_eq_false h1
      go_enter Tryz.func95, Tryz.ntmps95
      go_wp2_with fail
      refine HG.out.mono ?_
      rintro e w1 ⟨rfl, hb⟩
      have HB := Lib.hid hb
      clear hb
      go_wp2_with fail
      go_ret2
      exact ⟨by rw [q1]; rfl, HB.out⟩

abbrev tBk : TypeId := 68
theorem bkMap : Tryz.prog.underlying tBk = some (.map tKey tRow) := by kernel_rfl
theorem zeroRowM (w : World) : (zeroValue tRow).run Tryz.prog w = .ok (mkRow ((0, 0), 0, 0, 0)) w := by kernel_rfl
/-- The map has of these rows each one, by its key. -/
def OfRows (l : List R5) (E : List ((Int × Int) × R5)) : Prop := ∀ p, p ∈ E ↔ ∃ x ∈ l, p = (x.1, x)
theorem deedRow_of {l : List R5} {E : List ((Int × Int) × R5)} (h : OfRows l E) (hp : l.Pairwise fun x y => lessR x y = true) {o d : Int} {x : R5} (hx : ((o, d), x) ∈ E) : deedRow l o d = some x := by
  obtain ⟨y, hy, e⟩ := (h _).1 hx
  injection e with e1 e2
  subst e2
  have := deedRow_mem hp hy
  rw [← e1] at this
  exact this
theorem deedRow_no {l : List R5} {E : List ((Int × Int) × R5)} (h : OfRows l E) {o d : Int} (hn : ∀ p ∈ E, p.1 ≠ (o, d)) : deedRow l o d = none := by
  unfold deedRow
  rw [List.find?_eq_none]
  intro x hx e
  have e := of_decide_eq_true e
  exact hn (x.1, x) ((h _).2 ⟨x, hx, rfl⟩) e
set_option linter.unusedSimpArgs false in
set_option linter.unusedVariables false in
set_option maxRecDepth 100000 in
set_option maxHeartbeats 2000000 in
theorem mcell_any (l : List R5) (E : List ((Int × Int) × R5)) (b : Nat) (o d : Int) (w : World) (hE : OfRows l E) (hok : ∀ x ∈ l, okRow 2 x = true) (hp : l.Pairwise fun x y => lessR x y = true) (hM : MapL Tryz.prog tKey mkKey mkRow w b E) (ho : -100 ≤ o ∧ o ≤ 100) (hd : -100 ≤ d ∧ d ≤ 100) (hS : MfW w) :
    Calls Tryz.prog 47 #[.map (some b), .agg #[.int .i64 o, .int .i64 d]] w fun e w' => e = .returned (.string ⟨(cellW (sayR (deedRow l o d))).toArray⟩) ∧ Below w.heap.size w w' := by
  obtain ⟨kl, hkl⟩ := key_reads (o, d) ⟨by omega, by omega⟩
  have HL := Lib.hid hkl
  obtain ⟨wa, hwa⟩ : ∃ wa, w.alloc (.cells #[.int .i64 o, .int .i64 d] tKey) = wa := ⟨_, rfl⟩
  have HA := Lib.hid (show Below w.heap.size w wa by rw [← hwa]; exact below_alloc _ _)
  have HX := Lib.hid (show wa.heap[w.heap.size]? = some (.cells #[.int .i64 o, .int .i64 d] tKey (0, 0)) by rw [← hwa]; exact heap_new _ _)
  have HM := Lib.hid (hM.below HA.out)
  have HS := Lib.hid hS
  have hWA := Lib.hid hwa
  have HE := Lib.hid (fun (x : R5) (hx : ((o, d), x) ∈ E) => (show deedRow l o d = some x ∧ okRow 2 x = true from ⟨deedRow_of hE hp hx, hok x (deedRow_some (deedRow_of hE hp hx)).1⟩))
  have HN := Lib.hid (fun (hn : ∀ p ∈ E, p.1 ≠ (o, d)) => deedRow_no hE hn)
  clear hkl hwa hM hS hE hok hp ho hd
  obtain ⟨k0, k1, _, _⟩ := cell2 HX.out
  go_enter Tryz.func47, Tryz.ntmps47
  go_upto_region 1 with (fail)
  rw [hWA.out]
  go_upto_region 2 with (at_lookup; go_loud (refine wpList_lookL _ true rfl (.tmp 8) (.tmp 9) tBk rfl tKey tRow lawKey bkMap ((0, 0), 0, 0, 0) (zeroRowM _) b E rfl HM.out (o, d) rfl HL.out (mkKey_inj _) (fun x hx => ?_) (fun hn => ?_); rotate_left; (simp only [mkRow]); rotate_left; (obtain ⟨⟨xo, xd⟩, xc, xa, xq⟩ := x; simp only [mkRow])))
  · obtain ⟨hat, hokx⟩ := HE.out _ hx
    have hrow := row_carry hokx
    simp only [] at hrow
    have HAT := Lib.hid hat
    clear hx hat hokx HE HN
    obtain ⟨wb, hwb⟩ : ∃ wb, wb = wa.alloc (.cells #[.int .i64 xo, .int .i64 xd, .int .i64 xc, .int .i64 xa, .int .i64 xq] tRow) := ⟨_, rfl⟩
    rw [← hwb]
    have HB := Lib.hid (show Below w.heap.size w wb by rw [hwb]; exact HA.out.alloc HA.out.size _)
    have HY := Lib.hid (show wb.heap[wa.heap.size]? = some (.cells #[.int .i64 xo, .int .i64 xd, .int .i64 xc, .int .i64 xa, .int .i64 xq] tRow (0, 0)) by rw [hwb]; exact heap_new _ _)
    clear hwb k0 k1
    obtain ⟨x0, x1, x2, x3, x4⟩ := cell5 HY.out
    have HPUT := Lib.hid (fun W hM => mput_any xq W (show InR _ by unfold InR; omega) hM)
    have hq0 : InR xq := by unfold InR; omega
    have hql := Sk.itoa_len (n := xq) 2 (by omega) (by simp; omega)
    by_cases hc : xc = 2
    · have hqc := beqT hc
      have HR := Lib.hid (show cellW (sayR (deedRow l o d)) = Sk.wRef by rw [HAT.out]; unfold cellW sayR; simp [hc])
      clear hrow hc
      go_wp2_with fail
      go_ret
      exact ⟨by rw [HR.out]; rfl, HB.out⟩
    · have hqc := beqF hc
      have HR := Lib.hid (show cellW (sayR (deedRow l o d)) = wDone ++ Lib.itoa xq by rw [HAT.out]; unfold cellW sayR; simp only []; rw [if_neg (by omega), if_neg hc])
      clear hrow hc
      go_wp2_with fail
      refine (HPUT.out _ (HS.out.below HB.out).mw).mono ?_
      rintro e w1 ⟨rfl, hb⟩
      have HB1 := Lib.hid (bch HB.out hb HB.out.size)
      clear hb
      obtain ⟨T, hT⟩ : ∃ T, Lib.itoa xq = T := ⟨_, rfl⟩
      rw [hT] at HR hql ⊢
      clear hT
      go_wp2_with fail
      go_ret
      exact ⟨by rw [HR.out]; show Ending.returned (Value.string ((⟨([100, 111, 110, 101, 58] : List UInt8).toArray⟩ : ByteArray) ++ ⟨T.toArray⟩)) = _; rw [join_bytes]; rfl, HB1.out⟩
  · have HR := Lib.hid (show cellW (sayR (deedRow l o d)) = wNo by rw [HN.out hn]; rfl)
    clear hn HE HN
    go_wp2_with fail
    go_ret
    exact ⟨by rw [HR.out]; rfl, HA.out.alloc HA.out.size _⟩
end Go.Proofs.YtgpjbigelblanaaGreatDoor

/- money.Put, Get: what they compute, in a world that holds the library's table and its two errors. -/
import Derived.Test.YtgpjbigelblanaaGreatDoorMoneyPairs
import Derived.Test.YtgpjbigelblanaaGreatDoorShelf
import Derived.Lib.SmallJoins
namespace Go.Proofs.YtgpjbigelblanaaGreatDoor
open Go.RowKit Go.Sort Mon

/-- What the texts of amounts ask of the world. -/
structure MW (w : World) : Prop where
  tab : Lib.TabIs Tryz.prog w "internal/strconv.uint64pow10" .u64 Lib.pow10Tab
  syn : ∃ tp p, w.var? Tryz.prog "strconv.ErrSyntax" = some #[.iface tp p]
  rng : ∃ tp p, w.var? Tryz.prog "strconv.ErrRange" = some #[.iface tp p]

theorem var_below {w w' : World} {name : String} {cs : Array Value} (h : w.var? Tryz.prog name = some cs) (hb : Below w.heap.size w w') : w'.var? Tryz.prog name = some cs := by
  unfold World.var? at h ⊢
  cases hg : Tryz.prog.globalNamed name with
  | none => rw [hg] at h; simp at h
  | some g =>
    rw [hg] at h
    simp only [Option.bind_some] at h ⊢
    by_cases hl : g < w.heap.size
    · rw [hb.block g hl]
      exact h
    · rw [Array.getElem?_eq_none (by omega)] at h
      simp at h
theorem MW.below {w w' : World} (h : MW w) (hb : Below w.heap.size w w') : MW w' := by
  obtain ⟨h1, ⟨a, b, h2⟩, ⟨c, d, h3⟩⟩ := h
  exact ⟨var_below h1 hb, ⟨a, b, var_below h2 hb⟩, ⟨c, d, var_below h3 hb⟩⟩
theorem below_growN (w : World) (k : Nat) (os : Array Obj) : Below w.heap.size w (grow (w.drewN k) os) :=
  ⟨rfl, rfl, rfl, by simp [grow], fun i hi => by
    show ((w.drewN k).heap ++ os)[i]? = _
    exact Array.getElem?_append_left hi⟩

theorem put_any (n : Int) (w : World) (hn : InR n) (hM : MW w) :
    Calls Tryz.prog 61 #[.int .i64 n] w fun e w' => e = .returned (.string ⟨(Lib.itoa n).toArray⟩) ∧ Below w.heap.size w w' := by
  have HF := Lib.hid (Tryz.strconv_FormatInt_10 n hn.1 hn.2 w hM.tab)
  clear hM hn
  go_enter Tryz.func61, Tryz.ntmps61
  go_wp2_with fail
  refine HF.out.mono ?_
  rintro e w1 ⟨rfl, k, os, hw⟩
  have HB := Lib.hid (show Below w.heap.size w w1 by rw [hw]; exact below_growN w k os)
  clear hw
  go_wp2_with fail
  go_ret
  exact ⟨rfl, HB.out⟩
theorem parse_any64 (s : ByteArray) (w : World) (hs : s.size ≤ 1000000) (hM : MW w) :
    Calls Tryz.prog 93 #[.string s, .int .i64 10, .int .i64 64] w fun e w' => ((∃ n, Lib.parseIntB 64 s.data.toList = .ok n ∧ e = .returned (.tuple #[.int .i64 n, .nilIface])) ∨
      (∃ n t p, (∀ m, Lib.parseIntB 64 s.data.toList ≠ .ok m) ∧ e = .returned (.tuple #[.int .i64 n, .iface t (.pointer (some p))]))) ∧ Below w.heap.size w w' := by
  obtain ⟨_, ⟨a, b, h2⟩, ⟨c, d, h3⟩⟩ := hM
  rcases h : Lib.parseIntB 64 s.data.toList with v | _ | _
  · refine (Tryz.strconv_ParseInt_10_at64_ok s (by omega) v h w).mono ?_
    rintro e w' ⟨rfl, hw⟩
    refine ⟨.inl ⟨v, rfl, rfl⟩, ?_⟩
    rcases hw with rfl | ⟨t, rfl⟩
    · exact Below.refl _ _
    · exact Go.Joins.below_bytesWorld _ w _ t (Nat.le_refl _)
  · refine (Tryz.strconv_ParseInt_10_at64_syntax_var s (by omega) h a b w h2).mono ?_
    rintro e w' ⟨N, rfl, _, _, hb⟩
    exact ⟨.inr ⟨_, _, _, fun m => by simp, rfl⟩, hb⟩
  · refine (Tryz.strconv_ParseInt_10_at64_range_var s (by omega) h c d w h3).mono ?_
    rintro e w' ⟨N, rfl, _, _, hb⟩
    exact ⟨.inr ⟨_, _, _, fun m => by simp, rfl⟩, hb⟩

theorem getM_ok {l : List UInt8} {n : Int} (h : Lib.parseIntB 64 l = .ok n) : getM l = if Lib.itoa n = l then (n, true) else (0, false) := by unfold getM; rw [h]
theorem getM_no {l : List UInt8} (h : ∀ m, Lib.parseIntB 64 l ≠ .ok m) : getM l = (0, false) := by
  unfold getM
  rcases h' : Lib.parseIntB 64 l with v | _ | _
  · exact absurd h' (h v)
  · rfl
  · rfl
set_option maxHeartbeats 1000000 in
theorem get_any (s : ByteArray) (w : World) (hs : s.size ≤ 1000000) (hM : MW w) :
    Calls Tryz.prog 71 #[.string s] w fun e w' => e = .returned (pairV (getM s.data.toList)) ∧ Below w.heap.size w w' := by
  have HP := Lib.hid (parse_any64 s w hs hM)
  have HM := Lib.hid hM
  clear hM
  obtain ⟨x, y, hR⟩ : ∃ x y, getM s.data.toList = (x, y) := ⟨_, _, rfl⟩
  rw [hR]
  unfold pairV
  have HR := Lib.hid hR
  clear hR
  go_enter Tryz.func71, Tryz.ntmps71
  go_wp2_with fail
  refine HP.out.mono ?_
  rintro e w1 ⟨⟨n, hp, rfl⟩ | ⟨n, t, p, hp, rfl⟩, hb⟩
  · have HB := Lib.hid hb
    have HQ := Lib.hid (put_any n w1 (parse_in _ n hp) (HM.out.below hb))
    have HO := Lib.hid (getM_ok hp)
    clear hb hp
    go_wp2_with fail
    refine HQ.out.mono ?_
    rintro e w2 ⟨rfl, hb2⟩
    have HB2 := Lib.hid (bch HB.out hb2 HB.out.size)
    clear hb2
    by_cases hi : Lib.itoa n = s.data.toList
    · have HXY := Lib.hid (HR.out.symm.trans (HO.out.trans (if_pos hi)))
      have q := itoaT _ s hi
      clear hi
      go_wp2_with fail
      go_ret2
      exact ⟨ret_pair HXY.out, HB2.out⟩
    · have HXY := Lib.hid (HR.out.symm.trans (HO.out.trans (if_neg hi)))
      have q := itoaF _ s hi
      clear hi
      go_wp2_with fail
      go_ret2
      exact ⟨ret_pair HXY.out, HB2.out⟩
  · have HB := Lib.hid hb
    have HXY := Lib.hid (HR.out.symm.trans (getM_no hp))
    clear hb hp
    go_wp2_with fail
    go_ret2
    exact ⟨ret_pair HXY.out, HB.out⟩
end Go.Proofs.YtgpjbigelblanaaGreatDoor

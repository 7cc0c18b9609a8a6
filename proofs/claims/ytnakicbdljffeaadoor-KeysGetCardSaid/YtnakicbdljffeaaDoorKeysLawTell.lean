/- The walks of consignorlaw10.KeysTell, KeysGet: they answer true, and nothing that was there is written. -/
import Derived.Test.YtnakicbdljffeaaDoorKeysKeyed
namespace Go.Proofs.YtnakicbdljffeaaDoor
open Go.RowKit Key Mon

theorem k_deed (s : ByteArray) (c : Int) (t : Bool) (hs : s.size ≤ maxLen) (h : deedK s.data.toList = (c, t)) (W : World) (hK : KW W) : Calls Tryd.prog 21 #[.string s] W fun e w' => e = .returned (.tuple #[.int .i64 c, .bool t]) ∧ W = w' := by
  have := deed_any s W hs hK
  rw [h] at this
  exact this
theorem k_refDeed (s : ByteArray) (c : Int) (t : Bool) (h : deedK s.data.toList = (c, t)) (W : World) : Calls Tryd.prog 22 #[.string s] W fun e w' => e = .returned (.tuple #[.int .i64 c, .bool t]) ∧ Below W.heap.size W w' := by
  have := refDeed_any s W
  rw [h] at this
  exact this
theorem k_refGet (s : ByteArray) (o d : Int) (t : Bool) (h : getK s.data.toList = ((o, d), t)) (W : World) : Calls Tryd.prog 20 #[.string s] W fun e w' => e = .returned (.tuple #[.agg #[.int .i64 o, .int .i64 d], .bool t]) ∧ Below W.heap.size W w' := by
  have := refGetK_any s W
  rw [h] at this
  exact this
theorem k_gotS (s : ByteArray) (o d : Int) (t : Bool) (hs : s.size ≤ 1000000) (h : getK s.data.toList = ((o, d), t)) (W : World) (hK : KW W) : Calls Tryd.prog 23 #[.string s, .agg #[.int .i64 o, .int .i64 d], .bool t] W fun e w' => e = .returned (.bool true) ∧ Below W.heap.size W w' := by
  have := got_any s o d t W hs hK
  rw [h, decide_eq_true rfl] at this
  exact this

set_option maxHeartbeats 4000000 in
theorem lawKeysGet_walk (s : ByteArray) (w : World) (hK : KW w) :
    Calls Tryd.prog 4 #[.string s] w fun e w' => e = .returned (.bool true) ∧ Below w.heap.size w w' := by
  have HK := Lib.hid hK
  clear hK
  by_cases hl : (100 : Int) < (s.size : Int)
  · have HC := Lib.hid (keyed_true w HK.out)
    go_enter Tryd.func4, Tryd.ntmps4
    go_wp2_with fail
    refine HC.out.mono ?_
    rintro e w1 ⟨rfl, hb⟩
    have HB := Lib.hid hb
    clear hb
    go_wp2_with fail
    go_ret
    exact ⟨rfl, HB.out⟩
  · obtain ⟨o, d, t, h1⟩ : ∃ o d t, getK s.data.toList = ((o, d), t) := ⟨_, _, _, rfl⟩
    obtain ⟨c, u, h2⟩ : ∃ c t, deedK s.data.toList = (c, t) := ⟨_, _, rfl⟩
    have H1 := Lib.hid (k_refGet s o d t h1)
    have H2 := Lib.hid (k_deed s c u (by unfold maxLen; omega) h2)
    have H3 := Lib.hid (k_refDeed s c u h2)
    have H4 := Lib.hid (k_gotS s o d t (by omega) h1)
    clear h1 h2
    go_enter Tryd.func4, Tryd.ntmps4
    go_wp2_with fail
    refine (H1.out _).mono ?_
    rintro e w1 ⟨rfl, hb⟩
    have HB1 := Lib.hid (hb.alloc hb.size (.cells #[.int .i64 o, .int .i64 d] 23))
    have HK1 := Lib.hid (heap_new w1 (.cells #[.int .i64 o, .int .i64 d] 23))
    clear hb
    go_wp2_with fail
    refine (H2.out _ (HK.out.below HB1.out)).mono ?_
    rintro e w0 ⟨rfl, hw⟩; subst hw
    go_wp2_with fail
    refine (H3.out _).mono ?_
    rintro e w2 ⟨rfl, hb⟩
    have HB2 := Lib.hid (bch HB1.out hb HB1.out.size)
    obtain ⟨c0, c1, _, _⟩ := cell2 (heap_keep HK1.out hb)
    clear hb
    go_wp2_with fail
    refine (H4.out _ (HK.out.below HB2.out)).mono ?_
    rintro e w3 ⟨rfl, hb⟩
    have HB3 := Lib.hid (bch HB2.out hb HB2.out.size)
    clear hb
    go_wp2_with fail
    refine (keyed_true _ (HK.out.below HB3.out)).mono ?_
    rintro e w4 ⟨rfl, hb⟩
    have HB4 := Lib.hid (bch HB3.out hb HB3.out.size)
    clear hb
    go_wp2_with fail
    go_ret
    exact ⟨rfl, HB4.out⟩
theorem k_refUndoes (d c : Int) (t : Bool) (hd : InR d) (h : undoI d = (c, t)) (W : World) : Calls Tryd.prog 8 #[.int .i64 d] W fun e w' => e = .returned (.tuple #[.int .i64 c, .bool t]) ∧ W = w' := by
  have := refUndoes_any d W hd
  rw [h] at this
  exact this
theorem k_refParty (d c : Int) (hd : InR d) (h : partyI d = c) (W : World) : Calls Tryd.prog 10 #[.int .i64 d] W fun e w' => e = .returned (.int .i64 c) ∧ W = w' := by
  have := refParty_any d W hd
  rw [h] at this
  exact this
theorem k_check (o d : Int) (t : Bool) (h : chk o d = t) (W : World) : Calls Tryd.prog 13 #[.agg #[.int .i64 o, .int .i64 d]] W fun e w' => e = .returned (.bool t) ∧ Below W.heap.size W w' := by
  have := check_any o d W
  rw [h] at this
  exact this
theorem k_refCheck (o d : Int) (t : Bool) (h : chk o d = t) (W : World) : Calls Tryd.prog 14 #[.agg #[.int .i64 o, .int .i64 d]] W fun e w' => e = .returned (.bool t) ∧ Below W.heap.size W w' := by
  have := refCheck_any o d W
  rw [h] at this
  exact this
theorem k_refPut (o d : Int) (l : List UInt8) (h : putK o d = l) (W : World) : Calls Tryd.prog 16 #[.agg #[.int .i64 o, .int .i64 d]] W fun e w' => e = .returned (.string ⟨l.toArray⟩) ∧ Below W.heap.size W w' := by
  have := refPutK_any o d W
  rw [h] at this
  exact this
theorem k_refLess (a b c d : Int) (t : Bool) (h : lessB a b c d = t) (W : World) : Calls Tryd.prog 18 #[.agg #[.int .i64 a, .int .i64 b], .agg #[.int .i64 c, .int .i64 d]] W fun e w' => e = .returned (.bool t) ∧ Below W.heap.size W w' := by
  have := refLess_any a b c d W
  rw [h] at this
  exact this

theorem keep4 {w W W' : World} {a b c d : Addr} {p q r t : Value} (hb : Below W.heap.size W W') (h : Hid (Below w.heap.size w W) ∧ W.cell? a = some p ∧ W.cell? b = some q ∧ W.cell? c = some r ∧ W.cell? d = some t) :
    Hid (Below w.heap.size w W') ∧ W'.cell? a = some p ∧ W'.cell? b = some q ∧ W'.cell? c = some r ∧ W'.cell? d = some t := by
  obtain ⟨h0, h1, h2, h3, h4⟩ := h
  exact ⟨Lib.hid (bch h0.out hb h0.out.size), (hb.cell (World.block_lt_of_cell? W _ h1)).trans h1, (hb.cell (World.block_lt_of_cell? W _ h2)).trans h2, (hb.cell (World.block_lt_of_cell? W _ h3)).trans h3, (hb.cell (World.block_lt_of_cell? W _ h4)).trans h4⟩

set_option maxHeartbeats 4000000 in
theorem lawKeysTell_walk (ao ad bo bd deed : Int) (w : World) (hd : InR deed) (hK : KW w) :
    Calls Tryd.prog 3 #[.agg #[.int .i64 ao, .int .i64 ad], .agg #[.int .i64 bo, .int .i64 bd], .int .i64 deed] w fun e w' => e = .returned (.bool true) ∧ Below w.heap.size w w' := by
  have HK := Lib.hid hK
  have HDI := Lib.hid hd
  clear hK hd
  obtain ⟨t1, h1⟩ : ∃ t, chk ao ad = t := ⟨_, rfl⟩
  obtain ⟨l1, h2⟩ : ∃ t, putK ao ad = t := ⟨_, rfl⟩
  obtain ⟨t2, h3⟩ : ∃ t, lessB ao ad bo bd = t := ⟨_, rfl⟩
  have H1 := Lib.hid (k_check ao ad t1 h1)
  have H2 := Lib.hid (k_refCheck ao ad t1 h1)
  have H3 := Lib.hid (k_put ao ad l1 h2)
  have H4 := Lib.hid (k_refPut ao ad l1 h2)
  have H5 := Lib.hid (k_less ao ad bo bd t2 h3)
  have H6 := Lib.hid (k_refLess ao ad bo bd t2 h3)
  clear h1 h2 h3
  go_enter Tryd.func3, Tryd.ntmps3
  go_wp2_with fail
  go_loopw [7] (fun kv wr => ∃ j : Int, -1 ≤ j ∧ j ≤ 8 ∧ kv = .int .i64 j ∧ Hid (Below w.heap.size w wr) ∧ Hid (wr.heap[w.heap.size]? = some (.cells #[.int .i64 ao, .int .i64 ad] 23 (0, 0))) ∧ Hid (wr.heap[w.heap.size + 1]? = some (.cells #[.int .i64 bo, .int .i64 bd] 23 (0, 0)))) (fun kv _ => (8 - intOf kv).toNat)
  case atStart =>
    refine ⟨-1, by omega, by omega, rfl, (below_alloc w _).alloc (by simp) _, ?_, ?_⟩
    · exact heap_keep (heap_new w _) (below_alloc _ _)
    · have := heap_new (w.alloc (.cells #[.int .i64 ao, .int .i64 ad] 23)) (.cells #[.int .i64 bo, .int .i64 bd] 23)
      rw [show (w.alloc (.cells #[.int .i64 ao, .int .i64 ad] 23)).heap.size = w.heap.size + 1 by simp] at this
      exact Lib.hid this
  case round =>
    obtain ⟨j, hj1, hj2, rfl, HB, HA1, HA2⟩ := hrel
    by_cases hlt : j < 8
    · obtain ⟨n, hn, hnr⟩ : ∃ n, n = (if j = 7 then deed else j) ∧ InR n := ⟨_, rfl, by split; exact HDI.out; unfold InR; omega⟩
      obtain ⟨c, t, hu⟩ : ∃ c t, undoI n = (c, t) := ⟨_, _, rfl⟩
      obtain ⟨p, hp⟩ : ∃ p, partyI n = p := ⟨_, rfl⟩
      have G1 := Lib.hid (k_undoes n c t hnr hu)
      have G2 := Lib.hid (k_refUndoes n c t hnr hu)
      have G3 := Lib.hid (k_party n p hp)
      have G4 := Lib.hid (k_refParty n p hnr hp)
      have G5 := Lib.hid (fun W h => word_any n W h)
      have G6 := Lib.hid (fun W => refWord_any n W)
      generalize wordL n = L at G5 G6
      clear hu hp hnr
      by_cases h7 : j = 7
      · rw [if_pos h7] at hn
        obtain rfl : n = deed := hn
        have h7b := beqT h7
        clear h7
        go_wp2_with fail
        refine (G1.out _).mono ?_
        rintro e w0 ⟨rfl, hw⟩; subst hw
        go_wp2_with fail
        refine (G2.out _).mono ?_
        rintro e w0 ⟨rfl, hw⟩; subst hw
        go_wp2_with fail
        refine (G3.out _ (HK.out.below HB.out)).mono ?_
        rintro e w0 ⟨rfl, hw⟩; subst hw
        go_wp2_with fail
        refine (G4.out _).mono ?_
        rintro e w0 ⟨rfl, hw⟩; subst hw
        go_wp2_with fail
        refine (G5.out _ (HK.out.below HB.out)).mono ?_
        rintro e w1 ⟨rfl, hb⟩
        have HB1 := Lib.hid (bch HB.out hb HB.out.size); have HA11 := Lib.hid (heap_keep HA1.out hb); have HA21 := Lib.hid (heap_keep HA2.out hb); clear hb
        go_wp2_with fail
        refine (G6.out _).mono ?_
        rintro e w2 ⟨rfl, hb⟩
        have HB2 := Lib.hid (bch HB1.out hb HB1.out.size); have HA12 := Lib.hid (heap_keep HA11.out hb); have HA22 := Lib.hid (heap_keep HA21.out hb); clear hb
        go_wp2_with fail
        go_roundw
        case rel => exact ⟨j + 1, by omega, by omega, by go_num, HB2, HA12, HA22⟩
        case measure => simp [intOf]; omega
      · rw [if_neg h7] at hn
        obtain rfl : n = j := hn
        have h7b := beqF h7
        clear h7
        go_wp2_with fail
        refine (G1.out _).mono ?_
        rintro e w0 ⟨rfl, hw⟩; subst hw
        go_wp2_with fail
        refine (G2.out _).mono ?_
        rintro e w0 ⟨rfl, hw⟩; subst hw
        go_wp2_with fail
        refine (G3.out _ (HK.out.below HB.out)).mono ?_
        rintro e w0 ⟨rfl, hw⟩; subst hw
        go_wp2_with fail
        refine (G4.out _).mono ?_
        rintro e w0 ⟨rfl, hw⟩; subst hw
        go_wp2_with fail
        refine (G5.out _ (HK.out.below HB.out)).mono ?_
        rintro e w1 ⟨rfl, hb⟩
        have HB1 := Lib.hid (bch HB.out hb HB.out.size); have HA11 := Lib.hid (heap_keep HA1.out hb); have HA21 := Lib.hid (heap_keep HA2.out hb); clear hb
        go_wp2_with fail
        refine (G6.out _).mono ?_
        rintro e w2 ⟨rfl, hb⟩
        have HB2 := Lib.hid (bch HB1.out hb HB1.out.size); have HA12 := Lib.hid (heap_keep HA11.out hb); have HA22 := Lib.hid (heap_keep HA21.out hb); clear hb
        go_wp2_with fail
        go_roundw
        case rel => exact ⟨n + 1, by omega, by omega, by go_num, HB2, HA12, HA22⟩
        case measure => simp [intOf]; omega
    · obtain ⟨a0, a1, _, _⟩ := cell2 HA1.out
      obtain ⟨b0, b1, _, _⟩ := cell2 HA2.out
      have hz1 := heap_lt HA1.out
      have hz2 := heap_lt HA2.out
      go_wp2_with fail
      go_region_held3 (fun w' => Hid (Below w.heap.size w w') ∧ w'.cell? ⟨w.heap.size, 0, none⟩ = some (.int .i64 ao) ∧ w'.cell? ⟨w.heap.size, 1, none⟩ = some (.int .i64 ad) ∧ w'.cell? ⟨w.heap.size + 1, 0, none⟩ = some (.int .i64 bo) ∧ w'.cell? ⟨w.heap.size + 1, 1, none⟩ = some (.int .i64 bd))
        (first
          | exact keep4 hb (by assumption)
          | exact ⟨belowD HB.out, a0, a1, b0, b1⟩)
        (first
          | (go_at_call 13; refine (H1.out _).mono ?_; rintro e w1 ⟨rfl, hb⟩)
          | (go_at_call 14; refine (H2.out _).mono ?_; rintro e w1 ⟨rfl, hb⟩)
          | (go_at_call 15; refine (H3.out _ (HK.out.below (Hid.out (And.left (by assumption))))).mono ?_; rintro e w1 ⟨rfl, hb⟩)
          | (go_at_call 16; refine (H4.out _).mono ?_; rintro e w1 ⟨rfl, hb⟩)
          | (go_at_call 17; refine (H5.out _).mono ?_; rintro e w1 ⟨rfl, hb⟩)
          | (go_at_call 18; refine (H6.out _).mono ?_; rintro e w1 ⟨rfl, hb⟩)
          | (go_at_call 19; refine (keyed_true _ (HK.out.below (Hid.out (And.left (by assumption))))).mono ?_; rintro e w1 ⟨rfl, hb⟩))
      all_goals go_wp2_with fail
      all_goals go_ret
      all_goals exact ⟨rfl, Hid.out (And.left (by assumption))⟩
end Go.Proofs.YtnakicbdljffeaaDoor

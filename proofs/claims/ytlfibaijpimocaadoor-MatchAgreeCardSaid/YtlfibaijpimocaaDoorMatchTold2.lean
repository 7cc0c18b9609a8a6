/- What sagas know, as statements that are accepted: the program's told. -/
import Derived.Test.YtlfibaijpimocaaDoorMatchOf2
import Derived.Test.YtlfibaijpimocaaDoorMatchTold
import Derived.Test.YtlfibaijpimocaaDoorMatched
namespace Go.Proofs.YtlfibaijpimocaaDoor
open Go.RowKit Go.Maps Key Rw Sa Ma To

/-- What told holds between two parties. -/
structure To1 (w W : World) (vP : Value) (J : In.Inn) : Prop where
  p : InP W vP J
  av : ∀ b, w.heap.size ≤ b → b < w.heap.size + 2 → Av b vP J
  bp : Bx W (w.heap.size + 1) tIn vP
  z0 : W.heap[w.heap.size]? = some (.cells zIn tIn (0, 0))
  bel : Below w.heap.size w W
theorem Sgs.deedAt {w W : World} {A : Option Addr} {c n : Nat} {l : List Sg} (h : Sgs w (.slice A n c) l) (hb : Below w.heap.size w W) {k : Nat} {s : Sg} (hx : l[k]? = some s) : ∃ g off, A = some ⟨g, off, none⟩ ∧
    W.cell? ⟨g, off + k * 12, none⟩ = some (.int .i64 s.id) ∧ ∀ d : Nat, d < 6 → W.cell? ⟨g, off + k * 12 + 5 + d, none⟩ = some (.int .i64 (s.deed d)) := by
  obtain ⟨g, off, n', c', e, d0, d1, d2, d3, d4, d5, d6, d7, d8, d9, d10, d11⟩ := h.cells hb hx
  injection e with e1 e2 e3
  refine ⟨g, off, e1, d0, fun d hd => ?_⟩
  have : d = 0 ∨ d = 1 ∨ d = 2 ∨ d = 3 ∨ d = 4 ∨ d = 5 := by omega
  rcases this with rfl | rfl | rfl | rfl | rfl | rfl
  · exact d5
  · exact d6
  · exact d7
  · exact d8
  · exact d9
  · exact d10
theorem set3_2 {w : World} {b : Nat} {x0 x1 x2 : Value} {T : TypeId} (h : w.heap[b]? = some (.cells #[x0, x1, x2] T (0, 0))) (p : Value) : (w.setCell ⟨b, 2, none⟩ p).heap[b]? = some (.cells #[x0, x1, p] T (0, 0)) := by
  simp [World.setCell, Array.getElem?_modify, h]
theorem set5_2 {w : World} {b : Nat} {x0 x1 x2 x3 x4 : Value} {T : TypeId} (h : w.heap[b]? = some (.cells #[x0, x1, x2, x3, x4] T (0, 0))) (p : Value) : (w.setCell ⟨b, 2, none⟩ p).heap[b]? = some (.cells #[x0, x1, p, x3, x4] T (0, 0)) := by
  simp [World.setCell, Array.getElem?_modify, h]
theorem set5_34 {w : World} {b : Nat} {x0 x1 x2 x3 x4 : Value} {T : TypeId} (h : w.heap[b]? = some (.cells #[x0, x1, x2, x3, x4] T (0, 0))) (p q : Value) : ((w.setCell ⟨b, 3, none⟩ p).setCell ⟨b, 4, none⟩ q).heap[b]? = some (.cells #[x0, x1, x2, p, q] T (0, 0)) := by
  simp [World.setCell, Array.getElem?_modify, h]
theorem row_told2 {s : Sg} {d : Nat} (h : s.deed (d : Int) = 2) : encR (toldRow s d) = [.int .i64 s.id, .int .i64 d, .int .i64 1, .int .i64 (wantI s d).1, .int .i64 (wantI s d).2] := by unfold toldRow; rw [if_pos h]; rfl
theorem row_told3 {s : Sg} {d : Nat} (h : s.deed (d : Int) = 3) : encR (toldRow s d) = [.int .i64 s.id, .int .i64 d, .int .i64 2, .int .i64 0, .int .i64 0] := by unfold toldRow; rw [if_neg (by omega)]; rfl
theorem rowD1_yes {p : Int} {s : Sg} {d : Nat} (hp : partyI (d : Int) = p) (h : s.deed (d : Int) = 2 ∨ s.deed (d : Int) = 3) : rowsS p s (d + 1) = rowsS p s d ++ [toldRow s d] := by
  rw [rowsS_succ]; unfold rowD1 toldB; rw [if_pos (by simp [hp]; exact h)]
theorem rowD1_no {p : Int} {s : Sg} {d : Nat} (h : ¬ (partyI (d : Int) = p ∧ (s.deed (d : Int) = 2 ∨ s.deed (d : Int) = 3))) : rowsS p s (d + 1) = rowsS p s d := by
  rw [rowsS_succ]; unfold rowD1 toldB; rw [if_neg (by simpa using h), List.append_nil]

set_option linter.unusedSimpArgs false in
set_option linter.unusedVariables false in
set_option maxRecDepth 100000 in
set_option maxHeartbeats 16000000 in
theorem told_any (w : World) (v : Value) (l : List Sg) (hS : Sgs w v l) (hT : PT w) (hn : Numd l) :
    Calls Tryd.prog 21 #[v, .int .i64 1] w fun e w' => ∃ vP, e = .returned (.tuple #[vP, .bool true]) ∧ InP w' vP (toldI l) ∧ Below w.heap.size w w' := by
  obtain ⟨i0, hi, hz0, hz1, hz2⟩ := info_parts row_info
  obtain ⟨A, c, rfl, hlc, hcm⟩ := hS.shape
  have HS := Lib.hid hS; have HT := Lib.hid hT; have HN := Lib.hid hn
  have hl10 := hn.len
  clear hS hT hn
  obtain ⟨wa, hA⟩ : ∃ wa, wa = (w.alloc (.cells zIn tIn)).alloc (.cells zIn tIn) := ⟨_, rfl⟩
  obtain ⟨hB, hX, hY⟩ := two_new w _ _ tIn tIn hA
  have H1 := Lib.hid (show To1 w wa vIn0 (toldK l 0) from ⟨InP.nil _, fun b _ _ => Av.nil b, ⟨_, rfl, hY⟩, hX, hB⟩)
  have HA := Lib.hid hA
  clear hA hB hX hY
  go_enter Tryd.func21, Tryd.ntmps21
  go_wp2_with fail
  rw [← HA.out]
  go_loopw [7] (fun i wr => ∃ (n : Nat) (vP : Value), i = .int .i64 n ∧ n ≤ 3 ∧ Hid (To1 w wr vP (toldK l n))) (fun i _ => 3 - (intOf i).toNat)
  case atStart => exact ⟨0, _, rfl, by omega, H1.out⟩
  case round =>
    obtain ⟨w4, hw4⟩ : ∃ w4, w4 = wr := ⟨_, rfl⟩
    subst hw4
    obtain ⟨n, vP, rfl, hn3, H1'⟩ := hrel
    have hsz := H1'.out.bel.size
    by_cases hn : n < 3
    · have hn2 : (n : Int) ≤ 2 := by omega
      have HST := Lib.hid (toldK_step HN.out hn)
      have HFI := Lib.hid (toldK_fine HN.out n)
      go_upto_region 6 with (fail)
      obtain ⟨w5, hw5⟩ : ∃ w5, w5 = w4.alloc (.cells #[.int .i64 n, .int .i64 1, .slice none 0 0] tStat) := ⟨_, rfl⟩
      rw [← hw5]
      have HB5 := Lib.hid (show Below w4.heap.size w4 w5 by rw [hw5]; exact below_alloc _ _)
      have HX5 := Lib.hid (show w5.heap[w4.heap.size]? = some (.cells #[.int .i64 n, .int .i64 1, .slice none 0 0] tStat (0, 0)) by rw [hw5]; exact heap_new _ _)
      clear hw5
      go_wp2_with fail
      go_loopw [9] (fun i wq => ∃ (k : Nat) (u : Value), i = .int .i64 k ∧ k ≤ l.length ∧ Hid (Below w4.heap.size w4 wq) ∧ Hid (wq.heap[w4.heap.size]? = some (.cells #[.int .i64 n, .int .i64 1, u] tStat (0, 0))) ∧ Hid (wq.ownsRow (w4.heap.size + 1) tRow 5 u (rowsP n (l.take k)).length ((rowsP n (l.take k)).flatMap encR))) (fun i _ => l.length - (intOf i).toNat)
      case atStart => exact ⟨0, _, rfl, Nat.zero_le _, HB5.out, HX5.out, World.ownsRow_nil _ _ _ _⟩
      case round =>
        obtain ⟨k, u, rfl, hk, HBq, HXq, HOq⟩ := hrel
        by_cases hkl : k < l.length
        · obtain ⟨s, hs⟩ : ∃ s, l[k]? = some s := ⟨_, List.getElem?_eq_getElem hkl⟩
          have HSK := Lib.hid hs
          have hkl' : (k : Int) < l.length := by omega
          have hk0 : (0 : Int) ≤ k := by omega
          clear hs
          go_wp2_with fail
          go_loopw [10] (fun i wq => ∃ (d : Nat) (u : Value), i = .int .i64 d ∧ d ≤ 6 ∧ Hid (Below w4.heap.size w4 wq) ∧ Hid (wq.heap[w4.heap.size]? = some (.cells #[.int .i64 n, .int .i64 1, u] tStat (0, 0))) ∧ Hid (wq.ownsRow (w4.heap.size + 1) tRow 5 u (rowsP n (l.take k) ++ rowsS n s d).length ((rowsP n (l.take k) ++ rowsS n s d).flatMap encR))) (fun i _ => 6 - (intOf i).toNat)
          case atStart => exact ⟨0, u, rfl, by omega, HBq.out, HXq.out, by rw [show rowsS n s 0 = [] from rfl, List.append_nil]; exact HOq.out⟩
          case round =>
            clear HBq HXq HOq
            obtain ⟨d, u, rfl, hd, HBq, HXq, HOq⟩ := hrel
            have hszq := HBq.out.size
            have HBw := Lib.hid (bch H1'.out.bel HBq.out H1'.out.bel.size)
            by_cases hd6 : d < 6
            · have HP := Lib.hid (fun W (hb : Below w.heap.size w W) => party_any d W (HT.out.below hb))
              have hd6' : (d : Int) < 6 := by omega
              have hd0 : (0 : Int) ≤ d := by omega
              obtain ⟨g, off, e, a0, hds⟩ := HS.out.deedAt HBw.out HSK.out
              subst e
              have a1 := hds d hd6
              clear hds
              by_cases hp : partyI (d : Int) = n
              · have hp1 := bneF hp
                by_cases h2 : s.deed (d : Int) = 2
                · have HY1 := Lib.hid (rowD1_yes hp (.inl h2))
                  have HRW := Lib.hid (row_told2 h2)
                  have h21 := beqT h2
                  have h22 := bneF h2
                  clear hp h2
                  go_upto_region 15 with (go_at_call 18; refine (HP.out _ ?_).mono ?_; (first | exact HBw.out | assumption); rintro e w1 ⟨rfl, hb⟩; subst hb)
                  obtain ⟨w6, hw6⟩ : ∃ w6, w6 = wr.alloc (.cells #[.int .i64 s.id, .int .i64 d, .int .i64 2, .int .i64 0, .int .i64 0] tRow) := ⟨_, rfl⟩
                  rw [← hw6]
                  have hb6 : Below wr.heap.size wr w6 := by rw [hw6]; exact below_alloc _ _
                  have HX6 := Lib.hid (show w6.heap[wr.heap.size]? = some (.cells #[.int .i64 s.id, .int .i64 d, .int .i64 2, .int .i64 0, .int .i64 0] tRow (0, 0)) by rw [hw6]; exact heap_new _ _)
                  have HB6 := Lib.hid (bch HBq.out hb6 HBq.out.size)
                  have HS6 := Lib.hid (heap_keep HXq.out hb6)
                  have HO6 := Lib.hid (own_keep HOq.out hb6)
                  have hfar : ∀ j, u.ownBlock = some j → j < wr.heap.size := fun j hj => (HOq.out.lt j hj).2
                  have hsne : w4.heap.size < wr.heap.size := heap_lt HXq.out
                  have HFR := Lib.hid hfar
                  clear hw6 hb6 a0 a1 hfar
                  generalize wr.heap.size = b7 at HX6 HFR hsne ⊢
                  obtain ⟨m0, m1', m2, m3, m4⟩ := cell5 HX6.out
                  obtain ⟨f0, f1, f2, f3, f4⟩ := froz5 HX6.out
                  go_upto_region 17 with (fail)
                  obtain ⟨w7, hw7⟩ : ∃ w7, w7 = w6.setCell ⟨b7, 2, none⟩ (.int .i64 1) := ⟨_, rfl⟩
                  rw [← hw7]
                  have ht7 : Turned (fun j => j = b7) w6 w7 := by rw [hw7]; exact turned_set _ _ _ _
                  have HX7 := Lib.hid (show w7.heap[b7]? = some (.cells #[.int .i64 s.id, .int .i64 d, .int .i64 1, .int .i64 0, .int .i64 0] tRow (0, 0)) by rw [hw7]; exact set5_2 HX6.out _)
                  have HB7 := Lib.hid (Below.turned HB6.out ht7 (fun i h => by omega) HB6.out.size)
                  have HS7 := Lib.hid (heap_turned HS6.out ht7 (by omega))
                  have HO7 := Lib.hid (own_turned HO6.out ht7 (fun j hj hs => by have := HFR.out j hj; omega))
                  have HBw7 := Lib.hid (bch H1'.out.bel HB7.out H1'.out.bel.size)
                  clear hw7 ht7 m0 m1' m2 m3 m4 f0 f1 f2 f3 f4 HX6 HB6 HS6 HO6
                  obtain ⟨g', off', n', c', e, d0, d1, d2, d3, d4, d5, d6, d7, d8, d9, d10, d11⟩ := HS.out.cells HBw7.out HSK.out
                  injection e with e1 e2 e3; injection e1 with e1; injection e1 with e1 e4 _; subst e1; subst e4; clear e2 e3
                  go_wp2_with fail
                  refine (want_any s d w7 ⟨by omega, by omega⟩).mono ?_
                  rintro e w8 ⟨rfl, hb⟩
                  have HX8 := Lib.hid (heap_keep HX7.out hb)
                  have HB8 := Lib.hid (bch HB7.out hb HB7.out.size)
                  have HS8 := Lib.hid (heap_keep HS7.out hb)
                  have HO8 := Lib.hid (own_keep HO7.out hb)
                  clear hb d0 d1 d2 d3 d4 d5 d6 d7 d8 d9 d10 d11 HX7 HB7 HS7 HO7 HBw7
                  obtain ⟨m0, m1', m2, m3, m4⟩ := cell5 HX8.out
                  obtain ⟨f0, f1, f2, f3, f4⟩ := froz5 HX8.out
                  go_upto_region 18 with (fail)
                  obtain ⟨w9, hw9⟩ : ∃ w9, w9 = (w8.setCell ⟨b7, 3, none⟩ (.int .i64 (wantI s d).1)).setCell ⟨b7, 4, none⟩ (.int .i64 (wantI s d).2) := ⟨_, rfl⟩
                  rw [← hw9]
                  have ht9 : Turned (fun j => j = b7) w8 w9 := by rw [hw9]; exact (turned_set _ _ _ _).trans (turned_set _ _ _ _)
                  have HX9 := Lib.hid (show w9.heap[b7]? = some (.cells #[.int .i64 s.id, .int .i64 d, .int .i64 1, .int .i64 (wantI s d).1, .int .i64 (wantI s d).2] tRow (0, 0)) by rw [hw9]; exact set5_34 HX8.out _ _)
                  have HB9 := Lib.hid (Below.turned HB8.out ht9 (fun i h => by omega) HB8.out.size)
                  have HS9 := Lib.hid (heap_turned HS8.out ht9 (by omega))
                  have HO9 := Lib.hid (own_turned HO8.out ht9 (fun j hj hs => by have := HFR.out j hj; omega))
                  clear hw9 ht9 m0 m1' m2 m3 m4 f0 f1 f2 f3 f4 HX8 HB8 HS8 HO8
                  have hln : (rowsP n (l.take k) ++ rowsS n s d).length ≤ 400 := by rw [List.length_append]; have h1 := rowsP_len n (l.take k); have h2 := rowsS_len n s d; have h3 : (l.take k).length ≤ 10 := (by rw [List.length_take]; omega); omega
                  obtain ⟨m0, m1', m2, m3, m4⟩ := cell5 HX9.out
                  obtain ⟨k0, k1, k2⟩ := cell3c HS9.out
                  go_wp2_with (at_builtin; go_loud (refine wpList_append_any _ rfl (.tmp 75) (.tmp 77) tRows rfl (w4.heap.size + 1) tRow i0 (mkRow ((0, 0), 0, 0, 0)) 5 40 Tryd.underlying26 hi hz0 hz1 hz2 rfl (by decide) _ _ _ rfl (World.ownsRow.alloc HO9.out _) 1 [.int .i64 s.id, .int .i64 d, .int .i64 1, .int .i64 (wantI s d).1, .int .i64 (wantI s d).2] (src_blk (xs := [.int .i64 s.id, .int .i64 d, .int .i64 1, .int .i64 (wantI s d).1, .int .i64 (wantI s d).2]) (heap_new _ _) (by intro u hu; simp at hu; rcases hu with rfl | rfl | rfl | rfl | rfl <;> rfl)) (by unfold maxLen; omega) (by omega) (by have := HB9.out.size; have := heap_lt HS9.out; simp; omega) ?_; intro v2 wp ho2 hg2 hat2; obtain ⟨A2, c2, hv2, _⟩ := own_slice ho2; subst hv2; have hxp := (hg2.block w4.heap.size (by have := heap_lt HS9.out; simp; omega) (fun e => by have := (HO9.out.lt _ e.symm).1; omega)).trans (heap_keep HS9.out (below_alloc _ _)); obtain ⟨y0, y1, y2⟩ := cell3c hxp; obtain ⟨q0, q1, q2⟩ := froz3 hxp))
                  have ht2 := turned_set wp w4.heap.size 2 (.slice A2 ((rowsP n (l.take k)).length + (rowsS n s d).length + 1) c2)
                  have HX' := Lib.hid (set3_2 hxp (.slice A2 ((rowsP n (l.take k)).length + (rowsS n s d).length + 1) c2))
                  have HO2 := Lib.hid (show wp.ownsRow (w4.heap.size + 1) tRow 5 (.slice A2 ((rowsP n (l.take k)).length + (rowsS n s d).length + 1) c2) (rowsP n (l.take k) ++ rowsS n s (d + 1)).length ((rowsP n (l.take k) ++ rowsS n s (d + 1)).flatMap encR) by rw [HY1.out, ← List.append_assoc, List.length_append, List.flatMap_append, show [toldRow s d].flatMap encR = [.int .i64 s.id, .int .i64 d, .int .i64 1, .int .i64 (wantI s d).1, .int .i64 (wantI s d).2] by rw [List.flatMap_singleton, HRW.out]]; simpa [Nat.add_assoc] using ho2)
                  have HO' := Lib.hid (own_turned HO2.out ht2 (fun j hj hs => by have := (HO2.out.lt j hj).1; omega))
                  have hb1 := Below.grown (HB9.out.alloc HB9.out.size _) hg2 (HB9.out.alloc HB9.out.size _).size (fun j hj => by have := (HO9.out.lt j hj).1; omega)
                  have HB' := Lib.hid (Below.turned hb1 ht2 (fun i h => by omega) hb1.size)
                  clear ho2 hg2 hat2 hxp y0 y1 y2 q0 q1 q2 ht2 hb1 m0 m1' m2 m3 m4 k0 k1 k2 HX9 HS9 HO9 HB9
                  go_roundw
                  case rel => exact ⟨d + 1, _, by go_num, by omega, HB'.out, HX'.out, HO'.out⟩
                  case measure => simp [intOf]; omega
                · by_cases h3 : s.deed (d : Int) = 3
                  · have HY1 := Lib.hid (rowD1_yes hp (.inr h3))
                    have HRW := Lib.hid (row_told3 h3)
                    have h21 := beqF h2
                    have h22 := bneT h2
                    have h31 := bneF h3
                    clear hp h2 h3
                    go_upto_region 15 with (go_at_call 18; refine (HP.out _ ?_).mono ?_; (first | exact HBw.out | assumption); rintro e w1 ⟨rfl, hb⟩; subst hb)
                    obtain ⟨w6, hw6⟩ : ∃ w6, w6 = wr.alloc (.cells #[.int .i64 s.id, .int .i64 d, .int .i64 2, .int .i64 0, .int .i64 0] tRow) := ⟨_, rfl⟩
                    rw [← hw6]
                    have hb6 : Below wr.heap.size wr w6 := by rw [hw6]; exact below_alloc _ _
                    have HX6 := Lib.hid (show w6.heap[wr.heap.size]? = some (.cells #[.int .i64 s.id, .int .i64 d, .int .i64 2, .int .i64 0, .int .i64 0] tRow (0, 0)) by rw [hw6]; exact heap_new _ _)
                    have HB6 := Lib.hid (bch HBq.out hb6 HBq.out.size)
                    have HS6 := Lib.hid (heap_keep HXq.out hb6)
                    have HO6 := Lib.hid (own_keep HOq.out hb6)
                    have hfar : ∀ j, u.ownBlock = some j → j < wr.heap.size := fun j hj => (HOq.out.lt j hj).2
                    have hsne : w4.heap.size < wr.heap.size := heap_lt HXq.out
                    have HFR := Lib.hid hfar
                    clear hw6 hb6 a0 a1 hfar
                    generalize wr.heap.size = b7 at HX6 HFR hsne ⊢
                    have HX9 := Lib.hid HX6.out; have HB9 := Lib.hid HB6.out; have HS9 := Lib.hid HS6.out; have HO9 := Lib.hid HO6.out
                    clear HX6 HB6 HS6 HO6
                    have hln : (rowsP n (l.take k) ++ rowsS n s d).length ≤ 400 := by rw [List.length_append]; have h1 := rowsP_len n (l.take k); have h2 := rowsS_len n s d; have h3 : (l.take k).length ≤ 10 := (by rw [List.length_take]; omega); omega
                    obtain ⟨m0, m1', m2, m3, m4⟩ := cell5 HX9.out
                    obtain ⟨k0, k1, k2⟩ := cell3c HS9.out
                    go_wp2_with (at_builtin; go_loud (refine wpList_append_any _ rfl (.tmp 75) (.tmp 77) tRows rfl (w4.heap.size + 1) tRow i0 (mkRow ((0, 0), 0, 0, 0)) 5 40 Tryd.underlying26 hi hz0 hz1 hz2 rfl (by decide) _ _ _ rfl (World.ownsRow.alloc HO9.out _) 1 [.int .i64 s.id, .int .i64 d, .int .i64 2, .int .i64 0, .int .i64 0] (src_blk (xs := [.int .i64 s.id, .int .i64 d, .int .i64 2, .int .i64 0, .int .i64 0]) (heap_new _ _) (by intro u hu; simp at hu; rcases hu with rfl | rfl | rfl | rfl | rfl <;> rfl)) (by unfold maxLen; omega) (by omega) (by have := HB9.out.size; have := heap_lt HS9.out; simp; omega) ?_; intro v2 wp ho2 hg2 hat2; obtain ⟨A2, c2, hv2, _⟩ := own_slice ho2; subst hv2; have hxp := (hg2.block w4.heap.size (by have := heap_lt HS9.out; simp; omega) (fun e => by have := (HO9.out.lt _ e.symm).1; omega)).trans (heap_keep HS9.out (below_alloc _ _)); obtain ⟨y0, y1, y2⟩ := cell3c hxp; obtain ⟨q0, q1, q2⟩ := froz3 hxp))
                    have ht2 := turned_set wp w4.heap.size 2 (.slice A2 ((rowsP n (l.take k)).length + (rowsS n s d).length + 1) c2)
                    have HX' := Lib.hid (set3_2 hxp (.slice A2 ((rowsP n (l.take k)).length + (rowsS n s d).length + 1) c2))
                    have HO2 := Lib.hid (show wp.ownsRow (w4.heap.size + 1) tRow 5 (.slice A2 ((rowsP n (l.take k)).length + (rowsS n s d).length + 1) c2) (rowsP n (l.take k) ++ rowsS n s (d + 1)).length ((rowsP n (l.take k) ++ rowsS n s (d + 1)).flatMap encR) by rw [HY1.out, ← List.append_assoc, List.length_append, List.flatMap_append, show [toldRow s d].flatMap encR = [.int .i64 s.id, .int .i64 d, .int .i64 2, .int .i64 0, .int .i64 0] by rw [List.flatMap_singleton, HRW.out]]; simpa [Nat.add_assoc] using ho2)
                    have HO' := Lib.hid (own_turned HO2.out ht2 (fun j hj hs => by have := (HO2.out.lt j hj).1; omega))
                    have hb1 := Below.grown (HB9.out.alloc HB9.out.size _) hg2 (HB9.out.alloc HB9.out.size _).size (fun j hj => by have := (HO9.out.lt j hj).1; omega)
                    have HB' := Lib.hid (Below.turned hb1 ht2 (fun i h => by omega) hb1.size)
                    clear ho2 hg2 hat2 hxp y0 y1 y2 q0 q1 q2 ht2 hb1 m0 m1' m2 m3 m4 k0 k1 k2 HX9 HS9 HO9 HB9
                    go_roundw
                    case rel => exact ⟨d + 1, _, by go_num, by omega, HB'.out, HX'.out, HO'.out⟩
                    case measure => simp [intOf]; omega
                  · have HNO := Lib.hid (rowD1_no (p := (n : Int)) (s := s) (d := d) (by rintro ⟨_, h | h⟩; exact h2 h; exact h3 h))
                    have h22 := bneT h2
                    have h31 := bneT h3
                    clear hp h2 h3
                    go_wp2_with (go_at_call 18; refine (HP.out _ ?_).mono ?_; (first | exact HBw.out | assumption); rintro e w1 ⟨rfl, hb⟩; subst hb)
                    go_roundw
                    case rel => exact ⟨d + 1, u, by go_num, by omega, HBq.out, HXq.out, by rw [HNO.out]; exact HOq.out⟩
                    case measure => simp [intOf]; omega
              · have HNO := Lib.hid (rowD1_no (p := (n : Int)) (s := s) (d := d) (by rintro ⟨h, _⟩; exact hp h))
                have hp1 := bneT hp
                clear hp
                go_wp2_with (go_at_call 18; refine (HP.out _ ?_).mono ?_; (first | exact HBw.out | assumption); rintro e w1 ⟨rfl, hb⟩; subst hb)
                go_roundw
                case rel => exact ⟨d + 1, u, by go_num, by omega, HBq.out, HXq.out, by rw [HNO.out]; exact HOq.out⟩
                case measure => simp [intOf]; omega
            · obtain rfl : d = 6 := by omega
              go_wp2_with fail
              go_roundw
              case rel => exact ⟨k + 1, u, by go_num, by omega, HBq.out, HXq.out, by rw [show l.take (k + 1) = l.take k ++ [s] by rw [List.take_add_one, HSK.out]; rfl, rowsP_snoc]; exact HOq.out⟩
              case measure => simp [intOf]; omega
        · obtain rfl : k = l.length := by omega
          rw [List.take_length] at HOq
          have HPP := Lib.hid H1'.out.p
          obtain ⟨A0, An0, Ac0, A1, An1, Ac1, A2, An2, Ac2, m, rfl, _⟩ := H1'.out.p
          obtain ⟨Au, cu, rfl, _⟩ := own_slice HOq.out
          have HPB := Lib.hid (heap_keep H1'.out.bp.get HBq.out)
          have HZB := Lib.hid (heap_keep H1'.out.z0 HBq.out)
          have HBwq := Lib.hid (bch H1'.out.bel HBq.out H1'.out.bel.size)
          obtain ⟨i0', i1', i2', i3', i4', i5', i6', i7', i8', i9'⟩ := cell10 HPB.out
          obtain ⟨k0, k1, k2⟩ := cell3c HXq.out
          go_wp2_with fail
          refine (accept_ok wr _ (toldK l n) (stmP n l) _ (HPP.out.below HBq.out) (rd_own HOq.out) (HT.out.below HBwq.out) HFI.out HST.out.1).mono ?_
          rintro e w6 ⟨v6, rfl, hv, hav, hb⟩
          rw [HST.out.2] at hv hav
          have HV6 := Lib.hid hv
          obtain ⟨C0, Cn0, Cc0, C1, Cn1, Cc1, C2, Cn2, Cc2, m1, rfl, _⟩ := hv
          have HAV := Lib.hid (fun b (h1 : w.heap.size ≤ b) (h2 : b < w.heap.size + 2) => hav b (by have := heap_lt HPB.out; omega) (H1'.out.av b h1 h2))
          have HPB6 := Lib.hid (heap_keep HPB.out hb)
          have HZB6 := Lib.hid (heap_keep HZB.out hb)
          have HB6 := Lib.hid (bch HBwq.out hb HBwq.out.size)
          clear hb hav i0' i1' i2' i3' i4' i5' i6' i7' i8' i9' k0 k1 k2 HPB HZB
          go_upto_region 20 with (fail)
          obtain ⟨w7, hw7⟩ : ∃ w7, w7 = w6.alloc (.cells #[.int .i64 (toldK l (n + 1)).a.1, .int .i64 (toldK l (n + 1)).a.2.1, .slice C0 Cn0 Cc0, .int .i64 (toldK l (n + 1)).b.1, .int .i64 (toldK l (n + 1)).b.2.1, .slice C1 Cn1 Cc1, .int .i64 (toldK l (n + 1)).c.1, .int .i64 (toldK l (n + 1)).c.2.1, .slice C2 Cn2 Cc2, .map m1] tIn) := ⟨_, rfl⟩
          rw [← hw7]
          have hb7 : Below w6.heap.size w6 w7 := by rw [hw7]; exact below_alloc _ _
          have HX7 := Lib.hid (show w7.heap[w6.heap.size]? = some (.cells #[.int .i64 (toldK l (n + 1)).a.1, .int .i64 (toldK l (n + 1)).a.2.1, .slice C0 Cn0 Cc0, .int .i64 (toldK l (n + 1)).b.1, .int .i64 (toldK l (n + 1)).b.2.1, .slice C1 Cn1 Cc1, .int .i64 (toldK l (n + 1)).c.1, .int .i64 (toldK l (n + 1)).c.2.1, .slice C2 Cn2 Cc2, .map m1] tIn (0, 0)) by rw [hw7]; exact heap_new _ _)
          have HPB7 := Lib.hid (heap_keep HPB6.out hb7)
          have HZB7 := Lib.hid (heap_keep HZB6.out hb7)
          have HB7 := Lib.hid (bch HB6.out hb7 HB6.out.size)
          have HV7 := Lib.hid (HV6.out.below hb7)
          clear hw7 hb7 HPB6 HZB6 HB6 HV6
          obtain ⟨i0', i1', i2', i3', i4', i5', i6', i7', i8', i9'⟩ := cell10 HX7.out
          obtain ⟨m0, m1', m2, m3, m4, m5, m6, m7, m8, m9⟩ := cell10 HPB7.out
          obtain ⟨f0, f1, f2, f3, f4, f5, f6, f7, f8, f9⟩ := froz10 HPB7.out
          go_wp2_with fail
          have ht8 := turned_set10 w7 (w.heap.size + 1) (.int .i64 (toldK l (n + 1)).a.1) (.int .i64 (toldK l (n + 1)).a.2.1) (.slice C0 Cn0 Cc0) (.int .i64 (toldK l (n + 1)).b.1) (.int .i64 (toldK l (n + 1)).b.2.1) (.slice C1 Cn1 Cc1) (.int .i64 (toldK l (n + 1)).c.1) (.int .i64 (toldK l (n + 1)).c.2.1) (.slice C2 Cn2 Cc2) (.map m1)
          have HK8 := Lib.hid (show To1 w _ _ (toldK l (n + 1)) from ⟨HV7.out.turned ht8 (fun b hb => by rw [hb]; exact HAV.out _ (by omega) (by omega)), HAV.out, ⟨_, rfl, set10 HPB7.out _ _ _ _ _ _ _ _ _ _⟩, heap_turned HZB7.out ht8 (by omega), Below.turned HB7.out ht8 (fun i h => by omega) HB7.out.size⟩)
          clear ht8 i0' i1' i2' i3' i4' i5' i6' i7' i8' i9' m0 m1' m2 m3 m4 m5 m6 m7 m8 m9 f0 f1 f2 f3 f4 f5 f6 f7 f8 f9 HX7 HPB7 HZB7 HB7 HV7
          go_roundw
          case rel => exact ⟨n + 1, _, by go_num, by omega, HK8.out⟩
          case measure => simp [intOf]; omega
    · obtain rfl : n = 3 := by omega
      have HPP := Lib.hid H1'.out.p
      obtain ⟨A0, An0, Ac0, A1, An1, Ac1, A2, An2, Ac2, m, rfl, _⟩ := H1'.out.p
      obtain ⟨i0', i1', i2', i3', i4', i5', i6', i7', i8', i9'⟩ := cell10 H1'.out.bp.get
      obtain ⟨m0, m1', m2, m3, m4, m5, m6, m7, m8, m9⟩ := cell10 H1'.out.z0
      obtain ⟨f0, f1, f2, f3, f4, f5, f6, f7, f8, f9⟩ := froz10 H1'.out.z0
      go_wp2_with fail
      obtain ⟨w8, hw8⟩ : ∃ w8, w8 = set10w w4 (w.heap.size) (.int .i64 (toldK l 3).a.1) (.int .i64 (toldK l 3).a.2.1) (.slice A0 An0 Ac0) (.int .i64 (toldK l 3).b.1) (.int .i64 (toldK l 3).b.2.1) (.slice A1 An1 Ac1) (.int .i64 (toldK l 3).c.1) (.int .i64 (toldK l 3).c.2.1) (.slice A2 An2 Ac2) (.map m) := ⟨_, rfl⟩
      rw [show (((((((((w4.setCell ⟨w.heap.size, 0, none⟩ (.int .i64 (toldK l 3).a.1)).setCell ⟨w.heap.size, 1, none⟩ (.int .i64 (toldK l 3).a.2.1)).setCell ⟨w.heap.size, 2, none⟩ (.slice A0 An0 Ac0)).setCell ⟨w.heap.size, 3, none⟩ (.int .i64 (toldK l 3).b.1)).setCell ⟨w.heap.size, 4, none⟩ (.int .i64 (toldK l 3).b.2.1)).setCell ⟨w.heap.size, 5, none⟩ (.slice A1 An1 Ac1)).setCell ⟨w.heap.size, 6, none⟩ (.int .i64 (toldK l 3).c.1)).setCell ⟨w.heap.size, 7, none⟩ (.int .i64 (toldK l 3).c.2.1)).setCell ⟨w.heap.size, 8, none⟩ (.slice A2 An2 Ac2)).setCell ⟨w.heap.size, 9, none⟩ (.map m) = w8 from hw8.symm]
      have ht8 : Turned (fun j => j = w.heap.size) w4 w8 := by rw [hw8]; exact turned_set10 _ _ _ _ _ _ _ _ _ _ _ _
      have x8 := set10 H1'.out.z0 (.int .i64 (toldK l 3).a.1) (.int .i64 (toldK l 3).a.2.1) (.slice A0 An0 Ac0) (.int .i64 (toldK l 3).b.1) (.int .i64 (toldK l 3).b.2.1) (.slice A1 An1 Ac1) (.int .i64 (toldK l 3).c.1) (.int .i64 (toldK l 3).c.2.1) (.slice A2 An2 Ac2) (.map m)
      rw [← hw8] at x8
      have HP8 := Lib.hid (HPP.out.turned ht8 (fun b hb => by rw [hb]; exact H1'.out.av _ (by omega) (by omega)))
      have HB8 := Lib.hid (Below.turned H1'.out.bel ht8 (fun i h => by omega) H1'.out.bel.size)
      clear i0' i1' i2' i3' i4' i5' i6' i7' i8' i9' m0 m1' m2 m3 m4 m5 m6 m7 m8 m9 f0 f1 f2 f3 f4 f5 f6 f7 f8 f9 ht8 hw8
      obtain ⟨m0, m1', m2, m3, m4, m5, m6, m7, m8, m9⟩ := cell10 x8
      refine bodyPost_ret (v := .tuple #[.agg #[.int .i64 (toldK l 3).a.1, .int .i64 (toldK l 3).a.2.1, .slice A0 An0 Ac0, .int .i64 (toldK l 3).b.1, .int .i64 (toldK l 3).b.2.1, .slice A1 An1 Ac1, .int .i64 (toldK l 3).c.1, .int .i64 (toldK l 3).c.2.1, .slice A2 An2 Ac2, .map m], .bool true]) (by simp [results, Tryd.results21, go_sem, m0, m1', m2, m3, m4, m5, m6, m7, m8, m9]) rfl ⟨_, rfl, HP8.out, HB8.out⟩
end Go.Proofs.YtlfibaijpimocaaDoor

/- The walk of consignorlaw04.CsvBack: it answers true, and nothing that was there is written. -/
import Derived.Test.YtopcapmjnbmfgaaDoorCsvGreat
import Derived.Test.YtopcapmjnbmfgaaDoorCsvRowed
import Derived.Test.YtopcapmjnbmfgaaDoorCsvBackSpec
import Derived.Laws.OwnMore
namespace Go.Proofs.YtopcapmjnbmfgaaDoor
open Go.RowKit

set_option maxHeartbeats 4000000 in
theorem back_great (v : Value) (L : List (List (List UInt8))) (cut : Int) (w : World) (hv : Rowz w w.heap.size v L) (hg : greatB L = true) :
    Calls Tryd.prog 4 #[v, .int .u16 cut] w fun e w' => e = .returned (.bool true) ∧ Below w.heap.size w w' := by
  have HG := great_any v L _ w hv
  obtain ⟨A, n, c, rfl, _⟩ := hv
  rw [hg] at HG
  have HG3 := Lib.hid HG
  clear hg HG
  go_enter Tryd.func4, Tryd.ntmps4
  go_wp2_with (first
    | (go_at_call 6; refine HG3.out.mono ?_; rintro e w1 ⟨rfl, rfl⟩)
    | (go_at_call 7; refine (rowed_true _).mono ?_; rintro e w1 ⟨rfl, hb⟩))
  go_ret
  exact ⟨rfl, hb⟩

theorem printed (v : Value) (L : List (List (List UInt8))) (w : World) (hv : Rowz w w.heap.size v L) (hM : HasMax w) (hf : Fits L) :
    ∃ s : ByteArray, s.data.toList = Csv.printOf L ∧ Calls Tryd.prog 8 #[v] w fun e w' => e = .returned (.string s) ∧ Below w.heap.size w w' :=
  ⟨⟨(Csv.printOf L).toArray⟩, by simp, print_any v L _ w hv (Nat.le_refl _) hf hM⟩

set_option maxHeartbeats 4000000 in
theorem back_long (A : Option Addr) (n c : Nat) (s : ByteArray) (cut : Int) (w : World) (HG : Hid (Calls Tryd.prog 6 #[.slice A n c] w fun e w' => e = .returned (.bool false) ∧ w' = w))
    (HP : Hid (Calls Tryd.prog 8 #[.slice A n c] w fun e w' => e = .returned (.string s) ∧ Below w.heap.size w w')) (hl : (65536 : Int) < (s.size : Int)) :
    Calls Tryd.prog 4 #[.slice A n c, .int .u16 cut] w fun e w' => e = .returned (.bool true) ∧ Below w.heap.size w w' := by
  go_enter Tryd.func4, Tryd.ntmps4
  go_wp2_with (first
    | (go_at_call 6; refine HG.out.mono ?_; rintro e w1 ⟨rfl, rfl⟩)
    | (go_at_call 8; refine HP.out.mono ?_; rintro e w1 ⟨rfl, hb⟩; have HB1 := Lib.hid hb; clear hb)
    | (go_at_call 7; refine (rowed_true _).mono ?_; rintro e w3 ⟨rfl, hb⟩; have HB3 := Lib.hid (bch HB1.out hb HB1.out.size); clear hb))
  go_ret
  exact ⟨rfl, HB3.out⟩

/-- The rows that are wanted, as far as they are made: the argument's own where there are fields, else a new one with one field that is empty. -/
structure Want (w : World) (L : List (List (List UInt8))) (wr : World) (v : Value) (j : Nat) (vs : List Value) : Prop where
  outer : wr.ownsRow w.heap.size tRow 1 v j vs
  each : ∀ (k : Nat) (u : Value) (r : List (List UInt8)), vs[k]? = some u → L[k]? = some r → (¬ r = [] ∧ Strs w w.heap.size u r) ∨ (r = [] ∧ wr.ownsRow w.heap.size tStr 1 u 1 [strV []])
theorem Want.start (w : World) (L : List (List (List UInt8))) (wr : World) : Want w L wr (.slice none 0 0) 0 [] := ⟨World.ownsRow_nil _ _ _ _, fun k u r h => by simp at h⟩
theorem Want.push {w : World} {L : List (List (List UInt8))} {wr w' : World} {v v' x : Value} {j : Nat} {vs : List Value} {r : List (List UInt8)} (h : Want w L wr v j vs) (ho : w'.ownsRow w.heap.size tRow 1 v' (j + 1) (vs ++ [x])) (hg : wr.grownBy w' v.ownBlock)
    (hr : L[j]? = some r) (hn : ¬ r = []) (hx : Strs w w.heap.size x r) : Want w L w' v' (j + 1) (vs ++ [x]) := by
  have hlen : vs.length = j := by have := h.outer.1; omega
  refine ⟨ho, fun k u r' hu hr' => ?_⟩
  by_cases hk : k < vs.length
  · rw [List.getElem?_append_left hk] at hu
    rcases h.each k u r' hu hr' with h1 | ⟨h1, h2⟩
    · exact .inl h1
    · exact .inr ⟨h1, h2.kept hg (own_ne h2 h.outer (by decide))⟩
  · have hk' : k = vs.length := by
      have := (List.getElem?_eq_some_iff.1 hu).1
      simp at this
      omega
    subst hk'
    rw [List.getElem?_append_right (Nat.le_refl _)] at hu
    rw [hlen, hr] at hr'
    simp at hu hr'
    subst hu; subst hr'
    exact .inl ⟨hn, hx⟩
/-- .. a row without fields: what was appended is overwritten. -/
theorem Want.pushE {w : World} {L : List (List (List UInt8))} {wr w2 : World} {v x : Value} {g cap j : Nat} {vs : List Value} (h : Want w L wr v j vs) (ho : w2.ownsRow w.heap.size tRow 1 (.slice (some ⟨g, 0, none⟩) (j + 1) cap) (j + 1) (vs ++ [x])) (hg : wr.grownBy w2 v.ownBlock)
    (hB : w.heap.size ≤ w2.heap.size) (hr : L[j]? = some []) : Want w L ((w2.alloc (.cells #[strV []] tStr)).setCell ⟨g, j, none⟩ (.slice (some ⟨w2.heap.size, 0, none⟩) 1 1)) (.slice (some ⟨g, 0, none⟩) (j + 1) cap) (j + 1) (vs ++ [.slice (some ⟨w2.heap.size, 0, none⟩) 1 1]) := by
  have hlen : vs.length = j := by have := h.outer.1; omega
  obtain ⟨h1, h2⟩ := (ho.alloc (.cells #[strV []] tStr)).stored j (.slice (some ⟨w2.heap.size, 0, none⟩) 1 1)
  rw [List.set_append_right _ _ (by omega), hlen, Nat.sub_self] at h1
  have hnew : (w2.alloc (.cells #[strV []] tStr)).ownsRow w.heap.size tStr 1 (.slice (some ⟨w2.heap.size, 0, none⟩) 1 1) 1 [strV []] :=
    ⟨rfl, .inr ⟨w2.heap.size, 1, #[strV []], rfl, hB, heap_alloc_new _ _, Nat.le_refl _, by unfold maxLen; omega, rfl, rfl⟩⟩
  have hO := ho.alloc (.cells #[strV []] tStr)
  refine ⟨h1, fun k u r' hu hr' => ?_⟩
  by_cases hk : k < vs.length
  · rw [List.getElem?_append_left hk] at hu
    rcases h.each k u r' hu hr' with h3 | ⟨h3, h4⟩
    · exact .inl h3
    · exact .inr ⟨h3, ((h4.kept hg (own_ne h4 h.outer (by decide))).alloc _).kept h2 (own_ne ((h4.kept hg (own_ne h4 h.outer (by decide))).alloc _) hO (by decide))⟩
  · have hk' : k = vs.length := by
      have := (List.getElem?_eq_some_iff.1 hu).1
      simp at this
      omega
    subst hk'
    rw [List.getElem?_append_right (Nat.le_refl _)] at hu
    rw [hlen, hr] at hr'
    simp at hu hr'
    subst hu; subst hr'
    exact .inr ⟨rfl, hnew.kept h2 (own_ne hnew hO (by decide))⟩
theorem Want.below {w : World} {L : List (List (List UInt8))} {wr w' : World} {v : Value} {j : Nat} {vs : List Value} (h : Want w L wr v j vs) (hb : Below wr.heap.size wr w') : Want w L w' v j vs :=
  ⟨own_below h.outer hb, fun k u r hu hr => by
    rcases h.each k u r hu hr with h1 | ⟨h1, h2⟩
    · exact .inl h1
    · exact .inr ⟨h1, own_below h2 hb⟩⟩
theorem Want.reads {w : World} {L : List (List (List UInt8))} {wr : World} {v : Value} {vs : List Value} (h : Want w L wr v L.length vs) (hb : Below w.heap.size w wr) : Rowz wr wr.heap.size v (L.map Csv.fill) :=
  own_sl h.outer (by simp) fun k u x hu hx => by
    rw [List.getElem?_map, Option.map_eq_some_iff] at hx
    obtain ⟨r, hr, rfl⟩ := hx
    rcases h.each k u r hu hr with ⟨h1, h2⟩ | ⟨h1, h2⟩
    · rw [show Csv.fill r = r by simp [Csv.fill, h1]]
      exact (Sl.mono h2 hb hb.size fun _ _ _ h => h)
    · subst h1
      exact own_strs (r := [[]]) h2

theorem own_last {w : World} {B : Nat} {e : TypeId} {g cap j : Nat} {vs : List Value} {x : Value} (h : w.ownsRow B e 1 (.slice (some ⟨g, 0, none⟩) (j + 1) cap) (j + 1) (vs ++ [x])) (o : Obj) :
    (w.alloc o).cell? ⟨g, j, none⟩ = some x ∧ (w.alloc o).frozen? ⟨g, j, none⟩ = false := by
  refine ⟨?_, (h.alloc o).frozenAt j⟩
  have hl : vs.length = j := by have := h.1; simp at this; omega
  have h2 := (h.alloc o).cells (g := g) rfl j x (by rw [List.getElem?_append_right (by omega), hl]; simp)
  have hadd : (⟨g, 0, none⟩ : Addr).add j = ⟨g, j, none⟩ := by unfold Addr.add; split <;> simp_all
  rw [hadd] at h2
  exact h2
theorem below_drewB {B : Nat} {a b : World} (h : Below B a b) (n : Nat) : Below B a (b.drewN n) := ⟨h.os, h.tape, h.output, h.size, h.block⟩
theorem sl_take {α : Type} {w : World} {B : Nat} {R : Value → α → Prop} {A : Option Addr} {n c m : Nat} {L : List α} (h : Sl w B R (.slice A n c) L) (hm : m ≤ n) : Sl w B R (.slice A m c) (L.take m) := by
  obtain ⟨A', n', c', he, hl, hc, hh⟩ := h
  injection he with h1 h2 h3
  subst h1; subst h2; subst h3
  refine ⟨A, m, c, rfl, by rw [List.length_take]; omega, by omega, fun k x hk => hh k x ?_⟩
  rw [List.getElem?_take] at hk
  split at hk
  · exact hk
  · simp at hk
theorem sl_some {α : Type} {w : World} {B : Nat} {R : Value → α → Prop} {A : Option Addr} {n c : Nat} {L : List α} (h : Sl w B R (.slice A n c) L) (hn : 0 < n) : ∃ ad, A = some ad ∧ n ≤ c := by
  obtain ⟨A', n', c', he, hl, hc, hh⟩ := h
  injection he with h1 h2 h3
  subst h1; subst h2; subst h3
  obtain ⟨ad, u, h, _⟩ := hh 0 _ (List.getElem?_eq_getElem (by omega))
  exact ⟨ad, h, hc⟩
theorem own_len {w : World} {B : Nat} {e : TypeId} {z n : Nat} {v : Value} {xs : List Value} (h : w.ownsRow B e z v n xs) : ∃ a c, v = .slice a n c := by
  rcases h.2 with ⟨rfl, rfl⟩ | ⟨g, cap, cur, rfl, _⟩ <;> exact ⟨_, _, rfl⟩
theorem own_succ {w : World} {B : Nat} {e : TypeId} {z n : Nat} {v : Value} {xs : List Value} (h : w.ownsRow B e z v (n + 1) xs) : ∃ g cap, v = .slice (some ⟨g, 0, none⟩) (n + 1) cap ∧ B ≤ g := by
  rcases h.2 with ⟨_, h⟩ | ⟨g, cap, cur, rfl, hB, _⟩
  · omega
  · exact ⟨g, cap, rfl, hB⟩

set_option maxHeartbeats 4000000 in
theorem back_main (A : Option Addr) (n c : Nat) (L : List (List (List UInt8))) (s : ByteArray) (cut : Nat) (w : World) (hn : L.length = n) (hn40 : n ≤ 40)
    (hh : Hid (∀ k x, L[k]? = some x → ∃ ad u, A = some ad ∧ ad.block < w.heap.size ∧ w.cell? (ad.add k) = some u ∧ Strs w w.heap.size u x))
    (HG : Hid (Calls Tryd.prog 6 #[.slice A n c] w fun e w' => e = .returned (.bool false) ∧ w' = w))
    (HP : Hid (Calls Tryd.prog 8 #[.slice A n c] w fun e w' => e = .returned (.string s) ∧ Below w.heap.size w w')) (hl : ¬ (65536 : Int) < (s.size : Int)) (hcut : cut < 65536)
    (HCU : Hid (∀ k, k < s.size → (∃ a b c, Csv.parse (s.extract 0 k).data.toList = ([], a, b, c) ∧ (c = 1 ∨ c = 2) ∧ 1 ≤ a) ∨ ∃ M, Csv.parse (s.extract 0 k).data.toList = (M, 0, 0, 0) ∧ M.length < n ∧ (L.map Csv.fill).take M.length = M))
    (HE0 : Hid (s.size = 0 → n = 0)) (HPA : Hid (Csv.parse s.data.toList = (L.map Csv.fill, 0, 0, 0))) (hM1 : Hid ((L.map Csv.fill).length ≤ 1000000)) (hM2 : Hid (∀ r ∈ L.map Csv.fill, r.length ≤ 1000000)) :
    Calls Tryd.prog 4 #[.slice A n c, .int .u16 cut] w fun e w' => e = .returned (.bool true) ∧ Below w.heap.size w w' := by
  obtain ⟨j0, hj, hy0, hy1, hy2⟩ := info_parts row_info
  have HN := Lib.hid hn; clear hn
  go_enter Tryd.func4, Tryd.ntmps4
  go_wp2_with (first
    | (go_at_call 6; refine HG.out.mono ?_; rintro e w1 ⟨rfl, hw⟩; obtain rfl : w = w1 := hw.symm)
    | (go_at_call 8; refine HP.out.mono ?_; rintro e w1 ⟨rfl, hb⟩; have HB1 := Lib.hid hb; clear hb))
  go_loopw [6, 7] (fun v i wr => ∃ (j : Nat) (vs : List Value), j ≤ n ∧ i = .int .i64 j ∧ Hid (Want w L wr v j vs) ∧ Hid (Below w.heap.size w wr)) (fun _ i _ => n - (intOf i).toNat)
  case atStart => exact ⟨0, [], Nat.zero_le _, rfl, Want.start _ _ _, HB1⟩
  case round =>
    obtain ⟨j, vs, hjn, rfl, HI, HW⟩ := hrel
    by_cases hlt : j < n
    · obtain ⟨r, hr⟩ : ∃ x, L[j]? = some x := ⟨_, List.getElem?_eq_getElem (by have := HN.out; omega)⟩
      obtain ⟨ad, u, rfl, had, hcell0, hu⟩ := hh.out j r hr
      have hcell := (HW.out.cell (p := ad.add j) (by rw [block_add]; omega)).trans hcell0
      have HU := Lib.hid hu
      obtain ⟨Ai, ni, ci, rfl, hni, hci, hx⟩ := hu
      have HR := Lib.hid hr
      have HZ0 := Lib.hid hcell0
      clear hr hx hcell0
      by_cases hn0 : ni = 0
      · have HNE := Lib.hid (show L[j]? = some [] by
          have h := HR.out
          rw [hn0] at hni
          rw [List.eq_nil_of_length_eq_zero hni] at h
          exact h)
        subst hn0
        have hzz : ((0 : Nat) : Int) = 0 := rfl
        clear hni
        go_wp2_with (at_builtin; refine wpList_append_own_at _ rfl (.tmp 28) (.tmp 33) 22 rfl w.heap.size tRow j0 (.slice none 0 0) 1 24 Tryd.underlying22 hj hy0 hy1 hy2 rfl (by decide) _ _ _ rfl (HI.out.outer.alloc _) ⟨wr.heap.size, 0, none⟩ 1 1 [.slice Ai _ ci] rfl rfl (one_new _ _ _) (by intro u hu; simp at hu; subst hu; rfl) (by unfold maxLen; omega) (by omega) (by have := HW.out.size; simp; omega) ?_; intro v2 w2 ho2 hg2 _ _; obtain ⟨g, cap, rfl, hgB⟩ := own_succ ho2; have HB2 := Lib.hid ((HW.out.alloc HW.out.size (.cells #[.slice Ai _ ci] tRow)).grown hg2 (by have := HW.out.size; simp; omega) (fun k hk => (HI.out.outer.lt _ hk).1)); have hcell2 := (HB2.out.cell (p := ad.add j) (by rw [block_add]; omega)).trans HZ0.out; have HP2 := Lib.hid (fun hB => Want.pushE (HI.out.below ((Below.refl _ _).alloc (Nat.le_refl _) _)) ho2 hg2 hB HNE.out); obtain ⟨hca, hfz⟩ := own_last ho2 (.cells #[.string ⟨#[]⟩] tStr); clear ho2 hg2)
        go_roundw
        case rel => exact ⟨j + 1, _, by omega, by go_num, HP2.out HB2.out.size, (HB2.out.alloc HB2.out.size _).setCell hgB _⟩
        case measure => simp [intOf]; omega
      · have HNE := Lib.hid (show ¬ r = [] by rintro rfl; simp at hni; omega)
        have hn0' := beqF (show ¬ (ni : Int) = 0 by omega)
        clear hni
        go_wp2_with (at_builtin; refine wpList_append_own_at _ rfl (.tmp 28) (.tmp 33) 22 rfl w.heap.size tRow j0 (.slice none 0 0) 1 24 Tryd.underlying22 hj hy0 hy1 hy2 rfl (by decide) _ _ _ rfl (HI.out.outer.alloc _) ⟨wr.heap.size, 0, none⟩ 1 1 [.slice Ai _ ci] rfl rfl (one_new _ _ _) (by intro u hu; simp at hu; subst hu; rfl) (by unfold maxLen; omega) (by omega) (by have := HW.out.size; simp; omega) ?_; intro v2 w2 ho2 hg2 _ _; obtain ⟨g, cap, rfl, hgB⟩ := own_succ ho2; have HB2 := Lib.hid ((HW.out.alloc HW.out.size (.cells #[.slice Ai _ ci] tRow)).grown hg2 (by have := HW.out.size; simp; omega) (fun k hk => (HI.out.outer.lt _ hk).1)); have hcell2 := (HB2.out.cell (p := ad.add j) (by rw [block_add]; omega)).trans HZ0.out; have HP2 := Lib.hid ((HI.out.below ((Below.refl _ _).alloc (Nat.le_refl _) _)).push ho2 hg2 HR.out HNE.out HU.out); clear ho2 hg2)
        go_roundw
        case rel => exact ⟨j + 1, _, by omega, by go_num, HP2, HB2⟩
        case measure => simp [intOf]; omega
    · have hj' : j = n := by omega
      subst hj'
      have HR0 := Lib.hid (show Rowz wr wr.heap.size _ (L.map Csv.fill) from (by have h := HI.out; rw [← HN.out] at h; exact h.reads HW.out))
      obtain ⟨a2, c2, rfl⟩ := own_len HI.out.outer
      go_wp2_with fail
      refine (parse_is s (L.map Csv.fill) 0 0 0 wr HPA.out).mono ?_
      rintro e w2 ⟨A1, n1, cp1, rfl, hn1, hr, hb⟩
      have HR1 := Lib.hid hr; have HB1 := Lib.hid hb; have HN1 := Lib.hid hn1
      have HC1 := Lib.hid (heap_alloc_new w2 (Obj.cells #[Value.int IntKind.i64 0, Value.int IntKind.i64 0, Value.int IntKind.i64 0] tRej))
      have HBB := Lib.hid (bch HW.out hb HW.out.size)
      obtain ⟨x0, x1, x2, _⟩ := cell3 HC1.out
      clear hr hb hn1
      go_wp2_with fail
      refine (same_any _ _ (L.map Csv.fill) (L.map Csv.fill) (w2.heap.size + 1) _ (Rowz.below HR1.out ((Below.refl _ _).alloc (Nat.le_refl _) _) (by omega)) (Rowz.below HR0.out (HB1.out.alloc HB1.out.size _) (by have := HB1.out.size; omega)) hM1.out hM1.out hM2.out hM2.out).mono ?_
      rintro e w3 ⟨rfl, n3, rfl⟩
      have HB3 := Lib.hid (show Below w.heap.size w ((w2.alloc (Obj.cells #[Value.int IntKind.i64 0, Value.int IntKind.i64 0, Value.int IntKind.i64 0] tRej)).drewN n3) from below_drewB (HBB.out.alloc HBB.out.size _) n3)
      have HR3 := Lib.hid (show Rowz ((w2.alloc (Obj.cells #[Value.int IntKind.i64 0, Value.int IntKind.i64 0, Value.int IntKind.i64 0] tRej)).drewN n3) (w2.heap.size + 1) (.slice a2 j c2) (L.map Csv.fill) from Rowz.below HR0.out (below_drewB (HB1.out.alloc HB1.out.size _) n3) (by have := HB1.out.size; omega))
      have hsz3 : ((w2.alloc (Obj.cells #[Value.int IntKind.i64 0, Value.int IntKind.i64 0, Value.int IntKind.i64 0] tRej)).drewN n3).heap.size = w2.heap.size + 1 := by show (w2.alloc _).heap.size = _; simp
      generalize (w2.alloc (Obj.cells #[Value.int IntKind.i64 0, Value.int IntKind.i64 0, Value.int IntKind.i64 0] tRej)).drewN n3 = w4 at HB3 HR3 hsz3 ⊢
      by_cases hs0 : s.size = 0
      · have hs0' := beqT (show (s.size : Int) = 0 by omega)
        have hj0 := beqT (show (j : Int) = 0 by have := HE0.out hs0; omega)
        go_wp2_with (go_at_call 7; refine (rowed_true _).mono ?_; rintro e w5 ⟨rfl, hb⟩; have HB5 := Lib.hid (bch HB3.out hb HB3.out.size); clear hb)
        go_ret
        exact ⟨by simp, HB5.out⟩
      · have hs0' := beqF (show ¬ (s.size : Int) = 0 by omega)
        obtain ⟨k, hk⟩ : ∃ k, cut % s.size = k := ⟨_, rfl⟩
        have hmod : (cut : Int).tmod (s.size : Int) = (k : Int) := by rw [← hk]; rfl
        have hks : k < s.size := by rw [← hk]; exact Nat.mod_lt _ (by omega)
        go_wp2_with fail
        rcases HCU.out k hks with ⟨a, b, c3, hp, hc3, ha1⟩ | ⟨M, hp, hM3, hM4⟩
        · have HP4 := Lib.hid hp
          have ha0 := beqF (show ¬ (a : Int) = 0 by omega)
          clear hp
          refine (parse_is _ [] a b c3 w4 HP4.out).mono ?_
          rintro e w5 ⟨A5, n5, cp5, rfl, hn5, hr, hb⟩
          simp only [List.length_nil] at hn5
          subst hn5
          have HB5 := Lib.hid (bch HB3.out hb HB3.out.size)
          have HC5 := Lib.hid (heap_alloc_new w5 (Obj.cells #[Value.int IntKind.i64 (a : Int), Value.int IntKind.i64 (b : Int), Value.int IntKind.i64 (c3 : Int)] tRej))
          obtain ⟨y0, y1, y2, _⟩ := cell3 HC5.out
          clear hr hb
          rcases hc3 with hc3 | hc3
          · have q2 := beqF (show ¬ (c3 : Int) = 2 by omega)
            have q1 := beqT (show (c3 : Int) = 1 by omega)
            go_wp2_with fail
            refine (rowed_true _).mono ?_
            rintro e w6 ⟨rfl, hb⟩
            have HB6 := Lib.hid (show Below w.heap.size w w6 from bch (HB5.out.alloc HB5.out.size _) hb (by have := HB5.out.size; simp; omega))
            clear hb
            go_wp2_with fail
            go_ret
            exact ⟨by simp, HB6.out⟩
          · have q2 := beqT (show (c3 : Int) = 2 by omega)
            have q1 := beqF (show ¬ (c3 : Int) = 1 by omega)
            go_wp2_with fail
            refine (rowed_true _).mono ?_
            rintro e w6 ⟨rfl, hb⟩
            have HB6 := Lib.hid (show Below w.heap.size w w6 from bch (HB5.out.alloc HB5.out.size _) hb (by have := HB5.out.size; simp; omega))
            clear hb
            go_wp2_with fail
            go_ret
            exact ⟨by simp, HB6.out⟩
        · have HP4 := Lib.hid hp
          obtain ⟨ad2, rfl, hjc⟩ := sl_some HR3.out (show 0 < j by omega)
          have HM3 := Lib.hid hM4
          have HT := Lib.hid (show Rowz w4 (w2.heap.size + 1) (.slice (some ad2) M.length c2) M by
            have h := sl_take HR3.out (m := M.length) (by omega)
            rw [hM4] at h
            exact h)
          have HM5 := Lib.hid (show M.length ≤ 1000000 by omega)
          have HM6 := Lib.hid (show ∀ r ∈ M, r.length ≤ 1000000 from fun r hr => hM2.out r (List.mem_of_mem_take (by rw [hM4]; exact hr)))
          clear hp hM4
          refine (parse_is _ M 0 0 0 w4 HP4.out).mono ?_
          rintro e w5 ⟨A5, n5, cp5, rfl, hn5, hr, hb⟩
          subst hn5
          have HB5 := Lib.hid (bch HB3.out hb HB3.out.size)
          have HR5 := Lib.hid hr
          have HC5 := Lib.hid (heap_alloc_new w5 (Obj.cells #[Value.int IntKind.i64 0, Value.int IntKind.i64 0, Value.int IntKind.i64 0] tRej))
          have HT5 := Lib.hid (show Rowz (w5.alloc (Obj.cells #[Value.int IntKind.i64 0, Value.int IntKind.i64 0, Value.int IntKind.i64 0] tRej)) (w5.heap.size + 1) (.slice (some ad2) M.length c2) M from
            Rowz.below (Rowz.below HT.out (hb.mono (by omega)) (Nat.le_refl _)) ((Below.refl _ _).alloc (by have := hb.size; omega) _) (by have := hb.size; omega))
          have hmj : (M.length : Int) < (j : Int) := by omega
          have hmj2 : M.length ≤ c2 := by omega
          obtain ⟨y0, y1, y2, _⟩ := cell3 HC5.out
          clear hr hb
          go_wp2_with fail
          refine (same_any _ _ M M (w5.heap.size + 1) _ (Rowz.below HR5.out ((Below.refl _ _).alloc (Nat.le_refl _) _) (by omega)) HT5.out HM5.out HM5.out HM6.out HM6.out).mono ?_
          rintro e w6 ⟨rfl, n6, rfl⟩
          go_wp2_with fail
          refine (rowed_true _).mono ?_
          rintro e w7 ⟨rfl, hb7⟩
          have HB7 := Lib.hid (show Below w.heap.size w w7 from bch (below_drewB (HB5.out.alloc HB5.out.size _) n6) hb7 (by have := HB5.out.size; show w.heap.size ≤ (w5.alloc _).heap.size; simp; omega))
          clear hb7
          go_wp2_with fail
          go_ret
          exact ⟨by simp, HB7.out⟩

theorem print_nil {L : List (List (List UInt8))} (h : Csv.printOf L = []) : L = [] := by
  cases L with
  | nil => rfl
  | cons r t =>
    have h2 := congrArg List.length h
    simp [Csv.printOf] at h2

theorem lawCsvBack_walk (v : Value) (L : List (List (List UInt8))) (cut : Nat) (w : World) (hv : Rowz w w.heap.size v L) (hM : HasMax w) (hcut : cut < 65536) :
    Calls Tryd.prog 4 #[v, .int .u16 cut] w fun e w' => e = .returned (.bool true) ∧ Below w.heap.size w w' := by
  cases hg : greatB L with
  | true => exact back_great v L cut w hv hg
  | false =>
    obtain ⟨hf, hl40, hfr⟩ := fits_of hg
    obtain ⟨s, hs, hP⟩ := printed v L w hv hM hf
    have hG := great_any v L _ w hv
    rw [hg] at hG
    have hG := hG.mono fun e w' (h : e = Ending.returned (Value.bool false) ∧ w = w') => (⟨h.1, h.2.symm⟩ : e = Ending.returned (Value.bool false) ∧ w' = w)
    obtain ⟨A, n, c, rfl, hn, hc, hh⟩ := hv
    have hsz : s.data.toList.length = s.size := by simp
    by_cases hl : (65536 : Int) < (s.size : Int)
    · exact back_long A n c s cut w hG hP hl
    · refine back_main A n c L s cut w hn (by omega) hh hG hP hl hcut (fun k hk => ?_) (fun h0 => ?_) ?_ ?_ ?_
      · have he : (s.extract 0 k).data.toList = (Csv.printOf L).take k := by
          rw [← hs]
          simp
        rw [he]
        have := Csv.parse_cut L k (by rw [← hs, hsz]; exact hk) (by rw [← hs, hsz]; omega)
        rw [hn] at this
        exact this
      · have h1 : Csv.printOf L = [] := by
          rw [← hs]
          exact List.eq_nil_of_length_eq_zero (by rw [hsz]; exact h0)
        rw [print_nil h1] at hn
        exact hn.symm
      · show Csv.parse s.data.toList = _
        rw [hs]
        exact Csv.parse_print L (by rw [← hs, hsz]; omega)
      · show (L.map Csv.fill).length ≤ 1000000
        rw [List.length_map]
        omega
      · intro r hr
        obtain ⟨q, hq, rfl⟩ := List.mem_map.1 hr
        have h1 := (hfr q hq).1
        unfold Csv.fill
        split
        · simp
        · omega
end Go.Proofs.YtopcapmjnbmfgaaDoor

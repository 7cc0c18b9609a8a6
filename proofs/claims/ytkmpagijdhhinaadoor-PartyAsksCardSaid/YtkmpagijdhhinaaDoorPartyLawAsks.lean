/- law16: PartyAsks. -/
import Derived.Test.YtkmpagijdhhinaaDoorPartyBoth
namespace Go.Proofs.YtkmpagijdhhinaaDoor
open Go.RowKit Go.Maps Key Od Pa

abbrev tFirm : TypeId := 23
/-- A row of the caller's own, some of it zeroed. -/
def Zd (w : World) (B : Nat) (v : Value) (n : Nat) : Prop := ∀ g, v.ownBlock = some g → B ≤ g ∧ ∃ cur : Array Value, w.heap[g]? = some (.cells cur tRow (0, 0)) ∧ n * 5 ≤ cur.size
theorem zd_of {w : World} {B n : Nat} {v : Value} {xs : List Value} (h : w.ownsRow B tRow 5 v n xs) : Zd w B v n := by
  intro g hg
  refine ⟨(h.lt g hg).1, ?_⟩
  rcases h.2 with ⟨rfl, _⟩ | ⟨g', cap, cur, rfl, _, hg', hc, _, hs, _⟩
  · cases hg
  · simp only [Value.ownBlock, Option.some.injEq] at hg
    subst hg
    exact ⟨cur, hg', by omega⟩
theorem Zd.keep {w w' : World} {B n : Nat} {v : Value} (h : Zd w B v n) (hb : Below w.heap.size w w') : Zd w' B v n := by
  intro g hg
  obtain ⟨h1, cur, h2, h3⟩ := h g hg
  exact ⟨h1, cur, heap_keep h2 hb, h3⟩
theorem zd_cells {w : World} {B n c g k : Nat} (h : Zd w B (.slice (some ⟨g, 0, none⟩) n c) n) (hk : k < n) : (∃ x0 x1 x2 x3 x4, w.cell? ⟨g, k * 5, none⟩ = some x0 ∧ w.cell? ⟨g, k * 5 + 1, none⟩ = some x1 ∧ w.cell? ⟨g, k * 5 + 2, none⟩ = some x2 ∧ w.cell? ⟨g, k * 5 + 3, none⟩ = some x3 ∧ w.cell? ⟨g, k * 5 + 4, none⟩ = some x4) ∧ (w.frozen? ⟨g, k * 5, none⟩ = false ∧ w.frozen? ⟨g, k * 5 + 1, none⟩ = false ∧ w.frozen? ⟨g, k * 5 + 2, none⟩ = false ∧ w.frozen? ⟨g, k * 5 + 3, none⟩ = false ∧ w.frozen? ⟨g, k * 5 + 4, none⟩ = false) := by
  obtain ⟨_, cur, h2, h3⟩ := h g rfl
  have at' : ∀ j, j < 5 → ∃ x, cur[k * 5 + j]? = some x := fun j hj => ⟨_, Array.getElem?_eq_getElem (by omega)⟩
  obtain ⟨x0, h0⟩ := at' 0 (by omega)
  obtain ⟨x1, h1⟩ := at' 1 (by omega)
  obtain ⟨x2, h2'⟩ := at' 2 (by omega)
  obtain ⟨x3, h3'⟩ := at' 3 (by omega)
  obtain ⟨x4, h4⟩ := at' 4 (by omega)
  exact ⟨⟨x0, x1, x2, x3, x4, cell_at h2 _ h0, cell_at h2 _ h1, cell_at h2 _ h2', cell_at h2 _ h3', cell_at h2 _ h4⟩, frozen_at h2 _, frozen_at h2 _, frozen_at h2 _, frozen_at h2 _, frozen_at h2 _⟩
theorem zd_set {w : World} {B n : Nat} {v : Value} (h : Zd w B v n) (b i : Nat) (u : Value) : Zd (w.setCell ⟨b, i, none⟩ u) B v n := by
  intro g hg
  obtain ⟨h1, cur, h2, h3⟩ := h g hg
  refine ⟨h1, ?_⟩
  by_cases e : b = g
  · subst e
    exact ⟨cur.setIfInBounds i u, by simp [World.setCell, Array.getElem?_modify, h2], by simpa using h3⟩
  · exact ⟨cur, by simp [World.setCell, Array.getElem?_modify, h2, e], h3⟩
theorem turned_at {S : Nat → Prop} (w : World) (b i : Nat) (u : Value) (h : S b) : Turned S w (w.setCell ⟨b, i, none⟩ u) := (turned_set w b i u).mono fun j e => by have : j = b := e; subst this; exact h
/-- Messages whose deeds are numbers of the machine. -/
abbrev MsgsW (w : World) (v : Value) (L : List Msg6) : Prop := SlK w w.heap.size 7 (fun cs x => IsMsg cs x ∧ Mon.InR x.2.1.2) v L
theorem MsgsW.plain {w : World} {v : Value} {L : List Msg6} (h : MsgsW w v L) : Msgs w v L := SlK.mono h (Below.refl _ _) (Nat.le_refl _) (fun _ _ _ h => h.1)
theorem MsgsW.deed {w : World} {v : Value} {L : List Msg6} (h : MsgsW w v L) : ∀ x ∈ L, Mon.InR x.2.1.2 := by
  intro x hx
  obtain ⟨i, hi⟩ := List.getElem?_of_mem hx
  obtain ⟨A, n, c, rfl, _, _, _, hh⟩ := h
  obtain ⟨_, _, _, _, _, _, _, _, h2⟩ := hh i x hi
  exact h2
section
open Go.ChangeShapes Go.WideShapes Go.Deep Go.Joins
variable {H : Type} {enc : TypeId × Value → H}
theorem opens_msgW : Opens enc Tryd.prog 35 Msg6 fun _ _ cs x => IsMsg cs x ∧ Mon.InR x.2.1.2 :=
  (opens_struct Tryd.underlying35 (k := 7) (by kernel_rfl) (opens_cons (k := 1) (by kernel_rfl) (opens_int Tryd.underlying3) (opens_cons (k := 2) (by kernel_rfl) opens_key (opens_cons (k := 1) (by kernel_rfl) (opens_str Tryd.underlying9) (opens_cons (k := 1) (by kernel_rfl) (opens_int Tryd.underlying3) (opens_cons (k := 1) (by kernel_rfl) (opens_int Tryd.underlying2) (opens_cons (k := 1) (by kernel_rfl) (opens_int Tryd.underlying3) opens_nil))))))).imp fun _ _ cs a h => by
    obtain ⟨hl, h0, h1, h2, h3, h4, h5, _⟩ := h
    obtain ⟨x0, x1, x2, x3, x4, x5, x6, rfl⟩ := list7 hl
    simp only [IsKey, List.drop_zero, List.take_succ_cons, List.take_zero, List.drop_succ_cons, List.cons.injEq, and_true] at h0 h1 h2 h3 h4 h5
    exact ⟨(a.1, a.2.1, a.2.2.1, a.2.2.2.1, a.2.2.2.2.1, a.2.2.2.2.2.1), by unfold IsMsg; rw [h0.1, h1.1.1, h1.1.2, h2.1, h3.1, h4.1, h5.1], h1.2.2⟩
end
set_option linter.unusedSimpArgs false in
set_option linter.unusedVariables false in
set_option maxRecDepth 100000 in
set_option maxHeartbeats 12000000 in
theorem lawPartyAsks_walk (w : World) (hT : PT w) (kind stock limit : Int) (v : Value) (L : List Msg6) (sku : ByteArray) (h : MsgsW w v L) :
    Calls Tryd.prog 3 #[.agg #[.int .i64 kind, .int .i64 stock, .int .i64 limit], v, .string sku] w fun e w' => e = .returned (.bool true) ∧ Below w.heap.size w w' := by
  have HIN := Lib.hid h.deed
  replace h := h.plain
  have HX0 := Lib.hid (heap_new w (.cells #[.int .i64 kind, .int .i64 stock, .int .i64 limit] tFirm))
  have HB0 := Lib.hid (below_alloc w (.cells #[.int .i64 kind, .int .i64 stock, .int .i64 limit] tFirm))
  have HT := Lib.hid hT
  obtain ⟨A, c, rfl, hLc, hcm⟩ := h.shape
  have HS := Lib.hid h
  clear hT h
  cases hg : greatB L 80 with
  | true =>
    have HG := Lib.hid ((great_any w _ _ L 80 HS.out HB0.out).mono (fun e w' h => (⟨h.1.trans (by rw [hg]), h.2⟩ : e = .returned (.bool true) ∧ _ = w')))
    clear hg
    go_enter Tryd.func3, Tryd.ntmps3
    go_wp2_with fail
    refine HG.out.mono ?_
    rintro e w1 ⟨rfl, hw⟩; subst hw
    go_wp2_with fail
    refine (asked_true _ (HT.out.below HB0.out)).mono ?_
    rintro e w2 ⟨rfl, hb⟩
    have HB := Lib.hid (bch HB0.out hb HB0.out.size)
    clear hb
    go_wp2_with fail
    go_ret
    exact ⟨rfl, HB.out⟩
  | false =>
    obtain ⟨h80, hsk⟩ := great_no hg
    have HSK := Lib.hid hsk
    have HG := Lib.hid ((great_any w _ _ L 80 HS.out HB0.out).mono (fun e w' h => (⟨h.1.trans (by rw [hg]), h.2⟩ : e = .returned (.bool false) ∧ _ = w')))
    clear hsk hg
    by_cases h50 : 50 < sku.size
    · have h50' : (50 : Int) < sku.size := by omega
      go_enter Tryd.func3, Tryd.ntmps3
      go_wp2_with fail
      refine HG.out.mono ?_
      rintro e w1 ⟨rfl, hw⟩; subst hw
      go_wp2_with fail
      refine (asked_true _ (HT.out.below HB0.out)).mono ?_
      rintro e w2 ⟨rfl, hb⟩
      have HB := Lib.hid (bch HB0.out hb HB0.out.size)
      clear hb
      go_wp2_with fail
      go_ret
      exact ⟨rfl, HB.out⟩
    · have h50' : (sku.size : Int) ≤ 50 := by omega
      go_enter Tryd.func3, Tryd.ntmps3
      go_wp2_with fail
      refine HG.out.mono ?_
      rintro e w1 ⟨rfl, hw⟩; subst hw
      clear HG
      generalize w.alloc (.cells #[.int .i64 kind, .int .i64 stock, .int .i64 limit] tFirm) = wa at HX0 HB0 ⊢
      obtain ⟨x0, x1, x2⟩ := cell3c HX0.out
      by_cases hk : 0 ≤ kind ∧ kind ≤ 2
      · go_wp2_with fail
        refine (Pl.new wa (HT.out.below HB0.out) kind stock limit hk).mono ?_
        rintro e wb ⟨p, bk, tk, wh, rfl, hp, hb1⟩
        have HPN := Lib.hid hp
        have HB1 := Lib.hid hb1
        clear hp hb1 x0 x1 x2
        obtain ⟨x0, x1, x2⟩ := cell3c (heap_keep HX0.out HB1.out)
        go_wp2_with fail
        refine (refNew_any wb kind stock limit hk).mono ?_
        rintro e wc ⟨rfl, hr, hb2⟩
        have HP : Hid (Bo wa wc p bk tk wh wb.heap.size kind (min (max stock 0) 1000000000) limit 0 0 0 0 ⟨[], [], []⟩ ⟨[], [], []⟩) := Lib.hid ⟨HPN.out.keep hb2, ⟨_, _, hr.weak HB1.out.size⟩, HPN.out.g, by simp, by simp, hk⟩
        clear hr hb2 HPN HB1 HX0 x0 x1 x2
        generalize wb.heap.size = r at HP ⊢
        generalize min (max stock 0) 1000000000 = stk at HP
        go_wp2_with fail
        go_loopw [9] (fun i wr => ∃ (k : Nat) (st : St) (sq : Int), i = .int .i64 k ∧ k ≤ L.length ∧ (0 ≤ sq ∧ sq ≤ k) ∧ Hid (Bo wa wr p bk tk wh r kind stk limit sq sq k k st st)) (fun i _ => L.length - (intOf i).toNat)
        case atStart => exact ⟨0, _, 0, rfl, by omega, by omega, HP⟩
        case round =>
          clear HP
          obtain ⟨k, st, sq, rfl, hk', hsq, HP⟩ := hrel
          by_cases hkl : k < L.length
          · obtain ⟨x, hx⟩ : ∃ x, L[k]? = some x := ⟨_, List.getElem?_eq_getElem hkl⟩
            obtain ⟨j, hj⟩ : ∃ j : Nat, j = L.length - 1 - k := ⟨_, rfl⟩
            have hjl : j < L.length := by omega
            obtain ⟨y, hy⟩ : ∃ y, L[j]? = some y := ⟨_, List.getElem?_eq_getElem hjl⟩
            have hji : (L.length : Int) - 1 - (k : Int) = (j : Int) := by omega
            clear hj
            have HC := Lib.hid (fun W (hb : Below w.heap.size w W) => msg_cells HS.out hb hx)
            have HCy := Lib.hid (fun W (hb : Below w.heap.size w W) => msg_cells HS.out hb hy)
            have hxs := HSK.out x (List.mem_of_getElem? hx)
            have hys := HSK.out y (List.mem_of_getElem? hy)
            have HXD := Lib.hid (HIN.out x (List.mem_of_getElem? hx))
            have hlt : (k : Int) < L.length := by omega
            have hk0 : (0 : Int) ≤ k := by omega
            have hjlt : (j : Int) < L.length := by omega
            have hj0 : (0 : Int) ≤ j := by omega
            clear hx hy
            go_wp2_with fail
            refine HP.out.pl.copy.mono ?_
            rintro e w1 ⟨q, b, t, u, rfl, hc, hb1⟩
            have HCP := Lib.hid hc
            clear hc hb1
            obtain ⟨g, off, n, c', e, m0, m1, m2, m3, m4, m5, m6⟩ := HCy.out _ (bch HB0.out (bch HP.out.pl.below HCP.out.below HP.out.pl.below.size) HB0.out.size)
            injection e with e1 e2 e3
            subst e1; subst e2; subst e3
            obtain ⟨b0, b1, b2, b6, hshy⟩ := ansM_shape y.2.1.1 y.2.1.2 (ansS kind stk limit st (msOf y))
            have HSY := Lib.hid hshy
            clear hshy
            go_wp2_with fail
            refine (HCP.out.tell (by omega) y hys HSY.out rfl).mono ?_
            rintro e w2 ⟨rfl, hc2, _⟩
            have HP2 := Lib.hid (HP.out.keep hc2.below)
            clear m0 m1 m2 m3 m4 m5 m6
            clear hc2 HCP HP HSY
            obtain ⟨g', off', n', c'', e, m0, m1, m2, m3, m4, m5, m6⟩ := HC.out _ (bch HB0.out HP2.out.pl.below HB0.out.size)
            injection e with e1 e2 e3
            injection e1 with e1
            injection e1 with e1 e4 _
            subst e1; subst e2; subst e3; subst e4
            obtain ⟨a0, a1, a2, a6, hsh⟩ := ansM_shape x.2.1.1 x.2.1.2 (ansS kind stk limit st (msOf x))
            have HSH := Lib.hid hsh
            obtain ⟨ok, hok⟩ : ∃ ok, (ansS kind stk limit st (msOf x)).isSome = ok := ⟨_, rfl⟩
            have HOK := Lib.hid hok
            clear hsh hok
            go_wp2_with fail
            refine (HP2.out.tellP (by omega) x hxs HSH.out HOK.out).mono ?_
            rintro e w3 ⟨rfl, hp⟩
            have HP3 := Lib.hid (hp.keep (below_alloc w3 (.cells #[.int .i64 a0, .int .i64 a1, .int .i64 a2, .string ⟨#[]⟩, .int .i64 0, .int .i64 0, .int .i64 a6] tMsg)))
            have HZ3 := Lib.hid (heap_new w3 (.cells #[.int .i64 a0, .int .i64 a1, .int .i64 a2, .string ⟨#[]⟩, .int .i64 0, .int .i64 0, .int .i64 a6] tMsg))
            clear m0 m1 m2 m3 m4 m5 m6
            have hr3 := hp.lt
            clear hp HP2
            obtain ⟨g', off', n', c'', e, m0, m1, m2, m3, m4, m5, m6⟩ := HC.out _ (bch HB0.out HP3.out.pl.below HB0.out.size)
            injection e with e1 e2 e3
            injection e1 with e1
            injection e1 with e1 e4 _
            subst e1; subst e2; subst e3; subst e4
            go_wp2_with fail
            generalize w3.alloc (.cells #[.int .i64 a0, .int .i64 a1, .int .i64 a2, .string ⟨#[]⟩, .int .i64 0, .int .i64 0, .int .i64 a6] tMsg) = wA at HP3 HZ3 m0 m1 m2 m3 m4 m5 m6 ⊢
            generalize w3.heap.size = z1 at HZ3 hr3 ⊢
            refine (HP3.out.tellR (by omega) x hxs HXD.out HSH.out HOK.out).mono ?_
            rintro e w4 ⟨rfl, hp, ht⟩
            have HP4 := Lib.hid (hp.keep (below_alloc w4 (.cells #[.int .i64 a0, .int .i64 a1, .int .i64 a2, .string ⟨#[]⟩, .int .i64 0, .int .i64 0, .int .i64 a6] tMsg)))
            have HZ4 := Lib.hid (heap_keep (HidB HZ3.out ht (by omega)) (below_alloc w4 (.cells #[.int .i64 a0, .int .i64 a1, .int .i64 a2, .string ⟨#[]⟩, .int .i64 0, .int .i64 0, .int .i64 a6] tMsg)))
            have HY4 := Lib.hid (heap_new w4 (.cells #[.int .i64 a0, .int .i64 a1, .int .i64 a2, .string ⟨#[]⟩, .int .i64 0, .int .i64 0, .int .i64 a6] tMsg))
            clear m0 m1 m2 m3 m4 m5 m6
            clear hp ht HP3 HZ3 HSH HOK
            go_wp2_with fail
            generalize w4.alloc (.cells #[.int .i64 a0, .int .i64 a1, .int .i64 a2, .string ⟨#[]⟩, .int .i64 0, .int .i64 0, .int .i64 a6] tMsg) = wB at HP4 HZ4 HY4 ⊢
            generalize w4.heap.size = z2 at HY4 ⊢
            generalize askS kind stk limit st (msOf x) = st' at HP4
            have hln := HP4.out.pl.ln
            have hrB := HP4.out.lt
            refine (HP4.out.pl.rows (by omega)).mono ?_
            rintro e w5 ⟨v5, rfl, ho5, hb5⟩
            obtain ⟨A5, c5, rfl, hA5⟩ := own_slice ho5
            have HA5 := Lib.hid hA5
            have HO5 := Lib.hid ho5
            have HB5 := Lib.hid hb5
            clear ho5 hb5 hA5
            obtain ⟨vl, vg, hr⟩ := (HP4.out.keep HB5.out).rp
            obtain ⟨Al, cl, rfl, _⟩ := own_slice hr.rl
            have HRL := Lib.hid hr.rl
            obtain ⟨r0, r1, r2, r3, r4, r5⟩ := cell6 hr.hd
            clear hr
            obtain ⟨z0, z1', z2', z3, z4, z5, z6⟩ := cell7 (heap_keep HZ4.out HB5.out)
            obtain ⟨y0, y1, y2, y3, y4, y5, y6⟩ := cell7 (heap_keep HY4.out HB5.out)
            go_wp2_with fail
            refine (same_true w5 _ _ _ _ st'.rows HO5.out HRL.out (by omega)).mono ?_
            rintro e w6 ⟨rfl, hb6⟩
            have HB6 := Lib.hid (bch HB5.out hb6 HB5.out.size)
            have HZD := Lib.hid ((zd_of HO5.out).keep hb6)
            clear hb6 HO5 HRL HB5 r0 r1 r2 r3 r4 r5 z0 z1' z2' z3 z4 z5 z6 y0 y1 y2 y3 y4 y5 y6
            go_wp2_with fail
            go_loopw [16] (fun i W => ∃ n : Nat, i = .int .i64 n ∧ n ≤ st'.rows.length ∧ Hid (Turned (fun i => wB.heap.size ≤ i) wB W) ∧ Hid (Zd W wB.heap.size (.slice A5 st'.rows.length c5) st'.rows.length)) (fun i _ => st'.rows.length - (intOf i).toNat)
            case atStart => exact ⟨0, rfl, by omega, Turned.of_below HB6.out, HZD⟩
            case round =>
              obtain ⟨n, rfl, hn, HTn, HZn⟩ := hrel
              have hn0 : (0 : Int) ≤ n := by omega
              by_cases hnl : n < st'.rows.length
              · obtain ⟨g5, rfl, _⟩ := HA5.out (by omega)
                have hnlt : (n : Int) < st'.rows.length := by omega
                have hn2 : (st'.rows.length : Int) ≤ 1000 := by omega
                obtain ⟨⟨u0, u1, u2, u3, u4, q0, q1, q2, q3, q4⟩, f0, f1, f2, f3, f4⟩ := zd_cells HZn.out hnl
                have hg5 := (HZn.out g5 rfl).1
                go_wp2_with fail
                go_roundw
                case rel =>
                  refine ⟨n + 1, by go_num, by omega, ?_, ?_⟩
                  · exact ((((HTn.out.trans (turned_at _ _ _ _ hg5)).trans (turned_at _ _ _ _ hg5)).trans (turned_at _ _ _ _ hg5)).trans (turned_at _ _ _ _ hg5)).trans (turned_at _ _ _ _ hg5)
                  · exact zd_set (zd_set (zd_set (zd_set (zd_set HZn.out _ _ _) _ _ _) _ _ _) _ _ _) _ _ _
                case measure => simp [intOf]; omega
              · obtain rfl : n = st'.rows.length := by omega
                skip
                have HP7 := Lib.hid (HP4.out.fresh HTn.out)
                clear HTn HZn HZD HB6 HP4 HA5
                by_cases h5 : k % 5 = 0
                · have h5c : (k : Int) % 5 = 0 := by omega
                  clear h5
                  go_wp2_with fail
                  refine (HP7.out.statP (by omega) (by omega)).mono ?_
                  rintro e w8 ⟨v8, rfl, ho8, hp8⟩
                  obtain ⟨A8, c8, rfl, _⟩ := own_slice ho8
                  have HP8 := Lib.hid hp8
                  have HO8 := Lib.hid ho8
                  have hr8 := HP7.out.lt
                  clear hp8 ho8 HP7
                  go_wp2_with fail
                  refine (HP8.out.statR (by omega) (by omega)).mono ?_
                  rintro e w9 ⟨v9, rfl, ho9, hp9, ht9⟩
                  obtain ⟨A9, c9, rfl, _⟩ := own_slice ho9
                  have HP9 := Lib.hid hp9
                  have HO9 := Lib.hid ho9
                  have HO8b := Lib.hid (own_turned HO8.out ht9 (fun j hj e => by have h1 : j = r := e; have := (HO8.out.lt j hj).1; omega))
                  clear hp9 ho9 ht9 HP8 HO8
                  go_wp2_with fail
                  refine (refSame_true w9 _ _ _ _ st'.rows kind (sq + 1) HO8b.out HO9.out (by omega)).mono ?_
                  rintro e wD ⟨rfl, hbD⟩
                  replace HP9 := Lib.hid (HP9.out.keep hbD)
                  clear hbD HO8b HO9
                  go_wp2_with fail
                  obtain ⟨g', off', n', c'', e, m0, m1, m2, m3, m4, m5, m6⟩ := HC.out _ (bch HB0.out HP9.out.pl.below HB0.out.size)
                  injection e with e1 e2 e3
                  injection e1 with e1
                  injection e1 with e1 e4 _
                  subst e1; subst e2; subst e3; subst e4
                  clear m0 m1 m2 m4 m5 m6
                  have hsz : (⟨x.2.2.1.toArray⟩ : ByteArray).size ≤ 1000000000000 := by show x.2.2.1.toArray.size ≤ _; simp; omega
                  have HLp := Lib.hid (fun W (hb : Below wD.heap.size wD W) => (HP9.out.keep hb).pl.left ⟨x.2.2.1.toArray⟩ hsz)
                  have HLr := Lib.hid (fun W (hb : Below wD.heap.size wD W) => (HP9.out.keep hb).leftR (by omega) ⟨x.2.2.1.toArray⟩ hsz)
                  have HLq := Lib.hid (fun W (hb : Below wD.heap.size wD W) => (HP9.out.keep hb).pl.left sku (by omega))
                  have HLs := Lib.hid (fun W (hb : Below wD.heap.size wD W) => (HP9.out.keep hb).leftR (by omega) sku (by omega))
                  generalize leftS kind stk st' ((⟨x.2.2.1.toArray⟩ : ByteArray).data.toList) = zl at HLp HLr
                  generalize leftS kind stk st' sku.data.toList = zs at HLq HLs
                  go_wp2_with fail
                  refine wp_region_noPanic ?_
                  refine wp_region_held_drew (S := (fun w' => Hid (Below wD.heap.size wD w') ∧ w'.cell? ⟨g, off + k * 7 + 3, none⟩ = some (.string ⟨x.2.2.1.toArray⟩))) (by kernel_rfl) ⟨(below_drew1 (Below.refl _ wD)), (Below.cell ((below_drew1 (Below.refl _ wD))) (World.block_lt_of_cell? wD _ m3)).trans m3⟩ (fun hHeld => ?_)
                  refine wpAnyH_take (i := 0) (v := ?vda0) rfl (by kernel_rfl) (by kernel_rfl) (by kernel_rfl) (fun _ _ _ h => h) (Or.inl ⟨by rfl, ?hyda0⟩) (by assumption) ?restda0
                  case hyda0 => (intro w0 hSw; (try dsimp only at hSw); go_simp; try with_reducible rfl)
                  case' restda0 => try simp only [Act.put, List.getElem_toArray, List.getElem_cons_zero, List.getElem_cons_succ, List.setIfInBounds_toArray, List.set_cons_zero, List.set_cons_succ]
                  refine wpAnyH_take (i := 1) (v := ?vda1) rfl (by kernel_rfl) (by kernel_rfl) (by kernel_rfl) (fun _ _ _ h => h) (Or.inl ⟨by rfl, ?hyda1⟩) (by assumption) ?restda1
                  case hyda1 => (intro w0 hSw; (try dsimp only at hSw); go_simp; try with_reducible rfl)
                  case' restda1 => try simp only [Act.put, List.getElem_toArray, List.getElem_cons_zero, List.getElem_cons_succ, List.setIfInBounds_toArray, List.set_cons_zero, List.set_cons_succ]
                  refine wpAnyH_take (i := 2) (v := ?vda2) rfl (by kernel_rfl) (by kernel_rfl) (by kernel_rfl) (fun _ _ _ h => h) (Or.inl ⟨by rfl, ?hyda2⟩) (by assumption) ?restda2
                  case hyda2 => (intro w0 hSw; (try dsimp only at hSw); go_simp; try with_reducible rfl)
                  case' restda2 => try simp only [Act.put, List.getElem_toArray, List.getElem_cons_zero, List.getElem_cons_succ, List.setIfInBounds_toArray, List.set_cons_zero, List.set_cons_succ]
                  refine wpAnyH_take (i := 3) (v := ?vda3) rfl (by kernel_rfl) (by kernel_rfl) (by kernel_rfl) (fun _ _ _ h => h) (Or.inl ⟨by rfl, ?hyda3⟩) (by assumption) ?restda3
                  case hyda3 => (intro w0 hSw; (try dsimp only at hSw); go_simp; try with_reducible rfl)
                  case' restda3 => try simp only [Act.put, List.getElem_toArray, List.getElem_cons_zero, List.getElem_cons_succ, List.setIfInBounds_toArray, List.set_cons_zero, List.set_cons_succ]
                  refine wpAnyH_take (i := 4) (v := ?vda4) rfl (by kernel_rfl) (by kernel_rfl) (by kernel_rfl) (fun _ _ _ h => h) (Or.inl ⟨by rfl, ?hyda4⟩) (by assumption) ?restda4
                  case hyda4 => (intro w0 hSw; (try dsimp only at hSw); go_simp; try with_reducible rfl)
                  case' restda4 => try simp only [Act.put, List.getElem_toArray, List.getElem_cons_zero, List.getElem_cons_succ, List.setIfInBounds_toArray, List.set_cons_zero, List.set_cons_succ]
                  refine wpAnyH_take (i := 5) (v := ?vda5) rfl (by kernel_rfl) (by kernel_rfl) (by kernel_rfl) (fun _ _ _ h => h) (Or.inl ⟨by rfl, ?hyda5⟩) (by assumption) ?restda5
                  case hyda5 => (intro w0 hSw; (try dsimp only at hSw); go_simp; try with_reducible rfl)
                  case' restda5 => try simp only [Act.put, List.getElem_toArray, List.getElem_cons_zero, List.getElem_cons_succ, List.setIfInBounds_toArray, List.set_cons_zero, List.set_cons_succ]
                  refine wpAnyH_take (i := 7) (v := ?vda7) rfl (by kernel_rfl) (by kernel_rfl) (by kernel_rfl) (fun _ _ _ h => h) (Or.inl ⟨by rfl, ?hyda7⟩) (by assumption) ?restda7
                  case hyda7 => (intro w0 hSw; (try dsimp only at hSw); go_simp; try with_reducible rfl)
                  case' restda7 => try simp only [Act.put, List.getElem_toArray, List.getElem_cons_zero, List.getElem_cons_succ, List.setIfInBounds_toArray, List.set_cons_zero, List.set_cons_succ]
                  refine wpAnyH_take (i := 8) (v := ?vda8) rfl (by kernel_rfl) (by kernel_rfl) (by kernel_rfl) (fun _ _ _ h => h) (Or.inl ⟨by rfl, ?hyda8⟩) (by assumption) ?restda8
                  case hyda8 => (intro w0 hSw; (try dsimp only at hSw); go_simp; try with_reducible rfl)
                  case' restda8 => try simp only [Act.put, List.getElem_toArray, List.getElem_cons_zero, List.getElem_cons_succ, List.setIfInBounds_toArray, List.set_cons_zero, List.set_cons_succ]
                  refine wpAnyH_take (i := 9) (v := ?vda9) rfl (by kernel_rfl) (by kernel_rfl) (by kernel_rfl) (fun _ _ _ h => h) (Or.inl ⟨by rfl, ?hyda9⟩) (by assumption) ?restda9
                  case hyda9 => (intro w0 hSw; (try dsimp only at hSw); go_simp; try with_reducible rfl)
                  case' restda9 => try simp only [Act.put, List.getElem_toArray, List.getElem_cons_zero, List.getElem_cons_succ, List.setIfInBounds_toArray, List.set_cons_zero, List.set_cons_succ]
                  refine wpAnyH_take (i := 10) (v := ?vda10) rfl (by kernel_rfl) (by kernel_rfl) (by kernel_rfl) (fun _ _ _ h => h) (Or.inl ⟨by rfl, ?hyda10⟩) (by assumption) ?restda10
                  case hyda10 => (intro w0 hSw; (try dsimp only at hSw); go_simp; try with_reducible rfl)
                  case' restda10 => try simp only [Act.put, List.getElem_toArray, List.getElem_cons_zero, List.getElem_cons_succ, List.setIfInBounds_toArray, List.set_cons_zero, List.set_cons_succ]
                  refine wpAnyH_take (i := 11) (v := ?vda11) rfl (by kernel_rfl) (by kernel_rfl) (by kernel_rfl) (fun _ _ _ h => h) (Or.inl ⟨by rfl, ?hyda11⟩) (by assumption) ?restda11
                  case hyda11 => (intro w0 hSw; (try dsimp only at hSw); go_simp; try with_reducible rfl)
                  case' restda11 => try simp only [Act.put, List.getElem_toArray, List.getElem_cons_zero, List.getElem_cons_succ, List.setIfInBounds_toArray, List.set_cons_zero, List.set_cons_succ]
                  refine wpAnyH_take (i := 12) (v := ?vda12) rfl (by kernel_rfl) (by kernel_rfl) (by kernel_rfl) (fun _ _ _ h => h) (Or.inl ⟨by rfl, ?hyda12⟩) (by assumption) ?restda12
                  case hyda12 => (intro w0 hSw; (try dsimp only at hSw); go_simp; try with_reducible rfl)
                  case' restda12 => try simp only [Act.put, List.getElem_toArray, List.getElem_cons_zero, List.getElem_cons_succ, List.setIfInBounds_toArray, List.set_cons_zero, List.set_cons_succ]
                  refine wpAnyH_ready (rs := [6]) (by kernel_rfl) (by simp) ?_
                  refine AllReadyH.cons rfl (fun K hK => ?_) AllReadyH.nil
                  go_simp
                  refine (HLp.out _ (Hid.out (And.left (by assumption)))).mono ?_; rintro e w1 ⟨rfl, hb⟩
                  have hbk := bch (Hid.out (And.left (by assumption))) hb (Below.size (Hid.out (And.left (by assumption))))
                  refine hK.out _ _ ⟨hbk, (Below.cell (hbk) (World.block_lt_of_cell? wD _ m3)).trans m3⟩ (fun hHeld => ?_)
                  clear hK K hb hbk
                  try simp only [Act.put, List.getElem_toArray, List.getElem_cons_zero, List.getElem_cons_succ, List.setIfInBounds_toArray, List.set_cons_zero, List.set_cons_succ]
                  refine wpAnyH_ready (rs := [13]) (by kernel_rfl) (by simp) ?_
                  refine AllReadyH.cons rfl (fun K hK => ?_) AllReadyH.nil
                  go_simp
                  refine (HLr.out _ (Hid.out (And.left (by assumption)))).mono ?_; rintro e w1 ⟨rfl, hb⟩
                  have hbk := bch (Hid.out (And.left (by assumption))) hb (Below.size (Hid.out (And.left (by assumption))))
                  refine hK.out _ _ ⟨hbk, (Below.cell (hbk) (World.block_lt_of_cell? wD _ m3)).trans m3⟩ (fun hHeld => ?_)
                  clear hK K hb hbk
                  try simp only [Act.put, List.getElem_toArray, List.getElem_cons_zero, List.getElem_cons_succ, List.setIfInBounds_toArray, List.set_cons_zero, List.set_cons_succ]
                  refine wpAnyH_take (i := 14) (v := ?vda14) rfl (by kernel_rfl) (by kernel_rfl) (by kernel_rfl) (fun _ _ _ h => h) (Or.inl ⟨by rfl, ?hyda14⟩) (by assumption) ?restda14
                  case hyda14 => (intro w0 hSw; (try dsimp only at hSw); go_simp; try with_reducible rfl)
                  case' restda14 => try simp only [Act.put, List.getElem_toArray, List.getElem_cons_zero, List.getElem_cons_succ, List.setIfInBounds_toArray, List.set_cons_zero, List.set_cons_succ]
                  refine wpAnyH_take (i := 15) (v := ?vda15) rfl (by kernel_rfl) (by kernel_rfl) (by kernel_rfl) (fun _ _ _ h => h) (Or.inl ⟨by rfl, ?hyda15⟩) (by assumption) ?restda15
                  case hyda15 => (intro w0 hSw; (try dsimp only at hSw); go_simp; try with_reducible rfl)
                  case' restda15 => try simp only [Act.put, List.getElem_toArray, List.getElem_cons_zero, List.getElem_cons_succ, List.setIfInBounds_toArray, List.set_cons_zero, List.set_cons_succ]
                  refine wpAnyH_take (i := 16) (v := ?vda16) rfl (by kernel_rfl) (by kernel_rfl) (by kernel_rfl) (fun _ _ _ h => h) (Or.inl ⟨by rfl, ?hyda16⟩) (by assumption) ?restda16
                  case hyda16 => (intro w0 hSw; (try dsimp only at hSw); go_simp; try with_reducible rfl)
                  case' restda16 => try simp only [Act.put, List.getElem_toArray, List.getElem_cons_zero, List.getElem_cons_succ, List.setIfInBounds_toArray, List.set_cons_zero, List.set_cons_succ]
                  refine wpAnyH_take (i := 17) (v := ?vda17) rfl (by kernel_rfl) (by kernel_rfl) (by kernel_rfl) (fun _ _ _ h => h) (Or.inl ⟨by rfl, ?hyda17⟩) (by assumption) ?restda17
                  case hyda17 => (intro w0 hSw; (try dsimp only at hSw); go_simp; try with_reducible rfl)
                  case' restda17 => try simp only [Act.put, List.getElem_toArray, List.getElem_cons_zero, List.getElem_cons_succ, List.setIfInBounds_toArray, List.set_cons_zero, List.set_cons_succ]
                  refine wpAnyH_take (i := 19) (v := ?vda19) rfl (by kernel_rfl) (by kernel_rfl) (by kernel_rfl) (fun _ _ _ h => h) (Or.inl ⟨by rfl, ?hyda19⟩) (by assumption) ?restda19
                  case hyda19 => (intro w0 hSw; (try dsimp only at hSw); go_simp; try with_reducible rfl)
                  case' restda19 => try simp only [Act.put, List.getElem_toArray, List.getElem_cons_zero, List.getElem_cons_succ, List.setIfInBounds_toArray, List.set_cons_zero, List.set_cons_succ]
                  refine wpAnyH_take (i := 20) (v := ?vda20) rfl (by kernel_rfl) (by kernel_rfl) (by kernel_rfl) (fun _ _ _ h => h) (Or.inl ⟨by rfl, ?hyda20⟩) (by assumption) ?restda20
                  case hyda20 => (intro w0 hSw; (try dsimp only at hSw); go_simp; try with_reducible rfl)
                  case' restda20 => try simp only [Act.put, List.getElem_toArray, List.getElem_cons_zero, List.getElem_cons_succ, List.setIfInBounds_toArray, List.set_cons_zero, List.set_cons_succ]
                  refine wpAnyH_ready (rs := [18]) (by kernel_rfl) (by simp) ?_
                  refine AllReadyH.cons rfl (fun K hK => ?_) AllReadyH.nil
                  go_simp
                  refine (HLq.out _ (Hid.out (And.left (by assumption)))).mono ?_; rintro e w1 ⟨rfl, hb⟩
                  have hbk := bch (Hid.out (And.left (by assumption))) hb (Below.size (Hid.out (And.left (by assumption))))
                  refine hK.out _ _ ⟨hbk, (Below.cell (hbk) (World.block_lt_of_cell? wD _ m3)).trans m3⟩ (fun hHeld => ?_)
                  clear hK K hb hbk
                  try simp only [Act.put, List.getElem_toArray, List.getElem_cons_zero, List.getElem_cons_succ, List.setIfInBounds_toArray, List.set_cons_zero, List.set_cons_succ]
                  refine wpAnyH_ready (rs := [21]) (by kernel_rfl) (by simp) ?_
                  refine AllReadyH.cons rfl (fun K hK => ?_) AllReadyH.nil
                  go_simp
                  refine (HLs.out _ (Hid.out (And.left (by assumption)))).mono ?_; rintro e w1 ⟨rfl, hb⟩
                  have hbk := bch (Hid.out (And.left (by assumption))) hb (Below.size (Hid.out (And.left (by assumption))))
                  refine hK.out _ _ ⟨hbk, (Below.cell (hbk) (World.block_lt_of_cell? wD _ m3)).trans m3⟩ (fun hHeld => ?_)
                  clear hK K hb hbk
                  try simp only [Act.put, List.getElem_toArray, List.getElem_cons_zero, List.getElem_cons_succ, List.setIfInBounds_toArray, List.set_cons_zero, List.set_cons_succ]
                  refine wpAnyH_take (i := 22) (v := ?vda22) rfl (by kernel_rfl) (by kernel_rfl) (by kernel_rfl) (fun _ _ _ h => h) (Or.inl ⟨by rfl, ?hyda22⟩) (by assumption) ?restda22
                  case hyda22 => (intro w0 hSw; (try dsimp only at hSw); go_simp; try with_reducible rfl)
                  case' restda22 => try simp only [Act.put, List.getElem_toArray, List.getElem_cons_zero, List.getElem_cons_succ, List.setIfInBounds_toArray, List.set_cons_zero, List.set_cons_succ]
                  refine wpAnyH_take (i := 23) (v := ?vda23) rfl (by kernel_rfl) (by kernel_rfl) (by kernel_rfl) (fun _ _ _ h => h) (Or.inl ⟨by rfl, ?hyda23⟩) (by assumption) ?restda23
                  case hyda23 => (intro w0 hSw; (try dsimp only at hSw); go_simp; try with_reducible rfl)
                  case' restda23 => try simp only [Act.put, List.getElem_toArray, List.getElem_cons_zero, List.getElem_cons_succ, List.setIfInBounds_toArray, List.set_cons_zero, List.set_cons_succ]
                  refine wpAnyH_done (by kernel_rfl) ?_ _
                  refine NoPanic.normal ?_
                  have HPz := Lib.hid (HP9.out.keep (Hid.out hHeld.1))
                  clear hHeld
                  go_wp2_with fail
                  go_roundw
                  case rel => exact ⟨k + 1, st', sq + 1, by go_num, by omega, by omega, HPz⟩
                  case measure => simp [intOf]; omega
                · have h5c : ¬ (k : Int) % 5 = 0 := by omega
                  clear h5
                  have HP9 := HP7
                  clear HP7
                  generalize wr = wD at HP9 ⊢
                  obtain ⟨g', off', n', c'', e, m0, m1, m2, m3, m4, m5, m6⟩ := HC.out _ (bch HB0.out HP9.out.pl.below HB0.out.size)
                  injection e with e1 e2 e3
                  injection e1 with e1
                  injection e1 with e1 e4 _
                  subst e1; subst e2; subst e3; subst e4
                  clear m0 m1 m2 m4 m5 m6
                  have hsz : (⟨x.2.2.1.toArray⟩ : ByteArray).size ≤ 1000000000000 := by show x.2.2.1.toArray.size ≤ _; simp; omega
                  have HLp := Lib.hid (fun W (hb : Below wD.heap.size wD W) => (HP9.out.keep hb).pl.left ⟨x.2.2.1.toArray⟩ hsz)
                  have HLr := Lib.hid (fun W (hb : Below wD.heap.size wD W) => (HP9.out.keep hb).leftR (by omega) ⟨x.2.2.1.toArray⟩ hsz)
                  have HLq := Lib.hid (fun W (hb : Below wD.heap.size wD W) => (HP9.out.keep hb).pl.left sku (by omega))
                  have HLs := Lib.hid (fun W (hb : Below wD.heap.size wD W) => (HP9.out.keep hb).leftR (by omega) sku (by omega))
                  generalize leftS kind stk st' ((⟨x.2.2.1.toArray⟩ : ByteArray).data.toList) = zl at HLp HLr
                  generalize leftS kind stk st' sku.data.toList = zs at HLq HLs
                  go_wp2_with fail
                  refine wp_region_noPanic ?_
                  refine wp_region_held_drew (S := (fun w' => Hid (Below wD.heap.size wD w') ∧ w'.cell? ⟨g, off + k * 7 + 3, none⟩ = some (.string ⟨x.2.2.1.toArray⟩))) (by kernel_rfl) ⟨(below_drew1 (Below.refl _ wD)), (Below.cell ((below_drew1 (Below.refl _ wD))) (World.block_lt_of_cell? wD _ m3)).trans m3⟩ (fun hHeld => ?_)
                  refine wpAnyH_take (i := 0) (v := ?vdb0) rfl (by kernel_rfl) (by kernel_rfl) (by kernel_rfl) (fun _ _ _ h => h) (Or.inl ⟨by rfl, ?hydb0⟩) (by assumption) ?restdb0
                  case hydb0 => (intro w0 hSw; (try dsimp only at hSw); go_simp; try with_reducible rfl)
                  case' restdb0 => try simp only [Act.put, List.getElem_toArray, List.getElem_cons_zero, List.getElem_cons_succ, List.setIfInBounds_toArray, List.set_cons_zero, List.set_cons_succ]
                  refine wpAnyH_take (i := 1) (v := ?vdb1) rfl (by kernel_rfl) (by kernel_rfl) (by kernel_rfl) (fun _ _ _ h => h) (Or.inl ⟨by rfl, ?hydb1⟩) (by assumption) ?restdb1
                  case hydb1 => (intro w0 hSw; (try dsimp only at hSw); go_simp; try with_reducible rfl)
                  case' restdb1 => try simp only [Act.put, List.getElem_toArray, List.getElem_cons_zero, List.getElem_cons_succ, List.setIfInBounds_toArray, List.set_cons_zero, List.set_cons_succ]
                  refine wpAnyH_take (i := 2) (v := ?vdb2) rfl (by kernel_rfl) (by kernel_rfl) (by kernel_rfl) (fun _ _ _ h => h) (Or.inl ⟨by rfl, ?hydb2⟩) (by assumption) ?restdb2
                  case hydb2 => (intro w0 hSw; (try dsimp only at hSw); go_simp; try with_reducible rfl)
                  case' restdb2 => try simp only [Act.put, List.getElem_toArray, List.getElem_cons_zero, List.getElem_cons_succ, List.setIfInBounds_toArray, List.set_cons_zero, List.set_cons_succ]
                  refine wpAnyH_take (i := 3) (v := ?vdb3) rfl (by kernel_rfl) (by kernel_rfl) (by kernel_rfl) (fun _ _ _ h => h) (Or.inl ⟨by rfl, ?hydb3⟩) (by assumption) ?restdb3
                  case hydb3 => (intro w0 hSw; (try dsimp only at hSw); go_simp; try with_reducible rfl)
                  case' restdb3 => try simp only [Act.put, List.getElem_toArray, List.getElem_cons_zero, List.getElem_cons_succ, List.setIfInBounds_toArray, List.set_cons_zero, List.set_cons_succ]
                  refine wpAnyH_take (i := 4) (v := ?vdb4) rfl (by kernel_rfl) (by kernel_rfl) (by kernel_rfl) (fun _ _ _ h => h) (Or.inl ⟨by rfl, ?hydb4⟩) (by assumption) ?restdb4
                  case hydb4 => (intro w0 hSw; (try dsimp only at hSw); go_simp; try with_reducible rfl)
                  case' restdb4 => try simp only [Act.put, List.getElem_toArray, List.getElem_cons_zero, List.getElem_cons_succ, List.setIfInBounds_toArray, List.set_cons_zero, List.set_cons_succ]
                  refine wpAnyH_take (i := 5) (v := ?vdb5) rfl (by kernel_rfl) (by kernel_rfl) (by kernel_rfl) (fun _ _ _ h => h) (Or.inl ⟨by rfl, ?hydb5⟩) (by assumption) ?restdb5
                  case hydb5 => (intro w0 hSw; (try dsimp only at hSw); go_simp; try with_reducible rfl)
                  case' restdb5 => try simp only [Act.put, List.getElem_toArray, List.getElem_cons_zero, List.getElem_cons_succ, List.setIfInBounds_toArray, List.set_cons_zero, List.set_cons_succ]
                  refine wpAnyH_take (i := 7) (v := ?vdb7) rfl (by kernel_rfl) (by kernel_rfl) (by kernel_rfl) (fun _ _ _ h => h) (Or.inl ⟨by rfl, ?hydb7⟩) (by assumption) ?restdb7
                  case hydb7 => (intro w0 hSw; (try dsimp only at hSw); go_simp; try with_reducible rfl)
                  case' restdb7 => try simp only [Act.put, List.getElem_toArray, List.getElem_cons_zero, List.getElem_cons_succ, List.setIfInBounds_toArray, List.set_cons_zero, List.set_cons_succ]
                  refine wpAnyH_take (i := 8) (v := ?vdb8) rfl (by kernel_rfl) (by kernel_rfl) (by kernel_rfl) (fun _ _ _ h => h) (Or.inl ⟨by rfl, ?hydb8⟩) (by assumption) ?restdb8
                  case hydb8 => (intro w0 hSw; (try dsimp only at hSw); go_simp; try with_reducible rfl)
                  case' restdb8 => try simp only [Act.put, List.getElem_toArray, List.getElem_cons_zero, List.getElem_cons_succ, List.setIfInBounds_toArray, List.set_cons_zero, List.set_cons_succ]
                  refine wpAnyH_take (i := 9) (v := ?vdb9) rfl (by kernel_rfl) (by kernel_rfl) (by kernel_rfl) (fun _ _ _ h => h) (Or.inl ⟨by rfl, ?hydb9⟩) (by assumption) ?restdb9
                  case hydb9 => (intro w0 hSw; (try dsimp only at hSw); go_simp; try with_reducible rfl)
                  case' restdb9 => try simp only [Act.put, List.getElem_toArray, List.getElem_cons_zero, List.getElem_cons_succ, List.setIfInBounds_toArray, List.set_cons_zero, List.set_cons_succ]
                  refine wpAnyH_take (i := 10) (v := ?vdb10) rfl (by kernel_rfl) (by kernel_rfl) (by kernel_rfl) (fun _ _ _ h => h) (Or.inl ⟨by rfl, ?hydb10⟩) (by assumption) ?restdb10
                  case hydb10 => (intro w0 hSw; (try dsimp only at hSw); go_simp; try with_reducible rfl)
                  case' restdb10 => try simp only [Act.put, List.getElem_toArray, List.getElem_cons_zero, List.getElem_cons_succ, List.setIfInBounds_toArray, List.set_cons_zero, List.set_cons_succ]
                  refine wpAnyH_take (i := 11) (v := ?vdb11) rfl (by kernel_rfl) (by kernel_rfl) (by kernel_rfl) (fun _ _ _ h => h) (Or.inl ⟨by rfl, ?hydb11⟩) (by assumption) ?restdb11
                  case hydb11 => (intro w0 hSw; (try dsimp only at hSw); go_simp; try with_reducible rfl)
                  case' restdb11 => try simp only [Act.put, List.getElem_toArray, List.getElem_cons_zero, List.getElem_cons_succ, List.setIfInBounds_toArray, List.set_cons_zero, List.set_cons_succ]
                  refine wpAnyH_take (i := 12) (v := ?vdb12) rfl (by kernel_rfl) (by kernel_rfl) (by kernel_rfl) (fun _ _ _ h => h) (Or.inl ⟨by rfl, ?hydb12⟩) (by assumption) ?restdb12
                  case hydb12 => (intro w0 hSw; (try dsimp only at hSw); go_simp; try with_reducible rfl)
                  case' restdb12 => try simp only [Act.put, List.getElem_toArray, List.getElem_cons_zero, List.getElem_cons_succ, List.setIfInBounds_toArray, List.set_cons_zero, List.set_cons_succ]
                  refine wpAnyH_ready (rs := [6]) (by kernel_rfl) (by simp) ?_
                  refine AllReadyH.cons rfl (fun K hK => ?_) AllReadyH.nil
                  go_simp
                  refine (HLp.out _ (Hid.out (And.left (by assumption)))).mono ?_; rintro e w1 ⟨rfl, hb⟩
                  have hbk := bch (Hid.out (And.left (by assumption))) hb (Below.size (Hid.out (And.left (by assumption))))
                  refine hK.out _ _ ⟨hbk, (Below.cell (hbk) (World.block_lt_of_cell? wD _ m3)).trans m3⟩ (fun hHeld => ?_)
                  clear hK K hb hbk
                  try simp only [Act.put, List.getElem_toArray, List.getElem_cons_zero, List.getElem_cons_succ, List.setIfInBounds_toArray, List.set_cons_zero, List.set_cons_succ]
                  refine wpAnyH_ready (rs := [13]) (by kernel_rfl) (by simp) ?_
                  refine AllReadyH.cons rfl (fun K hK => ?_) AllReadyH.nil
                  go_simp
                  refine (HLr.out _ (Hid.out (And.left (by assumption)))).mono ?_; rintro e w1 ⟨rfl, hb⟩
                  have hbk := bch (Hid.out (And.left (by assumption))) hb (Below.size (Hid.out (And.left (by assumption))))
                  refine hK.out _ _ ⟨hbk, (Below.cell (hbk) (World.block_lt_of_cell? wD _ m3)).trans m3⟩ (fun hHeld => ?_)
                  clear hK K hb hbk
                  try simp only [Act.put, List.getElem_toArray, List.getElem_cons_zero, List.getElem_cons_succ, List.setIfInBounds_toArray, List.set_cons_zero, List.set_cons_succ]
                  refine wpAnyH_take (i := 14) (v := ?vdb14) rfl (by kernel_rfl) (by kernel_rfl) (by kernel_rfl) (fun _ _ _ h => h) (Or.inl ⟨by rfl, ?hydb14⟩) (by assumption) ?restdb14
                  case hydb14 => (intro w0 hSw; (try dsimp only at hSw); go_simp; try with_reducible rfl)
                  case' restdb14 => try simp only [Act.put, List.getElem_toArray, List.getElem_cons_zero, List.getElem_cons_succ, List.setIfInBounds_toArray, List.set_cons_zero, List.set_cons_succ]
                  refine wpAnyH_take (i := 15) (v := ?vdb15) rfl (by kernel_rfl) (by kernel_rfl) (by kernel_rfl) (fun _ _ _ h => h) (Or.inl ⟨by rfl, ?hydb15⟩) (by assumption) ?restdb15
                  case hydb15 => (intro w0 hSw; (try dsimp only at hSw); go_simp; try with_reducible rfl)
                  case' restdb15 => try simp only [Act.put, List.getElem_toArray, List.getElem_cons_zero, List.getElem_cons_succ, List.setIfInBounds_toArray, List.set_cons_zero, List.set_cons_succ]
                  refine wpAnyH_take (i := 16) (v := ?vdb16) rfl (by kernel_rfl) (by kernel_rfl) (by kernel_rfl) (fun _ _ _ h => h) (Or.inl ⟨by rfl, ?hydb16⟩) (by assumption) ?restdb16
                  case hydb16 => (intro w0 hSw; (try dsimp only at hSw); go_simp; try with_reducible rfl)
                  case' restdb16 => try simp only [Act.put, List.getElem_toArray, List.getElem_cons_zero, List.getElem_cons_succ, List.setIfInBounds_toArray, List.set_cons_zero, List.set_cons_succ]
                  refine wpAnyH_take (i := 17) (v := ?vdb17) rfl (by kernel_rfl) (by kernel_rfl) (by kernel_rfl) (fun _ _ _ h => h) (Or.inl ⟨by rfl, ?hydb17⟩) (by assumption) ?restdb17
                  case hydb17 => (intro w0 hSw; (try dsimp only at hSw); go_simp; try with_reducible rfl)
                  case' restdb17 => try simp only [Act.put, List.getElem_toArray, List.getElem_cons_zero, List.getElem_cons_succ, List.setIfInBounds_toArray, List.set_cons_zero, List.set_cons_succ]
                  refine wpAnyH_take (i := 19) (v := ?vdb19) rfl (by kernel_rfl) (by kernel_rfl) (by kernel_rfl) (fun _ _ _ h => h) (Or.inl ⟨by rfl, ?hydb19⟩) (by assumption) ?restdb19
                  case hydb19 => (intro w0 hSw; (try dsimp only at hSw); go_simp; try with_reducible rfl)
                  case' restdb19 => try simp only [Act.put, List.getElem_toArray, List.getElem_cons_zero, List.getElem_cons_succ, List.setIfInBounds_toArray, List.set_cons_zero, List.set_cons_succ]
                  refine wpAnyH_take (i := 20) (v := ?vdb20) rfl (by kernel_rfl) (by kernel_rfl) (by kernel_rfl) (fun _ _ _ h => h) (Or.inl ⟨by rfl, ?hydb20⟩) (by assumption) ?restdb20
                  case hydb20 => (intro w0 hSw; (try dsimp only at hSw); go_simp; try with_reducible rfl)
                  case' restdb20 => try simp only [Act.put, List.getElem_toArray, List.getElem_cons_zero, List.getElem_cons_succ, List.setIfInBounds_toArray, List.set_cons_zero, List.set_cons_succ]
                  refine wpAnyH_ready (rs := [18]) (by kernel_rfl) (by simp) ?_
                  refine AllReadyH.cons rfl (fun K hK => ?_) AllReadyH.nil
                  go_simp
                  refine (HLq.out _ (Hid.out (And.left (by assumption)))).mono ?_; rintro e w1 ⟨rfl, hb⟩
                  have hbk := bch (Hid.out (And.left (by assumption))) hb (Below.size (Hid.out (And.left (by assumption))))
                  refine hK.out _ _ ⟨hbk, (Below.cell (hbk) (World.block_lt_of_cell? wD _ m3)).trans m3⟩ (fun hHeld => ?_)
                  clear hK K hb hbk
                  try simp only [Act.put, List.getElem_toArray, List.getElem_cons_zero, List.getElem_cons_succ, List.setIfInBounds_toArray, List.set_cons_zero, List.set_cons_succ]
                  refine wpAnyH_ready (rs := [21]) (by kernel_rfl) (by simp) ?_
                  refine AllReadyH.cons rfl (fun K hK => ?_) AllReadyH.nil
                  go_simp
                  refine (HLs.out _ (Hid.out (And.left (by assumption)))).mono ?_; rintro e w1 ⟨rfl, hb⟩
                  have hbk := bch (Hid.out (And.left (by assumption))) hb (Below.size (Hid.out (And.left (by assumption))))
                  refine hK.out _ _ ⟨hbk, (Below.cell (hbk) (World.block_lt_of_cell? wD _ m3)).trans m3⟩ (fun hHeld => ?_)
                  clear hK K hb hbk
                  try simp only [Act.put, List.getElem_toArray, List.getElem_cons_zero, List.getElem_cons_succ, List.setIfInBounds_toArray, List.set_cons_zero, List.set_cons_succ]
                  refine wpAnyH_take (i := 22) (v := ?vdb22) rfl (by kernel_rfl) (by kernel_rfl) (by kernel_rfl) (fun _ _ _ h => h) (Or.inl ⟨by rfl, ?hydb22⟩) (by assumption) ?restdb22
                  case hydb22 => (intro w0 hSw; (try dsimp only at hSw); go_simp; try with_reducible rfl)
                  case' restdb22 => try simp only [Act.put, List.getElem_toArray, List.getElem_cons_zero, List.getElem_cons_succ, List.setIfInBounds_toArray, List.set_cons_zero, List.set_cons_succ]
                  refine wpAnyH_take (i := 23) (v := ?vdb23) rfl (by kernel_rfl) (by kernel_rfl) (by kernel_rfl) (fun _ _ _ h => h) (Or.inl ⟨by rfl, ?hydb23⟩) (by assumption) ?restdb23
                  case hydb23 => (intro w0 hSw; (try dsimp only at hSw); go_simp; try with_reducible rfl)
                  case' restdb23 => try simp only [Act.put, List.getElem_toArray, List.getElem_cons_zero, List.getElem_cons_succ, List.setIfInBounds_toArray, List.set_cons_zero, List.set_cons_succ]
                  refine wpAnyH_done (by kernel_rfl) ?_ _
                  refine NoPanic.normal ?_
                  have HPz := Lib.hid (HP9.out.keep (Hid.out hHeld.1))
                  clear hHeld
                  go_wp2_with fail
                  go_roundw
                  case rel => exact ⟨k + 1, st', sq, by go_num, by omega, by omega, HPz⟩
                  case measure => simp [intOf]; omega
          · obtain rfl : k = L.length := by omega
            have hln := HP.out.pl.ln
            obtain ⟨vl, vg, hr⟩ := HP.out.rp
            obtain ⟨Al, cl, rfl, _⟩ := own_slice hr.rl
            have HRR := Lib.hid hr
            clear hr
            have HH := Lib.hid (fun W (hb : Below wr.heap.size wr W) => (⟨Lib.hid hb, cell_at ((hb.block _ (heap_lt HRR.out.hd)).trans HRR.out.hd) 3 rfl⟩ : (fun w' => Hid (Below wr.heap.size wr w') ∧ w'.cell? ⟨r, 3, none⟩ = some (.slice Al st.rows.length cl)) W))
            go_wp2_with fail
            refine wp_region_noPanic ?_
            refine wp_region_held_drew (S := (fun w' => Hid (Below wr.heap.size wr w') ∧ w'.cell? ⟨r, 3, none⟩ = some (.slice Al st.rows.length cl))) (by kernel_rfl) (HH.out _ (below_drew1 (Below.refl wr.heap.size wr))) (fun hHeld => ?_)
            refine wpAnyH_take (i := 0) (v := ?vc0_1) rfl (by kernel_rfl) (by kernel_rfl) (by kernel_rfl) (fun _ _ _ h => h) (Or.inl ⟨by rfl, ?hyc0_1⟩) (by assumption) ?restc0_1
            case hyc0_1 => (intro w0 hSw; (try dsimp only at hSw); go_simp; try with_reducible rfl)
            case' restc0_1 => try simp only [Act.put, List.getElem_toArray, List.getElem_cons_zero, List.getElem_cons_succ, List.setIfInBounds_toArray, List.set_cons_zero, List.set_cons_succ]
            refine wpAnyH_take (i := 2) (v := ?vc2_1) rfl (by kernel_rfl) (by kernel_rfl) (by kernel_rfl) (fun _ _ _ h => h) (Or.inl ⟨by rfl, ?hyc2_1⟩) (by assumption) ?restc2_1
            case hyc2_1 => (intro w0 hSw; (try dsimp only at hSw); go_simp; try with_reducible rfl)
            case' restc2_1 => try simp only [Act.put, List.getElem_toArray, List.getElem_cons_zero, List.getElem_cons_succ, List.setIfInBounds_toArray, List.set_cons_zero, List.set_cons_succ]
            refine wpAnyH_take (i := 3) (v := ?vc3_1) rfl (by kernel_rfl) (by kernel_rfl) (by kernel_rfl) (fun _ _ _ h => h) (Or.inl ⟨by rfl, ?hyc3_1⟩) (by assumption) ?restc3_1
            case hyc3_1 => (intro w0 hSw; (try dsimp only at hSw); go_simp; try with_reducible rfl)
            case' restc3_1 => try simp only [Act.put, List.getElem_toArray, List.getElem_cons_zero, List.getElem_cons_succ, List.setIfInBounds_toArray, List.set_cons_zero, List.set_cons_succ]
            refine wpAnyH_take (i := 4) (v := ?vc4_1) rfl (by kernel_rfl) (by kernel_rfl) (by kernel_rfl) (fun _ _ _ h => h) (Or.inl ⟨by rfl, ?hyc4_1⟩) (by assumption) ?restc4_1
            case hyc4_1 => (intro w0 hSw; (try dsimp only at hSw); go_simp; try with_reducible rfl)
            case' restc4_1 => try simp only [Act.put, List.getElem_toArray, List.getElem_cons_zero, List.getElem_cons_succ, List.setIfInBounds_toArray, List.set_cons_zero, List.set_cons_succ]
            refine wpAnyH_take (i := 5) (v := ?vc5_1) rfl (by kernel_rfl) (by kernel_rfl) (by kernel_rfl) (fun _ _ _ h => h) (Or.inl ⟨by rfl, ?hyc5_1⟩) (by assumption) ?restc5_1
            case hyc5_1 => (intro w0 hSw; (try dsimp only at hSw); go_simp; try with_reducible rfl)
            case' restc5_1 => try simp only [Act.put, List.getElem_toArray, List.getElem_cons_zero, List.getElem_cons_succ, List.setIfInBounds_toArray, List.set_cons_zero, List.set_cons_succ]
            refine wpAnyH_ready (rs := [1]) (by kernel_rfl) (by simp) ?_
            refine AllReadyH.cons rfl (fun K hK => ?_) AllReadyH.nil
            go_simp
            refine ((HP.out.keep (below_drew1 (Below.refl wr.heap.size wr))).pl.rows (by omega)).mono ?_
            rintro e w1 ⟨v1, rfl, ho1, hb1⟩
            have hw1 := bch (below_drew1 (Below.refl wr.heap.size wr)) hb1 (Below.size (below_drew1 (Below.refl wr.heap.size wr)))
            refine hK.out _ _ (HH.out _ (hw1)) (fun hHeld => ?_)
            clear hK K
            try simp only [Act.put, List.getElem_toArray, List.getElem_cons_zero, List.getElem_cons_succ, List.setIfInBounds_toArray, List.set_cons_zero, List.set_cons_succ]
            refine wpAnyH_ready (rs := [6]) (by kernel_rfl) (by simp) ?_
            refine AllReadyH.cons rfl (fun K hK => ?_) AllReadyH.nil
            go_simp
            refine (same_true w1 _ _ _ _ st.rows ho1 (own_keep HRR.out.rl hw1) (by omega)).mono ?_
            rintro e w2 ⟨rfl, hb2⟩
            have hw2 := bch hw1 hb2 hw1.size
            refine hK.out _ _ (HH.out _ (hw2)) (fun hHeld => ?_)
            clear hK K
            try simp only [Act.put, List.getElem_toArray, List.getElem_cons_zero, List.getElem_cons_succ, List.setIfInBounds_toArray, List.set_cons_zero, List.set_cons_succ]
            refine wpAnyH_take (i := 7) (v := ?vc7_2) rfl (by kernel_rfl) (by kernel_rfl) (by kernel_rfl) (fun _ _ _ h => h) (Or.inl ⟨by rfl, ?hyc7_2⟩) (by assumption) ?restc7_2
            case hyc7_2 => (intro w0 hSw; (try dsimp only at hSw); go_simp; try with_reducible rfl)
            case' restc7_2 => try simp only [Act.put, List.getElem_toArray, List.getElem_cons_zero, List.getElem_cons_succ, List.setIfInBounds_toArray, List.set_cons_zero, List.set_cons_succ]
            refine wpAnyH_ready (rs := [8]) (by kernel_rfl) (by simp) ?_
            refine AllReadyH.cons rfl (fun K hK => ?_) AllReadyH.nil
            go_simp
            refine (asked_true w2 (HP.out.keep hw2).pl.pt).mono ?_
            rintro e w3 ⟨rfl, hb3⟩
            have hw3 := bch hw2 hb3 hw2.size
            refine hK.out _ _ (HH.out _ (hw3)) (fun hHeld => ?_)
            clear hK K
            try simp only [Act.put, List.getElem_toArray, List.getElem_cons_zero, List.getElem_cons_succ, List.setIfInBounds_toArray, List.set_cons_zero, List.set_cons_succ]
            refine wpAnyH_take (i := 9) (v := ?vc9_3) rfl (by kernel_rfl) (by kernel_rfl) (by kernel_rfl) (fun _ _ _ h => h) (Or.inl ⟨by rfl, ?hyc9_3⟩) (by assumption) ?restc9_3
            case hyc9_3 => (intro w0 hSw; (try dsimp only at hSw); go_simp; try with_reducible rfl)
            case' restc9_3 => try simp only [Act.put, List.getElem_toArray, List.getElem_cons_zero, List.getElem_cons_succ, List.setIfInBounds_toArray, List.set_cons_zero, List.set_cons_succ]
            refine wpAnyH_take (i := 10) (v := ?vc10_3) rfl (by kernel_rfl) (by kernel_rfl) (by kernel_rfl) (fun _ _ _ h => h) (Or.inl ⟨by rfl, ?hyc10_3⟩) (by assumption) ?restc10_3
            case hyc10_3 => (intro w0 hSw; (try dsimp only at hSw); go_simp; try with_reducible rfl)
            case' restc10_3 => try simp only [Act.put, List.getElem_toArray, List.getElem_cons_zero, List.getElem_cons_succ, List.setIfInBounds_toArray, List.set_cons_zero, List.set_cons_succ]
            refine wpAnyH_done (by kernel_rfl) ?_ _
            refine NoPanic.normal ?_
            have HB := Lib.hid (bch (bch HB0.out HP.out.pl.below HB0.out.size) hw3 (Nat.le_trans HB0.out.size HP.out.pl.below.size))
            go_wp2_with fail
            go_ret
            exact ⟨rfl, HB.out⟩
      · go_wp2_with fail
        refine (new_no _ kind stock limit hk).mono ?_
        rintro e w1 ⟨rfl, hw⟩; subst hw
        go_wp2_with fail
        refine (refNew_no _ kind stock limit hk).mono ?_
        rintro e w1 ⟨rfl, hw⟩; subst hw
        go_wp2_with fail
        refine (asked_true _ (HT.out.below HB0.out)).mono ?_
        rintro e w2 ⟨rfl, hb⟩
        have HB := Lib.hid (bch HB0.out hb HB0.out.size)
        clear hb
        go_wp2_with fail
        go_ret
        exact ⟨rfl, HB.out⟩
end Go.Proofs.YtkmpagijdhhinaaDoor

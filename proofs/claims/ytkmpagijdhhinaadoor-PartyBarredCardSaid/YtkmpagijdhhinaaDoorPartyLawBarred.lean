/- law16: PartyBarred. -/
import Derived.Test.YtkmpagijdhhinaaDoorPartyTwo
import Derived.Test.YtkmpagijdhhinaaDoorQuietTail
import Derived.Test.YtkmpagijdhhinaaDoorPartyUndone
import Derived.Test.YtkmpagijdhhinaaDoorOrdersMsg
namespace Go.Proofs.YtkmpagijdhhinaaDoor
open Go.RowKit Go.Maps Key Od Pa

abbrev tFirm : TypeId := 23
theorem index3 (W : World) (a b c : Value) : (Instr.index 66 (.agg #[a, b, c]) (.int .i64 0)).run Tryd.prog W = .ok a W ∧ (Instr.index 66 (.agg #[a, b, c]) (.int .i64 1)).run Tryd.prog W = .ok b W ∧ (Instr.index 66 (.agg #[a, b, c]) (.int .i64 2)).run Tryd.prog W = .ok c W := by
  refine ⟨?_, ?_, ?_⟩
  · simp [Instr.index, run_underlying Tryd.underlying66, asIntOf, go_sem]
  · simp [Instr.index, run_underlying Tryd.underlying66, asIntOf, go_sem]
  · simp [Instr.index, run_underlying Tryd.underlying66, asIntOf, go_sem]
theorem bar_data (kind id qty amt : Int) (hk : 0 ≤ kind ∧ kind ≤ 2) (h1 : 1 ≤ id ∧ id ≤ 60) (h2 : 1 ≤ qty ∧ qty ≤ 999) (h3 : 1 ≤ amt ∧ amt ≤ 1099511627776) :
    ∃ (D E : Int) (s : ByteArray) (q a : Int), E = D + 3 ∧ (0 ≤ D ∧ D ≤ 2) ∧ s.size ≤ 1000000000000 ∧ (∀ d, d = D ∨ d = E → (∀ W, PT W → Calls Tryd.prog 24 #[.agg #[.int .i64 id, .string ⟨#[114]⟩, .string ⟨#[110, 117, 116]⟩, .int .i64 qty, .int .i64 amt], .int .i64 d] W fun e w' => e = .returned (.agg #[.int .i64 kind, .int .i64 id, .int .i64 d, .string s, .int .i64 q, .int .i64 a, .int .i64 0]) ∧ Below W.heap.size W w') ∧ mayB kind id d s.data.toList q a 0 = true) ∧ (kind = 0 ∧ D = 1 ∧ E = 4 ∨ kind = 1 ∧ D = 0 ∧ E = 3 ∨ kind = 2 ∧ D = 2 ∧ E = 5) := by
  have hchk : ∀ d, 0 ≤ d ∧ d < 6 → chk id d = true := fun d hd => by unfold chk; simp; omega
  have hg : goodsB (⟨#[110, 117, 116]⟩ : ByteArray).data.toList qty 0 = true := by
    have e : (⟨#[110, 117, 116]⟩ : ByteArray).data.toList = [110, 117, 116] := rfl
    rw [e]
    unfold goodsB
    rw [show nameB [110, 117, 116] = true from by decide]
    simp
    omega
  have hp : payB (⟨#[]⟩ : ByteArray).data.toList 0 amt = true := by
    unfold payB
    simp
    omega
  have h3c : kind = 0 ∨ kind = 1 ∨ kind = 2 := by omega
  rcases h3c with rfl | rfl | rfl
  · refine ⟨1, 4, ⟨#[]⟩, 0, amt, by omega, by omega, by decide, ?_, .inl ⟨rfl, rfl, rfl⟩⟩
    rintro d (rfl | rfl)
    · exact ⟨fun W hW => oMsg_pay W hW id qty amt 1 h1 h2 h3 rfl, by unfold mayB; rw [hchk 1 (by omega), if_pos rfl, hp]; rfl⟩
    · exact ⟨fun W hW => oMsg_pay W hW id qty amt 4 h1 h2 h3 rfl, by unfold mayB; rw [hchk 4 (by omega), if_pos rfl, hp]; rfl⟩
  · refine ⟨0, 3, ⟨#[110, 117, 116]⟩, qty, 0, by omega, by omega, by decide, ?_, .inr (.inl ⟨rfl, rfl, rfl⟩)⟩
    rintro d (rfl | rfl)
    · exact ⟨fun W hW => oMsg_goods W hW id qty amt 0 1 h1 h2 h3 rfl (by decide), by unfold mayB; rw [hchk 0 (by omega), if_neg (by decide), hg]; rfl⟩
    · exact ⟨fun W hW => oMsg_goods W hW id qty amt 3 1 h1 h2 h3 rfl (by decide), by unfold mayB; rw [hchk 3 (by omega), if_neg (by decide), hg]; rfl⟩
  · refine ⟨2, 5, ⟨#[110, 117, 116]⟩, qty, 0, by omega, by omega, by decide, ?_, .inr (.inr ⟨rfl, rfl, rfl⟩)⟩
    rintro d (rfl | rfl)
    · exact ⟨fun W hW => oMsg_goods W hW id qty amt 2 2 h1 h2 h3 rfl (by decide), by unfold mayB; rw [hchk 2 (by omega), if_neg (by decide), hg]; rfl⟩
    · exact ⟨fun W hW => oMsg_goods W hW id qty amt 5 2 h1 h2 h3 rfl (by decide), by unfold mayB; rw [hchk 5 (by omega), if_neg (by decide), hg]; rfl⟩
theorem Pl.told {w wr : World} {p bk tk wh m : Nat} {kind stock limit seq : Int} {st : St} (h : Pl w wr p bk tk wh kind stock limit seq m st) (hm : m ≤ 1000) (o d : Int) (sku : ByteArray) (qty amt : Int) (hs : sku.size ≤ 1000000000000) {c : Int} {st' : St} (h1 : ansS kind stock limit st ⟨kind, o, d, sku.data.toList, qty, amt, 0⟩ = some c) (h2 : askS kind stock limit st ⟨kind, o, d, sku.data.toList, qty, amt, 0⟩ = st') :
    Calls Tryd.prog 13 #[.pointer (some ⟨p, 0, none⟩), .agg #[.int .i64 kind, .int .i64 o, .int .i64 d, .string sku, .int .i64 qty, .int .i64 amt, .int .i64 0]] wr fun e w' => e = .returned (.tuple #[.agg #[.int .i64 3, .int .i64 o, .int .i64 d, .string ⟨#[]⟩, .int .i64 0, .int .i64 0, .int .i64 c], .bool true]) ∧ Pl w w' p bk tk wh kind stock limit seq (m + 1) st' ∧ Turned (fun i => i = bk ∨ i = tk ∨ i = wh) wr w' := by
  refine (h.ask hm kind o d sku qty amt 0 hs).mono ?_
  rintro e w' ⟨rfl, hp, ht⟩
  rw [h2] at hp
  refine ⟨?_, hp, ht⟩
  rw [h1]
  rfl
theorem row_cells {w W : World} {B : Nat} {A : Option Addr} {c : Nat} {l : List R5} (h : w.ownsRow B tRow 5 (.slice A l.length c) l.length (l.flatMap encR)) (hb : Below w.heap.size w W) {k : Nat} {x : R5} (hx : l[k]? = some x) : ∃ g, A = some ⟨g, 0, none⟩ ∧ W.cell? ⟨g, k * 5, none⟩ = some (.int .i64 x.1.1) ∧ W.cell? ⟨g, k * 5 + 1, none⟩ = some (.int .i64 x.1.2) ∧ W.cell? ⟨g, k * 5 + 2, none⟩ = some (.int .i64 x.2.1) ∧ W.cell? ⟨g, k * 5 + 3, none⟩ = some (.int .i64 x.2.2.1) ∧ W.cell? ⟨g, k * 5 + 4, none⟩ = some (.int .i64 x.2.2.2) := by
  obtain ⟨A', c', e, hA⟩ := own_slice h
  injection e with e1 _ e3
  subst e1; subst e3
  obtain ⟨g, rfl, _, _⟩ := hA (by have := (List.getElem?_eq_some_iff.1 hx).1; omega)
  have h' := own_keep h hb
  exact ⟨g, rfl, own_cellK encR_len (by omega) h' hx 0 (by omega), own_cellK encR_len (by omega) h' hx 1 (by omega), own_cellK encR_len (by omega) h' hx 2 (by omega), own_cellK encR_len (by omega) h' hx 3 (by omega), own_cellK encR_len (by omega) h' hx 4 (by omega)⟩
set_option linter.unusedSimpArgs false in
set_option linter.unusedVariables false in
set_option maxRecDepth 100000 in
set_option maxHeartbeats 40000000 in
theorem lawPartyBarred_walk (w : World) (hT : PT w) (kind stock limit : Int) (id : Int) (rf sk : ByteArray) (qty amt : Int) (ahead : Bool) :
    Calls Tryd.prog 7 #[.agg #[.int .i64 kind, .int .i64 stock, .int .i64 limit], .agg #[.int .i64 id, .string rf, .string sk, .int .i64 qty, .int .i64 amt], .bool ahead] w fun e w' => e = .returned (.bool true) ∧ Below w.heap.size w w' := by
  have HX0 := Lib.hid (heap_keep (heap_new w (.cells #[.int .i64 kind, .int .i64 stock, .int .i64 limit] tFirm)) (below_alloc _ (.cells #[.int .i64 (wrap64 (1 + bits BinOp.and IntKind.i64 id 31)), .string ⟨#[114]⟩, .string ⟨#[110, 117, 116]⟩, .int .i64 (wrap64 (1 + bits BinOp.and IntKind.i64 qty 511)), .int .i64 (wrap64 (1 + bits BinOp.and IntKind.i64 amt 1073741823))] tOrder)))
  have hO := heap_new (w.alloc (.cells #[.int .i64 kind, .int .i64 stock, .int .i64 limit] tFirm)) (.cells #[.int .i64 (wrap64 (1 + bits BinOp.and IntKind.i64 id 31)), .string ⟨#[114]⟩, .string ⟨#[110, 117, 116]⟩, .int .i64 (wrap64 (1 + bits BinOp.and IntKind.i64 qty 511)), .int .i64 (wrap64 (1 + bits BinOp.and IntKind.i64 amt 1073741823))] tOrder)
  rw [show (w.alloc (.cells #[.int .i64 kind, .int .i64 stock, .int .i64 limit] tFirm)).heap.size = w.heap.size + 1 by simp] at hO
  have HO0 := Lib.hid hO
  have HB0 := Lib.hid ((below_alloc w (.cells #[.int .i64 kind, .int .i64 stock, .int .i64 limit] tFirm)).alloc (by simp) (.cells #[.int .i64 (wrap64 (1 + bits BinOp.and IntKind.i64 id 31)), .string ⟨#[114]⟩, .string ⟨#[110, 117, 116]⟩, .int .i64 (wrap64 (1 + bits BinOp.and IntKind.i64 qty 511)), .int .i64 (wrap64 (1 + bits BinOp.and IntKind.i64 amt 1073741823))] tOrder))
  have HT := Lib.hid hT
  clear hT hO
  go_enter Tryd.func7, Tryd.ntmps7
  go_wp2_with fail
  have hi := wrap_mask id 31 (by omega)
  have hq := wrap_mask qty 511 (by omega)
  have ha := wrap_mask amt 1073741823 (by omega)
  rw [show ((31 : Nat) : Int) = 31 from rfl] at hi
  rw [show ((511 : Nat) : Int) = 511 from rfl] at hq
  rw [show ((1073741823 : Nat) : Int) = 1073741823 from rfl] at ha
  generalize (w.alloc (.cells #[.int .i64 kind, .int .i64 stock, .int .i64 limit] tFirm)).alloc (.cells #[.int .i64 (wrap64 (1 + bits BinOp.and IntKind.i64 id 31)), .string ⟨#[114]⟩, .string ⟨#[110, 117, 116]⟩, .int .i64 (wrap64 (1 + bits BinOp.and IntKind.i64 qty 511)), .int .i64 (wrap64 (1 + bits BinOp.and IntKind.i64 amt 1073741823))] tOrder) = wa at HX0 HO0 HB0 ⊢
  generalize wrap64 (1 + bits BinOp.and IntKind.i64 id 31) = i at hi HO0 ⊢
  generalize wrap64 (1 + bits BinOp.and IntKind.i64 qty 511) = y at hq HO0 ⊢
  generalize wrap64 (1 + bits BinOp.and IntKind.i64 amt 1073741823) = z at ha HO0 ⊢
  by_cases hk : 0 ≤ kind ∧ kind ≤ 2
  · refine (Pl.new wa (HT.out.below HB0.out) kind stock limit hk).mono ?_
    rintro e wb ⟨p, bk, tk, wh, rfl, hp, _⟩
    obtain ⟨D, E, s, q, a, hE, hD, hs, hms, hcase⟩ := bar_data kind i y z hk (by omega) (by omega) (by omega)
    have HP := Lib.hid hp
    generalize min (max stock 0) 1000000000 = stk at HP
    have HM1 := Lib.hid (hms D (.inl rfl)).1
    have HM2 := Lib.hid (hms E (.inr rfl)).1
    have hy1 := (hms D (.inl rfl)).2
    have hy2 := (hms E (.inr rfl)).2
    have hy3 := hy2
    rw [hE] at hy3
    have HNO := Lib.hid (bar_no kind stk limit i D q a s.data.toList hD.1 hy3)
    have HYES := Lib.hid (bar_yes kind stk limit i D q a s.data.toList hD hy1 hy3)
    have HAG := Lib.hid (fun code a1 q1 (x : R5) gs rs => bar_again kind stk limit i D q a s.data.toList hy1 code a1 q1 x gs rs)
    rw [← hE] at HNO HYES
    clear hms hp hy1 hy2 hy3 hE
    have HLT := Lib.hid (HP.out.left ⟨#[110, 117, 116]⟩ (by decide))
    obtain ⟨full, hfull⟩ : ∃ f, leftS kind stk ⟨[], [], []⟩ (⟨#[110, 117, 116]⟩ : ByteArray).data.toList = f := ⟨_, rfl⟩
    rw [hfull] at HLT
    have HZZ := Lib.hid hfull
    clear hfull
    obtain ⟨x0, x1, x2⟩ := cell3c (heap_keep HX0.out HP.out.below)
    obtain ⟨ix0, ix1, ix2⟩ := index3 wb (.int .i64 1) (.int .i64 0) (.int .i64 2)
    rcases hcase with ⟨rfl, rfl, rfl⟩ | ⟨rfl, rfl, rfl⟩ | ⟨rfl, rfl, rfl⟩
    · go_wp2_with fail
      refine HLT.out.mono ?_
      rintro e wc ⟨rfl, hb⟩
      have HP1 := Lib.hid (HP.out.keep hb)
      clear HLT HP hb
      cases ahead with
      | false =>
        obtain ⟨o0, o1, o2, o3, o4⟩ := cell5 (heap_keep HO0.out HP1.out.below)
        go_wp2_with fail
        refine (HM2.out _ HP1.out.pt).mono ?_
        rintro e wmb ⟨rfl, hb⟩
        have HPm := Lib.hid (HP1.out.keep hb)
        clear hb o0 o1 o2 o3 o4
        go_wp2_with fail
        refine (HPm.out.told (by omega) i 4 s q a hs HNO.out.1 HNO.out.2).mono ?_
        rintro e wdb ⟨rfl, hp, ht⟩
        have hzltb := hp.pa.lt
        have HZb := Lib.hid (heap_new wdb (.cells #[.int .i64 3, .int .i64 i, .int .i64 4, .string ⟨#[]⟩, .int .i64 0, .int .i64 0, .int .i64 1] tMsg))
        have HP2 := Lib.hid (hp.keep (below_alloc wdb (.cells #[.int .i64 3, .int .i64 i, .int .i64 4, .string ⟨#[]⟩, .int .i64 0, .int .i64 0, .int .i64 1] tMsg)))
        clear hp ht HPm
        obtain ⟨o0, o1, o2, o3, o4⟩ := cell5 (heap_keep HO0.out HP2.out.below)
        go_wp2_with fail
        refine (HM1.out _ HP2.out.pt).mono ?_
        rintro e wmc ⟨rfl, hb⟩
        have HPm := Lib.hid (HP2.out.keep hb)
        replace HZb := Lib.hid (heap_keep HZb.out hb)
        clear hb o0 o1 o2 o3 o4
        go_wp2_with fail
        refine (HPm.out.told (by omega) i 1 s q a hs (HAG.out 2 0 0 ((i, 4), 1, 0, 0) [] []).2 (HAG.out 2 0 0 ((i, 4), 1, 0, 0) [] []).1).mono ?_
        rintro e wdc ⟨rfl, hp, ht⟩
        have hzltc := hp.pa.lt
        replace HZb := Lib.hid ((ht.block _ (heap_lt HZb.out) (by omega)).trans HZb.out)
        replace HZb := Lib.hid (heap_keep HZb.out (below_alloc wdc (.cells #[.int .i64 3, .int .i64 i, .int .i64 1, .string ⟨#[]⟩, .int .i64 0, .int .i64 0, .int .i64 2] tMsg)))
        have HZc := Lib.hid (heap_new wdc (.cells #[.int .i64 3, .int .i64 i, .int .i64 1, .string ⟨#[]⟩, .int .i64 0, .int .i64 0, .int .i64 2] tMsg))
        have HP3 := Lib.hid (hp.keep (below_alloc wdc (.cells #[.int .i64 3, .int .i64 i, .int .i64 1, .string ⟨#[]⟩, .int .i64 0, .int .i64 0, .int .i64 2] tMsg)))
        clear hp ht HPm
        obtain ⟨o0, o1, o2, o3, o4⟩ := cell5 (heap_keep HO0.out HP3.out.below)
        go_wp2_with fail
        refine (HP3.out.rows (by omega)).mono ?_
        rintro e we ⟨vr, rfl, ho, hb⟩
        obtain ⟨Ar, cr, rfl, _⟩ := own_slice ho
        have HPr := Lib.hid (HP3.out.keep hb)
        replace HZb := Lib.hid (heap_keep HZb.out hb)
        obtain ⟨_, _, _, _, _, _, cHZb⟩ := cell7 HZb.out
        replace HZc := Lib.hid (heap_keep HZc.out hb)
        obtain ⟨_, _, _, _, _, _, cHZc⟩ := cell7 HZc.out
        have HOR := Lib.hid ho
        clear ho hb o0 o1 o2 o3 o4
        go_wp2_with fail
        refine (HPr.out.left ⟨#[110, 117, 116]⟩ (by decide)).mono ?_
        rintro e wf ⟨he, hb⟩
        replace he := he.trans (congrArg (fun z => Ending.returned (.int .i64 z)) HZZ.out)
        subst he
        have HPf := Lib.hid (HPr.out.keep hb)
        obtain ⟨gr, rfl, _, _, r2, r3, r4⟩ := row_cells (k := 0) HOR.out hb rfl
        obtain ⟨gr', e, _, _, s2, s3, s4⟩ := row_cells (k := 1) HOR.out hb rfl
        injection e with e
        injection e with e
        subst e
        replace r2 : wf.cell? ⟨gr, 2, none⟩ = some (.int .i64 2) := r2
        replace r3 : wf.cell? ⟨gr, 3, none⟩ = some (.int .i64 0) := r3
        replace r4 : wf.cell? ⟨gr, 4, none⟩ = some (.int .i64 0) := r4
        replace s2 : wf.cell? ⟨gr, 7, none⟩ = some (.int .i64 1) := s2
        replace s3 : wf.cell? ⟨gr, 8, none⟩ = some (.int .i64 0) := s3
        replace s4 : wf.cell? ⟨gr, 9, none⟩ = some (.int .i64 0) := s4
        clear hb cHZb cHZc
        go_wp2_with fail
        refine region_quiet_tail 53 (by kernel_rfl) (by kernel_rfl) ?_
        simp only [List.take_succ_cons, List.take_zero, List.drop_succ_cons, List.drop_zero]
        repeat (go_big_quiet_step (fail))
        refine wpQuiet_nil ?_
        change wpList _ _ _ _ _ wf.drew
        go_wp2_with fail
        refine (asked_true _ (HPf.out.pt.below (below_drew1 (Below.refl _ _)))).mono ?_
        rintro e wg ⟨rfl, hb⟩
        have HB := Lib.hid (bch HB0.out (bch (below_drew1 HPf.out.below) hb HPf.out.below.size) HB0.out.size)
        clear hb
        go_wp2_with fail
        go_ret
        exact ⟨rfl, HB.out⟩
      | true =>
        obtain ⟨code, a1, q1, rs, hc, h1, h2, h3⟩ := HYES.out
        have HY1 := Lib.hid h1
        have HY2 := Lib.hid h2
        have HY3 := Lib.hid h3
        have HAG2 := Lib.hid (HAG.out code a1 q1 ((i, 4), 1, a1, q1) [] rs)
        clear h1 h2 h3 HYES HAG HNO
        rcases hc with rfl | rfl
        · obtain ⟨o0, o1, o2, o3, o4⟩ := cell5 (heap_keep HO0.out HP1.out.below)
          go_wp2_with fail
          refine (HM1.out _ HP1.out.pt).mono ?_
          rintro e wma ⟨rfl, hb⟩
          have HPm := Lib.hid (HP1.out.keep hb)
          clear hb o0 o1 o2 o3 o4
          go_wp2_with fail
          refine (HPm.out.told (by omega) i 1 s q a hs HY1.out rfl).mono ?_
          rintro e wda ⟨rfl, hp, ht⟩
          have hzlta := hp.pa.lt
          have HZa := Lib.hid (heap_new wda (.cells #[.int .i64 3, .int .i64 i, .int .i64 1, .string ⟨#[]⟩, .int .i64 0, .int .i64 0, .int .i64 1] tMsg))
          have HP2 := Lib.hid (hp.keep (below_alloc wda (.cells #[.int .i64 3, .int .i64 i, .int .i64 1, .string ⟨#[]⟩, .int .i64 0, .int .i64 0, .int .i64 1] tMsg)))
          clear hp ht HPm
          obtain ⟨o0, o1, o2, o3, o4⟩ := cell5 (heap_keep HO0.out HP2.out.below)
          obtain ⟨_, _, _, _, _, _, cHZa⟩ := cell7 HZa.out
          go_wp2_with fail
          clear cHZa
          refine (HM2.out _ HP2.out.pt).mono ?_
          rintro e wmb ⟨rfl, hb⟩
          have HPm := Lib.hid (HP2.out.keep hb)
          replace HZa := Lib.hid (heap_keep HZa.out hb)
          clear hb o0 o1 o2 o3 o4
          go_wp2_with fail
          refine (HPm.out.told (by omega) i 4 s q a hs HY2.out HY3.out).mono ?_
          rintro e wdb ⟨rfl, hp, ht⟩
          have hzltb := hp.pa.lt
          replace HZa := Lib.hid ((ht.block _ (heap_lt HZa.out) (by omega)).trans HZa.out)
          replace HZa := Lib.hid (heap_keep HZa.out (below_alloc wdb (.cells #[.int .i64 3, .int .i64 i, .int .i64 4, .string ⟨#[]⟩, .int .i64 0, .int .i64 0, .int .i64 1] tMsg)))
          have HZb := Lib.hid (heap_new wdb (.cells #[.int .i64 3, .int .i64 i, .int .i64 4, .string ⟨#[]⟩, .int .i64 0, .int .i64 0, .int .i64 1] tMsg))
          have HP3 := Lib.hid (hp.keep (below_alloc wdb (.cells #[.int .i64 3, .int .i64 i, .int .i64 4, .string ⟨#[]⟩, .int .i64 0, .int .i64 0, .int .i64 1] tMsg)))
          clear hp ht HPm
          obtain ⟨o0, o1, o2, o3, o4⟩ := cell5 (heap_keep HO0.out HP3.out.below)
          go_wp2_with fail
          refine (HM1.out _ HP3.out.pt).mono ?_
          rintro e wmc ⟨rfl, hb⟩
          have HPm := Lib.hid (HP3.out.keep hb)
          replace HZb := Lib.hid (heap_keep HZb.out hb)
          clear hb o0 o1 o2 o3 o4
          go_wp2_with fail
          refine (HPm.out.told (by omega) i 1 s q a hs HAG2.out.2 HAG2.out.1).mono ?_
          rintro e wdc ⟨rfl, hp, ht⟩
          have hzltc := hp.pa.lt
          replace HZb := Lib.hid ((ht.block _ (heap_lt HZb.out) (by omega)).trans HZb.out)
          replace HZb := Lib.hid (heap_keep HZb.out (below_alloc wdc (.cells #[.int .i64 3, .int .i64 i, .int .i64 1, .string ⟨#[]⟩, .int .i64 0, .int .i64 0, .int .i64 1] tMsg)))
          have HZc := Lib.hid (heap_new wdc (.cells #[.int .i64 3, .int .i64 i, .int .i64 1, .string ⟨#[]⟩, .int .i64 0, .int .i64 0, .int .i64 1] tMsg))
          have HP4 := Lib.hid (hp.keep (below_alloc wdc (.cells #[.int .i64 3, .int .i64 i, .int .i64 1, .string ⟨#[]⟩, .int .i64 0, .int .i64 0, .int .i64 1] tMsg)))
          clear hp ht HPm
          obtain ⟨o0, o1, o2, o3, o4⟩ := cell5 (heap_keep HO0.out HP4.out.below)
          go_wp2_with fail
          refine (HP4.out.rows (by omega)).mono ?_
          rintro e we ⟨vr, rfl, ho, hb⟩
          obtain ⟨Ar, cr, rfl, _⟩ := own_slice ho
          have HPr := Lib.hid (HP4.out.keep hb)
          replace HZb := Lib.hid (heap_keep HZb.out hb)
          obtain ⟨_, _, _, _, _, _, cHZb⟩ := cell7 HZb.out
          replace HZc := Lib.hid (heap_keep HZc.out hb)
          obtain ⟨_, _, _, _, _, _, cHZc⟩ := cell7 HZc.out
          have HOR := Lib.hid ho
          clear ho hb o0 o1 o2 o3 o4
          go_wp2_with fail
          refine (HPr.out.left ⟨#[110, 117, 116]⟩ (by decide)).mono ?_
          rintro e wf ⟨he, hb⟩
          replace he := he.trans (congrArg (fun z => Ending.returned (.int .i64 z)) HZZ.out)
          subst he
          have HPf := Lib.hid (HPr.out.keep hb)
          obtain ⟨gr, rfl, _, _, r2, r3, r4⟩ := row_cells (k := 0) HOR.out hb rfl
          obtain ⟨gr', e, _, _, s2, s3, s4⟩ := row_cells (k := 1) HOR.out hb rfl
          injection e with e
          injection e with e
          subst e
          replace r2 : wf.cell? ⟨gr, 2, none⟩ = some (.int .i64 1) := r2
          replace r3 : wf.cell? ⟨gr, 3, none⟩ = some (.int .i64 a1) := r3
          replace r4 : wf.cell? ⟨gr, 4, none⟩ = some (.int .i64 q1) := r4
          replace s2 : wf.cell? ⟨gr, 7, none⟩ = some (.int .i64 1) := s2
          replace s3 : wf.cell? ⟨gr, 8, none⟩ = some (.int .i64 a1) := s3
          replace s4 : wf.cell? ⟨gr, 9, none⟩ = some (.int .i64 q1) := s4
          clear hb cHZb cHZc
          go_wp2_with fail
          refine region_quiet_tail 53 (by kernel_rfl) (by kernel_rfl) ?_
          simp only [List.take_succ_cons, List.take_zero, List.drop_succ_cons, List.drop_zero]
          repeat (go_big_quiet_step (fail))
          refine wpQuiet_nil ?_
          change wpList _ _ _ _ _ wf.drew
          go_wp2_with fail
          refine (asked_true _ (HPf.out.pt.below (below_drew1 (Below.refl _ _)))).mono ?_
          rintro e wg ⟨rfl, hb⟩
          have HB := Lib.hid (bch HB0.out (bch (below_drew1 HPf.out.below) hb HPf.out.below.size) HB0.out.size)
          clear hb
          go_wp2_with fail
          go_ret
          exact ⟨rfl, HB.out⟩
        · obtain ⟨o0, o1, o2, o3, o4⟩ := cell5 (heap_keep HO0.out HP1.out.below)
          go_wp2_with fail
          refine (HM1.out _ HP1.out.pt).mono ?_
          rintro e wma ⟨rfl, hb⟩
          have HPm := Lib.hid (HP1.out.keep hb)
          clear hb o0 o1 o2 o3 o4
          go_wp2_with fail
          refine (HPm.out.told (by omega) i 1 s q a hs HY1.out rfl).mono ?_
          rintro e wda ⟨rfl, hp, ht⟩
          have hzlta := hp.pa.lt
          have HZa := Lib.hid (heap_new wda (.cells #[.int .i64 3, .int .i64 i, .int .i64 1, .string ⟨#[]⟩, .int .i64 0, .int .i64 0, .int .i64 2] tMsg))
          have HP2 := Lib.hid (hp.keep (below_alloc wda (.cells #[.int .i64 3, .int .i64 i, .int .i64 1, .string ⟨#[]⟩, .int .i64 0, .int .i64 0, .int .i64 2] tMsg)))
          clear hp ht HPm
          obtain ⟨o0, o1, o2, o3, o4⟩ := cell5 (heap_keep HO0.out HP2.out.below)
          obtain ⟨_, _, _, _, _, _, cHZa⟩ := cell7 HZa.out
          go_wp2_with fail
          clear cHZa
          refine (HM2.out _ HP2.out.pt).mono ?_
          rintro e wmb ⟨rfl, hb⟩
          have HPm := Lib.hid (HP2.out.keep hb)
          replace HZa := Lib.hid (heap_keep HZa.out hb)
          clear hb o0 o1 o2 o3 o4
          go_wp2_with fail
          refine (HPm.out.told (by omega) i 4 s q a hs HY2.out HY3.out).mono ?_
          rintro e wdb ⟨rfl, hp, ht⟩
          have hzltb := hp.pa.lt
          replace HZa := Lib.hid ((ht.block _ (heap_lt HZa.out) (by omega)).trans HZa.out)
          replace HZa := Lib.hid (heap_keep HZa.out (below_alloc wdb (.cells #[.int .i64 3, .int .i64 i, .int .i64 4, .string ⟨#[]⟩, .int .i64 0, .int .i64 0, .int .i64 1] tMsg)))
          have HZb := Lib.hid (heap_new wdb (.cells #[.int .i64 3, .int .i64 i, .int .i64 4, .string ⟨#[]⟩, .int .i64 0, .int .i64 0, .int .i64 1] tMsg))
          have HP3 := Lib.hid (hp.keep (below_alloc wdb (.cells #[.int .i64 3, .int .i64 i, .int .i64 4, .string ⟨#[]⟩, .int .i64 0, .int .i64 0, .int .i64 1] tMsg)))
          clear hp ht HPm
          obtain ⟨o0, o1, o2, o3, o4⟩ := cell5 (heap_keep HO0.out HP3.out.below)
          go_wp2_with fail
          refine (HM1.out _ HP3.out.pt).mono ?_
          rintro e wmc ⟨rfl, hb⟩
          have HPm := Lib.hid (HP3.out.keep hb)
          replace HZb := Lib.hid (heap_keep HZb.out hb)
          clear hb o0 o1 o2 o3 o4
          go_wp2_with fail
          refine (HPm.out.told (by omega) i 1 s q a hs HAG2.out.2 HAG2.out.1).mono ?_
          rintro e wdc ⟨rfl, hp, ht⟩
          have hzltc := hp.pa.lt
          replace HZb := Lib.hid ((ht.block _ (heap_lt HZb.out) (by omega)).trans HZb.out)
          replace HZb := Lib.hid (heap_keep HZb.out (below_alloc wdc (.cells #[.int .i64 3, .int .i64 i, .int .i64 1, .string ⟨#[]⟩, .int .i64 0, .int .i64 0, .int .i64 2] tMsg)))
          have HZc := Lib.hid (heap_new wdc (.cells #[.int .i64 3, .int .i64 i, .int .i64 1, .string ⟨#[]⟩, .int .i64 0, .int .i64 0, .int .i64 2] tMsg))
          have HP4 := Lib.hid (hp.keep (below_alloc wdc (.cells #[.int .i64 3, .int .i64 i, .int .i64 1, .string ⟨#[]⟩, .int .i64 0, .int .i64 0, .int .i64 2] tMsg)))
          clear hp ht HPm
          obtain ⟨o0, o1, o2, o3, o4⟩ := cell5 (heap_keep HO0.out HP4.out.below)
          go_wp2_with fail
          refine (HP4.out.rows (by omega)).mono ?_
          rintro e we ⟨vr, rfl, ho, hb⟩
          obtain ⟨Ar, cr, rfl, _⟩ := own_slice ho
          have HPr := Lib.hid (HP4.out.keep hb)
          replace HZb := Lib.hid (heap_keep HZb.out hb)
          obtain ⟨_, _, _, _, _, _, cHZb⟩ := cell7 HZb.out
          replace HZc := Lib.hid (heap_keep HZc.out hb)
          obtain ⟨_, _, _, _, _, _, cHZc⟩ := cell7 HZc.out
          have HOR := Lib.hid ho
          clear ho hb o0 o1 o2 o3 o4
          go_wp2_with fail
          refine (HPr.out.left ⟨#[110, 117, 116]⟩ (by decide)).mono ?_
          rintro e wf ⟨he, hb⟩
          replace he := he.trans (congrArg (fun z => Ending.returned (.int .i64 z)) HZZ.out)
          subst he
          have HPf := Lib.hid (HPr.out.keep hb)
          obtain ⟨gr, rfl, _, _, r2, r3, r4⟩ := row_cells (k := 0) HOR.out hb rfl
          obtain ⟨gr', e, _, _, s2, s3, s4⟩ := row_cells (k := 1) HOR.out hb rfl
          injection e with e
          injection e with e
          subst e
          replace r2 : wf.cell? ⟨gr, 2, none⟩ = some (.int .i64 2) := r2
          replace r3 : wf.cell? ⟨gr, 3, none⟩ = some (.int .i64 a1) := r3
          replace r4 : wf.cell? ⟨gr, 4, none⟩ = some (.int .i64 q1) := r4
          replace s2 : wf.cell? ⟨gr, 7, none⟩ = some (.int .i64 1) := s2
          replace s3 : wf.cell? ⟨gr, 8, none⟩ = some (.int .i64 a1) := s3
          replace s4 : wf.cell? ⟨gr, 9, none⟩ = some (.int .i64 q1) := s4
          clear hb cHZb cHZc
          go_wp2_with fail
          refine region_quiet_tail 53 (by kernel_rfl) (by kernel_rfl) ?_
          simp only [List.take_succ_cons, List.take_zero, List.drop_succ_cons, List.drop_zero]
          repeat (go_big_quiet_step (fail))
          refine wpQuiet_nil ?_
          change wpList _ _ _ _ _ wf.drew
          go_wp2_with fail
          refine (asked_true _ (HPf.out.pt.below (below_drew1 (Below.refl _ _)))).mono ?_
          rintro e wg ⟨rfl, hb⟩
          have HB := Lib.hid (bch HB0.out (bch (below_drew1 HPf.out.below) hb HPf.out.below.size) HB0.out.size)
          clear hb
          go_wp2_with fail
          go_ret
          exact ⟨rfl, HB.out⟩
    · go_wp2_with fail
      refine HLT.out.mono ?_
      rintro e wc ⟨rfl, hb⟩
      have HP1 := Lib.hid (HP.out.keep hb)
      clear HLT HP hb
      cases ahead with
      | false =>
        obtain ⟨o0, o1, o2, o3, o4⟩ := cell5 (heap_keep HO0.out HP1.out.below)
        go_wp2_with fail
        refine (HM2.out _ HP1.out.pt).mono ?_
        rintro e wmb ⟨rfl, hb⟩
        have HPm := Lib.hid (HP1.out.keep hb)
        clear hb o0 o1 o2 o3 o4
        go_wp2_with fail
        refine (HPm.out.told (by omega) i 3 s q a hs HNO.out.1 HNO.out.2).mono ?_
        rintro e wdb ⟨rfl, hp, ht⟩
        have hzltb := hp.pa.lt
        have HZb := Lib.hid (heap_new wdb (.cells #[.int .i64 3, .int .i64 i, .int .i64 3, .string ⟨#[]⟩, .int .i64 0, .int .i64 0, .int .i64 1] tMsg))
        have HP2 := Lib.hid (hp.keep (below_alloc wdb (.cells #[.int .i64 3, .int .i64 i, .int .i64 3, .string ⟨#[]⟩, .int .i64 0, .int .i64 0, .int .i64 1] tMsg)))
        clear hp ht HPm
        obtain ⟨o0, o1, o2, o3, o4⟩ := cell5 (heap_keep HO0.out HP2.out.below)
        go_wp2_with fail
        refine (HM1.out _ HP2.out.pt).mono ?_
        rintro e wmc ⟨rfl, hb⟩
        have HPm := Lib.hid (HP2.out.keep hb)
        replace HZb := Lib.hid (heap_keep HZb.out hb)
        clear hb o0 o1 o2 o3 o4
        go_wp2_with fail
        refine (HPm.out.told (by omega) i 0 s q a hs (HAG.out 2 0 0 ((i, 3), 1, 0, 0) [] []).2 (HAG.out 2 0 0 ((i, 3), 1, 0, 0) [] []).1).mono ?_
        rintro e wdc ⟨rfl, hp, ht⟩
        have hzltc := hp.pa.lt
        replace HZb := Lib.hid ((ht.block _ (heap_lt HZb.out) (by omega)).trans HZb.out)
        replace HZb := Lib.hid (heap_keep HZb.out (below_alloc wdc (.cells #[.int .i64 3, .int .i64 i, .int .i64 0, .string ⟨#[]⟩, .int .i64 0, .int .i64 0, .int .i64 2] tMsg)))
        have HZc := Lib.hid (heap_new wdc (.cells #[.int .i64 3, .int .i64 i, .int .i64 0, .string ⟨#[]⟩, .int .i64 0, .int .i64 0, .int .i64 2] tMsg))
        have HP3 := Lib.hid (hp.keep (below_alloc wdc (.cells #[.int .i64 3, .int .i64 i, .int .i64 0, .string ⟨#[]⟩, .int .i64 0, .int .i64 0, .int .i64 2] tMsg)))
        clear hp ht HPm
        obtain ⟨o0, o1, o2, o3, o4⟩ := cell5 (heap_keep HO0.out HP3.out.below)
        go_wp2_with fail
        refine (HP3.out.rows (by omega)).mono ?_
        rintro e we ⟨vr, rfl, ho, hb⟩
        obtain ⟨Ar, cr, rfl, _⟩ := own_slice ho
        have HPr := Lib.hid (HP3.out.keep hb)
        replace HZb := Lib.hid (heap_keep HZb.out hb)
        obtain ⟨_, _, _, _, _, _, cHZb⟩ := cell7 HZb.out
        replace HZc := Lib.hid (heap_keep HZc.out hb)
        obtain ⟨_, _, _, _, _, _, cHZc⟩ := cell7 HZc.out
        have HOR := Lib.hid ho
        clear ho hb o0 o1 o2 o3 o4
        go_wp2_with fail
        refine (HPr.out.left ⟨#[110, 117, 116]⟩ (by decide)).mono ?_
        rintro e wf ⟨he, hb⟩
        replace he := he.trans (congrArg (fun z => Ending.returned (.int .i64 z)) HZZ.out)
        subst he
        have HPf := Lib.hid (HPr.out.keep hb)
        obtain ⟨gr, rfl, _, _, r2, r3, r4⟩ := row_cells (k := 0) HOR.out hb rfl
        obtain ⟨gr', e, _, _, s2, s3, s4⟩ := row_cells (k := 1) HOR.out hb rfl
        injection e with e
        injection e with e
        subst e
        replace r2 : wf.cell? ⟨gr, 2, none⟩ = some (.int .i64 2) := r2
        replace r3 : wf.cell? ⟨gr, 3, none⟩ = some (.int .i64 0) := r3
        replace r4 : wf.cell? ⟨gr, 4, none⟩ = some (.int .i64 0) := r4
        replace s2 : wf.cell? ⟨gr, 7, none⟩ = some (.int .i64 1) := s2
        replace s3 : wf.cell? ⟨gr, 8, none⟩ = some (.int .i64 0) := s3
        replace s4 : wf.cell? ⟨gr, 9, none⟩ = some (.int .i64 0) := s4
        clear hb cHZb cHZc
        go_wp2_with fail
        refine region_quiet_tail 53 (by kernel_rfl) (by kernel_rfl) ?_
        simp only [List.take_succ_cons, List.take_zero, List.drop_succ_cons, List.drop_zero]
        repeat (go_big_quiet_step (fail))
        refine wpQuiet_nil ?_
        change wpList _ _ _ _ _ wf.drew
        go_wp2_with fail
        refine (asked_true _ (HPf.out.pt.below (below_drew1 (Below.refl _ _)))).mono ?_
        rintro e wg ⟨rfl, hb⟩
        have HB := Lib.hid (bch HB0.out (bch (below_drew1 HPf.out.below) hb HPf.out.below.size) HB0.out.size)
        clear hb
        go_wp2_with fail
        go_ret
        exact ⟨rfl, HB.out⟩
      | true =>
        obtain ⟨code, a1, q1, rs, hc, h1, h2, h3⟩ := HYES.out
        have HY1 := Lib.hid h1
        have HY2 := Lib.hid h2
        have HY3 := Lib.hid h3
        have HAG2 := Lib.hid (HAG.out code a1 q1 ((i, 3), 1, a1, q1) [] rs)
        clear h1 h2 h3 HYES HAG HNO
        rcases hc with rfl | rfl
        · obtain ⟨o0, o1, o2, o3, o4⟩ := cell5 (heap_keep HO0.out HP1.out.below)
          go_wp2_with fail
          refine (HM1.out _ HP1.out.pt).mono ?_
          rintro e wma ⟨rfl, hb⟩
          have HPm := Lib.hid (HP1.out.keep hb)
          clear hb o0 o1 o2 o3 o4
          go_wp2_with fail
          refine (HPm.out.told (by omega) i 0 s q a hs HY1.out rfl).mono ?_
          rintro e wda ⟨rfl, hp, ht⟩
          have hzlta := hp.pa.lt
          have HZa := Lib.hid (heap_new wda (.cells #[.int .i64 3, .int .i64 i, .int .i64 0, .string ⟨#[]⟩, .int .i64 0, .int .i64 0, .int .i64 1] tMsg))
          have HP2 := Lib.hid (hp.keep (below_alloc wda (.cells #[.int .i64 3, .int .i64 i, .int .i64 0, .string ⟨#[]⟩, .int .i64 0, .int .i64 0, .int .i64 1] tMsg)))
          clear hp ht HPm
          obtain ⟨o0, o1, o2, o3, o4⟩ := cell5 (heap_keep HO0.out HP2.out.below)
          obtain ⟨_, _, _, _, _, _, cHZa⟩ := cell7 HZa.out
          go_wp2_with fail
          clear cHZa
          refine (HM2.out _ HP2.out.pt).mono ?_
          rintro e wmb ⟨rfl, hb⟩
          have HPm := Lib.hid (HP2.out.keep hb)
          replace HZa := Lib.hid (heap_keep HZa.out hb)
          clear hb o0 o1 o2 o3 o4
          go_wp2_with fail
          refine (HPm.out.told (by omega) i 3 s q a hs HY2.out HY3.out).mono ?_
          rintro e wdb ⟨rfl, hp, ht⟩
          have hzltb := hp.pa.lt
          replace HZa := Lib.hid ((ht.block _ (heap_lt HZa.out) (by omega)).trans HZa.out)
          replace HZa := Lib.hid (heap_keep HZa.out (below_alloc wdb (.cells #[.int .i64 3, .int .i64 i, .int .i64 3, .string ⟨#[]⟩, .int .i64 0, .int .i64 0, .int .i64 1] tMsg)))
          have HZb := Lib.hid (heap_new wdb (.cells #[.int .i64 3, .int .i64 i, .int .i64 3, .string ⟨#[]⟩, .int .i64 0, .int .i64 0, .int .i64 1] tMsg))
          have HP3 := Lib.hid (hp.keep (below_alloc wdb (.cells #[.int .i64 3, .int .i64 i, .int .i64 3, .string ⟨#[]⟩, .int .i64 0, .int .i64 0, .int .i64 1] tMsg)))
          clear hp ht HPm
          obtain ⟨o0, o1, o2, o3, o4⟩ := cell5 (heap_keep HO0.out HP3.out.below)
          go_wp2_with fail
          refine (HM1.out _ HP3.out.pt).mono ?_
          rintro e wmc ⟨rfl, hb⟩
          have HPm := Lib.hid (HP3.out.keep hb)
          replace HZb := Lib.hid (heap_keep HZb.out hb)
          clear hb o0 o1 o2 o3 o4
          go_wp2_with fail
          refine (HPm.out.told (by omega) i 0 s q a hs HAG2.out.2 HAG2.out.1).mono ?_
          rintro e wdc ⟨rfl, hp, ht⟩
          have hzltc := hp.pa.lt
          replace HZb := Lib.hid ((ht.block _ (heap_lt HZb.out) (by omega)).trans HZb.out)
          replace HZb := Lib.hid (heap_keep HZb.out (below_alloc wdc (.cells #[.int .i64 3, .int .i64 i, .int .i64 0, .string ⟨#[]⟩, .int .i64 0, .int .i64 0, .int .i64 1] tMsg)))
          have HZc := Lib.hid (heap_new wdc (.cells #[.int .i64 3, .int .i64 i, .int .i64 0, .string ⟨#[]⟩, .int .i64 0, .int .i64 0, .int .i64 1] tMsg))
          have HP4 := Lib.hid (hp.keep (below_alloc wdc (.cells #[.int .i64 3, .int .i64 i, .int .i64 0, .string ⟨#[]⟩, .int .i64 0, .int .i64 0, .int .i64 1] tMsg)))
          clear hp ht HPm
          obtain ⟨o0, o1, o2, o3, o4⟩ := cell5 (heap_keep HO0.out HP4.out.below)
          go_wp2_with fail
          refine (HP4.out.rows (by omega)).mono ?_
          rintro e we ⟨vr, rfl, ho, hb⟩
          obtain ⟨Ar, cr, rfl, _⟩ := own_slice ho
          have HPr := Lib.hid (HP4.out.keep hb)
          replace HZb := Lib.hid (heap_keep HZb.out hb)
          obtain ⟨_, _, _, _, _, _, cHZb⟩ := cell7 HZb.out
          replace HZc := Lib.hid (heap_keep HZc.out hb)
          obtain ⟨_, _, _, _, _, _, cHZc⟩ := cell7 HZc.out
          have HOR := Lib.hid ho
          clear ho hb o0 o1 o2 o3 o4
          go_wp2_with fail
          refine (HPr.out.left ⟨#[110, 117, 116]⟩ (by decide)).mono ?_
          rintro e wf ⟨he, hb⟩
          replace he := he.trans (congrArg (fun z => Ending.returned (.int .i64 z)) HZZ.out)
          subst he
          have HPf := Lib.hid (HPr.out.keep hb)
          obtain ⟨gr, rfl, _, _, r2, r3, r4⟩ := row_cells (k := 0) HOR.out hb rfl
          obtain ⟨gr', e, _, _, s2, s3, s4⟩ := row_cells (k := 1) HOR.out hb rfl
          injection e with e
          injection e with e
          subst e
          replace r2 : wf.cell? ⟨gr, 2, none⟩ = some (.int .i64 1) := r2
          replace r3 : wf.cell? ⟨gr, 3, none⟩ = some (.int .i64 a1) := r3
          replace r4 : wf.cell? ⟨gr, 4, none⟩ = some (.int .i64 q1) := r4
          replace s2 : wf.cell? ⟨gr, 7, none⟩ = some (.int .i64 1) := s2
          replace s3 : wf.cell? ⟨gr, 8, none⟩ = some (.int .i64 a1) := s3
          replace s4 : wf.cell? ⟨gr, 9, none⟩ = some (.int .i64 q1) := s4
          clear hb cHZb cHZc
          go_wp2_with fail
          refine region_quiet_tail 53 (by kernel_rfl) (by kernel_rfl) ?_
          simp only [List.take_succ_cons, List.take_zero, List.drop_succ_cons, List.drop_zero]
          repeat (go_big_quiet_step (fail))
          refine wpQuiet_nil ?_
          change wpList _ _ _ _ _ wf.drew
          go_wp2_with fail
          refine (asked_true _ (HPf.out.pt.below (below_drew1 (Below.refl _ _)))).mono ?_
          rintro e wg ⟨rfl, hb⟩
          have HB := Lib.hid (bch HB0.out (bch (below_drew1 HPf.out.below) hb HPf.out.below.size) HB0.out.size)
          clear hb
          go_wp2_with fail
          go_ret
          exact ⟨rfl, HB.out⟩
        · obtain ⟨o0, o1, o2, o3, o4⟩ := cell5 (heap_keep HO0.out HP1.out.below)
          go_wp2_with fail
          refine (HM1.out _ HP1.out.pt).mono ?_
          rintro e wma ⟨rfl, hb⟩
          have HPm := Lib.hid (HP1.out.keep hb)
          clear hb o0 o1 o2 o3 o4
          go_wp2_with fail
          refine (HPm.out.told (by omega) i 0 s q a hs HY1.out rfl).mono ?_
          rintro e wda ⟨rfl, hp, ht⟩
          have hzlta := hp.pa.lt
          have HZa := Lib.hid (heap_new wda (.cells #[.int .i64 3, .int .i64 i, .int .i64 0, .string ⟨#[]⟩, .int .i64 0, .int .i64 0, .int .i64 2] tMsg))
          have HP2 := Lib.hid (hp.keep (below_alloc wda (.cells #[.int .i64 3, .int .i64 i, .int .i64 0, .string ⟨#[]⟩, .int .i64 0, .int .i64 0, .int .i64 2] tMsg)))
          clear hp ht HPm
          obtain ⟨o0, o1, o2, o3, o4⟩ := cell5 (heap_keep HO0.out HP2.out.below)
          obtain ⟨_, _, _, _, _, _, cHZa⟩ := cell7 HZa.out
          go_wp2_with fail
          clear cHZa
          refine (HM2.out _ HP2.out.pt).mono ?_
          rintro e wmb ⟨rfl, hb⟩
          have HPm := Lib.hid (HP2.out.keep hb)
          replace HZa := Lib.hid (heap_keep HZa.out hb)
          clear hb o0 o1 o2 o3 o4
          go_wp2_with fail
          refine (HPm.out.told (by omega) i 3 s q a hs HY2.out HY3.out).mono ?_
          rintro e wdb ⟨rfl, hp, ht⟩
          have hzltb := hp.pa.lt
          replace HZa := Lib.hid ((ht.block _ (heap_lt HZa.out) (by omega)).trans HZa.out)
          replace HZa := Lib.hid (heap_keep HZa.out (below_alloc wdb (.cells #[.int .i64 3, .int .i64 i, .int .i64 3, .string ⟨#[]⟩, .int .i64 0, .int .i64 0, .int .i64 1] tMsg)))
          have HZb := Lib.hid (heap_new wdb (.cells #[.int .i64 3, .int .i64 i, .int .i64 3, .string ⟨#[]⟩, .int .i64 0, .int .i64 0, .int .i64 1] tMsg))
          have HP3 := Lib.hid (hp.keep (below_alloc wdb (.cells #[.int .i64 3, .int .i64 i, .int .i64 3, .string ⟨#[]⟩, .int .i64 0, .int .i64 0, .int .i64 1] tMsg)))
          clear hp ht HPm
          obtain ⟨o0, o1, o2, o3, o4⟩ := cell5 (heap_keep HO0.out HP3.out.below)
          go_wp2_with fail
          refine (HM1.out _ HP3.out.pt).mono ?_
          rintro e wmc ⟨rfl, hb⟩
          have HPm := Lib.hid (HP3.out.keep hb)
          replace HZb := Lib.hid (heap_keep HZb.out hb)
          clear hb o0 o1 o2 o3 o4
          go_wp2_with fail
          refine (HPm.out.told (by omega) i 0 s q a hs HAG2.out.2 HAG2.out.1).mono ?_
          rintro e wdc ⟨rfl, hp, ht⟩
          have hzltc := hp.pa.lt
          replace HZb := Lib.hid ((ht.block _ (heap_lt HZb.out) (by omega)).trans HZb.out)
          replace HZb := Lib.hid (heap_keep HZb.out (below_alloc wdc (.cells #[.int .i64 3, .int .i64 i, .int .i64 0, .string ⟨#[]⟩, .int .i64 0, .int .i64 0, .int .i64 2] tMsg)))
          have HZc := Lib.hid (heap_new wdc (.cells #[.int .i64 3, .int .i64 i, .int .i64 0, .string ⟨#[]⟩, .int .i64 0, .int .i64 0, .int .i64 2] tMsg))
          have HP4 := Lib.hid (hp.keep (below_alloc wdc (.cells #[.int .i64 3, .int .i64 i, .int .i64 0, .string ⟨#[]⟩, .int .i64 0, .int .i64 0, .int .i64 2] tMsg)))
          clear hp ht HPm
          obtain ⟨o0, o1, o2, o3, o4⟩ := cell5 (heap_keep HO0.out HP4.out.below)
          go_wp2_with fail
          refine (HP4.out.rows (by omega)).mono ?_
          rintro e we ⟨vr, rfl, ho, hb⟩
          obtain ⟨Ar, cr, rfl, _⟩ := own_slice ho
          have HPr := Lib.hid (HP4.out.keep hb)
          replace HZb := Lib.hid (heap_keep HZb.out hb)
          obtain ⟨_, _, _, _, _, _, cHZb⟩ := cell7 HZb.out
          replace HZc := Lib.hid (heap_keep HZc.out hb)
          obtain ⟨_, _, _, _, _, _, cHZc⟩ := cell7 HZc.out
          have HOR := Lib.hid ho
          clear ho hb o0 o1 o2 o3 o4
          go_wp2_with fail
          refine (HPr.out.left ⟨#[110, 117, 116]⟩ (by decide)).mono ?_
          rintro e wf ⟨he, hb⟩
          replace he := he.trans (congrArg (fun z => Ending.returned (.int .i64 z)) HZZ.out)
          subst he
          have HPf := Lib.hid (HPr.out.keep hb)
          obtain ⟨gr, rfl, _, _, r2, r3, r4⟩ := row_cells (k := 0) HOR.out hb rfl
          obtain ⟨gr', e, _, _, s2, s3, s4⟩ := row_cells (k := 1) HOR.out hb rfl
          injection e with e
          injection e with e
          subst e
          replace r2 : wf.cell? ⟨gr, 2, none⟩ = some (.int .i64 2) := r2
          replace r3 : wf.cell? ⟨gr, 3, none⟩ = some (.int .i64 a1) := r3
          replace r4 : wf.cell? ⟨gr, 4, none⟩ = some (.int .i64 q1) := r4
          replace s2 : wf.cell? ⟨gr, 7, none⟩ = some (.int .i64 1) := s2
          replace s3 : wf.cell? ⟨gr, 8, none⟩ = some (.int .i64 a1) := s3
          replace s4 : wf.cell? ⟨gr, 9, none⟩ = some (.int .i64 q1) := s4
          clear hb cHZb cHZc
          go_wp2_with fail
          refine region_quiet_tail 53 (by kernel_rfl) (by kernel_rfl) ?_
          simp only [List.take_succ_cons, List.take_zero, List.drop_succ_cons, List.drop_zero]
          repeat (go_big_quiet_step (fail))
          refine wpQuiet_nil ?_
          change wpList _ _ _ _ _ wf.drew
          go_wp2_with fail
          refine (asked_true _ (HPf.out.pt.below (below_drew1 (Below.refl _ _)))).mono ?_
          rintro e wg ⟨rfl, hb⟩
          have HB := Lib.hid (bch HB0.out (bch (below_drew1 HPf.out.below) hb HPf.out.below.size) HB0.out.size)
          clear hb
          go_wp2_with fail
          go_ret
          exact ⟨rfl, HB.out⟩
    · go_wp2_with fail
      refine HLT.out.mono ?_
      rintro e wc ⟨rfl, hb⟩
      have HP1 := Lib.hid (HP.out.keep hb)
      clear HLT HP hb
      cases ahead with
      | false =>
        obtain ⟨o0, o1, o2, o3, o4⟩ := cell5 (heap_keep HO0.out HP1.out.below)
        go_wp2_with fail
        refine (HM2.out _ HP1.out.pt).mono ?_
        rintro e wmb ⟨rfl, hb⟩
        have HPm := Lib.hid (HP1.out.keep hb)
        clear hb o0 o1 o2 o3 o4
        go_wp2_with fail
        refine (HPm.out.told (by omega) i 5 s q a hs HNO.out.1 HNO.out.2).mono ?_
        rintro e wdb ⟨rfl, hp, ht⟩
        have hzltb := hp.pa.lt
        have HZb := Lib.hid (heap_new wdb (.cells #[.int .i64 3, .int .i64 i, .int .i64 5, .string ⟨#[]⟩, .int .i64 0, .int .i64 0, .int .i64 1] tMsg))
        have HP2 := Lib.hid (hp.keep (below_alloc wdb (.cells #[.int .i64 3, .int .i64 i, .int .i64 5, .string ⟨#[]⟩, .int .i64 0, .int .i64 0, .int .i64 1] tMsg)))
        clear hp ht HPm
        obtain ⟨o0, o1, o2, o3, o4⟩ := cell5 (heap_keep HO0.out HP2.out.below)
        go_wp2_with fail
        refine (HM1.out _ HP2.out.pt).mono ?_
        rintro e wmc ⟨rfl, hb⟩
        have HPm := Lib.hid (HP2.out.keep hb)
        replace HZb := Lib.hid (heap_keep HZb.out hb)
        clear hb o0 o1 o2 o3 o4
        go_wp2_with fail
        refine (HPm.out.told (by omega) i 2 s q a hs (HAG.out 2 0 0 ((i, 5), 1, 0, 0) [] []).2 (HAG.out 2 0 0 ((i, 5), 1, 0, 0) [] []).1).mono ?_
        rintro e wdc ⟨rfl, hp, ht⟩
        have hzltc := hp.pa.lt
        replace HZb := Lib.hid ((ht.block _ (heap_lt HZb.out) (by omega)).trans HZb.out)
        replace HZb := Lib.hid (heap_keep HZb.out (below_alloc wdc (.cells #[.int .i64 3, .int .i64 i, .int .i64 2, .string ⟨#[]⟩, .int .i64 0, .int .i64 0, .int .i64 2] tMsg)))
        have HZc := Lib.hid (heap_new wdc (.cells #[.int .i64 3, .int .i64 i, .int .i64 2, .string ⟨#[]⟩, .int .i64 0, .int .i64 0, .int .i64 2] tMsg))
        have HP3 := Lib.hid (hp.keep (below_alloc wdc (.cells #[.int .i64 3, .int .i64 i, .int .i64 2, .string ⟨#[]⟩, .int .i64 0, .int .i64 0, .int .i64 2] tMsg)))
        clear hp ht HPm
        obtain ⟨o0, o1, o2, o3, o4⟩ := cell5 (heap_keep HO0.out HP3.out.below)
        go_wp2_with fail
        refine (HP3.out.rows (by omega)).mono ?_
        rintro e we ⟨vr, rfl, ho, hb⟩
        obtain ⟨Ar, cr, rfl, _⟩ := own_slice ho
        have HPr := Lib.hid (HP3.out.keep hb)
        replace HZb := Lib.hid (heap_keep HZb.out hb)
        obtain ⟨_, _, _, _, _, _, cHZb⟩ := cell7 HZb.out
        replace HZc := Lib.hid (heap_keep HZc.out hb)
        obtain ⟨_, _, _, _, _, _, cHZc⟩ := cell7 HZc.out
        have HOR := Lib.hid ho
        clear ho hb o0 o1 o2 o3 o4
        go_wp2_with fail
        refine (HPr.out.left ⟨#[110, 117, 116]⟩ (by decide)).mono ?_
        rintro e wf ⟨he, hb⟩
        replace he := he.trans (congrArg (fun z => Ending.returned (.int .i64 z)) HZZ.out)
        subst he
        have HPf := Lib.hid (HPr.out.keep hb)
        obtain ⟨gr, rfl, _, _, r2, r3, r4⟩ := row_cells (k := 0) HOR.out hb rfl
        obtain ⟨gr', e, _, _, s2, s3, s4⟩ := row_cells (k := 1) HOR.out hb rfl
        injection e with e
        injection e with e
        subst e
        replace r2 : wf.cell? ⟨gr, 2, none⟩ = some (.int .i64 2) := r2
        replace r3 : wf.cell? ⟨gr, 3, none⟩ = some (.int .i64 0) := r3
        replace r4 : wf.cell? ⟨gr, 4, none⟩ = some (.int .i64 0) := r4
        replace s2 : wf.cell? ⟨gr, 7, none⟩ = some (.int .i64 1) := s2
        replace s3 : wf.cell? ⟨gr, 8, none⟩ = some (.int .i64 0) := s3
        replace s4 : wf.cell? ⟨gr, 9, none⟩ = some (.int .i64 0) := s4
        clear hb cHZb cHZc
        go_wp2_with fail
        refine region_quiet_tail 53 (by kernel_rfl) (by kernel_rfl) ?_
        simp only [List.take_succ_cons, List.take_zero, List.drop_succ_cons, List.drop_zero]
        repeat (go_big_quiet_step (fail))
        refine wpQuiet_nil ?_
        change wpList _ _ _ _ _ wf.drew
        go_wp2_with fail
        refine (asked_true _ (HPf.out.pt.below (below_drew1 (Below.refl _ _)))).mono ?_
        rintro e wg ⟨rfl, hb⟩
        have HB := Lib.hid (bch HB0.out (bch (below_drew1 HPf.out.below) hb HPf.out.below.size) HB0.out.size)
        clear hb
        go_wp2_with fail
        go_ret
        exact ⟨rfl, HB.out⟩
      | true =>
        obtain ⟨code, a1, q1, rs, hc, h1, h2, h3⟩ := HYES.out
        have HY1 := Lib.hid h1
        have HY2 := Lib.hid h2
        have HY3 := Lib.hid h3
        have HAG2 := Lib.hid (HAG.out code a1 q1 ((i, 5), 1, a1, q1) [] rs)
        clear h1 h2 h3 HYES HAG HNO
        rcases hc with rfl | rfl
        · obtain ⟨o0, o1, o2, o3, o4⟩ := cell5 (heap_keep HO0.out HP1.out.below)
          go_wp2_with fail
          refine (HM1.out _ HP1.out.pt).mono ?_
          rintro e wma ⟨rfl, hb⟩
          have HPm := Lib.hid (HP1.out.keep hb)
          clear hb o0 o1 o2 o3 o4
          go_wp2_with fail
          refine (HPm.out.told (by omega) i 2 s q a hs HY1.out rfl).mono ?_
          rintro e wda ⟨rfl, hp, ht⟩
          have hzlta := hp.pa.lt
          have HZa := Lib.hid (heap_new wda (.cells #[.int .i64 3, .int .i64 i, .int .i64 2, .string ⟨#[]⟩, .int .i64 0, .int .i64 0, .int .i64 1] tMsg))
          have HP2 := Lib.hid (hp.keep (below_alloc wda (.cells #[.int .i64 3, .int .i64 i, .int .i64 2, .string ⟨#[]⟩, .int .i64 0, .int .i64 0, .int .i64 1] tMsg)))
          clear hp ht HPm
          obtain ⟨o0, o1, o2, o3, o4⟩ := cell5 (heap_keep HO0.out HP2.out.below)
          obtain ⟨_, _, _, _, _, _, cHZa⟩ := cell7 HZa.out
          go_wp2_with fail
          clear cHZa
          refine (HM2.out _ HP2.out.pt).mono ?_
          rintro e wmb ⟨rfl, hb⟩
          have HPm := Lib.hid (HP2.out.keep hb)
          replace HZa := Lib.hid (heap_keep HZa.out hb)
          clear hb o0 o1 o2 o3 o4
          go_wp2_with fail
          refine (HPm.out.told (by omega) i 5 s q a hs HY2.out HY3.out).mono ?_
          rintro e wdb ⟨rfl, hp, ht⟩
          have hzltb := hp.pa.lt
          replace HZa := Lib.hid ((ht.block _ (heap_lt HZa.out) (by omega)).trans HZa.out)
          replace HZa := Lib.hid (heap_keep HZa.out (below_alloc wdb (.cells #[.int .i64 3, .int .i64 i, .int .i64 5, .string ⟨#[]⟩, .int .i64 0, .int .i64 0, .int .i64 1] tMsg)))
          have HZb := Lib.hid (heap_new wdb (.cells #[.int .i64 3, .int .i64 i, .int .i64 5, .string ⟨#[]⟩, .int .i64 0, .int .i64 0, .int .i64 1] tMsg))
          have HP3 := Lib.hid (hp.keep (below_alloc wdb (.cells #[.int .i64 3, .int .i64 i, .int .i64 5, .string ⟨#[]⟩, .int .i64 0, .int .i64 0, .int .i64 1] tMsg)))
          clear hp ht HPm
          obtain ⟨o0, o1, o2, o3, o4⟩ := cell5 (heap_keep HO0.out HP3.out.below)
          go_wp2_with fail
          refine (HM1.out _ HP3.out.pt).mono ?_
          rintro e wmc ⟨rfl, hb⟩
          have HPm := Lib.hid (HP3.out.keep hb)
          replace HZb := Lib.hid (heap_keep HZb.out hb)
          clear hb o0 o1 o2 o3 o4
          go_wp2_with fail
          refine (HPm.out.told (by omega) i 2 s q a hs HAG2.out.2 HAG2.out.1).mono ?_
          rintro e wdc ⟨rfl, hp, ht⟩
          have hzltc := hp.pa.lt
          replace HZb := Lib.hid ((ht.block _ (heap_lt HZb.out) (by omega)).trans HZb.out)
          replace HZb := Lib.hid (heap_keep HZb.out (below_alloc wdc (.cells #[.int .i64 3, .int .i64 i, .int .i64 2, .string ⟨#[]⟩, .int .i64 0, .int .i64 0, .int .i64 1] tMsg)))
          have HZc := Lib.hid (heap_new wdc (.cells #[.int .i64 3, .int .i64 i, .int .i64 2, .string ⟨#[]⟩, .int .i64 0, .int .i64 0, .int .i64 1] tMsg))
          have HP4 := Lib.hid (hp.keep (below_alloc wdc (.cells #[.int .i64 3, .int .i64 i, .int .i64 2, .string ⟨#[]⟩, .int .i64 0, .int .i64 0, .int .i64 1] tMsg)))
          clear hp ht HPm
          obtain ⟨o0, o1, o2, o3, o4⟩ := cell5 (heap_keep HO0.out HP4.out.below)
          go_wp2_with fail
          refine (HP4.out.rows (by omega)).mono ?_
          rintro e we ⟨vr, rfl, ho, hb⟩
          obtain ⟨Ar, cr, rfl, _⟩ := own_slice ho
          have HPr := Lib.hid (HP4.out.keep hb)
          replace HZb := Lib.hid (heap_keep HZb.out hb)
          obtain ⟨_, _, _, _, _, _, cHZb⟩ := cell7 HZb.out
          replace HZc := Lib.hid (heap_keep HZc.out hb)
          obtain ⟨_, _, _, _, _, _, cHZc⟩ := cell7 HZc.out
          have HOR := Lib.hid ho
          clear ho hb o0 o1 o2 o3 o4
          go_wp2_with fail
          refine (HPr.out.left ⟨#[110, 117, 116]⟩ (by decide)).mono ?_
          rintro e wf ⟨he, hb⟩
          replace he := he.trans (congrArg (fun z => Ending.returned (.int .i64 z)) HZZ.out)
          subst he
          have HPf := Lib.hid (HPr.out.keep hb)
          obtain ⟨gr, rfl, _, _, r2, r3, r4⟩ := row_cells (k := 0) HOR.out hb rfl
          obtain ⟨gr', e, _, _, s2, s3, s4⟩ := row_cells (k := 1) HOR.out hb rfl
          injection e with e
          injection e with e
          subst e
          replace r2 : wf.cell? ⟨gr, 2, none⟩ = some (.int .i64 1) := r2
          replace r3 : wf.cell? ⟨gr, 3, none⟩ = some (.int .i64 a1) := r3
          replace r4 : wf.cell? ⟨gr, 4, none⟩ = some (.int .i64 q1) := r4
          replace s2 : wf.cell? ⟨gr, 7, none⟩ = some (.int .i64 1) := s2
          replace s3 : wf.cell? ⟨gr, 8, none⟩ = some (.int .i64 a1) := s3
          replace s4 : wf.cell? ⟨gr, 9, none⟩ = some (.int .i64 q1) := s4
          clear hb cHZb cHZc
          go_wp2_with fail
          refine region_quiet_tail 53 (by kernel_rfl) (by kernel_rfl) ?_
          simp only [List.take_succ_cons, List.take_zero, List.drop_succ_cons, List.drop_zero]
          repeat (go_big_quiet_step (fail))
          refine wpQuiet_nil ?_
          change wpList _ _ _ _ _ wf.drew
          go_wp2_with fail
          refine (asked_true _ (HPf.out.pt.below (below_drew1 (Below.refl _ _)))).mono ?_
          rintro e wg ⟨rfl, hb⟩
          have HB := Lib.hid (bch HB0.out (bch (below_drew1 HPf.out.below) hb HPf.out.below.size) HB0.out.size)
          clear hb
          go_wp2_with fail
          go_ret
          exact ⟨rfl, HB.out⟩
        · obtain ⟨o0, o1, o2, o3, o4⟩ := cell5 (heap_keep HO0.out HP1.out.below)
          go_wp2_with fail
          refine (HM1.out _ HP1.out.pt).mono ?_
          rintro e wma ⟨rfl, hb⟩
          have HPm := Lib.hid (HP1.out.keep hb)
          clear hb o0 o1 o2 o3 o4
          go_wp2_with fail
          refine (HPm.out.told (by omega) i 2 s q a hs HY1.out rfl).mono ?_
          rintro e wda ⟨rfl, hp, ht⟩
          have hzlta := hp.pa.lt
          have HZa := Lib.hid (heap_new wda (.cells #[.int .i64 3, .int .i64 i, .int .i64 2, .string ⟨#[]⟩, .int .i64 0, .int .i64 0, .int .i64 2] tMsg))
          have HP2 := Lib.hid (hp.keep (below_alloc wda (.cells #[.int .i64 3, .int .i64 i, .int .i64 2, .string ⟨#[]⟩, .int .i64 0, .int .i64 0, .int .i64 2] tMsg)))
          clear hp ht HPm
          obtain ⟨o0, o1, o2, o3, o4⟩ := cell5 (heap_keep HO0.out HP2.out.below)
          obtain ⟨_, _, _, _, _, _, cHZa⟩ := cell7 HZa.out
          go_wp2_with fail
          clear cHZa
          refine (HM2.out _ HP2.out.pt).mono ?_
          rintro e wmb ⟨rfl, hb⟩
          have HPm := Lib.hid (HP2.out.keep hb)
          replace HZa := Lib.hid (heap_keep HZa.out hb)
          clear hb o0 o1 o2 o3 o4
          go_wp2_with fail
          refine (HPm.out.told (by omega) i 5 s q a hs HY2.out HY3.out).mono ?_
          rintro e wdb ⟨rfl, hp, ht⟩
          have hzltb := hp.pa.lt
          replace HZa := Lib.hid ((ht.block _ (heap_lt HZa.out) (by omega)).trans HZa.out)
          replace HZa := Lib.hid (heap_keep HZa.out (below_alloc wdb (.cells #[.int .i64 3, .int .i64 i, .int .i64 5, .string ⟨#[]⟩, .int .i64 0, .int .i64 0, .int .i64 1] tMsg)))
          have HZb := Lib.hid (heap_new wdb (.cells #[.int .i64 3, .int .i64 i, .int .i64 5, .string ⟨#[]⟩, .int .i64 0, .int .i64 0, .int .i64 1] tMsg))
          have HP3 := Lib.hid (hp.keep (below_alloc wdb (.cells #[.int .i64 3, .int .i64 i, .int .i64 5, .string ⟨#[]⟩, .int .i64 0, .int .i64 0, .int .i64 1] tMsg)))
          clear hp ht HPm
          obtain ⟨o0, o1, o2, o3, o4⟩ := cell5 (heap_keep HO0.out HP3.out.below)
          go_wp2_with fail
          refine (HM1.out _ HP3.out.pt).mono ?_
          rintro e wmc ⟨rfl, hb⟩
          have HPm := Lib.hid (HP3.out.keep hb)
          replace HZb := Lib.hid (heap_keep HZb.out hb)
          clear hb o0 o1 o2 o3 o4
          go_wp2_with fail
          refine (HPm.out.told (by omega) i 2 s q a hs HAG2.out.2 HAG2.out.1).mono ?_
          rintro e wdc ⟨rfl, hp, ht⟩
          have hzltc := hp.pa.lt
          replace HZb := Lib.hid ((ht.block _ (heap_lt HZb.out) (by omega)).trans HZb.out)
          replace HZb := Lib.hid (heap_keep HZb.out (below_alloc wdc (.cells #[.int .i64 3, .int .i64 i, .int .i64 2, .string ⟨#[]⟩, .int .i64 0, .int .i64 0, .int .i64 2] tMsg)))
          have HZc := Lib.hid (heap_new wdc (.cells #[.int .i64 3, .int .i64 i, .int .i64 2, .string ⟨#[]⟩, .int .i64 0, .int .i64 0, .int .i64 2] tMsg))
          have HP4 := Lib.hid (hp.keep (below_alloc wdc (.cells #[.int .i64 3, .int .i64 i, .int .i64 2, .string ⟨#[]⟩, .int .i64 0, .int .i64 0, .int .i64 2] tMsg)))
          clear hp ht HPm
          obtain ⟨o0, o1, o2, o3, o4⟩ := cell5 (heap_keep HO0.out HP4.out.below)
          go_wp2_with fail
          refine (HP4.out.rows (by omega)).mono ?_
          rintro e we ⟨vr, rfl, ho, hb⟩
          obtain ⟨Ar, cr, rfl, _⟩ := own_slice ho
          have HPr := Lib.hid (HP4.out.keep hb)
          replace HZb := Lib.hid (heap_keep HZb.out hb)
          obtain ⟨_, _, _, _, _, _, cHZb⟩ := cell7 HZb.out
          replace HZc := Lib.hid (heap_keep HZc.out hb)
          obtain ⟨_, _, _, _, _, _, cHZc⟩ := cell7 HZc.out
          have HOR := Lib.hid ho
          clear ho hb o0 o1 o2 o3 o4
          go_wp2_with fail
          refine (HPr.out.left ⟨#[110, 117, 116]⟩ (by decide)).mono ?_
          rintro e wf ⟨he, hb⟩
          replace he := he.trans (congrArg (fun z => Ending.returned (.int .i64 z)) HZZ.out)
          subst he
          have HPf := Lib.hid (HPr.out.keep hb)
          obtain ⟨gr, rfl, _, _, r2, r3, r4⟩ := row_cells (k := 0) HOR.out hb rfl
          obtain ⟨gr', e, _, _, s2, s3, s4⟩ := row_cells (k := 1) HOR.out hb rfl
          injection e with e
          injection e with e
          subst e
          replace r2 : wf.cell? ⟨gr, 2, none⟩ = some (.int .i64 2) := r2
          replace r3 : wf.cell? ⟨gr, 3, none⟩ = some (.int .i64 a1) := r3
          replace r4 : wf.cell? ⟨gr, 4, none⟩ = some (.int .i64 q1) := r4
          replace s2 : wf.cell? ⟨gr, 7, none⟩ = some (.int .i64 1) := s2
          replace s3 : wf.cell? ⟨gr, 8, none⟩ = some (.int .i64 a1) := s3
          replace s4 : wf.cell? ⟨gr, 9, none⟩ = some (.int .i64 q1) := s4
          clear hb cHZb cHZc
          go_wp2_with fail
          refine region_quiet_tail 53 (by kernel_rfl) (by kernel_rfl) ?_
          simp only [List.take_succ_cons, List.take_zero, List.drop_succ_cons, List.drop_zero]
          repeat (go_big_quiet_step (fail))
          refine wpQuiet_nil ?_
          change wpList _ _ _ _ _ wf.drew
          go_wp2_with fail
          refine (asked_true _ (HPf.out.pt.below (below_drew1 (Below.refl _ _)))).mono ?_
          rintro e wg ⟨rfl, hb⟩
          have HB := Lib.hid (bch HB0.out (bch (below_drew1 HPf.out.below) hb HPf.out.below.size) HB0.out.size)
          clear hb
          go_wp2_with fail
          go_ret
          exact ⟨rfl, HB.out⟩
  · refine (new_no _ kind stock limit hk).mono ?_
    rintro e w1 ⟨rfl, hw⟩; subst hw
    go_wp2_with fail
    refine (asked_true _ (HT.out.below HB0.out)).mono ?_
    rintro e w2 ⟨rfl, hb⟩
    have HB := Lib.hid (bch HB0.out hb HB0.out.size)
    clear hb
    go_wp2_with fail
    go_ret
    exact ⟨rfl, HB.out⟩
end Go.Proofs.YtkmpagijdhhinaaDoor

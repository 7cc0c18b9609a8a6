/- The frame that the door laws over money's texts share: what 'laid' gives, the witness' world. -/
import Derived.Test.YtgpjbigelblanaaGreatDoorMoneyText
import Derived.Deep.DeepHandedRow
import Derived.Lib.LaidTab
import Derived.Stop.LaidErr
import Derived.Test.YtgpjbigelblanaaGreatDoorManifestGen
import Derived.Test.YtgpjbigelblanaaGreatDoorManifestCame
import Derived.Test.YtgpjbigelblanaaGreatDoorManifestRefParse
import Derived.Test.YtgpjbigelblanaaGreatDoorCards
import Derived.Test.YtgpjbigelblanaaGreatDoorTie
import Derived.WalkKit
import Derived.ProofKit
import Derived.OpenShut
import Derived.ShutString
import Derived.ChangeOld
namespace Go.Proofs.YtgpjbigelblanaaGreatDoor
open Go.ChangeShapes Go.WideShapes Go.ChangeAt

theorem doorOwn : ownKnob Tryz.prog.godebug = none := by kernel_rfl
theorem doorLaidOut : laidOutB Tryz.prog = true := by kernel_rfl

theorem gSyn : Tryz.prog.globalNamed "strconv.ErrSyntax" = some 5 := by kernel_rfl
theorem gRng : Tryz.prog.globalNamed "strconv.ErrRange" = some 6 := by kernel_rfl
theorem gTab : Tryz.prog.globalNamed "internal/strconv.uint64pow10" = some 4 := by kernel_rfl
theorem gSynT : (Tryz.prog.globals[5]?).map (·.type) = some 91 := by kernel_rfl
theorem gRngT : (Tryz.prog.globals[6]?).map (·.type) = some 91 := by kernel_rfl
theorem cellsErr : Tryz.prog.cellsOf 175 = 1 := by kernel_rfl
theorem cellsStr : Tryz.prog.cellsOf 9 = 1 := by kernel_rfl
theorem starErr : "*" ++ "errors.errorString" = "*errors.errorString" := by decide
theorem rowErr (u : TypeId) (h : Tryz.prog.typeName? 3 u = some "*errors.errorString") : u = 173 :=
  typeName_ptr_named (nm := "errors.errorString") (by rw [starErr]; kernel_rfl) (by kernel_rfl) (by decide) u (by rw [starErr]; exact h)

abbrev synText : List UInt8 := [105, 110, 118, 97, 108, 105, 100, 32, 115, 121, 110, 116, 97, 120]
abbrev rngText : List UInt8 := [118, 97, 108, 117, 101, 32, 111, 117, 116, 32, 111, 102, 32, 114, 97, 110, 103, 101]

theorem mw_of {r : List (String × DataW Unit)} {d1 d2 : String × DataW Unit} {W : World}
    (h : laidMet Tryz.prog (d1 :: d2 :: ("internal/strconv.uint64pow10", Lib.tabData .u64 Lib.pow10Tab) :: ("strconv.ErrRange", .iface "*errors.errorString" (.ptr (.agg [.lit (.string rngText)]))) :: ("strconv.ErrSyntax", .iface "*errors.errorString" (.ptr (.agg [.lit (.string synText)]))) :: r) W) : MW W := by
  obtain ⟨a0, _, hv0, -, -, -⟩ := laid_sentinel h.tail.tail.tail gRng gRngT Tryz.underlying91 rowErr Tryz.underlying173 Tryz.underlying175 rfl rfl Tryz.underlying9 cellsErr cellsStr
  obtain ⟨a1, _, hv1, -, -, -⟩ := laid_sentinel h.tail.tail.tail.tail gSyn gSynT Tryz.underlying91 rowErr Tryz.underlying173 Tryz.underlying175 rfl rfl Tryz.underlying9 cellsErr cellsStr
  exact ⟨Lib.tabIs_of_head gTab (by kernel_rfl) Tryz.underlying155 Tryz.underlying118 (by kernel_rfl) (by kernel_rfl) h.tail.tail, ⟨_, _, hv1⟩, ⟨_, _, hv0⟩⟩

def doorObj (cs : Array Value) : Obj → Obj
  | .cells _ t frozen => .cells cs t frozen
  | o => o
def tabV (k : IntKind) (zs : List Int) : Array Value := (zs.map fun z => Value.int k z).toArray
/-- So many blocks has the settled world. -/
noncomputable def doorLow : Nat := (World.holding Tryz.prog default ⟨#[], #[], []⟩).heap.size
/-- A WORLD FOR THE WITNESS: the settled one, two sentinels more, the tables as their initialisers lay them. -/
noncomputable def doorWorld (os : Os) : World :=
  { World.holding Tryz.prog os ⟨#[.cells #[.string ⟨synText.toArray⟩] 175, .cells #[.string ⟨rngText.toArray⟩] 175], #[], []⟩ with
    heap := ((((World.holding Tryz.prog os ⟨#[.cells #[.string ⟨synText.toArray⟩] 175, .cells #[.string ⟨rngText.toArray⟩] 175], #[], []⟩).heap.modify 5 (doorObj #[.iface 173 (.pointer (some ⟨doorLow, 0, none⟩))])).modify 6 (doorObj #[.iface 173 (.pointer (some ⟨doorLow + 1, 0, none⟩))])).modify 4 (doorObj (tabV .u64 [1, 10, 100, 1000, 10000, 100000, 1000000, 10000000, 100000000, 1000000000, 10000000000, 100000000000, 1000000000000, 10000000000000, 100000000000000, 1000000000000000, 10000000000000000, 100000000000000000, 1000000000000000000, 10000000000000000000]))).modify 9 (doorObj (tabV .u8 [0, 1, 28, 2, 29, 14, 24, 3, 30, 22, 20, 15, 25, 17, 4, 8, 31, 27, 13, 23, 21, 19, 16, 7, 26, 12, 18, 6, 11, 5, 10, 9])) |>.modify 10 (doorObj (tabV .u8 [0, 1, 56, 2, 57, 49, 28, 3, 61, 58, 42, 50, 38, 29, 17, 4, 62, 47, 59, 36, 45, 43, 51, 22, 53, 39, 33, 30, 24, 18, 12, 5, 63, 55, 48, 27, 60, 41, 37, 16, 46, 35, 44, 21, 52, 32, 23, 11, 54, 26, 40, 15, 34, 20, 31, 10, 25, 14, 19, 9, 13, 8, 7, 6])) }
end Go.Proofs.YtgpjbigelblanaaGreatDoor
namespace Go.Proofs.YtgpjbigelblanaaGreatDoor
open Go.ChangeShapes Go.WideShapes Go.ChangeAt

theorem gPartiesM : Tryz.prog.globalNamed "consignor/keys.parties" = some 2 := by kernel_rfl
theorem mf_of {r : List (String × DataW Unit)} {d1 d2 d3 : String × DataW Unit} {W : World} (hS : W.ShapedOpen Tryz.prog)
    (h : laidMet Tryz.prog (d1 :: d2 :: ("internal/strconv.uint64pow10", Lib.tabData .u64 Lib.pow10Tab) :: d3 :: ("strconv.ErrRange", .iface "*errors.errorString" (.ptr (.agg [.lit (.string rngText)]))) :: ("strconv.ErrSyntax", .iface "*errors.errorString" (.ptr (.agg [.lit (.string synText)]))) :: ("consignor/keys.parties", Lib.tabData .i64 [1, 0, 2, 1, 0, 2]) :: r) W) : MfW W := by
  obtain ⟨a0, _, hv0, -, -, -⟩ := laid_sentinel h.tail.tail.tail.tail gRng gRngT Tryz.underlying91 rowErr Tryz.underlying173 Tryz.underlying175 rfl rfl Tryz.underlying9 cellsErr cellsStr
  obtain ⟨a1, _, hv1, -, -, -⟩ := laid_sentinel h.tail.tail.tail.tail.tail gSyn gSynT Tryz.underlying91 rowErr Tryz.underlying173 Tryz.underlying175 rfl rfl Tryz.underlying9 cellsErr cellsStr
  refine ⟨⟨Lib.tabIs_of_head gTab (by kernel_rfl) Tryz.underlying155 Tryz.underlying118 (by kernel_rfl) (by kernel_rfl) h.tail.tail, ⟨_, _, hv1⟩, ⟨_, _, hv0⟩⟩, Lib.tabIs_of_head gPartiesM (by kernel_rfl) Tryz.underlying122 Tryz.underlying3 (by kernel_rfl) (by kernel_rfl) h.tail.tail.tail.tail.tail.tail, ?_⟩
  obtain ⟨m, hm⟩ := Go.Proofs.cell_of_shapedOpen_int (zero := #[.int .i64 0]) (t := 3) (g := 3) hS (of_decide_eq_true (by kernel_rfl)) (by kernel_rfl) rfl (by kernel_rfl) (by kernel_rfl) Tryz.underlying3
  exact ⟨m, hm, World.block_lt_of_cell? W _ hm⟩

def tabCells : Array Value := (Go.Pinned.utf8FirstZ.map fun (n : Nat) => Value.int .u8 (Int.ofNat n)).toArray
def rangeCells : Array Value := #[.int .u8 128, .int .u8 191, .int .u8 160, .int .u8 191, .int .u8 128, .int .u8 159, .int .u8 144, .int .u8 191, .int .u8 128, .int .u8 143, .int .u8 0, .int .u8 0, .int .u8 0, .int .u8 0, .int .u8 0, .int .u8 0, .int .u8 0, .int .u8 0, .int .u8 0, .int .u8 0, .int .u8 0, .int .u8 0, .int .u8 0, .int .u8 0, .int .u8 0, .int .u8 0, .int .u8 0, .int .u8 0, .int .u8 0, .int .u8 0, .int .u8 0, .int .u8 0]
/-- A WORLD FOR THE WITNESS: the one with two sentinels, and three tables more. -/
noncomputable def mfWorld (os : Os) : World :=
  { doorWorld os with heap := (((doorWorld os).heap.modify 2 (doorObj (tabV .i64 [1, 0, 2, 1, 0, 2]))).modify 8 (doorObj rangeCells)).modify 7 (doorObj tabCells) }
end Go.Proofs.YtgpjbigelblanaaGreatDoor
/- ManifestParse: for every text the law answers true. -/
namespace Go.Proofs.YtgpjbigelblanaaGreatDoor
open Go.RowKit Go.Maps Key Mon Mf Rw

theorem mrefParse_is (s : ByteArray) (t : List UInt8) (ht : s.data.toList = t) (hs : s.size ≤ 65536) (p q : Int) (l : List R5) (a b c : Nat) (ai bi ci : Int) (w : World) (h : parseS t = ((p, q, l), a, b, c)) (ha : ai = a) (hb : bi = b) (hc : ci = c) :
    Calls Tryz.prog 23 #[.string s] w fun e w' => (∃ v, e = .returned (.tuple #[.agg #[.int .i64 p, .int .i64 q, v], .agg #[.int .i64 ai, .int .i64 bi, .int .i64 ci]]) ∧ Rd w' v l) ∧ Below w.heap.size w w' :=
  (mrefParse_any s w hs).mono fun e w' h2 => by
    obtain ⟨⟨v, he, hr⟩, hbl⟩ := h2
    rw [ht, h] at he hr
    exact ⟨⟨v, by rw [he, ha, hb, hc]; rfl, hr⟩, hbl⟩
set_option linter.unusedSimpArgs false in
set_option linter.unusedVariables false in
set_option maxRecDepth 100000 in
set_option maxHeartbeats 4000000 in
theorem lawManifestParse_walk (s : ByteArray) (w : World) (hS : MfW w) : Calls Tryz.prog 7 #[.string s] w fun e w' => e = .returned (.bool true) ∧ Below w.heap.size w w' := by
  have HS := Lib.hid hS
  have HST := Lib.hid (fun W (hb : Below w.heap.size w W) => carried_any W (hS.below hb))
  clear hS
  by_cases hl : (3000 : Int) < (s.size : Int)
  · go_enter Tryz.func7, Tryz.ntmps7
    go_wp2_with fail
    refine (HST.out _ (Below.refl _ _)).mono ?_
    rintro e w1 ⟨rfl, hb⟩
    have HB := Lib.hid hb
    clear hb
    go_wp2_with fail
    go_ret
    exact ⟨rfl, HB.out⟩
  · obtain ⟨p, q, l, a, b, c, hp, hll⟩ : ∃ p q l a b c, parseS s.data.toList = ((p, q, l), a, b, c) ∧ l.length < 100000 := by
      rcases Mf.parse_text s.data.toList with ⟨a, b, c, hp, _⟩ | ⟨q, l, hp, hv⟩
      · exact ⟨_, _, _, _, _, _, hp, by simp⟩
      · exact ⟨_, _, _, _, _, _, hp, by have := (valid_parts hv).2.2.1; omega⟩
    obtain ⟨ai, hai⟩ : ∃ ai : Int, ai = a := ⟨_, rfl⟩
    obtain ⟨bi, hbi⟩ : ∃ bi : Int, bi = b := ⟨_, rfl⟩
    obtain ⟨ci, hci⟩ : ∃ ci : Int, ci = c := ⟨_, rfl⟩
    have HP := Lib.hid (mparse_is s _ rfl p q l a b c ai bi ci w hp hai hbi hci HS.out)
    have HQ := Lib.hid (fun W => mrefParse_is s _ rfl (by omega) p q l a b c ai bi ci W hp hai hbi hci)
    clear hp hai hbi hci
    have q1 := beqT (rfl : ai = ai)
    have q2 := beqT (rfl : bi = bi)
    have q3 := beqT (rfl : ci = ci)
    go_enter Tryz.func7, Tryz.ntmps7
    go_wp2_with fail
    refine HP.out.mono ?_
    rintro e w1 ⟨⟨v, rfl, hr⟩, hb1⟩
    obtain ⟨A, cc, rfl, _⟩ := hr.shape
    go_upto_region 4 with (fail)
    obtain ⟨w2, hw2⟩ : ∃ w2, w2 = (w1.alloc (.cells #[.int .i64 p, .int .i64 q, .slice A l.length cc] tStat)).alloc (.cells #[.int .i64 ai, .int .i64 bi, .int .i64 ci] tRej) := ⟨_, rfl⟩
    rw [← hw2]
    have h2 := two_kept w w1 _ _ hb1 hw2.symm
    have HB2 := Lib.hid h2.1; have HX := Lib.hid h2.2.1; have HY := Lib.hid h2.2.2.1; have HR := Lib.hid (hr.keep h2.2.2.2)
    clear hw2 h2 hb1 hr HP
    generalize w1.heap.size = b1 at HX HY ⊢
    go_wp2_with fail
    refine (HQ.out _).mono ?_
    rintro e w3 ⟨⟨v, rfl, hr⟩, hb3⟩
    obtain ⟨A', cc', rfl, _⟩ := hr.shape
    go_upto_region 5 with (fail)
    obtain ⟨w4, hw4⟩ : ∃ w4, w4 = (w3.alloc (.cells #[.int .i64 p, .int .i64 q, .slice A' l.length cc'] tStat)).alloc (.cells #[.int .i64 ai, .int .i64 bi, .int .i64 ci] tRej) := ⟨_, rfl⟩
    rw [← hw4]
    have h4 := two_kept w2 w3 _ _ hb3 hw4.symm
    have HB4 := Lib.hid (bch HB2.out h4.1 HB2.out.size); have HX4 := Lib.hid (heap_keep HX.out h4.1); have HY4 := Lib.hid (heap_keep HY.out h4.1); have HU4 := Lib.hid h4.2.1; have HV4 := Lib.hid h4.2.2.1; have HR4 := Lib.hid (HR.out.keep h4.1); have HQ4 := Lib.hid (hr.keep h4.2.2.2)
    clear hw4 h4 hb3 hr HQ HX HY HR
    generalize w3.heap.size = b3 at HU4 HV4 ⊢
    obtain ⟨m0, m1, m2⟩ := cell3c HX4.out
    obtain ⟨n0, n1, n2⟩ := cell3c HY4.out
    obtain ⟨x0, x1, x2⟩ := cell3c HU4.out
    obtain ⟨y0, y1, y2⟩ := cell3c HV4.out
    go_wp2_with fail
    refine (refSameT w4 (.slice A l.length cc) (.slice A' l.length cc') l p q HR4.out HQ4.out hll).mono ?_
    rintro e w5 ⟨rfl, hb5⟩
    have HB5 := Lib.hid (bch HB4.out hb5 HB4.out.size); have HY5 := Lib.hid (heap_keep HY4.out hb5); have HV5 := Lib.hid (heap_keep HV4.out hb5)
    clear hb5 m0 m1 m2 n0 n1 n2 x0 x1 x2 y0 y1 y2
    obtain ⟨n0, n1, n2⟩ := cell3c HY5.out
    obtain ⟨y0, y1, y2⟩ := cell3c HV5.out
    go_wp2_with fail
    refine (HST.out _ HB5.out).mono ?_
    rintro e w6 ⟨rfl, hb6⟩
    have HB6 := Lib.hid (bch HB5.out hb6 HB5.out.size)
    clear hb6
    go_wp2_with fail
    go_ret
    exact ⟨rfl, HB6.out⟩
end Go.Proofs.YtgpjbigelblanaaGreatDoor
/- consignorlaw15.ManifestParse: for every input the law answers true, and what it is handed reads as it did. (The tied card.) -/
namespace Go.Proofs.YtgpjbigelblanaaGreatDoor.manifestParse
open Go.ChangeShapes Go.WideShapes Go.ChangeAt Go.RowKit
open Go.ChangeMaps (open_string shut_string)
set_option linter.unusedVariables false

theorem laid_met (os : Os) : laidMet Tryz.prog Rows.manifestParseRow.laid ((mfWorld os).forCall (fun _ _ => 0) ⟨#[], #[.string ByteArray.empty], []⟩).memory :=
  laidMet_of_run' 8 (by kernel_rfl) (by kernel_rfl)
theorem reads (os : Os) {H : Type} (enc : TypeId × Value → H) : ∃ places, DataW.whole enc Tryz.prog ((mfWorld os).forCall (fun _ _ => 0) ⟨#[], #[.string ByteArray.empty], []⟩).memory Tryz.f7.params.toList Rows.manifestParseSpec.vars false #[Value.string ByteArray.empty].toList 8 = some ([.lit (.string [])], [], places) :=
  ⟨[], by kernel_rfl⟩

set_option maxRecDepth 100000 in
theorem lifted (os : Os) (started : os.Started) (H : Type) (enc : TypeId × Value → H) (F : Stop.Interp) :
    ReturnsInHanded {} Tryz.checked os 7 .any ((OpenSpec.ofChange Rows.manifestParseSpec).preRow enc Tryz.prog Tryz.f7 Rows.manifestParseRow.domain false Rows.manifestParseRow.laid) (((OpenSpec.ofChange Rows.manifestParseSpec).at F).post enc Tryz.prog Tryz.f7 false true false false) := by
  obtain ⟨places, hx⟩ := reads os enc
  refine returnsInHanded_of_row (C := Tryz.checked) (s := OpenSpec.ofChange Rows.manifestParseSpec) doorOwn started (by kernel_rfl) Tryz.func7
    (witness_row_at (enc := enc) (C := Tryz.checked) false (mfWorld os) #[.string ByteArray.empty] rfl (by kernel_rfl) (by kernel_rfl) (by kernel_rfl)
      (OpenSpec.preRow_of_cond 8 hx (by kernel_rfl) (fun k hk => by cases hk) (by kernel_rfl) (laid_met os))) ?_
  intro W base args ds gs before hval0 hW _ _ _ hL hS _
  have hval : ∀ (j : Nat) t v, Tryz.f7.params[j]? = some t → args[j]? = some v → Value.okWide Tryz.prog W .any base t v := hval0
  have hW' := hW
  obtain ⟨p, q, hA0, hV, rfl, hfz, hnd⟩ := hW
  have hA : DataW.TrodAll enc Tryz.prog W 0 (fun _ => true) true Tryz.f7.params.toList args.toList ds p := hA0
  rw [Tryz.params7] at hA hval
  obtain ⟨v0, vs0, d0, ds0, p0, q0, hargs0, rfl, rfl, h0, r0⟩ := trodAll_cons hA
  obtain ⟨rfl, rfl, rfl⟩ := trodAll_nil r0
  obtain rfl : args = #[v0] := by cases args; simp_all
  obtain ⟨rfl, rfl⟩ := trodVars_none hV
  have k0 := h0
  have lt0 : ∀ x ∈ p0, x.block < W.heap.size := by obtain ⟨m, hm⟩ := k0; exact DataW.trod_lt m _ _ _ hm
  obtain ⟨a0, rfl, rfl, rfl, w0⟩ := open_string Tryz.underlying9 (hval 0 9 v0 rfl rfl) h0
  clear hA0 hval0
  refine (lawManifestParse_walk a0 W (mf_of hS hL)).mono fun e W' ⟨he, bel⟩ => ?_
  subst he
  exact ⟨_, rfl, _, _, _, [], _, [], hW', trodAll_mk1 (shut_bool Tryz.underlying4 _), (trodAll_cons_mk (Below.trod doorLaidOut (by kernel_rfl) (of_decide_eq_true (by kernel_rfl)) k0 bel lt0) trodAll_mk0), rfl, bel.frame _, fun h => by cases h⟩

theorem said : Rows.ManifestParseSaid :=
  OpenClaim.holds_of_cond 7 Tryz.f7 rfl rfl rfl rfl rfl rfl rfl ⟨rfl, rfl, rfl, rfl, rfl⟩ rfl rfl rfl rfl rfl (by kernel_rfl) Tryz.func7 (by kernel_rfl)
    (of_decide_eq_true (by kernel_rfl)) (by unfold Func.isWrapper; first | (rw [if_pos (by decide +kernel)]; kernel_rfl) | (rw [if_neg (by decide +kernel)]; exact ⟨rfl, rfl⟩))
    (fun os started H enc _ F => by rw [OpenClaim.pre_eq_preRow]; exact lifted os started H enc F)

theorem plain (f : FuncId) (fn : Func) (hf : Tryz.pinned.checked.prog.funcNamed "consignor/consignorlaw15.ManifestParse" = some f) (hfn : Tryz.pinned.checked.prog.funcs[f]? = some fn) :
    true = Tryz.pinned.checked.prog.looks [] ∧ ∀ (j : Nat) t, fn.params[j]? = some t → Tryz.pinned.checked.prog.wantsStandIn t = false := by
  obtain rfl : f = 7 := Option.some.inj ((show Tryz.prog.funcNamed "consignor/consignorlaw15.ManifestParse" = some 7 by kernel_rfl).symm.trans hf) |>.symm
  obtain rfl : fn = Tryz.f7 := (Option.some.inj (Tryz.func7.symm.trans hfn)).symm
  refine ⟨by kernel_rfl, fun j t ht => ?_⟩
  rw [Tryz.params7] at ht
  have hm : t = 9 := by simpa using Array.mem_of_getElem? ht
  subst hm
  exact (show Tryz.prog.wantsStandIn 9 = false by kernel_rfl)

theorem card : Rows.ManifestParseCardSaid :=
  Claim7.holds_tied_plain_at .later [] _ _ _ _ said (fun _ h => by cases h) (by kernel_rfl) (fun _ h => by cases h) manifestParse_row_tie rfl ⟨rfl, rfl⟩ (by kernel_rfl) rfl plain (by kernel_rfl)
end Go.Proofs.YtgpjbigelblanaaGreatDoor.manifestParse

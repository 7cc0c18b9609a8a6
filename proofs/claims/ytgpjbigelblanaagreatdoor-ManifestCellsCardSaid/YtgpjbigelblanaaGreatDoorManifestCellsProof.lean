/- The frame that the door laws over money's texts share: what 'laid' gives, the witness' world. -/
import Derived.Test.YtgpjbigelblanaaGreatDoorMoneyText
import Derived.Deep.DeepHandedRow
import Derived.Lib.LaidTab
import Derived.Stop.LaidErr
import Derived.Test.YtgpjbigelblanaaGreatDoorManifestGen
import Derived.Test.YtgpjbigelblanaaGreatDoorOpenS
import Derived.Test.YtgpjbigelblanaaGreatDoorRowMem
import Derived.Test.YtgpjbigelblanaaGreatDoorManifestLawCells
import Derived.Test.YtgpjbigelblanaaGreatDoorCards
import Derived.Test.YtgpjbigelblanaaGreatDoorTie
import Derived.WalkKit
import Derived.ProofKit
import Derived.OpenShut
import Derived.ShutString
import Derived.ChangeOld
namespace Go.Proofs.YtgpjbigelblanaaGreatDoor
open Go.ChangeShapes Go.WideShapes Go.ChangeAt

theorem doorOwn : ownKnob Tryz.prog.godebug = none := by kernel_rfl
theorem doorLaidOut : laidOutB Tryz.prog = true := by kernel_rfl

theorem gSyn : Tryz.prog.globalNamed "strconv.ErrSyntax" = some 5 := by kernel_rfl
theorem gRng : Tryz.prog.globalNamed "strconv.ErrRange" = some 6 := by kernel_rfl
theorem gTab : Tryz.prog.globalNamed "internal/strconv.uint64pow10" = some 4 := by kernel_rfl
theorem gSynT : (Tryz.prog.globals[5]?).map (·.type) = some 91 := by kernel_rfl
theorem gRngT : (Tryz.prog.globals[6]?).map (·.type) = some 91 := by kernel_rfl
theorem cellsErr : Tryz.prog.cellsOf 175 = 1 := by kernel_rfl
theorem cellsStr : Tryz.prog.cellsOf 9 = 1 := by kernel_rfl
theorem starErr : "*" ++ "errors.errorString" = "*errors.errorString" := by decide
theorem rowErr (u : TypeId) (h : Tryz.prog.typeName? 3 u = some "*errors.errorString") : u = 173 :=
  typeName_ptr_named (nm := "errors.errorString") (by rw [starErr]; kernel_rfl) (by kernel_rfl) (by decide) u (by rw [starErr]; exact h)

abbrev synText : List UInt8 := [105, 110, 118, 97, 108, 105, 100, 32, 115, 121, 110, 116, 97, 120]
abbrev rngText : List UInt8 := [118, 97, 108, 117, 101, 32, 111, 117, 116, 32, 111, 102, 32, 114, 97, 110, 103, 101]

theorem mw_of {r : List (String × DataW Unit)} {d1 d2 : String × DataW Unit} {W : World}
    (h : laidMet Tryz.prog (d1 :: d2 :: ("internal/strconv.uint64pow10", Lib.tabData .u64 Lib.pow10Tab) :: ("strconv.ErrRange", .iface "*errors.errorString" (.ptr (.agg [.lit (.string rngText)]))) :: ("strconv.ErrSyntax", .iface "*errors.errorString" (.ptr (.agg [.lit (.string synText)]))) :: r) W) : MW W := by
  obtain ⟨a0, _, hv0, -, -, -⟩ := laid_sentinel h.tail.tail.tail gRng gRngT Tryz.underlying91 rowErr Tryz.underlying173 Tryz.underlying175 rfl rfl Tryz.underlying9 cellsErr cellsStr
  obtain ⟨a1, _, hv1, -, -, -⟩ := laid_sentinel h.tail.tail.tail.tail gSyn gSynT Tryz.underlying91 rowErr Tryz.underlying173 Tryz.underlying175 rfl rfl Tryz.underlying9 cellsErr cellsStr
  exact ⟨Lib.tabIs_of_head gTab (by kernel_rfl) Tryz.underlying155 Tryz.underlying118 (by kernel_rfl) (by kernel_rfl) h.tail.tail, ⟨_, _, hv1⟩, ⟨_, _, hv0⟩⟩

def doorObj (cs : Array Value) : Obj → Obj
  | .cells _ t frozen => .cells cs t frozen
  | o => o
def tabV (k : IntKind) (zs : List Int) : Array Value := (zs.map fun z => Value.int k z).toArray
/-- So many blocks has the settled world. -/
noncomputable def doorLow : Nat := (World.holding Tryz.prog default ⟨#[], #[], []⟩).heap.size
/-- A WORLD FOR THE WITNESS: the settled one, two sentinels more, the tables as their initialisers lay them. -/
noncomputable def doorWorld (os : Os) : World :=
  { World.holding Tryz.prog os ⟨#[.cells #[.string ⟨synText.toArray⟩] 175, .cells #[.string ⟨rngText.toArray⟩] 175], #[], []⟩ with
    heap := ((((World.holding Tryz.prog os ⟨#[.cells #[.string ⟨synText.toArray⟩] 175, .cells #[.string ⟨rngText.toArray⟩] 175], #[], []⟩).heap.modify 5 (doorObj #[.iface 173 (.pointer (some ⟨doorLow, 0, none⟩))])).modify 6 (doorObj #[.iface 173 (.pointer (some ⟨doorLow + 1, 0, none⟩))])).modify 4 (doorObj (tabV .u64 [1, 10, 100, 1000, 10000, 100000, 1000000, 10000000, 100000000, 1000000000, 10000000000, 100000000000, 1000000000000, 10000000000000, 100000000000000, 1000000000000000, 10000000000000000, 100000000000000000, 1000000000000000000, 10000000000000000000]))).modify 9 (doorObj (tabV .u8 [0, 1, 28, 2, 29, 14, 24, 3, 30, 22, 20, 15, 25, 17, 4, 8, 31, 27, 13, 23, 21, 19, 16, 7, 26, 12, 18, 6, 11, 5, 10, 9])) |>.modify 10 (doorObj (tabV .u8 [0, 1, 56, 2, 57, 49, 28, 3, 61, 58, 42, 50, 38, 29, 17, 4, 62, 47, 59, 36, 45, 43, 51, 22, 53, 39, 33, 30, 24, 18, 12, 5, 63, 55, 48, 27, 60, 41, 37, 16, 46, 35, 44, 21, 52, 32, 23, 11, 54, 26, 40, 15, 34, 20, 31, 10, 25, 14, 19, 9, 13, 8, 7, 6])) }
end Go.Proofs.YtgpjbigelblanaaGreatDoor
namespace Go.Proofs.YtgpjbigelblanaaGreatDoor
open Go.ChangeShapes Go.WideShapes Go.ChangeAt

theorem gPartiesM : Tryz.prog.globalNamed "consignor/keys.parties" = some 2 := by kernel_rfl
theorem mf_of {r : List (String × DataW Unit)} {d1 d2 d3 : String × DataW Unit} {W : World} (hS : W.ShapedOpen Tryz.prog)
    (h : laidMet Tryz.prog (d1 :: d2 :: ("internal/strconv.uint64pow10", Lib.tabData .u64 Lib.pow10Tab) :: d3 :: ("strconv.ErrRange", .iface "*errors.errorString" (.ptr (.agg [.lit (.string rngText)]))) :: ("strconv.ErrSyntax", .iface "*errors.errorString" (.ptr (.agg [.lit (.string synText)]))) :: ("consignor/keys.parties", Lib.tabData .i64 [1, 0, 2, 1, 0, 2]) :: r) W) : MfW W := by
  obtain ⟨a0, _, hv0, -, -, -⟩ := laid_sentinel h.tail.tail.tail.tail gRng gRngT Tryz.underlying91 rowErr Tryz.underlying173 Tryz.underlying175 rfl rfl Tryz.underlying9 cellsErr cellsStr
  obtain ⟨a1, _, hv1, -, -, -⟩ := laid_sentinel h.tail.tail.tail.tail.tail gSyn gSynT Tryz.underlying91 rowErr Tryz.underlying173 Tryz.underlying175 rfl rfl Tryz.underlying9 cellsErr cellsStr
  refine ⟨⟨Lib.tabIs_of_head gTab (by kernel_rfl) Tryz.underlying155 Tryz.underlying118 (by kernel_rfl) (by kernel_rfl) h.tail.tail, ⟨_, _, hv1⟩, ⟨_, _, hv0⟩⟩, Lib.tabIs_of_head gPartiesM (by kernel_rfl) Tryz.underlying122 Tryz.underlying3 (by kernel_rfl) (by kernel_rfl) h.tail.tail.tail.tail.tail.tail, ?_⟩
  obtain ⟨m, hm⟩ := Go.Proofs.cell_of_shapedOpen_int (zero := #[.int .i64 0]) (t := 3) (g := 3) hS (of_decide_eq_true (by kernel_rfl)) (by kernel_rfl) rfl (by kernel_rfl) (by kernel_rfl) Tryz.underlying3
  exact ⟨m, hm, World.block_lt_of_cell? W _ hm⟩

def tabCells : Array Value := (Go.Pinned.utf8FirstZ.map fun (n : Nat) => Value.int .u8 (Int.ofNat n)).toArray
def rangeCells : Array Value := #[.int .u8 128, .int .u8 191, .int .u8 160, .int .u8 191, .int .u8 128, .int .u8 159, .int .u8 144, .int .u8 191, .int .u8 128, .int .u8 143, .int .u8 0, .int .u8 0, .int .u8 0, .int .u8 0, .int .u8 0, .int .u8 0, .int .u8 0, .int .u8 0, .int .u8 0, .int .u8 0, .int .u8 0, .int .u8 0, .int .u8 0, .int .u8 0, .int .u8 0, .int .u8 0, .int .u8 0, .int .u8 0, .int .u8 0, .int .u8 0, .int .u8 0, .int .u8 0]
/-- A WORLD FOR THE WITNESS: the one with two sentinels, and three tables more. -/
noncomputable def mfWorld (os : Os) : World :=
  { doorWorld os with heap := (((doorWorld os).heap.modify 2 (doorObj (tabV .i64 [1, 0, 2, 1, 0, 2]))).modify 8 (doorObj rangeCells)).modify 7 (doorObj tabCells) }
end Go.Proofs.YtgpjbigelblanaaGreatDoor
/- Arguments that are keys, or bytes. -/
namespace Go.Proofs.YtgpjbigelblanaaGreatDoor
open Go.RowKit Go.ChangeShapes Go.WideShapes Go.Deep Go.Joins

section
variable {H : Type} {enc : TypeId × Value → H}
theorem wf64 {a : Int} (h : (Lit.int .i64 a).wf = true) : -9223372036854775808 ≤ a ∧ a ≤ 9223372036854775807 := by simpa [Lit.wf, IntKind.min, IntKind.max, IntKind.signed, IntKind.bits] using h
theorem wfu8 {a : Int} (h : (Lit.int .u8 a).wf = true) : 0 ≤ a ∧ a ≤ 255 := by simpa [Lit.wf, IntKind.min, IntKind.max, IntKind.signed, IntKind.bits] using h
def IsKey (cs : List Value) (x : Int × Int) : Prop := cs = [.int .i64 x.1, .int .i64 x.2] ∧ (-9223372036854775808 ≤ x.1 ∧ x.1 ≤ 9223372036854775807) ∧ (-9223372036854775808 ≤ x.2 ∧ x.2 ≤ 9223372036854775807)
def IsByte (cs : List Value) (x : Int) : Prop := cs = [.int .u8 x] ∧ 0 ≤ x ∧ x ≤ 255
theorem opens_key : Opens enc Tryz.prog 48 (Int × Int) fun _ _ cs x => IsKey cs x :=
  (opens_struct Tryz.underlying48 (k := 2) (by kernel_rfl) (opens_cons (k := 1) (by kernel_rfl) (opens_int Tryz.underlying3) (opens_cons (k := 1) (by kernel_rfl) (opens_int Tryz.underlying3) opens_nil))).imp fun _ _ cs a h => by
    obtain ⟨hl, h0, h1, _⟩ := h
    obtain ⟨x0, x1, rfl⟩ := list2 hl
    simp only [List.drop_zero, List.take_succ_cons, List.take_zero, List.drop_succ_cons, List.cons.injEq, and_true] at h0 h1
    exact ⟨(a.1, a.2.1), by rw [h0.1, h1.1], wf64 h0.2, wf64 h1.2⟩
theorem opens_byte : Opens enc Tryz.prog 5 Int fun _ _ cs x => IsByte cs x :=
  (opens_int Tryz.underlying5).imp fun _ _ _ a h => ⟨a, h.1, wfu8 h.2⟩
end
end Go.Proofs.YtgpjbigelblanaaGreatDoor
namespace Go.Proofs.YtgpjbigelblanaaGreatDoor
open Go.RowKit Go.ChangeShapes Go.WideShapes Go.Deep Go.Joins

section
variable {H : Type} {enc : TypeId × Value → H} {P : Program}
/-- A slice, and that it has no room where it is nil. -/
theorem opens_sliceN {t e : TypeId} {α : Type} {R : World → Nat → List Value → α → Prop} {k : Nat} (ht : P.underlying t = some (.slice e)) (hk : P.cellsOf e = k) (h0 : 0 < k) (h : Opens enc P e α R) :
    Opens enc P t (List α) fun w B cs L => ∃ v, cs = [v] ∧ SlK w B k (R w B) v L ∧ NilOk v := fun w n cs x B hx hB => by
  obtain ⟨L, v, e1, h1⟩ := opens_slice ht hk h0 h w n cs x B hx hB
  refine ⟨L, v, e1, h1, fun m c e2 => ?_⟩
  rcases open_slice ht hx with ⟨e3, _⟩ | ⟨a, len, cap, m', n', D, Pl, e3, _⟩
  · rw [e1, e2] at e3
    injection e3 with e3
    injection e3 with _ _ e3
  · rw [e1, e2] at e3
    injection e3 with e3
    injection e3 with e3
    cases e3
theorem opens_argN {t e : TypeId} {α : Type} {R : World → Nat → List Value → α → Prop} {k : Nat} {w : World} {r : Reach} {b0 : Nat} {v : Value} {d : DataW H} {p : List MemPlace} (ht : P.underlying t = some (.slice e)) (hk : P.cellsOf e = k) (h0 : 0 < k) (O : Opens enc P e α R)
    (hval : Value.okWide P w r b0 t v) (h : DataW.Trod enc P w 0 (fun _ => true) true t v d p) (hlt : ∀ x ∈ p, x.block < w.heap.size) : ∃ L, SlK w w.heap.size k (R w w.heap.size) v L ∧ NilOk v := by
  obtain ⟨A, n, c, rfl⟩ := okWide_slice ht hval
  obtain ⟨fuel, h⟩ := h
  obtain ⟨L, v', e, hL⟩ := opens_sliceN ht hk h0 O w fuel _ (d, p) w.heap.size h hlt
  have e' : Value.slice A n c = v' := by simpa [Value.cells] using e
  subst e'
  exact ⟨L, hL⟩
def I64 (a : Int) : Prop := -9223372036854775808 ≤ a ∧ a ≤ 9223372036854775807
theorem opens_row : Opens enc Tryz.prog 50 R5 fun _ _ cs x => cs = encR x :=
  (opens_struct Tryz.underlying50 (k := 5) (by kernel_rfl) (opens_cons (k := 2) (by kernel_rfl) opens_key (opens_cons (k := 1) (by kernel_rfl) (opens_int Tryz.underlying3) (opens_cons (k := 1) (by kernel_rfl) (opens_int Tryz.underlying2) (opens_cons (k := 1) (by kernel_rfl) (opens_int Tryz.underlying3) opens_nil))))).imp fun _ _ cs a h => by
    obtain ⟨hl, h0, h1, h2, h3, _⟩ := h
    obtain ⟨x0, x1, x2, x3, x4, rfl⟩ := list5 hl
    simp only [IsKey, List.drop_zero, List.take_succ_cons, List.take_zero, List.drop_succ_cons, List.cons.injEq, and_true] at h0 h1 h2 h3
    exact ⟨(a.1, a.2.1, a.2.2.1, a.2.2.2.1), by rw [h0.1.1, h0.1.2, h1.1, h2.1, h3.1]; rfl⟩
/-- A statement, as a caller hands it over. -/
def IsStm (w : World) (B : Nat) (cs : List Value) (x : (Int × Int × List R5)) : Prop := ∃ v, cs = [.int .i64 x.1, .int .i64 x.2.1, v] ∧ I64 x.1 ∧ I64 x.2.1 ∧ SlK w B 5 (fun cs x => cs = encR x) v x.2.2 ∧ NilOk v
theorem opens_stm : Opens enc Tryz.prog 24 (Int × Int × List R5) fun w B cs x => IsStm w B cs x :=
  (opens_struct Tryz.underlying24 (k := 3) (by kernel_rfl) (opens_cons (k := 1) (by kernel_rfl) (opens_int Tryz.underlying3) (opens_cons (k := 1) (by kernel_rfl) (opens_int Tryz.underlying3) (opens_cons (k := 1) (by kernel_rfl) (opens_sliceN Tryz.underlying22 (k := 5) (by kernel_rfl) (by decide) opens_row) opens_nil)))).imp fun w B cs a h => by
    obtain ⟨hl, h0, h1, h2, _⟩ := h
    obtain ⟨x0, x1, x2, rfl⟩ := list3 hl
    simp only [List.drop_zero, List.take_succ_cons, List.take_zero, List.drop_succ_cons, List.cons.injEq, and_true] at h0 h1 h2
    obtain ⟨v, rfl, h3, h4⟩ := h2
    exact ⟨(a.1, a.2.1, a.2.2.1), x2, by rw [h0.1, h1.1], wf64 h0.2, wf64 h1.2, h3, h4⟩
end
end Go.Proofs.YtgpjbigelblanaaGreatDoor
/- A Cell, as a caller hands it over. -/
namespace Go.Proofs.YtgpjbigelblanaaGreatDoor
open Go.RowKit Go.Maps Go.ChangeShapes Go.WideShapes Go.Deep Go.Joins Key
section
variable {H : Type} {enc : TypeId × Value → H}
theorem opens_cell : Opens enc Tryz.prog 42 CellD fun _ _ cs x => IsCell cs x :=
  (opens_struct Tryz.underlying42 (k := 3) (by kernel_rfl) (opens_cons (k := 1) (by kernel_rfl) opens_byte (opens_cons (k := 1) (by kernel_rfl) opens_byte (opens_cons (k := 1) (by kernel_rfl) (opens_str Tryz.underlying9) opens_nil)))).imp fun _ _ cs a h => by
    obtain ⟨hl, h0, h1, h2, _⟩ := h
    obtain ⟨x0, x1, x2, rfl⟩ := list3 hl
    simp only [IsByte, List.drop_zero, List.take_succ_cons, List.take_zero, List.drop_succ_cons, List.cons.injEq, and_true] at h0 h1 h2
    exact ⟨(a.1, a.2.1, a.2.2.1), by rw [h0.1, h1.1, h2.1], h0.2, h1.2⟩
end
end Go.Proofs.YtgpjbigelblanaaGreatDoor
/- consignorlaw15.ManifestCells: for every input the law answers true, and what it is handed reads as it did. (The tied card.) -/
namespace Go.Proofs.YtgpjbigelblanaaGreatDoor.manifestCells
open Go.ChangeShapes Go.WideShapes Go.ChangeAt Go.RowKit
open Go.ChangeMaps (open_string shut_string)
set_option linter.unusedVariables false

theorem laid_met (os : Os) : laidMet Tryz.prog Rows.manifestCellsRow.laid ((mfWorld os).forCall (fun _ _ => 0) ⟨#[], #[.agg #[.int .i64 0, .int .i64 0, .slice none 0 0], .slice none 0 0, .int .i8 0], []⟩).memory :=
  laidMet_of_run' 8 (by kernel_rfl) (by kernel_rfl)
theorem reads (os : Os) {H : Type} (enc : TypeId × Value → H) : ∃ places, DataW.whole enc Tryz.prog ((mfWorld os).forCall (fun _ _ => 0) ⟨#[], #[.agg #[.int .i64 0, .int .i64 0, .slice none 0 0], .slice none 0 0, .int .i8 0], []⟩).memory Tryz.f8.params.toList Rows.manifestCellsSpec.vars false #[Value.agg #[.int .i64 0, .int .i64 0, .slice none 0 0], Value.slice none 0 0, Value.int .i8 0].toList 8 = some ([.agg [.lit (.int .i64 0), .lit (.int .i64 0), .nil], .nil, .lit (.int .i8 0)], [], places) :=
  ⟨[], by kernel_rfl⟩

set_option maxRecDepth 100000 in
theorem lifted (os : Os) (started : os.Started) (H : Type) (enc : TypeId × Value → H) (F : Stop.Interp) :
    ReturnsInHanded {} Tryz.checked os 8 .any ((OpenSpec.ofChange Rows.manifestCellsSpec).preRow enc Tryz.prog Tryz.f8 Rows.manifestCellsRow.domain false Rows.manifestCellsRow.laid) (((OpenSpec.ofChange Rows.manifestCellsSpec).at F).post enc Tryz.prog Tryz.f8 false true false false) := by
  obtain ⟨places, hx⟩ := reads os enc
  refine returnsInHanded_of_row (C := Tryz.checked) (s := OpenSpec.ofChange Rows.manifestCellsSpec) doorOwn started (by kernel_rfl) Tryz.func8
    (witness_row_at (enc := enc) (C := Tryz.checked) false (mfWorld os) #[.agg #[.int .i64 0, .int .i64 0, .slice none 0 0], .slice none 0 0, .int .i8 0] rfl (by kernel_rfl) (by kernel_rfl) (by kernel_rfl)
      (OpenSpec.preRow_of_cond 8 hx (by kernel_rfl) (fun k hk => by cases hk) (by kernel_rfl) (laid_met os))) ?_
  intro W base args ds gs before hval0 hW _ _ _ hL hS _
  have hval : ∀ (j : Nat) t v, Tryz.f8.params[j]? = some t → args[j]? = some v → Value.okWide Tryz.prog W .any base t v := hval0
  have hW' := hW
  obtain ⟨p, q, hA0, hV, rfl, hfz, hnd⟩ := hW
  have hA : DataW.TrodAll enc Tryz.prog W 0 (fun _ => true) true Tryz.f8.params.toList args.toList ds p := hA0
  rw [Tryz.params8] at hA hval
  obtain ⟨v0, vs0, d0, ds0, p0, q0, hargs0, rfl, rfl, h0, r0⟩ := trodAll_cons hA
  obtain ⟨v1, vs1, d1, ds1, p1, q1, hargs1, rfl, rfl, h1, r1⟩ := trodAll_cons r0
  obtain ⟨v2, vs2, d2, ds2, p2, q2, hargs2, rfl, rfl, h2, r2⟩ := trodAll_cons r1
  obtain ⟨rfl, rfl, rfl⟩ := trodAll_nil r2
  obtain rfl : args = #[v0, v1, v2] := by cases args; simp_all
  obtain ⟨rfl, rfl⟩ := trodVars_none hV
  have k0 := h0
  have lt0 : ∀ x ∈ p0, x.block < W.heap.size := by obtain ⟨m, hm⟩ := k0; exact DataW.trod_lt m _ _ _ hm
  have k1 := h1
  have lt1 : ∀ x ∈ p1, x.block < W.heap.size := by obtain ⟨m, hm⟩ := k1; exact DataW.trod_lt m _ _ _ hm
  have k2 := h2
  have lt2 : ∀ x ∈ p2, x.block < W.heap.size := by obtain ⟨m, hm⟩ := k2; exact DataW.trod_lt m _ _ _ hm
  obtain ⟨cs0, x0, rfl, u0, hx0, _, _, hu0, hn0⟩ := opens_agg Tryz.underlying24 opens_stm (hval 0 24 v0 rfl rfl) h0 lt0
  obtain rfl : cs0 = _ := Array.toList_inj.1 (show cs0.toList = (List.toArray _).toList from hx0)
  obtain ⟨L1, hL1⟩ := opens_arg Tryz.underlying36 (k := 3) (by kernel_rfl) (by decide) opens_cell (hval 1 36 v1 rfl rfl) h1 lt1
  obtain ⟨a2, rfl, rfl, rfl, w2⟩ := open_int Tryz.underlying37 (hval 2 37 v2 rfl rfl) h2
  have w2' : -128 ≤ a2 ∧ a2 ≤ 127 := by simpa [Lit.wf, IntKind.min, IntKind.max, IntKind.signed, IntKind.bits] using w2
  clear hA0 hval0
  refine (lawManifestCells_walk x0.1 x0.2.1 u0 x0.2.2 _ L1 a2 W ⟨hu0, hn0⟩ hL1 w2' (mf_of hS hL)).mono fun e W' ⟨he, bel⟩ => ?_
  subst he
  exact ⟨_, rfl, _, _, _, [], _, [], hW', trodAll_mk1 (shut_bool Tryz.underlying4 _), (trodAll_cons_mk (Below.trod doorLaidOut (by kernel_rfl) (of_decide_eq_true (by kernel_rfl)) k0 bel lt0) (trodAll_cons_mk (Below.trod doorLaidOut (by kernel_rfl) (of_decide_eq_true (by kernel_rfl)) k1 bel lt1) (trodAll_cons_mk (Below.trod doorLaidOut (by kernel_rfl) (of_decide_eq_true (by kernel_rfl)) k2 bel lt2) trodAll_mk0))), rfl, bel.frame _, fun h => by cases h⟩

theorem said : Rows.ManifestCellsSaid :=
  OpenClaim.holds_of_cond 8 Tryz.f8 rfl rfl rfl rfl rfl rfl rfl ⟨rfl, rfl, rfl, rfl, rfl⟩ rfl rfl rfl rfl rfl (by kernel_rfl) Tryz.func8 (by kernel_rfl)
    (of_decide_eq_true (by kernel_rfl)) (by unfold Func.isWrapper; first | (rw [if_pos (by decide +kernel)]; kernel_rfl) | (rw [if_neg (by decide +kernel)]; exact ⟨rfl, rfl⟩))
    (fun os started H enc _ F => by rw [OpenClaim.pre_eq_preRow]; exact lifted os started H enc F)

theorem plain (f : FuncId) (fn : Func) (hf : Tryz.pinned.checked.prog.funcNamed "consignor/consignorlaw15.ManifestCells" = some f) (hfn : Tryz.pinned.checked.prog.funcs[f]? = some fn) :
    true = Tryz.pinned.checked.prog.looks [] ∧ ∀ (j : Nat) t, fn.params[j]? = some t → Tryz.pinned.checked.prog.wantsStandIn t = false := by
  obtain rfl : f = 8 := Option.some.inj ((show Tryz.prog.funcNamed "consignor/consignorlaw15.ManifestCells" = some 8 by kernel_rfl).symm.trans hf) |>.symm
  obtain rfl : fn = Tryz.f8 := (Option.some.inj (Tryz.func8.symm.trans hfn)).symm
  refine ⟨by kernel_rfl, fun j t ht => ?_⟩
  rw [Tryz.params8] at ht
  have hm : t = 24 ∨ t = 36 ∨ t = 37 := by simpa using Array.mem_of_getElem? ht
  rcases hm with rfl | rfl | rfl
  · exact (show Tryz.prog.wantsStandIn 24 = false by kernel_rfl)
  · exact (show Tryz.prog.wantsStandIn 36 = false by kernel_rfl)
  · exact (show Tryz.prog.wantsStandIn 37 = false by kernel_rfl)

theorem card : Rows.ManifestCellsCardSaid :=
  Claim7.holds_tied_plain_at .later [] _ _ _ _ said (fun _ h => by cases h) (by kernel_rfl) (fun _ h => by cases h) manifestCells_row_tie rfl ⟨rfl, rfl⟩ (by kernel_rfl) rfl plain (by kernel_rfl)
end Go.Proofs.YtgpjbigelblanaaGreatDoor.manifestCells

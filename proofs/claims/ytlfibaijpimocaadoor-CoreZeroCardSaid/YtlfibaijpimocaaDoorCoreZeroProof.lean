/- The frame that the door laws over cores share: what 'laid' gives, the witness' world. -/
import Derived.Test.YtlfibaijpimocaaDoorCorePut
import Derived.Deep.DeepHandedRow
import Derived.Lib.LaidTab
import Derived.Stop.LaidErr
import Derived.Maps.OwnSet
import Derived.Test.YtlfibaijpimocaaDoorCoreLawZero
import Derived.Test.YtlfibaijpimocaaDoorCards
import Derived.Test.YtlfibaijpimocaaDoorTie
import Derived.WalkKit
import Derived.ProofKit
import Derived.OpenShut
import Derived.ShutString
import Derived.ChangeOld
namespace Go.Proofs.YtlfibaijpimocaaDoor
open Go.ChangeShapes Go.WideShapes Go.ChangeAt

theorem doorOwn : ownKnob Tryd.prog.godebug = none := by kernel_rfl
theorem doorLaidOut : laidOutB Tryd.prog = true := by kernel_rfl
theorem gTabC : Tryd.prog.globalNamed "internal/strconv.uint64pow10" = some 2 := by kernel_rfl
theorem gDeedsC : Tryd.prog.globalNamed "consignor/keys.deeds" = some 1 := by kernel_rfl
def doorObj (cs : Array Value) : Obj → Obj
  | .cells _ t frozen => .cells cs t frozen
  | o => o
def tabV (k : IntKind) (zs : List Int) : Array Value := (zs.map fun z => Value.int k z).toArray
/-- So many blocks has the settled world. -/
noncomputable def doorLow : Nat := (World.holding Tryd.prog default ⟨#[], #[], []⟩).heap.size
theorem map_of {name : String} {gl n : Nat} {D : DataW Unit} {r : List (String × DataW Unit)} {W : World} (hgn : Tryd.prog.globalNamed name = some gl) (hgt : (Tryd.prog.globals[gl]?).map (·.type) = some 178) (hDn : ∃ l, D = .map l ∧ l.length = n) (h : laidMet Tryd.prog ((name, D) :: r) W) :
    ∃ b, W.cell? ⟨gl, 0, none⟩ = some (.map (some b)) ∧ gl < W.heap.size ∧ W.ownsMap Tryd.prog tStr (plainElem Tryd.prog tIntK2) b n D := by
  obtain ⟨ps, ⟨g, t, cs, fuel, p, q, hg, ht, hv, hd, _⟩, _⟩ := h
  obtain rfl := Option.some.inj (hgn.symm.trans hg)
  obtain rfl := Option.some.inj (hgt.symm.trans ht)
  obtain ⟨l, rfl, hl⟩ := hDn
  rcases WideElems.open_map Tryd.underlying178 hd with ⟨_, hx⟩ | ⟨bm, es, clock, n', _, hcs, hb, _, F, hx⟩
  · injection hx with hx _
    cases hx
  · have hown := World.ownsMap_of_fit (R := plainElem Tryd.prog tIntK2) hb F (fun x _ z hz => elemAt_plainElem_int Tryd.underlying3 hz)
    injection hx with hx _
    have hc := World.var?_cell hg hv 0
    have e0 : cs[0]? = some (.map (some bm)) := by
      have : cs.toList[0]? = some (.map (some bm)) := by rw [hcs]; rfl
      simpa using this
    rw [e0] at hc
    have hD : DataW.map ((es.toList.map (WideElems.rg Tryd.prog tStr (WideElems.elemAt (fun _ => ()) Tryd.prog W 0 (fun _ => true) false n' tIntK2))).foldr DataW.insert []) = .map l := hx.symm
    have hsz : es.size = n := by
      have := congrArg Maps.size hD
      rw [← hl]
      simpa [Maps.size, length_sorted] using this
    rw [hD, hsz] at hown
    exact ⟨bm, hc, World.block_lt_of_cell? W _ hc, hown⟩

theorem kw_laid {r : List (String × DataW Unit)} {d1 d2 : String × DataW Unit} {W : World}
    (h : laidMet Tryd.prog (d1 :: d2 :: ("internal/strconv.uint64pow10", Lib.tabData .u64 Lib.pow10Tab) :: ("consignor/keys.parties", Lib.tabData .i64 [1, 0, 2, 1, 0, 2]) :: ("consignor/keys.deeds", D6) :: r) W) : KW W :=
  ⟨⟨Lib.tabIs_of_head gTabC (by kernel_rfl) Tryd.underlying187 Tryd.underlying165 (by kernel_rfl) (by kernel_rfl) h.tail.tail⟩, Lib.tabIs_of_head gPartiesK2 (by kernel_rfl) Tryd.underlying40 Tryd.underlying3 (by kernel_rfl) (by kernel_rfl) h.tail.tail.tail, map_of gDeedsC (by kernel_rfl) ⟨_, rfl, rfl⟩ h.tail.tail.tail.tail⟩
abbrev coHeld : Input := ⟨#[.map #[⟨.string ⟨#[114, 101, 115, 101, 114, 118, 101]⟩, .int .i64 0, 0⟩, ⟨.string ⟨#[99, 104, 97, 114, 103, 101]⟩, .int .i64 1, 1⟩, ⟨.string ⟨#[115, 104, 105, 112]⟩, .int .i64 2, 2⟩, ⟨.string ⟨#[114, 101, 108, 101, 97, 115, 101]⟩, .int .i64 3, 3⟩, ⟨.string ⟨#[114, 101, 102, 117, 110, 100]⟩, .int .i64 4, 4⟩, ⟨.string ⟨#[118, 111, 105, 100]⟩, .int .i64 5, 5⟩] 6], #[], []⟩
/-- A WORLD FOR THE WITNESS: the settled one, a map more, the tables as their initialisers lay them. -/
noncomputable def coWorld (os : Os) : World :=
  { World.holding Tryd.prog os coHeld with
    heap := (((((World.holding Tryd.prog os coHeld).heap.modify 2 (doorObj (tabV .u64 [1, 10, 100, 1000, 10000, 100000, 1000000, 10000000, 100000000, 1000000000, 10000000000, 100000000000, 1000000000000, 10000000000000, 100000000000000, 1000000000000000, 10000000000000000, 100000000000000000, 1000000000000000000, 10000000000000000000]))).modify 3 (doorObj (tabV .u8 [0, 1, 28, 2, 29, 14, 24, 3, 30, 22, 20, 15, 25, 17, 4, 8, 31, 27, 13, 23, 21, 19, 16, 7, 26, 12, 18, 6, 11, 5, 10, 9]))).modify 4 (doorObj (tabV .u8 [0, 1, 56, 2, 57, 49, 28, 3, 61, 58, 42, 50, 38, 29, 17, 4, 62, 47, 59, 36, 45, 43, 51, 22, 53, 39, 33, 30, 24, 18, 12, 5, 63, 55, 48, 27, 60, 41, 37, 16, 46, 35, 44, 21, 52, 32, 23, 11, 54, 26, 40, 15, 34, 20, 31, 10, 25, 14, 19, 9, 13, 8, 7, 6]))).modify 0 (doorObj (tabV .i64 [1, 0, 2, 1, 0, 2]))).modify 1 (doorObj #[.map (some doorLow)]) }
end Go.Proofs.YtlfibaijpimocaaDoor
/- consignorlaw24.CoreZero: for every input the law answers true, and what it is handed reads as it did. (The tied card.) -/
namespace Go.Proofs.YtlfibaijpimocaaDoor.coreZero
open Go.ChangeShapes Go.WideShapes Go.ChangeAt Go.RowKit
open Go.ChangeMaps (open_string shut_string)
set_option linter.unusedVariables false

theorem laid_met (os : Os) : laidMet Tryd.prog Rows.coreZeroRow.laid ((coWorld os).forCall (fun _ _ => 0) ⟨#[], #[.slice none 0 0], []⟩).memory :=
  laidMet_of_run' 8 (by kernel_rfl) (by kernel_rfl)
theorem reads (os : Os) {H : Type} (enc : TypeId × Value → H) : ∃ places, DataW.whole enc Tryd.prog ((coWorld os).forCall (fun _ _ => 0) ⟨#[], #[.slice none 0 0], []⟩).memory Tryd.f6.params.toList Rows.coreZeroSpec.vars false #[Value.slice none 0 0].toList 8 = some ([.nil], [], places) :=
  ⟨[], by kernel_rfl⟩

set_option maxRecDepth 100000 in
theorem lifted (os : Os) (started : os.Started) (H : Type) (enc : TypeId × Value → H) (F : Stop.Interp) :
    ReturnsInHanded {} Tryd.checked os 6 .any ((OpenSpec.ofChange Rows.coreZeroSpec).preRow enc Tryd.prog Tryd.f6 Rows.coreZeroRow.domain false Rows.coreZeroRow.laid) (((OpenSpec.ofChange Rows.coreZeroSpec).at F).post enc Tryd.prog Tryd.f6 false true false false) := by
  obtain ⟨places, hx⟩ := reads os enc
  refine returnsInHanded_of_row (C := Tryd.checked) (s := OpenSpec.ofChange Rows.coreZeroSpec) doorOwn started (by kernel_rfl) Tryd.func6
    (witness_row_at (enc := enc) (C := Tryd.checked) false (coWorld os) #[.slice none 0 0] rfl (by kernel_rfl) (by kernel_rfl) (by kernel_rfl)
      (OpenSpec.preRow_of_cond 8 hx (by kernel_rfl) (fun k hk => by cases hk) (by kernel_rfl) (laid_met os))) ?_
  intro W base args ds gs before hval0 hW _ _ _ hL hS _
  have hval : ∀ (j : Nat) t v, Tryd.f6.params[j]? = some t → args[j]? = some v → Value.okWide Tryd.prog W .any base t v := hval0
  have hW' := hW
  obtain ⟨p, q, hA0, hV, rfl, hfz, hnd⟩ := hW
  have hA : DataW.TrodAll enc Tryd.prog W 0 (fun _ => true) true Tryd.f6.params.toList args.toList ds p := hA0
  rw [Tryd.params6] at hA hval
  obtain ⟨v0, vs0, d0, ds0, p0, q0, hargs0, rfl, rfl, h0, r0⟩ := trodAll_cons hA
  obtain ⟨rfl, rfl, rfl⟩ := trodAll_nil r0
  obtain rfl : args = #[v0] := by cases args; simp_all
  obtain ⟨rfl, rfl⟩ := trodVars_none hV
  have k0 := h0
  have lt0 : ∀ x ∈ p0, x.block < W.heap.size := by obtain ⟨m, hm⟩ := k0; exact DataW.trod_lt m _ _ _ hm
  obtain ⟨L0, hL0⟩ := opens_argN Tryd.underlying74 (k := 12) (by kernel_rfl) (by decide) opens_ent (hval 0 74 v0 rfl rfl) h0 lt0
  clear hA0 hval0
  refine (lawCoreZero_walk W (kw_laid hL) _ L0 hL0.1).mono fun e W' ⟨he, bel⟩ => ?_
  subst he
  exact ⟨_, rfl, _, _, _, [], _, [], hW', trodAll_mk1 (shut_bool Tryd.underlying4 _), (trodAll_cons_mk (Below.trod doorLaidOut (by kernel_rfl) (of_decide_eq_true (by kernel_rfl)) k0 bel lt0) trodAll_mk0), rfl, bel.frame _, fun h => by cases h⟩

theorem said : Rows.CoreZeroSaid :=
  OpenClaim.holds_of_cond 6 Tryd.f6 rfl rfl rfl rfl rfl rfl rfl ⟨rfl, rfl, rfl, rfl, rfl⟩ rfl rfl rfl rfl rfl (by kernel_rfl) Tryd.func6 (by kernel_rfl)
    (of_decide_eq_true (by kernel_rfl)) (by unfold Func.isWrapper; first | (rw [if_pos (by decide +kernel)]; kernel_rfl) | (rw [if_neg (by decide +kernel)]; exact ⟨rfl, rfl⟩))
    (fun os started H enc _ F => by rw [OpenClaim.pre_eq_preRow]; exact lifted os started H enc F)

theorem plain (f : FuncId) (fn : Func) (hf : Tryd.pinned.checked.prog.funcNamed "consignor/consignorlaw24.CoreZero" = some f) (hfn : Tryd.pinned.checked.prog.funcs[f]? = some fn) :
    false = Tryd.pinned.checked.prog.looks [] ∧ ∀ (j : Nat) t, fn.params[j]? = some t → Tryd.pinned.checked.prog.wantsStandIn t = false := by
  obtain rfl : f = 6 := Option.some.inj ((show Tryd.prog.funcNamed "consignor/consignorlaw24.CoreZero" = some 6 by kernel_rfl).symm.trans hf) |>.symm
  obtain rfl : fn = Tryd.f6 := (Option.some.inj (Tryd.func6.symm.trans hfn)).symm
  refine ⟨by kernel_rfl, fun j t ht => ?_⟩
  rw [Tryd.params6] at ht
  have hm : t = 74 := by simpa using Array.mem_of_getElem? ht
  subst hm
  exact (show Tryd.prog.wantsStandIn 74 = false by kernel_rfl)

theorem card : Rows.CoreZeroCardSaid :=
  Claim7.holds_tied_plain_at .later [] _ _ _ _ said (fun _ h => by cases h) (by kernel_rfl) (fun _ h => by cases h) coreZero_row_tie rfl ⟨rfl, rfl⟩ (by kernel_rfl) rfl plain (by kernel_rfl)
end Go.Proofs.YtlfibaijpimocaaDoor.coreZero

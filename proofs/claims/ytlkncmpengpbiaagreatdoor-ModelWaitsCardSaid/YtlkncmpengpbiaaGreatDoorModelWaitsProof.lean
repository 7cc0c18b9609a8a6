/- The frame that the door laws over cores share: what 'laid' gives, the witness' world. -/
import Derived.Test.YtlkncmpengpbiaaGreatDoorCorePut
import Derived.Deep.DeepHandedRow
import Derived.Lib.LaidTab
import Derived.Stop.LaidErr
import Derived.Maps.OwnSet
import Derived.Test.YtlkncmpengpbiaaGreatDoorModelLawWaits
import Derived.Test.YtlkncmpengpbiaaGreatDoorCards
import Derived.Test.YtlkncmpengpbiaaGreatDoorTie
import Derived.WalkKit
import Derived.ProofKit
import Derived.OpenShut
import Derived.ShutString
import Derived.ChangeOld
namespace Go.Proofs.YtlkncmpengpbiaaGreatDoor
open Go.ChangeShapes Go.WideShapes Go.ChangeAt

theorem doorOwn : ownKnob Tryz.prog.godebug = none := by kernel_rfl
theorem doorLaidOut : laidOutB Tryz.prog = true := by kernel_rfl
theorem gTabC : Tryz.prog.globalNamed "internal/strconv.uint64pow10" = some 2 := by kernel_rfl
theorem gDeedsC : Tryz.prog.globalNamed "consignor/keys.deeds" = some 1 := by kernel_rfl
def doorObj (cs : Array Value) : Obj → Obj
  | .cells _ t frozen => .cells cs t frozen
  | o => o
def tabV (k : IntKind) (zs : List Int) : Array Value := (zs.map fun z => Value.int k z).toArray
/-- So many blocks has the settled world. -/
noncomputable def doorLow : Nat := (World.holding Tryz.prog default ⟨#[], #[], []⟩).heap.size
theorem map_of {name : String} {gl n : Nat} {D : DataW Unit} {r : List (String × DataW Unit)} {W : World} (hgn : Tryz.prog.globalNamed name = some gl) (hgt : (Tryz.prog.globals[gl]?).map (·.type) = some 224) (hDn : ∃ l, D = .map l ∧ l.length = n) (h : laidMet Tryz.prog ((name, D) :: r) W) :
    ∃ b, W.cell? ⟨gl, 0, none⟩ = some (.map (some b)) ∧ gl < W.heap.size ∧ W.ownsMap Tryz.prog tStr (plainElem Tryz.prog tIntK2) b n D := by
  obtain ⟨ps, ⟨g, t, cs, fuel, p, q, hg, ht, hv, hd, _⟩, _⟩ := h
  obtain rfl := Option.some.inj (hgn.symm.trans hg)
  obtain rfl := Option.some.inj (hgt.symm.trans ht)
  obtain ⟨l, rfl, hl⟩ := hDn
  rcases WideElems.open_map Tryz.underlying224 hd with ⟨_, hx⟩ | ⟨bm, es, clock, n', _, hcs, hb, _, F, hx⟩
  · injection hx with hx _
    cases hx
  · have hown := World.ownsMap_of_fit (R := plainElem Tryz.prog tIntK2) hb F (fun x _ z hz => elemAt_plainElem_int Tryz.underlying3 hz)
    injection hx with hx _
    have hc := World.var?_cell hg hv 0
    have e0 : cs[0]? = some (.map (some bm)) := by
      have : cs.toList[0]? = some (.map (some bm)) := by rw [hcs]; rfl
      simpa using this
    rw [e0] at hc
    have hD : DataW.map ((es.toList.map (WideElems.rg Tryz.prog tStr (WideElems.elemAt (fun _ => ()) Tryz.prog W 0 (fun _ => true) false n' tIntK2))).foldr DataW.insert []) = .map l := hx.symm
    have hsz : es.size = n := by
      have := congrArg Maps.size hD
      rw [← hl]
      simpa [Maps.size, length_sorted] using this
    rw [hD, hsz] at hown
    exact ⟨bm, hc, World.block_lt_of_cell? W _ hc, hown⟩

theorem kw_laid {r : List (String × DataW Unit)} {d1 d2 : String × DataW Unit} {W : World}
    (h : laidMet Tryz.prog (d1 :: d2 :: ("internal/strconv.uint64pow10", Lib.tabData .u64 Lib.pow10Tab) :: ("consignor/keys.parties", Lib.tabData .i64 [1, 0, 2, 1, 0, 2]) :: ("consignor/keys.deeds", D6) :: r) W) : KW W :=
  ⟨⟨Lib.tabIs_of_head gTabC (by kernel_rfl) Tryz.underlying253 Tryz.underlying212 (by kernel_rfl) (by kernel_rfl) h.tail.tail⟩, Lib.tabIs_of_head gPartiesK2 (by kernel_rfl) Tryz.underlying88 Tryz.underlying3 (by kernel_rfl) (by kernel_rfl) h.tail.tail.tail, map_of gDeedsC (by kernel_rfl) ⟨_, rfl, rfl⟩ h.tail.tail.tail.tail⟩
abbrev coHeld : Input := ⟨#[.map #[⟨.string ⟨#[114, 101, 115, 101, 114, 118, 101]⟩, .int .i64 0, 0⟩, ⟨.string ⟨#[99, 104, 97, 114, 103, 101]⟩, .int .i64 1, 1⟩, ⟨.string ⟨#[115, 104, 105, 112]⟩, .int .i64 2, 2⟩, ⟨.string ⟨#[114, 101, 108, 101, 97, 115, 101]⟩, .int .i64 3, 3⟩, ⟨.string ⟨#[114, 101, 102, 117, 110, 100]⟩, .int .i64 4, 4⟩, ⟨.string ⟨#[118, 111, 105, 100]⟩, .int .i64 5, 5⟩] 6], #[], []⟩
/-- A WORLD FOR THE WITNESS: the settled one, a map more, the tables as their initialisers lay them. -/
noncomputable def coWorld (os : Os) : World :=
  { World.holding Tryz.prog os coHeld with
    heap := (((((World.holding Tryz.prog os coHeld).heap.modify 2 (doorObj (tabV .u64 [1, 10, 100, 1000, 10000, 100000, 1000000, 10000000, 100000000, 1000000000, 10000000000, 100000000000, 1000000000000, 10000000000000, 100000000000000, 1000000000000000, 10000000000000000, 100000000000000000, 1000000000000000000, 10000000000000000000]))).modify 3 (doorObj (tabV .u8 [0, 1, 28, 2, 29, 14, 24, 3, 30, 22, 20, 15, 25, 17, 4, 8, 31, 27, 13, 23, 21, 19, 16, 7, 26, 12, 18, 6, 11, 5, 10, 9]))).modify 4 (doorObj (tabV .u8 [0, 1, 56, 2, 57, 49, 28, 3, 61, 58, 42, 50, 38, 29, 17, 4, 62, 47, 59, 36, 45, 43, 51, 22, 53, 39, 33, 30, 24, 18, 12, 5, 63, 55, 48, 27, 60, 41, 37, 16, 46, 35, 44, 21, 52, 32, 23, 11, 54, 26, 40, 15, 34, 20, 31, 10, 25, 14, 19, 9, 13, 8, 7, 6]))).modify 0 (doorObj (tabV .i64 [1, 0, 2, 1, 0, 2]))).modify 1 (doorObj #[.map (some doorLow)]) }
end Go.Proofs.YtlkncmpengpbiaaGreatDoor
/- consignorlaw26.ModelWaits: for every input the law answers true, and what it is handed reads as it did. (The tied card.) -/
namespace Go.Proofs.YtlkncmpengpbiaaGreatDoor.modelWaits
open Go.ChangeShapes Go.WideShapes Go.ChangeAt Go.RowKit
open Go.ChangeMaps (open_string shut_string)
set_option linter.unusedVariables false

theorem laid_met (os : Os) : laidMet Tryz.prog Rows.modelWaitsRow.laid ((coWorld os).forCall (fun _ _ => 0) ⟨#[], #[.slice none 0 0], []⟩).memory :=
  laidMet_of_run' 8 (by kernel_rfl) (by kernel_rfl)
theorem reads (os : Os) {H : Type} (enc : TypeId × Value → H) : ∃ places, DataW.whole enc Tryz.prog ((coWorld os).forCall (fun _ _ => 0) ⟨#[], #[.slice none 0 0], []⟩).memory Tryz.f3.params.toList Rows.modelWaitsSpec.vars false #[Value.slice none 0 0].toList 8 = some ([.nil], [], places) :=
  ⟨[], by kernel_rfl⟩

set_option maxRecDepth 100000 in
theorem lifted (os : Os) (started : os.Started) (H : Type) (enc : TypeId × Value → H) (F : Stop.Interp) :
    ReturnsInHanded {} Tryz.checked os 3 .any ((OpenSpec.ofChange Rows.modelWaitsSpec).preRow enc Tryz.prog Tryz.f3 Rows.modelWaitsRow.domain false Rows.modelWaitsRow.laid) (((OpenSpec.ofChange Rows.modelWaitsSpec).at F).post enc Tryz.prog Tryz.f3 false true false false) := by
  obtain ⟨places, hx⟩ := reads os enc
  refine returnsInHanded_of_row (C := Tryz.checked) (s := OpenSpec.ofChange Rows.modelWaitsSpec) doorOwn started (by kernel_rfl) Tryz.func3
    (witness_row_at (enc := enc) (C := Tryz.checked) false (coWorld os) #[.slice none 0 0] rfl (by kernel_rfl) (by kernel_rfl) (by kernel_rfl)
      (OpenSpec.preRow_of_cond 8 hx (by kernel_rfl) (fun k hk => by cases hk) (by kernel_rfl) (laid_met os))) ?_
  intro W base args ds gs before hval0 hW _ _ _ hL hS _
  have hval : ∀ (j : Nat) t v, Tryz.f3.params[j]? = some t → args[j]? = some v → Value.okWide Tryz.prog W .any base t v := hval0
  have hW' := hW
  obtain ⟨p, q, hA0, hV, rfl, hfz, hnd⟩ := hW
  have hA : DataW.TrodAll enc Tryz.prog W 0 (fun _ => true) true Tryz.f3.params.toList args.toList ds p := hA0
  rw [Tryz.params3] at hA hval
  obtain ⟨v0, vs0, d0, ds0, p0, q0, hargs0, rfl, rfl, h0, r0⟩ := trodAll_cons hA
  obtain ⟨rfl, rfl, rfl⟩ := trodAll_nil r0
  obtain rfl : args = #[v0] := by cases args; simp_all
  obtain ⟨rfl, rfl⟩ := trodVars_none hV
  have k0 := h0
  have lt0 : ∀ x ∈ p0, x.block < W.heap.size := by obtain ⟨m, hm⟩ := k0; exact DataW.trod_lt m _ _ _ hm
  obtain ⟨L0, hL0⟩ := opens_argN Tryz.underlying22 (k := 13) (by kernel_rfl) (by decide) opens_act (hval 0 22 v0 rfl rfl) h0 lt0
  clear hA0 hval0
  refine (lawModelWaits_walk W (kw_laid hL) _ L0 hL0.1).mono fun e W' ⟨he, bel⟩ => ?_
  subst he
  exact ⟨_, rfl, _, _, _, [], _, [], hW', trodAll_mk1 (shut_bool Tryz.underlying4 _), (trodAll_cons_mk (Below.trod doorLaidOut (by kernel_rfl) (of_decide_eq_true (by kernel_rfl)) k0 bel lt0) trodAll_mk0), rfl, bel.frame _, fun h => by cases h⟩

theorem said : Rows.ModelWaitsSaid :=
  OpenClaim.holds_of_cond 3 Tryz.f3 rfl rfl rfl rfl rfl rfl rfl ⟨rfl, rfl, rfl, rfl, rfl⟩ rfl rfl rfl rfl rfl (by kernel_rfl) Tryz.func3 (by kernel_rfl)
    (of_decide_eq_true (by kernel_rfl)) (by unfold Func.isWrapper; first | (rw [if_pos (by decide +kernel)]; kernel_rfl) | (rw [if_neg (by decide +kernel)]; exact ⟨rfl, rfl⟩))
    (fun os started H enc _ F => by rw [OpenClaim.pre_eq_preRow]; exact lifted os started H enc F)

theorem plain (f : FuncId) (fn : Func) (hf : Tryz.pinned.checked.prog.funcNamed "consignor/consignorlaw26.ModelWaits" = some f) (hfn : Tryz.pinned.checked.prog.funcs[f]? = some fn) :
    true = Tryz.pinned.checked.prog.looks [] ∧ ∀ (j : Nat) t, fn.params[j]? = some t → Tryz.pinned.checked.prog.wantsStandIn t = false := by
  obtain rfl : f = 3 := Option.some.inj ((show Tryz.prog.funcNamed "consignor/consignorlaw26.ModelWaits" = some 3 by kernel_rfl).symm.trans hf) |>.symm
  obtain rfl : fn = Tryz.f3 := (Option.some.inj (Tryz.func3.symm.trans hfn)).symm
  refine ⟨by kernel_rfl, fun j t ht => ?_⟩
  rw [Tryz.params3] at ht
  have hm : t = 22 := by simpa using Array.mem_of_getElem? ht
  subst hm
  exact (show Tryz.prog.wantsStandIn 22 = false by kernel_rfl)

theorem card : Rows.ModelWaitsCardSaid :=
  Claim7.holds_tied_plain_at .later [] _ _ _ _ said (fun _ h => by cases h) (by kernel_rfl) (fun _ h => by cases h) modelWaits_row_tie rfl ⟨rfl, rfl⟩ (by kernel_rfl) rfl plain (by kernel_rfl)
end Go.Proofs.YtlkncmpengpbiaaGreatDoor.modelWaits

/- The frame that the door laws over keys share: what 'laid' gives, the witness' world. -/
import Derived.Test.YtnakicbdljffeaaDoorKeysWalk2
import Derived.Test.YtnakicbdljffeaaDoorMoneyDoor
import Derived.Test.YtnakicbdljffeaaDoorKeysOpen
import Derived.Maps.OwnSet
namespace Go.Proofs.YtnakicbdljffeaaDoor
open Go.ChangeShapes Go.WideShapes Go.ChangeAt

theorem gDeeds : Tryd.prog.globalNamed "consignor/keys.deeds" = some 1 := by kernel_rfl
theorem deeds_of {r : List (String × DataW Unit)} {W : World} (h : laidMet Tryd.prog (("consignor/keys.deeds", D6) :: r) W) :
    ∃ b, W.cell? ⟨1, 0, none⟩ = some (.map (some b)) ∧ 1 < W.heap.size ∧ W.ownsMap Tryd.prog tStr (plainElem Tryd.prog tInt) b 6 D6 := by
  obtain ⟨ps, ⟨g, t, cs, fuel, p, q, hg, ht, hv, hd, _⟩, _⟩ := h
  obtain rfl := Option.some.inj (gDeeds.symm.trans hg)
  have ht' : (Tryd.prog.globals[1]?).map (·.type) = some 40 := by kernel_rfl
  obtain rfl := Option.some.inj (ht'.symm.trans ht)
  rcases WideElems.open_map Tryd.underlying40 hd with ⟨_, hx⟩ | ⟨bm, es, clock, n, _, hcs, hb, _, F, hx⟩
  · injection hx with hx _
    cases hx
  · have hown := World.ownsMap_of_fit (R := plainElem Tryd.prog tInt) hb F (fun x _ z hz => elemAt_plainElem_int Tryd.underlying3 hz)
    injection hx with hx _
    have hc := World.var?_cell hg hv 0
    have e0 : cs[0]? = some (.map (some bm)) := by
      have : cs.toList[0]? = some (.map (some bm)) := by rw [hcs]; rfl
      simpa using this
    rw [e0] at hc
    have hD : DataW.map ((es.toList.map (WideElems.rg Tryd.prog tStr (WideElems.elemAt (fun _ => ()) Tryd.prog W 0 (fun _ => true) false n tInt))).foldr DataW.insert []) = D6 := hx.symm
    have hsz : es.size = 6 := by
      have := congrArg Maps.size hD
      simpa [Maps.size, length_sorted, D6] using this
    rw [hD, hsz] at hown
    exact ⟨bm, hc, World.block_lt_of_cell? W _ hc, hown⟩

theorem kw_of {r : List (String × DataW Unit)} {d1 d2 : String × DataW Unit} {W : World} (hS : W.ShapedOpen Tryd.prog)
    (h : laidMet Tryd.prog (d1 :: d2 :: ("internal/strconv.uint64pow10", Lib.tabData .u64 Lib.pow10Tab) :: ("strconv.ErrRange", .iface "*errors.errorString" (.ptr (.agg [.lit (.string rngText)]))) :: ("strconv.ErrSyntax", .iface "*errors.errorString" (.ptr (.agg [.lit (.string synText)]))) :: ("consignor/keys.parties", Lib.tabData .i64 [1, 0, 2, 1, 0, 2]) :: ("consignor/keys.deeds", D6) :: r) W) : KW W := by
  refine ⟨mw_of h, ?_, Lib.tabIs_of_head gParties (by kernel_rfl) Tryd.underlying39 Tryd.underlying3 (by kernel_rfl) (by kernel_rfl) h.tail.tail.tail.tail.tail, deeds_of h.tail.tail.tail.tail.tail.tail⟩
  obtain ⟨m, hm⟩ := Go.Proofs.cell_of_shapedOpen_int (zero := #[.int .i64 0]) (t := 3) (g := 3) hS (of_decide_eq_true (by kernel_rfl)) (by kernel_rfl) rfl (by kernel_rfl) (by kernel_rfl) Tryd.underlying3
  exact ⟨m, hm, World.block_lt_of_cell? W _ hm⟩
/-- A WORLD FOR THE WITNESS: the settled one, two sentinels and a map more, the tables as their initialisers lay them. -/
noncomputable def keysWorld (os : Os) : World :=
  { World.holding Tryd.prog os ⟨#[.cells #[.string ⟨synText.toArray⟩] 89, .cells #[.string ⟨rngText.toArray⟩] 89, .map #[⟨.string ⟨#[114, 101, 115, 101, 114, 118, 101]⟩, .int .i64 0, 0⟩, ⟨.string ⟨#[99, 104, 97, 114, 103, 101]⟩, .int .i64 1, 1⟩, ⟨.string ⟨#[115, 104, 105, 112]⟩, .int .i64 2, 2⟩, ⟨.string ⟨#[114, 101, 108, 101, 97, 115, 101]⟩, .int .i64 3, 3⟩, ⟨.string ⟨#[114, 101, 102, 117, 110, 100]⟩, .int .i64 4, 4⟩, ⟨.string ⟨#[118, 111, 105, 100]⟩, .int .i64 5, 5⟩] 6], #[], []⟩ with
    heap := ((((((((World.holding Tryd.prog os ⟨#[.cells #[.string ⟨synText.toArray⟩] 89, .cells #[.string ⟨rngText.toArray⟩] 89, .map #[⟨.string ⟨#[114, 101, 115, 101, 114, 118, 101]⟩, .int .i64 0, 0⟩, ⟨.string ⟨#[99, 104, 97, 114, 103, 101]⟩, .int .i64 1, 1⟩, ⟨.string ⟨#[115, 104, 105, 112]⟩, .int .i64 2, 2⟩, ⟨.string ⟨#[114, 101, 108, 101, 97, 115, 101]⟩, .int .i64 3, 3⟩, ⟨.string ⟨#[114, 101, 102, 117, 110, 100]⟩, .int .i64 4, 4⟩, ⟨.string ⟨#[118, 111, 105, 100]⟩, .int .i64 5, 5⟩] 6], #[], []⟩).heap.modify 4 (doorObj #[.iface 87 (.pointer (some ⟨doorLow, 0, none⟩))])).modify 5 (doorObj #[.iface 87 (.pointer (some ⟨doorLow + 1, 0, none⟩))])).modify 2 (doorObj (tabV .u64 [1, 10, 100, 1000, 10000, 100000, 1000000, 10000000, 100000000, 1000000000, 10000000000, 100000000000, 1000000000000, 10000000000000, 100000000000000, 1000000000000000, 10000000000000000, 100000000000000000, 1000000000000000000, 10000000000000000000]))).modify 6 (doorObj (tabV .u8 [0, 1, 28, 2, 29, 14, 24, 3, 30, 22, 20, 15, 25, 17, 4, 8, 31, 27, 13, 23, 21, 19, 16, 7, 26, 12, 18, 6, 11, 5, 10, 9]))).modify 7 (doorObj (tabV .u8 [0, 1, 56, 2, 57, 49, 28, 3, 61, 58, 42, 50, 38, 29, 17, 4, 62, 47, 59, 36, 45, 43, 51, 22, 53, 39, 33, 30, 24, 18, 12, 5, 63, 55, 48, 27, 60, 41, 37, 16, 46, 35, 44, 21, 52, 32, 23, 11, 54, 26, 40, 15, 34, 20, 31, 10, 25, 14, 19, 9, 13, 8, 7, 6]))).modify 0 (doorObj (tabV .i64 [1, 0, 2, 1, 0, 2]))).modify 1 (doorObj #[.map (some (doorLow + 2))])) }
end Go.Proofs.YtnakicbdljffeaaDoor

/- From an argument's reading to words for memory: a []string. -/
import Derived.Test.YtgpjbigelblanaaDoorCsvOpen
namespace Go.Proofs.YtgpjbigelblanaaDoor
open Go.ChangeShapes Go.WideShapes Go.Deep

theorem open_strs_arg {H : Type} {enc : TypeId × Value → H} {P : Program} {w : World} {t s : TypeId} {v : Value} {d : DataW H} {p : List MemPlace} {B b0 : Nat} {r : Reach}
    (ht : P.underlying t = some (.slice s)) (hs : P.underlying s = some .string) (hc : P.cellsOf s = 1)
    (hval : Value.okWide P w r b0 t v) (h : DataW.Trod enc P w 0 (fun _ => true) true t v d p) (hlt : ∀ y ∈ p, y.block < B) : ∃ L, Strs w B v L := by
  obtain ⟨A, n, c, rfl⟩ := okWide_slice ht hval
  obtain ⟨fuel, h⟩ := h
  exact open_strs ht hs hc (show DataW.trod enc P w 0 (fun _ => true) true fuel t [.slice A n c] = some (d, p) from h) hlt
end Go.Proofs.YtgpjbigelblanaaDoor

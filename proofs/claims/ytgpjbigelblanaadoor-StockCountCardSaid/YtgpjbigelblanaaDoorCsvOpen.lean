/- From an argument's reading to words for memory: a [][]string. -/
import Derived.Test.YtgpjbigelblanaaDoorMem
import Derived.Deep.Slices
import Derived.SliceStrings
import Derived.ProofKit
import Derived.OpenShut
namespace Go.Proofs.YtgpjbigelblanaaDoor
open Go.ChangeShapes Go.WideShapes Go.Deep

theorem open_strs {H : Type} {enc : TypeId × Value → H} {P : Program} {w : World} {t s : TypeId} {fuel : Nat} {v : Value} {x : DataW H × List MemPlace} {B : Nat}
    (ht : P.underlying t = some (.slice s)) (hs : P.underlying s = some .string) (hc : P.cellsOf s = 1)
    (h : DataW.trod enc P w 0 (fun _ => true) true fuel t [v] = some x) (hlt : ∀ y ∈ x.2, y.block < B) : ∃ L, Strs w B v L := by
  rcases open_strings ht hs hc h with ⟨h1, _⟩ | ⟨a, len, cap, ss, h1, _, hl, _, hlen, hx, hcell, _⟩
  · injection h1 with h1 _
    subst h1
    exact ⟨[], Sl.nil w B _⟩
  · injection h1 with h1 _
    subst h1
    simp only [if_true] at hlen
    refine ⟨(ss.take len).map fun s => s.data.toList, some a, len, cap, rfl, by simp; omega, hl, fun k y hk => ?_⟩
    rw [List.getElem?_map, Option.map_eq_some_iff] at hk
    obtain ⟨b, hb, rfl⟩ := hk
    have hkl : k < len := by
      have := (List.getElem?_eq_some_iff.1 hb).1
      simp at this
      omega
    have hkb : ss[k]? = some b := by rw [List.getElem?_take] at hb; simpa [hkl] using hb
    have hks : k < ss.length := by omega
    refine ⟨a, .string b, rfl, ?_, ?_, ?_⟩
    · have := hlt (.cell a.block (a.off + k)) (by rw [hx]; exact MemPlace.mem_row.2 ⟨k, hks, rfl⟩)
      exact this
    · rw [hcell k hks, List.getD, hkb]
      rfl
    · show Value.string b = .string ⟨b.data.toList.toArray⟩
      simp

theorem open_rowz {H : Type} {enc : TypeId × Value → H} {P : Program} {w : World} {t e s : TypeId} {v : Value} {d : DataW H} {p : List MemPlace} {B b0 : Nat} {r : Reach}
    (ht : P.underlying t = some (.slice e)) (he : P.underlying e = some (.slice s)) (hs : P.underlying s = some .string) (hce : P.cellsOf e = 1) (hcs : P.cellsOf s = 1)
    (hval : Value.okWide P w r b0 t v) (h : DataW.Trod enc P w 0 (fun _ => true) true t v d p) (hlt : ∀ y ∈ p, y.block < B) : ∃ L, Rowz w B v L := by
  obtain ⟨A, n, c, rfl⟩ := okWide_slice ht hval
  obtain ⟨fuel, h⟩ := h
  have h' : DataW.trod enc P w 0 (fun _ => true) true fuel t [.slice A n c] = some (d, p) := h
  rcases open_slice1 ht hce h' with ⟨h1, _⟩ | ⟨a, len, cap, m, f, V, D, Pl, h1, _, hl, _, hm, hx, hcell⟩
  · injection h1 with h1 _
    rw [h1]
    exact ⟨[], Sl.nil w B _⟩
  · injection h1 with h1 _
    rw [h1]
    simp only [if_true] at hm
    subst hm
    have hp : p = MemPlace.row a m ++ (List.range m).flatMap Pl := congrArg Prod.snd hx
    obtain ⟨F, hF⟩ := choose_lt (α := List (List UInt8)) (n := m) (p := fun i L => Strs w B (V i) L) (fun i hi => open_strs he hs hcs (hcell i hi).2 (fun y hy => hlt y (by
      rw [hp]
      exact List.mem_append_right _ (List.mem_flatMap.2 ⟨i, List.mem_range.2 hi, hy⟩))))
    refine ⟨(List.range len).map F, some a, len, m, rfl, by simp, hl, fun k y hk => ?_⟩
    have hkl : k < len := by
      have := (List.getElem?_eq_some_iff.1 hk).1
      simpa using this
    have hy : y = F k := by
      rw [List.getElem?_map, List.getElem?_range hkl] at hk
      simpa using hk.symm
    subst hy
    refine ⟨a, V k, rfl, ?_, (hcell k (by omega)).1, hF k (by omega)⟩
    exact hlt (.cell a.block (a.off + k)) (by rw [hp]; exact List.mem_append_left _ (MemPlace.mem_row.2 ⟨k, by omega, rfl⟩))
end Go.Proofs.YtgpjbigelblanaaDoor

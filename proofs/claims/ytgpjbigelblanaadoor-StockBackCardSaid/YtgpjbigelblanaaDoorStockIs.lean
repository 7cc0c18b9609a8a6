/- stock.Parse at a text whose reading is known; what rows.Valid says of it. -/
import Derived.Test.YtgpjbigelblanaaDoorStockCame
namespace Go.Proofs.YtgpjbigelblanaaDoor
open Go.RowKit Go.Maps Key Mon Sk Rw

theorem sparse_is (s : ByteArray) (t : List UInt8) (ht : s.data.toList = t) (p q : Int) (l : List R5) (a b c : Nat) (ai bi ci : Int) (w : World) (h : parseS t = ((p, q, l), a, b, c)) (ha : ai = a) (hb : bi = b) (hc : ci = c) (hS : SkW w) :
    Calls Tryd.prog 17 #[.string s] w fun e w' => (∃ v, e = .returned (.tuple #[.agg #[.int .i64 p, .int .i64 q, v], .agg #[.int .i64 ai, .int .i64 bi, .int .i64 ci]]) ∧ Rd w' v l) ∧ Below w.heap.size w w' :=
  (sparse_any s w hS).mono fun e w' h2 => by
    obtain ⟨⟨v, he, hr⟩, hbl⟩ := h2
    rw [ht, h] at he hr
    exact ⟨⟨v, by rw [he, ha, hb, hc]; rfl, hr⟩, hbl⟩
theorem bytes_list (t : List UInt8) : (⟨t.toArray⟩ : ByteArray).data.toList = t := by simp
/-- A statement's box and a reject's, made one behind the other. -/
theorem two_kept (w w1 : World) (o p : Obj) {W : World} (hb : Below w.heap.size w w1) (h : (w1.alloc o).alloc p = W) : Below w.heap.size w W ∧ W.heap[w1.heap.size]? = some o ∧ W.heap[w1.heap.size + 1]? = some p ∧ Below w1.heap.size w1 W := by
  obtain ⟨h1, h2, h3⟩ := two_boxes w1 o p h
  exact ⟨bch hb h1 hb.size, h2, h3, h1⟩
end Go.Proofs.YtgpjbigelblanaaDoor

/- What the walks of manifest share: the world's tables; slices' cells; boxes made one behind the other. -/
import Derived.Test.YtgpjbigelblanaaGreatDoorKeyTab
import Derived.Test.YtgpjbigelblanaaGreatDoorMoneyText
import Derived.Test.YtgpjbigelblanaaGreatDoorCsvPrint
import Derived.Test.YtgpjbigelblanaaGreatDoorCsvParse
import Derived.Test.YtgpjbigelblanaaGreatDoorRowValid
import Derived.Test.YtgpjbigelblanaaGreatDoorStatSame
import Derived.Test.YtgpjbigelblanaaGreatDoorManifestForm0
import Derived.Test.YtgpjbigelblanaaGreatDoorTurn
import Derived.Deep.Cut
import Derived.Deep.CutRange
namespace Go.Proofs.YtgpjbigelblanaaGreatDoor
open Go.RowKit Go.Maps Key Mon Rw

/-- What manifest asks of the world. -/
structure MfW (w : World) : Prop where
  mw : MW w
  pt : PT w
  mx : HasMax w
theorem MfW.below {w w' : World} (h : MfW w) (hb : Below w.heap.size w w') : MfW w' := ⟨h.mw.below hb, h.pt.below hb, h.mx.below hb⟩

def rej3 (c k : Nat) : Value := .agg #[.int .i64 0, .int .i64 (c : Int), .int .i64 (k : Int)]
/-- The cell of a field. -/
theorem Strs.at {w W : World} {B : Nat} {A : Option Addr} {n c : Nat} {r : List (List UInt8)} (h : Strs w B (.slice A n c) r) (hb : Below B w W) {k : Nat} {f : List UInt8} (hf : r[k]? = some f) : ∃ b o, A = some ⟨b, o, none⟩ ∧ b < B ∧ W.cell? ⟨b, o + k, none⟩ = some (.string ⟨f.toArray⟩) := by
  obtain ⟨A', n', c', e, _, _, h⟩ := h
  injection e with e1 e2 e3
  subst e1
  obtain ⟨g, hg⟩ : ∃ g, r[0]? = some g := ⟨_, List.getElem?_eq_getElem (by have := (List.getElem?_eq_some_iff.1 hf).1; omega)⟩
  obtain ⟨ad0, u0, e0, _, hc0, _⟩ := h 0 g hg
  obtain ⟨ad, u, rfl, hlt, hc, rfl⟩ := h k f hf
  injection e0 with e0
  subst e0
  have hk := (hb.cell (p := ad.add k) (by rw [block_add]; exact hlt)).trans hc
  rw [Addr.add_zero'] at hc0
  have hsp := World.cell?_spot hc0
  obtain ⟨b, o, sp⟩ := ad
  simp only [] at hsp
  subst hsp
  exact ⟨b, o, rfl, hlt, by rw [Addr.add_lit] at hk; exact hk⟩
theorem Strs.shape {w : World} {B : Nat} {v : Value} {r : List (List UInt8)} (h : Strs w B v r) : ∃ A c, v = .slice A r.length c := by
  obtain ⟨A', n', c', rfl, rfl, _, _⟩ := h
  exact ⟨_, _, rfl⟩
theorem text_ne {a b : List UInt8} (h : a ≠ b) : (a == b) = false := by simpa using h
theorem text_eq {a b : List UInt8} (h : a = b) : (a == b) = true := by simpa using h
theorem below_dq {B : Nat} {a b : World} (h : Below B a b) (n : Nat) : Below B a (b.drewN n) := ⟨h.os, h.tape, h.output, h.size, h.block⟩
theorem two_blocks (w : World) (o p : Obj) {W : World} (h : (w.alloc o).alloc p = W) : Below w.heap.size w W ∧ W.heap[w.heap.size]? = some o ∧ W.heap[w.heap.size + 1]? = some p := by
  subst h
  refine ⟨(below_alloc _ _).alloc (by simp) _, heap_keep (heap_new w o) (below_alloc _ _), ?_⟩
  have := heap_new (w.alloc o) p
  rwa [show (w.alloc o).heap.size = w.heap.size + 1 by simp] at this
theorem set_other {w : World} {b c i : Nat} {o : Obj} (h : w.heap[b]? = some o) (hne : c ≠ b) (v : Value) : (w.setCell ⟨c, i, none⟩ v).heap[b]? = some o := by
  have : ¬ c = b := hne
  simp [World.setCell, Array.getElem?_modify, h, this]
theorem froz5a {w : World} {b : Nat} {x0 x1 x2 x3 x4 : Value} {T : TypeId} (h : w.heap[b]? = some (.cells #[x0, x1, x2, x3, x4] T (0, 0))) : w.frozen? ⟨b, 0, none⟩ = false ∧ w.frozen? ⟨b, 1, none⟩ = false ∧ w.frozen? ⟨b, 2, none⟩ = false ∧ w.frozen? ⟨b, 3, none⟩ = false ∧ w.frozen? ⟨b, 4, none⟩ = false :=
  ⟨frozen_at h 0, frozen_at h 1, frozen_at h 2, frozen_at h 3, frozen_at h 4⟩
theorem set5a {w : World} {b : Nat} {x0 x1 x2 x3 x4 : Value} {T : TypeId} (h : w.heap[b]? = some (.cells #[x0, x1, x2, x3, x4] T (0, 0))) (p0 p1 p2 p3 p4 : Value) :
    (((((w.setCell ⟨b, 0, none⟩ p0).setCell ⟨b, 1, none⟩ p1).setCell ⟨b, 2, none⟩ p2).setCell ⟨b, 3, none⟩ p3).setCell ⟨b, 4, none⟩ p4).heap[b]? = some (.cells #[p0, p1, p2, p3, p4] T (0, 0)) := by
  simp [World.setCell, Array.getElem?_modify, h]
/-- The element of a slice. -/
theorem Sl.at {α : Type} {w W : World} {B : Nat} {R : Value → α → Prop} {A : Option Addr} {n c : Nat} {L : List α} (h : Sl w B R (.slice A n c) L) (hb : Below B w W) {k : Nat} {x : α} (hx : L[k]? = some x) : ∃ b o u, A = some ⟨b, o, none⟩ ∧ b < B ∧ W.cell? ⟨b, o + k, none⟩ = some u ∧ R u x := by
  obtain ⟨A', n', c', e, _, _, h⟩ := h
  injection e with e1 e2 e3
  subst e1
  obtain ⟨g, hg⟩ : ∃ g, L[0]? = some g := ⟨_, List.getElem?_eq_getElem (by have := (List.getElem?_eq_some_iff.1 hx).1; omega)⟩
  obtain ⟨ad0, u0, e0, _, hc0, _⟩ := h 0 g hg
  obtain ⟨ad, u, rfl, hlt, hc, hr⟩ := h k x hx
  injection e0 with e0
  subst e0
  have hk := (hb.cell (p := ad.add k) (by rw [block_add]; exact hlt)).trans hc
  rw [Addr.add_zero'] at hc0
  have hsp := World.cell?_spot hc0
  obtain ⟨b, o, sp⟩ := ad
  simp only [] at hsp
  subst hsp
  exact ⟨b, o, u, rfl, hlt, by rw [Addr.add_lit] at hk; exact hk, hr⟩
theorem Sl.shape {α : Type} {w : World} {B : Nat} {R : Value → α → Prop} {v : Value} {L : List α} (h : Sl w B R v L) : ∃ A c, v = .slice A L.length c := by
  obtain ⟨A', n', c', rfl, rfl, _, _⟩ := h
  exact ⟨_, _, rfl⟩
theorem four_blocks (w w1 : World) (o p x y : Obj) {W : World} (hb : Below ((w.alloc o).alloc p).heap.size ((w.alloc o).alloc p) w1) (h : (w1.alloc x).alloc y = W) : Below w.heap.size w W ∧ W.heap[w.heap.size]? = some o ∧ W.heap[w.heap.size + 1]? = some p ∧ W.heap[w1.heap.size]? = some x ∧ W.heap[w1.heap.size + 1]? = some y ∧ w.heap.size + 1 < w1.heap.size ∧ Below w1.heap.size w1 W := by
  obtain ⟨h1, h2, h3⟩ := two_blocks w o p rfl
  obtain ⟨g1, g2, g3⟩ := two_blocks w1 x y h
  have e2 := heap_keep h2 hb
  have e3 := heap_keep h3 hb
  exact ⟨bch (bch h1 hb h1.size) g1 (bch h1 hb h1.size).size, heap_keep e2 g1, heap_keep e3 g1, g2, g3, heap_lt e3, g1⟩
theorem one_block (w : World) (o : Obj) {W : World} (h : w.alloc o = W) : Below w.heap.size w W ∧ W.heap[w.heap.size]? = some o := by
  subst h; exact ⟨below_alloc _ _, heap_new _ _⟩
theorem heap_turned {S : Nat → Prop} {a b : World} {i : Nat} {o : Obj} (h : a.heap[i]? = some o) (ht : Turned S a b) (hi : ¬ S i) : b.heap[i]? = some o := (ht.block i (heap_lt h) hi).trans h
namespace Sk
/-- The sizes of what a text's rows are. -/
structure Small (L : List Line) : Prop where
  rows : L.length ≤ 65536
  full : ∀ r ∈ L, r ≠ []
  fields : ∀ r ∈ L, r.length ≤ 65536
  bytes : ∀ r ∈ L, ∀ f ∈ r, f.length ≤ 65536
theorem Small.nil : Small [] := ⟨by simp, by simp, by simp, by simp⟩
theorem csv_small (t : List UInt8) : Small (Csv.parse t).1 := by
  unfold Csv.parse
  by_cases hl : 65536 < t.length
  · rw [if_pos hl]; exact Small.nil
  · rw [if_neg hl]
    unfold Csv.parseOf
    cases hg : Csv.go t Csv.St.init 0 with
    | inr q => exact Small.nil
    | inl st =>
      simp only []
      by_cases hf : Csv.fin t st = 0
      · rw [if_pos hf]
        have hok := Csv.go_ok t Csv.St.init st 0 ⟨by simp [Csv.St.init], by simp [Csv.St.init, Csv.room, Csv.roomRow]⟩ hg
        have hm := hok.many
        have hr := Csv.room_len st.rows hok.full
        refine ⟨by show st.rows.length ≤ _; omega, hok.full, fun r hr => ?_, fun r hr f hf => ?_⟩
        · have h1 := Csv.room_mem st.rows r hr
          have h2 := Csv.roomRow_len r
          omega
        · have h1 := Csv.room_mem st.rows r hr
          have h2 := Csv.roomRow_mem r f hf
          omega
      · rw [if_neg hf]; exact Small.nil
end Sk
/-- What a file's reading comes to. -/
def ParsedS (R : Sk.Res) (e : Ending) (w' : World) : Prop := ∃ v, e = .returned (.tuple #[.agg #[.int .i64 R.1.1, .int .i64 R.1.2.1, v], rejV R.2]) ∧ Rd w' v R.1.2.2
theorem parsed_bad {R : Sk.Res} {a b c : Nat} {x y z : Int} {w' : World} (h : R = ((0, 0, []), a, b, c)) (hx : x = (a : Int)) (hy : y = (b : Int)) (hz : z = (c : Int)) : ParsedS R (.returned (.tuple #[.agg #[.int .i64 0, .int .i64 0, .slice none 0 0], .agg #[.int .i64 x, .int .i64 y, .int .i64 z]])) w' := by
  subst h; subst hx; subst hy; subst hz
  exact ⟨_, rfl, Rd.nil _⟩
/-- What a statement's printing comes to. -/
def printV (r : List UInt8 × Int) : Value := .tuple #[.string ⟨r.1.toArray⟩, .int .i64 r.2]
theorem bytes_list (t : List UInt8) : (⟨t.toArray⟩ : ByteArray).data.toList = t := by simp
/-- A statement's box and a reject's, made one behind the other. -/
theorem two_kept (w w1 : World) (o p : Obj) {W : World} (hb : Below w.heap.size w w1) (h : (w1.alloc o).alloc p = W) : Below w.heap.size w W ∧ W.heap[w1.heap.size]? = some o ∧ W.heap[w1.heap.size + 1]? = some p ∧ Below w1.heap.size w1 W := by
  obtain ⟨h1, h2, h3⟩ := two_boxes w1 o p h
  exact ⟨bch hb h1 hb.size, h2, h3, h1⟩
end Go.Proofs.YtgpjbigelblanaaGreatDoor

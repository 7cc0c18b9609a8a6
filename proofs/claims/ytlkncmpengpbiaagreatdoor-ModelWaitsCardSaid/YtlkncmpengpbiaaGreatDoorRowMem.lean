/- Rows and statements in memory: how a slice of rows reads, whoever it belongs to. -/
import Derived.Test.YtlkncmpengpbiaaGreatDoorKeyMap
import Derived.Test.YtlkncmpengpbiaaGreatDoorRowSpec
import Derived.Test.YtlkncmpengpbiaaGreatDoorSrcOf
import Derived.StillTailTactics
import Derived.Deep.RegionHeld3
import Derived.OrdersHeld
namespace Go.Proofs.YtlkncmpengpbiaaGreatDoor
open Go.RowKit Go.Maps Key

abbrev tRow : TypeId := 181
abbrev tRows : TypeId := 32
abbrev tStat : TypeId := 34
def mkRow (x : R5) : Value := .agg #[.int .i64 x.1.1, .int .i64 x.1.2, .int .i64 x.2.1, .int .i64 x.2.2.1, .int .i64 x.2.2.2]
def encR (x : R5) : List Value := [.int .i64 x.1.1, .int .i64 x.1.2, .int .i64 x.2.1, .int .i64 x.2.2.1, .int .i64 x.2.2.2]
theorem encR_len (x : R5) : (encR x).length = 5 := rfl
theorem encR_one (x : R5) : ∀ u ∈ encR x, u.oneCell' = true := by
  intro u hu; simp [encR] at hu; rcases hu with rfl | rfl | rfl | rfl | rfl <;> rfl
theorem row_info : (Tryz.prog.info? tRow).map (fun i => (i.zero, i.size, i.bytes)) = some (some (mkRow ((0, 0), 0, 0, 0)), 5, 40) := by kernel_rfl

theorem cell3c {w : World} {b : Nat} {x0 x1 x2 : Value} {T : TypeId} (h : w.heap[b]? = some (.cells #[x0, x1, x2] T (0, 0))) : w.cell? ⟨b, 0, none⟩ = some x0 ∧ w.cell? ⟨b, 1, none⟩ = some x1 ∧ w.cell? ⟨b, 2, none⟩ = some x2 := ⟨cell_at h 0 rfl, cell_at h 1 rfl, cell_at h 2 rfl⟩
/-- A slice that is nil has no room. -/
def NilOk (v : Value) : Prop := ∀ n c, v = .slice none n c → c = 0
/-- The slice v reads as the rows l. -/
def Rd (w : World) (v : Value) (l : List R5) : Prop := SlK w w.heap.size 5 (fun cs x => cs = encR x) v l ∧ NilOk v
theorem Rd.keep {w w' : World} {v : Value} {l : List R5} (h : Rd w v l) (hb : Below w.heap.size w w') : Rd w' v l := ⟨SlK.mono h.1 hb hb.size (fun _ _ _ h => h), h.2⟩
theorem Rd.nil (w : World) : Rd w (.slice none 0 0) [] := ⟨SlK.nil _ _ _ _, fun n c e => by injection e with _ _ e; exact e.symm⟩
theorem Rd.shape {w : World} {v : Value} {l : List R5} (h : Rd w v l) : ∃ A c, v = .slice A l.length c ∧ l.length ≤ c ∧ c ≤ maxLen := SlK.shape h.1
theorem rd_own {w : World} {B : Nat} {v : Value} {l : List R5} (h : w.ownsRow B tRow 5 v l.length (l.flatMap encR)) : Rd w v l := by
  rcases h.2 with ⟨rfl, h0⟩ | ⟨g, cap, cur, rfl, hB, hg, hc, hm, _⟩
  · rw [List.length_eq_zero_iff.1 h0]; exact Rd.nil w
  · refine ⟨⟨_, _, _, rfl, rfl, hc, hm, fun i x hi => ⟨g, 0, encR x, rfl, heap_lt hg, rfl, fun j u hj => ?_, rfl⟩⟩, fun n c e => by injection e with e; cases e⟩
    have hj5 : j < 5 := by have := (List.getElem?_eq_some_iff.1 hj).1; simpa [encR_len] using this
    have := own_cellK encR_len (by omega) h hi j hj5
    rw [hj] at this
    rw [Nat.zero_add]
    exact this
theorem Rd.cells {w W : World} {v : Value} {l : List R5} (h : Rd w v l) (hb : Below w.heap.size w W) {k : Nat} {x : R5} (hx : l[k]? = some x) : ∃ g off n c, v = .slice (some ⟨g, off, none⟩) n c ∧
    W.cell? ⟨g, off + k * 5, none⟩ = some (.int .i64 x.1.1) ∧ W.cell? ⟨g, off + k * 5 + 1, none⟩ = some (.int .i64 x.1.2) ∧ W.cell? ⟨g, off + k * 5 + 2, none⟩ = some (.int .i64 x.2.1) ∧ W.cell? ⟨g, off + k * 5 + 3, none⟩ = some (.int .i64 x.2.2.1) ∧ W.cell? ⟨g, off + k * 5 + 4, none⟩ = some (.int .i64 x.2.2.2) := by
  obtain ⟨A, c, rfl, _⟩ := h.shape
  obtain ⟨g, off, cs, rfl, hgl, hcl, hcell, hcs⟩ := h.1.at hx
  subst hcs
  have hk := fun j u hj => (hb.cell (p := ⟨g, off + k * 5 + j, none⟩) hgl).trans (hcell j u hj)
  exact ⟨g, off, _, _, rfl, hk 0 _ rfl, hk 1 _ rfl, hk 2 _ rfl, hk 3 _ rfl, hk 4 _ rfl⟩
/-- What an append reads of it. -/
theorem Rd.src {w : World} {v : Value} {l : List R5} (h : Rd w v l) : SrcL w v l.length 5 (l.flatMap encR) := by
  obtain ⟨⟨A, n, c, rfl, hl, hn, hm, hc⟩, hnil⟩ := h
  subst hl
  refine ⟨by rw [flat_len encR_len], fun u hu => ?_, ?_⟩
  · obtain ⟨x, _, hx⟩ := List.mem_flatMap.1 hu
    exact encR_one x u hx
  · cases A with
    | none =>
      have h0 := hnil _ _ rfl
      subst h0
      have : l.length = 0 := by omega
      exact .inl ⟨by rw [this], this⟩
    | some a =>
      refine .inr ⟨a, c, rfl, fun j x hj => ?_⟩
      have hjl := (List.getElem?_eq_some_iff.1 hj).1
      rw [flat_len encR_len] at hjl
      rw [flat_get encR_len (by omega)] at hj
      obtain ⟨y, hy⟩ : ∃ y, l[j / 5]? = some y := ⟨_, List.getElem?_eq_getElem (by omega)⟩
      obtain ⟨b, o, cs, e, _, _, hcell, rfl⟩ := hc _ y hy
      injection e with e
      subst e
      rw [hy] at hj
      rw [Addr.add_lit]
      have := hcell (j % 5) x (by simpa using hj)
      rw [Nat.add_assoc, show j / 5 * 5 + j % 5 = j by omega] at this
      exact this
end Go.Proofs.YtlkncmpengpbiaaGreatDoor

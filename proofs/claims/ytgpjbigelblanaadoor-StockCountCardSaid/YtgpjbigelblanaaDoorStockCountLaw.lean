/- What StockCount's files come to, plain; and a table of the call's own in which a row is put in another's place. -/
import Derived.Test.YtgpjbigelblanaaDoorStockCame
import Derived.Test.YtgpjbigelblanaaDoorCsvOwned
namespace Go.Proofs.YtgpjbigelblanaaDoor
open Go.RowKit Go.Maps Key Mon Sk Rw

namespace Sk
theorem roomRow_small : ∀ (b : Line), (∀ f ∈ b, f.length ≤ 20) → Csv.roomRow b ≤ 63 * b.length
  | [], _ => by simp [Csv.roomRow]
  | f :: t, h => by
    have h1 := roomRow_small t fun g hg => h g (List.mem_cons_of_mem _ hg)
    have h2 := h f (List.mem_cons_self ..)
    have e : Csv.roomRow (f :: t) = (3 * f.length + 3) + Csv.roomRow t := by simp [Csv.roomRow]
    rw [e, List.length_cons]
    omega
theorem print_snoc (L : List Line) (b : Line) : Csv.printOf (L ++ [b]) = Csv.printOf L ++ (Csv.rowOf b ++ [10]) := by simp [Csv.printOf]
theorem row_small {b : Line} (hb : b.length ≤ 5) (hf : ∀ f ∈ b, f.length ≤ 20) : (Csv.rowOf b ++ [10]).length ≤ 400 := by
  by_cases h : b = []
  · subst h; simp [Csv.rowOf, Csv.joinC]
  · have h1 := Csv.printOf_room [b] (by simpa using h)
    have h2 := roomRow_small b hf
    have e : Csv.printOf [b] = Csv.rowOf b ++ [10] := by simp [Csv.printOf]
    have e2 : Csv.room [b] = Csv.roomRow b := by simp [Csv.room]
    rw [e, e2] at h1
    omega
theorem parse_behind {q : Int} {l : List R5} (h : validB 1 q l = true) {b : Line} (hb : b.length ≤ 5) (hf : ∀ f ∈ b, f.length ≤ 20) : parseS (Csv.printOf (table q l ++ [b])) = ((0, 0, []), l.length + 3, 1, 7) := by
  have h1 := print_len h
  have h2 := row_small hb hf
  have hlen : (Csv.printOf (table q l ++ [b])).length ≤ 65536 := by rw [print_snoc, List.length_append]; omega
  unfold parseS
  rw [Csv.parse_print _ hlen, List.map_append, Csv.fill_full _ (table_full q l)]
  exact ofTable_behind h (Csv.fill b)
/-- The rows with another count behind them. -/
def tableN (q n : Int) (l : List R5) : List Line := [wHead, Lib.itoa q] :: (l.map rowF ++ [[wEnd, Lib.itoa n]])
theorem table_set (q n : Int) (l : List R5) : (table q l).set (l.length + 1) [wEnd, Lib.itoa n] = tableN q n l := by
  unfold table tableN
  rw [List.set_cons_succ, List.set_append_right _ _ (by simp)]
  simp
theorem tableN_mem {q n : Int} {l : List R5} {r : Line} (h : r ∈ tableN q n l) : r ∈ table q l ∨ r = [wEnd, Lib.itoa n] := by
  unfold tableN at h
  unfold table
  simp only [List.mem_cons, List.mem_append, List.not_mem_nil, or_false] at h ⊢
  rcases h with h | h | h
  · exact .inl (.inl h)
  · exact .inl (.inr (.inl h))
  · exact .inr h
theorem parse_count {q n : Int} {l : List R5} (h : validB 1 q l = true) (hn : 0 ≤ n ∧ n ≤ 255) (hne : n ≠ l.length) : parseS (Csv.printOf (tableN q n l)) = ((0, 0, []), l.length + 2, 2, 4) := by
  have hfull : ∀ r ∈ tableN q n l, ¬ r = [] := fun r hr => by
    rcases tableN_mem hr with h | rfl
    · exact table_full q l r h
    · simp
  obtain ⟨h1, h2, h3, h4, h5⟩ := valid_parts h
  have hlen : (Csv.printOf (tableN q n l)).length ≤ 65536 := by
    refine Nat.le_trans (Csv.printOf_room _ hfull) ?_
    unfold tableN
    rw [room_cons, room_append]
    have a := itoa_len (n := q) 9 (by omega) (by simp; omega)
    have b := itoa_len (n := n) 2 (by omega) (by simp; omega)
    have c := room_rows h4
    have e1 : Csv.roomRow [wHead, Lib.itoa q] = 18 + (3 * (Lib.itoa q).length + 3) := by simp [Csv.roomRow, wHead]
    have e2 : Csv.room [[wEnd, Lib.itoa n]] = 12 + (3 * (Lib.itoa n).length + 3) := by simp [Csv.room, Csv.roomRow, wEnd]
    rw [e1, e2]
    omega
  rw [parse_rows hfull hlen]
  exact ofTable_count h ⟨hn.1, by omega⟩ hne
theorem fits_behind {q : Int} {l : List R5} (h : validB 1 q l = true) {b : Line} (hb : b.length ≤ 5) (hf : ∀ f ∈ b, f.length ≤ 20) : Fits (table q l ++ [b]) := by
  have F := fits_table h
  have h3 := (valid_parts h).2.2.1
  refine ⟨by rw [List.length_append, table_len]; simp; omega, fun r hr => ?_, fun r hr f hfm => ?_⟩
  · rcases List.mem_append.1 hr with hr | hr
    · exact F.fields r hr
    · rw [List.mem_singleton.1 hr]; omega
  · rcases List.mem_append.1 hr with hr | hr
    · exact F.bytes r hr f hfm
    · rw [List.mem_singleton.1 hr] at hfm
      have := hf f hfm
      omega
theorem fits_count {q n : Int} {l : List R5} (h : validB 1 q l = true) (hn : 0 ≤ n ∧ n ≤ 255) : Fits (tableN q n l) := by
  have F := fits_table h
  have b := itoa_len (n := n) 2 (by omega) (by simp; omega)
  refine ⟨by unfold tableN; have := F.rows; unfold table at this; simpa using this, fun r hr => ?_, fun r hr f hfm => ?_⟩
  · rcases tableN_mem hr with hr | rfl
    · exact F.fields r hr
    · simp
  · rcases tableN_mem hr with hr | rfl
    · exact F.bytes r hr f hfm
    · simp only [List.mem_cons, List.not_mem_nil, or_false] at hfm
      rcases hfm with rfl | rfl
      · decide
      · omega
theorem digit_last {n : Nat} (h : n < 256) : (n < 10 → Lib.itoa (n : Int) = [UInt8.ofNat (48 + n)]) ∧ (10 ≤ n → Lib.itoa (n : Int) = Lib.itoa ((n / 10 : Nat) : Int) ++ [UInt8.ofNat (48 + n % 10)]) := by
  have : ∀ m : Fin 256, (m.val < 10 → Lib.itoa (m.val : Int) = [UInt8.ofNat (48 + m.val)]) ∧ (10 ≤ m.val → Lib.itoa (m.val : Int) = Lib.itoa ((m.val / 10 : Nat) : Int) ++ [UInt8.ofNat (48 + m.val % 10)]) := by decide +kernel
  exact this ⟨n, h⟩
end Sk
theorem TabI.one {B : Nat} {w : World} {v : Value} {L : List Line} {vs : List Value} (h : TabI B w v L vs) : ∀ u ∈ vs, u.oneCell' = true := fun u hu => by
  obtain ⟨k, hk, e⟩ := List.getElem_of_mem hu
  have hu' : vs[k]? = some u := by rw [List.getElem?_eq_getElem hk, e]
  obtain ⟨r, hL⟩ : ∃ r, L[k]? = some r := ⟨_, List.getElem?_eq_getElem (by rw [← h.len]; exact hk)⟩
  exact own_one (h.each k u _ hu' hL)
theorem TabI.src {B : Nat} {w : World} {v : Value} {L : List Line} {vs : List Value} (h : TabI B w v L vs) : SrcL w v L.length 1 vs := by
  refine ⟨by rw [h.len]; omega, h.one, ?_⟩
  rcases h.own.2 with ⟨rfl, h0⟩ | ⟨g, cap, cur, rfl, r⟩
  · exact .inl ⟨rfl, h0⟩
  · exact .inr ⟨⟨g, 0, none⟩, cap, rfl, fun j x hj => h.own.cells (g := g) rfl j x hj⟩
/-- A row put in another's place. -/
theorem TabI.put {B : Nat} {w : World} {g n c : Nat} {L : List Line} {vs : List Value} (h : TabI B w (.slice (some ⟨g, 0, none⟩) n c) L vs) {k : Nat} (hk : k < L.length) {u : Value} {r : Line} (hu : w.ownsRow B tFld 1 u r.length (r.map strV)) :
    Rowz (w.setCell ⟨g, k, none⟩ u) w.heap.size (.slice (some ⟨g, 0, none⟩) n c) (L.set k r) := by
  have hsz : (w.setCell ⟨g, k, none⟩ u).heap.size = w.heap.size := by simp [World.setCell]
  have hkeep : ∀ {u' : Value} {r' : Line}, w.ownsRow B tFld 1 u' r'.length (r'.map strV) → Strs (w.setCell ⟨g, k, none⟩ u) w.heap.size u' r' := fun {u' r'} ho => by
    have h1 := own_strs (own_turned ho (turned_set w g k u) (fun j hj e => by
      rcases own_ne ho h.own (by decide) with h0 | h0
      · rw [h0] at hj; cases hj
      · exact h0 (by rw [hj, e]; rfl)))
    rwa [hsz] at h1
  have hlen := h.len
  have hown := h.own.2
  rcases hown with ⟨e, _⟩ | ⟨g', cap, cur, e, hB, hg, hc, hmx, hs, hx⟩
  · cases e
  · injection e with e1 e2 e3
    injection e1 with e1
    injection e1 with e1 _ _
    subst e1; subst e2; subst e3
    have hg' : (w.setCell ⟨g, k, none⟩ u).heap[g]? = some (.cells (cur.setIfInBounds k u) tLine (0, 0)) := by simp [World.setCell, Array.getElem?_modify, hg]
    have hcs : L.length ≤ cur.size := by omega
    refine ⟨_, _, _, rfl, by simp, hc, fun j x hj => ?_⟩
    have hjl : j < L.length := by have := (List.getElem?_eq_some_iff.1 hj).1; simpa using this
    by_cases hjk : j = k
    · subst hjk
      rw [List.getElem?_set_self hjl] at hj
      injection hj with hj
      subst hj
      exact ⟨_, u, rfl, heap_lt hg, by rw [Addr.add_lit, Nat.zero_add]; exact cell_at hg' j (by rw [Array.getElem?_setIfInBounds, if_pos rfl, if_pos (by omega)]), hkeep hu⟩
    · rw [List.getElem?_set_ne (fun e => hjk e.symm)] at hj
      obtain ⟨u', hu'⟩ : ∃ u', vs[j]? = some u' := ⟨_, List.getElem?_eq_getElem (by rw [hlen]; exact hjl)⟩
      refine ⟨_, u', rfl, heap_lt hg, ?_, hkeep (h.each j u' x hu' hj)⟩
      rw [Addr.add_lit, Nat.zero_add]
      refine cell_at hg' j ?_
      have : (cur.toList.take (L.length * 1))[j]? = some u' := by rw [hx]; exact hu'
      rw [List.getElem?_take, if_pos (by omega)] at this
      rw [Array.getElem?_setIfInBounds_ne (fun e => hjk e.symm)]
      simpa using this
end Go.Proofs.YtgpjbigelblanaaDoor

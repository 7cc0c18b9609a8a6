/- Waits in memory, by the list that they are: Start, Due, Stop, New, List. -/
import Derived.Test.YtiapahafaoaniaaWaitsPure
namespace Go.Proofs.Ytiapahafaoaniaa
open Go.RowKit Go.Maps Wa Key

abbrev tWaits : TypeId := 56
structure WA (w : World) (a b : Nat) (l : List W5) : Prop where
  hd : w.heap[a]? = some (.cells #[.map (some b)] tWaits (0, 0))
  mp : MapL Try.prog tKey mkKey mkWait w b (ent l)

theorem WA.cell {w : World} {a b : Nat} {l : List W5} (h : WA w a b l) : w.cell? ⟨a, 0, none⟩ = some (.map (some b)) := cell_at h.hd 0 rfl
theorem WA.lt {w : World} {a b : Nat} {l : List W5} (h : WA w a b l) : a < w.heap.size ∧ b < w.heap.size ∧ a ≠ b := by
  obtain ⟨⟨D, h1, _⟩, _⟩ := h.mp
  refine ⟨heap_lt h.hd, h1.lt, fun e => ?_⟩
  subst e
  obtain ⟨es, c, hb, _⟩ := h1
  rw [h.hd] at hb
  cases hb
theorem WA.kept {w w' : World} {a b : Nat} {l : List W5} {row : Option Nat} (h : WA w a b l) (hg : w.grownBy w' row) (ha : some a ≠ row) (hb : some b ≠ row) : WA w' a b l :=
  ⟨(hg.block a h.lt.1 ha).trans h.hd, h.mp.kept hg hb⟩
theorem WA.below {w w' : World} {a b : Nat} {l : List W5} (h : WA w a b l) (hb : Below w.heap.size w w') : WA w' a b l := h.kept (grown_of_below hb none) (by simp) (by simp)
theorem WA.turn {w w' : World} {a b : Nat} {l m : List W5} {E : List ((Int × Int) × W5)} (h : WA w a b l) (hg : w.grownBy w' (some b)) (hm : MapL Try.prog tKey mkKey mkWait w' b E) (hp : E.Perm (ent m)) : WA w' a b m :=
  ⟨(hg.block a h.lt.1 (by have := h.lt.2.2; simp; exact this)).trans h.hd, hm.perm hp⟩

theorem start_wa (w : World) (a b : Nat) (l : List W5) (o d now : Int) (h : WA w a b l) (hl : l.length < 100000) :
    Calls Try.prog 13 #[.pointer (some ⟨a, 0, none⟩), .agg #[.int .i64 o, .int .i64 d], .int .i64 now] w fun e w' => e = .returned (.tuple #[]) ∧ WA w' a b (startW l (o, d) now) ∧ w.grownBy w' (some b) := by
  cases hk : chkB (o, d) with
  | true =>
    refine (start_store w a b (ent l) o d now h.cell h.mp (by rw [ent_len]; exact hl) hk).mono fun e w' ⟨he, hm, hg⟩ => ⟨he, h.turn hg hm ?_, hg⟩
    have := store_perm l ((o, d), 1, nearI now + 1, false)
    simpa [startW, putW, hk] using this
  | false =>
    refine (start_no w a b o d now h.cell hk).mono fun e w' ⟨he, hb⟩ => ⟨he, ?_, grown_of_below hb _⟩
    rw [show startW l (o, d) now = l by simp [startW, putW, hk]]
    exact h.below hb
theorem due_wa (w : World) (a b : Nat) (l : List W5) (o d now : Int) (h : WA w a b l) (hl : l.length < 100000) :
    Calls Try.prog 17 #[.pointer (some ⟨a, 0, none⟩), .agg #[.int .i64 o, .int .i64 d], .int .i64 now] w fun e w' => e = .returned (.tuple #[]) ∧ WA w' a b (dueW l (o, d) now) ∧ w.grownBy w' (some b) := by
  cases hk : chkB (o, d) with
  | true =>
    refine (due_store w a b (ent l) o d now h.cell h.mp (by rw [ent_len]; exact hl) hk).mono fun e w' ⟨he, hm, hg⟩ => ⟨he, h.turn hg hm ?_, hg⟩
    have := store_perm l ((o, d), 0, nearI now, false)
    simpa [dueW, putW, hk] using this
  | false =>
    refine (due_no w a b o d now h.cell hk).mono fun e w' ⟨he, hb⟩ => ⟨he, ?_, grown_of_below hb _⟩
    rw [show dueW l (o, d) now = l by simp [dueW, putW, hk]]
    exact h.below hb
theorem stop_wa (w : World) (a b : Nat) (l : List W5) (o d : Int) (h : WA w a b l) (hk : (-9223372036854775808 ≤ o ∧ o ≤ 9223372036854775807) ∧ (-9223372036854775808 ≤ d ∧ d ≤ 9223372036854775807)) :
    Calls Try.prog 14 #[.pointer (some ⟨a, 0, none⟩), .agg #[.int .i64 o, .int .i64 d]] w fun e w' => e = .returned (.tuple #[]) ∧ WA w' a b (stopW l (o, d)) ∧ w.grownBy w' (some b) :=
  (stop_store w a b (ent l) o d h.cell h.mp hk).mono fun e w' ⟨he, hm, hg⟩ => ⟨he, h.turn hg hm (by rw [without_ent]), hg⟩
theorem new_wa (w : World) : Calls Try.prog 12 #[] w fun e w' => ∃ a b, e = .returned (.pointer (some ⟨a, 0, none⟩)) ∧ WA w' a b [] ∧ w.heap.size ≤ a ∧ w.heap.size ≤ b ∧ Below w.heap.size w w' :=
  (new_any w).mono fun _ _ ⟨a, b, he, h1, h2, h3, h4, _, h5⟩ => ⟨a, b, he, ⟨h1, h2⟩, h3, h4, h5⟩
theorem list_wa (w : World) (a b : Nat) (l : List W5) (h : WA w a b l) (hg : Wa.Good l) (hl : l.length < 100000) :
    Calls Try.prog 18 #[.pointer (some ⟨a, 0, none⟩)] w fun e w' => ∃ v, e = .returned v ∧ w'.ownsRow w.heap.size tWait 5 v l.length (l.flatMap encW) ∧ Below w.heap.size w w' := by
  refine (list_any w a b (ent l) h.cell h.mp (by rw [ent_len]; exact hl)).mono ?_
  rintro e w' ⟨v, L, he, hp, hs, ho, hb⟩
  rw [ent_snd] at hp
  obtain rfl := hg.eq_of_perm hp hs
  exact ⟨v, he, ho, hb⟩
end Go.Proofs.Ytiapahafaoaniaa

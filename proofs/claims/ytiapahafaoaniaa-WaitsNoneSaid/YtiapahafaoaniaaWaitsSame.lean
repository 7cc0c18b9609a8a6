/- law18: Same, Keys, where they agree. -/
import Derived.Test.YtiapahafaoaniaaWaitsRef2
import Derived.Test.YtiapahafaoaniaaWaitsWaited
namespace Go.Proofs.Ytiapahafaoaniaa
open Go.RowKit Go.Maps Wa Key

theorem own_ptr {w : World} {B : Nat} {e : TypeId} {z n : Nat} {v : Value} {xs : List Value} (h : w.ownsRow B e z v n xs) : (v = .slice none 0 0 ∧ n = 0) ∨ ∃ g c, v = .slice (some ⟨g, 0, none⟩) n c ∧ B ≤ g ∧ g < w.heap.size ∧ n ≤ c := by
  rcases h.2 with h | ⟨g, cap, cur, rfl, hB, hg, hc, _⟩
  · exact .inl h
  · exact .inr ⟨g, cap, rfl, hB, heap_lt hg, hc⟩
theorem own_slice {w : World} {B : Nat} {e : TypeId} {z n : Nat} {v : Value} {xs : List Value} (h : w.ownsRow B e z v n xs) : ∃ A c, v = .slice A n c ∧ (0 < n → ∃ g, A = some ⟨g, 0, none⟩ ∧ B ≤ g ∧ g < w.heap.size) := by
  rcases own_ptr h with ⟨rfl, rfl⟩ | ⟨g, c, rfl, h1, h2, _⟩
  · exact ⟨none, 0, rfl, fun h => by omega⟩
  · exact ⟨_, c, rfl, fun _ => ⟨g, rfl, h1, h2⟩⟩
theorem own_cellK {α : Type} {enc : α → List Value} {z : Nat} (hk : ∀ x, (enc x).length = z) (h0 : 0 < z) {w : World} {B g c : Nat} {e : TypeId} {l : List α} (h : w.ownsRow B e z (.slice (some ⟨g, 0, none⟩) l.length c) l.length (l.flatMap enc)) {i : Nat} {x : α} (hx : l[i]? = some x) (j : Nat) (hj : j < z) :
    w.cell? ⟨g, i * z + j, none⟩ = (enc x)[j]? := by
  have hi := (List.getElem?_eq_some_iff.1 hx).1
  have : i * z + j < l.length * z := by
    calc i * z + j < i * z + z := by omega
      _ = (i + 1) * z := by rw [Nat.add_mul, Nat.one_mul]
      _ ≤ l.length * z := Nat.mul_le_mul_right _ hi
  rw [h.cellAt _ this, flat_get hk h0, show (i * z + j) / z = i by rw [Nat.mul_comm, Nat.mul_add_div h0, Nat.div_eq_of_lt hj]; omega, show (i * z + j) % z = j by rw [Nat.mul_comm, Nat.mul_add_mod, Nat.mod_eq_of_lt hj], hx]
  rfl

set_option maxHeartbeats 1000000 in
theorem keys_true (w : World) (B B' : Nat) (u v : Value) (l : List (Int × Int)) (hu : w.ownsRow B tKey 2 u l.length (l.flatMap encK)) (hv : w.ownsRow B' tKey 2 v l.length (l.flatMap encK)) (hl : l.length < 10000) :
    Calls Try.prog 24 #[u, v] w fun e w' => e = .returned (.bool true) ∧ Below w.heap.size w w' := by
  obtain ⟨A, c, rfl, hA⟩ := own_slice hu
  obtain ⟨A', c', rfl, hA'⟩ := own_slice hv
  have HU := Lib.hid hu
  have HV := Lib.hid hv
  clear hu hv
  have HA := Lib.hid hA
  have HA' := Lib.hid hA'
  clear hA hA'
  go_enter Try.func24, Try.ntmps24
  go_wp2_with fail
  go_loopw [5] (fun i wr => ∃ k : Nat, i = .int .i64 k ∧ k ≤ l.length ∧ Hid (Below w.heap.size w wr)) (fun i _ => l.length - (intOf i).toNat)
  case atStart => exact ⟨0, rfl, by omega, Below.refl _ _⟩
  case round =>
    obtain ⟨k, rfl, hk, HB⟩ := hrel
    by_cases hkl : k < l.length
    · obtain ⟨x, hx⟩ : ∃ x, l[k]? = some x := ⟨_, List.getElem?_eq_getElem hkl⟩
      obtain ⟨g, rfl, _, _⟩ := HA.out (by omega)
      obtain ⟨g', rfl, _, _⟩ := HA'.out (by omega)
      have c0 := own_cellK encK_len (by omega) (own_keep HU.out HB.out) hx 0 (by omega)
      have c1 := own_cellK encK_len (by omega) (own_keep HU.out HB.out) hx 1 (by omega)
      have d0 := own_cellK encK_len (by omega) (own_keep HV.out HB.out) hx 0 (by omega)
      have d1 := own_cellK encK_len (by omega) (own_keep HV.out HB.out) hx 1 (by omega)
      obtain ⟨o, d⟩ := x
      simp only [encK, List.getElem?_cons_zero, List.getElem?_cons_succ] at c0 c1 d0 d1
      rw [Nat.add_zero] at c0 d0
      have hlt : (k : Int) < l.length := by omega
      have hk0 : (0 : Int) ≤ k := by omega
      clear hx
      go_wp2_with fail
      go_quiet (fail)
      go_wp2_with fail
      go_roundw
      case rel => exact ⟨k + 1, by go_num, by omega, ⟨HB.out.os, HB.out.tape, HB.out.output, HB.out.size, HB.out.block⟩⟩
      case measure => simp [intOf]; omega
    · obtain rfl : k = l.length := by omega
      go_wp2_with fail
      go_ret
      exact ⟨rfl, HB.out⟩

set_option maxHeartbeats 1000000 in
theorem same_true (w : World) (a b B : Nat) (v : Value) (l : List W5) (h : WA w a b l) (hr : RWs w B v l) (hg : Wa.Good l) (hl : l.length < 10000) :
    Calls Try.prog 26 #[.pointer (some ⟨a, 0, none⟩), v] w fun e w' => e = .returned (.bool true) ∧ Below w.heap.size w w' := by
  obtain ⟨A', c', rfl, hA'⟩ := own_slice (show w.ownsRow B tRW 5 v l.length (l.flatMap encW) from hr)
  have HR := Lib.hid hr
  have HA' := Lib.hid hA'
  have HL := Lib.hid (list_wa w a b l h hg (by omega))
  clear h hr hg hA'
  go_enter Try.func26, Try.ntmps26
  go_wp2_with fail
  refine HL.out.mono ?_
  rintro e w1 ⟨u, rfl, ho, hb⟩
  obtain ⟨A, c, rfl, hA⟩ := own_slice ho
  have HU := Lib.hid ho
  have HA := Lib.hid hA
  have HR1 := Lib.hid (HR.out.below hb)
  have HB1 := Lib.hid hb
  clear ho hb hA
  go_wp2_with fail
  go_loopw [6] (fun i wr => ∃ k : Nat, i = .int .i64 k ∧ k ≤ l.length ∧ Hid (Below w1.heap.size w1 wr)) (fun i _ => l.length - (intOf i).toNat)
  case atStart => exact ⟨0, rfl, by omega, Below.refl _ _⟩
  case round =>
    obtain ⟨k, rfl, hk, HB⟩ := hrel
    by_cases hkl : k < l.length
    · obtain ⟨x, hx⟩ : ∃ x, l[k]? = some x := ⟨_, List.getElem?_eq_getElem hkl⟩
      obtain ⟨g, rfl, _, _⟩ := HA.out (by omega)
      obtain ⟨g', rfl, _, _⟩ := HA'.out (by omega)
      have c0 := own_cellK encW_len (by omega) (own_keep HU.out HB.out) hx 0 (by omega)
      have c1 := own_cellK encW_len (by omega) (own_keep HU.out HB.out) hx 1 (by omega)
      have c2 := own_cellK encW_len (by omega) (own_keep HU.out HB.out) hx 2 (by omega)
      have c3 := own_cellK encW_len (by omega) (own_keep HU.out HB.out) hx 3 (by omega)
      have c4 := own_cellK encW_len (by omega) (own_keep HU.out HB.out) hx 4 (by omega)
      have d0 := own_cellK encW_len (by omega) (own_keep HR1.out HB.out) hx 0 (by omega)
      have d1 := own_cellK encW_len (by omega) (own_keep HR1.out HB.out) hx 1 (by omega)
      have d2 := own_cellK encW_len (by omega) (own_keep HR1.out HB.out) hx 2 (by omega)
      have d3 := own_cellK encW_len (by omega) (own_keep HR1.out HB.out) hx 3 (by omega)
      have d4 := own_cellK encW_len (by omega) (own_keep HR1.out HB.out) hx 4 (by omega)
      obtain ⟨⟨o, d⟩, t, n, p⟩ := x
      simp only [encW, List.getElem?_cons_zero, List.getElem?_cons_succ] at c0 c1 c2 c3 c4 d0 d1 d2 d3 d4
      rw [Nat.add_zero] at c0 d0
      have hlt : (k : Int) < l.length := by omega
      have hk0 : (0 : Int) ≤ k := by omega
      clear hx
      go_wp2_with fail
      go_quiet (fail)
      go_wp2_with fail
      go_roundw
      case rel => exact ⟨k + 1, by go_num, by omega, ⟨HB.out.os, HB.out.tape, HB.out.output, HB.out.size, HB.out.block⟩⟩
      case measure => simp [intOf]; omega
    · obtain rfl : k = l.length := by omega
      go_wp2_with fail
      go_ret
      exact ⟨rfl, bch HB1.out HB.out HB1.out.size⟩
end Go.Proofs.Ytiapahafaoaniaa

/- waits.List: the closure, the range, the sort. -/
import Derived.Test.YtlkncmpengpbiaaGreatDoorWaitsStart
import Derived.Test.YtlkncmpengpbiaaGreatDoorSortK
import Derived.Maps.AppendAt
import Derived.Test.YtlkncmpengpbiaaGreatDoorShelf
namespace Go.Proofs.YtlkncmpengpbiaaGreatDoor
open Go.RowKit Go.Maps Go.Sort Go.Shelf Go.Lib Wa Key
set_option maxRecDepth 100000

def encW (x : W5) : List Value := [.int .i64 x.1.1, .int .i64 x.1.2, .int .i64 x.2.1, .int .i64 x.2.2.1, .bool x.2.2.2]
theorem encW_len (x : W5) : (encW x).length = 5 := rfl
def lessW (x y : W5) : Bool := lessB x.1.1 x.1.2 y.1.1 y.1.2
def cmpW (x y : W5) : Int := if lessW x y then -1 else 1
theorem wait_info : (Tryz.prog.info? tWait).map (fun i => (i.zero, i.size, i.bytes)) = some (some (mkWait ((0, 0), 0, 0, false)), 5, 40) := by kernel_rfl

theorem less_growW (a b c d : Int) (w : World) : Calls Tryz.prog 72 #[.agg #[.int .i64 a, .int .i64 b], .agg #[.int .i64 c, .int .i64 d]] w fun e w' => e = .returned (.bool (lessB a b c d)) ∧ ∃ os, w' = grow w os := by
  by_cases h : a = c
  · by_cases h2 : b < d
    · have HF := Lib.hid (show lessB a b c d = true by unfold lessB; simp; omega)
      have hb := beqT h
      have hb2 := bneF h
      have hl : ¬ a < c := by omega
      clear h
      go_enter Tryz.func72, Tryz.ntmps72
      go_wp2_with fail
      go_ret
      exact ⟨by rw [HF.out]; rfl, _, by rw [alloc_eq_grow, alloc_eq_grow, grow_grow]⟩
    · have HF := Lib.hid (show lessB a b c d = false by unfold lessB; simp; omega)
      have hb := beqT h
      have hb2 := bneF h
      have hl : ¬ a < c := by omega
      clear h
      go_enter Tryz.func72, Tryz.ntmps72
      go_wp2_with fail
      go_ret
      exact ⟨by rw [HF.out]; rfl, _, by rw [alloc_eq_grow, alloc_eq_grow, grow_grow]⟩
  · by_cases h2 : a < c
    · have HF := Lib.hid (show lessB a b c d = true by unfold lessB; simp; omega)
      have hb := beqF h
      have hb2 := bneT h
      go_enter Tryz.func72, Tryz.ntmps72
      go_wp2_with fail
      go_ret
      exact ⟨by rw [HF.out]; rfl, _, by rw [alloc_eq_grow, alloc_eq_grow, grow_grow]⟩
    · have HF := Lib.hid (show lessB a b c d = false by unfold lessB; simp; omega)
      have hb := beqF h
      have hb2 := bneT h
      go_enter Tryz.func72, Tryz.ntmps72
      go_wp2_with fail
      go_ret
      exact ⟨by rw [HF.out]; rfl, _, by rw [alloc_eq_grow, alloc_eq_grow, grow_grow]⟩

theorem lessClosureW (x y : W5) (w : World) : Calls Tryz.prog 71 #[.agg (encW x).toArray, .agg (encW y).toArray] w fun e w' => e = .returned (.int .i64 (cmpW x y)) ∧ ∃ q os, w' = grow (w.drewN q) os := by
  obtain ⟨⟨a, b⟩, t, n, p⟩ := x
  obtain ⟨⟨c, d⟩, t', n', p'⟩ := y
  have HL := Lib.hid (less_growW a b c d)
  change Calls _ _ #[.agg #[.int .i64 a, .int .i64 b, .int .i64 t, .int .i64 n, .bool p], .agg #[.int .i64 c, .int .i64 d, .int .i64 t', .int .i64 n', .bool p']] _ _
  cases hl : lessB a b c d with
  | true =>
    have HF := Lib.hid (show cmpW ((a, b), t, n, p) ((c, d), t', n', p') = -1 by unfold cmpW lessW; simp [hl])
    rw [hl] at HL
    go_enter Tryz.func71, Tryz.ntmps71
    go_wp2_with fail
    refine (HL.out _).mono ?_
    rintro e w' ⟨rfl, os, rfl⟩
    go_wp2_with fail
    go_ret
    exact ⟨by rw [HF.out]; rfl, 0, _, by rw [alloc_eq_grow, alloc_eq_grow, grow_grow, grow_grow]; rfl⟩
  | false =>
    have HF := Lib.hid (show cmpW ((a, b), t, n, p) ((c, d), t', n', p') = 1 by unfold cmpW lessW; simp [hl])
    rw [hl] at HL
    go_enter Tryz.func71, Tryz.ntmps71
    go_wp2_with fail
    refine (HL.out _).mono ?_
    rintro e w' ⟨rfl, os, rfl⟩
    go_wp2_with fail
    go_ret
    exact ⟨by rw [HF.out]; rfl, 0, _, by rw [alloc_eq_grow, alloc_eq_grow, grow_grow, grow_grow]; rfl⟩

theorem swoW : SWO (ltOf cmpW) := by
  have e : ∀ x y : W5, ltOf cmpW x y = lessW x y := by
    intro x y
    unfold ltOf cmpW
    cases lessW x y <;> simp
  refine ⟨fun x => ?_, fun x y z h1 h2 => ?_, fun x y z h1 h2 => ?_⟩
  · rw [e]; unfold lessW lessB; simp
  · rw [e] at *; unfold lessW lessB at *; simp at *; omega
  · rw [e] at *; unfold lessW lessB at *; simp at *; omega

set_option maxHeartbeats 1000000 in
theorem list_any (w : World) (a b : Nat) (E : List ((Int × Int) × W5)) (hc : w.cell? ⟨a, 0, none⟩ = some (.map (some b))) (hm : MapL Tryz.prog tKey mkKey mkWait w b E) (hE : E.length < 100000) :
    Calls Tryz.prog 41 #[.pointer (some ⟨a, 0, none⟩)] w fun e w' => ∃ (v : Value) (L : List W5), e = .returned v ∧ L.Perm (E.map (·.2)) ∧ L.Pairwise (fun x y => lessW y x = false) ∧ w'.ownsRow w.heap.size tWait 5 v L.length (L.flatMap encW) ∧ Below w.heap.size w w' := by
  obtain ⟨i0, hi, hz0, hz1, hz2⟩ := info_parts wait_info
  have HM := Lib.hid hm
  have hlt := World.block_lt_of_cell? w _ hc
  simp only [] at hlt
  have hbl : b < w.heap.size := by obtain ⟨⟨D, h1, _⟩, _⟩ := HM.out; exact h1.lt
  clear hm
  go_enter Tryz.func41, Tryz.ntmps41
  go_wp2_with fail
  refine (nonep_any _ a b hc).mono ?_
  rintro e w0 ⟨rfl, hw⟩; subst hw
  go_wp2_with (first
    | (at_range; refine wpList_rangeL _ rfl _ tMapW rfl tKey tWait lawKey mapW b E rfl HM.out ?_; intro w0 cnt0 hrg0 hg0 hs0))
  go_frame
  go_loopw [3] (fun v wr => ∃ done cnt, RangeL Tryz.prog tKey mkKey mkWait wr b w.heap.size E done cnt ∧ wr.ownsRow (w.heap.size + 1) tWait 5 v done.length ((done.map (·.2)).flatMap encW) ∧ Hid (Below w.heap.size w wr)) (fun _ wr => wr.rangeLeft b w.heap.size)
  case atStart =>
    exact ⟨[], cnt0, hrg0, World.ownsRow_nil _ _ _ _, (Below.refl _ _).grown hg0 (Nat.le_refl _) (fun k hk => by cases hk)⟩
  case round =>
    obtain ⟨done, cnt, hrg, hrow, HB⟩ := hrel
    have hsz := HB.out.size
    have hdl := hrg.len
    have hrlt := hrg.lt.1
    go_wp2_with (first
      | (at_next; refine wpList_nextL _ rfl _ rfl tKey lawKey b w.heap.size E done cnt rfl hrg (fun hperm => ?_) (fun x v w1 cnt1 hin hnin hrg1 hlt1 hg1 hs1 hen => ?_); rotate_left; (obtain ⟨x1, x2⟩ := x; obtain ⟨⟨o, d⟩, t, n, p⟩ := v; simp only [mkKey, mkWait] at hen ⊢))
      | (at_builtin; go_loud (refine wpList_append_own_at _ rfl (.tmp 17) (.tmp 19) 49 rfl (w.heap.size + 1) tWait i0 (mkWait ((0, 0), 0, 0, false)) 5 40 Tryz.underlying49 hi hz0 hz1 hz2 rfl (by decide) u3 done.length ((done.map (·.2)).flatMap encW) rfl (((hrow.kept hg1 (.inr (row_ne hrow (by omega)).symm)).alloc _).alloc _) ⟨wr.heap.size + 1, 0, none⟩ 1 1 (encW ((o, d), t, n, p)) rfl rfl (five_at _ _ (by simp; omega) _ _ _ _ _ _) (by intro u hu; simp [encW] at hu; rcases hu with rfl | rfl | rfl | rfl | rfl <;> rfl) (by unfold maxLen; omega) (by omega) (by simp; omega) ?_; intro v2 w2 ho2 hg2 _ hat2)))
    · go_roundw
      case rel =>
        refine ⟨done ++ [((x1, x2), (o, d), t, n, p)], cnt1, ((hrg1.alloc _).alloc _).kept hg2 (row_ne hrow (by omega)) (row_ne hrow (by omega)), by simpa using ho2, ?_⟩
        exact (((HB.out.grown hg1 hsz (fun k hk => by cases hk; omega)).alloc (by omega) _).alloc (by simp; omega) _).grown hg2 (by simp; omega) (fun k hk => by have := (hrow.lt _ hk).1; omega)
      case measure =>
        have h2 : RangeL Tryz.prog tKey mkKey mkWait w2 b w.heap.size E _ cnt1 := ((hrg1.alloc _).alloc _).kept hg2 (row_ne hrow (by omega)) (row_ne hrow (by omega))
        rw [h2.left, hrg.left]
        exact hlt1
    · have HP := Lib.hid hperm
      have hlen : (done.map (·.2)).length = done.length := List.length_map _
      rcases hrow.2 with ⟨rfl, h0⟩ | ⟨g, cap, cur, hv, hg, hcur, hn, hcap, _, _⟩
      · have hs := AnyF.slices_SortFunc_none Tryz.sortWait none 0 (.func (.func 71) #[] #[]) wr
        refine hs.mono ?_
        rintro e w' ⟨rfl, rfl⟩
        have HR := Lib.hid hrow
        clear hs hrow hrg hperm hlen
        go_wp2_with fail
        go_ret
        obtain rfl := List.eq_nil_of_length_eq_zero h0
        have hE0 : E = [] := HP.out.nil_eq.symm
        subst hE0
        exact ⟨_, [], rfl, by simp, List.Pairwise.nil, World.ownsRow_nil _ _ _ _, HB.out⟩
      · subst hv
        have HR := Lib.hid hrow
        have hrow' : wr.ownsRow (w.heap.size + 1) tWait 5 (.slice (some ⟨g, 0, none⟩) (done.map (·.2)).length cap) (done.map (·.2)).length ((done.map (·.2)).flatMap encW) := by rw [hlen]; exact hrow
        have hs := AnyQ.slices_SortFunc Tryz.sortWait 5 (fun _ => by kernel_rfl) (fun _ => by kernel_rfl) encW encW_len (fun x v hv => by simp [encW] at hv; rcases hv with rfl | rfl | rfl | rfl | rfl <;> rfl) cmpW swoW 71 #[] g 0 cap (done.map (·.2)).toArray wr (enters_of Tryz.func71 (by kernel_rfl) rfl) (fun _ _ _ _ x y => lessClosureW x y _) (own_holdsK encW_len (by omega) hrow') (Array.getElem?_eq_some_iff.1 hcur).1 (by simp; omega)
        rw [show (done.map (·.2)).toArray.size = done.length by simp] at hs
        refine hs.mono ?_
        rintro e w' ⟨rfl, d', m, os, hp, hsd, rfl⟩
        have HX := Lib.hid (sorted_list (lt := ltOf cmpW) (L := done.map (·.2)) (d' := d') (by simpa using hp) (by simpa using hsd))
        have HO := Lib.hid (own_sortedK encW_len (by omega) (n := m) (os := os) hrow' (M := d'.toList) (by have := hp.1; simpa using this))
        have HB2 := Lib.hid (HB.out.grown (grownBy_sortedK (g := g) (enc := encW) (k := 5) (n := m) (os := os) d') hsz (fun k hk => by cases hk; omega))
        clear hs hrow hrow' hrg hperm hp hsd hcur
        go_wp2_with fail
        go_ret
        obtain ⟨x1, x2⟩ := HX.out
        have ho := HO.out
        rw [hlen] at ho
        refine ⟨_, d'.toList, rfl, x1.trans (HP.out.map _), x2.imp (fun {a b} h => ?_), ?_, HB2.out⟩
        · unfold ltOf cmpW at h
          cases hl : lessW b a <;> simp [hl] at h ⊢
        · rw [show d'.toList.length = done.length by rw [x1.length_eq, hlen]]
          exact own_weak (by simpa using ho) (by omega)
end Go.Proofs.YtlkncmpengpbiaaGreatDoor
/- What is done with waits, as plain functions on the list in its order; no Go is in sight. -/
namespace Go.Proofs.YtlkncmpengpbiaaGreatDoor
namespace Wa
open Key

def stopW (l : List W5) (k : Int × Int) : List W5 := l.filter fun x => decide (x.1 ≠ k)
def placeW (l : List W5) (x : W5) : List W5 := l.takeWhile (fun y => lessW y x) ++ x :: l.dropWhile (fun y => lessW y x)
def putW (l : List W5) (x : W5) : List W5 := if chkB x.1 then placeW (stopW l x.1) x else l
def startW (l : List W5) (k : Int × Int) (now : Int) : List W5 := putW l (k, 1, nearI now + 1, false)
def dueW (l : List W5) (k : Int × Int) (now : Int) : List W5 := putW l (k, 0, nearI now, false)
def hasW (l : List W5) (k : Int × Int) : Bool := l.any fun x => decide (x.1 = k)
def dueB (m : Int) (x : W5) : Bool := !x.2.2.2 && decide (x.2.2.1 ≤ m)
def tickX (m : Int) (x : W5) : W5 := if dueB m x then (if 5 ≤ x.2.1 then (x.1, x.2.1, x.2.2.1, true) else (x.1, x.2.1 + 1, m + gapI (x.2.1 + 1), false)) else x
def tellB (m : Int) (x : W5) : Bool := dueB m x && decide (x.2.1 < 5)
def tickW (l : List W5) (now : Int) : List W5 := l.map (tickX (nearI now))
def toldW (l : List W5) (now : Int) : List (Int × Int) := (l.filter (tellB (nearI now))).map (·.1)
def ent (l : List W5) : List ((Int × Int) × W5) := l.map fun x => (x.1, x)

theorem less_trans {x y z : W5} (h1 : lessW x y = true) (h2 : lessW y z = true) : lessW x z = true := by unfold lessW lessB at *; simp at *; omega
theorem less_ne {x y : W5} (h : lessW x y = true) : x.1 ≠ y.1 := by
  intro e; unfold lessW lessB at h; rw [e] at h; simp at h
theorem less_tri {x y : W5} (h1 : lessW x y = false) (h2 : lessW y x = false) : x.1 = y.1 := by
  unfold lessW lessB at *; simp at *; exact Prod.ext (by omega) (by omega)
theorem less_asym {x y : W5} (h : lessW x y = true) : lessW y x = false := by
  cases e : lessW y x
  · rfl
  · exact absurd rfl (less_ne (less_trans h e))
theorem less_key {x y x' y' : W5} (h : lessW x y = true) (hx : x'.1 = x.1) (hy : y'.1 = y.1) : lessW x' y' = true := by
  unfold lessW at *; rw [hx, hy]; exact h

structure Good (l : List W5) : Prop where
  srt : l.Pairwise (fun x y => lessW x y = true)
  keys : ∀ x ∈ l, chkB x.1 = true
  bd : ∀ x ∈ l, 0 ≤ x.2.1 ∧ x.2.1 ≤ 5 ∧ 0 ≤ x.2.2.1 ∧ x.2.2.1 ≤ 1099511627792

theorem Good.nil : Good [] := ⟨List.Pairwise.nil, by simp, by simp⟩
theorem Good.uniq {l : List W5} (h : Good l) : ∀ {x y : W5}, x ∈ l → y ∈ l → x.1 = y.1 → x = y := by
  intro x y hx hy e
  have hs := h.srt
  clear h
  induction l with
  | nil => cases hx
  | cons z l ih =>
    rw [List.pairwise_cons] at hs
    rcases List.mem_cons.1 hx with rfl | hx'
    · rcases List.mem_cons.1 hy with rfl | hy
      · rfl
      · exact absurd e (less_ne (hs.1 _ hy))
    · rcases List.mem_cons.1 hy with rfl | hy
      · exact absurd e.symm (less_ne (hs.1 x (by assumption)))
      · exact ih (by assumption) hy hs.2
theorem Good.eq_of_perm {l L : List W5} (h : Good l) (hp : L.Perm l) (hL : L.Pairwise (fun x y => lessW y x = false)) : L = l :=
  List.Perm.eq_of_pairwise (le := fun x y => lessW y x = false) (fun _ _ ha hb h1 h2 => h.uniq (hp.mem_iff.1 ha) hb (less_tri h2 h1)) hL (h.srt.imp fun h => less_asym h) hp
theorem Good.filter {l : List W5} (h : Good l) (p : W5 → Bool) : Good (l.filter p) :=
  ⟨h.srt.filter p, fun x hx => h.keys x (List.mem_filter.1 hx).1, fun x hx => h.bd x (List.mem_filter.1 hx).1⟩
theorem Good.stop {l : List W5} (h : Good l) (k : Int × Int) : Good (stopW l k) := h.filter _
theorem mem_place {l : List W5} {x y : W5} : y ∈ placeW l x ↔ y = x ∨ y ∈ l := by
  unfold placeW
  have : y ∈ l ↔ y ∈ l.takeWhile (fun y => lessW y x) ∨ y ∈ l.dropWhile (fun y => lessW y x) := by
    rw [← List.mem_append, List.takeWhile_append_dropWhile]
  rw [this]
  simp only [List.mem_append, List.mem_cons]
  constructor
  · rintro (h | h | h)
    · exact .inr (.inl h)
    · exact .inl h
    · exact .inr (.inr h)
  · rintro (h | h | h)
    · exact .inr (.inl h)
    · exact .inl h
    · exact .inr (.inr h)
theorem take_less {x : W5} : ∀ {l : List W5}, ∀ y ∈ l.takeWhile (fun y => lessW y x), lessW y x = true := by
  intro l y hy
  induction l with
  | nil => cases hy
  | cons z l ih =>
    rw [List.takeWhile_cons] at hy
    split at hy
    · rcases List.mem_cons.1 hy with rfl | hy
      · assumption
      · exact ih hy
    · cases hy
theorem drop_more {l : List W5} (h : l.Pairwise (fun x y => lessW x y = true)) {x : W5} (hx : ∀ y ∈ l, y.1 ≠ x.1) : ∀ y ∈ l.dropWhile (fun y => lessW y x), lessW x y = true := by
  intro y hy
  induction l with
  | nil => cases hy
  | cons z l ih =>
    rw [List.pairwise_cons] at h
    rw [List.dropWhile_cons] at hy
    split at hy
    · exact ih h.2 (fun y hy => hx y (List.mem_cons_of_mem _ hy)) hy
    · rename_i hz
      have hxz : lessW x z = true := by
        cases e : lessW x z
        · exact absurd (less_tri (by simpa using hz) e) (hx z (List.mem_cons_self ..))
        · rfl
      rcases List.mem_cons.1 hy with rfl | hy
      · exact hxz
      · exact less_trans hxz (h.1 _ hy)
theorem mem_stop {l : List W5} {k : Int × Int} {x : W5} : x ∈ stopW l k ↔ x ∈ l ∧ x.1 ≠ k := by unfold stopW; simp
theorem Good.place {l : List W5} (h : Good l) {x : W5} (hx : ∀ y ∈ l, y.1 ≠ x.1) (hk : chkB x.1 = true) (hb : 0 ≤ x.2.1 ∧ x.2.1 ≤ 5 ∧ 0 ≤ x.2.2.1 ∧ x.2.2.1 ≤ 1099511627792) : Good (placeW l x) := by
  refine ⟨?_, fun y hy => ?_, fun y hy => ?_⟩
  · have ht := take_less (x := x) (l := l)
    have hd := drop_more h.srt hx
    have hs := h.srt
    unfold placeW
    rw [List.pairwise_append, List.pairwise_cons]
    exact ⟨h.srt.sublist (List.takeWhile_sublist _), ⟨hd, h.srt.sublist (List.dropWhile_sublist _)⟩, fun a ha b hb => by
      rcases List.mem_cons.1 hb with rfl | hb
      · exact ht a ha
      · exact less_trans (ht a ha) (hd b hb)⟩
  · rcases mem_place.1 hy with rfl | hy
    · exact hk
    · exact h.keys y hy
  · rcases mem_place.1 hy with rfl | hy
    · exact hb
    · exact h.bd y hy
theorem Good.put {l : List W5} (h : Good l) {x : W5} (hb : 0 ≤ x.2.1 ∧ x.2.1 ≤ 5 ∧ 0 ≤ x.2.2.1 ∧ x.2.2.1 ≤ 1099511627792) : Good (putW l x) := by
  unfold putW
  split
  · exact (h.stop _).place (fun y hy => (mem_stop.1 hy).2) (by assumption) hb
  · exact h
theorem Good.start {l : List W5} (h : Good l) (k : Int × Int) (now : Int) : Good (startW l k now) := h.put (by have := near_bd now; simp; omega)
theorem Good.due {l : List W5} (h : Good l) (k : Int × Int) (now : Int) : Good (dueW l k now) := h.put (by have := near_bd now; simp; omega)
theorem tick_key (m : Int) (x : W5) : (tickX m x).1 = x.1 := by unfold tickX; cases dueB m x <;> by_cases h : 5 ≤ x.2.1 <;> simp [h]
theorem Good.tick {l : List W5} (h : Good l) (now : Int) : Good (tickW l now) := by
  unfold tickW
  refine ⟨?_, fun y hy => ?_, fun y hy => ?_⟩
  · rw [List.pairwise_map]
    exact h.srt.imp fun h => less_key h (tick_key _ _) (tick_key _ _)
  · obtain ⟨x, hx, rfl⟩ := List.mem_map.1 hy
    rw [tick_key]
    exact h.keys x hx
  · obtain ⟨x, hx, rfl⟩ := List.mem_map.1 hy
    have hb := h.bd x hx
    have hn := near_bd now
    unfold tickX
    split
    · split
      · exact hb
      · have hg := gap_bd (x.2.1 + 1)
        refine ⟨?_, ?_, ?_, ?_⟩ <;> simp only [] <;> omega
    · exact hb

theorem stop_len (l : List W5) (k : Int × Int) : (stopW l k).length ≤ l.length := List.length_filter_le _ _
theorem place_len (l : List W5) (x : W5) : (placeW l x).length = l.length + 1 := by
  unfold placeW
  have := congrArg List.length (List.takeWhile_append_dropWhile (p := fun y => lessW y x) (l := l))
  rw [List.length_append] at this
  rw [List.length_append, List.length_cons]
  omega
theorem put_len (l : List W5) (x : W5) : (putW l x).length ≤ l.length + 1 := by
  unfold putW
  split
  · rw [place_len]; have := stop_len l x.1; omega
  · omega
theorem tick_len (l : List W5) (now : Int) : (tickW l now).length = l.length := by unfold tickW; simp
theorem has_len (l : List W5) (k : Int × Int) : hasW l k = decide ((stopW l k).length < l.length) := by
  unfold hasW stopW
  induction l with
  | nil => rfl
  | cons x l ih =>
    rw [List.any_cons, List.filter_cons]
    have hle := List.length_filter_le (fun x : W5 => decide (x.1 ≠ k)) l
    by_cases h : x.1 = k
    · rw [if_neg (by simp [h])]
      simp [h]
      simp at hle; omega
    · rw [if_pos (by simp [h]), ih]
      simp [h]

theorem ent_len (l : List W5) : (ent l).length = l.length := by unfold ent; simp
theorem ent_snd (l : List W5) : (ent l).map (·.2) = l := by unfold ent; rw [List.map_map]; exact List.map_id l
theorem without_ent (l : List W5) (k : Int × Int) : without (ent l) k = ent (stopW l k) := by
  unfold without ent stopW
  rw [List.filter_map]
  rfl
theorem place_perm (l : List W5) (x : W5) : (x :: l).Perm (placeW l x) := by
  unfold placeW
  refine List.Perm.trans ?_ List.perm_middle.symm
  rw [List.takeWhile_append_dropWhile]
theorem store_perm (l : List W5) (x : W5) : ((x.1, x) :: without (ent l) x.1).Perm (ent (placeW (stopW l x.1) x)) := by
  rw [without_ent]
  exact (place_perm (stopW l x.1) x).map (fun x : W5 => (x.1, x))

/-- A tick, the first i deeds of which are done. -/
def tickAt (l : List W5) (m : Int) (i : Nat) : List W5 := (l.take i).map (tickX m) ++ l.drop i
theorem tickAt_zero (l : List W5) (m : Int) : tickAt l m 0 = l := by simp [tickAt]
theorem tickAt_all (l : List W5) (m : Int) : tickAt l m l.length = l.map (tickX m) := by simp [tickAt]
theorem tickAt_len (l : List W5) (m : Int) (i : Nat) : (tickAt l m i).length = l.length := by simp [tickAt]; omega
theorem tickAt_at {l : List W5} {m : Int} {i : Nat} {x : W5} (h : l[i]? = some x) : tickAt l m i = (l.take i).map (tickX m) ++ x :: l.drop (i + 1) ∧ tickAt l m (i + 1) = (l.take i).map (tickX m) ++ tickX m x :: l.drop (i + 1) := by
  obtain ⟨hi, hx⟩ := List.getElem?_eq_some_iff.1 h
  refine ⟨?_, ?_⟩
  · unfold tickAt; rw [List.drop_eq_getElem_cons hi, hx]
  · unfold tickAt; rw [List.take_add_one, h]; simp
theorem tickAt_same {l : List W5} {m : Int} {i : Nat} {x : W5} (h : l[i]? = some x) (hx : tickX m x = x) : tickAt l m (i + 1) = tickAt l m i := by
  rw [(tickAt_at h).1, (tickAt_at h).2, hx]
theorem tickAt_perm {l : List W5} (hg : Good l) {m : Int} {i : Nat} {x : W5} (h : l[i]? = some x) : ((x.1, tickX m x) :: without (ent (tickAt l m i)) x.1).Perm (ent (tickAt l m (i + 1))) := by
  obtain ⟨h1, h2⟩ := tickAt_at (m := m) h
  obtain ⟨hi, hx⟩ := List.getElem?_eq_some_iff.1 h
  rw [without_ent, h1, h2]
  have hs := hg.srt
  have hl : l = l.take i ++ x :: l.drop (i + 1) := by rw [← hx, ← List.drop_eq_getElem_cons hi, List.take_append_drop]
  rw [hl, List.pairwise_append, List.pairwise_cons] at hs
  have e : stopW ((l.take i).map (tickX m) ++ x :: l.drop (i + 1)) x.1 = (l.take i).map (tickX m) ++ l.drop (i + 1) := by
    unfold stopW
    rw [List.filter_append, List.filter_cons_of_neg (by simp), List.filter_eq_self.2, List.filter_eq_self.2]
    · intro y hy
      have := less_ne (hs.2.1.1 y hy)
      simp; exact fun e => this e.symm
    · intro y hy
      obtain ⟨z, hz, rfl⟩ := List.mem_map.1 hy
      have := less_ne (hs.2.2 z hz x (List.mem_cons_self ..))
      rw [tick_key]
      simp; exact this
  rw [e]
  have hp : (tickX m x :: ((l.take i).map (tickX m) ++ l.drop (i + 1))).Perm ((l.take i).map (tickX m) ++ tickX m x :: l.drop (i + 1)) := List.perm_middle.symm
  have := hp.map (fun x : W5 => (x.1, x))
  rw [List.map_cons, tick_key] at this
  exact this
/-- What has been told by then. -/
def toldAt (l : List W5) (m : Int) (i : Nat) : List (Int × Int) := ((l.take i).filter (tellB m)).map (·.1)
theorem toldAt_zero (l : List W5) (m : Int) : toldAt l m 0 = [] := by simp [toldAt]
theorem toldAt_all (l : List W5) (now : Int) : toldAt l (nearI now) l.length = toldW l now := by simp [toldAt, toldW]
theorem toldAt_succ {l : List W5} {m : Int} {i : Nat} {x : W5} (h : l[i]? = some x) : toldAt l m (i + 1) = toldAt l m i ++ (if tellB m x then [x.1] else []) := by
  unfold toldAt
  rw [List.take_add_one, h, List.filter_append, List.map_append]
  cases hx : tellB m x <;> simp [hx]
theorem toldAt_len (l : List W5) (m : Int) (i : Nat) : (toldAt l m i).length ≤ l.length := by
  unfold toldAt
  rw [List.length_map]
  exact Nat.le_trans (List.length_filter_le _ _) (by simp; omega)
end Wa
end Go.Proofs.YtlkncmpengpbiaaGreatDoor

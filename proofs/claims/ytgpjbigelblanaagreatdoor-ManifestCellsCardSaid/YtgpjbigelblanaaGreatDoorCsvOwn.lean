/- Rows of fields in memory of the call's own; and one field of csv.Parse, whichever way it is read. -/
import Derived.Test.YtgpjbigelblanaaGreatDoorCsvWalk2
import Derived.Maps.AppendAt
namespace Go.Proofs.YtgpjbigelblanaaGreatDoor
open Go.RowKit

def strV (l : List UInt8) : Value := .string ⟨l.toArray⟩
abbrev tLine : TypeId := 43
abbrev tFld : TypeId := 9
theorem fld_info : (Tryz.prog.info? tFld).map (fun i => (i.zero, i.size, i.bytes)) = some (some (.string ⟨#[]⟩), 1, 16) := by kernel_rfl
theorem line_info : (Tryz.prog.info? tLine).map (fun i => (i.zero, i.size, i.bytes)) = some (some (.slice none 0 0), 1, 24) := by kernel_rfl

theorem own_ne {w : World} {B B' : Nat} {e e' : TypeId} {v v' : Value} {n n' : Nat} {xs xs' : List Value} {z z' : Nat} (h : w.ownsRow B e z v n xs) (h' : w.ownsRow B' e' z' v' n' xs') (hne : e ≠ e') : v.ownBlock = none ∨ v.ownBlock ≠ v'.ownBlock := by
  rcases h.2 with ⟨rfl, _⟩ | ⟨g, cap, cur, rfl, _, hg, _⟩
  · exact .inl rfl
  · rcases h'.2 with ⟨rfl, _⟩ | ⟨g', cap', cur', rfl, _, hg', _⟩
    · exact .inr (by simp [Value.ownBlock])
    · refine .inr fun e => ?_
      simp only [Value.ownBlock, Option.some.injEq] at e
      subst e
      rw [hg] at hg'
      injection hg' with hg'
      injection hg' with _ ht
      exact hne ht

theorem own_below {w w' : World} {B : Nat} {e : TypeId} {z n : Nat} {v : Value} {xs : List Value} (h : w.ownsRow B e z v n xs) (hb : Below w.heap.size w w') : w'.ownsRow B e z v n xs := by
  refine ⟨h.1, ?_⟩
  rcases h.2 with h2 | ⟨g, cap, cur, hv, hB, hg, r⟩
  · exact .inl h2
  · exact .inr ⟨g, cap, cur, hv, hB, by rw [hb.block g (Array.getElem?_eq_some_iff.1 hg).1]; exact hg, r⟩

theorem own_set {w : World} {B : Nat} {e : TypeId} {z n : Nat} {v : Value} {xs : List Value} (h : w.ownsRow B e z v n xs) {p : Addr} (hp : p.block < B) (u : Value) : (w.setCell p u).ownsRow B e z v n xs := ownsRow_setCell_below h hp u

/-- The rows so far (their slices: vs), and the row that is begun, all in memory of the call's own from block B on. -/
structure Inv (w : World) (B : Nat) (vr v : Value) (rows : List (List (List UInt8))) (row : List (List UInt8)) (vs : List Value) : Prop where
  outer : w.ownsRow B tLine 1 vr rows.length vs
  inner : w.ownsRow B tFld 1 v row.length (row.map strV)
  each : ∀ (k : Nat) (u : Value) (r : List (List UInt8)), vs[k]? = some u → rows[k]? = some r → w.ownsRow B tFld 1 u r.length (r.map strV) ∧ (u.ownBlock = none ∨ u.ownBlock ≠ v.ownBlock)

theorem Inv.start (w : World) (B : Nat) : Inv w B (.slice none 0 0) (.slice none 0 0) [] [] [] :=
  ⟨World.ownsRow_nil _ _ _ _, World.ownsRow_nil _ _ _ _, fun k u r h => by simp at h⟩
theorem Inv.below {w w' : World} {B : Nat} {vr v : Value} {rows row vs} (h : Inv w B vr v rows row vs) (hb : Below w.heap.size w w') : Inv w' B vr v rows row vs :=
  ⟨own_below h.outer hb, own_below h.inner hb, fun k u r hu hr => ⟨own_below (h.each k u r hu hr).1 hb, (h.each k u r hu hr).2⟩⟩
theorem Inv.set {w : World} {B : Nat} {vr v : Value} {rows row vs} (h : Inv w B vr v rows row vs) {p : Addr} (hp : p.block < B) (u : Value) : Inv (w.setCell p u) B vr v rows row vs :=
  ⟨own_set h.outer hp _, own_set h.inner hp _, fun k u r hu hr => ⟨own_set (h.each k u r hu hr).1 hp _, (h.each k u r hu hr).2⟩⟩
theorem Inv.field {w w' : World} {B : Nat} {vr v v' : Value} {rows row vs} {f : List UInt8} (h : Inv w B vr v rows row vs) (ho : w'.ownsRow B tFld 1 v' (row.length + 1) (row.map strV ++ [strV f]))
    (hg : w.grownBy w' v.ownBlock) (hat : v'.ownBlock = v.ownBlock ∨ v'.ownBlock = some w.heap.size) : Inv w' B vr v' rows (row ++ [f]) vs := by
  refine ⟨h.outer.kept hg (own_ne h.outer h.inner (by decide)), by simpa using ho, fun k u r hu hr => ?_⟩
  obtain ⟨h1, h2⟩ := h.each k u r hu hr
  refine ⟨h1.kept hg h2, ?_⟩
  rcases hat with e | e
  · rw [e]; exact h2
  · rw [e]
    refine .inr fun e2 => ?_
    have := (h1.lt _ e2).2
    omega
theorem Inv.rowDone {w w' : World} {B : Nat} {vr v vr' : Value} {rows row vs} (h : Inv w B vr v rows row vs) (ho : w'.ownsRow B tLine 1 vr' (rows.length + 1) (vs ++ [v])) (hg : w.grownBy w' vr.ownBlock) :
    Inv w' B vr' (.slice none 0 0) (rows ++ [row]) [] (vs ++ [v]) := by
  refine ⟨by simpa using ho, World.ownsRow_nil _ _ _ _, fun k u r hu hr => ?_⟩
  refine ⟨?_, by cases u.ownBlock <;> simp [Value.ownBlock]⟩
  have hlen : vs.length = rows.length := by have := h.outer.1; omega
  by_cases hk : k < vs.length
  · rw [List.getElem?_append_left hk] at hu
    rw [List.getElem?_append_left (by omega)] at hr
    exact (h.each k u r hu hr).1.kept hg (own_ne (h.each k u r hu hr).1 h.outer (by decide))
  · have hk' : k = vs.length := by
      have := (List.getElem?_eq_some_iff.1 hu).1
      simp at this
      omega
    subst hk'
    rw [List.getElem?_append_right (Nat.le_refl _)] at hu
    rw [List.getElem?_append_right (by omega), hlen] at hr
    simp at hu hr
    subst hu; subst hr
    exact h.inner.kept hg (own_ne h.inner h.outer (by decide))

/-- What is owned reads as a list. -/
theorem own_sl {α : Type} {w : World} {B : Nat} {e : TypeId} {v : Value} {n : Nat} {xs : List Value} {R : Value → α → Prop} {L : List α} (h : w.ownsRow B e 1 v n xs) (hl : L.length = n)
    (hr : ∀ (k : Nat) (u : Value) (x : α), xs[k]? = some u → L[k]? = some x → R u x) : Sl w w.heap.size R v L := by
  rcases h.2 with ⟨rfl, rfl⟩ | ⟨g, cap, cur, rfl, _, hg, hc, _⟩
  · exact ⟨none, 0, 0, rfl, hl, Nat.le_refl _, fun k x hk => by
      have := (List.getElem?_eq_some_iff.1 hk).1
      omega⟩
  · refine ⟨some ⟨g, 0, none⟩, n, cap, rfl, hl, hc, fun k x hk => ?_⟩
    have hk' : k < xs.length := by
      have := (List.getElem?_eq_some_iff.1 hk).1
      have := h.1
      omega
    exact ⟨_, xs[k], rfl, (Array.getElem?_eq_some_iff.1 hg).1, h.cells (g := g) rfl k _ (List.getElem?_eq_getElem hk'), hr k _ _ (List.getElem?_eq_getElem hk') hk⟩
theorem own_strs {w : World} {B : Nat} {v : Value} {r : List (List UInt8)} (h : w.ownsRow B tFld 1 v r.length (r.map strV)) : Strs w w.heap.size v r :=
  own_sl h rfl fun k u x hu hx => by
    rw [List.getElem?_map, hx] at hu
    simp at hu
    subst hu
    rfl
theorem Inv.reads {w : World} {B : Nat} {vr v : Value} {rows row vs} (h : Inv w B vr v rows row vs) : Rowz w w.heap.size vr rows :=
  own_sl h.outer rfl fun k u x hu hx => own_strs (h.each k u x hu hx).1

/-! ### A field, whichever way it is read -/
def fieldOut (s : ByteArray) (k : Nat) (hk : k < s.size) : Value := if s[k] = 34 then quotedOut s k else plainOut s k

/-- What reading on from the front of a field comes to, by what the field's reader answers. -/
structure Field (s : ByteArray) (k : Nat) (f : List UInt8) (nx : Nat) (ok : Bool) : Prop where
  le : nx ≤ s.size
  ge : k ≤ nx
  bad : ok = false → ∀ rows row, Csv.parseOf s.data.toList (Csv.go (s.data.toList.drop k) ⟨rows, row, [], 0⟩ k) = ([], (Csv.lc (s.data.toList.take nx)).1, (Csv.lc (s.data.toList.take nx)).2, 2)
  short : ok = true → nx = s.size → ∀ rows row, Csv.parseOf s.data.toList (Csv.go (s.data.toList.drop k) ⟨rows, row, [], 0⟩ k) = ([], (Csv.lc (s.data.toList.take nx)).1, (Csv.lc (s.data.toList.take nx)).2, 1)
  behind : ok = true → ∀ h : nx < s.size, ¬ s[nx] = 44 → ¬ s[nx] = 10 → ∀ rows row, Csv.parseOf s.data.toList (Csv.go (s.data.toList.drop k) ⟨rows, row, [], 0⟩ k) = ([], (Csv.lc (s.data.toList.take nx)).1, (Csv.lc (s.data.toList.take nx)).2, 2)
  comma : ok = true → ∀ h : nx < s.size, s[nx] = 44 → ∀ rows row, Csv.go (s.data.toList.drop k) ⟨rows, row, [], 0⟩ k = Csv.go (s.data.toList.drop (nx + 1)) ⟨rows, row ++ [f], [], 0⟩ (nx + 1)
  line : ok = true → ∀ h : nx < s.size, s[nx] = 10 → ∀ rows row, Csv.go (s.data.toList.drop k) ⟨rows, row, [], 0⟩ k = Csv.go (s.data.toList.drop (nx + 1)) ⟨rows ++ [row ++ [f]], [], [], 0⟩ (nx + 1)

theorem drop_all (s : ByteArray) (n : Nat) (h : s.size ≤ n) : s.data.toList.drop n = [] := List.drop_of_length_le (by simpa using h)
theorem take_all (s : ByteArray) : s.data.toList.take s.size = s.data.toList := List.take_of_length_le (by simp)
theorem extract_take (s : ByteArray) (k n : Nat) : (Value.string (s.extract k (k + n))) = .string ⟨((s.data.toList.drop k).take n).toArray⟩ := by
  congr 1
  apply ByteArray.ext
  apply Array.toList_inj.1
  simp

theorem string_snoc (s : ByteArray) (i : Nat) (h : i < s.size) (f : List UInt8) : (⟨f.toArray⟩ : ByteArray) ++ s.extract i (i + 1) = ⟨(f ++ [s[i]]).toArray⟩ := by
  apply ByteArray.ext
  apply Array.toList_inj.1
  have h1 : (s.extract i (i + 1)).data.toList = [s[i]] := by
    have h2 := extract_take s i 1
    have h3 : s.extract i (i + 1) = ⟨((s.data.toList.drop i).take 1).toArray⟩ := by injection h2
    rw [h3, drop_cons s i h]
    rfl
  rw [ByteArray.data_append, Array.toList_append, h1]
theorem field_plain (s : ByteArray) (k : Nat) (hk : k < s.size) (hc : ¬ s[k] = 34) :
    ∃ f nx ok, plainOut s k = .tuple #[.string ⟨f.toArray⟩, .int .i64 ((nx : Nat) : Int), .bool ok] ∧ Field s k f nx ok ∧ f.length ≤ s.size := by
  have hd := drop_cons s k hk
  have hh : (s.data.toList.drop k).head? ≠ some 34 := by rw [hd]; simpa using hc
  have hg := fun rows row => Csv.go_plain (s.data.toList.drop k) rows row [] 0 k (.inr ⟨rfl, hh⟩)
  have hle := Csv.scanP_le (s.data.toList.drop k)
  have hlen : (s.data.toList.drop k).length = s.size - k := by simp
  obtain ⟨n, hn⟩ : ∃ n, (Csv.scanP (s.data.toList.drop k)).1 = n := ⟨_, rfl⟩
  obtain ⟨b, hb⟩ : ∃ n, (Csv.scanP (s.data.toList.drop k)).2 = n := ⟨_, rfl⟩
  have hs0 : s.data.toList ≠ [] := by
    intro e
    have : s.data.toList.length = s.size := by simp
    rw [e] at this
    simp at this
    omega
  rw [hn] at hle
  cases b with
  | false =>
    refine ⟨[], k + n, false, by unfold plainOut; simp [hb, hn], ⟨by omega, by omega, fun _ rows row => ?_, by simp, by simp, by simp, by simp⟩, by simp⟩
    rw [hg, hb, hn]
    rfl
  | true =>
    refine ⟨(s.data.toList.drop k).take n, k + n, true, by unfold plainOut; simp only [hb, hn, if_true, extract_take], ⟨by omega, by omega, by simp, fun _ e rows row => ?_, fun _ h h1 h2 rows row => ?_, fun _ h h1 rows row => ?_, fun _ h h1 rows row => ?_⟩, by simp; omega⟩
    · rw [hg, hb, hn, List.drop_drop, drop_all s (k + n) (by omega)]
      simp only [if_true, Csv.go, Csv.parseOf, Csv.fin]
      have hn0 : ¬ n = 0 := by omega
      rw [e, take_all]
      simp [hn0, hs0]
    · exfalso
      have : Csv.scanP ((s.data.toList.drop k).drop n) = (0, true) := by
        clear hg hle h1 h2 h hd hh
        generalize s.data.toList.drop k = l at hn hb
        induction l generalizing n with
        | nil => simp [Csv.scanP]
        | cons c r ih =>
          unfold Csv.scanP at hn hb
          split at hn
          · rename_i hc1
            simp at hn
            subst hn
            simp [Csv.scanP, hc1]
          · rename_i hc1
            rw [if_neg hc1] at hb
            split at hn
            · rename_i hc2
              rw [if_pos hc2] at hb
              simp at hb
            · rename_i hc2
              rw [if_neg hc2] at hb
              rw [← hn, List.drop_succ_cons]
              exact ih _ rfl hb
      rw [List.drop_drop, drop_cons s (k + n) h, Csv.scanP, if_neg (by rintro (e | e); exact h1 e; exact h2 e)] at this
      split at this <;> simp at this
    · rw [hg, hb, hn, List.drop_drop, drop_cons s (k + n) h, h1]
      simp only [if_true, Csv.go]
      have hst : Csv.step ⟨rows, row, [] ++ (s.data.toList.drop k).take n, if n = 0 then 0 else 1⟩ 44 = some ⟨rows, row ++ [(s.data.toList.drop k).take n], [], 0⟩ := by
        have h2 : ¬ (if n = 0 then 0 else 1) = 2 := by split <;> omega
        simp [Csv.step, h2]
      rw [hst]
    · rw [hg, hb, hn, List.drop_drop, drop_cons s (k + n) h, h1]
      simp only [if_true, Csv.go]
      have hst : Csv.step ⟨rows, row, [] ++ (s.data.toList.drop k).take n, if n = 0 then 0 else 1⟩ 10 = some ⟨rows ++ [row ++ [(s.data.toList.drop k).take n]], [], [], 0⟩ := by
        have h2 : ¬ (if n = 0 then 0 else 1) = 2 := by split <;> omega
        simp [Csv.step, h2]
      rw [hst]

theorem scanQ_len (l : List UInt8) : (Csv.scanQ l).1.length ≤ l.length := by
  fun_induction Csv.scanQ l <;> simp_all <;> omega
theorem field_quoted (s : ByteArray) (k : Nat) (hk : k < s.size) (hc : s[k] = 34) :
    ∃ f nx ok, quotedOut s k = .tuple #[.string ⟨f.toArray⟩, .int .i64 ((nx : Nat) : Int), .bool ok] ∧ Field s k f nx ok ∧ f.length ≤ s.size := by
  have hd := drop_cons s k hk
  rw [hc] at hd
  have h0 : ∀ rows row, Csv.go (s.data.toList.drop k) ⟨rows, row, [], 0⟩ k = Csv.go (s.data.toList.drop (k + 1)) ⟨rows, row, [], 2⟩ (k + 1) := by
    intro rows row
    rw [hd]
    simp [Csv.go, Csv.step]
  have hg := fun rows row => Csv.go_quoted (s.data.toList.drop (k + 1)) rows row [] (k + 1)
  have hle := Csv.scanQ_le (s.data.toList.drop (k + 1))
  have hlen : (s.data.toList.drop (k + 1)).length = s.size - (k + 1) := by simp
  obtain ⟨f, hf⟩ : ∃ n, (Csv.scanQ (s.data.toList.drop (k + 1))).1 = n := ⟨_, rfl⟩
  obtain ⟨n, hn⟩ : ∃ n, (Csv.scanQ (s.data.toList.drop (k + 1))).2.1 = n := ⟨_, rfl⟩
  obtain ⟨b, hb⟩ : ∃ n, (Csv.scanQ (s.data.toList.drop (k + 1))).2.2 = n := ⟨_, rfl⟩
  have hfl : f.length ≤ (s.data.toList.drop (k + 1)).length := by
    rw [← hf]
    exact scanQ_len _
  have hs0 : s.data.toList ≠ [] := by
    intro e
    have : s.data.toList.length = s.size := by simp
    rw [e] at this
    simp at this
    omega
  rw [hn] at hle
  cases b with
  | false =>
    refine ⟨[], s.size, false, by unfold quotedOut; simp [hb], ⟨by omega, by omega, fun _ rows row => ?_, by simp, by simp, by simp, by simp⟩, by simp⟩
    have := hg rows row
    rw [hb] at this
    simp only [Bool.false_eq_true, if_false] at this
    obtain ⟨g, hgg⟩ := this
    rw [h0, hgg, take_all]
    simp [Csv.parseOf, Csv.fin]
  | true =>
    have hq : ∀ rows row, Csv.go (s.data.toList.drop k) ⟨rows, row, [], 0⟩ k = Csv.go (s.data.toList.drop (k + 1 + n)) ⟨rows, row, f, 3⟩ (k + 1 + n) ∧ (s.data.toList.drop (k + 1 + n)).head? ≠ some 34 := by
      intro rows row
      have := hg rows row
      rw [hb, hn, hf] at this
      simp only [if_true, List.drop_drop, List.nil_append] at this
      rw [h0]
      exact this
    refine ⟨f, k + 1 + n, true, by unfold quotedOut; simp only [hb, hn, hf, if_true], ⟨by omega, by omega, by simp, fun _ e rows row => ?_, fun _ h h1 h2 rows row => ?_, fun _ h h1 rows row => ?_, fun _ h h1 rows row => ?_⟩, by omega⟩
    · rw [(hq rows row).1, e, drop_all s _ (Nat.le_refl _), take_all]
      simp [Csv.go, Csv.parseOf, Csv.fin, hs0]
    · obtain ⟨q1, q2⟩ := hq rows row
      rw [drop_cons s (k + 1 + n) h] at q1 q2
      have h34 : ¬ s[k + 1 + n] = 34 := by simpa using q2
      rw [q1]
      simp [Csv.go, Csv.step, h1, h2, h34, Csv.parseOf]
    · obtain ⟨q1, q2⟩ := hq rows row
      rw [drop_cons s (k + 1 + n) h, h1] at q1
      rw [q1]
      simp [Csv.go, Csv.step]
    · obtain ⟨q1, q2⟩ := hq rows row
      rw [drop_cons s (k + 1 + n) h, h1] at q1
      rw [q1]
      simp [Csv.go, Csv.step]
end Go.Proofs.YtgpjbigelblanaaGreatDoor

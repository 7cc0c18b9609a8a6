/- A table printed with all fields in quotes, plain: it is read as those rows. -/
import Derived.Test.YtgpjbigelblanaaDoorCsvBackSpec
namespace Go.Proofs.YtgpjbigelblanaaDoor
set_option linter.unusedSimpArgs false

namespace Csv
def qf (f : List UInt8) : List UInt8 := 34 :: (f ++ [34])
def qpart (r : List (List UInt8)) : List UInt8 := joinC (r.map qf)
def quoteOf (L : List (List (List UInt8))) : List UInt8 := L.flatMap fun r => qpart r ++ [10]
def Clean (L : List (List (List UInt8))) : Prop := ∀ r ∈ L, ∀ f ∈ r, (34 : UInt8) ∉ f
theorem qpart_snoc (r : List (List UInt8)) (g : List UInt8) : qpart (r ++ [g]) = if r = [] then qf g else qpart r ++ 44 :: qf g := by
  unfold qpart
  rw [List.map_append, List.map_cons, List.map_nil, joinC_snoc]
  simp
theorem quoteOf_snoc (L : List (List (List UInt8))) (r : List (List UInt8)) : quoteOf (L ++ [r]) = quoteOf L ++ (qpart r ++ [10]) := by simp [quoteOf]
theorem dbl_clean : ∀ (l : List UInt8), (34 : UInt8) ∉ l → dbl l = l
  | [], _ => rfl
  | c :: r, h => by
    have hc : ¬ c = 34 := fun e => h (by simp [e])
    have hr := dbl_clean r (fun hm => h (by simp [hm]))
    show (if c = 34 then [34, 34] else [c]) ++ dbl r = _
    rw [if_neg hc, hr]
    rfl
theorem go_qf (f : List UInt8) (h : (34 : UInt8) ∉ f) (rows : List (List (List UInt8))) (row : List (List UInt8)) (p : Nat) : go (qf f) ⟨rows, row, [], 0⟩ p = .inl ⟨rows, row, f, 3⟩ := by
  unfold qf
  have h1 : go (34 :: (f ++ [34])) ⟨rows, row, [], 0⟩ p = go (f ++ [34]) ⟨rows, row, [], 2⟩ (p + 1) := by simp [go, step]
  have h2 := go_dbl f rows row [] (p + 1)
  rw [dbl_clean f h] at h2
  rw [h1, go_append, h2]
  simp [go, step]
theorem goq_tail (r : List (List UInt8)) (hr : ∀ f ∈ r, (34 : UInt8) ∉ f) (rows : List (List (List UInt8))) (row : List (List UInt8)) (g : List UInt8) (m p : Nat) (hm : ¬ m = 2) :
    ∃ row' g' m', ¬ m' = 2 ∧ row' ++ [g'] = row ++ [g] ++ r ∧ go ((r.map qf).flatMap fun g => 44 :: g) ⟨rows, row, g, m⟩ p = .inl ⟨rows, row', g', m'⟩ := by
  induction r generalizing row g m p with
  | nil => exact ⟨row, g, m, hm, by simp, by simp [go]⟩
  | cons f t ih =>
    rw [List.map_cons, List.flatMap_cons, go_append]
    have h1 : go (44 :: qf f) ⟨rows, row, g, m⟩ p = go (qf f) ⟨rows, row ++ [g], [], 0⟩ (p + 1) := by simp [go, step_comma _ _ _ _ hm]
    rw [h1, go_qf f (hr f (by simp))]
    obtain ⟨row', g', m', a1, a2, a3⟩ := ih (fun x hx => hr x (by simp [hx])) (row ++ [g]) f 3 (p + (44 :: qf f).length) (by omega)
    exact ⟨row', g', m', a1, by rw [a2]; simp, a3⟩
theorem goq_row (r : List (List UInt8)) (h0 : ¬ r = []) (hr : ∀ f ∈ r, (34 : UInt8) ∉ f) (rows : List (List (List UInt8))) (p : Nat) :
    go (qpart r ++ [10]) ⟨rows, [], [], 0⟩ p = .inl ⟨rows ++ [r], [], [], 0⟩ := by
  cases r with
  | nil => exact absurd rfl h0
  | cons f t =>
    unfold qpart
    rw [List.map_cons]
    unfold joinC
    rw [go_append, go_append, go_qf f (hr f (by simp))]
    simp only []
    obtain ⟨row', g', m', hm', he, h2⟩ := goq_tail t (fun x hx => hr x (by simp [hx])) rows [] f 3 (p + (qf f).length) (by omega)
    rw [h2]
    simp only [go, step_line _ _ _ _ hm']
    rw [he]
    simp
theorem goq_all (L : List (List (List UInt8))) (h0 : ∀ r ∈ L, ¬ r = []) (hc : Clean L) (rows : List (List (List UInt8))) (p : Nat) :
    go (quoteOf L) ⟨rows, [], [], 0⟩ p = .inl ⟨rows ++ L, [], [], 0⟩ := by
  induction L generalizing rows p with
  | nil => simp [quoteOf, go]
  | cons r t ih =>
    have h : quoteOf (r :: t) = (qpart r ++ [10]) ++ quoteOf t := by simp [quoteOf]
    rw [h, go_append, goq_row r (h0 r (by simp)) (hc r (by simp))]
    simp only []
    rw [ih (fun x hx => h0 x (by simp [hx])) (fun x hx => hc x (by simp [hx]))]
    simp
theorem quote_last (L : List (List (List UInt8))) (h : ¬ quoteOf L = []) : (quoteOf L).getLast? = some 10 := by
  rcases List.eq_nil_or_concat L with rfl | ⟨M, r, rfl⟩
  · exact absurd rfl h
  · rw [List.concat_eq_append, quoteOf_snoc]
    simp
theorem qf_len (f : List UInt8) : (qf f).length = f.length + 2 := by simp [qf]
theorem qpart_len : ∀ (r : List (List UInt8)), (qpart r).length ≤ roomRow r
  | [] => by simp [qpart, joinC]
  | f :: t => by
    have ht : ((t.map qf).flatMap fun g => 44 :: g).length ≤ roomRow t := by
      clear f
      induction t with
      | nil => simp
      | cons g v ih =>
        have e3 : roomRow (g :: v) = (3 * g.length + 3) + roomRow v := by simp [roomRow]
        rw [List.map_cons, List.flatMap_cons, List.length_append, List.length_cons, e3, qf_len]
        omega
    have e3 : roomRow (f :: t) = (3 * f.length + 3) + roomRow t := by simp [roomRow]
    unfold qpart
    rw [List.map_cons]
    unfold joinC
    rw [List.length_append, e3, qf_len]
    omega
theorem quote_len : ∀ (L : List (List (List UInt8))), (quoteOf L).length ≤ room L + L.length
  | [] => by simp [quoteOf]
  | r :: t => by
    have e : quoteOf (r :: t) = (qpart r ++ [10]) ++ quoteOf t := by simp [quoteOf]
    have e2 : room (r :: t) = roomRow r + room t := by simp [room]
    have h1 := qpart_len r
    have h2 := quote_len t
    rw [e, e2, List.length_append, List.length_append, List.length_cons]
    simp only [List.length_cons, List.length_nil]
    omega
theorem room_take (L : List (List (List UInt8))) (k : Nat) : room (L.take k) ≤ room L := by
  induction L generalizing k with
  | nil => simp
  | cons r t ih =>
    cases k with
    | zero => simp [room]
    | succ k =>
      have e2 : room (r :: t) = roomRow r + room t := by simp [room]
      have e3 : room (r :: t.take k) = roomRow r + room (t.take k) := by simp [room]
      have := ih k
      rw [List.take_succ_cons, e2, e3]
      omega
theorem roomRow_take (r : List (List UInt8)) (k : Nat) : roomRow (r.take k) ≤ roomRow r := by
  induction r generalizing k with
  | nil => simp
  | cons f t ih =>
    cases k with
    | zero => simp [roomRow]
    | succ k =>
      have e2 : roomRow (f :: t) = (3 * f.length + 3) + roomRow t := by simp [roomRow]
      have e3 : roomRow (f :: t.take k) = (3 * f.length + 3) + roomRow (t.take k) := by simp [roomRow]
      have := ih k
      rw [List.take_succ_cons, e2, e3]
      omega
/-- ALL FIELDS IN QUOTES: read as those rows. -/
theorem parse_quote (L : List (List (List UInt8))) (h0 : ∀ r ∈ L, ¬ r = []) (hc : Clean L) (h : (quoteOf L).length ≤ 65536) : parse (quoteOf L) = (L, 0, 0, 0) := by
  unfold parse
  rw [if_neg (by omega)]
  have hg : go (quoteOf L) St.init 0 = .inl ⟨[] ++ L, [], [], 0⟩ := goq_all L h0 hc [] 0
  rw [hg]
  unfold parseOf
  have hf : fin (quoteOf L) ⟨[] ++ L, [], [], 0⟩ = 0 := by
    unfold fin
    by_cases he : quoteOf L = []
    · simp [he]
    · simp [he, quote_last L he]
  simp only []
  rw [if_pos hf]
  simp
end Csv
end Go.Proofs.YtgpjbigelblanaaDoor

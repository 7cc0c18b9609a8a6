/- Orders: the document's check of an order of which only the goods' name is whatever it is, and messages of it. -/
import Derived.Test.YtkmpagijdhhinaaDoorOrdersMay2
import Derived.Test.YtkmpagijdhhinaaDoorGen
namespace Go.Proofs.YtkmpagijdhhinaaDoor
open Go.RowKit Od

abbrev tOrder : TypeId := 65
namespace Od
def checkI (s : List UInt8) : Int := if s.length = 0 then 2 else if 8 < s.length then 3 else if nameB s = true then 0 else 2
end Od
theorem refName_r (W : World) : Calls Tryd.prog 56 #[.string ⟨#[114]⟩] W fun e w' => e = .returned (.bool true) ∧ W = w' := by
  refine (refName_any ⟨#[114]⟩ W (by decide)).mono ?_
  rintro e w' ⟨rfl, hw⟩
  exact ⟨rfl, hw⟩
theorem refName_nut (W : World) : Calls Tryd.prog 56 #[.string ⟨#[110, 117, 116]⟩] W fun e w' => e = .returned (.bool true) ∧ W = w' := by
  refine (refName_any ⟨#[110, 117, 116]⟩ W (by decide)).mono ?_
  rintro e w' ⟨rfl, hw⟩
  exact ⟨rfl, hw⟩
set_option maxHeartbeats 1000000 in
theorem refOCheck_any (w : World) (id qty amt : Int) (sku : ByteArray) (h1 : 1 ≤ id ∧ id ≤ 60) (h2 : 1 ≤ qty ∧ qty ≤ 999) (h3 : 1 ≤ amt ∧ amt ≤ 1099511627776) (hs : sku.size ≤ 1000000000000) :
    Calls Tryd.prog 43 #[.agg #[.int .i64 id, .string ⟨#[114]⟩, .string sku, .int .i64 qty, .int .i64 amt]] w fun e w' => e = .returned (.int .i64 (checkI sku.data.toList)) ∧ Below w.heap.size w w' := by
  have HB := Lib.hid (below_alloc w (.cells #[.int .i64 id, .string ⟨#[114]⟩, .string sku, .int .i64 qty, .int .i64 amt] tOrder))
  have HM := Lib.hid (heap_new w (.cells #[.int .i64 id, .string ⟨#[114]⟩, .string sku, .int .i64 qty, .int .i64 amt] tOrder))
  have hlen : sku.data.toList.length = sku.size := by simp
  have HN := Lib.hid (fun W => refName_any sku W hs)
  have q1 := decide_eq_false (show ¬ id < 1 by omega)
  have q2 := decide_eq_false (show ¬ 60 < id by omega)
  have q3 := decide_eq_false (show ¬ qty < 1 by omega)
  have q4 := decide_eq_false (show ¬ 999 < qty by omega)
  have q5 := decide_eq_false (show ¬ amt < 1 by omega)
  have q6 := decide_eq_false (show ¬ 1099511627776 < amt by omega)
  by_cases e0 : sku.size = 0
  · have HF := Lib.hid (show checkI sku.data.toList = 2 by unfold checkI; rw [hlen, if_pos e0])
    have g0 : ((sku.size : Int) == 0) = true := by rw [e0]; rfl
    go_enter Tryd.func43, Tryd.ntmps43
    go_wp2_with fail
    generalize w.alloc (.cells #[.int .i64 id, .string ⟨#[114]⟩, .string sku, .int .i64 qty, .int .i64 amt] tOrder) = wa at HB HM ⊢
    obtain ⟨m0, m1, m2, m3, m4⟩ := cell5 HM.out
    go_wp2_with fail
    go_ret
    exact ⟨by rw [HF.out]; rfl, HB.out⟩
  · have g0 := beqF (show ¬ (sku.size : Int) = 0 by omega)
    by_cases e8 : 8 < sku.size
    · have HF := Lib.hid (show checkI sku.data.toList = 3 by unfold checkI; rw [hlen, if_neg e0, if_pos e8])
      have g8 : 8 < (sku.size : Int) := by omega
      go_enter Tryd.func43, Tryd.ntmps43
      go_wp2_with fail
      generalize w.alloc (.cells #[.int .i64 id, .string ⟨#[114]⟩, .string sku, .int .i64 qty, .int .i64 amt] tOrder) = wa at HB HM ⊢
      obtain ⟨m0, m1, m2, m3, m4⟩ := cell5 HM.out
      go_wp2_with fail
      go_ret
      exact ⟨by rw [HF.out]; rfl, HB.out⟩
    · have g8 : (sku.size : Int) ≤ 8 := by omega
      cases hn : nameB sku.data.toList with
      | true =>
        have HF := Lib.hid (show checkI sku.data.toList = 0 by unfold checkI; rw [hlen, if_neg e0, if_neg e8, if_pos hn])
        rw [hn] at HN
        clear hn
        go_enter Tryd.func43, Tryd.ntmps43
        go_wp2_with fail
        generalize w.alloc (.cells #[.int .i64 id, .string ⟨#[114]⟩, .string sku, .int .i64 qty, .int .i64 amt] tOrder) = wa at HB HM ⊢
        obtain ⟨m0, m1, m2, m3, m4⟩ := cell5 HM.out
        go_wp2_with fail
        refine (refName_r _).mono ?_
        rintro e w1 ⟨rfl, hw⟩; subst hw
        go_wp2_with fail
        refine (HN.out _).mono ?_
        rintro e w1 ⟨rfl, hw⟩; subst hw
        go_wp2_with fail
        go_ret
        exact ⟨by rw [HF.out]; rfl, HB.out⟩
      | false =>
        have HF := Lib.hid (show checkI sku.data.toList = 2 by unfold checkI; rw [hlen, if_neg e0, if_neg e8, if_neg (by rw [hn]; decide)])
        rw [hn] at HN
        clear hn
        go_enter Tryd.func43, Tryd.ntmps43
        go_wp2_with fail
        generalize w.alloc (.cells #[.int .i64 id, .string ⟨#[114]⟩, .string sku, .int .i64 qty, .int .i64 amt] tOrder) = wa at HB HM ⊢
        obtain ⟨m0, m1, m2, m3, m4⟩ := cell5 HM.out
        go_wp2_with fail
        refine (refName_r _).mono ?_
        rintro e w1 ⟨rfl, hw⟩; subst hw
        go_wp2_with fail
        refine (HN.out _).mono ?_
        rintro e w1 ⟨rfl, hw⟩; subst hw
        go_wp2_with fail
        go_ret
        exact ⟨by rw [HF.out]; rfl, HB.out⟩
end Go.Proofs.YtkmpagijdhhinaaDoor

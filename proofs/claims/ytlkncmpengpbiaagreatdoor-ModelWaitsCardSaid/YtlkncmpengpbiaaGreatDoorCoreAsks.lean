/- What a core waits for: Asks; Orders. -/
import Derived.Test.YtlkncmpengpbiaaGreatDoorCoreGreat
import Derived.Test.YtlkncmpengpbiaaGreatDoorKeyMap
import Derived.Test.YtlkncmpengpbiaaGreatDoorSrcOf
import Derived.Test.YtlkncmpengpbiaaGreatDoorShort
namespace Go.Proofs.YtlkncmpengpbiaaGreatDoor
open Go.RowKit Go.Maps Co Key Rw Sa Od
set_option linter.unusedSimpArgs false
set_option linter.unusedVariables false
set_option maxRecDepth 100000
set_option maxHeartbeats 16000000

namespace Co
/-- What is waited for. -/
def asksI (l : List Sg) : List (Int × Int) := l.filterMap fun s => if Sa.waitsB s = true then some (s.id, Sa.waitsN s) else none
theorem asks_succ {l : List Sg} {k : Nat} {s : Sg} (h : l[k]? = some s) : asksI (l.take (k + 1)) = asksI (l.take k) ++ (if Sa.waitsB s = true then [(s.id, Sa.waitsN s)] else []) := by
 unfold asksI
 rw [List.take_add_one, h, List.filterMap_append]
 congr 1
 by_cases hw : Sa.waitsB s = true <;> simp [hw]
theorem asks_len (l : List Sg) : (asksI l).length ≤ l.length := List.length_filterMap_le _ _
theorem asks_len' (l : List Sg) (k : Nat) : (asksI (l.take k)).length ≤ l.length := Nat.le_trans (asks_len _) (by rw [List.length_take]; exact Nat.min_le_right _ _)
end Co
theorem encK_one (x : Int × Int) : ∀ u ∈ encK x, u.oneCell' = true := by intro u hu; simp [encK] at hu; rcases hu with rfl | rfl <;> rfl
abbrev tKeysC : TypeId := 47
theorem casks_any {B : Nat} {w : World} {cb bb pm bm : Nat} {vl vb vI : Value} {c : Cor} (h : Cw B w cb bb pm bm vl vb vI c) (hid : ∀ (k : Nat) s, c.l[k]? = some s → s.id = (k : Int) + 1) (hl : c.l.length ≤ 1000) :
  Calls Tryz.prog 14 #[.pointer (some ⟨cb, 0, none⟩)] w fun e w' => ∃ v, e = .returned v ∧ w'.ownsRow w.heap.size tKey 2 v (asksI c.l).length ((asksI c.l).flatMap encK) ∧ Below w.heap.size w w' := by
 obtain ⟨i0, hi, hz0, hz1, hz2⟩ := info_parts key_info
 obtain ⟨A, cl, rfl, _⟩ := own_slice h.ol
 have HR := Hd h; have HID := Hd hid
 obtain ⟨y0, y1⟩ := h.c01
 clear h hid
 go_enter Tryz.func14, Tryz.ntmps14
 go_wp2_with (go_at_call 39; refine (cnone_any HR.out).mono ?_; rintro e w1 ⟨rfl, hb⟩; subst hb)
 go_loopw [3, 15] (fun v i wr => ∃ k : Nat, i = .int .i64 k ∧ k ≤ c.l.length ∧ Hid (wr.ownsRow w.heap.size tKey 2 v (asksI (c.l.take k)).length ((asksI (c.l.take k)).flatMap encK)) ∧ Hid (Below w.heap.size w wr)) (fun _ i _ => c.l.length - (intOf i).toNat)
 case atStart => exact ⟨0, rfl, Nat.zero_le _, World.ownsRow_nil _ _ _ _, Below.refl _ _⟩
 case round =>
  obtain ⟨k, rfl, hk, HO, HB⟩ := hrel
  obtain ⟨y0, y1⟩ := (HR.out.below HB.out).c01
  by_cases hkl : k < c.l.length
  ·obtain ⟨s, hs⟩ : ∃ s, c.l[k]? = some s := ⟨_, List.getElem?_eq_getElem hkl⟩
   obtain ⟨g, off, n', c', e, d0, d1, d2, d3, d4, d5, d6, d7, d8, d9, d10, d11⟩ := (sgs_own HR.out.ol).cells HB.out hs
   injection e with e1 e2 e3; subst e1; clear e2 e3
   have hlt : (k : Int) < c.l.length := by omega
   have hk0 : (0 : Int) ≤ k := by omega
   have HSK := Hd (asks_succ hs)
   have hsid : s.id = (k : Int) + 1 := HID.out k s hs
   have HSID := Hd hsid
   have hal := asks_len' c.l k
   clear hs hsid
   go_upto_region 7 with (fail)
   obtain ⟨wb, hwb⟩ : ∃ wb, wb = wr.alloc (.cells (sgA s) tSaga) := ⟨_, rfl⟩
   rw [← hwb]
   have hbb : Below wr.heap.size wr wb := by rw [hwb]; exact below_alloc _ _
   have HX := Hd (show wb.heap[wr.heap.size]? = some (.cells (sgA s) tSaga (0, 0)) by rw [hwb]; exact heap_new _ _)
   have HOb := Hd (own_keep HO.out hbb)
   have HBb := Hd (bch HB.out hbb HB.out.size)
   clear hwb hbb d0 d1 d2 d3 d4 d5 d6 d7 d8 d9 d10 d11
   obtain ⟨d0, d1, d2, d3, d4, d5, d6, d7, d8, d9, d10, d11⟩ := sg_box HX.out
   go_wp2_with fail
   refine (waits_any s _).mono ?_
   rintro e w1 ⟨rfl, hb⟩
   have HO1 := Hd (own_keep HOb.out hb); have HB1 := Hd (bch HBb.out hb HBb.out.size)
   have HX1 := Hd (heap_keep HX.out hb)
   have hs1 := HB1.out.size
   clear hb d0 d1 d2 d3 d4 d5 d6 d7 d8 d9 d10 d11
   cases hw : Sa.waitsB s with
   | false =>
    have HF := Hd (show asksI (c.l.take (k + 1)) = asksI (c.l.take k) by rw [HSK.out, hw]; simp)
    clear hw
    go_wp2_with fail
    go_roundw
    case rel => exact ⟨k + 1, by go_num, by omega, by rw [HF.out]; exact HO1.out, HB1.out⟩
    case measure => simp [intOf]; omega
   | true =>
    have HF := Hd (show asksI (c.l.take (k + 1)) = asksI (c.l.take k) ++ [(s.id, Sa.waitsN s)] by rw [HSK.out, hw]; simp [HSID.out])
    clear hw
    obtain ⟨d0, d1, d2, d3, d4, d5, d6, d7, d8, d9, d10, d11⟩ := sg_box HX1.out
    go_wp2_with (at_builtin; refine wpList_append_any _ rfl (.tmp 25) (.tmp 31) tKeysC rfl w.heap.size tKey i0 (mkKey (0, 0)) 2 16 Tryz.underlying47 hi hz0 hz1 hz2 rfl (by decide) _ _ _ rfl (World.ownsRow.alloc HO1.out _) 1 (encK (s.id, Sa.waitsN s)) (src_blk (xs := encK (s.id, Sa.waitsN s)) (heap_new _ _) (encK_one _)) (by unfold maxLen; omega) (by omega) (by have := HB1.out.size; simp; omega) ?_; intro v2 w2 ho2 hg2 hat2)
    have HO2 := Hd (show w2.ownsRow w.heap.size tKey 2 v2 (asksI (c.l.take (k + 1))).length ((asksI (c.l.take (k + 1))).flatMap encK) by rw [HF.out, List.length_append, List.flatMap_append]; simpa using ho2)
    have HB2 := Hd (Below.grown (HB1.out.alloc HB1.out.size (.cells #[.int .i64 s.id, .int .i64 (Sa.waitsN s)] tKey)) hg2 (by have := HB1.out.size; simp; omega) (fun j hj => (HO1.out.lt j hj).1))
    clear ho2 hg2 hat2
    go_roundw
    case rel => exact ⟨k + 1, by go_num, by omega, HO2.out, HB2.out⟩
    case measure => simp [intOf]; omega
  ·obtain rfl : k = c.l.length := by omega
   have HO2 := Hd (show wr.ownsRow w.heap.size tKey 2 u3 (asksI c.l).length ((asksI c.l).flatMap encK) by have := HO.out; rwa [List.take_length] at this)
   go_wp2_with fail
   go_ret
   exact ⟨_, rfl, HO2.out, HB.out⟩
theorem corders_any {B : Nat} {w : World} {cb bb pm bm : Nat} {vl vb vI : Value} {c : Cor} (h : Cw B w cb bb pm bm vl vb vI c) : Calls Tryz.prog 34 #[.pointer (some ⟨cb, 0, none⟩)] w fun e w' => e = .returned (.int .i64 c.l.length) ∧ w = w' := by
 obtain ⟨A, cl, rfl, _⟩ := own_slice h.ol
 have HR := Hd h
 obtain ⟨y0, y1⟩ := h.c01
 clear h
 go_enter Tryz.func34, Tryz.ntmps34
 go_wp2_with (go_at_call 39; refine (cnone_any HR.out).mono ?_; rintro e w1 ⟨rfl, hb⟩; subst hb)
 go_ret
 exact ⟨rfl, rfl⟩
end Go.Proofs.YtlkncmpengpbiaaGreatDoor

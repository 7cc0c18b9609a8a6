/- The chapter's file of the carrier. -/
import Derived.Test.YtgpjbigelblanaaGreatDoorManifestParse
import Derived.Test.YtgpjbigelblanaaGreatDoorManifestPrint
import Derived.Test.YtgpjbigelblanaaGreatDoorStatSame
namespace Go.Proofs.YtgpjbigelblanaaGreatDoor
open Key Mon Rw

namespace Mf
def tA : List UInt8 := [109, 97, 110, 105, 102, 101, 115, 116, 44, 50, 10]
def tB : List UInt8 := [51, 44, 100, 111, 110, 101, 58, 52, 44, 100, 111, 110, 101, 58, 52, 10]
def tC : List UInt8 := [53, 44, 114, 101, 102, 117, 115, 101, 100, 44, 45, 10]
def tD : List UInt8 := [101, 110, 100, 44, 50, 44, 56, 10]
def tD9 : List UInt8 := [101, 110, 100, 44, 50, 44, 57, 10]
def tX : List UInt8 := [53, 44, 45, 44, 45, 10]
def tY : List UInt8 := [51, 44, 114, 101, 102, 117, 115, 101, 100, 44, 45, 10]
def tZ : List UInt8 := [51, 44, 100, 111, 110, 101, 58, 48, 52, 44, 100, 111, 110, 101, 58, 52, 10]
def tABCD : List UInt8 := [109, 97, 110, 105, 102, 101, 115, 116, 44, 50, 10, 51, 44, 100, 111, 110, 101, 58, 52, 44, 100, 111, 110, 101, 58, 52, 10, 53, 44, 114, 101, 102, 117, 115, 101, 100, 44, 45, 10, 101, 110, 100, 44, 50, 44, 56, 10]
def l3 : List R5 := [((3, 2), 1, 0, 4), ((3, 5), 1, 0, 4), ((5, 2), 2, 0, 0)]
theorem came1 : printS 2 2 l3 = (tABCD, 0) := by decide +kernel
theorem came2 : parseS (tA ++ tB ++ tC ++ tD) = ((2, 2, l3), 0, 0, 0) := by kernel_rfl
theorem came3 : parseS (tA ++ tB ++ tC ++ tD9) = ((0, 0, []), 4, 3, 5) := by kernel_rfl
theorem came4 : parseS (tA ++ tB ++ tX ++ tD) = ((0, 0, []), 3, 2, 3) := by kernel_rfl
theorem came5 : parseS (tA ++ tB ++ tY ++ tD) = ((0, 0, []), 3, 1, 6) := by kernel_rfl
theorem came6 : parseS (tA ++ tZ ++ tC ++ tD) = ((0, 0, []), 2, 2, 3) := by kernel_rfl
end Mf
end Go.Proofs.YtgpjbigelblanaaGreatDoor
namespace Go.Proofs.YtgpjbigelblanaaGreatDoor
open Go.RowKit Go.Maps Key Mon Mf Rw

set_option linter.unusedSimpArgs false in
set_option linter.unusedVariables false in
set_option maxRecDepth 100000 in
set_option maxHeartbeats 2000000 in
theorem mbad_any (s : ByteArray) (t : List UInt8) (ht : s.data.toList = t) (a b c : Nat) (ai bi ci : Int) (w : World) (h : parseS t = ((0, 0, []), a, b, c)) (ha : ai = a) (hb : bi = b) (hc : ci = c) (hS : MfW w) :
    Calls Tryz.prog 45 #[.string s, .int .i64 ai, .int .i64 bi, .int .i64 ci] w fun e w' => e = .returned (.bool true) ∧ Below w.heap.size w w' := by
  have HP := Lib.hid ((mparse_any s w hS).mono fun e w' h2 => (show (∃ v, e = .returned (.tuple #[.agg #[.int .i64 0, .int .i64 0, v], .agg #[.int .i64 ai, .int .i64 bi, .int .i64 ci]]) ∧ Rd w' v []) ∧ Below w.heap.size w w' by
    obtain ⟨⟨v, he, hr⟩, hbl⟩ := h2
    rw [ht, h] at he hr
    exact ⟨⟨v, by rw [he, ha, hb, hc]; rfl, hr⟩, hbl⟩))
  clear h ha hb hc hS ht
  go_enter Tryz.func45, Tryz.ntmps45
  go_wp2_with fail
  refine HP.out.mono ?_
  rintro e w1 ⟨⟨v, rfl, hr⟩, hb1⟩
  obtain ⟨A, cc, rfl, _⟩ := hr.shape
  go_upto_region 2 with (fail)
  obtain ⟨w2, hw2⟩ : ∃ w2, w2 = (w1.alloc (.cells #[.int .i64 0, .int .i64 0, .slice A 0 cc] tStat)).alloc (.cells #[.int .i64 ai, .int .i64 bi, .int .i64 ci] tRej) := ⟨_, rfl⟩
  rw [← hw2]
  have h2 := two_boxes w1 _ _ hw2.symm
  have HB2 := Lib.hid (bch hb1 h2.1 hb1.size)
  have HX := Lib.hid h2.2.1; have HY := Lib.hid h2.2.2
  have HR := Lib.hid (hr.keep h2.1)
  clear hw2 h2 hb1 hr
  generalize w1.heap.size = b1 at HX HY ⊢
  obtain ⟨m0, m1, m2⟩ := cell3c HX.out
  go_wp2_with fail
  refine (refSameT w2 (.slice A 0 cc) (.slice none 0 0) [] 0 0 HR.out (Rd.nil _) (by simp)).mono ?_
  rintro e w3 ⟨rfl, hb3⟩
  have HB3 := Lib.hid (bch HB2.out hb3 HB2.out.size)
  obtain ⟨n0, n1, n2⟩ := cell3c (heap_keep HY.out hb3)
  have q1 := beqT (show ai = ai from rfl); have q2 := beqT (show bi = bi from rfl); have q3 := beqT (show ci = ci from rfl)
  clear hb3 m0 m1 m2
  go_wp2_with fail
  go_ret
  exact ⟨rfl, HB3.out⟩
set_option linter.unusedSimpArgs false in
set_option linter.unusedVariables false in
set_option maxRecDepth 100000 in
set_option maxHeartbeats 4000000 in
theorem carried_any (w : World) (hS : MfW w) : Calls Tryz.prog 19 #[] w fun e w' => e = .returned (.bool true) ∧ Below w.heap.size w w' := by
  have HS := Lib.hid hS
  clear hS
  go_enter Tryz.func19, Tryz.ntmps19
  go_upto_region 2 with (fail)
  obtain ⟨W, hW⟩ : ∃ W, W = (w.alloc (.cells #[.int .i64 3, .int .i64 2, .int .i64 1, .int .i64 0, .int .i64 4, .int .i64 3, .int .i64 5, .int .i64 1, .int .i64 0, .int .i64 4, .int .i64 5, .int .i64 2, .int .i64 2, .int .i64 0, .int .i64 0] tRow)).alloc (.cells #[.int .i64 2, .int .i64 2, .slice (some ⟨w.heap.size, 0, none⟩) 3 3] tStat) := ⟨_, rfl⟩
  rw [← hW]
  have h2 := two_boxes w _ _ hW.symm
  have HB := Lib.hid h2.1; have HX := Lib.hid h2.2.2
  have HR := Lib.hid (show Rd W (.slice (some ⟨w.heap.size, 0, none⟩) 3 3) l3 from rd_own (B := 0) (l := l3) ⟨rfl, .inr ⟨_, 3, _, rfl, Nat.zero_le _, h2.2.1, Nat.le_refl _, by unfold maxLen; omega, rfl, rfl⟩⟩)
  clear hW h2
  generalize hb0 : w.heap.size = b0 at HR HX ⊢
  have HB0 := Lib.hid hb0
  clear hb0
  obtain ⟨m0, m1, m2⟩ := cell3c HX.out
  have HPR := Lib.hid (mprint_any (.slice (some ⟨b0, 0, none⟩) 3 3) 2 2 l3 W HR.out (HS.out.below HB.out))
  rw [came1] at HPR
  go_wp2_with fail
  refine HPR.out.mono ?_
  rintro e w1 ⟨rfl, hb1⟩
  unfold printV
  have HB1 := Lib.hid (bch HB.out hb1 HB.out.size); have HR1 := Lib.hid (HR.out.keep hb1); have HX1 := Lib.hid (heap_keep HX.out hb1)
  clear hb1 m0 m1 m2 HPR HX HR HB
  go_wp2_with fail
  have HP2 := Lib.hid (fun (t : ByteArray) (ht : t.data.toList = tA ++ tB ++ tC ++ tD) => (mparse_any t w1 (HS.out.below HB1.out)).mono fun e w' h2 => (show (∃ v, e = .returned (.tuple #[.agg #[.int .i64 2, .int .i64 2, v], .agg #[.int .i64 0, .int .i64 0, .int .i64 0]]) ∧ Rd w' v l3) ∧ Below w1.heap.size w1 w' by
    obtain ⟨⟨v, he, hr⟩, hbl⟩ := h2
    rw [ht, came2] at he hr
    exact ⟨⟨v, he, hr⟩, hbl⟩))
  refine (HP2.out _ (by kernel_rfl)).mono ?_
  rintro e w2 ⟨⟨v, rfl, hr⟩, hb2⟩
  obtain ⟨A, cc, hsh, _⟩ := hr.shape
  rw [show l3.length = 3 from rfl] at hsh
  subst hsh
  go_upto_region 5 with (fail)
  obtain ⟨w3, hw3⟩ : ∃ w3, w3 = (w2.alloc (.cells #[.int .i64 2, .int .i64 2, .slice A 3 cc] tStat)).alloc (.cells #[.int .i64 0, .int .i64 0, .int .i64 0] tRej) := ⟨_, rfl⟩
  rw [← hw3]
  have h3 := two_boxes w2 _ _ hw3.symm
  have HB3 := Lib.hid (bch (bch HB1.out hb2 HB1.out.size) h3.1 (bch HB1.out hb2 HB1.out.size).size)
  have HX3 := Lib.hid (heap_keep (heap_keep HX1.out hb2) h3.1); have HY3 := Lib.hid h3.2.1; have HZ3 := Lib.hid h3.2.2
  have HR3 := Lib.hid ((HR1.out.keep hb2).keep h3.1); have HS3 := Lib.hid (hr.keep h3.1)
  clear hw3 h3 hb2 hr HX1 HR1 HB1 HP2
  generalize w2.heap.size = b2 at HY3 HZ3 ⊢
  obtain ⟨m0, m1, m2⟩ := cell3c HX3.out
  obtain ⟨n0, n1, n2⟩ := cell3c HY3.out
  have hq : (tABCD == ((⟨#[109, 97, 110, 105, 102, 101, 115, 116, 44, 50, 10]⟩ : ByteArray) ++ ⟨#[51, 44, 100, 111, 110, 101, 58, 52, 44, 100, 111, 110, 101, 58, 52, 10]⟩ ++ ⟨#[53, 44, 114, 101, 102, 117, 115, 101, 100, 44, 45, 10]⟩ ++ ⟨#[101, 110, 100, 44, 50, 44, 56, 10]⟩).toList) = true := by kernel_rfl
  go_wp2_with fail
  refine (refSameT w3 (.slice (some ⟨b0, 0, none⟩) 3 3) (.slice A 3 cc) l3 2 2 HR3.out HS3.out (by simp [l3])).mono ?_
  rintro e w4 ⟨rfl, hb4⟩
  have HB4 := Lib.hid (bch HB3.out hb4 HB3.out.size)
  obtain ⟨p0, p1, p2⟩ := cell3c (heap_keep HZ3.out hb4)
  clear hb4 m0 m1 m2 n0 n1 n2 HB3 HX3 HY3 HZ3 HR3 HS3 hq
  go_wp2_with fail
  refine (mbad_any _ (tA ++ tB ++ tC ++ tD9) (by kernel_rfl) 4 3 5 4 3 5 _ came3 rfl rfl rfl (HS.out.below HB4.out)).mono ?_
  rintro e w5 ⟨rfl, hb⟩
  have HB5 := Lib.hid (bch HB4.out hb HB4.out.size)
  clear hb p0 p1 p2
  go_wp2_with fail
  refine (mbad_any _ (tA ++ tB ++ tX ++ tD) (by kernel_rfl) 3 2 3 3 2 3 _ came4 rfl rfl rfl (HS.out.below HB5.out)).mono ?_
  rintro e w6 ⟨rfl, hb⟩
  have HB6 := Lib.hid (bch HB5.out hb HB5.out.size)
  clear hb
  go_wp2_with fail
  refine (mbad_any _ (tA ++ tB ++ tY ++ tD) (by kernel_rfl) 3 1 6 3 1 6 _ came5 rfl rfl rfl (HS.out.below HB6.out)).mono ?_
  rintro e w7 ⟨rfl, hb⟩
  have HB7 := Lib.hid (bch HB6.out hb HB6.out.size)
  clear hb
  go_wp2_with fail
  refine (mbad_any _ (tA ++ tZ ++ tC ++ tD) (by kernel_rfl) 2 2 3 2 2 3 _ came6 rfl rfl rfl (HS.out.below HB7.out)).mono ?_
  rintro e w8 ⟨rfl, hb⟩
  have HB8 := Lib.hid (bch HB7.out hb HB7.out.size)
  clear hb
  go_wp2_with fail
  go_ret
  exact ⟨rfl, HB8.out⟩
end Go.Proofs.YtgpjbigelblanaaGreatDoor
namespace Go.Proofs.YtgpjbigelblanaaGreatDoor
open Go.RowKit Go.Maps Key Mon Mf Rw

theorem mparse_is (s : ByteArray) (t : List UInt8) (ht : s.data.toList = t) (p q : Int) (l : List R5) (a b c : Nat) (ai bi ci : Int) (w : World) (h : parseS t = ((p, q, l), a, b, c)) (ha : ai = a) (hb : bi = b) (hc : ci = c) (hS : MfW w) :
    Calls Tryz.prog 22 #[.string s] w fun e w' => (∃ v, e = .returned (.tuple #[.agg #[.int .i64 p, .int .i64 q, v], .agg #[.int .i64 ai, .int .i64 bi, .int .i64 ci]]) ∧ Rd w' v l) ∧ Below w.heap.size w w' :=
  (mparse_any s w hS).mono fun e w' h2 => by
    obtain ⟨⟨v, he, hr⟩, hbl⟩ := h2
    rw [ht, h] at he hr
    exact ⟨⟨v, by rw [he, ha, hb, hc]; rfl, hr⟩, hbl⟩
end Go.Proofs.YtgpjbigelblanaaGreatDoor

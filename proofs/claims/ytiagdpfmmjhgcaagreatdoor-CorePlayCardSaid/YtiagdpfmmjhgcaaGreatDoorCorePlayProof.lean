/- What the laid tables give: keys.Put, strconv.Itoa; the law's came. -/
import Derived.Test.YtiagdpfmmjhgcaaGreatDoorCoreCame
import Derived.Test.YtiagdpfmmjhgcaaGreatDoorRefPutK
import Derived.Test.YtiagdpfmmjhgcaaGreatDoorShelf
import Derived.Test.YtiagdpfmmjhgcaaGreatDoorCoreAlike
import Derived.Test.YtiagdpfmmjhgcaaGreatDoorRefApply
import Derived.Test.YtiagdpfmmjhgcaaGreatDoorShort
import Derived.Deep.DeepHandedRow
import Derived.Lib.LaidTab
import Derived.Stop.LaidErr
import Derived.Maps.OwnSet
import Derived.Test.YtiagdpfmmjhgcaaGreatDoorCards
import Derived.Test.YtiagdpfmmjhgcaaGreatDoorTie
import Derived.WalkKit
import Derived.ProofKit
import Derived.OpenShut
import Derived.ShutString
import Derived.ChangeOld
namespace Go.Proofs.YtiagdpfmmjhgcaaGreatDoor
open Go.RowKit Go.Maps Co Key Rw Sa Od

theorem kw_pt {w : World} (h : KW w) : PT w := h.tab
theorem kw_itoa {w : World} (h : KW w) (n : Int) (W : World) (h0 : 0 ≤ n) (h1 : n ≤ 1073741824) (hW : Below w.heap.size w W) : Calls Tryz.prog 58 #[.int .i64 n] W fun e w' => e = .returned (.string ⟨(Lib.itoa n).toArray⟩) ∧ Below W.heap.size W w' := by
  refine (Tryz.strconv_Itoa n (by omega) (by omega) W (h.below hW).mw.tab).mono ?_
  rintro e w' ⟨rfl, k, os, rfl⟩
  exact ⟨rfl, below_growN _ _ _⟩
theorem came_at (w : World) (h : KW w) : Calls Tryz.prog 5 #[] w fun e w' => e = .returned (.bool true) ∧ Below w.heap.size w w' :=
  came_any w (kw_pt h) (fun o d W hW => putK_any o d W (h.below hW)) (fun n W h0 h1 hW => kw_itoa h n W h0 h1 hW)
end Go.Proofs.YtiagdpfmmjhgcaaGreatDoor
/- law24: CorePlay. -/
namespace Go.Proofs.YtiagdpfmmjhgcaaGreatDoor
open Go.RowKit Go.Maps Co Key Rw Sa Od Ma
set_option linter.unusedSimpArgs false
set_option linter.unusedVariables false
set_option maxRecDepth 100000
set_option maxHeartbeats 16000000

theorem findD_len {l : List Sg} {I : In.Inn} (hg : In.Fine I) (hl : l.length ≤ 60) : (findD l I).length < 10000 := by
 unfold findD
 rw [fold_len]
 unfold allD
 rw [List.length_append]
 have h1 := sagas_len I l l.length
 have h2 := rowsD_len l (In.rowsAll I)
 have h3 := preK_len hg 3
 unfold preK at h3
 simp at h3
 omega
theorem ids_hist {c : Cor} (h : CoH c) : ∀ (k : Nat) s, c.l[k]? = some s → s.id = (k : Int) + 1 := fun k s hs => (h.at1 k s hs).1
theorem icokI {c : Cor} {n : Nat} (h : CoI c n) : c.inn.a.2.2.length < 100000 ∧ c.inn.b.2.2.length < 100000 ∧ c.inn.c.2.2.length < 100000 := by
 have h1 := In.ok_len h.fi.a; have h2 := In.ok_len h.fi.b; have h3 := In.ok_len h.fi.c
 omega
/-- What the law holds between two rounds: the program's core, the document's, apart from each other. -/
structure Both (B : Nat) (w : World) (cb bb pm bm : Nat) (vl vb vI : Value) (rb : Nat) (vL vB vR : Value) (c : Cor) : Prop where
 p : Cw B w cb bb pm bm vl vb vI c
 r : Rr w rb vL vB vR c
 ap : ∀ j, Cs cb bb pm bm vl vb j → RAv j rb vL vB vR c
 av : Av rb vI c.inn
 rB : B ≤ rb
theorem Both.below {B : Nat} {w w' : World} {cb bb pm bm : Nat} {vl vb vI : Value} {rb : Nat} {vL vB vR : Value} {c : Cor} (h : Both B w cb bb pm bm vl vb vI rb vL vB vR c) (hb : Below w.heap.size w w') : Both B w' cb bb pm bm vl vb vI rb vL vB vR c := ⟨h.p.below hb, h.r.below hb, h.ap, h.av, h.rB⟩
/-- Other blocks turned, that are none of both. -/
theorem Both.turned {B : Nat} {w w' : World} {cb bb pm bm : Nat} {vl vb vI : Value} {rb : Nat} {vL vB vR : Value} {c : Cor} (h : Both B w cb bb pm bm vl vb vI rb vL vB vR c) {S : Nat → Prop} (ht : Turned S w w') (h1 : ∀ j, Cs cb bb pm bm vl vb j → ¬ S j) (h2 : ∀ j, S j → Av j vI c.inn) (h3 : ∀ j, S j → RAv j rb vL vB vR c) : Both B w' cb bb pm bm vl vb vI rb vL vB vR c :=
 ⟨h.p.kept ht h1 h2, h.r.turned ht h3, h.ap, h.av, h.rB⟩
/-- Both took the same entry. -/
theorem Both.step {B : Nat} {w w1 w2 : World} {cb bb pm bm : Nat} {vl vb vI vl' vb' vI' : Value} {rb : Nat} {vL vB vR vL' vB' vR' : Value} {c c' : Cor} (h : Both B w cb bb pm bm vl vb vI rb vL vB vR c)
  (hp : Cw B w1 cb bb pm bm vl' vb' vI' c') (_ht : Turned (Cs cb bb pm bm vl vb) w w1) (hl : ∀ j, vl'.ownBlock = some j → vl.ownBlock = some j ∨ w.heap.size ≤ j) (hb : ∀ j, vb'.ownBlock = some j → vb.ownBlock = some j ∨ w.heap.size ≤ j) (ha : ∀ j, j < w.heap.size → Av j vI c.inn → Av j vI' c'.inn)
  {Q : Nat → Prop} (hs : RStp Q w1 w2 rb vL vB vR c vL' vB' vR' c') (hQ : ∀ j, B ≤ j → Q j) : Both B w2 cb bb pm bm vl' vb' vI' rb vL' vB' vR' c' ∧ ∀ j, Cs cb bb pm bm vl' vb' j → Cs cb bb pm bm vl vb j ∨ w.heap.size ≤ j := by
 have hrw : rb < w.heap.size := heap_lt h.r.hc
 have hnr : ¬ Cs cb bb pm bm vl vb rb := fun hj => (h.ap rb hj).1 rfl
 have hcs : ∀ j, Cs cb bb pm bm vl' vb' j → Cs cb bb pm bm vl vb j ∨ w.heap.size ≤ j := fun j hj => by
  rcases hj with e | (e | e | e | e) | e
  ·exact .inl (.inl e)
  ·exact .inl (.inr (.inl (.inl e)))
  ·exact .inl (.inr (.inl (.inr (.inl e))))
  ·exact .inl (.inr (.inl (.inr (.inr (.inl e)))))
  ·exact (hb j e).imp (fun h => .inr (.inl (.inr (.inr (.inr h))))) id
  ·exact (hl j e).imp (fun h => .inr (.inr h)) id
 have hnr' : ¬ Cs cb bb pm bm vl' vb' rb := fun hj => (hcs rb hj).elim hnr (fun h => by omega)
 have hav := ha rb hrw h.av
 refine ⟨⟨hp.kept hs.t (fun j hj e => hnr' (e ▸ hj)) (fun j e => by rw [e]; exact hav), hs.r, fun j hj => ?_, hav, h.rB⟩, hcs⟩
 have hj1 := hp.ls hj
 refine hs.a j hj1.2 (hQ j hj1.1) ?_
 rcases hcs j hj with h1 | h1
 ·exact h.ap j h1
 ·exact h.r.far h1
theorem lawCorePlay_walk (w : World) (hK : KW w) (v : Value) (l : List Ent) (hl : Ents w v l) (account order : Int) (ha : -9223372036854775808 ≤ account ∧ account ≤ 9223372036854775807) (ho : -9223372036854775808 ≤ order ∧ order ≤ 9223372036854775807) :
  Calls Tryz.prog 3 #[v, .int .i64 account, .int .i64 order] w fun e w' => e = .returned (.bool true) ∧ Below w.heap.size w w' := by
 obtain ⟨A, cl, rfl, hlc, hcm⟩ := SlK.shape hl
 have HL := Hd hl; have HK := Hd hK
 clear hl hK
 go_enter Tryz.func3, Tryz.ntmps3
 go_wp2_with fail
 refine (egreats_any w _ l 60 HL.out).mono ?_
 rintro r w1 ⟨rfl, hb⟩
 have HB1 := Hd hb; have HK1 := Hd (HK.out.below hb); have HL1 := Hd (HL.out.keep hb)
 clear hb HL HK
 cases hG : entsG l 60 with
 | true =>
  go_wp2_with fail
  refine (came_at _ HK1.out).mono ?_
  rintro r w2 ⟨rfl, hb⟩
  have HB2 := Hd (bch HB1.out hb HB1.out.size)
  clear hb
  go_wp2_with fail
  go_ret
  exact ⟨rfl, HB2.out⟩
 | false =>
  have hlen := (entsG_not hG).2
  clear hG
  go_wp2_with fail
  refine (cnew_any w1).mono ?_
  rintro r w2 ⟨cb, bb, pm, bm, rfl, hc, hb⟩
  have HC2 := Hd hc; have HB2 := Hd hb
  have hs2 := hb.size
  clear hc hb
  go_wp2_with fail
  refine (rnew_any w2).mono ?_
  rintro r w3 ⟨rfl, hr, hb⟩
  have HBO := Hd (show Both w1.heap.size w3 cb bb pm bm (.slice none 0 0) (.slice none 0 0) vIn0 w2.heap.size (.slice none 0 0) (.slice none 0 0) vInR0 (ofL l 0) from ⟨HC2.out.below hb, hr, fun j hj => ⟨by have := (HC2.out.ls hj).2; omega, fun _ _ _ e => (by cases e), fun _ _ _ e => (by cases e), AvR.nil j⟩, Av.nil _, hs2⟩)
  have HB3 := Hd (bch HB2.out hb hs2)
  generalize w2.heap.size = rb at HBO ⊢
  clear hr hb HC2 HB2
  go_wp2_with fail
  go_loopw [9] (fun i wr => ∃ (k : Nat) (vl vb vI vL vB vR : Value), i = .int .i64 k ∧ k ≤ l.length ∧ Hid (Both w1.heap.size wr cb bb pm bm vl vb vI rb vL vB vR (ofL l k)) ∧ Hid (Below w1.heap.size w1 wr)) (fun i _ => l.length - (intOf i).toNat)
  case atStart => exact ⟨0, _, _, _, _, _, _, rfl, Nat.zero_le _, HBO.out, HB3.out⟩
  case round =>
   obtain ⟨k, vl, vb, vI, vL, vB, vR, rfl, hk, HBr, HWr⟩ := hrel
   clear HBO HB3 hs2
   have hk0 : (0 : Int) ≤ k := by omega
   have HI := Hd (ofL_inv l k hk); have HH := Hd (ofL_hist l k hk)
   obtain ⟨c, hc⟩ : ∃ c, ofL l k = c := ⟨_, rfl⟩
   by_cases hkl : k < l.length
   ·obtain ⟨x, hxx⟩ : ∃ x, l[k]? = some x := ⟨_, List.getElem?_eq_getElem hkl⟩
    have hlt : (k : Int) < l.length := by omega
    obtain ⟨g, off, n', c', Ax, cx, e, hg, hrx, hd⟩ := HL1.out.cells hxx
    injection e with e1 e2 e3; subst e1; clear e2 e3
    have HD := Hd hd; have HRX := Hd hrx
    clear hd hrx
    have HC' := Hd (show ofL l (k + 1) = applyC c x by rw [ofL_succ hxx, hc])
    have HI' := Hd (ofL_inv l (k + 1) hkl); have HH' := Hd (ofL_hist l (k + 1) hkl)
    rw [HC'.out] at HI' HH'
    rw [hc] at HBr HI HH
    clear hc
    obtain ⟨m, hm⟩ : ∃ m, (k + 1) % l.length = m := ⟨_, rfl⟩
    have hml : m < l.length := by rw [← hm]; exact Nat.mod_lt _ (by omega)
    have hmI : ((k : Int) + 1) % (l.length : Int) = (m : Int) := by rw [← hm, Int.natCast_emod]; rfl
    have hmT : Int.tmod ((k : Int) + 1) (l.length : Int) = (m : Int) := by rw [Int.tmod_eq_emod_of_nonneg (by omega)]; exact hmI
    have hmlt : (m : Int) < l.length := by omega
    have hm0 : (0 : Int) ≤ m := by omega
    obtain ⟨y, hyy⟩ : ∃ y, l[m]? = some y := ⟨_, List.getElem?_eq_getElem hml⟩
    obtain ⟨g2, off2, n', c', Ay, cy, e, hg2, hry, hdy⟩ := HL1.out.cells hyy
    injection e with e1 e2 e3; injection e1 with e1; injection e1 with e1 e4 _; subst e1; subst e4; clear e2 e3
    have HDY := Hd hdy; have HRY := Hd hry
    have hw1k : IntKind.i64.wrap ((k : Int) + 1) = (k : Int) + 1 := IntWalk.i64_in _ (by omega)
    clear hdy hry hxx hyy hm
    have hbl := HI.out.bl; have hll := HI.out.le
    have hbl' := HI'.out.bl; have hll' := HI'.out.le
    go_wp2_with fail
    refine (ccopy_any HBr.out.p (by omega) (by omega)).mono ?_
    rintro r w4 ⟨c2, b2, p2, m2, vl2, vb2, rfl, hcd, hb⟩
    have HD4 := Hd hcd; have HB4 := Hd (HBr.out.below hb); have HW4 := Hd (bch HWr.out hb HWr.out.size)
    have hs4 := hb.size
    have hcsr : ∀ j, Cs cb bb pm bm vl vb j → j < wr.heap.size := fun j hj => (HBr.out.p.ls hj).2
    clear hcd hb
    obtain ⟨d0, d1, d2, d3, d4, d5, d6, d7, d8, d9, d10, d11⟩ := HD.out _ HW4.out
    go_wp2_with fail
    refine (capply_any HB4.out.p x _ (HRX.out.rd.keep HW4.out) (kw_pt (HK1.out.below HW4.out)) (HI.out.ok (by omega) x) HRX.out.nn.ko (fun W hW => putK_any _ _ W (HK1.out.below (HW4.out.trans hW))) (fun n W h0 h1 hW => kw_itoa (HK1.out.below (HW4.out.trans hW)) n W h0 h1 (Below.refl _ _))).mono ?_
    rintro r w5 ⟨vl', vb', vI', rfl, hc5, ht5, hl5, hb5, ha5⟩
    have HC5 := Hd hc5; have HT5 := Hd ht5; have HL5 := Hd hl5; have HVB5 := Hd hb5; have HA5 := Hd ha5
    have HR5 := Hd (HB4.out.r.turned ht5 HB4.out.ap)
    have HD5 := Hd (HD4.out.kept ht5 (fun j hj hs => by have h1 := (HD4.out.ls hj).1; have h2 := hcsr j hs; omega) (fun j hs => HB4.out.p.av j hs))
    have HW5 := Hd (Below.turned HW4.out ht5 (fun j hj => (HB4.out.p.ls hj).1) HW4.out.size)
    clear hc5 ht5 hl5 hb5 ha5 d0 d1 d2 d3 d4 d5 d6 d7 d8 d9 d10 d11
    obtain ⟨d0, d1, d2, d3, d4, d5, d6, d7, d8, d9, d10, d11⟩ := HD.out _ HW5.out
    go_wp2_with fail
    have hqx : ∀ j, w1.heap.size ≤ j → OffL j (.slice Ax x.s.2.2.length cx) x.s.2.2.length := fun j hj => by intro ad n c' e hp h; have := rd_near HRX.out.rd ad n c' e hp; omega
    refine (rapply_any HR5.out x Ax cx (HRX.out.rd.keep HW5.out) (by omega) (by omega) HI.out.am (ids_hist HH.out) (hqx rb HBr.out.rB)).mono ?_
    rintro r w6 ⟨vL', vB', vR', rfl, hst⟩
    obtain ⟨hbo, hcs6⟩ := HB4.out.step HC5.out HT5.out HL5.out HVB5.out HA5.out hst hqx
    have HB6 := Hd hbo; have HCS6 := Hd hcs6
    have hrb := heap_lt HBr.out.r.hc
    have HD6 := Hd (HD5.out.kept hst.t (fun j hj e => by have := (HD4.out.ls hj).1; omega) (fun j e => by rw [e]; exact HBr.out.av))
    have HAV6 := Hd (fun j (hj : Cs c2 b2 p2 m2 vl2 vb2 j) => HA5.out j (HD4.out.ls hj).2 (Av.far HBr.out.p.ii (HD4.out.ls hj).1))
    have HRA6 := Hd (fun j (hj : Cs c2 b2 p2 m2 vl2 vb2 j) => hst.a j (HD5.out.ls hj).2 (hqx j (by have := (HD4.out.ls hj).1; have := HWr.out.size; omega)) (HBr.out.r.far (HD4.out.ls hj).1))
    have HW6 := Hd (Below.turned HW5.out hst.t (fun j hj => by rw [hj]; exact HBr.out.rB) HW5.out.size)
    have hdis : ∀ j, Cs cb bb pm bm vl' vb' j → ¬ Cs c2 b2 p2 m2 vl2 vb2 j := fun j hj hs => by have h1 := HD4.out.ls hs; rcases HCS6.out j hj with h2 | h2; (have := hcsr j h2; omega); omega
    have HDIS := Hd hdis
    have HE := Hd (show (applyE c x = 0 → applyC c x ≠ c) ∧ (applyE c x ≠ 0 → applyC c x = c) from ⟨fun h e => (apply_yes HI.out h).elim (fun h2 => h2 (by rw [e])) (fun h2 => h2 (by rw [e])), fun h => apply_no h⟩)
    clear hst hbo hcs6 hdis HC5 HT5 HL5 HVB5 HA5 HR5 HD5 HB4 HW4 HD4 hcsr hqx d0 d1 d2 d3 d4 d5 d6 d7 d8 d9 d10 d11
    obtain ⟨ee, hee⟩ : ∃ ee, applyE c x = ee := ⟨_, rfl⟩
    obtain ⟨c', hcc⟩ : ∃ c', applyC c x = c' := ⟨_, rfl⟩
    rw [hee] at HE ⊢
    rw [hcc] at HE HB6 HI' HH' HC' HAV6 HRA6 hbl' hll'
    clear hee hcc
    have HALI := Hd (fun W (hW : Both w1.heap.size W cb bb pm bm vl' vb' vI' rb vL' vB' vR' c') (hWW : Below w1.heap.size w1 W) => alike_any hW.p hW.r (ids_hist HH'.out) hll' (by omega) (icokI HI'.out) (kw_pt (HK1.out.below hWW)) (findD_len HI'.out.fi hll'))
    go_wp2_with fail
    refine (HALI.out _ HB6.out HW6.out).mono ?_
    rintro r w7 ⟨rfl, hb⟩
    have HB7 := Hd (HB6.out.below hb); have HD7 := Hd (HD6.out.below hb); have HW7 := Hd (bch HW6.out hb HW6.out.size)
    clear hb HB6 HD6 HW6 HBr
    go_wp2_with fail
    refine (csame_any HB7.out.p HD7.out (by omega) (by omega) (by omega) (by omega) (icokI HI'.out) (icokI HI.out)).mono ?_
    rintro r w8 ⟨b8, rfl, hi8, hb⟩
    have HB8 := Hd (HB7.out.below hb); have HD8 := Hd (HD7.out.below hb); have HW8 := Hd (bch HW7.out hb HW7.out.size)
    clear hb HB7 HD7 HW7
    have hbe : b8 = (ee != 0) := by by_cases h0 : ee = 0; (have h1 := HE.out.1 h0; cases b8; (rw [h0]; rfl); exact absurd (hi8.1 rfl) h1); (have h1 := hi8.2 (HE.out.2 h0); rw [h1]; simp [h0])
    subst hbe
    clear hi8
    have hqe : ((ee != 0) != (ee != 0)) = false := by simp
    go_wp2_with fail
    go_loop [12] (fun i => ∃ a : Int, i = .int .i64 a ∧ -1 ≤ a ∧ a ≤ 6) (fun i => (6 - intOf i).toNat)
    case atStart => exact ⟨-1, rfl, by omega, by omega⟩
    case round =>
     obtain ⟨a, rfl, ha1, ha6⟩ := hrel
     by_cases hal : a < 6
     ·go_wp2_with fail
      go_loop [13] (fun i => ∃ o : Int, i = .int .i64 o ∧ 0 ≤ o ∧ o ≤ 6) (fun i => (6 - intOf i).toNat)
      case atStart => exact ⟨0, rfl, by omega, by omega⟩
      case round =>
       obtain ⟨o, rfl, ho0, ho6⟩ := hrel
       by_cases hol : o < 6
       ·have hwo : IntKind.i64.wrap (o + 1) = o + 1 := IntWalk.i64_in _ (by omega)
        go_wp2_with fail
        refine (cbal_any HB8.out.p a o (by omega) (by omega)).mono ?_
        rintro r w9 ⟨rfl, hb⟩; subst hb
        go_wp2_with fail
        refine (rbal_any HB8.out.r a o HI'.out.may (by omega)).mono ?_
        rintro r w9 ⟨rfl, hb⟩; subst hb
        go_wp2_with fail
        go_round
        case rel => exact ⟨o + 1, by go_num, by omega, by omega⟩
        case measure => simp [intOf]; omega
       ·have hwa : IntKind.i64.wrap (a + 1) = a + 1 := IntWalk.i64_in _ (by omega)
        go_wp2_with fail
        go_round
        case rel => exact ⟨a + 1, by go_num, by omega, by omega⟩
        case measure => simp [intOf]; omega
     ·obtain ⟨d0, d1, d2, d3, d4, d5, d6, d7, d8, d9, d10, d11⟩ := HDY.out _ HW8.out
      go_wp2_with fail
      refine (capply_any HD8.out y _ (HRY.out.rd.keep HW8.out) (kw_pt (HK1.out.below HW8.out)) (HI.out.ok (by omega) y) HRY.out.nn.ko (fun W hW => putK_any _ _ W (HK1.out.below (HW8.out.trans (hW.mono (Nat.le_trans HWr.out.size (Nat.le_refl _)))))) (fun n W h0 h1 hW => kw_itoa (HK1.out.below (HW8.out.trans (hW.mono (Nat.le_trans HWr.out.size (Nat.le_refl _))))) n W h0 h1 (Below.refl _ _))).mono ?_
      rintro r w9 ⟨vl3, vb3, vI3, rfl, hc9, ht9, _, _, _⟩
      have HB9 := Hd (HB8.out.turned ht9 HDIS.out HAV6.out HRA6.out)
      have HW9 := Hd (Below.turned HW8.out ht9 (fun j hj => by have := (HD8.out.ls hj).1; have := HWr.out.size; omega) HW8.out.size)
      clear hc9 ht9 HB8 HD8 HW8 HDIS HAV6 HRA6 d0 d1 d2 d3 d4 d5 d6 d7 d8 d9 d10 d11
      go_wp2_with fail
      refine (HALI.out _ HB9.out HW9.out).mono ?_
      rintro r w10 ⟨rfl, hb⟩
      have HB10 := Hd (HB9.out.below hb); have HW10 := Hd (bch HW9.out hb HW9.out.size)
      clear hb HB9 HW9 HALI
      go_wp2_with fail
      go_roundw
      case rel => exact ⟨k + 1, vl', vb', vI', vL', vB', vR', by go_num, by omega, by rw [HC'.out]; exact HB10.out, HW10.out⟩
      case measure => simp [intOf]; omega
   ·obtain rfl : k = l.length := by omega
    rw [hc] at HBr HI HH
    clear hc hkl
    have hbl := HI.out.bl; have hll := HI.out.le
    obtain ⟨RL, rl, hRL, hlc2, _⟩ := HBr.out.r.l.shape
    subst hRL
    have y0 := HBr.out.r.c01.1
    go_wp2_with fail
    refine (corder_any HBr.out.p 0 (by omega) (by omega)).mono ?_
    rintro r w4 ⟨_, hno, hb⟩
    obtain rfl := hno (by omega)
    go_upto_region 23 with (fail)
    obtain ⟨w5, hw5⟩ : ∃ w5, w5 = w4.alloc (.cells (sgA sg0) tSaga) := ⟨_, rfl⟩
    rw [← hw5]
    have hb5 := bch hb (show Below w4.heap.size w4 w5 by rw [hw5]; exact below_alloc _ _) hb.size
    have HB5 := Hd (HBr.out.below hb5); have HW5 := Hd (bch HWr.out hb5 HWr.out.size)
    clear hno hb hw5 hb5 y0 HBr HWr
    have y0 := HB5.out.r.c01.1
    have hwl : IntKind.i64.wrap ((c.l.length : Int) + 1) = (c.l.length : Int) + 1 := IntWalk.i64_in _ (by omega)
    go_wp2_with fail
    refine (corder_any HB5.out.p ((c.l.length : Int) + 1) (by omega) (by omega)).mono ?_
    rintro r w6 ⟨_, hno, hb⟩
    obtain rfl := hno (by omega)
    go_upto_region 24 with (fail)
    obtain ⟨w7, hw7⟩ : ∃ w7, w7 = w6.alloc (.cells (sgA sg0) tSaga) := ⟨_, rfl⟩
    rw [← hw7]
    have hb7 := bch hb (show Below w6.heap.size w6 w7 by rw [hw7]; exact below_alloc _ _) hb.size
    have HB7 := Hd (HB5.out.below hb7); have HW7 := Hd (bch HW5.out hb7 HW5.out.size)
    clear hno hb hw7 hb7 y0 HB5 HW5
    go_wp2_with fail
    refine (cbal_any HB7.out.p account order ha ho).mono ?_
    rintro r w9 ⟨rfl, hb⟩; subst hb
    go_wp2_with fail
    refine (rbal_any HB7.out.r account order HI.out.may (by omega)).mono ?_
    rintro r w9 ⟨rfl, hb⟩; subst hb
    go_wp2_with fail
    refine (came_at _ (HK1.out.below HW7.out)).mono ?_
    rintro r w10 ⟨rfl, hb⟩
    have HW10 := Hd (bch HW7.out hb HW7.out.size)
    clear hb
    go_wp2_with fail
    go_ret
    exact ⟨rfl, bch HB1.out HW10.out HB1.out.size⟩
end Go.Proofs.YtiagdpfmmjhgcaaGreatDoor
/- The frame that the door laws over cores share: what 'laid' gives, the witness' world. -/
namespace Go.Proofs.YtiagdpfmmjhgcaaGreatDoor
open Go.ChangeShapes Go.WideShapes Go.ChangeAt

theorem doorOwn : ownKnob Tryz.prog.godebug = none := by kernel_rfl
theorem doorLaidOut : laidOutB Tryz.prog = true := by kernel_rfl
theorem gTabC : Tryz.prog.globalNamed "internal/strconv.uint64pow10" = some 2 := by kernel_rfl
theorem gDeedsC : Tryz.prog.globalNamed "consignor/keys.deeds" = some 0 := by kernel_rfl
def doorObj (cs : Array Value) : Obj → Obj
  | .cells _ t frozen => .cells cs t frozen
  | o => o
def tabV (k : IntKind) (zs : List Int) : Array Value := (zs.map fun z => Value.int k z).toArray
/-- So many blocks has the settled world. -/
noncomputable def doorLow : Nat := (World.holding Tryz.prog default ⟨#[], #[], []⟩).heap.size
theorem map_of {name : String} {gl n : Nat} {D : DataW Unit} {r : List (String × DataW Unit)} {W : World} (hgn : Tryz.prog.globalNamed name = some gl) (hgt : (Tryz.prog.globals[gl]?).map (·.type) = some 160) (hDn : ∃ l, D = .map l ∧ l.length = n) (h : laidMet Tryz.prog ((name, D) :: r) W) :
    ∃ b, W.cell? ⟨gl, 0, none⟩ = some (.map (some b)) ∧ gl < W.heap.size ∧ W.ownsMap Tryz.prog tStr (plainElem Tryz.prog tIntK2) b n D := by
  obtain ⟨ps, ⟨g, t, cs, fuel, p, q, hg, ht, hv, hd, _⟩, _⟩ := h
  obtain rfl := Option.some.inj (hgn.symm.trans hg)
  obtain rfl := Option.some.inj (hgt.symm.trans ht)
  obtain ⟨l, rfl, hl⟩ := hDn
  rcases WideElems.open_map Tryz.underlying160 hd with ⟨_, hx⟩ | ⟨bm, es, clock, n', _, hcs, hb, _, F, hx⟩
  · injection hx with hx _
    cases hx
  · have hown := World.ownsMap_of_fit (R := plainElem Tryz.prog tIntK2) hb F (fun x _ z hz => elemAt_plainElem_int Tryz.underlying3 hz)
    injection hx with hx _
    have hc := World.var?_cell hg hv 0
    have e0 : cs[0]? = some (.map (some bm)) := by
      have : cs.toList[0]? = some (.map (some bm)) := by rw [hcs]; rfl
      simpa using this
    rw [e0] at hc
    have hD : DataW.map ((es.toList.map (WideElems.rg Tryz.prog tStr (WideElems.elemAt (fun _ => ()) Tryz.prog W 0 (fun _ => true) false n' tIntK2))).foldr DataW.insert []) = .map l := hx.symm
    have hsz : es.size = n := by
      have := congrArg Maps.size hD
      rw [← hl]
      simpa [Maps.size, length_sorted] using this
    rw [hD, hsz] at hown
    exact ⟨bm, hc, World.block_lt_of_cell? W _ hc, hown⟩

theorem kw_laid {r : List (String × DataW Unit)} {d1 d2 : String × DataW Unit} {W : World}
    (h : laidMet Tryz.prog (d1 :: d2 :: ("internal/strconv.uint64pow10", Lib.tabData .u64 Lib.pow10Tab) :: ("consignor/keys.parties", Lib.tabData .i64 [1, 0, 2, 1, 0, 2]) :: ("consignor/keys.deeds", D6) :: r) W) : KW W :=
  ⟨⟨Lib.tabIs_of_head gTabC (by kernel_rfl) Tryz.underlying188 Tryz.underlying162 (by kernel_rfl) (by kernel_rfl) h.tail.tail⟩, Lib.tabIs_of_head gPartiesK2 (by kernel_rfl) Tryz.underlying43 Tryz.underlying3 (by kernel_rfl) (by kernel_rfl) h.tail.tail.tail, map_of gDeedsC (by kernel_rfl) ⟨_, rfl, rfl⟩ h.tail.tail.tail.tail⟩
abbrev coHeld : Input := ⟨#[.map #[⟨.string ⟨#[114, 101, 115, 101, 114, 118, 101]⟩, .int .i64 0, 0⟩, ⟨.string ⟨#[99, 104, 97, 114, 103, 101]⟩, .int .i64 1, 1⟩, ⟨.string ⟨#[115, 104, 105, 112]⟩, .int .i64 2, 2⟩, ⟨.string ⟨#[114, 101, 108, 101, 97, 115, 101]⟩, .int .i64 3, 3⟩, ⟨.string ⟨#[114, 101, 102, 117, 110, 100]⟩, .int .i64 4, 4⟩, ⟨.string ⟨#[118, 111, 105, 100]⟩, .int .i64 5, 5⟩] 6], #[], []⟩
/-- A WORLD FOR THE WITNESS: the settled one, a map more, the tables as their initialisers lay them. -/
noncomputable def coWorld (os : Os) : World :=
  { World.holding Tryz.prog os coHeld with
    heap := (((((World.holding Tryz.prog os coHeld).heap.modify 2 (doorObj (tabV .u64 [1, 10, 100, 1000, 10000, 100000, 1000000, 10000000, 100000000, 1000000000, 10000000000, 100000000000, 1000000000000, 10000000000000, 100000000000000, 1000000000000000, 10000000000000000, 100000000000000000, 1000000000000000000, 10000000000000000000]))).modify 3 (doorObj (tabV .u8 [0, 1, 28, 2, 29, 14, 24, 3, 30, 22, 20, 15, 25, 17, 4, 8, 31, 27, 13, 23, 21, 19, 16, 7, 26, 12, 18, 6, 11, 5, 10, 9]))).modify 4 (doorObj (tabV .u8 [0, 1, 56, 2, 57, 49, 28, 3, 61, 58, 42, 50, 38, 29, 17, 4, 62, 47, 59, 36, 45, 43, 51, 22, 53, 39, 33, 30, 24, 18, 12, 5, 63, 55, 48, 27, 60, 41, 37, 16, 46, 35, 44, 21, 52, 32, 23, 11, 54, 26, 40, 15, 34, 20, 31, 10, 25, 14, 19, 9, 13, 8, 7, 6]))).modify 1 (doorObj (tabV .i64 [1, 0, 2, 1, 0, 2]))).modify 0 (doorObj #[.map (some doorLow)]) }
end Go.Proofs.YtiagdpfmmjhgcaaGreatDoor
/- consignorlaw24.CorePlay: for every input the law answers true, and what it is handed reads as it did. (The tied card.) -/
namespace Go.Proofs.YtiagdpfmmjhgcaaGreatDoor.corePlay
open Go.ChangeShapes Go.WideShapes Go.ChangeAt Go.RowKit
open Go.ChangeMaps (open_string shut_string)
set_option linter.unusedVariables false

theorem laid_met (os : Os) : laidMet Tryz.prog Rows.corePlayRow.laid ((coWorld os).forCall (fun _ _ => 0) ⟨#[], #[.slice none 0 0, .int .i64 0, .int .i64 0], []⟩).memory :=
  laidMet_of_run' 8 (by kernel_rfl) (by kernel_rfl)
theorem reads (os : Os) {H : Type} (enc : TypeId × Value → H) : ∃ places, DataW.whole enc Tryz.prog ((coWorld os).forCall (fun _ _ => 0) ⟨#[], #[.slice none 0 0, .int .i64 0, .int .i64 0], []⟩).memory Tryz.f3.params.toList Rows.corePlaySpec.vars false #[Value.slice none 0 0, Value.int .i64 0, Value.int .i64 0].toList 8 = some ([.nil, .lit (.int .i64 0), .lit (.int .i64 0)], [], places) :=
  ⟨[], by kernel_rfl⟩

set_option maxRecDepth 100000 in
theorem lifted (os : Os) (started : os.Started) (H : Type) (enc : TypeId × Value → H) (F : Stop.Interp) :
    ReturnsInHanded {} Tryz.checked os 3 .any ((OpenSpec.ofChange Rows.corePlaySpec).preRow enc Tryz.prog Tryz.f3 Rows.corePlayRow.domain false Rows.corePlayRow.laid) (((OpenSpec.ofChange Rows.corePlaySpec).at F).post enc Tryz.prog Tryz.f3 false true false false) := by
  obtain ⟨places, hx⟩ := reads os enc
  refine returnsInHanded_of_row (C := Tryz.checked) (s := OpenSpec.ofChange Rows.corePlaySpec) doorOwn started (by kernel_rfl) Tryz.func3
    (witness_row_at (enc := enc) (C := Tryz.checked) false (coWorld os) #[.slice none 0 0, .int .i64 0, .int .i64 0] rfl (by kernel_rfl) (by kernel_rfl) (by kernel_rfl)
      (OpenSpec.preRow_of_cond 8 hx (by kernel_rfl) (fun k hk => by cases hk) (by kernel_rfl) (laid_met os))) ?_
  intro W base args ds gs before hval0 hW _ _ _ hL hS _
  have hval : ∀ (j : Nat) t v, Tryz.f3.params[j]? = some t → args[j]? = some v → Value.okWide Tryz.prog W .any base t v := hval0
  have hW' := hW
  obtain ⟨p, q, hA0, hV, rfl, hfz, hnd⟩ := hW
  have hA : DataW.TrodAll enc Tryz.prog W 0 (fun _ => true) true Tryz.f3.params.toList args.toList ds p := hA0
  rw [Tryz.params3] at hA hval
  obtain ⟨v0, vs0, d0, ds0, p0, q0, hargs0, rfl, rfl, h0, r0⟩ := trodAll_cons hA
  obtain ⟨v1, vs1, d1, ds1, p1, q1, hargs1, rfl, rfl, h1, r1⟩ := trodAll_cons r0
  obtain ⟨v2, vs2, d2, ds2, p2, q2, hargs2, rfl, rfl, h2, r2⟩ := trodAll_cons r1
  obtain ⟨rfl, rfl, rfl⟩ := trodAll_nil r2
  obtain rfl : args = #[v0, v1, v2] := by cases args; simp_all
  obtain ⟨rfl, rfl⟩ := trodVars_none hV
  have k0 := h0
  have lt0 : ∀ x ∈ p0, x.block < W.heap.size := by obtain ⟨m, hm⟩ := k0; exact DataW.trod_lt m _ _ _ hm
  have k1 := h1
  have lt1 : ∀ x ∈ p1, x.block < W.heap.size := by obtain ⟨m, hm⟩ := k1; exact DataW.trod_lt m _ _ _ hm
  have k2 := h2
  have lt2 : ∀ x ∈ p2, x.block < W.heap.size := by obtain ⟨m, hm⟩ := k2; exact DataW.trod_lt m _ _ _ hm
  obtain ⟨L0, hL0⟩ := opens_argN Tryz.underlying22 (k := 12) (by kernel_rfl) (by decide) opens_ent (hval 0 22 v0 rfl rfl) h0 lt0
  obtain ⟨a1, rfl, rfl, rfl, w1⟩ := open_int Tryz.underlying3 (hval 1 3 v1 rfl rfl) h1
  have w1' : -9223372036854775808 ≤ a1 ∧ a1 ≤ 9223372036854775807 := by simpa [Lit.wf, IntKind.min, IntKind.max, IntKind.signed, IntKind.bits] using w1
  obtain ⟨a2, rfl, rfl, rfl, w2⟩ := open_int Tryz.underlying3 (hval 2 3 v2 rfl rfl) h2
  have w2' : -9223372036854775808 ≤ a2 ∧ a2 ≤ 9223372036854775807 := by simpa [Lit.wf, IntKind.min, IntKind.max, IntKind.signed, IntKind.bits] using w2
  clear hA0 hval0
  refine (lawCorePlay_walk W (kw_laid hL) _ L0 hL0.1 a1 a2 w1' w2').mono fun e W' ⟨he, bel⟩ => ?_
  subst he
  exact ⟨_, rfl, _, _, _, [], _, [], hW', trodAll_mk1 (shut_bool Tryz.underlying4 _), (trodAll_cons_mk (Below.trod doorLaidOut (by kernel_rfl) (of_decide_eq_true (by kernel_rfl)) k0 bel lt0) (trodAll_cons_mk (Below.trod doorLaidOut (by kernel_rfl) (of_decide_eq_true (by kernel_rfl)) k1 bel lt1) (trodAll_cons_mk (Below.trod doorLaidOut (by kernel_rfl) (of_decide_eq_true (by kernel_rfl)) k2 bel lt2) trodAll_mk0))), rfl, bel.frame _, fun h => by cases h⟩

theorem said : Rows.CorePlaySaid :=
  OpenClaim.holds_of_cond 3 Tryz.f3 rfl rfl rfl rfl rfl rfl rfl ⟨rfl, rfl, rfl, rfl, rfl⟩ rfl rfl rfl rfl rfl (by kernel_rfl) Tryz.func3 (by kernel_rfl)
    (of_decide_eq_true (by kernel_rfl)) (by unfold Func.isWrapper; first | (rw [if_pos (by decide +kernel)]; kernel_rfl) | (rw [if_neg (by decide +kernel)]; exact ⟨rfl, rfl⟩))
    (fun os started H enc _ F => by rw [OpenClaim.pre_eq_preRow]; exact lifted os started H enc F)

theorem plain (f : FuncId) (fn : Func) (hf : Tryz.pinned.checked.prog.funcNamed "consignor/consignorlaw24.CorePlay" = some f) (hfn : Tryz.pinned.checked.prog.funcs[f]? = some fn) :
    true = Tryz.pinned.checked.prog.looks [] ∧ ∀ (j : Nat) t, fn.params[j]? = some t → Tryz.pinned.checked.prog.wantsStandIn t = false := by
  obtain rfl : f = 3 := Option.some.inj ((show Tryz.prog.funcNamed "consignor/consignorlaw24.CorePlay" = some 3 by kernel_rfl).symm.trans hf) |>.symm
  obtain rfl : fn = Tryz.f3 := (Option.some.inj (Tryz.func3.symm.trans hfn)).symm
  refine ⟨by kernel_rfl, fun j t ht => ?_⟩
  rw [Tryz.params3] at ht
  have hm : t = 22 ∨ t = 3 := by simpa using Array.mem_of_getElem? ht
  rcases hm with rfl | rfl
  · exact (show Tryz.prog.wantsStandIn 22 = false by kernel_rfl)
  · exact (show Tryz.prog.wantsStandIn 3 = false by kernel_rfl)

theorem card : Rows.CorePlayCardSaid :=
  Claim7.holds_tied_plain_at .later [] _ _ _ _ said (fun _ h => by cases h) (by kernel_rfl) (fun _ h => by cases h) corePlay_row_tie rfl ⟨rfl, rfl⟩ (by kernel_rfl) rfl plain (by kernel_rfl)
end Go.Proofs.YtiagdpfmmjhgcaaGreatDoor.corePlay

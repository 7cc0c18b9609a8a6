/- waits.Copy. -/
import Derived.Test.YtiapahafaoaniaaWaitsAgain
namespace Go.Proofs.Ytiapahafaoaniaa
open Go.RowKit Go.Maps Wa Key

theorem ent_uniq {l : List W5} (hg : Wa.Good l) {p q : (Int × Int) × W5} (hp : p ∈ ent l) (hq : q ∈ ent l) (e : p.1 = q.1) : p = q := by
  obtain ⟨k, u⟩ := p
  obtain ⟨k', v⟩ := q
  simp only [] at e
  subst e
  rw [has_one hg hp hq]
theorem without_self {E : List ((Int × Int) × W5)} {k : Int × Int} (h : ∀ p ∈ E, p.1 ≠ k) : without E k = E := by
  unfold without
  rw [List.filter_eq_self]
  intro p hp
  simp [h p hp]

set_option maxHeartbeats 1000000 in
theorem copy_wa (w : World) (a b : Nat) (l : List W5) (h : WA w a b l) (hgd : Wa.Good l) (hl : l.length < 10000) :
    Calls Try.prog 25 #[.pointer (some ⟨a, 0, none⟩)] w fun e w' => ∃ a' b', e = .returned (.pointer (some ⟨a', 0, none⟩)) ∧ WA w' a' b' l ∧ w.heap.size ≤ a' ∧ w.heap.size ≤ b' ∧ Below w.heap.size w w' := by
  have HM := Lib.hid h
  have HG := Lib.hid hgd
  have hab := h.lt
  have hc := h.cell
  clear h hgd
  go_enter Try.func25, Try.ntmps25
  go_wp2_with fail
  refine (nonep_any _ a b hc).mono ?_
  rintro e w0 ⟨rfl, hw⟩; subst hw
  go_wp2_with fail
  refine (new_wa _).mono ?_
  rintro e w1 ⟨a', b', rfl, hn, ha', hb', hbl⟩
  have HN := Lib.hid hn
  have HB := Lib.hid hbl
  have HM1 := Lib.hid (HM.out.below hbl)
  have hc1 := (hbl.cell (p := ⟨a, 0, none⟩) hab.1).trans hc
  have hn' := hn.lt
  have hsz := hbl.size
  clear hn hbl hc
  go_wp2_with (first
    | (at_range; refine wpList_rangeL _ rfl _ tMapW rfl tKey tWait lawKey mapW b (ent l) rfl HM1.out.mp ?_; intro w2 cnt0 hrg0 hg0 hs0))
  go_frame
  go_loopw [4] (fun _ wr => ∃ done cnt, RangeL Try.prog tKey mkKey mkWait wr b w1.heap.size (ent l) done cnt ∧ Hid (MapL Try.prog tKey mkKey mkWait wr b' done) ∧ Hid (wr.heap[a']? = some (.cells #[.map (some b')] tWaits (0, 0))) ∧ Hid (Below w.heap.size w wr)) (fun _ wr => wr.rangeLeft b w1.heap.size)
  case atStart =>
    exact ⟨[], cnt0, hrg0, HN.out.mp.kept hg0 (by simp), (hg0.block a' hn'.1 (by simp)).trans HN.out.hd, HB.out.grown hg0 hsz (fun k hk => by cases hk)⟩
  case round =>
    obtain ⟨done, cnt, hrg, HMN, HHD, HBR⟩ := hrel
    have hszr := HBR.out.size
    have hrlt := hrg.lt
    have hdl := hrg.len
    rw [ent_len] at hdl
    go_wp2_with (first
      | (at_next; refine wpList_nextL _ rfl _ rfl tKey lawKey b w1.heap.size (ent l) done cnt rfl hrg (fun hperm => ?_) (fun x v w3 cnt1 hin hnin hrg1 hlt1 hg1 hs1 hen => ?_); rotate_left; (obtain ⟨x1, x2⟩ := x; obtain ⟨⟨o, d⟩, t, n, p⟩ := v; simp only [mkKey, mkWait] at hen ⊢)))
    · obtain ⟨kl, hkl⟩ := hrg1.keys _ hin
      have HL := Lib.hid (show keyOf Try.prog tKey (mkKey (x1, x2)) = some kl from hkl)
      have HN3 := Lib.hid (HMN.out.kept hg1 (by simp; omega))
      have HH3 := Lib.hid ((hg1.block a' (heap_lt HHD.out) (by simp; omega)).trans HHD.out)
      have HB3 := Lib.hid (HBR.out.grown hg1 hszr (fun k hk => by cases hk; omega))
      have hno : ∀ q ∈ done, q.1 ≠ (x1, x2) := fun q hq e => hnin (by rw [← ent_uniq HG.out (hrg.sub q hq) hin e]; exact hq)
      have HNO := Lib.hid hno
      clear hkl hno hin hnin
      go_wp2_with fail
      have hka := heap_keep (heap_new w3 (.cells #[.int .i64 x1, .int .i64 x2] tKey)) (below_alloc _ (.cells #[.int .i64 o, .int .i64 d, .int .i64 t, .int .i64 n, .bool p] tWait))
      have hcb := heap_new (w3.alloc (.cells #[.int .i64 x1, .int .i64 x2] tKey)) (.cells #[.int .i64 o, .int .i64 d, .int .i64 t, .int .i64 n, .bool p] tWait)
      rw [show (w3.alloc (.cells #[.int .i64 x1, .int .i64 x2] tKey)).heap.size = wr.heap.size + 1 by simp; omega] at hcb
      rw [hs1] at hka
      obtain ⟨k0, k1, _, _⟩ := cell2 hka
      obtain ⟨e0, e1, e2, e3, e4⟩ := cell5 hcb
      have hh0 := cell_at (heap_keep (heap_keep HH3.out (below_alloc w3 (.cells #[.int .i64 x1, .int .i64 x2] tKey))) (below_alloc _ (.cells #[.int .i64 o, .int .i64 d, .int .i64 t, .int .i64 n, .bool p] tWait))) 0 rfl
      have HN4 := Lib.hid ((HN3.out.alloc (.cells #[.int .i64 x1, .int .i64 x2] tKey)).alloc (.cells #[.int .i64 o, .int .i64 d, .int .i64 t, .int .i64 n, .bool p] tWait))
      have HH4 := Lib.hid (heap_keep (heap_keep HH3.out (below_alloc w3 (.cells #[.int .i64 x1, .int .i64 x2] tKey))) (below_alloc _ (.cells #[.int .i64 o, .int .i64 d, .int .i64 t, .int .i64 n, .bool p] tWait)))
      have HB4 := Lib.hid ((HB3.out.alloc (by omega) (.cells #[.int .i64 x1, .int .i64 x2] tKey)).alloc (by simp; omega) (.cells #[.int .i64 o, .int .i64 d, .int .i64 t, .int .i64 n, .bool p] tWait))
      have HR4 := Lib.hid ((hrg1.alloc (.cells #[.int .i64 x1, .int .i64 x2] tKey)).alloc (.cells #[.int .i64 o, .int .i64 d, .int .i64 t, .int .i64 n, .bool p] tWait))
      clear hka hcb hrg1 hen
      generalize (w3.alloc (.cells #[.int .i64 x1, .int .i64 x2] tKey)).alloc (.cells #[.int .i64 o, .int .i64 d, .int .i64 t, .int .i64 n, .bool p] tWait) = w4 at k0 k1 e0 e1 e2 e3 e4 hh0 HN4 HH4 HB4 HR4 ⊢
      refine wp_region_still_tail 6 (by kernel_rfl) (by kernel_rfl) ?_
      simp only [List.take_succ_cons, List.take_zero, List.drop_succ_cons, List.drop_zero]
      iterate 6 still_step
      refine wpStill_nil ?_
      change wpList _ _ _ _ _ w4.drew
      refine wpList_storeL _ rfl (.tmp 22) (.tmp 23) (.tmp 24) tMapW rfl tKey tWait lawKey mapW b' done rfl (HN4.out.block rfl) (by unfold maxLen; omega) (x1, x2) ((o, d), t, n, p) rfl rfl HL.out (mkKey_inj _) ?_
      intro w5 hm5 ht5
      rw [without_self HNO.out] at hm5
      have HN5 := Lib.hid (hm5.perm (E' := done ++ [((x1, x2), (o, d), t, n, p)]) (List.perm_append_comm (l₁ := [((x1, x2), (o, d), t, n, p)]) (l₂ := done)))
      have HG5 := Lib.hid (World.grownBy.trans ((grown_of_below (below_drew1 (Below.refl w4.heap.size w4)) (some b'))) ht5.grown)
      have HR5 := Lib.hid (HR4.out.kept HG5.out (by simp; omega) (by simp; omega))
      have HH5 := Lib.hid ((HG5.out.block a' (heap_lt HH4.out) (by have := hn'.2.2; simp; exact this)).trans HH4.out)
      have HB5 := Lib.hid (HB4.out.grown HG5.out HB4.out.size (fun k hk => by cases hk; exact hb'))
      clear hm5 ht5
      go_frame
      go_wp2_with fail
      go_roundw
      case rel => exact ⟨_, cnt1, HR5.out, HN5, HH5, HB5⟩
      case measure =>
        have h5 := HR5.out
        rw [h5.left, hrg.left]
        exact hlt1
    · have HP := Lib.hid hperm
      clear hperm
      go_wp2_with fail
      go_ret
      exact ⟨a', b', rfl, ⟨HHD.out, HMN.out.perm HP.out⟩, ha', hb', HBR.out⟩
end Go.Proofs.Ytiapahafaoaniaa

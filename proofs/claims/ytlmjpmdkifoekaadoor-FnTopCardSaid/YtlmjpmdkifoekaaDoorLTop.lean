/- FnTop: the walk of the law. -/
import Derived.Test.YtlmjpmdkifoekaaDoorM5
import Derived.Test.YtlmjpmdkifoekaaDoorM6
import Derived.Test.YtlmjpmdkifoekaaDoorKeyL
namespace Go.Proofs.YtlmjpmdkifoekaaDoor
open Go.RowKit

theorem mask_image {r c : Nat} {m q : List (List Int)} (hs : Shape r c m) (hr1 : 1 ≤ r) (hr5 : r ≤ 5) (hc1 : 1 ≤ c) (hc5 : c ≤ 5) (hq : TRect r c q) : maskOk q (rowSumsOf m) (colSumsOf m) = true ∧ (rowSumsOf m).length = r ∧ (colSumsOf m).length = c := by
  have hS := sums_of_image hs hr1 hr5 hc1 hc5
  have hrl := (rowSumsOf_wf hs hr1 hr5 hc1 hc5).1
  have hcl := (colSumsOf_wf hs hr1 hr5 hc1 hc5).1
  have hok : sumsOk (rowSumsOf m) (colSumsOf m) = true := sumsOk_of (by omega) (by omega) (by omega) (by omega) (by rw [hrl, hcl]; exact hS)
  refine ⟨?_, hrl, hcl⟩
  unfold maskOk
  rw [hok, hrl, hcl, Bool.true_and]
  exact sizeB_rect.2 hq
set_option maxRecDepth 100000 in
set_option maxHeartbeats 2000000 in
theorem FnTop_w {v : Value} {bs : List Int} {w : World} (hv : Bytes w v bs) (ht : Tab w) :
    Calls Tryd.prog 3 #[v] w fun e w' => e = .returned (.bool true) ∧ Below w.heap.size w w' := by
  obtain ⟨a, cap, rfl, -, -, -, -⟩ := id hv
  rcases Nat.lt_or_ge 1048576 bs.length with h1 | h1
  · go_enter Tryd.func3, Tryd.ntmps3
    go_wp2
    go_ret
    exact ⟨rfl, Below.refl _ _⟩
  have hd0 : decide ((1048576 : Int) < (bs.length : Int)) = false := by simp; omega
  have HT := Lib.hid ht
  clear ht
  go_enter Tryd.func3, Tryd.ntmps3
  go_wp2_with (fail)
  refine (MakeMask_c _ bs w hv).mono ?_
  rintro e w1 ⟨vm, vx, vy, q, m, r, c, rfl, ⟨hr1, hr4⟩, ⟨hc1, hc4⟩, hsh, hq, gq, ix, iy, bb1⟩
  obtain ⟨hok, hrl, hcl⟩ := mask_image hsh hr1 (by omega) hc1 (by omega) hq
  obtain ⟨xs, hxs⟩ : ∃ xs, xs = rowSumsOf m := ⟨_, rfl⟩
  obtain ⟨ys, hys⟩ : ∃ ys, ys = colSumsOf m := ⟨_, rfl⟩
  rw [← hxs] at ix hok hrl
  rw [← hys] at iy hok hcl
  obtain ⟨la, lb⟩ := bad_len q (xs := xs) (ys := ys) (by omega) (by omega)
  have hlaw := mask_law hok
  have Hlaw := Lib.hid hlaw
  have Hok := Lib.hid hok
  have Gq := Lib.hid gq
  have Ix := Lib.hid ix
  have Iy := Lib.hid iy
  obtain ⟨a1, c1, rfl, -⟩ := gq
  obtain ⟨a2, c2, rfl, -⟩ := ix
  obtain ⟨a3, c3, rfl, -⟩ := iy
  have hml : (maskedOf q xs ys).length ≤ 1073741824 := Nat.le_trans (List.length_filter_le _ _) (imgsOf_len xs ys)
  obtain ⟨x1, x5, y1, y5⟩ : 1 ≤ xs.length ∧ xs.length ≤ 5 ∧ 1 ≤ ys.length ∧ ys.length ≤ 5 := by omega
  clear hxs hys hlaw hok hrl hcl
  cases hM : maskedOf q xs ys with
  | cons x l =>
    obtain ⟨N, hN⟩ : ∃ N, N = (maskedOf q xs ys).length := ⟨_, rfl⟩
    have hN0 : 0 < N := by rw [hN, hM]; simp
    rw [← hN] at hml
    have HN := Lib.hid hN
    have Hbad := Lib.hid (bad_no (show badR q xs ys = none from by unfold badR; rw [hM]; rfl))
    have Hx := Lib.hid (show Sums xs ys xs.length ys.length x ∧ meetsB xs.length ys.length x q = true from masked_shape (maskOk_parts Hok.out).1 (by rw [hM]; simp))
    have Hline := Lib.hid (show maskLineOf q xs ys = formatImage x from by unfold maskLineOf; rw [if_pos Hok.out, hM])
    have HM := Lib.hid hM
    have hNd : decide ((0 : Int) < (N : Int)) = true := by rw [decide_eq_true_eq]; omega
    have hNd2 : (0 : Int) < (N : Int) := by omega
    have Hsum := Lib.hid (sums_lists Hx.out.1 rfl rfl (by omega) (by omega) (by omega) (by omega))
    clear hM hN
    go_wp2_with (fail)
    refine (MaskedImage_i _ _ _ _ _ _ _ Gq.out Ix.out Iy.out Hok.out).mono ?_
    rintro e w2 ⟨v2, rfl, g2, b2⟩
    rw [HM.out] at g2 ⊢
    have g2 : Grid w2 v2 x := g2
    have HG := Lib.hid g2
    obtain ⟨a4, c4, rfl, -⟩ := g2
    rw [show (!(x :: l).isEmpty) = true from rfl]
    go_wp2_with (fail)
    refine (BadRectangle_i _ _ _ _ _ _ _ (Gq.out.keep b2) (Ix.out.keep b2) (Iy.out.keep b2) Hok.out).mono ?_
    rintro e w3 ⟨v3, v4, rfl, i3, i4, b3⟩
    rw [Hbad.out.2.1] at i3
    rw [Hbad.out.2.2] at i4
    rw [Hbad.out.1]
    obtain ⟨a5, c5, rfl, -⟩ := i3
    obtain ⟨a6, c6, rfl, -⟩ := i4
    have b13 := b2.trans_pure b3 (Nat.le_refl _)
    go_wp2_with (fail)
    refine (MaskedCount_i _ _ _ _ _ _ _ (Gq.out.keep b13) (Ix.out.keep b13) (Iy.out.keep b13) Hok.out).mono ?_
    rintro e w4 ⟨rfl, b4⟩
    rw [← HN.out]
    have b14 := b13.trans_pure b4 (Nat.le_refl _)
    go_wp2_with (fail)
    refine (MaskOk_i _ _ _ _ _ _ _ (Gq.out.keep b14) (Ix.out.keep b14) (Iy.out.keep b14)).mono ?_
    rintro e w' ⟨rfl, rfl⟩
    rw [Hok.out]
    have HGk := Lib.hid (HG.out.keep (b3.trans_pure b4 (Nat.le_refl _)))
    have Hqr := Lib.hid (maskOk_parts Hok.out).2
    go_wp2_with (fail)
    refine (MeetsMask_i _ _ x q xs.length ys.length _ HGk.out (Gq.out.keep b14) Hx.out.1.1 Hqr.out (by omega) (by omega) (by omega) (by omega)).mono ?_
    rintro e w' ⟨rfl, rfl⟩
    rw [Hx.out.2]
    go_wp2_with (fail)
    refine (RowSums_i _ _ _ HGk.out).mono ?_
    rintro e w5 ⟨v5, rfl, o5, b5⟩
    rw [Hsum.out.1] at o5
    obtain ⟨z1, z2, z3, rfl⟩ := o5.shape
    have H5 := Lib.hid o5.ints
    have b15 := b14.trans_pure b5 (Nat.le_refl _)
    clear o5
    go_wp2_with (fail)
    refine (same_q _ _ xs xs _ H5.out (Ix.out.keep b15)).mono ?_
    rintro e w6 ⟨rfl, n6, hw6⟩
    have b6 : Below w5.heap.size w5 w6 := by rw [hw6]; exact below_drewN (Below.refl _ _) n6
    rw [decide_eq_true (rfl : xs = xs)]
    have b16 := b15.trans_pure b6 (Nat.le_refl _)
    have HG6 := Lib.hid (HGk.out.keep (b5.trans_pure b6 (Nat.le_refl _)))
    clear hw6
    go_wp2_with (fail)
    refine (ColSums_i _ _ _ HG6.out).mono ?_
    rintro e w7 ⟨v7, rfl, o7, b7⟩
    rw [Hsum.out.2] at o7
    obtain ⟨y1, y2, y3, rfl⟩ := o7.shape
    have H7 := Lib.hid o7.ints
    have b17 := b16.trans_pure b7 (Nat.le_refl _)
    clear o7
    go_wp2_with (fail)
    refine (same_q _ _ ys ys _ H7.out (Iy.out.keep b17)).mono ?_
    rintro e w8 ⟨rfl, n8, hw8⟩
    have b8 : Below w7.heap.size w7 w8 := by rw [hw8]; exact below_drewN (Below.refl _ _) n8
    rw [decide_eq_true (rfl : ys = ys)]
    have b18 := b17.trans_pure b8 (Nat.le_refl _)
    have HG8 := Lib.hid (HG6.out.keep (b7.trans_pure b8 (Nat.le_refl _)))
    clear hw8
    go_wp2_with (fail)
    refine (MaskLine_i _ _ _ _ _ _ _ (Gq.out.keep b18) (Ix.out.keep b18) (Iy.out.keep b18) (HT.out.keep (bb1.trans_pure b18 (Nat.le_refl _)))).mono ?_
    rintro e w9 ⟨rfl, b9⟩
    rw [Hline.out]
    go_wp2_with (fail)
    refine (FormatImage_i _ _ _ (HG8.out.keep b9)).mono ?_
    rintro e w10 ⟨rfl, b10⟩
    obtain ⟨T, hT⟩ : ∃ T, T = formatImage x := ⟨_, rfl⟩
    rw [← hT]
    clear hT
    go_wp2
    go_ret
    exact ⟨rfl, bb1.trans_pure (b18.trans_pure (b9.trans_pure b10 (Nat.le_refl _)) (Nat.le_refl _)) (Nat.le_refl _)⟩
  | nil =>
    obtain ⟨ra, rb, hbo, -, -, hcf⟩ := Hlaw.out.none hM
    have Hbad := Lib.hid (bad_yes (show badR q xs ys = some (ra, rb) from by unfold badR; rw [hM]; exact hbo))
    have Hcf := Lib.hid hcf
    have HM := Lib.hid hM
    clear hM hbo hcf hml
    go_wp2_with (fail)
    refine (MaskedImage_i _ _ _ _ _ _ _ Gq.out Ix.out Iy.out Hok.out).mono ?_
    rintro e w2 ⟨v2, rfl, g2, b2⟩
    rw [HM.out] at g2 ⊢
    have g2 : Grid w2 v2 [] := g2
    obtain ⟨a4, c4, rfl, -⟩ := g2
    rw [show (!([] : List (List (List Int))).isEmpty) = false from rfl]
    go_wp2_with (fail)
    refine (BadRectangle_i _ _ _ _ _ _ _ (Gq.out.keep b2) (Ix.out.keep b2) (Iy.out.keep b2) Hok.out).mono ?_
    rintro e w3 ⟨v3, v4, rfl, i3, i4, b3⟩
    rw [Hbad.out.2.1] at i3
    rw [Hbad.out.2.2] at i4
    rw [Hbad.out.1]
    have H3 := Lib.hid i3
    have H4 := Lib.hid i4
    obtain ⟨a5, c5, rfl, -⟩ := i3
    obtain ⟨a6, c6, rfl, -⟩ := i4
    have b13 := b2.trans_pure b3 (Nat.le_refl _)
    go_wp2_with (fail)
    refine (MaskedCount_i _ _ _ _ _ _ _ (Gq.out.keep b13) (Ix.out.keep b13) (Iy.out.keep b13) Hok.out).mono ?_
    rintro e w4 ⟨rfl, b4⟩
    rw [HM.out]
    rw [show ([] : List (List (List Int))).length = 0 from rfl]
    have b14 := b13.trans_pure b4 (Nat.le_refl _)
    go_wp2_with (fail)
    refine (MaskOk_i _ _ _ _ _ _ _ (Gq.out.keep b14) (Ix.out.keep b14) (Iy.out.keep b14)).mono ?_
    rintro e w' ⟨rfl, rfl⟩
    rw [Hok.out]
    go_wp2_with (fail)
    refine (Conf_i _ _ _ _ _ q xs ys ra rb _ (Gq.out.keep b14) (Ix.out.keep b14) (Iy.out.keep b14) (H3.out.keep b4) (H4.out.keep b4) Hok.out).mono ?_
    rintro e w' ⟨rfl, rfl⟩
    rw [Hcf.out]
    go_wp2
    go_ret
    exact ⟨rfl, bb1.trans_pure b14 (Nat.le_refl _)⟩
end Go.Proofs.YtlmjpmdkifoekaaDoor

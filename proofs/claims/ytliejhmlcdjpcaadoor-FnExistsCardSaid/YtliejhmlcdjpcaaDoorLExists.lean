/- FnExists: the walk of the law. -/
import Derived.Test.YtliejhmlcdjpcaaDoorW8
import Derived.Test.YtliejhmlcdjpcaaDoorC9
namespace Go.Proofs.YtliejhmlcdjpcaaDoor
open Go.RowKit

theorem sumsLine_pos (xs ys : List Int) : 0 < (sumsLineOf xs ys).size := by
  have e1 : (⟨#[114, 111, 119, 115, 32]⟩ : ByteArray).size = 5 := rfl
  unfold sumsLineOf sumsHead
  split
  · split <;> simp only [ba_append_size, e1] <;> omega
  · simp only [ba_append_size, e1]; omega
theorem existsB_comm {xs ys : List Int} (h : sumsOk xs ys = true) : existsB ys xs = existsB xs ys := by
  have h2 : sumsOk ys xs = true := by rw [← sumsOk_comm]; exact h
  have hl := allImgs_tr_len h
  have e1 := existsB_imgs h
  have e2 := existsB_imgs h2
  have e3 : allImgs ys xs ≠ [] ↔ allImgs xs ys ≠ [] := by
    rw [← List.length_pos_iff, ← List.length_pos_iff, hl]
  rw [Bool.eq_iff_iff, e1, e2, e3]
theorem worst_yes {xs ys : List Int} (h : existsB xs ys = true) : worst xs ys = 0 := by
  unfold existsB at h
  simp at h
  exact h.2
theorem worst_no {xs ys : List Int} (hok : sumsOk xs ys = true) (h : existsB xs ys = false) : 1 ≤ worst xs ys ∧ worst xs ys ≤ ys.length ∧ mostL xs (worst xs ys) < sumL ((sortD ys).take (worst xs ys)) := by
  have hne : worst xs ys ≠ 0 := by
    intro e
    unfold existsB at h
    rw [hok, e] at h; simp at h
  unfold worst at hne ⊢
  rw [hok] at hne ⊢
  exact worstK_pos hne
set_option maxRecDepth 100000 in
set_option maxHeartbeats 3200000 in
theorem FnExists_w {v : Value} {bs : List Int} {w : World} (hv : Bytes w v bs) (ht : Tab w) :
    Calls Tryd.prog 4 #[v] w fun e w' => e = .returned (.bool true) ∧ Below w.heap.size w w' := by
  obtain ⟨a, cap, rfl, -, -, -, -⟩ := id hv
  rcases Nat.lt_or_ge 1048576 bs.length with h1 | h1
  · go_enter Tryd.func4, Tryd.ntmps4
    go_wp2
    go_ret
    exact ⟨rfl, Below.refl _ _⟩
  have hd0 : decide ((1048576 : Int) < (bs.length : Int)) = false := by simp; omega
  have HT := Lib.hid ht
  clear ht
  go_enter Tryd.func4, Tryd.ntmps4
  go_wp2_with (fail)
  refine (MakeSums_c _ bs w hv).mono ?_
  rintro e w1 ⟨va, vb, xs, ys, rfl, hok, -, -, hx1, hy1, bb1⟩
  obtain ⟨ax, cx, rfl, -⟩ := id hx1
  obtain ⟨ay, cy, rfl, -⟩ := id hy1
  obtain ⟨x1, x5, y1, y5, -, -, hsum⟩ := sumsOk_bd hok
  obtain ⟨allx, ally⟩ := sumsOk_all hok
  have Hx := Lib.hid hx1
  have Hy := Lib.hid hy1
  have Hok := Lib.hid hok
  have Hax := Lib.hid allx
  have Hcm := Lib.hid (existsB_comm hok)
  have Him := Lib.hid (imgsOf_ok hok)
  have Hib := Lib.hid (existsB_imgs hok)
  have Hsy := Lib.hid (show ∀ k, Small ((sortD ys).take k) from fun k => sortD_small ally (by omega) y5)
  have Hwn := Lib.hid (worst_no hok)
  have Hbx := Lib.hid (show ∀ x ∈ xs, 0 ≤ x ∧ x ≤ 5 from fun x hx => by
    have := List.all_eq_true.1 allx x hx
    rw [inR_iff] at this
    omega)
  clear hx1 hy1 hok allx ally hsum
  go_wp2_with (fail)
  refine (Exists_i _ _ _ _ _ Hx.out Hy.out).mono ?_
  rintro e w2 ⟨rfl, b2⟩
  go_wp2_with (fail)
  refine (AllImages_i _ _ _ _ _ (Hx.out.keep b2) (Hy.out.keep b2)).mono ?_
  rintro e w3 ⟨v3, rfl, o3, b3⟩
  rw [Hok.out]
  rw [Him.out] at o3
  have b13 := b2.trans_pure b3 (Nat.le_refl _)
  obtain ⟨L, hL⟩ : ∃ L, L = allImgs xs ys := ⟨_, rfl⟩
  rw [← hL] at o3 Hib
  have HL := Lib.hid hL
  obtain ⟨al, cl, rfl, -⟩ := id o3.grids
  have X3 := Lib.hid (Hx.out.keep b13)
  have Y3 := Lib.hid (Hy.out.keep b13)
  clear hL o3
  cases hex : existsB xs ys
  · obtain ⟨k1, k2, k3⟩ := Hwn.out hex
    have hL0 : L = [] := by
      have h := Hib.out
      rw [hex] at h
      exact Classical.byContradiction fun hn => by simpa using h.2 hn
    have Hex := Lib.hid hex
    have Hexc := Lib.hid (Hcm.out.trans hex)
    subst hL0
    obtain ⟨K, hK⟩ : ∃ K, K = worst xs ys := ⟨_, rfl⟩
    rw [← hK] at k1 k2 k3
    have HK := Lib.hid hK
    have hKl : K ≤ (sortD ys).length := by rw [sortD_len]; exact k2
    have hs0 : -5242880 ≤ sumL ((sortD ys).take K) ∧ sumL ((sortD ys).take K) ≤ 5242880 := small_sum (Hsy.out K) (by rw [List.length_take, sortD_len]; omega)
    obtain ⟨z1, hz1⟩ : ∃ z, z = mostL xs K := ⟨_, rfl⟩
    obtain ⟨z2, hz2⟩ : ∃ z, z = sumL ((sortD ys).take K) := ⟨_, rfl⟩
    rw [← hz1] at k3
    rw [← hz2] at k3 hs0
    have Hz1 := Lib.hid hz1
    have Hz2 := Lib.hid hz2
    clear hex hK hz1 hz2
    rw [List.length_nil]
    go_wp2_with (fail)
    refine (WorstColumns_i _ _ _ _ _ X3.out Y3.out).mono ?_
    rintro e w4 ⟨rfl, b4⟩
    rw [← HK.out]
    go_wp2_with (fail)
    refine (SumsOk_i _ _ _ _ _ (X3.out.keep b4) (Y3.out.keep b4)).mono ?_
    rintro e w5 ⟨rfl, rfl⟩
    rw [Hok.out]
    go_wp2_with (fail)
    refine (Exists_i _ _ _ _ _ (Y3.out.keep b4) (X3.out.keep b4)).mono ?_
    rintro e w5 ⟨rfl, b5⟩
    rw [Hexc.out]
    have b35 := b4.trans_pure b5 (Nat.le_refl _)
    have hKd : ((K : Int) == 0) = false := by rw [beq_eq_false_iff_ne]; omega
    have hKd2 : ¬ (K : Int) = 0 := by omega
    go_wp2_with (fail)
    refine (CountImages_i _ _ _ _ _ (X3.out.keep b35) (Y3.out.keep b35) Hok.out).mono ?_
    rintro e w6 ⟨rfl, b6⟩
    rw [← HL.out, List.length_nil]
    have b36 := b35.trans_pure b6 (Nat.le_refl _)
    go_wp2_with (fail)
    refine (SlackOf_i _ _ _ _ _ (X3.out.keep b36) (Y3.out.keep b36)).mono ?_
    rintro e w7 ⟨rfl, b7⟩
    rw [Hex.out]
    have b37 := b36.trans_pure b7 (Nat.le_refl _)
    go_wp2_with (fail)
    refine (SortedDown_i _ ys _ (Y3.out.keep b37) y1 (by omega)).mono ?_
    rintro e w8 ⟨v8, rfl, o8, b8⟩
    obtain ⟨g8, c8, rfl, -, hc8, -, -⟩ := o8.inv_ne (by rw [sortD_len]; omega)
    rw [sortD_len] at hc8 ⊢
    have ho8 := o8.ints
    rw [sortD_len] at ho8
    have Ho8 := Lib.hid ho8
    have hKc : K ≤ c8 := by omega
    have b38 := b37.trans_pure b8 (Nat.le_refl _)
    have Hpre := Lib.hid (show ∀ w', Below w8.heap.size w8 w' → Ints w' (.slice (some ⟨g8, 0, none⟩) K c8) ((sortD ys).take K) from fun w' hb => Ints.pre (Ints.keep Ho8.out hb) (by rw [sortD_len]; exact k2))
    clear o8 ho8
    go_wp2_with (fail)
    refine (total_c _ _ _ (Hpre.out _ (Below.refl _ _)) (Hsy.out K)).mono ?_
    rintro e w9 ⟨rfl, rfl⟩
    rw [← Hz2.out]
    go_wp2_with (fail)
    refine (MostIn_i _ xs K ys.length _ (X3.out.keep b38) y1 y5 x5 Hax.out k2).mono ?_
    rintro e w9 ⟨rfl, b9⟩
    rw [← Hz1.out]
    have b39 := b38.trans_pure b9 (Nat.le_refl _)
    have hzd : decide (z2 > z1) = true := decide_eq_true k3
    go_wp2_with (fail)
    refine (SumsLine_i _ _ _ _ _ (X3.out.keep b39) (Y3.out.keep b39) (by omega) (by omega) (HT.out.keep (bb1.trans_pure (b13.trans_pure b39 (Nat.le_refl _)) (Nat.le_refl _)))).mono ?_
    rintro e w10 ⟨rfl, b10⟩
    have b310 := b39.trans_pure b10 (Nat.le_refl _)
    have hps := sumsLine_pos xs ys
    obtain ⟨T, hT⟩ : ∃ T, T = sumsLineOf xs ys := ⟨_, rfl⟩
    rw [← hT] at hps ⊢
    clear hT
    have hT2 : T.toList.isEmpty = false := by
      rw [ByteArray.toList_eq, List.isEmpty_eq_false_iff]
      intro e
      have h2 := congrArg List.length e
      rw [Array.length_toList, List.length_nil] at h2
      have h3 : T.size = T.data.size := rfl
      omega
    go_wp2
    go_ret
    exact ⟨rfl, bb1.trans_pure (b13.trans_pure b310 (Nat.le_refl _)) (Nat.le_refl _)⟩
  · have Hw0 := Lib.hid (worst_yes hex)
    have hLp : 0 < L.length := List.length_pos_iff.2 (Hib.out.1 hex)
    have Hex := Lib.hid hex
    have Hexc := Lib.hid (Hcm.out.trans hex)
    obtain ⟨N, hN⟩ : ∃ N, N = L.length := ⟨_, rfl⟩
    rw [← hN] at hLp ⊢
    have HN := Lib.hid hN
    have hNd : decide ((0 : Int) < (N : Int)) = true := by rw [decide_eq_true_eq]; omega
    clear hex hN
    go_wp2_with (fail)
    refine (WorstColumns_i _ _ _ _ _ X3.out Y3.out).mono ?_
    rintro e w4 ⟨rfl, b4⟩
    rw [Hw0.out]
    go_wp2_with (fail)
    refine (SumsOk_i _ _ _ _ _ (X3.out.keep b4) (Y3.out.keep b4)).mono ?_
    rintro e w5 ⟨rfl, rfl⟩
    rw [Hok.out]
    go_wp2_with (fail)
    refine (Exists_i _ _ _ _ _ (Y3.out.keep b4) (X3.out.keep b4)).mono ?_
    rintro e w5 ⟨rfl, b5⟩
    rw [Hexc.out]
    have b35 := b4.trans_pure b5 (Nat.le_refl _)
    go_wp2_with (fail)
    refine (CountImages_i _ _ _ _ _ (X3.out.keep b35) (Y3.out.keep b35) Hok.out).mono ?_
    rintro e w6 ⟨rfl, b6⟩
    rw [← HL.out, ← HN.out]
    have b36 := b35.trans_pure b6 (Nat.le_refl _)
    go_wp2_with (fail)
    refine (SlackOf_i _ _ _ _ _ (X3.out.keep b36) (Y3.out.keep b36)).mono ?_
    rintro e w7 ⟨rfl, b7⟩
    rw [Hex.out]
    have b37 := b36.trans_pure b7 (Nat.le_refl _)
    go_wp2
    go_ret
    exact ⟨rfl, bb1.trans_pure (b13.trans_pure b37 (Nat.le_refl _)) (Nat.le_refl _)⟩
end Go.Proofs.YtliejhmlcdjpcaaDoor

/- Contracts: MaskLine of the program and of the reference. -/
import Derived.Test.YtlmjpmdkifoekaaDoorM4
import Derived.Test.YtlmjpmdkifoekaaDoorF4
import Derived.Test.YtlmjpmdkifoekaaDoorT3
namespace Go.Proofs.YtlmjpmdkifoekaaDoor
open Go.RowKit

def maskLineOf (g : List (List Int)) (xs ys : List Int) : ByteArray :=
  if maskOk g xs ys then (match maskedOf g xs ys with | m :: _ => formatImage m | [] => ⟨#[99, 111, 110, 102, 108, 105, 99, 116, 32]⟩ ++ sumsText (badA g xs ys) ++ ⟨#[32]⟩ ++ sumsText (badB g xs ys)) else ByteArray.empty
structure MaskSz (A B : ByteArray) : Prop where
  a : A.size ≤ 33554432
  b : B.size ≤ 33554432
  l1 : (⟨#[99, 111, 110, 102, 108, 105, 99, 116, 32]⟩ ++ A : ByteArray).size ≤ 33554442
  l2 : (⟨#[99, 111, 110, 102, 108, 105, 99, 116, 32]⟩ ++ A ++ ⟨#[32]⟩ : ByteArray).size ≤ 33554452
theorem maskSz {A B : ByteArray} (a : A.size ≤ 33554432) (b : B.size ≤ 33554432) : MaskSz A B := by
  have e1 : (⟨#[99, 111, 110, 102, 108, 105, 99, 116, 32]⟩ : ByteArray).size = 9 := rfl
  have e2 : (⟨#[32]⟩ : ByteArray).size = 1 := rfl
  refine ⟨a, b, ?_, ?_⟩ <;> simp only [ba_append_size, e1, e2] <;> omega
theorem sums_sizeM {w : World} {v : Value} {l : List Int} (h : Ints w v l) (hl : l.length ≤ 1048576) : (sumsText l).size ≤ 33554432 := by
  have := sumsText_size (ints_64 h)
  omega
theorem bad_len (g : List (List Int)) {xs ys : List Int} (x5 : xs.length ≤ 5) (y5 : ys.length ≤ 5) : (badA g xs ys).length ≤ 5 ∧ (badB g xs ys).length ≤ 5 := by
  unfold badA badB
  cases badR g xs ys with
  | none => simp
  | some p =>
    have h1 := membL_len xs.length p.1
    have h2 := membL_len ys.length p.2
    exact ⟨Nat.le_trans h1 x5, Nat.le_trans h2 y5⟩
set_option maxRecDepth 100000 in
set_option maxHeartbeats 1000000 in
theorem MaskLine_i (v vx vy : Value) (g : List (List Int)) (xs ys : List Int) (w : World) (hv : Grid w v g) (hx : Ints w vx xs) (hy : Ints w vy ys) (ht : Tab w) : Calls Tryd.prog 17 #[v, vx, vy] w fun e w' => e = .returned (.string (maskLineOf g xs ys)) ∧ Below w.heap.size w w' := by
  have Hv := Lib.hid hv
  have Hx := Lib.hid hx
  have Hy := Lib.hid hy
  have HT := Lib.hid ht
  obtain ⟨a, cap, rfl, -⟩ := hv
  obtain ⟨ax, cx, rfl, -⟩ := hx
  obtain ⟨ay, cy, rfl, -⟩ := hy
  clear ht
  cases hok : maskOk g xs ys
  · have Hok := Lib.hid hok
    have Hr := Lib.hid (show maskLineOf g xs ys = ByteArray.empty from by unfold maskLineOf; rw [if_neg (by rw [hok]; simp)])
    clear hok
    go_enter Tryd.func17, Tryd.ntmps17
    go_wp2_with (fail)
    refine (MaskOk_i _ _ _ _ _ _ _ Hv.out Hx.out Hy.out).mono ?_
    rintro e w' ⟨rfl, rfl⟩
    rw [Hok.out]
    go_wp2
    go_ret
    exact ⟨retS Hr.out.symm, Below.refl _ _⟩
  have Hok := Lib.hid hok
  obtain ⟨hs, -⟩ := maskOk_parts hok
  obtain ⟨x1, x5, y1, y5⟩ := sumsOk_sz hs
  cases hM : maskedOf g xs ys with
  | cons m l =>
    have Hr := Lib.hid (show maskLineOf g xs ys = formatImage m from by unfold maskLineOf; rw [if_pos hok, hM])
    have HM := Lib.hid hM
    clear hok hs hM
    go_enter Tryd.func17, Tryd.ntmps17
    go_wp2_with (fail)
    refine (MaskOk_i _ _ _ _ _ _ _ Hv.out Hx.out Hy.out).mono ?_
    rintro e w' ⟨rfl, rfl⟩
    rw [Hok.out]
    go_wp2_with (fail)
    refine (MaskedImage_i _ _ _ _ _ _ _ Hv.out Hx.out Hy.out Hok.out).mono ?_
    rintro e w1 ⟨v1, rfl, g1, b1⟩
    rw [HM.out] at g1 ⊢
    have g1 : Grid w1 v1 m := g1
    have Hg := Lib.hid g1
    obtain ⟨a1, c1, rfl, -⟩ := g1
    go_wp2_with (fail)
    refine (FormatImage_i _ _ _ Hg.out).mono ?_
    rintro e w2 ⟨rfl, b2⟩
    go_wp2
    go_ret
    exact ⟨retS Hr.out.symm, b1.trans_pure b2 (Nat.le_refl _)⟩
  | nil =>
    obtain ⟨la, lb⟩ := bad_len g x5 y5
    obtain ⟨A, hA⟩ : ∃ A, A = sumsText (badA g xs ys) := ⟨_, rfl⟩
    obtain ⟨B, hB⟩ : ∃ B, B = sumsText (badB g xs ys) := ⟨_, rfl⟩
    have Hr := Lib.hid (show maskLineOf g xs ys = ⟨#[99, 111, 110, 102, 108, 105, 99, 116, 32]⟩ ++ A ++ ⟨#[32]⟩ ++ B from by unfold maskLineOf; rw [if_pos hok, hM, hA, hB])
    have HM := Lib.hid hM
    have HA := Lib.hid hA
    have HB := Lib.hid hB
    clear hok hs hM hA hB
    go_enter Tryd.func17, Tryd.ntmps17
    go_wp2_with (fail)
    refine (MaskOk_i _ _ _ _ _ _ _ Hv.out Hx.out Hy.out).mono ?_
    rintro e w' ⟨rfl, rfl⟩
    rw [Hok.out]
    go_wp2_with (fail)
    refine (MaskedImage_i _ _ _ _ _ _ _ Hv.out Hx.out Hy.out Hok.out).mono ?_
    rintro e w1 ⟨v1, rfl, g1, b1⟩
    rw [HM.out] at g1 ⊢
    have g1 : Grid w1 v1 [] := g1
    obtain ⟨a1, c1, rfl, -⟩ := g1
    go_wp2_with (fail)
    refine (BadRectangle_i _ _ _ _ _ _ _ (Hv.out.keep b1) (Hx.out.keep b1) (Hy.out.keep b1) Hok.out).mono ?_
    rintro e w2 ⟨v2, v3, rfl, i2, i3, b2⟩
    have sA := sums_sizeM i2 (by omega)
    have sB := sums_sizeM i3 (by omega)
    rw [← HA.out] at sA
    rw [← HB.out] at sB
    obtain ⟨za, zb, z1, z2⟩ := maskSz sA sB
    have Hi2 := Lib.hid i2
    have Hi3 := Lib.hid i3
    obtain ⟨a2, c2, rfl, -⟩ := i2
    obtain ⟨a3, c3, rfl, -⟩ := i3
    have b12 := b1.trans_pure b2 (Nat.le_refl _)
    go_wp2_with (fail)
    refine (FormatSums_i _ _ _ Hi2.out (by omega) (HT.out.keep b12)).mono ?_
    rintro e w3 ⟨rfl, b3⟩
    rw [← HA.out]
    have b13 := b12.trans_pure b3 (Nat.le_refl _)
    go_wp2_with (fail)
    refine (FormatSums_i _ _ _ (Hi3.out.keep b3) (by omega) (HT.out.keep b13)).mono ?_
    rintro e w4 ⟨rfl, b4⟩
    rw [← HB.out]
    go_wp2
    go_ret
    exact ⟨retS Hr.out.symm, b13.trans_pure b4 (Nat.le_refl _)⟩
set_option maxRecDepth 100000 in
set_option maxHeartbeats 1000000 in
theorem MaskLine_s (v vx vy : Value) (g : List (List Int)) (xs ys : List Int) (w : World) (hv : Grid w v g) (hx : Ints w vx xs) (hy : Ints w vy ys) (ht : Tab w) : Calls Tryd.prog 34 #[v, vx, vy] w fun e w' => e = .returned (.string (maskLineOf g xs ys)) ∧ Below w.heap.size w w' := by
  have Hv := Lib.hid hv
  have Hx := Lib.hid hx
  have Hy := Lib.hid hy
  have HT := Lib.hid ht
  obtain ⟨a, cap, rfl, -⟩ := hv
  obtain ⟨ax, cx, rfl, -⟩ := hx
  obtain ⟨ay, cy, rfl, -⟩ := hy
  clear ht
  cases hok : maskOk g xs ys
  · have Hok := Lib.hid hok
    have Hr := Lib.hid (show maskLineOf g xs ys = ByteArray.empty from by unfold maskLineOf; rw [if_neg (by rw [hok]; simp)])
    clear hok
    go_enter Tryd.func34, Tryd.ntmps34
    go_wp2_with (fail)
    refine (MaskOk_s _ _ _ _ _ _ _ Hv.out Hx.out Hy.out).mono ?_
    rintro e w' ⟨rfl, rfl⟩
    rw [Hok.out]
    go_wp2
    go_ret
    exact ⟨retS Hr.out.symm, Below.refl _ _⟩
  have Hok := Lib.hid hok
  obtain ⟨hs, -⟩ := maskOk_parts hok
  obtain ⟨x1, x5, y1, y5⟩ := sumsOk_sz hs
  cases hM : maskedOf g xs ys with
  | cons m l =>
    have Hr := Lib.hid (show maskLineOf g xs ys = formatImage m from by unfold maskLineOf; rw [if_pos hok, hM])
    have HM := Lib.hid hM
    clear hok hs hM
    go_enter Tryd.func34, Tryd.ntmps34
    go_wp2_with (fail)
    refine (MaskOk_s _ _ _ _ _ _ _ Hv.out Hx.out Hy.out).mono ?_
    rintro e w' ⟨rfl, rfl⟩
    rw [Hok.out]
    go_wp2_with (fail)
    refine (MaskedImage_s _ _ _ _ _ _ _ Hv.out Hx.out Hy.out Hok.out).mono ?_
    rintro e w1 ⟨v1, rfl, g1, b1⟩
    rw [HM.out] at g1 ⊢
    have g1 : Grid w1 v1 m := g1
    have Hg := Lib.hid g1
    obtain ⟨a1, c1, rfl, -⟩ := g1
    go_wp2_with (fail)
    refine (FormatImage_s _ _ _ Hg.out).mono ?_
    rintro e w2 ⟨rfl, b2⟩
    go_wp2
    go_ret
    exact ⟨retS Hr.out.symm, b1.trans_pure b2 (Nat.le_refl _)⟩
  | nil =>
    obtain ⟨la, lb⟩ := bad_len g x5 y5
    obtain ⟨A, hA⟩ : ∃ A, A = sumsText (badA g xs ys) := ⟨_, rfl⟩
    obtain ⟨B, hB⟩ : ∃ B, B = sumsText (badB g xs ys) := ⟨_, rfl⟩
    have Hr := Lib.hid (show maskLineOf g xs ys = ⟨#[99, 111, 110, 102, 108, 105, 99, 116, 32]⟩ ++ A ++ ⟨#[32]⟩ ++ B from by unfold maskLineOf; rw [if_pos hok, hM, hA, hB])
    have HM := Lib.hid hM
    have HA := Lib.hid hA
    have HB := Lib.hid hB
    clear hok hs hM hA hB
    go_enter Tryd.func34, Tryd.ntmps34
    go_wp2_with (fail)
    refine (MaskOk_s _ _ _ _ _ _ _ Hv.out Hx.out Hy.out).mono ?_
    rintro e w' ⟨rfl, rfl⟩
    rw [Hok.out]
    go_wp2_with (fail)
    refine (MaskedImage_s _ _ _ _ _ _ _ Hv.out Hx.out Hy.out Hok.out).mono ?_
    rintro e w1 ⟨v1, rfl, g1, b1⟩
    rw [HM.out] at g1 ⊢
    have g1 : Grid w1 v1 [] := g1
    obtain ⟨a1, c1, rfl, -⟩ := g1
    go_wp2_with (fail)
    refine (BadRectangle_s _ _ _ _ _ _ _ (Hv.out.keep b1) (Hx.out.keep b1) (Hy.out.keep b1) Hok.out).mono ?_
    rintro e w2 ⟨v2, v3, rfl, i2, i3, b2⟩
    have sA := sums_sizeM i2 (by omega)
    have sB := sums_sizeM i3 (by omega)
    rw [← HA.out] at sA
    rw [← HB.out] at sB
    obtain ⟨za, zb, z1, z2⟩ := maskSz sA sB
    have Hi2 := Lib.hid i2
    have Hi3 := Lib.hid i3
    obtain ⟨a2, c2, rfl, -⟩ := i2
    obtain ⟨a3, c3, rfl, -⟩ := i3
    have b12 := b1.trans_pure b2 (Nat.le_refl _)
    go_wp2_with (fail)
    refine (FormatSums_s _ _ _ Hi2.out (by omega)).mono ?_
    rintro e w3 ⟨rfl, b3⟩
    rw [← HA.out]
    have b13 := b12.trans_pure b3 (Nat.le_refl _)
    go_wp2_with (fail)
    refine (FormatSums_s _ _ _ (Hi3.out.keep b3) (by omega)).mono ?_
    rintro e w4 ⟨rfl, b4⟩
    rw [← HB.out]
    go_wp2
    go_ret
    exact ⟨retS Hr.out.symm, b13.trans_pure b4 (Nat.le_refl _)⟩
end Go.Proofs.YtlmjpmdkifoekaaDoor

/- Contracts: SumsLine of both. -/
import Derived.Test.YtlmjpmdkifoekaaDoorX8
import Derived.Test.YtlmjpmdkifoekaaDoorX7
import Derived.Test.YtlmjpmdkifoekaaDoorW3
import Derived.Test.YtlmjpmdkifoekaaDoorF4
import Derived.Test.YtlmjpmdkifoekaaDoorT3
namespace Go.Proofs.YtlmjpmdkifoekaaDoor
open Go.RowKit

def sumsHead (xs ys : List Int) : ByteArray := ⟨#[114, 111, 119, 115, 32]⟩ ++ sumsText xs ++ ⟨#[32, 99, 111, 108, 115, 32]⟩ ++ sumsText ys
def sumsLineOf (xs ys : List Int) : ByteArray :=
  if sumsOk xs ys then (if existsB xs ys then sumsHead xs ys ++ ⟨#[32, 105, 109, 97, 103, 101, 115, 32]⟩ ++ fmtInt (imgsOf xs ys).length
    else sumsHead xs ys ++ ⟨#[32, 110, 111, 110, 101, 58, 32, 99, 111, 108, 117, 109, 110, 115, 32]⟩ ++ fmtInt (worst xs ys))
  else sumsHead xs ys ++ ⟨#[32, 110, 111, 110, 101]⟩
structure SumsSz (A B C : ByteArray) : Prop where
  a : A.size ≤ 33554432
  b : B.size ≤ 33554432
  c : C.size ≤ 20
  l1 : (⟨#[114, 111, 119, 115, 32]⟩ ++ A : ByteArray).size ≤ 33554442
  l2 : (⟨#[114, 111, 119, 115, 32]⟩ ++ A ++ ⟨#[32, 99, 111, 108, 115, 32]⟩ : ByteArray).size ≤ 33554452
  l3 : (⟨#[114, 111, 119, 115, 32]⟩ ++ A ++ ⟨#[32, 99, 111, 108, 115, 32]⟩ ++ B : ByteArray).size ≤ 67108904
  l4 : (⟨#[114, 111, 119, 115, 32]⟩ ++ A ++ ⟨#[32, 99, 111, 108, 115, 32]⟩ ++ B ++ ⟨#[32, 110, 111, 110, 101, 58, 32, 99, 111, 108, 117, 109, 110, 115, 32]⟩ : ByteArray).size ≤ 67108934
  l5 : (⟨#[114, 111, 119, 115, 32]⟩ ++ A ++ ⟨#[32, 99, 111, 108, 115, 32]⟩ ++ B ++ ⟨#[32, 105, 109, 97, 103, 101, 115, 32]⟩ : ByteArray).size ≤ 67108934
theorem sumsSz {A B C : ByteArray} (a : A.size ≤ 33554432) (b : B.size ≤ 33554432) (c : C.size ≤ 20) : SumsSz A B C := by
  have e1 : (⟨#[114, 111, 119, 115, 32]⟩ : ByteArray).size = 5 := rfl
  have e2 : (⟨#[32, 99, 111, 108, 115, 32]⟩ : ByteArray).size = 6 := rfl
  have e3 : (⟨#[32, 110, 111, 110, 101, 58, 32, 99, 111, 108, 117, 109, 110, 115, 32]⟩ : ByteArray).size = 15 := rfl
  have e4 : (⟨#[32, 105, 109, 97, 103, 101, 115, 32]⟩ : ByteArray).size = 8 := rfl
  refine ⟨a, b, c, ?_, ?_, ?_, ?_, ?_⟩ <;> simp only [ba_append_size, e1, e2, e3, e4] <;> omega
theorem sums_size {w : World} {v : Value} {l : List Int} (h : Ints w v l) (hl : l.length ≤ 1048576) : (sumsText l).size ≤ 33554432 := by
  have := sumsText_size (ints_64 h)
  omega
theorem imgs_big {xs ys : List Int} (hok : sumsOk xs ys = true) : (imgsOf xs ys).length ≤ 1073741824 := by
  obtain ⟨x1, x5, y1, y5, -, -, -⟩ := sumsOk_bd hok
  rw [imgsOf_ok hok]
  exact Nat.le_trans (allImgs_len xs ys) (Nat.le_trans (Nat.pow_le_pow_right (by decide) (Nat.mul_le_mul x5 (Nat.succ_le_succ y5))) (by decide))
set_option maxRecDepth 100000 in
set_option maxHeartbeats 1000000 in
theorem SumsLine_i (v v2 : Value) (xs ys : List Int) (w : World) (hv : Ints w v xs) (hv2 : Ints w v2 ys) (hx : xs.length ≤ 1048576) (hy : ys.length ≤ 1048576) (ht : Tab w) : Calls Tryd.prog 41 #[v, v2] w fun e w' => e = .returned (.string (sumsLineOf xs ys)) ∧ Below w.heap.size w w' := by
  have Hv := Lib.hid hv
  have Hv2 := Lib.hid hv2
  have s1 := sums_size hv hx
  have s2 := sums_size hv2 hy
  have hwl := worst_le xs ys
  obtain ⟨A, hA⟩ : ∃ A, A = sumsText xs := ⟨_, rfl⟩
  obtain ⟨B, hB⟩ : ∃ B, B = sumsText ys := ⟨_, rfl⟩
  obtain ⟨Wn, hW⟩ : ∃ W, W = worst xs ys := ⟨_, rfl⟩
  rw [← hW] at hwl
  rw [← hA] at s1
  rw [← hB] at s2
  have HA := Lib.hid hA
  have HB := Lib.hid hB
  have HW := Lib.hid hW
  have HT := Lib.hid ht
  obtain ⟨a, cap, rfl, -⟩ := hv
  obtain ⟨a2, cap2, rfl, -⟩ := hv2
  clear hA hB hW ht
  cases hok : sumsOk xs ys
  · obtain ⟨za, zb, zc, z1, z2, z3, z4, z5⟩ := sumsSz (C := ByteArray.empty) s1 s2 (by decide)
    have Hr := Lib.hid (show ⟨#[114, 111, 119, 115, 32]⟩ ++ A ++ ⟨#[32, 99, 111, 108, 115, 32]⟩ ++ B ++ ⟨#[32, 110, 111, 110, 101]⟩ = sumsLineOf xs ys from by unfold sumsLineOf sumsHead; rw [if_neg (by rw [hok]; simp), HA.out, HB.out])
    have Hok := Lib.hid hok
    clear hok
    go_enter Tryd.func41, Tryd.ntmps41
    go_wp2_with (fail)
    refine (FormatSums_i _ xs _ Hv.out (by omega) HT.out).mono ?_
    rintro e w1 ⟨rfl, b1⟩
    rw [← HA.out]
    go_wp2_with (fail)
    refine (FormatSums_i _ ys _ (Hv2.out.keep b1) (by omega) (HT.out.keep b1)).mono ?_
    rintro e w2 ⟨rfl, b2⟩
    rw [← HB.out]
    have bb2 := b1.trans_pure b2 (Nat.le_refl _)
    go_wp2_with (fail)
    refine (SumsOk_i _ _ _ _ _ (Hv.out.keep bb2) (Hv2.out.keep bb2)).mono ?_
    rintro e w' ⟨rfl, rfl⟩
    rw [Hok.out]
    go_wp2
    go_ret
    exact ⟨retS Hr.out, bb2⟩
  have himg := imgs_big hok
  rw [imgsOf_ok hok] at himg
  obtain ⟨x1, x5, y1, y5, -, -, -⟩ := sumsOk_bd hok
  obtain ⟨Cn, hC⟩ : ∃ C, C = (allImgs xs ys).length := ⟨_, rfl⟩
  rw [← hC] at himg
  have HC := Lib.hid hC
  have Hio := Lib.hid (imgsOf_ok hok)
  have Hok := Lib.hid hok
  clear hC
  cases hex : existsB xs ys
  · obtain ⟨za, zb, zc, z1, z2, z3, z4, z5⟩ := sumsSz (C := fmtInt Wn) s1 s2 (fmt_size (by omega))
    have Hr := Lib.hid (show ⟨#[114, 111, 119, 115, 32]⟩ ++ A ++ ⟨#[32, 99, 111, 108, 115, 32]⟩ ++ B ++ ⟨#[32, 110, 111, 110, 101, 58, 32, 99, 111, 108, 117, 109, 110, 115, 32]⟩ ++ fmtInt Wn = sumsLineOf xs ys from by unfold sumsLineOf sumsHead; rw [if_pos hok, if_neg (by rw [hex]; simp), HA.out, HB.out, HW.out])
    have Hex := Lib.hid hex
    clear hok hex
    go_enter Tryd.func41, Tryd.ntmps41
    go_wp2_with (fail)
    refine (FormatSums_i _ xs _ Hv.out (by omega) HT.out).mono ?_
    rintro e w1 ⟨rfl, b1⟩
    rw [← HA.out]
    go_wp2_with (fail)
    refine (FormatSums_i _ ys _ (Hv2.out.keep b1) (by omega) (HT.out.keep b1)).mono ?_
    rintro e w2 ⟨rfl, b2⟩
    rw [← HB.out]
    have bb2 := b1.trans_pure b2 (Nat.le_refl _)
    go_wp2_with (fail)
    refine (SumsOk_i _ _ _ _ _ (Hv.out.keep bb2) (Hv2.out.keep bb2)).mono ?_
    rintro e w' ⟨rfl, rfl⟩
    rw [Hok.out]
    go_wp2_with (fail)
    refine (Exists_i _ _ _ _ _ (Hv.out.keep bb2) (Hv2.out.keep bb2)).mono ?_
    rintro e w3 ⟨rfl, b3⟩
    rw [Hex.out]
    have bb3 := bb2.trans_pure b3 (Nat.le_refl _)
    go_wp2_with (fail)
    refine (WorstColumns_i _ _ _ _ _ (Hv.out.keep bb3) (Hv2.out.keep bb3)).mono ?_
    rintro e w4 ⟨rfl, b4⟩
    rw [← HW.out]
    have bb4 := bb3.trans_pure b4 (Nat.le_refl _)
    go_wp2_with (fail)
    refine (FormatInt_i _ (I64.small (by omega) (by omega)) _ (HT.out.keep bb4)).mono ?_
    rintro e w5 ⟨rfl, b5⟩
    have bb5 := bb4.trans_pure b5 (Nat.le_refl _)
    go_wp2
    go_ret
    exact ⟨retS Hr.out, bb5⟩
  · obtain ⟨za, zb, zc, z1, z2, z3, z4, z5⟩ := sumsSz (C := fmtInt Cn) s1 s2 (fmt_size (by omega))
    have Hr := Lib.hid (show ⟨#[114, 111, 119, 115, 32]⟩ ++ A ++ ⟨#[32, 99, 111, 108, 115, 32]⟩ ++ B ++ ⟨#[32, 105, 109, 97, 103, 101, 115, 32]⟩ ++ fmtInt Cn = sumsLineOf xs ys from by unfold sumsLineOf sumsHead; rw [if_pos hok, if_pos hex, HA.out, HB.out, HC.out, Hio.out])
    have Hex := Lib.hid hex
    clear hok hex
    go_enter Tryd.func41, Tryd.ntmps41
    go_wp2_with (fail)
    refine (FormatSums_i _ xs _ Hv.out (by omega) HT.out).mono ?_
    rintro e w1 ⟨rfl, b1⟩
    rw [← HA.out]
    go_wp2_with (fail)
    refine (FormatSums_i _ ys _ (Hv2.out.keep b1) (by omega) (HT.out.keep b1)).mono ?_
    rintro e w2 ⟨rfl, b2⟩
    rw [← HB.out]
    have bb2 := b1.trans_pure b2 (Nat.le_refl _)
    go_wp2_with (fail)
    refine (SumsOk_i _ _ _ _ _ (Hv.out.keep bb2) (Hv2.out.keep bb2)).mono ?_
    rintro e w' ⟨rfl, rfl⟩
    rw [Hok.out]
    go_wp2_with (fail)
    refine (Exists_i _ _ _ _ _ (Hv.out.keep bb2) (Hv2.out.keep bb2)).mono ?_
    rintro e w3 ⟨rfl, b3⟩
    rw [Hex.out]
    have bb3 := bb2.trans_pure b3 (Nat.le_refl _)
    go_wp2_with (fail)
    refine (CountImages_i _ _ _ _ _ (Hv.out.keep bb3) (Hv2.out.keep bb3) Hok.out).mono ?_
    rintro e w4 ⟨rfl, b4⟩
    rw [← HC.out]
    have bb4 := bb3.trans_pure b4 (Nat.le_refl _)
    go_wp2_with (fail)
    refine (FormatInt_i _ (I64.small (by omega) (by omega)) _ (HT.out.keep bb4)).mono ?_
    rintro e w5 ⟨rfl, b5⟩
    have bb5 := bb4.trans_pure b5 (Nat.le_refl _)
    go_wp2
    go_ret
    exact ⟨retS Hr.out, bb5⟩
end Go.Proofs.YtlmjpmdkifoekaaDoor

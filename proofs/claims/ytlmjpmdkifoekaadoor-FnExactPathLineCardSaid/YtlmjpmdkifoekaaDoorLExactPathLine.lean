/- PathLine: the walk of the law. -/
import Derived.Test.YtlmjpmdkifoekaaDoorP8
import Derived.Test.YtlmjpmdkifoekaaDoorC12
namespace Go.Proofs.YtlmjpmdkifoekaaDoor
open Go.RowKit

set_option maxRecDepth 100000 in
set_option maxHeartbeats 1000000 in
theorem FnExactPathLine_w {w : World} {v0 : Value} {x0 : List (List Int)} {v1 : Value} {x1 : List (List Int)} (hx0 : Grid w v0 x0) (hx1 : Grid w v1 x1) (ht : Tab w) :
    Calls Tryd.prog 5 #[v0, v1] w fun e w' => e = .returned (.bool true) ∧ Below w.heap.size w w' := by
  obtain ⟨a0, cap0, rfl, -, -, -, -⟩ := id hx0
  obtain ⟨a1, cap1, rfl, -, -, -, -⟩ := id hx1
  go_enter Tryd.func5, Tryd.ntmps5
  go_wp2_with (fail)
  refine (szIntSS_c _ _ _ _ hx0 (by omega) (by omega)).mono ?_
  rintro e w' ⟨rfl, rfl⟩
  rcases Int.lt_or_le (1048576) (bulk x0 : Nat) with z0 | z0
  · rw [show leftOf (bulk x0) (1048576) = -1 from if_neg (by omega)]
    go_wp2
    go_ret
    exact ⟨rfl, Below.refl _ _⟩
  rw [show leftOf (bulk x0) (1048576) = 1048576 - (bulk x0 : Nat) from if_pos (by omega)]
  have zb0 : x0.length ≤ 1048576 ∧ cells x0 ≤ 1048576 := by unfold bulk at z0; omega
  obtain ⟨zl0, zc0⟩ := zb0
  go_wp2_with (fail)
  refine (szIntSS_c _ _ _ _ hx1 (by omega) (by omega)).mono ?_
  rintro e w' ⟨rfl, rfl⟩
  rcases Int.lt_or_le (1048576 - ((bulk x0 : Nat) : Int)) (bulk x1 : Nat) with z1 | z1
  · rw [show leftOf (bulk x1) (1048576 - ((bulk x0 : Nat) : Int)) = -1 from if_neg (by omega)]
    go_wp2
    go_ret
    exact ⟨rfl, Below.refl _ _⟩
  rw [show leftOf (bulk x1) (1048576 - ((bulk x0 : Nat) : Int)) = 1048576 - ((bulk x0 : Nat) : Int) - (bulk x1 : Nat) from if_pos (by omega)]
  have zb1 : x1.length ≤ 1048576 ∧ cells x1 ≤ 1048576 := by unfold bulk at z1; omega
  obtain ⟨zl1, zc1⟩ := zb1
  go_wp2_with (fail)
  refine (toIntSS_c _ _ _ hx0 (by omega) (by omega)).mono ?_
  rintro e w1 ⟨v_a0, rfl, o_a0, b1⟩
  have s1 : w.heap.size ≤ w1.heap.size := b1.size
  have bb1 : Below w.heap.size w w1 := b1
  go_wp2_with (fail)
  refine (toIntSS_c _ _ _ (hx1.keep bb1) (by omega) (by omega)).mono ?_
  rintro e w2 ⟨v_a1, rfl, o_a1, b2⟩
  have s2 : w1.heap.size ≤ w2.heap.size := b2.size
  have bb2 := bb1.trans_pure b2 (Nat.le_refl _)
  replace o_a0 := Own.keep (rOwn rIntV) o_a0 b2 (by omega)
  go_wp2_with (fail)
  refine (PathLine_sg _ _ _ _ _ o_a0.grid o_a1.grid).mono ?_
  rintro e w3 ⟨T1, rfl, hT1, b3⟩
  have HT1 := Lib.hid hT1
  clear hT1
  have s3 : w2.heap.size ≤ w3.heap.size := b3.size
  have bb3 := bb2.trans_pure b3 (Nat.le_refl _)
  replace o_a0 := Own.keep (rOwn rIntV) o_a0 b3 (by omega)
  replace o_a1 := Own.keep (rOwn rIntV) o_a1 b3 (by omega)
  go_wp2_with (fail)
  refine (toIntSS_c _ _ _ (hx0.keep bb3) (by omega) (by omega)).mono ?_
  rintro e w4 ⟨v_x0, rfl, o_x0, b4⟩
  have s4 : w3.heap.size ≤ w4.heap.size := b4.size
  have bb4 := bb3.trans_pure b4 (Nat.le_refl _)
  go_wp2_with (fail)
  refine (toIntSS_c _ _ _ (hx1.keep bb4) (by omega) (by omega)).mono ?_
  rintro e w5 ⟨v_x1, rfl, o_x1, b5⟩
  have s5 : w4.heap.size ≤ w5.heap.size := b5.size
  have bb5 := bb4.trans_pure b5 (Nat.le_refl _)
  replace o_x0 := Own.keep (rOwn rIntV) o_x0 b5 (by omega)
  go_wp2_with (fail)
  refine (PathLine_ig _ _ _ _ _ o_x0.grid o_x1.grid (ht.keep bb5)).mono ?_
  rintro e w6 ⟨T2, rfl, hT2, b6⟩
  obtain rfl := hT2.eq HT1.out
  clear hT2
  have s6 : w5.heap.size ≤ w6.heap.size := b6.size
  have bb6 := bb5.trans_pure b6 (Nat.le_refl _)
  replace o_x0 := Own.keep (rOwn rIntV) o_x0 b6 (by omega)
  replace o_x1 := Own.keep (rOwn rIntV) o_x1 b6 (by omega)
  go_wp2_with (fail)
  refine (toIntSS_c _ _ _ (hx0.keep bb6) (by omega) (by omega)).mono ?_
  rintro e w7 ⟨v_y0, rfl, o_y0, b7⟩
  have s7 : w6.heap.size ≤ w7.heap.size := b7.size
  have bb7 := bb6.trans_pure b7 (Nat.le_refl _)
  replace o_x0 := Own.keep (rOwn rIntV) o_x0 b7 (by omega)
  replace o_x1 := Own.keep (rOwn rIntV) o_x1 b7 (by omega)
  go_wp2_with (fail)
  refine (eqIntSS_c _ _ _ _ _ o_x0.grid o_y0.grid).mono ?_
  rintro e w8 ⟨rfl, b8⟩
  have s8 : w7.heap.size ≤ w8.heap.size := b8.size
  have bb8 := bb7.trans_pure b8 (Nat.le_refl _)
  replace o_x0 := Own.keep (rOwn rIntV) o_x0 b8 (by omega)
  replace o_x1 := Own.keep (rOwn rIntV) o_x1 b8 (by omega)
  replace o_y0 := Own.keep (rOwn rIntV) o_y0 b8 (by omega)
  go_wp2_with (fail)
  refine (toIntSS_c _ _ _ (hx1.keep bb8) (by omega) (by omega)).mono ?_
  rintro e w9 ⟨v_y1, rfl, o_y1, b9⟩
  have s9 : w8.heap.size ≤ w9.heap.size := b9.size
  have bb9 := bb8.trans_pure b9 (Nat.le_refl _)
  replace o_x0 := Own.keep (rOwn rIntV) o_x0 b9 (by omega)
  replace o_x1 := Own.keep (rOwn rIntV) o_x1 b9 (by omega)
  go_wp2_with (fail)
  refine (eqIntSS_c _ _ _ _ _ o_x1.grid o_y1.grid).mono ?_
  rintro e w10 ⟨rfl, b10⟩
  have s10 : w9.heap.size ≤ w10.heap.size := b10.size
  have bb10 := bb9.trans_pure b10 (Nat.le_refl _)
  replace o_x0 := Own.keep (rOwn rIntV) o_x0 b10 (by omega)
  replace o_x1 := Own.keep (rOwn rIntV) o_x1 b10 (by omega)
  replace o_y1 := Own.keep (rOwn rIntV) o_y1 b10 (by omega)
  go_wp2_with (fail)
  go_ret
  exact ⟨rfl, bb10⟩
end Go.Proofs.YtlmjpmdkifoekaaDoor

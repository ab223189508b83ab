/- MaskLine: the walk of the law. -/
import Derived.Test.YtlmjpmdkifoekaaDoorM5
import Derived.Test.YtlmjpmdkifoekaaDoorC12
namespace Go.Proofs.YtlmjpmdkifoekaaDoor
open Go.RowKit

set_option maxRecDepth 100000 in
set_option maxHeartbeats 1000000 in
theorem FnExactMaskLine_w {w : World} {v0 : Value} {x0 : List (List Int)} {v1 : Value} {x1 : List Int} {v2 : Value} {x2 : List Int} (hx0 : Grid w v0 x0) (hx1 : Ints w v1 x1) (hx2 : Ints w v2 x2) (ht : Tab w) :
    Calls Tryd.prog 6 #[v0, v1, v2] w fun e w' => e = .returned (.bool true) ∧ Below w.heap.size w w' := by
  obtain ⟨a0, cap0, rfl, -, -, -, -⟩ := id hx0
  obtain ⟨a1, cap1, rfl, -, -, -, -⟩ := id hx1
  obtain ⟨a2, cap2, rfl, -, -, -, -⟩ := id hx2
  rcases Nat.lt_or_ge 1048576 x1.length with z1 | z1
  · go_enter Tryd.func6, Tryd.ntmps6
    go_wp2
    go_ret
    exact ⟨rfl, Below.refl _ _⟩
  rcases Nat.lt_or_ge 1048576 x2.length with z2 | z2
  · go_enter Tryd.func6, Tryd.ntmps6
    go_wp2
    go_ret
    exact ⟨rfl, Below.refl _ _⟩
  go_enter Tryd.func6, Tryd.ntmps6
  go_wp2_with (fail)
  refine (szIntSS_c _ _ _ _ hx0 (by omega) (by omega)).mono ?_
  rintro e w' ⟨rfl, rfl⟩
  rcases Int.lt_or_le (1048576) (bulk x0 : Nat) with z0 | z0
  · rw [show leftOf (bulk x0) (1048576) = -1 from if_neg (by omega)]
    go_wp2
    go_ret
    exact ⟨rfl, Below.refl _ _⟩
  rw [show leftOf (bulk x0) (1048576) = 1048576 - (bulk x0 : Nat) from if_pos (by omega)]
  have zb0 : x0.length ≤ 1048576 ∧ cells x0 ≤ 1048576 := by unfold bulk at z0; omega
  obtain ⟨zl0, zc0⟩ := zb0
  go_wp2_with (fail)
  refine (toIntSS_c _ _ _ hx0 (by omega) (by omega)).mono ?_
  rintro e w1 ⟨v_a0, rfl, o_a0, b1⟩
  have s1 : w.heap.size ≤ w1.heap.size := b1.size
  have bb1 : Below w.heap.size w w1 := b1
  go_wp2_with (fail)
  refine (toIntS_c _ _ _ (hx1.keep bb1) (by omega)).mono ?_
  rintro e w2 ⟨v_a1, rfl, o_a1, b2⟩
  have s2 : w1.heap.size ≤ w2.heap.size := b2.size
  have bb2 := bb1.trans_pure b2 (Nat.le_refl _)
  replace o_a0 := Own.keep (rOwn rIntV) o_a0 b2 (by omega)
  go_wp2_with (fail)
  refine (toIntS_c _ _ _ (hx2.keep bb2) (by omega)).mono ?_
  rintro e w3 ⟨v_a2, rfl, o_a2, b3⟩
  have s3 : w2.heap.size ≤ w3.heap.size := b3.size
  have bb3 := bb2.trans_pure b3 (Nat.le_refl _)
  replace o_a0 := Own.keep (rOwn rIntV) o_a0 b3 (by omega)
  replace o_a1 := Own.keep rIntV o_a1 b3 (by omega)
  go_wp2_with (fail)
  refine (MaskLine_s _ _ _ _ _ _ _ o_a0.grid o_a1.ints o_a2.ints (ht.keep bb3)).mono ?_
  rintro e w4 ⟨rfl, b4⟩
  have s4 : w3.heap.size ≤ w4.heap.size := b4.size
  have bb4 := bb3.trans_pure b4 (Nat.le_refl _)
  replace o_a0 := Own.keep (rOwn rIntV) o_a0 b4 (by omega)
  replace o_a1 := Own.keep rIntV o_a1 b4 (by omega)
  replace o_a2 := Own.keep rIntV o_a2 b4 (by omega)
  go_wp2_with (fail)
  refine (toIntSS_c _ _ _ (hx0.keep bb4) (by omega) (by omega)).mono ?_
  rintro e w5 ⟨v_x0, rfl, o_x0, b5⟩
  have s5 : w4.heap.size ≤ w5.heap.size := b5.size
  have bb5 := bb4.trans_pure b5 (Nat.le_refl _)
  go_wp2_with (fail)
  refine (toIntS_c _ _ _ (hx1.keep bb5) (by omega)).mono ?_
  rintro e w6 ⟨v_x1, rfl, o_x1, b6⟩
  have s6 : w5.heap.size ≤ w6.heap.size := b6.size
  have bb6 := bb5.trans_pure b6 (Nat.le_refl _)
  replace o_x0 := Own.keep (rOwn rIntV) o_x0 b6 (by omega)
  go_wp2_with (fail)
  refine (toIntS_c _ _ _ (hx2.keep bb6) (by omega)).mono ?_
  rintro e w7 ⟨v_x2, rfl, o_x2, b7⟩
  have s7 : w6.heap.size ≤ w7.heap.size := b7.size
  have bb7 := bb6.trans_pure b7 (Nat.le_refl _)
  replace o_x0 := Own.keep (rOwn rIntV) o_x0 b7 (by omega)
  replace o_x1 := Own.keep rIntV o_x1 b7 (by omega)
  go_wp2_with (fail)
  refine (MaskLine_i _ _ _ _ _ _ _ o_x0.grid o_x1.ints o_x2.ints (ht.keep bb7)).mono ?_
  rintro e w8 ⟨rfl, b8⟩
  have s8 : w7.heap.size ≤ w8.heap.size := b8.size
  have bb8 := bb7.trans_pure b8 (Nat.le_refl _)
  replace o_x0 := Own.keep (rOwn rIntV) o_x0 b8 (by omega)
  replace o_x1 := Own.keep rIntV o_x1 b8 (by omega)
  replace o_x2 := Own.keep rIntV o_x2 b8 (by omega)
  go_wp2_with (fail)
  refine (toIntSS_c _ _ _ (hx0.keep bb8) (by omega) (by omega)).mono ?_
  rintro e w9 ⟨v_y0, rfl, o_y0, b9⟩
  have s9 : w8.heap.size ≤ w9.heap.size := b9.size
  have bb9 := bb8.trans_pure b9 (Nat.le_refl _)
  replace o_x0 := Own.keep (rOwn rIntV) o_x0 b9 (by omega)
  replace o_x1 := Own.keep rIntV o_x1 b9 (by omega)
  replace o_x2 := Own.keep rIntV o_x2 b9 (by omega)
  go_wp2_with (fail)
  refine (eqIntSS_c _ _ _ _ _ o_x0.grid o_y0.grid).mono ?_
  rintro e w10 ⟨rfl, b10⟩
  have s10 : w9.heap.size ≤ w10.heap.size := b10.size
  have bb10 := bb9.trans_pure b10 (Nat.le_refl _)
  replace o_x0 := Own.keep (rOwn rIntV) o_x0 b10 (by omega)
  replace o_x1 := Own.keep rIntV o_x1 b10 (by omega)
  replace o_x2 := Own.keep rIntV o_x2 b10 (by omega)
  replace o_y0 := Own.keep (rOwn rIntV) o_y0 b10 (by omega)
  go_wp2_with (fail)
  refine (toIntS_c _ _ _ (hx1.keep bb10) (by omega)).mono ?_
  rintro e w11 ⟨v_y1, rfl, o_y1, b11⟩
  have s11 : w10.heap.size ≤ w11.heap.size := b11.size
  have bb11 := bb10.trans_pure b11 (Nat.le_refl _)
  replace o_x0 := Own.keep (rOwn rIntV) o_x0 b11 (by omega)
  replace o_x1 := Own.keep rIntV o_x1 b11 (by omega)
  replace o_x2 := Own.keep rIntV o_x2 b11 (by omega)
  go_wp2_with (fail)
  refine (eqIntS_c _ _ _ _ _ o_x1.ints o_y1.ints).mono ?_
  rintro e w12 ⟨rfl, b12⟩
  have s12 : w11.heap.size ≤ w12.heap.size := b12.size
  have bb12 := bb11.trans_pure b12 (Nat.le_refl _)
  replace o_x0 := Own.keep (rOwn rIntV) o_x0 b12 (by omega)
  replace o_x1 := Own.keep rIntV o_x1 b12 (by omega)
  replace o_x2 := Own.keep rIntV o_x2 b12 (by omega)
  replace o_y1 := Own.keep rIntV o_y1 b12 (by omega)
  go_wp2_with (fail)
  refine (toIntS_c _ _ _ (hx2.keep bb12) (by omega)).mono ?_
  rintro e w13 ⟨v_y2, rfl, o_y2, b13⟩
  have s13 : w12.heap.size ≤ w13.heap.size := b13.size
  have bb13 := bb12.trans_pure b13 (Nat.le_refl _)
  replace o_x0 := Own.keep (rOwn rIntV) o_x0 b13 (by omega)
  replace o_x1 := Own.keep rIntV o_x1 b13 (by omega)
  replace o_x2 := Own.keep rIntV o_x2 b13 (by omega)
  go_wp2_with (fail)
  refine (eqIntS_c _ _ _ _ _ o_x2.ints o_y2.ints).mono ?_
  rintro e w14 ⟨rfl, b14⟩
  have s14 : w13.heap.size ≤ w14.heap.size := b14.size
  have bb14 := bb13.trans_pure b14 (Nat.le_refl _)
  replace o_x0 := Own.keep (rOwn rIntV) o_x0 b14 (by omega)
  replace o_x1 := Own.keep rIntV o_x1 b14 (by omega)
  replace o_x2 := Own.keep rIntV o_x2 b14 (by omega)
  replace o_y2 := Own.keep rIntV o_y2 b14 (by omega)
  go_wp2_with (fail)
  go_ret
  exact ⟨rfl, bb14⟩
end Go.Proofs.YtlmjpmdkifoekaaDoor

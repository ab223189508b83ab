/- LeastReveal: the walk of the law. -/
import Derived.Test.YtekgnpdchpdfiaaRs3
import Derived.Test.YtekgnpdchpdfiaaC12
namespace Go.Proofs.Ytekgnpdchpdfiaa
open Go.RowKit

set_option maxRecDepth 100000 in
set_option maxHeartbeats 1000000 in
theorem FnExactLeastReveal_w {w : World} {v0 : Value} {x0 : List (List Int)} (hx0 : Grid w v0 x0) :
    Calls Try.prog 6 #[v0] w fun e w' => e = .returned (.bool true) ∧ Below w.heap.size w w' := by
  obtain ⟨a0, cap0, rfl, -, -, -, -⟩ := id hx0
  go_enter Try.func6, Try.ntmps6
  go_wp2_with (fail)
  refine (szIntSS_c _ _ _ _ hx0 (by omega) (by omega)).mono ?_
  rintro e w' ⟨rfl, rfl⟩
  rcases Int.lt_or_le (1048576) (bulk x0 : Nat) with z0 | z0
  · rw [show leftOf (bulk x0) (1048576) = -1 from if_neg (by omega)]
    go_wp2
    go_ret
    exact ⟨rfl, Below.refl _ _⟩
  rw [show leftOf (bulk x0) (1048576) = 1048576 - (bulk x0 : Nat) from if_pos (by omega)]
  have zb0 : x0.length ≤ 1048576 ∧ cells x0 ≤ 1048576 := by unfold bulk at z0; omega
  obtain ⟨zl0, zc0⟩ := zb0
  have hr := leastRv_len x0
  go_wp2_with (fail)
  refine (toIntSS_c _ _ _ hx0 (by omega) (by omega)).mono ?_
  rintro e w1 ⟨v_a0, rfl, o_a0, b1⟩
  have s1 : w.heap.size ≤ w1.heap.size := b1.size
  have bb1 : Below w.heap.size w w1 := b1
  go_wp2_with (fail)
  refine (LeastReveal_s2 _ _ _ o_a0.grid).mono ?_
  rintro e w2 ⟨v_s0, rfl, o_s0, b2⟩
  have s2 : w1.heap.size ≤ w2.heap.size := b2.size
  have bb2 := bb1.trans_pure b2 (Nat.le_refl _)
  replace o_a0 := Own.keep (rOwn rIntV) o_a0 b2 (by omega)
  go_wp2_with (fail)
  refine (toIntSS_c _ _ _ (hx0.keep bb2) (by omega) (by omega)).mono ?_
  rintro e w3 ⟨v_x0, rfl, o_x0, b3⟩
  have s3 : w2.heap.size ≤ w3.heap.size := b3.size
  have bb3 := bb2.trans_pure b3 (Nat.le_refl _)
  replace o_s0 := Own.keep rIntV o_s0 b3 (by omega)
  go_wp2_with (fail)
  refine (LeastReveal_i2 _ _ _ o_x0.grid).mono ?_
  rintro e w4 ⟨v_g0, rfl, o_g0, b4⟩
  have s4 : w3.heap.size ≤ w4.heap.size := b4.size
  have bb4 := bb3.trans_pure b4 (Nat.le_refl _)
  replace o_s0 := Own.keep rIntV o_s0 b4 (by omega)
  replace o_x0 := Own.keep (rOwn rIntV) o_x0 b4 (by omega)
  go_wp2_with (fail)
  refine (eqIntS_c _ _ _ _ _ o_g0.ints o_s0.ints).mono ?_
  rintro e w5 ⟨rfl, b5⟩
  have s5 : w4.heap.size ≤ w5.heap.size := b5.size
  have bb5 := bb4.trans_pure b5 (Nat.le_refl _)
  replace o_s0 := Own.keep rIntV o_s0 b5 (by omega)
  replace o_x0 := Own.keep (rOwn rIntV) o_x0 b5 (by omega)
  replace o_g0 := Own.keep rIntV o_g0 b5 (by omega)
  go_wp2_with (fail)
  refine (toIntSS_c _ _ _ (hx0.keep bb5) (by omega) (by omega)).mono ?_
  rintro e w6 ⟨v_y0, rfl, o_y0, b6⟩
  have s6 : w5.heap.size ≤ w6.heap.size := b6.size
  have bb6 := bb5.trans_pure b6 (Nat.le_refl _)
  replace o_s0 := Own.keep rIntV o_s0 b6 (by omega)
  replace o_x0 := Own.keep (rOwn rIntV) o_x0 b6 (by omega)
  replace o_g0 := Own.keep rIntV o_g0 b6 (by omega)
  go_wp2_with (fail)
  refine (eqIntSS_c _ _ _ _ _ o_x0.grid o_y0.grid).mono ?_
  rintro e w7 ⟨rfl, b7⟩
  have s7 : w6.heap.size ≤ w7.heap.size := b7.size
  have bb7 := bb6.trans_pure b7 (Nat.le_refl _)
  replace o_s0 := Own.keep rIntV o_s0 b7 (by omega)
  replace o_x0 := Own.keep (rOwn rIntV) o_x0 b7 (by omega)
  replace o_g0 := Own.keep rIntV o_g0 b7 (by omega)
  replace o_y0 := Own.keep (rOwn rIntV) o_y0 b7 (by omega)
  go_wp2_with (fail)
  refine (markIntSS_c _ _ _ _ _ o_x0 (fun b hb => by have := hb.2; omega) (by omega) (by omega) (by omega) (by omega)).mono ?_
  rintro e w8 ⟨rfl, p_x0, m8, z_8⟩
  have s8 : w7.heap.size ≤ w8.heap.size := m8.size
  have Z8 := Lib.hid z_8; clear z_8
  replace o_s0 := Own.only rIntV o_s0 m8 (fun b hb => by have := hb.2; omega) (fun b hb hc => by have := hb.1; have := hb.2; have := hc.1; have := hc.2; omega)
  replace o_g0 := Own.only rIntV o_g0 m8 (fun b hb => by have := hb.2; omega) (fun b hb hc => by have := hb.1; have := hb.2; have := hc.1; have := hc.2; omega)
  have bb8 : Below w.heap.size w w8 := bb7.trans (m8.below (by omega) (fun b hb => by have := hb.1; omega))
  clear o_x0
  have o_x0 := p_x0; clear p_x0
  go_wp2_with (fail)
  refine (eqIntS_c _ _ _ _ _ o_g0.ints o_s0.ints).mono ?_
  rintro e w9 ⟨rfl, b9⟩
  have s9 : w8.heap.size ≤ w9.heap.size := b9.size
  have bb9 := bb8.trans_pure b9 (Nat.le_refl _)
  replace o_s0 := Own.keep rIntV o_s0 b9 (by omega)
  replace o_g0 := Own.keep rIntV o_g0 b9 (by omega)
  go_wp2_with (fail)
  refine (markIntS_c _ _ _ _ _ o_g0 (by omega) (by omega) (by omega)).mono ?_
  rintro e w10 ⟨rfl, p_g0, m10, z_10⟩
  have s10 : w9.heap.size ≤ w10.heap.size := m10.size
  have Z10 := Lib.hid z_10; clear z_10
  replace o_s0 := Own.only rIntV o_s0 m10 (fun b hb => by have := hb.2; omega) (fun b hb hc => by have := hb.1; have := hb.2; have := hc.1; have := hc.2; omega)
  have bb10 : Below w.heap.size w w10 := bb9.trans (m10.below (by omega) (fun b hb => by have := hb.1; omega))
  clear o_g0
  have o_g0 := p_g0; clear p_g0
  go_wp2_with (fail)
  refine (heldIntS_c _ _ _ _ o_g0.ints (by omega) (by omega) (by omega)).mono ?_
  rintro e w' ⟨rfl, rfl⟩
  go_wp2_with (fail)
  refine (toIntSS_c _ _ _ (hx0.keep bb10) (by omega) (by omega)).mono ?_
  rintro e w11 ⟨v_b0, rfl, o_b0, b11⟩
  have s11 : w10.heap.size ≤ w11.heap.size := b11.size
  have bb11 := bb10.trans_pure b11 (Nat.le_refl _)
  replace o_s0 := Own.keep rIntV o_s0 b11 (by omega)
  replace o_g0 := Own.keep rIntV o_g0 b11 (by omega)
  go_wp2_with (fail)
  refine (LeastReveal_i2 _ _ _ o_b0.grid).mono ?_
  rintro e w12 ⟨v_h0, rfl, o_h0, b12⟩
  have s12 : w11.heap.size ≤ w12.heap.size := b12.size
  have bb12 := bb11.trans_pure b12 (Nat.le_refl _)
  replace o_s0 := Own.keep rIntV o_s0 b12 (by omega)
  replace o_g0 := Own.keep rIntV o_g0 b12 (by omega)
  replace o_b0 := Own.keep (rOwn rIntV) o_b0 b12 (by omega)
  go_wp2_with (fail)
  refine (eqIntS_c _ _ _ _ _ o_h0.ints o_s0.ints).mono ?_
  rintro e w13 ⟨rfl, b13⟩
  have s13 : w12.heap.size ≤ w13.heap.size := b13.size
  have bb13 := bb12.trans_pure b13 (Nat.le_refl _)
  replace o_s0 := Own.keep rIntV o_s0 b13 (by omega)
  replace o_g0 := Own.keep rIntV o_g0 b13 (by omega)
  replace o_h0 := Own.keep rIntV o_h0 b13 (by omega)
  go_wp2_with (fail)
  refine (heldIntS_c _ _ _ _ o_g0.ints (by omega) (by omega) (by omega)).mono ?_
  rintro e w' ⟨rfl, rfl⟩
  go_wp2_with (fail)
  go_ret
  exact ⟨rfl, bb13⟩
end Go.Proofs.Ytekgnpdchpdfiaa

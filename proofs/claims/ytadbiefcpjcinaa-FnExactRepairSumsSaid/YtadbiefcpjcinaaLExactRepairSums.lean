/- RepairSums: the walk of the law. -/
import Derived.Test.YtadbiefcpjcinaaC21
namespace Go.Proofs.Ytadbiefcpjcinaa
open Go.RowKit

set_option maxRecDepth 100000 in
set_option maxHeartbeats 1000000 in
theorem FnExactRepairSums_w {w : World} {v0 : Value} {x0 : List Int} {v1 : Value} {x1 : List Int} (hx0 : Ints w v0 x0) (hx1 : Ints w v1 x1) :
    Calls Try.prog 4 #[v0, v1] w fun e w' => e = .returned (.bool true) ∧ Below w.heap.size w w' := by
  obtain ⟨a0, cap0, rfl, -, -, -, -⟩ := id hx0
  obtain ⟨a1, cap1, rfl, -, -, -, -⟩ := id hx1
  rcases Nat.lt_or_ge 1048576 x0.length with z0 | z0
  · go_enter Try.func4, Try.ntmps4
    go_wp2
    go_ret
    exact ⟨rfl, Below.refl _ _⟩
  rcases Nat.lt_or_ge 1048576 x1.length with z1 | z1
  · go_enter Try.func4, Try.ntmps4
    go_wp2
    go_ret
    exact ⟨rfl, Below.refl _ _⟩
  have hr1 := repRows_len x0 x1
  have hr2 := repCols_len x0 x1
  go_enter Try.func4, Try.ntmps4
  go_wp2_with (fail)
  refine (toIntS_c _ _ _ hx0 (by omega)).mono ?_
  rintro e w1 ⟨v_a0, rfl, o_a0, b1⟩
  have s1 : w.heap.size ≤ w1.heap.size := b1.size
  have bb1 : Below w.heap.size w w1 := b1
  go_wp2_with (fail)
  refine (toIntS_c _ _ _ (hx1.keep bb1) (by omega)).mono ?_
  rintro e w2 ⟨v_a1, rfl, o_a1, b2⟩
  have s2 : w1.heap.size ≤ w2.heap.size := b2.size
  have bb2 := bb1.trans_pure b2 (Nat.le_refl _)
  replace o_a0 := Own.keep rIntV o_a0 b2 (by omega)
  go_wp2_with (fail)
  refine (RepairSums_s _ _ _ _ _ o_a0.ints o_a1.ints).mono ?_
  rintro e w3 ⟨v_s0, v_s1, M3, hM3a, hM3b, rfl, o_s0, o_s1, b3⟩
  have s3 : w2.heap.size ≤ w3.heap.size := b3.size
  have bb3 := bb2.trans_pure b3 (Nat.le_refl _)
  replace o_a0 := Own.keep rIntV o_a0 b3 (by omega)
  replace o_a1 := Own.keep rIntV o_a1 b3 (by omega)
  go_wp2_with (fail)
  refine (toIntS_c _ _ _ (hx0.keep bb3) (by omega)).mono ?_
  rintro e w4 ⟨v_x0, rfl, o_x0, b4⟩
  have s4 : w3.heap.size ≤ w4.heap.size := b4.size
  have bb4 := bb3.trans_pure b4 (Nat.le_refl _)
  replace o_s0 := Own.keep rIntV o_s0 b4 (by omega)
  replace o_s1 := Own.keep rIntV o_s1 b4 (by omega)
  go_wp2_with (fail)
  refine (toIntS_c _ _ _ (hx1.keep bb4) (by omega)).mono ?_
  rintro e w5 ⟨v_x1, rfl, o_x1, b5⟩
  have s5 : w4.heap.size ≤ w5.heap.size := b5.size
  have bb5 := bb4.trans_pure b5 (Nat.le_refl _)
  replace o_s0 := Own.keep rIntV o_s0 b5 (by omega)
  replace o_s1 := Own.keep rIntV o_s1 b5 (by omega)
  replace o_x0 := Own.keep rIntV o_x0 b5 (by omega)
  go_wp2_with (fail)
  refine (RepairSums_i _ _ _ _ _ o_x0.ints o_x1.ints).mono ?_
  rintro e w6 ⟨v_g0, v_g1, M6, hM6a, hM6b, rfl, o_g0, o_g1, b6⟩
  have s6 : w5.heap.size ≤ w6.heap.size := b6.size
  have bb6 := bb5.trans_pure b6 (Nat.le_refl _)
  replace o_s0 := Own.keep rIntV o_s0 b6 (by omega)
  replace o_s1 := Own.keep rIntV o_s1 b6 (by omega)
  replace o_x0 := Own.keep rIntV o_x0 b6 (by omega)
  replace o_x1 := Own.keep rIntV o_x1 b6 (by omega)
  go_wp2_with (fail)
  refine (eqIntS_c _ _ _ _ _ o_g0.ints o_s0.ints).mono ?_
  rintro e w7 ⟨rfl, b7⟩
  have s7 : w6.heap.size ≤ w7.heap.size := b7.size
  have bb7 := bb6.trans_pure b7 (Nat.le_refl _)
  replace o_s0 := Own.keep rIntV o_s0 b7 (by omega)
  replace o_s1 := Own.keep rIntV o_s1 b7 (by omega)
  replace o_x0 := Own.keep rIntV o_x0 b7 (by omega)
  replace o_x1 := Own.keep rIntV o_x1 b7 (by omega)
  replace o_g0 := Own.keep rIntV o_g0 b7 (by omega)
  replace o_g1 := Own.keep rIntV o_g1 b7 (by omega)
  go_wp2_with (fail)
  refine (eqIntS_c _ _ _ _ _ o_g1.ints o_s1.ints).mono ?_
  rintro e w8 ⟨rfl, b8⟩
  have s8 : w7.heap.size ≤ w8.heap.size := b8.size
  have bb8 := bb7.trans_pure b8 (Nat.le_refl _)
  replace o_s0 := Own.keep rIntV o_s0 b8 (by omega)
  replace o_s1 := Own.keep rIntV o_s1 b8 (by omega)
  replace o_x0 := Own.keep rIntV o_x0 b8 (by omega)
  replace o_x1 := Own.keep rIntV o_x1 b8 (by omega)
  replace o_g0 := Own.keep rIntV o_g0 b8 (by omega)
  replace o_g1 := Own.keep rIntV o_g1 b8 (by omega)
  go_wp2_with (fail)
  refine (toIntS_c _ _ _ (hx0.keep bb8) (by omega)).mono ?_
  rintro e w9 ⟨v_y0, rfl, o_y0, b9⟩
  have s9 : w8.heap.size ≤ w9.heap.size := b9.size
  have bb9 := bb8.trans_pure b9 (Nat.le_refl _)
  replace o_s0 := Own.keep rIntV o_s0 b9 (by omega)
  replace o_s1 := Own.keep rIntV o_s1 b9 (by omega)
  replace o_x0 := Own.keep rIntV o_x0 b9 (by omega)
  replace o_x1 := Own.keep rIntV o_x1 b9 (by omega)
  replace o_g0 := Own.keep rIntV o_g0 b9 (by omega)
  replace o_g1 := Own.keep rIntV o_g1 b9 (by omega)
  go_wp2_with (fail)
  refine (eqIntS_c _ _ _ _ _ o_x0.ints o_y0.ints).mono ?_
  rintro e w10 ⟨rfl, b10⟩
  have s10 : w9.heap.size ≤ w10.heap.size := b10.size
  have bb10 := bb9.trans_pure b10 (Nat.le_refl _)
  replace o_s0 := Own.keep rIntV o_s0 b10 (by omega)
  replace o_s1 := Own.keep rIntV o_s1 b10 (by omega)
  replace o_x0 := Own.keep rIntV o_x0 b10 (by omega)
  replace o_x1 := Own.keep rIntV o_x1 b10 (by omega)
  replace o_g0 := Own.keep rIntV o_g0 b10 (by omega)
  replace o_g1 := Own.keep rIntV o_g1 b10 (by omega)
  replace o_y0 := Own.keep rIntV o_y0 b10 (by omega)
  go_wp2_with (fail)
  refine (toIntS_c _ _ _ (hx1.keep bb10) (by omega)).mono ?_
  rintro e w11 ⟨v_y1, rfl, o_y1, b11⟩
  have s11 : w10.heap.size ≤ w11.heap.size := b11.size
  have bb11 := bb10.trans_pure b11 (Nat.le_refl _)
  replace o_s0 := Own.keep rIntV o_s0 b11 (by omega)
  replace o_s1 := Own.keep rIntV o_s1 b11 (by omega)
  replace o_x0 := Own.keep rIntV o_x0 b11 (by omega)
  replace o_x1 := Own.keep rIntV o_x1 b11 (by omega)
  replace o_g0 := Own.keep rIntV o_g0 b11 (by omega)
  replace o_g1 := Own.keep rIntV o_g1 b11 (by omega)
  go_wp2_with (fail)
  refine (eqIntS_c _ _ _ _ _ o_x1.ints o_y1.ints).mono ?_
  rintro e w12 ⟨rfl, b12⟩
  have s12 : w11.heap.size ≤ w12.heap.size := b12.size
  have bb12 := bb11.trans_pure b12 (Nat.le_refl _)
  replace o_s0 := Own.keep rIntV o_s0 b12 (by omega)
  replace o_s1 := Own.keep rIntV o_s1 b12 (by omega)
  replace o_x0 := Own.keep rIntV o_x0 b12 (by omega)
  replace o_x1 := Own.keep rIntV o_x1 b12 (by omega)
  replace o_g0 := Own.keep rIntV o_g0 b12 (by omega)
  replace o_g1 := Own.keep rIntV o_g1 b12 (by omega)
  replace o_y1 := Own.keep rIntV o_y1 b12 (by omega)
  go_wp2_with (fail)
  refine (markIntS_c _ _ _ _ _ o_x0 (by omega) (by omega) (by omega)).mono ?_
  rintro e w13 ⟨rfl, p_x0, m13, z_13⟩
  have s13 : w12.heap.size ≤ w13.heap.size := m13.size
  have Z13 := Lib.hid z_13; clear z_13
  replace o_s0 := Own.only rIntV o_s0 m13 (fun b hb => by have := hb.2; omega) (fun b hb hc => by have := hb.1; have := hb.2; have := hc.1; have := hc.2; omega)
  replace o_s1 := Own.only rIntV o_s1 m13 (fun b hb => by have := hb.2; omega) (fun b hb hc => by have := hb.1; have := hb.2; have := hc.1; have := hc.2; omega)
  replace o_x1 := Own.only rIntV o_x1 m13 (fun b hb => by have := hb.2; omega) (fun b hb hc => by have := hb.1; have := hb.2; have := hc.1; have := hc.2; omega)
  replace o_g0 := Own.only rIntV o_g0 m13 (fun b hb => by have := hb.2; omega) (fun b hb hc => by have := hb.1; have := hb.2; have := hc.1; have := hc.2; omega)
  replace o_g1 := Own.only rIntV o_g1 m13 (fun b hb => by have := hb.2; omega) (fun b hb hc => by have := hb.1; have := hb.2; have := hc.1; have := hc.2; omega)
  have bb13 : Below w.heap.size w w13 := bb12.trans (m13.below (by omega) (fun b hb => by have := hb.1; omega))
  clear o_x0
  have o_x0 := p_x0; clear p_x0
  go_wp2_with (fail)
  refine (markIntS_c _ _ _ _ _ o_x1 (by omega) (by omega) (by omega)).mono ?_
  rintro e w14 ⟨rfl, p_x1, m14, z_14⟩
  have s14 : w13.heap.size ≤ w14.heap.size := m14.size
  have Z14 := Lib.hid z_14; clear z_14
  replace o_s0 := Own.only rIntV o_s0 m14 (fun b hb => by have := hb.2; omega) (fun b hb hc => by have := hb.1; have := hb.2; have := hc.1; have := hc.2; omega)
  replace o_s1 := Own.only rIntV o_s1 m14 (fun b hb => by have := hb.2; omega) (fun b hb hc => by have := hb.1; have := hb.2; have := hc.1; have := hc.2; omega)
  replace o_g0 := Own.only rIntV o_g0 m14 (fun b hb => by have := hb.2; omega) (fun b hb hc => by have := hb.1; have := hb.2; have := hc.1; have := hc.2; omega)
  replace o_g1 := Own.only rIntV o_g1 m14 (fun b hb => by have := hb.2; omega) (fun b hb hc => by have := hb.1; have := hb.2; have := hc.1; have := hc.2; omega)
  have bb14 : Below w.heap.size w w14 := bb13.trans (m14.below (by omega) (fun b hb => by have := hb.1; omega))
  clear o_x1
  have o_x1 := p_x1; clear p_x1
  go_wp2_with (fail)
  refine (eqIntS_c _ _ _ _ _ o_g0.ints o_s0.ints).mono ?_
  rintro e w15 ⟨rfl, b15⟩
  have s15 : w14.heap.size ≤ w15.heap.size := b15.size
  have bb15 := bb14.trans_pure b15 (Nat.le_refl _)
  replace o_s0 := Own.keep rIntV o_s0 b15 (by omega)
  replace o_s1 := Own.keep rIntV o_s1 b15 (by omega)
  replace o_g0 := Own.keep rIntV o_g0 b15 (by omega)
  replace o_g1 := Own.keep rIntV o_g1 b15 (by omega)
  go_wp2_with (fail)
  refine (eqIntS_c _ _ _ _ _ o_g1.ints o_s1.ints).mono ?_
  rintro e w16 ⟨rfl, b16⟩
  have s16 : w15.heap.size ≤ w16.heap.size := b16.size
  have bb16 := bb15.trans_pure b16 (Nat.le_refl _)
  replace o_s0 := Own.keep rIntV o_s0 b16 (by omega)
  replace o_s1 := Own.keep rIntV o_s1 b16 (by omega)
  replace o_g0 := Own.keep rIntV o_g0 b16 (by omega)
  replace o_g1 := Own.keep rIntV o_g1 b16 (by omega)
  go_wp2_with (fail)
  refine (markIntS_c _ _ _ _ _ o_g0 (by omega) (by omega) (by omega)).mono ?_
  rintro e w17 ⟨rfl, p_g0, m17, z_17⟩
  have s17 : w16.heap.size ≤ w17.heap.size := m17.size
  have Z17 := Lib.hid z_17; clear z_17
  replace o_s0 := Own.only rIntV o_s0 m17 (fun b hb => by have := hb.2; omega) (fun b hb hc => by have := hb.1; have := hb.2; have := hc.1; have := hc.2; omega)
  replace o_s1 := Own.only rIntV o_s1 m17 (fun b hb => by have := hb.2; omega) (fun b hb hc => by have := hb.1; have := hb.2; have := hc.1; have := hc.2; omega)
  replace o_g1 := Own.only rIntV o_g1 m17 (fun b hb => by have := hb.2; omega) (fun b hb hc => by have := hb.1; have := hb.2; have := hc.1; have := hc.2; omega)
  have bb17 : Below w.heap.size w w17 := bb16.trans (m17.below (by omega) (fun b hb => by have := hb.1; omega))
  clear o_g0
  have o_g0 := p_g0; clear p_g0
  go_wp2_with (fail)
  refine (markIntS_c _ _ _ _ _ o_g1 (by omega) (by omega) (by omega)).mono ?_
  rintro e w18 ⟨rfl, p_g1, m18, z_18⟩
  have s18 : w17.heap.size ≤ w18.heap.size := m18.size
  have Z18 := Lib.hid z_18; clear z_18
  replace o_s0 := Own.only rIntV o_s0 m18 (fun b hb => by have := hb.2; omega) (fun b hb hc => by have := hb.1; have := hb.2; have := hc.1; have := hc.2; omega)
  replace o_s1 := Own.only rIntV o_s1 m18 (fun b hb => by have := hb.2; omega) (fun b hb hc => by have := hb.1; have := hb.2; have := hc.1; have := hc.2; omega)
  replace o_g0 := Own.only rIntV o_g0 m18 (fun b hb => by have := hb.2; omega) (fun b hb hc => by have := hb.1; have := hb.2; have := hc.1; have := hc.2; omega)
  have bb18 : Below w.heap.size w w18 := bb17.trans (m18.below (by omega) (fun b hb => by have := hb.1; omega))
  clear o_g1
  have o_g1 := p_g1; clear p_g1
  go_wp2_with (fail)
  refine (heldIntS_c _ _ _ _ o_g0.ints (by omega) (by omega) (by omega)).mono ?_
  rintro e w' ⟨rfl, rfl⟩
  go_wp2_with (fail)
  refine (heldIntS_c _ _ _ _ o_g1.ints (by omega) (by omega) (by omega)).mono ?_
  rintro e w' ⟨rfl, rfl⟩
  go_wp2_with (fail)
  refine (toIntS_c _ _ _ (hx0.keep bb18) (by omega)).mono ?_
  rintro e w19 ⟨v_b0, rfl, o_b0, b19⟩
  have s19 : w18.heap.size ≤ w19.heap.size := b19.size
  have bb19 := bb18.trans_pure b19 (Nat.le_refl _)
  replace o_s0 := Own.keep rIntV o_s0 b19 (by omega)
  replace o_s1 := Own.keep rIntV o_s1 b19 (by omega)
  replace o_g0 := Own.keep rIntV o_g0 b19 (by omega)
  replace o_g1 := Own.keep rIntV o_g1 b19 (by omega)
  go_wp2_with (fail)
  refine (toIntS_c _ _ _ (hx1.keep bb19) (by omega)).mono ?_
  rintro e w20 ⟨v_b1, rfl, o_b1, b20⟩
  have s20 : w19.heap.size ≤ w20.heap.size := b20.size
  have bb20 := bb19.trans_pure b20 (Nat.le_refl _)
  replace o_s0 := Own.keep rIntV o_s0 b20 (by omega)
  replace o_s1 := Own.keep rIntV o_s1 b20 (by omega)
  replace o_g0 := Own.keep rIntV o_g0 b20 (by omega)
  replace o_g1 := Own.keep rIntV o_g1 b20 (by omega)
  replace o_b0 := Own.keep rIntV o_b0 b20 (by omega)
  go_wp2_with (fail)
  refine (RepairSums_i _ _ _ _ _ o_b0.ints o_b1.ints).mono ?_
  rintro e w21 ⟨v_h0, v_h1, M21, hM21a, hM21b, rfl, o_h0, o_h1, b21⟩
  have s21 : w20.heap.size ≤ w21.heap.size := b21.size
  have bb21 := bb20.trans_pure b21 (Nat.le_refl _)
  replace o_s0 := Own.keep rIntV o_s0 b21 (by omega)
  replace o_s1 := Own.keep rIntV o_s1 b21 (by omega)
  replace o_g0 := Own.keep rIntV o_g0 b21 (by omega)
  replace o_g1 := Own.keep rIntV o_g1 b21 (by omega)
  replace o_b0 := Own.keep rIntV o_b0 b21 (by omega)
  replace o_b1 := Own.keep rIntV o_b1 b21 (by omega)
  go_wp2_with (fail)
  refine (eqIntS_c _ _ _ _ _ o_h0.ints o_s0.ints).mono ?_
  rintro e w22 ⟨rfl, b22⟩
  have s22 : w21.heap.size ≤ w22.heap.size := b22.size
  have bb22 := bb21.trans_pure b22 (Nat.le_refl _)
  replace o_s0 := Own.keep rIntV o_s0 b22 (by omega)
  replace o_s1 := Own.keep rIntV o_s1 b22 (by omega)
  replace o_g0 := Own.keep rIntV o_g0 b22 (by omega)
  replace o_g1 := Own.keep rIntV o_g1 b22 (by omega)
  replace o_h0 := Own.keep rIntV o_h0 b22 (by omega)
  replace o_h1 := Own.keep rIntV o_h1 b22 (by omega)
  go_wp2_with (fail)
  refine (eqIntS_c _ _ _ _ _ o_h1.ints o_s1.ints).mono ?_
  rintro e w23 ⟨rfl, b23⟩
  have s23 : w22.heap.size ≤ w23.heap.size := b23.size
  have bb23 := bb22.trans_pure b23 (Nat.le_refl _)
  replace o_s0 := Own.keep rIntV o_s0 b23 (by omega)
  replace o_s1 := Own.keep rIntV o_s1 b23 (by omega)
  replace o_g0 := Own.keep rIntV o_g0 b23 (by omega)
  replace o_g1 := Own.keep rIntV o_g1 b23 (by omega)
  replace o_h0 := Own.keep rIntV o_h0 b23 (by omega)
  replace o_h1 := Own.keep rIntV o_h1 b23 (by omega)
  go_wp2_with (fail)
  refine (heldIntS_c _ _ _ _ o_g0.ints (by omega) (by omega) (by omega)).mono ?_
  rintro e w' ⟨rfl, rfl⟩
  go_wp2_with (fail)
  refine (heldIntS_c _ _ _ _ o_g1.ints (by omega) (by omega) (by omega)).mono ?_
  rintro e w' ⟨rfl, rfl⟩
  go_wp2_with (fail)
  go_ret
  exact ⟨rfl, bb23⟩
end Go.Proofs.Ytadbiefcpjcinaa

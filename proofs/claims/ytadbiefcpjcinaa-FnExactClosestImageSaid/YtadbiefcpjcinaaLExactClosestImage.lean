/- ClosestImage: the walk of the law. -/
import Derived.Test.YtadbiefcpjcinaaC21
import Derived.Test.YtadbiefcpjcinaaC8
namespace Go.Proofs.Ytadbiefcpjcinaa
open Go.RowKit

set_option maxRecDepth 100000 in
set_option maxHeartbeats 1000000 in
theorem FnExactClosestImage_w {w : World} {v0 : Value} {x0 : List Int} {v1 : Value} {x1 : List Int} (hx0 : Ints w v0 x0) (hx1 : Ints w v1 x1) :
    Calls Try.prog 5 #[v0, v1] w fun e w' => e = .returned (.bool true) ∧ Below w.heap.size w w' := by
  obtain ⟨a0, cap0, rfl, -, -, -, -⟩ := id hx0
  obtain ⟨a1, cap1, rfl, -, -, -, -⟩ := id hx1
  rcases Nat.lt_or_ge 1048576 x0.length with z0 | z0
  · go_enter Try.func5, Try.ntmps5
    go_wp2
    go_ret
    exact ⟨rfl, Below.refl _ _⟩
  rcases Nat.lt_or_ge 1048576 x1.length with z1 | z1
  · go_enter Try.func5, Try.ntmps5
    go_wp2
    go_ret
    exact ⟨rfl, Below.refl _ _⟩
  have hr1 : (closeImg x0 x1 (closest x0 x1)).length ≤ 5 := (closeImg_bd x0 x1).1
  have hr2 : cells (closeImg x0 x1 (closest x0 x1)) ≤ 25 := (closeImg_bd x0 x1).2
  go_enter Try.func5, Try.ntmps5
  go_wp2_with (fail)
  refine (toIntS_c _ _ _ hx0 (by omega)).mono ?_
  rintro e w1 ⟨v_a0, rfl, o_a0, b1⟩
  have s1 : w.heap.size ≤ w1.heap.size := b1.size
  have bb1 : Below w.heap.size w w1 := b1
  go_wp2_with (fail)
  refine (toIntS_c _ _ _ (hx1.keep bb1) (by omega)).mono ?_
  rintro e w2 ⟨v_a1, rfl, o_a1, b2⟩
  have s2 : w1.heap.size ≤ w2.heap.size := b2.size
  have bb2 := bb1.trans_pure b2 (Nat.le_refl _)
  replace o_a0 := Own.keep rIntV o_a0 b2 (by omega)
  go_wp2_with (fail)
  refine (ClosestImage_s _ _ _ _ _ o_a0.ints o_a1.ints).mono ?_
  rintro e w3 ⟨v_s0, rfl, o_s0, b3⟩
  have s3 : w2.heap.size ≤ w3.heap.size := b3.size
  have bb3 := bb2.trans_pure b3 (Nat.le_refl _)
  replace o_a0 := Own.keep rIntV o_a0 b3 (by omega)
  replace o_a1 := Own.keep rIntV o_a1 b3 (by omega)
  go_wp2_with (fail)
  refine (toIntS_c _ _ _ (hx0.keep bb3) (by omega)).mono ?_
  rintro e w4 ⟨v_x0, rfl, o_x0, b4⟩
  have s4 : w3.heap.size ≤ w4.heap.size := b4.size
  have bb4 := bb3.trans_pure b4 (Nat.le_refl _)
  replace o_s0 := Own.keep (rOwn rIntV) o_s0 b4 (by omega)
  go_wp2_with (fail)
  refine (toIntS_c _ _ _ (hx1.keep bb4) (by omega)).mono ?_
  rintro e w5 ⟨v_x1, rfl, o_x1, b5⟩
  have s5 : w4.heap.size ≤ w5.heap.size := b5.size
  have bb5 := bb4.trans_pure b5 (Nat.le_refl _)
  replace o_s0 := Own.keep (rOwn rIntV) o_s0 b5 (by omega)
  replace o_x0 := Own.keep rIntV o_x0 b5 (by omega)
  go_wp2_with (fail)
  refine (ClosestImage_i _ _ _ _ _ o_x0.ints o_x1.ints).mono ?_
  rintro e w6 ⟨v_g0, rfl, o_g0, b6⟩
  have s6 : w5.heap.size ≤ w6.heap.size := b6.size
  have bb6 := bb5.trans_pure b6 (Nat.le_refl _)
  replace o_s0 := Own.keep (rOwn rIntV) o_s0 b6 (by omega)
  replace o_x0 := Own.keep rIntV o_x0 b6 (by omega)
  replace o_x1 := Own.keep rIntV o_x1 b6 (by omega)
  go_wp2_with (fail)
  refine (eqIntSS_c _ _ _ _ _ o_g0.grid o_s0.grid).mono ?_
  rintro e w7 ⟨rfl, b7⟩
  have s7 : w6.heap.size ≤ w7.heap.size := b7.size
  have bb7 := bb6.trans_pure b7 (Nat.le_refl _)
  replace o_s0 := Own.keep (rOwn rIntV) o_s0 b7 (by omega)
  replace o_x0 := Own.keep rIntV o_x0 b7 (by omega)
  replace o_x1 := Own.keep rIntV o_x1 b7 (by omega)
  replace o_g0 := Own.keep (rOwn rIntV) o_g0 b7 (by omega)
  go_wp2_with (fail)
  refine (toIntS_c _ _ _ (hx0.keep bb7) (by omega)).mono ?_
  rintro e w8 ⟨v_y0, rfl, o_y0, b8⟩
  have s8 : w7.heap.size ≤ w8.heap.size := b8.size
  have bb8 := bb7.trans_pure b8 (Nat.le_refl _)
  replace o_s0 := Own.keep (rOwn rIntV) o_s0 b8 (by omega)
  replace o_x0 := Own.keep rIntV o_x0 b8 (by omega)
  replace o_x1 := Own.keep rIntV o_x1 b8 (by omega)
  replace o_g0 := Own.keep (rOwn rIntV) o_g0 b8 (by omega)
  go_wp2_with (fail)
  refine (eqIntS_c _ _ _ _ _ o_x0.ints o_y0.ints).mono ?_
  rintro e w9 ⟨rfl, b9⟩
  have s9 : w8.heap.size ≤ w9.heap.size := b9.size
  have bb9 := bb8.trans_pure b9 (Nat.le_refl _)
  replace o_s0 := Own.keep (rOwn rIntV) o_s0 b9 (by omega)
  replace o_x0 := Own.keep rIntV o_x0 b9 (by omega)
  replace o_x1 := Own.keep rIntV o_x1 b9 (by omega)
  replace o_g0 := Own.keep (rOwn rIntV) o_g0 b9 (by omega)
  replace o_y0 := Own.keep rIntV o_y0 b9 (by omega)
  go_wp2_with (fail)
  refine (toIntS_c _ _ _ (hx1.keep bb9) (by omega)).mono ?_
  rintro e w10 ⟨v_y1, rfl, o_y1, b10⟩
  have s10 : w9.heap.size ≤ w10.heap.size := b10.size
  have bb10 := bb9.trans_pure b10 (Nat.le_refl _)
  replace o_s0 := Own.keep (rOwn rIntV) o_s0 b10 (by omega)
  replace o_x0 := Own.keep rIntV o_x0 b10 (by omega)
  replace o_x1 := Own.keep rIntV o_x1 b10 (by omega)
  replace o_g0 := Own.keep (rOwn rIntV) o_g0 b10 (by omega)
  go_wp2_with (fail)
  refine (eqIntS_c _ _ _ _ _ o_x1.ints o_y1.ints).mono ?_
  rintro e w11 ⟨rfl, b11⟩
  have s11 : w10.heap.size ≤ w11.heap.size := b11.size
  have bb11 := bb10.trans_pure b11 (Nat.le_refl _)
  replace o_s0 := Own.keep (rOwn rIntV) o_s0 b11 (by omega)
  replace o_x0 := Own.keep rIntV o_x0 b11 (by omega)
  replace o_x1 := Own.keep rIntV o_x1 b11 (by omega)
  replace o_g0 := Own.keep (rOwn rIntV) o_g0 b11 (by omega)
  replace o_y1 := Own.keep rIntV o_y1 b11 (by omega)
  go_wp2_with (fail)
  refine (markIntS_c _ _ _ _ _ o_x0 (by omega) (by omega) (by omega)).mono ?_
  rintro e w12 ⟨rfl, p_x0, m12, z_12⟩
  have s12 : w11.heap.size ≤ w12.heap.size := m12.size
  have Z12 := Lib.hid z_12; clear z_12
  replace o_s0 := Own.only (rOwn rIntV) o_s0 m12 (fun b hb => by have := hb.2; omega) (fun b hb hc => by have := hb.1; have := hb.2; have := hc.1; have := hc.2; omega)
  replace o_x1 := Own.only rIntV o_x1 m12 (fun b hb => by have := hb.2; omega) (fun b hb hc => by have := hb.1; have := hb.2; have := hc.1; have := hc.2; omega)
  replace o_g0 := Own.only (rOwn rIntV) o_g0 m12 (fun b hb => by have := hb.2; omega) (fun b hb hc => by have := hb.1; have := hb.2; have := hc.1; have := hc.2; omega)
  have bb12 : Below w.heap.size w w12 := bb11.trans (m12.below (by omega) (fun b hb => by have := hb.1; omega))
  clear o_x0
  have o_x0 := p_x0; clear p_x0
  go_wp2_with (fail)
  refine (markIntS_c _ _ _ _ _ o_x1 (by omega) (by omega) (by omega)).mono ?_
  rintro e w13 ⟨rfl, p_x1, m13, z_13⟩
  have s13 : w12.heap.size ≤ w13.heap.size := m13.size
  have Z13 := Lib.hid z_13; clear z_13
  replace o_s0 := Own.only (rOwn rIntV) o_s0 m13 (fun b hb => by have := hb.2; omega) (fun b hb hc => by have := hb.1; have := hb.2; have := hc.1; have := hc.2; omega)
  replace o_g0 := Own.only (rOwn rIntV) o_g0 m13 (fun b hb => by have := hb.2; omega) (fun b hb hc => by have := hb.1; have := hb.2; have := hc.1; have := hc.2; omega)
  have bb13 : Below w.heap.size w w13 := bb12.trans (m13.below (by omega) (fun b hb => by have := hb.1; omega))
  clear o_x1
  have o_x1 := p_x1; clear p_x1
  go_wp2_with (fail)
  refine (eqIntSS_c _ _ _ _ _ o_g0.grid o_s0.grid).mono ?_
  rintro e w14 ⟨rfl, b14⟩
  have s14 : w13.heap.size ≤ w14.heap.size := b14.size
  have bb14 := bb13.trans_pure b14 (Nat.le_refl _)
  replace o_s0 := Own.keep (rOwn rIntV) o_s0 b14 (by omega)
  replace o_g0 := Own.keep (rOwn rIntV) o_g0 b14 (by omega)
  go_wp2_with (fail)
  refine (markIntSS_c _ _ _ _ _ o_g0 (fun b hb => by have := hb.2; omega) (by omega) (by omega) (by omega) (by omega)).mono ?_
  rintro e w15 ⟨rfl, p_g0, m15, z_15⟩
  have s15 : w14.heap.size ≤ w15.heap.size := m15.size
  have Z15 := Lib.hid z_15; clear z_15
  replace o_s0 := Own.only (rOwn rIntV) o_s0 m15 (fun b hb => by have := hb.2; omega) (fun b hb hc => by have := hb.1; have := hb.2; have := hc.1; have := hc.2; omega)
  have bb15 : Below w.heap.size w w15 := bb14.trans (m15.below (by omega) (fun b hb => by have := hb.1; omega))
  clear o_g0
  have o_g0 := p_g0; clear p_g0
  go_wp2_with (fail)
  refine (heldIntSS_c _ _ _ _ o_g0.grid (by omega) (by omega) (by omega) (by omega)).mono ?_
  rintro e w' ⟨rfl, rfl⟩
  go_wp2_with (fail)
  refine (toIntS_c _ _ _ (hx0.keep bb15) (by omega)).mono ?_
  rintro e w16 ⟨v_b0, rfl, o_b0, b16⟩
  have s16 : w15.heap.size ≤ w16.heap.size := b16.size
  have bb16 := bb15.trans_pure b16 (Nat.le_refl _)
  replace o_s0 := Own.keep (rOwn rIntV) o_s0 b16 (by omega)
  replace o_g0 := Own.keep (rOwn rIntV) o_g0 b16 (by omega)
  go_wp2_with (fail)
  refine (toIntS_c _ _ _ (hx1.keep bb16) (by omega)).mono ?_
  rintro e w17 ⟨v_b1, rfl, o_b1, b17⟩
  have s17 : w16.heap.size ≤ w17.heap.size := b17.size
  have bb17 := bb16.trans_pure b17 (Nat.le_refl _)
  replace o_s0 := Own.keep (rOwn rIntV) o_s0 b17 (by omega)
  replace o_g0 := Own.keep (rOwn rIntV) o_g0 b17 (by omega)
  replace o_b0 := Own.keep rIntV o_b0 b17 (by omega)
  go_wp2_with (fail)
  refine (ClosestImage_i _ _ _ _ _ o_b0.ints o_b1.ints).mono ?_
  rintro e w18 ⟨v_h0, rfl, o_h0, b18⟩
  have s18 : w17.heap.size ≤ w18.heap.size := b18.size
  have bb18 := bb17.trans_pure b18 (Nat.le_refl _)
  replace o_s0 := Own.keep (rOwn rIntV) o_s0 b18 (by omega)
  replace o_g0 := Own.keep (rOwn rIntV) o_g0 b18 (by omega)
  replace o_b0 := Own.keep rIntV o_b0 b18 (by omega)
  replace o_b1 := Own.keep rIntV o_b1 b18 (by omega)
  go_wp2_with (fail)
  refine (eqIntSS_c _ _ _ _ _ o_h0.grid o_s0.grid).mono ?_
  rintro e w19 ⟨rfl, b19⟩
  have s19 : w18.heap.size ≤ w19.heap.size := b19.size
  have bb19 := bb18.trans_pure b19 (Nat.le_refl _)
  replace o_s0 := Own.keep (rOwn rIntV) o_s0 b19 (by omega)
  replace o_g0 := Own.keep (rOwn rIntV) o_g0 b19 (by omega)
  replace o_h0 := Own.keep (rOwn rIntV) o_h0 b19 (by omega)
  go_wp2_with (fail)
  refine (heldIntSS_c _ _ _ _ o_g0.grid (by omega) (by omega) (by omega) (by omega)).mono ?_
  rintro e w' ⟨rfl, rfl⟩
  go_wp2_with (fail)
  go_ret
  exact ⟨rfl, bb19⟩
end Go.Proofs.Ytadbiefcpjcinaa

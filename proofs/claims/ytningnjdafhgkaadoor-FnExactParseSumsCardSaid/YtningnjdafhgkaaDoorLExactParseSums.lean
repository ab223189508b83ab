/- ParseSums: the walk of the law. -/
import Derived.Test.YtningnjdafhgkaaDoorF8
import Derived.Test.YtningnjdafhgkaaDoorC1
import Derived.Test.YtningnjdafhgkaaDoorC12
namespace Go.Proofs.YtningnjdafhgkaaDoor
open Go.RowKit

set_option maxRecDepth 100000 in
set_option maxHeartbeats 1000000 in
theorem FnExactParseSums_w {w : World} {t0 : ByteArray} (hx0 : t0.size ≤ 9223372036854775807) (ht : TabE w) :
    Calls Tryd.prog 3 #[.string t0] w fun e w' => e = .returned (.bool true) ∧ Below w.heap.size w w' := by
  rcases Nat.lt_or_ge 1048576 t0.size with z0 | z0
  · go_enter Tryd.func3, Tryd.ntmps3
    go_wp2
    go_ret
    exact ⟨rfl, Below.refl _ _⟩
  have hr := sumsVal_len t0 z0
  go_enter Tryd.func3, Tryd.ntmps3
  go_wp2_with (fail)
  refine (ParseSums_s _ _ z0).mono ?_
  rintro e w1 ⟨v_s0, rfl, o_s0, b1⟩
  have s1 : w.heap.size ≤ w1.heap.size := b1.size
  have bb1 : Below w.heap.size w w1 := b1
  go_wp2_with (fail)
  refine (ParseSums_i _ _ z0 (ht.keep bb1)).mono ?_
  rintro e w2 ⟨v_g0, rfl, o_g0, b2⟩
  have s2 : w1.heap.size ≤ w2.heap.size := b2.size
  have bb2 := bb1.trans_pure b2 (Nat.le_refl _)
  replace o_s0 := Own.keep rIntV o_s0 b2 (by omega)
  go_wp2_with (fail)
  refine (eqIntS_c _ _ _ _ _ o_g0.ints o_s0.ints).mono ?_
  rintro e w3 ⟨rfl, b3⟩
  have s3 : w2.heap.size ≤ w3.heap.size := b3.size
  have bb3 := bb2.trans_pure b3 (Nat.le_refl _)
  replace o_s0 := Own.keep rIntV o_s0 b3 (by omega)
  replace o_g0 := Own.keep rIntV o_g0 b3 (by omega)
  go_wp2_with (fail)
  refine (markIntS_c _ _ _ _ _ o_g0 (by omega) (by omega) (by omega)).mono ?_
  rintro e w4 ⟨rfl, p_g0, m4, z_4⟩
  have s4 : w3.heap.size ≤ w4.heap.size := m4.size
  have Z4 := Lib.hid z_4; clear z_4
  replace o_s0 := Own.only rIntV o_s0 m4 (fun b hb => by have := hb.2; omega) (fun b hb hc => by have := hb.1; have := hb.2; have := hc.1; have := hc.2; omega)
  have bb4 : Below w.heap.size w w4 := bb3.trans (m4.below (by omega) (fun b hb => by have := hb.1; omega))
  clear o_g0
  have o_g0 := p_g0; clear p_g0
  go_wp2_with (fail)
  refine (heldIntS_c _ _ _ _ o_g0.ints (by omega) (by omega) (by omega)).mono ?_
  rintro e w' ⟨rfl, rfl⟩
  go_wp2_with (fail)
  refine (ParseSums_i _ _ z0 (ht.keep bb4)).mono ?_
  rintro e w5 ⟨v_h0, rfl, o_h0, b5⟩
  have s5 : w4.heap.size ≤ w5.heap.size := b5.size
  have bb5 := bb4.trans_pure b5 (Nat.le_refl _)
  replace o_s0 := Own.keep rIntV o_s0 b5 (by omega)
  replace o_g0 := Own.keep rIntV o_g0 b5 (by omega)
  go_wp2_with (fail)
  refine (eqIntS_c _ _ _ _ _ o_h0.ints o_s0.ints).mono ?_
  rintro e w6 ⟨rfl, b6⟩
  have s6 : w5.heap.size ≤ w6.heap.size := b6.size
  have bb6 := bb5.trans_pure b6 (Nat.le_refl _)
  replace o_s0 := Own.keep rIntV o_s0 b6 (by omega)
  replace o_g0 := Own.keep rIntV o_g0 b6 (by omega)
  replace o_h0 := Own.keep rIntV o_h0 b6 (by omega)
  go_wp2_with (fail)
  refine (heldIntS_c _ _ _ _ o_g0.ints (by omega) (by omega) (by omega)).mono ?_
  rintro e w' ⟨rfl, rfl⟩
  go_wp2_with (fail)
  go_ret
  exact ⟨rfl, bb6⟩
end Go.Proofs.YtningnjdafhgkaaDoor

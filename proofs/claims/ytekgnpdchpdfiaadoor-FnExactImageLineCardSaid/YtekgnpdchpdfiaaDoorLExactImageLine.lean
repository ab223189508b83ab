/- ImageLine: the walk of the law. -/
import Derived.Test.YtekgnpdchpdfiaaDoorW4
import Derived.Test.YtekgnpdchpdfiaaDoorC12
namespace Go.Proofs.YtekgnpdchpdfiaaDoor
open Go.RowKit

set_option maxRecDepth 100000 in
set_option maxHeartbeats 1000000 in
theorem FnExactImageLine_w {w : World} {v0 : Value} {x0 : List (List Int)} (hx0 : Grid w v0 x0) (ht : Tab w) :
    Calls Tryd.prog 7 #[v0] w fun e w' => e = .returned (.bool true) ∧ Below w.heap.size w w' := by
  obtain ⟨a0, cap0, rfl, -, -, -, -⟩ := id hx0
  go_enter Tryd.func7, Tryd.ntmps7
  go_wp2_with (fail)
  refine (szIntSS_c _ _ _ _ hx0 (by omega) (by omega)).mono ?_
  rintro e w' ⟨rfl, rfl⟩
  rcases Int.lt_or_le (1048576) (bulk x0 : Nat) with z0 | z0
  · rw [show leftOf (bulk x0) (1048576) = -1 from if_neg (by omega)]
    go_wp2
    go_ret
    exact ⟨rfl, Below.refl _ _⟩
  rw [show leftOf (bulk x0) (1048576) = 1048576 - (bulk x0 : Nat) from if_pos (by omega)]
  have zb0 : x0.length ≤ 1048576 ∧ cells x0 ≤ 1048576 := by unfold bulk at z0; omega
  obtain ⟨zl0, zc0⟩ := zb0
  go_wp2_with (fail)
  refine (toIntSS_c _ _ _ hx0 (by omega) (by omega)).mono ?_
  rintro e w1 ⟨v_a0, rfl, o_a0, b1⟩
  have s1 : w.heap.size ≤ w1.heap.size := b1.size
  have bb1 : Below w.heap.size w w1 := b1
  go_wp2_with (fail)
  refine (ImageLine_sg _ _ _ o_a0.grid).mono ?_
  rintro e w2 ⟨rfl, b2⟩
  have s2 : w1.heap.size ≤ w2.heap.size := b2.size
  have bb2 := bb1.trans_pure b2 (Nat.le_refl _)
  replace o_a0 := Own.keep (rOwn rIntV) o_a0 b2 (by omega)
  go_wp2_with (fail)
  refine (toIntSS_c _ _ _ (hx0.keep bb2) (by omega) (by omega)).mono ?_
  rintro e w3 ⟨v_x0, rfl, o_x0, b3⟩
  have s3 : w2.heap.size ≤ w3.heap.size := b3.size
  have bb3 := bb2.trans_pure b3 (Nat.le_refl _)
  go_wp2_with (fail)
  refine (ImageLine_ig _ _ _ o_x0.grid (ht.keep bb3)).mono ?_
  rintro e w4 ⟨rfl, b4⟩
  have s4 : w3.heap.size ≤ w4.heap.size := b4.size
  have bb4 := bb3.trans_pure b4 (Nat.le_refl _)
  replace o_x0 := Own.keep (rOwn rIntV) o_x0 b4 (by omega)
  go_wp2_with (fail)
  refine (toIntSS_c _ _ _ (hx0.keep bb4) (by omega) (by omega)).mono ?_
  rintro e w5 ⟨v_y0, rfl, o_y0, b5⟩
  have s5 : w4.heap.size ≤ w5.heap.size := b5.size
  have bb5 := bb4.trans_pure b5 (Nat.le_refl _)
  replace o_x0 := Own.keep (rOwn rIntV) o_x0 b5 (by omega)
  go_wp2_with (fail)
  refine (eqIntSS_c _ _ _ _ _ o_x0.grid o_y0.grid).mono ?_
  rintro e w6 ⟨rfl, b6⟩
  have s6 : w5.heap.size ≤ w6.heap.size := b6.size
  have bb6 := bb5.trans_pure b6 (Nat.le_refl _)
  replace o_x0 := Own.keep (rOwn rIntV) o_x0 b6 (by omega)
  replace o_y0 := Own.keep (rOwn rIntV) o_y0 b6 (by omega)
  go_wp2_with (fail)
  go_ret
  exact ⟨rfl, bb6⟩
end Go.Proofs.YtekgnpdchpdfiaaDoor

/- FormatSums: the walk of the law. -/
import Derived.Test.YtadbiefcpjcinaaDoorF4
import Derived.Test.YtadbiefcpjcinaaDoorC8
namespace Go.Proofs.YtadbiefcpjcinaaDoor
open Go.RowKit

set_option maxRecDepth 100000 in
set_option maxHeartbeats 1000000 in
theorem FnExactFormatSums_w {w : World} {v0 : Value} {x0 : List Int} (hx0 : Ints w v0 x0) (ht : Tab w) :
    Calls Tryd.prog 5 #[v0] w fun e w' => e = .returned (.bool true) ∧ Below w.heap.size w w' := by
  obtain ⟨a0, cap0, rfl, -, -, -, -⟩ := id hx0
  rcases Nat.lt_or_ge 1048576 x0.length with z0 | z0
  · go_enter Tryd.func5, Tryd.ntmps5
    go_wp2
    go_ret
    exact ⟨rfl, Below.refl _ _⟩
  go_enter Tryd.func5, Tryd.ntmps5
  go_wp2_with (fail)
  refine (toIntS_c _ _ _ hx0 (by omega)).mono ?_
  rintro e w1 ⟨v_a0, rfl, o_a0, b1⟩
  have s1 : w.heap.size ≤ w1.heap.size := b1.size
  have bb1 : Below w.heap.size w w1 := b1
  go_wp2_with (fail)
  refine (FormatSums_s _ _ _ o_a0.ints (by omega)).mono ?_
  rintro e w2 ⟨rfl, b2⟩
  have s2 : w1.heap.size ≤ w2.heap.size := b2.size
  have bb2 := bb1.trans_pure b2 (Nat.le_refl _)
  replace o_a0 := Own.keep rIntV o_a0 b2 (by omega)
  go_wp2_with (fail)
  refine (toIntS_c _ _ _ (hx0.keep bb2) (by omega)).mono ?_
  rintro e w3 ⟨v_x0, rfl, o_x0, b3⟩
  have s3 : w2.heap.size ≤ w3.heap.size := b3.size
  have bb3 := bb2.trans_pure b3 (Nat.le_refl _)
  go_wp2_with (fail)
  refine (FormatSums_i _ _ _ o_x0.ints (by omega) (ht.keep bb3)).mono ?_
  rintro e w4 ⟨rfl, b4⟩
  have s4 : w3.heap.size ≤ w4.heap.size := b4.size
  have bb4 := bb3.trans_pure b4 (Nat.le_refl _)
  replace o_x0 := Own.keep rIntV o_x0 b4 (by omega)
  go_wp2_with (fail)
  refine (toIntS_c _ _ _ (hx0.keep bb4) (by omega)).mono ?_
  rintro e w5 ⟨v_y0, rfl, o_y0, b5⟩
  have s5 : w4.heap.size ≤ w5.heap.size := b5.size
  have bb5 := bb4.trans_pure b5 (Nat.le_refl _)
  replace o_x0 := Own.keep rIntV o_x0 b5 (by omega)
  go_wp2_with (fail)
  refine (eqIntS_c _ _ _ _ _ o_x0.ints o_y0.ints).mono ?_
  rintro e w6 ⟨rfl, b6⟩
  have s6 : w5.heap.size ≤ w6.heap.size := b6.size
  have bb6 := bb5.trans_pure b6 (Nat.le_refl _)
  replace o_x0 := Own.keep rIntV o_x0 b6 (by omega)
  replace o_y0 := Own.keep rIntV o_y0 b6 (by omega)
  go_wp2_with (fail)
  go_ret
  exact ⟨rfl, bb6⟩
end Go.Proofs.YtadbiefcpjcinaaDoor

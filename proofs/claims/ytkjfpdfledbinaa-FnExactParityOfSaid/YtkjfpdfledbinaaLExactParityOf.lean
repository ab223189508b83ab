/- ParityOf: the walk of the law. -/
import Derived.Test.YtkjfpdfledbinaaC3
namespace Go.Proofs.Ytkjfpdfledbinaa
open Go.RowKit

theorem FnExactParityOf_w {v v2 : Value} {xs ys : List Int} {w : World} (hx : Ints w v xs) (hy : Ints w v2 ys) :
    Calls Try.prog 5 #[v, v2] w fun e w' => e = .returned (.bool true) ∧ Below w.heap.size w w' := by
  obtain ⟨a, cap, rfl, -, -, -, -⟩ := id hx
  obtain ⟨a2, cap2, rfl, -, -, -, -⟩ := id hy
  rcases Nat.lt_or_ge 1048576 xs.length with h1 | h1
  · go_enter Try.func5, Try.ntmps5
    go_wp2
    go_ret
    exact ⟨rfl, Below.refl _ _⟩
  rcases Nat.lt_or_ge 1048576 ys.length with h2 | h2
  · go_enter Try.func5, Try.ntmps5
    go_wp2
    go_ret
    exact ⟨rfl, Below.refl _ _⟩
  go_enter Try.func5, Try.ntmps5
  go_wp2_with (fail)
  refine (toIntS_c _ _ _ hx (by omega)).mono ?_
  rintro e w1 ⟨x1, rfl, o1, b1⟩
  have hx1 := hx.keep b1
  have hy1 := hy.keep b1
  go_wp2_with (fail)
  refine (toIntS_c _ _ _ hy1 (by omega)).mono ?_
  rintro e w2 ⟨y1, rfl, p1, b2⟩
  have bb2 := b1.trans_pure b2 (Nat.le_refl _)
  go_wp2_with (fail)
  refine (ParityOf_s _ _ _ _ _ (o1.ints.keep b2) p1.ints).mono ?_
  rintro e w' ⟨rfl, rfl⟩
  go_wp2_with (fail)
  refine (toIntS_c _ _ _ (hx.keep bb2) (by omega)).mono ?_
  rintro e w3 ⟨x2, rfl, o2, b3⟩
  have bb3 := bb2.trans_pure b3 (Nat.le_refl _)
  go_wp2_with (fail)
  refine (toIntS_c _ _ _ (hy.keep bb3) (by omega)).mono ?_
  rintro e w4 ⟨y2, rfl, p2, b4⟩
  have bb4 := bb3.trans_pure b4 (Nat.le_refl _)
  go_wp2_with (fail)
  refine (ParityOf_i _ _ _ _ _ (o2.ints.keep b4) p2.ints).mono ?_
  rintro e w' ⟨rfl, rfl⟩
  go_wp2_with (fail)
  refine (toIntS_c _ _ _ (hx.keep bb4) (by omega)).mono ?_
  rintro e w5 ⟨x3, rfl, o3, b5⟩
  have bb5 := bb4.trans_pure b5 (Nat.le_refl _)
  go_wp2_with (fail)
  refine (eqIntS_c _ _ _ _ _ ((o2.ints.keep b4).keep b5) o3.ints).mono ?_
  rintro e w6 ⟨rfl, b6⟩
  have bb6 := bb5.trans_pure b6 (Nat.le_refl _)
  go_wp2_with (fail)
  refine (toIntS_c _ _ _ (hy.keep bb6) (by omega)).mono ?_
  rintro e w7 ⟨y3, rfl, p3, b7⟩
  have bb7 := bb6.trans_pure b7 (Nat.le_refl _)
  go_wp2_with (fail)
  refine (eqIntS_c _ _ _ _ _ (((p2.ints.keep b5).keep b6).keep b7) p3.ints).mono ?_
  rintro e w8 ⟨rfl, b8⟩
  have bb8 := bb7.trans_pure b8 (Nat.le_refl _)
  go_wp2_with (fail)
  go_ret
  exact ⟨rfl, bb8⟩
end Go.Proofs.Ytkjfpdfledbinaa

/- RunsOf: the walk of the law. -/
import Derived.Test.YtkjfpdfledbinaaC3
namespace Go.Proofs.Ytkjfpdfledbinaa
open Go.RowKit

set_option maxHeartbeats 1000000 in
theorem FnExactRunsOf_w {v : Value} {xs : List Int} {w : World} (hx : Ints w v xs) :
    Calls Try.prog 4 #[v] w fun e w' => e = .returned (.bool true) ∧ Below w.heap.size w w' := by
  obtain ⟨a, cap, rfl, -, -, -, -⟩ := id hx
  rcases Nat.lt_or_ge 1048576 xs.length with h1 | h1
  · go_enter Try.func4, Try.ntmps4
    go_wp2
    go_ret
    exact ⟨rfl, Below.refl _ _⟩
  have hr := runsOf_len xs
  go_enter Try.func4, Try.ntmps4
  go_wp2_with (fail)
  refine (toIntS_c _ _ _ hx (by omega)).mono ?_
  rintro e w1 ⟨x1, rfl, o1, b1⟩
  have s1 := b1.size
  go_wp2_with (fail)
  refine (RunsOf_s _ _ _ o1.ints (by omega)).mono ?_
  rintro e w2 ⟨r2, rfl, o2, b2⟩
  have s2 := b2.size
  have bb2 := b1.trans_pure b2 (Nat.le_refl _)
  go_wp2_with (fail)
  refine (toIntS_c _ _ _ (hx.keep bb2) (by omega)).mono ?_
  rintro e w3 ⟨x3, rfl, o3, b3⟩
  have s3 := b3.size
  have bb3 := bb2.trans_pure b3 (Nat.le_refl _)
  replace o2 := Own.keep rIntV o2 b3 (Nat.le_refl _)
  go_wp2_with (fail)
  refine (RunsOf_i _ _ _ o3.ints (by omega)).mono ?_
  rintro e w4 ⟨g4, rfl, o4, b4⟩
  have s4 := b4.size
  have bb4 := bb3.trans_pure b4 (Nat.le_refl _)
  replace o2 := Own.keep rIntV o2 b4 (by omega)
  replace o3 := Own.keep rIntV o3 b4 (by omega)
  go_wp2_with (fail)
  refine (eqIntS_c _ _ _ _ _ o4.ints o2.ints).mono ?_
  rintro e w5 ⟨rfl, b5⟩
  have s5 := b5.size
  have bb5 := bb4.trans_pure b5 (Nat.le_refl _)
  replace o2 := Own.keep rIntV o2 b5 (by omega)
  replace o3 := Own.keep rIntV o3 b5 (by omega)
  replace o4 := Own.keep rIntV o4 b5 (by omega)
  go_wp2_with (fail)
  refine (toIntS_c _ _ _ (hx.keep bb5) (by omega)).mono ?_
  rintro e w6 ⟨x6, rfl, o6, b6⟩
  have s6 := b6.size
  have bb6 := bb5.trans_pure b6 (Nat.le_refl _)
  replace o2 := Own.keep rIntV o2 b6 (by omega)
  replace o3 := Own.keep rIntV o3 b6 (by omega)
  replace o4 := Own.keep rIntV o4 b6 (by omega)
  go_wp2_with (fail)
  refine (eqIntS_c _ _ _ _ _ o3.ints o6.ints).mono ?_
  rintro e w7 ⟨rfl, b7⟩
  have s7 := b7.size
  have bb7 := bb6.trans_pure b7 (Nat.le_refl _)
  replace o2 := Own.keep rIntV o2 b7 (by omega)
  replace o3 := Own.keep rIntV o3 b7 (by omega)
  replace o4 := Own.keep rIntV o4 b7 (by omega)
  go_wp2_with (fail)
  refine (markIntS_c _ _ _ _ _ o3 (by omega) (by omega) (by omega)).mono ?_
  rintro e w8 ⟨rfl, o8, n8, z8⟩
  have s8 : w7.heap.size ≤ w8.heap.size := n8.size
  have Z8 := Lib.hid z8; clear z8
  replace o2 := Own.only rIntV o2 n8 (fun b hb => by have := hb.2; omega) (fun b hb hc => by have := hb.2; have := hc.1; omega)
  replace o4 := Own.only rIntV o4 n8 (fun b hb => by have := hb.2; omega) (fun b hb hc => by have := hb.1; have := hc.2; omega)
  have bb8 : Below w.heap.size w w8 := bb7.trans (n8.below (by omega) (fun b hb => by have := hb.1; omega))
  go_wp2_with (fail)
  refine (eqIntS_c _ _ _ _ _ o4.ints o2.ints).mono ?_
  rintro e w9 ⟨rfl, b9⟩
  have s9 := b9.size
  have bb9 := bb8.trans_pure b9 (Nat.le_refl _)
  replace o2 := Own.keep rIntV o2 b9 (by omega)
  replace o4 := Own.keep rIntV o4 b9 (by omega)
  go_wp2_with (fail)
  refine (markIntS_c _ _ _ _ _ o4 (by omega) (by omega) (by omega)).mono ?_
  rintro e w10 ⟨rfl, o10, n10, z10⟩
  have s10 : w9.heap.size ≤ w10.heap.size := n10.size
  have Z10 := Lib.hid z10; clear z10
  replace o2 := Own.only rIntV o2 n10 (fun b hb => by have := hb.2; omega) (fun b hb hc => by have := hb.2; have := hc.1; omega)
  have bb10 : Below w.heap.size w w10 := bb9.trans (n10.below (by omega) (fun b hb => by have := hb.1; omega))
  go_wp2_with (fail)
  refine (heldIntS_c _ _ _ _ o10.ints (by omega) (by omega) (by omega)).mono ?_
  rintro e w' ⟨rfl, rfl⟩
  go_wp2_with (fail)
  refine (toIntS_c _ _ _ (hx.keep bb10) (by omega)).mono ?_
  rintro e w11 ⟨x11, rfl, o11, b11⟩
  have s11 := b11.size
  have bb11 := bb10.trans_pure b11 (Nat.le_refl _)
  replace o2 := Own.keep rIntV o2 b11 (by omega)
  replace o10 := Own.keep rIntV o10 b11 (by omega)
  go_wp2_with (fail)
  refine (RunsOf_i _ _ _ o11.ints (by omega)).mono ?_
  rintro e w12 ⟨h12, rfl, o12, b12⟩
  have s12 := b12.size
  have bb12 := bb11.trans_pure b12 (Nat.le_refl _)
  replace o2 := Own.keep rIntV o2 b12 (by omega)
  replace o10 := Own.keep rIntV o10 b12 (by omega)
  go_wp2_with (fail)
  refine (eqIntS_c _ _ _ _ _ o12.ints o2.ints).mono ?_
  rintro e w13 ⟨rfl, b13⟩
  have s13 := b13.size
  have bb13 := bb12.trans_pure b13 (Nat.le_refl _)
  replace o10 := Own.keep rIntV o10 b13 (by omega)
  go_wp2_with (fail)
  refine (heldIntS_c _ _ _ _ o10.ints (by omega) (by omega) (by omega)).mono ?_
  rintro e w' ⟨rfl, rfl⟩
  go_wp2_with (fail)
  go_ret
  exact ⟨rfl, bb13⟩
end Go.Proofs.Ytkjfpdfledbinaa

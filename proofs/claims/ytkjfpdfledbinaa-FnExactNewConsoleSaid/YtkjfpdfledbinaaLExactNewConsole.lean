/- NewConsole: the walk of the law. -/
import Derived.Test.YtkjfpdfledbinaaC5
namespace Go.Proofs.Ytkjfpdfledbinaa
open Go.RowKit

set_option maxHeartbeats 1000000 in
theorem FnExactNewConsole_w (w : World) : Calls Try.prog 6 #[] w fun e w' => e = .returned (.bool true) ∧ Below w.heap.size w w' := by
  go_enter Try.func6, Try.ntmps6
  go_wp2_with (fail)
  refine (NewConsole_spec.NewConsole _).mono ?_
  rintro e w1 ⟨a1, c1, d1, rfl, o1, b1⟩
  have s1 := b1.size
  obtain ⟨⟨p1, p2, p3, rfl⟩, ⟨p4, p5, p6, rfl⟩, ⟨p7, p8, p9, rfl⟩⟩ := o1.shape
  go_wp2_with (fail)
  obtain ⟨W1, hW1⟩ : ∃ W, W = w1.alloc (.cells #[.slice p1 p2 p3, .slice p4 p5 p6, .slice p7 p8 p9] 30) := ⟨_, rfl⟩
  rw [← hW1]
  have x1 : Box3 W1 w1.heap.size (.slice p1 p2 p3) (.slice p4 p5 p6) (.slice p7 p8 p9) := by rw [hW1]; exact Box3.new _ _ _ _ _
  have c1 : Below w1.heap.size w1 W1 := by rw [hW1]; exact Below.pureAlloc _ _
  have z1 : w1.heap.size < W1.heap.size := x1.2.2.2
  have bb1 := b1.trans_pure c1 (Nat.le_refl _)
  replace o1 := o1.keep c1 (Nat.le_refl _)
  clear hW1
  refine (NewConsole_impl.NewConsole _).mono ?_
  rintro e w2 ⟨a2, c2, d2, rfl, o2, b2⟩
  have s2 := b2.size
  obtain ⟨⟨q1, q2, q3, rfl⟩, ⟨q4, q5, q6, rfl⟩, ⟨q7, q8, q9, rfl⟩⟩ := o2.shape
  have bb2 := bb1.trans_pure b2 (Nat.le_refl _)
  replace o1 := o1.keep b2 (by omega)
  replace x1 := x1.keep b2
  go_wp2_with (fail)
  obtain ⟨W2, hW2⟩ : ∃ W, W = w2.alloc (.cells #[.slice q1 q2 q3, .slice q4 q5 q6, .slice q7 q8 q9] 30) := ⟨_, rfl⟩
  rw [← hW2]
  have x2 : Box3 W2 w2.heap.size (.slice q1 q2 q3) (.slice q4 q5 q6) (.slice q7 q8 q9) := by rw [hW2]; exact Box3.new _ _ _ _ _
  have c2 : Below w2.heap.size w2 W2 := by rw [hW2]; exact Below.pureAlloc _ _
  have z2 : w2.heap.size < W2.heap.size := x2.2.2.2
  replace bb2 := bb2.trans_pure c2 (Nat.le_refl _)
  replace o1 := o1.keep c2 (by omega)
  replace o2 := o2.keep c2 (Nat.le_refl _)
  replace x1 := x1.keep c2
  clear hW2
  refine (eqConsole_c _ _ _ _ _ _ _ _ _ _ _ _ _ o2.reads.1 o2.reads.2.1 o2.reads.2.2 o1.reads.1 o1.reads.2.1 o1.reads.2.2).mono ?_
  rintro e w3 ⟨rfl, b3⟩
  have s3 := b3.size
  have bb3 := bb2.trans_pure b3 (Nat.le_refl _)
  replace o1 := o1.keep b3 (by omega)
  replace o2 := o2.keep b3 (by omega)
  replace x1 := x1.keep b3
  replace x2 := x2.keep b3
  go_wp2_with (fail)
  refine (markConsole_c _ _ _ _ _ _ _ _ _ o2 (fun x hx => by have := hx.2; omega) (by decide) (by decide) (by decide) (by decide) (by decide) (by decide)).mono ?_
  rintro e w4 ⟨rfl, o4, n4⟩
  have s4 : w3.heap.size ≤ w4.heap.size := n4.size
  replace o1 := o1.only n4 (fun b hb => by have := hb.2; omega) (fun b hb hc => by have := hb.2; have := hc.1; omega)
  replace x1 := x1.only n4 (fun hc => by have := hc.1; omega)
  replace x2 := x2.only n4 (fun hc => by have := hc.2; omega)
  have bb4 : Below w.heap.size w w4 := bb3.trans (n4.below (by omega) (fun b hb => by have := hb.1; omega))
  go_wp2_with (fail)
  refine (heldConsole_c _ _ _ [[0]] 1 1 _ _ o4.reads.1 o4.reads.2.1 o4.reads.2.2 (by decide) (by decide) (by decide) (by decide) (by decide) (by decide)).mono ?_
  rintro e w5 ⟨rfl, b5⟩
  have s5 := b5.size
  have bb5 := bb4.trans_pure b5 (Nat.le_refl _)
  replace o1 := o1.keep b5 (by omega)
  replace o4 := o4.keep b5 (by omega)
  replace x1 := x1.keep b5
  replace x2 := x2.keep b5
  have hcells : (cells [[0]] : Nat) = 1 := rfl
  simp only [hcells]
  clear hcells
  go_wp2_with (fail)
  refine (NewConsole_impl.NewConsole _).mono ?_
  rintro e w6 ⟨a6, c6, d6, rfl, o6, b6⟩
  have s6 := b6.size
  obtain ⟨⟨r1, r2, r3, rfl⟩, ⟨r4, r5, r6, rfl⟩, ⟨r7, r8, r9, rfl⟩⟩ := o6.shape
  have bb6 := bb5.trans_pure b6 (Nat.le_refl _)
  replace o1 := o1.keep b6 (by omega)
  replace o4 := o4.keep b6 (by omega)
  replace x1 := x1.keep b6
  replace x2 := x2.keep b6
  go_wp2_with (fail)
  obtain ⟨W6, hW6⟩ : ∃ W, W = w6.alloc (.cells #[.slice r1 r2 r3, .slice r4 r5 r6, .slice r7 r8 r9] 30) := ⟨_, rfl⟩
  rw [← hW6]
  have x6 : Box3 W6 w6.heap.size (.slice r1 r2 r3) (.slice r4 r5 r6) (.slice r7 r8 r9) := by rw [hW6]; exact Box3.new _ _ _ _ _
  have c6 : Below w6.heap.size w6 W6 := by rw [hW6]; exact Below.pureAlloc _ _
  have z6 : w6.heap.size < W6.heap.size := x6.2.2.2
  replace bb6 := bb6.trans_pure c6 (Nat.le_refl _)
  replace o1 := o1.keep c6 (by omega)
  replace o4 := o4.keep c6 (by omega)
  replace o6 := o6.keep c6 (Nat.le_refl _)
  replace x1 := x1.keep c6
  replace x2 := x2.keep c6
  clear hW6
  refine (eqConsole_c _ _ _ _ _ _ _ _ _ _ _ _ _ o6.reads.1 o6.reads.2.1 o6.reads.2.2 o1.reads.1 o1.reads.2.1 o1.reads.2.2).mono ?_
  rintro e w7 ⟨rfl, b7⟩
  have s7 := b7.size
  have bb7 := bb6.trans_pure b7 (Nat.le_refl _)
  replace o4 := o4.keep b7 (by omega)
  replace x2 := x2.keep b7
  go_wp2_with (fail)
  refine (heldConsole_c _ _ _ [[0]] 1 1 _ _ o4.reads.1 o4.reads.2.1 o4.reads.2.2 (by decide) (by decide) (by decide) (by decide) (by decide) (by decide)).mono ?_
  rintro e w8 ⟨rfl, b8⟩
  have bb8 := bb7.trans_pure b8 (Nat.le_refl _)
  have hcells : (cells [[0]] : Nat) = 1 := rfl
  simp only [hcells]
  clear hcells
  go_wp2_with (fail)
  go_ret
  exact ⟨rfl, bb8⟩
end Go.Proofs.Ytkjfpdfledbinaa

/- PuzzleLine: the walk of the law. -/
import Derived.Test.YtliejhmlcdjpcaaDoorW6
import Derived.Test.YtliejhmlcdjpcaaDoorC24
import Derived.RegionTactic
import Derived.BigRegion
import Derived.Deep.RegionWith
namespace Go.Proofs.YtliejhmlcdjpcaaDoor
open Go.RowKit

theorem below_drew {B : Nat} {a w : World} (h : Below B a w) : Below B a w.drew := h.trans ⟨rfl, rfl, rfl, Nat.le_refl _, fun _ _ => rfl⟩
theorem leftPz_bd {x y : List (List Int)} (h : ¬ leftPz x y 1048576 < 0) : x.length ≤ 1048576 ∧ cells x ≤ 1048576 ∧ y.length ≤ 1048576 ∧ cells y ≤ 1048576 := by
  unfold leftPz at h
  split at h
  · omega
  · rename_i h1
    unfold leftOf at h h1
    split at h1
    · rename_i h2
      rw [if_pos h2] at h
      split at h
      · rename_i h3
        unfold bulk at h2 h3
        omega
      · omega
    · omega
theorem le_sum_of {l : List Nat} {a : Nat} (h : a ∈ l) : a ≤ l.sum := by
  induction l with
  | nil => simp at h
  | cons b l ih =>
    rcases List.mem_cons.1 h with rfl | h
    · simp
    · have := ih h
      simp; omega
theorem row_le_cells {x : List (List Int)} : ∀ r ∈ x, r.length ≤ cells x := by
  intro r hr
  unfold cells
  exact le_sum_of (List.mem_map_of_mem hr)

set_option maxRecDepth 100000 in
set_option maxHeartbeats 1000000 in
theorem FnExactPuzzleLine_w {w : World} {v0 : Value} {x y : List (List Int)} (hv : ∃ a b, v0 = .agg #[a, b] ∧ Grid w a x ∧ Grid w b y) (ht : Tab w) :
    Calls Tryd.prog 6 #[v0] w fun e w' => e = .returned (.bool true) ∧ Below w.heap.size w w' := by
  obtain ⟨a, b, rfl, h1, h2⟩ := hv
  obtain ⟨aa, ca, rfl, -⟩ := id h1
  obtain ⟨ab, cb, rfl, -⟩ := id h2
  go_enter Tryd.func6, Tryd.ntmps6
  go_wp2_with (fail)
  have B1 := Blk.new w #[.slice aa x.length ca, .slice ab y.length cb] 53
  have b1 := Below.pureAlloc w (.cells #[.slice aa x.length ca, .slice ab y.length cb] 53)
  obtain ⟨W1, hW1⟩ : ∃ W, W = w.alloc (.cells #[.slice aa x.length ca, .slice ab y.length cb] 53) := ⟨_, rfl⟩
  rw [← hW1] at B1 b1 ⊢
  clear hW1
  have s1 : w.heap.size ≤ W1.heap.size := b1.size
  refine (szPuzzle_c _ _ _ _ _ _ (h1.keep b1) (h2.keep b1) (by decide) (by decide)).mono ?_
  rintro e w2 ⟨rfl, hw2⟩
  have b2 : Below W1.heap.size W1 w2 := by rw [hw2]; exact Below.pureAlloc _ _
  clear hw2
  have s2 : W1.heap.size ≤ w2.heap.size := b2.size
  replace B1 := B1.keep b2
  have bb2 := b1.trans_pure b2 (Nat.le_refl _)
  by_cases hneg : leftPz x y 1048576 < 0
  · go_wp2
    go_ret
    exact ⟨rfl, bb2⟩
  obtain ⟨hx, hcx, hy, hcy⟩ := leftPz_bd hneg
  have hlx : ∀ r ∈ x, r.length ≤ 1048576 := fun r hr => Nat.le_trans (row_le_cells r hr) hcx
  have hly : ∀ r ∈ y, r.length ≤ 1048576 := fun r hr => Nat.le_trans (row_le_cells r hr) hcy
  have Hlx := Lib.hid hlx
  have Hly := Lib.hid hly
  clear hlx hly
  have c10 : w2.cell? ⟨w.heap.size, 0, none⟩ = some (.slice aa x.length ca) := B1.cell 0
  have c11 : w2.cell? ⟨w.heap.size, 1, none⟩ = some (.slice ab y.length cb) := B1.cell 1
  go_wp2_with (fail)
  refine (toPuzzle_c _ _ _ _ _ (h1.keep bb2) (h2.keep bb2) hx hcx hy hcy).mono ?_
  rintro e w3 ⟨a3, b3', rfl, o3, b3⟩
  have s3 : w2.heap.size ≤ w3.heap.size := b3.size
  replace B1 := B1.keep b3
  have bb3 := bb2.trans_pure b3 (Nat.le_refl _)
  go_wp2_with (fail)
  refine (PuzzleLine_s _ _ _ _ _ o3.reads.1 o3.reads.2 Hlx.out Hly.out (ht.keep bb3)).mono ?_
  rintro e w4 ⟨rfl, b4⟩
  have s4 : w3.heap.size ≤ w4.heap.size := b4.size
  replace B1 := B1.keep b4
  have bb4 := bb3.trans_pure b4 (Nat.le_refl _)
  clear c10 c11
  have c10 : w4.cell? ⟨w.heap.size, 0, none⟩ = some (.slice aa x.length ca) := B1.cell 0
  have c11 : w4.cell? ⟨w.heap.size, 1, none⟩ = some (.slice ab y.length cb) := B1.cell 1
  go_wp2_with (fail)
  refine (toPuzzle_c _ _ _ _ _ (h1.keep bb4) (h2.keep bb4) hx hcx hy hcy).mono ?_
  rintro e w5 ⟨a5, b5', rfl, o5, b5⟩
  have s5 : w4.heap.size ≤ w5.heap.size := b5.size
  obtain ⟨⟨p1, p2, p3, rfl⟩, ⟨q1, q2, q3, rfl⟩⟩ := o5.shape
  replace B1 := B1.keep b5
  have bb5 := bb4.trans_pure b5 (Nat.le_refl _)
  go_wp2_with (fail)
  have B5 := Blk.new w5 #[.slice p1 p2 p3, .slice q1 q2 q3] 56
  have b6 := Below.pureAlloc w5 (.cells #[.slice p1 p2 p3, .slice q1 q2 q3] 56)
  obtain ⟨W6, hW6⟩ : ∃ W, W = w5.alloc (.cells #[.slice p1 p2 p3, .slice q1 q2 q3] 56) := ⟨_, rfl⟩
  rw [← hW6] at B5 b6 ⊢
  clear hW6
  have s6 : w5.heap.size ≤ W6.heap.size := b6.size
  replace B1 := B1.keep b6
  replace o5 := o5.keep b6 (Nat.le_refl _)
  have bb6 := bb5.trans_pure b6 (Nat.le_refl _)
  refine (PuzzleLine_i _ _ _ _ _ o5.reads.1 o5.reads.2 Hlx.out Hly.out (ht.keep bb6)).mono ?_
  rintro e w7 ⟨rfl, b7⟩
  have s7 : W6.heap.size ≤ w7.heap.size := b7.size
  replace B1 := B1.keep b7
  replace B5 := B5.keep b7
  replace o5 := o5.keep b7 (by omega)
  have bb7 := bb6.trans_pure b7 (Nat.le_refl _)
  clear c10 c11
  have c10 : w7.cell? ⟨w.heap.size, 0, none⟩ = some (.slice aa x.length ca) := B1.cell 0
  have c11 : w7.cell? ⟨w.heap.size, 1, none⟩ = some (.slice ab y.length cb) := B1.cell 1
  have c50 : w7.cell? ⟨w5.heap.size, 0, none⟩ = some (.slice p1 p2 p3) := B5.cell 0
  have c51 : w7.cell? ⟨w5.heap.size, 1, none⟩ = some (.slice q1 q2 q3) := B5.cell 1
  have hl1 := B1.lt
  have hl5 := B5.lt
  have H1 : Grid w7.drew (.slice aa x.length ca) x := h1.keep (w' := w7.drew) (below_drew bb7)
  have H2 : Grid w7.drew (.slice ab y.length cb) y := h2.keep (w' := w7.drew) (below_drew bb7)
  have bd : Below w7.heap.size w7 w7.drew := below_drew (Below.refl _ _)
  have B5d : Blk w7.drew w5.heap.size #[.slice p1 p2 p3, .slice q1 q2 q3] 56 := B5.keep bd
  have o5d : OwnPz w4.heap.size w5.heap.size w7.drew (.slice p1 p2 p3) (.slice q1 q2 q3) x y := o5.keep bd (by omega)
  have z7 : w5.heap.size ≤ w7.drew.heap.size := by have := bd.size; omega
  have bb8 : Below w.heap.size w w7.drew := below_drew bb7
  clear h1 h2 B5 o5 bd B1
  go_wp2
  go_region_with (first | (go_at_call 40; refine (toPuzzle_c _ _ _ _ w7.drew H1 H2 hx hcx hy hcy).mono ?_; rintro e w8 ⟨a8, b8', rfl, o8, b8⟩; have c80 := (B5d.keep b8).cell 0; have c81 := (B5d.keep b8).cell 1) | (go_at_call 42; refine (eqPuzzle_c _ _ _ _ _ _ _ _ w8 (o5d.keep b8 z7).reads.1 (o5d.keep b8 z7).reads.2 o8.reads.1 o8.reads.2).mono ?_; rintro e w9 ⟨rfl, n9, rfl⟩))
  all_goals
    have bb9 := ((bb8.trans_pure b8 (Nat.le_refl _)).trans_pure (Below.pureAlloc w8 (.cells #[.slice p1 p2 p3, .slice q1 q2 q3] 56)) (Nat.le_refl _)).trans_pure (Below.pureAlloc _ (.cells #[a8, b8'] 56)) (Nat.le_refl _)
    go_wp2
    go_ret
    exact ⟨rfl, below_drewN bb9 _⟩
end Go.Proofs.YtliejhmlcdjpcaaDoor

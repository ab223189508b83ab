/- SolvePuzzle: the walk of the law. -/
import Derived.Test.YtekgnpdchpdfiaaS7
import Derived.Test.YtekgnpdchpdfiaaC24
import Derived.Deep.DeepCutAuto
import Derived.RegionTactic
import Derived.BigRegion
import Derived.Deep.RegionWith
namespace Go.Proofs.Ytekgnpdchpdfiaa
open Go.RowKit

theorem below_drew {B : Nat} {a w : World} (h : Below B a w) : Below B a w.drew := h.trans ⟨rfl, rfl, rfl, Nat.le_refl _, fun _ _ => rfl⟩
theorem leftPz_bd {x y : List (List Int)} (h : ¬ leftPz x y 1048576 < 0) : x.length ≤ 1048576 ∧ cells x ≤ 1048576 ∧ y.length ≤ 1048576 ∧ cells y ≤ 1048576 := by
  unfold leftPz at h
  split at h
  · omega
  · rename_i h1
    unfold leftOf at h h1
    split at h1
    · rename_i h2
      rw [if_pos h2] at h
      split at h
      · rename_i h3
        unfold bulk at h2 h3
        omega
      · omega
    · omega
theorem leftPz_bd1 {x y : List (List Int)} (h : ¬ leftPz x y 1048576 < 0) : 1 + (cells x : Int) ≤ 1048576 := by
  unfold leftPz at h
  split at h
  · omega
  · rename_i h1
    unfold leftOf at h1
    split at h1
    · rename_i h2
      unfold bulk at h2
      cases x with
      | nil => simp [cells]
      | cons a x => rw [List.length_cons] at h2; omega
    · omega
theorem le_sum_of {l : List Nat} {a : Nat} (h : a ∈ l) : a ≤ l.sum := by
  induction l with
  | nil => simp at h
  | cons b l ih =>
    rcases List.mem_cons.1 h with rfl | h
    · simp
    · have := ih h
      simp; omega
theorem row_le_cells {x : List (List Int)} : ∀ r ∈ x, r.length ≤ cells x := by
  intro r hr
  unfold cells
  exact le_sum_of (List.mem_map_of_mem hr)

set_option maxRecDepth 100000 in
set_option maxHeartbeats 4000000 in
theorem FnExactSolvePuzzle_w {w : World} {v0 : Value} {x y : List (List Int)} (hv : ∃ a b, v0 = .agg #[a, b] ∧ Grid w a x ∧ Grid w b y) :
    Calls Try.prog 5 #[v0] w fun e w' => e = .returned (.bool true) ∧ Below w.heap.size w w' := by
  obtain ⟨a, b, rfl, h1, h2⟩ := hv
  obtain ⟨aa, ca, rfl, -⟩ := id h1
  obtain ⟨ab, cb, rfl, -⟩ := id h2
  go_enter Try.func5, Try.ntmps5
  go_wp2_with (fail)
  have B1 := Blk.new w #[.slice aa x.length ca, .slice ab y.length cb] 24
  have b1 := Below.pureAlloc w (.cells #[.slice aa x.length ca, .slice ab y.length cb] 24)
  obtain ⟨W1, hW1⟩ : ∃ W, W = w.alloc (.cells #[.slice aa x.length ca, .slice ab y.length cb] 24) := ⟨_, rfl⟩
  rw [← hW1] at B1 b1 ⊢
  clear hW1
  have s1 : w.heap.size ≤ W1.heap.size := b1.size
  have hlt1 : w.heap.size < W1.heap.size := B1.lt
  refine (szPuzzle_c _ _ _ _ _ _ (h1.keep b1) (h2.keep b1) (by decide) (by decide)).mono ?_
  rintro e w2 ⟨rfl, hw2⟩
  have b2 : Below W1.heap.size W1 w2 := by rw [hw2]; exact Below.pureAlloc _ _
  clear hw2
  have s2 : W1.heap.size ≤ w2.heap.size := b2.size
  replace B1 := B1.keep b2
  have bb2 := b1.trans_pure b2 (Nat.le_refl _)
  by_cases hneg : leftPz x y 1048576 < 0
  · go_wp2
    go_ret
    exact ⟨rfl, bb2⟩
  obtain ⟨hx, hcx, hy, hcy⟩ := leftPz_bd hneg
  have hcx1 := leftPz_bd1 hneg
  have hlx : ∀ r ∈ x, r.length ≤ 1048576 := fun r hr => Nat.le_trans (row_le_cells r hr) hcx
  have hly : ∀ r ∈ y, r.length ≤ 1048576 := fun r hr => Nat.le_trans (row_le_cells r hr) hcy
  have Hlx := Lib.hid hlx
  have Hly := Lib.hid hly
  clear hlx hly
  have c10 : w2.cell? ⟨w.heap.size, 0, none⟩ = some (.slice aa x.length ca) := B1.cell 0
  have c11 : w2.cell? ⟨w.heap.size, 1, none⟩ = some (.slice ab y.length cb) := B1.cell 1
  go_wp2_with (fail)
  refine (toPuzzle_c _ _ _ _ _ (h1.keep bb2) (h2.keep bb2) hx hcx hy hcy).mono ?_
  rintro e w3 ⟨a3, b3', rfl, o3, b3⟩
  have s3 : w2.heap.size ≤ w3.heap.size := b3.size
  replace B1 := B1.keep b3
  have bb3 := bb2.trans_pure b3 (Nat.le_refl _)
  obtain ⟨zl, zc, zr⟩ := solutions_bd x y
  clear c10 c11
  go_wp2_with (fail)
  refine (SolvePuzzle_s _ _ x y _ o3.reads.1 o3.reads.2).mono ?_
  rintro e w4 ⟨v4, rfl, oW, b4⟩
  have s4 : w3.heap.size ≤ w4.heap.size := b4.size
  replace B1 := B1.keep b4
  have bb4 := bb3.trans_pure b4 (Nat.le_refl _)
  obtain ⟨z1, z2, z3, rfl⟩ := oW.shape
  have c10 : w4.cell? ⟨w.heap.size, 0, none⟩ = some (.slice aa x.length ca) := B1.cell 0
  have c11 : w4.cell? ⟨w.heap.size, 1, none⟩ = some (.slice ab y.length cb) := B1.cell 1
  go_wp2_with (fail)
  refine (toPuzzle_c _ _ _ _ _ (h1.keep bb4) (h2.keep bb4) hx hcx hy hcy).mono ?_
  rintro e w5 ⟨a5, b5', rfl, o5, b5⟩
  have s5 : w4.heap.size ≤ w5.heap.size := b5.size
  obtain ⟨⟨p1, p2, p3, rfl⟩, ⟨q1, q2, q3, rfl⟩⟩ := o5.shape
  replace B1 := B1.keep b5
  replace oW := Own.keep (rOwn (rOwn rIntV)) oW b5 (by omega)
  have bb5 := bb4.trans_pure b5 (Nat.le_refl _)
  clear c10 c11
  have e10 : (w5.alloc (.cells #[.slice p1 p2 p3, .slice q1 q2 q3] 28)).cell? ⟨w.heap.size, 0, none⟩ = some (.slice aa x.length ca) := (B1.keep (Below.pureAlloc w5 _)).cell 0
  have e11 : (w5.alloc (.cells #[.slice p1 p2 p3, .slice q1 q2 q3] 28)).cell? ⟨w.heap.size, 1, none⟩ = some (.slice ab y.length cb) := (B1.keep (Below.pureAlloc w5 _)).cell 1
  go_wp2_with (fail)
  clear e10 e11
  have B5 := Blk.new w5 #[.slice p1 p2 p3, .slice q1 q2 q3] 28
  have b6 := Below.pureAlloc w5 (.cells #[.slice p1 p2 p3, .slice q1 q2 q3] 28)
  obtain ⟨w6, hW6⟩ : ∃ W, W = w5.alloc (.cells #[.slice p1 p2 p3, .slice q1 q2 q3] 28) := ⟨_, rfl⟩
  have zz6 : w6.heap.size = w5.heap.size + 1 := by rw [hW6]; simp
  rw [← hW6] at B5 b6 ⊢
  have s6 : w5.heap.size + 1 ≤ w6.heap.size := by omega
  clear hW6 zz6
  have bb6 := bb5.trans_pure b6 (Nat.le_refl _)
  replace B1 := B1.keep b6
  replace oW := Own.keep (rOwn (rOwn rIntV)) oW b6 (by omega)
  replace o5 := o5.keep b6 (by omega)
  refine (SolvePuzzle_i _ _ x y _ o5.reads.1 o5.reads.2 Hlx.out Hly.out).mono ?_
  rintro e w7 ⟨v7, rfl, oG, b7⟩
  have s7 : w6.heap.size ≤ w7.heap.size := b7.size
  replace B1 := B1.keep b7
  replace oW := Own.keep (rOwn (rOwn rIntV)) oW b7 (by omega)
  replace o5 := o5.keep b7 (by omega)
  replace B5 := B5.keep b7
  have bb7 := bb6.trans_pure b7 (Nat.le_refl _)
  obtain ⟨g1, g2, g3, rfl⟩ := oG.shape
  have c10 : w7.cell? ⟨w.heap.size, 0, none⟩ = some (.slice aa x.length ca) := B1.cell 0
  have c11 : w7.cell? ⟨w.heap.size, 1, none⟩ = some (.slice ab y.length cb) := B1.cell 1
  have c50 : w7.cell? ⟨w5.heap.size, 0, none⟩ = some (.slice p1 p2 p3) := B5.cell 0
  have c51 : w7.cell? ⟨w5.heap.size, 1, none⟩ = some (.slice q1 q2 q3) := B5.cell 1
  go_wp2_with (fail)
  refine (eqIntSSS_c _ _ _ _ _ oG.grids oW.grids).mono ?_
  rintro e w8 ⟨rfl, b8⟩
  have s8 : w7.heap.size ≤ w8.heap.size := b8.size
  replace B1 := B1.keep b8
  replace oW := Own.keep (rOwn (rOwn rIntV)) oW b8 (by omega)
  replace o5 := o5.keep b8 (by omega)
  replace B5 := B5.keep b8
  replace oG := Own.keep (rOwn (rOwn rIntV)) oG b8 (by omega)
  have bb8 := bb7.trans_pure b8 (Nat.le_refl _)
  clear c10 c11 c50 c51
  have H1 : Grid w8.drew (.slice aa x.length ca) x := h1.keep (w' := w8.drew) (below_drew bb8)
  have H2 : Grid w8.drew (.slice ab y.length cb) y := h2.keep (w' := w8.drew) (below_drew bb8)
  have bd : Below w8.heap.size w8 w8.drew := below_drew (Below.refl _ _)
  have B5d : Blk w8.drew w5.heap.size #[.slice p1 p2 p3, .slice q1 q2 q3] 28 := B5.keep bd
  have o5d : OwnPz w4.heap.size w5.heap.size w8.drew (.slice p1 p2 p3) (.slice q1 q2 q3) x y := o5.keep bd (by omega)
  have zd : w5.heap.size ≤ w8.drew.heap.size := by have := bd.size; omega
  have c10 : w8.cell? ⟨w.heap.size, 0, none⟩ = some (.slice aa x.length ca) := B1.cell 0
  have c11 : w8.cell? ⟨w.heap.size, 1, none⟩ = some (.slice ab y.length cb) := B1.cell 1
  have c50 : w8.cell? ⟨w5.heap.size, 0, none⟩ = some (.slice p1 p2 p3) := B5.cell 0
  have c51 : w8.cell? ⟨w5.heap.size, 1, none⟩ = some (.slice q1 q2 q3) := B5.cell 1
  go_upto_region 10 with (fail)
  go_cut [45] (fun s45 wx => s45 = .bool false ∧ Hid (Below w8.heap.size w8 wx))
  case first =>
    go_region_with (first | (go_at_call 11; refine (toPuzzle_c _ _ _ _ w8.drew H1 H2 hx hcx hy hcy).mono ?_; rintro e wa ⟨a8, b8', rfl, o8, b8⟩; have c80 := (B5d.keep b8).cell 0; have c81 := (B5d.keep b8).cell 1) | (go_at_call 14; refine (eqPuzzle_c _ _ _ _ _ _ _ _ wa (o5d.keep b8 zd).reads.1 (o5d.keep b8 zd).reads.2 o8.reads.1 o8.reads.2).mono ?_; rintro e wb ⟨rfl, n9, rfl⟩))
    all_goals
      have bx := (((below_drew (Below.refl w8.heap.size w8)).trans_pure b8 (Nat.le_refl _)).trans_pure (Below.pureAlloc wa (.cells #[.slice p1 p2 p3, .slice q1 q2 q3] 28)) (Nat.le_refl _)).trans_pure (Below.pureAlloc _ (.cells #[a8, b8'] 28)) (Nat.le_refl _)
      go_wp2_with (fail)
      go_meet
      exact ⟨by first | rfl | simp, below_drewN bx _⟩
  case rest =>
  obtain ⟨rfl, hb9⟩ := hcut
  obtain ⟨w9, rfl⟩ : ∃ w9, w9 = wc := ⟨_, rfl⟩
  have b9 := hb9.out
  clear c10 c11 c50 c51 H1 H2 bd B5d o5d zd hb9
  have s9 : w8.heap.size ≤ w9.heap.size := b9.size
  have bb9 := bb8.trans_pure b9 (Nat.le_refl _)
  replace B1 := B1.keep b9
  replace oW := Own.keep (rOwn (rOwn rIntV)) oW b9 (by omega)
  replace o5 := o5.keep b9 (by omega)
  replace B5 := B5.keep b9
  replace oG := Own.keep (rOwn (rOwn rIntV)) oG b9 (by omega)
  have c10 : w9.cell? ⟨w.heap.size, 0, none⟩ = some (.slice aa x.length ca) := B1.cell 0
  have c11 : w9.cell? ⟨w.heap.size, 1, none⟩ = some (.slice ab y.length cb) := B1.cell 1
  have c50 : w9.cell? ⟨w5.heap.size, 0, none⟩ = some (.slice p1 p2 p3) := B5.cell 0
  have c51 : w9.cell? ⟨w5.heap.size, 1, none⟩ = some (.slice q1 q2 q3) := B5.cell 1
  have hlo : w.heap.size < w4.heap.size := by omega
  go_wp2_with (fail)
  clear c10 c11 c50 c51
  refine (markPuzzle_c _ _ x y 1 w4.heap.size w5.heap.size _ o5 (by omega) (by omega) (by omega) (by omega) (by omega) (by omega) (by omega)).mono ?_
  rintro e w10 ⟨rfl, p10, m10⟩
  have s10 : w9.heap.size ≤ w10.heap.size := m10.size
  replace B1 := B1.only m10 (fun hc => by have := hc.1; have := hc.2; omega)
  replace oW := Own.only (rOwn (rOwn rIntV)) oW m10 (fun b hb => by have := hb.2; omega) (fun b hb hc => by have := hb.1; have := hb.2; have := hc.1; have := hc.2; omega)
  replace B5 := B5.only m10 (fun hc => by have := hc.1; have := hc.2; omega)
  replace oG := Own.only (rOwn (rOwn rIntV)) oG m10 (fun b hb => by have := hb.2; omega) (fun b hb hc => by have := hb.1; have := hb.2; have := hc.1; have := hc.2; omega)
  have bb10 : Below w.heap.size w w10 := bb9.trans (m10.below (by omega) (fun b hb => by have := hb.1; omega))
  clear o5
  have o5 := p10; clear p10
  have c10 : w10.cell? ⟨w.heap.size, 0, none⟩ = some (.slice aa x.length ca) := B1.cell 0
  have c11 : w10.cell? ⟨w.heap.size, 1, none⟩ = some (.slice ab y.length cb) := B1.cell 1
  have c50 : w10.cell? ⟨w5.heap.size, 0, none⟩ = some (.slice p1 p2 p3) := B5.cell 0
  have c51 : w10.cell? ⟨w5.heap.size, 1, none⟩ = some (.slice q1 q2 q3) := B5.cell 1
  have hk0 : decide ((1 : Int) + (cells x : Int) + (cells y : Int) < 0) = false := by rw [decide_eq_false_iff_not]; omega
  clear o5
  go_wp2_with (fail)
  clear c10 c11 c50 c51
  refine (eqIntSSS_c _ _ _ _ _ oG.grids oW.grids).mono ?_
  rintro e w11 ⟨rfl, b11⟩
  have s11 : w10.heap.size ≤ w11.heap.size := b11.size
  replace B1 := B1.keep b11
  replace oW := Own.keep (rOwn (rOwn rIntV)) oW b11 (by omega)
  replace B5 := B5.keep b11
  replace oG := Own.keep (rOwn (rOwn rIntV)) oG b11 (by omega)
  have bb11 := bb10.trans_pure b11 (Nat.le_refl _)
  have c10 : w11.cell? ⟨w.heap.size, 0, none⟩ = some (.slice aa x.length ca) := B1.cell 0
  have c11 : w11.cell? ⟨w.heap.size, 1, none⟩ = some (.slice ab y.length cb) := B1.cell 1
  have c50 : w11.cell? ⟨w5.heap.size, 0, none⟩ = some (.slice p1 p2 p3) := B5.cell 0
  have c51 : w11.cell? ⟨w5.heap.size, 1, none⟩ = some (.slice q1 q2 q3) := B5.cell 1
  go_wp2_with (fail)
  clear c10 c11 c50 c51
  refine (markIntSSS_c _ _ _ _ _ oG (fun b hb => by have := hb.2; omega) (by omega) (by omega) (by omega) (by omega) zr).mono ?_
  rintro e w12 ⟨rfl, p12, m12, _⟩
  have s12 : w11.heap.size ≤ w12.heap.size := m12.size
  replace B1 := B1.only m12 (fun hc => by have := hc.1; have := hc.2; omega)
  replace oW := Own.only (rOwn (rOwn rIntV)) oW m12 (fun b hb => by have := hb.2; omega) (fun b hb hc => by have := hb.1; have := hb.2; have := hc.1; have := hc.2; omega)
  replace B5 := B5.only m12 (fun hc => by have := hc.1; have := hc.2; omega)
  have bb12 : Below w.heap.size w w12 := bb11.trans (m12.below (by omega) (fun b hb => by have := hb.1; omega))
  clear oG
  have oG := p12; clear p12
  have c10 : w12.cell? ⟨w.heap.size, 0, none⟩ = some (.slice aa x.length ca) := B1.cell 0
  have c11 : w12.cell? ⟨w.heap.size, 1, none⟩ = some (.slice ab y.length cb) := B1.cell 1
  have c50 : w12.cell? ⟨w5.heap.size, 0, none⟩ = some (.slice p1 p2 p3) := B5.cell 0
  have c51 : w12.cell? ⟨w5.heap.size, 1, none⟩ = some (.slice q1 q2 q3) := B5.cell 1
  go_wp2_with (fail)
  refine (heldIntSSS_c _ _ _ _ oG.grids (by omega) (by omega) (by omega) (by omega) zr).mono ?_
  rintro e w' ⟨rfl, rfl⟩
  go_wp2_with (fail)
  clear c10 c11 c50 c51
  refine (toPuzzle_c _ _ _ _ _ (h1.keep bb12) (h2.keep bb12) hx hcx hy hcy).mono ?_
  rintro e w13 ⟨ah, bh, rfl, oY, b13⟩
  have s13 : w12.heap.size ≤ w13.heap.size := b13.size
  replace B1 := B1.keep b13
  replace oW := Own.keep (rOwn (rOwn rIntV)) oW b13 (by omega)
  replace B5 := B5.keep b13
  replace oG := Own.keep (rOwn (rOwn rIntV)) oG b13 (by omega)
  have bb13 := bb12.trans_pure b13 (Nat.le_refl _)
  have c10 : w13.cell? ⟨w.heap.size, 0, none⟩ = some (.slice aa x.length ca) := B1.cell 0
  have c11 : w13.cell? ⟨w.heap.size, 1, none⟩ = some (.slice ab y.length cb) := B1.cell 1
  have c50 : w13.cell? ⟨w5.heap.size, 0, none⟩ = some (.slice p1 p2 p3) := B5.cell 0
  have c51 : w13.cell? ⟨w5.heap.size, 1, none⟩ = some (.slice q1 q2 q3) := B5.cell 1
  go_wp2_with (fail)
  clear c10 c11 c50 c51
  refine (SolvePuzzle_i _ _ x y _ oY.reads.1 oY.reads.2 Hlx.out Hly.out).mono ?_
  rintro e w14 ⟨vh, rfl, oH, b14⟩
  have s14 : w13.heap.size ≤ w14.heap.size := b14.size
  replace B1 := B1.keep b14
  replace oW := Own.keep (rOwn (rOwn rIntV)) oW b14 (by omega)
  replace B5 := B5.keep b14
  replace oG := Own.keep (rOwn (rOwn rIntV)) oG b14 (by omega)
  have bb14 := bb13.trans_pure b14 (Nat.le_refl _)
  have c10 : w14.cell? ⟨w.heap.size, 0, none⟩ = some (.slice aa x.length ca) := B1.cell 0
  have c11 : w14.cell? ⟨w.heap.size, 1, none⟩ = some (.slice ab y.length cb) := B1.cell 1
  have c50 : w14.cell? ⟨w5.heap.size, 0, none⟩ = some (.slice p1 p2 p3) := B5.cell 0
  have c51 : w14.cell? ⟨w5.heap.size, 1, none⟩ = some (.slice q1 q2 q3) := B5.cell 1
  obtain ⟨f1, f2, f3, rfl⟩ := oH.shape
  go_wp2_with (fail)
  clear c10 c11 c50 c51
  refine (eqIntSSS_c _ _ _ _ _ oH.grids oW.grids).mono ?_
  rintro e w15 ⟨rfl, b15⟩
  have s15 : w14.heap.size ≤ w15.heap.size := b15.size
  replace B1 := B1.keep b15
  replace oW := Own.keep (rOwn (rOwn rIntV)) oW b15 (by omega)
  replace B5 := B5.keep b15
  replace oG := Own.keep (rOwn (rOwn rIntV)) oG b15 (by omega)
  replace oH := Own.keep (rOwn (rOwn rIntV)) oH b15 (by omega)
  have bb15 := bb14.trans_pure b15 (Nat.le_refl _)
  have c10 : w15.cell? ⟨w.heap.size, 0, none⟩ = some (.slice aa x.length ca) := B1.cell 0
  have c11 : w15.cell? ⟨w.heap.size, 1, none⟩ = some (.slice ab y.length cb) := B1.cell 1
  have c50 : w15.cell? ⟨w5.heap.size, 0, none⟩ = some (.slice p1 p2 p3) := B5.cell 0
  have c51 : w15.cell? ⟨w5.heap.size, 1, none⟩ = some (.slice q1 q2 q3) := B5.cell 1
  go_wp2_with (fail)
  refine (heldIntSSS_c _ _ _ _ oG.grids (by omega) (by omega) (by omega) (by omega) zr).mono ?_
  rintro e w' ⟨rfl, rfl⟩
  go_wp2
  go_ret
  exact ⟨rfl, bb15⟩
end Go.Proofs.Ytekgnpdchpdfiaa

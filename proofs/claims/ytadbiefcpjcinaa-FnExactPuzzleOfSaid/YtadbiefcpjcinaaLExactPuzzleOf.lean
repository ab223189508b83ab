/- PuzzleOf: the walk of the law. -/
import Derived.Test.YtadbiefcpjcinaaC24
namespace Go.Proofs.Ytadbiefcpjcinaa
open Go.RowKit

theorem eqPz_below {w w' : World} {o1 o2 : Obj} (h : ∃ n, w' = ((w.alloc o1).alloc o2).drewN n) : Below w.heap.size w w' := by
  obtain ⟨n, h⟩ := h
  rw [h]; exact below_drewN (((Below.refl _ _).alloc (Nat.le_refl _) _).alloc (by simp) _) _
set_option maxRecDepth 100000 in
set_option maxHeartbeats 1600000 in
theorem FnExactPuzzleOf_w {w : World} {v0 : Value} {m : List (List Int)} (hx0 : Grid w v0 m) :
    Calls Try.prog 3 #[v0] w fun e w' => e = .returned (.bool true) ∧ Below w.heap.size w w' := by
  obtain ⟨a0, cap0, rfl, -, -, -, -⟩ := id hx0
  go_enter Try.func3, Try.ntmps3
  go_wp2_with (fail)
  refine (szIntSS_c _ _ _ _ hx0 (by omega) (by omega)).mono ?_
  rintro e w' ⟨rfl, rfl⟩
  rcases Int.lt_or_le (1048576) (bulk m : Nat) with z0 | z0
  · rw [show leftOf (bulk m) (1048576) = -1 from if_neg (by omega)]
    go_wp2
    go_ret
    exact ⟨rfl, Below.refl _ _⟩
  rw [show leftOf (bulk m) (1048576) = 1048576 - (bulk m : Nat) from if_pos (by omega)]
  have zb0 : m.length ≤ 1048576 ∧ cells m ≤ 1048576 := by unfold bulk at z0; omega
  obtain ⟨zl0, zc0⟩ := zb0
  obtain ⟨pb1, pb2, pb3, pb4⟩ := pz_bd m
  obtain ⟨ok, hok⟩ : ∃ ok, ok = imageOk m := ⟨_, rfl⟩
  have Hs : Hid (∀ (v : Value) (w : World), Grid w v m → Calls Try.prog 11 #[v] w (PzRes w (pzRows m) (pzCols m) ok)) := Lib.hid (fun v w h => by rw [hok]; exact PuzzleOf_s v m w h)
  have Hi : Hid (∀ (v : Value) (w : World), Grid w v m → Calls Try.prog 13 #[v] w (PzRes w (pzRows m) (pzCols m) ok)) := Lib.hid (fun v w h => by rw [hok]; exact PuzzleOf_i v m w h)
  clear hok
  go_wp2_with (fail)
  refine (toIntSS_c _ _ _ hx0 zl0 zc0).mono ?_
  rintro e w1 ⟨v1, rfl, o1, b1⟩
  have s1 : w.heap.size ≤ w1.heap.size := b1.size
  go_wp2_with (fail)
  refine (Hs.out _ _ o1.grid).mono ?_
  rintro e w2 ⟨sa, sb, rfl, oS, b2⟩
  have s2 : w1.heap.size ≤ w2.heap.size := b2.size
  have bb2 := b1.trans_pure b2 (Nat.le_refl _)
  obtain ⟨⟨p1, p2, p3, rfl⟩, ⟨q1, q2, q3, rfl⟩⟩ := oS.shape
  clear o1
  have o_S := oS
  clear oS
  go_wp2_with (fail)
  have B_S_box := Blk.new w2 #[.slice p1 p2 p3, .slice q1 q2 q3] 25
  have b3 := Below.pureAlloc w2 (.cells #[.slice p1 p2 p3, .slice q1 q2 q3] 25)
  obtain ⟨w3, hW3⟩ : ∃ W, W = w2.alloc (.cells #[.slice p1 p2 p3, .slice q1 q2 q3] 25) := ⟨_, rfl⟩
  have zz3 : w3.heap.size = w2.heap.size + 1 := by rw [hW3]; simp
  rw [← hW3] at B_S_box b3 ⊢
  have s3 : w2.heap.size + 1 ≤ w3.heap.size := by omega
  clear hW3 zz3
  have bb3 := bb2.trans_pure b3 (Nat.le_refl _)
  replace o_S := o_S.keep b3 (by omega)
  have c_S_box0 : w3.cell? ⟨w2.heap.size, 0, none⟩ = some (.slice p1 p2 p3) := B_S_box.cell 0
  have c_S_box1 : w3.cell? ⟨w2.heap.size, 1, none⟩ = some (.slice q1 q2 q3) := B_S_box.cell 1
  clear c_S_box0 c_S_box1
  refine (toIntSS_c _ _ _ (hx0.keep bb3) zl0 zc0).mono ?_
  rintro e w4 ⟨v4, rfl, o_X, b4⟩
  have s4 : w3.heap.size ≤ w4.heap.size := b4.size
  have bb4 := bb3.trans_pure b4 (Nat.le_refl _)
  replace o_S := o_S.keep b4 (by omega)
  replace B_S_box := B_S_box.keep b4
  have c_S_box0 : w4.cell? ⟨w2.heap.size, 0, none⟩ = some (.slice p1 p2 p3) := B_S_box.cell 0
  have c_S_box1 : w4.cell? ⟨w2.heap.size, 1, none⟩ = some (.slice q1 q2 q3) := B_S_box.cell 1
  go_wp2_with (fail)
  clear c_S_box0 c_S_box1
  refine (Hi.out _ _ o_X.grid).mono ?_
  rintro e w5 ⟨ga, gb, rfl, o_G, b5⟩
  obtain ⟨⟨g1, g2, g3, rfl⟩, ⟨k1, k2, k3, rfl⟩⟩ := o_G.shape
  have s5 : w4.heap.size ≤ w5.heap.size := b5.size
  have bb5 := bb4.trans_pure b5 (Nat.le_refl _)
  replace o_S := o_S.keep b5 (by omega)
  replace B_S_box := B_S_box.keep b5
  replace o_X := Own.keep (rOwn rIntV) o_X b5 (by omega)
  have c_S_box0 : w5.cell? ⟨w2.heap.size, 0, none⟩ = some (.slice p1 p2 p3) := B_S_box.cell 0
  have c_S_box1 : w5.cell? ⟨w2.heap.size, 1, none⟩ = some (.slice q1 q2 q3) := B_S_box.cell 1
  have e_S_box0 : (w5.alloc (.cells #[.slice g1 g2 g3, .slice k1 k2 k3] 25)).cell? ⟨w2.heap.size, 0, none⟩ = some (.slice p1 p2 p3) := (B_S_box.keep (Below.pureAlloc w5 _)).cell 0
  have e_S_box1 : (w5.alloc (.cells #[.slice g1 g2 g3, .slice k1 k2 k3] 25)).cell? ⟨w2.heap.size, 1, none⟩ = some (.slice q1 q2 q3) := (B_S_box.keep (Below.pureAlloc w5 _)).cell 1
  go_wp2_with (fail)
  clear e_S_box0 e_S_box1
  clear c_S_box0 c_S_box1
  have B_G_box := Blk.new w5 #[.slice g1 g2 g3, .slice k1 k2 k3] 25
  have b6 := Below.pureAlloc w5 (.cells #[.slice g1 g2 g3, .slice k1 k2 k3] 25)
  obtain ⟨w6, hW6⟩ : ∃ W, W = w5.alloc (.cells #[.slice g1 g2 g3, .slice k1 k2 k3] 25) := ⟨_, rfl⟩
  have zz6 : w6.heap.size = w5.heap.size + 1 := by rw [hW6]; simp
  rw [← hW6] at B_G_box b6 ⊢
  have s6 : w5.heap.size + 1 ≤ w6.heap.size := by omega
  clear hW6 zz6
  have bb6 := bb5.trans_pure b6 (Nat.le_refl _)
  replace o_S := o_S.keep b6 (by omega)
  replace B_S_box := B_S_box.keep b6
  replace o_X := Own.keep (rOwn rIntV) o_X b6 (by omega)
  replace o_G := o_G.keep b6 (by omega)
  have c_S_box0 : w6.cell? ⟨w2.heap.size, 0, none⟩ = some (.slice p1 p2 p3) := B_S_box.cell 0
  have c_S_box1 : w6.cell? ⟨w2.heap.size, 1, none⟩ = some (.slice q1 q2 q3) := B_S_box.cell 1
  have c_G_box0 : w6.cell? ⟨w5.heap.size, 0, none⟩ = some (.slice g1 g2 g3) := B_G_box.cell 0
  have c_G_box1 : w6.cell? ⟨w5.heap.size, 1, none⟩ = some (.slice k1 k2 k3) := B_G_box.cell 1
  clear c_S_box0 c_S_box1 c_G_box0 c_G_box1
  refine (eqPuzzle_c _ _ _ _ _ _ _ _ _ o_G.reads.1 o_G.reads.2 o_S.reads.1 o_S.reads.2).mono ?_
  rintro e w7 ⟨rfl, heb7⟩
  have b7 := eqPz_below heb7
  clear heb7
  have s7 : w6.heap.size ≤ w7.heap.size := b7.size
  have bb7 := bb6.trans_pure b7 (Nat.le_refl _)
  replace o_S := o_S.keep b7 (by omega)
  replace B_S_box := B_S_box.keep b7
  replace o_X := Own.keep (rOwn rIntV) o_X b7 (by omega)
  replace o_G := o_G.keep b7 (by omega)
  replace B_G_box := B_G_box.keep b7
  have c_S_box0 : w7.cell? ⟨w2.heap.size, 0, none⟩ = some (.slice p1 p2 p3) := B_S_box.cell 0
  have c_S_box1 : w7.cell? ⟨w2.heap.size, 1, none⟩ = some (.slice q1 q2 q3) := B_S_box.cell 1
  have c_G_box0 : w7.cell? ⟨w5.heap.size, 0, none⟩ = some (.slice g1 g2 g3) := B_G_box.cell 0
  have c_G_box1 : w7.cell? ⟨w5.heap.size, 1, none⟩ = some (.slice k1 k2 k3) := B_G_box.cell 1
  go_wp2_with (fail)
  clear c_S_box0 c_S_box1 c_G_box0 c_G_box1
  refine (toIntSS_c _ _ _ (hx0.keep bb7) zl0 zc0).mono ?_
  rintro e w8 ⟨v8, rfl, o_Y, b8⟩
  have s8 : w7.heap.size ≤ w8.heap.size := b8.size
  have bb8 := bb7.trans_pure b8 (Nat.le_refl _)
  replace o_S := o_S.keep b8 (by omega)
  replace B_S_box := B_S_box.keep b8
  replace o_X := Own.keep (rOwn rIntV) o_X b8 (by omega)
  replace o_G := o_G.keep b8 (by omega)
  replace B_G_box := B_G_box.keep b8
  have c_S_box0 : w8.cell? ⟨w2.heap.size, 0, none⟩ = some (.slice p1 p2 p3) := B_S_box.cell 0
  have c_S_box1 : w8.cell? ⟨w2.heap.size, 1, none⟩ = some (.slice q1 q2 q3) := B_S_box.cell 1
  have c_G_box0 : w8.cell? ⟨w5.heap.size, 0, none⟩ = some (.slice g1 g2 g3) := B_G_box.cell 0
  have c_G_box1 : w8.cell? ⟨w5.heap.size, 1, none⟩ = some (.slice k1 k2 k3) := B_G_box.cell 1
  go_wp2_with (fail)
  clear c_S_box0 c_S_box1 c_G_box0 c_G_box1
  refine (eqIntSS_c _ _ _ _ _ o_X.grid o_Y.grid).mono ?_
  rintro e w9 ⟨rfl, b9⟩
  have s9 : w8.heap.size ≤ w9.heap.size := b9.size
  have bb9 := bb8.trans_pure b9 (Nat.le_refl _)
  replace o_S := o_S.keep b9 (by omega)
  replace B_S_box := B_S_box.keep b9
  replace o_X := Own.keep (rOwn rIntV) o_X b9 (by omega)
  replace o_G := o_G.keep b9 (by omega)
  replace B_G_box := B_G_box.keep b9
  replace o_Y := Own.keep (rOwn rIntV) o_Y b9 (by omega)
  have c_S_box0 : w9.cell? ⟨w2.heap.size, 0, none⟩ = some (.slice p1 p2 p3) := B_S_box.cell 0
  have c_S_box1 : w9.cell? ⟨w2.heap.size, 1, none⟩ = some (.slice q1 q2 q3) := B_S_box.cell 1
  have c_G_box0 : w9.cell? ⟨w5.heap.size, 0, none⟩ = some (.slice g1 g2 g3) := B_G_box.cell 0
  have c_G_box1 : w9.cell? ⟨w5.heap.size, 1, none⟩ = some (.slice k1 k2 k3) := B_G_box.cell 1
  clear o_Y
  go_wp2_with (fail)
  clear c_S_box0 c_S_box1 c_G_box0 c_G_box1
  refine (markIntSS_c _ _ _ _ _ o_X (fun b hb => by have := hb.2; omega) (by omega) (by omega) (by omega) (by omega)).mono ?_
  rintro e w10 ⟨rfl, p10, m10, _⟩
  have s10 : w9.heap.size ≤ w10.heap.size := m10.size
  replace o_S := o_S.only m10 (by omega) (fun b h1 h2 hc => by have := hc.1; have := hc.2; omega)
  replace B_S_box := B_S_box.only m10 (fun hc => by have := hc.1; have := hc.2; omega)
  replace o_G := o_G.only m10 (by omega) (fun b h1 h2 hc => by have := hc.1; have := hc.2; omega)
  replace B_G_box := B_G_box.only m10 (fun hc => by have := hc.1; have := hc.2; omega)
  have bb10 : Below w.heap.size w w10 := bb9.trans (m10.below (by omega) (fun b hb => by have := hb.1; omega))
  clear o_X
  have o_X := p10
  clear p10
  have c_S_box0 : w10.cell? ⟨w2.heap.size, 0, none⟩ = some (.slice p1 p2 p3) := B_S_box.cell 0
  have c_S_box1 : w10.cell? ⟨w2.heap.size, 1, none⟩ = some (.slice q1 q2 q3) := B_S_box.cell 1
  have c_G_box0 : w10.cell? ⟨w5.heap.size, 0, none⟩ = some (.slice g1 g2 g3) := B_G_box.cell 0
  have c_G_box1 : w10.cell? ⟨w5.heap.size, 1, none⟩ = some (.slice k1 k2 k3) := B_G_box.cell 1
  go_wp2_with (fail)
  clear c_S_box0 c_S_box1 c_G_box0 c_G_box1
  refine (eqPuzzle_c _ _ _ _ _ _ _ _ _ o_G.reads.1 o_G.reads.2 o_S.reads.1 o_S.reads.2).mono ?_
  rintro e w11 ⟨rfl, heb11⟩
  have b11 := eqPz_below heb11
  clear heb11
  have s11 : w10.heap.size ≤ w11.heap.size := b11.size
  have bb11 := bb10.trans_pure b11 (Nat.le_refl _)
  replace o_S := o_S.keep b11 (by omega)
  replace B_S_box := B_S_box.keep b11
  replace o_X := Own.keep (rOwn rIntV) o_X b11 (by omega)
  replace o_G := o_G.keep b11 (by omega)
  replace B_G_box := B_G_box.keep b11
  have c_S_box0 : w11.cell? ⟨w2.heap.size, 0, none⟩ = some (.slice p1 p2 p3) := B_S_box.cell 0
  have c_S_box1 : w11.cell? ⟨w2.heap.size, 1, none⟩ = some (.slice q1 q2 q3) := B_S_box.cell 1
  have c_G_box0 : w11.cell? ⟨w5.heap.size, 0, none⟩ = some (.slice g1 g2 g3) := B_G_box.cell 0
  have c_G_box1 : w11.cell? ⟨w5.heap.size, 1, none⟩ = some (.slice k1 k2 k3) := B_G_box.cell 1
  clear o_X
  go_wp2_with (fail)
  clear c_S_box0 c_S_box1 c_G_box0 c_G_box1
  refine (markPuzzle_c _ _ _ _ _ _ _ _ o_G (by omega) (by omega) (by omega) (by omega) (by omega) (by omega) (by omega)).mono ?_
  rintro e w12 ⟨rfl, p12, m12⟩
  have s12 : w11.heap.size ≤ w12.heap.size := m12.size
  replace o_S := o_S.only m12 (by omega) (fun b h1 h2 hc => by have := hc.1; have := hc.2; omega)
  replace B_S_box := B_S_box.only m12 (fun hc => by have := hc.1; have := hc.2; omega)
  replace B_G_box := B_G_box.only m12 (fun hc => by have := hc.1; have := hc.2; omega)
  have bb12 : Below w.heap.size w w12 := bb11.trans (m12.below (by omega) (fun b hb => by have := hb.1; omega))
  clear o_G
  have o_G := p12
  clear p12
  have c_S_box0 : w12.cell? ⟨w2.heap.size, 0, none⟩ = some (.slice p1 p2 p3) := B_S_box.cell 0
  have c_S_box1 : w12.cell? ⟨w2.heap.size, 1, none⟩ = some (.slice q1 q2 q3) := B_S_box.cell 1
  have c_G_box0 : w12.cell? ⟨w5.heap.size, 0, none⟩ = some (.slice g1 g2 g3) := B_G_box.cell 0
  have c_G_box1 : w12.cell? ⟨w5.heap.size, 1, none⟩ = some (.slice k1 k2 k3) := B_G_box.cell 1
  go_wp2_with (fail)
  clear c_S_box0 c_S_box1 c_G_box0 c_G_box1
  refine (heldPuzzle_c _ _ _ _ _ _ o_G.reads.1 o_G.reads.2 (by omega) (by omega) (by omega) (by omega) (by omega) (by omega)).mono ?_
  rintro e w13 ⟨rfl, b13⟩
  have s13 : w12.heap.size ≤ w13.heap.size := b13.size
  have bb13 := bb12.trans_pure b13 (Nat.le_refl _)
  replace o_S := o_S.keep b13 (by omega)
  replace B_S_box := B_S_box.keep b13
  replace o_G := o_G.keep b13 (by omega)
  replace B_G_box := B_G_box.keep b13
  have c_S_box0 : w13.cell? ⟨w2.heap.size, 0, none⟩ = some (.slice p1 p2 p3) := B_S_box.cell 0
  have c_S_box1 : w13.cell? ⟨w2.heap.size, 1, none⟩ = some (.slice q1 q2 q3) := B_S_box.cell 1
  have c_G_box0 : w13.cell? ⟨w5.heap.size, 0, none⟩ = some (.slice g1 g2 g3) := B_G_box.cell 0
  have c_G_box1 : w13.cell? ⟨w5.heap.size, 1, none⟩ = some (.slice k1 k2 k3) := B_G_box.cell 1
  go_wp2_with (fail)
  clear c_S_box0 c_S_box1 c_G_box0 c_G_box1
  refine (toIntSS_c _ _ _ (hx0.keep bb13) zl0 zc0).mono ?_
  rintro e w14 ⟨v13, rfl, o_Z, b14⟩
  have s14 : w13.heap.size ≤ w14.heap.size := b14.size
  have bb14 := bb13.trans_pure b14 (Nat.le_refl _)
  replace o_S := o_S.keep b14 (by omega)
  replace B_S_box := B_S_box.keep b14
  replace o_G := o_G.keep b14 (by omega)
  replace B_G_box := B_G_box.keep b14
  have c_S_box0 : w14.cell? ⟨w2.heap.size, 0, none⟩ = some (.slice p1 p2 p3) := B_S_box.cell 0
  have c_S_box1 : w14.cell? ⟨w2.heap.size, 1, none⟩ = some (.slice q1 q2 q3) := B_S_box.cell 1
  have c_G_box0 : w14.cell? ⟨w5.heap.size, 0, none⟩ = some (.slice g1 g2 g3) := B_G_box.cell 0
  have c_G_box1 : w14.cell? ⟨w5.heap.size, 1, none⟩ = some (.slice k1 k2 k3) := B_G_box.cell 1
  go_wp2_with (fail)
  clear c_S_box0 c_S_box1 c_G_box0 c_G_box1
  refine (Hi.out _ _ o_Z.grid).mono ?_
  rintro e w15 ⟨ha, hb, rfl, o_H, b15⟩
  obtain ⟨⟨r1, r2, r3, rfl⟩, ⟨t1, t2, t3, rfl⟩⟩ := o_H.shape
  have s15 : w14.heap.size ≤ w15.heap.size := b15.size
  have bb15 := bb14.trans_pure b15 (Nat.le_refl _)
  replace o_S := o_S.keep b15 (by omega)
  replace B_S_box := B_S_box.keep b15
  replace o_G := o_G.keep b15 (by omega)
  replace B_G_box := B_G_box.keep b15
  replace o_Z := Own.keep (rOwn rIntV) o_Z b15 (by omega)
  have c_S_box0 : w15.cell? ⟨w2.heap.size, 0, none⟩ = some (.slice p1 p2 p3) := B_S_box.cell 0
  have c_S_box1 : w15.cell? ⟨w2.heap.size, 1, none⟩ = some (.slice q1 q2 q3) := B_S_box.cell 1
  have c_G_box0 : w15.cell? ⟨w5.heap.size, 0, none⟩ = some (.slice g1 g2 g3) := B_G_box.cell 0
  have c_G_box1 : w15.cell? ⟨w5.heap.size, 1, none⟩ = some (.slice k1 k2 k3) := B_G_box.cell 1
  clear o_Z
  have e_S_box0 : (w15.alloc (.cells #[.slice r1 r2 r3, .slice t1 t2 t3] 25)).cell? ⟨w2.heap.size, 0, none⟩ = some (.slice p1 p2 p3) := (B_S_box.keep (Below.pureAlloc w15 _)).cell 0
  have e_S_box1 : (w15.alloc (.cells #[.slice r1 r2 r3, .slice t1 t2 t3] 25)).cell? ⟨w2.heap.size, 1, none⟩ = some (.slice q1 q2 q3) := (B_S_box.keep (Below.pureAlloc w15 _)).cell 1
  have e_G_box0 : (w15.alloc (.cells #[.slice r1 r2 r3, .slice t1 t2 t3] 25)).cell? ⟨w5.heap.size, 0, none⟩ = some (.slice g1 g2 g3) := (B_G_box.keep (Below.pureAlloc w15 _)).cell 0
  have e_G_box1 : (w15.alloc (.cells #[.slice r1 r2 r3, .slice t1 t2 t3] 25)).cell? ⟨w5.heap.size, 1, none⟩ = some (.slice k1 k2 k3) := (B_G_box.keep (Below.pureAlloc w15 _)).cell 1
  go_wp2_with (fail)
  clear e_S_box0 e_S_box1 e_G_box0 e_G_box1
  clear c_S_box0 c_S_box1 c_G_box0 c_G_box1
  have B_H_box := Blk.new w15 #[.slice r1 r2 r3, .slice t1 t2 t3] 25
  have b16 := Below.pureAlloc w15 (.cells #[.slice r1 r2 r3, .slice t1 t2 t3] 25)
  obtain ⟨w16, hW16⟩ : ∃ W, W = w15.alloc (.cells #[.slice r1 r2 r3, .slice t1 t2 t3] 25) := ⟨_, rfl⟩
  have zz16 : w16.heap.size = w15.heap.size + 1 := by rw [hW16]; simp
  rw [← hW16] at B_H_box b16 ⊢
  have s16 : w15.heap.size + 1 ≤ w16.heap.size := by omega
  clear hW16 zz16
  have bb16 := bb15.trans_pure b16 (Nat.le_refl _)
  replace o_S := o_S.keep b16 (by omega)
  replace B_S_box := B_S_box.keep b16
  replace o_G := o_G.keep b16 (by omega)
  replace B_G_box := B_G_box.keep b16
  replace o_H := o_H.keep b16 (by omega)
  have c_S_box0 : w16.cell? ⟨w2.heap.size, 0, none⟩ = some (.slice p1 p2 p3) := B_S_box.cell 0
  have c_S_box1 : w16.cell? ⟨w2.heap.size, 1, none⟩ = some (.slice q1 q2 q3) := B_S_box.cell 1
  have c_G_box0 : w16.cell? ⟨w5.heap.size, 0, none⟩ = some (.slice g1 g2 g3) := B_G_box.cell 0
  have c_G_box1 : w16.cell? ⟨w5.heap.size, 1, none⟩ = some (.slice k1 k2 k3) := B_G_box.cell 1
  have c_H_box0 : w16.cell? ⟨w15.heap.size, 0, none⟩ = some (.slice r1 r2 r3) := B_H_box.cell 0
  have c_H_box1 : w16.cell? ⟨w15.heap.size, 1, none⟩ = some (.slice t1 t2 t3) := B_H_box.cell 1
  clear c_S_box0 c_S_box1 c_G_box0 c_G_box1 c_H_box0 c_H_box1
  refine (eqPuzzle_c _ _ _ _ _ _ _ _ _ o_H.reads.1 o_H.reads.2 o_S.reads.1 o_S.reads.2).mono ?_
  rintro e w17 ⟨rfl, heb17⟩
  have b17 := eqPz_below heb17
  clear heb17
  have s17 : w16.heap.size ≤ w17.heap.size := b17.size
  have bb17 := bb16.trans_pure b17 (Nat.le_refl _)
  replace o_S := o_S.keep b17 (by omega)
  replace B_S_box := B_S_box.keep b17
  replace o_G := o_G.keep b17 (by omega)
  replace B_G_box := B_G_box.keep b17
  replace o_H := o_H.keep b17 (by omega)
  replace B_H_box := B_H_box.keep b17
  have c_S_box0 : w17.cell? ⟨w2.heap.size, 0, none⟩ = some (.slice p1 p2 p3) := B_S_box.cell 0
  have c_S_box1 : w17.cell? ⟨w2.heap.size, 1, none⟩ = some (.slice q1 q2 q3) := B_S_box.cell 1
  have c_G_box0 : w17.cell? ⟨w5.heap.size, 0, none⟩ = some (.slice g1 g2 g3) := B_G_box.cell 0
  have c_G_box1 : w17.cell? ⟨w5.heap.size, 1, none⟩ = some (.slice k1 k2 k3) := B_G_box.cell 1
  have c_H_box0 : w17.cell? ⟨w15.heap.size, 0, none⟩ = some (.slice r1 r2 r3) := B_H_box.cell 0
  have c_H_box1 : w17.cell? ⟨w15.heap.size, 1, none⟩ = some (.slice t1 t2 t3) := B_H_box.cell 1
  go_wp2_with (fail)
  clear c_S_box0 c_S_box1 c_G_box0 c_G_box1 c_H_box0 c_H_box1
  refine (heldPuzzle_c _ _ _ _ _ _ o_G.reads.1 o_G.reads.2 (by omega) (by omega) (by omega) (by omega) (by omega) (by omega)).mono ?_
  rintro e w18 ⟨rfl, b18⟩
  have s18 : w17.heap.size ≤ w18.heap.size := b18.size
  have bb18 := bb17.trans_pure b18 (Nat.le_refl _)
  replace o_S := o_S.keep b18 (by omega)
  replace B_S_box := B_S_box.keep b18
  replace o_G := o_G.keep b18 (by omega)
  replace B_G_box := B_G_box.keep b18
  replace o_H := o_H.keep b18 (by omega)
  replace B_H_box := B_H_box.keep b18
  have c_S_box0 : w18.cell? ⟨w2.heap.size, 0, none⟩ = some (.slice p1 p2 p3) := B_S_box.cell 0
  have c_S_box1 : w18.cell? ⟨w2.heap.size, 1, none⟩ = some (.slice q1 q2 q3) := B_S_box.cell 1
  have c_G_box0 : w18.cell? ⟨w5.heap.size, 0, none⟩ = some (.slice g1 g2 g3) := B_G_box.cell 0
  have c_G_box1 : w18.cell? ⟨w5.heap.size, 1, none⟩ = some (.slice k1 k2 k3) := B_G_box.cell 1
  have c_H_box0 : w18.cell? ⟨w15.heap.size, 0, none⟩ = some (.slice r1 r2 r3) := B_H_box.cell 0
  have c_H_box1 : w18.cell? ⟨w15.heap.size, 1, none⟩ = some (.slice t1 t2 t3) := B_H_box.cell 1
  go_wp2
  go_ret
  exact ⟨rfl, bb18⟩
end Go.Proofs.Ytadbiefcpjcinaa

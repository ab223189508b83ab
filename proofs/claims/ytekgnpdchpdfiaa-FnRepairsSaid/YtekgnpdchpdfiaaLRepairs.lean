/- FnRepairs: the walk of the law. -/
import Derived.Test.YtekgnpdchpdfiaaRepL
import Derived.Test.YtekgnpdchpdfiaaX8
import Derived.Test.YtekgnpdchpdfiaaX10
namespace Go.Proofs.Ytekgnpdchpdfiaa
open Go.RowKit

set_option maxRecDepth 100000 in
set_option maxHeartbeats 1600000 in
theorem FnRepairs_w {v : Value} {bs : List Int} {w : World} (hv : Bytes w v bs) :
    Calls Try.prog 7 #[v] w fun e w' => e = .returned (.bool true) ∧ Below w.heap.size w w' := by
  obtain ⟨a, cap, rfl, -, -, -, -⟩ := id hv
  rcases Nat.lt_or_ge 1048576 bs.length with h1 | h1
  · go_enter Try.func7, Try.ntmps7
    go_wp2
    go_ret
    exact ⟨rfl, Below.refl _ _⟩
  have hd0 : decide ((1048576 : Int) < (bs.length : Int)) = false := by simp; omega
  go_enter Try.func7, Try.ntmps7
  go_wp2_with (fail)
  refine (MakeWrong_c _ bs w hv).mono ?_
  rintro e w1 ⟨va, vb, xs, ys, rfl, hx1, hy1, hxb, hyb, hxi, hyi, bb1⟩
  obtain ⟨b, l, R⟩ := rep_ok hx1 hy1 hxb hyb
  have R := Lib.hid R
  have Hx := Lib.hid hxi
  have Hy := Lib.hid hyi
  obtain ⟨xa, xcap, rfl, -, -, -, -⟩ := hxi
  obtain ⟨ya, ycap, rfl, -, -, -, -⟩ := hyi
  have hcn : closeNum (closest xs ys) = l := by rw [R.out.cl]; rfl
  have hcs : (closest xs ys).isSome = true := by rw [R.out.cl]; rfl
  have hcg : closeImg xs ys (closest xs ys) = imgOf xs.length ys.length b := by rw [R.out.cl]; rfl
  have Hcn := Lib.hid hcn
  have Hcs := Lib.hid hcs
  have Hcg := Lib.hid hcg
  have hl := R.out.nn
  have Hv := Lib.hid (Rd.keep hv (rSl rByteV) bb1)
  clear hcn hcs hcg hxb hyb
  go_wp2_with (fail)
  refine (ClosestImage_i _ _ _ _ _ Hx.out Hy.out).mono ?_
  rintro e w2 ⟨v2, rfl, o2, b2⟩
  rw [Hcn.out, Hcs.out]
  rw [Hcg.out] at o2
  have bb2 := bb1.trans_pure b2 (Nat.le_refl _)
  have Hm := Lib.hid o2.grid
  obtain ⟨p1, p2, p3, rfl⟩ := o2.shape
  clear o2
  go_wp2_with (fail)
  refine (RepairSums_i _ _ _ _ _ (Hx.out.keep b2) (Hy.out.keep b2)).mono ?_
  rintro e w3 ⟨v3, v4, M, hM1, hM2, rfl, o3, o4, b3⟩
  rw [Hcs.out]
  have bb3 := bb2.trans_pure b3 (Nat.le_refl _)
  have b13 := b2.trans_pure b3 (Nat.le_refl _)
  have Ha := Lib.hid o3.ints
  have Hb := Lib.hid o4.ints
  obtain ⟨q1, q2, q3, rfl⟩ := o3.shape
  obtain ⟨u1, u2, u3, rfl⟩ := o4.shape
  clear o3 o4 hM1 hM2
  go_wp2_with (fail)
  refine (SumsFit_i _ _ _ _ _ (Hx.out.keep b13) (Hy.out.keep b13)).mono ?_
  rintro e w' ⟨rfl, rfl⟩
  rw [R.out.fit]
  go_wp2_with (fail)
  refine (LeastChange_i _ _ _ _ _ (Hx.out.keep b13) (Hy.out.keep b13)).mono ?_
  rintro e w4 ⟨rfl, b4⟩
  rw [R.out.least]
  have bb4 := bb3.trans_pure b4 (Nat.le_refl _)
  have b14 := b13.trans_pure b4 (Nat.le_refl _)
  have b24 := b3.trans_pure b4 (Nat.le_refl _)
  go_wp2_with (fail)
  refine (ChangeOf_i _ _ _ _ _ _ _ (Hx.out.keep b14) (Hy.out.keep b14) (Hm.out.keep b24)).mono ?_
  rintro e w5 ⟨rfl, b5⟩
  rw [R.out.chg]
  have bb5 := bb4.trans_pure b5 (Nat.le_refl _)
  have b15 := b14.trans_pure b5 (Nat.le_refl _)
  have b25 := b24.trans_pure b5 (Nat.le_refl _)
  have b35 := b4.trans_pure b5 (Nat.le_refl _)
  go_wp2_with (fail)
  refine (Exists_i _ _ _ _ _ (Hx.out.keep b15) (Hy.out.keep b15)).mono ?_
  rintro e w6 ⟨rfl, b6⟩
  rw [← R.out.zero]
  have bb6 := bb5.trans_pure b6 (Nat.le_refl _)
  have b16 := b15.trans_pure b6 (Nat.le_refl _)
  have b26 := b25.trans_pure b6 (Nat.le_refl _)
  have b36 := b35.trans_pure b6 (Nat.le_refl _)
  go_wp2_with (fail)
  refine (Exists_i _ _ _ _ _ (Ha.out.keep b36) (Hb.out.keep b36)).mono ?_
  rintro e w7 ⟨rfl, b7⟩
  rw [R.out.ex]
  have bb7 := bb6.trans_pure b7 (Nat.le_refl _)
  have b17 := b16.trans_pure b7 (Nat.le_refl _)
  have b27 := b26.trans_pure b7 (Nat.le_refl _)
  have b37 := b36.trans_pure b7 (Nat.le_refl _)
  go_wp2_with (fail)
  refine (RowSums_i _ _ _ (Hm.out.keep b27)).mono ?_
  rintro e w8 ⟨v8, rfl, o8, b8⟩
  have bb8 := bb7.trans_pure b8 (Nat.le_refl _)
  have b18 := b17.trans_pure b8 (Nat.le_refl _)
  have b28 := b27.trans_pure b8 (Nat.le_refl _)
  have b38 := b37.trans_pure b8 (Nat.le_refl _)
  rw [← R.out.rows] at o8
  go_wp2_with (fail)
  refine (same_q _ _ _ _ _ (Ha.out.keep b38) o8.ints).mono ?_
  rintro e w9 ⟨rfl, n9, hw9⟩
  have b9 : Below w8.heap.size w8 w9 := by rw [hw9]; exact below_drewN (Below.refl _ _) n9
  clear hw9
  rw [decide_eq_true (rfl : repRows xs ys = repRows xs ys)]
  have bb9 := bb8.trans_pure b9 (Nat.le_refl _)
  have b19 := b18.trans_pure b9 (Nat.le_refl _)
  have b29 := b28.trans_pure b9 (Nat.le_refl _)
  have b39 := b38.trans_pure b9 (Nat.le_refl _)
  go_wp2_with (fail)
  refine (ColSums_i _ _ _ (Hm.out.keep b29)).mono ?_
  rintro e w10 ⟨v10, rfl, o10, b10⟩
  have bb10 := bb9.trans_pure b10 (Nat.le_refl _)
  have b1A := b19.trans_pure b10 (Nat.le_refl _)
  have b3A := b39.trans_pure b10 (Nat.le_refl _)
  rw [← R.out.cols] at o10
  go_wp2_with (fail)
  refine (same_q _ _ _ _ _ (Hb.out.keep b3A) o10.ints).mono ?_
  rintro e w11 ⟨rfl, n11, hw11⟩
  have b11 : Below w10.heap.size w10 w11 := by rw [hw11]; exact below_drewN (Below.refl _ _) n11
  clear hw11
  rw [decide_eq_true (rfl : repCols xs ys = repCols xs ys)]
  have bb11 := bb10.trans_pure b11 (Nat.le_refl _)
  have b1B := b1A.trans_pure b11 (Nat.le_refl _)
  go_wp2_with (fail)
  refine (MakeSized_c _ bs 40 xs.length ys.length _ (Rd.keep Hv.out (rSl rByteV) b1B) (by decide) hx1.1 (by omega) hy1.1 (by omega)).mono ?_
  rintro e w12 ⟨v12, m, rfl, hsh, o12, b12⟩
  have bb12 := bb11.trans_pure b12 (Nat.le_refl _)
  have b1C := b1B.trans_pure b12 (Nat.le_refl _)
  have Hg := Lib.hid o12.grid
  have hmin := R.out.min m hsh
  obtain ⟨r1, r2, r3, rfl⟩ := o12.shape
  clear o12
  have hp := R.out.par
  go_wp2_with (fail)
  refine (ParityOf_i _ _ _ _ _ (Hx.out.keep b1C) (Hy.out.keep b1C)).mono ?_
  rintro e w' ⟨rfl, rfl⟩
  rw [← hp]
  have hd1 : decide (0 ≤ l) = true := by simp; omega
  go_wp2_with (fail)
  refine (ChangeOf_i _ _ _ _ _ _ _ (Hx.out.keep b1C) (Hy.out.keep b1C) Hg.out).mono ?_
  rintro e w13 ⟨rfl, b13'⟩
  have hd2 : decide (l ≤ changeOf xs ys m) = true := by simp; omega
  have bb13 := bb12.trans_pure b13' (Nat.le_refl _)
  go_wp2
  go_ret
  exact ⟨rfl, bb13⟩
end Go.Proofs.Ytekgnpdchpdfiaa

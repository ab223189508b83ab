/- Contracts: CountAgreeing, IsEnough, RevealNext, GreedyReveal of the program. -/
import Derived.Test.YtliejhmlcdjpcaaRv1
namespace Go.Proofs.Ytliejhmlcdjpcaa
open Go.RowKit

theorem CountAgreeing_i (v v2 : Value) (m : List (List Int)) (cells : List Int) (r c : Nat) (w : World) (hv : Grid w v m) (hv2 : Ints w v2 cells) (hs : Shape r c m) (hr1 : 1 ≤ r) (hr5 : r ≤ 5) (hc1 : 1 ≤ c) (hc5 : c ≤ 5) (hris : Rising (r * c) cells) : Calls Try.prog 36 #[v, v2] w fun e w' => e = .returned (.int .i64 (cntA c (allImgs (rowSumsOf m) (colSumsOf m)) m cells)) ∧ Below w.heap.size w w' := by
  have Hv := Lib.hid hv
  have Hv2 := Lib.hid hv2
  obtain ⟨a, cap, rfl, -⟩ := hv
  obtain ⟨a2, cap2, rfl, -⟩ := hv2
  go_enter Try.func36, Try.ntmps36
  go_wp2_with (fail)
  refine (agreeing_i _ _ m cells r c _ Hv.out Hv2.out hs hr1 hr5 hc1 hc5 hris).mono ?_
  rintro e w1 ⟨v1, rfl, g1, b1⟩
  obtain ⟨p1, p2, rfl, -⟩ := g1
  go_wp2
  go_ret
  exact ⟨rfl, b1⟩
theorem IsEnough_i (v v2 : Value) (m : List (List Int)) (cells : List Int) (r c : Nat) (w : World) (hv : Grid w v m) (hv2 : Ints w v2 cells) (hs : Shape r c m) (hr1 : 1 ≤ r) (hr5 : r ≤ 5) (hc1 : 1 ≤ c) (hc5 : c ≤ 5) (hris : Rising (r * c) cells) : Calls Try.prog 10 #[v, v2] w fun e w' => e = .returned (.bool (decide (cntA c (allImgs (rowSumsOf m) (colSumsOf m)) m cells = 1))) ∧ Below w.heap.size w w' := by
  have Hv := Lib.hid hv
  have Hv2 := Lib.hid hv2
  obtain ⟨a, cap, rfl, -⟩ := hv
  obtain ⟨a2, cap2, rfl, -⟩ := hv2
  obtain ⟨N, hN⟩ : ∃ N, N = cntA c (allImgs (rowSumsOf m) (colSumsOf m)) m cells := ⟨_, rfl⟩
  rw [← hN]
  have HN := Lib.hid hN
  clear hN
  go_enter Try.func10, Try.ntmps10
  go_wp2_with (fail)
  refine (CountAgreeing_i _ _ m cells r c _ Hv.out Hv2.out hs hr1 hr5 hc1 hc5 hris).mono ?_
  rintro e w1 ⟨rfl, b1⟩
  rw [← HN.out]
  obtain ⟨z, hz⟩ : ∃ z, ((N : Int) == 1) = z := ⟨_, rfl⟩
  have Hz := Lib.hid (show z = decide (N = 1) from by rw [← hz, Bool.eq_iff_iff, decide_eq_true_eq, beq_iff_eq]; omega)
  go_wp2
  go_ret
  exact ⟨retB Hz.out, b1⟩
/-- how many images of a list have in a cell what the image has -/
def cnt1 (c : Nat) (m : List (List Int)) (n : Nat) (A : List (List (List Int))) : Nat := (A.filter fun h => decide (at2 h (n / c) (n % c) = at2 m (n / c) (n % c))).length
theorem cnt1_eq (c : Nat) (L : List (List (List Int))) (m : List (List Int)) (cells : List Int) (n : Nat) : cnt1 c m n (agreeing c L m cells) = cntA c L m (cells ++ [(n : Int)]) := by
  unfold cntA
  rw [agreeing_snoc]
  unfold cnt1 cellN
  rw [Int.toNat_natCast]
theorem cnt1_take {c : Nat} {m : List (List Int)} {n j : Nat} {A : List (List (List Int))} {x : List (List Int)} (h : A[j]? = some x) : cnt1 c m n (A.take (j + 1)) = cnt1 c m n (A.take j) + if at2 x (n / c) (n % c) = at2 m (n / c) (n % c) then 1 else 0 := by
  unfold cnt1
  rw [List.take_add_one, h, Option.toList_some, List.filter_append, List.length_append]
  by_cases hb : at2 x (n / c) (n % c) = at2 m (n / c) (n % c) <;> simp [hb]
theorem cnt1_le (c : Nat) (m : List (List Int)) (n : Nat) (A : List (List (List Int))) : cnt1 c m n A ≤ A.length := List.length_filter_le _ _
def BestSt (f : Nat → Nat) (len k : Nat) (b fw : Int) : Prop := (k = 0 ∧ b = -1 ∧ fw = (len : Int) + 1) ∨ (1 ≤ k ∧ b = (argmin f k : Nat) ∧ fw = (f (argmin f k) : Nat))
theorem BestSt.less {f : Nat → Nat} {len k : Nat} {b fw : Int} (h : BestSt f len k b fw) (hlt : (f k : Int) < fw) : BestSt f len (k + 1) k (f k) := by
  rcases h with ⟨rfl, -, -⟩ | ⟨h1, -, rfl⟩
  · exact .inr ⟨by omega, by rw [argmin_one], by rw [argmin_one]⟩
  · have e : argmin f (k + 1) = k := by rw [argmin_step h1, if_pos (by omega)]
    exact .inr ⟨by omega, by rw [e], by rw [e]⟩
theorem BestSt.more {f : Nat → Nat} {len k : Nat} {b fw : Int} (hf : ∀ i, f i ≤ len) (h : BestSt f len k b fw) (hlt : ¬ (f k : Int) < fw) : BestSt f len (k + 1) b fw := by
  rcases h with ⟨rfl, -, rfl⟩ | ⟨h1, h2, rfl⟩
  · have := hf 0; omega
  · have e : argmin f (k + 1) = argmin f k := by rw [argmin_step h1, if_neg (by omega)]
    exact .inr ⟨by omega, by rw [e, h2], by rw [e]⟩
theorem BestSt.bd {f : Nat → Nat} {len k : Nat} {b fw : Int} (hf : ∀ i, f i ≤ len) (h : BestSt f len k b fw) : -1 ≤ b ∧ b ≤ k ∧ 0 ≤ fw ∧ fw ≤ (len : Int) + 1 := by
  rcases h with ⟨rfl, rfl, rfl⟩ | ⟨h1, rfl, rfl⟩
  · omega
  · have := (argmin_spec f k h1).1
    have := hf (argmin f k)
    omega
/-- the answer of RevealNext -/
def nextOr (r c : Nat) (L : List (List (List Int))) (m : List (List Int)) (cells : List Int) : Int := if cntA c L m cells = 1 then -1 else (nextCell c (r * c) L m cells : Nat)
set_option maxRecDepth 100000 in
set_option maxHeartbeats 2000000 in
theorem RevealNext_i (v v2 : Value) (m : List (List Int)) (cells : List Int) (r c : Nat) (w : World) (hv : Grid w v m) (hv2 : Ints w v2 cells) (hs : Shape r c m) (hr1 : 1 ≤ r) (hr5 : r ≤ 5) (hc1 : 1 ≤ c) (hc5 : c ≤ 5) (hris : Rising (r * c) cells) : Calls Try.prog 12 #[v, v2] w fun e w' => e = .returned (.int .i64 (nextOr r c (allImgs (rowSumsOf m) (colSumsOf m)) m cells)) ∧ Below w.heap.size w w' := by
  have hI := imgsOk hs hr1 hr5 hc1 hc5
  obtain ⟨L, hL⟩ : ∃ L, L = allImgs (rowSumsOf m) (colSumsOf m) := ⟨_, rfl⟩
  rw [← hL] at hI ⊢
  have HI := Lib.hid hI
  have hN25 : r * c ≤ 25 := Nat.mul_le_mul hr5 hc5
  have hrc1 : 1 ≤ r * c := Nat.mul_pos hr1 hc1
  have Hv := Lib.hid hv
  have Hv2 := Lib.hid hv2
  obtain ⟨b, off, cp, rfl, hb, hcl⟩ := hv.cells hs hr1 hc1
  obtain ⟨b0, o0, c0, hc0, hb0, -⟩ := hcl 0 (by omega)
  rw [Nat.add_zero] at hc0
  have Hcl := Lib.hid hcl
  have Hc0 := Lib.hid hc0
  obtain ⟨a2, cap2, rfl, -⟩ := id hv2
  have Hris := Lib.hid hris
  have HL := Lib.hid hL
  have Hmul := Lib.hid (show (r : Int) * (c : Int) = ((r * c : Nat) : Int) from by rw [Int.natCast_mul])
  have Hnext := Lib.hid (show (cntA c L m cells = 1 → nextOr r c L m cells = -1) ∧ (cntA c L m cells ≠ 1 → nextOr r c L m cells = (nextCell c (r * c) L m cells : Nat)) from ⟨fun h => by unfold nextOr; rw [if_pos h], fun h => by unfold nextOr; rw [if_neg h]⟩)
  have Hnc := Lib.hid (show nextCell c (r * c) L m cells = argmin (fun k => cnt1 c m k (agreeing c L m cells)) (r * c) from by unfold nextCell; congr 1; funext k; rw [cnt1_eq])
  have hbig := hI.big
  clear hI hcl hv hv2 hris hL hc0
  go_enter Try.func12, Try.ntmps12
  go_wp2_with (fail)
  refine (agreeing_i _ _ m cells r c _ Hv.out Hv2.out hs hr1 hr5 hc1 hc5 Hris.out).mono ?_
  rintro e w1 ⟨v1, rfl, g1, b1⟩
  rw [← HL.out] at g1
  obtain ⟨A, hA⟩ : ∃ A, A = agreeing c L m cells := ⟨_, rfl⟩
  rw [← hA] at g1 Hnc
  have hcn : cntA c L m cells = A.length := by rw [hA]; rfl
  have hAL : A.length ≤ 1073741824 := by rw [hA]; exact Nat.le_trans (List.length_filter_le _ _) hbig
  have hApos : 0 < A.length := by rw [← hcn]; exact cntA_pos HI.out.self cells
  have HAs := Lib.hid (show ∀ x ∈ A, Shape r c x from fun x hx => HI.out.shape x (by rw [hA] at hx; exact (List.mem_filter.1 hx).1))
  rw [hcn] at Hnext
  clear hA hcn
  have Hg := Lib.hid g1
  obtain ⟨gl, go, gc, rfl, hgl, -⟩ := g1.inv_ne hApos
  obtain ⟨N, hN⟩ : ∃ N, N = A.length := ⟨_, rfl⟩
  rw [← hN] at Hg Hnext hAL hApos ⊢
  have HN := Lib.hid hN
  clear g1 hN
  by_cases h1 : N = 1
  · have Hr := Lib.hid (Hnext.out.1 h1)
    have hd : ((N : Int) == 1) = true := by simp [h1]
    clear h1
    go_wp2
    go_ret
    exact ⟨retI Hr.out.symm, b1⟩
  have Hr := Lib.hid (Hnext.out.2 h1)
  have hd : ((N : Int) == 1) = false := by rw [beq_eq_false_iff_ne]; omega
  have Hf := Lib.hid (show ∀ i, cnt1 c m i A ≤ N from fun i => by rw [HN.out]; exact cnt1_le c m i A)
  obtain ⟨f, hf⟩ : ∃ f : Nat → Nat, f = fun k => cnt1 c m k A := ⟨_, rfl⟩
  have Hfe := Lib.hid (show ∀ k, f k = cnt1 c m k A from fun k => by rw [hf])
  rw [← hf] at Hnc
  have Hfl := Lib.hid (show ∀ i, f i ≤ N from fun i => by rw [hf]; exact Hf.out i)
  clear h1 hf
  go_wp2
  go_loopw [7, 8, 9, 10, 11, 12, 14] (fun bv fv i _ _ _ _ wr => ∃ (k : Nat) (bi fi : Int), k ≤ r * c ∧ i = .int .i64 k ∧ bv = .int .i64 bi ∧ fv = .int .i64 fi ∧ Hid (BestSt f N k bi fi) ∧ Hid (Below w1.heap.size w1 wr)) (fun _ _ i _ _ _ _ _ => r * c - (intOf i).toNat)
  case atStart => exact ⟨0, -1, (N : Int) + 1, Nat.zero_le _, rfl, rfl, rfl, .inl ⟨rfl, rfl, rfl⟩, Below.refl _ _⟩
  case round =>
    clear hd
    obtain ⟨k, bi, fi, hk, rfl, rfl, rfl, Hst, Hb⟩ := hrel
    have b1r := b1.trans_pure Hb.out (Nat.le_refl _)
    have hc0 := (b1r.cell (p := ⟨b, off, none⟩) hb).trans Hc0.out
    obtain ⟨hb1, hb2, hb3, hb4⟩ := Hst.out.bd Hfl.out
    by_cases hlt : k < r * c
    · have hdk : (k : Int) < (r : Int) * (c : Int) := by rw [Hmul.out]; omega
      have hky : k / c < r := by rw [Nat.div_lt_iff_lt_mul (by omega)]; exact hlt
      have hkx : k % c < c := Nat.mod_lt _ (by omega)
      have hi1 : (0 : Int) ≤ (k : Int) / (c : Int) := Int.ediv_nonneg (by omega) (by omega)
      have hi2 : (k : Int) / (c : Int) < (r : Int) := by rw [← Int.natCast_ediv]; omega
      have hi3 : (0 : Int) ≤ (k : Int) % (c : Int) := Int.emod_nonneg _ (by omega)
      have hi4 : (k : Int) % (c : Int) < (c : Int) := Int.emod_lt_of_pos _ (by omega)
      obtain ⟨q1, f1, p1, m1, hq1, m2⟩ := Hcl.out (k / c) hky
      have m1 := (b1r.cell (p := ⟨b, off + k / c, none⟩) hb).trans m1
      have m2 := (b1r.cell (p := ⟨q1, f1 + k % c, none⟩) hq1).trans (m2 (k % c) hkx)
      have hbw : b < wr.heap.size := Nat.lt_of_lt_of_le hb b1r.size
      have hq1w : q1 < wr.heap.size := Nat.lt_of_lt_of_le hq1 b1r.size
      have HM := Lib.hid (And.intro m1 m2)
      obtain ⟨z2, hz2⟩ : ∃ z, z = at2 m (k / c) (k % c) := ⟨_, rfl⟩
      have Hz2 := Lib.hid hz2
      rw [← hz2] at HM
      clear m1 m2 hz2
      go_wp2
      go_region
      all_goals go_wp2
      all_goals
        have Hb0 := Lib.hid (show Below wr.heap.size wr wr.drew from (Below.refl _ _).drew)
        clear hc0
        go_loopw [12, 14, 56] (fun cv _ i wi => ∃ j : Nat, j ≤ N ∧ i = .int .i64 j ∧ cv = .int .i64 (cnt1 c m k (A.take j)) ∧ Hid (Below wr.heap.size wr wi)) (fun _ _ i _ => N - (intOf i).toNat)
        case atStart => exact ⟨0, Nat.zero_le _, rfl, by simp [cnt1], Hb0⟩
        case round =>
          clear Hb0
          obtain ⟨j, hj, rfl, rfl, Hbi⟩ := hrel
          have hcl := cnt1_le c m k (A.take j)
          rw [List.length_take] at hcl
          obtain ⟨C, hC⟩ : ∃ C, C = cnt1 c m k (A.take j) := ⟨_, rfl⟩
          rw [← hC] at hcl ⊢
          have HC := Lib.hid hC
          clear hC
          by_cases hltj : j < N
          · obtain ⟨x, hx⟩ : ∃ x, A[j]? = some x := ⟨_, List.getElem?_eq_getElem (by rw [← HN.out]; exact hltj)⟩
            have hxs := HAs.out x (List.mem_of_getElem? hx)
            obtain ⟨u, hck, hu⟩ := Sl.at Hg.out hx
            have hu : Grid w1 u x := hu
            obtain ⟨bx, offx, cpx, rfl, hbx, hxc⟩ := hu.cells hxs hr1 hc1
            have b1i := Hb.out.trans_pure Hbi.out (Nat.le_refl _)
            have hck := (b1i.cell (p := ⟨gl, go + j, none⟩) hgl).trans hck
            obtain ⟨q2, f2, p2, x1, hq2, x2⟩ := hxc (k / c) hky
            have x1 := (b1i.cell (p := ⟨bx, offx + k / c, none⟩) hbx).trans x1
            have x2 := (b1i.cell (p := ⟨q2, f2 + k % c, none⟩) hq2).trans (x2 (k % c) hkx)
            have m1 := (Hbi.out.cell (p := ⟨b, off + k / c, none⟩) hbw).trans HM.out.1
            have m2 := (Hbi.out.cell (p := ⟨q1, f1 + k % c, none⟩) hq1w).trans HM.out.2
            have Hst1 := Lib.hid (cnt1_take (c := c) (m := m) (n := k) hx)
            obtain ⟨z1, hz1⟩ : ∃ z, z = at2 x (k / c) (k % c) := ⟨_, rfl⟩
            rw [← hz1, ← Hz2.out, ← HC.out] at Hst1
            rw [← hz1] at x2
            clear hz1 hx hu hxc
            by_cases hz : z1 = z2
            · have hze : (z1 == z2) = true := by simp [hz]
              have Hs2 := Lib.hid (show cnt1 c m k (A.take (j + 1)) = C + 1 from by rw [Hst1.out, if_pos hz])
              clear hz
              go_wp2
              go_region
              all_goals
                go_wp2
                go_roundw
                case rel => exact ⟨j + 1, by omega, by go_num, by rw [Hs2.out]; go_num, Lib.hid Hbi.out.drew⟩
                case measure => simp [intOf]; omega
            · have hze : (z1 == z2) = false := by simp [hz]
              have Hs2 := Lib.hid (show cnt1 c m k (A.take (j + 1)) = C from by rw [Hst1.out, if_neg hz]; rfl)
              clear hz
              go_wp2
              go_region
              all_goals
                go_wp2
                go_roundw
                case rel => exact ⟨j + 1, by omega, by go_num, by rw [Hs2.out], Lib.hid Hbi.out.drew⟩
                case measure => simp [intOf]; omega
          · obtain rfl : j = N := by omega
            have hfk : f k = C := by rw [Hfe.out, HC.out, List.take_of_length_le (by rw [← HN.out]; exact Nat.le_refl _)]
            have Hb2 := Lib.hid (Hb.out.trans_pure Hbi.out (Nat.le_refl _))
            have Hfk := Lib.hid hfk
            clear hfk
            by_cases hltc : (C : Int) < fi
            · have Hst2 := Lib.hid (Hst.out.less (by rw [Hfk.out]; exact hltc))
              rw [Hfk.out] at Hst2
              go_wp2
              go_roundw
              case rel => exact ⟨k + 1, k, C, by omega, by go_num, rfl, rfl, Hst2, Hb2⟩
              case measure => simp [intOf]; omega
            · have Hst2 := Lib.hid (Hst.out.more Hfl.out (by rw [Hfk.out]; exact hltc))
              go_wp2
              go_roundw
              case rel => exact ⟨k + 1, bi, fi, by omega, by go_num, rfl, rfl, Hst2, Hb2⟩
              case measure => simp [intOf]; omega
    · obtain rfl : k = r * c := by omega
      have hdk : ¬ (((r * c : Nat) : Int) < (r : Int) * (c : Int)) := by rw [Hmul.out]; omega
      have Hfin := Lib.hid (show bi = nextOr r c L m cells from by
        rcases Hst.out with ⟨h, -⟩ | ⟨-, h, -⟩
        · omega
        · rw [h, Hr.out, Hnc.out])
      obtain ⟨K, hK⟩ : ∃ K, K = r * c := ⟨_, rfl⟩
      rw [← hK] at hdk ⊢
      clear hK
      go_wp2
      go_ret
      exact ⟨retI Hfin.out, b1r⟩
end Go.Proofs.Ytliejhmlcdjpcaa

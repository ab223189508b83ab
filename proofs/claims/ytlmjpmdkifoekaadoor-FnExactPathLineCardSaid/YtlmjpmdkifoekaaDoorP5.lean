/- Contracts: images with the same sums in the reference, the place of an image in a list. -/
import Derived.Test.YtlmjpmdkifoekaaDoorP1
namespace Go.Proofs.YtlmjpmdkifoekaaDoor
open Go.RowKit

theorem imgQ_s (v : Value) (m : List (List Int)) (b : Bool) (w : World) (hv : Grid w v m) (hb : imageOk m = b) : ∀ n, Calls Tryd.prog 96 #[v] (w.drewN n) fun e w' => e = .returned (.bool b) ∧ w' = w.drewN n :=
  fun n => (ImageOk_s _ m (w.drewN n) (Grid.keep hv (below_drewN (Below.refl _ _) n))).mono fun e w' ⟨he, hw⟩ => ⟨by rw [he, hb], hw.symm⟩
set_option maxHeartbeats 1600000 in
theorem DistanceOf_z (v v2 : Value) (m t : List (List Int)) (w : World) (hv : Grid w v m) (hv2 : Grid w v2 t) : Calls Tryd.prog 128 #[v, v2] w fun e w' => ∃ z : Int, e = .returned (.int .i64 z) ∧ (decide (z ≥ 0) = sameSz m t) ∧ Below w.heap.size w w' := by
  cases sz_case m t with
  | bad1 h1 e =>
    have Hq1 := Lib.hid (imgQ_s v m false w hv h1)
    have He := Lib.hid e
    obtain ⟨a, cap, rfl, -⟩ := hv
    obtain ⟨a2, cap2, rfl, -⟩ := hv2
    clear h1 e
    go_enter Tryd.func128, Tryd.ntmps128
    go_wp2
    go_quiet ((first | (go_at_call 96; with_reducible exact Calls.quiet_of_same (Hq1.out _))))
    go_wp2
    go_ret
    exact ⟨-1, rfl, by rw [He.out]; rfl, below_drewN (Below.refl _ _) _⟩
  | bad2 h1 h2 e =>
    have Hq1 := Lib.hid (imgQ_s v m true w hv h1)
    have Hq2 := Lib.hid (imgQ_s v2 t false w hv2 h2)
    have He := Lib.hid e
    obtain ⟨a, cap, rfl, -⟩ := hv
    obtain ⟨a2, cap2, rfl, -⟩ := hv2
    clear h1 h2 e
    go_enter Tryd.func128, Tryd.ntmps128
    go_wp2
    go_quiet ((first | (go_at_call 96; with_reducible exact Calls.quiet_of_same (Hq1.out _)) | (go_at_call 96; with_reducible exact Calls.quiet_of_same (Hq2.out _))))
    go_wp2
    go_ret
    exact ⟨-1, rfl, by rw [He.out]; rfl, below_drewN (Below.refl _ _) _⟩
  | ok r c r2 c2 h1 h2 a1 a2 a3 a4 a5 b1 b2 b3 b4 b5 e =>
    have Hq1 := Lib.hid (imgQ_s v m true w hv h1)
    have Hq2 := Lib.hid (imgQ_s v2 t true w hv2 h2)
    obtain ⟨b, off, cp, rfl, hb, hm⟩ := hv.rowsT a5.trectM a1 a3
    obtain ⟨b', off2, cp2, rfl, hb2, hm2⟩ := hv2.rowsT b5.trectM b1 b3
    have Hm := Lib.hid hm
    have Hm2 := Lib.hid hm2
    obtain ⟨d1, o1, k1, hc1, -⟩ := hm 0 (by omega)
    obtain ⟨d2, o2, k2, hc2, -⟩ := hm2 0 (by omega)
    have hc1 := hc1 w (Below.refl _ _)
    have hc2 := hc2 w (Below.refl _ _)
    rw [Nat.add_zero] at hc1 hc2
    have He := Lib.hid e
    clear h1 h2 e hv hv2 hm hm2 a5 b5
    by_cases hr : r = r2
    · subst hr
      by_cases hc : c = c2
      · subst hc
        have Hr := Lib.hid (show sameSz m t = true from by rw [He.out]; simp)
        go_enter Tryd.func128, Tryd.ntmps128
        go_wp2
        go_quiet ((first | (go_at_call 96; with_reducible exact Calls.quiet_of_same (Hq1.out _)) | (go_at_call 96; with_reducible exact Calls.quiet_of_same (Hq2.out _))))
        clear hc1 hc2
        obtain ⟨wz, hwz⟩ : ∃ wz, wz = w.drewN nq := ⟨_, rfl⟩
        have hBz : Below w.heap.size w wz := by rw [hwz]; exact below_drewN (Below.refl _ _) nq
        rw [← hwz]
        clear hwz
        go_wp2
        go_loopw [5, 6, 7, 8, 9, 38] (fun n _ _ _ _ i wr => ∃ (y z : Nat), y ≤ r ∧ i = .int .i64 y ∧ n = .int .i64 z ∧ z ≤ y * 5 ∧ wz = wr) (fun _ _ _ _ _ i _ => r - (intOf i).toNat)
        case atStart => exact ⟨0, 0, Nat.zero_le _, rfl, rfl, Nat.le_refl _, rfl⟩
        case round =>
          obtain ⟨y, z, hy, rfl, rfl, hz, rfl⟩ := hrel
          by_cases hyr : y < r
          · obtain ⟨br, orr, cr, h1, h2⟩ := Hm.out y hyr
            obtain ⟨bg, og, cg, h3, h4⟩ := Hm2.out y hyr
            have e1 := h1 wz hBz
            have e2 := h3 wz hBz
            have H2 := Lib.hid h2
            have H4 := Lib.hid h4
            clear h1 h2 h3 h4
            go_wp2
            go_loopw [5, 8, 9, 45] (fun n _ _ i wr => ∃ (x z2 : Nat), x ≤ c ∧ i = .int .i64 x ∧ n = .int .i64 z2 ∧ z2 ≤ z + x ∧ wz = wr) (fun _ _ _ i _ => c - (intOf i).toNat)
            case atStart => exact ⟨0, z, Nat.zero_le _, rfl, rfl, Nat.le_refl _, rfl⟩
            case round =>
              obtain ⟨x, z2, hx, rfl, rfl, hz2, rfl⟩ := hrel
              by_cases hxc : x < c
              · have e3 := H2.out x hxc wz hBz
                have e4 := H4.out x hxc wz hBz
                obtain ⟨D, hD⟩ : ∃ D, at2 m y x = D := ⟨_, rfl⟩
                obtain ⟨X, hX⟩ : ∃ X, at2 t y x = X := ⟨_, rfl⟩
                rw [hD] at e3
                rw [hX] at e4
                clear hD hX
                by_cases hDX : D = X
                · subst hDX
                  go_wp2
                  go_roundw
                  case rel => exact ⟨x + 1, z2, by omega, by go_num, rfl, by omega, by first | rfl | trivial⟩
                  case measure => simp [intOf]; omega
                · have hD2 : (D == X) = false := by rw [beq_eq_false_iff_ne]; exact hDX
                  go_wp2
                  go_roundw
                  case rel => exact ⟨x + 1, z2 + 1, by omega, by go_num, by go_num, by omega, by first | rfl | trivial⟩
                  case measure => simp [intOf]; omega
              · obtain rfl : x = c := by omega
                go_wp2
                go_roundw
                case rel => exact ⟨y + 1, z2, by omega, by go_num, rfl, by omega, by first | rfl | trivial⟩
                case measure => simp [intOf]; omega
          · go_wp2
            go_ret
            exact ⟨z, rfl, by rw [Hr.out, decide_eq_true_eq]; omega, hBz⟩
      · have Hr := Lib.hid (show sameSz m t = false from by rw [He.out, decide_eq_false hc, Bool.and_false])
        have hcd : ((c : Int) == (c2 : Int)) = false := by rw [beq_eq_false_iff_ne]; omega
        have hcd2 : ¬ (c : Int) = (c2 : Int) := by omega
        go_enter Tryd.func128, Tryd.ntmps128
        go_wp2
        go_quiet ((first | (go_at_call 96; with_reducible exact Calls.quiet_of_same (Hq1.out _)) | (go_at_call 96; with_reducible exact Calls.quiet_of_same (Hq2.out _))))
        go_wp2
        go_ret
        exact ⟨-1, rfl, by rw [Hr.out]; rfl, below_drewN (Below.refl _ _) _⟩
    · have Hr := Lib.hid (show sameSz m t = false from by rw [He.out, decide_eq_false hr]; rfl)
      have hrd : ((r : Int) == (r2 : Int)) = false := by rw [beq_eq_false_iff_ne]; omega
      have hrd2 : ¬ (r : Int) = (r2 : Int) := by omega
      go_enter Tryd.func128, Tryd.ntmps128
      go_wp2
      go_quiet ((first | (go_at_call 96; with_reducible exact Calls.quiet_of_same (Hq1.out _)) | (go_at_call 96; with_reducible exact Calls.quiet_of_same (Hq2.out _))))
      go_wp2
      go_ret
      exact ⟨-1, rfl, by rw [Hr.out]; rfl, below_drewN (Below.refl _ _) _⟩
set_option maxHeartbeats 1000000 in
theorem SameSums_s (v v2 : Value) (m t : List (List Int)) (w : World) (hv : Grid w v m) (hv2 : Grid w v2 t) : Calls Tryd.prog 106 #[v, v2] w fun e w' => e = .returned (.bool (sameSumsB m t)) ∧ Below w.heap.size w w' := by
  have Hv := Lib.hid hv
  have Hv2 := Lib.hid hv2
  obtain ⟨a, cap, rfl, -⟩ := hv
  obtain ⟨a2, cap2, rfl, -⟩ := hv2
  have Hr := Lib.hid (show sameSumsB m t = (sameSz m t && (decide (rowSumsOf m = rowSumsOf t) && decide (colSumsOf m = colSumsOf t))) from rfl)
  obtain ⟨p, hp⟩ : ∃ p, p = sameSz m t := ⟨_, rfl⟩
  obtain ⟨q, hq⟩ : ∃ q, q = decide (rowSumsOf m = rowSumsOf t) := ⟨_, rfl⟩
  obtain ⟨s, hs⟩ : ∃ s, s = decide (colSumsOf m = colSumsOf t) := ⟨_, rfl⟩
  rw [← hp, ← hq, ← hs] at Hr
  have Hp := Lib.hid hp
  have Hq := Lib.hid hq
  have Hs := Lib.hid hs
  clear hp hq hs
  go_enter Tryd.func106, Tryd.ntmps106
  go_wp2_with (fail)
  refine (DistanceOf_z _ _ m t _ Hv.out Hv2.out).mono ?_
  rintro e w1 ⟨z, rfl, hz, b1⟩
  rw [← Hp.out] at hz
  cases p
  · have hz2 : ¬ (0 : Int) ≤ z := by rw [decide_eq_false_iff_not] at hz; exact hz
    have hz3 : decide ((0 : Int) ≤ z) = false := decide_eq_false hz2
    go_wp2
    go_ret
    exact ⟨retB Hr.out.symm, b1⟩
  have hz2 : (0 : Int) ≤ z := by rw [decide_eq_true_eq] at hz; exact hz
  have hz3 : decide ((0 : Int) ≤ z) = true := decide_eq_true hz2
  go_wp2_with (fail)
  refine (RowSums_s _ _ _ (Hv.out.keep b1)).mono ?_
  rintro e w2 ⟨v3, rfl, o3, b2⟩
  have bb2 := b1.trans_pure b2 (Nat.le_refl _)
  have Ho3 := Lib.hid o3.ints; clear o3
  go_wp2_with (fail)
  refine (RowSums_s _ _ _ (Hv2.out.keep bb2)).mono ?_
  rintro e w3 ⟨v4, rfl, o4, b3⟩
  have bb3 := bb2.trans_pure b3 (Nat.le_refl _)
  have Ho4 := Lib.hid o4.ints; clear o4
  go_wp2_with (fail)
  refine (l02Same_q _ _ _ _ _ (Ho3.out.keep b3) Ho4.out).mono ?_
  rintro e w4 ⟨rfl, n4, hw4⟩
  have b4 : Below w3.heap.size w3 w4 := by rw [hw4]; exact below_drewN (Below.refl _ _) n4
  clear hw4
  rw [← Hq.out]
  have bb4 := bb3.trans_pure b4 (Nat.le_refl _)
  cases q
  · go_wp2
    go_ret
    exact ⟨retB Hr.out.symm, bb4⟩
  go_wp2_with (fail)
  refine (ColSums_s _ _ _ (Hv.out.keep bb4)).mono ?_
  rintro e w5 ⟨v5, rfl, o5, b5⟩
  have bb5 := bb4.trans_pure b5 (Nat.le_refl _)
  have Ho5 := Lib.hid o5.ints; clear o5
  go_wp2_with (fail)
  refine (ColSums_s _ _ _ (Hv2.out.keep bb5)).mono ?_
  rintro e w6 ⟨v6, rfl, o6, b6⟩
  have bb6 := bb5.trans_pure b6 (Nat.le_refl _)
  have Ho6 := Lib.hid o6.ints; clear o6
  go_wp2_with (fail)
  refine (l02Same_q _ _ _ _ _ (Ho5.out.keep b6) Ho6.out).mono ?_
  rintro e w7 ⟨rfl, n7, hw7⟩
  have b7 : Below w6.heap.size w6 w7 := by rw [hw7]; exact below_drewN (Below.refl _ _) n7
  clear hw7
  rw [← Hs.out]
  have bb7 := bb6.trans_pure b7 (Nat.le_refl _)
  go_wp2
  go_ret
  exact ⟨retB Hr.out.symm, bb7⟩
theorem l06Small_c (v : Value) (m : List (List Int)) (r c : Nat) (w : World) (hv : Grid w v m) (hs : Shape r c m) (hr1 : 1 ≤ r) (hc1 : 1 ≤ c) : Calls Tryd.prog 107 #[v] w fun e w' => e = .returned (.bool (decide (r ≤ 4) && decide (c ≤ 4))) ∧ w = w' := by
  obtain ⟨b, off, cp, rfl, hb, hm⟩ := hv.rowsT hs.trectM hr1 hc1
  obtain ⟨d1, o1, k1, hc, -⟩ := hm 0 (by omega)
  have hc := hc w (Below.refl _ _)
  rw [Nat.add_zero] at hc
  clear hm hv
  by_cases h1 : r ≤ 4
  · have Hr := Lib.hid (show (decide (r ≤ 4) && decide (c ≤ 4)) = decide ((c : Int) ≤ 4) from by rw [decide_eq_true h1, Bool.true_and]; exact decide_eq_decide.2 (by omega))
    have h2 : decide ((r : Int) ≤ 4) = true := by rw [decide_eq_true_eq]; omega
    go_enter Tryd.func107, Tryd.ntmps107
    go_wp2
    go_ret
    exact ⟨retB Hr.out.symm, rfl⟩
  · have Hr := Lib.hid (show (decide (r ≤ 4) && decide (c ≤ 4)) = false from by rw [decide_eq_false h1]; rfl)
    have h2 : decide ((r : Int) ≤ 4) = false := by rw [decide_eq_false_iff_not]; omega
    have h3 : ¬ (r : Int) ≤ 4 := by omega
    go_enter Tryd.func107, Tryd.ntmps107
    go_wp2
    go_ret
    exact ⟨by first | exact retB Hr.out.symm | rfl, rfl⟩
set_option maxHeartbeats 1000000 in
theorem l06Find_c (v v2 : Value) (gs : List (List (List Int))) (t : List (List Int)) (w : World) (hv : Grids w v gs) (hv2 : Grid w v2 t) : Calls Tryd.prog 109 #[v, v2] w fun e w' => ∃ z : Int, e = .returned (.int .i64 z) ∧ ((z = -1 ∧ ∀ x ∈ gs, x ≠ t) ∨ ∃ k : Nat, z = k ∧ gs[k]? = some t) ∧ Below w.heap.size w w' := by
  have Hv := Lib.hid hv
  have Hv2 := Lib.hid hv2
  obtain ⟨a, cap, rfl, -, hle, -⟩ := hv
  obtain ⟨a2, cap2, rfl, -⟩ := hv2
  obtain ⟨N, hN⟩ : ∃ N, N = gs.length := ⟨_, rfl⟩
  rw [← hN] at Hv hle ⊢
  have HN := Lib.hid hN
  clear hN
  go_enter Tryd.func109, Tryd.ntmps109
  go_wp2
  go_loopw [5, 6, 9] (fun _ _ i wr => ∃ k : Nat, k ≤ N ∧ i = .int .i64 k ∧ Hid (∀ (j : Nat) (x : List (List Int)), j < k → gs[j]? = some x → x ≠ t) ∧ Hid (Below w.heap.size w wr)) (fun _ _ i _ => N - (intOf i).toNat)
  case atStart => exact ⟨0, Nat.zero_le _, rfl, Lib.hid fun j x h => absurd h (Nat.not_lt_zero _), Lib.hid (Below.refl _ _)⟩
  case round =>
    obtain ⟨k, hk, rfl, Hno, Hb⟩ := hrel
    by_cases hlt : k < N
    · obtain ⟨x, hx⟩ : ∃ x, gs[k]? = some x := ⟨_, List.getElem?_eq_getElem (by rw [← HN.out]; exact hlt)⟩
      obtain ⟨gb, go, gc, he, hgl, -⟩ := Hv.out.inv_ne (by rw [← HN.out]; omega)
      obtain ⟨rfl, -⟩ : a = some ⟨gb, go, none⟩ ∧ cap = gc := by
        simp only [Value.slice.injEq] at he
        exact ⟨he.1, he.2.2⟩
      obtain ⟨u, hck, hu⟩ := Sl.at Hv.out hx
      have Hu := Lib.hid (show Grid w u x from hu)
      obtain ⟨ua, uc, rfl, -⟩ := hu
      have hck' := (Hb.out.cell (p := ⟨gb, go + k, none⟩) hgl).trans hck
      have Hx := Lib.hid hx
      clear hx he hck
      go_wp2_with (fail)
      refine (SameImage_s_q _ _ x t _ (Hu.out.keep Hb.out) (Hv2.out.keep Hb.out)).mono ?_
      rintro e w1 ⟨rfl, n1, hw1⟩
      have b1 := Lib.hid (Hb.out.trans_pure (show Below _ _ w1 from by rw [hw1]; exact below_drewN (Below.refl _ _) n1) (Nat.le_refl _))
      clear hw1 hck'
      by_cases hxt : x = t
      · rw [decide_eq_true hxt]
        have Hxt := Lib.hid hxt
        clear hxt
        go_wp2
        go_ret
        exact ⟨k, rfl, .inr ⟨k, rfl, by rw [Hx.out, Hxt.out]⟩, b1.out⟩
      · rw [decide_eq_false hxt]
        have Hno2 := Lib.hid (show ∀ (j : Nat) (y : List (List Int)), j < k + 1 → gs[j]? = some y → y ≠ t from fun j y hj hy => by
          by_cases h : j < k
          · exact Hno.out j y h hy
          · obtain rfl : j = k := by omega
            rw [Hx.out] at hy
            rw [← Option.some.inj hy]; exact hxt)
        clear hxt
        go_wp2
        go_roundw
        case rel => exact ⟨k + 1, by omega, by go_num, Hno2, b1⟩
        case measure => simp [intOf]; omega
    · obtain rfl : k = N := by omega
      go_wp2
      go_ret
      exact ⟨-1, rfl, .inl ⟨rfl, fun x hx => by
        obtain ⟨j, hj⟩ := List.getElem?_of_mem hx
        exact Hno.out j x (by have := (List.getElem?_eq_some_iff.1 hj).1; rw [HN.out]; exact this) hj⟩, Hb.out⟩
end Go.Proofs.YtlmjpmdkifoekaaDoor

/- Contracts: images of one size, images with the same sums, an image as a number, a map of distances. -/
import Derived.Test.YtlmjpmdkifoekaaDoorW3
import Derived.Test.YtlmjpmdkifoekaaDoorMk
import Derived.Test.YtlmjpmdkifoekaaDoorKeyL
import Derived.Test.YtlmjpmdkifoekaaDoorC9
import Derived.Maps.OwnSet
namespace Go.Proofs.YtlmjpmdkifoekaaDoor
open Go.RowKit

def sameSz (m t : List (List Int)) : Bool := imageOk m && (imageOk t && (decide (m.length = t.length) && decide ((m.headD []).length = (t.headD []).length)))
theorem shape_head {r c : Nat} {m : List (List Int)} (h : Shape r c m) (h1 : 1 ≤ r) : m.length = r ∧ (m.headD []).length = c := by
  refine ⟨h.1, ?_⟩
  cases m with
  | nil => have := h.1; simp at this; omega
  | cons a l => exact (h.2 a (by simp)).1
inductive SzCase (m t : List (List Int)) : Prop
  | bad1 : imageOk m = false → sameSz m t = false → SzCase m t
  | bad2 : imageOk m = true → imageOk t = false → sameSz m t = false → SzCase m t
  | ok (r c r2 c2 : Nat) : imageOk m = true → imageOk t = true → 1 ≤ r → r ≤ 5 → 1 ≤ c → c ≤ 5 → Shape r c m → 1 ≤ r2 → r2 ≤ 5 → 1 ≤ c2 → c2 ≤ 5 → Shape r2 c2 t → sameSz m t = (decide (r = r2) && decide (c = c2)) → SzCase m t
theorem sz_case (m t : List (List Int)) : SzCase m t := by
  cases h1 : imageOk m
  · exact .bad1 h1 (by unfold sameSz; rw [h1]; rfl)
  cases h2 : imageOk t
  · exact .bad2 h1 h2 (by unfold sameSz; rw [h1, h2]; rfl)
  obtain ⟨r, c, a1, a2, a3, a4, a5⟩ := imageOk_shape h1
  obtain ⟨r2, c2, b1, b2, b3, b4, b5⟩ := imageOk_shape h2
  refine .ok r c r2 c2 h1 h2 a1 a2 a3 a4 a5 b1 b2 b3 b4 b5 ?_
  unfold sameSz
  rw [h1, h2, (shape_head a5 a1).1, (shape_head a5 a1).2, (shape_head b5 b1).1, (shape_head b5 b1).2]
  rfl
theorem sameSz_shape {m t : List (List Int)} (h : sameSz m t = true) : ∃ r c, 1 ≤ r ∧ r ≤ 5 ∧ 1 ≤ c ∧ c ≤ 5 ∧ Shape r c m ∧ Shape r c t := by
  cases sz_case m t with
  | bad1 _ e => rw [e] at h; cases h
  | bad2 _ _ e => rw [e] at h; cases h
  | ok r c r2 c2 _ _ a1 a2 a3 a4 a5 _ _ _ _ b5 e =>
    rw [e, Bool.and_eq_true, decide_eq_true_eq, decide_eq_true_eq] at h
    obtain ⟨rfl, rfl⟩ := h
    exact ⟨r, c, a1, a2, a3, a4, a5, b5⟩
theorem imgQ_i (v : Value) (m : List (List Int)) (b : Bool) (w : World) (hv : Grid w v m) (hb : imageOk m = b) : ∀ n, Calls Tryd.prog 55 #[v] (w.drewN n) fun e w' => e = .returned (.bool b) ∧ w' = w.drewN n :=
  fun n => (ImageOk_i _ m (w.drewN n) (Grid.keep hv (below_drewN (Below.refl _ _) n))).mono fun e w' ⟨he, hw⟩ => ⟨by rw [he, hb], hw.symm⟩
set_option maxHeartbeats 1600000 in
theorem sameSize_i (v v2 : Value) (m t : List (List Int)) (w : World) (hv : Grid w v m) (hv2 : Grid w v2 t) : Calls Tryd.prog 120 #[v, v2] w fun e w' => e = .returned (.bool (sameSz m t)) ∧ Below w.heap.size w w' := by
  cases sz_case m t with
  | bad1 h1 e =>
    have Hq1 := Lib.hid (imgQ_i v m false w hv h1)
    have He := Lib.hid e
    obtain ⟨a, cap, rfl, -⟩ := hv
    obtain ⟨a2, cap2, rfl, -⟩ := hv2
    clear h1 e
    go_enter Tryd.func120, Tryd.ntmps120
    go_wp2
    go_quiet ((first | (go_at_call 55; with_reducible exact Calls.quiet_of_same (Hq1.out _))))
    go_wp2
    go_ret
    exact ⟨retB He.out.symm, below_drewN (Below.refl _ _) _⟩
  | bad2 h1 h2 e =>
    have Hq1 := Lib.hid (imgQ_i v m true w hv h1)
    have Hq2 := Lib.hid (imgQ_i v2 t false w hv2 h2)
    have He := Lib.hid e
    obtain ⟨a, cap, rfl, -⟩ := hv
    obtain ⟨a2, cap2, rfl, -⟩ := hv2
    clear h1 h2 e
    go_enter Tryd.func120, Tryd.ntmps120
    go_wp2
    go_quiet ((first | (go_at_call 55; with_reducible exact Calls.quiet_of_same (Hq1.out _)) | (go_at_call 55; with_reducible exact Calls.quiet_of_same (Hq2.out _))))
    go_wp2
    go_ret
    exact ⟨retB He.out.symm, below_drewN (Below.refl _ _) _⟩
  | ok r c r2 c2 h1 h2 a1 a2 a3 a4 a5 b1 b2 b3 b4 b5 e =>
    have Hq1 := Lib.hid (imgQ_i v m true w hv h1)
    have Hq2 := Lib.hid (imgQ_i v2 t true w hv2 h2)
    obtain ⟨b, off, cp, rfl, hb, hm⟩ := hv.rowsT a5.trectM a1 a3
    obtain ⟨b', off2, cp2, rfl, hb2, hm2⟩ := hv2.rowsT b5.trectM b1 b3
    obtain ⟨d1, o1, k1, hc1, -⟩ := hm 0 (by omega)
    obtain ⟨d2, o2, k2, hc2, -⟩ := hm2 0 (by omega)
    have hc1 := hc1 w (Below.refl _ _)
    have hc2 := hc2 w (Below.refl _ _)
    rw [Nat.add_zero] at hc1 hc2
    have He := Lib.hid e
    clear h1 h2 e hv hv2 hm hm2 a5 b5
    by_cases hr : r = r2
    · subst hr
      by_cases hc : c = c2
      · subst hc
        have Hr := Lib.hid (show sameSz m t = true from by rw [He.out]; simp)
        go_enter Tryd.func120, Tryd.ntmps120
        go_wp2
        go_quiet ((first | (go_at_call 55; with_reducible exact Calls.quiet_of_same (Hq1.out _)) | (go_at_call 55; with_reducible exact Calls.quiet_of_same (Hq2.out _))))
        go_wp2
        go_ret
        exact ⟨retB Hr.out.symm, below_drewN (Below.refl _ _) _⟩
      · have Hr := Lib.hid (show sameSz m t = false from by rw [He.out, decide_eq_false hc, Bool.and_false])
        have hcd : ((c : Int) == (c2 : Int)) = false := by rw [beq_eq_false_iff_ne]; omega
        have hcd2 : ¬ (c : Int) = (c2 : Int) := by omega
        go_enter Tryd.func120, Tryd.ntmps120
        go_wp2
        go_quiet ((first | (go_at_call 55; with_reducible exact Calls.quiet_of_same (Hq1.out _)) | (go_at_call 55; with_reducible exact Calls.quiet_of_same (Hq2.out _))))
        go_wp2
        go_ret
        exact ⟨retB Hr.out.symm, below_drewN (Below.refl _ _) _⟩
    · have Hr := Lib.hid (show sameSz m t = false from by rw [He.out, decide_eq_false hr]; rfl)
      have hrd : ((r : Int) == (r2 : Int)) = false := by rw [beq_eq_false_iff_ne]; omega
      have hrd2 : ¬ (r : Int) = (r2 : Int) := by omega
      go_enter Tryd.func120, Tryd.ntmps120
      go_wp2
      go_quiet ((first | (go_at_call 55; with_reducible exact Calls.quiet_of_same (Hq1.out _)) | (go_at_call 55; with_reducible exact Calls.quiet_of_same (Hq2.out _))))
      go_wp2
      go_ret
      exact ⟨retB Hr.out.symm, below_drewN (Below.refl _ _) _⟩
def sameSumsB (m t : List (List Int)) : Bool := sameSz m t && (decide (rowSumsOf m = rowSumsOf t) && decide (colSumsOf m = colSumsOf t))
set_option maxHeartbeats 1000000 in
theorem SameSums_i (v v2 : Value) (m t : List (List Int)) (w : World) (hv : Grid w v m) (hv2 : Grid w v2 t) : Calls Tryd.prog 85 #[v, v2] w fun e w' => e = .returned (.bool (sameSumsB m t)) ∧ Below w.heap.size w w' := by
  have Hv := Lib.hid hv
  have Hv2 := Lib.hid hv2
  obtain ⟨a, cap, rfl, -⟩ := hv
  obtain ⟨a2, cap2, rfl, -⟩ := hv2
  have Hr := Lib.hid (show sameSumsB m t = (sameSz m t && (decide (rowSumsOf m = rowSumsOf t) && decide (colSumsOf m = colSumsOf t))) from rfl)
  obtain ⟨p, hp⟩ : ∃ p, p = sameSz m t := ⟨_, rfl⟩
  obtain ⟨q, hq⟩ : ∃ q, q = decide (rowSumsOf m = rowSumsOf t) := ⟨_, rfl⟩
  obtain ⟨s, hs⟩ : ∃ s, s = decide (colSumsOf m = colSumsOf t) := ⟨_, rfl⟩
  rw [← hp, ← hq, ← hs] at Hr
  have Hp := Lib.hid hp
  have Hq := Lib.hid hq
  have Hs := Lib.hid hs
  clear hp hq hs
  go_enter Tryd.func85, Tryd.ntmps85
  go_wp2_with (fail)
  refine (sameSize_i _ _ m t _ Hv.out Hv2.out).mono ?_
  rintro e w1 ⟨rfl, b1⟩
  rw [← Hp.out]
  cases p
  · go_wp2
    go_ret
    exact ⟨retB Hr.out.symm, b1⟩
  go_wp2_with (fail)
  refine (RowSums_i _ _ _ (Hv.out.keep b1)).mono ?_
  rintro e w2 ⟨v3, rfl, o3, b2⟩
  have bb2 := b1.trans_pure b2 (Nat.le_refl _)
  have Ho3 := Lib.hid o3.ints; clear o3
  go_wp2_with (fail)
  refine (RowSums_i _ _ _ (Hv2.out.keep bb2)).mono ?_
  rintro e w3 ⟨v4, rfl, o4, b3⟩
  have bb3 := bb2.trans_pure b3 (Nat.le_refl _)
  have Ho4 := Lib.hid o4.ints; clear o4
  go_wp2_with (fail)
  refine (Equal_q _ _ _ _ _ (Ho3.out.keep b3) Ho4.out).mono ?_
  rintro e w4 ⟨rfl, n4, hw4⟩
  have b4 : Below w3.heap.size w3 w4 := by rw [hw4]; exact below_drewN (Below.refl _ _) n4
  clear hw4
  rw [← Hq.out]
  have bb4 := bb3.trans_pure b4 (Nat.le_refl _)
  cases q
  · go_wp2
    go_ret
    exact ⟨retB Hr.out.symm, bb4⟩
  go_wp2_with (fail)
  refine (ColSums_i _ _ _ (Hv.out.keep bb4)).mono ?_
  rintro e w5 ⟨v5, rfl, o5, b5⟩
  have bb5 := bb4.trans_pure b5 (Nat.le_refl _)
  have Ho5 := Lib.hid o5.ints; clear o5
  go_wp2_with (fail)
  refine (ColSums_i _ _ _ (Hv2.out.keep bb5)).mono ?_
  rintro e w6 ⟨v6, rfl, o6, b6⟩
  have bb6 := bb5.trans_pure b6 (Nat.le_refl _)
  have Ho6 := Lib.hid o6.ints; clear o6
  go_wp2_with (fail)
  refine (Equal_q _ _ _ _ _ (Ho5.out.keep b6) Ho6.out).mono ?_
  rintro e w7 ⟨rfl, n7, hw7⟩
  have b7 : Below w6.heap.size w6 w7 := by rw [hw7]; exact below_drewN (Below.refl _ _) n7
  clear hw7
  rw [← Hs.out]
  have bb7 := bb6.trans_pure b7 (Nat.le_refl _)
  go_wp2
  go_ret
  exact ⟨retB Hr.out.symm, bb7⟩
/-! ### an image as a number -/
def kF (l : List Nat) : Nat := l.foldl (fun k b => 2 * k + b) 0
theorem kF_snoc {l : List Nat} {n b : Nat} (h : l[n]? = some b) : kF (l.take (n + 1)) = 2 * kF (l.take n) + b := by
  unfold kF
  rw [List.take_add_one, h, List.foldl_append]; rfl
theorem kF_lt {l : List Nat} (h : ∀ b ∈ l, b ≤ 1) : ∀ n, kF (l.take n) < 2 ^ n := by
  intro n
  induction n with
  | zero => simp [kF]
  | succ n ih =>
    cases e : l[n]? with
    | none =>
      rw [List.take_add_one, e]
      simp only [Option.toList_none, List.append_nil]
      have : 2 ^ n ≤ 2 ^ (n + 1) := Nat.pow_le_pow_right (by decide) (by omega)
      omega
    | some b =>
      rw [kF_snoc e, Nat.pow_succ]
      have := h b (List.mem_of_getElem? e)
      omega
theorem kF_key (l : List Nat) : kF l = keyC l := by
  unfold kF
  rw [keyC_foldl]; simp
theorem cellsN_at {r c y x : Nat} (g : List (List Int)) (hy : y < r) (hx : x < c) : (cellsN r c g)[y * c + x]? = some (at2 g y x).toNat := by
  have hlt : y * c + x < r * c := by
    have : (y + 1) * c ≤ r * c := Nat.mul_le_mul_right c hy
    rw [Nat.add_mul, Nat.one_mul] at this
    omega
  unfold cellsN
  rw [List.getElem?_map, List.getElem?_range hlt, Option.map_some, show (y * c + x) / c = y from by rw [Nat.mul_comm, Nat.mul_add_div (by omega), Nat.div_eq_of_lt hx]; rfl, show (y * c + x) % c = x from by rw [Nat.mul_comm, Nat.mul_add_mod, Nat.mod_eq_of_lt hx]]
set_option maxHeartbeats 1000000 in
theorem keyOf_c (v : Value) (m : List (List Int)) (r c : Nat) (w : World) (hv : Grid w v m) (hs : Shape r c m) (hr1 : 1 ≤ r) (hr5 : r ≤ 5) (hc1 : 1 ≤ c) (hc5 : c ≤ 5) : Calls Tryd.prog 86 #[v] w fun e w' => e = .returned (.int .i64 (keyOfImg r c m)) ∧ w = w' := by
  obtain ⟨b, off, cp, rfl, hb, hm⟩ := hv.rowsT hs.trectM hr1 hc1
  have Hm := Lib.hid hm
  have Hbit := Lib.hid (show ∀ n, n ≤ r * c → kF ((cellsN r c m).take n) < 33554432 + 1 from fun n hn => by
    have h1 := kF_lt (cellsN_bit hs) n
    have h2 : 2 ^ n ≤ 2 ^ 25 := Nat.pow_le_pow_right (by decide) (Nat.le_trans hn (Nat.mul_le_mul hr5 hc5))
    have h3 : (2 : Nat) ^ 25 = 33554432 := by decide
    omega)
  have Hst := Lib.hid (show ∀ y x, y < r → x < c → kF ((cellsN r c m).take (y * c + (x + 1))) = 2 * kF ((cellsN r c m).take (y * c + x)) + (at2 m y x).toNat from fun y x hy hx => kF_snoc (cellsN_at m hy hx))
  have Hcb := Lib.hid (at2_bits hs)
  have Hend := Lib.hid (show kF ((cellsN r c m).take (r * c)) = keyOfImg r c m from by rw [List.take_of_length_le (by rw [cellsN_len]; exact Nat.le_refl _), kF_key]; rfl)
  obtain ⟨F, hF⟩ : ∃ F : Nat → Nat, F = fun n => kF ((cellsN r c m).take n) := ⟨_, rfl⟩
  have HbF := Lib.hid (show ∀ n, n ≤ r * c → F n < 33554433 from fun n hn => by rw [hF]; exact Hbit.out n hn)
  have HsF := Lib.hid (show ∀ y x, y < r → x < c → F (y * c + (x + 1)) = 2 * F (y * c + x) + (at2 m y x).toNat from fun y x hy hx => by rw [hF]; exact Hst.out y x hy hx)
  have HeF := Lib.hid (show F (r * c) = keyOfImg r c m from by rw [hF]; exact Hend.out)
  have H0F := Lib.hid (show F (0 * c) = 0 from by rw [hF, Nat.zero_mul]; rfl)
  clear hm hv hF Hbit Hst Hend
  go_enter Tryd.func86, Tryd.ntmps86
  go_wp2
  go_loopw [3, 5, 7, 10] (fun n _ _ i wr => ∃ y : Nat, y ≤ r ∧ i = .int .i64 y ∧ n = .int .i64 (F (y * c) : Nat) ∧ w = wr) (fun _ _ _ i _ => r - (intOf i).toNat)
  case atStart => exact ⟨0, Nat.zero_le _, rfl, by rw [H0F.out]; rfl, rfl⟩
  case round =>
    obtain ⟨y, hy, rfl, rfl, rfl⟩ := hrel
    by_cases hyr : y < r
    · obtain ⟨br, orr, cr, h1, h2⟩ := Hm.out y hyr
      have e1 := h1 w (Below.refl _ _)
      have H2 := Lib.hid h2
      obtain ⟨N0, hN0⟩ : ∃ N0, N0 = F (y * c) := ⟨_, rfl⟩
      have HN0 := Lib.hid (show F (y * c + 0) = N0 from by rw [hN0]; rfl)
      rw [← hN0]
      clear h1 h2 hN0
      go_wp2
      go_loopw [3, 7, 16] (fun n _ i wr => ∃ x : Nat, x ≤ c ∧ i = .int .i64 x ∧ n = .int .i64 (F (y * c + x) : Nat) ∧ w = wr) (fun _ _ i _ => c - (intOf i).toNat)
      case atStart => exact ⟨0, Nat.zero_le _, rfl, by rw [HN0.out], rfl⟩
      case round =>
        clear e1 HN0
        obtain ⟨x, hx, rfl, rfl, rfl⟩ := hrel
        by_cases hxc : x < c
        · have e2 := H2.out x hxc w (Below.refl _ _)
          have hst := HsF.out y x hyr hxc
          have hbd := HbF.out (y * c + x) (by
            have : (y + 1) * c ≤ r * c := Nat.mul_le_mul_right c hyr
            rw [Nat.add_mul, Nat.one_mul] at this
            omega)
          have hb01 := Hcb.out y x
          obtain ⟨D, hD⟩ : ∃ D, D = at2 m y x := ⟨_, rfl⟩
          rw [← hD] at e2 hst hb01
          obtain ⟨K, hK⟩ : ∃ K, K = F (y * c + x) := ⟨_, rfl⟩
          rw [← hK] at hst hbd ⊢
          obtain ⟨d, rfl⟩ : ∃ d : Nat, D = d := ⟨D.toNat, by omega⟩
          have Hst2 := Lib.hid (show ((F (y * c + (x + 1)) : Nat) : Int) = 2 * (K : Int) + (d : Int) from by rw [hst]; push_cast; rfl)
          clear hD hK hst
          go_wp2
          go_roundw
          case rel => exact ⟨x + 1, by omega, by go_num, by rw [Hst2.out] <;> go_num, by first | rfl | trivial⟩
          case measure => simp [intOf]; omega
        · obtain rfl : x = c := by omega
          have Hsc := Lib.hid (show F (y * x + x) = F ((y + 1) * x) from by rw [Nat.add_mul, Nat.one_mul])
          rw [Hsc.out]
          go_wp2
          go_roundw
          case rel => exact ⟨y + 1, by omega, by go_num, rfl, by first | rfl | trivial⟩
          case measure => simp [intOf]; omega
    · obtain rfl : y = r := by omega
      rw [HeF.out]
      go_wp2
      go_ret
      exact ⟨rfl, rfl⟩
end Go.Proofs.YtlmjpmdkifoekaaDoor

/- Contracts and plain laws that the claims on sessions use. No condition of their own. -/
import Derived.Test.YthmocomfjgmjoaaGreatDoorQ11
import Derived.Test.YthmocomfjgmjoaaGreatDoorQ12
import Derived.Test.YthmocomfjgmjoaaGreatDoorQ04
import Derived.Test.YthmocomfjgmjoaaGreatDoorQ06
import Derived.Maps.OwnSet
import Derived.Test.YthmocomfjgmjoaaGreatDoorQ09
import Derived.Test.YthmocomfjgmjoaaGreatDoorQ03
import Derived.Test.YthmocomfjgmjoaaGreatDoorQ08
import Derived.Test.YthmocomfjgmjoaaGreatDoorQ10
set_option maxHeartbeats 1600000
namespace Go.Proofs.YthmocomfjgmjoaaGreatDoor
open Go.RowKit
def sameSz (m t : List (List Int)) : Bool := imageOk m && (imageOk t && (decide (m.length = t.length) && decide ((m.headD []).length = (t.headD []).length)))
theorem shape_head {r c : Nat} {m : List (List Int)} (h : Shape r c m) (h1 : 1 ≤ r) : m.length = r ∧ (m.headD []).length = c := by
  refine ⟨h.1, ?_⟩
  cases m with
  | nil => have := h.1; simp at this; omega
  | cons a l => exact (h.2 a (by simp)).1
inductive SzCase (m t : List (List Int)) : Prop
  | bad1 : imageOk m = false → sameSz m t = false → SzCase m t
  | bad2 : imageOk m = true → imageOk t = false → sameSz m t = false → SzCase m t
  | ok (r c r2 c2 : Nat) : imageOk m = true → imageOk t = true → 1 ≤ r → r ≤ 5 → 1 ≤ c → c ≤ 5 → Shape r c m → 1 ≤ r2 → r2 ≤ 5 → 1 ≤ c2 → c2 ≤ 5 → Shape r2 c2 t → sameSz m t = (decide (r = r2) && decide (c = c2)) → SzCase m t
theorem sz_case (m t : List (List Int)) : SzCase m t := by
  cases h1 : imageOk m
  · exact .bad1 h1 (by unfold sameSz; rw [h1]; rfl)
  cases h2 : imageOk t
  · exact .bad2 h1 h2 (by unfold sameSz; rw [h1, h2]; rfl)
  obtain ⟨r, c, a1, a2, a3, a4, a5⟩ := imageOk_shape h1
  obtain ⟨r2, c2, b1, b2, b3, b4, b5⟩ := imageOk_shape h2
  refine .ok r c r2 c2 h1 h2 a1 a2 a3 a4 a5 b1 b2 b3 b4 b5 ?_
  unfold sameSz
  rw [h1, h2, (shape_head a5 a1).1, (shape_head a5 a1).2, (shape_head b5 b1).1, (shape_head b5 b1).2]
  rfl
theorem sameSz_shape {m t : List (List Int)} (h : sameSz m t = true) : ∃ r c, 1 ≤ r ∧ r ≤ 5 ∧ 1 ≤ c ∧ c ≤ 5 ∧ Shape r c m ∧ Shape r c t := by
  cases sz_case m t with
  | bad1 _ e => rw [e] at h; cases h
  | bad2 _ _ e => rw [e] at h; cases h
  | ok r c r2 c2 _ _ a1 a2 a3 a4 a5 _ _ _ _ b5 e =>
    rw [e, Bool.and_eq_true, decide_eq_true_eq, decide_eq_true_eq] at h
    obtain ⟨rfl, rfl⟩ := h
    exact ⟨r, c, a1, a2, a3, a4, a5, b5⟩
theorem imgQ_i (v : Value) (m : List (List Int)) (b : Bool) (w : World) (hv : Grid w v m) (hb : imageOk m = b) : ∀ n, Calls Tryz.prog 84 #[v] (w.drewN n) fun e w' => e = .returned (.bool b) ∧ w' = w.drewN n :=
  fun n => (ImageOk_i _ m (w.drewN n) (Grid.keep hv (below_drewN (Below.refl _ _) n))).mono fun e w' ⟨he, hw⟩ => ⟨by rw [he, hb], hw.symm⟩
theorem sameSize_i (v v2 : Value) (m t : List (List Int)) (w : World) (hv : Grid w v m) (hv2 : Grid w v2 t) : Calls Tryz.prog 98 #[v, v2] w fun e w' => e = .returned (.bool (sameSz m t)) ∧ Below w.heap.size w w' := by
  cases sz_case m t with
  | bad1 h1 e =>
    have Hq1 := Lib.hid (imgQ_i v m false w hv h1)
    have He := Lib.hid e
    obtain ⟨a, cap, rfl, -⟩ := hv
    obtain ⟨a2, cap2, rfl, -⟩ := hv2
    clear h1 e
    go_enter Tryz.func98, Tryz.ntmps98
    go_wp2
    go_quiet ((first | (go_at_call 84; with_reducible exact Calls.quiet_of_same (Hq1.out _))))
    go_wp2
    go_ret
    exact ⟨retB He.out.symm, below_drewN (Below.refl _ _) _⟩
  | bad2 h1 h2 e =>
    have Hq1 := Lib.hid (imgQ_i v m true w hv h1)
    have Hq2 := Lib.hid (imgQ_i v2 t false w hv2 h2)
    have He := Lib.hid e
    obtain ⟨a, cap, rfl, -⟩ := hv
    obtain ⟨a2, cap2, rfl, -⟩ := hv2
    clear h1 h2 e
    go_enter Tryz.func98, Tryz.ntmps98
    go_wp2
    go_quiet ((first | (go_at_call 84; with_reducible exact Calls.quiet_of_same (Hq1.out _)) | (go_at_call 84; with_reducible exact Calls.quiet_of_same (Hq2.out _))))
    go_wp2
    go_ret
    exact ⟨retB He.out.symm, below_drewN (Below.refl _ _) _⟩
  | ok r c r2 c2 h1 h2 a1 a2 a3 a4 a5 b1 b2 b3 b4 b5 e =>
    have Hq1 := Lib.hid (imgQ_i v m true w hv h1)
    have Hq2 := Lib.hid (imgQ_i v2 t true w hv2 h2)
    obtain ⟨b, off, cp, rfl, hb, hm⟩ := hv.rowsT a5.trectM a1 a3
    obtain ⟨b', off2, cp2, rfl, hb2, hm2⟩ := hv2.rowsT b5.trectM b1 b3
    obtain ⟨d1, o1, k1, hc1, -⟩ := hm 0 (by omega)
    obtain ⟨d2, o2, k2, hc2, -⟩ := hm2 0 (by omega)
    have hc1 := hc1 w (Below.refl _ _)
    have hc2 := hc2 w (Below.refl _ _)
    rw [Nat.add_zero] at hc1 hc2
    have He := Lib.hid e
    clear h1 h2 e hv hv2 hm hm2 a5 b5
    by_cases hr : r = r2
    · subst hr
      by_cases hc : c = c2
      · subst hc
        have Hr := Lib.hid (show sameSz m t = true from by rw [He.out]; simp)
        go_enter Tryz.func98, Tryz.ntmps98
        go_wp2
        go_quiet ((first | (go_at_call 84; with_reducible exact Calls.quiet_of_same (Hq1.out _)) | (go_at_call 84; with_reducible exact Calls.quiet_of_same (Hq2.out _))))
        go_wp2
        go_ret
        exact ⟨retB Hr.out.symm, below_drewN (Below.refl _ _) _⟩
      · have Hr := Lib.hid (show sameSz m t = false from by rw [He.out, decide_eq_false hc, Bool.and_false])
        have hcd : ((c : Int) == (c2 : Int)) = false := by rw [beq_eq_false_iff_ne]; omega
        have hcd2 : ¬ (c : Int) = (c2 : Int) := by omega
        go_enter Tryz.func98, Tryz.ntmps98
        go_wp2
        go_quiet ((first | (go_at_call 84; with_reducible exact Calls.quiet_of_same (Hq1.out _)) | (go_at_call 84; with_reducible exact Calls.quiet_of_same (Hq2.out _))))
        go_wp2
        go_ret
        exact ⟨retB Hr.out.symm, below_drewN (Below.refl _ _) _⟩
    · have Hr := Lib.hid (show sameSz m t = false from by rw [He.out, decide_eq_false hr]; rfl)
      have hrd : ((r : Int) == (r2 : Int)) = false := by rw [beq_eq_false_iff_ne]; omega
      have hrd2 : ¬ (r : Int) = (r2 : Int) := by omega
      go_enter Tryz.func98, Tryz.ntmps98
      go_wp2
      go_quiet ((first | (go_at_call 84; with_reducible exact Calls.quiet_of_same (Hq1.out _)) | (go_at_call 84; with_reducible exact Calls.quiet_of_same (Hq2.out _))))
      go_wp2
      go_ret
      exact ⟨retB Hr.out.symm, below_drewN (Below.refl _ _) _⟩
def sameSumsB (m t : List (List Int)) : Bool := sameSz m t && (decide (rowSumsOf m = rowSumsOf t) && decide (colSumsOf m = colSumsOf t))
theorem SameSums_i (v v2 : Value) (m t : List (List Int)) (w : World) (hv : Grid w v m) (hv2 : Grid w v2 t) : Calls Tryz.prog 160 #[v, v2] w fun e w' => e = .returned (.bool (sameSumsB m t)) ∧ Below w.heap.size w w' := by
  have Hv := Lib.hid hv
  have Hv2 := Lib.hid hv2
  obtain ⟨a, cap, rfl, -⟩ := hv
  obtain ⟨a2, cap2, rfl, -⟩ := hv2
  have Hr := Lib.hid (show sameSumsB m t = (sameSz m t && (decide (rowSumsOf m = rowSumsOf t) && decide (colSumsOf m = colSumsOf t))) from rfl)
  obtain ⟨p, hp⟩ : ∃ p, p = sameSz m t := ⟨_, rfl⟩
  obtain ⟨q, hq⟩ : ∃ q, q = decide (rowSumsOf m = rowSumsOf t) := ⟨_, rfl⟩
  obtain ⟨s, hs⟩ : ∃ s, s = decide (colSumsOf m = colSumsOf t) := ⟨_, rfl⟩
  rw [← hp, ← hq, ← hs] at Hr
  have Hp := Lib.hid hp
  have Hq := Lib.hid hq
  have Hs := Lib.hid hs
  clear hp hq hs
  go_enter Tryz.func160, Tryz.ntmps160
  go_wp2_with (fail)
  refine (sameSize_i _ _ m t _ Hv.out Hv2.out).mono ?_
  rintro e w1 ⟨rfl, b1⟩
  rw [← Hp.out]
  cases p
  · go_wp2
    go_ret
    exact ⟨retB Hr.out.symm, b1⟩
  go_wp2_with (fail)
  refine (RowSums_i _ _ _ (Hv.out.keep b1)).mono ?_
  rintro e w2 ⟨v3, rfl, o3, b2⟩
  have bb2 := b1.trans_pure b2 (Nat.le_refl _)
  have Ho3 := Lib.hid o3.ints; clear o3
  go_wp2_with (fail)
  refine (RowSums_i _ _ _ (Hv2.out.keep bb2)).mono ?_
  rintro e w3 ⟨v4, rfl, o4, b3⟩
  have bb3 := bb2.trans_pure b3 (Nat.le_refl _)
  have Ho4 := Lib.hid o4.ints; clear o4
  go_wp2_with (fail)
  refine (Equal_q _ _ _ _ _ (Ho3.out.keep b3) Ho4.out).mono ?_
  rintro e w4 ⟨rfl, n4, hw4⟩
  have b4 : Below w3.heap.size w3 w4 := by rw [hw4]; exact below_drewN (Below.refl _ _) n4
  clear hw4
  rw [← Hq.out]
  have bb4 := bb3.trans_pure b4 (Nat.le_refl _)
  cases q
  · go_wp2
    go_ret
    exact ⟨retB Hr.out.symm, bb4⟩
  go_wp2_with (fail)
  refine (ColSums_i _ _ _ (Hv.out.keep bb4)).mono ?_
  rintro e w5 ⟨v5, rfl, o5, b5⟩
  have bb5 := bb4.trans_pure b5 (Nat.le_refl _)
  have Ho5 := Lib.hid o5.ints; clear o5
  go_wp2_with (fail)
  refine (ColSums_i _ _ _ (Hv2.out.keep bb5)).mono ?_
  rintro e w6 ⟨v6, rfl, o6, b6⟩
  have bb6 := bb5.trans_pure b6 (Nat.le_refl _)
  have Ho6 := Lib.hid o6.ints; clear o6
  go_wp2_with (fail)
  refine (Equal_q _ _ _ _ _ (Ho5.out.keep b6) Ho6.out).mono ?_
  rintro e w7 ⟨rfl, n7, hw7⟩
  have b7 : Below w6.heap.size w6 w7 := by rw [hw7]; exact below_drewN (Below.refl _ _) n7
  clear hw7
  rw [← Hs.out]
  have bb7 := bb6.trans_pure b7 (Nat.le_refl _)
  go_wp2
  go_ret
  exact ⟨retB Hr.out.symm, bb7⟩
def kF (l : List Nat) : Nat := l.foldl (fun k b => 2 * k + b) 0
theorem kF_snoc {l : List Nat} {n b : Nat} (h : l[n]? = some b) : kF (l.take (n + 1)) = 2 * kF (l.take n) + b := by
  unfold kF
  rw [List.take_add_one, h, List.foldl_append]; rfl
theorem kF_lt {l : List Nat} (h : ∀ b ∈ l, b ≤ 1) : ∀ n, kF (l.take n) < 2 ^ n := by
  intro n
  induction n with
  | zero => simp [kF]
  | succ n ih =>
    cases e : l[n]? with
    | none =>
      rw [List.take_add_one, e]
      simp only [Option.toList_none, List.append_nil]
      have : 2 ^ n ≤ 2 ^ (n + 1) := Nat.pow_le_pow_right (by decide) (by omega)
      omega
    | some b =>
      rw [kF_snoc e, Nat.pow_succ]
      have := h b (List.mem_of_getElem? e)
      omega
theorem kF_key (l : List Nat) : kF l = keyC l := by
  unfold kF
  rw [keyC_foldl]; simp
theorem cellsN_at {r c y x : Nat} (g : List (List Int)) (hy : y < r) (hx : x < c) : (cellsN r c g)[y * c + x]? = some (at2 g y x).toNat := by
  have hlt : y * c + x < r * c := by
    have : (y + 1) * c ≤ r * c := Nat.mul_le_mul_right c hy
    rw [Nat.add_mul, Nat.one_mul] at this
    omega
  unfold cellsN
  rw [List.getElem?_map, List.getElem?_range hlt, Option.map_some, show (y * c + x) / c = y from by rw [Nat.mul_comm, Nat.mul_add_div (by omega), Nat.div_eq_of_lt hx]; rfl, show (y * c + x) % c = x from by rw [Nat.mul_comm, Nat.mul_add_mod, Nat.mod_eq_of_lt hx]]
theorem keyOf_c (v : Value) (m : List (List Int)) (r c : Nat) (w : World) (hv : Grid w v m) (hs : Shape r c m) (hr1 : 1 ≤ r) (hr5 : r ≤ 5) (hc1 : 1 ≤ c) (hc5 : c ≤ 5) : Calls Tryz.prog 161 #[v] w fun e w' => e = .returned (.int .i64 (keyOfImg r c m)) ∧ w = w' := by
  obtain ⟨b, off, cp, rfl, hb, hm⟩ := hv.rowsT hs.trectM hr1 hc1
  have Hm := Lib.hid hm
  have Hbit := Lib.hid (show ∀ n, n ≤ r * c → kF ((cellsN r c m).take n) < 33554432 + 1 from fun n hn => by
    have h1 := kF_lt (cellsN_bit hs) n
    have h2 : 2 ^ n ≤ 2 ^ 25 := Nat.pow_le_pow_right (by decide) (Nat.le_trans hn (Nat.mul_le_mul hr5 hc5))
    have h3 : (2 : Nat) ^ 25 = 33554432 := by decide
    omega)
  have Hst := Lib.hid (show ∀ y x, y < r → x < c → kF ((cellsN r c m).take (y * c + (x + 1))) = 2 * kF ((cellsN r c m).take (y * c + x)) + (at2 m y x).toNat from fun y x hy hx => kF_snoc (cellsN_at m hy hx))
  have Hcb := Lib.hid (at2_bits hs)
  have Hend := Lib.hid (show kF ((cellsN r c m).take (r * c)) = keyOfImg r c m from by rw [List.take_of_length_le (by rw [cellsN_len]; exact Nat.le_refl _), kF_key]; rfl)
  obtain ⟨F, hF⟩ : ∃ F : Nat → Nat, F = fun n => kF ((cellsN r c m).take n) := ⟨_, rfl⟩
  have HbF := Lib.hid (show ∀ n, n ≤ r * c → F n < 33554433 from fun n hn => by rw [hF]; exact Hbit.out n hn)
  have HsF := Lib.hid (show ∀ y x, y < r → x < c → F (y * c + (x + 1)) = 2 * F (y * c + x) + (at2 m y x).toNat from fun y x hy hx => by rw [hF]; exact Hst.out y x hy hx)
  have HeF := Lib.hid (show F (r * c) = keyOfImg r c m from by rw [hF]; exact Hend.out)
  have H0F := Lib.hid (show F (0 * c) = 0 from by rw [hF, Nat.zero_mul]; rfl)
  clear hm hv hF Hbit Hst Hend
  go_enter Tryz.func161, Tryz.ntmps161
  go_wp2
  go_loopw [3, 5, 7, 10] (fun n _ _ i wr => ∃ y : Nat, y ≤ r ∧ i = .int .i64 y ∧ n = .int .i64 (F (y * c) : Nat) ∧ w = wr) (fun _ _ _ i _ => r - (intOf i).toNat)
  case atStart => exact ⟨0, Nat.zero_le _, rfl, by rw [H0F.out]; rfl, rfl⟩
  case round =>
    obtain ⟨y, hy, rfl, rfl, rfl⟩ := hrel
    by_cases hyr : y < r
    · obtain ⟨br, orr, cr, h1, h2⟩ := Hm.out y hyr
      have e1 := h1 w (Below.refl _ _)
      have H2 := Lib.hid h2
      obtain ⟨N0, hN0⟩ : ∃ N0, N0 = F (y * c) := ⟨_, rfl⟩
      have HN0 := Lib.hid (show F (y * c + 0) = N0 from by rw [hN0]; rfl)
      rw [← hN0]
      clear h1 h2 hN0
      go_wp2
      go_loopw [3, 7, 16] (fun n _ i wr => ∃ x : Nat, x ≤ c ∧ i = .int .i64 x ∧ n = .int .i64 (F (y * c + x) : Nat) ∧ w = wr) (fun _ _ i _ => c - (intOf i).toNat)
      case atStart => exact ⟨0, Nat.zero_le _, rfl, by rw [HN0.out], rfl⟩
      case round =>
        clear e1 HN0
        obtain ⟨x, hx, rfl, rfl, rfl⟩ := hrel
        by_cases hxc : x < c
        · have e2 := H2.out x hxc w (Below.refl _ _)
          have hst := HsF.out y x hyr hxc
          have hbd := HbF.out (y * c + x) (by
            have : (y + 1) * c ≤ r * c := Nat.mul_le_mul_right c hyr
            rw [Nat.add_mul, Nat.one_mul] at this
            omega)
          have hb01 := Hcb.out y x
          obtain ⟨D, hD⟩ : ∃ D, D = at2 m y x := ⟨_, rfl⟩
          rw [← hD] at e2 hst hb01
          obtain ⟨K, hK⟩ : ∃ K, K = F (y * c + x) := ⟨_, rfl⟩
          rw [← hK] at hst hbd ⊢
          obtain ⟨d, rfl⟩ : ∃ d : Nat, D = d := ⟨D.toNat, by omega⟩
          have Hst2 := Lib.hid (show ((F (y * c + (x + 1)) : Nat) : Int) = 2 * (K : Int) + (d : Int) from by rw [hst]; push_cast; rfl)
          clear hD hK hst
          go_wp2
          go_roundw
          case rel => exact ⟨x + 1, by omega, by go_num, by rw [Hst2.out] <;> go_num, by first | rfl | trivial⟩
          case measure => simp [intOf]; omega
        · obtain rfl : x = c := by omega
          have Hsc := Lib.hid (show F (y * x + x) = F ((y + 1) * x) from by rw [Nat.add_mul, Nat.one_mul])
          rw [Hsc.out]
          go_wp2
          go_roundw
          case rel => exact ⟨y + 1, by omega, by go_num, rfl, by first | rfl | trivial⟩
          case measure => simp [intOf]; omega
    · obtain rfl : y = r := by omega
      rw [HeF.out]
      go_wp2
      go_ret
      exact ⟨rfl, rfl⟩
def leastG (rows cols : List Int) : Option (List (List Int)) := (imgsOf rows cols)[0]?
def nearG (rows cols : List Int) (p : List (List Int)) : Option (List (List Int)) :=
  if p.length = rows.length ∧ (p.headD []).length = cols.length then nearL (fun m => distG rows.length cols.length m p) (imgsOf rows cols) else none
theorem Own.elem {α : Type} {E : TypeId} {R : RepT α} (hR : Rep R) {S : Bk} {w : World} {v : Value} {xs : List α} (h : Own E R S w v xs) {k : Nat} {x : α} (hk : xs[k]? = some x) :
    ∃ g cap u, v = .slice (some ⟨g, 0, none⟩) xs.length cap ∧ g < w.heap.size ∧ w.cell? ⟨g, k, none⟩ = some u ∧ R S w u x := by
  have hkl := (List.getElem?_eq_some_iff.1 hk).1
  obtain ⟨g, cap, rfl, hg, hcap, hgl, -⟩ := h.inv_ne (by omega)
  obtain ⟨-, -, -, -, T, u, hu, hr, hT, -⟩ := h.focus hR hk
  exact ⟨g, cap, u, rfl, hgl, hu, hR.mono (fun b hb => (hT b hb).1) hr⟩
theorem LeastImage_i (v v2 : Value) (xs ys : List Int) (w : World) (hv : Ints w v xs) (hv2 : Ints w v2 ys) : Calls Tryz.prog 47 #[v, v2] w (ImgRes w (leastG xs ys)) := by
  go_enter Tryz.func47, Tryz.ntmps47
  go_wp2_with (fail)
  refine (AllImages_i _ _ _ _ _ hv hv2).mono ?_
  rintro e w1 ⟨vo, rfl, o1, b1⟩
  obtain ⟨l, hl⟩ : ∃ l, l = imgsOf xs ys := ⟨_, rfl⟩
  rw [← hl] at o1
  cases hk : l[0]? with
  | none =>
    have Hr := Lib.hid (show leastG xs ys = none from by unfold leastG; rw [← hl]; exact hk)
    obtain rfl : l = [] := by
      cases l with
      | nil => rfl
      | cons a t => simp at hk
    clear hk hl
    rcases o1.inv with ⟨rfl, -⟩ | ⟨g, cap, rfl, -⟩
    · go_wp2
      go_ret2
      exact ⟨_, by rw [Hr.out]; rfl, by rw [Hr.out]; exact Own.nil _ _ _ _, b1⟩
    · go_wp2
      go_ret2
      exact ⟨_, by rw [Hr.out]; rfl, by rw [Hr.out]; exact Own.nil _ _ _ _, b1⟩
  | some m =>
    have Hr := Lib.hid (show leastG xs ys = some m from by unfold leastG; rw [← hl]; exact hk)
    have hpos : 0 < l.length := (List.getElem?_eq_some_iff.1 hk).1
    have hne : ((l.length : Int) == 0) = false := by rw [beq_eq_false_iff_ne]; omega
    obtain ⟨g, cap, u, rfl, hg, hu, hr⟩ := o1.elem (rOwn (rOwn rIntV)) hk
    obtain ⟨t1, t2, t3, rfl⟩ := Own.shape hr
    have Hr1 := Lib.hid hr
    clear hk hl o1 hr
    go_wp2
    go_ret2
    exact ⟨_, by rw [Hr.out]; rfl, by rw [Hr.out]; exact Hr1.out, b1⟩
theorem zeroIntE (w : World) : (zeroValue 3).run Tryz.prog w = .ok (.int .i64 0) w := by kernel_rfl
theorem wfNat {k : Nat} (h : k < 1073741824) : (Lit.int .i64 (k : Int)).wf = true := by
  simp [Lit.wf, IntKind.min, IntKind.max, IntKind.signed, IntKind.bits]; omega
def FarM (w : World) (b n : Nat) (f : Nat → Option Nat) : Prop := ∃ D : DataW Unit, w.ownsMap Tryz.prog 3 (plainElem Tryz.prog 3) b n D ∧ Maps.IsMap D ∧
  ∀ k : Nat, k < 1073741824 → Maps.has D (.int .i64 k) = (f k).isSome ∧ D.atKey (.int .i64 k) (.lit (.int .i64 0)) = .lit (.int .i64 ((f k).getD 0 : Nat))
theorem FarM.made (w : World) : FarM (w.alloc (.map #[] 0)) w.heap.size 0 fun _ => none :=
  ⟨.map [], World.ownsMap_made w _ _ _, Maps.isMap_empty, fun _ _ => ⟨rfl, Maps.atKey_of_not_has rfl _⟩⟩
theorem FarM.lt {w : World} {b n : Nat} {f : Nat → Option Nat} (h : FarM w b n f) : b < w.heap.size := by
  obtain ⟨D, h1, -⟩ := h
  exact h1.lt
theorem FarM.same {w w' : World} {b n : Nat} {f : Nat → Option Nat} (h : FarM w b n f) (hb : w'.heap[b]? = w.heap[b]?) : FarM w' b n f := by
  obtain ⟨D, ⟨es, clock, h1, h2, h3, h4⟩, h5, h6⟩ := h
  exact ⟨D, ⟨es, clock, hb.trans h1, h2, h3, h4⟩, h5, h6⟩
theorem FarM.pure {w w' : World} {b n : Nat} {f : Nat → Option Nat} (h : FarM w b n f) (hb : Below w.heap.size w w') : FarM w' b n f := h.same (hb.block b h.lt)
theorem FarM.isMap {w : World} {b n : Nat} {f : Nat → Option Nat} (h : FarM w b n f) : ∃ es clock, w.heap[b]? = some (.map es clock) := by
  obtain ⟨D, ⟨es, clock, h1, -⟩, -⟩ := h
  exact ⟨es, clock, h1⟩
theorem FarM.look {w : World} {b n k : Nat} {f : Nat → Option Nat} (h : FarM w b n f) (hk : k < 1073741824) : (Instr.lookup 145 (.map (some b)) (.int .i64 (k : Int)) false).run Tryz.prog w = .ok (.int .i64 ((f k).getD 0 : Nat)) w := by
  obtain ⟨D, h1, -, h3⟩ := h
  obtain ⟨c, hrun, hat, -⟩ := h1.lookup_int (Maps.int_keyed Tryz.underlying3) Tryz.underlying145 Tryz.underlying3 (zeroIntE w) (Maps.keyOf_int_mk Tryz.underlying3 (wfNat hk))
  rw [(h3 k hk).2] at hat
  simp only [DataW.lit.injEq, Lit.int.injEq, true_and] at hat
  rw [hrun, hat]
theorem FarM.look_ok {w : World} {b n k : Nat} {f : Nat → Option Nat} (h : FarM w b n f) (hk : k < 1073741824) : (Instr.lookup 145 (.map (some b)) (.int .i64 (k : Int)) true).run Tryz.prog w = .ok (.tuple #[.int .i64 ((f k).getD 0 : Nat), .bool (f k).isSome]) w := by
  obtain ⟨D, h1, -, h3⟩ := h
  obtain ⟨v, ps, hrun, hv⟩ := h1.look_ok (Maps.int_keyed Tryz.underlying3) Tryz.underlying145 (zeroIntE w) (plainElem_int Tryz.underlying3 (by decide)) (Maps.keyOf_int_mk Tryz.underlying3 (wfNat hk))
  obtain ⟨c, rfl, hc, -⟩ := plainElem_int_inv Tryz.underlying3 hv
  rw [(h3 k hk).2] at hc
  simp only [Prod.mk.injEq, DataW.lit.injEq, Lit.int.injEq, true_and] at hc
  rw [hrun, (h3 k hk).1, hc.1]
def putF (f : Nat → Option Nat) (k v : Nat) : Nat → Option Nat := fun j => if j = k then some v else f j
theorem FarM.store {w : World} {b n k v : Nat} {f : Nat → Option Nat} (h : FarM w b n f) (hk : k < 1073741824) (hv : v < 1073741824) (hn : n < 1073741824) : ∃ w', (Instr.mapUpdate 145 (.map (some b)) (.int .i64 (k : Int)) (.int .i64 (v : Int))).run Tryz.prog w = .ok () w' ∧ FarM w' b (n + 1) (putF f k v) ∧ Only (fun x => x = b) w w' := by
  obtain ⟨D, h1, h2, h3⟩ := h
  obtain ⟨w', hrun, r1, r2⟩ := h1.update (Maps.int_keyed Tryz.underlying3) Tryz.underlying145 (Nat.lt_of_lt_of_le hn (by unfold maxLen; omega)) (Maps.keyOf_int_mk Tryz.underlying3 (wfNat hk)) (plainElem_int Tryz.underlying3 (wfNat hv))
  refine ⟨w', hrun, ⟨_, r1, h2.put _ _, fun j hj => ?_⟩, ⟨r2.os, r2.tape, r2.output, r2.size, fun x hx hn => r2.block x hx (fun e => hn (Option.some.inj e))⟩⟩
  have hkey : WideAt.IsKeyLit (.int .i64 (k : Int)) := trivial
  unfold putF
  by_cases e : j = k
  · subst e
    rw [if_pos rfl, Maps.has_put_same h2 hkey, Maps.atKey_put_same h2 hkey]
    exact ⟨rfl, rfl⟩
  · rw [if_neg e]
    have hne : (Lit.int .i64 (j : Int)) ≠ Lit.int .i64 (k : Int) := by
      intro h
      simp only [Lit.int.injEq, true_and] at h
      omega
    rw [Maps.has_put_other hne, Maps.atKey_put_other hne]
    exact h3 j hj
def ImgS (n0 : Nat) (w : World) : Bk := fun x => x < n0 ∨ (x < w.heap.size ∧ ∃ arr fz, w.heap[x]? = some (.cells arr 32 fz) ∨ w.heap[x]? = some (.cells arr 3 fz))
def Img (n0 : Nat) (w : World) (v : Value) (g : List (List Int)) : Prop := Sl (Sl IntV) (ImgS n0 w) w v g
theorem Img.of_grid {n0 : Nat} {w : World} {v : Value} {g : List (List Int)} (h : Grid w v g) (hn : w.heap.size ≤ n0) : Img n0 w v g := (rSl (rSl rIntV)).mono (fun _ hb => .inl (Nat.lt_of_lt_of_le hb hn)) h
theorem Img.grid {n0 : Nat} {w : World} {v : Value} {g : List (List Int)} (h : Img n0 w v g) : Grid w v g := (rSl (rSl rIntV)).rd h
theorem Img.of_own {n0 : Nat} {S : Bk} {w : World} {v : Value} {g : List (List Int)} (h : Own 32 (Own 3 IntV) S w v g) : Img n0 w v g := by
  rcases h with ⟨rfl, rfl⟩ | ⟨b, arr, rfl, hg, hh, h1, h2, h3, T, hT1, hT2, hT3⟩
  · exact ⟨none, 0, rfl, by simp, by simp, fun _ => rfl, fun h => by simp at h⟩
  · refine ⟨_, _, rfl, h1, Nat.le_trans h3 (by decide), fun h => by simp at h, fun _ => ⟨b, 0, rfl, .inr ⟨lt_of_block hh, arr, _, .inl hh⟩, fun k x hk => ?_⟩⟩
    obtain ⟨u, hu, hr⟩ := hT3 k x hk
    refine ⟨u, by rw [cell_of_row w b _ arr _ (0, 0) hh, Nat.zero_add]; exact hu, ?_⟩
    rcases hr with ⟨rfl, rfl⟩ | ⟨b2, arr2, rfl, hg2, hh2, h12, h22, h32, T2, hT12, hT22, hT32⟩
    · exact ⟨none, 0, rfl, by simp, by simp, fun _ => rfl, fun h => by simp at h⟩
    · refine ⟨_, _, rfl, h12, Nat.le_trans h32 (by decide), fun h => by simp at h, fun _ => ⟨b2, 0, rfl, .inr ⟨lt_of_block hh2, arr2, _, .inr hh2⟩, fun k2 x2 hk2 => ?_⟩⟩
      obtain ⟨u2, hu2, hr2⟩ := hT32 k2 x2 hk2
      exact ⟨u2, by rw [cell_of_row w b2 _ arr2 _ (0, 0) hh2, Nat.zero_add]; exact hu2, hr2⟩
theorem Img.only {n0 : Nat} {T : Bk} {w w' : World} {v : Value} {g : List (List Int)} (h : Img n0 w v g) (ho : Only T w w') (hT : ∀ x, T x → ¬ ImgS n0 w x) : Img n0 w' v g := by
  have hin := (rSl (rSl rIntV)).inH h
  have hsame : ∀ x, (ImgS n0 w x ∧ x < w.heap.size) → w'.heap[x]? = w.heap[x]? := fun x hx => ho.block x hx.2 (fun ht => hT x ht hx.1)
  refine (rSl (rSl rIntV)).mono (fun x hx => ?_) ((rSl (rSl rIntV)).same hsame hin)
  rcases hx.1 with h1 | ⟨h1, arr, fz, h2⟩
  · exact .inl h1
  · exact .inr ⟨Nat.lt_of_lt_of_le h1 ho.size, arr, fz, by rw [hsame x hx]; exact h2⟩
theorem Img.pure {n0 : Nat} {w w' : World} {v : Value} {g : List (List Int)} (h : Img n0 w v g) (hb : Below w.heap.size w w') : Img n0 w' v g := h.only (Only.of_pure hb fun _ => False) (fun _ hx => hx.elim)
theorem not_img {n0 x : Nat} {w : World} {arr : Array Value} {E : TypeId} {fz : Nat × Nat} (hn : n0 ≤ x) (h : w.heap[x]? = some (.cells arr E fz)) (h1 : E ≠ 32) (h2 : E ≠ 3) : ¬ ImgS n0 w x := by
  rintro (h3 | ⟨-, a2, f2, h3 | h3⟩)
  · omega
  · rw [h] at h3; simp at h3; exact h1 h3.2.1
  · rw [h] at h3; simp at h3; exact h2 h3.2.1
theorem not_img_map {n0 b n : Nat} {w : World} {f : Nat → Option Nat} (hn : n0 ≤ b) (h : FarM w b n f) : ¬ ImgS n0 w b := by
  obtain ⟨es, ck, h⟩ := h.isMap
  rintro (h3 | ⟨-, a2, f2, h3 | h3⟩)
  · omega
  · rw [h] at h3; simp at h3
  · rw [h] at h3; simp at h3
structure ImgL (n0 : Nat) (X : Bk) (w : World) (qv : Value) (gs : List (List (List Int))) : Prop where
  q : ∃ us, Own 31 AnyV (fun x => n0 ≤ x ∧ ¬ X x ∧ x < w.heap.size) w qv us ∧ us.length = gs.length ∧ ∀ (k : Nat) (u : Value) (g : List (List Int)), us[k]? = some u → gs[k]? = some g → Img n0 w u g
theorem ImgL.shape {n0 : Nat} {X : Bk} {w : World} {qv : Value} {gs : List (List (List Int))} (h : ImgL n0 X w qv gs) : ∃ a c, qv = .slice a gs.length c := by
  obtain ⟨us, h1, h2, -⟩ := h.q
  rcases h1.inv with ⟨rfl, rfl⟩ | ⟨g, cap, rfl, -⟩
  · exact ⟨none, 0, by rw [← h2]; rfl⟩
  · exact ⟨_, cap, by rw [h2]⟩
theorem ImgL.pure {n0 : Nat} {X : Bk} {w w' : World} {qv : Value} {gs : List (List (List Int))} (h : ImgL n0 X w qv gs) (hb : Below w.heap.size w w') : ImgL n0 X w' qv gs := by
  obtain ⟨us, h1, h2, h3⟩ := h.q
  exact ⟨us, (rOwn rAnyV).mono (fun x hx => ⟨hx.1, hx.2.1, Nat.lt_of_lt_of_le hx.2.2 hb.size⟩) ((rOwn rAnyV).same (sameOn_below hb fun x hx => hx.2.2) h1), h2, fun k u g hu hg => (h3 k u g hu hg).pure hb⟩
theorem ImgL.only {n0 : Nat} {X T : Bk} {w w' : World} {qv : Value} {gs : List (List (List Int))} (h : ImgL n0 X w qv gs) (ho : Only T w w') (hX : ∀ x, T x → X x) (hT : ∀ x, T x → ¬ ImgS n0 w x) : ImgL n0 X w' qv gs := by
  obtain ⟨us, h1, h2, h3⟩ := h.q
  exact ⟨us, (rOwn rAnyV).mono (fun x hx => ⟨hx.1, hx.2.1, Nat.lt_of_lt_of_le hx.2.2 ho.size⟩) (Own.only rAnyV h1 ho (fun x hx => hx.2.2) (fun x hx ht => hx.2.1 (hX x ht))), h2, fun k u g hu hg => (h3 k u g hu hg).only ho hT⟩
theorem ImgL.at {n0 : Nat} {X : Bk} {w : World} {qv : Value} {gs : List (List (List Int))} (h : ImgL n0 X w qv gs) {k : Nat} {g : List (List Int)} (hk : gs[k]? = some g) : ∃ b c u, qv = .slice (some ⟨b, 0, none⟩) gs.length c ∧ b < w.heap.size ∧ w.cell? ⟨b, k, none⟩ = some u ∧ Img n0 w u g := by
  obtain ⟨us, h1, h2, h3⟩ := h.q
  have hkl := (List.getElem?_eq_some_iff.1 hk).1
  rcases h1 with ⟨rfl, rfl⟩ | ⟨b, arr, rfl, hS, hh, e1, e2, e3, T, t1, t2, t3⟩
  · simp at h2; omega
  · obtain ⟨u, hu⟩ : ∃ u, us[k]? = some u := ⟨_, List.getElem?_eq_getElem (by omega)⟩
    obtain ⟨u', hu', rfl, -⟩ := t3 k u hu
    exact ⟨b, arr.size, u', by rw [h2], lt_of_block hh, by rw [cell_of_row w b _ arr _ (0, 0) hh]; exact hu', h3 k u' g hu hk⟩
theorem ImgL.grids {n0 : Nat} {X : Bk} {w : World} {qv : Value} {gs : List (List (List Int))} (h : ImgL n0 X w qv gs) : Grids w qv gs := by
  obtain ⟨us, h1, h2, h3⟩ := h.q
  exact Heads.list ⟨h2, fun k u g hu hg => (h3 k u g hu hg).grid⟩ h1
theorem ImgL.own_not {n0 : Nat} {X : Bk} {w : World} {qv : Value} {gs : List (List (List Int))} (h : ImgL n0 X w qv gs) : ∀ x, qv.ownBlock = some x → n0 ≤ x ∧ ¬ X x ∧ x < w.heap.size ∧ (∃ arr, w.heap[x]? = some (.cells arr 31 (0, 0))) ∧ ¬ ImgS n0 w x := by
  intro x hx
  obtain ⟨us, h1, h2, h3⟩ := h.q
  have hS := h1.ownBlock' x hx
  rcases h1 with ⟨rfl, rfl⟩ | ⟨b, arr, rfl, -, hh, -⟩
  · simp [Value.ownBlock] at hx
  · simp [Value.ownBlock] at hx
    subst hx
    exact ⟨hS.1, hS.2.1, hS.2.2, ⟨arr, hh⟩, not_img hS.1 hh (by decide) (by decide)⟩
def SwBlk (w : World) (g : Nat) (ss : List Sw) : Prop := ∃ arr fz, w.heap[g]? = some (.cells arr 65 fz) ∧ ∀ (k : Nat) (s : Sw), ss[k]? = some s → ∀ (j : Nat) (u : Value), (swC s)[j]? = some u → arr[k * 4 + j]? = some u
theorem SwBlk.same {w w' : World} {g : Nat} {ss : List Sw} (h : SwBlk w g ss) (hb : w'.heap[g]? = w.heap[g]?) : SwBlk w' g ss := by
  obtain ⟨arr, fz, h1, h2⟩ := h
  exact ⟨arr, fz, hb.trans h1, h2⟩
theorem SwBlk.lt {w : World} {g : Nat} {ss : List Sw} (h : SwBlk w g ss) : g < w.heap.size := by
  obtain ⟨arr, fz, h1, -⟩ := h
  exact lt_of_block h1
theorem SwBlk.pure {w w' : World} {g : Nat} {ss : List Sw} (h : SwBlk w g ss) (hb : Below w.heap.size w w') : SwBlk w' g ss := h.same (hb.block g h.lt)
theorem SwBlk.only {T : Bk} {w w' : World} {g : Nat} {ss : List Sw} (h : SwBlk w g ss) (ho : Only T w w') (hn : ¬ T g) : SwBlk w' g ss := h.same (ho.block g h.lt hn)
theorem SwBlk.cells {w : World} {g : Nat} {ss : List Sw} (h : SwBlk w g ss) {k : Nat} {s : Sw} (hk : ss[k]? = some s) {j : Nat} {u : Value} (hj : (swC s)[j]? = some u) : w.cell? ⟨g, k * 4 + j, none⟩ = some u := by
  obtain ⟨arr, fz, h1, h2⟩ := h
  rw [cell_of_row w g _ arr _ fz h1]
  exact h2 k s hk j u hj
theorem SwBlk.not_type {w : World} {g x : Nat} {ss : List Sw} (h : SwBlk w g ss) {arr : Array Value} {E : TypeId} {fz : Nat × Nat} (hx : w.heap[x]? = some (.cells arr E fz)) (hE : E ≠ 65) : g ≠ x := by
  rintro rfl
  obtain ⟨arr2, fz2, h1, -⟩ := h
  rw [hx] at h1
  simp at h1
  exact hE h1.2.1
theorem OwnSw.blk {B : Nat} {w : World} {v : Value} {l : List Sw} (h : OwnSw B w v l) (hne : 0 < l.length) : ∃ g cap, v = .slice (some ⟨g, 0, none⟩) l.length cap ∧ B ≤ g ∧ SwBlk w g l := by
  obtain ⟨hl, h5 | ⟨g, cap, cur, rfl, hB, hh, -, -, -, h9⟩⟩ := id h
  · omega
  · refine ⟨g, cap, rfl, hB, cur, _, hh, fun k s hk j u hj => ?_⟩
    have hj4 : j < 4 := by have := (List.getElem?_eq_some_iff.1 hj).1; simpa [swC] using this
    have hkl := (List.getElem?_eq_some_iff.1 hk).1
    have e := swCs_at hk j hj4
    rw [← h9, List.getElem?_take, if_pos (by omega), Array.getElem?_toList] at e
    rw [e, hj]
end Go.Proofs.YthmocomfjgmjoaaGreatDoor

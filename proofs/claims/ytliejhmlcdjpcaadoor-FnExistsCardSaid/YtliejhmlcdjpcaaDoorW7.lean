/- Contracts: MostIn, SlackOf of the program; MakeSums. -/
import Derived.Test.YtliejhmlcdjpcaaDoorW5
import Derived.Deep.RegionWith
namespace Go.Proofs.YtliejhmlcdjpcaaDoor
open Go.RowKit

theorem mostL_take {xs : List Int} {j k : Nat} {x : Int} (h : xs[j]? = some x) : mostL (xs.take (j + 1)) k = mostL (xs.take j) k + min x k := by
  unfold mostL
  rw [List.take_add_one, h, Option.toList_some, List.map_append, List.map_cons, List.map_nil]
  exact sumL_append1 _ _
theorem mostL_bd {xs : List Int} (h : ∀ x ∈ xs, 0 ≤ x ∧ x ≤ 5) (k : Nat) : ∀ j, 0 ≤ mostL (xs.take j) k ∧ mostL (xs.take j) k ≤ 5 * j := by
  intro j
  induction j with
  | zero => simp [mostL, sumL]
  | succ j ih =>
    cases hx : xs[j]? with
    | none =>
      have : xs.take (j + 1) = xs.take j := by rw [List.take_add_one, hx]; simp
      rw [this]; omega
    | some x =>
      have := h x (List.mem_of_getElem? hx)
      rw [mostL_take hx]
      omega
set_option maxRecDepth 100000 in
set_option maxHeartbeats 1000000 in
theorem MostIn_i (v : Value) (xs : List Int) (k n : Nat) (w : World) (hv : Ints w v xs) (h1 : 1 ≤ n) (h5 : n ≤ 5) (hl : xs.length ≤ 5) (hall : xs.all (inR 0 n) = true) (hk : k ≤ n) : Calls Tryd.prog 30 #[v, .int .i64 k, .int .i64 n] w fun e w' => e = .returned (.int .i64 (mostL xs k)) ∧ Below w.heap.size w w' := by
  have Hv := Lib.hid hv
  have Hall := Lib.hid hall
  have Hb5 := Lib.hid (show ∀ x ∈ xs, 0 ≤ x ∧ x ≤ 5 from fun x hx => by
    have := List.all_eq_true.1 hall x hx
    rw [inR_iff] at this
    omega)
  have Hr := Lib.hid (show inR 0 (n : Int) k = true from inR_t (by omega) (by omega))
  obtain ⟨a, cap, rfl, -⟩ := hv
  clear hall
  go_enter Tryd.func30, Tryd.ntmps30
  go_wp2_with (fail)
  refine (ConjugateOf_i _ xs n _ Hv.out h1 h5 hl Hall.out).mono ?_
  rintro e w1 ⟨v1, rfl, o1, b1⟩
  obtain ⟨g, gc, rfl, -, -, -, -⟩ := o1.inv_ne (by rw [conjOf_len]; omega)
  rw [conjOf_len]
  have heqn := fun (w : World) (a : Option Addr) (n c n' c' : Nat) => Lib.run_eql_slice_nil (P := Tryd.prog) w 24 3 a n c n' c' Tryd.underlying24
  clear o1
  go_wp2_with (fail)
  refine (within_c _ _ _ _).mono ?_
  rintro e w' ⟨rfl, rfl⟩
  rw [Hr.out]
  clear heqn
  go_wp2
  go_loopw [7, 9, 22] (fun sv _ i wr => ∃ j : Nat, j ≤ xs.length ∧ i = .int .i64 j ∧ sv = .int .i64 (mostL (xs.take j) k) ∧ Hid (Below w1.heap.size w1 wr)) (fun _ _ i _ => xs.length - (intOf i).toNat)
  case atStart => exact ⟨0, Nat.zero_le _, rfl, by simp [mostL, sumL], Below.refl _ _⟩
  case round =>
    obtain ⟨j, hj, rfl, rfl, Hb⟩ := hrel
    have hbd := mostL_bd Hb5.out k j
    obtain ⟨S, hS⟩ : ∃ S, S = mostL (xs.take j) k := ⟨_, rfl⟩
    rw [← hS] at hbd ⊢
    have HS := Lib.hid hS
    clear hS
    by_cases hlt : j < xs.length
    · obtain ⟨x, hx⟩ : ∃ x, xs[j]? = some x := ⟨_, List.getElem?_eq_getElem hlt⟩
      have hx5 := Hb5.out x (List.mem_of_getElem? hx)
      obtain ⟨b, off, cpr, he, hb, -⟩ := Hv.out.inv_ne (by omega)
      obtain ⟨rfl, -⟩ : a = some ⟨b, off, none⟩ ∧ cap = cpr := by simpa using he
      have hcx := ((b1.trans_pure Hb.out (Nat.le_refl _)).cell (p := ⟨b, off + j, none⟩) hb).trans (Ints.at Hv.out hx)
      have Hst := Lib.hid (mostL_take (k := k) hx)
      rw [← HS.out] at Hst
      clear hx he
      have Hs2 := Lib.hid (show mostL (xs.take (j + 1)) k = S + min (k : Int) x from by rw [Hst.out, Int.min_comm])
      go_wp2
      go_roundw
      case rel => exact ⟨j + 1, by omega, by go_num, by rw [Hs2.out], Hb⟩
      case measure => simp [intOf]; omega
    · obtain rfl : j = xs.length := by omega
      have Hfin := Lib.hid (show S = mostL xs k from by rw [HS.out, List.take_length])
      go_wp2
      go_ret
      exact ⟨retI Hfin.out, b1.trans_pure Hb.out (Nat.le_refl _)⟩
theorem mostL_all {xs : List Int} {n : Nat} (h : ∀ x ∈ xs, x ≤ n) : mostL xs n = sumL xs := by
  unfold mostL
  congr 1
  have : xs.map (fun x => min x (n : Int)) = xs.map id := List.map_congr_left fun x hx => Int.min_eq_left (h x hx)
  rw [this, List.map_id]
set_option maxRecDepth 100000 in
set_option maxHeartbeats 2000000 in
theorem SlackOf_i (v v2 : Value) (xs ys : List Int) (w : World) (hv : Ints w v xs) (hv2 : Ints w v2 ys) : Calls Tryd.prog 27 #[v, v2] w fun e w' => e = .returned (.int .i64 (if existsB xs ys then 0 else -1)) ∧ Below w.heap.size w w' := by
  have Hv := Lib.hid hv
  have Hv2 := Lib.hid hv2
  obtain ⟨a, cap, rfl, -⟩ := hv
  obtain ⟨a2, cap2, rfl, -⟩ := hv2
  cases hex : existsB xs ys
  · have Hex := Lib.hid hex
    clear hex
    go_enter Tryd.func27, Tryd.ntmps27
    go_wp2_with (fail)
    refine (Exists_i _ _ _ _ _ Hv.out Hv2.out).mono ?_
    rintro e w1 ⟨rfl, b1⟩
    rw [Hex.out]
    go_wp2
    go_ret
    exact ⟨rfl, b1⟩
  have hok := existsB_ok hex
  obtain ⟨x1, x5, y1, y5, -, -, hsum⟩ := sumsOk_bd hok
  obtain ⟨ax, ay⟩ := sumsOk_all hok
  have Hax := Lib.hid ax
  have Hsy := Lib.hid (show ∀ k, Small ((sortD ys).take k) from fun k => sortD_small ay (by omega) y5)
  have Hnm := Lib.hid (show ∀ k, 1 ≤ k → k ≤ ys.length → ¬ tooMuch xs ys k from by
    have h := hex
    unfold existsB worst at h
    rw [hok] at h
    simp at h
    exact worstK_zero.1 h)
  have Hlast := Lib.hid (show mostL xs ys.length - sumL ((sortD ys).take ys.length) = 0 from by
    rw [mostL_all (fun x hx => by have := List.all_eq_true.1 ax x hx; rw [inR_iff] at this; exact this.2), List.take_of_length_le (by rw [sortD_len]; exact Nat.le_refl _), sumL_perm (sortD_perm ys), hsum]; omega)
  have Hbx := Lib.hid (show ∀ x ∈ xs, 0 ≤ x ∧ x ≤ 5 from fun x hx => by
    have := List.all_eq_true.1 ax x hx
    rw [inR_iff] at this
    omega)
  have Hex := Lib.hid hex
  clear hex hok ax ay hsum
  go_enter Tryd.func27, Tryd.ntmps27
  go_wp2_with (fail)
  refine (Exists_i _ _ _ _ _ Hv.out Hv2.out).mono ?_
  rintro e w1 ⟨rfl, b1⟩
  rw [Hex.out]
  go_wp2_with (fail)
  refine (SortedDown_i _ ys _ (Hv2.out.keep b1) y1 (by omega)).mono ?_
  rintro e w2 ⟨v2, rfl, o2, b2⟩
  obtain ⟨g2, c2, rfl, -, hc2, -, -⟩ := o2.inv_ne (by rw [sortD_len]; omega)
  rw [sortD_len] at hc2 ⊢
  have ho2 := o2.ints
  rw [sortD_len] at ho2
  have Ho2 := Lib.hid ho2
  have hbb := b1.trans_pure b2 (Nat.le_refl _)
  clear o2 ho2
  go_wp2
  go_loopw [6, 7] (fun lv i wr => ∃ (k : Nat) (l : Int), 1 ≤ k ∧ k ≤ ys.length + 1 ∧ i = .int .i64 k ∧ lv = .int .i64 l ∧ 0 ≤ l ∧ l ≤ 25 ∧ Hid (k = ys.length + 1 → l = 0) ∧ Hid (Below w2.heap.size w2 wr)) (fun _ i _ => (ys.length + 1 - intOf i).toNat)
  case atStart => exact ⟨1, 25, Nat.le_refl _, by omega, rfl, rfl, by omega, by omega, Lib.hid (fun h => by omega), Below.refl _ _⟩
  case round =>
    obtain ⟨k, l, hk1, hk, rfl, rfl, hl0, hl1, Hl, Hb⟩ := hrel
    by_cases hle : k ≤ ys.length
    · have hd : decide ((k : Int) ≤ (ys.length : Int)) = true := by rw [decide_eq_true_eq]; omega
      have hkc2 : k ≤ c2 := by omega
      have hmb := mostL_bd Hbx.out k xs.length
      rw [List.take_length] at hmb
      obtain ⟨z1, hz1⟩ : ∃ z, z = mostL xs k := ⟨_, rfl⟩
      obtain ⟨z2, hz2⟩ : ∃ z, z = sumL ((sortD ys).take k) := ⟨_, rfl⟩
      rw [← hz1] at hmb
      have hz12 : z2 ≤ z1 := by
        have := Hnm.out k hk1 hle
        unfold tooMuch at this
        omega
      have hz0 : -5242880 ≤ z2 ∧ z2 ≤ 5242880 := by
        rw [hz2]; exact small_sum (Hsy.out k) (by rw [List.length_take, sortD_len]; omega)
      have Hz1 := Lib.hid hz1
      have Hz2 := Lib.hid hz2
      have Hkl := Lib.hid (show k = ys.length → z1 - z2 = 0 from fun e => by rw [hz1, hz2, e]; exact Hlast.out)
      clear hz1 hz2
      have HB := Lib.hid (show Below w2.heap.size w2 wr.drew from Hb.out.drew)
      have hxl : xs.length ≤ 5 := x5
      have Hpre := Lib.hid (show ∀ w', Below w2.heap.size w2 w' → Ints w' (.slice (some ⟨g2, 0, none⟩) k c2) ((sortD ys).take k) from fun w' hb => Ints.pre (Ints.keep Ho2.out hb) (by rw [sortD_len]; exact hle))
      have HX := Lib.hid (show ∀ w', Below w2.heap.size w2 w' → Ints w' (.slice a xs.length cap) xs from fun w' hb => Hv.out.keep (hbb.trans_pure hb (Nat.le_refl _)))
      go_wp2
      go_region_with (first | (go_at_call 30; refine (MostIn_i _ xs k ys.length _ (HX.out _ HB.out) y1 y5 hxl Hax.out hle).mono ?_; rintro e w5 ⟨rfl, b5⟩; rw [← Hz1.out]; replace HB := Lib.hid (HB.out.trans_pure b5 (Nat.le_refl _))) | (go_at_call 61; refine (sumOf_c _ _ _ (Hpre.out _ HB.out) (Hsy.out k)).mono ?_; rintro e w5 ⟨rfl, rfl⟩; rw [← Hz2.out]))
      all_goals go_wp2
      all_goals go_roundw
      all_goals first
        | (case rel => exact ⟨k + 1, min l (z1 - z2), by omega, by omega, by go_num, rfl, by omega, by omega, Lib.hid (fun h => by have := Hkl.out (by omega); omega), HB⟩)
        | (case measure => simp [intOf]; omega)
    · obtain rfl : l = 0 := Hl.out (by omega)
      have hd : decide ((k : Int) ≤ (ys.length : Int)) = false := by rw [decide_eq_false_iff_not]; omega
      go_wp2
      go_ret
      exact ⟨retI (by simp), hbb.trans_pure Hb.out (Nat.le_refl _)⟩
end Go.Proofs.YtliejhmlcdjpcaaDoor

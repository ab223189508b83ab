/- Contracts: the reference's SumsOk, WorstColumns, Exists. -/
import Derived.Test.YtliejhmlcdjpcaaX2
import Derived.Test.YtliejhmlcdjpcaaAll2
import Derived.Test.YtliejhmlcdjpcaaC14
namespace Go.Proofs.Ytliejhmlcdjpcaa
open Go.RowKit

theorem Sl.pre {α : Type} {R : RepT α} {S : Bk} {w : World} {a : Option Addr} {n c : Nat} {xs : List α} (h : Sl R S w (.slice a n c) xs) {k : Nat} (hk : k ≤ xs.length) : Sl R S w (.slice a k c) (xs.take k) := by
  obtain ⟨a', cap', he, h1, h2, h3, h4⟩ := h
  simp only [Value.slice.injEq] at he
  obtain ⟨rfl, rfl, rfl⟩ := he
  have hl : (xs.take k).length = k := by rw [List.length_take]; omega
  refine ⟨a, c, by rw [hl], by omega, by omega, h3, fun h0 => ?_⟩
  obtain ⟨b, off, rfl, hb, hc⟩ := h4 (by omega)
  refine ⟨b, off, rfl, hb, fun j x hj => hc j x ?_⟩
  rw [List.getElem?_take] at hj
  split at hj
  · exact hj
  · cases hj
theorem Ints.pre {w : World} {a : Option Addr} {n c : Nat} {xs : List Int} (h : Ints w (.slice a n c) xs) {k : Nat} (hk : k ≤ xs.length) : Ints w (.slice a k c) (xs.take k) := Sl.pre h hk
theorem conjOf_len (xs : List Int) (n : Nat) : (conjOf xs n).length = n := by simp [conjOf]
theorem conjOf_bd {xs : List Int} {n : Nat} : ∀ x ∈ conjOf xs n, 0 ≤ x ∧ x ≤ xs.length := by
  intro x hx
  unfold conjOf at hx
  obtain ⟨i, -, rfl⟩ := List.mem_map.1 hx
  have := List.length_filter_le (fun x => decide ((i : Int) < x)) xs
  omega
theorem conj_small {xs : List Int} {n k : Nat} (h : xs.length ≤ 5) (hn : n ≤ 5) : Small ((conjOf xs n).take k) := by
  refine ⟨by rw [List.length_take, conjOf_len]; omega, fun x hx => ?_⟩
  have := conjOf_bd x (List.mem_of_mem_take hx)
  omega
theorem sortD_small {ys : List Int} {k : Nat} {m : Int} (h : ys.all (inR 0 m) = true) (hm : m ≤ 5) (hl : ys.length ≤ 5) : Small ((sortD ys).take k) := by
  refine ⟨by rw [List.length_take, sortD_len]; omega, fun x hx => ?_⟩
  have h1 : x ∈ ys := (sortD_perm ys).mem_iff.1 (List.mem_of_mem_take hx)
  have := List.all_eq_true.1 h x h1
  rw [inR_iff] at this
  omega
theorem sumsOk_all {xs ys : List Int} (h : sumsOk xs ys = true) : xs.all (inR 0 ys.length) = true ∧ ys.all (inR 0 xs.length) = true := by
  unfold sumsOk at h
  simp only [Bool.and_eq_true] at h
  exact ⟨h.1.1.2, h.1.2⟩
theorem conj_sum {xs ys : List Int} (h : sumsOk xs ys = true) {k : Nat} (hk : k ≤ ys.length) : sumL ((conjOf xs ys.length).take k) = mostL xs k :=
  conj_take (fun x hx => by have := List.all_eq_true.1 (sumsOk_all h).1 x hx; rw [inR_iff] at this; exact this.1) hk
theorem worstK_first {xs ys : List Int} {k : Nat} (h1 : 1 ≤ k) (h2 : k ≤ ys.length) (h : tooMuch xs ys k) (hb : ∀ i, 1 ≤ i → i < k → ¬ tooMuch xs ys i) : worstK xs ys = k := by
  unfold worstK
  have e : (List.range ys.length).find? (fun i => decide (tooMuch xs ys (i + 1))) = some (k - 1) := by
    rw [List.find?_range_eq_some]
    refine ⟨by rw [show k - 1 + 1 = k by omega]; exact decide_eq_true h, List.mem_range.2 (by omega), fun j hj => ?_⟩
    have := hb (j + 1) (by omega) (by omega)
    simp [this]
  rw [e]
  dsimp only
  omega
theorem worst_le (xs ys : List Int) : worst xs ys ≤ ys.length := by
  unfold worst
  split
  · by_cases h : worstK xs ys = 0
    · omega
    · exact (worstK_pos h).2.1
  · omega
theorem small_sum {xs : List Int} (h : Small xs) (hl : xs.length ≤ 5) : -5242880 ≤ sumL xs ∧ sumL xs ≤ 5242880 := by
  have := sumL_small h xs.length (Nat.le_refl _)
  rw [List.take_length] at this
  omega
set_option maxHeartbeats 1000000 in
set_option maxRecDepth 100000 in
theorem SumsOk_s (v v2 : Value) (xs ys : List Int) (w : World) (hv : Ints w v xs) (hv2 : Ints w v2 ys) : Calls Try.prog 87 #[v, v2] w fun e w' => e = .returned (.bool (sumsOk xs ys)) ∧ w = w' := by
  have Hv := Lib.hid hv
  have Hv2 := Lib.hid hv2
  obtain ⟨a, cap, rfl, -, hle, -, hc⟩ := hv
  obtain ⟨a2, cap2, rfl, -, hle2, -, hc2⟩ := hv2
  cases hs : (inR 1 5 xs.length && inR 1 5 ys.length)
  · have Hf := Lib.hid (show sumsOk xs ys = false from by unfold sumsOk; rw [hs]; rfl)
    have Hs := Lib.hid hs; clear hs
    go_enter Try.func87, Try.ntmps87
    go_wp2_with (fail)
    refine (l03Size_c _ _ _).mono ?_
    rintro e w' ⟨rfl, rfl⟩
    rw [Hs.out]
    go_wp2
    go_ret
    exact ⟨retB Hf.out.symm, rfl⟩
  have hs' := hs
  rw [Bool.and_eq_true, inR_iff, inR_iff] at hs'
  obtain ⟨⟨h1, h2⟩, h3, h4⟩ := hs'
  have Hs := Lib.hid hs; clear hs
  go_enter Try.func87, Try.ntmps87
  go_wp2_with (fail)
  refine (l03Size_c _ _ _).mono ?_
  rintro e w' ⟨rfl, rfl⟩
  rw [Hs.out]
  go_wp2
  go_loopw [17] (fun i wr => ∃ k : Nat, k ≤ xs.length ∧ i = .int .i64 k ∧ Hid (∀ x ∈ xs.take k, inR 0 (ys.length : Int) x = true) ∧ w = wr) (fun i _ => xs.length - (intOf i).toNat)
  case atStart => exact ⟨0, Nat.zero_le _, rfl, (by intro x hx; simp at hx), rfl⟩
  case round =>
    obtain ⟨k, hk, rfl, Hall, rfl⟩ := hrel
    by_cases hlt : k < xs.length
    · obtain ⟨b, off, rfl, hb, hcc⟩ := hc (by omega)
      obtain ⟨x, hx⟩ : ∃ x, xs[k]? = some x := ⟨_, List.getElem?_eq_getElem hlt⟩
      obtain ⟨u, hck, rfl, -⟩ := hcc k x hx
      have Hx := Lib.hid hx
      clear hcc hx hc
      cases hin : inR 0 (ys.length : Int) x
      · have Hin := Lib.hid hin
        have Hf := Lib.hid (show sumsOk xs ys = false from by
          cases hh : sumsOk xs ys
          · rfl
          · have := List.all_eq_true.1 (sumsOk_all hh).1 x (List.mem_of_getElem? Hx.out)
            rw [hin] at this; cases this)
        clear hin
        go_wp2_with (fail)
        refine (l01In_c _ _ _ _).mono ?_
        rintro e w' ⟨rfl, rfl⟩
        rw [Hin.out]
        go_wp2
        go_ret
        exact ⟨retB Hf.out.symm, rfl⟩
      · have Hin := Lib.hid hin
        clear hin
        have Hall2 := Lib.hid (show ∀ z ∈ xs.take (k + 1), inR 0 (ys.length : Int) z = true from by
          intro z hz
          rw [List.take_add_one, Hx.out] at hz
          rcases List.mem_append.1 hz with h | h
          · exact Hall.out z h
          · simp at h; rw [h]; exact Hin.out)
        go_wp2_with (fail)
        refine (l01In_c _ _ _ _).mono ?_
        rintro e w' ⟨rfl, rfl⟩
        rw [Hin.out]
        go_wp2
        go_roundw
        case rel => exact ⟨k + 1, by omega, by go_num, Hall2, by first | rfl | trivial⟩
        case measure => simp [intOf]; omega
    · have Hax := Lib.hid (show xs.all (inR 0 (ys.length : Int)) = true from by
        rw [List.all_eq_true]
        have h := Hall.out
        rw [List.take_of_length_le (by omega)] at h
        exact h)
      clear Hall
      go_wp2
      go_loopw [29] (fun i wr => ∃ k : Nat, k ≤ ys.length ∧ i = .int .i64 k ∧ Hid (∀ x ∈ ys.take k, inR 0 (xs.length : Int) x = true) ∧ w = wr) (fun i _ => ys.length - (intOf i).toNat)
      case atStart => exact ⟨0, Nat.zero_le _, rfl, (by intro x hx; simp at hx), rfl⟩
      case round =>
        obtain ⟨k, hk, rfl, Hall, rfl⟩ := hrel
        by_cases hlt : k < ys.length
        · obtain ⟨b, off, rfl, hb, hcc⟩ := hc2 (by omega)
          obtain ⟨x, hx⟩ : ∃ x, ys[k]? = some x := ⟨_, List.getElem?_eq_getElem hlt⟩
          obtain ⟨u, hck, rfl, -⟩ := hcc k x hx
          have Hx := Lib.hid hx
          clear hcc hx hc2
          cases hin : inR 0 (xs.length : Int) x
          · have Hin := Lib.hid hin
            have Hf := Lib.hid (show sumsOk xs ys = false from by
              cases hh : sumsOk xs ys
              · rfl
              · have := List.all_eq_true.1 (sumsOk_all hh).2 x (List.mem_of_getElem? Hx.out)
                rw [hin] at this; cases this)
            clear hin
            go_wp2_with (fail)
            refine (l01In_c _ _ _ _).mono ?_
            rintro e w' ⟨rfl, rfl⟩
            rw [Hin.out]
            go_wp2
            go_ret
            exact ⟨retB Hf.out.symm, rfl⟩
          · have Hin := Lib.hid hin
            clear hin
            have Hall2 := Lib.hid (show ∀ z ∈ ys.take (k + 1), inR 0 (xs.length : Int) z = true from by
              intro z hz
              rw [List.take_add_one, Hx.out] at hz
              rcases List.mem_append.1 hz with h | h
              · exact Hall.out z h
              · simp at h; rw [h]; exact Hin.out)
            go_wp2_with (fail)
            refine (l01In_c _ _ _ _).mono ?_
            rintro e w' ⟨rfl, rfl⟩
            rw [Hin.out]
            go_wp2
            go_roundw
            case rel => exact ⟨k + 1, by omega, by go_num, Hall2, by first | rfl | trivial⟩
            case measure => simp [intOf]; omega
        · have hay : ys.all (inR 0 (xs.length : Int)) = true := by
            rw [List.all_eq_true]
            have h := Hall.out
            rw [List.take_of_length_le (by omega)] at h
            exact h
          have hsx := small_of_all Hax.out (by omega) (by omega)
          have hsy := small_of_all hay (by omega) (by omega)
          have Hr := Lib.hid (show sumsOk xs ys = decide (sumL xs = sumL ys) from by unfold sumsOk; rw [Hs.out, Hax.out, hay]; rfl)
          have HV := Lib.hid (show Ints w (.slice a xs.length cap) xs from Hv.out)
          have HV2 := Lib.hid (show Ints w (.slice a2 ys.length cap2) ys from Hv2.out)
          clear hay Hall
          go_wp2_with (fail)
          refine (l03Total_c _ _ _ HV.out hsx).mono ?_
          rintro e w' ⟨rfl, rfl⟩
          go_wp2_with (fail)
          refine (l03Total_c _ _ _ HV2.out hsy).mono ?_
          rintro e w' ⟨rfl, rfl⟩
          go_wp2
          go_ret
          exact ⟨retB (by rw [Hr.out, Bool.eq_iff_iff]; simp), rfl⟩
set_option maxHeartbeats 1000000 in
set_option maxRecDepth 100000 in
theorem l04Gap_c (v v2 : Value) (xs ys : List Int) (k : Nat) (w : World) (hv : Ints w v xs) (hv2 : Ints w v2 ys) (hok : sumsOk xs ys = true) (h1 : 1 ≤ k) (hk : k ≤ ys.length) : Calls Try.prog 103 #[v, v2, .int .i64 k] w fun e w' => e = .returned (.int .i64 (mostL xs k - sumL ((sortD ys).take k))) ∧ Below w.heap.size w w' := by
  obtain ⟨x1, x5, y1, y5, -, -, -⟩ := sumsOk_bd hok
  obtain ⟨ax, ay⟩ := sumsOk_all hok
  have Hv := Lib.hid hv
  have Hv2 := Lib.hid hv2
  have Hm := Lib.hid (conj_sum hok hk)
  have hsx := conj_small (k := k) x5 y5
  have hsy := sortD_small (k := k) ay (by omega) y5
  have Hsx := Lib.hid hsx
  have Hsy := Lib.hid hsy
  have Hax := Lib.hid ax
  obtain ⟨a, cap, rfl, -⟩ := hv
  obtain ⟨a2, cap2, rfl, -⟩ := hv2
  clear hok ax ay hsx hsy
  go_enter Try.func103, Try.ntmps103
  go_wp2_with (fail)
  refine (ConjugateOf_s _ xs ys.length _ Hv.out y1 y5 x5 Hax.out).mono ?_
  rintro e w1 ⟨v1, rfl, o1, b1⟩
  obtain ⟨g, c1, rfl, -, hc1, -, -⟩ := o1.inv_ne (by rw [conjOf_len]; omega)
  rw [conjOf_len] at hc1 ⊢
  have ho1 := o1.ints
  rw [conjOf_len] at ho1
  have Ho1 := Lib.hid (ho1.pre (k := k) (by rw [conjOf_len]; exact hk))
  have hkc : k ≤ c1 := by omega
  clear o1 ho1
  go_wp2_with (fail)
  refine (l03Total_c _ _ _ Ho1.out Hsx.out).mono ?_
  rintro e w' ⟨rfl, rfl⟩
  rw [Hm.out]
  go_wp2_with (fail)
  refine (SortedDown_s _ ys _ (Hv2.out.keep b1) (by omega)).mono ?_
  rintro e w2 ⟨v2, rfl, o2, b2⟩
  obtain ⟨g2, c2, rfl, -, hc2, -, -⟩ := o2.inv_ne (by rw [sortD_len]; omega)
  rw [sortD_len] at hc2 ⊢
  have ho2 := o2.ints
  rw [sortD_len] at ho2
  have Ho2 := Lib.hid (ho2.pre (k := k) (by rw [sortD_len]; exact hk))
  have hkc2 : k ≤ c2 := by omega
  clear o2 ho2
  go_wp2_with (fail)
  refine (l03Total_c _ _ _ Ho2.out Hsy.out).mono ?_
  rintro e w' ⟨rfl, rfl⟩
  have bb := b1.trans_pure b2 (Nat.le_refl _)
  have B1 := small_sum Hsx.out (by rw [List.length_take, conjOf_len]; omega)
  have B2 := small_sum Hsy.out (by rw [List.length_take, sortD_len]; omega)
  rw [Hm.out] at B1
  go_wp2
  go_ret
  exact ⟨retI (by go_num), bb⟩
set_option maxHeartbeats 1000000 in
set_option maxRecDepth 100000 in
theorem WorstColumns_s (v v2 : Value) (xs ys : List Int) (w : World) (hv : Ints w v xs) (hv2 : Ints w v2 ys) : Calls Try.prog 88 #[v, v2] w fun e w' => e = .returned (.int .i64 (worst xs ys)) ∧ Below w.heap.size w w' := by
  have Hv := Lib.hid hv
  have Hv2 := Lib.hid hv2
  obtain ⟨a, cap, rfl, -⟩ := hv
  obtain ⟨a2, cap2, rfl, -⟩ := hv2
  cases hok : sumsOk xs ys
  · have Hok := Lib.hid hok
    have Hr := Lib.hid (show worst xs ys = 0 from by unfold worst; rw [hok]; rfl)
    clear hok
    go_enter Try.func88, Try.ntmps88
    go_wp2_with (fail)
    refine (SumsOk_s _ _ _ _ _ Hv.out Hv2.out).mono ?_
    rintro e w' ⟨rfl, rfl⟩
    rw [Hok.out]
    go_wp2
    go_ret
    exact ⟨retI (by rw [Hr.out]; rfl), Below.refl _ _⟩
  have Hr := Lib.hid (show worst xs ys = worstK xs ys from by unfold worst; rw [hok]; rfl)
  obtain ⟨x1, x5, y1, y5, -, -, -⟩ := sumsOk_bd hok
  have Hok := Lib.hid hok
  clear hok
  go_enter Try.func88, Try.ntmps88
  go_wp2_with (fail)
  refine (SumsOk_s _ _ _ _ _ Hv.out Hv2.out).mono ?_
  rintro e w' ⟨rfl, rfl⟩
  rw [Hok.out]
  go_wp2
  go_loopw [5] (fun i wr => ∃ k : Nat, 1 ≤ k ∧ k ≤ ys.length + 1 ∧ i = .int .i64 k ∧ Hid (∀ i, 1 ≤ i → i < k → ¬ tooMuch xs ys i) ∧ Below w.heap.size w wr) (fun i _ => (ys.length + 1 - intOf i).toNat)
  case atStart => exact ⟨1, Nat.le_refl _, by omega, rfl, (by intro i h1 h2; omega), Below.refl _ _⟩
  case round =>
    obtain ⟨k, hk1, hk, rfl, Hno, hbel⟩ := hrel
    by_cases hle : k ≤ ys.length
    · have hd : decide ((k : Int) ≤ (ys.length : Int)) = true := by rw [decide_eq_true_eq]; omega
      go_wp2_with (fail)
      refine (l04Gap_c _ _ xs ys k _ (Hv.out.keep hbel) (Hv2.out.keep hbel) Hok.out hk1 hle).mono ?_
      rintro e w2 ⟨rfl, b2⟩
      have hb2 := hbel.trans_pure b2 (Nat.le_refl _)
      obtain ⟨z, hz⟩ : ∃ z, z = mostL xs k - sumL ((sortD ys).take k) := ⟨_, rfl⟩
      rw [← hz]
      by_cases hlt : z < 0
      · have Hw := Lib.hid (worstK_first hk1 hle (by unfold tooMuch; omega) Hno.out)
        clear hz
        go_wp2
        go_ret
        exact ⟨retI (by rw [Hr.out, Hw.out]), hb2⟩
      · have Hno2 := Lib.hid (show ∀ i, 1 ≤ i → i < k + 1 → ¬ tooMuch xs ys i from by
          intro i h1 h2
          by_cases e : i = k
          · rw [e]; unfold tooMuch; omega
          · exact Hno.out i h1 (by omega))
        clear hz
        go_wp2
        go_roundw
        case rel => exact ⟨k + 1, by omega, by omega, by go_num, Hno2, hb2⟩
        case measure => simp [intOf]; omega
    · have hd : decide ((k : Int) ≤ (ys.length : Int)) = false := by rw [decide_eq_false_iff_not]; omega
      have Hw := Lib.hid (show worstK xs ys = 0 from worstK_zero.2 fun i h1 h2 => Hno.out i h1 (by omega))
      go_wp2
      go_ret
      exact ⟨retI (by rw [Hr.out, Hw.out]; rfl), hbel⟩
set_option maxHeartbeats 1000000 in
theorem Exists_s (v v2 : Value) (xs ys : List Int) (w : World) (hv : Ints w v xs) (hv2 : Ints w v2 ys) : Calls Try.prog 69 #[v, v2] w fun e w' => e = .returned (.bool (existsB xs ys)) ∧ Below w.heap.size w w' := by
  have Hv := Lib.hid hv
  have Hv2 := Lib.hid hv2
  obtain ⟨a, cap, rfl, -⟩ := hv
  obtain ⟨a2, cap2, rfl, -⟩ := hv2
  cases hok : sumsOk xs ys
  · have Hr := Lib.hid (show existsB xs ys = false from by unfold existsB; rw [hok]; rfl)
    have Hok := Lib.hid hok
    clear hok
    go_enter Try.func69, Try.ntmps69
    go_wp2_with (first | (go_at_call 87; refine (SumsOk_s _ _ _ _ _ Hv.out Hv2.out).mono ?_; rintro e w' ⟨rfl, rfl⟩; rw [Hok.out]))
    go_ret
    exact ⟨retB (by rw [Hr.out]), Below.refl _ _⟩
  · have Hr := Lib.hid (show existsB xs ys = decide (worst xs ys = 0) from by unfold existsB; rw [hok]; rfl)
    have hwl := worst_le xs ys
    obtain ⟨x1, x5, y1, y5, -, -, -⟩ := sumsOk_bd hok
    obtain ⟨z, hz⟩ : ∃ z, z = worst xs ys := ⟨_, rfl⟩
    rw [← hz] at hwl
    have Hz := Lib.hid hz
    have Hok := Lib.hid hok
    clear hok hz
    by_cases h0 : z = 0
    · have hb : ((z : Int) == 0) = true := by rw [beq_iff_eq]; omega
      go_enter Try.func69, Try.ntmps69
      go_wp2_with (first | (go_at_call 87; refine (SumsOk_s _ _ _ _ _ Hv.out Hv2.out).mono ?_; rintro e w' ⟨rfl, rfl⟩; rw [Hok.out]) | (go_at_call 88; refine (WorstColumns_s _ _ _ _ _ Hv.out Hv2.out).mono ?_; rintro e w2 ⟨rfl, b2⟩; rw [← Hz.out]))
      go_ret
      exact ⟨retB (by rw [Hr.out, ← Hz.out, h0]; rfl), b2⟩
    · have hb : ((z : Int) == 0) = false := by rw [beq_eq_false_iff_ne]; omega
      go_enter Try.func69, Try.ntmps69
      go_wp2_with (first | (go_at_call 87; refine (SumsOk_s _ _ _ _ _ Hv.out Hv2.out).mono ?_; rintro e w' ⟨rfl, rfl⟩; rw [Hok.out]) | (go_at_call 88; refine (WorstColumns_s _ _ _ _ _ Hv.out Hv2.out).mono ?_; rintro e w2 ⟨rfl, b2⟩; rw [← Hz.out]))
      go_ret
      exact ⟨retB (by rw [Hr.out, ← Hz.out, decide_eq_false h0]), b2⟩
end Go.Proofs.Ytliejhmlcdjpcaa

/- Contracts: the bits of a number, the rectangle that proves that no image meets a mask, MaskLine. -/
import Derived.Test.YtlmjpmdkifoekaaDoorM3
import Derived.Test.YtlmjpmdkifoekaaDoorF4
import Derived.Test.YtlmjpmdkifoekaaDoorT3
import Derived.Test.YtlmjpmdkifoekaaDoorRv4
namespace Go.Proofs.YtlmjpmdkifoekaaDoor
open Go.RowKit

set_option maxHeartbeats 1000000 in
theorem l08Bits_c (s K : Nat) (w : World) (hs : s < 1099511627776) (hK : K ≤ 40) : Calls Tryd.prog 117 #[.int .i64 s, .int .i64 K] w (New 3 IntV w (membL K s)) := by
  go_enter Tryd.func117, Tryd.ntmps117
  go_wp2
  go_loopw [0, 5, 6] (fun bv ov i wr => ∃ k : Nat, k ≤ K ∧ i = .int .i64 k ∧ bv = .int .i64 ((s / 2 ^ k : Nat) : Int) ∧ Hid (Own 3 IntV (Iv w.heap.size wr.heap.size) wr ov (membL k s)) ∧ Hid (Below w.heap.size w wr)) (fun _ _ i _ => K - (intOf i).toNat)
  case atStart => exact ⟨0, Nat.zero_le _, rfl, by rw [Nat.pow_zero, Nat.div_one], own_lit0 _ _ _ rIntV, Below.pureAlloc _ _⟩
  case round =>
    obtain ⟨k, hk, rfl, rfl, Ho, Hb⟩ := hrel
    obtain ⟨wo, rfl⟩ : ∃ wo : World, wo = wr := ⟨_, rfl⟩
    have hBs := Hb.out.size
    have hml := membL_len k s
    have hml2 : (membL k s).length < 1099511627776 := by omega
    obtain ⟨p1, p2, p3, rfl⟩ := Ho.out.shape
    obtain ⟨D, hD⟩ : ∃ D, D = s / 2 ^ k := ⟨_, rfl⟩
    have Htb := Lib.hid (show s.testBit k = decide (D % 2 = 1) from by rw [testBit_div, hD])
    have Hnx := Lib.hid (show s / 2 ^ (k + 1) = D / 2 from by rw [hD, Nat.pow_succ, Nat.div_div_eq_div_mul])
    have hDb : D < 1099511627776 := by rw [hD]; exact Nat.lt_of_le_of_lt (Nat.div_le_self _ _) hs
    have Hms := Lib.hid (membL_succ k s)
    rw [← hD]
    clear hD
    by_cases hlt : k < K
    · have hkI : I64 (k : Int) := I64.small (by omega) (by omega)
      have hq : (D : Int).tdiv 2 = ((D / 2 : Nat) : Int) := by rw [Int.tdiv_eq_ediv_of_nonneg (by omega)]; rfl
      have hm : (D : Int).tmod 2 = ((D % 2 : Nat) : Int) := by rw [Int.tmod_eq_emod_of_nonneg (by omega)]; rfl
      by_cases hbit : D % 2 = 1
      · have hb1 : (((D : Int).tmod 2) == 1) = true := by rw [hm, hbit]; rfl
        have hb2 : (((D : Int) % 2) == 1) = true := by rw [beq_iff_eq]; omega
        have Hm2 := Lib.hid (show membL (k + 1) s = membL k s ++ [(k : Int)] from by rw [Hms.out, Htb.out, decide_eq_true hbit]; rfl)
        have hbit2 : (D : Int) % 2 = 1 := by omega
        clear hm hbit
        go_wp2_with (first
          | (at_builtin; (refine wpList_appR (w0 := wo) (u := .int .i64 k) rfl _ _ 24 rfl rIntV 3 Tryd.underlying24 infoInt rfl (by decide) w.heap.size wo.heap.size hBs (Nat.le_refl _) rfl rfl (by exact Ho.out) (by exact ⟨rfl, hkI⟩) hml2 ?_); intro v3 w3 o3 b3 _)
          | fail)
        exact ⟨⟨k + 1, hlt, by go_num, by rw [Hnx.out] <;> go_num, Lib.hid (by rw [Hm2.out]; exact o3), Lib.hid (Hb.out.trans b3)⟩, by simp [intOf]; omega⟩
      · have hb1 : (((D : Int).tmod 2) == 1) = false := by rw [hm, beq_eq_false_iff_ne]; omega
        have hb2 : (((D : Int) % 2) == 1) = false := by rw [beq_eq_false_iff_ne]; omega
        have Hm2 := Lib.hid (show membL (k + 1) s = membL k s from by rw [Hms.out, Htb.out, decide_eq_false hbit]; simp)
        have hbit2 : ¬ (D : Int) % 2 = 1 := by omega
        clear hm hbit
        go_wp2
        go_roundw
        case rel => exact ⟨k + 1, hlt, by go_num, by rw [Hnx.out] <;> go_num, Lib.hid (by rw [Hm2.out]; exact Ho.out), Hb⟩
        case measure => simp [intOf]; omega
    · obtain rfl : k = K := by omega
      go_wp2
      go_ret
      exact ⟨_, rfl, Ho.out, Hb.out⟩
def badR (g : List (List Int)) (xs ys : List Int) : Option (Nat × Nat) := if (maskedOf g xs ys).isEmpty then badOf (confB g xs ys) (2 ^ xs.length) (2 ^ ys.length) else none
def badA (g : List (List Int)) (xs ys : List Int) : List Int := match badR g xs ys with | some (a, _) => membL xs.length a | none => []
def badB (g : List (List Int)) (xs ys : List Int) : List Int := match badR g xs ys with | some (_, b) => membL ys.length b | none => []
theorem bad_no {g : List (List Int)} {xs ys : List Int} (h : badR g xs ys = none) : (badR g xs ys).isSome = false ∧ badA g xs ys = [] ∧ badB g xs ys = [] := by
  unfold badA badB
  rw [h]; exact ⟨rfl, rfl, rfl⟩
theorem bad_yes {g : List (List Int)} {xs ys : List Int} {a b : Nat} (h : badR g xs ys = some (a, b)) : (badR g xs ys).isSome = true ∧ badA g xs ys = membL xs.length a ∧ badB g xs ys = membL ys.length b := by
  unfold badA badB
  rw [h]; exact ⟨rfl, rfl, rfl⟩
theorem ints_nil (w : World) : Ints w (.slice none 0 0) [] := Own.ints (E := 0) (S := fun _ => False) (Own.nil _ _ _ _)
theorem pow_32 {n : Nat} (h : n ≤ 5) : 2 ^ n ≤ 32 := Nat.pow_le_pow_right (n := 2) (by decide) h
set_option maxRecDepth 100000 in
set_option maxHeartbeats 2000000 in
theorem BadRectangle_i (v vx vy : Value) (g : List (List Int)) (xs ys : List Int) (w : World) (hv : Grid w v g) (hx : Ints w vx xs) (hy : Ints w vy ys) (hok : maskOk g xs ys = true) :
    Calls Tryd.prog 10 #[v, vx, vy] w fun e w' => ∃ v1 v2, e = .returned (.tuple #[v1, v2, .bool (badR g xs ys).isSome]) ∧ Ints w' v1 (badA g xs ys) ∧ Ints w' v2 (badB g xs ys) ∧ Below w.heap.size w w' := by
  obtain ⟨hs, -⟩ := maskOk_parts hok
  obtain ⟨x1, x5, y1, y5⟩ := sumsOk_sz hs
  have hml : (maskedOf g xs ys).length ≤ 1073741824 := Nat.le_trans (List.length_filter_le _ _) (imgsOf_len xs ys)
  have Hv := Lib.hid hv
  have Hx := Lib.hid hx
  have Hy := Lib.hid hy
  have Hok := Lib.hid hok
  obtain ⟨a, cap, rfl, -⟩ := hv
  obtain ⟨ax, cx, rfl, -⟩ := hx
  obtain ⟨ay, cy, rfl, -⟩ := hy
  obtain ⟨N, hN⟩ : ∃ N, N = (maskedOf g xs ys).length := ⟨_, rfl⟩
  rw [← hN] at hml
  have HN := Lib.hid hN
  clear hok hs hN
  by_cases h0 : ¬ N = 0
  · have Hr := Lib.hid (bad_no (show badR g xs ys = none from by
      unfold badR
      rw [if_neg]
      rw [List.isEmpty_iff]
      intro e
      have := HN.out
      rw [e] at this
      exact h0 this))
    have hN1 : ((N : Int) == 0) = false := by rw [beq_eq_false_iff_ne]; omega
    have hN2 : decide ((N : Int) > 0) = true := by rw [decide_eq_true_eq]; omega
    have hN3 : (0 : Int) < (N : Int) := by omega
    have hN4 : ¬ (N : Int) = 0 := by omega
    go_enter Tryd.func10, Tryd.ntmps10
    go_wp2_with (fail)
    refine (MaskedCount_i _ _ _ _ _ _ _ Hv.out Hx.out Hy.out Hok.out).mono ?_
    rintro e w1 ⟨rfl, b1⟩
    rw [← HN.out]
    go_wp2
    refine bodyPost_ret (v := .tuple #[.slice none 0 0, .slice none 0 0, .bool false]) (by simp [results, Tryd.results10, go_sem]) rfl ?_
    exact ⟨_, _, by rw [Hr.out.1], by rw [Hr.out.2.1]; exact ints_nil _, by rw [Hr.out.2.2]; exact ints_nil _, b1⟩
  have h0 := Decidable.not_not.1 h0
  subst h0
  have Hbad := Lib.hid (show badR g xs ys = badOf (confB g xs ys) (2 ^ xs.length) (2 ^ ys.length) from by
    unfold badR
    rw [if_pos]
    rw [List.isEmpty_iff]
    exact List.length_eq_zero_iff.1 HN.out.symm)
  have hP32 := pow_32 x5
  have hQ32 := pow_32 y5
  obtain ⟨P, hP⟩ : ∃ P, P = 2 ^ xs.length := ⟨_, rfl⟩
  obtain ⟨Q, hQ⟩ : ∃ Q, Q = 2 ^ ys.length := ⟨_, rfl⟩
  have Hp1 := Lib.hid (show wrap64 ((2 : Int) ^ xs.length) = (P : Int) from by rw [hP]; exact pow_wrap12 (by omega))
  have Hp2 := Lib.hid (show wrap64 ((2 : Int) ^ ys.length) = (Q : Int) from by rw [hQ]; exact pow_wrap12 (by omega))
  rw [← hP, ← hQ] at Hbad
  rw [← hP] at hP32
  rw [← hQ] at hQ32
  have HP := Lib.hid hP
  have HQ := Lib.hid hQ
  clear hP hQ
  go_enter Tryd.func10, Tryd.ntmps10
  go_wp2_with (fail)
  refine (MaskedCount_i _ _ _ _ _ _ _ Hv.out Hx.out Hy.out Hok.out).mono ?_
  rintro e w1 ⟨rfl, b1⟩
  rw [← HN.out]
  have Hv1 := Lib.hid (Hv.out.keep b1)
  have Hx1 := Lib.hid (Hx.out.keep b1)
  have Hy1 := Lib.hid (Hy.out.keep b1)
  go_wp2
  have hp1 := Hp1.out
  have hp2 := Hp2.out
  go_loopw [9, 10] (fun i _ wr => ∃ A : Nat, A ≤ P ∧ i = .int .i64 A ∧ Hid (∀ n, n < A * Q → confB g xs ys (n / Q) (n % Q) = false) ∧ Hid (Below w1.heap.size w1 wr)) (fun i _ _ => P - (intOf i).toNat)
  case atStart => exact ⟨0, Nat.zero_le _, rfl, Lib.hid fun n hn => by omega, Lib.hid (Below.refl _ _)⟩
  case round =>
    obtain ⟨A, hA, rfl, Hno, Hb⟩ := hrel
    obtain ⟨wo, rfl⟩ : ∃ wo : World, wo = wr := ⟨_, rfl⟩
    by_cases hlt : A < P
    · have HA := Lib.hid (show A < 2 ^ xs.length from by rw [← HP.out]; exact hlt)
      go_wp2
      rw [Hp1.out]
      go_loopw [10] (fun j  wr => ∃ B : Nat, B ≤ Q ∧ j = .int .i64 B ∧ Hid (∀ n, n < A * Q + B → confB g xs ys (n / Q) (n % Q) = false) ∧ Hid (Below w1.heap.size w1 wr)) (fun j  _ => Q - (intOf j).toNat)
      case atStart => exact ⟨0, Nat.zero_le _, rfl, Lib.hid fun n hn => Hno.out n (by omega), Hb⟩
      case round =>
        clear Hno Hb
        obtain ⟨B, hB, rfl, Hno, Hb⟩ := hrel
        obtain ⟨wi, rfl⟩ : ∃ wi : World, wi = wr := ⟨_, rfl⟩
        by_cases hltB : B < Q
        · have HB := Lib.hid (show B < 2 ^ ys.length from by rw [← HQ.out]; exact hltB)
          obtain ⟨cf, hcf⟩ : ∃ cf, cf = confB g xs ys A B := ⟨_, rfl⟩
          have Hcf := Lib.hid hcf
          clear hcf
          go_wp2_with (fail)
          refine (members_c A xs.length _ _ rfl HA.out (by omega)).mono ?_
          rintro e u1 ⟨va, rfl, oa, d1⟩
          obtain ⟨a1, a2, a3, rfl⟩ := oa.shape
          have Hoa := Lib.hid oa.ints
          clear oa
          go_wp2_with (fail)
          refine (members_c B ys.length _ _ rfl HB.out (by omega)).mono ?_
          rintro e u2 ⟨vb, rfl, ob, d2⟩
          obtain ⟨q1, q2, q3, rfl⟩ := ob.shape
          have Hob := Lib.hid ob.ints
          have Hoa2 := Lib.hid (Hoa.out.keep d2)
          have Hb2 := Lib.hid (Hb.out.trans_pure (d1.trans_pure d2 (Nat.le_refl _)) (Nat.le_refl _))
          clear ob
          go_wp2_with (fail)
          refine (Conf_i _ _ _ _ _ g xs ys A B _ (Hv1.out.keep Hb2.out) (Hx1.out.keep Hb2.out) (Hy1.out.keep Hb2.out) Hoa2.out Hob.out Hok.out).mono ?_
          rintro e u3 ⟨rfl, rfl⟩
          rw [← Hcf.out]
          cases cf
          · have Hno2 := Lib.hid (show ∀ n, n < A * Q + (B + 1) → confB g xs ys (n / Q) (n % Q) = false from fun n hn => by
              by_cases h : n < A * Q + B
              · exact Hno.out n h
              · obtain rfl : n = A * Q + B := by omega
                have e1 : (A * Q + B) / Q = A := by
                  rw [Nat.mul_comm, Nat.mul_add_div (by omega), Nat.div_eq_of_lt hltB]; rfl
                have e2 : (A * Q + B) % Q = B := by
                  rw [Nat.mul_comm, Nat.mul_add_mod, Nat.mod_eq_of_lt hltB]
                rw [e1, e2]; exact Hcf.out.symm)
            go_wp2
            go_roundw
            case rel => exact ⟨B + 1, hltB, by go_num, Hno2, Hb2⟩
            case measure => simp [intOf]; omega
          · have Hyes := Lib.hid (bad_yes (show badR g xs ys = some (A, B) from by rw [Hbad.out]; exact badOf_some hlt hltB Hcf.out.symm Hno.out))
            go_wp2_with (fail)
            refine (members_c A xs.length _ _ rfl HA.out (by omega)).mono ?_
            rintro e u4 ⟨va, rfl, oa, d4⟩
            obtain ⟨a1, a2, a3, rfl⟩ := oa.shape
            have Hoa := Lib.hid oa.ints
            clear oa
            go_wp2_with (fail)
            refine (members_c B ys.length _ _ rfl HB.out (by omega)).mono ?_
            rintro e u5 ⟨vb, rfl, ob, d5⟩
            obtain ⟨q1, q2, q3, rfl⟩ := ob.shape
            have Hob := Lib.hid ob.ints
            have Hoa2 := Lib.hid (Hoa.out.keep d5)
            have Hb2 := Lib.hid (Hb2.out.trans_pure (d4.trans_pure d5 (Nat.le_refl _)) (Nat.le_refl _))
            clear ob
            have bbf := b1.trans_pure Hb2.out (Nat.le_refl _)
            go_wp2
            refine bodyPost_ret (v := .tuple #[.slice a1 a2 a3, .slice q1 q2 q3, .bool true]) (by simp [results, Tryd.results10, go_sem]) rfl ?_
            exact ⟨_, _, by rw [Hyes.out.1], by rw [Hyes.out.2.1]; exact Hoa2.out, by rw [Hyes.out.2.2]; exact Hob.out, bbf⟩
        · obtain rfl : B = Q := by omega
          have Hno2 := Lib.hid (show ∀ n, n < (A + 1) * B → confB g xs ys (n / B) (n % B) = false from fun n hn => Hno.out n (by rw [Nat.add_mul, Nat.one_mul] at hn; exact hn))
          go_wp2
          go_roundw
          case rel => exact ⟨A + 1, hlt, by go_num, Hno2, Hb⟩
          case measure => simp [intOf]; omega
    · obtain rfl : A = P := by omega
      have Hr := Lib.hid (bad_no (show badR g xs ys = none from by rw [Hbad.out]; exact badOf_none Hno.out))
      have bbf := b1.trans_pure Hb.out (Nat.le_refl _)
      go_wp2
      refine bodyPost_ret (v := .tuple #[.slice none 0 0, .slice none 0 0, .bool false]) (by simp [results, Tryd.results10, go_sem]) rfl ?_
      exact ⟨_, _, by rw [Hr.out.1], by rw [Hr.out.2.1]; exact ints_nil _, by rw [Hr.out.2.2]; exact ints_nil _, bbf⟩
set_option maxRecDepth 100000 in
set_option maxHeartbeats 2000000 in
theorem BadRectangle_s (v vx vy : Value) (g : List (List Int)) (xs ys : List Int) (w : World) (hv : Grid w v g) (hx : Ints w vx xs) (hy : Ints w vy ys) (hok : maskOk g xs ys = true) :
    Calls Tryd.prog 79 #[v, vx, vy] w fun e w' => ∃ v1 v2, e = .returned (.tuple #[v1, v2, .bool (badR g xs ys).isSome]) ∧ Ints w' v1 (badA g xs ys) ∧ Ints w' v2 (badB g xs ys) ∧ Below w.heap.size w w' := by
  obtain ⟨hs, -⟩ := maskOk_parts hok
  obtain ⟨x1, x5, y1, y5⟩ := sumsOk_sz hs
  have hml : (maskedOf g xs ys).length ≤ 1073741824 := Nat.le_trans (List.length_filter_le _ _) (imgsOf_len xs ys)
  have Hv := Lib.hid hv
  have Hx := Lib.hid hx
  have Hy := Lib.hid hy
  have Hok := Lib.hid hok
  obtain ⟨a, cap, rfl, -⟩ := hv
  obtain ⟨ax, cx, rfl, -⟩ := hx
  obtain ⟨ay, cy, rfl, -⟩ := hy
  obtain ⟨N, hN⟩ : ∃ N, N = (maskedOf g xs ys).length := ⟨_, rfl⟩
  rw [← hN] at hml
  have HN := Lib.hid hN
  clear hok hs hN
  by_cases h0 : ¬ N = 0
  · have Hr := Lib.hid (bad_no (show badR g xs ys = none from by
      unfold badR
      rw [if_neg]
      rw [List.isEmpty_iff]
      intro e
      have := HN.out
      rw [e] at this
      exact h0 this))
    have hN1 : ((N : Int) == 0) = false := by rw [beq_eq_false_iff_ne]; omega
    have hN2 : decide ((N : Int) > 0) = true := by rw [decide_eq_true_eq]; omega
    have hN3 : (0 : Int) < (N : Int) := by omega
    have hN4 : ¬ (N : Int) = 0 := by omega
    go_enter Tryd.func79, Tryd.ntmps79
    go_wp2_with (fail)
    refine (MaskOk_s _ _ _ _ _ _ _ Hv.out Hx.out Hy.out).mono ?_
    rintro e w' ⟨rfl, rfl⟩
    rw [Hok.out]
    go_wp2_with (fail)
    refine (MaskedCount_s _ _ _ _ _ _ _ Hv.out Hx.out Hy.out Hok.out).mono ?_
    rintro e w1 ⟨rfl, b1⟩
    rw [← HN.out]
    go_wp2
    refine bodyPost_ret (v := .tuple #[.slice none 0 0, .slice none 0 0, .bool false]) (by simp [results, Tryd.results79, go_sem]) rfl ?_
    exact ⟨_, _, by rw [Hr.out.1], by rw [Hr.out.2.1]; exact ints_nil _, by rw [Hr.out.2.2]; exact ints_nil _, b1⟩
  have h0 := Decidable.not_not.1 h0
  subst h0
  have Hbad := Lib.hid (show badR g xs ys = badOf (confB g xs ys) (2 ^ xs.length) (2 ^ ys.length) from by
    unfold badR
    rw [if_pos]
    rw [List.isEmpty_iff]
    exact List.length_eq_zero_iff.1 HN.out.symm)
  have hP32 := pow_32 x5
  have hQ32 := pow_32 y5
  obtain ⟨P, hP⟩ : ∃ P, P = 2 ^ xs.length := ⟨_, rfl⟩
  obtain ⟨Q, hQ⟩ : ∃ Q, Q = 2 ^ ys.length := ⟨_, rfl⟩
  have Hp1 := Lib.hid (show wrap64 ((2 : Int) ^ xs.length) = (P : Int) from by rw [hP]; exact pow_wrap12 (by omega))
  have Hp2 := Lib.hid (show wrap64 ((2 : Int) ^ ys.length) = (Q : Int) from by rw [hQ]; exact pow_wrap12 (by omega))
  rw [← hP, ← hQ] at Hbad
  rw [← hP] at hP32
  rw [← hQ] at hQ32
  have HP := Lib.hid hP
  have HQ := Lib.hid hQ
  clear hP hQ
  go_enter Tryd.func79, Tryd.ntmps79
  go_wp2_with (fail)
  refine (MaskOk_s _ _ _ _ _ _ _ Hv.out Hx.out Hy.out).mono ?_
  rintro e w' ⟨rfl, rfl⟩
  rw [Hok.out]
  go_wp2_with (fail)
  refine (MaskedCount_s _ _ _ _ _ _ _ Hv.out Hx.out Hy.out Hok.out).mono ?_
  rintro e w1 ⟨rfl, b1⟩
  rw [← HN.out]
  have Hv1 := Lib.hid (Hv.out.keep b1)
  have Hx1 := Lib.hid (Hx.out.keep b1)
  have Hy1 := Lib.hid (Hy.out.keep b1)
  go_wp2
  have hp1 := Hp1.out
  have hp2 := Hp2.out
  go_loopw [9, 10, 11, 12] (fun i _ _ _ wr => ∃ A : Nat, A ≤ P ∧ i = .int .i64 A ∧ Hid (∀ n, n < A * Q → confB g xs ys (n / Q) (n % Q) = false) ∧ Hid (Below w1.heap.size w1 wr)) (fun i _ _ _ _ => P - (intOf i).toNat)
  case atStart => exact ⟨0, Nat.zero_le _, rfl, Lib.hid fun n hn => by omega, Lib.hid (Below.refl _ _)⟩
  case round =>
    obtain ⟨A, hA, rfl, Hno, Hb⟩ := hrel
    obtain ⟨wo, rfl⟩ : ∃ wo : World, wo = wr := ⟨_, rfl⟩
    by_cases hlt : A < P
    · have HA := Lib.hid (show A < 2 ^ xs.length from by rw [← HP.out]; exact hlt)
      go_wp2
      rw [Hp1.out]
      go_loopw [10, 11, 12] (fun j _ _ wr => ∃ B : Nat, B ≤ Q ∧ j = .int .i64 B ∧ Hid (∀ n, n < A * Q + B → confB g xs ys (n / Q) (n % Q) = false) ∧ Hid (Below w1.heap.size w1 wr)) (fun j _ _ _ => Q - (intOf j).toNat)
      case atStart => exact ⟨0, Nat.zero_le _, rfl, Lib.hid fun n hn => Hno.out n (by omega), Hb⟩
      case round =>
        clear Hno Hb
        obtain ⟨B, hB, rfl, Hno, Hb⟩ := hrel
        obtain ⟨wi, rfl⟩ : ∃ wi : World, wi = wr := ⟨_, rfl⟩
        by_cases hltB : B < Q
        · have HB := Lib.hid (show B < 2 ^ ys.length from by rw [← HQ.out]; exact hltB)
          obtain ⟨cf, hcf⟩ : ∃ cf, cf = confB g xs ys A B := ⟨_, rfl⟩
          have Hcf := Lib.hid hcf
          clear hcf
          go_wp2_with (fail)
          refine (l08Bits_c A xs.length _ (by omega) (by omega)).mono ?_
          rintro e u1 ⟨va, rfl, oa, d1⟩
          obtain ⟨a1, a2, a3, rfl⟩ := oa.shape
          have Hoa := Lib.hid oa.ints
          clear oa
          go_wp2_with (fail)
          refine (l08Bits_c B ys.length _ (by omega) (by omega)).mono ?_
          rintro e u2 ⟨vb, rfl, ob, d2⟩
          obtain ⟨q1, q2, q3, rfl⟩ := ob.shape
          have Hob := Lib.hid ob.ints
          have Hoa2 := Lib.hid (Hoa.out.keep d2)
          have Hb2 := Lib.hid (Hb.out.trans_pure (d1.trans_pure d2 (Nat.le_refl _)) (Nat.le_refl _))
          clear ob
          go_wp2_with (fail)
          refine (Conf_s _ _ _ _ _ g xs ys A B _ (Hv1.out.keep Hb2.out) (Hx1.out.keep Hb2.out) (Hy1.out.keep Hb2.out) Hoa2.out Hob.out Hok.out).mono ?_
          rintro e u3 ⟨rfl, rfl⟩
          rw [← Hcf.out]
          cases cf
          · have Hno2 := Lib.hid (show ∀ n, n < A * Q + (B + 1) → confB g xs ys (n / Q) (n % Q) = false from fun n hn => by
              by_cases h : n < A * Q + B
              · exact Hno.out n h
              · obtain rfl : n = A * Q + B := by omega
                have e1 : (A * Q + B) / Q = A := by
                  rw [Nat.mul_comm, Nat.mul_add_div (by omega), Nat.div_eq_of_lt hltB]; rfl
                have e2 : (A * Q + B) % Q = B := by
                  rw [Nat.mul_comm, Nat.mul_add_mod, Nat.mod_eq_of_lt hltB]
                rw [e1, e2]; exact Hcf.out.symm)
            go_wp2
            go_roundw
            case rel => exact ⟨B + 1, hltB, by go_num, Hno2, Hb2⟩
            case measure => simp [intOf]; omega
          · have Hyes := Lib.hid (bad_yes (show badR g xs ys = some (A, B) from by rw [Hbad.out]; exact badOf_some hlt hltB Hcf.out.symm Hno.out))
            have bbf := b1.trans_pure Hb2.out (Nat.le_refl _)
            go_wp2
            refine bodyPost_ret (v := .tuple #[.slice a1 a2 a3, .slice q1 q2 q3, .bool true]) (by simp [results, Tryd.results79, go_sem]) rfl ?_
            exact ⟨_, _, by rw [Hyes.out.1], by rw [Hyes.out.2.1]; exact Hoa2.out, by rw [Hyes.out.2.2]; exact Hob.out, bbf⟩
        · obtain rfl : B = Q := by omega
          have Hno2 := Lib.hid (show ∀ n, n < (A + 1) * B → confB g xs ys (n / B) (n % B) = false from fun n hn => Hno.out n (by rw [Nat.add_mul, Nat.one_mul] at hn; exact hn))
          go_wp2
          go_roundw
          case rel => exact ⟨A + 1, hlt, by go_num, Hno2, Hb⟩
          case measure => simp [intOf]; omega
    · obtain rfl : A = P := by omega
      have Hr := Lib.hid (bad_no (show badR g xs ys = none from by rw [Hbad.out]; exact badOf_none Hno.out))
      have bbf := b1.trans_pure Hb.out (Nat.le_refl _)
      go_wp2
      refine bodyPost_ret (v := .tuple #[.slice none 0 0, .slice none 0 0, .bool false]) (by simp [results, Tryd.results79, go_sem]) rfl ?_
      exact ⟨_, _, by rw [Hr.out.1], by rw [Hr.out.2.1]; exact ints_nil _, by rw [Hr.out.2.2]; exact ints_nil _, bbf⟩
end Go.Proofs.YtlmjpmdkifoekaaDoor

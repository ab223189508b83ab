/- Contracts: the reference's lines: l13Image, l02Same, LinesFor, l14Agrees, SolveLine. -/
import Derived.Test.YtekgnpdchpdfiaaC7
import Derived.Test.YtekgnpdchpdfiaaC8
import Derived.Test.YtekgnpdchpdfiaaMem2
import Derived.Test.YtekgnpdchpdfiaaBits
import Derived.RegionTactic
import Derived.BigRegion
namespace Go.Proofs.Ytekgnpdchpdfiaa
open Go.RowKit

/-- the cell (y, x) of an owned grid, with its value's bounds forgotten -/
theorem Shape.cell {r c : Nat} {m : List (List Int)} (h : Shape r c m) {y : Nat} (hy : y < r) : ∃ row, m[y]? = some row ∧ row.length = c := by
  obtain ⟨row, h1, h2, _⟩ := h.row hy
  exact ⟨row, h1, h2⟩

set_option maxHeartbeats 1000000 in
theorem l13Image_c (r c key : Nat) (w : World) (hr1 : 1 ≤ r) (hr2 : r ≤ 5) (hc1 : 1 ≤ c) (hc2 : c ≤ 5) (hkey : key ≤ 33554432) : Calls Try.prog 120 #[.int .i64 r, .int .i64 c, .int .i64 key] w (New 41 (Own 3 IntV) w (imgOf r c key)) := by
  obtain ⟨N, hN⟩ : ∃ N, N = r * c := ⟨_, rfl⟩
  have hN25 : N ≤ 25 := by rw [hN]; exact Nat.mul_le_mul hr2 hc2
  have hmul : (r : Int) * (c : Int) = (N : Int) := by rw [hN]; simp
  have HN := Lib.hid hN
  clear hN
  go_enter Try.func120, Try.ntmps120
  go_wp2_with (fail)
  refine (l02Empty_c r c _ (by omega) (by omega)).mono ?_
  rintro e w1 ⟨v1, rfl, hown, hbel⟩
  obtain ⟨g, cap, rfl, hg, hcap, hgs, -⟩ := hown.inv_ne (by simp [zeros]; omega)
  have hlz : (zeros r c).length = r := by simp [zeros]
  rw [hlz] at hown hcap ⊢
  have hown' : Own 41 (Own 3 IntV) (Iv w.heap.size w1.heap.size) w1 (.slice (some ⟨g, 0, none⟩) r cap) (imgFrom r c key N) := by
    rw [HN.out, imgFrom_top]; exact hown
  have Hown := Lib.hid hown'
  clear hown hown' hlz
  go_wp2
  clear hmul
  go_loopw [2, 8] (fun bits kk wr => ∃ (j : Nat) (z : Int), j ≤ N ∧ kk = .int .i64 z ∧ z = (j : Int) - 1 ∧ bits = .int .i64 ((key / 2 ^ (N - j) : Nat) : Int) ∧ Own 41 (Own 3 IntV) (Iv w.heap.size w1.heap.size) wr (.slice (some ⟨g, 0, none⟩) r cap) (imgFrom r c key j) ∧ Below w.heap.size w wr ∧ wr.heap.size = w1.heap.size) (fun _ kk _ => (intOf kk + 1).toNat)
  case atStart => exact ⟨N, _, Nat.le_refl _, rfl, rfl, by simp, Hown.out, hbel, rfl⟩
  case round =>
    clear Hown hbel
    obtain ⟨j, z, hj, rfl, hz, rfl, hown, hbel, hsz⟩ := hrel
    have Hsz := Lib.hid hsz
    cases j with
    | zero =>
      obtain rfl : z = -1 := by omega
      have Hown := Lib.hid hown
      clear hown hsz hz
      go_wp2
      go_ret
      exact ⟨_, rfl, by rw [Hsz.out]; exact Hown.out, hbel⟩
    | succ k =>
      obtain rfl : z = (k : Int) := by omega
      have hkN : k < r * c := by rw [← HN.out]; omega
      have hky : k / c < r := by rw [Nat.div_lt_iff_lt_mul (by omega)]; exact hkN
      have hkx : k % c < c := Nat.mod_lt _ (by omega)
      obtain ⟨row, hrow, hrl⟩ := (imgFrom_shape r c key (k + 1)).cell hky
      obtain ⟨q, cq, hcell, -, hq, hqg, hcq, hfree, -, hset⟩ := own_grid_cell hown hrow (by omega)
      obtain ⟨⟨o, hco⟩, hfo⟩ := hfree (k % c) (by omega)
      rw [hrl] at hcell hcq
      have hnew := hset wr (fun _ _ => rfl) (k % c) (bitCell (r * c) key k) (by omega) (I64.small (by have := (bitCell_bd (r * c) key k).1; omega) (by have := (bitCell_bd (r * c) key k).2; omega))
      rw [← imgFrom_step (by omega) hkN hrow] at hnew
      have Hnew := Lib.hid hnew
      have Hbit := Lib.hid (bit_div key N k (by omega))
      have hval : bitCell (r * c) key k = (((key / 2 ^ (N - (k + 1)) : Nat) : Int)) % 2 := by
        unfold bitCell; rw [← HN.out]; push_cast; congr 2
        show _ = _
        rw [show N - 1 - k = N - (k + 1) from by omega]
      have Hval := Lib.hid hval
      have hqB := hq.1
      have hi1 : (0 : Int) ≤ (k : Int) / (c : Int) := Int.ediv_nonneg (by omega) (by omega)
      have hi2 : (k : Int) / (c : Int) < (r : Int) := by rw [← Int.natCast_ediv]; omega
      have hi3 : (0 : Int) ≤ (k : Int) % (c : Int) := Int.emod_nonneg _ (by omega)
      have hi4 : (k : Int) % (c : Int) < (c : Int) := Int.emod_lt_of_pos _ (by omega)
      obtain ⟨P, hP⟩ : ∃ P : Nat, P = key / 2 ^ (N - (k + 1)) := ⟨_, rfl⟩
      rw [← hP]
      have HP := Lib.hid hP
      have hPb : P ≤ 33554432 := by rw [hP]; exact Nat.le_trans (Nat.div_le_self _ _) hkey
      clear hown hset hfree hnew hval hrow hz hsz hP
      go_wp2
      go_region
      all_goals
        go_wp2
        go_roundw
        case rel => exact ⟨k, _, by omega, rfl, by omega, by rw [← Hbit.out, ← HP.out]; simp, by have h := Hnew.out; rw [Hval.out, ← HP.out] at h; exact h, (hbel.setCell hqB _).drew, by show (wr.setCell _ _).heap.size = _; rw [size_setCell]; exact Hsz.out⟩
        case measure => simp [intOf]

theorem l02Same_q (v v2 : Value) (xs ys : List Int) (w : World) (hv : Ints w v xs) (hv2 : Ints w v2 ys) : Calls Try.prog 91 #[v, v2] w fun e w' => e = .returned (.bool (decide (xs = ys))) ∧ ∃ n, w' = w.drewN n := by
  obtain ⟨a, cap, rfl, hcap, hle, -, hc⟩ := hv
  obtain ⟨a2, cap2, rfl, hcap2, hle2, -, hc2⟩ := hv2
  by_cases hl : xs.length = ys.length
  · have hl1 : xs.length ≤ ys.length := by omega
    have hl2 : ys.length ≤ xs.length := by omega
    have Hl := Lib.hid hl; clear hl
    go_enter Try.func91, Try.ntmps91
    go_wp2
    go_loopw [5, 6, 14] (fun _ _ i wr => ∃ k : Nat, k ≤ xs.length ∧ i = .int .i64 k ∧ xs.take k = ys.take k ∧ ∃ n, wr = w.drewN n) (fun _ _ i _ => xs.length - (intOf i).toNat)
    case atStart => exact ⟨0, Nat.zero_le _, rfl, rfl, 0, rfl⟩
    case round =>
      obtain ⟨k, hk, rfl, heq, n, rfl⟩ := hrel
      have Heq := Lib.hid heq; clear heq
      by_cases hlt : k < xs.length
      · obtain ⟨b, off, rfl, hb, hc'⟩ := hc (by omega)
        obtain ⟨x, hx⟩ : ∃ x, xs[k]? = some x := ⟨_, List.getElem?_eq_getElem hlt⟩
        obtain ⟨u, hck, rfl, -⟩ := hc' k x hx
        obtain ⟨b2, off2, rfl, hb2, hc2'⟩ := hc2 (by omega)
        obtain ⟨y, hy⟩ : ∃ y, ys[k]? = some y := ⟨_, List.getElem?_eq_getElem (by omega)⟩
        obtain ⟨u2, hck2, rfl, -⟩ := hc2' k y hy
        have hlt2 : k < ys.length := by omega
        have Hx := Lib.hid hx
        have Hy := Lib.hid hy
        clear hx hc hc' hy hc2 hc2'
        by_cases hxy : x = y
        · subst hxy
          go_wp2
          try (go_quiet (fail))
          go_wp2
          go_roundw
          case rel => exact ⟨k + 1, by omega, by go_num, take_step_eq Heq.out Hx.out Hy.out, _, rfl⟩
          case measure => simp [intOf]; omega
        · have hne : (x == y) = false := by simpa using hxy
          have Hxy := Lib.hid hxy; clear hxy
          go_wp2
          try (go_quiet (fail))
          go_wp2
          go_ret
          exact ⟨retB (Eq.symm (by simp; intro h; have h1 := Hx.out; rw [h, Hy.out] at h1; exact Hxy.out (Option.some.inj h1).symm)), _, rfl⟩
      · go_wp2
        go_ret
        exact ⟨retB (Eq.symm (by have h := Heq.out; have hl := Hl.out; rw [List.take_of_length_le (by omega), List.take_of_length_le (by omega)] at h; simp [h])), n, rfl⟩
  · have hne : decide (xs = ys) = false := by simp; intro h; exact hl (by rw [h])
    rw [hne]; clear hne
    have hl' : ((xs.length : Int) == (ys.length : Int)) = false := by simp; omega
    go_enter Try.func91, Try.ntmps91
    go_wp2
    go_ret
    exact ⟨rfl, 0, rfl⟩
theorem same_q (v v2 : Value) (xs ys : List Int) (w : World) (hv : Ints w v xs) (hv2 : Ints w v2 ys) : Calls Try.prog 39 #[v, v2] w fun e w' => e = .returned (.bool (decide (xs = ys))) ∧ ∃ n, w' = w.drewN n := by
  obtain ⟨a, cap, rfl, hcap, hle, -, hc⟩ := hv
  obtain ⟨a2, cap2, rfl, hcap2, hle2, -, hc2⟩ := hv2
  by_cases hl : xs.length = ys.length
  · have hl1 : xs.length ≤ ys.length := by omega
    have hl2 : ys.length ≤ xs.length := by omega
    have Hl := Lib.hid hl; clear hl
    go_enter Try.func39, Try.ntmps39
    go_wp2
    go_loopw [5, 6, 14] (fun _ _ i wr => ∃ k : Nat, k ≤ xs.length ∧ i = .int .i64 k ∧ xs.take k = ys.take k ∧ ∃ n, wr = w.drewN n) (fun _ _ i _ => xs.length - (intOf i).toNat)
    case atStart => exact ⟨0, Nat.zero_le _, rfl, rfl, 0, rfl⟩
    case round =>
      obtain ⟨k, hk, rfl, heq, n, rfl⟩ := hrel
      have Heq := Lib.hid heq; clear heq
      by_cases hlt : k < xs.length
      · obtain ⟨b, off, rfl, hb, hc'⟩ := hc (by omega)
        obtain ⟨x, hx⟩ : ∃ x, xs[k]? = some x := ⟨_, List.getElem?_eq_getElem hlt⟩
        obtain ⟨u, hck, rfl, -⟩ := hc' k x hx
        obtain ⟨b2, off2, rfl, hb2, hc2'⟩ := hc2 (by omega)
        obtain ⟨y, hy⟩ : ∃ y, ys[k]? = some y := ⟨_, List.getElem?_eq_getElem (by omega)⟩
        obtain ⟨u2, hck2, rfl, -⟩ := hc2' k y hy
        have hlt2 : k < ys.length := by omega
        have Hx := Lib.hid hx
        have Hy := Lib.hid hy
        clear hx hc hc' hy hc2 hc2'
        by_cases hxy : x = y
        · subst hxy
          go_wp2
          try (go_quiet (fail))
          go_wp2
          go_roundw
          case rel => exact ⟨k + 1, by omega, by go_num, take_step_eq Heq.out Hx.out Hy.out, _, rfl⟩
          case measure => simp [intOf]; omega
        · have hne : (x == y) = false := by simpa using hxy
          have Hxy := Lib.hid hxy; clear hxy
          go_wp2
          try (go_quiet (fail))
          go_wp2
          go_ret
          exact ⟨retB (Eq.symm (by simp; intro h; have h1 := Hx.out; rw [h, Hy.out] at h1; exact Hxy.out (Option.some.inj h1).symm)), _, rfl⟩
      · go_wp2
        go_ret
        exact ⟨retB (Eq.symm (by have h := Heq.out; have hl := Hl.out; rw [List.take_of_length_le (by omega), List.take_of_length_le (by omega)] at h; simp [h])), n, rfl⟩
  · have hne : decide (xs = ys) = false := by simp; intro h; exact hl (by rw [h])
    rw [hne]; clear hne
    have hl' : ((xs.length : Int) == (ys.length : Int)) = false := by simp; omega
    go_enter Try.func39, Try.ntmps39
    go_wp2
    go_ret
    exact ⟨rfl, 0, rfl⟩
set_option maxHeartbeats 1000000 in
theorem LinesFor_s (v : Value) (rs : List Int) (n : Nat) (w : World) (hv : Ints w v rs) (h1 : 1 ≤ n) (h2 : n ≤ 5) : Calls Try.prog 100 #[v, .int .i64 n] w (New 41 (Own 3 IntV) w (linesFor rs n)) := by
  have hin : inR 1 5 n = true := inR_t (by omega) (by omega)
  obtain ⟨N, hN⟩ : ∃ N : Nat, N = 2 ^ n := ⟨_, rfl⟩
  have hN32 : N ≤ 32 := by rw [hN]; exact pow_le32 h2
  have hpow : wrap64 ((2 : Int) ^ n) = (N : Int) := by rw [hN]; exact pow_wrap h2
  have HN := Lib.hid hN; clear hN
  go_enter Try.func100, Try.ntmps100
  go_wp2_with (first | (go_at_call 103; refine (l01In_c _ _ _ _).mono ?_; rintro e w' ⟨rfl, rfl⟩))
  have Hin := Lib.hid hin; clear hin
  go_loopw [5, 6, 7] (fun v i _ wr => ∃ k : Nat, k ≤ N ∧ i = .int .i64 k ∧ Own 41 (Own 3 IntV) (Iv w.heap.size wr.heap.size) wr v (linesTo n rs k) ∧ Below w.heap.size w wr) (fun _ i _ _ => N - (intOf i).toNat)
  case atStart => exact ⟨0, Nat.zero_le _, rfl, own_lit0 _ _ _ (rOwn rIntV), Below.pureAlloc _ _⟩
  case round =>
    obtain ⟨k, hk, rfl, hown, hbel⟩ := hrel
    obtain ⟨wo, rfl⟩ : ∃ wo : World, wo = wr := ⟨_, rfl⟩
    have hBs := hbel.size
    have Hown := Lib.hid hown; clear hown
    by_cases hlt : k < N
    · have Hls := Lib.hid (linesTo_succ n rs k)
      have hlnk : (linesTo n rs k).length < 1099511627776 := by have := linesTo_len n rs k; omega
      have hbl := bitsLine_len n k
      have hrl := runsOf_len (bitsLine n k)
      have hrl5 : (bitsLine n k).length ≤ 5 := by omega
      have Hbl := Lib.hid hbl
      clear hbl
      go_wp2_with (fail)
      refine (l13Image_c 1 n k _ (by decide) (by decide) (by omega) (by omega) (by omega)).mono ?_
      rintro e w3 ⟨v3, rfl, hown3, hbel3⟩
      rw [imgOf_one] at hown3
      have s3 := hbel3.size
      have hb3 := hbel.trans_pure hbel3 (Nat.le_refl _)
      obtain ⟨g, cap, rfl, hg, hcap, -, -⟩ := hown3.inv_ne (by simp)
      obtain ⟨-, -, -, -, T, u, hcell, hr, hT, -⟩ := hown3.focus (rOwn rIntV) (k := 0) (x := bitsLine n k) rfl
      have hrS := (rOwn rIntV).mono (fun b hb => (hT b hb).1) hr
      obtain ⟨q, cq, rfl, -⟩ := hr.inv_ne (by rw [Hbl.out]; omega)
      rw [Hbl.out] at hcell hrS
      have hlen1 : ([bitsLine n k] : List (List Int)).length = 1 := rfl
      rw [hlen1] at hcap ⊢
      clear hr hT hlen1 hown3
      go_wp2_with (fail)
      refine (RunsOf_s _ _ _ hrS.ints (by omega)).mono ?_
      rintro e w5 ⟨v5, rfl, hown5, hbel5⟩
      have s5 := hbel5.size
      have hb5 := hb3.trans_pure hbel5 (Nat.le_refl _)
      go_wp2_with (fail)
      refine (l02Same_q _ _ _ _ _ hown5.ints (hv.keep hb5)).mono ?_
      rintro e w' ⟨rfl, n6, rfl⟩
      have hbw : Below wo.heap.size wo (w5.drewN n6) := below_drewN (hbel3.trans_pure hbel5 (Nat.le_refl _)) n6
      have hall := below_drewN hb5 n6
      have hline : Own 3 IntV (Iv wo.heap.size (w5.drewN n6).heap.size) (w5.drewN n6) (.slice (some ⟨q, 0, none⟩) n cq) (bitsLine n k) :=
        Own.grow rIntV hrS (Nat.le_refl _) (below_drewN hbel5 n6)
      have hs6 : wo.heap.size ≤ (w5.drewN n6).heap.size := by show wo.heap.size ≤ w5.heap.size; omega
      have Hline := Lib.hid hline
      clear hline hrS
      by_cases he : runsOf (bitsLine n k) = rs
      · have hd : decide (runsOf (bitsLine n k) = rs) = true := by simp [he]
        have He := Lib.hid he
        clear he
        go_wp2_with (first | (at_builtin; refine wpList_appR rfl _ _ 22 rfl (rOwn rIntV) 41 Try.underlying22 infoInts rfl (by decide) w.heap.size wo.heap.size hBs hs6 rfl rfl (by exact Own.keep (rOwn rIntV) Hown.out hbw (Nat.le_refl _)) (by exact Hline.out) hlnk ?_; intro v7 w7 hown7 hbel7 _))
        have hb7 := hall.trans hbel7
        have Hown7 := Lib.hid hown7
        clear hown7
        go_wp2
        go_roundw
        case rel => exact ⟨k + 1, by omega, by go_num, by rw [Hls.out, if_pos He.out]; exact Hown7.out, hb7⟩
        case measure => simp [intOf]; omega
      · have hd : decide (runsOf (bitsLine n k) = rs) = false := by simp [he]
        have He := Lib.hid he
        clear he
        go_wp2
        go_roundw
        case rel => exact ⟨k + 1, by omega, by go_num, by rw [Hls.out, if_neg He.out]; exact Own.grow (rOwn rIntV) Hown.out (Nat.le_refl _) hbw, hall⟩
        case measure => simp [intOf]; omega
    · go_wp2
      go_ret
      obtain rfl : k = N := by omega
      refine ⟨_, rfl, ?_, hbel⟩
      have h := Hown.out
      rw [HN.out] at h
      exact h
theorem LinesFor_sz (v : Value) (rs : List Int) (z : Int) (w : World) (hv : Ints w v rs) (_hz : I64 z) : Calls Try.prog 100 #[v, .int .i64 z] w (New 41 (Own 3 IntV) w (linesForZ rs z)) := by
  cases hin : inR 1 5 z
  · have h := Lib.hid (show linesForZ rs z = [] from by simp [linesForZ, hin])
    go_enter Try.func100, Try.ntmps100
    go_wp2_with (first | (go_at_call 103; refine (l01In_c _ _ _ _).mono ?_; rintro e w' ⟨rfl, rfl⟩))
    go_ret
    rw [h.out]
    exact ⟨_, rfl, Own.nil _ _ _ _, Below.refl _ _⟩
  · have hb := inR_iff.1 hin
    obtain ⟨n, rfl⟩ := Int.eq_ofNat_of_zero_le (a := z) (by omega)
    rw [show linesForZ rs (n : Int) = linesFor rs n from by simp [linesForZ, hin]]
    exact LinesFor_s v rs n w hv (by omega) (by omega)
theorem LinesFor_iz (v : Value) (rs : List Int) (z : Int) (w : World) (hv : Ints w v rs) (_hz : I64 z) : Calls Try.prog 61 #[v, .int .i64 z] w (New 41 (Own 3 IntV) w (linesForZ rs z)) := by
  cases hin : inR 1 5 z
  · have h := Lib.hid (show linesForZ rs z = [] from by simp [linesForZ, hin])
    go_enter Try.func61, Try.ntmps61
    go_wp2_with (first | (go_at_call 74; refine (within_c _ _ _ _).mono ?_; rintro e w' ⟨rfl, rfl⟩))
    go_ret
    rw [h.out]
    exact ⟨_, rfl, Own.nil _ _ _ _, Below.refl _ _⟩
  · have hb := inR_iff.1 hin
    obtain ⟨n, rfl⟩ := Int.eq_ofNat_of_zero_le (a := z) (by omega)
    rw [show linesForZ rs (n : Int) = linesFor rs n from by simp [linesForZ, hin]]
    exact LinesFor_i v rs n w hv (by omega) (by omega)
end Go.Proofs.Ytekgnpdchpdfiaa

/- Contracts: slices.Equal, LinesFor, SolveLine. -/
import Derived.Test.YtekgnpdchpdfiaaC3
import Derived.Test.YtekgnpdchpdfiaaDraw2
import Derived.Test.YtekgnpdchpdfiaaLines
namespace Go.Proofs.Ytekgnpdchpdfiaa
open Go.RowKit

theorem Equal_q (v v2 : Value) (xs ys : List Int) (w : World) (hv : Ints w v xs) (hv2 : Ints w v2 ys) : Calls Try.prog 96 #[v, v2] w fun e w' => e = .returned (.bool (decide (xs = ys))) ∧ ∃ n, w' = w.drewN n := by
  obtain ⟨a, cap, rfl, hcap, hle, -, hc⟩ := hv
  obtain ⟨a2, cap2, rfl, hcap2, hle2, -, hc2⟩ := hv2
  by_cases hl : xs.length = ys.length
  · have hl1 : xs.length ≤ ys.length := by omega
    have hl2 : ys.length ≤ xs.length := by omega
    have Hl := Lib.hid hl; clear hl
    go_enter Try.func96, Try.ntmps96
    go_wp2
    go_loopw [5, 13] (fun _ i wr => ∃ k : Nat, k ≤ xs.length ∧ i = .int .i64 k ∧ xs.take k = ys.take k ∧ ∃ n, wr = w.drewN n) (fun _ i _ => xs.length - (intOf i).toNat)
    case atStart => exact ⟨0, Nat.zero_le _, rfl, rfl, 0, rfl⟩
    case round =>
      obtain ⟨k, hk, rfl, heq, n, rfl⟩ := hrel
      have Heq := Lib.hid heq; clear heq
      by_cases hlt : k < xs.length
      · obtain ⟨b, off, rfl, hb, hc'⟩ := hc (by omega)
        obtain ⟨x, hx⟩ : ∃ x, xs[k]? = some x := ⟨_, List.getElem?_eq_getElem hlt⟩
        obtain ⟨u, hck, rfl, -⟩ := hc' k x hx
        obtain ⟨b2, off2, rfl, hb2, hc2'⟩ := hc2 (by omega)
        obtain ⟨y, hy⟩ : ∃ y, ys[k]? = some y := ⟨_, List.getElem?_eq_getElem (by omega)⟩
        obtain ⟨u2, hck2, rfl, -⟩ := hc2' k y hy
        have hlt2 : k < ys.length := by omega
        have Hx := Lib.hid hx
        have Hy := Lib.hid hy
        clear hx hc hc' hy hc2 hc2'
        by_cases hxy : x = y
        · subst hxy
          go_wp2
          go_quiet (fail)
          go_wp2
          go_roundw
          case rel => exact ⟨k + 1, by omega, by go_num, take_step_eq Heq.out Hx.out Hy.out, _, rfl⟩
          case measure => simp [intOf]; omega
        · have hne : (x == y) = false := by simpa using hxy
          have Hxy := Lib.hid hxy; clear hxy
          go_wp2
          go_quiet (fail)
          go_wp2
          go_ret
          exact ⟨retB (Eq.symm (by simp; intro h; have h1 := Hx.out; rw [h, Hy.out] at h1; exact Hxy.out (Option.some.inj h1).symm)), quiet2 _ _ _⟩
      · go_wp2
        go_ret
        exact ⟨retB (Eq.symm (by have h := Heq.out; have hl := Hl.out; rw [List.take_of_length_le (by omega), List.take_of_length_le (by omega)] at h; simp [h])), n, rfl⟩
  · have hne : decide (xs = ys) = false := by simp; intro h; exact hl (by rw [h])
    rw [hne]; clear hne
    have hl' : ((xs.length : Int) == (ys.length : Int)) = false := by simp; omega
    go_enter Try.func96, Try.ntmps96
    go_wp2
    go_ret
    exact ⟨rfl, 0, rfl⟩

theorem pow_wrap {n : Nat} (h : n ≤ 5) : wrap64 ((2 : Int) ^ n) = ((2 ^ n : Nat) : Int) := by
  exact match n, h with
  | 0, _ => by unfold wrap64; decide
  | 1, _ => by unfold wrap64; decide
  | 2, _ => by unfold wrap64; decide
  | 3, _ => by unfold wrap64; decide
  | 4, _ => by unfold wrap64; decide
  | 5, _ => by unfold wrap64; decide
theorem bit_at (k m : Nat) : bits .and .i64 ((k : Int) / 2 ^ m) 1 = ((k / 2 ^ m % 2 : Nat) : Int) := by
  rw [i64_and1]; push_cast; rfl
theorem pow_le32 {n : Nat} (h : n ≤ 5) : 2 ^ n ≤ 32 := Nat.pow_le_pow_right (n := 2) (by decide) h

set_option maxHeartbeats 1000000 in
theorem LinesFor_i (v : Value) (rs : List Int) (n : Nat) (w : World) (hv : Ints w v rs) (h1 : 1 ≤ n) (h2 : n ≤ 5) : Calls Try.prog 61 #[v, .int .i64 n] w (New 41 (Own 3 IntV) w (linesFor rs n)) := by
  have hin : inR 1 5 n = true := inR_t (by omega) (by omega)
  obtain ⟨N, hN⟩ : ∃ N : Nat, N = 2 ^ n := ⟨_, rfl⟩
  have hN32 : N ≤ 32 := by rw [hN]; exact pow_le32 h2
  have hpow : wrap64 ((2 : Int) ^ n) = (N : Int) := by rw [hN]; exact pow_wrap h2
  have HN := Lib.hid hN; clear hN
  go_enter Try.func61, Try.ntmps61
  go_wp2_with (first | (go_at_call 74; refine (within_c _ _ _ _).mono ?_; rintro e w' ⟨rfl, rfl⟩))
  have Hin := Lib.hid hin; clear hin
  go_loopw [5, 6, 7, 8] (fun v i _ _ wr => ∃ k : Nat, k ≤ N ∧ i = .int .i64 k ∧ Own 41 (Own 3 IntV) (Iv w.heap.size wr.heap.size) wr v (linesTo n rs k) ∧ Below w.heap.size w wr) (fun _ i _ _ _ => N - (intOf i).toNat)
  case atStart => exact ⟨0, Nat.zero_le _, rfl, Own.nil _ _ _ _, Below.refl _ _⟩
  case round =>
    obtain ⟨k, hk, rfl, hown, hbel⟩ := hrel
    obtain ⟨wo, rfl⟩ : ∃ wo : World, wo = wr := ⟨_, rfl⟩
    have hBs := hbel.size
    have Hown := Lib.hid hown; clear hown
    by_cases hlt : k < N
    · go_wp2_with (first | (at_make; refine wpList_mk _ rfl _ _ 41 rfl 3 Try.underlying41 infoInt rfl (by decide) (R := IntV) 0 ⟨rfl, I64.small (by decide) (by decide)⟩ rIntV n rfl rfl (by omega) ?_; intro w1 hown1 hbel1 hsz1; have Hsz1 := Lib.hid hsz1; clear hsz1))
      have hown1' : Own 3 IntV (fun b => b = wo.heap.size) w1 (.slice (some ⟨wo.heap.size, 0, none⟩) n n) ((bitsLine n k).take 0 ++ List.replicate (n - 0) 0) := by simpa using hown1
      have Hown1 := Lib.hid hown1'
      clear hown1 hown1'
      go_loopw [8, 22] (fun _ i wr => ∃ j : Nat, j ≤ n ∧ i = .int .i64 j ∧ Own 3 IntV (fun b => b = wo.heap.size) wr (.slice (some ⟨wo.heap.size, 0, none⟩) n n) ((bitsLine n k).take j ++ List.replicate (n - j) 0) ∧ Below wo.heap.size wo wr ∧ wr.heap.size = w1.heap.size) (fun _ i _ => n - (intOf i).toNat)
      case atStart => exact ⟨0, Nat.zero_le _, rfl, Hown1.out, hbel1, rfl⟩
      case round =>
        clear Hown1 hbel1
        obtain ⟨j, hj, rfl, hown2, hbel2, hsz2⟩ := hrel
        have Hsz2 := Lib.hid hsz2; clear hsz2
        by_cases hlt2 : j < n
        · have hl : ((bitsLine n k).take j ++ List.replicate (n - j) 0).length = n := by simp [bitsLine_len]; omega
          obtain ⟨y, hcd, hfd⟩ := hown2.ints_at (k := j) (by rw [hl]; exact hlt2)
          have Hown2 := Lib.hid hown2
          have Hl := Lib.hid hl
          clear hown2 hl
          go_wp2
          go_roundw
          case rel =>
            refine ⟨j + 1, by omega, by go_num, ?_, hbel2.setCell (Nat.le_refl _) _, by rw [size_setCell, Hsz2.out]⟩
            rw [bit_at, ← bits_set hlt2]
            exact Hown2.out.setInt (by rw [Hl.out]; exact hlt2) (I64.small (by omega) (by omega))
          case measure => simp [intOf]; omega
        · have hlen := bitsLine_len n k
          have hll : (bitsLine n k).length ≤ 5 := by omega
          obtain rfl : j = n := by omega
          have hown3 : Own 3 IntV (fun b => b = wo.heap.size) wr (.slice (some ⟨wo.heap.size, 0, none⟩) j j) (bitsLine j k) := by
            rw [List.take_of_length_le (by omega), Nat.sub_self] at hown2
            simpa using hown2
          have hln := runsOf_len (bitsLine j k)
          have hqr : Ints wr (.slice (some ⟨wo.heap.size, 0, none⟩) j j) (bitsLine j k) := hown3.ints
          have hb3 := hbel.trans (hbel2.mono hBs)
          have Hown3 := Lib.hid hown3
          clear hown2 hown3 hlen
          have Hln := Lib.hid (linesTo_len j rs k)
          have Hls := Lib.hid (linesTo_succ j rs k)
          have hsz := Hsz2.out
          have hsz1 := Hsz1.out
          have hBr : wo.heap.size ≤ wr.heap.size := hbel2.size
          go_wp2_with (fail)
          refine (RunsOf_i _ _ _ hqr (by omega)).mono ?_
          rintro e w5 ⟨v5, rfl, hown5, hbel5⟩
          have s5 := hbel5.size
          have hb5 := hb3.trans_pure hbel5 (Nat.le_refl _)
          go_wp2_with (fail)
          refine (Equal_q _ _ _ _ _ hown5.ints (hv.keep hb5)).mono ?_
          rintro e w' ⟨rfl, n6, rfl⟩
          have hbw : Below wo.heap.size wo (w5.drewN n6) := (below_drewN (hbel2.trans_pure hbel5 (Nat.le_refl _)) n6)
          have hall := below_drewN hb5 n6
          have hlnk : (linesTo j rs k).length < 1099511627776 := by have := Hln.out; omega
          have hline : Own 3 IntV (Iv wo.heap.size (w5.drewN n6).heap.size) (w5.drewN n6) (.slice (some ⟨wo.heap.size, 0, none⟩) j j) (bitsLine j k) :=
            ((rOwn rIntV).same (below_drewN hbel5 n6 |> fun h => sameOn_below h (fun b hb => by have hb : b = wo.heap.size := hb; omega)) Hown3.out).point rIntV (Nat.le_refl _) (by show wo.heap.size < w5.heap.size; omega)
          have hs6 : wo.heap.size ≤ (w5.drewN n6).heap.size := by show wo.heap.size ≤ w5.heap.size; omega
          have Hline := Lib.hid hline
          clear hline hsz hsz1
          by_cases he : runsOf (bitsLine j k) = rs
          · have hd : decide (runsOf (bitsLine j k) = rs) = true := by simp [he]
            have He := Lib.hid he
            clear he
            go_wp2_with (first | (at_builtin; refine wpList_appR rfl _ _ 22 rfl (rOwn rIntV) 41 Try.underlying22 infoInts rfl (by decide) w.heap.size wo.heap.size hBs hs6 rfl rfl (by exact Own.keep (rOwn rIntV) Hown.out hbw (Nat.le_refl _)) (by exact Hline.out) hlnk ?_; intro v7 w7 hown7 hbel7 _))
            have hb7 := hall.trans hbel7
            have Hown7 := Lib.hid hown7
            clear hown7
            go_wp2
            go_roundw
            case rel => exact ⟨k + 1, by omega, by go_num, by rw [Hls.out, if_pos He.out]; exact Hown7.out, hb7⟩
            case measure => simp [intOf]; omega
          · have hd : decide (runsOf (bitsLine j k) = rs) = false := by simp [he]
            have He := Lib.hid he
            clear he
            go_wp2
            go_roundw
            case rel => exact ⟨k + 1, by omega, by go_num, by rw [Hls.out, if_neg He.out]; exact Own.grow (rOwn rIntV) Hown.out (Nat.le_refl _) hbw, hall⟩
            case measure => simp [intOf]; omega
    · go_wp2
      go_ret
      obtain rfl : k = N := by omega
      refine ⟨_, rfl, ?_, hbel⟩
      have h := Hown.out
      rw [HN.out] at h
      exact h
end Go.Proofs.Ytekgnpdchpdfiaa

/- Contracts: the reference's lines: l13Image, l02Same, LinesFor, l14Agrees, SolveLine. -/
import Derived.Test.YtadbiefcpjcinaaC7
import Derived.Test.YtadbiefcpjcinaaC8
import Derived.Test.YtadbiefcpjcinaaMem2
import Derived.Test.YtadbiefcpjcinaaBits
import Derived.RegionTactic
import Derived.BigRegion
namespace Go.Proofs.Ytadbiefcpjcinaa
open Go.RowKit

/-- the cell (y, x) of an owned grid, with its value's bounds forgotten -/
theorem Shape.cell {r c : Nat} {m : List (List Int)} (h : Shape r c m) {y : Nat} (hy : y < r) : ∃ row, m[y]? = some row ∧ row.length = c := by
  obtain ⟨row, h1, h2, _⟩ := h.row hy
  exact ⟨row, h1, h2⟩

set_option maxHeartbeats 1000000 in
theorem l13Image_c (r c key : Nat) (w : World) (hr1 : 1 ≤ r) (hr2 : r ≤ 5) (hc1 : 1 ≤ c) (hc2 : c ≤ 5) (hkey : key ≤ 33554432) : Calls Try.prog 62 #[.int .i64 r, .int .i64 c, .int .i64 key] w (New 33 (Own 3 IntV) w (imgOf r c key)) := by
  obtain ⟨N, hN⟩ : ∃ N, N = r * c := ⟨_, rfl⟩
  have hN25 : N ≤ 25 := by rw [hN]; exact Nat.mul_le_mul hr2 hc2
  have hmul : (r : Int) * (c : Int) = (N : Int) := by rw [hN]; simp
  have HN := Lib.hid hN
  clear hN
  go_enter Try.func62, Try.ntmps62
  go_wp2_with (fail)
  refine (l02Empty_c r c _ (by omega) (by omega)).mono ?_
  rintro e w1 ⟨v1, rfl, hown, hbel⟩
  obtain ⟨g, cap, rfl, hg, hcap, hgs, -⟩ := hown.inv_ne (by simp [zeros]; omega)
  have hlz : (zeros r c).length = r := by simp [zeros]
  rw [hlz] at hown hcap ⊢
  have hown' : Own 33 (Own 3 IntV) (Iv w.heap.size w1.heap.size) w1 (.slice (some ⟨g, 0, none⟩) r cap) (imgFrom r c key N) := by
    rw [HN.out, imgFrom_top]; exact hown
  have Hown := Lib.hid hown'
  clear hown hown' hlz
  go_wp2
  clear hmul
  go_loopw [2, 8] (fun bits kk wr => ∃ (j : Nat) (z : Int), j ≤ N ∧ kk = .int .i64 z ∧ z = (j : Int) - 1 ∧ bits = .int .i64 ((key / 2 ^ (N - j) : Nat) : Int) ∧ Own 33 (Own 3 IntV) (Iv w.heap.size w1.heap.size) wr (.slice (some ⟨g, 0, none⟩) r cap) (imgFrom r c key j) ∧ Below w.heap.size w wr ∧ wr.heap.size = w1.heap.size) (fun _ kk _ => (intOf kk + 1).toNat)
  case atStart => exact ⟨N, _, Nat.le_refl _, rfl, rfl, by simp, Hown.out, hbel, rfl⟩
  case round =>
    clear Hown hbel
    obtain ⟨j, z, hj, rfl, hz, rfl, hown, hbel, hsz⟩ := hrel
    have Hsz := Lib.hid hsz
    cases j with
    | zero =>
      obtain rfl : z = -1 := by omega
      have Hown := Lib.hid hown
      clear hown hsz hz
      go_wp2
      go_ret
      exact ⟨_, rfl, by rw [Hsz.out]; exact Hown.out, hbel⟩
    | succ k =>
      obtain rfl : z = (k : Int) := by omega
      have hkN : k < r * c := by rw [← HN.out]; omega
      have hky : k / c < r := by rw [Nat.div_lt_iff_lt_mul (by omega)]; exact hkN
      have hkx : k % c < c := Nat.mod_lt _ (by omega)
      obtain ⟨row, hrow, hrl⟩ := (imgFrom_shape r c key (k + 1)).cell hky
      obtain ⟨q, cq, hcell, -, hq, hqg, hcq, hfree, -, hset⟩ := own_grid_cell hown hrow (by omega)
      obtain ⟨⟨o, hco⟩, hfo⟩ := hfree (k % c) (by omega)
      rw [hrl] at hcell hcq
      have hnew := hset wr (fun _ _ => rfl) (k % c) (bitCell (r * c) key k) (by omega) (I64.small (by have := (bitCell_bd (r * c) key k).1; omega) (by have := (bitCell_bd (r * c) key k).2; omega))
      rw [← imgFrom_step (by omega) hkN hrow] at hnew
      have Hnew := Lib.hid hnew
      have Hbit := Lib.hid (bit_div key N k (by omega))
      have hval : bitCell (r * c) key k = (((key / 2 ^ (N - (k + 1)) : Nat) : Int)) % 2 := by
        unfold bitCell; rw [← HN.out]; push_cast; congr 2
        show _ = _
        rw [show N - 1 - k = N - (k + 1) from by omega]
      have Hval := Lib.hid hval
      have hqB := hq.1
      have hi1 : (0 : Int) ≤ (k : Int) / (c : Int) := Int.ediv_nonneg (by omega) (by omega)
      have hi2 : (k : Int) / (c : Int) < (r : Int) := by rw [← Int.natCast_ediv]; omega
      have hi3 : (0 : Int) ≤ (k : Int) % (c : Int) := Int.emod_nonneg _ (by omega)
      have hi4 : (k : Int) % (c : Int) < (c : Int) := Int.emod_lt_of_pos _ (by omega)
      obtain ⟨P, hP⟩ : ∃ P : Nat, P = key / 2 ^ (N - (k + 1)) := ⟨_, rfl⟩
      rw [← hP]
      have HP := Lib.hid hP
      have hPb : P ≤ 33554432 := by rw [hP]; exact Nat.le_trans (Nat.div_le_self _ _) hkey
      clear hown hset hfree hnew hval hrow hz hsz hP
      go_wp2
      go_region
      all_goals
        go_wp2
        go_roundw
        case rel => exact ⟨k, _, by omega, rfl, by omega, by rw [← Hbit.out, ← HP.out]; simp, by have h := Hnew.out; rw [Hval.out, ← HP.out] at h; exact h, (hbel.setCell hqB _).drew, by show (wr.setCell _ _).heap.size = _; rw [size_setCell]; exact Hsz.out⟩
        case measure => simp [intOf]

theorem same_q (v v2 : Value) (xs ys : List Int) (w : World) (hv : Ints w v xs) (hv2 : Ints w v2 ys) : Calls Try.prog 89 #[v, v2] w fun e w' => e = .returned (.bool (decide (xs = ys))) ∧ ∃ n, w' = w.drewN n := by
  obtain ⟨a, cap, rfl, hcap, hle, -, hc⟩ := hv
  obtain ⟨a2, cap2, rfl, hcap2, hle2, -, hc2⟩ := hv2
  by_cases hl : xs.length = ys.length
  · have hl1 : xs.length ≤ ys.length := by omega
    have hl2 : ys.length ≤ xs.length := by omega
    have Hl := Lib.hid hl; clear hl
    go_enter Try.func89, Try.ntmps89
    go_wp2
    go_loopw [5, 6, 14] (fun _ _ i wr => ∃ k : Nat, k ≤ xs.length ∧ i = .int .i64 k ∧ xs.take k = ys.take k ∧ ∃ n, wr = w.drewN n) (fun _ _ i _ => xs.length - (intOf i).toNat)
    case atStart => exact ⟨0, Nat.zero_le _, rfl, rfl, 0, rfl⟩
    case round =>
      obtain ⟨k, hk, rfl, heq, n, rfl⟩ := hrel
      have Heq := Lib.hid heq; clear heq
      by_cases hlt : k < xs.length
      · obtain ⟨b, off, rfl, hb, hc'⟩ := hc (by omega)
        obtain ⟨x, hx⟩ : ∃ x, xs[k]? = some x := ⟨_, List.getElem?_eq_getElem hlt⟩
        obtain ⟨u, hck, rfl, -⟩ := hc' k x hx
        obtain ⟨b2, off2, rfl, hb2, hc2'⟩ := hc2 (by omega)
        obtain ⟨y, hy⟩ : ∃ y, ys[k]? = some y := ⟨_, List.getElem?_eq_getElem (by omega)⟩
        obtain ⟨u2, hck2, rfl, -⟩ := hc2' k y hy
        have hlt2 : k < ys.length := by omega
        have Hx := Lib.hid hx
        have Hy := Lib.hid hy
        clear hx hc hc' hy hc2 hc2'
        by_cases hxy : x = y
        · subst hxy
          go_wp2
          try (go_quiet (fail))
          go_wp2
          go_roundw
          case rel => exact ⟨k + 1, by omega, by go_num, take_step_eq Heq.out Hx.out Hy.out, _, rfl⟩
          case measure => simp [intOf]; omega
        · have hne : (x == y) = false := by simpa using hxy
          have Hxy := Lib.hid hxy; clear hxy
          go_wp2
          try (go_quiet (fail))
          go_wp2
          go_ret
          exact ⟨retB (Eq.symm (by simp; intro h; have h1 := Hx.out; rw [h, Hy.out] at h1; exact Hxy.out (Option.some.inj h1).symm)), _, rfl⟩
      · go_wp2
        go_ret
        exact ⟨retB (Eq.symm (by have h := Heq.out; have hl := Hl.out; rw [List.take_of_length_le (by omega), List.take_of_length_le (by omega)] at h; simp [h])), n, rfl⟩
  · have hne : decide (xs = ys) = false := by simp; intro h; exact hl (by rw [h])
    rw [hne]; clear hne
    have hl' : ((xs.length : Int) == (ys.length : Int)) = false := by simp; omega
    go_enter Try.func89, Try.ntmps89
    go_wp2
    go_ret
    exact ⟨rfl, 0, rfl⟩
end Go.Proofs.Ytadbiefcpjcinaa

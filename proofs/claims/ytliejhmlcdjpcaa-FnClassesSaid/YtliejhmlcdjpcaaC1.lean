/- Contracts of the small functions on integers and integer slices. -/
import Derived.Test.YtliejhmlcdjpcaaRows
import Derived.Test.YtliejhmlcdjpcaaMem
import Derived.WalkLawsBesides
import Derived.WalkSpells
import Derived.Deep.QuietTactic
import Derived.BigQuiet
import Derived.WalkSmall
namespace Go.Proofs.Ytliejhmlcdjpcaa
open Go.RowKit

theorem infoInt : (Try.prog.info? 3).map (fun i => (i.zero, i.size, i.bytes)) = some (some (.int .i64 0), 1, 8) := by kernel_rfl

theorem quiet2 (w : World) (n q : Nat) : ∃ m, (w.drewN n).drewN q = w.drewN m := ⟨n + q, World.drewN_drewN _ _ _⟩
theorem quiet1 {w wr : World} {n : Nat} (h : wr = w.drewN n) (q : Nat) : ∃ m, wr.drewN q = w.drewN m := ⟨n + q, by rw [h]; exact World.drewN_drewN _ _ _⟩
theorem retB {b b' : Bool} (h : b = b') : Ending.returned (.bool b) = Ending.returned (.bool b') := by rw [h]
theorem retI {n n' : Int} (h : n = n') : Ending.returned (.int .i64 n) = Ending.returned (.int .i64 n') := by rw [h]

def inR (lo hi n : Int) : Bool := decide (lo ≤ n) && decide (n ≤ hi)
theorem inR_t {lo hi n : Int} (h1 : lo ≤ n) (h2 : n ≤ hi) : inR lo hi n = true := by simp [inR, h1, h2]
theorem inR_iff {lo hi n : Int} : inR lo hi n = true ↔ lo ≤ n ∧ n ≤ hi := by simp [inR]

theorem within_c (n lo hi : Int) (w : World) : Calls Try.prog 67 #[.int .i64 n, .int .i64 lo, .int .i64 hi] w fun e w' => e = .returned (.bool (inR lo hi n)) ∧ w = w' := by
  by_cases h1 : lo ≤ n
  · by_cases h2 : n ≤ hi
    · have h : inR lo hi n = true := by simp [inR, h1, h2]
      rw [h]; clear h
      go_enter Try.func67, Try.ntmps67
      go_wp2
      go_ret
      exact ⟨rfl, rfl⟩
    · have h : inR lo hi n = false := by simp [inR, h2]
      rw [h]; clear h
      go_enter Try.func67, Try.ntmps67
      go_wp2
      go_ret
      exact ⟨rfl, rfl⟩
  · have h : inR lo hi n = false := by simp [inR, h1]
    rw [h]; clear h
    go_enter Try.func67, Try.ntmps67
    go_wp2
    go_ret
    exact ⟨rfl, rfl⟩
theorem l01In_c (n lo hi : Int) (w : World) : Calls Try.prog 92 #[.int .i64 n, .int .i64 lo, .int .i64 hi] w fun e w' => e = .returned (.bool (inR lo hi n)) ∧ w = w' := by
  by_cases h1 : lo ≤ n
  · by_cases h2 : n ≤ hi
    · have h : inR lo hi n = true := by simp [inR, h1, h2]
      rw [h]; clear h
      go_enter Try.func92, Try.ntmps92
      go_wp2
      go_ret
      exact ⟨rfl, rfl⟩
    · have h : inR lo hi n = false := by simp [inR, h2]
      rw [h]; clear h
      go_enter Try.func92, Try.ntmps92
      go_wp2
      go_ret
      exact ⟨rfl, rfl⟩
  · have h : inR lo hi n = false := by simp [inR, h1]
    rw [h]; clear h
    go_enter Try.func92, Try.ntmps92
    go_wp2
    go_ret
    exact ⟨rfl, rfl⟩

theorem all_take_step {α : Type} (p : α → Bool) {xs : List α} {k : Nat} {x : α} (h : xs[k]? = some x) : (xs.take (k + 1)).all p = ((xs.take k).all p && p x) := by
  obtain ⟨hk, hx⟩ := List.getElem?_eq_some_iff.1 h
  rw [List.take_succ_eq_append_getElem hk, List.all_append, hx]; simp

theorem all_done {α : Type} {p : α → Bool} {xs : List α} {k : Nat} (h : (xs.take k).all p = true) (hk : xs.length ≤ k) : xs.all p = true := by
  rw [List.take_of_length_le hk] at h; exact h

theorem all_of_take {α : Type} (p : α → Bool) {xs : List α} {k : Nat} {x : α} (h : xs[k]? = some x) (hp : p x = false) : xs.all p = false := by
  rw [List.all_eq_false]
  exact ⟨x, List.mem_of_getElem? h, by simp [hp]⟩

theorem allWithin_c (v : Value) (xs : List Int) (lo hi : Int) (w : World) (hv : Ints w v xs) : Calls Try.prog 73 #[v, .int .i64 lo, .int .i64 hi] w fun e w' => e = .returned (.bool (xs.all (inR lo hi))) ∧ w = w' := by
  obtain ⟨a, cap, rfl, hcap, hle, -, hc⟩ := hv
  go_enter Try.func73, Try.ntmps73
  go_wp2
  go_loop [8, 11] (fun _ i => ∃ k : Nat, k ≤ xs.length ∧ i = .int .i64 k ∧ (xs.take k).all (inR lo hi) = true) (fun _ i => xs.length - (intOf i).toNat)
  case atStart => exact ⟨0, Nat.zero_le _, rfl, rfl⟩
  case round =>
    obtain ⟨k, hk, rfl, hall⟩ := hrel
    have Hall := Lib.hid hall; clear hall
    by_cases hlt : k < xs.length
    · obtain ⟨b, off, rfl, -, hc'⟩ := hc (by omega)
      obtain ⟨x, hx⟩ : ∃ x, xs[k]? = some x := ⟨_, List.getElem?_eq_getElem hlt⟩
      obtain ⟨u, hck, rfl, -⟩ := hc' k x hx
      have Hs := Lib.hid (all_take_step (inR lo hi) hx)
      have Hx := Lib.hid hx; clear hx hc hc'
      cases hin : inR lo hi x
      · have Hin := Lib.hid hin
        go_wp2_with (first | (go_at_call 67; refine (within_c _ _ _ _).mono ?_; rintro e w' ⟨rfl, rfl⟩))
        go_ret
        exact ⟨retB (all_of_take _ Hx.out Hin.out).symm, rfl⟩
      · have Hin := Lib.hid hin
        go_wp2_with (first | (go_at_call 67; refine (within_c _ _ _ _).mono ?_; rintro e w' ⟨rfl, rfl⟩))
        go_round
        case rel => exact ⟨k + 1, by omega, by go_num, by rw [Hs.out, Hall.out, Hin.out]; rfl⟩
        case measure => simp [intOf]; omega
    · go_wp2
      go_ret
      exact ⟨retB (all_done Hall.out (by omega)).symm, rfl⟩
/-- the call made a new owned slice (or slice of slices ..) and changed nothing else -/
def New {α : Type} (E : TypeId) (R : RepT α) (w : World) (xs : List α) (e : Ending) (w' : World) : Prop :=
  ∃ v', e = .returned v' ∧ Own E R (Iv w.heap.size w'.heap.size) w' v' xs ∧ Below w.heap.size w w'

theorem set_copy {xs : List Int} {k : Nat} {x : Int} (h : xs[k]? = some x) : (xs.take k ++ List.replicate (xs.length - k) 0).set k x = xs.take (k + 1) ++ List.replicate (xs.length - (k + 1)) 0 := by
  obtain ⟨hk, hx⟩ := List.getElem?_eq_some_iff.1 h
  obtain ⟨d, hd⟩ : ∃ d, xs.length - k = d + 1 := ⟨xs.length - k - 1, by omega⟩
  rw [hd, show xs.length - (k + 1) = d from by omega, List.set_append_right _ _ (by simp; omega), List.length_take, Nat.min_eq_left (Nat.le_of_lt hk), Nat.sub_self, List.replicate_succ, List.set_cons_zero, List.take_succ_eq_append_getElem hk, hx]
  simp

theorem toIntS_c (v : Value) (xs : List Int) (w : World) (hv : Ints w v xs) (hlen : xs.length ≤ 1099511627776) : Calls Try.prog 20 #[v] w (New 3 IntV w xs) := by
  obtain ⟨a, cap, rfl, hcap, -, -, hc⟩ := hv
  go_enter Try.func20, Try.ntmps20
  go_wp2_with (first | (at_make; refine wpList_mk _ rfl _ _ 25 rfl 3 Try.underlying25 infoInt rfl (by decide) (R := IntV) 0 ⟨rfl, I64.small (by decide) (by decide)⟩ rIntV xs.length rfl rfl hlen ?_; intro w1 hown hbel hsz))
  have Hown : Own 3 IntV (fun b => b = w.heap.size) w1 (.slice (some ⟨w.heap.size, 0, none⟩) xs.length xs.length) (xs.take 0 ++ List.replicate (xs.length - 0) 0) := by simpa using hown
  clear hown
  have Hsz := Lib.hid hsz; clear hsz
  go_loopw [4] (fun i wr => ∃ k : Nat, k ≤ xs.length ∧ i = .int .i64 k ∧ Own 3 IntV (fun b => b = w.heap.size) wr (.slice (some ⟨w.heap.size, 0, none⟩) xs.length xs.length) (xs.take k ++ List.replicate (xs.length - k) 0) ∧ Below w.heap.size w wr ∧ wr.heap.size = w1.heap.size) (fun i _ => xs.length - (intOf i).toNat)
  case atStart => exact ⟨0, Nat.zero_le _, rfl, Hown, hbel, rfl⟩
  case round =>
    clear Hown hbel
    obtain ⟨k, hk, rfl, hown, hbel, hsz⟩ := hrel
    by_cases hlt : k < xs.length
    · obtain ⟨b, off, rfl, hb, hc'⟩ := hc (by omega)
      obtain ⟨x, hx⟩ : ∃ x, xs[k]? = some x := ⟨_, List.getElem?_eq_getElem hlt⟩
      obtain ⟨u, hck, rfl, hI⟩ := hc' k x hx
      have Hx := Lib.hid hx
      have hl : (xs.take k ++ List.replicate (xs.length - k) 0).length = xs.length := by simp; omega
      have hset := hown.setInt (k := k) (by rw [hl]; exact hlt) hI
      rw [set_copy hx] at hset
      obtain ⟨y, hcd, hfd⟩ := hown.ints_at (k := k) (by rw [hl]; exact hlt)
      have Hset := Lib.hid hset
      have Hsz2 := Lib.hid hsz
      rw [← hbel.cell (p := ⟨b, off + k, none⟩) hb] at hck
      clear hx hc hc' hl hset hown hsz
      go_wp2
      go_roundw
      case rel => exact ⟨k + 1, by omega, by go_num, Hset.out, hbel.setCell (Nat.le_refl _) _, by rw [← Hsz2.out]; simp [World.setCell]⟩
      case measure => simp [intOf]; omega
    · have Hown := Lib.hid hown
      have Hsz2 := Lib.hid hsz
      clear hown hsz
      go_wp2
      go_ret
      refine ⟨_, rfl, ?_, hbel⟩
      have h1 := Hown.out
      have h2 := Hsz2.out
      have h3 := Hsz.out
      obtain rfl : k = xs.length := by omega
      simp at h1
      exact (rOwn rIntV).mono (fun b hb => ⟨by omega, by omega⟩) h1
/-- what a list sums up to -/
def sumL (xs : List Int) : Int := xs.foldl (· + ·) 0
theorem sumL_take {xs : List Int} {k : Nat} {x : Int} (h : xs[k]? = some x) : sumL (xs.take (k + 1)) = sumL (xs.take k) + x := by
  obtain ⟨hk, hx⟩ := List.getElem?_eq_some_iff.1 h
  rw [List.take_succ_eq_append_getElem hk, hx]; simp [sumL]
theorem sumL_done {xs : List Int} {k : Nat} (hk : xs.length ≤ k) : sumL (xs.take k) = sumL xs := by rw [List.take_of_length_le hk]
/-- small numbers -/
def Small (xs : List Int) : Prop := xs.length ≤ 1048576 ∧ ∀ x ∈ xs, -1048576 ≤ x ∧ x ≤ 1048576
theorem sumL_small {xs : List Int} (h : Small xs) : ∀ k, k ≤ xs.length → -(1048576 * (k : Int)) ≤ sumL (xs.take k) ∧ sumL (xs.take k) ≤ 1048576 * (k : Int) := by
  intro k
  induction k with
  | zero => intro _; simp [sumL]
  | succ k ih =>
    intro hk
    have h1 := ih (by omega)
    have hx : xs[k]? = some xs[k] := List.getElem?_eq_getElem (by omega)
    rw [sumL_take hx]
    have := h.2 _ (List.mem_of_getElem? hx)
    push_cast
    omega

theorem sumOf_c (v : Value) (xs : List Int) (w : World) (hv : Ints w v xs) (hs : Small xs) : Calls Try.prog 39 #[v] w fun e w' => e = .returned (.int .i64 (sumL xs)) ∧ w = w' := by
  obtain ⟨a, cap, rfl, hcap, -, -, hc⟩ := hv
  have hle := hs.1
  go_enter Try.func39, Try.ntmps39
  go_wp2
  go_loop [3, 8] (fun n i => ∃ k : Nat, k ≤ xs.length ∧ i = .int .i64 k ∧ n = .int .i64 (sumL (xs.take k))) (fun _ i => xs.length - (intOf i).toNat)
  case atStart => exact ⟨0, Nat.zero_le _, rfl, rfl⟩
  case round =>
    obtain ⟨k, hk, rfl, rfl⟩ := hrel
    obtain ⟨t, ht⟩ : ∃ t, t = sumL (xs.take k) := ⟨_, rfl⟩
    have hb := sumL_small hs k hk
    rw [← ht] at hb ⊢
    have Ht := Lib.hid ht
    obtain ⟨hb1, hb2⟩ := hb
    have hk20 : k ≤ 1048576 := by omega
    by_cases hlt : k < xs.length
    · obtain ⟨b, off, rfl, -, hc'⟩ := hc (by omega)
      obtain ⟨x, hx⟩ : ∃ x, xs[k]? = some x := ⟨_, List.getElem?_eq_getElem hlt⟩
      obtain ⟨u, hck, rfl, -⟩ := hc' k x hx
      obtain ⟨hx1, hx2⟩ := hs.2 x (List.mem_of_getElem? hx)
      have Hs := Lib.hid (sumL_take hx)
      clear hx hc hc' ht
      go_wp2
      go_round
      case rel => exact ⟨k + 1, by omega, by go_num, by rw [Hs.out, ← Ht.out]⟩
      case measure => simp [intOf]; omega
    · clear ht
      go_wp2
      go_ret
      exact ⟨retI (by rw [Ht.out, sumL_done (by omega)]), rfl⟩
theorem l03Total_c (v : Value) (xs : List Int) (w : World) (hv : Ints w v xs) (hs : Small xs) : Calls Try.prog 91 #[v] w fun e w' => e = .returned (.int .i64 (sumL xs)) ∧ w = w' := by
  obtain ⟨a, cap, rfl, hcap, -, -, hc⟩ := hv
  have hle := hs.1
  go_enter Try.func91, Try.ntmps91
  go_wp2
  go_loop [3, 8] (fun n i => ∃ k : Nat, k ≤ xs.length ∧ i = .int .i64 k ∧ n = .int .i64 (sumL (xs.take k))) (fun _ i => xs.length - (intOf i).toNat)
  case atStart => exact ⟨0, Nat.zero_le _, rfl, rfl⟩
  case round =>
    obtain ⟨k, hk, rfl, rfl⟩ := hrel
    obtain ⟨t, ht⟩ : ∃ t, t = sumL (xs.take k) := ⟨_, rfl⟩
    have hb := sumL_small hs k hk
    rw [← ht] at hb ⊢
    have Ht := Lib.hid ht
    obtain ⟨hb1, hb2⟩ := hb
    have hk20 : k ≤ 1048576 := by omega
    by_cases hlt : k < xs.length
    · obtain ⟨b, off, rfl, -, hc'⟩ := hc (by omega)
      obtain ⟨x, hx⟩ : ∃ x, xs[k]? = some x := ⟨_, List.getElem?_eq_getElem hlt⟩
      obtain ⟨u, hck, rfl, -⟩ := hc' k x hx
      obtain ⟨hx1, hx2⟩ := hs.2 x (List.mem_of_getElem? hx)
      have Hs := Lib.hid (sumL_take hx)
      clear hx hc hc' ht
      go_wp2
      go_round
      case rel => exact ⟨k + 1, by omega, by go_num, by rw [Hs.out, ← Ht.out]⟩
      case measure => simp [intOf]; omega
    · clear ht
      go_wp2
      go_ret
      exact ⟨retI (by rw [Ht.out, sumL_done (by omega)]), rfl⟩

theorem take_step_eq {α : Type} {xs ys : List α} {k : Nat} {x : α} (h : xs.take k = ys.take k) (hx : xs[k]? = some x) (hy : ys[k]? = some x) : xs.take (k + 1) = ys.take (k + 1) := by
  obtain ⟨h1, h2⟩ := List.getElem?_eq_some_iff.1 hx
  obtain ⟨h3, h4⟩ := List.getElem?_eq_some_iff.1 hy
  rw [List.take_succ_eq_append_getElem h1, List.take_succ_eq_append_getElem h3, h, h2, h4]

theorem eqIntS_q (v v2 : Value) (xs ys : List Int) (w : World) (hv : Ints w v xs) (hv2 : Ints w v2 ys) : Calls Try.prog 21 #[v, v2] w fun e w' => e = .returned (.bool (decide (xs = ys))) ∧ ∃ n, w' = w.drewN n := by
  obtain ⟨a, cap, rfl, hcap, hle, -, hc⟩ := hv
  obtain ⟨a2, cap2, rfl, hcap2, hle2, -, hc2⟩ := hv2
  by_cases hl : xs.length = ys.length
  · have hl1 : xs.length ≤ ys.length := by omega
    have hl2 : ys.length ≤ xs.length := by omega
    have Hl := Lib.hid hl; clear hl
    go_enter Try.func21, Try.ntmps21
    go_wp2
    go_loopw [5] (fun i wr => ∃ k : Nat, k ≤ xs.length ∧ i = .int .i64 k ∧ xs.take k = ys.take k ∧ ∃ n, wr = w.drewN n) (fun i _ => xs.length - (intOf i).toNat)
    case atStart => exact ⟨0, Nat.zero_le _, rfl, rfl, 0, rfl⟩
    case round =>
      obtain ⟨k, hk, rfl, heq, n, rfl⟩ := hrel
      have Heq := Lib.hid heq; clear heq
      by_cases hlt : k < xs.length
      · obtain ⟨b, off, rfl, hb, hc'⟩ := hc (by omega)
        obtain ⟨x, hx⟩ : ∃ x, xs[k]? = some x := ⟨_, List.getElem?_eq_getElem hlt⟩
        obtain ⟨u, hck, rfl, -⟩ := hc' k x hx
        obtain ⟨b2, off2, rfl, hb2, hc2'⟩ := hc2 (by omega)
        obtain ⟨y, hy⟩ : ∃ y, ys[k]? = some y := ⟨_, List.getElem?_eq_getElem (by omega)⟩
        obtain ⟨u2, hck2, rfl, -⟩ := hc2' k y hy
        have Hx := Lib.hid hx
        have Hy := Lib.hid hy
        clear hx hc hc' hy hc2 hc2'
        by_cases hxy : x = y
        · subst hxy
          go_wp2
          go_quiet (fail)
          go_wp2
          go_roundw
          case rel => exact ⟨k + 1, by omega, by go_num, take_step_eq Heq.out Hx.out Hy.out, _, rfl⟩
          case measure => simp [intOf]; omega
        · have hne : (x == y) = false := by simpa using hxy
          have Hxy := Lib.hid hxy; clear hxy
          go_wp2
          go_quiet (fail)
          go_wp2
          go_ret
          exact ⟨retB (Eq.symm (by simp; intro h; have h1 := Hx.out; rw [h, Hy.out] at h1; exact Hxy.out (Option.some.inj h1).symm)), quiet2 _ _ _⟩
      · go_wp2
        go_ret
        exact ⟨retB (Eq.symm (by have h := Heq.out; have hl := Hl.out; rw [List.take_of_length_le (by omega), List.take_of_length_le (by omega)] at h; simp [h])), n, rfl⟩
  · have hne : decide (xs = ys) = false := by simp; intro h; exact hl (by rw [h])
    rw [hne]; clear hne
    have hl' : ((xs.length : Int) == (ys.length : Int)) = false := by simp; omega
    go_enter Try.func21, Try.ntmps21
    go_wp2
    go_ret
    exact ⟨rfl, 0, rfl⟩
theorem eqIntS_c (v v2 : Value) (xs ys : List Int) (w : World) (hv : Ints w v xs) (hv2 : Ints w v2 ys) : Calls Try.prog 21 #[v, v2] w fun e w' => e = .returned (.bool (decide (xs = ys))) ∧ Below w.heap.size w w' :=
  (eqIntS_q v v2 xs ys w hv hv2).mono fun _ _ ⟨he, n, hn⟩ => ⟨he, by subst hn; exact below_drewN (Below.refl _ _) n⟩
end Go.Proofs.Ytliejhmlcdjpcaa

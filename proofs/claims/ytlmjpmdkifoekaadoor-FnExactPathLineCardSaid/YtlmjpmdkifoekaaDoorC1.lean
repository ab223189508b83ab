/- Contracts of the small functions on integers and integer slices. Contracts: marks, the functions on sums. Runs of a line: plain. Contracts: RunsOf, ParityOf. Contracts: slices of slices: equal, marked, held, copied. Contracts: copies of lists and grids. Contracts: copies of images by the reference. -/
import Derived.Test.YtlmjpmdkifoekaaDoorRows
import Derived.Test.YtlmjpmdkifoekaaDoorMem
import Derived.WalkLawsBesides
import Derived.WalkSpells
import Derived.Deep.QuietTactic
import Derived.BigQuiet
import Derived.WalkSmall
import Derived.BigGuardPart
namespace Go.Proofs.YtlmjpmdkifoekaaDoor
open Go.RowKit

theorem infoInt : (Tryd.prog.info? 3).map (fun i => (i.zero, i.size, i.bytes)) = some (some (.int .i64 0), 1, 8) := by kernel_rfl

theorem quiet2 (w : World) (n q : Nat) : ∃ m, (w.drewN n).drewN q = w.drewN m := ⟨n + q, World.drewN_drewN _ _ _⟩
theorem quiet1 {w wr : World} {n : Nat} (h : wr = w.drewN n) (q : Nat) : ∃ m, wr.drewN q = w.drewN m := ⟨n + q, by rw [h]; exact World.drewN_drewN _ _ _⟩
theorem retB {b b' : Bool} (h : b = b') : Ending.returned (.bool b) = Ending.returned (.bool b') := by rw [h]
theorem retI {n n' : Int} (h : n = n') : Ending.returned (.int .i64 n) = Ending.returned (.int .i64 n') := by rw [h]

def inR (lo hi n : Int) : Bool := decide (lo ≤ n) && decide (n ≤ hi)
theorem inR_t {lo hi n : Int} (h1 : lo ≤ n) (h2 : n ≤ hi) : inR lo hi n = true := by simp [inR, h1, h2]
theorem inR_iff {lo hi n : Int} : inR lo hi n = true ↔ lo ≤ n ∧ n ≤ hi := by simp [inR]

theorem within_c (n lo hi : Int) (w : World) : Calls Tryd.prog 69 #[.int .i64 n, .int .i64 lo, .int .i64 hi] w fun e w' => e = .returned (.bool (inR lo hi n)) ∧ w = w' := by
  by_cases h1 : lo ≤ n
  · by_cases h2 : n ≤ hi
    · have h : inR lo hi n = true := by simp [inR, h1, h2]
      rw [h]; clear h
      go_enter Tryd.func69, Tryd.ntmps69
      go_wp2
      go_ret
      exact ⟨rfl, rfl⟩
    · have h : inR lo hi n = false := by simp [inR, h2]
      rw [h]; clear h
      go_enter Tryd.func69, Tryd.ntmps69
      go_wp2
      go_ret
      exact ⟨rfl, rfl⟩
  · have h : inR lo hi n = false := by simp [inR, h1]
    rw [h]; clear h
    go_enter Tryd.func69, Tryd.ntmps69
    go_wp2
    go_ret
    exact ⟨rfl, rfl⟩
theorem l01In_c (n lo hi : Int) (w : World) : Calls Tryd.prog 127 #[.int .i64 n, .int .i64 lo, .int .i64 hi] w fun e w' => e = .returned (.bool (inR lo hi n)) ∧ w = w' := by
  by_cases h1 : lo ≤ n
  · by_cases h2 : n ≤ hi
    · have h : inR lo hi n = true := by simp [inR, h1, h2]
      rw [h]; clear h
      go_enter Tryd.func127, Tryd.ntmps127
      go_wp2
      go_ret
      exact ⟨rfl, rfl⟩
    · have h : inR lo hi n = false := by simp [inR, h2]
      rw [h]; clear h
      go_enter Tryd.func127, Tryd.ntmps127
      go_wp2
      go_ret
      exact ⟨rfl, rfl⟩
  · have h : inR lo hi n = false := by simp [inR, h1]
    rw [h]; clear h
    go_enter Tryd.func127, Tryd.ntmps127
    go_wp2
    go_ret
    exact ⟨rfl, rfl⟩

theorem all_take_step {α : Type} (p : α → Bool) {xs : List α} {k : Nat} {x : α} (h : xs[k]? = some x) : (xs.take (k + 1)).all p = ((xs.take k).all p && p x) := by
  obtain ⟨hk, hx⟩ := List.getElem?_eq_some_iff.1 h
  rw [List.take_succ_eq_append_getElem hk, List.all_append, hx]; simp

theorem all_done {α : Type} {p : α → Bool} {xs : List α} {k : Nat} (h : (xs.take k).all p = true) (hk : xs.length ≤ k) : xs.all p = true := by
  rw [List.take_of_length_le hk] at h; exact h

theorem all_of_take {α : Type} (p : α → Bool) {xs : List α} {k : Nat} {x : α} (h : xs[k]? = some x) (hp : p x = false) : xs.all p = false := by
  rw [List.all_eq_false]
  exact ⟨x, List.mem_of_getElem? h, by simp [hp]⟩

theorem allWithin_c (v : Value) (xs : List Int) (lo hi : Int) (w : World) (hv : Ints w v xs) : Calls Tryd.prog 98 #[v, .int .i64 lo, .int .i64 hi] w fun e w' => e = .returned (.bool (xs.all (inR lo hi))) ∧ w = w' := by
  obtain ⟨a, cap, rfl, hcap, hle, -, hc⟩ := hv
  go_enter Tryd.func98, Tryd.ntmps98
  go_wp2
  go_loop [8, 11] (fun _ i => ∃ k : Nat, k ≤ xs.length ∧ i = .int .i64 k ∧ (xs.take k).all (inR lo hi) = true) (fun _ i => xs.length - (intOf i).toNat)
  case atStart => exact ⟨0, Nat.zero_le _, rfl, rfl⟩
  case round =>
    obtain ⟨k, hk, rfl, hall⟩ := hrel
    have Hall := Lib.hid hall; clear hall
    by_cases hlt : k < xs.length
    · obtain ⟨b, off, rfl, -, hc'⟩ := hc (by omega)
      obtain ⟨x, hx⟩ : ∃ x, xs[k]? = some x := ⟨_, List.getElem?_eq_getElem hlt⟩
      obtain ⟨u, hck, rfl, -⟩ := hc' k x hx
      have Hs := Lib.hid (all_take_step (inR lo hi) hx)
      have Hx := Lib.hid hx; clear hx hc hc'
      cases hin : inR lo hi x
      · have Hin := Lib.hid hin
        go_wp2_with (first | (go_at_call 69; refine (within_c _ _ _ _).mono ?_; rintro e w' ⟨rfl, rfl⟩))
        go_ret
        exact ⟨retB (all_of_take _ Hx.out Hin.out).symm, rfl⟩
      · have Hin := Lib.hid hin
        go_wp2_with (first | (go_at_call 69; refine (within_c _ _ _ _).mono ?_; rintro e w' ⟨rfl, rfl⟩))
        go_round
        case rel => exact ⟨k + 1, by omega, by go_num, by rw [Hs.out, Hall.out, Hin.out]; rfl⟩
        case measure => simp [intOf]; omega
    · go_wp2
      go_ret
      exact ⟨retB (all_done Hall.out (by omega)).symm, rfl⟩
/-- the call made a new owned slice (or slice of slices ..) and changed nothing else -/
def New {α : Type} (E : TypeId) (R : RepT α) (w : World) (xs : List α) (e : Ending) (w' : World) : Prop :=
  ∃ v', e = .returned v' ∧ Own E R (Iv w.heap.size w'.heap.size) w' v' xs ∧ Below w.heap.size w w'

theorem set_copy {xs : List Int} {k : Nat} {x : Int} (h : xs[k]? = some x) : (xs.take k ++ List.replicate (xs.length - k) 0).set k x = xs.take (k + 1) ++ List.replicate (xs.length - (k + 1)) 0 := by
  obtain ⟨hk, hx⟩ := List.getElem?_eq_some_iff.1 h
  obtain ⟨d, hd⟩ : ∃ d, xs.length - k = d + 1 := ⟨xs.length - k - 1, by omega⟩
  rw [hd, show xs.length - (k + 1) = d from by omega, List.set_append_right _ _ (by simp; omega), List.length_take, Nat.min_eq_left (Nat.le_of_lt hk), Nat.sub_self, List.replicate_succ, List.set_cons_zero, List.take_succ_eq_append_getElem hk, hx]
  simp

theorem toIntS_c (v : Value) (xs : List Int) (w : World) (hv : Ints w v xs) (hlen : xs.length ≤ 1099511627776) : Calls Tryd.prog 35 #[v] w (New 3 IntV w xs) := by
  obtain ⟨a, cap, rfl, hcap, -, -, hc⟩ := hv
  go_enter Tryd.func35, Tryd.ntmps35
  go_wp2_with (first | (at_make; refine wpList_mk _ rfl _ _ 24 rfl 3 Tryd.underlying24 infoInt rfl (by decide) (R := IntV) 0 ⟨rfl, I64.small (by decide) (by decide)⟩ rIntV xs.length rfl rfl hlen ?_; intro w1 hown hbel hsz))
  have Hown : Own 3 IntV (fun b => b = w.heap.size) w1 (.slice (some ⟨w.heap.size, 0, none⟩) xs.length xs.length) (xs.take 0 ++ List.replicate (xs.length - 0) 0) := by simpa using hown
  clear hown
  have Hsz := Lib.hid hsz; clear hsz
  go_loopw [4] (fun i wr => ∃ k : Nat, k ≤ xs.length ∧ i = .int .i64 k ∧ Own 3 IntV (fun b => b = w.heap.size) wr (.slice (some ⟨w.heap.size, 0, none⟩) xs.length xs.length) (xs.take k ++ List.replicate (xs.length - k) 0) ∧ Below w.heap.size w wr ∧ wr.heap.size = w1.heap.size) (fun i _ => xs.length - (intOf i).toNat)
  case atStart => exact ⟨0, Nat.zero_le _, rfl, Hown, hbel, rfl⟩
  case round =>
    clear Hown hbel
    obtain ⟨k, hk, rfl, hown, hbel, hsz⟩ := hrel
    by_cases hlt : k < xs.length
    · obtain ⟨b, off, rfl, hb, hc'⟩ := hc (by omega)
      obtain ⟨x, hx⟩ : ∃ x, xs[k]? = some x := ⟨_, List.getElem?_eq_getElem hlt⟩
      obtain ⟨u, hck, rfl, hI⟩ := hc' k x hx
      have Hx := Lib.hid hx
      have hl : (xs.take k ++ List.replicate (xs.length - k) 0).length = xs.length := by simp; omega
      have hset := hown.setInt (k := k) (by rw [hl]; exact hlt) hI
      rw [set_copy hx] at hset
      obtain ⟨y, hcd, hfd⟩ := hown.ints_at (k := k) (by rw [hl]; exact hlt)
      have Hset := Lib.hid hset
      have Hsz2 := Lib.hid hsz
      rw [← hbel.cell (p := ⟨b, off + k, none⟩) hb] at hck
      clear hx hc hc' hl hset hown hsz
      go_wp2
      go_roundw
      case rel => exact ⟨k + 1, by omega, by go_num, Hset.out, hbel.setCell (Nat.le_refl _) _, by rw [← Hsz2.out]; simp [World.setCell]⟩
      case measure => simp [intOf]; omega
    · have Hown := Lib.hid hown
      have Hsz2 := Lib.hid hsz
      clear hown hsz
      go_wp2
      go_ret
      refine ⟨_, rfl, ?_, hbel⟩
      have h1 := Hown.out
      have h2 := Hsz2.out
      have h3 := Hsz.out
      obtain rfl : k = xs.length := by omega
      simp at h1
      exact (rOwn rIntV).mono (fun b hb => ⟨by omega, by omega⟩) h1
/-- what a list sums up to -/
def sumL (xs : List Int) : Int := xs.foldl (· + ·) 0
theorem sumL_take {xs : List Int} {k : Nat} {x : Int} (h : xs[k]? = some x) : sumL (xs.take (k + 1)) = sumL (xs.take k) + x := by
  obtain ⟨hk, hx⟩ := List.getElem?_eq_some_iff.1 h
  rw [List.take_succ_eq_append_getElem hk, hx]; simp [sumL]
theorem sumL_done {xs : List Int} {k : Nat} (hk : xs.length ≤ k) : sumL (xs.take k) = sumL xs := by rw [List.take_of_length_le hk]
/-- small numbers -/
def Small (xs : List Int) : Prop := xs.length ≤ 1048576 ∧ ∀ x ∈ xs, -1048576 ≤ x ∧ x ≤ 1048576
theorem sumL_small {xs : List Int} (h : Small xs) : ∀ k, k ≤ xs.length → -(1048576 * (k : Int)) ≤ sumL (xs.take k) ∧ sumL (xs.take k) ≤ 1048576 * (k : Int) := by
  intro k
  induction k with
  | zero => intro _; simp [sumL]
  | succ k ih =>
    intro hk
    have h1 := ih (by omega)
    have hx : xs[k]? = some xs[k] := List.getElem?_eq_getElem (by omega)
    rw [sumL_take hx]
    have := h.2 _ (List.mem_of_getElem? hx)
    push_cast
    omega

theorem sumOf_c (v : Value) (xs : List Int) (w : World) (hv : Ints w v xs) (hs : Small xs) : Calls Tryd.prog 56 #[v] w fun e w' => e = .returned (.int .i64 (sumL xs)) ∧ w = w' := by
  obtain ⟨a, cap, rfl, hcap, -, -, hc⟩ := hv
  have hle := hs.1
  go_enter Tryd.func56, Tryd.ntmps56
  go_wp2
  go_loop [3, 8] (fun n i => ∃ k : Nat, k ≤ xs.length ∧ i = .int .i64 k ∧ n = .int .i64 (sumL (xs.take k))) (fun _ i => xs.length - (intOf i).toNat)
  case atStart => exact ⟨0, Nat.zero_le _, rfl, rfl⟩
  case round =>
    obtain ⟨k, hk, rfl, rfl⟩ := hrel
    obtain ⟨t, ht⟩ : ∃ t, t = sumL (xs.take k) := ⟨_, rfl⟩
    have hb := sumL_small hs k hk
    rw [← ht] at hb ⊢
    have Ht := Lib.hid ht
    obtain ⟨hb1, hb2⟩ := hb
    have hk20 : k ≤ 1048576 := by omega
    by_cases hlt : k < xs.length
    · obtain ⟨b, off, rfl, -, hc'⟩ := hc (by omega)
      obtain ⟨x, hx⟩ : ∃ x, xs[k]? = some x := ⟨_, List.getElem?_eq_getElem hlt⟩
      obtain ⟨u, hck, rfl, -⟩ := hc' k x hx
      obtain ⟨hx1, hx2⟩ := hs.2 x (List.mem_of_getElem? hx)
      have Hs := Lib.hid (sumL_take hx)
      clear hx hc hc' ht
      go_wp2
      go_round
      case rel => exact ⟨k + 1, by omega, by go_num, by rw [Hs.out, ← Ht.out]⟩
      case measure => simp [intOf]; omega
    · clear ht
      go_wp2
      go_ret
      exact ⟨retI (by rw [Ht.out, sumL_done (by omega)]), rfl⟩
theorem l03Total_c (v : Value) (xs : List Int) (w : World) (hv : Ints w v xs) (hs : Small xs) : Calls Tryd.prog 132 #[v] w fun e w' => e = .returned (.int .i64 (sumL xs)) ∧ w = w' := by
  obtain ⟨a, cap, rfl, hcap, -, -, hc⟩ := hv
  have hle := hs.1
  go_enter Tryd.func132, Tryd.ntmps132
  go_wp2
  go_loop [3, 8] (fun n i => ∃ k : Nat, k ≤ xs.length ∧ i = .int .i64 k ∧ n = .int .i64 (sumL (xs.take k))) (fun _ i => xs.length - (intOf i).toNat)
  case atStart => exact ⟨0, Nat.zero_le _, rfl, rfl⟩
  case round =>
    obtain ⟨k, hk, rfl, rfl⟩ := hrel
    obtain ⟨t, ht⟩ : ∃ t, t = sumL (xs.take k) := ⟨_, rfl⟩
    have hb := sumL_small hs k hk
    rw [← ht] at hb ⊢
    have Ht := Lib.hid ht
    obtain ⟨hb1, hb2⟩ := hb
    have hk20 : k ≤ 1048576 := by omega
    by_cases hlt : k < xs.length
    · obtain ⟨b, off, rfl, -, hc'⟩ := hc (by omega)
      obtain ⟨x, hx⟩ : ∃ x, xs[k]? = some x := ⟨_, List.getElem?_eq_getElem hlt⟩
      obtain ⟨u, hck, rfl, -⟩ := hc' k x hx
      obtain ⟨hx1, hx2⟩ := hs.2 x (List.mem_of_getElem? hx)
      have Hs := Lib.hid (sumL_take hx)
      clear hx hc hc' ht
      go_wp2
      go_round
      case rel => exact ⟨k + 1, by omega, by go_num, by rw [Hs.out, ← Ht.out]⟩
      case measure => simp [intOf]; omega
    · clear ht
      go_wp2
      go_ret
      exact ⟨retI (by rw [Ht.out, sumL_done (by omega)]), rfl⟩

theorem take_step_eq {α : Type} {xs ys : List α} {k : Nat} {x : α} (h : xs.take k = ys.take k) (hx : xs[k]? = some x) (hy : ys[k]? = some x) : xs.take (k + 1) = ys.take (k + 1) := by
  obtain ⟨h1, h2⟩ := List.getElem?_eq_some_iff.1 hx
  obtain ⟨h3, h4⟩ := List.getElem?_eq_some_iff.1 hy
  rw [List.take_succ_eq_append_getElem h1, List.take_succ_eq_append_getElem h3, h, h2, h4]

theorem eqIntS_q (v v2 : Value) (xs ys : List Int) (w : World) (hv : Ints w v xs) (hv2 : Ints w v2 ys) : Calls Tryd.prog 36 #[v, v2] w fun e w' => e = .returned (.bool (decide (xs = ys))) ∧ ∃ n, w' = w.drewN n := by
  obtain ⟨a, cap, rfl, hcap, hle, -, hc⟩ := hv
  obtain ⟨a2, cap2, rfl, hcap2, hle2, -, hc2⟩ := hv2
  by_cases hl : xs.length = ys.length
  · have hl1 : xs.length ≤ ys.length := by omega
    have hl2 : ys.length ≤ xs.length := by omega
    have Hl := Lib.hid hl; clear hl
    go_enter Tryd.func36, Tryd.ntmps36
    go_wp2
    go_loopw [5] (fun i wr => ∃ k : Nat, k ≤ xs.length ∧ i = .int .i64 k ∧ xs.take k = ys.take k ∧ ∃ n, wr = w.drewN n) (fun i _ => xs.length - (intOf i).toNat)
    case atStart => exact ⟨0, Nat.zero_le _, rfl, rfl, 0, rfl⟩
    case round =>
      obtain ⟨k, hk, rfl, heq, n, rfl⟩ := hrel
      have Heq := Lib.hid heq; clear heq
      by_cases hlt : k < xs.length
      · obtain ⟨b, off, rfl, hb, hc'⟩ := hc (by omega)
        obtain ⟨x, hx⟩ : ∃ x, xs[k]? = some x := ⟨_, List.getElem?_eq_getElem hlt⟩
        obtain ⟨u, hck, rfl, -⟩ := hc' k x hx
        obtain ⟨b2, off2, rfl, hb2, hc2'⟩ := hc2 (by omega)
        obtain ⟨y, hy⟩ : ∃ y, ys[k]? = some y := ⟨_, List.getElem?_eq_getElem (by omega)⟩
        obtain ⟨u2, hck2, rfl, -⟩ := hc2' k y hy
        have Hx := Lib.hid hx
        have Hy := Lib.hid hy
        clear hx hc hc' hy hc2 hc2'
        by_cases hxy : x = y
        · subst hxy
          go_wp2
          go_quiet (fail)
          go_wp2
          go_roundw
          case rel => exact ⟨k + 1, by omega, by go_num, take_step_eq Heq.out Hx.out Hy.out, _, rfl⟩
          case measure => simp [intOf]; omega
        · have hne : (x == y) = false := by simpa using hxy
          have Hxy := Lib.hid hxy; clear hxy
          go_wp2
          go_quiet (fail)
          go_wp2
          go_ret
          exact ⟨retB (Eq.symm (by simp; intro h; have h1 := Hx.out; rw [h, Hy.out] at h1; exact Hxy.out (Option.some.inj h1).symm)), quiet2 _ _ _⟩
      · go_wp2
        go_ret
        exact ⟨retB (Eq.symm (by have h := Heq.out; have hl := Hl.out; rw [List.take_of_length_le (by omega), List.take_of_length_le (by omega)] at h; simp [h])), n, rfl⟩
  · have hne : decide (xs = ys) = false := by simp; intro h; exact hl (by rw [h])
    rw [hne]; clear hne
    have hl' : ((xs.length : Int) == (ys.length : Int)) = false := by simp; omega
    go_enter Tryd.func36, Tryd.ntmps36
    go_wp2
    go_ret
    exact ⟨rfl, 0, rfl⟩
theorem eqIntS_c (v v2 : Value) (xs ys : List Int) (w : World) (hv : Ints w v xs) (hv2 : Ints w v2 ys) : Calls Tryd.prog 36 #[v, v2] w fun e w' => e = .returned (.bool (decide (xs = ys))) ∧ Below w.heap.size w w' :=
  (eqIntS_q v v2 xs ys w hv hv2).mono fun _ _ ⟨he, n, hn⟩ => ⟨he, by subst hn; exact below_drewN (Below.refl _ _) n⟩
end Go.Proofs.YtlmjpmdkifoekaaDoor

namespace Go.Proofs.YtlmjpmdkifoekaaDoor
open Go.RowKit

/-- k, k + 1, .. : n numbers -/
def marks (k : Int) (n : Nat) : List Int := (List.range n).map fun i : Nat => k + (i : Int)
theorem marks_len (k : Int) (n : Nat) : (marks k n).length = n := by simp [marks]
theorem marks_at {k : Int} {n j : Nat} (h : j < n) : (marks k n)[j]? = some (k + (j : Int)) := by simp [marks, h]
theorem marks_set {xs : List Int} {k : Int} {j : Nat} (h : j < xs.length) : (marks k j ++ xs.drop j).set j (k + (j : Int)) = marks k (j + 1) ++ xs.drop (j + 1) := by
  rw [List.set_append_right _ _ (by rw [marks_len]; exact Nat.le_refl _), marks_len, Nat.sub_self, List.drop_eq_getElem_cons h, List.set_cons_zero]
  simp [marks, List.range_succ]


/-- SumsFit -/
def sumsFit (rows cols : List Int) : Bool := inR 1 4 rows.length && inR 1 4 cols.length && rows.all (inR 0 cols.length) && cols.all (inR 0 rows.length)
end Go.Proofs.YtlmjpmdkifoekaaDoor

namespace Go.Proofs.YtlmjpmdkifoekaaDoor

/-- the runs that have ended, and the length of the one that has not -/
def runsFin (s : List Int × Nat) : List Int := if 0 < s.2 then s.1 ++ [(s.2 : Int)] else s.1
def runsStep (s : List Int × Nat) (x : Int) : List Int × Nat := if x = 1 then (s.1, s.2 + 1) else (runsFin s, 0)
def runsSt (xs : List Int) : List Int × Nat := xs.foldl runsStep ([], 0)
def runsOf (xs : List Int) : List Int := runsFin (runsSt xs)

theorem runsSt_take {xs : List Int} {k : Nat} {x : Int} (h : xs[k]? = some x) : runsSt (xs.take (k + 1)) = if x = 1 then ((runsSt (xs.take k)).1, (runsSt (xs.take k)).2 + 1) else (runsFin (runsSt (xs.take k)), 0) := by
  obtain ⟨hk, hx⟩ := List.getElem?_eq_some_iff.1 h
  rw [List.take_succ_eq_append_getElem hk, hx]
  unfold runsSt
  rw [List.foldl_append]
  rfl

theorem runsSt_pos {xs : List Int} {k : Nat} (hk : k ≤ xs.length) : 0 < (runsSt (xs.take k)).2 ↔ 0 < k ∧ xs[k - 1]? = some 1 := by
  cases k with
  | zero => simp [runsSt]
  | succ k =>
    have hx : xs[k]? = some xs[k] := List.getElem?_eq_getElem (by omega)
    rw [runsSt_take hx]
    simp only [Nat.add_sub_cancel, hx]
    split <;> simp_all

theorem runsSt_len {xs : List Int} : ∀ k, k ≤ xs.length → (runsSt (xs.take k)).1.length + (runsSt (xs.take k)).2 ≤ k := by
  intro k
  induction k with
  | zero => intro _; simp [runsSt]
  | succ k ih =>
    intro hk
    have h1 := ih (by omega)
    have hx : xs[k]? = some xs[k] := List.getElem?_eq_getElem (by omega)
    rw [runsSt_take hx]
    split
    · simp; omega
    · simp only [runsFin]
      split
      · simp; omega
      · simp; omega

theorem runsOf_len (xs : List Int) : (runsOf xs).length ≤ xs.length := by
  have h := runsSt_len (xs := xs) xs.length (Nat.le_refl _)
  rw [List.take_length] at h
  unfold runsOf runsFin
  split
  · simp; omega
  · omega
end Go.Proofs.YtlmjpmdkifoekaaDoor

namespace Go.Proofs.YtlmjpmdkifoekaaDoor
open Go.RowKit

set_option maxHeartbeats 400000 in
theorem RunsOf_i (v : Value) (xs : List Int) (w : World) (hv : Ints w v xs) (hlen : xs.length ≤ 1048576) : Calls Tryd.prog 101 #[v] w (New 3 IntV w (runsOf xs)) := by
  obtain ⟨a, cap, rfl, hcap, -, -, hc⟩ := hv
  go_enter Tryd.func101, Tryd.ntmps101
  go_wp2
  go_loopw [3, 8] (fun v i wr => ∃ k : Nat, k ≤ xs.length ∧ i = .int .i64 k ∧ Own 3 IntV (Iv w.heap.size wr.heap.size) wr v (runsFin (runsSt (xs.take k))) ∧ Below w.heap.size w wr) (fun _ i _ => xs.length - (intOf i).toNat)
  case atStart => exact ⟨0, Nat.zero_le _, rfl, Own.nil _ _ _ _, Below.refl _ _⟩
  case round =>
    obtain ⟨k, hk, rfl, hown, hbel⟩ := hrel
    have hBs := hbel.size
    by_cases hlt : k < xs.length
    · obtain ⟨b, off, rfl, hb, hc'⟩ := hc (by omega)
      obtain ⟨x, hx⟩ : ∃ x, xs[k]? = some x := ⟨_, List.getElem?_eq_getElem hlt⟩
      obtain ⟨u, hck, rfl, hI⟩ := hc' k x hx
      rw [← hbel.cell (p := ⟨b, off + k, none⟩) hb] at hck
      have hst := runsSt_take hx
      have hpos := runsSt_pos hk
      have hln := runsSt_len k hk
      by_cases hx1 : x = 1
      · subst hx1
        by_cases hp : 0 < (runsSt (xs.take k)).2
        · obtain ⟨hk0, hprev⟩ := hpos.1 hp
          obtain ⟨u2, hcp, rfl, -⟩ := hc' (k - 1) 1 hprev
          rw [← hbel.cell (p := ⟨b, off + (k - 1), none⟩) hb] at hcp
          obtain ⟨o, ho⟩ : ∃ o, o = (runsSt (xs.take k)).1 := ⟨_, rfl⟩
          obtain ⟨n, hn⟩ : ∃ n, n = (runsSt (xs.take k)).2 := ⟨_, rfl⟩
          simp only [if_true, ← ho, ← hn] at hst
          rw [← hn] at hp
          simp only [runsFin, ← ho, ← hn, if_pos hp] at hown
          rw [← ho, ← hn] at hln
          obtain ⟨g, cp, rfl, hg, hcp2, -, -⟩ := hown.inv_ne (by simp)
          obtain ⟨hcell, hfree, -⟩ := hown.ints_cell (k := o.length) (x := (n : Int)) (by simp)
          have hset := hown.setInt (k := o.length) (c := (n : Int) + 1) (by simp) (I64.small (by omega) (by omega))
          rw [List.set_append_right _ _ (Nat.le_refl _), Nat.sub_self, List.set_cons_zero] at hset
          simp only [List.length_append, List.length_cons, List.length_nil, Nat.zero_add] at hset hcp2 ⊢
          have Hset := Lib.hid hset
          have Hst := Lib.hid hst
          have hge := hg.1
          clear hc hc' hx hprev hpos ho hn hown hset hst
          go_wp2
          go_roundw
          case rel => exact ⟨k + 1, by omega, by go_num, by rw [Hst.out, size_setCell]; exact Hset.out, hbel.setCell hge _⟩
          case measure => simp [intOf]; omega
        · have hn0 : (runsSt (xs.take k)).2 = 0 := by omega
          have hfin : runsFin (runsSt (xs.take k)) = (runsSt (xs.take k)).1 := by simp [runsFin, hn0]
          rw [hfin] at hown
          rw [if_pos rfl, hn0] at hst
          have Hst := Lib.hid hst
          have Hown := Lib.hid hown
          have hln' : (runsSt (xs.take k)).1.length < 1099511627776 := by omega
          have hprev : k ≤ 0 ∨ (0 < k ∧ ∃ y, ¬ y = 1 ∧ wr.cell? ⟨b, off + (k - 1), none⟩ = some (.int .i64 y)) := by
            by_cases hk0 : k = 0
            · exact .inl (by omega)
            · refine .inr ⟨by omega, ?_⟩
              have h1 : xs[k - 1]? = some xs[k - 1] := List.getElem?_eq_getElem (by omega)
              obtain ⟨u2, hcp, rfl, -⟩ := hc' (k - 1) _ h1
              refine ⟨xs[k - 1], fun h => hp (hpos.2 ⟨by omega, by rw [h1, h]⟩), ?_⟩
              rw [hbel.cell (p := ⟨b, off + (k - 1), none⟩) hb, hcp]
          clear hc hc' hx hpos hown hst hn0 hfin hp hln
          rcases hprev with hk0 | ⟨hk0, y, hy, hcp⟩
          all_goals
            go_wp2_with (first | (at_builtin; (refine wpList_appR rfl _ _ 24 rfl rIntV 3 Tryd.underlying24 infoInt rfl (by decide) w.heap.size wr.heap.size hBs (Nat.le_refl _) rfl rfl (by exact Hown.out) ⟨rfl, I64.small (by decide) (by decide)⟩ hln' ?_); intro v' w' hown' hbel' _))
            have hb2 := hbel.trans hbel'
            have Hown' := Lib.hid hown'
            clear hown' hbel'
            go_wp2
            go_roundw
            case rel => exact ⟨k + 1, by omega, by go_num, by rw [Hst.out]; exact Hown'.out, hb2⟩
            case measure => simp [intOf]; omega
      · have Hst := Lib.hid hst
        have Hown := Lib.hid hown
        clear hc hc' hx hpos hst hown
        go_wp2
        go_roundw
        case rel => exact ⟨k + 1, by omega, by go_num, by rw [Hst.out, if_neg hx1]; exact Hown.out, hbel⟩
        case measure => simp [intOf]; omega
    · have Hown := Lib.hid hown
      clear hown
      go_wp2
      go_ret
      refine ⟨_, rfl, ?_, hbel⟩
      have h1 := Hown.out
      rw [List.take_of_length_le (by omega)] at h1
      exact h1
theorem sumL_nonneg {xs : List Int} {m : Int} (h : xs.all (inR 0 m) = true) : 0 ≤ sumL xs := by
  have aux : ∀ k, k ≤ xs.length → 0 ≤ sumL (xs.take k) := by
    intro k
    induction k with
    | zero => intro _; simp [sumL]
    | succ k ih =>
      intro hk
      have hx : xs[k]? = some xs[k] := List.getElem?_eq_getElem (by omega)
      rw [sumL_take hx]
      have h1 := ih (by omega)
      have h2 := List.all_eq_true.1 h _ (List.mem_of_getElem? hx)
      rw [inR_iff] at h2
      omega
  have := aux xs.length (Nat.le_refl _)
  rwa [List.take_length] at this
theorem small_of_all {xs : List Int} {m : Int} (h : xs.all (inR 0 m) = true) (hm : m ≤ 1048576) (hl : xs.length ≤ 1048576) : Small xs := by
  refine ⟨hl, fun x hx => ?_⟩
  have h2 := List.all_eq_true.1 h _ hx
  rw [inR_iff] at h2
  omega
def parityOf (rows cols : List Int) : Int := if sumsFit rows cols then (sumL rows + sumL cols) % 2 else -1
end Go.Proofs.YtlmjpmdkifoekaaDoor

namespace Go.Proofs.YtlmjpmdkifoekaaDoor
open Go.RowKit

theorem infoInts : (Tryd.prog.info? 24).map (fun i => (i.zero, i.size, i.bytes)) = some (some (.slice none 0 0), 1, 24) := by kernel_rfl

set_option maxHeartbeats 400000 in
theorem eqIntSS_q (v v2 : Value) (xs ys : List (List Int)) (w : World) (hv : Grid w v xs) (hv2 : Grid w v2 ys) : Calls Tryd.prog 33 #[v, v2] w fun e w' => e = .returned (.bool (decide (xs = ys))) ∧ ∃ n, w' = w.drewN n := by
  obtain ⟨a, cap, rfl, hcap, hle, -, hc⟩ := hv
  obtain ⟨a2, cap2, rfl, hcap2, hle2, -, hc2⟩ := hv2
  by_cases hl : xs.length = ys.length
  · have hl1 : xs.length ≤ ys.length := by omega
    have hl2 : ys.length ≤ xs.length := by omega
    have Hl := Lib.hid hl; clear hl
    go_enter Tryd.func33, Tryd.ntmps33
    go_wp2
    go_loopw [5] (fun i wr => ∃ k : Nat, k ≤ xs.length ∧ i = .int .i64 k ∧ xs.take k = ys.take k ∧ ∃ n, wr = w.drewN n) (fun i _ => xs.length - (intOf i).toNat)
    case atStart => exact ⟨0, Nat.zero_le _, rfl, rfl, 0, rfl⟩
    case round =>
      obtain ⟨k, hk, rfl, heq, n, hw⟩ := hrel
      have Heq := Lib.hid heq; clear heq
      by_cases hlt : k < xs.length
      · obtain ⟨b, off, rfl, hb, hc'⟩ := hc (by omega)
        obtain ⟨x, hx⟩ : ∃ x, xs[k]? = some x := ⟨_, List.getElem?_eq_getElem hlt⟩
        obtain ⟨u, hck, hu⟩ := hc' k x hx
        obtain ⟨b2, off2, rfl, hb2, hc2'⟩ := hc2 (by omega)
        obtain ⟨y, hy⟩ : ∃ y, ys[k]? = some y := ⟨_, List.getElem?_eq_getElem (by omega)⟩
        obtain ⟨u2, hck2, hu2⟩ := hc2' k y hy
        have hlt2 : k < ys.length := by omega
        have Hx := Lib.hid hx
        have Hy := Lib.hid hy
        have hu : Ints wr u x := by rw [hw]; exact hu
        have hu2 : Ints wr u2 y := by rw [hw]; exact hu2
        have hck : wr.cell? ⟨b, off + k, none⟩ = some u := by rw [hw]; exact hck
        have hck2 : wr.cell? ⟨b2, off2 + k, none⟩ = some u2 := by rw [hw]; exact hck2
        have Hw := Lib.hid hw
        clear hx hc hc' hy hc2 hc2' hw
        by_cases hxy : x = y
        · subst hxy
          have hd : ∀ m, Calls Tryd.prog 36 #[u, u2] (wr.drewN m) fun e w'' => e = .returned (.bool true) ∧ ∃ q, w'' = (wr.drewN m).drewN q := fun m => by
            have := eqIntS_q u u2 x x (wr.drewN m) hu hu2
            simpa only [decide_true] using this
          have Hd := Lib.hid hd; clear hd hu hu2
          go_wp2
          go_quiet ((go_at_call 36; exact Calls.quiet_of (Hd.out _)))
          go_wp2
          go_roundw
          case rel => exact ⟨k + 1, by omega, by go_num, take_step_eq Heq.out Hx.out Hy.out, quiet1 Hw.out _⟩
          case measure => simp [intOf]; omega
        · have hd : ∀ m, Calls Tryd.prog 36 #[u, u2] (wr.drewN m) fun e w'' => e = .returned (.bool false) ∧ ∃ q, w'' = (wr.drewN m).drewN q := fun m => by
            have := eqIntS_q u u2 x y (wr.drewN m) hu hu2
            simpa only [hxy, decide_false] using this
          have Hd := Lib.hid hd; clear hd hu hu2
          have Hxy := Lib.hid hxy; clear hxy
          go_wp2
          go_quiet ((go_at_call 36; exact Calls.quiet_of (Hd.out _)))
          go_wp2
          go_ret
          exact ⟨retB (Eq.symm (by simp; intro h; have h1 := Hx.out; rw [h, Hy.out] at h1; exact Hxy.out (Option.some.inj h1).symm)), quiet1 Hw.out _⟩
      · have Hw := Lib.hid hw; clear hw
        go_wp2
        go_ret
        exact ⟨retB (Eq.symm (by have h := Heq.out; have hl := Hl.out; rw [List.take_of_length_le (by omega), List.take_of_length_le (by omega)] at h; simp [h])), n, Hw.out⟩
  · have hne : decide (xs = ys) = false := by simp; intro h; exact hl (by rw [h])
    rw [hne]; clear hne
    have hl' : ((xs.length : Int) == (ys.length : Int)) = false := by simp; omega
    go_enter Tryd.func33, Tryd.ntmps33
    go_wp2
    go_ret
    exact ⟨rfl, 0, rfl⟩
theorem eqIntSS_c (v v2 : Value) (xs ys : List (List Int)) (w : World) (hv : Grid w v xs) (hv2 : Grid w v2 ys) : Calls Tryd.prog 33 #[v, v2] w fun e w' => e = .returned (.bool (decide (xs = ys))) ∧ Below w.heap.size w w' :=
  (eqIntSS_q v v2 xs ys w hv hv2).mono fun _ _ ⟨he, n, hn⟩ => ⟨he, by subst hn; exact below_drewN (Below.refl _ _) n⟩

/-- the number of cells -/
def cells (g : List (List Int)) : Nat := (g.map List.length).sum
/-- k, k + 1, .. in the rows of a grid -/
def gmarks : Int → List (List Int) → List (List Int)
  | _, [] => []
  | k, r :: g => marks k r.length :: gmarks (k + r.length) g
theorem gmarks_len (g : List (List Int)) : ∀ k, (gmarks k g).length = g.length := by
  induction g with
  | nil => intro k; rfl
  | cons r g ih => intro k; simp [gmarks, ih]
theorem cells_take {g : List (List Int)} {k : Nat} {r : List Int} (h : g[k]? = some r) : cells (g.take (k + 1)) = cells (g.take k) + r.length := by
  obtain ⟨hk, hx⟩ := List.getElem?_eq_some_iff.1 h
  rw [List.take_succ_eq_append_getElem hk, hx]; simp [cells]
theorem cells_take_le (g : List (List Int)) (k : Nat) : cells (g.take k) ≤ cells g := by
  have : cells g = cells (g.take k) + cells (g.drop k) := by
    have h : cells (g.take k ++ g.drop k) = cells (g.take k) + cells (g.drop k) := by unfold cells; rw [List.map_append, List.sum_append]
    rwa [List.take_append_drop] at h
  omega
theorem gmarks_at {g : List (List Int)} : ∀ {k : Int} {j : Nat} {r : List Int}, g[j]? = some r → (gmarks k g)[j]? = some (marks (k + cells (g.take j)) r.length) := by
  induction g with
  | nil => intro k j r h; simp at h
  | cons a g ih =>
    intro k j r h
    cases j with
    | zero => simp at h; subst h; simp [gmarks, cells]
    | succ j =>
      simp at h
      simp only [gmarks, List.getElem?_cons_succ]
      rw [ih h]
      congr 2
      simp [cells]
      omega

end Go.Proofs.YtlmjpmdkifoekaaDoor

namespace Go.Proofs.YtlmjpmdkifoekaaDoor
open Go.RowKit

theorem copyInts_c (v : Value) (xs : List Int) (w : World) (hv : Ints w v xs) (hl : xs.length ≤ 1048576) : Calls Tryd.prog 105 #[v] w (New 3 IntV w xs) := by
  have Hv := Lib.hid hv
  obtain ⟨a, cap, rfl, -⟩ := hv
  have hl0 : ([] : List Int).length + xs.length ≤ 1099511627776 := by simp; omega
  go_enter Tryd.func105, Tryd.ntmps105
  go_wp2_with (first | (at_builtin; refine wpList_appI rfl _ _ 24 rfl 3 Tryd.underlying24 infoInt rfl (fun _ => False) rfl rfl (by exact Own.nil _ _ _ _) (by exact Hv.out) hl0 ?_; intro v2 w2 hown2 honly2 _))
  have hb : Below w.heap.size w w2 := by
    have ho : Only (fun b => (Value.slice none 0 0).ownBlock = some b) w w2 := honly2
    refine Only.pure (ho.mono fun b hb _ => ?_)
    exact absurd hb (by simp [Value.ownBlock])
  go_wp2
  go_ret
  refine ⟨_, rfl, ?_, hb⟩
  have h := (rOwn rIntV).mono (S' := Iv w.heap.size w2.heap.size) (fun b hb => by
    rcases hb with hb | hb
    · exact hb.elim
    · exact hb) hown2
  simpa using h
set_option maxRecDepth 100000 in
set_option maxHeartbeats 400000 in
theorem copyGrid_c (v : Value) (m : List (List Int)) (w : World) (hv : Grid w v m) (hm : m.length ≤ 1048576) (hr : ∀ x ∈ m, x.length ≤ 1048576) : Calls Tryd.prog 65 #[v] w (New 24 (Own 3 IntV) w m) := by
  have Hv := Lib.hid hv
  obtain ⟨a, cap0, rfl, -⟩ := hv
  go_enter Tryd.func65, Tryd.ntmps65
  go_wp2
  go_loopw [3, 5, 8] (fun v _ i wr => ∃ k : Nat, k ≤ m.length ∧ i = .int .i64 k ∧ Own 24 (Own 3 IntV) (Iv w.heap.size wr.heap.size) wr v (m.take k) ∧ Below w.heap.size w wr) (fun _ _ i _ => m.length - (intOf i).toNat)
  case atStart => exact ⟨0, Nat.zero_le _, rfl, Own.nil _ _ _ _, Below.refl _ _⟩
  case round =>
    obtain ⟨k, hk, rfl, hown, hbel⟩ := hrel
    obtain ⟨wo, rfl⟩ : ∃ wo : World, wo = wr := ⟨_, rfl⟩
    have hBs := hbel.size
    by_cases hlt : k < m.length
    · obtain ⟨row, hrow⟩ : ∃ row, m[k]? = some row := ⟨_, List.getElem?_eq_getElem hlt⟩
      obtain ⟨b, off, cpr, he, hb, -⟩ := Hv.out.inv_ne (by omega)
      obtain ⟨rfl, -⟩ : a = some ⟨b, off, none⟩ ∧ cap0 = cpr := by simpa using he
      obtain ⟨u, hck, hu⟩ := Sl.at Hv.out hrow
      have hu : Ints w u row := hu
      obtain ⟨br, cpr, rfl, -⟩ := id hu
      rw [← hbel.cell (p := ⟨b, off + k, none⟩) hb] at hck
      have hrl := hr row (List.mem_of_getElem? hrow)
      have Hst := Lib.hid (show m.take (k + 1) = m.take k ++ [row] from by rw [List.take_add_one, hrow]; rfl)
      have Hu := Lib.hid (hu.keep hbel)
      have hkl : (m.take k).length < 1099511627776 := by simp; omega
      have Hown := Lib.hid hown
      clear hrow hu hown he
      go_wp2_with (fail)
      refine (copyInts_c _ _ _ Hu.out hrl).mono ?_
      rintro e w1 ⟨v1, rfl, hown1, hbel1⟩
      have hs1 : wo.heap.size ≤ w1.heap.size := hbel1.size
      obtain ⟨p1, p2, p3, rfl⟩ := hown1.shape
      go_wp2_with (first | (at_builtin; (refine wpList_appR rfl _ _ 23 rfl (rOwn rIntV) 24 Tryd.underlying23 infoInts rfl (by decide) w.heap.size wo.heap.size hBs hs1 rfl rfl (by exact Own.keep (rOwn rIntV) Hown.out hbel1 (Nat.le_refl _)) (by exact hown1) hkl ?_); intro v2 w2 hown2 hbel2 _) | fail)
      have hb2 := (hbel.trans (hbel1.mono hBs)).trans hbel2
      have Hown2 := Lib.hid hown2
      clear hown2
      go_wp2
      go_roundw
      case rel => exact ⟨k + 1, by omega, by go_num, by rw [Hst.out]; exact Hown2.out, hb2⟩
      case measure => simp [intOf]; omega
    · have Hfin := Lib.hid (show m.take k = m from by rw [List.take_of_length_le (by omega)])
      have Hown := Lib.hid hown
      clear hown
      go_wp2
      go_ret
      exact ⟨_, rfl, by rw [← Hfin.out]; exact Hown.out, hbel⟩

end Go.Proofs.YtlmjpmdkifoekaaDoor

namespace Go.Proofs.YtlmjpmdkifoekaaDoor
open Go.RowKit

theorem infoIntsL : (Tryd.prog.info? 24).map (fun i => (i.zero, i.size, i.bytes)) = some (some (.slice none 0 0), 1, 24) := by kernel_rfl
set_option maxRecDepth 100000 in
set_option maxHeartbeats 800000 in
theorem l02Copy_c (v : Value) (m : List (List Int)) (w : World) (hv : Grid w v m) (hm : m.length ≤ 1048576) (hr : ∀ x ∈ m, x.length ≤ 1048576) : Calls Tryd.prog 81 #[v] w (New 24 (Own 3 IntV) w m) := by
  have Hv := Lib.hid hv
  have Hr := Lib.hid hr
  obtain ⟨a, cap0, rfl, -⟩ := hv
  clear hr
  go_enter Tryd.func81, Tryd.ntmps81
  go_wp2
  go_loopw [3, 9] (fun v i wr => ∃ k : Nat, k ≤ m.length ∧ i = .int .i64 k ∧ Own 24 (Own 3 IntV) (Iv w.heap.size wr.heap.size) wr v (m.take k) ∧ Below w.heap.size w wr) (fun _ i _ => m.length - (intOf i).toNat)
  case atStart => exact ⟨0, Nat.zero_le _, rfl, own_lit0 _ _ _ (rOwn rIntV), Below.pureAlloc _ _⟩
  case round =>
    obtain ⟨k, hk, rfl, hown, hbel⟩ := hrel
    obtain ⟨wo, rfl⟩ : ∃ wo : World, wo = wr := ⟨_, rfl⟩
    have hBs := hbel.size
    by_cases hlt : k < m.length
    · obtain ⟨row, hrow⟩ : ∃ row, m[k]? = some row := ⟨_, List.getElem?_eq_getElem hlt⟩
      obtain ⟨b, off, cpr, he, hb, -⟩ := Hv.out.inv_ne (by omega)
      obtain ⟨rfl, -⟩ : a = some ⟨b, off, none⟩ ∧ cap0 = cpr := by simpa using he
      obtain ⟨u, hck, hu⟩ := Sl.at Hv.out hrow
      have hu : Ints w u row := hu
      obtain ⟨br, cpr, rfl, -⟩ := id hu
      rw [← hbel.cell (p := ⟨b, off + k, none⟩) hb] at hck
      have hrl := Hr.out row (List.mem_of_getElem? hrow)
      have Hst := Lib.hid (show m.take (k + 1) = m.take k ++ [row] from by rw [List.take_add_one, hrow]; rfl)
      have Hu := Lib.hid ((hu.keep hbel).keep (Below.pureAlloc wo (.cells #[] 3)))
      have Hlit := Lib.hid (own_lit0 wo 3 wo.heap.size rIntV)
      have hz : (wo.alloc (.cells #[] 3)).heap.size = wo.heap.size + 1 := by simp
      have Hz := Lib.hid hz
      have hl0 : ([] : List Int).length + row.length ≤ 1099511627776 := by simp; omega
      have hkl : (m.take k).length < 1099511627776 := by simp; omega
      obtain ⟨p1, p2, p3, rfl⟩ := hown.shape
      have Hown := Lib.hid hown
      clear hrow hu hown he hz
      go_wp2_with (first
        | (at_builtin; (refine wpList_appI rfl _ _ 24 rfl 3 Tryd.underlying24 infoInt rfl (Iv wo.heap.size (wo.alloc (.cells #[] 3)).heap.size) rfl rfl (by exact Hlit.out) (by exact Hu.out) hl0 ?_; intro v2 w2 hown2 honly2 _; obtain ⟨q1, q2, q3, rfl⟩ := hown2.shape; have hb2 : Below wo.heap.size wo w2 := (Below.pureAlloc wo (.cells #[] 3)).trans (Only.below honly2 (by rw [Hz.out]; omega) (fun b hb => (Hlit.out.ownBlock' b hb).1)); have hM : wo.heap.size ≤ w2.heap.size := hb2.size; have Hel := Lib.hid ((rOwn rIntV).mono (S' := Iv wo.heap.size w2.heap.size) (fun b hb => hb.elim (fun h => ⟨h.1, by have h1 := h.2; have h2 := honly2.size; rw [Hz.out] at h1 h2; omega⟩) (fun h => ⟨by have h1 := h.1; rw [Hz.out] at h1; omega, h.2⟩)) hown2); have HB2 := Lib.hid hb2; clear hown2 honly2 hb2))
        | (at_builtin; (refine wpList_appR rfl _ _ 23 rfl (rOwn rIntV) 24 Tryd.underlying23 infoIntsL rfl (by decide) w.heap.size wo.heap.size hBs hM rfl rfl (by exact Own.keep (rOwn rIntV) Hown.out HB2.out (Nat.le_refl _)) (by exact Hel.out) hkl ?_); intro v3 w3 hown3 hbel3 _)
        | fail)
      have hb3 := (hbel.trans (HB2.out.mono hBs)).trans hbel3
      have Hown3 := Lib.hid hown3
      clear hown3
      go_wp2
      go_roundw
      case rel => exact ⟨k + 1, by omega, by go_num, by rw [Hst.out]; simpa using Hown3.out, hb3⟩
      case measure => simp [intOf]; omega
    · have Hfin := Lib.hid (show m.take k = m from by rw [List.take_of_length_le (by omega)])
      have Hown := Lib.hid hown
      clear hown
      go_wp2
      go_ret
      exact ⟨_, rfl, by rw [← Hfin.out]; exact Hown.out, hbel⟩
end Go.Proofs.YtlmjpmdkifoekaaDoor

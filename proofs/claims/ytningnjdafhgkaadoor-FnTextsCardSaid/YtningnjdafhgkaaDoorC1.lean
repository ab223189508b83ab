/- Contracts of the small functions on integers and integer slices. Contracts: marks, the functions on sums. Runs of a line: plain. Contracts: RunsOf, ParityOf. Contracts: slices of slices: equal, marked, held, copied. Contracts: copies of lists and grids. Contracts: copies of images by the reference. -/
import Derived.Test.YtningnjdafhgkaaDoorRows
import Derived.Test.YtningnjdafhgkaaDoorMem
import Derived.WalkLawsBesides
import Derived.WalkSpells
import Derived.Deep.QuietTactic
import Derived.BigQuiet
import Derived.WalkSmall
import Derived.BigGuardPart
namespace Go.Proofs.YtningnjdafhgkaaDoor
open Go.RowKit

theorem infoInt : (Tryd.prog.info? 3).map (fun i => (i.zero, i.size, i.bytes)) = some (some (.int .i64 0), 1, 8) := by kernel_rfl

theorem quiet2 (w : World) (n q : Nat) : ∃ m, (w.drewN n).drewN q = w.drewN m := ⟨n + q, World.drewN_drewN _ _ _⟩
theorem quiet1 {w wr : World} {n : Nat} (h : wr = w.drewN n) (q : Nat) : ∃ m, wr.drewN q = w.drewN m := ⟨n + q, by rw [h]; exact World.drewN_drewN _ _ _⟩
theorem retB {b b' : Bool} (h : b = b') : Ending.returned (.bool b) = Ending.returned (.bool b') := by rw [h]
theorem retI {n n' : Int} (h : n = n') : Ending.returned (.int .i64 n) = Ending.returned (.int .i64 n') := by rw [h]

def inR (lo hi n : Int) : Bool := decide (lo ≤ n) && decide (n ≤ hi)
theorem inR_t {lo hi n : Int} (h1 : lo ≤ n) (h2 : n ≤ hi) : inR lo hi n = true := by simp [inR, h1, h2]
theorem inR_iff {lo hi n : Int} : inR lo hi n = true ↔ lo ≤ n ∧ n ≤ hi := by simp [inR]

theorem within_c (n lo hi : Int) (w : World) : Calls Tryd.prog 41 #[.int .i64 n, .int .i64 lo, .int .i64 hi] w fun e w' => e = .returned (.bool (inR lo hi n)) ∧ w = w' := by
  by_cases h1 : lo ≤ n
  · by_cases h2 : n ≤ hi
    · have h : inR lo hi n = true := by simp [inR, h1, h2]
      rw [h]; clear h
      go_enter Tryd.func41, Tryd.ntmps41
      go_wp2
      go_ret
      exact ⟨rfl, rfl⟩
    · have h : inR lo hi n = false := by simp [inR, h2]
      rw [h]; clear h
      go_enter Tryd.func41, Tryd.ntmps41
      go_wp2
      go_ret
      exact ⟨rfl, rfl⟩
  · have h : inR lo hi n = false := by simp [inR, h1]
    rw [h]; clear h
    go_enter Tryd.func41, Tryd.ntmps41
    go_wp2
    go_ret
    exact ⟨rfl, rfl⟩

theorem all_take_step {α : Type} (p : α → Bool) {xs : List α} {k : Nat} {x : α} (h : xs[k]? = some x) : (xs.take (k + 1)).all p = ((xs.take k).all p && p x) := by
  obtain ⟨hk, hx⟩ := List.getElem?_eq_some_iff.1 h
  rw [List.take_succ_eq_append_getElem hk, List.all_append, hx]; simp

theorem all_done {α : Type} {p : α → Bool} {xs : List α} {k : Nat} (h : (xs.take k).all p = true) (hk : xs.length ≤ k) : xs.all p = true := by
  rw [List.take_of_length_le hk] at h; exact h

theorem all_of_take {α : Type} (p : α → Bool) {xs : List α} {k : Nat} {x : α} (h : xs[k]? = some x) (hp : p x = false) : xs.all p = false := by
  rw [List.all_eq_false]
  exact ⟨x, List.mem_of_getElem? h, by simp [hp]⟩

theorem allWithin_c (v : Value) (xs : List Int) (lo hi : Int) (w : World) (hv : Ints w v xs) : Calls Tryd.prog 42 #[v, .int .i64 lo, .int .i64 hi] w fun e w' => e = .returned (.bool (xs.all (inR lo hi))) ∧ w = w' := by
  obtain ⟨a, cap, rfl, hcap, hle, -, hc⟩ := hv
  go_enter Tryd.func42, Tryd.ntmps42
  go_wp2
  go_loop [8, 11] (fun _ i => ∃ k : Nat, k ≤ xs.length ∧ i = .int .i64 k ∧ (xs.take k).all (inR lo hi) = true) (fun _ i => xs.length - (intOf i).toNat)
  case atStart => exact ⟨0, Nat.zero_le _, rfl, rfl⟩
  case round =>
    obtain ⟨k, hk, rfl, hall⟩ := hrel
    have Hall := Lib.hid hall; clear hall
    by_cases hlt : k < xs.length
    · obtain ⟨b, off, rfl, -, hc'⟩ := hc (by omega)
      obtain ⟨x, hx⟩ : ∃ x, xs[k]? = some x := ⟨_, List.getElem?_eq_getElem hlt⟩
      obtain ⟨u, hck, rfl, -⟩ := hc' k x hx
      have Hs := Lib.hid (all_take_step (inR lo hi) hx)
      have Hx := Lib.hid hx; clear hx hc hc'
      cases hin : inR lo hi x
      · have Hin := Lib.hid hin
        go_wp2_with (first | (go_at_call 41; refine (within_c _ _ _ _).mono ?_; rintro e w' ⟨rfl, rfl⟩))
        go_ret
        exact ⟨retB (all_of_take _ Hx.out Hin.out).symm, rfl⟩
      · have Hin := Lib.hid hin
        go_wp2_with (first | (go_at_call 41; refine (within_c _ _ _ _).mono ?_; rintro e w' ⟨rfl, rfl⟩))
        go_round
        case rel => exact ⟨k + 1, by omega, by go_num, by rw [Hs.out, Hall.out, Hin.out]; rfl⟩
        case measure => simp [intOf]; omega
    · go_wp2
      go_ret
      exact ⟨retB (all_done Hall.out (by omega)).symm, rfl⟩
/-- the call made a new owned slice (or slice of slices ..) and changed nothing else -/
def New {α : Type} (E : TypeId) (R : RepT α) (w : World) (xs : List α) (e : Ending) (w' : World) : Prop :=
  ∃ v', e = .returned v' ∧ Own E R (Iv w.heap.size w'.heap.size) w' v' xs ∧ Below w.heap.size w w'

theorem set_copy {xs : List Int} {k : Nat} {x : Int} (h : xs[k]? = some x) : (xs.take k ++ List.replicate (xs.length - k) 0).set k x = xs.take (k + 1) ++ List.replicate (xs.length - (k + 1)) 0 := by
  obtain ⟨hk, hx⟩ := List.getElem?_eq_some_iff.1 h
  obtain ⟨d, hd⟩ : ∃ d, xs.length - k = d + 1 := ⟨xs.length - k - 1, by omega⟩
  rw [hd, show xs.length - (k + 1) = d from by omega, List.set_append_right _ _ (by simp; omega), List.length_take, Nat.min_eq_left (Nat.le_of_lt hk), Nat.sub_self, List.replicate_succ, List.set_cons_zero, List.take_succ_eq_append_getElem hk, hx]
  simp

/-- what a list sums up to -/
def sumL (xs : List Int) : Int := xs.foldl (· + ·) 0
theorem sumL_take {xs : List Int} {k : Nat} {x : Int} (h : xs[k]? = some x) : sumL (xs.take (k + 1)) = sumL (xs.take k) + x := by
  obtain ⟨hk, hx⟩ := List.getElem?_eq_some_iff.1 h
  rw [List.take_succ_eq_append_getElem hk, hx]; simp [sumL]
theorem sumL_done {xs : List Int} {k : Nat} (hk : xs.length ≤ k) : sumL (xs.take k) = sumL xs := by rw [List.take_of_length_le hk]
/-- small numbers -/
def Small (xs : List Int) : Prop := xs.length ≤ 1048576 ∧ ∀ x ∈ xs, -1048576 ≤ x ∧ x ≤ 1048576
theorem sumL_small {xs : List Int} (h : Small xs) : ∀ k, k ≤ xs.length → -(1048576 * (k : Int)) ≤ sumL (xs.take k) ∧ sumL (xs.take k) ≤ 1048576 * (k : Int) := by
  intro k
  induction k with
  | zero => intro _; simp [sumL]
  | succ k ih =>
    intro hk
    have h1 := ih (by omega)
    have hx : xs[k]? = some xs[k] := List.getElem?_eq_getElem (by omega)
    rw [sumL_take hx]
    have := h.2 _ (List.mem_of_getElem? hx)
    push_cast
    omega

theorem sumOf_c (v : Value) (xs : List Int) (w : World) (hv : Ints w v xs) (hs : Small xs) : Calls Tryd.prog 25 #[v] w fun e w' => e = .returned (.int .i64 (sumL xs)) ∧ w = w' := by
  obtain ⟨a, cap, rfl, hcap, -, -, hc⟩ := hv
  have hle := hs.1
  go_enter Tryd.func25, Tryd.ntmps25
  go_wp2
  go_loop [3, 8] (fun n i => ∃ k : Nat, k ≤ xs.length ∧ i = .int .i64 k ∧ n = .int .i64 (sumL (xs.take k))) (fun _ i => xs.length - (intOf i).toNat)
  case atStart => exact ⟨0, Nat.zero_le _, rfl, rfl⟩
  case round =>
    obtain ⟨k, hk, rfl, rfl⟩ := hrel
    obtain ⟨t, ht⟩ : ∃ t, t = sumL (xs.take k) := ⟨_, rfl⟩
    have hb := sumL_small hs k hk
    rw [← ht] at hb ⊢
    have Ht := Lib.hid ht
    obtain ⟨hb1, hb2⟩ := hb
    have hk20 : k ≤ 1048576 := by omega
    by_cases hlt : k < xs.length
    · obtain ⟨b, off, rfl, -, hc'⟩ := hc (by omega)
      obtain ⟨x, hx⟩ : ∃ x, xs[k]? = some x := ⟨_, List.getElem?_eq_getElem hlt⟩
      obtain ⟨u, hck, rfl, -⟩ := hc' k x hx
      obtain ⟨hx1, hx2⟩ := hs.2 x (List.mem_of_getElem? hx)
      have Hs := Lib.hid (sumL_take hx)
      clear hx hc hc' ht
      go_wp2
      go_round
      case rel => exact ⟨k + 1, by omega, by go_num, by rw [Hs.out, ← Ht.out]⟩
      case measure => simp [intOf]; omega
    · clear ht
      go_wp2
      go_ret
      exact ⟨retI (by rw [Ht.out, sumL_done (by omega)]), rfl⟩

theorem take_step_eq {α : Type} {xs ys : List α} {k : Nat} {x : α} (h : xs.take k = ys.take k) (hx : xs[k]? = some x) (hy : ys[k]? = some x) : xs.take (k + 1) = ys.take (k + 1) := by
  obtain ⟨h1, h2⟩ := List.getElem?_eq_some_iff.1 hx
  obtain ⟨h3, h4⟩ := List.getElem?_eq_some_iff.1 hy
  rw [List.take_succ_eq_append_getElem h1, List.take_succ_eq_append_getElem h3, h, h2, h4]

theorem eqIntS_q (v v2 : Value) (xs ys : List Int) (w : World) (hv : Ints w v xs) (hv2 : Ints w v2 ys) : Calls Tryd.prog 7 #[v, v2] w fun e w' => e = .returned (.bool (decide (xs = ys))) ∧ ∃ n, w' = w.drewN n := by
  obtain ⟨a, cap, rfl, hcap, hle, -, hc⟩ := hv
  obtain ⟨a2, cap2, rfl, hcap2, hle2, -, hc2⟩ := hv2
  by_cases hl : xs.length = ys.length
  · have hl1 : xs.length ≤ ys.length := by omega
    have hl2 : ys.length ≤ xs.length := by omega
    have Hl := Lib.hid hl; clear hl
    go_enter Tryd.func7, Tryd.ntmps7
    go_wp2
    go_loopw [5] (fun i wr => ∃ k : Nat, k ≤ xs.length ∧ i = .int .i64 k ∧ xs.take k = ys.take k ∧ ∃ n, wr = w.drewN n) (fun i _ => xs.length - (intOf i).toNat)
    case atStart => exact ⟨0, Nat.zero_le _, rfl, rfl, 0, rfl⟩
    case round =>
      obtain ⟨k, hk, rfl, heq, n, rfl⟩ := hrel
      have Heq := Lib.hid heq; clear heq
      by_cases hlt : k < xs.length
      · obtain ⟨b, off, rfl, hb, hc'⟩ := hc (by omega)
        obtain ⟨x, hx⟩ : ∃ x, xs[k]? = some x := ⟨_, List.getElem?_eq_getElem hlt⟩
        obtain ⟨u, hck, rfl, -⟩ := hc' k x hx
        obtain ⟨b2, off2, rfl, hb2, hc2'⟩ := hc2 (by omega)
        obtain ⟨y, hy⟩ : ∃ y, ys[k]? = some y := ⟨_, List.getElem?_eq_getElem (by omega)⟩
        obtain ⟨u2, hck2, rfl, -⟩ := hc2' k y hy
        have Hx := Lib.hid hx
        have Hy := Lib.hid hy
        clear hx hc hc' hy hc2 hc2'
        by_cases hxy : x = y
        · subst hxy
          go_wp2
          go_quiet (fail)
          go_wp2
          go_roundw
          case rel => exact ⟨k + 1, by omega, by go_num, take_step_eq Heq.out Hx.out Hy.out, _, rfl⟩
          case measure => simp [intOf]; omega
        · have hne : (x == y) = false := by simpa using hxy
          have Hxy := Lib.hid hxy; clear hxy
          go_wp2
          go_quiet (fail)
          go_wp2
          go_ret
          exact ⟨retB (Eq.symm (by simp; intro h; have h1 := Hx.out; rw [h, Hy.out] at h1; exact Hxy.out (Option.some.inj h1).symm)), quiet2 _ _ _⟩
      · go_wp2
        go_ret
        exact ⟨retB (Eq.symm (by have h := Heq.out; have hl := Hl.out; rw [List.take_of_length_le (by omega), List.take_of_length_le (by omega)] at h; simp [h])), n, rfl⟩
  · have hne : decide (xs = ys) = false := by simp; intro h; exact hl (by rw [h])
    rw [hne]; clear hne
    have hl' : ((xs.length : Int) == (ys.length : Int)) = false := by simp; omega
    go_enter Tryd.func7, Tryd.ntmps7
    go_wp2
    go_ret
    exact ⟨rfl, 0, rfl⟩
theorem eqIntS_c (v v2 : Value) (xs ys : List Int) (w : World) (hv : Ints w v xs) (hv2 : Ints w v2 ys) : Calls Tryd.prog 7 #[v, v2] w fun e w' => e = .returned (.bool (decide (xs = ys))) ∧ Below w.heap.size w w' :=
  (eqIntS_q v v2 xs ys w hv hv2).mono fun _ _ ⟨he, n, hn⟩ => ⟨he, by subst hn; exact below_drewN (Below.refl _ _) n⟩
end Go.Proofs.YtningnjdafhgkaaDoor

namespace Go.Proofs.YtningnjdafhgkaaDoor
open Go.RowKit

/-- k, k + 1, .. : n numbers -/
def marks (k : Int) (n : Nat) : List Int := (List.range n).map fun i : Nat => k + (i : Int)
theorem marks_len (k : Int) (n : Nat) : (marks k n).length = n := by simp [marks]
theorem marks_at {k : Int} {n j : Nat} (h : j < n) : (marks k n)[j]? = some (k + (j : Int)) := by simp [marks, h]
theorem marks_set {xs : List Int} {k : Int} {j : Nat} (h : j < xs.length) : (marks k j ++ xs.drop j).set j (k + (j : Int)) = marks k (j + 1) ++ xs.drop (j + 1) := by
  rw [List.set_append_right _ _ (by rw [marks_len]; exact Nat.le_refl _), marks_len, Nat.sub_self, List.drop_eq_getElem_cons h, List.set_cons_zero]
  simp [marks, List.range_succ]

theorem markIntS_c (v : Value) (xs : List Int) (k : Int) (S : Bk) (w : World) (hv : Own 3 IntV S w v xs) (hk0 : 0 ≤ k) (hk1 : k ≤ 1099511627776) (hlen : xs.length ≤ 1099511627776) :
    Calls Tryd.prog 8 #[v, .int .i64 k] w fun e w' => e = .returned (.int .i64 (k + xs.length)) ∧ Own 3 IntV S w' v (marks k xs.length) ∧ Only S w w' ∧ w.heap.size = w'.heap.size := by
  rcases hv.inv with ⟨rfl, rfl⟩ | ⟨g, cap, rfl, hg, hcap, hgs, -⟩
  · go_enter Tryd.func8, Tryd.ntmps8
    go_wp2
    refine wp_loop_rounds 1 ?_
    rw [rounds_succ]
    go_wp2
    go_ret
    exact ⟨retI (by simp), Own.nil _ _ _ _, Only.refl _ _, rfl⟩
  · go_enter Tryd.func8, Tryd.ntmps8
    go_wp2
    have Hv : Own 3 IntV S w (.slice (some ⟨g, 0, none⟩) xs.length cap) (marks k 0 ++ xs.drop 0) := hv
    clear hv
    go_loopw [1, 5] (fun n i wr => ∃ j : Nat, j ≤ xs.length ∧ i = .int .i64 j ∧ n = .int .i64 (k + j) ∧ Own 3 IntV S wr (.slice (some ⟨g, 0, none⟩) xs.length cap) (marks k j ++ xs.drop j) ∧ Only S w wr ∧ w.heap.size = wr.heap.size) (fun _ i _ => xs.length - (intOf i).toNat)
    case atStart => exact ⟨0, Nat.zero_le _, rfl, by simp, Hv, Only.refl _ _, rfl⟩
    case round =>
      clear Hv
      obtain ⟨j, hj, rfl, rfl, hown, honly, hsz⟩ := hrel
      have Hsz := Lib.hid hsz; clear hsz
      by_cases hlt : j < xs.length
      · have hl : (marks k j ++ xs.drop j).length = xs.length := by simp [marks_len]; omega
        have hset := hown.setInt (k := j) (c := k + (j : Int)) (by rw [hl]; exact hlt) (I64.small (by omega) (by omega))
        rw [marks_set hlt] at hset
        obtain ⟨y, hcd, hfd⟩ := hown.ints_at (k := j) (by rw [hl]; exact hlt)
        have Hset := Lib.hid hset
        clear hset hown hl
        go_wp2
        go_roundw
        case rel => exact ⟨j + 1, by omega, by go_num, by congr 1; omega, Hset.out, honly.setCell (.inl hg) _, by rw [Hsz.out]; simp [World.setCell]⟩
        case measure => simp [intOf]; omega
      · have Hown := Lib.hid hown; clear hown
        go_wp2
        go_ret
        obtain rfl : j = xs.length := by omega
        exact ⟨rfl, by have h := Hown.out; simpa using h, honly, Hsz.out⟩
theorem heldIntS_c (v : Value) (n : Nat) (k : Int) (w : World) (hv : Ints w v (marks k n)) (hk0 : 0 ≤ k) (hk1 : k ≤ 1099511627776) (hlen : n ≤ 1099511627776) :
    Calls Tryd.prog 9 #[v, .int .i64 k] w fun e w' => e = .returned (.int .i64 (k + n)) ∧ w = w' := by
  obtain ⟨a, cap, rfl, hcap, hle, -, hc⟩ := hv
  rw [marks_len] at hcap hle hc ⊢
  go_enter Tryd.func9, Tryd.ntmps9
  go_wp2
  go_loop [1, 5] (fun m i => ∃ j : Nat, j ≤ n ∧ i = .int .i64 j ∧ m = .int .i64 (k + j)) (fun _ i => n - (intOf i).toNat)
  case atStart => exact ⟨0, Nat.zero_le _, rfl, by simp⟩
  case round =>
    obtain ⟨j, hj, rfl, rfl⟩ := hrel
    by_cases hlt : j < n
    · obtain ⟨b, off, rfl, -, hc'⟩ := hc (by omega)
      obtain ⟨u, hck, rfl, -⟩ := hc' j _ (marks_at hlt)
      clear hc hc'
      go_wp2
      go_round
      case rel => exact ⟨j + 1, by omega, by go_num, by congr 1; omega⟩
      case measure => simp [intOf]; omega
    · go_wp2
      go_ret
      exact ⟨retI (by omega), rfl⟩

/-- SumsFit -/
def sumsFit (rows cols : List Int) : Bool := inR 1 4 rows.length && inR 1 4 cols.length && rows.all (inR 0 cols.length) && cols.all (inR 0 rows.length)
end Go.Proofs.YtningnjdafhgkaaDoor

namespace Go.Proofs.YtningnjdafhgkaaDoor

/-- the runs that have ended, and the length of the one that has not -/
def runsFin (s : List Int × Nat) : List Int := if 0 < s.2 then s.1 ++ [(s.2 : Int)] else s.1
def runsStep (s : List Int × Nat) (x : Int) : List Int × Nat := if x = 1 then (s.1, s.2 + 1) else (runsFin s, 0)
def runsSt (xs : List Int) : List Int × Nat := xs.foldl runsStep ([], 0)
def runsOf (xs : List Int) : List Int := runsFin (runsSt xs)

theorem runsSt_take {xs : List Int} {k : Nat} {x : Int} (h : xs[k]? = some x) : runsSt (xs.take (k + 1)) = if x = 1 then ((runsSt (xs.take k)).1, (runsSt (xs.take k)).2 + 1) else (runsFin (runsSt (xs.take k)), 0) := by
  obtain ⟨hk, hx⟩ := List.getElem?_eq_some_iff.1 h
  rw [List.take_succ_eq_append_getElem hk, hx]
  unfold runsSt
  rw [List.foldl_append]
  rfl

theorem runsSt_pos {xs : List Int} {k : Nat} (hk : k ≤ xs.length) : 0 < (runsSt (xs.take k)).2 ↔ 0 < k ∧ xs[k - 1]? = some 1 := by
  cases k with
  | zero => simp [runsSt]
  | succ k =>
    have hx : xs[k]? = some xs[k] := List.getElem?_eq_getElem (by omega)
    rw [runsSt_take hx]
    simp only [Nat.add_sub_cancel, hx]
    split <;> simp_all

theorem runsSt_len {xs : List Int} : ∀ k, k ≤ xs.length → (runsSt (xs.take k)).1.length + (runsSt (xs.take k)).2 ≤ k := by
  intro k
  induction k with
  | zero => intro _; simp [runsSt]
  | succ k ih =>
    intro hk
    have h1 := ih (by omega)
    have hx : xs[k]? = some xs[k] := List.getElem?_eq_getElem (by omega)
    rw [runsSt_take hx]
    split
    · simp; omega
    · simp only [runsFin]
      split
      · simp; omega
      · simp; omega

theorem runsOf_len (xs : List Int) : (runsOf xs).length ≤ xs.length := by
  have h := runsSt_len (xs := xs) xs.length (Nat.le_refl _)
  rw [List.take_length] at h
  unfold runsOf runsFin
  split
  · simp; omega
  · omega
end Go.Proofs.YtningnjdafhgkaaDoor

namespace Go.Proofs.YtningnjdafhgkaaDoor
open Go.RowKit

theorem sumL_nonneg {xs : List Int} {m : Int} (h : xs.all (inR 0 m) = true) : 0 ≤ sumL xs := by
  have aux : ∀ k, k ≤ xs.length → 0 ≤ sumL (xs.take k) := by
    intro k
    induction k with
    | zero => intro _; simp [sumL]
    | succ k ih =>
      intro hk
      have hx : xs[k]? = some xs[k] := List.getElem?_eq_getElem (by omega)
      rw [sumL_take hx]
      have h1 := ih (by omega)
      have h2 := List.all_eq_true.1 h _ (List.mem_of_getElem? hx)
      rw [inR_iff] at h2
      omega
  have := aux xs.length (Nat.le_refl _)
  rwa [List.take_length] at this
theorem small_of_all {xs : List Int} {m : Int} (h : xs.all (inR 0 m) = true) (hm : m ≤ 1048576) (hl : xs.length ≤ 1048576) : Small xs := by
  refine ⟨hl, fun x hx => ?_⟩
  have h2 := List.all_eq_true.1 h _ hx
  rw [inR_iff] at h2
  omega
def parityOf (rows cols : List Int) : Int := if sumsFit rows cols then (sumL rows + sumL cols) % 2 else -1
end Go.Proofs.YtningnjdafhgkaaDoor

namespace Go.Proofs.YtningnjdafhgkaaDoor
open Go.RowKit

theorem infoInts : (Tryd.prog.info? 22).map (fun i => (i.zero, i.size, i.bytes)) = some (some (.slice none 0 0), 1, 24) := by kernel_rfl


/-- the number of cells -/
def cells (g : List (List Int)) : Nat := (g.map List.length).sum
/-- k, k + 1, .. in the rows of a grid -/
def gmarks : Int → List (List Int) → List (List Int)
  | _, [] => []
  | k, r :: g => marks k r.length :: gmarks (k + r.length) g
theorem gmarks_len (g : List (List Int)) : ∀ k, (gmarks k g).length = g.length := by
  induction g with
  | nil => intro k; rfl
  | cons r g ih => intro k; simp [gmarks, ih]
theorem cells_take {g : List (List Int)} {k : Nat} {r : List Int} (h : g[k]? = some r) : cells (g.take (k + 1)) = cells (g.take k) + r.length := by
  obtain ⟨hk, hx⟩ := List.getElem?_eq_some_iff.1 h
  rw [List.take_succ_eq_append_getElem hk, hx]; simp [cells]
theorem cells_take_le (g : List (List Int)) (k : Nat) : cells (g.take k) ≤ cells g := by
  have : cells g = cells (g.take k) + cells (g.drop k) := by
    have h : cells (g.take k ++ g.drop k) = cells (g.take k) + cells (g.drop k) := by unfold cells; rw [List.map_append, List.sum_append]
    rwa [List.take_append_drop] at h
  omega
theorem gmarks_at {g : List (List Int)} : ∀ {k : Int} {j : Nat} {r : List Int}, g[j]? = some r → (gmarks k g)[j]? = some (marks (k + cells (g.take j)) r.length) := by
  induction g with
  | nil => intro k j r h; simp at h
  | cons a g ih =>
    intro k j r h
    cases j with
    | zero => simp at h; subst h; simp [gmarks, cells]
    | succ j =>
      simp at h
      simp only [gmarks, List.getElem?_cons_succ]
      rw [ih h]
      congr 2
      simp [cells]
      omega

end Go.Proofs.YtningnjdafhgkaaDoor

namespace Go.Proofs.YtningnjdafhgkaaDoor
open Go.RowKit


end Go.Proofs.YtningnjdafhgkaaDoor

namespace Go.Proofs.YtningnjdafhgkaaDoor
open Go.RowKit

end Go.Proofs.YtningnjdafhgkaaDoor

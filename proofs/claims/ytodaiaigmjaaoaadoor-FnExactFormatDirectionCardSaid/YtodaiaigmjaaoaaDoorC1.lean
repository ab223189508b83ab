/- Contracts of the small functions on integers and integer slices. -/
import Derived.Test.YtodaiaigmjaaoaaDoorRows
import Derived.Test.YtodaiaigmjaaoaaDoorMem
import Derived.WalkLawsBesides
import Derived.WalkSpells
import Derived.Deep.QuietTactic
import Derived.BigQuiet
import Derived.WalkSmall
namespace Go.Proofs.YtodaiaigmjaaoaaDoor
open Go.RowKit

theorem infoInt : (Tryd.prog.info? 3).map (fun i => (i.zero, i.size, i.bytes)) = some (some (.int .i64 0), 1, 8) := by kernel_rfl

theorem quiet2 (w : World) (n q : Nat) : ∃ m, (w.drewN n).drewN q = w.drewN m := ⟨n + q, World.drewN_drewN _ _ _⟩
theorem quiet1 {w wr : World} {n : Nat} (h : wr = w.drewN n) (q : Nat) : ∃ m, wr.drewN q = w.drewN m := ⟨n + q, by rw [h]; exact World.drewN_drewN _ _ _⟩
theorem retB {b b' : Bool} (h : b = b') : Ending.returned (.bool b) = Ending.returned (.bool b') := by rw [h]
theorem retI {n n' : Int} (h : n = n') : Ending.returned (.int .i64 n) = Ending.returned (.int .i64 n') := by rw [h]

def inR (lo hi n : Int) : Bool := decide (lo ≤ n) && decide (n ≤ hi)
theorem inR_t {lo hi n : Int} (h1 : lo ≤ n) (h2 : n ≤ hi) : inR lo hi n = true := by simp [inR, h1, h2]
theorem inR_iff {lo hi n : Int} : inR lo hi n = true ↔ lo ≤ n ∧ n ≤ hi := by simp [inR]

theorem within_c (n lo hi : Int) (w : World) : Calls Tryd.prog 43 #[.int .i64 n, .int .i64 lo, .int .i64 hi] w fun e w' => e = .returned (.bool (inR lo hi n)) ∧ w = w' := by
  by_cases h1 : lo ≤ n
  · by_cases h2 : n ≤ hi
    · have h : inR lo hi n = true := by simp [inR, h1, h2]
      rw [h]; clear h
      go_enter Tryd.func43, Tryd.ntmps43
      go_wp2
      go_ret
      exact ⟨rfl, rfl⟩
    · have h : inR lo hi n = false := by simp [inR, h2]
      rw [h]; clear h
      go_enter Tryd.func43, Tryd.ntmps43
      go_wp2
      go_ret
      exact ⟨rfl, rfl⟩
  · have h : inR lo hi n = false := by simp [inR, h1]
    rw [h]; clear h
    go_enter Tryd.func43, Tryd.ntmps43
    go_wp2
    go_ret
    exact ⟨rfl, rfl⟩
theorem l01In_c (n lo hi : Int) (w : World) : Calls Tryd.prog 51 #[.int .i64 n, .int .i64 lo, .int .i64 hi] w fun e w' => e = .returned (.bool (inR lo hi n)) ∧ w = w' := by
  by_cases h1 : lo ≤ n
  · by_cases h2 : n ≤ hi
    · have h : inR lo hi n = true := by simp [inR, h1, h2]
      rw [h]; clear h
      go_enter Tryd.func51, Tryd.ntmps51
      go_wp2
      go_ret
      exact ⟨rfl, rfl⟩
    · have h : inR lo hi n = false := by simp [inR, h2]
      rw [h]; clear h
      go_enter Tryd.func51, Tryd.ntmps51
      go_wp2
      go_ret
      exact ⟨rfl, rfl⟩
  · have h : inR lo hi n = false := by simp [inR, h1]
    rw [h]; clear h
    go_enter Tryd.func51, Tryd.ntmps51
    go_wp2
    go_ret
    exact ⟨rfl, rfl⟩

theorem all_take_step {α : Type} (p : α → Bool) {xs : List α} {k : Nat} {x : α} (h : xs[k]? = some x) : (xs.take (k + 1)).all p = ((xs.take k).all p && p x) := by
  obtain ⟨hk, hx⟩ := List.getElem?_eq_some_iff.1 h
  rw [List.take_succ_eq_append_getElem hk, List.all_append, hx]; simp

theorem all_done {α : Type} {p : α → Bool} {xs : List α} {k : Nat} (h : (xs.take k).all p = true) (hk : xs.length ≤ k) : xs.all p = true := by
  rw [List.take_of_length_le hk] at h; exact h

theorem all_of_take {α : Type} (p : α → Bool) {xs : List α} {k : Nat} {x : α} (h : xs[k]? = some x) (hp : p x = false) : xs.all p = false := by
  rw [List.all_eq_false]
  exact ⟨x, List.mem_of_getElem? h, by simp [hp]⟩

theorem allWithin_c (v : Value) (xs : List Int) (lo hi : Int) (w : World) (hv : Ints w v xs) : Calls Tryd.prog 44 #[v, .int .i64 lo, .int .i64 hi] w fun e w' => e = .returned (.bool (xs.all (inR lo hi))) ∧ w = w' := by
  obtain ⟨a, cap, rfl, hcap, hle, -, hc⟩ := hv
  go_enter Tryd.func44, Tryd.ntmps44
  go_wp2
  go_loop [8, 11] (fun _ i => ∃ k : Nat, k ≤ xs.length ∧ i = .int .i64 k ∧ (xs.take k).all (inR lo hi) = true) (fun _ i => xs.length - (intOf i).toNat)
  case atStart => exact ⟨0, Nat.zero_le _, rfl, rfl⟩
  case round =>
    obtain ⟨k, hk, rfl, hall⟩ := hrel
    have Hall := Lib.hid hall; clear hall
    by_cases hlt : k < xs.length
    · obtain ⟨b, off, rfl, -, hc'⟩ := hc (by omega)
      obtain ⟨x, hx⟩ : ∃ x, xs[k]? = some x := ⟨_, List.getElem?_eq_getElem hlt⟩
      obtain ⟨u, hck, rfl, -⟩ := hc' k x hx
      have Hs := Lib.hid (all_take_step (inR lo hi) hx)
      have Hx := Lib.hid hx; clear hx hc hc'
      cases hin : inR lo hi x
      · have Hin := Lib.hid hin
        go_wp2_with (first | (go_at_call 43; refine (within_c _ _ _ _).mono ?_; rintro e w' ⟨rfl, rfl⟩))
        go_ret
        exact ⟨retB (all_of_take _ Hx.out Hin.out).symm, rfl⟩
      · have Hin := Lib.hid hin
        go_wp2_with (first | (go_at_call 43; refine (within_c _ _ _ _).mono ?_; rintro e w' ⟨rfl, rfl⟩))
        go_round
        case rel => exact ⟨k + 1, by omega, by go_num, by rw [Hs.out, Hall.out, Hin.out]; rfl⟩
        case measure => simp [intOf]; omega
    · go_wp2
      go_ret
      exact ⟨retB (all_done Hall.out (by omega)).symm, rfl⟩
/-- the call made a new owned slice (or slice of slices ..) and changed nothing else -/
def New {α : Type} (E : TypeId) (R : RepT α) (w : World) (xs : List α) (e : Ending) (w' : World) : Prop :=
  ∃ v', e = .returned v' ∧ Own E R (Iv w.heap.size w'.heap.size) w' v' xs ∧ Below w.heap.size w w'

theorem set_copy {xs : List Int} {k : Nat} {x : Int} (h : xs[k]? = some x) : (xs.take k ++ List.replicate (xs.length - k) 0).set k x = xs.take (k + 1) ++ List.replicate (xs.length - (k + 1)) 0 := by
  obtain ⟨hk, hx⟩ := List.getElem?_eq_some_iff.1 h
  obtain ⟨d, hd⟩ : ∃ d, xs.length - k = d + 1 := ⟨xs.length - k - 1, by omega⟩
  rw [hd, show xs.length - (k + 1) = d from by omega, List.set_append_right _ _ (by simp; omega), List.length_take, Nat.min_eq_left (Nat.le_of_lt hk), Nat.sub_self, List.replicate_succ, List.set_cons_zero, List.take_succ_eq_append_getElem hk, hx]
  simp

/-- what a list sums up to -/
def sumL (xs : List Int) : Int := xs.foldl (· + ·) 0
theorem sumL_take {xs : List Int} {k : Nat} {x : Int} (h : xs[k]? = some x) : sumL (xs.take (k + 1)) = sumL (xs.take k) + x := by
  obtain ⟨hk, hx⟩ := List.getElem?_eq_some_iff.1 h
  rw [List.take_succ_eq_append_getElem hk, hx]; simp [sumL]
theorem sumL_done {xs : List Int} {k : Nat} (hk : xs.length ≤ k) : sumL (xs.take k) = sumL xs := by rw [List.take_of_length_le hk]
/-- small numbers -/
def Small (xs : List Int) : Prop := xs.length ≤ 1048576 ∧ ∀ x ∈ xs, -1048576 ≤ x ∧ x ≤ 1048576
theorem sumL_small {xs : List Int} (h : Small xs) : ∀ k, k ≤ xs.length → -(1048576 * (k : Int)) ≤ sumL (xs.take k) ∧ sumL (xs.take k) ≤ 1048576 * (k : Int) := by
  intro k
  induction k with
  | zero => intro _; simp [sumL]
  | succ k ih =>
    intro hk
    have h1 := ih (by omega)
    have hx : xs[k]? = some xs[k] := List.getElem?_eq_getElem (by omega)
    rw [sumL_take hx]
    have := h.2 _ (List.mem_of_getElem? hx)
    push_cast
    omega

theorem sumOf_c (v : Value) (xs : List Int) (w : World) (hv : Ints w v xs) (hs : Small xs) : Calls Tryd.prog 30 #[v] w fun e w' => e = .returned (.int .i64 (sumL xs)) ∧ w = w' := by
  obtain ⟨a, cap, rfl, hcap, -, -, hc⟩ := hv
  have hle := hs.1
  go_enter Tryd.func30, Tryd.ntmps30
  go_wp2
  go_loop [3, 8] (fun n i => ∃ k : Nat, k ≤ xs.length ∧ i = .int .i64 k ∧ n = .int .i64 (sumL (xs.take k))) (fun _ i => xs.length - (intOf i).toNat)
  case atStart => exact ⟨0, Nat.zero_le _, rfl, rfl⟩
  case round =>
    obtain ⟨k, hk, rfl, rfl⟩ := hrel
    obtain ⟨t, ht⟩ : ∃ t, t = sumL (xs.take k) := ⟨_, rfl⟩
    have hb := sumL_small hs k hk
    rw [← ht] at hb ⊢
    have Ht := Lib.hid ht
    obtain ⟨hb1, hb2⟩ := hb
    have hk20 : k ≤ 1048576 := by omega
    by_cases hlt : k < xs.length
    · obtain ⟨b, off, rfl, -, hc'⟩ := hc (by omega)
      obtain ⟨x, hx⟩ : ∃ x, xs[k]? = some x := ⟨_, List.getElem?_eq_getElem hlt⟩
      obtain ⟨u, hck, rfl, -⟩ := hc' k x hx
      obtain ⟨hx1, hx2⟩ := hs.2 x (List.mem_of_getElem? hx)
      have Hs := Lib.hid (sumL_take hx)
      clear hx hc hc' ht
      go_wp2
      go_round
      case rel => exact ⟨k + 1, by omega, by go_num, by rw [Hs.out, ← Ht.out]⟩
      case measure => simp [intOf]; omega
    · clear ht
      go_wp2
      go_ret
      exact ⟨retI (by rw [Ht.out, sumL_done (by omega)]), rfl⟩

theorem take_step_eq {α : Type} {xs ys : List α} {k : Nat} {x : α} (h : xs.take k = ys.take k) (hx : xs[k]? = some x) (hy : ys[k]? = some x) : xs.take (k + 1) = ys.take (k + 1) := by
  obtain ⟨h1, h2⟩ := List.getElem?_eq_some_iff.1 hx
  obtain ⟨h3, h4⟩ := List.getElem?_eq_some_iff.1 hy
  rw [List.take_succ_eq_append_getElem h1, List.take_succ_eq_append_getElem h3, h, h2, h4]

end Go.Proofs.YtodaiaigmjaaoaaDoor

/- Contracts and plain laws that the claims on sessions use. No condition of their own. -/
import Derived.Test.YthmocomfjgmjoaaGreatDoorRows
import Derived.Test.YthmocomfjgmjoaaGreatDoorQ01
import Derived.WalkLawsBesides
import Derived.WalkSpells
import Derived.Deep.QuietTactic
import Derived.BigQuiet
import Derived.WalkSmall
import Derived.BigGuardPart
import Derived.Deep.RegionHeld3
import Derived.Laws.BitsLemmas
import Derived.Deep.RegionWith
set_option maxHeartbeats 1000000
set_option maxRecDepth 100000
namespace Go.Proofs.YthmocomfjgmjoaaGreatDoor
open Go.RowKit
theorem infoInt : (Tryz.prog.info? 3).map (fun i => (i.zero, i.size, i.bytes)) = some (some (.int .i64 0), 1, 8) := by kernel_rfl
theorem quiet2 (w : World) (n q : Nat) : ∃ m, (w.drewN n).drewN q = w.drewN m := ⟨n + q, World.drewN_drewN _ _ _⟩
theorem retB {b b' : Bool} (h : b = b') : Ending.returned (.bool b) = Ending.returned (.bool b') := by rw [h]
theorem retI {n n' : Int} (h : n = n') : Ending.returned (.int .i64 n) = Ending.returned (.int .i64 n') := by rw [h]
def inR (lo hi n : Int) : Bool := decide (lo ≤ n) && decide (n ≤ hi)
theorem inR_t {lo hi n : Int} (h1 : lo ≤ n) (h2 : n ≤ hi) : inR lo hi n = true := by simp [inR, h1, h2]
theorem inR_iff {lo hi n : Int} : inR lo hi n = true ↔ lo ≤ n ∧ n ≤ hi := by simp [inR]
theorem within_c (n lo hi : Int) (w : World) : Calls Tryz.prog 95 #[.int .i64 n, .int .i64 lo, .int .i64 hi] w fun e w' => e = .returned (.bool (inR lo hi n)) ∧ w = w' := by
  by_cases h1 : lo ≤ n
  · by_cases h2 : n ≤ hi
    · have h : inR lo hi n = true := by simp [inR, h1, h2]
      rw [h]; clear h
      go_enter Tryz.func95, Tryz.ntmps95
      go_wp2
      go_ret
      exact ⟨rfl, rfl⟩
    · have h : inR lo hi n = false := by simp [inR, h2]
      rw [h]; clear h
      go_enter Tryz.func95, Tryz.ntmps95
      go_wp2
      go_ret
      exact ⟨rfl, rfl⟩
  · have h : inR lo hi n = false := by simp [inR, h1]
    rw [h]; clear h
    go_enter Tryz.func95, Tryz.ntmps95
    go_wp2
    go_ret
    exact ⟨rfl, rfl⟩
theorem l01In_c (n lo hi : Int) (w : World) : Calls Tryz.prog 201 #[.int .i64 n, .int .i64 lo, .int .i64 hi] w fun e w' => e = .returned (.bool (inR lo hi n)) ∧ w = w' := by
  by_cases h1 : lo ≤ n
  · by_cases h2 : n ≤ hi
    · have h : inR lo hi n = true := by simp [inR, h1, h2]
      rw [h]; clear h
      go_enter Tryz.func201, Tryz.ntmps201
      go_wp2
      go_ret
      exact ⟨rfl, rfl⟩
    · have h : inR lo hi n = false := by simp [inR, h2]
      rw [h]; clear h
      go_enter Tryz.func201, Tryz.ntmps201
      go_wp2
      go_ret
      exact ⟨rfl, rfl⟩
  · have h : inR lo hi n = false := by simp [inR, h1]
    rw [h]; clear h
    go_enter Tryz.func201, Tryz.ntmps201
    go_wp2
    go_ret
    exact ⟨rfl, rfl⟩
theorem all_take_step {α : Type} (p : α → Bool) {xs : List α} {k : Nat} {x : α} (h : xs[k]? = some x) : (xs.take (k + 1)).all p = ((xs.take k).all p && p x) := by
  obtain ⟨hk, hx⟩ := List.getElem?_eq_some_iff.1 h
  rw [List.take_succ_eq_append_getElem hk, List.all_append, hx]; simp
theorem all_done {α : Type} {p : α → Bool} {xs : List α} {k : Nat} (h : (xs.take k).all p = true) (hk : xs.length ≤ k) : xs.all p = true := by
  rw [List.take_of_length_le hk] at h; exact h
theorem all_of_take {α : Type} (p : α → Bool) {xs : List α} {k : Nat} {x : α} (h : xs[k]? = some x) (hp : p x = false) : xs.all p = false := by
  rw [List.all_eq_false]
  exact ⟨x, List.mem_of_getElem? h, by simp [hp]⟩
theorem allWithin_c (v : Value) (xs : List Int) (lo hi : Int) (w : World) (hv : Ints w v xs) : Calls Tryz.prog 157 #[v, .int .i64 lo, .int .i64 hi] w fun e w' => e = .returned (.bool (xs.all (inR lo hi))) ∧ w = w' := by
  obtain ⟨a, cap, rfl, hcap, hle, -, hc⟩ := hv
  go_enter Tryz.func157, Tryz.ntmps157
  go_wp2
  go_loop [8, 11] (fun _ i => ∃ k : Nat, k ≤ xs.length ∧ i = .int .i64 k ∧ (xs.take k).all (inR lo hi) = true) (fun _ i => xs.length - (intOf i).toNat)
  case atStart => exact ⟨0, Nat.zero_le _, rfl, rfl⟩
  case round =>
    obtain ⟨k, hk, rfl, hall⟩ := hrel
    have Hall := Lib.hid hall; clear hall
    by_cases hlt : k < xs.length
    · obtain ⟨b, off, rfl, -, hc'⟩ := hc (by omega)
      obtain ⟨x, hx⟩ : ∃ x, xs[k]? = some x := ⟨_, List.getElem?_eq_getElem hlt⟩
      obtain ⟨u, hck, rfl, -⟩ := hc' k x hx
      have Hs := Lib.hid (all_take_step (inR lo hi) hx)
      have Hx := Lib.hid hx; clear hx hc hc'
      cases hin : inR lo hi x
      · have Hin := Lib.hid hin
        go_wp2_with (first | (go_at_call 95; refine (within_c _ _ _ _).mono ?_; rintro e w' ⟨rfl, rfl⟩))
        go_ret
        exact ⟨retB (all_of_take _ Hx.out Hin.out).symm, rfl⟩
      · have Hin := Lib.hid hin
        go_wp2_with (first | (go_at_call 95; refine (within_c _ _ _ _).mono ?_; rintro e w' ⟨rfl, rfl⟩))
        go_round
        case rel => exact ⟨k + 1, by omega, by go_num, by rw [Hs.out, Hall.out, Hin.out]; rfl⟩
        case measure => simp [intOf]; omega
    · go_wp2
      go_ret
      exact ⟨retB (all_done Hall.out (by omega)).symm, rfl⟩
def New {α : Type} (E : TypeId) (R : RepT α) (w : World) (xs : List α) (e : Ending) (w' : World) : Prop :=
  ∃ v', e = .returned v' ∧ Own E R (Iv w.heap.size w'.heap.size) w' v' xs ∧ Below w.heap.size w w'
theorem set_copy {xs : List Int} {k : Nat} {x : Int} (h : xs[k]? = some x) : (xs.take k ++ List.replicate (xs.length - k) 0).set k x = xs.take (k + 1) ++ List.replicate (xs.length - (k + 1)) 0 := by
  obtain ⟨hk, hx⟩ := List.getElem?_eq_some_iff.1 h
  obtain ⟨d, hd⟩ : ∃ d, xs.length - k = d + 1 := ⟨xs.length - k - 1, by omega⟩
  rw [hd, show xs.length - (k + 1) = d from by omega, List.set_append_right _ _ (by simp; omega), List.length_take, Nat.min_eq_left (Nat.le_of_lt hk), Nat.sub_self, List.replicate_succ, List.set_cons_zero, List.take_succ_eq_append_getElem hk, hx]
  simp
def sumL (xs : List Int) : Int := xs.foldl (· + ·) 0
theorem sumL_take {xs : List Int} {k : Nat} {x : Int} (h : xs[k]? = some x) : sumL (xs.take (k + 1)) = sumL (xs.take k) + x := by
  obtain ⟨hk, hx⟩ := List.getElem?_eq_some_iff.1 h
  rw [List.take_succ_eq_append_getElem hk, hx]; simp [sumL]
theorem sumL_done {xs : List Int} {k : Nat} (hk : xs.length ≤ k) : sumL (xs.take k) = sumL xs := by rw [List.take_of_length_le hk]
def Small (xs : List Int) : Prop := xs.length ≤ 1048576 ∧ ∀ x ∈ xs, -1048576 ≤ x ∧ x ≤ 1048576
theorem sumL_small {xs : List Int} (h : Small xs) : ∀ k, k ≤ xs.length → -(1048576 * (k : Int)) ≤ sumL (xs.take k) ∧ sumL (xs.take k) ≤ 1048576 * (k : Int) := by
  intro k
  induction k with
  | zero => intro _; simp [sumL]
  | succ k ih =>
    intro hk
    have h1 := ih (by omega)
    have hx : xs[k]? = some xs[k] := List.getElem?_eq_getElem (by omega)
    rw [sumL_take hx]
    have := h.2 _ (List.mem_of_getElem? hx)
    push_cast
    omega
theorem sumOf_c (v : Value) (xs : List Int) (w : World) (hv : Ints w v xs) (hs : Small xs) : Calls Tryz.prog 87 #[v] w fun e w' => e = .returned (.int .i64 (sumL xs)) ∧ w = w' := by
  obtain ⟨a, cap, rfl, hcap, -, -, hc⟩ := hv
  have hle := hs.1
  go_enter Tryz.func87, Tryz.ntmps87
  go_wp2
  go_loop [3, 8] (fun n i => ∃ k : Nat, k ≤ xs.length ∧ i = .int .i64 k ∧ n = .int .i64 (sumL (xs.take k))) (fun _ i => xs.length - (intOf i).toNat)
  case atStart => exact ⟨0, Nat.zero_le _, rfl, rfl⟩
  case round =>
    obtain ⟨k, hk, rfl, rfl⟩ := hrel
    obtain ⟨t, ht⟩ : ∃ t, t = sumL (xs.take k) := ⟨_, rfl⟩
    have hb := sumL_small hs k hk
    rw [← ht] at hb ⊢
    have Ht := Lib.hid ht
    obtain ⟨hb1, hb2⟩ := hb
    have hk20 : k ≤ 1048576 := by omega
    by_cases hlt : k < xs.length
    · obtain ⟨b, off, rfl, -, hc'⟩ := hc (by omega)
      obtain ⟨x, hx⟩ : ∃ x, xs[k]? = some x := ⟨_, List.getElem?_eq_getElem hlt⟩
      obtain ⟨u, hck, rfl, -⟩ := hc' k x hx
      obtain ⟨hx1, hx2⟩ := hs.2 x (List.mem_of_getElem? hx)
      have Hs := Lib.hid (sumL_take hx)
      clear hx hc hc' ht
      go_wp2
      go_round
      case rel => exact ⟨k + 1, by omega, by go_num, by rw [Hs.out, ← Ht.out]⟩
      case measure => simp [intOf]; omega
    · clear ht
      go_wp2
      go_ret
      exact ⟨retI (by rw [Ht.out, sumL_done (by omega)]), rfl⟩
theorem take_step_eq {α : Type} {xs ys : List α} {k : Nat} {x : α} (h : xs.take k = ys.take k) (hx : xs[k]? = some x) (hy : ys[k]? = some x) : xs.take (k + 1) = ys.take (k + 1) := by
  obtain ⟨h1, h2⟩ := List.getElem?_eq_some_iff.1 hx
  obtain ⟨h3, h4⟩ := List.getElem?_eq_some_iff.1 hy
  rw [List.take_succ_eq_append_getElem h1, List.take_succ_eq_append_getElem h3, h, h2, h4]
def sumsFit (rows cols : List Int) : Bool := inR 1 4 rows.length && inR 1 4 cols.length && rows.all (inR 0 cols.length) && cols.all (inR 0 rows.length)
theorem SumsFit_i (v v2 : Value) (xs ys : List Int) (w : World) (hv : Ints w v xs) (hv2 : Ints w v2 ys) : Calls Tryz.prog 173 #[v, v2] w fun e w' => e = .returned (.bool (sumsFit xs ys)) ∧ w = w' := by
  obtain ⟨a, cap, rfl, hcap, hle, -, -⟩ := id hv
  obtain ⟨a2, cap2, rfl, hcap2, hle2, -, -⟩ := id hv2
  go_enter Tryz.func173, Tryz.ntmps173
  go_wp2_with (first | (go_at_call 95; refine (within_c _ _ _ _).mono ?_; rintro e w' ⟨rfl, rfl⟩) | (go_at_call 157; refine (allWithin_c _ _ _ _ _ (by assumption)).mono ?_; rintro e w' ⟨rfl, rfl⟩))
  all_goals (go_ret; exact ⟨retB (by simp [sumsFit, *]), rfl⟩)
end Go.Proofs.YthmocomfjgmjoaaGreatDoor
namespace Go.Proofs.YthmocomfjgmjoaaGreatDoor
def runsFin (s : List Int × Nat) : List Int := if 0 < s.2 then s.1 ++ [(s.2 : Int)] else s.1
def runsStep (s : List Int × Nat) (x : Int) : List Int × Nat := if x = 1 then (s.1, s.2 + 1) else (runsFin s, 0)
def runsSt (xs : List Int) : List Int × Nat := xs.foldl runsStep ([], 0)
def runsOf (xs : List Int) : List Int := runsFin (runsSt xs)
theorem runsSt_take {xs : List Int} {k : Nat} {x : Int} (h : xs[k]? = some x) : runsSt (xs.take (k + 1)) = if x = 1 then ((runsSt (xs.take k)).1, (runsSt (xs.take k)).2 + 1) else (runsFin (runsSt (xs.take k)), 0) := by
  obtain ⟨hk, hx⟩ := List.getElem?_eq_some_iff.1 h
  rw [List.take_succ_eq_append_getElem hk, hx]
  unfold runsSt
  rw [List.foldl_append]
  rfl
theorem runsSt_pos {xs : List Int} {k : Nat} (hk : k ≤ xs.length) : 0 < (runsSt (xs.take k)).2 ↔ 0 < k ∧ xs[k - 1]? = some 1 := by
  cases k with
  | zero => simp [runsSt]
  | succ k =>
    have hx : xs[k]? = some xs[k] := List.getElem?_eq_getElem (by omega)
    rw [runsSt_take hx]
    simp only [Nat.add_sub_cancel, hx]
    split <;> simp_all
theorem runsSt_len {xs : List Int} : ∀ k, k ≤ xs.length → (runsSt (xs.take k)).1.length + (runsSt (xs.take k)).2 ≤ k := by
  intro k
  induction k with
  | zero => intro _; simp [runsSt]
  | succ k ih =>
    intro hk
    have h1 := ih (by omega)
    have hx : xs[k]? = some xs[k] := List.getElem?_eq_getElem (by omega)
    rw [runsSt_take hx]
    split
    · simp; omega
    · simp only [runsFin]
      split
      · simp; omega
      · simp; omega
theorem runsOf_len (xs : List Int) : (runsOf xs).length ≤ xs.length := by
  have h := runsSt_len (xs := xs) xs.length (Nat.le_refl _)
  rw [List.take_length] at h
  unfold runsOf runsFin
  split
  · simp; omega
  · omega
end Go.Proofs.YthmocomfjgmjoaaGreatDoor
namespace Go.Proofs.YthmocomfjgmjoaaGreatDoor
open Go.RowKit
theorem RunsOf_i (v : Value) (xs : List Int) (w : World) (hv : Ints w v xs) (hlen : xs.length ≤ 1048576) : Calls Tryz.prog 175 #[v] w (New 3 IntV w (runsOf xs)) := by
  obtain ⟨a, cap, rfl, hcap, -, -, hc⟩ := hv
  go_enter Tryz.func175, Tryz.ntmps175
  go_wp2
  go_loopw [3, 8] (fun v i wr => ∃ k : Nat, k ≤ xs.length ∧ i = .int .i64 k ∧ Own 3 IntV (Iv w.heap.size wr.heap.size) wr v (runsFin (runsSt (xs.take k))) ∧ Below w.heap.size w wr) (fun _ i _ => xs.length - (intOf i).toNat)
  case atStart => exact ⟨0, Nat.zero_le _, rfl, Own.nil _ _ _ _, Below.refl _ _⟩
  case round =>
    obtain ⟨k, hk, rfl, hown, hbel⟩ := hrel
    have hBs := hbel.size
    by_cases hlt : k < xs.length
    · obtain ⟨b, off, rfl, hb, hc'⟩ := hc (by omega)
      obtain ⟨x, hx⟩ : ∃ x, xs[k]? = some x := ⟨_, List.getElem?_eq_getElem hlt⟩
      obtain ⟨u, hck, rfl, hI⟩ := hc' k x hx
      rw [← hbel.cell (p := ⟨b, off + k, none⟩) hb] at hck
      have hst := runsSt_take hx
      have hpos := runsSt_pos hk
      have hln := runsSt_len k hk
      by_cases hx1 : x = 1
      · subst hx1
        by_cases hp : 0 < (runsSt (xs.take k)).2
        · obtain ⟨hk0, hprev⟩ := hpos.1 hp
          obtain ⟨u2, hcp, rfl, -⟩ := hc' (k - 1) 1 hprev
          rw [← hbel.cell (p := ⟨b, off + (k - 1), none⟩) hb] at hcp
          obtain ⟨o, ho⟩ : ∃ o, o = (runsSt (xs.take k)).1 := ⟨_, rfl⟩
          obtain ⟨n, hn⟩ : ∃ n, n = (runsSt (xs.take k)).2 := ⟨_, rfl⟩
          simp only [if_true, ← ho, ← hn] at hst
          rw [← hn] at hp
          simp only [runsFin, ← ho, ← hn, if_pos hp] at hown
          rw [← ho, ← hn] at hln
          obtain ⟨g, cp, rfl, hg, hcp2, -, -⟩ := hown.inv_ne (by simp)
          obtain ⟨hcell, hfree, -⟩ := hown.ints_cell (k := o.length) (x := (n : Int)) (by simp)
          have hset := hown.setInt (k := o.length) (c := (n : Int) + 1) (by simp) (I64.small (by omega) (by omega))
          rw [List.set_append_right _ _ (Nat.le_refl _), Nat.sub_self, List.set_cons_zero] at hset
          simp only [List.length_append, List.length_cons, List.length_nil, Nat.zero_add] at hset hcp2 ⊢
          have Hset := Lib.hid hset
          have Hst := Lib.hid hst
          have hge := hg.1
          clear hc hc' hx hprev hpos ho hn hown hset hst
          go_wp2
          go_roundw
          case rel => exact ⟨k + 1, by omega, by go_num, by rw [Hst.out, size_setCell]; exact Hset.out, hbel.setCell hge _⟩
          case measure => simp [intOf]; omega
        · have hn0 : (runsSt (xs.take k)).2 = 0 := by omega
          have hfin : runsFin (runsSt (xs.take k)) = (runsSt (xs.take k)).1 := by simp [runsFin, hn0]
          rw [hfin] at hown
          rw [if_pos rfl, hn0] at hst
          have Hst := Lib.hid hst
          have Hown := Lib.hid hown
          have hln' : (runsSt (xs.take k)).1.length < 1099511627776 := by omega
          have hprev : k ≤ 0 ∨ (0 < k ∧ ∃ y, ¬ y = 1 ∧ wr.cell? ⟨b, off + (k - 1), none⟩ = some (.int .i64 y)) := by
            by_cases hk0 : k = 0
            · exact .inl (by omega)
            · refine .inr ⟨by omega, ?_⟩
              have h1 : xs[k - 1]? = some xs[k - 1] := List.getElem?_eq_getElem (by omega)
              obtain ⟨u2, hcp, rfl, -⟩ := hc' (k - 1) _ h1
              refine ⟨xs[k - 1], fun h => hp (hpos.2 ⟨by omega, by rw [h1, h]⟩), ?_⟩
              rw [hbel.cell (p := ⟨b, off + (k - 1), none⟩) hb, hcp]
          clear hc hc' hx hpos hown hst hn0 hfin hp hln
          rcases hprev with hk0 | ⟨hk0, y, hy, hcp⟩
          all_goals
            go_wp2_with (first | (at_builtin; (refine wpList_appR rfl _ _ 32 rfl rIntV 3 Tryz.underlying32 infoInt rfl (by decide) w.heap.size wr.heap.size hBs (Nat.le_refl _) rfl rfl (by exact Hown.out) ⟨rfl, I64.small (by decide) (by decide)⟩ hln' ?_); intro v' w' hown' hbel' _))
            have hb2 := hbel.trans hbel'
            have Hown' := Lib.hid hown'
            clear hown' hbel'
            go_wp2
            go_roundw
            case rel => exact ⟨k + 1, by omega, by go_num, by rw [Hst.out]; exact Hown'.out, hb2⟩
            case measure => simp [intOf]; omega
      · have Hst := Lib.hid hst
        have Hown := Lib.hid hown
        clear hc hc' hx hpos hst hown
        go_wp2
        go_roundw
        case rel => exact ⟨k + 1, by omega, by go_num, by rw [Hst.out, if_neg hx1]; exact Hown.out, hbel⟩
        case measure => simp [intOf]; omega
    · have Hown := Lib.hid hown
      clear hown
      go_wp2
      go_ret
      refine ⟨_, rfl, ?_, hbel⟩
      have h1 := Hown.out
      rw [List.take_of_length_le (by omega)] at h1
      exact h1
theorem small_of_all {xs : List Int} {m : Int} (h : xs.all (inR 0 m) = true) (hm : m ≤ 1048576) (hl : xs.length ≤ 1048576) : Small xs := by
  refine ⟨hl, fun x hx => ?_⟩
  have h2 := List.all_eq_true.1 h _ hx
  rw [inR_iff] at h2
  omega
theorem infoInts : (Tryz.prog.info? 32).map (fun i => (i.zero, i.size, i.bytes)) = some (some (.slice none 0 0), 1, 24) := by kernel_rfl
def cells (g : List (List Int)) : Nat := (g.map List.length).sum
theorem copyInts_c (v : Value) (xs : List Int) (w : World) (hv : Ints w v xs) (hl : xs.length ≤ 1048576) : Calls Tryz.prog 83 #[v] w (New 3 IntV w xs) := by
  have Hv := Lib.hid hv
  obtain ⟨a, cap, rfl, -⟩ := hv
  have hl0 : ([] : List Int).length + xs.length ≤ 1099511627776 := by simp; omega
  go_enter Tryz.func83, Tryz.ntmps83
  go_wp2_with (first | (at_builtin; refine wpList_appI rfl _ _ 32 rfl 3 Tryz.underlying32 infoInt rfl (fun _ => False) rfl rfl (by exact Own.nil _ _ _ _) (by exact Hv.out) hl0 ?_; intro v2 w2 hown2 honly2 _))
  have hb : Below w.heap.size w w2 := by
    have ho : Only (fun b => (Value.slice none 0 0).ownBlock = some b) w w2 := honly2
    refine Only.pure (ho.mono fun b hb _ => ?_)
    exact absurd hb (by simp [Value.ownBlock])
  go_wp2
  go_ret
  refine ⟨_, rfl, ?_, hb⟩
  have h := (rOwn rIntV).mono (S' := Iv w.heap.size w2.heap.size) (fun b hb => by
    rcases hb with hb | hb
    · exact hb.elim
    · exact hb) hown2
  simpa using h
theorem copyGrid_c (v : Value) (m : List (List Int)) (w : World) (hv : Grid w v m) (hm : m.length ≤ 1048576) (hr : ∀ x ∈ m, x.length ≤ 1048576) : Calls Tryz.prog 82 #[v] w (New 32 (Own 3 IntV) w m) := by
  have Hv := Lib.hid hv
  obtain ⟨a, cap0, rfl, -⟩ := hv
  go_enter Tryz.func82, Tryz.ntmps82
  go_wp2
  go_loopw [3, 5, 8] (fun v _ i wr => ∃ k : Nat, k ≤ m.length ∧ i = .int .i64 k ∧ Own 32 (Own 3 IntV) (Iv w.heap.size wr.heap.size) wr v (m.take k) ∧ Below w.heap.size w wr) (fun _ _ i _ => m.length - (intOf i).toNat)
  case atStart => exact ⟨0, Nat.zero_le _, rfl, Own.nil _ _ _ _, Below.refl _ _⟩
  case round =>
    obtain ⟨k, hk, rfl, hown, hbel⟩ := hrel
    obtain ⟨wo, rfl⟩ : ∃ wo : World, wo = wr := ⟨_, rfl⟩
    have hBs := hbel.size
    by_cases hlt : k < m.length
    · obtain ⟨row, hrow⟩ : ∃ row, m[k]? = some row := ⟨_, List.getElem?_eq_getElem hlt⟩
      obtain ⟨b, off, cpr, he, hb, -⟩ := Hv.out.inv_ne (by omega)
      obtain ⟨rfl, -⟩ : a = some ⟨b, off, none⟩ ∧ cap0 = cpr := by simpa using he
      obtain ⟨u, hck, hu⟩ := Sl.at Hv.out hrow
      have hu : Ints w u row := hu
      obtain ⟨br, cpr, rfl, -⟩ := id hu
      rw [← hbel.cell (p := ⟨b, off + k, none⟩) hb] at hck
      have hrl := hr row (List.mem_of_getElem? hrow)
      have Hst := Lib.hid (show m.take (k + 1) = m.take k ++ [row] from by rw [List.take_add_one, hrow]; rfl)
      have Hu := Lib.hid (hu.keep hbel)
      have hkl : (m.take k).length < 1099511627776 := by simp; omega
      have Hown := Lib.hid hown
      clear hrow hu hown he
      go_wp2_with (fail)
      refine (copyInts_c _ _ _ Hu.out hrl).mono ?_
      rintro e w1 ⟨v1, rfl, hown1, hbel1⟩
      have hs1 : wo.heap.size ≤ w1.heap.size := hbel1.size
      obtain ⟨p1, p2, p3, rfl⟩ := hown1.shape
      go_wp2_with (first | (at_builtin; (refine wpList_appR rfl _ _ 31 rfl (rOwn rIntV) 32 Tryz.underlying31 infoInts rfl (by decide) w.heap.size wo.heap.size hBs hs1 rfl rfl (by exact Own.keep (rOwn rIntV) Hown.out hbel1 (Nat.le_refl _)) (by exact hown1) hkl ?_); intro v2 w2 hown2 hbel2 _) | fail)
      have hb2 := (hbel.trans (hbel1.mono hBs)).trans hbel2
      have Hown2 := Lib.hid hown2
      clear hown2
      go_wp2
      go_roundw
      case rel => exact ⟨k + 1, by omega, by go_num, by rw [Hst.out]; exact Hown2.out, hb2⟩
      case measure => simp [intOf]; omega
    · have Hfin := Lib.hid (show m.take k = m from by rw [List.take_of_length_le (by omega)])
      have Hown := Lib.hid hown
      clear hown
      go_wp2
      go_ret
      exact ⟨_, rfl, by rw [← Hfin.out]; exact Hown.out, hbel⟩
def OwnCons (S : Bk) (w : World) (a b c : Value) (m : List (List Int)) (r k : List Int) : Prop :=
  ∃ Sa Sb Sc : Bk, (∀ x, Sa x → S x) ∧ (∀ x, Sb x → S x) ∧ (∀ x, Sc x → S x) ∧ (∀ x, Sa x → ¬ Sb x) ∧ (∀ x, Sa x → ¬ Sc x) ∧ (∀ x, Sb x → ¬ Sc x) ∧
    Own 32 (Own 3 IntV) Sa w a m ∧ Own 3 IntV Sb w b r ∧ Own 3 IntV Sc w c k
theorem OwnCons.keep {lo hi : Nat} {w w' : World} {a b c : Value} {m : List (List Int)} {r k : List Int} (h : OwnCons (Iv lo hi) w a b c m r k) (hb : Below w.heap.size w w') (hh : hi ≤ w.heap.size) : OwnCons (Iv lo hi) w' a b c m r k := by
  obtain ⟨Sa, Sb, Sc, h1, h2, h3, h4, h5, h6, o1, o2, o3⟩ := h
  exact ⟨Sa, Sb, Sc, h1, h2, h3, h4, h5, h6, (rOwn (rOwn rIntV)).same (sameOn_below hb fun b hb => by have := (h1 b hb).2; omega) o1, (rOwn rIntV).same (sameOn_below hb fun b hb => by have := (h2 b hb).2; omega) o2, (rOwn rIntV).same (sameOn_below hb fun b hb => by have := (h3 b hb).2; omega) o3⟩
theorem OwnCons.only {S T : Bk} {w w' : World} {a b c : Value} {m : List (List Int)} {r k : List Int} (h : OwnCons S w a b c m r k) (ho : Only T w w') (hh : ∀ b, S b → b < w.heap.size) (hd : ∀ b, S b → ¬ T b) : OwnCons S w' a b c m r k := by
  obtain ⟨Sa, Sb, Sc, h1, h2, h3, h4, h5, h6, o1, o2, o3⟩ := h
  exact ⟨Sa, Sb, Sc, h1, h2, h3, h4, h5, h6, (rOwn (rOwn rIntV)).same (ho.same (fun b hb => hd b (h1 b hb)) fun b hb => hh b (h1 b hb)) o1,
    (rOwn rIntV).same (ho.same (fun b hb => hd b (h2 b hb)) fun b hb => hh b (h2 b hb)) o2, (rOwn rIntV).same (ho.same (fun b hb => hd b (h3 b hb)) fun b hb => hh b (h3 b hb)) o3⟩
theorem OwnCons.reads {S : Bk} {w : World} {a b c : Value} {m : List (List Int)} {r k : List Int} (h : OwnCons S w a b c m r k) : Grid w a m ∧ Ints w b r ∧ Ints w c k := by
  obtain ⟨Sa, Sb, Sc, h1, h2, h3, h4, h5, h6, o1, o2, o3⟩ := h
  exact ⟨o1.grid, o2.ints, o3.ints⟩
theorem OwnCons.shape {S : Bk} {w : World} {a b c : Value} {m : List (List Int)} {r k : List Int} (h : OwnCons S w a b c m r k) : (∃ x y z, a = .slice x y z) ∧ (∃ x y z, b = .slice x y z) ∧ (∃ x y z, c = .slice x y z) := by
  obtain ⟨Sa, Sb, Sc, h1, h2, h3, h4, h5, h6, o1, o2, o3⟩ := h
  exact ⟨o1.shape, o2.shape, o3.shape⟩
theorem own_lit1 {w : World} {E g : Nat} {n : Int} {S : Bk} (h : w.heap[g]? = some (.cells #[.int .i64 n] E)) (hn : I64 n) (hS : S g) : Own E IntV S w (.slice (some ⟨g, 0, none⟩) 1 1) [n] :=
  .inr ⟨g, #[.int .i64 n], rfl, hS, h, by simp, by simp [maxLen], by simp, fun _ _ => False, fun _ _ h => h.elim, fun _ _ _ h => h.elim, fun k x hk => by
    cases k with
    | zero => simp at hk; subst hk; exact ⟨_, rfl, rfl, hn⟩
    | succ k => simp at hk⟩
theorem own_lit1g {w : World} {E E' g r : Nat} {n : Int} {S : Bk} (h : w.heap[g]? = some (.cells #[.slice (some ⟨r, 0, none⟩) 1 1] E)) (h2 : w.heap[r]? = some (.cells #[.int .i64 n] E')) (hn : I64 n) (hS : S g) (hS2 : S r) (hne : r ≠ g) : Own E (Own E' IntV) S w (.slice (some ⟨g, 0, none⟩) 1 1) [[n]] :=
  .inr ⟨g, #[.slice (some ⟨r, 0, none⟩) 1 1], rfl, hS, h, by simp, by simp [maxLen], by simp, fun k b => k = 0 ∧ b = r, fun k b hb => ⟨by rw [hb.2]; exact hS2, by rw [hb.2]; exact hne⟩, fun i j b h1 h2 => by rw [h1.1, h2.1], fun k x hk => by
    cases k with
    | zero => simp at hk; subst hk; exact ⟨_, rfl, own_lit1 h2 hn ⟨rfl, rfl⟩⟩
    | succ k => simp at hk⟩
theorem NewConsole_spec.NewConsole (w : World) : Calls Tryz.prog 58 #[] w fun e w' => ∃ a b c, e = .returned (.agg #[a, b, c]) ∧ OwnCons (Iv w.heap.size w'.heap.size) w' a b c [[0]] [0] [0] ∧ Below w.heap.size w w' := by
  go_enter Tryz.func58, Tryz.ntmps58
  go_wp2
  refine bodyPost_ret (v := .agg #[.slice (some ⟨w.heap.size + 2, 0, none⟩) 1 1, .slice (some ⟨w.heap.size + 3, 0, none⟩) 1 1, .slice (some ⟨w.heap.size + 4, 0, none⟩) 1 1]) (by simp [results, Tryz.results58, go_sem]) rfl ⟨_, _, _, rfl, ?_, ?_⟩
  · refine ⟨Iv w.heap.size (w.heap.size + 3), Iv (w.heap.size + 3) (w.heap.size + 4), Iv (w.heap.size + 4) (w.heap.size + 5), ?_, ?_, ?_, ?_, ?_, ?_, own_lit1g (r := w.heap.size + 1) ?_ ?_ (I64.small (by decide) (by decide)) ⟨by omega, by omega⟩ ⟨by omega, by omega⟩ (by omega), own_lit1 ?_ (I64.small (by decide) (by decide)) ⟨by omega, by omega⟩, own_lit1 ?_ (I64.small (by decide) (by decide)) ⟨by omega, by omega⟩⟩
    · intro x hx; have := hx.1; have := hx.2; exact ⟨by omega, by simp; omega⟩
    · intro x hx; have := hx.1; have := hx.2; exact ⟨by omega, by simp; omega⟩
    · intro x hx; have := hx.1; have := hx.2; exact ⟨by omega, by simp; omega⟩
    · intro x hx hy; have := hx.2; have := hy.1; omega
    · intro x hx hy; have := hx.2; have := hy.1; omega
    · intro x hx hy; have := hx.2; have := hy.1; omega
    · show ((((w.heap.push _).push _).push _).push _ |>.push _)[_]? = _
      simp only [Array.getElem?_push, Array.size_push]
      repeat (first | rw [if_pos trivial] | rw [if_neg (by omega)] | rw [if_pos (by omega)])
    · show ((((w.heap.push _).push _).push _).push _ |>.push _)[_]? = _
      simp only [Array.getElem?_push, Array.size_push]
      repeat (first | rw [if_pos trivial] | rw [if_neg (by omega)] | rw [if_pos (by omega)])
    · show ((((w.heap.push _).push _).push _).push _ |>.push _)[_]? = _
      simp only [Array.getElem?_push, Array.size_push]
      repeat (first | rw [if_pos trivial] | rw [if_neg (by omega)] | rw [if_pos (by omega)])
    · show ((((w.heap.push _).push _).push _).push _ |>.push _)[_]? = _
      simp only [Array.getElem?_push, Array.size_push]
      repeat (first | rw [if_pos trivial] | rw [if_neg (by omega)] | rw [if_pos (by omega)])
  · exact ((((((Below.refl _ _).alloc (Nat.le_refl _) _).alloc (by simp) _).alloc (by simp; omega) _).alloc (by simp; omega) _).alloc (by simp; omega) _)
theorem NewConsole_impl.NewConsole (w : World) : Calls Tryz.prog 12 #[] w fun e w' => ∃ a b c, e = .returned (.agg #[a, b, c]) ∧ OwnCons (Iv w.heap.size w'.heap.size) w' a b c [[0]] [0] [0] ∧ Below w.heap.size w w' := by
  go_enter Tryz.func12, Tryz.ntmps12
  go_wp2
  refine bodyPost_ret (v := .agg #[.slice (some ⟨w.heap.size + 2, 0, none⟩) 1 1, .slice (some ⟨w.heap.size + 3, 0, none⟩) 1 1, .slice (some ⟨w.heap.size + 4, 0, none⟩) 1 1]) (by simp [results, Tryz.results12, go_sem]) rfl ⟨_, _, _, rfl, ?_, ?_⟩
  · refine ⟨Iv w.heap.size (w.heap.size + 3), Iv (w.heap.size + 3) (w.heap.size + 4), Iv (w.heap.size + 4) (w.heap.size + 5), ?_, ?_, ?_, ?_, ?_, ?_, own_lit1g (r := w.heap.size + 1) ?_ ?_ (I64.small (by decide) (by decide)) ⟨by omega, by omega⟩ ⟨by omega, by omega⟩ (by omega), own_lit1 ?_ (I64.small (by decide) (by decide)) ⟨by omega, by omega⟩, own_lit1 ?_ (I64.small (by decide) (by decide)) ⟨by omega, by omega⟩⟩
    · intro x hx; have := hx.1; have := hx.2; exact ⟨by omega, by simp; omega⟩
    · intro x hx; have := hx.1; have := hx.2; exact ⟨by omega, by simp; omega⟩
    · intro x hx; have := hx.1; have := hx.2; exact ⟨by omega, by simp; omega⟩
    · intro x hx hy; have := hx.2; have := hy.1; omega
    · intro x hx hy; have := hx.2; have := hy.1; omega
    · intro x hx hy; have := hx.2; have := hy.1; omega
    · show ((((w.heap.push _).push _).push _).push _ |>.push _)[_]? = _
      simp only [Array.getElem?_push, Array.size_push]
      repeat (first | rw [if_pos trivial] | rw [if_neg (by omega)] | rw [if_pos (by omega)])
    · show ((((w.heap.push _).push _).push _).push _ |>.push _)[_]? = _
      simp only [Array.getElem?_push, Array.size_push]
      repeat (first | rw [if_pos trivial] | rw [if_neg (by omega)] | rw [if_pos (by omega)])
    · show ((((w.heap.push _).push _).push _).push _ |>.push _)[_]? = _
      simp only [Array.getElem?_push, Array.size_push]
      repeat (first | rw [if_pos trivial] | rw [if_neg (by omega)] | rw [if_pos (by omega)])
    · show ((((w.heap.push _).push _).push _).push _ |>.push _)[_]? = _
      simp only [Array.getElem?_push, Array.size_push]
      repeat (first | rw [if_pos trivial] | rw [if_neg (by omega)] | rw [if_pos (by omega)])
  · exact ((((((Below.refl _ _).alloc (Nat.le_refl _) _).alloc (by simp) _).alloc (by simp; omega) _).alloc (by simp; omega) _).alloc (by simp; omega) _)
end Go.Proofs.YthmocomfjgmjoaaGreatDoor
namespace Go.Proofs.YthmocomfjgmjoaaGreatDoor
def Shape (r c : Nat) (m : List (List Int)) : Prop := m.length = r ∧ ∀ row ∈ m, row.length = c ∧ ∀ x ∈ row, 0 ≤ x ∧ x ≤ 1
def rowOk (lo hi : Int) (n : Nat) (row : List Int) : Bool := decide (row.length = n) && inR 1 5 row.length && row.all (inR lo hi)
def gridOkB (lo hi : Int) (m : List (List Int)) : Bool := inR 1 5 m.length && m.all (rowOk lo hi (m.headD []).length)
def imageOk (m : List (List Int)) : Bool := gridOkB 0 1 m
theorem Shape.ok {r c : Nat} {m : List (List Int)} (h : Shape r c m) (h1 : 1 ≤ r) (h2 : r ≤ 5) (h3 : 1 ≤ c) (h4 : c ≤ 5) : imageOk m = true := by
  obtain ⟨hl, hr⟩ := h
  unfold imageOk gridOkB
  rw [Bool.and_eq_true]
  refine ⟨inR_t (by omega) (by omega), ?_⟩
  rw [List.all_eq_true]
  intro row hrow
  have hh : m.headD [] ∈ m := by
    cases m with
    | nil => simp at hrow
    | cons a m => simp
  obtain ⟨e1, e2⟩ := hr row hrow
  obtain ⟨e3, _⟩ := hr _ hh
  simp only [rowOk, Bool.and_eq_true, decide_eq_true_eq, List.all_eq_true]
  exact ⟨⟨by rw [e1, e3], inR_t (by omega) (by omega)⟩, fun x hx => inR_t (e2 x hx).1 (e2 x hx).2⟩
theorem imageOk_shape {m : List (List Int)} (h : imageOk m = true) : ∃ r c, 1 ≤ r ∧ r ≤ 5 ∧ 1 ≤ c ∧ c ≤ 5 ∧ Shape r c m := by
  unfold imageOk gridOkB at h
  rw [Bool.and_eq_true, List.all_eq_true, inR_iff] at h
  obtain ⟨⟨h1, h2⟩, h3⟩ := h
  have hh : m.headD [] ∈ m := by
    cases m with
    | nil => simp at h1
    | cons a m => simp
  have hhead := h3 _ hh
  simp only [rowOk, Bool.and_eq_true, decide_eq_true_eq, List.all_eq_true, inR_iff] at hhead
  refine ⟨m.length, (m.headD []).length, by omega, by omega, by omega, by omega, rfl, fun row hrow => ?_⟩
  have := h3 _ hrow
  simp only [rowOk, Bool.and_eq_true, decide_eq_true_eq, List.all_eq_true, inR_iff] at this
  exact ⟨this.1.1, this.2⟩
theorem Shape.row {r c : Nat} {m : List (List Int)} (h : Shape r c m) {y : Nat} (hy : y < r) : ∃ row, m[y]? = some row ∧ row.length = c ∧ ∀ x ∈ row, 0 ≤ x ∧ x ≤ 1 := by
  have hl : y < m.length := by rw [h.1]; exact hy
  exact ⟨m[y], List.getElem?_eq_getElem hl, h.2 _ (List.getElem_mem hl)⟩
theorem Shape.set {r c : Nat} {m : List (List Int)} (h : Shape r c m) {y x : Nat} {row : List Int} (hy : m[y]? = some row) {n : Int} (h0 : 0 ≤ n) (h1 : n ≤ 1) : Shape r c (m.set y (row.set x n)) := by
  refine ⟨by simp [h.1], fun q hq => ?_⟩
  rcases List.mem_or_eq_of_mem_set hq with hq | rfl
  · exact h.2 q hq
  · obtain ⟨e1, e2⟩ := h.2 row (List.mem_of_getElem? hy)
    refine ⟨by simpa using e1, fun z hz => ?_⟩
    rcases List.mem_or_eq_of_mem_set hz with hz | rfl
    · exact e2 z hz
    · exact ⟨h0, h1⟩
theorem shape_zeros (r c : Nat) : Shape r c (List.replicate r (List.replicate c 0)) := by
  refine ⟨by simp, fun row hrow => ?_⟩
  obtain rfl := List.eq_of_mem_replicate hrow
  refine ⟨by simp, fun x hx => ?_⟩
  obtain rfl := List.eq_of_mem_replicate hx
  exact ⟨by decide, by decide⟩
def bitsLine (n key : Nat) : List Int := (List.range n).map fun x : Nat => ((key / 2 ^ (n - 1 - x) % 2 : Nat) : Int)
def linesTo (n : Nat) (rs : List Int) (k : Nat) : List (List Int) := ((List.range k).map (bitsLine n)).filter fun l => decide (runsOf l = rs)
def linesFor (rs : List Int) (n : Nat) : List (List Int) := linesTo n rs (2 ^ n)
theorem bitsLine_len (n key : Nat) : (bitsLine n key).length = n := by simp [bitsLine]
theorem bitsLine_at {n key x : Nat} (h : x < n) : (bitsLine n key)[x]? = some ((key / 2 ^ (n - 1 - x) % 2 : Nat) : Int) := by simp [bitsLine, h]
theorem linesTo_succ (n : Nat) (rs : List Int) (k : Nat) : linesTo n rs (k + 1) = if runsOf (bitsLine n k) = rs then linesTo n rs k ++ [bitsLine n k] else linesTo n rs k := by
  unfold linesTo
  rw [List.range_succ, List.map_append, List.filter_append]
  split <;> simp_all
theorem linesTo_len (n : Nat) (rs : List Int) (k : Nat) : (linesTo n rs k).length ≤ k := by
  have := List.length_filter_le (fun l => decide (runsOf l = rs)) ((List.range k).map (bitsLine n))
  simpa [linesTo] using this
theorem bits_set {n key j : Nat} (h : j < n) : ((bitsLine n key).take j ++ List.replicate (n - j) 0).set j ((key / 2 ^ (n - 1 - j) % 2 : Nat) : Int) = (bitsLine n key).take (j + 1) ++ List.replicate (n - (j + 1)) 0 := by
  have := set_copy (bitsLine_at (key := key) h)
  rwa [bitsLine_len] at this
def agreeAt (st line : List Int) (x : Nat) : Bool := decide (st.getD x 0 < 0) || (st.getD x 0 == line.getD x 0)
def agreesTo (st line : List Int) (j : Nat) : Bool := (List.range j).all (agreeAt st line)
def agrees (st line : List Int) : Bool := agreesTo st line line.length
def mergeAt (a b : Int) : Int := if a = b then a else -1
def mergeL (o line : List Int) : List Int := List.zipWith mergeAt o line
def solveStep (st : List Int) (acc : Option (List Int)) (line : List Int) : Option (List Int) :=
  if agrees st line then some (match acc with | none => line | some o => mergeL o line) else acc
def solveTo (L : List (List Int)) (st : List Int) (k : Nat) : Option (List Int) := (L.take k).foldl (solveStep st) none
def stateOk (st : List Int) : Bool := inR 1 5 st.length && st.all (inR (-1) 1)
def solveLine (rs st : List Int) : Option (List Int) := if stateOk st then solveTo (linesFor rs st.length) st (linesFor rs st.length).length else none
theorem agreeAt_eq {st line : List Int} {j : Nat} {x c : Int} (hx : st[j]? = some x) (hc : line[j]? = some c) : agreeAt st line j = (decide (x < 0) || (x == c)) := by
  simp [agreeAt, List.getD, hx, hc]
theorem agreesTo_succ (st line : List Int) (j : Nat) : agreesTo st line (j + 1) = (agreesTo st line j && agreeAt st line j) := by
  simp [agreesTo, List.range_succ]
theorem solveTo_succ {L : List (List Int)} {st : List Int} {k : Nat} {line : List Int} (h : L[k]? = some line) : solveTo L st (k + 1) = solveStep st (solveTo L st k) line := by
  obtain ⟨hk, hx⟩ := List.getElem?_eq_some_iff.1 h
  unfold solveTo
  rw [List.take_succ_eq_append_getElem hk, hx, List.foldl_append]; rfl
theorem mergeL_len (o line : List Int) : (mergeL o line).length = min o.length line.length := by simp [mergeL]
def mergeTo (o line : List Int) (j : Nat) : List Int := (mergeL o line).take j ++ o.drop j
theorem mergeTo_zero (o line : List Int) : mergeTo o line 0 = o := by simp [mergeTo]
theorem mergeTo_len {o line : List Int} (h : o.length = line.length) (j : Nat) : (mergeTo o line j).length = o.length := by
  simp [mergeTo, mergeL_len, h]; omega
theorem mergeTo_all {o line : List Int} (h : o.length = line.length) : mergeTo o line line.length = mergeL o line := by
  simp [mergeTo, List.take_of_length_le, mergeL_len, h]
theorem mergeTo_at {o line : List Int} {j : Nat} {a : Int} (h : o.length = line.length) (ha : o[j]? = some a) : (mergeTo o line j)[j]? = some a := by
  have hj := (List.getElem?_eq_some_iff.1 ha).1
  rw [mergeTo, List.getElem?_append_right (by simp [mergeL_len]; omega), List.length_take, mergeL_len, List.getElem?_drop, ← ha]
  congr 1; omega
theorem mergeTo_succ {o line : List Int} {j : Nat} {a b : Int} (h : o.length = line.length) (ha : o[j]? = some a) (hb : line[j]? = some b) : mergeTo o line (j + 1) = (mergeTo o line j).set j (mergeAt a b) := by
  have hj := (List.getElem?_eq_some_iff.1 ha).1
  have hm : (mergeL o line)[j]? = some (mergeAt a b) := by simp [mergeL, List.getElem?_zipWith, ha, hb]
  obtain ⟨h1, h2⟩ := List.getElem?_eq_some_iff.1 hm
  unfold mergeTo
  rw [List.set_append_right _ _ (by simp [mergeL_len]; omega), List.take_succ_eq_append_getElem h1, h2]
  have : j - (List.take j (mergeL o line)).length = 0 := by simp [mergeL_len]; omega
  rw [this, List.drop_eq_getElem_cons hj, List.set_cons_zero]
  simp
theorem mergeTo_same {o line : List Int} {j : Nat} {a : Int} (h : o.length = line.length) (ha : o[j]? = some a) (hb : line[j]? = some a) : mergeTo o line (j + 1) = mergeTo o line j := by
  rw [mergeTo_succ h ha hb]
  have h1 := mergeTo_at h ha
  have hl := mergeTo_len h j
  rw [show mergeAt a a = a from by simp [mergeAt]]
  obtain ⟨h2, h3⟩ := List.getElem?_eq_some_iff.1 h1
  rw [← h3]
  exact List.set_getElem_self h2
theorem linesTo_mem {n k : Nat} {rs l : List Int} (h : l ∈ linesTo n rs k) : l.length = n ∧ ∀ x ∈ l, 0 ≤ x ∧ x ≤ 1 := by
  simp only [linesTo, List.mem_filter, List.mem_map, List.mem_range] at h
  obtain ⟨⟨q, _, rfl⟩, _⟩ := h
  refine ⟨bitsLine_len _ _, fun x hx => ?_⟩
  simp only [bitsLine, List.mem_map, List.mem_range] at hx
  obtain ⟨j, _, rfl⟩ := hx
  have := Nat.mod_lt (q / 2 ^ (n - 1 - j)) (show 0 < 2 by decide)
  omega
theorem mergeL_bd {o line : List Int} (h : ∀ x ∈ o, -1 ≤ x ∧ x ≤ 1) : ∀ x ∈ mergeL o line, -1 ≤ x ∧ x ≤ 1 := by
  intro x hx
  obtain ⟨j, hj⟩ := List.getElem?_of_mem hx
  simp only [mergeL, List.getElem?_zipWith] at hj
  cases h1 : o[j]? with
  | none => simp [h1] at hj
  | some a =>
    cases h2 : line[j]? with
    | none => simp [h1, h2] at hj
    | some b =>
      simp [h1, h2] at hj
      have := h a (List.mem_of_getElem? h1)
      unfold mergeAt at hj
      split at hj <;> omega
theorem solveTo_wf {n : Nat} {rs st : List Int} : ∀ k, k ≤ (linesFor rs n).length → ∀ o, solveTo (linesFor rs n) st k = some o → o.length = n ∧ ∀ x ∈ o, -1 ≤ x ∧ x ≤ 1 := by
  intro k
  induction k with
  | zero => intro _ o h; simp [solveTo] at h
  | succ k ih =>
    intro hk o h
    have hline : (linesFor rs n)[k]? = some (linesFor rs n)[k] := List.getElem?_eq_getElem (by omega)
    rw [solveTo_succ hline] at h
    obtain ⟨hl1, hl2⟩ := linesTo_mem (List.mem_of_getElem? hline)
    unfold solveStep at h
    split at h
    · cases hacc : solveTo (linesFor rs n) st k with
      | none =>
        rw [hacc] at h
        simp at h
        subst h
        exact ⟨hl1, fun x hx => by have := hl2 x hx; omega⟩
      | some o' =>
        rw [hacc] at h
        simp at h
        subst h
        obtain ⟨e1, e2⟩ := ih (by omega) o' hacc
        exact ⟨by rw [mergeL_len]; omega, mergeL_bd e2⟩
    · exact ih (by omega) o h
def bitCell (N key i : Nat) : Int := ((key / 2 ^ (N - 1 - i) % 2 : Nat) : Int)
def imgFrom (r c key k : Nat) : List (List Int) := (List.range r).map fun y => (List.range c).map fun x => if k ≤ y * c + x then bitCell (r * c) key (y * c + x) else 0
def imgOf (r c key : Nat) : List (List Int) := imgFrom r c key 0
theorem bitCell_bd (N key i : Nat) : 0 ≤ bitCell N key i ∧ bitCell N key i ≤ 1 := by
  unfold bitCell
  have := Nat.mod_lt (key / 2 ^ (N - 1 - i)) (show 0 < 2 by decide)
  omega
theorem imgFrom_shape (r c key k : Nat) : Shape r c (imgFrom r c key k) := by
  refine ⟨by simp [imgFrom], fun row hrow => ?_⟩
  simp only [imgFrom, List.mem_map, List.mem_range] at hrow
  obtain ⟨y, _, rfl⟩ := hrow
  refine ⟨by simp, fun z hz => ?_⟩
  simp only [List.mem_map, List.mem_range] at hz
  obtain ⟨x, _, rfl⟩ := hz
  split
  · exact bitCell_bd _ _ _
  · decide
theorem grid_ext {a b : List (List Int)} {r c : Nat} (ha : a.length = r) (hb : b.length = r) (h : ∀ y, y < r → ∃ p q, a[y]? = some p ∧ b[y]? = some q ∧ p.length = c ∧ q.length = c ∧ ∀ x, x < c → p[x]? = q[x]?) : a = b := by
  apply List.ext_getElem?
  intro y
  by_cases hy : y < r
  · obtain ⟨p, q, h1, h2, h3, h4, h5⟩ := h y hy
    rw [h1, h2]
    congr 1
    apply List.ext_getElem?
    intro x
    by_cases hx : x < c
    · exact h5 x hx
    · rw [List.getElem?_eq_none (by omega), List.getElem?_eq_none (by omega)]
  · rw [List.getElem?_eq_none (by omega), List.getElem?_eq_none (by omega)]
theorem div_mod_eq {c y x k : Nat} (hx : x < c) : y * c + x = k ↔ (k / c = y ∧ k % c = x) := by
  constructor
  · rintro rfl
    rw [Nat.mul_comm]
    exact ⟨by rw [Nat.mul_add_div (by omega), Nat.div_eq_of_lt hx]; omega, by rw [Nat.mul_add_mod, Nat.mod_eq_of_lt hx]⟩
  · rintro ⟨rfl, rfl⟩
    rw [Nat.mul_comm]; exact Nat.div_add_mod k c
end Go.Proofs.YthmocomfjgmjoaaGreatDoor
namespace Go.Proofs.YthmocomfjgmjoaaGreatDoor
open Go.RowKit
theorem i64_mask (m : Nat) (hm : m ≤ 62) (c : Int) (hc : c = ((2 ^ m - 1 : Nat) : Int)) (n : Int) : bits .and .i64 n c = n % ((2 ^ m : Nat) : Int) := by
  have hpow : 2 ^ m ∣ 2 ^ 64 := Nat.pow_dvd_pow 2 (by omega)
  have hlt : 2 ^ m ≤ 2 ^ 62 := Nat.pow_le_pow_right (by decide) hm
  have hpos : 0 < 2 ^ m := Nat.two_pow_pos m
  have hc' : (BitVec.ofInt 64 c).toNat = 2 ^ m - 1 := by
    rw [hc, BitVec.toNat_ofInt]
    have : 2 ^ m - 1 < 2 ^ 64 := by omega
    rw [← Int.natCast_emod, Nat.mod_eq_of_lt this]; rfl
  have key : (BitVec.ofInt 64 n &&& BitVec.ofInt 64 c).toNat = (n % ((2 ^ 64 : Nat) : Int)).toNat % 2 ^ m := by
    rw [BitVec.toNat_and, BitVec.toNat_ofInt, hc', Nat.and_two_pow_sub_one_eq_mod]
  show IntKind.i64.wrap ((BitVec.ofInt 64 n &&& BitVec.ofInt 64 c).toNat : Nat) = n % _
  rw [key, IntKind.wrap_i64]
  have h1 : ((n % ((2 ^ 64 : Nat) : Int)).toNat % 2 ^ m : Nat) < 2 ^ m := Nat.mod_lt _ hpos
  have h2 : (((n % ((2 ^ 64 : Nat) : Int)).toNat % 2 ^ m : Nat) : Int) = n % ((2 ^ m : Nat) : Int) := by
    rw [Int.natCast_emod, Int.toNat_of_nonneg (Int.emod_nonneg _ (by decide))]
    exact Int.emod_emod_of_dvd n (Int.natCast_dvd_natCast.2 hpow)
  rw [h2]
  have h3 : 0 ≤ n % ((2 ^ m : Nat) : Int) := Int.emod_nonneg _ (by omega)
  have h4 : n % ((2 ^ m : Nat) : Int) < ((2 ^ m : Nat) : Int) := Int.emod_lt_of_pos _ (by omega)
  omega
theorem i64_and255 (n : Int) : bits .and .i64 n 255 = n % 256 := i64_mask 8 (by decide) 255 (by decide) n
theorem i64_and1 (n : Int) : bits .and .i64 n 1 = n % 2 := i64_mask 1 (by decide) 1 (by decide) n
def ByteV : RepT Int := fun _ _ u n => u = .int .u8 n ∧ 0 ≤ n ∧ n ≤ 255
theorem rByteV : Rep ByteV := ⟨fun _ h => h, fun _ h => h, fun h => h, fun h => by obtain ⟨rfl, _⟩ := h; rfl⟩
abbrev Bytes := Rd (Sl ByteV)
def Cur (B : Nat) (w : World) (g : Nat) : Prop :=
  B ≤ g ∧ ∃ (v : Value) (bs : List Int) (i : Nat) (h : Int), w.heap[g]? = some (.cells #[v, .int .i64 i, .int .i64 h] 99 (0, 0)) ∧ Sl ByteV (fun b => b < B) w v bs ∧ i ≤ bs.length
theorem Cur.keep {B g : Nat} {w w' : World} (h : Cur B w g) (hb : Below w.heap.size w w') : Cur B w' g := by
  obtain ⟨h1, v, bs, i, x, h2, h3, h4⟩ := h
  have hg := lt_of_block h2
  exact ⟨h1, v, bs, i, x, (hb.block g hg).trans h2, (rSl rByteV).same (sameOn_below hb fun b hb' => by omega) h3, h4⟩
theorem Cur.only {B g : Nat} {S : Bk} {w w' : World} (h : Cur B w g) (hb : Only S w w') (hg : ¬ S g) (hS : ∀ b, S b → B ≤ b) : Cur B w' g := by
  obtain ⟨h1, v, bs, i, x, h2, h3, h4⟩ := h
  have hgs := lt_of_block h2
  exact ⟨h1, v, bs, i, x, (hb.block g hgs hg).trans h2, (rSl rByteV).same (fun b hb' => hb.block b (by omega) (fun hs => by have := hS b hs; omega)) h3, h4⟩
theorem Cur.lt {B g : Nat} {w : World} (h : Cur B w g) : g < w.heap.size := by
  obtain ⟨h1, v, bs, i, x, h2, h3, h4⟩ := h
  exact lt_of_block h2
theorem setCell_block {w : World} {g j : Nat} {cs : Array Value} {t : TypeId} {u : Value} (h : w.heap[g]? = some (.cells cs t (0, 0))) : (w.setCell ⟨g, j, none⟩ u).heap[g]? = some (.cells (cs.setIfInBounds j u) t (0, 0)) := heap_setCell_same w g j cs t u h
def Drew (B g : Nat) (w : World) (P : Int → Prop) (e : Ending) (w' : World) : Prop := ∃ n : Int, P n ∧ e = .returned (.int .i64 n) ∧ Cur B w' g ∧ Only (fun b => b = g) w w' ∧ w.heap.size = w'.heap.size
theorem and255_bd (n : Int) : 0 ≤ bits .and .i64 n 255 ∧ bits .and .i64 n 255 ≤ 255 := by rw [i64_and255]; omega
theorem cur_step1 {B g i : Nat} {w : World} {v : Value} {bs : List Int} {x : Int} (hB : B ≤ g) (h : w.heap[g]? = some (.cells #[v, .int .i64 i, .int .i64 x] 99 (0, 0))) (hbs : Sl ByteV (fun b => b < B) w v bs) (hi : i ≤ bs.length) (x' : Int) (n : Nat) :
    Cur B ((w.setCell ⟨g, 2, none⟩ (.int .i64 x')).drewN n) g ∧ Only (fun b => b = g) w ((w.setCell ⟨g, 2, none⟩ (.int .i64 x')).drewN n) ∧ w.heap.size = ((w.setCell ⟨g, 2, none⟩ (.int .i64 x')).drewN n).heap.size := by
  refine ⟨⟨hB, v, bs, i, x', setCell_block (w := w) h, (rSl rByteV).same (fun b hb => ?_) hbs, hi⟩, ?_, (size_setCell _ _ _).symm⟩
  · exact Below.heap_setCell w _ _ b (by simp; omega)
  · exact ((Only.refl (fun b => b = g) w).setCell (p := ⟨g, 2, none⟩) (.inl rfl) _).drewN n
theorem cur_step2 {B g i : Nat} {w : World} {v : Value} {bs : List Int} {x : Int} (hB : B ≤ g) (h : w.heap[g]? = some (.cells #[v, .int .i64 i, .int .i64 x] 99 (0, 0))) (hbs : Sl ByteV (fun b => b < B) w v bs) (hi : i < bs.length) (x' : Int) (n : Nat) :
    Cur B (((w.setCell ⟨g, 2, none⟩ (.int .i64 x')).drewN n).setCell ⟨g, 1, none⟩ (.int .i64 (i + 1))) g ∧ Only (fun b => b = g) w (((w.setCell ⟨g, 2, none⟩ (.int .i64 x')).drewN n).setCell ⟨g, 1, none⟩ (.int .i64 (i + 1))) ∧
      w.heap.size = (((w.setCell ⟨g, 2, none⟩ (.int .i64 x')).drewN n).setCell ⟨g, 1, none⟩ (.int .i64 (i + 1))).heap.size := by
  have h1 := setCell_block (j := 2) (u := .int .i64 x') h
  have h2 := setCell_block (w := (w.setCell ⟨g, 2, none⟩ (.int .i64 x')).drewN n) (j := 1) (u := .int .i64 (i + 1)) h1
  refine ⟨⟨hB, v, bs, i + 1, x', h2, (rSl rByteV).same (fun b hb => ?_) hbs, hi⟩, ?_, by rw [size_setCell]; exact (size_setCell _ _ _).symm⟩
  · rw [Below.heap_setCell _ _ _ b (by simp; omega)]
    exact Below.heap_setCell w _ _ b (by simp; omega)
  · exact (((Only.refl (fun b => b = g) w).setCell (p := ⟨g, 2, none⟩) (.inl rfl) _).drewN n).setCell (p := ⟨g, 1, none⟩) (.inl rfl) _
theorem l01Byte_c (B g : Nat) (w : World) (h : Cur B w g) : Calls Tryz.prog 23 #[.pointer (some ⟨g, 0, none⟩)] w (Drew B g w fun n => 0 ≤ n ∧ n ≤ 255) := by
  obtain ⟨hB, v, bs, i, x, hblk, hbs, hi⟩ := h
  obtain ⟨a, cap, rfl, hcap, hmax, -, hc⟩ := id hbs
  have hcell : ∀ j, w.cell? ⟨g, j, none⟩ = #[Value.slice a bs.length cap, .int .i64 i, .int .i64 x][j]? := fun j => cell_of_row w g j _ _ _ hblk
  have hfree : ∀ j, w.frozen? ⟨g, j, none⟩ = false := fun j => frozen_of_row w g j _ _ hblk
  have c0 : w.cell? ⟨g, 0, none⟩ = some (.slice a bs.length cap) := hcell 0
  have c1 : w.cell? ⟨g, 1, none⟩ = some (.int .i64 i) := hcell 1
  have c2 : w.cell? ⟨g, 2, none⟩ = some (.int .i64 x) := hcell 2
  have f1 := hfree 1
  have f2 := hfree 2
  clear hcell hfree
  have Hblk := Lib.hid hblk
  have Hbs := Lib.hid hbs
  clear hblk hbs
  by_cases hlt : i < bs.length
  · obtain ⟨b, off, rfl, hbB, hc'⟩ := hc (by omega)
    obtain ⟨y, hy⟩ : ∃ y, bs[i]? = some y := ⟨_, List.getElem?_eq_getElem hlt⟩
    obtain ⟨u, hck, rfl, hy1, hy2⟩ := hc' i y hy
    have hbg : b < g := by omega
    clear hc hc' hy
    go_enter Tryz.func23, Tryz.ntmps23
    go_wp2
    go_quiet (fail)
    go_wp2
    go_quiet (fail)
    go_wp2
    go_quiet (fail)
    go_wp2
    go_ret
    exact ⟨_, and255_bd _, rfl, cur_step2 hB Hblk.out Hbs.out hlt _ _⟩
  · clear hc
    go_enter Tryz.func23, Tryz.ntmps23
    go_wp2
    go_quiet (fail)
    go_wp2
    go_quiet (fail)
    go_wp2
    go_ret
    exact ⟨_, and255_bd _, rfl, by rw [World.drewN_drewN]; exact cur_step1 hB Hblk.out Hbs.out hi _ _⟩
theorem l01Below_c (B g : Nat) (n : Int) (w : World) (h : Cur B w g) (h1 : 1 ≤ n) (h2 : n ≤ 256) : Calls Tryz.prog 80 #[.pointer (some ⟨g, 0, none⟩), .int .i64 n] w (Drew B g w fun m => 0 ≤ m ∧ m < n) := by
  go_enter Tryz.func80, Tryz.ntmps80
  go_wp2_with (fail)
  refine (l01Byte_c B g _ h).mono ?_
  rintro e w' ⟨m, ⟨hm0, hm1⟩, rfl, hc, ho, hz⟩
  have Hz := Lib.hid hz; clear hz
  have e1 : 0 ≤ m % n := Int.emod_nonneg _ (by omega)
  have e2 : m % n < n := Int.emod_lt_of_pos _ (by omega)
  have hn0 : (n == 0) = false := by simp; omega
  go_wp2
  go_ret
  exact ⟨_, ⟨e1, e2⟩, rfl, hc, ho, Hz.out⟩
theorem cur_new {w : World} {v : Value} {bs : List Int} (h : Bytes w v bs) (x : Int) : Cur w.heap.size (w.alloc (.cells #[v, .int .i64 0, .int .i64 x] 99)) w.heap.size :=
  ⟨Nat.le_refl _, v, bs, 0, x, heap_alloc_new w _, (rSl rByteV).same (fun b hb => Below.heap_alloc w _ b hb) h, Nat.zero_le _⟩
theorem l01New_c (v : Value) (bs : List Int) (w : World) (hv : Bytes w v bs) : Calls Tryz.prog 27 #[v] w fun e w' => ∃ g, e = .returned (.pointer (some ⟨g, 0, none⟩)) ∧ g = w.heap.size ∧ Cur w.heap.size w' g ∧ Below w.heap.size w w' ∧ w'.heap.size = w.heap.size + 1 := by
  obtain ⟨a, cap, rfl, hcap, hle, -, hc⟩ := id hv
  have Hv := Lib.hid hv; clear hv
  go_enter Tryz.func27, Tryz.ntmps27
  go_wp2
  go_loop [3, 4] (fun h i => ∃ (k : Nat) (x : Int), k ≤ bs.length ∧ i = .int .i64 k ∧ h = .int .i64 x) (fun _ i => bs.length - (intOf i).toNat)
  case atStart => exact ⟨0, _, Nat.zero_le _, rfl, rfl⟩
  case round =>
    obtain ⟨k, x, hk, rfl, rfl⟩ := hrel
    by_cases hlt : k < bs.length
    · by_cases hlt2 : k < 4000
      · obtain ⟨b, off, rfl, hb, hc'⟩ := hc (by omega)
        obtain ⟨y, hy⟩ : ∃ y, bs[k]? = some y := ⟨_, List.getElem?_eq_getElem hlt⟩
        obtain ⟨u, hck, rfl, hy1, hy2⟩ := hc' k y hy
        clear hc hc' hy
        go_wp2
        go_round
        case rel => exact ⟨k + 1, _, by omega, by go_num, rfl⟩
        case measure => simp [intOf]; omega
      · go_wp2
        go_ret
        exact ⟨_, rfl, rfl, cur_new Hv.out _, Below.pureAlloc _ _, by simp⟩
    · go_wp2
      go_ret
      exact ⟨_, rfl, rfl, cur_new Hv.out _, Below.pureAlloc _ _, by simp⟩
theorem l18New_c (v : Value) (bs : List Int) (n : Nat) (w : World) (hv : Bytes w v bs) (hn : n ≤ 1048576) : Calls Tryz.prog 22 #[v, .int .i64 n] w fun e w' => ∃ g, e = .returned (.pointer (some ⟨g, 0, none⟩)) ∧ g = w.heap.size ∧ Cur w.heap.size w' g ∧ Below w.heap.size w w' ∧ w'.heap.size = w.heap.size + 1 := by
  go_enter Tryz.func22, Tryz.ntmps22
  go_wp2_with (fail)
  refine (l01New_c v bs _ hv).mono ?_
  rintro e w1 ⟨g, rfl, rfl, hcur, hbel, hsz⟩
  have Hsz := Lib.hid hsz; clear hsz
  go_wp2_with (fail)
  go_loopw [6] (fun i wr => ∃ k : Nat, k ≤ n ∧ i = .int .i64 k ∧ Cur w.heap.size wr w.heap.size ∧ Below w.heap.size w wr ∧ wr.heap.size = w.heap.size + 1) (fun i _ => n - (intOf i).toNat)
  case atStart => exact ⟨0, Nat.zero_le _, rfl, hcur, hbel, Hsz.out⟩
  case round =>
    clear hcur hbel Hsz
    obtain ⟨k, hk, rfl, hcur, hbel, hsz⟩ := hrel
    have Hsz := Lib.hid hsz; clear hsz
    by_cases hlt : k < n
    · go_wp2_with (fail)
      refine (l01Byte_c _ _ _ hcur).mono ?_
      rintro e w2 ⟨m, -, rfl, hcur2, ho, hz⟩
      have Hz := Lib.hid hz; clear hz
      have hbel2 := hbel.trans (ho.below (by have := Hsz.out; omega) (fun b hb => by omega))
      go_wp2
      go_roundw
      case rel => exact ⟨k + 1, by omega, by go_num, hcur2, hbel2, by rw [← Hz.out, Hsz.out]⟩
      case measure => simp [intOf]; omega
    · go_wp2
      go_ret
      exact ⟨_, rfl, rfl, hcur, hbel, Hsz.out⟩
theorem MakeNum_c (v : Value) (bs : List Int) (n : Nat) (w : World) (hv : Bytes w v bs) (hn : n ≤ 1048576) : Calls Tryz.prog 7 #[v, .int .i64 n] w fun e w' => ∃ r : Int, (0 ≤ r ∧ r ≤ 65535) ∧ e = .returned (.int .i64 r) ∧ Below w.heap.size w w' := by
  go_enter Tryz.func7, Tryz.ntmps7
  go_wp2_with (fail)
  refine (l18New_c v bs n _ hv hn).mono ?_
  rintro e w1 ⟨g, rfl, rfl, hcur, hbel, hsz⟩
  have Hsz := Lib.hid hsz; clear hsz
  go_wp2_with (fail)
  refine (l01Byte_c _ _ _ hcur).mono ?_
  rintro e w2 ⟨m, ⟨hm0, hm1⟩, rfl, hcur2, ho, hz⟩
  have Hz := Lib.hid hz; clear hz
  have hbel2 := hbel.trans (ho.below (by have := Hsz.out; omega) (fun b hb => by omega))
  go_wp2_with (fail)
  refine (l01Byte_c _ _ _ hcur2).mono ?_
  rintro e w3 ⟨m2, ⟨hm20, hm21⟩, rfl, hcur3, ho2, hz2⟩
  have Hz2 := Lib.hid hz2; clear hz2
  have hbel3 := hbel2.trans (ho2.below (by rw [← Hz.out]; have := Hsz.out; omega) (fun b hb => by omega))
  go_wp2
  go_ret
  exact ⟨_, ⟨by omega, by omega⟩, rfl, hbel3⟩
def zeros (r c : Nat) : List (List Int) := List.replicate r (List.replicate c 0)
theorem own_grid_cell {E E' : TypeId} {S : Bk} {w : World} {g n cap : Nat} {m : List (List Int)} (h : Own E (Own E' IntV) S w (.slice (some ⟨g, 0, none⟩) n cap) m) {y : Nat} {row : List Int} (hy : m[y]? = some row) (hne : 0 < row.length) :
    ∃ q cq, w.cell? ⟨g, y, none⟩ = some (.slice (some ⟨q, 0, none⟩) row.length cq) ∧ S g ∧ S q ∧ q ≠ g ∧ row.length ≤ cq ∧ (∀ x, x < row.length → (∃ o, w.cell? ⟨q, x, none⟩ = some (.int .i64 o)) ∧ w.frozen? ⟨q, x, none⟩ = false) ∧
      (∀ x o, row[x]? = some o → w.cell? ⟨q, x, none⟩ = some (.int .i64 o)) ∧
      ∀ (w' : World), SameOn S w w' → ∀ (x : Nat) (n' : Int), x < row.length → I64 n' → Own E (Own E' IntV) S (w'.setCell ⟨q, x, none⟩ (.int .i64 n')) (.slice (some ⟨g, 0, none⟩) n cap) (m.set y (row.set x n')) := by
  obtain ⟨hSg, -, -, -, T, u, hu, hr, hT, -, hback⟩ := h.focus (rOwn rIntV) hy
  obtain ⟨q, cq, rfl, hq, hcq, hqs, -⟩ := hr.inv_ne hne
  refine ⟨q, cq, hu, hSg, (hT q hq).1, (hT q hq).2, hcq, fun x hx => ?_, fun x o ho => (hr.ints_cell ho).1, fun w' hs x n' hx hn' => ?_⟩
  · obtain ⟨o, h1, h2⟩ := hr.ints_at hx
    exact ⟨⟨o, h1⟩, h2⟩
  · exact hback _ _ (fun b hb hnb => (Below.heap_setCell w' _ _ b (fun e => by subst e; exact hnb hq)).trans (hs b hb)) (((rOwn rIntV).same (fun b hb => hs b (hT b hb).1) hr).setInt hx hn')
def bulk (g : List (List Int)) : Nat := g.length + cells g
theorem headD_of {α : Type} {l : List (List α)} {h : List α} (hh : l[0]? = some h) : l.headD [] = h := by
  cases l with
  | nil => simp at hh
  | cons a l => simpa using hh
theorem gridOk_c (v : Value) (g : List (List Int)) (lo hi : Int) (w : World) (hv : Grid w v g) : Calls Tryz.prog 154 #[v, .int .i64 lo, .int .i64 hi] w fun e w' => e = .returned (.bool (gridOkB lo hi g)) ∧ w = w' := by
  obtain ⟨a, cap, rfl, hcap, hle, -, hc⟩ := hv
  cases hin : inR 1 5 g.length
  · have Hr := Lib.hid (show gridOkB lo hi g = false from by simp [gridOkB, hin])
    go_enter Tryz.func154, Tryz.ntmps154
    go_wp2_with (first | (go_at_call 95; refine (within_c _ _ _ _).mono ?_; rintro e w' ⟨rfl, rfl⟩))
    go_ret
    exact ⟨retB Hr.out.symm, rfl⟩
  have hb := inR_iff.1 hin
  obtain ⟨b, off, rfl, -, hc'⟩ := hc (by omega)
  obtain ⟨hd, hhd⟩ : ∃ hd, g[0]? = some hd := ⟨_, List.getElem?_eq_getElem (by omega)⟩
  obtain ⟨u0, hck0, hu0⟩ := hc' 0 hd hhd
  obtain ⟨a0, cap0, rfl, -⟩ := hu0
  rw [Nat.add_zero] at hck0
  have Hhd := Lib.hid (headD_of hhd)
  have Hin := Lib.hid hin
  clear hhd hb
  go_enter Tryz.func154, Tryz.ntmps154
  go_wp2_with (first | (go_at_call 95; refine (within_c _ _ _ _).mono ?_; rintro e w' ⟨rfl, rfl⟩))
  clear hin
  go_loop [8, 15] (fun _ i => ∃ k : Nat, k ≤ g.length ∧ i = .int .i64 k ∧ (g.take k).all (rowOk lo hi hd.length) = true) (fun _ i => g.length - (intOf i).toNat)
  case atStart => exact ⟨0, Nat.zero_le _, rfl, rfl⟩
  case round =>
    obtain ⟨k, hk, rfl, hall⟩ := hrel
    have Hall := Lib.hid hall; clear hall
    by_cases hlt : k < g.length
    · obtain ⟨r, hr⟩ : ∃ r, g[k]? = some r := ⟨_, List.getElem?_eq_getElem hlt⟩
      obtain ⟨u, hck, hu⟩ := hc' k r hr
      have hu : Ints w u r := hu
      obtain ⟨ar, capr, rfl, -⟩ := id hu
      have Hs := Lib.hid (all_take_step (rowOk lo hi hd.length) hr)
      have Hr := Lib.hid hr
      clear hr hc' hc
      by_cases hl : r.length = hd.length
      · have hl1 : r.length ≤ hd.length := by omega
        have hl2 : hd.length ≤ r.length := by omega
        have Hl := Lib.hid hl
        rw [hl] at hck hu
        clear hl
        cases hin : inR 1 5 hd.length
        · have Hf := Lib.hid (show rowOk lo hi hd.length r = false from by unfold rowOk; rw [Hl.out, hin]; simp)
          have Hg := Lib.hid (show gridOkB lo hi g = false from by unfold gridOkB; rw [Hhd.out, all_of_take _ Hr.out Hf.out]; simp)
          go_wp2_with (first | (go_at_call 95; refine (within_c _ _ _ _).mono ?_; rintro e w' ⟨rfl, rfl⟩))
          go_ret
          exact ⟨retB Hg.out.symm, rfl⟩
        · cases hal : r.all (inR lo hi)
          · have Hf := Lib.hid (show rowOk lo hi hd.length r = false from by unfold rowOk; rw [hal]; simp)
            have Hg := Lib.hid (show gridOkB lo hi g = false from by unfold gridOkB; rw [Hhd.out, all_of_take _ Hr.out Hf.out]; simp)
            go_wp2_with (first | (go_at_call 95; refine (within_c _ _ _ _).mono ?_; rintro e w' ⟨rfl, rfl⟩) | (go_at_call 157; refine (allWithin_c _ _ _ _ _ hu).mono ?_; rintro e w' ⟨rfl, rfl⟩))
            go_ret
            exact ⟨retB Hg.out.symm, rfl⟩
          · have Hf := Lib.hid (show rowOk lo hi hd.length r = true from by unfold rowOk; rw [hal, Hl.out, hin]; simp)
            go_wp2_with (first | (go_at_call 95; refine (within_c _ _ _ _).mono ?_; rintro e w' ⟨rfl, rfl⟩) | (go_at_call 157; refine (allWithin_c _ _ _ _ _ hu).mono ?_; rintro e w' ⟨rfl, rfl⟩))
            go_round
            case rel => exact ⟨k + 1, by omega, by go_num, by rw [Hs.out, Hall.out, Hf.out]; rfl⟩
            case measure => simp [intOf]; omega
      · have Hf := Lib.hid (show rowOk lo hi hd.length r = false from by unfold rowOk; simp [hl])
        have Hg := Lib.hid (show gridOkB lo hi g = false from by unfold gridOkB; rw [Hhd.out, all_of_take _ Hr.out Hf.out]; simp)
        have hne : ((r.length : Int) == (hd.length : Int)) = false := by rw [beq_eq_false_iff_ne]; omega
        go_wp2_with (first | (go_at_call 95; refine (within_c _ _ _ _).mono ?_; rintro e w' ⟨rfl, rfl⟩) | (go_at_call 157; refine (allWithin_c _ _ _ _ _ hu).mono ?_; rintro e w' ⟨rfl, rfl⟩))
        all_goals try (exfalso; omega)
        go_ret
        exact ⟨retB Hg.out.symm, rfl⟩
    · have Hg := Lib.hid (show gridOkB lo hi g = true from by unfold gridOkB; rw [Hhd.out, Hin.out, all_done Hall.out (by omega)]; rfl)
      go_wp2
      go_ret
      exact ⟨retB Hg.out.symm, rfl⟩
theorem ImageOk_i (v : Value) (g : List (List Int)) (w : World) (hv : Grid w v g) : Calls Tryz.prog 84 #[v] w fun e w' => e = .returned (.bool (imageOk g)) ∧ w = w' := by
  go_enter Tryz.func84, Tryz.ntmps84
  go_wp2_with (fail)
  refine (gridOk_c _ _ _ _ _ hv).mono ?_
  rintro e w' ⟨rfl, rfl⟩
  go_wp2
  go_ret
  exact ⟨rfl, rfl⟩
theorem ImageOk_s (v : Value) (g : List (List Int)) (w : World) (hv : Grid w v g) : Calls Tryz.prog 138 #[v] w fun e w' => e = .returned (.bool (imageOk g)) ∧ w = w' := by
  obtain ⟨a, cap, rfl, hcap, hle, -, hc⟩ := hv
  cases hin : inR 1 5 g.length
  · have Hr := Lib.hid (show imageOk g = false from by simp [imageOk, gridOkB, hin])
    go_enter Tryz.func138, Tryz.ntmps138
    go_wp2_with (first | (go_at_call 201; refine (l01In_c _ _ _ _).mono ?_; rintro e w' ⟨rfl, rfl⟩))
    go_ret
    exact ⟨retB Hr.out.symm, rfl⟩
  have hb := inR_iff.1 hin
  obtain ⟨b, off, rfl, -, hc'⟩ := hc (by omega)
  obtain ⟨hd, hhd⟩ : ∃ hd, g[0]? = some hd := ⟨_, List.getElem?_eq_getElem (by omega)⟩
  obtain ⟨u0, hck0, hu0⟩ := hc' 0 hd hhd
  obtain ⟨a0, cap0, rfl, -⟩ := hu0
  rw [Nat.add_zero] at hck0
  have Hhd := Lib.hid (headD_of hhd)
  have Hhd0 := Lib.hid hhd
  have hpos : 0 < g.length := by omega
  clear hhd hb
  cases hinh : inR 1 5 hd.length
  · have Hf := Lib.hid (show rowOk 0 1 hd.length hd = false from by unfold rowOk; rw [hinh]; simp)
    have Hg := Lib.hid (show imageOk g = false from by unfold imageOk gridOkB; rw [Hhd.out, all_of_take _ Hhd0.out Hf.out]; simp)
    go_enter Tryz.func138, Tryz.ntmps138
    go_wp2_with (first | (go_at_call 201; refine (l01In_c _ _ _ _).mono ?_; rintro e w' ⟨rfl, rfl⟩))
    go_ret
    exact ⟨retB Hg.out.symm, rfl⟩
  have Hin := Lib.hid hin
  have Hinh := Lib.hid hinh
  go_enter Tryz.func138, Tryz.ntmps138
  go_wp2_with (first | (go_at_call 201; refine (l01In_c _ _ _ _).mono ?_; rintro e w' ⟨rfl, rfl⟩))
  clear hin hinh
  go_loop [4, 6, 21] (fun _ _ i => ∃ k : Nat, k ≤ g.length ∧ i = .int .i64 k ∧ (g.take k).all (rowOk 0 1 hd.length) = true) (fun _ _ i => g.length - (intOf i).toNat)
  case atStart => exact ⟨0, Nat.zero_le _, rfl, rfl⟩
  case round =>
    obtain ⟨k, hk, rfl, hall⟩ := hrel
    have Hall := Lib.hid hall; clear hall
    by_cases hlt : k < g.length
    · obtain ⟨r, hr⟩ : ∃ r, g[k]? = some r := ⟨_, List.getElem?_eq_getElem hlt⟩
      obtain ⟨u, hck, hu⟩ := hc' k r hr
      obtain ⟨ar, capr, rfl, hcapr, hler, -, hcr⟩ := hu
      have Hs := Lib.hid (all_take_step (rowOk 0 1 hd.length) hr)
      have Hr := Lib.hid hr
      clear hr hc' hc
      by_cases hl : r.length = hd.length
      · have hl1 : r.length ≤ hd.length := by omega
        have hl2 : hd.length ≤ r.length := by omega
        have Hl := Lib.hid hl
        clear hl
        have hdk : decide ((k : Int) < (g.length : Int)) = true := by simp; omega
        go_wp2
        go_loop [6, 34] (fun _ i => ∃ j : Nat, j ≤ r.length ∧ i = .int .i64 j ∧ (r.take j).all (inR 0 1) = true) (fun _ i => r.length - (intOf i).toNat)
        case atStart => exact ⟨0, Nat.zero_le _, rfl, rfl⟩
        case round =>
          obtain ⟨j, hj, rfl, hall2⟩ := hrel
          have Hall2 := Lib.hid hall2; clear hall2
          by_cases hltj : j < r.length
          · obtain ⟨br, offr, rfl, -, hcc⟩ := hcr (by omega)
            obtain ⟨x, hx⟩ : ∃ x, r[j]? = some x := ⟨_, List.getElem?_eq_getElem hltj⟩
            obtain ⟨ux, hcx, rfl, -⟩ := hcc j x hx
            have Hs2 := Lib.hid (all_take_step (inR 0 1) hx)
            have Hx := Lib.hid hx
            clear hx hcc hcr
            by_cases h0 : x = 0
            · subst h0
              go_wp2
              go_round
              case rel => exact ⟨j + 1, by omega, by go_num, by rw [Hs2.out, Hall2.out]; rfl⟩
              case measure => simp [intOf]; omega
            · by_cases h1 : x = 1
              · subst h1
                go_wp2
                go_round
                case rel => exact ⟨j + 1, by omega, by go_num, by rw [Hs2.out, Hall2.out]; rfl⟩
                case measure => simp [intOf]; omega
              · have hxf : inR 0 1 x = false := by simp [inR]; omega
                have Hf := Lib.hid (show rowOk 0 1 hd.length r = false from by unfold rowOk; rw [all_of_take _ Hx.out hxf]; simp)
                have Hg := Lib.hid (show imageOk g = false from by unfold imageOk gridOkB; rw [Hhd.out, all_of_take _ Hr.out Hf.out]; simp)
                have hn0 : (x == 0) = false := by simpa using h0
                have hn1 : (x == 1) = false := by simpa using h1
                go_wp2
                go_ret
                exact ⟨retB Hg.out.symm, rfl⟩
          · have Hf := Lib.hid (show rowOk 0 1 hd.length r = true from by unfold rowOk; rw [all_done Hall2.out (by omega), Hl.out, Hinh.out]; simp)
            go_wp2
            go_round
            case rel => exact ⟨k + 1, by omega, by go_num, by rw [Hs.out, Hall.out, Hf.out]; rfl⟩
            case measure => simp [intOf]; omega
      · have Hf := Lib.hid (show rowOk 0 1 hd.length r = false from by unfold rowOk; simp [hl])
        have Hg := Lib.hid (show imageOk g = false from by unfold imageOk gridOkB; rw [Hhd.out, all_of_take _ Hr.out Hf.out]; simp)
        have hne : ((r.length : Int) == (hd.length : Int)) = false := by rw [beq_eq_false_iff_ne]; omega
        go_wp2
        all_goals try (exfalso; omega)
        go_ret
        exact ⟨retB Hg.out.symm, rfl⟩
    · have Hg := Lib.hid (show imageOk g = true from by unfold imageOk gridOkB; rw [Hhd.out, Hin.out, all_done Hall.out (by omega)]; rfl)
      go_wp2
      go_ret
      exact ⟨retB Hg.out.symm, rfl⟩
def trTo (m : List (List Int)) (r c y x : Nat) : List (List Int) := (List.range c).map fun j => (List.range r).map fun i => if i < y ∨ (i = y ∧ j < x) then (m.getD i []).getD j 0 else 0
def tr (m : List (List Int)) : List (List Int) := (List.range (m.headD []).length).map fun j => (List.range m.length).map fun i => (m.getD i []).getD j 0
def trOf (m : List (List Int)) : List (List Int) := if imageOk m then tr m else []
def rowSumsOf (m : List (List Int)) : List Int := if imageOk m then m.map sumL else []
def colSumsOf (m : List (List Int)) : List Int := rowSumsOf (trOf m)
theorem trTo_zero (m : List (List Int)) (r c : Nat) : trTo m r c 0 0 = zeros c r := by
  simp [trTo, zeros, List.map_const']
theorem trTo_next (m : List (List Int)) (r c y : Nat) : trTo m r c y c = trTo m r c (y + 1) 0 := by
  unfold trTo
  apply List.map_congr_left
  intro j hj
  apply List.map_congr_left
  intro i _
  rw [List.mem_range] at hj
  have : (i < y ∨ i = y ∧ j < c) ↔ (i < y + 1 ∨ i = y + 1 ∧ j < 0) := by omega
  simp only [this]
theorem trTo_all (m : List (List Int)) (r c : Nat) (hr : m.length = r) (hc : (m.headD []).length = c) : trTo m r c r 0 = tr m := by
  unfold trTo tr
  rw [hr, hc]
  apply List.map_congr_left
  intro j _
  apply List.map_congr_left
  intro i hi
  rw [List.mem_range] at hi
  rw [if_pos (.inl hi)]
theorem trTo_row {m : List (List Int)} {r c y x : Nat} (hx : x < c) : (trTo m r c y x)[x]? = some ((List.range r).map fun i => if i < y ∨ (i = y ∧ x < x) then (m.getD i []).getD x 0 else 0) := by
  simp [trTo, hx]
theorem trTo_set {m : List (List Int)} {r c y x : Nat} {row : List Int} {z : Int} {q : List Int} (hx : x < c) (hy : y < r) (hrow : m[y]? = some row) (hz : row[x]? = some z) (hq : (trTo m r c y x)[x]? = some q) : (trTo m r c y x).set x (q.set y z) = trTo m r c y (x + 1) := by
  rw [trTo_row hx] at hq
  obtain rfl := Option.some.inj hq
  apply List.ext_getElem?
  intro j
  rw [List.getElem?_set]
  by_cases hj : x = j
  · subst hj
    simp only [if_true]
    have hl : x < (trTo m r c y x).length := by simp [trTo, hx]
    rw [if_pos hl]
    simp only [trTo, List.getElem?_map, List.getElem?_range hx, Option.map_some]
    congr 1
    apply List.ext_getElem?
    intro i
    rw [List.getElem?_set]
    by_cases hi : y = i
    · subst hi
      simp [hy, hrow, hz, List.getD]
    · rw [if_neg hi]
      by_cases hir : i < r
      · simp only [List.getElem?_map, List.getElem?_range hir, Option.map_some]
        have : (i < y ∨ i = y ∧ x < x) ↔ (i < y ∨ i = y ∧ x < x + 1) := by omega
        simp only [this]
      · rw [List.getElem?_eq_none (by simpa using hir), List.getElem?_eq_none (by simpa using hir)]
  · rw [if_neg hj]
    by_cases hjc : j < c
    · simp only [trTo, List.getElem?_map, List.getElem?_range hjc, Option.map_some]
      congr 1
      apply List.map_congr_left
      intro i _
      have : (i < y ∨ i = y ∧ j < x) ↔ (i < y ∨ i = y ∧ j < x + 1) := by omega
      simp only [this]
    · rw [List.getElem?_eq_none (by simpa [trTo] using hjc), List.getElem?_eq_none (by simpa [trTo] using hjc)]
theorem Shape.head {r c : Nat} {m : List (List Int)} (h : Shape r c m) (h1 : 1 ≤ r) : (m.headD []).length = c := by
  obtain ⟨row, hr, hl, -⟩ := h.row (y := 0) (by omega)
  rw [headD_of hr, hl]
theorem Shape.tr {r c : Nat} {m : List (List Int)} (h : Shape r c m) (h1 : 1 ≤ r) : Shape c r (tr m) := by
  refine ⟨by simp only [Go.Proofs.YthmocomfjgmjoaaGreatDoor.tr, h.head h1, List.length_map, List.length_range], fun row hrow => ?_⟩
  simp only [Go.Proofs.YthmocomfjgmjoaaGreatDoor.tr, List.mem_map, List.mem_range] at hrow
  obtain ⟨j, _, rfl⟩ := hrow
  refine ⟨by simp [h.1], fun z hz => ?_⟩
  simp only [List.mem_map, List.mem_range] at hz
  obtain ⟨i, hi, rfl⟩ := hz
  obtain ⟨row, hrow, -, hb⟩ := h.row (y := i) (by rw [← h.1]; exact hi)
  simp only [List.getD, hrow, Option.getD_some]
  cases hzz : row[j]? with
  | none => simp
  | some z => simpa using hb z (List.mem_of_getElem? hzz)
theorem imageOk_tr {m : List (List Int)} (h : imageOk m = true) : imageOk (tr m) = true := by
  obtain ⟨r, c, h1, h2, h3, h4, hs⟩ := imageOk_shape h
  exact (hs.tr h1).ok h3 h4 h1 h2
theorem tr_at {m : List (List Int)} {r c : Nat} (h : Shape r c m) (h1 : 1 ≤ r) {j : Nat} (hj : j < c) : (tr m)[j]? = some ((List.range r).map fun i => (m.getD i []).getD j 0) := by
  simp only [tr, h.head h1, h.1]
  simp [hj]
theorem Shape.ext {r c : Nat} {a b : List (List Int)} (ha : Shape r c a) (hb : Shape r c b) (h : ∀ y x, y < r → x < c → (a.getD y []).getD x 0 = (b.getD y []).getD x 0) : a = b := by
  apply List.ext_getElem?
  intro y
  by_cases hy : y < r
  · obtain ⟨p, hp, hpl, -⟩ := ha.row hy
    obtain ⟨q, hq, hql, -⟩ := hb.row hy
    rw [hp, hq]
    congr 1
    apply List.ext_getElem?
    intro x
    by_cases hx : x < c
    · have := h y x hy hx
      simp only [List.getD, hp, hq, Option.getD_some] at this
      rw [List.getElem?_eq_getElem (by omega), List.getElem?_eq_getElem (by omega)] at this ⊢
      simpa using this
    · rw [List.getElem?_eq_none (by omega), List.getElem?_eq_none (by omega)]
  · rw [List.getElem?_eq_none (by rw [ha.1]; omega), List.getElem?_eq_none (by rw [hb.1]; omega)]
theorem rowSumsOf_len (m : List (List Int)) : (rowSumsOf m).length ≤ 5 := by
  unfold rowSumsOf
  split
  · rename_i h
    obtain ⟨r, c, -, h2, -, -, hs⟩ := imageOk_shape h
    simp [hs.1, h2]
  · simp
theorem Shape.small {r c : Nat} {m : List (List Int)} (h : Shape r c m) (hc : c ≤ 5) {row : List Int} (hr : row ∈ m) : Small row := by
  obtain ⟨e, hb⟩ := h.2 row hr
  exact ⟨by omega, fun x hx => by have := hb x hx; omega⟩
theorem Shape.sum_bd {r c : Nat} {m : List (List Int)} (h : Shape r c m) {row : List Int} (hr : row ∈ m) : ∀ k, k ≤ row.length → 0 ≤ sumL (row.take k) ∧ sumL (row.take k) ≤ k := by
  obtain ⟨e, hb⟩ := h.2 row hr
  intro k
  induction k with
  | zero => intro _; simp [sumL]
  | succ k ih =>
    intro hk
    have h1 := ih (by omega)
    rw [sumL_take (List.getElem?_eq_getElem (show k < row.length by omega))]
    have := hb _ (List.getElem_mem (show k < row.length by omega))
    omega
theorem Shape.sum_bd' {r c : Nat} {m : List (List Int)} (h : Shape r c m) {row : List Int} (hr : row ∈ m) : 0 ≤ sumL row ∧ sumL row ≤ row.length := by
  have := h.sum_bd hr row.length (Nat.le_refl _)
  rwa [sumL_done (Nat.le_refl _)] at this
theorem newGrid_c (r c : Nat) (w : World) (hr : r ≤ 1048576) (hc : c ≤ 1048576) : Calls Tryz.prog 105 #[.int .i64 r, .int .i64 c] w (New 32 (Own 3 IntV) w (zeros r c)) := by
  go_enter Tryz.func105, Tryz.ntmps105
  go_wp2
  go_loopw [5, 6] (fun v i wr => ∃ k : Nat, k ≤ r ∧ i = .int .i64 k ∧ Own 32 (Own 3 IntV) (Iv w.heap.size wr.heap.size) wr v (zeros k c) ∧ Below w.heap.size w wr) (fun _ i _ => r - (intOf i).toNat)
  case atStart => exact ⟨0, Nat.zero_le _, rfl, Own.nil _ _ _ _, Below.refl _ _⟩
  case round =>
    obtain ⟨k, hk, rfl, hown, hbel⟩ := hrel
    have hBs := hbel.size
    have Hown := Lib.hid hown; clear hown
    by_cases hlt : k < r
    · have hkl : (zeros k c).length < 1099511627776 := by simp [zeros]; omega
      go_wp2_with (first | (at_make; refine wpList_mk _ rfl _ _ 32 rfl 3 Tryz.underlying32 infoInt rfl (by decide) (R := IntV) 0 ⟨rfl, I64.small (by decide) (by decide)⟩ rIntV c rfl rfl (by omega) ?_; intro w1 hown1 hbel1 hsz1; have Hsz1 := Lib.hid hsz1; clear hsz1) | (at_builtin; (refine wpList_appR rfl _ _ 31 rfl (rOwn rIntV) 32 Tryz.underlying31 infoInts rfl (by decide) w.heap.size wr.heap.size hBs hbel1.size rfl rfl (by exact Own.keep (rOwn rIntV) Hown.out hbel1 (Nat.le_refl _)) (by exact hown1.point rIntV (Nat.le_refl _) (by rw [Hsz1.out]; omega)) hkl ?_); intro v2 w2 hown2 hbel2 _) | fail)
      have hb2 := (hbel.trans (hbel1.mono hBs)).trans hbel2
      have Hown2 := Lib.hid hown2; clear hown2
      go_wp2
      go_roundw
      case rel => exact ⟨k + 1, by omega, by go_num, by simpa [zeros, List.replicate_succ'] using Hown2.out, hb2⟩
      case measure => simp [intOf]; omega
    · go_wp2
      go_ret
      obtain rfl : k = r := by omega
      exact ⟨_, rfl, Hown.out, hbel⟩
theorem TransposeOf_i (v : Value) (m : List (List Int)) (w : World) (hv : Grid w v m) : Calls Tryz.prog 88 #[v] w (New 32 (Own 3 IntV) w (trOf m)) := by
  have Hv := Lib.hid hv
  obtain ⟨a, cap0, rfl, hcap, hle, -, hc⟩ := hv
  cases hok : imageOk m
  · have Hr := Lib.hid (show trOf m = [] from by simp [trOf, hok])
    have Hok := Lib.hid hok; clear hok
    go_enter Tryz.func88, Tryz.ntmps88
    go_wp2_with (fail)
    refine (ImageOk_i _ _ _ Hv.out).mono ?_
    rintro e w' ⟨rfl, rfl⟩
    rw [Hok.out]
    go_wp2
    go_ret
    exact ⟨_, rfl, by rw [Hr.out]; exact Own.nil _ _ _ _, Below.refl _ _⟩
  have Hr := Lib.hid (show trOf m = tr m from by simp [trOf, hok])
  obtain ⟨r, c, hr1, hr5, hc1, hc5, hsh⟩ := imageOk_shape hok
  have hml : m.length = r := hsh.1
  have Hml := Lib.hid hml
  have Hhead := Lib.hid (hsh.head hr1)
  obtain ⟨row0, hrow0, hrl0, -⟩ := hsh.row (y := 0) (by omega)
  obtain ⟨b, off, rfl, hb, hc'⟩ := hc (by omega)
  obtain ⟨u0, hck0, hu0⟩ := hc' 0 row0 hrow0
  obtain ⟨a0, cp0, rfl, -⟩ := hu0
  rw [hrl0, Nat.add_zero] at hck0
  rw [hml] at hcap hle ⊢
  have Hok := Lib.hid hok
  have Hv := Hv
  rw [hml] at Hv
  clear hc hc' hrow0 hrl0 hml hok
  go_enter Tryz.func88, Tryz.ntmps88
  go_wp2_with (fail)
  refine (ImageOk_i _ _ _ Hv.out).mono ?_
  rintro e w' ⟨rfl, rfl⟩
  rw [Hok.out]
  go_wp2_with (fail)
  refine (newGrid_c c r _ (by omega) (by omega)).mono ?_
  rintro e w1 ⟨v1, rfl, hown, hbel⟩
  have hs1 := hbel.size
  obtain ⟨G, cap, rfl, hG, hcapG, hGs, -⟩ := hown.inv_ne (by simp [zeros]; omega)
  have hzl : (zeros c r).length = c := by simp [zeros]
  rw [hzl] at hcapG hown ⊢
  rw [← trTo_zero m r c] at hown
  have Hown := Lib.hid hown
  clear hown hzl
  go_wp2
  go_loopw [4, 5, 6, 7, 20] (fun _ _ _ _ i wr => ∃ k : Nat, k ≤ r ∧ i = .int .i64 k ∧ Own 32 (Own 3 IntV) (Iv w.heap.size w1.heap.size) wr (.slice (some ⟨G, 0, none⟩) c cap) (trTo m r c k 0) ∧ Below w.heap.size w wr ∧ w1.heap.size ≤ wr.heap.size) (fun _ _ _ _ i _ => r - (intOf i).toNat)
  case atStart => exact ⟨0, Nat.zero_le _, rfl, Hown.out, hbel, Nat.le_refl _⟩
  case round =>
    clear Hown hbel
    obtain ⟨k, hk, rfl, hown, hbel, hsz⟩ := hrel
    by_cases hlt : k < r
    · obtain ⟨row, hrow, hrl, hrb⟩ := hsh.row hlt
      obtain ⟨u, hck, hu⟩ := Sl.at Hv.out hrow
      have hu : Ints w u row := hu
      obtain ⟨br, offr, cpr, rfl, hbr, hat⟩ := hu.inv_ne (by omega)
      rw [← hbel.cell (p := ⟨b, off + k, none⟩) hb] at hck
      rw [hrl] at hck hu
      have Hown := Lib.hid hown
      have Hrow := Lib.hid hrow
      have Hrl := Lib.hid hrl
      have Hu := Lib.hid hu
      clear hown hrow hrl hu
      have hdec : decide ((k : Int) < (r : Int)) = true := by simp; omega
      go_wp2
      obtain ⟨wo, hwo⟩ : ∃ wo : World, wo = wr := ⟨_, rfl⟩
      clear hck
      go_loopw [6, 7, 27] (fun _ _ i wr => ∃ j : Nat, j ≤ c ∧ i = .int .i64 j ∧ Own 32 (Own 3 IntV) (Iv w.heap.size w1.heap.size) wr (.slice (some ⟨G, 0, none⟩) c cap) (trTo m r c k j) ∧ Below w.heap.size w wr ∧ w1.heap.size ≤ wr.heap.size) (fun _ _ i _ => c - (intOf i).toNat)
      case atStart => exact ⟨0, Nat.zero_le _, rfl, Hown.out, hbel, hsz⟩
      case round =>
        clear Hown hbel hsz hwo
        obtain ⟨j, hj, rfl, hown, hbel, hsz⟩ := hrel
        by_cases hltj : j < c
        · obtain ⟨z, hz⟩ : ∃ z, row[j]? = some z := ⟨_, List.getElem?_eq_getElem (by rw [Hrl.out]; exact hltj)⟩
          have hzb := hrb z (List.mem_of_getElem? hz)
          have hcz := Ints.at Hu.out hz
          rw [← hbel.cell (p := ⟨br, offr + j, none⟩) hbr] at hcz
          have hq := trTo_row (m := m) (r := r) (c := c) (y := k) hltj
          obtain ⟨q, cq, hcell, -, hSq, hqG, hcq, hx, -, hset⟩ := own_grid_cell hown hq (by simp; omega)
          have hql : ((List.range r).map fun i => if i < k ∨ (i = k ∧ j < j) then (m.getD i []).getD j 0 else 0).length = r := by simp
          rw [hql] at hcell hcq hx
          obtain ⟨⟨o, hco⟩, hfo⟩ := hx k hlt
          have hnew := hset wr (fun _ _ => rfl) k z (by rw [hql]; exact hlt) (I64.small (by omega) (by omega))
          rw [trTo_set hltj hlt Hrow.out hz hq] at hnew
          have Hnew := Lib.hid hnew
          have hqs := hSq.1
          clear hown hz hq hx hset hql hnew
          go_wp2
          go_roundw
          case rel => exact ⟨j + 1, by omega, by go_num, Hnew.out, hbel.setCell hqs _, by rw [size_setCell]; exact hsz⟩
          case measure => simp [intOf]; omega
        · obtain rfl : j = c := by omega
          rw [trTo_next] at hown
          have Hown := Lib.hid hown
          clear hown
          go_wp2
          go_roundw
          case rel => exact ⟨k + 1, by omega, by go_num, Hown.out, hbel, hsz⟩
          case measure => simp [intOf]; omega
    · have Hown := Lib.hid hown
      clear hown
      go_wp2
      go_ret
      obtain rfl : k = r := by omega
      refine ⟨_, rfl, ?_, hbel⟩
      rw [Hr.out, ← trTo_all m k c Hml.out Hhead.out]
      exact (rOwn (rOwn rIntV)).mono (fun b hb => ⟨hb.1, Nat.lt_of_lt_of_le hb.2 hsz⟩) Hown.out
theorem map_take_snoc {m : List (List Int)} {k : Nat} {row : List Int} (h : m[k]? = some row) : (m.take (k + 1)).map sumL = (m.take k).map sumL ++ [sumL row] := by
  rw [List.take_add_one, h]; simp
theorem rowSums_done {m : List (List Int)} {k : Nat} (h : imageOk m = true) (hk : m.length ≤ k) : (m.take k).map sumL = rowSumsOf m := by
  rw [List.take_of_length_le hk, rowSumsOf, if_pos h]
theorem RowSums_i (v : Value) (m : List (List Int)) (w : World) (hv : Grid w v m) : Calls Tryz.prog 33 #[v] w (New 3 IntV w (rowSumsOf m)) := by
  have Hv := Lib.hid hv
  obtain ⟨a, cap0, rfl, hcap, hle, -, hc⟩ := hv
  cases hok : imageOk m
  · have Hr := Lib.hid (show rowSumsOf m = [] from by simp [rowSumsOf, hok])
    have Hok := Lib.hid hok; clear hok
    go_enter Tryz.func33, Tryz.ntmps33
    go_wp2_with (fail)
    refine (ImageOk_i _ _ _ Hv.out).mono ?_
    rintro e w' ⟨rfl, rfl⟩
    rw [Hok.out]
    go_wp2
    go_ret
    exact ⟨_, rfl, by rw [Hr.out]; exact Own.nil _ _ _ _, Below.refl _ _⟩
  obtain ⟨r, c, hr1, hr5, hc1, hc5, hsh⟩ := imageOk_shape hok
  have hml : m.length ≤ 5 := by have := hsh.1; omega
  have hml1 : 1 ≤ m.length := by have := hsh.1; omega
  obtain ⟨b, off, rfl, hb, hc'⟩ := hc (by omega)
  have Hok := Lib.hid hok
  clear hc hc' hok
  go_enter Tryz.func33, Tryz.ntmps33
  go_wp2_with (fail)
  refine (ImageOk_i _ _ _ Hv.out).mono ?_
  rintro e w' ⟨rfl, rfl⟩
  rw [Hok.out]
  go_wp2
  go_loopw [3, 5, 11] (fun v _ i wr => ∃ k : Nat, k ≤ m.length ∧ i = .int .i64 k ∧ Own 3 IntV (Iv w.heap.size wr.heap.size) wr v ((m.take k).map sumL) ∧ Below w.heap.size w wr) (fun _ _ i _ => m.length - (intOf i).toNat)
  case atStart => exact ⟨0, Nat.zero_le _, rfl, Own.nil _ _ _ _, Below.refl _ _⟩
  case round =>
    obtain ⟨k, hk, rfl, hown, hbel⟩ := hrel
    have hBs := hbel.size
    by_cases hlt : k < m.length
    · obtain ⟨row, hrow⟩ : ∃ row, m[k]? = some row := ⟨_, List.getElem?_eq_getElem hlt⟩
      obtain ⟨u, hck, hu⟩ := Sl.at Hv.out hrow
      have hu : Ints w u row := hu
      obtain ⟨br, cpr, rfl, -⟩ := id hu
      rw [← hbel.cell (p := ⟨b, off + k, none⟩) hb] at hck
      have hsm := hsh.small hc5 (List.mem_of_getElem? hrow)
      have hbd := hsh.sum_bd' (List.mem_of_getElem? hrow)
      have hrl := (hsh.2 row (List.mem_of_getElem? hrow)).1
      have hs0 : 0 ≤ sumL row := hbd.1
      have hs1 : sumL row ≤ 5 := by omega
      have Hst := Lib.hid (map_take_snoc hrow)
      have Hu := Lib.hid (hu.keep hbel)
      have hkl : ((m.take k).map sumL).length < 1099511627776 := by simp; omega
      have Hown := Lib.hid hown
      clear hrow hu hown hrl hbd
      go_wp2_with (first | (go_at_call 87; refine (sumOf_c _ _ _ Hu.out hsm).mono ?_; rintro e w' ⟨rfl, rfl⟩) | (at_builtin; (refine wpList_appR rfl _ _ 32 rfl rIntV 3 Tryz.underlying32 infoInt rfl (by decide) w.heap.size wr.heap.size hBs (Nat.le_refl _) rfl rfl (by exact Hown.out) (by exact ⟨rfl, I64.small (by omega) (by omega)⟩) hkl ?_); intro v2 w2 hown2 hbel2 _) | fail)
      have Hown2 := Lib.hid hown2
      clear hown2
      go_wp2
      go_roundw
      case rel => exact ⟨k + 1, by omega, by go_num, by rw [Hst.out]; exact Hown2.out, hbel.trans hbel2⟩
      case measure => simp [intOf]; omega
    · have Hfin := Lib.hid (rowSums_done Hok.out (show m.length ≤ k by omega))
      have Hown := Lib.hid hown
      clear hown
      go_wp2
      go_ret
      exact ⟨_, rfl, by rw [← Hfin.out]; exact Hown.out, hbel⟩
theorem ColSums_i (v : Value) (m : List (List Int)) (w : World) (hv : Grid w v m) : Calls Tryz.prog 34 #[v] w (New 3 IntV w (colSumsOf m)) := by
  go_enter Tryz.func34, Tryz.ntmps34
  go_wp2_with (fail)
  refine (TransposeOf_i _ _ _ hv).mono ?_
  rintro e w1 ⟨v1, rfl, hown, hbel⟩
  have hs1 := hbel.size
  go_wp2_with (fail)
  refine (RowSums_i _ _ _ hown.grid).mono ?_
  rintro e w2 ⟨v2, rfl, hown2, hbel2⟩
  have Hown2 := Lib.hid hown2
  clear hown2
  go_wp2
  go_ret
  exact ⟨_, rfl, (rOwn rIntV).mono (fun b hb => ⟨Nat.le_trans hs1 hb.1, hb.2⟩) Hown2.out, hbel.trans_pure hbel2 (Nat.le_refl _)⟩
def fits (n : Int) (runs : List Int) : Bool := runs.all (inR 1 5) && decide (sumL runs + runs.length - 1 ≤ n)
def puzzleOk (rows cols : List (List Int)) : Bool := inR 1 5 rows.length && inR 1 5 cols.length && rows.all (fits cols.length) && cols.all (fits rows.length)
theorem sum_ge_len {xs : List Int} (h : xs.all (inR 1 5) = true) : ∀ k, k ≤ xs.length → (k : Int) ≤ sumL (xs.take k) ∧ sumL (xs.take k) ≤ 5 * k := by
  rw [List.all_eq_true] at h
  intro k
  induction k with
  | zero => intro _; simp [sumL]
  | succ k ih =>
    intro hk
    have h1 := ih (by omega)
    rw [sumL_take (List.getElem?_eq_getElem (show k < xs.length by omega))]
    have := inR_iff.1 (h _ (List.getElem_mem (show k < xs.length by omega)))
    omega
theorem small_of {xs : List Int} (h : xs.all (inR 1 5) = true) (hl : xs.length ≤ 1048576) : Small xs := ⟨hl, fun x hx => by rw [List.all_eq_true] at h; have := inR_iff.1 (h x hx); omega⟩
theorem runsFit_c (v : Value) (g : List (List Int)) (n : Nat) (w : World) (hv : Grid w v g) (hn5 : n ≤ 5) (hl : ∀ r ∈ g, r.length ≤ 1048576) : Calls Tryz.prog 246 #[v, .int .i64 n] w fun e w' => e = .returned (.bool (g.all (fits n))) ∧ w = w' := by
  have Hv := Lib.hid hv
  obtain ⟨a, cap, rfl, hcap, hle, -, -⟩ := hv
  go_enter Tryz.func246, Tryz.ntmps246
  go_wp2
  go_loop [6, 9] (fun _ i => ∃ k : Nat, k ≤ g.length ∧ i = .int .i64 k ∧ (g.take k).all (fits n) = true) (fun _ i => g.length - (intOf i).toNat)
  case atStart => exact ⟨0, Nat.zero_le _, rfl, rfl⟩
  case round =>
    obtain ⟨k, hk, rfl, hall⟩ := hrel
    have Hall := Lib.hid hall
    clear hall
    by_cases hlt : k < g.length
    · obtain ⟨r, hr⟩ : ∃ r, g[k]? = some r := ⟨_, List.getElem?_eq_getElem hlt⟩
      obtain ⟨b, off, cpr, he, hb, -⟩ := Hv.out.inv_ne (by omega)
      obtain ⟨rfl, -⟩ : a = some ⟨b, off, none⟩ ∧ cap = cpr := by simpa using he
      obtain ⟨u, hck, hu⟩ := Sl.at Hv.out hr
      have hu : Ints w u r := hu
      obtain ⟨ar, cpr, rfl, -⟩ := id hu
      have hrl := hl r (List.mem_of_getElem? hr)
      have Has := Lib.hid (all_take_step (fits n) hr)
      have Hr := Lib.hid hr
      have Hu := Lib.hid hu
      clear hr he hu hl
      cases hin : r.all (inR 1 5)
      · have Hin := Lib.hid hin; clear hin
        have Hf := Lib.hid (show g.all (fits n) = false from all_of_take _ Hr.out (by unfold fits; rw [Hin.out]; rfl))
        go_wp2_with (first | (go_at_call 157; refine (allWithin_c _ _ _ _ _ Hu.out).mono ?_; rintro e w' ⟨rfl, rfl⟩; rw [Hin.out]))
        go_ret
        exact ⟨retB Hf.out.symm, rfl⟩
      · have hsm := small_of hin hrl
        have hsb := sum_ge_len hin r.length (Nat.le_refl _)
        rw [List.take_length] at hsb
        have hs0 := hsb.1
        have hs1 := hsb.2
        have Hin := Lib.hid hin; clear hin hsb
        have Hsm := Lib.hid hsm; clear hsm
        by_cases hgt : (n : Int) < sumL r + r.length - 1
        · have Hf := Lib.hid (show g.all (fits n) = false from all_of_take _ Hr.out (by unfold fits; rw [Hin.out]; simp; omega))
          go_wp2_with (first | (go_at_call 157; refine (allWithin_c _ _ _ _ _ Hu.out).mono ?_; rintro e w' ⟨rfl, rfl⟩; rw [Hin.out]) | (go_at_call 87; refine (sumOf_c _ _ _ Hu.out Hsm.out).mono ?_; rintro e w' ⟨rfl, rfl⟩))
          go_ret
          exact ⟨retB Hf.out.symm, rfl⟩
        · have Hf := Lib.hid (show fits n r = true from by unfold fits; rw [Hin.out]; simp; omega)
          go_wp2_with (first | (go_at_call 157; refine (allWithin_c _ _ _ _ _ Hu.out).mono ?_; rintro e w' ⟨rfl, rfl⟩; rw [Hin.out]) | (go_at_call 87; refine (sumOf_c _ _ _ Hu.out Hsm.out).mono ?_; rintro e w' ⟨rfl, rfl⟩))
          go_round
          case rel => exact ⟨k + 1, by omega, by go_num, by rw [Has.out, Hall.out, Hf.out]; rfl⟩
          case measure => simp [intOf]; omega
    · have Hf := Lib.hid (show g.all (fits n) = true from all_done Hall.out (by omega))
      go_wp2
      go_ret
      exact ⟨retB Hf.out.symm, rfl⟩
end Go.Proofs.YthmocomfjgmjoaaGreatDoor

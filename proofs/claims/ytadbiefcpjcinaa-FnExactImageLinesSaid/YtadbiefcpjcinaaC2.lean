/- Contracts: marks, the functions on sums. -/
import Derived.Test.YtadbiefcpjcinaaC1
import Derived.BigGuardPart
namespace Go.Proofs.Ytadbiefcpjcinaa
open Go.RowKit

/-- k, k + 1, .. : n numbers -/
def marks (k : Int) (n : Nat) : List Int := (List.range n).map fun i : Nat => k + (i : Int)
theorem marks_len (k : Int) (n : Nat) : (marks k n).length = n := by simp [marks]
theorem marks_at {k : Int} {n j : Nat} (h : j < n) : (marks k n)[j]? = some (k + (j : Int)) := by simp [marks, h]
theorem marks_set {xs : List Int} {k : Int} {j : Nat} (h : j < xs.length) : (marks k j ++ xs.drop j).set j (k + (j : Int)) = marks k (j + 1) ++ xs.drop (j + 1) := by
  rw [List.set_append_right _ _ (by rw [marks_len]; exact Nat.le_refl _), marks_len, Nat.sub_self, List.drop_eq_getElem_cons h, List.set_cons_zero]
  simp [marks, List.range_succ]

theorem markIntS_c (v : Value) (xs : List Int) (k : Int) (S : Bk) (w : World) (hv : Own 3 IntV S w v xs) (hk0 : 0 ≤ k) (hk1 : k ≤ 1099511627776) (hlen : xs.length ≤ 1099511627776) :
    Calls Try.prog 23 #[v, .int .i64 k] w fun e w' => e = .returned (.int .i64 (k + xs.length)) ∧ Own 3 IntV S w' v (marks k xs.length) ∧ Only S w w' ∧ w.heap.size = w'.heap.size := by
  rcases hv.inv with ⟨rfl, rfl⟩ | ⟨g, cap, rfl, hg, hcap, hgs, -⟩
  · go_enter Try.func23, Try.ntmps23
    go_wp2
    refine wp_loop_rounds 1 ?_
    rw [rounds_succ]
    go_wp2
    go_ret
    exact ⟨retI (by simp), Own.nil _ _ _ _, Only.refl _ _, rfl⟩
  · go_enter Try.func23, Try.ntmps23
    go_wp2
    have Hv : Own 3 IntV S w (.slice (some ⟨g, 0, none⟩) xs.length cap) (marks k 0 ++ xs.drop 0) := hv
    clear hv
    go_loopw [1, 5] (fun n i wr => ∃ j : Nat, j ≤ xs.length ∧ i = .int .i64 j ∧ n = .int .i64 (k + j) ∧ Own 3 IntV S wr (.slice (some ⟨g, 0, none⟩) xs.length cap) (marks k j ++ xs.drop j) ∧ Only S w wr ∧ w.heap.size = wr.heap.size) (fun _ i _ => xs.length - (intOf i).toNat)
    case atStart => exact ⟨0, Nat.zero_le _, rfl, by simp, Hv, Only.refl _ _, rfl⟩
    case round =>
      clear Hv
      obtain ⟨j, hj, rfl, rfl, hown, honly, hsz⟩ := hrel
      have Hsz := Lib.hid hsz; clear hsz
      by_cases hlt : j < xs.length
      · have hl : (marks k j ++ xs.drop j).length = xs.length := by simp [marks_len]; omega
        have hset := hown.setInt (k := j) (c := k + (j : Int)) (by rw [hl]; exact hlt) (I64.small (by omega) (by omega))
        rw [marks_set hlt] at hset
        obtain ⟨y, hcd, hfd⟩ := hown.ints_at (k := j) (by rw [hl]; exact hlt)
        have Hset := Lib.hid hset
        clear hset hown hl
        go_wp2
        go_roundw
        case rel => exact ⟨j + 1, by omega, by go_num, by congr 1; omega, Hset.out, honly.setCell (.inl hg) _, by rw [Hsz.out]; simp [World.setCell]⟩
        case measure => simp [intOf]; omega
      · have Hown := Lib.hid hown; clear hown
        go_wp2
        go_ret
        obtain rfl : j = xs.length := by omega
        exact ⟨rfl, by have h := Hown.out; simpa using h, honly, Hsz.out⟩
theorem heldIntS_c (v : Value) (n : Nat) (k : Int) (w : World) (hv : Ints w v (marks k n)) (hk0 : 0 ≤ k) (hk1 : k ≤ 1099511627776) (hlen : n ≤ 1099511627776) :
    Calls Try.prog 24 #[v, .int .i64 k] w fun e w' => e = .returned (.int .i64 (k + n)) ∧ w = w' := by
  obtain ⟨a, cap, rfl, hcap, hle, -, hc⟩ := hv
  rw [marks_len] at hcap hle hc ⊢
  go_enter Try.func24, Try.ntmps24
  go_wp2
  go_loop [1, 5] (fun m i => ∃ j : Nat, j ≤ n ∧ i = .int .i64 j ∧ m = .int .i64 (k + j)) (fun _ i => n - (intOf i).toNat)
  case atStart => exact ⟨0, Nat.zero_le _, rfl, by simp⟩
  case round =>
    obtain ⟨j, hj, rfl, rfl⟩ := hrel
    by_cases hlt : j < n
    · obtain ⟨b, off, rfl, -, hc'⟩ := hc (by omega)
      obtain ⟨u, hck, rfl, -⟩ := hc' j _ (marks_at hlt)
      clear hc hc'
      go_wp2
      go_round
      case rel => exact ⟨j + 1, by omega, by go_num, by congr 1; omega⟩
      case measure => simp [intOf]; omega
    · go_wp2
      go_ret
      exact ⟨retI (by omega), rfl⟩

/-- SumsFit -/
def sumsFit (rows cols : List Int) : Bool := inR 1 4 rows.length && inR 1 4 cols.length && rows.all (inR 0 cols.length) && cols.all (inR 0 rows.length)
theorem SumsFit_i (v v2 : Value) (xs ys : List Int) (w : World) (hv : Ints w v xs) (hv2 : Ints w v2 ys) : Calls Try.prog 64 #[v, v2] w fun e w' => e = .returned (.bool (sumsFit xs ys)) ∧ w = w' := by
  obtain ⟨a, cap, rfl, hcap, hle, -, -⟩ := id hv
  obtain ⟨a2, cap2, rfl, hcap2, hle2, -, -⟩ := id hv2
  go_enter Try.func64, Try.ntmps64
  go_wp2_with (first | (go_at_call 97; refine (within_c _ _ _ _).mono ?_; rintro e w' ⟨rfl, rfl⟩) | (go_at_call 98; refine (allWithin_c _ _ _ _ _ (by assumption)).mono ?_; rintro e w' ⟨rfl, rfl⟩))
  all_goals (go_ret; exact ⟨retB (by simp [sumsFit, *]), rfl⟩)
theorem SumsFit_s (v v2 : Value) (xs ys : List Int) (w : World) (hv : Ints w v xs) (hv2 : Ints w v2 ys) : Calls Try.prog 61 #[v, v2] w fun e w' => e = .returned (.bool (sumsFit xs ys)) ∧ w = w' := by
  obtain ⟨a, cap, rfl, hcap, hle, -, hc⟩ := hv
  obtain ⟨a2, cap2, rfl, hcap2, hle2, -, hc2⟩ := hv2
  cases hin1 : inR 1 4 xs.length
  · go_enter Try.func61, Try.ntmps61
    go_wp2_with (first | (go_at_call 91; refine (l01In_c _ _ _ _).mono ?_; rintro e w' ⟨rfl, rfl⟩))
    go_ret
    exact ⟨retB (by simp [sumsFit, *]), rfl⟩
  cases hin2 : inR 1 4 ys.length
  · go_enter Try.func61, Try.ntmps61
    go_wp2_with (first | (go_at_call 91; refine (l01In_c _ _ _ _).mono ?_; rintro e w' ⟨rfl, rfl⟩))
    go_ret
    exact ⟨retB (by simp [sumsFit, *]), rfl⟩
  go_enter Try.func61, Try.ntmps61
  go_wp2_with (first | (go_at_call 91; refine (l01In_c _ _ _ _).mono ?_; rintro e w' ⟨rfl, rfl⟩))
  have Hin1 := Lib.hid hin1
  have Hin2 := Lib.hid hin2
  clear hin1 hin2
  go_loop [6, 21] (fun _ i => ∃ k : Nat, k ≤ xs.length ∧ i = .int .i64 k ∧ (xs.take k).all (inR 0 ys.length) = true) (fun _ i => xs.length - (intOf i).toNat)
  case atStart => exact ⟨0, Nat.zero_le _, rfl, rfl⟩
  case round =>
    obtain ⟨k, hk, rfl, hall⟩ := hrel
    have Hall := Lib.hid hall; clear hall
    by_cases hlt : k < xs.length
    · obtain ⟨b, off, rfl, -, hc'⟩ := hc (by omega)
      obtain ⟨x, hx⟩ : ∃ x, xs[k]? = some x := ⟨_, List.getElem?_eq_getElem hlt⟩
      obtain ⟨u, hck, rfl, -⟩ := hc' k x hx
      have Hs := Lib.hid (all_take_step (inR 0 ys.length) hx)
      have Hx := Lib.hid hx; clear hx hc hc'
      cases hin : inR 0 ys.length x
      · have Hin := Lib.hid hin
        go_wp2_with (first | (go_at_call 91; refine (l01In_c _ _ _ _).mono ?_; rintro e w' ⟨rfl, rfl⟩))
        go_ret
        exact ⟨retB (by simp [sumsFit, all_of_take _ Hx.out Hin.out]), rfl⟩
      · have Hin := Lib.hid hin
        go_wp2_with (first | (go_at_call 91; refine (l01In_c _ _ _ _).mono ?_; rintro e w' ⟨rfl, rfl⟩))
        go_round
        case rel => exact ⟨k + 1, by omega, by go_num, by rw [Hs.out, Hall.out, Hin.out]; rfl⟩
        case measure => simp [intOf]; omega
    · have Hall1 := Lib.hid (all_done Hall.out (by omega))
      clear Hall
      go_wp2_with (fail)
      clear hk hlt
      go_loop [8, 33] (fun _ i => ∃ k : Nat, k ≤ ys.length ∧ i = .int .i64 k ∧ (ys.take k).all (inR 0 xs.length) = true) (fun _ i => ys.length - (intOf i).toNat)
      case atStart => exact ⟨0, Nat.zero_le _, rfl, rfl⟩
      case round =>
        obtain ⟨k, hk, rfl, hall⟩ := hrel
        have Hall := Lib.hid hall; clear hall
        by_cases hlt : k < ys.length
        · obtain ⟨b, off, rfl, -, hc'⟩ := hc2 (by omega)
          obtain ⟨x, hx⟩ : ∃ x, ys[k]? = some x := ⟨_, List.getElem?_eq_getElem hlt⟩
          obtain ⟨u, hck, rfl, -⟩ := hc' k x hx
          have Hs := Lib.hid (all_take_step (inR 0 xs.length) hx)
          have Hx := Lib.hid hx; clear hx hc2 hc'
          cases hin : inR 0 xs.length x
          · have Hin := Lib.hid hin
            go_wp2_with (first | (go_at_call 91; refine (l01In_c _ _ _ _).mono ?_; rintro e w' ⟨rfl, rfl⟩))
            go_ret
            exact ⟨retB (by simp [sumsFit, all_of_take _ Hx.out Hin.out]), rfl⟩
          · have Hin := Lib.hid hin
            go_wp2_with (first | (go_at_call 91; refine (l01In_c _ _ _ _).mono ?_; rintro e w' ⟨rfl, rfl⟩))
            go_round
            case rel => exact ⟨k + 1, by omega, by go_num, by rw [Hs.out, Hall.out, Hin.out]; rfl⟩
            case measure => simp [intOf]; omega
        · go_wp2
          go_ret
          exact ⟨retB (by simp [sumsFit, Hin1.out, Hin2.out, Hall1.out, all_done Hall.out (by omega)]), rfl⟩
end Go.Proofs.Ytadbiefcpjcinaa

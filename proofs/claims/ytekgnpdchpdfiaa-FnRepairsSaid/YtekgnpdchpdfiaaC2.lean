/- Contracts: marks, the functions on sums. -/
import Derived.Test.YtekgnpdchpdfiaaC1
import Derived.BigGuardPart
namespace Go.Proofs.Ytekgnpdchpdfiaa
open Go.RowKit

/-- k, k + 1, .. : n numbers -/
def marks (k : Int) (n : Nat) : List Int := (List.range n).map fun i : Nat => k + (i : Int)
theorem marks_len (k : Int) (n : Nat) : (marks k n).length = n := by simp [marks]
theorem marks_at {k : Int} {n j : Nat} (h : j < n) : (marks k n)[j]? = some (k + (j : Int)) := by simp [marks, h]
theorem marks_set {xs : List Int} {k : Int} {j : Nat} (h : j < xs.length) : (marks k j ++ xs.drop j).set j (k + (j : Int)) = marks k (j + 1) ++ xs.drop (j + 1) := by
  rw [List.set_append_right _ _ (by rw [marks_len]; exact Nat.le_refl _), marks_len, Nat.sub_self, List.drop_eq_getElem_cons h, List.set_cons_zero]
  simp [marks, List.range_succ]

theorem markIntS_c (v : Value) (xs : List Int) (k : Int) (S : Bk) (w : World) (hv : Own 3 IntV S w v xs) (hk0 : 0 ≤ k) (hk1 : k ≤ 1099511627776) (hlen : xs.length ≤ 1099511627776) :
    Calls Try.prog 30 #[v, .int .i64 k] w fun e w' => e = .returned (.int .i64 (k + xs.length)) ∧ Own 3 IntV S w' v (marks k xs.length) ∧ Only S w w' ∧ w.heap.size = w'.heap.size := by
  rcases hv.inv with ⟨rfl, rfl⟩ | ⟨g, cap, rfl, hg, hcap, hgs, -⟩
  · go_enter Try.func30, Try.ntmps30
    go_wp2
    refine wp_loop_rounds 1 ?_
    rw [rounds_succ]
    go_wp2
    go_ret
    exact ⟨retI (by simp), Own.nil _ _ _ _, Only.refl _ _, rfl⟩
  · go_enter Try.func30, Try.ntmps30
    go_wp2
    have Hv : Own 3 IntV S w (.slice (some ⟨g, 0, none⟩) xs.length cap) (marks k 0 ++ xs.drop 0) := hv
    clear hv
    go_loopw [1, 5] (fun n i wr => ∃ j : Nat, j ≤ xs.length ∧ i = .int .i64 j ∧ n = .int .i64 (k + j) ∧ Own 3 IntV S wr (.slice (some ⟨g, 0, none⟩) xs.length cap) (marks k j ++ xs.drop j) ∧ Only S w wr ∧ w.heap.size = wr.heap.size) (fun _ i _ => xs.length - (intOf i).toNat)
    case atStart => exact ⟨0, Nat.zero_le _, rfl, by simp, Hv, Only.refl _ _, rfl⟩
    case round =>
      clear Hv
      obtain ⟨j, hj, rfl, rfl, hown, honly, hsz⟩ := hrel
      have Hsz := Lib.hid hsz; clear hsz
      by_cases hlt : j < xs.length
      · have hl : (marks k j ++ xs.drop j).length = xs.length := by simp [marks_len]; omega
        have hset := hown.setInt (k := j) (c := k + (j : Int)) (by rw [hl]; exact hlt) (I64.small (by omega) (by omega))
        rw [marks_set hlt] at hset
        obtain ⟨y, hcd, hfd⟩ := hown.ints_at (k := j) (by rw [hl]; exact hlt)
        have Hset := Lib.hid hset
        clear hset hown hl
        go_wp2
        go_roundw
        case rel => exact ⟨j + 1, by omega, by go_num, by congr 1; omega, Hset.out, honly.setCell (.inl hg) _, by rw [Hsz.out]; simp [World.setCell]⟩
        case measure => simp [intOf]; omega
      · have Hown := Lib.hid hown; clear hown
        go_wp2
        go_ret
        obtain rfl : j = xs.length := by omega
        exact ⟨rfl, by have h := Hown.out; simpa using h, honly, Hsz.out⟩
theorem heldIntS_c (v : Value) (n : Nat) (k : Int) (w : World) (hv : Ints w v (marks k n)) (hk0 : 0 ≤ k) (hk1 : k ≤ 1099511627776) (hlen : n ≤ 1099511627776) :
    Calls Try.prog 31 #[v, .int .i64 k] w fun e w' => e = .returned (.int .i64 (k + n)) ∧ w = w' := by
  obtain ⟨a, cap, rfl, hcap, hle, -, hc⟩ := hv
  rw [marks_len] at hcap hle hc ⊢
  go_enter Try.func31, Try.ntmps31
  go_wp2
  go_loop [1, 5] (fun m i => ∃ j : Nat, j ≤ n ∧ i = .int .i64 j ∧ m = .int .i64 (k + j)) (fun _ i => n - (intOf i).toNat)
  case atStart => exact ⟨0, Nat.zero_le _, rfl, by simp⟩
  case round =>
    obtain ⟨j, hj, rfl, rfl⟩ := hrel
    by_cases hlt : j < n
    · obtain ⟨b, off, rfl, -, hc'⟩ := hc (by omega)
      obtain ⟨u, hck, rfl, -⟩ := hc' j _ (marks_at hlt)
      clear hc hc'
      go_wp2
      go_round
      case rel => exact ⟨j + 1, by omega, by go_num, by congr 1; omega⟩
      case measure => simp [intOf]; omega
    · go_wp2
      go_ret
      exact ⟨retI (by omega), rfl⟩

/-- SumsFit -/
def sumsFit (rows cols : List Int) : Bool := inR 1 4 rows.length && inR 1 4 cols.length && rows.all (inR 0 cols.length) && cols.all (inR 0 rows.length)
theorem SumsFit_i (v v2 : Value) (xs ys : List Int) (w : World) (hv : Ints w v xs) (hv2 : Ints w v2 ys) : Calls Try.prog 35 #[v, v2] w fun e w' => e = .returned (.bool (sumsFit xs ys)) ∧ w = w' := by
  obtain ⟨a, cap, rfl, hcap, hle, -, -⟩ := id hv
  obtain ⟨a2, cap2, rfl, hcap2, hle2, -, -⟩ := id hv2
  go_enter Try.func35, Try.ntmps35
  go_wp2_with (first | (go_at_call 74; refine (within_c _ _ _ _).mono ?_; rintro e w' ⟨rfl, rfl⟩) | (go_at_call 75; refine (allWithin_c _ _ _ _ _ (by assumption)).mono ?_; rintro e w' ⟨rfl, rfl⟩))
  all_goals (go_ret; exact ⟨retB (by simp [sumsFit, *]), rfl⟩)
end Go.Proofs.Ytekgnpdchpdfiaa

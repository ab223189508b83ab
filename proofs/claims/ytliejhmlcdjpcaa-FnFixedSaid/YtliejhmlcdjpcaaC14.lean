/- Contracts: puzzles: PuzzleOk. -/
import Derived.Test.YtliejhmlcdjpcaaC8
import Derived.Test.YtliejhmlcdjpcaaImg
import Derived.BigGuardPart
namespace Go.Proofs.Ytliejhmlcdjpcaa
open Go.RowKit

def fits (n : Int) (runs : List Int) : Bool := runs.all (inR 1 5) && decide (sumL runs + runs.length - 1 ≤ n)
def puzzleOk (rows cols : List (List Int)) : Bool := inR 1 5 rows.length && inR 1 5 cols.length && rows.all (fits cols.length) && cols.all (fits rows.length)

theorem sum_ge_len {xs : List Int} (h : xs.all (inR 1 5) = true) : ∀ k, k ≤ xs.length → (k : Int) ≤ sumL (xs.take k) ∧ sumL (xs.take k) ≤ 5 * k := by
  rw [List.all_eq_true] at h
  intro k
  induction k with
  | zero => intro _; simp [sumL]
  | succ k ih =>
    intro hk
    have h1 := ih (by omega)
    rw [sumL_take (List.getElem?_eq_getElem (show k < xs.length by omega))]
    have := inR_iff.1 (h _ (List.getElem_mem (show k < xs.length by omega)))
    omega

theorem l03Size_c (r c : Int) (w : World) : Calls Try.prog 102 #[.int .i64 r, .int .i64 c] w fun e w' => e = .returned (.bool (inR 1 5 r && inR 1 5 c)) ∧ w = w' := by
  cases h1 : inR 1 5 r
  · have H1 := Lib.hid h1; clear h1
    go_enter Try.func102, Try.ntmps102
    go_wp2_with (first | (go_at_call 92; refine (l01In_c _ _ _ _).mono ?_; rintro e w' ⟨rfl, rfl⟩; (try rw [H1.out])))
    go_ret
    exact ⟨rfl, rfl⟩
  · have H1 := Lib.hid h1; clear h1
    go_enter Try.func102, Try.ntmps102
    go_wp2_with (fail)
    refine (l01In_c _ _ _ _).mono ?_
    rintro e w' ⟨rfl, rfl⟩
    rw [H1.out]
    go_wp2_with (fail)
    refine (l01In_c _ _ _ _).mono ?_
    rintro e w' ⟨rfl, rfl⟩
    go_wp2
    go_ret
    exact ⟨rfl, rfl⟩


end Go.Proofs.Ytliejhmlcdjpcaa

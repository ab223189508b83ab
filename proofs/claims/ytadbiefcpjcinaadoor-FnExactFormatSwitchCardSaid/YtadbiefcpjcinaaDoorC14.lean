/- Contracts: puzzles: PuzzleOk. -/
import Derived.Test.YtadbiefcpjcinaaDoorC8
import Derived.Test.YtadbiefcpjcinaaDoorImg
import Derived.BigGuardPart
namespace Go.Proofs.YtadbiefcpjcinaaDoor
open Go.RowKit

def fits (n : Int) (runs : List Int) : Bool := runs.all (inR 1 5) && decide (sumL runs + runs.length - 1 ≤ n)
def puzzleOk (rows cols : List (List Int)) : Bool := inR 1 5 rows.length && inR 1 5 cols.length && rows.all (fits cols.length) && cols.all (fits rows.length)

theorem sum_ge_len {xs : List Int} (h : xs.all (inR 1 5) = true) : ∀ k, k ≤ xs.length → (k : Int) ≤ sumL (xs.take k) ∧ sumL (xs.take k) ≤ 5 * k := by
  rw [List.all_eq_true] at h
  intro k
  induction k with
  | zero => intro _; simp [sumL]
  | succ k ih =>
    intro hk
    have h1 := ih (by omega)
    rw [sumL_take (List.getElem?_eq_getElem (show k < xs.length by omega))]
    have := inR_iff.1 (h _ (List.getElem_mem (show k < xs.length by omega)))
    omega



end Go.Proofs.YtadbiefcpjcinaaDoor

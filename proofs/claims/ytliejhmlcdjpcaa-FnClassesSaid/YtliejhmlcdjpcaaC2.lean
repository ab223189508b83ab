/- Contracts: marks, the functions on sums. -/
import Derived.Test.YtliejhmlcdjpcaaC1
import Derived.BigGuardPart
namespace Go.Proofs.Ytliejhmlcdjpcaa
open Go.RowKit

/-- k, k + 1, .. : n numbers -/
def marks (k : Int) (n : Nat) : List Int := (List.range n).map fun i : Nat => k + (i : Int)
theorem marks_len (k : Int) (n : Nat) : (marks k n).length = n := by simp [marks]
theorem marks_at {k : Int} {n j : Nat} (h : j < n) : (marks k n)[j]? = some (k + (j : Int)) := by simp [marks, h]
theorem marks_set {xs : List Int} {k : Int} {j : Nat} (h : j < xs.length) : (marks k j ++ xs.drop j).set j (k + (j : Int)) = marks k (j + 1) ++ xs.drop (j + 1) := by
  rw [List.set_append_right _ _ (by rw [marks_len]; exact Nat.le_refl _), marks_len, Nat.sub_self, List.drop_eq_getElem_cons h, List.set_cons_zero]
  simp [marks, List.range_succ]


/-- SumsFit -/
def sumsFit (rows cols : List Int) : Bool := inR 1 4 rows.length && inR 1 4 cols.length && rows.all (inR 0 cols.length) && cols.all (inR 0 rows.length)
end Go.Proofs.Ytliejhmlcdjpcaa

/- Contracts: sizes and copies of slices of slices. -/
import Derived.Test.YtliejhmlcdjpcaaC4
namespace Go.Proofs.Ytliejhmlcdjpcaa
open Go.RowKit

theorem set_copy' {α : Type} {xs : List α} {z : α} {k : Nat} {x : α} (h : xs[k]? = some x) : (xs.take k ++ List.replicate (xs.length - k) z).set k x = xs.take (k + 1) ++ List.replicate (xs.length - (k + 1)) z := by
  obtain ⟨hk, hx⟩ := List.getElem?_eq_some_iff.1 h
  obtain ⟨d, hd⟩ : ∃ d, xs.length - k = d + 1 := ⟨xs.length - k - 1, by omega⟩
  rw [hd, show xs.length - (k + 1) = d from by omega, List.set_append_right _ _ (by simp; omega), List.length_take, Nat.min_eq_left (Nat.le_of_lt hk), Nat.sub_self, List.replicate_succ, List.set_cons_zero, List.take_succ_eq_append_getElem hk, hx]
  simp

/-- what is left of a size -/
def leftOf (n : Nat) (left : Int) : Int := if (n : Int) ≤ left then left - n else -1
/-- how large a grid is -/
def bulk (g : List (List Int)) : Nat := g.length + cells g
end Go.Proofs.Ytliejhmlcdjpcaa

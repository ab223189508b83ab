/- Contracts: RunsOf, ParityOf. -/
import Derived.Test.YtliejhmlcdjpcaaC2
import Derived.Test.YtliejhmlcdjpcaaRuns
namespace Go.Proofs.Ytliejhmlcdjpcaa
open Go.RowKit

theorem sumL_nonneg {xs : List Int} {m : Int} (h : xs.all (inR 0 m) = true) : 0 ≤ sumL xs := by
  have aux : ∀ k, k ≤ xs.length → 0 ≤ sumL (xs.take k) := by
    intro k
    induction k with
    | zero => intro _; simp [sumL]
    | succ k ih =>
      intro hk
      have hx : xs[k]? = some xs[k] := List.getElem?_eq_getElem (by omega)
      rw [sumL_take hx]
      have h1 := ih (by omega)
      have h2 := List.all_eq_true.1 h _ (List.mem_of_getElem? hx)
      rw [inR_iff] at h2
      omega
  have := aux xs.length (Nat.le_refl _)
  rwa [List.take_length] at this
theorem small_of_all {xs : List Int} {m : Int} (h : xs.all (inR 0 m) = true) (hm : m ≤ 1048576) (hl : xs.length ≤ 1048576) : Small xs := by
  refine ⟨hl, fun x hx => ?_⟩
  have h2 := List.all_eq_true.1 h _ hx
  rw [inR_iff] at h2
  omega
def parityOf (rows cols : List Int) : Int := if sumsFit rows cols then (sumL rows + sumL cols) % 2 else -1
end Go.Proofs.Ytliejhmlcdjpcaa

/- Contracts: the reference's SolvePuzzle: what it needs. Contracts: the reference's SolvePuzzle: its recursion. Contracts: the reference's SolvePuzzle, whole; the size of the solutions. -/
import Derived.Test.YtlmjpmdkifoekaaDoorS4
import Derived.Test.YtlmjpmdkifoekaaDoorD3
import Derived.Test.YtlmjpmdkifoekaaDoorC1
import Derived.Test.YtlmjpmdkifoekaaDoorMem
import Derived.Test.YtlmjpmdkifoekaaDoorG2


namespace Go.Proofs.YtlmjpmdkifoekaaDoor
open Go.RowKit

end Go.Proofs.YtlmjpmdkifoekaaDoor

namespace Go.Proofs.YtlmjpmdkifoekaaDoor
open Go.RowKit

theorem cells_rect : ∀ (m : List (List Int)) (c : Nat), (∀ row ∈ m, row.length = c) → cells m = m.length * c := by
  intro m c
  induction m with
  | nil => intro _; simp [cells]
  | cons a m ih =>
    intro hm
    have e : cells (a :: m) = a.length + cells m := by simp [cells]
    rw [e, ih (fun row hr => hm row (List.mem_cons_of_mem _ hr)), hm a (by simp), List.length_cons, Nat.succ_mul]
    omega
theorem cells3_le {g : List (List (List Int))} {n : Nat} (h : ∀ m ∈ g, cells m ≤ n) : cells3 g ≤ g.length * n := by
  unfold cells3
  induction g with
  | nil => simp
  | cons a g ih =>
    have h1 := h a (by simp)
    have h2 := ih (fun m hm => h m (List.mem_cons_of_mem _ hm))
    rw [List.map_cons, List.sum_cons, List.length_cons, Nat.succ_mul]; omega
theorem solutions_bd (R C : List (List Int)) : (solutions R C).length ≤ 7776 ∧ cells3 (solutions R C) ≤ 194400 ∧ ∀ r ∈ solutions R C, r.length ≤ 1048576 := by
  have h1 := solutions_len R C
  have h2 : ∀ m ∈ solutions R C, m.length ≤ 5 ∧ cells m ≤ 25 := by
    intro m hm
    obtain ⟨hs, hok⟩ := solutions_shape m hm
    obtain ⟨-, a2, -, a4⟩ := puzzleOk_bd hok
    refine ⟨by rw [hs.1]; exact a2, ?_⟩
    rw [cells_rect m C.length (fun row hr => (hs.2 row hr).1), hs.1]
    exact Nat.mul_le_mul a2 a4
  refine ⟨h1, ?_, fun r hr => by have := (h2 r hr).1; omega⟩
  have h3 := cells3_le (n := 25) fun m hm => (h2 m hm).2
  omega
end Go.Proofs.YtlmjpmdkifoekaaDoor

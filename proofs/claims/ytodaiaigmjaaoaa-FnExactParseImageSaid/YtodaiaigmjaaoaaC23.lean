/- Contracts: PuzzleOf. -/
import Derived.Test.YtodaiaigmjaaoaaC13
import Derived.Test.YtodaiaigmjaaoaaC15
import Derived.Test.YtodaiaigmjaaoaaC3
namespace Go.Proofs.Ytodaiaigmjaaoaa
open Go.RowKit

theorem sum_le_of5 {l : List Nat} {m : Nat} (h : ∀ x ∈ l, x ≤ m) : l.sum ≤ l.length * m := by
  induction l with
  | nil => simp
  | cons a l ih =>
    have h1 := h a (by simp)
    have h2 := ih (fun x hx => h x (by simp [hx]))
    simp only [List.sum_cons, List.length_cons, Nat.succ_mul]
    omega
theorem map_take_snoc' {α β : Type} (f : α → β) {m : List α} {k : Nat} {x : α} (h : m[k]? = some x) : (m.take (k + 1)).map f = (m.take k).map f ++ [f x] := by
  rw [List.take_add_one, h]; simp


def pzRows (m : List (List Int)) : List (List Int) := if imageOk m then m.map runsOf else []
def pzCols (m : List (List Int)) : List (List Int) := if imageOk m then (tr m).map runsOf else []
theorem map_runs_bd {m : List (List Int)} (h : imageOk m = true) : (m.map runsOf).length ≤ 5 ∧ cells (m.map runsOf) ≤ 25 := by
  obtain ⟨r, c, h1, h2, h3, h4, hs⟩ := imageOk_shape h
  refine ⟨by simp [hs.1, h2], ?_⟩
  unfold cells
  have h5 : ∀ x ∈ ((m.map runsOf).map List.length), x ≤ 5 := by
    intro x hx
    simp only [List.map_map, List.mem_map, Function.comp] at hx
    obtain ⟨r', hr, rfl⟩ := hx
    have := runsOf_len r'
    have := (hs.2 r' hr).1
    omega
  have := sum_le_of5 h5
  simp only [List.length_map, hs.1] at this
  omega
theorem pz_bd (m : List (List Int)) : (pzRows m).length ≤ 5 ∧ cells (pzRows m) ≤ 25 ∧ (pzCols m).length ≤ 5 ∧ cells (pzCols m) ≤ 25 := by
  unfold pzRows pzCols
  cases h : imageOk m
  · simp [cells]
  · have h1 := map_runs_bd h
    have h2 := map_runs_bd (imageOk_tr h)
    exact ⟨h1.1, h1.2, h2.1, h2.2⟩
end Go.Proofs.Ytodaiaigmjaaoaa

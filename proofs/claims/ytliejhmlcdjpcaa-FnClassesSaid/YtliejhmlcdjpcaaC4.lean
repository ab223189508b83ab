/- Contracts: slices of slices: equal, marked, held, copied. -/
import Derived.Test.YtliejhmlcdjpcaaC2
namespace Go.Proofs.Ytliejhmlcdjpcaa
open Go.RowKit

theorem infoInts : (Try.prog.info? 25).map (fun i => (i.zero, i.size, i.bytes)) = some (some (.slice none 0 0), 1, 24) := by kernel_rfl


/-- the number of cells -/
def cells (g : List (List Int)) : Nat := (g.map List.length).sum
/-- k, k + 1, .. in the rows of a grid -/
def gmarks : Int → List (List Int) → List (List Int)
  | _, [] => []
  | k, r :: g => marks k r.length :: gmarks (k + r.length) g
theorem gmarks_len (g : List (List Int)) : ∀ k, (gmarks k g).length = g.length := by
  induction g with
  | nil => intro k; rfl
  | cons r g ih => intro k; simp [gmarks, ih]
theorem cells_take {g : List (List Int)} {k : Nat} {r : List Int} (h : g[k]? = some r) : cells (g.take (k + 1)) = cells (g.take k) + r.length := by
  obtain ⟨hk, hx⟩ := List.getElem?_eq_some_iff.1 h
  rw [List.take_succ_eq_append_getElem hk, hx]; simp [cells]
theorem cells_take_le (g : List (List Int)) (k : Nat) : cells (g.take k) ≤ cells g := by
  have : cells g = cells (g.take k) + cells (g.drop k) := by
    have h : cells (g.take k ++ g.drop k) = cells (g.take k) + cells (g.drop k) := by unfold cells; rw [List.map_append, List.sum_append]
    rwa [List.take_append_drop] at h
  omega
theorem gmarks_at {g : List (List Int)} : ∀ {k : Int} {j : Nat} {r : List Int}, g[j]? = some r → (gmarks k g)[j]? = some (marks (k + cells (g.take j)) r.length) := by
  induction g with
  | nil => intro k j r h; simp at h
  | cons a g ih =>
    intro k j r h
    cases j with
    | zero => simp at h; subst h; simp [gmarks, cells]
    | succ j =>
      simp at h
      simp only [gmarks, List.getElem?_cons_succ]
      rw [ih h]
      congr 2
      simp [cells]
      omega

end Go.Proofs.Ytliejhmlcdjpcaa

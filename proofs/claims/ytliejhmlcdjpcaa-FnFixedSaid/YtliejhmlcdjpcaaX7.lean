/- Contracts: AllImages of the reference. -/
import Derived.Test.YtliejhmlcdjpcaaX6
import Derived.Test.YtliejhmlcdjpcaaE3
namespace Go.Proofs.Ytliejhmlcdjpcaa
open Go.RowKit

theorem imgs_len {xs ys : List Int} (h : sumsOk xs ys = true) : (allImgs xs ys).length ≤ 1073741824 := by
  obtain ⟨-, h2, -, h4, -⟩ := sumsOk_bd h
  refine Nat.le_trans (allImgs_len xs ys) ?_
  have h5 : xs.length * (ys.length + 1) ≤ 5 * 6 := Nat.mul_le_mul h2 (by omega)
  exact Nat.le_trans (Nat.pow_le_pow_right (by decide) h5) (by decide)
theorem imgsOf_ok {xs ys : List Int} (h : sumsOk xs ys = true) : imgsOf xs ys = allImgs xs ys := by unfold imgsOf; rw [h]; rfl
theorem imgsOf_no {xs ys : List Int} (h : sumsOk xs ys = false) : imgsOf xs ys = [] := by unfold imgsOf; rw [h]; rfl
theorem imgsOf_none {xs ys : List Int} (h : existsB xs ys = false) : imgsOf xs ys = [] := by
  cases hok : sumsOk xs ys
  · exact imgsOf_no hok
  · rw [imgsOf_ok hok]
    apply Classical.byContradiction
    intro hne
    rw [(existsB_imgs hok).2 hne] at h
    cases h
theorem imgsOf_some {xs ys : List Int} (h : existsB xs ys = true) : imgsOf xs ys ≠ [] := by
  have hok := existsB_ok h
  rw [imgsOf_ok hok]
  exact (existsB_imgs hok).1 h
theorem imgsOf_len (xs ys : List Int) : (imgsOf xs ys).length ≤ 1073741824 := by
  cases hok : sumsOk xs ys
  · rw [imgsOf_no hok]; simp
  · rw [imgsOf_ok hok]; exact imgs_len hok
theorem sumsOk_5 {xs ys : List Int} (h : sumsOk xs ys = true) : (∀ x ∈ xs, 0 ≤ x ∧ x ≤ 5) ∧ ∀ y ∈ ys, 0 ≤ y ∧ y ≤ 5 := by
  obtain ⟨a, b⟩ := sumsOk_all h
  obtain ⟨-, h2, -, h4, -⟩ := sumsOk_bd h
  constructor
  · intro x hx
    have := List.all_eq_true.1 a x hx
    rw [inR_iff] at this; omega
  · intro x hx
    have := List.all_eq_true.1 b x hx
    rw [inR_iff] at this; omega
end Go.Proofs.Ytliejhmlcdjpcaa

/- FnRepairs: plain. -/
import Derived.Test.YtekgnpdchpdfiaaKeyL
import Derived.Test.YtekgnpdchpdfiaaC3
import Derived.Test.YtekgnpdchpdfiaaC21
namespace Go.Proofs.Ytekgnpdchpdfiaa

theorem fit_of {xs ys : List Int} (h1 : 1 ≤ xs.length ∧ xs.length ≤ 3) (h2 : 1 ≤ ys.length ∧ ys.length ≤ 2) (hx : ∀ x ∈ xs, 0 ≤ x ∧ x ≤ ys.length) (hy : ∀ y ∈ ys, 0 ≤ y ∧ y ≤ xs.length) : sumsFit xs ys = true := by
  unfold sumsFit inR
  simp only [Bool.and_eq_true, List.all_eq_true, decide_eq_true_eq]
  exact ⟨⟨⟨by omega, by omega⟩, fun x hm => hx x hm⟩, fun y hm => hy y hm⟩

structure RepOk (xs ys : List Int) (b : Nat) (l : Int) : Prop where
  fit : sumsFit xs ys = true
  cl : closest xs ys = some (b, l)
  least : leastChange xs ys = l
  chg : changeOf xs ys (imgOf xs.length ys.length b) = l
  zero : decide (l = 0) = existsB xs ys
  ex : existsB (repRows xs ys) (repCols xs ys) = true
  rows : repRows xs ys = rowSumsOf (imgOf xs.length ys.length b)
  cols : repCols xs ys = colSumsOf (imgOf xs.length ys.length b)
  nn : 0 ≤ l ∧ l ≤ 40
  par : l % 2 = parityOf xs ys
  min : ∀ m, Shape xs.length ys.length m → l ≤ changeOf xs ys m

theorem rep_ok {xs ys : List Int} (h1 : 1 ≤ xs.length ∧ xs.length ≤ 3) (h2 : 1 ≤ ys.length ∧ ys.length ≤ 2) (hx : ∀ x ∈ xs, 0 ≤ x ∧ x ≤ ys.length) (hy : ∀ y ∈ ys, 0 ≤ y ∧ y ≤ xs.length) : ∃ b l, RepOk xs ys b l := by
  have hfit := fit_of h1 h2 hx hy
  have h12 : xs.length * ys.length ≤ 12 := Nat.le_trans (Nat.mul_le_mul h1.2 h2.2) (by decide)
  obtain ⟨b, l, hcl, hl, hmin⟩ := closest_spec hfit h12
  have hsh : Shape xs.length ys.length (imgOf xs.length ys.length b) := imgOf_shape _ _ _
  have hS := sums_of_image hsh h1.1 (by omega) h2.1 (by omega)
  have hci : closeImg xs ys (closest xs ys) = imgOf xs.length ys.length b := by rw [hcl]; rfl
  refine ⟨b, l, hfit, hcl, by unfold leastChange; rw [hcl]; rfl, hl.symm, ?_, ?_, by unfold repRows; rw [hci], by unfold repCols; rw [hci], ?_, ?_, hmin⟩
  · rw [Bool.eq_iff_iff, decide_eq_true_eq]
    exact closest_exists hfit h12 hcl
  · have hrl := (rowSumsOf_wf hsh h1.1 (by omega) h2.1 (by omega)).1
    have hcl2 := (colSumsOf_wf hsh h1.1 (by omega) h2.1 (by omega)).1
    unfold repRows repCols
    rw [hci]
    rw [existsB_iff (sumsOk_of (by omega) (by omega) (by omega) (by omega) (by rw [hrl, hcl2]; exact hS)), hrl, hcl2]
    exact ⟨_, hS⟩
  · have hok : changeOk xs ys (imgOf xs.length ys.length b) = true := by
      unfold changeOk
      rw [hfit, hsh.ok h1.1 (by omega) h2.1 (by omega), hsh.1, hsh.head h1.1]
      simp
    have := changeOf_bd hok
    omega
  · have := change_parity hfit hsh
    unfold parityOf
    rw [if_pos hfit]
    omega
end Go.Proofs.Ytekgnpdchpdfiaa

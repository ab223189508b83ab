/- The size of what is deduced: plain. -/
import Derived.Test.YtekgnpdchpdfiaaD6
namespace Go.Proofs.Ytekgnpdchpdfiaa
theorem deduce_bd (R C : List (List Int)) : ((deduce R C).getD []).length ≤ 5 ∧ cells ((deduce R C).getD []) ≤ 25 := by
  cases h : deduce R C with
  | none => simp [cells]
  | some m =>
    obtain ⟨hT, e1, e2, e3, e4⟩ := deduce_rect h
    refine ⟨by rw [Option.getD_some, hT.1]; exact e2, ?_⟩
    rw [Option.getD_some]
    have key : ∀ (m : List (List Int)) (c : Nat), (∀ row ∈ m, row.length = c) → cells m = m.length * c := by
      intro m c
      induction m with
      | nil => intro _; simp [cells]
      | cons a m ih =>
        intro hm
        have e : cells (a :: m) = a.length + cells m := by simp [cells]
        rw [e, ih (fun row hr => hm row (List.mem_cons_of_mem _ hr)), hm a (by simp), List.length_cons, Nat.succ_mul]
        omega
    rw [key m C.length (fun row hr => (hT.2 row hr).1), hT.1]
    exact Nat.mul_le_mul e2 e4
end Go.Proofs.Ytekgnpdchpdfiaa

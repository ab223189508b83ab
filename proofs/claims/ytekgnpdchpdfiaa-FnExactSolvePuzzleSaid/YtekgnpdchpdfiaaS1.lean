/- The solutions of a puzzle: plain. -/
import Derived.Test.YtekgnpdchpdfiaaD6
import Derived.Test.YtekgnpdchpdfiaaC24
import Derived.Test.YtekgnpdchpdfiaaE1
namespace Go.Proofs.Ytekgnpdchpdfiaa

/-- the images that continue some rows, f rows more -/
def solves (R C : List (List Int)) : Nat → List (List Int) → List (List (List Int))
  | 0, rows => if pzCols rows = C then [rows] else []
  | f + 1, rows => (linesFor (R.getD rows.length []) C.length).flatMap fun l => solves R C f (rows ++ [l])
def solvesTo (R C : List (List Int)) (f : Nat) (rows : List (List Int)) (L : List (List Int)) (k : Nat) : List (List (List Int)) := (L.take k).flatMap fun l => solves R C f (rows ++ [l])
theorem solvesTo_zero (R C : List (List Int)) (f : Nat) (rows L : List (List Int)) : solvesTo R C f rows L 0 = [] := by simp [solvesTo]
theorem solvesTo_succ {R C : List (List Int)} {f : Nat} {rows L : List (List Int)} {k : Nat} {l : List Int} (h : L[k]? = some l) : solvesTo R C f rows L (k + 1) = solvesTo R C f rows L k ++ solves R C f (rows ++ [l]) := by
  unfold solvesTo
  rw [List.take_add_one, h, List.flatMap_append]
  simp
theorem solvesTo_all {R C : List (List Int)} {f : Nat} {rows L : List (List Int)} {k : Nat} (hL : L = linesFor (R.getD rows.length []) C.length) (hk : L.length ≤ k) : solvesTo R C f rows L k = solves R C (f + 1) rows := by
  unfold solvesTo
  rw [List.take_of_length_le hk, solves, hL]
theorem lines_fact : ∀ n, n < 6 → ∀ key, key < 2 ^ n → (linesFor (runsOf (bitsLine n key)) n).length ≤ 6 := by decide +kernel
theorem lines_six {n : Nat} (h : n ≤ 5) (rs : List Int) : (linesFor rs n).length ≤ 6 := by
  cases hl : linesFor rs n with
  | nil => simp
  | cons a l =>
    have hm : a ∈ linesFor rs n := by rw [hl]; simp
    have hm2 := hm
    unfold linesFor linesTo at hm2
    obtain ⟨h1, h2⟩ := List.mem_filter.1 hm2
    obtain ⟨key, hk, rfl⟩ := List.mem_map.1 h1
    have h3 : runsOf (bitsLine n key) = rs := by simpa using h2
    have := lines_fact n (by omega) key (List.mem_range.1 hk)
    rw [h3, hl] at this
    exact this
theorem flat_len {α β : Type} (g : α → List β) (N : Nat) : ∀ (L : List α), (∀ x ∈ L, (g x).length ≤ N) → (L.flatMap g).length ≤ L.length * N
  | [], _ => by simp
  | x :: L, h => by
    rw [List.flatMap_cons, List.length_append, List.length_cons, Nat.succ_mul]
    have h1 := h x (by simp)
    have h2 := flat_len g N L (fun y hy => h y (List.mem_cons_of_mem _ hy))
    omega
theorem solves_len {R C : List (List Int)} (hc : C.length ≤ 5) : ∀ (f : Nat) (rows : List (List Int)), (solves R C f rows).length ≤ 6 ^ f := by
  intro f
  induction f with
  | zero => intro rows; unfold solves; split <;> simp
  | succ f ih =>
    intro rows
    unfold solves
    have h1 := flat_len (fun l => solves R C f (rows ++ [l])) (6 ^ f) (linesFor (R.getD rows.length []) C.length) (fun l _ => ih _)
    have h2 := Nat.mul_le_mul_right (6 ^ f) (lines_six hc (R.getD rows.length []))
    rw [Nat.pow_succ]
    omega
theorem solvesTo_len {R C : List (List Int)} (hc : C.length ≤ 5) (f : Nat) (rows L : List (List Int)) (k : Nat) : (solvesTo R C f rows L k).length ≤ k * 6 ^ f := by
  unfold solvesTo
  have h1 := flat_len (fun l => solves R C f (rows ++ [l])) (6 ^ f) (L.take k) (fun l _ => solves_len hc _ _)
  have h2 : (L.take k).length ≤ k := by rw [List.length_take]; omega
  exact Nat.le_trans h1 (Nat.mul_le_mul_right _ h2)
/-- rows of c bits -/
def BRows (c : Nat) (rows : List (List Int)) : Prop := ∀ row ∈ rows, row.length = c ∧ ∀ x ∈ row, 0 ≤ x ∧ x ≤ 1
theorem BRows.snoc {c : Nat} {rows : List (List Int)} {rs l : List Int} (h : BRows c rows) (hl : l ∈ linesFor rs c) : BRows c (rows ++ [l]) := by
  intro row hrow
  rcases List.mem_append.1 hrow with h1 | h1
  · exact h row h1
  · rw [List.mem_singleton] at h1
    subst h1
    exact linesTo_mem hl
theorem solves_shape {R C : List (List Int)} : ∀ (f : Nat) (rows : List (List Int)), BRows C.length rows → ∀ m ∈ solves R C f rows, Shape (rows.length + f) C.length m := by
  intro f
  induction f with
  | zero =>
    intro rows hb m hm
    unfold solves at hm
    split at hm
    · rw [List.mem_singleton] at hm; subst hm; exact ⟨by omega, hb⟩
    · cases hm
  | succ f ih =>
    intro rows hb m hm
    unfold solves at hm
    obtain ⟨l, hl, hm⟩ := List.mem_flatMap.1 hm
    have := ih (rows ++ [l]) (hb.snoc hl) m hm
    rw [List.length_append, List.length_singleton] at this
    have e : rows.length + 1 + f = rows.length + (f + 1) := by omega
    rw [e] at this
    exact this
def solutions (R C : List (List Int)) : List (List (List Int)) := if puzzleOk R C then solves R C R.length [] else []
theorem solutions_no {R C : List (List Int)} (h : puzzleOk R C = false) : solutions R C = [] := by unfold solutions; rw [h]; rfl
theorem solutions_yes {R C : List (List Int)} (h : puzzleOk R C = true) : solutions R C = solves R C R.length [] := by unfold solutions; rw [h]; rfl
end Go.Proofs.Ytekgnpdchpdfiaa

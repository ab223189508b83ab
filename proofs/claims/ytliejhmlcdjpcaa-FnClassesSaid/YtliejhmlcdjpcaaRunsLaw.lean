/- FnRuns: what the law rests on, with no program in sight. -/
import Derived.Test.YtliejhmlcdjpcaaLinesLaw
namespace Go.Proofs.Ytliejhmlcdjpcaa

def lessL : List Int → List Int → Bool
  | a :: al, b :: bl => if a ≠ b then decide (a < b) else lessL al bl
  | _, _ => false
theorem lessL_nil_right (a : List Int) : lessL a [] = false := by cases a <;> rfl
theorem lessL_step {a b : List Int} {k : Nat} {x y : Int} (hx : a[k]? = some x) (hy : b[k]? = some y) : lessL (a.drop k) (b.drop k) = if x ≠ y then decide (x < y) else lessL (a.drop (k + 1)) (b.drop (k + 1)) := by
  obtain ⟨h1, h1'⟩ := List.getElem?_eq_some_iff.1 hx
  obtain ⟨h2, h2'⟩ := List.getElem?_eq_some_iff.1 hy
  rw [List.drop_eq_getElem_cons h1, List.drop_eq_getElem_cons h2, h1', h2']
  rfl
theorem lessL_end {a b : List Int} {k : Nat} (h : a.length ≤ k ∨ b.length ≤ k) : lessL (a.drop k) (b.drop k) = false := by
  rcases h with h | h
  · rw [List.drop_of_length_le h]; rfl
  · rw [List.drop_of_length_le h]; exact lessL_nil_right _
theorem lessL_snoc_eq (a : List Int) (x y : Int) : lessL (a ++ [x]) (a ++ [y]) = decide (x < y) := by
  induction a with
  | nil => simp [lessL]; omega
  | cons c a ih => simp [lessL, ih]
theorem lessL_snoc {x y : Int} : ∀ {a b : List Int}, a.length = b.length → lessL a b = true → lessL (a ++ [x]) (b ++ [y]) = true := by
  intro a
  induction a with
  | nil => intro b hl h; simp [lessL] at h
  | cons c a ih =>
    intro b hl h
    cases b with
    | nil => simp at hl
    | cons d b =>
      simp only [lessL, List.cons_append] at h ⊢
      split
      · rename_i hne; rw [if_pos hne] at h; exact h
      · rename_i hne; rw [if_neg hne] at h; exact ih (by simpa using hl) h
theorem bits_less : ∀ (n k1 k2 : Nat), k1 < k2 → k2 < 2 ^ n → lessL (bitsLine n k1) (bitsLine n k2) = true := by
  intro n
  induction n with
  | zero => intro k1 k2 h1 h2; simp at h2; omega
  | succ n ih =>
    intro k1 k2 h1 h2
    rw [bitsLine_succ, bitsLine_succ]
    rw [Nat.pow_succ] at h2
    by_cases he : k1 / 2 = k2 / 2
    · rw [he, lessL_snoc_eq]
      simp
      omega
    · exact lessL_snoc (by simp [bitsLine_len]) (ih _ _ (by omega) (by omega))
theorem linesFor_up (rs : List Int) (n : Nat) : (linesFor rs n).Pairwise fun a b => lessL a b = true := by
  unfold linesFor linesTo
  apply List.Pairwise.filter
  rw [List.pairwise_map]
  refine List.Pairwise.imp_of_mem ?_ List.pairwise_lt_range
  intro a b _ hb hab
  exact bits_less n a b hab (List.mem_range.1 hb)
theorem linesFor_less {rs : List Int} {n k : Nat} {x y : List Int} (hx : (linesFor rs n)[k]? = some x) (hy : (linesFor rs n)[k + 1]? = some y) : lessL x y = true := by
  obtain ⟨h1, rfl⟩ := List.getElem?_eq_some_iff.1 hx
  obtain ⟨h2, rfl⟩ := List.getElem?_eq_some_iff.1 hy
  exact List.pairwise_iff_getElem.1 (linesFor_up rs n) k (k + 1) h1 h2 (by omega)
theorem linesFor_runs {rs : List Int} {n : Nat} {x : List Int} (h : x ∈ linesFor rs n) : runsOf x = rs := by
  unfold linesFor linesTo at h
  rw [List.mem_filter] at h
  simpa using h.2
theorem sumL_snoc (a : List Int) (x : Int) : sumL (a ++ [x]) = sumL a + x := by simp [sumL]
theorem runs_total {xs : List Int} : (∀ x ∈ xs, 0 ≤ x ∧ x ≤ 1) → sumL (runsOf xs) = sumL xs := by
  intro h
  have key : ∀ ys : List Int, (∀ x ∈ ys, 0 ≤ x ∧ x ≤ 1) → sumL (runsSt ys).1 + ((runsSt ys).2 : Int) = sumL ys := by
    intro ys
    induction ys using snoc_ind with
    | h0 => intro _; rfl
    | h1 l x ih =>
      intro hb
      have h1 := ih (fun z hz => hb z (by simp [hz]))
      have hx := hb x (by simp)
      have e : runsSt (l ++ [x]) = runsStep (runsSt l) x := by simp [runsSt]
      rw [e, sumL_snoc]
      unfold runsStep
      split
      · rename_i hx1; subst hx1; simp only; push_cast; omega
      · rename_i hx1
        have hx0 : x = 0 := by omega
        subst hx0
        simp only [runsFin]
        split
        · rw [sumL_snoc]; push_cast; omega
        · rename_i hz
          have : (runsSt l).2 = 0 := by omega
          rw [this] at h1
          simpa using h1
  unfold runsOf runsFin
  have := key xs h
  split
  · rw [sumL_snoc]; exact this
  · rename_i hz
    have h0 : (runsSt xs).2 = 0 := by omega
    rw [h0] at this
    simpa using this
theorem runs_bd (xs : List Int) : ∀ x ∈ runsOf xs, 0 ≤ x ∧ x ≤ xs.length := by
  have key : ∀ ys : List Int, (∀ x ∈ (runsSt ys).1, 0 ≤ x ∧ x ≤ (ys.length : Int)) ∧ (runsSt ys).2 ≤ ys.length := by
    intro ys
    induction ys using snoc_ind with
    | h0 => exact ⟨fun x hx => by simp [runsSt] at hx, by simp [runsSt]⟩
    | h1 l x ih =>
      obtain ⟨h1, h2⟩ := ih
      have e : runsSt (l ++ [x]) = runsStep (runsSt l) x := by simp [runsSt]
      rw [e, List.length_append, List.length_singleton]
      unfold runsStep
      split
      · exact ⟨fun z hz => by have := h1 z hz; push_cast; omega, by simp only; omega⟩
      · refine ⟨fun z hz => ?_, by simp⟩
        simp only [runsFin] at hz
        split at hz
        · rcases List.mem_append.1 hz with hz | hz
          · have := h1 z hz; push_cast; omega
          · simp at hz; subst hz; push_cast; omega
        · have := h1 z hz; push_cast; omega
  intro x hx
  obtain ⟨h1, h2⟩ := key xs
  unfold runsOf runsFin at hx
  split at hx
  · rcases List.mem_append.1 hx with hx | hx
    · exact h1 x hx
    · simp at hx; omega
  · exact h1 x hx
theorem any_take_step {α : Type} (p : α → Bool) {xs : List α} {k : Nat} {x : α} (h : xs[k]? = some x) : (xs.take (k + 1)).any p = ((xs.take k).any p || p x) := by
  rw [List.take_add_one, h]; simp
end Go.Proofs.Ytliejhmlcdjpcaa

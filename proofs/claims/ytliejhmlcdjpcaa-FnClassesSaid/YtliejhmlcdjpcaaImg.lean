/- Images: plain. -/
import Derived.Test.YtliejhmlcdjpcaaC1
namespace Go.Proofs.Ytliejhmlcdjpcaa

/-- r rows of c cells, each 0 or 1 -/
def Shape (r c : Nat) (m : List (List Int)) : Prop := m.length = r ∧ ∀ row ∈ m, row.length = c ∧ ∀ x ∈ row, 0 ≤ x ∧ x ≤ 1
def rowOk (lo hi : Int) (n : Nat) (row : List Int) : Bool := decide (row.length = n) && inR 1 5 row.length && row.all (inR lo hi)
def gridOkB (lo hi : Int) (m : List (List Int)) : Bool := inR 1 5 m.length && m.all (rowOk lo hi (m.headD []).length)
def imageOk (m : List (List Int)) : Bool := gridOkB 0 1 m

theorem Shape.ok {r c : Nat} {m : List (List Int)} (h : Shape r c m) (h1 : 1 ≤ r) (h2 : r ≤ 5) (h3 : 1 ≤ c) (h4 : c ≤ 5) : imageOk m = true := by
  obtain ⟨hl, hr⟩ := h
  unfold imageOk gridOkB
  rw [Bool.and_eq_true]
  refine ⟨inR_t (by omega) (by omega), ?_⟩
  rw [List.all_eq_true]
  intro row hrow
  have hh : m.headD [] ∈ m := by
    cases m with
    | nil => simp at hrow
    | cons a m => simp
  obtain ⟨e1, e2⟩ := hr row hrow
  obtain ⟨e3, _⟩ := hr _ hh
  simp only [rowOk, Bool.and_eq_true, decide_eq_true_eq, List.all_eq_true]
  exact ⟨⟨by rw [e1, e3], inR_t (by omega) (by omega)⟩, fun x hx => inR_t (e2 x hx).1 (e2 x hx).2⟩

theorem imageOk_shape {m : List (List Int)} (h : imageOk m = true) : ∃ r c, 1 ≤ r ∧ r ≤ 5 ∧ 1 ≤ c ∧ c ≤ 5 ∧ Shape r c m := by
  unfold imageOk gridOkB at h
  rw [Bool.and_eq_true, List.all_eq_true, inR_iff] at h
  obtain ⟨⟨h1, h2⟩, h3⟩ := h
  have hh : m.headD [] ∈ m := by
    cases m with
    | nil => simp at h1
    | cons a m => simp
  have hhead := h3 _ hh
  simp only [rowOk, Bool.and_eq_true, decide_eq_true_eq, List.all_eq_true, inR_iff] at hhead
  refine ⟨m.length, (m.headD []).length, by omega, by omega, by omega, by omega, rfl, fun row hrow => ?_⟩
  have := h3 _ hrow
  simp only [rowOk, Bool.and_eq_true, decide_eq_true_eq, List.all_eq_true, inR_iff] at this
  exact ⟨this.1.1, this.2⟩

theorem Shape.row {r c : Nat} {m : List (List Int)} (h : Shape r c m) {y : Nat} (hy : y < r) : ∃ row, m[y]? = some row ∧ row.length = c ∧ ∀ x ∈ row, 0 ≤ x ∧ x ≤ 1 := by
  have hl : y < m.length := by rw [h.1]; exact hy
  exact ⟨m[y], List.getElem?_eq_getElem hl, h.2 _ (List.getElem_mem hl)⟩

theorem Shape.set {r c : Nat} {m : List (List Int)} (h : Shape r c m) {y x : Nat} {row : List Int} (hy : m[y]? = some row) {n : Int} (h0 : 0 ≤ n) (h1 : n ≤ 1) : Shape r c (m.set y (row.set x n)) := by
  refine ⟨by simp [h.1], fun q hq => ?_⟩
  rcases List.mem_or_eq_of_mem_set hq with hq | rfl
  · exact h.2 q hq
  · obtain ⟨e1, e2⟩ := h.2 row (List.mem_of_getElem? hy)
    refine ⟨by simpa using e1, fun z hz => ?_⟩
    rcases List.mem_or_eq_of_mem_set hz with hz | rfl
    · exact e2 z hz
    · exact ⟨h0, h1⟩
theorem shape_zeros (r c : Nat) : Shape r c (List.replicate r (List.replicate c 0)) := by
  refine ⟨by simp, fun row hrow => ?_⟩
  obtain rfl := List.eq_of_mem_replicate hrow
  refine ⟨by simp, fun x hx => ?_⟩
  obtain rfl := List.eq_of_mem_replicate hx
  exact ⟨by decide, by decide⟩
end Go.Proofs.Ytliejhmlcdjpcaa

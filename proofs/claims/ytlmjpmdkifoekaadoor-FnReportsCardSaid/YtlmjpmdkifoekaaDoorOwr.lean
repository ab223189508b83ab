/- What a sort leaves in memory; contract: slices.Sort. -/
import Derived.Test.YtlmjpmdkifoekaaDoorC1
namespace Go.Proofs.YtlmjpmdkifoekaaDoor
open Go.RowKit

def owr : List Int → Nat → List Int → List Int
  | xs, _, [] => xs
  | xs, o, z :: zs => owr (xs.set o z) (o + 1) zs
theorem owr_get : ∀ (zs xs : List Int) (o i : Nat), o + zs.length ≤ xs.length → (owr xs o zs)[i]? = if o ≤ i ∧ i < o + zs.length then zs[i - o]? else xs[i]?
  | [], xs, o, i, _ => by rw [owr, if_neg (by rw [List.length_nil]; omega)]
  | z :: zs, xs, o, i, h => by
    rw [List.length_cons] at h
    rw [owr, owr_get zs (xs.set o z) (o + 1) i (by rw [List.length_set]; omega), List.length_cons]
    by_cases h1 : o + 1 ≤ i ∧ i < o + 1 + zs.length
    · rw [if_pos h1, if_pos (by omega), show i - o = (i - (o + 1)) + 1 by omega]; rfl
    · rw [if_neg h1]
      by_cases h2 : i = o
      · subst h2
        rw [if_pos (by omega), Nat.sub_self, List.getElem?_set_self (by omega)]; rfl
      · rw [if_neg (by omega), List.getElem?_set_ne (by omega)]
theorem owr_all {xs zs : List Int} (h : zs.length = xs.length) : owr xs 0 zs = zs := by
  apply List.ext_getElem?
  intro i
  rw [owr_get zs xs 0 i (by omega)]
  by_cases h1 : i < zs.length
  · rw [if_pos (by omega), Nat.sub_zero]
  · rw [if_neg (by omega), List.getElem?_eq_none (by omega), List.getElem?_eq_none (by omega)]
theorem Own.setInts {E : TypeId} {S : Bk} {g n cap : Nat} : ∀ (zs xs : List Int) (o : Nat) (w : World), Own E IntV S w (.slice (some ⟨g, 0, none⟩) n cap) xs → o + zs.length ≤ xs.length → (∀ z ∈ zs, I64 z) → Own E IntV S (w.setCells g o (zs.map (Value.int .i64))) (.slice (some ⟨g, 0, none⟩) n cap) (owr xs o zs)
  | [], xs, o, w, h, _, _ => h
  | z :: zs, xs, o, w, h, hl, hI => by
    rw [List.length_cons] at hl
    exact Own.setInts zs (xs.set o z) (o + 1) (w.setCell ⟨g, o, none⟩ (.int .i64 z)) (h.setInt (by omega) (hI z (by simp))) (by rw [List.length_set]; omega) (fun y hy => hI y (List.mem_cons_of_mem _ hy))
theorem below_setCellsN {B g : Nat} {a : World} (hg : B ≤ g) : ∀ (zs : List Value) (o : Nat) (w : World), Below B a w → Below B a (w.setCells g o zs)
  | [], _, _, h => h
  | z :: zs, o, w, h => below_setCellsN hg zs (o + 1) (w.setCell ⟨g, o, none⟩ z) (h.setCell (show B ≤ (⟨g, o, none⟩ : Addr).block from hg) z)
theorem onlySetCells {S : Bk} {g : Nat} {a : World} (hg : S g) : ∀ (zs : List Value) (o : Nat) (w : World), Only S a w → Only S a (w.setCells g o zs)
  | [], _, _, h => h
  | z :: zs, o, w, h => onlySetCells hg zs (o + 1) (w.setCell ⟨g, o, none⟩ z) (h.setCell (.inl hg) z)
theorem size_setCells (g : Nat) : ∀ (zs : List Value) (o : Nat) (w : World), (w.setCells g o zs).heap.size = w.heap.size
  | [], _, _ => rfl
  | z :: zs, o, w => (size_setCells g zs (o + 1) (w.setCell ⟨g, o, none⟩ z)).trans (size_setCell _ _ _)
/-- the sorted list, rising -/
def sortU (xs : List Int) : List Int := xs.mergeSort (fun x y => decide (x ≤ y))
theorem sortU_perm (xs : List Int) : (sortU xs).Perm xs := List.mergeSort_perm _ _
theorem sortU_len (xs : List Int) : (sortU xs).length = xs.length := (sortU_perm xs).length_eq
theorem sortU_sorted (xs : List Int) : (sortU xs).Pairwise (fun a b => a ≤ b) := by
  have h := List.pairwise_mergeSort (le := fun x y : Int => decide (x ≤ y)) (fun a b c h1 h2 => by simp at *; omega) (fun a b => by simp; omega) xs
  exact h.imp fun h => by simpa using h
end Go.Proofs.YtlmjpmdkifoekaaDoor

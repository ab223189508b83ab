/- Contract: SolveLine. -/
import Derived.Test.YtliejhmlcdjpcaaC6
import Derived.Lib.SliceRun
namespace Go.Proofs.Ytliejhmlcdjpcaa
open Go.RowKit

/-- what SolveLine returns: a new line and true, or nil and false -/
def SolveRes (w : World) (r : Option (List Int)) (e : Ending) (w' : World) : Prop :=
  Below w.heap.size w w' ∧ match r with
  | none => e = .returned (.tuple #[.slice none 0 0, .bool false])
  | some o => ∃ v', e = .returned (.tuple #[v', .bool true]) ∧ Own 3 IntV (Iv w.heap.size w'.heap.size) w' v' o

theorem Own.set_self {α : Type} {E : TypeId} {R : RepT α} {S : Bk} {w : World} {v : Value} {xs : List α} {k : Nat} {x : α} (h : Own E R S w v xs) (hk : xs[k]? = some x) : Own E R S w v (xs.set k x) := by
  obtain ⟨h1, h2⟩ := List.getElem?_eq_some_iff.1 hk
  have : xs.set k x = xs := by rw [← h2]; exact List.set_getElem_self h1
  rwa [this]

/-- where the state of the search lies -/
def SolveAt (S : Bk) (L : List (List Int)) (g cap : Nat) (wr : World) (v6 : Value) (acc : Option (List Int)) (k : Nat) : Prop :=
  match acc with
  | none => v6 = .slice none 0 0 ∧ Own 25 (Own 3 IntV) S wr (.slice (some ⟨g, 0, none⟩) L.length cap) L
  | some o => ∃ k0, k0 < k ∧ Own 25 (Own 3 IntV) S wr (.slice (some ⟨g, 0, none⟩) L.length cap) (L.set k0 o) ∧ wr.cell? ⟨g, k0, none⟩ = some v6

end Go.Proofs.Ytliejhmlcdjpcaa

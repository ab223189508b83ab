/- Contracts: puzzles: PuzzleOk, the comparison and copies of puzzles. Contracts: PuzzleOk. Contracts: PuzzleOf. Contracts: PuzzleOf; marks of puzzles. -/
import Derived.Test.YtningnjdafhgkaaDoorC12
import Derived.Test.YtningnjdafhgkaaDoorMem
import Derived.Test.YtningnjdafhgkaaDoorC1
namespace Go.Proofs.YtningnjdafhgkaaDoor
open Go.RowKit

/-- two owned grids, one behind the other -/
def OwnPz (lo hi : Nat) (w : World) (a b : Value) (x y : List (List Int)) : Prop :=
  ∃ M, lo ≤ M ∧ M ≤ hi ∧ Own 22 (Own 3 IntV) (Iv lo M) w a x ∧ Own 22 (Own 3 IntV) (Iv M hi) w b y
theorem OwnPz.keep {lo hi : Nat} {w w' : World} {a b : Value} {x y : List (List Int)} (h : OwnPz lo hi w a b x y) (hb : Below w.heap.size w w') (hh : hi ≤ w.heap.size) : OwnPz lo hi w' a b x y := by
  obtain ⟨M, h1, h2, o1, o2⟩ := h
  exact ⟨M, h1, h2, Own.keep (rOwn rIntV) o1 hb (by omega), Own.keep (rOwn rIntV) o2 hb hh⟩
theorem OwnPz.only {lo hi : Nat} {T : Bk} {w w' : World} {a b : Value} {x y : List (List Int)} (h : OwnPz lo hi w a b x y) (ho : Only T w w') (hh : hi ≤ w.heap.size) (hd : ∀ b, lo ≤ b → b < hi → ¬ T b) : OwnPz lo hi w' a b x y := by
  obtain ⟨M, h1, h2, o1, o2⟩ := h
  exact ⟨M, h1, h2, (rOwn (rOwn rIntV)).same (ho.same (T := Iv lo M) (fun b hb => hd b hb.1 (by have := hb.2; omega)) (fun b hb => by have := hb.2; omega)) o1,
    (rOwn (rOwn rIntV)).same (ho.same (T := Iv M hi) (fun b hb => hd b (by have := hb.1; omega) hb.2) (fun b hb => by have := hb.2; omega)) o2⟩
theorem OwnPz.shape {lo hi : Nat} {w : World} {a b : Value} {x y : List (List Int)} (h : OwnPz lo hi w a b x y) : (∃ p q r, a = .slice p q r) ∧ (∃ p q r, b = .slice p q r) := by
  obtain ⟨M, h1, h2, o1, o2⟩ := h
  exact ⟨o1.shape, o2.shape⟩
theorem OwnPz.reads {lo hi : Nat} {w : World} {a b : Value} {x y : List (List Int)} (h : OwnPz lo hi w a b x y) : Grid w a x ∧ Grid w b y := by
  obtain ⟨M, h1, h2, o1, o2⟩ := h
  exact ⟨o1.grid, o2.grid⟩
theorem OwnPz.wide {lo hi lo' hi' : Nat} {w : World} {a b : Value} {x y : List (List Int)} (h : OwnPz lo hi w a b x y) (h1 : lo' ≤ lo) (h2 : hi ≤ hi') : OwnPz lo' hi' w a b x y := by
  obtain ⟨M, k1, k2, o1, o2⟩ := h
  exact ⟨M, by omega, by omega, (rOwn (rOwn rIntV)).mono (fun b hb => ⟨by have := hb.1; omega, hb.2⟩) o1, (rOwn (rOwn rIntV)).mono (fun b hb => ⟨hb.1, by have := hb.2; omega⟩) o2⟩


end Go.Proofs.YtningnjdafhgkaaDoor

namespace Go.Proofs.YtningnjdafhgkaaDoor
open Go.RowKit

end Go.Proofs.YtningnjdafhgkaaDoor

namespace Go.Proofs.YtningnjdafhgkaaDoor
open Go.RowKit

theorem sum_le_of5 {l : List Nat} {m : Nat} (h : ∀ x ∈ l, x ≤ m) : l.sum ≤ l.length * m := by
  induction l with
  | nil => simp
  | cons a l ih =>
    have h1 := h a (by simp)
    have h2 := ih (fun x hx => h x (by simp [hx]))
    simp only [List.sum_cons, List.length_cons, Nat.succ_mul]
    omega
theorem map_take_snoc' {α β : Type} (f : α → β) {m : List α} {k : Nat} {x : α} (h : m[k]? = some x) : (m.take (k + 1)).map f = (m.take k).map f ++ [f x] := by
  rw [List.take_add_one, h]; simp


def pzRows (m : List (List Int)) : List (List Int) := if imageOk m then m.map runsOf else []
def pzCols (m : List (List Int)) : List (List Int) := if imageOk m then (tr m).map runsOf else []
theorem map_runs_bd {m : List (List Int)} (h : imageOk m = true) : (m.map runsOf).length ≤ 5 ∧ cells (m.map runsOf) ≤ 25 := by
  obtain ⟨r, c, h1, h2, h3, h4, hs⟩ := imageOk_shape h
  refine ⟨by simp [hs.1, h2], ?_⟩
  unfold cells
  have h5 : ∀ x ∈ ((m.map runsOf).map List.length), x ≤ 5 := by
    intro x hx
    simp only [List.map_map, List.mem_map, Function.comp] at hx
    obtain ⟨r', hr, rfl⟩ := hx
    have := runsOf_len r'
    have := (hs.2 r' hr).1
    omega
  have := sum_le_of5 h5
  simp only [List.length_map, hs.1] at this
  omega
theorem pz_bd (m : List (List Int)) : (pzRows m).length ≤ 5 ∧ cells (pzRows m) ≤ 25 ∧ (pzCols m).length ≤ 5 ∧ cells (pzCols m) ≤ 25 := by
  unfold pzRows pzCols
  cases h : imageOk m
  · simp [cells]
  · have h1 := map_runs_bd h
    have h2 := map_runs_bd (imageOk_tr h)
    exact ⟨h1.1, h1.2, h2.1, h2.2⟩
end Go.Proofs.YtningnjdafhgkaaDoor

namespace Go.Proofs.YtningnjdafhgkaaDoor
open Go.RowKit

def PzRes (w : World) (x y : List (List Int)) (ok : Bool) (e : Ending) (w' : World) : Prop :=
  ∃ a b, e = .returned (.tuple #[.agg #[a, b], .bool ok]) ∧ OwnPz w.heap.size w'.heap.size w' a b x y ∧ Below w.heap.size w w'

end Go.Proofs.YtningnjdafhgkaaDoor

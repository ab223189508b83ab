/- Contracts: puzzles: PuzzleOk, the comparison and copies of puzzles. -/
import Derived.Test.YtekgnpdchpdfiaaDoorC14
import Derived.Test.YtekgnpdchpdfiaaDoorBlk
namespace Go.Proofs.YtekgnpdchpdfiaaDoor
open Go.RowKit

/-- two owned grids, one behind the other -/
def OwnPz (lo hi : Nat) (w : World) (a b : Value) (x y : List (List Int)) : Prop :=
  ∃ M, lo ≤ M ∧ M ≤ hi ∧ Own 29 (Own 3 IntV) (Iv lo M) w a x ∧ Own 29 (Own 3 IntV) (Iv M hi) w b y
theorem OwnPz.keep {lo hi : Nat} {w w' : World} {a b : Value} {x y : List (List Int)} (h : OwnPz lo hi w a b x y) (hb : Below w.heap.size w w') (hh : hi ≤ w.heap.size) : OwnPz lo hi w' a b x y := by
  obtain ⟨M, h1, h2, o1, o2⟩ := h
  exact ⟨M, h1, h2, Own.keep (rOwn rIntV) o1 hb (by omega), Own.keep (rOwn rIntV) o2 hb hh⟩
theorem OwnPz.only {lo hi : Nat} {T : Bk} {w w' : World} {a b : Value} {x y : List (List Int)} (h : OwnPz lo hi w a b x y) (ho : Only T w w') (hh : hi ≤ w.heap.size) (hd : ∀ b, lo ≤ b → b < hi → ¬ T b) : OwnPz lo hi w' a b x y := by
  obtain ⟨M, h1, h2, o1, o2⟩ := h
  exact ⟨M, h1, h2, (rOwn (rOwn rIntV)).same (ho.same (T := Iv lo M) (fun b hb => hd b hb.1 (by have := hb.2; omega)) (fun b hb => by have := hb.2; omega)) o1,
    (rOwn (rOwn rIntV)).same (ho.same (T := Iv M hi) (fun b hb => hd b (by have := hb.1; omega) hb.2) (fun b hb => by have := hb.2; omega)) o2⟩
theorem OwnPz.shape {lo hi : Nat} {w : World} {a b : Value} {x y : List (List Int)} (h : OwnPz lo hi w a b x y) : (∃ p q r, a = .slice p q r) ∧ (∃ p q r, b = .slice p q r) := by
  obtain ⟨M, h1, h2, o1, o2⟩ := h
  exact ⟨o1.shape, o2.shape⟩
theorem OwnPz.reads {lo hi : Nat} {w : World} {a b : Value} {x y : List (List Int)} (h : OwnPz lo hi w a b x y) : Grid w a x ∧ Grid w b y := by
  obtain ⟨M, h1, h2, o1, o2⟩ := h
  exact ⟨o1.grid, o2.grid⟩
theorem OwnPz.wide {lo hi lo' hi' : Nat} {w : World} {a b : Value} {x y : List (List Int)} (h : OwnPz lo hi w a b x y) (h1 : lo' ≤ lo) (h2 : hi ≤ hi') : OwnPz lo' hi' w a b x y := by
  obtain ⟨M, k1, k2, o1, o2⟩ := h
  exact ⟨M, by omega, by omega, (rOwn (rOwn rIntV)).mono (fun b hb => ⟨by have := hb.1; omega, hb.2⟩) o1, (rOwn (rOwn rIntV)).mono (fun b hb => ⟨hb.1, by have := hb.2; omega⟩) o2⟩


end Go.Proofs.YtekgnpdchpdfiaaDoor

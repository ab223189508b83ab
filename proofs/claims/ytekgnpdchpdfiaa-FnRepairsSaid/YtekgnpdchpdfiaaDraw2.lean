/- Contracts of the functions that draw images. -/
import Derived.Test.YtekgnpdchpdfiaaDraw
import Derived.Test.YtekgnpdchpdfiaaImg
import Derived.Deep.RegionWith
namespace Go.Proofs.Ytekgnpdchpdfiaa
open Go.RowKit

/-- the cell (y, x) of an owned grid of integers: where it lies, and what a store there makes of the grid -/
theorem own_grid_cell {E E' : TypeId} {S : Bk} {w : World} {g n cap : Nat} {m : List (List Int)} (h : Own E (Own E' IntV) S w (.slice (some ⟨g, 0, none⟩) n cap) m) {y : Nat} {row : List Int} (hy : m[y]? = some row) (hne : 0 < row.length) :
    ∃ q cq, w.cell? ⟨g, y, none⟩ = some (.slice (some ⟨q, 0, none⟩) row.length cq) ∧ S g ∧ S q ∧ q ≠ g ∧ row.length ≤ cq ∧ (∀ x, x < row.length → (∃ o, w.cell? ⟨q, x, none⟩ = some (.int .i64 o)) ∧ w.frozen? ⟨q, x, none⟩ = false) ∧
      (∀ x o, row[x]? = some o → w.cell? ⟨q, x, none⟩ = some (.int .i64 o)) ∧
      ∀ (w' : World), SameOn S w w' → ∀ (x : Nat) (n' : Int), x < row.length → I64 n' → Own E (Own E' IntV) S (w'.setCell ⟨q, x, none⟩ (.int .i64 n')) (.slice (some ⟨g, 0, none⟩) n cap) (m.set y (row.set x n')) := by
  obtain ⟨hSg, -, -, -, T, u, hu, hr, hT, -, hback⟩ := h.focus (rOwn rIntV) hy
  obtain ⟨q, cq, rfl, hq, hcq, hqs, -⟩ := hr.inv_ne hne
  refine ⟨q, cq, hu, hSg, (hT q hq).1, (hT q hq).2, hcq, fun x hx => ?_, fun x o ho => (hr.ints_cell ho).1, fun w' hs x n' hx hn' => ?_⟩
  · obtain ⟨o, h1, h2⟩ := hr.ints_at hx
    exact ⟨⟨o, h1⟩, h2⟩
  · exact hback _ _ (fun b hb hnb => (Below.heap_setCell w' _ _ b (fun e => by subst e; exact hnb hq)).trans (hs b hb)) (((rOwn rIntV).same (fun b hb => hs b (hT b hb).1) hr).setInt hx hn')

end Go.Proofs.Ytekgnpdchpdfiaa

/- Structs. From a row's reading of an argument to what the walks ask. -/
import Derived.Test.YtekgnpdchpdfiaaRowGrid
import Derived.Test.YtekgnpdchpdfiaaC1
namespace Go.Proofs.Ytekgnpdchpdfiaa
open Go.ChangeShapes Go.WideShapes Go.ChangeAt Go.RowKit Go.Deep Go.Joins

section
variable {H : Type} {enc : TypeId × Value → H} {W : World} {base : Nat} {v : Value} {d : DataW H} {ps : List MemPlace}
set_option maxRecDepth 100000 in
theorem puzzle_open (hv : Value.okWide Try.prog W .any base 24 v) (h : DataW.Trod enc Try.prog W 0 (fun _ => true) true 24 v d ps) : ∃ p : List (List Int) × List (List Int), ∃ a b, v = .agg #[a, b] ∧ Grid W a p.1 ∧ Grid W b p.2 := by
  obtain ⟨a, b, y0, y1, n, rfl, -, -, h0, h1⟩ := open_agg2 Try.underlying24 (by kernel_rfl) (by kernel_rfl) hv h
  obtain ⟨x, hx⟩ := trod_grid Try.underlying22 Try.underlying41 Try.underlying3 (by kernel_rfl) (by kernel_rfl) h0
  obtain ⟨y, hy⟩ := trod_grid Try.underlying22 Try.underlying41 Try.underlying3 (by kernel_rfl) (by kernel_rfl) h1
  exact ⟨(x, y), a, b, rfl, hx, hy⟩
end
end Go.Proofs.Ytekgnpdchpdfiaa

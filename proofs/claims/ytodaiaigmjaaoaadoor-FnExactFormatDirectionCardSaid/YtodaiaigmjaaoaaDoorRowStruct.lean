/- Structs. From a row's reading of an argument to what the walks ask. -/
import Derived.Test.YtodaiaigmjaaoaaDoorRowGrid
import Derived.Test.YtodaiaigmjaaoaaDoorC1
namespace Go.Proofs.YtodaiaigmjaaoaaDoor
open Go.ChangeShapes Go.WideShapes Go.ChangeAt Go.RowKit Go.Deep Go.Joins

section
variable {H : Type} {enc : TypeId × Value → H} {W : World} {base : Nat} {v : Value} {d : DataW H} {ps : List MemPlace}
set_option maxRecDepth 100000 in
theorem dir_open (hv : Value.okWide Tryd.prog W .any base 41 v) (h : DataW.Trod enc Tryd.prog W 0 (fun _ => true) true 41 v d ps) : ∃ p : Int × Int, v = .agg #[.int .i64 p.1, .int .i64 p.2] ∧ I64 p.1 ∧ I64 p.2 := by
  obtain ⟨a, b, y0, y1, n, rfl, -, -, h0, h1⟩ := open_agg2 Tryd.underlying41 (by kernel_rfl) (by kernel_rfl) hv h
  obtain ⟨x, rfl, hx⟩ := trod_intV Tryd.underlying3 h0
  obtain ⟨y, rfl, hy⟩ := trod_intV Tryd.underlying3 h1
  exact ⟨(x, y), rfl, hx, hy⟩
end
end Go.Proofs.YtodaiaigmjaaoaaDoor

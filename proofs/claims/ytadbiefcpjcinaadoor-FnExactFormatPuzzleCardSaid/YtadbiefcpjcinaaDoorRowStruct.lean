/- Structs. From a row's reading of an argument to what the walks ask. -/
import Derived.Test.YtadbiefcpjcinaaDoorRowGrid
import Derived.Test.YtadbiefcpjcinaaDoorC1
namespace Go.Proofs.YtadbiefcpjcinaaDoor
open Go.ChangeShapes Go.WideShapes Go.ChangeAt Go.RowKit Go.Deep Go.Joins

section
variable {H : Type} {enc : TypeId × Value → H} {W : World} {base : Nat} {v : Value} {d : DataW H} {ps : List MemPlace}
set_option maxRecDepth 100000 in
theorem puzzle_open (hv : Value.okWide Tryd.prog W .any base 51 v) (h : DataW.Trod enc Tryd.prog W 0 (fun _ => true) true 51 v d ps) : ∃ p : List (List Int) × List (List Int), ∃ a b, v = .agg #[a, b] ∧ Grid W a p.1 ∧ Grid W b p.2 := by
  obtain ⟨a, b, y0, y1, n, rfl, -, -, h0, h1⟩ := open_agg2 Tryd.underlying51 (by kernel_rfl) (by kernel_rfl) hv h
  obtain ⟨x, hx⟩ := trod_grid Tryd.underlying44 Tryd.underlying23 Tryd.underlying3 (by kernel_rfl) (by kernel_rfl) h0
  obtain ⟨y, hy⟩ := trod_grid Tryd.underlying44 Tryd.underlying23 Tryd.underlying3 (by kernel_rfl) (by kernel_rfl) h1
  exact ⟨(x, y), a, b, rfl, hx, hy⟩
set_option maxRecDepth 100000 in
theorem switch_open (hv : Value.okWide Tryd.prog W .any base 37 v) (h : DataW.Trod enc Tryd.prog W 0 (fun _ => true) true 37 v d ps) : ∃ p : Int × Int × Int × Int, v = .agg #[.int .i64 p.1, .int .i64 p.2.1, .int .i64 p.2.2.1, .int .i64 p.2.2.2] ∧ I64 p.1 ∧ I64 p.2.1 ∧ I64 p.2.2.1 ∧ I64 p.2.2.2 := by
  obtain ⟨a, b, c, e, y0, y1, y2, y3, n, rfl, -, -, h0, h1, h2, h3⟩ := open_agg4 Tryd.underlying37 (by kernel_rfl) (by kernel_rfl) hv h
  obtain ⟨x, rfl, hx⟩ := trod_intV Tryd.underlying3 h0
  obtain ⟨y, rfl, hy⟩ := trod_intV Tryd.underlying3 h1
  obtain ⟨z, rfl, hz⟩ := trod_intV Tryd.underlying3 h2
  obtain ⟨q, rfl, hq⟩ := trod_intV Tryd.underlying3 h3
  exact ⟨(x, y, z, q), rfl, hx, hy, hz, hq⟩
end
end Go.Proofs.YtadbiefcpjcinaaDoor

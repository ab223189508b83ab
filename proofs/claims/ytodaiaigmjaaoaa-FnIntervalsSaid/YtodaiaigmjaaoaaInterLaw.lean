/- FnIntervals: what holds of each row, by looking at all rows. -/
import Derived.Test.YtodaiaigmjaaoaaC25
import Derived.Test.YtodaiaigmjaaoaaLinesLaw
namespace Go.Proofs.Ytodaiaigmjaaoaa

def rowFacts (row : List Int) : Bool :=
  decide (0 ≤ firstOf row) && decide (firstOf row + sumL row ≤ row.length) && decide (0 ≤ sumL row) && (interOk row == decide ((runsOf row).length ≤ 1)) &&
    (!interOk row || decide (sumL row = sumL (runsOf row))) && (!interOk row || decide (sumL row ≤ 0) || (decide (firstOf row < row.length) && decide (row.getD (firstOf row).toNat 0 = 1))) &&
    (decide (row.length = 0) || decide (firstOf row < row.length))
theorem all_rows : ((List.range 6).all fun n => (List.range (2 ^ n)).all fun key => rowFacts (bitsLine n key)) = true := by decide +kernel
theorem row_facts {row : List Int} (hl : row.length ≤ 5) (hb : ∀ x ∈ row, 0 ≤ x ∧ x ≤ 1) : rowFacts row = true := by
  obtain ⟨h1, h2⟩ := line_key row hb
  have h := all_rows
  rw [List.all_eq_true] at h
  have h3 := h row.length (List.mem_range.2 (by omega))
  rw [List.all_eq_true] at h3
  have h4 := h3 (keyOfLine row) (List.mem_range.2 h1)
  rwa [h2] at h4
end Go.Proofs.Ytodaiaigmjaaoaa

/-
  DERIVED. GIVEN WITH THE SEED: THE CARDS: each row of YtlmjpmdkifoekaaDoorRows.lean that lists a variable, with what it lists TIED to the program's text (the seventh form; the later family's looks); each row that meets fmt, with fmt's text TOLD by the authors' own Lean function (tested against real Go, not proved from fmt's source: count such statements apart). THE CARD IS WHAT COUNTS. Prove the row's statement (the work); the ties are given (YtlmjpmdkifoekaaDoorTie.lean); close each card by the builder's one call (the guide's Derived/Test/ToyasCard.lean, 'card_holds'). Laid BY PROGRAM, IN A SANDBOX (cutbox-door.mjs). By AI agents, Wed Nov 11 2026. No macro, syntax, notation, axiom, sorry.
-/
import Derived.Test.YtlmjpmdkifoekaaDoorRows
import GoSem.ClaimSeven
namespace Go.Proofs.YtlmjpmdkifoekaaDoor
namespace Rows

/-- THE TIED CARD OF 'laws.FnTop'. -/
def fnTopCard : Claim7 := { stood := { row := fnTopRow, standIns := [], harness := (true, "5cf7e210b242b6b2dafa386a900676ecfeb0571724eb89e11bea3c098bedae7d"), looks := false }, kinds := [], alts := [], laidByText := true, laidKinds := [.data, .data, .data], laidTests := true, laidLooks := .later }
def FnTopCardSaid : Prop := Claim7.holds Tryd.pinned (.plain (OpenSpec.ofChange fnTopSpec)) fnTopCard

/-- THE TIED CARD OF 'laws.FnDeduced'. -/
def fnDeducedCard : Claim7 := { stood := { row := fnDeducedRow, standIns := [], harness := (true, "5cf7e210b242b6b2dafa386a900676ecfeb0571724eb89e11bea3c098bedae7d"), looks := false }, kinds := [], alts := [], laidByText := true, laidKinds := [.data, .data, .data], laidTests := true, laidLooks := .later }
def FnDeducedCardSaid : Prop := Claim7.holds Tryd.pinned (.plain (OpenSpec.ofChange fnDeducedSpec)) fnDeducedCard

/-- THE TIED CARD OF 'laws.FnExactPathLine'. -/
def fnExactPathLineCard : Claim7 := { stood := { row := fnExactPathLineRow, standIns := [], harness := (true, "5cf7e210b242b6b2dafa386a900676ecfeb0571724eb89e11bea3c098bedae7d"), looks := false }, kinds := [], alts := [], laidByText := true, laidKinds := [.data, .data, .data], laidTests := true, laidLooks := .later }
def FnExactPathLineCardSaid : Prop := Claim7.holds Tryd.pinned (.plain (OpenSpec.ofChange fnExactPathLineSpec)) fnExactPathLineCard

/-- THE TIED CARD OF 'laws.FnExactMaskLine'. -/
def fnExactMaskLineCard : Claim7 := { stood := { row := fnExactMaskLineRow, standIns := [], harness := (true, "5cf7e210b242b6b2dafa386a900676ecfeb0571724eb89e11bea3c098bedae7d"), looks := false }, kinds := [], alts := [], laidByText := true, laidKinds := [.data, .data, .data], laidTests := true, laidLooks := .later }
def FnExactMaskLineCardSaid : Prop := Claim7.holds Tryd.pinned (.plain (OpenSpec.ofChange fnExactMaskLineSpec)) fnExactMaskLineCard

/-- THE TIED CARD OF 'laws.FnReports'. -/
def fnReportsCard : Claim7 := { stood := { row := fnReportsRow, standIns := [], harness := (true, "5cf7e210b242b6b2dafa386a900676ecfeb0571724eb89e11bea3c098bedae7d"), looks := false }, kinds := [], alts := [], laidByText := true, laidKinds := [.data, .data, .data], laidTests := true, laidLooks := .later }
def FnReportsCardSaid : Prop := Claim7.holds Tryd.pinned (.plain (OpenSpec.ofChange fnReportsSpec)) fnReportsCard

/-- THE SECOND FORM's CARD OF 'laws.FnTop'. -/
def fnTopUptoCard : Claim7 := { stood := { row := fnTopUptoRow, standIns := [], harness := (true, "5cf7e210b242b6b2dafa386a900676ecfeb0571724eb89e11bea3c098bedae7d"), looks := false }, kinds := [], alts := [], laidByText := true, laidKinds := [.data, .data, .data], laidTests := true, laidLooks := .later }
def FnTopUptoCardSaid : Prop := Claim7.holds Tryd.pinned (.plain (OpenSpec.upto fnTopSpec)) fnTopUptoCard

/-- THE SECOND FORM's CARD OF 'laws.FnDeduced'. -/
def fnDeducedUptoCard : Claim7 := { stood := { row := fnDeducedUptoRow, standIns := [], harness := (true, "5cf7e210b242b6b2dafa386a900676ecfeb0571724eb89e11bea3c098bedae7d"), looks := false }, kinds := [], alts := [], laidByText := true, laidKinds := [.data, .data, .data], laidTests := true, laidLooks := .later }
def FnDeducedUptoCardSaid : Prop := Claim7.holds Tryd.pinned (.plain (OpenSpec.upto fnDeducedSpec)) fnDeducedUptoCard

/-- THE SECOND FORM's CARD OF 'laws.FnExactPathLine'. -/
def fnExactPathLineUptoCard : Claim7 := { stood := { row := fnExactPathLineUptoRow, standIns := [], harness := (true, "5cf7e210b242b6b2dafa386a900676ecfeb0571724eb89e11bea3c098bedae7d"), looks := false }, kinds := [], alts := [], laidByText := true, laidKinds := [.data, .data, .data], laidTests := true, laidLooks := .later }
def FnExactPathLineUptoCardSaid : Prop := Claim7.holds Tryd.pinned (.plain (OpenSpec.upto fnExactPathLineSpec)) fnExactPathLineUptoCard

/-- THE SECOND FORM's CARD OF 'laws.FnExactMaskLine'. -/
def fnExactMaskLineUptoCard : Claim7 := { stood := { row := fnExactMaskLineUptoRow, standIns := [], harness := (true, "5cf7e210b242b6b2dafa386a900676ecfeb0571724eb89e11bea3c098bedae7d"), looks := false }, kinds := [], alts := [], laidByText := true, laidKinds := [.data, .data, .data], laidTests := true, laidLooks := .later }
def FnExactMaskLineUptoCardSaid : Prop := Claim7.holds Tryd.pinned (.plain (OpenSpec.upto fnExactMaskLineSpec)) fnExactMaskLineUptoCard

/-- THE SECOND FORM's CARD OF 'laws.FnReports'. -/
def fnReportsUptoCard : Claim7 := { stood := { row := fnReportsUptoRow, standIns := [], harness := (true, "5cf7e210b242b6b2dafa386a900676ecfeb0571724eb89e11bea3c098bedae7d"), looks := false }, kinds := [], alts := [], laidByText := true, laidKinds := [.data, .data, .data], laidTests := true, laidLooks := .later }
def FnReportsUptoCardSaid : Prop := Claim7.holds Tryd.pinned (.plain (OpenSpec.upto fnReportsSpec)) fnReportsUptoCard
end Rows
end Go.Proofs.YtlmjpmdkifoekaaDoor

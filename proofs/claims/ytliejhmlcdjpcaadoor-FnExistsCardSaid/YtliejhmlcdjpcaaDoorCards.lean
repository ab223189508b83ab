/-
  DERIVED. GIVEN WITH THE SEED: THE CARDS: each row of YtliejhmlcdjpcaaDoorRows.lean that lists a variable, with what it lists TIED to the program's text (the seventh form; the later family's looks); each row that meets fmt, with fmt's text TOLD by the authors' own Lean function (tested against real Go, not proved from fmt's source: count such statements apart). THE CARD IS WHAT COUNTS. Prove the row's statement (the work); the ties are given (YtliejhmlcdjpcaaDoorTie.lean); close each card by the builder's one call (the guide's Derived/Test/ToyasCard.lean, 'card_holds'). Laid BY PROGRAM, IN A SANDBOX (cutbox-door.mjs). By AI agents, Wed Nov 11 2026. No macro, syntax, notation, axiom, sorry.
-/
import Derived.Test.YtliejhmlcdjpcaaDoorRows
import GoSem.ClaimSeven
namespace Go.Proofs.YtliejhmlcdjpcaaDoor
namespace Rows

/-- THE TIED CARD OF 'laws.FnTop'. -/
def fnTopCard : Claim7 := { stood := { row := fnTopRow, standIns := [], harness := (true, "2a1e0816afbc2e9839e754cd2ff1133ea953d496ccf7f3a326c60fdf2f85318d"), looks := false }, kinds := [], alts := [], laidByText := true, laidKinds := [.data, .data, .data], laidTests := true, laidLooks := .later }
def FnTopCardSaid : Prop := Claim7.holds Tryd.pinned (.plain (OpenSpec.ofChange fnTopSpec)) fnTopCard

/-- THE TIED CARD OF 'laws.FnExists'. -/
def fnExistsCard : Claim7 := { stood := { row := fnExistsRow, standIns := [], harness := (true, "2a1e0816afbc2e9839e754cd2ff1133ea953d496ccf7f3a326c60fdf2f85318d"), looks := false }, kinds := [], alts := [], laidByText := true, laidKinds := [.data, .data, .data], laidTests := true, laidLooks := .later }
def FnExistsCardSaid : Prop := Claim7.holds Tryd.pinned (.plain (OpenSpec.ofChange fnExistsSpec)) fnExistsCard

/-- THE TIED CARD OF 'laws.FnExactMaskLine'. -/
def fnExactMaskLineCard : Claim7 := { stood := { row := fnExactMaskLineRow, standIns := [], harness := (true, "2a1e0816afbc2e9839e754cd2ff1133ea953d496ccf7f3a326c60fdf2f85318d"), looks := false }, kinds := [], alts := [], laidByText := true, laidKinds := [.data, .data, .data], laidTests := true, laidLooks := .later }
def FnExactMaskLineCardSaid : Prop := Claim7.holds Tryd.pinned (.plain (OpenSpec.ofChange fnExactMaskLineSpec)) fnExactMaskLineCard

/-- THE TIED CARD OF 'laws.FnExactPuzzleLine'. -/
def fnExactPuzzleLineCard : Claim7 := { stood := { row := fnExactPuzzleLineRow, standIns := [], harness := (true, "2a1e0816afbc2e9839e754cd2ff1133ea953d496ccf7f3a326c60fdf2f85318d"), looks := false }, kinds := [], alts := [], laidByText := true, laidKinds := [.data, .data, .data], laidTests := true, laidLooks := .later }
def FnExactPuzzleLineCardSaid : Prop := Claim7.holds Tryd.pinned (.plain (OpenSpec.ofChange fnExactPuzzleLineSpec)) fnExactPuzzleLineCard

/-- THE TIED CARD OF 'laws.FnExactSumsLine'. -/
def fnExactSumsLineCard : Claim7 := { stood := { row := fnExactSumsLineRow, standIns := [], harness := (true, "2a1e0816afbc2e9839e754cd2ff1133ea953d496ccf7f3a326c60fdf2f85318d"), looks := false }, kinds := [], alts := [], laidByText := true, laidKinds := [.data, .data, .data], laidTests := true, laidLooks := .later }
def FnExactSumsLineCardSaid : Prop := Claim7.holds Tryd.pinned (.plain (OpenSpec.ofChange fnExactSumsLineSpec)) fnExactSumsLineCard

/-- THE TIED CARD OF 'laws.FnReports'. -/
def fnReportsCard : Claim7 := { stood := { row := fnReportsRow, standIns := [], harness := (true, "2a1e0816afbc2e9839e754cd2ff1133ea953d496ccf7f3a326c60fdf2f85318d"), looks := false }, kinds := [], alts := [], laidByText := true, laidKinds := [.data, .data, .data], laidTests := true, laidLooks := .later }
def FnReportsCardSaid : Prop := Claim7.holds Tryd.pinned (.plain (OpenSpec.ofChange fnReportsSpec)) fnReportsCard

/-- THE SECOND FORM's CARD OF 'laws.FnTop'. -/
def fnTopUptoCard : Claim7 := { stood := { row := fnTopUptoRow, standIns := [], harness := (true, "2a1e0816afbc2e9839e754cd2ff1133ea953d496ccf7f3a326c60fdf2f85318d"), looks := false }, kinds := [], alts := [], laidByText := true, laidKinds := [.data, .data, .data], laidTests := true, laidLooks := .later }
def FnTopUptoCardSaid : Prop := Claim7.holds Tryd.pinned (.plain (OpenSpec.upto fnTopSpec)) fnTopUptoCard

/-- THE SECOND FORM's CARD OF 'laws.FnExists'. -/
def fnExistsUptoCard : Claim7 := { stood := { row := fnExistsUptoRow, standIns := [], harness := (true, "2a1e0816afbc2e9839e754cd2ff1133ea953d496ccf7f3a326c60fdf2f85318d"), looks := false }, kinds := [], alts := [], laidByText := true, laidKinds := [.data, .data, .data], laidTests := true, laidLooks := .later }
def FnExistsUptoCardSaid : Prop := Claim7.holds Tryd.pinned (.plain (OpenSpec.upto fnExistsSpec)) fnExistsUptoCard

/-- THE SECOND FORM's CARD OF 'laws.FnExactMaskLine'. -/
def fnExactMaskLineUptoCard : Claim7 := { stood := { row := fnExactMaskLineUptoRow, standIns := [], harness := (true, "2a1e0816afbc2e9839e754cd2ff1133ea953d496ccf7f3a326c60fdf2f85318d"), looks := false }, kinds := [], alts := [], laidByText := true, laidKinds := [.data, .data, .data], laidTests := true, laidLooks := .later }
def FnExactMaskLineUptoCardSaid : Prop := Claim7.holds Tryd.pinned (.plain (OpenSpec.upto fnExactMaskLineSpec)) fnExactMaskLineUptoCard

/-- THE SECOND FORM's CARD OF 'laws.FnExactPuzzleLine'. -/
def fnExactPuzzleLineUptoCard : Claim7 := { stood := { row := fnExactPuzzleLineUptoRow, standIns := [], harness := (true, "2a1e0816afbc2e9839e754cd2ff1133ea953d496ccf7f3a326c60fdf2f85318d"), looks := false }, kinds := [], alts := [], laidByText := true, laidKinds := [.data, .data, .data], laidTests := true, laidLooks := .later }
def FnExactPuzzleLineUptoCardSaid : Prop := Claim7.holds Tryd.pinned (.plain (OpenSpec.upto fnExactPuzzleLineSpec)) fnExactPuzzleLineUptoCard

/-- THE SECOND FORM's CARD OF 'laws.FnExactSumsLine'. -/
def fnExactSumsLineUptoCard : Claim7 := { stood := { row := fnExactSumsLineUptoRow, standIns := [], harness := (true, "2a1e0816afbc2e9839e754cd2ff1133ea953d496ccf7f3a326c60fdf2f85318d"), looks := false }, kinds := [], alts := [], laidByText := true, laidKinds := [.data, .data, .data], laidTests := true, laidLooks := .later }
def FnExactSumsLineUptoCardSaid : Prop := Claim7.holds Tryd.pinned (.plain (OpenSpec.upto fnExactSumsLineSpec)) fnExactSumsLineUptoCard

/-- THE SECOND FORM's CARD OF 'laws.FnReports'. -/
def fnReportsUptoCard : Claim7 := { stood := { row := fnReportsUptoRow, standIns := [], harness := (true, "2a1e0816afbc2e9839e754cd2ff1133ea953d496ccf7f3a326c60fdf2f85318d"), looks := false }, kinds := [], alts := [], laidByText := true, laidKinds := [.data, .data, .data], laidTests := true, laidLooks := .later }
def FnReportsUptoCardSaid : Prop := Claim7.holds Tryd.pinned (.plain (OpenSpec.upto fnReportsSpec)) fnReportsUptoCard
end Rows
end Go.Proofs.YtliejhmlcdjpcaaDoor

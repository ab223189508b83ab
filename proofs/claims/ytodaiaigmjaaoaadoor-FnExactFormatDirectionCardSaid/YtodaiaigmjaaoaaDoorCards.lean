/-
  DERIVED. GIVEN WITH THE SEED: THE CARDS: each row of YtodaiaigmjaaoaaDoorRows.lean that lists a variable, with what it lists TIED to the program's text (the seventh form; the later family's looks); each row that meets fmt, with fmt's text TOLD by the authors' own Lean function (tested against real Go, not proved from fmt's source: count such statements apart). THE CARD IS WHAT COUNTS. Prove the row's statement (the work); the ties are given (YtodaiaigmjaaoaaDoorTie.lean); close each card by the builder's one call (the guide's Derived/Test/ToyasCard.lean, 'card_holds'). Laid BY PROGRAM, IN A SANDBOX (cutbox-door.mjs). By AI agents, Wed Nov 11 2026. No macro, syntax, notation, axiom, sorry.
-/
import Derived.Test.YtodaiaigmjaaoaaDoorRows
import GoSem.ClaimSeven
namespace Go.Proofs.YtodaiaigmjaaoaaDoor
namespace Rows

/-- THE TIED CARD OF 'laws.FnTop'. -/
def fnTopCard : Claim7 := { stood := { row := fnTopRow, standIns := [], harness := (true, "35df139a66c9e8d8debc3d3a714a4e61355880b83afd96dda60607c29667b5ed"), looks := false }, kinds := [], alts := [], laidByText := true, laidKinds := [.data, .data, .data], laidTests := true, laidLooks := .later }
def FnTopCardSaid : Prop := Claim7.holds Tryd.pinned (.plain (OpenSpec.ofChange fnTopSpec)) fnTopCard

/-- THE TIED CARD OF 'laws.FnExactFormatDirection'. -/
def fnExactFormatDirectionCard : Claim7 := { stood := { row := fnExactFormatDirectionRow, standIns := [], harness := (true, "35df139a66c9e8d8debc3d3a714a4e61355880b83afd96dda60607c29667b5ed"), looks := false }, kinds := [], alts := [], laidByText := true, laidKinds := [.data, .data, .data], laidTests := true, laidLooks := .later }
def FnExactFormatDirectionCardSaid : Prop := Claim7.holds Tryd.pinned (.plain (OpenSpec.ofChange fnExactFormatDirectionSpec)) fnExactFormatDirectionCard

/-- THE SECOND FORM's CARD OF 'laws.FnTop'. -/
def fnTopUptoCard : Claim7 := { stood := { row := fnTopUptoRow, standIns := [], harness := (true, "35df139a66c9e8d8debc3d3a714a4e61355880b83afd96dda60607c29667b5ed"), looks := false }, kinds := [], alts := [], laidByText := true, laidKinds := [.data, .data, .data], laidTests := true, laidLooks := .later }
def FnTopUptoCardSaid : Prop := Claim7.holds Tryd.pinned (.plain (OpenSpec.upto fnTopSpec)) fnTopUptoCard

/-- THE SECOND FORM's CARD OF 'laws.FnExactFormatDirection'. -/
def fnExactFormatDirectionUptoCard : Claim7 := { stood := { row := fnExactFormatDirectionUptoRow, standIns := [], harness := (true, "35df139a66c9e8d8debc3d3a714a4e61355880b83afd96dda60607c29667b5ed"), looks := false }, kinds := [], alts := [], laidByText := true, laidKinds := [.data, .data, .data], laidTests := true, laidLooks := .later }
def FnExactFormatDirectionUptoCardSaid : Prop := Claim7.holds Tryd.pinned (.plain (OpenSpec.upto fnExactFormatDirectionSpec)) fnExactFormatDirectionUptoCard
end Rows
end Go.Proofs.YtodaiaigmjaaoaaDoor

/-
  DERIVED. GIVEN WITH THE SEED: THE CARDS: each row of YtekgnpdchpdfiaaDoorRows.lean that lists a variable, with what it lists TIED to the program's text (the seventh form; the later family's looks); each row that meets fmt, with fmt's text TOLD by the authors' own Lean function (tested against real Go, not proved from fmt's source: count such statements apart). THE CARD IS WHAT COUNTS. Prove the row's statement (the work); the ties are given (YtekgnpdchpdfiaaDoorTie.lean); close each card by the builder's one call (the guide's Derived/Test/ToyasCard.lean, 'card_holds'). Laid BY PROGRAM, IN A SANDBOX (cutbox-door.mjs). By AI agents, Wed Nov 11 2026. No macro, syntax, notation, axiom, sorry.
-/
import Derived.Test.YtekgnpdchpdfiaaDoorRows
import GoSem.ClaimSeven
namespace Go.Proofs.YtekgnpdchpdfiaaDoor
namespace Rows

/-- THE TIED CARD OF 'laws.FnSwitches'. -/
def fnSwitchesCard : Claim7 := { stood := { row := fnSwitchesRow, standIns := [], harness := (true, "8d2693d60e64cb7e234f9812addb777d8b5dc3e7f9584cd8cd1094e405764432"), looks := true }, kinds := [], alts := [], laidByText := true, laidKinds := [.data, .data, .data], laidTests := true, laidLooks := .later }
def FnSwitchesCardSaid : Prop := Claim7.holds Tryd.pinned (.plain (OpenSpec.ofChange fnSwitchesSpec)) fnSwitchesCard

/-- THE TIED CARD OF 'laws.FnDeduced'. -/
def fnDeducedCard : Claim7 := { stood := { row := fnDeducedRow, standIns := [], harness := (true, "8d2693d60e64cb7e234f9812addb777d8b5dc3e7f9584cd8cd1094e405764432"), looks := true }, kinds := [], alts := [], laidByText := true, laidKinds := [.data, .data, .data], laidTests := true, laidLooks := .later }
def FnDeducedCardSaid : Prop := Claim7.holds Tryd.pinned (.plain (OpenSpec.ofChange fnDeducedSpec)) fnDeducedCard

/-- THE TIED CARD OF 'laws.FnExactParseSums'. -/
def fnExactParseSumsCard : Claim7 := { stood := { row := fnExactParseSumsRow, standIns := [], harness := (true, "8d2693d60e64cb7e234f9812addb777d8b5dc3e7f9584cd8cd1094e405764432"), looks := true }, kinds := [], alts := [], laidByText := true, laidKinds := [.data, .data, .data, .sentinel, .sentinel], laidTests := true, laidLooks := .later }
def FnExactParseSumsCardSaid : Prop := Claim7.holds Tryd.pinned (.plain (OpenSpec.ofChange fnExactParseSumsSpec)) fnExactParseSumsCard

/-- THE TIED CARD OF 'laws.FnExactPathLine'. -/
def fnExactPathLineCard : Claim7 := { stood := { row := fnExactPathLineRow, standIns := [], harness := (true, "8d2693d60e64cb7e234f9812addb777d8b5dc3e7f9584cd8cd1094e405764432"), looks := true }, kinds := [], alts := [], laidByText := true, laidKinds := [.data, .data, .data], laidTests := true, laidLooks := .later }
def FnExactPathLineCardSaid : Prop := Claim7.holds Tryd.pinned (.plain (OpenSpec.ofChange fnExactPathLineSpec)) fnExactPathLineCard

/-- THE TIED CARD OF 'laws.FnExactImageLine'. -/
def fnExactImageLineCard : Claim7 := { stood := { row := fnExactImageLineRow, standIns := [], harness := (true, "8d2693d60e64cb7e234f9812addb777d8b5dc3e7f9584cd8cd1094e405764432"), looks := true }, kinds := [], alts := [], laidByText := true, laidKinds := [.data, .data, .data], laidTests := true, laidLooks := .later }
def FnExactImageLineCardSaid : Prop := Claim7.holds Tryd.pinned (.plain (OpenSpec.ofChange fnExactImageLineSpec)) fnExactImageLineCard

/-- THE TIED CARD OF 'laws.FnTexts'. -/
def fnTextsCard : Claim7 := { stood := { row := fnTextsRow, standIns := [], harness := (true, "8d2693d60e64cb7e234f9812addb777d8b5dc3e7f9584cd8cd1094e405764432"), looks := true }, kinds := [], alts := [], laidByText := true, laidKinds := [.data, .data, .data, .sentinel, .sentinel], laidTests := true, laidLooks := .later }
def FnTextsCardSaid : Prop := Claim7.holds Tryd.pinned (.plain (OpenSpec.ofChange fnTextsSpec)) fnTextsCard

/-- THE SECOND FORM's CARD OF 'laws.FnSwitches'. -/
def fnSwitchesUptoCard : Claim7 := { stood := { row := fnSwitchesUptoRow, standIns := [], harness := (true, "8d2693d60e64cb7e234f9812addb777d8b5dc3e7f9584cd8cd1094e405764432"), looks := true }, kinds := [], alts := [], laidByText := true, laidKinds := [.data, .data, .data], laidTests := true, laidLooks := .later }
def FnSwitchesUptoCardSaid : Prop := Claim7.holds Tryd.pinned (.plain (OpenSpec.upto fnSwitchesSpec)) fnSwitchesUptoCard

/-- THE SECOND FORM's CARD OF 'laws.FnDeduced'. -/
def fnDeducedUptoCard : Claim7 := { stood := { row := fnDeducedUptoRow, standIns := [], harness := (true, "8d2693d60e64cb7e234f9812addb777d8b5dc3e7f9584cd8cd1094e405764432"), looks := true }, kinds := [], alts := [], laidByText := true, laidKinds := [.data, .data, .data], laidTests := true, laidLooks := .later }
def FnDeducedUptoCardSaid : Prop := Claim7.holds Tryd.pinned (.plain (OpenSpec.upto fnDeducedSpec)) fnDeducedUptoCard

/-- THE SECOND FORM's CARD OF 'laws.FnExactParseSums'. -/
def fnExactParseSumsUptoCard : Claim7 := { stood := { row := fnExactParseSumsUptoRow, standIns := [], harness := (true, "8d2693d60e64cb7e234f9812addb777d8b5dc3e7f9584cd8cd1094e405764432"), looks := true }, kinds := [], alts := [], laidByText := true, laidKinds := [.data, .data, .data, .sentinel, .sentinel], laidTests := true, laidLooks := .later }
def FnExactParseSumsUptoCardSaid : Prop := Claim7.holds Tryd.pinned (.plain (OpenSpec.upto fnExactParseSumsSpec)) fnExactParseSumsUptoCard

/-- THE SECOND FORM's CARD OF 'laws.FnExactPathLine'. -/
def fnExactPathLineUptoCard : Claim7 := { stood := { row := fnExactPathLineUptoRow, standIns := [], harness := (true, "8d2693d60e64cb7e234f9812addb777d8b5dc3e7f9584cd8cd1094e405764432"), looks := true }, kinds := [], alts := [], laidByText := true, laidKinds := [.data, .data, .data], laidTests := true, laidLooks := .later }
def FnExactPathLineUptoCardSaid : Prop := Claim7.holds Tryd.pinned (.plain (OpenSpec.upto fnExactPathLineSpec)) fnExactPathLineUptoCard

/-- THE SECOND FORM's CARD OF 'laws.FnExactImageLine'. -/
def fnExactImageLineUptoCard : Claim7 := { stood := { row := fnExactImageLineUptoRow, standIns := [], harness := (true, "8d2693d60e64cb7e234f9812addb777d8b5dc3e7f9584cd8cd1094e405764432"), looks := true }, kinds := [], alts := [], laidByText := true, laidKinds := [.data, .data, .data], laidTests := true, laidLooks := .later }
def FnExactImageLineUptoCardSaid : Prop := Claim7.holds Tryd.pinned (.plain (OpenSpec.upto fnExactImageLineSpec)) fnExactImageLineUptoCard

/-- THE SECOND FORM's CARD OF 'laws.FnTexts'. -/
def fnTextsUptoCard : Claim7 := { stood := { row := fnTextsUptoRow, standIns := [], harness := (true, "8d2693d60e64cb7e234f9812addb777d8b5dc3e7f9584cd8cd1094e405764432"), looks := true }, kinds := [], alts := [], laidByText := true, laidKinds := [.data, .data, .data, .sentinel, .sentinel], laidTests := true, laidLooks := .later }
def FnTextsUptoCardSaid : Prop := Claim7.holds Tryd.pinned (.plain (OpenSpec.upto fnTextsSpec)) fnTextsUptoCard
end Rows
end Go.Proofs.YtekgnpdchpdfiaaDoor

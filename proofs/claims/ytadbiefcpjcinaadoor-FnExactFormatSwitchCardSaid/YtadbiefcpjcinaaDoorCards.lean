/-
  DERIVED. GIVEN WITH THE SEED: THE CARDS: each row of YtadbiefcpjcinaaDoorRows.lean that lists a variable, with what it lists TIED to the program's text (the seventh form; the later family's looks); each row that meets fmt, with fmt's text TOLD by the authors' own Lean function (tested against real Go, not proved from fmt's source: count such statements apart). THE CARD IS WHAT COUNTS. Prove the row's statement (the work); the ties are given (YtadbiefcpjcinaaDoorTie.lean); close each card by the builder's one call (the guide's Derived/Test/ToyasCard.lean, 'card_holds'). Laid BY PROGRAM, IN A SANDBOX (cutbox-door.mjs). By AI agents, Wed Nov 11 2026. No macro, syntax, notation, axiom, sorry.
-/
import Derived.Test.YtadbiefcpjcinaaDoorRows
import GoSem.ClaimSeven
namespace Go.Proofs.YtadbiefcpjcinaaDoor
namespace Rows

/-- THE TIED CARD OF 'laws.FnExists'. -/
def fnExistsCard : Claim7 := { stood := { row := fnExistsRow, standIns := [], harness := (true, "fd8d2f8142d9b2498717c0ff7b9e635fea4200201263951c86ab65032513b64b"), looks := false }, kinds := [], alts := [], laidByText := true, laidKinds := [.data, .data, .data], laidTests := true, laidLooks := .later }
def FnExistsCardSaid : Prop := Claim7.holds Tryd.pinned (.plain (OpenSpec.ofChange fnExistsSpec)) fnExistsCard

/-- THE TIED CARD OF 'laws.FnExactFormatSwitch'. -/
def fnExactFormatSwitchCard : Claim7 := { stood := { row := fnExactFormatSwitchRow, standIns := [], harness := (true, "fd8d2f8142d9b2498717c0ff7b9e635fea4200201263951c86ab65032513b64b"), looks := false }, kinds := [], alts := [], laidByText := true, laidKinds := [.data, .data, .data], laidTests := true, laidLooks := .later }
def FnExactFormatSwitchCardSaid : Prop := Claim7.holds Tryd.pinned (.plain (OpenSpec.ofChange fnExactFormatSwitchSpec)) fnExactFormatSwitchCard

/-- THE TIED CARD OF 'laws.FnExactFormatSums'. -/
def fnExactFormatSumsCard : Claim7 := { stood := { row := fnExactFormatSumsRow, standIns := [], harness := (true, "fd8d2f8142d9b2498717c0ff7b9e635fea4200201263951c86ab65032513b64b"), looks := false }, kinds := [], alts := [], laidByText := true, laidKinds := [.data, .data, .data], laidTests := true, laidLooks := .later }
def FnExactFormatSumsCardSaid : Prop := Claim7.holds Tryd.pinned (.plain (OpenSpec.ofChange fnExactFormatSumsSpec)) fnExactFormatSumsCard

/-- THE TIED CARD OF 'laws.FnExactFormatGrid'. -/
def fnExactFormatGridCard : Claim7 := { stood := { row := fnExactFormatGridRow, standIns := [], harness := (true, "fd8d2f8142d9b2498717c0ff7b9e635fea4200201263951c86ab65032513b64b"), looks := false }, kinds := [], alts := [], laidByText := true, laidKinds := [.data, .data, .data], laidTests := true, laidLooks := .later }
def FnExactFormatGridCardSaid : Prop := Claim7.holds Tryd.pinned (.plain (OpenSpec.ofChange fnExactFormatGridSpec)) fnExactFormatGridCard

/-- THE TIED CARD OF 'laws.FnExactFormatPuzzle'. -/
def fnExactFormatPuzzleCard : Claim7 := { stood := { row := fnExactFormatPuzzleRow, standIns := [], harness := (true, "fd8d2f8142d9b2498717c0ff7b9e635fea4200201263951c86ab65032513b64b"), looks := false }, kinds := [], alts := [], laidByText := true, laidKinds := [.data, .data, .data], laidTests := true, laidLooks := .later }
def FnExactFormatPuzzleCardSaid : Prop := Claim7.holds Tryd.pinned (.plain (OpenSpec.ofChange fnExactFormatPuzzleSpec)) fnExactFormatPuzzleCard

/-- THE SECOND FORM's CARD OF 'laws.FnExists'. -/
def fnExistsUptoCard : Claim7 := { stood := { row := fnExistsUptoRow, standIns := [], harness := (true, "fd8d2f8142d9b2498717c0ff7b9e635fea4200201263951c86ab65032513b64b"), looks := false }, kinds := [], alts := [], laidByText := true, laidKinds := [.data, .data, .data], laidTests := true, laidLooks := .later }
def FnExistsUptoCardSaid : Prop := Claim7.holds Tryd.pinned (.plain (OpenSpec.upto fnExistsSpec)) fnExistsUptoCard

/-- THE SECOND FORM's CARD OF 'laws.FnExactFormatSwitch'. -/
def fnExactFormatSwitchUptoCard : Claim7 := { stood := { row := fnExactFormatSwitchUptoRow, standIns := [], harness := (true, "fd8d2f8142d9b2498717c0ff7b9e635fea4200201263951c86ab65032513b64b"), looks := false }, kinds := [], alts := [], laidByText := true, laidKinds := [.data, .data, .data], laidTests := true, laidLooks := .later }
def FnExactFormatSwitchUptoCardSaid : Prop := Claim7.holds Tryd.pinned (.plain (OpenSpec.upto fnExactFormatSwitchSpec)) fnExactFormatSwitchUptoCard

/-- THE SECOND FORM's CARD OF 'laws.FnExactFormatSums'. -/
def fnExactFormatSumsUptoCard : Claim7 := { stood := { row := fnExactFormatSumsUptoRow, standIns := [], harness := (true, "fd8d2f8142d9b2498717c0ff7b9e635fea4200201263951c86ab65032513b64b"), looks := false }, kinds := [], alts := [], laidByText := true, laidKinds := [.data, .data, .data], laidTests := true, laidLooks := .later }
def FnExactFormatSumsUptoCardSaid : Prop := Claim7.holds Tryd.pinned (.plain (OpenSpec.upto fnExactFormatSumsSpec)) fnExactFormatSumsUptoCard

/-- THE SECOND FORM's CARD OF 'laws.FnExactFormatGrid'. -/
def fnExactFormatGridUptoCard : Claim7 := { stood := { row := fnExactFormatGridUptoRow, standIns := [], harness := (true, "fd8d2f8142d9b2498717c0ff7b9e635fea4200201263951c86ab65032513b64b"), looks := false }, kinds := [], alts := [], laidByText := true, laidKinds := [.data, .data, .data], laidTests := true, laidLooks := .later }
def FnExactFormatGridUptoCardSaid : Prop := Claim7.holds Tryd.pinned (.plain (OpenSpec.upto fnExactFormatGridSpec)) fnExactFormatGridUptoCard

/-- THE SECOND FORM's CARD OF 'laws.FnExactFormatPuzzle'. -/
def fnExactFormatPuzzleUptoCard : Claim7 := { stood := { row := fnExactFormatPuzzleUptoRow, standIns := [], harness := (true, "fd8d2f8142d9b2498717c0ff7b9e635fea4200201263951c86ab65032513b64b"), looks := false }, kinds := [], alts := [], laidByText := true, laidKinds := [.data, .data, .data], laidTests := true, laidLooks := .later }
def FnExactFormatPuzzleUptoCardSaid : Prop := Claim7.holds Tryd.pinned (.plain (OpenSpec.upto fnExactFormatPuzzleSpec)) fnExactFormatPuzzleUptoCard
end Rows
end Go.Proofs.YtadbiefcpjcinaaDoor

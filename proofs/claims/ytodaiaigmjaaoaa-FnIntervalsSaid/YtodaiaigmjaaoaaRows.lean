/-
  No cell of these rows narrows 'for every input' (looked for: loops, veiled, ifaces, maps, wideKeys, modest, calm, conditions, laid).
  DERIVED. THE GIVEN ROWS OF THIS SEAT. 10 by the template 'for every input the law returns true; each argument reads behind the call as it read before'; 0 by the template 'total and deterministic' (their statements: YtodaiaigmjaaoaaTotals.lean).
  GIVEN WITH THE SEED: the statements are not yours to turn. If you find one false, say at which input.
  Laid BY PROGRAM, IN A SANDBOX (cutbox-rows.mjs): the forced cells as the released guide's own fill.sh prints them over the translation 016b1e7b3ea6660d… (all of the seat's roots in one cut). By AI agents, Wed Nov 11 2026. No macro, syntax, notation, axiom, sorry.
-/
import Derived.Test.YtodaiaigmjaaoaaChecked
import GoSem.Claim
import GoSem.ClaimJoined
import GoSem.ClaimMapViews
import Derived.JoinedTies
import Derived.KernelRfl
namespace Go.Proofs.Ytodaiaigmjaaoaa
/- THE CELL 'sum', in the pinned program and in every row, IS THE sha256 OF THE DUMP (.gsa) THAT YtodaiaigmjaaoaaProg.lean LOADS. Nothing in Lean hashes anything: it is a label: what it is worth is what the hold of that sum in a sandbox is worth. -/
noncomputable def Try.pinned : Pinned := { name := "ytodaiaigmjaaoaa", sum := "016b1e7b3ea6660d12ba2dbf0d119bfdb764f93c8f951d6f75e2de0e047a4382", checked := Try.checked }
namespace Rows
def none {H : Type} : Left H := { results := [], args := [] }

/-- 'laws.FnExactPuzzleOk': WHATEVER THE INPUT: true; the input reads as it did. -/
def fnExactPuzzleOkSpec : ChangeSpec := { name := "fnExactPuzzleOk", fn := fun _ => fun
  | [d] => { results := [.lit (.bool true)], args := [d] }
  | _ => none }
def fnExactPuzzleOkRow : OpenClaim := { program := "ytodaiaigmjaaoaa", sum := "016b1e7b3ea6660d12ba2dbf0d119bfdb764f93c8f951d6f75e2de0e047a4382", func := "loop.example/g00860/laws.FnExactPuzzleOk", spec := "fnExactPuzzleOk", apart := false }
def FnExactPuzzleOkSaid : Prop := fnExactPuzzleOkRow.holds Try.pinned (OpenSpec.ofChange fnExactPuzzleOkSpec)

/-- ITS FALSE NEIGHBOUR: 'it returns false'. Refute it at one input. -/
def fnExactPuzzleOkWrong : ChangeSpec := { name := "fnExactPuzzleOk", fn := fun _ => fun
  | [d] => { results := [.lit (.bool false)], args := [d] }
  | _ => none }
def FnExactPuzzleOkWrongFalsely : Prop := fnExactPuzzleOkRow.holds Try.pinned (OpenSpec.ofChange fnExactPuzzleOkWrong)

/-- 'laws.FnRuns': WHATEVER THE INPUT: true; the input reads as it did. -/
def fnRunsSpec : ChangeSpec := { name := "fnRuns", fn := fun _ => fun
  | [d] => { results := [.lit (.bool true)], args := [d] }
  | _ => none }
def fnRunsRow : OpenClaim := { program := "ytodaiaigmjaaoaa", sum := "016b1e7b3ea6660d12ba2dbf0d119bfdb764f93c8f951d6f75e2de0e047a4382", func := "loop.example/g00860/laws.FnRuns", spec := "fnRuns", apart := false }
def FnRunsSaid : Prop := fnRunsRow.holds Try.pinned (OpenSpec.ofChange fnRunsSpec)

/-- ITS FALSE NEIGHBOUR: 'it returns false'. Refute it at one input. -/
def fnRunsWrong : ChangeSpec := { name := "fnRuns", fn := fun _ => fun
  | [d] => { results := [.lit (.bool false)], args := [d] }
  | _ => none }
def FnRunsWrongFalsely : Prop := fnRunsRow.holds Try.pinned (OpenSpec.ofChange fnRunsWrong)

/-- 'laws.FnExactLinesFor': WHATEVER THE INPUT: true; the input reads as it did. -/
def fnExactLinesForSpec : ChangeSpec := { name := "fnExactLinesFor", fn := fun _ => fun
  | [d1, d2] => { results := [.lit (.bool true)], args := [d1, d2] }
  | _ => none }
def fnExactLinesForRow : OpenClaim := { program := "ytodaiaigmjaaoaa", sum := "016b1e7b3ea6660d12ba2dbf0d119bfdb764f93c8f951d6f75e2de0e047a4382", func := "loop.example/g00860/laws.FnExactLinesFor", spec := "fnExactLinesFor", apart := false }
def FnExactLinesForSaid : Prop := fnExactLinesForRow.holds Try.pinned (OpenSpec.ofChange fnExactLinesForSpec)

/-- ITS FALSE NEIGHBOUR: 'it returns false'. Refute it at one input. -/
def fnExactLinesForWrong : ChangeSpec := { name := "fnExactLinesFor", fn := fun _ => fun
  | [d1, d2] => { results := [.lit (.bool false)], args := [d1, d2] }
  | _ => none }
def FnExactLinesForWrongFalsely : Prop := fnExactLinesForRow.holds Try.pinned (OpenSpec.ofChange fnExactLinesForWrong)

/-- 'laws.FnExactParseImage': WHATEVER THE INPUT: true; the input reads as it did. -/
def fnExactParseImageSpec : ChangeSpec := { name := "fnExactParseImage", fn := fun _ => fun
  | [d] => { results := [.lit (.bool true)], args := [d] }
  | _ => none }
def fnExactParseImageRow : OpenClaim := { program := "ytodaiaigmjaaoaa", sum := "016b1e7b3ea6660d12ba2dbf0d119bfdb764f93c8f951d6f75e2de0e047a4382", func := "loop.example/g00860/laws.FnExactParseImage", spec := "fnExactParseImage", inPlace := ["internal/bytealg.IndexByteString"], apart := false }
def FnExactParseImageSaid : Prop := fnExactParseImageRow.holds Try.pinned (OpenSpec.ofChange fnExactParseImageSpec)

/-- ITS FALSE NEIGHBOUR: 'it returns false'. Refute it at one input. -/
def fnExactParseImageWrong : ChangeSpec := { name := "fnExactParseImage", fn := fun _ => fun
  | [d] => { results := [.lit (.bool false)], args := [d] }
  | _ => none }
def FnExactParseImageWrongFalsely : Prop := fnExactParseImageRow.holds Try.pinned (OpenSpec.ofChange fnExactParseImageWrong)

/-- 'laws.FnExactSolveLine': WHATEVER THE INPUT: true; the input reads as it did. -/
def fnExactSolveLineSpec : ChangeSpec := { name := "fnExactSolveLine", fn := fun _ => fun
  | [d1, d2] => { results := [.lit (.bool true)], args := [d1, d2] }
  | _ => none }
def fnExactSolveLineRow : OpenClaim := { program := "ytodaiaigmjaaoaa", sum := "016b1e7b3ea6660d12ba2dbf0d119bfdb764f93c8f951d6f75e2de0e047a4382", func := "loop.example/g00860/laws.FnExactSolveLine", spec := "fnExactSolveLine", apart := false }
def FnExactSolveLineSaid : Prop := fnExactSolveLineRow.holds Try.pinned (OpenSpec.ofChange fnExactSolveLineSpec)

/-- ITS FALSE NEIGHBOUR: 'it returns false'. Refute it at one input. -/
def fnExactSolveLineWrong : ChangeSpec := { name := "fnExactSolveLine", fn := fun _ => fun
  | [d1, d2] => { results := [.lit (.bool false)], args := [d1, d2] }
  | _ => none }
def FnExactSolveLineWrongFalsely : Prop := fnExactSolveLineRow.holds Try.pinned (OpenSpec.ofChange fnExactSolveLineWrong)

/-- 'laws.FnReveals': WHATEVER THE INPUT: true; the input reads as it did. -/
def fnRevealsSpec : ChangeSpec := { name := "fnReveals", fn := fun _ => fun
  | [d] => { results := [.lit (.bool true)], args := [d] }
  | _ => none }
def fnRevealsRow : OpenClaim := { program := "ytodaiaigmjaaoaa", sum := "016b1e7b3ea6660d12ba2dbf0d119bfdb764f93c8f951d6f75e2de0e047a4382", func := "loop.example/g00860/laws.FnReveals", spec := "fnReveals", unfollowed := true, recurses := true, apart := false }
def FnRevealsSaid : Prop := fnRevealsRow.holds Try.pinned (OpenSpec.ofChange fnRevealsSpec)

/-- ITS FALSE NEIGHBOUR: 'it returns false'. Refute it at one input. -/
def fnRevealsWrong : ChangeSpec := { name := "fnReveals", fn := fun _ => fun
  | [d] => { results := [.lit (.bool false)], args := [d] }
  | _ => none }
def FnRevealsWrongFalsely : Prop := fnRevealsRow.holds Try.pinned (OpenSpec.ofChange fnRevealsWrong)

/-- 'laws.FnIntervals': WHATEVER THE INPUT: true; the input reads as it did. -/
def fnIntervalsSpec : ChangeSpec := { name := "fnIntervals", fn := fun _ => fun
  | [d] => { results := [.lit (.bool true)], args := [d] }
  | _ => none }
def fnIntervalsRow : OpenClaim := { program := "ytodaiaigmjaaoaa", sum := "016b1e7b3ea6660d12ba2dbf0d119bfdb764f93c8f951d6f75e2de0e047a4382", func := "loop.example/g00860/laws.FnIntervals", spec := "fnIntervals", unfollowed := true, recurses := true, apart := false }
def FnIntervalsSaid : Prop := fnIntervalsRow.holds Try.pinned (OpenSpec.ofChange fnIntervalsSpec)

/-- ITS FALSE NEIGHBOUR: 'it returns false'. Refute it at one input. -/
def fnIntervalsWrong : ChangeSpec := { name := "fnIntervals", fn := fun _ => fun
  | [d] => { results := [.lit (.bool false)], args := [d] }
  | _ => none }
def FnIntervalsWrongFalsely : Prop := fnIntervalsRow.holds Try.pinned (OpenSpec.ofChange fnIntervalsWrong)

/-- 'laws.FnExactFormatImage': WHATEVER THE INPUT: true; the input reads as it did. -/
def fnExactFormatImageSpec : ChangeSpec := { name := "fnExactFormatImage", fn := fun _ => fun
  | [d] => { results := [.lit (.bool true)], args := [d] }
  | _ => none }
def fnExactFormatImageRow : OpenClaim := { program := "ytodaiaigmjaaoaa", sum := "016b1e7b3ea6660d12ba2dbf0d119bfdb764f93c8f951d6f75e2de0e047a4382", func := "loop.example/g00860/laws.FnExactFormatImage", spec := "fnExactFormatImage", inPlace := ["internal/abi.NoEscape", "internal/bytealg.MakeNoZero"], apart := false }
def FnExactFormatImageSaid : Prop := fnExactFormatImageRow.holds Try.pinned (OpenSpec.ofChange fnExactFormatImageSpec)

/-- ITS FALSE NEIGHBOUR: 'it returns false'. Refute it at one input. -/
def fnExactFormatImageWrong : ChangeSpec := { name := "fnExactFormatImage", fn := fun _ => fun
  | [d] => { results := [.lit (.bool false)], args := [d] }
  | _ => none }
def FnExactFormatImageWrongFalsely : Prop := fnExactFormatImageRow.holds Try.pinned (OpenSpec.ofChange fnExactFormatImageWrong)

/-- 'laws.FnExactChangeOf': WHATEVER THE INPUT: true; the input reads as it did. -/
def fnExactChangeOfSpec : ChangeSpec := { name := "fnExactChangeOf", fn := fun _ => fun
  | [d1, d2, d3] => { results := [.lit (.bool true)], args := [d1, d2, d3] }
  | _ => none }
def fnExactChangeOfRow : OpenClaim := { program := "ytodaiaigmjaaoaa", sum := "016b1e7b3ea6660d12ba2dbf0d119bfdb764f93c8f951d6f75e2de0e047a4382", func := "loop.example/g00860/laws.FnExactChangeOf", spec := "fnExactChangeOf", apart := false }
def FnExactChangeOfSaid : Prop := fnExactChangeOfRow.holds Try.pinned (OpenSpec.ofChange fnExactChangeOfSpec)

/-- ITS FALSE NEIGHBOUR: 'it returns false'. Refute it at one input. -/
def fnExactChangeOfWrong : ChangeSpec := { name := "fnExactChangeOf", fn := fun _ => fun
  | [d1, d2, d3] => { results := [.lit (.bool false)], args := [d1, d2, d3] }
  | _ => none }
def FnExactChangeOfWrongFalsely : Prop := fnExactChangeOfRow.holds Try.pinned (OpenSpec.ofChange fnExactChangeOfWrong)

/-- 'laws.FnExactLeastChange': WHATEVER THE INPUT: true; the input reads as it did. -/
def fnExactLeastChangeSpec : ChangeSpec := { name := "fnExactLeastChange", fn := fun _ => fun
  | [d1, d2] => { results := [.lit (.bool true)], args := [d1, d2] }
  | _ => none }
def fnExactLeastChangeRow : OpenClaim := { program := "ytodaiaigmjaaoaa", sum := "016b1e7b3ea6660d12ba2dbf0d119bfdb764f93c8f951d6f75e2de0e047a4382", func := "loop.example/g00860/laws.FnExactLeastChange", spec := "fnExactLeastChange", apart := false }
def FnExactLeastChangeSaid : Prop := fnExactLeastChangeRow.holds Try.pinned (OpenSpec.ofChange fnExactLeastChangeSpec)

/-- ITS FALSE NEIGHBOUR: 'it returns false'. Refute it at one input. -/
def fnExactLeastChangeWrong : ChangeSpec := { name := "fnExactLeastChange", fn := fun _ => fun
  | [d1, d2] => { results := [.lit (.bool false)], args := [d1, d2] }
  | _ => none }
def FnExactLeastChangeWrongFalsely : Prop := fnExactLeastChangeRow.holds Try.pinned (OpenSpec.ofChange fnExactLeastChangeWrong)

/- THE SECOND FORM. 'bulk': how many values and letters a reading holds, each counted each time it is reached (what is shared counts as often as it is met; a slice's spare places count too). A statement '..UptoSaid' is the law's where the arguments, and the package variables that the reading takes, are together of bulk at most 1048576: NARROWER than '..Said'. Prove '..Said' where nothing that the law and all that it calls make is longer than what came in: it says more and counts as full. Else prove '..UptoSaid'. A law counts once. -/
mutual
def uptoBulk {H : Type} : DataW H → Nat
  | .lit (.string bytes) => bytes.length + 1
  | .lit _ => 1
  | .nil => 1
  | .ptr d => uptoBulk d + 1
  | .slice elems spare => uptoBulkAll elems + uptoBulkAll spare + 1
  | .agg parts => uptoBulkAll parts + 1
  | .iface _ d => uptoBulk d + 1
  | .map entries => uptoBulkEntries entries + 1
  | .held _ => 1
def uptoBulkAll {H : Type} : List (DataW H) → Nat
  | [] => 0
  | d :: r => uptoBulk d + uptoBulkAll r
def uptoBulkEntries {H : Type} : List (Lit × DataW H) → Nat
  | [] => 0
  | x :: r => uptoBulkEntry x + uptoBulkEntries r
def uptoBulkEntry {H : Type} : Lit × DataW H → Nat
  | (.string bytes, d) => bytes.length + uptoBulk d + 1
  | (_, d) => uptoBulk d + 1
 end
def uptoSmall : (H : Type) → List (DataW H) → Bool := fun _ ds => decide (uptoBulkAll ds ≤ 1048576)
def OpenSpec.upto (s : _root_.Go.ChangeSpec) : _root_.Go.OpenSpec := { _root_.Go.OpenSpec.ofChange s with cond := some uptoSmall }

/-- 'laws.FnExactPuzzleOk', WHERE WHAT IT READS IS OF BULK AT MOST 1048576: true; the input reads as it did. -/
def fnExactPuzzleOkUptoRow : OpenClaim := { program := "ytodaiaigmjaaoaa", sum := "016b1e7b3ea6660d12ba2dbf0d119bfdb764f93c8f951d6f75e2de0e047a4382", func := "loop.example/g00860/laws.FnExactPuzzleOk", spec := "fnExactPuzzleOk", apart := false, narrowed := true }
def FnExactPuzzleOkUptoSaid : Prop := fnExactPuzzleOkUptoRow.holds Try.pinned (OpenSpec.upto fnExactPuzzleOkSpec)

/-- 'laws.FnRuns', WHERE WHAT IT READS IS OF BULK AT MOST 1048576: true; the input reads as it did. -/
def fnRunsUptoRow : OpenClaim := { program := "ytodaiaigmjaaoaa", sum := "016b1e7b3ea6660d12ba2dbf0d119bfdb764f93c8f951d6f75e2de0e047a4382", func := "loop.example/g00860/laws.FnRuns", spec := "fnRuns", apart := false, narrowed := true }
def FnRunsUptoSaid : Prop := fnRunsUptoRow.holds Try.pinned (OpenSpec.upto fnRunsSpec)

/-- 'laws.FnExactLinesFor', WHERE WHAT IT READS IS OF BULK AT MOST 1048576: true; the input reads as it did. -/
def fnExactLinesForUptoRow : OpenClaim := { program := "ytodaiaigmjaaoaa", sum := "016b1e7b3ea6660d12ba2dbf0d119bfdb764f93c8f951d6f75e2de0e047a4382", func := "loop.example/g00860/laws.FnExactLinesFor", spec := "fnExactLinesFor", apart := false, narrowed := true }
def FnExactLinesForUptoSaid : Prop := fnExactLinesForUptoRow.holds Try.pinned (OpenSpec.upto fnExactLinesForSpec)

/-- 'laws.FnExactParseImage', WHERE WHAT IT READS IS OF BULK AT MOST 1048576: true; the input reads as it did. -/
def fnExactParseImageUptoRow : OpenClaim := { program := "ytodaiaigmjaaoaa", sum := "016b1e7b3ea6660d12ba2dbf0d119bfdb764f93c8f951d6f75e2de0e047a4382", func := "loop.example/g00860/laws.FnExactParseImage", spec := "fnExactParseImage", inPlace := ["internal/bytealg.IndexByteString"], apart := false, narrowed := true }
def FnExactParseImageUptoSaid : Prop := fnExactParseImageUptoRow.holds Try.pinned (OpenSpec.upto fnExactParseImageSpec)

/-- 'laws.FnExactSolveLine', WHERE WHAT IT READS IS OF BULK AT MOST 1048576: true; the input reads as it did. -/
def fnExactSolveLineUptoRow : OpenClaim := { program := "ytodaiaigmjaaoaa", sum := "016b1e7b3ea6660d12ba2dbf0d119bfdb764f93c8f951d6f75e2de0e047a4382", func := "loop.example/g00860/laws.FnExactSolveLine", spec := "fnExactSolveLine", apart := false, narrowed := true }
def FnExactSolveLineUptoSaid : Prop := fnExactSolveLineUptoRow.holds Try.pinned (OpenSpec.upto fnExactSolveLineSpec)

/-- 'laws.FnReveals', WHERE WHAT IT READS IS OF BULK AT MOST 1048576: true; the input reads as it did. -/
def fnRevealsUptoRow : OpenClaim := { program := "ytodaiaigmjaaoaa", sum := "016b1e7b3ea6660d12ba2dbf0d119bfdb764f93c8f951d6f75e2de0e047a4382", func := "loop.example/g00860/laws.FnReveals", spec := "fnReveals", unfollowed := true, recurses := true, apart := false, narrowed := true }
def FnRevealsUptoSaid : Prop := fnRevealsUptoRow.holds Try.pinned (OpenSpec.upto fnRevealsSpec)

/-- 'laws.FnIntervals', WHERE WHAT IT READS IS OF BULK AT MOST 1048576: true; the input reads as it did. -/
def fnIntervalsUptoRow : OpenClaim := { program := "ytodaiaigmjaaoaa", sum := "016b1e7b3ea6660d12ba2dbf0d119bfdb764f93c8f951d6f75e2de0e047a4382", func := "loop.example/g00860/laws.FnIntervals", spec := "fnIntervals", unfollowed := true, recurses := true, apart := false, narrowed := true }
def FnIntervalsUptoSaid : Prop := fnIntervalsUptoRow.holds Try.pinned (OpenSpec.upto fnIntervalsSpec)

/-- 'laws.FnExactFormatImage', WHERE WHAT IT READS IS OF BULK AT MOST 1048576: true; the input reads as it did. -/
def fnExactFormatImageUptoRow : OpenClaim := { program := "ytodaiaigmjaaoaa", sum := "016b1e7b3ea6660d12ba2dbf0d119bfdb764f93c8f951d6f75e2de0e047a4382", func := "loop.example/g00860/laws.FnExactFormatImage", spec := "fnExactFormatImage", inPlace := ["internal/abi.NoEscape", "internal/bytealg.MakeNoZero"], apart := false, narrowed := true }
def FnExactFormatImageUptoSaid : Prop := fnExactFormatImageUptoRow.holds Try.pinned (OpenSpec.upto fnExactFormatImageSpec)

/-- 'laws.FnExactChangeOf', WHERE WHAT IT READS IS OF BULK AT MOST 1048576: true; the input reads as it did. -/
def fnExactChangeOfUptoRow : OpenClaim := { program := "ytodaiaigmjaaoaa", sum := "016b1e7b3ea6660d12ba2dbf0d119bfdb764f93c8f951d6f75e2de0e047a4382", func := "loop.example/g00860/laws.FnExactChangeOf", spec := "fnExactChangeOf", apart := false, narrowed := true }
def FnExactChangeOfUptoSaid : Prop := fnExactChangeOfUptoRow.holds Try.pinned (OpenSpec.upto fnExactChangeOfSpec)

/-- 'laws.FnExactLeastChange', WHERE WHAT IT READS IS OF BULK AT MOST 1048576: true; the input reads as it did. -/
def fnExactLeastChangeUptoRow : OpenClaim := { program := "ytodaiaigmjaaoaa", sum := "016b1e7b3ea6660d12ba2dbf0d119bfdb764f93c8f951d6f75e2de0e047a4382", func := "loop.example/g00860/laws.FnExactLeastChange", spec := "fnExactLeastChange", apart := false, narrowed := true }
def FnExactLeastChangeUptoSaid : Prop := fnExactLeastChangeUptoRow.holds Try.pinned (OpenSpec.upto fnExactLeastChangeSpec)

end Rows
end Go.Proofs.Ytodaiaigmjaaoaa

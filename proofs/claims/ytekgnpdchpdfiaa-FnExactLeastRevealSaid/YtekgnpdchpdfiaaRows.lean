/-
  No cell of these rows narrows 'for every input' (looked for: loops, veiled, ifaces, maps, wideKeys, modest, calm, conditions, laid).
  DERIVED. THE GIVEN ROWS OF THIS SEAT. 6 by the template 'for every input the law returns true; each argument reads behind the call as it read before'; 0 by the template 'total and deterministic' (their statements: YtekgnpdchpdfiaaTotals.lean).
  GIVEN WITH THE SEED: the statements are not yours to turn. If you find one false, say at which input.
  Laid BY PROGRAM, IN A SANDBOX (cutbox-rows.mjs): the forced cells as the released guide's own fill.sh prints them over the translation bc48f02b72bda62c… (all of the seat's roots in one cut). By AI agents, Wed Nov 11 2026. No macro, syntax, notation, axiom, sorry.
-/
import Derived.Test.YtekgnpdchpdfiaaChecked
import GoSem.Claim
import GoSem.ClaimJoined
import GoSem.ClaimMapViews
import Derived.JoinedTies
import Derived.KernelRfl
namespace Go.Proofs.Ytekgnpdchpdfiaa
/- THE CELL 'sum', in the pinned program and in every row, IS THE sha256 OF THE DUMP (.gsa) THAT YtekgnpdchpdfiaaProg.lean LOADS. Nothing in Lean hashes anything: it is a label: what it is worth is what the hold of that sum in a sandbox is worth. -/
noncomputable def Try.pinned : Pinned := { name := "ytekgnpdchpdfiaa", sum := "bc48f02b72bda62c699f3c6283ba14e15e19c3d93873b9a0aa69b7a3b9fce6b0", checked := Try.checked }
namespace Rows
def none {H : Type} : Left H := { results := [], args := [] }

/-- 'laws.FnExactDeduce': WHATEVER THE INPUT: true; the input reads as it did. -/
def fnExactDeduceSpec : ChangeSpec := { name := "fnExactDeduce", fn := fun _ => fun
  | [d] => { results := [.lit (.bool true)], args := [d] }
  | _ => none }
def fnExactDeduceRow : OpenClaim := { program := "ytekgnpdchpdfiaa", sum := "bc48f02b72bda62c699f3c6283ba14e15e19c3d93873b9a0aa69b7a3b9fce6b0", func := "loop.example/g00860/laws.FnExactDeduce", spec := "fnExactDeduce", unfollowed := true, recurses := true, apart := false }
def FnExactDeduceSaid : Prop := fnExactDeduceRow.holds Try.pinned (OpenSpec.ofChange fnExactDeduceSpec)

/-- ITS FALSE NEIGHBOUR: 'it returns false'. Refute it at one input. -/
def fnExactDeduceWrong : ChangeSpec := { name := "fnExactDeduce", fn := fun _ => fun
  | [d] => { results := [.lit (.bool false)], args := [d] }
  | _ => none }
def FnExactDeduceWrongFalsely : Prop := fnExactDeduceRow.holds Try.pinned (OpenSpec.ofChange fnExactDeduceWrong)

/-- 'laws.FnExactIsLogical': WHATEVER THE INPUT: true; the input reads as it did. -/
def fnExactIsLogicalSpec : ChangeSpec := { name := "fnExactIsLogical", fn := fun _ => fun
  | [d] => { results := [.lit (.bool true)], args := [d] }
  | _ => none }
def fnExactIsLogicalRow : OpenClaim := { program := "ytekgnpdchpdfiaa", sum := "bc48f02b72bda62c699f3c6283ba14e15e19c3d93873b9a0aa69b7a3b9fce6b0", func := "loop.example/g00860/laws.FnExactIsLogical", spec := "fnExactIsLogical", unfollowed := true, recurses := true, apart := false }
def FnExactIsLogicalSaid : Prop := fnExactIsLogicalRow.holds Try.pinned (OpenSpec.ofChange fnExactIsLogicalSpec)

/-- ITS FALSE NEIGHBOUR: 'it returns false'. Refute it at one input. -/
def fnExactIsLogicalWrong : ChangeSpec := { name := "fnExactIsLogical", fn := fun _ => fun
  | [d] => { results := [.lit (.bool false)], args := [d] }
  | _ => none }
def FnExactIsLogicalWrongFalsely : Prop := fnExactIsLogicalRow.holds Try.pinned (OpenSpec.ofChange fnExactIsLogicalWrong)

/-- 'laws.FnExactSolvePuzzle': WHATEVER THE INPUT: true; the input reads as it did. -/
def fnExactSolvePuzzleSpec : ChangeSpec := { name := "fnExactSolvePuzzle", fn := fun _ => fun
  | [d] => { results := [.lit (.bool true)], args := [d] }
  | _ => none }
def fnExactSolvePuzzleRow : OpenClaim := { program := "ytekgnpdchpdfiaa", sum := "bc48f02b72bda62c699f3c6283ba14e15e19c3d93873b9a0aa69b7a3b9fce6b0", func := "loop.example/g00860/laws.FnExactSolvePuzzle", spec := "fnExactSolvePuzzle", unfollowed := true, recurses := true, apart := false }
def FnExactSolvePuzzleSaid : Prop := fnExactSolvePuzzleRow.holds Try.pinned (OpenSpec.ofChange fnExactSolvePuzzleSpec)

/-- ITS FALSE NEIGHBOUR: 'it returns false'. Refute it at one input. -/
def fnExactSolvePuzzleWrong : ChangeSpec := { name := "fnExactSolvePuzzle", fn := fun _ => fun
  | [d] => { results := [.lit (.bool false)], args := [d] }
  | _ => none }
def FnExactSolvePuzzleWrongFalsely : Prop := fnExactSolvePuzzleRow.holds Try.pinned (OpenSpec.ofChange fnExactSolvePuzzleWrong)

/-- 'laws.FnExactLeastReveal': WHATEVER THE INPUT: true; the input reads as it did. -/
def fnExactLeastRevealSpec : ChangeSpec := { name := "fnExactLeastReveal", fn := fun _ => fun
  | [d] => { results := [.lit (.bool true)], args := [d] }
  | _ => none }
def fnExactLeastRevealRow : OpenClaim := { program := "ytekgnpdchpdfiaa", sum := "bc48f02b72bda62c699f3c6283ba14e15e19c3d93873b9a0aa69b7a3b9fce6b0", func := "loop.example/g00860/laws.FnExactLeastReveal", spec := "fnExactLeastReveal", unfollowed := true, recurses := true, apart := false }
def FnExactLeastRevealSaid : Prop := fnExactLeastRevealRow.holds Try.pinned (OpenSpec.ofChange fnExactLeastRevealSpec)

/-- ITS FALSE NEIGHBOUR: 'it returns false'. Refute it at one input. -/
def fnExactLeastRevealWrong : ChangeSpec := { name := "fnExactLeastReveal", fn := fun _ => fun
  | [d] => { results := [.lit (.bool false)], args := [d] }
  | _ => none }
def FnExactLeastRevealWrongFalsely : Prop := fnExactLeastRevealRow.holds Try.pinned (OpenSpec.ofChange fnExactLeastRevealWrong)

/-- 'laws.FnRepairs': WHATEVER THE INPUT: true; the input reads as it did. -/
def fnRepairsSpec : ChangeSpec := { name := "fnRepairs", fn := fun _ => fun
  | [d] => { results := [.lit (.bool true)], args := [d] }
  | _ => none }
def fnRepairsRow : OpenClaim := { program := "ytekgnpdchpdfiaa", sum := "bc48f02b72bda62c699f3c6283ba14e15e19c3d93873b9a0aa69b7a3b9fce6b0", func := "loop.example/g00860/laws.FnRepairs", spec := "fnRepairs", unfollowed := true, recurses := true, apart := false }
def FnRepairsSaid : Prop := fnRepairsRow.holds Try.pinned (OpenSpec.ofChange fnRepairsSpec)

/-- ITS FALSE NEIGHBOUR: 'it returns false'. Refute it at one input. -/
def fnRepairsWrong : ChangeSpec := { name := "fnRepairs", fn := fun _ => fun
  | [d] => { results := [.lit (.bool false)], args := [d] }
  | _ => none }
def FnRepairsWrongFalsely : Prop := fnRepairsRow.holds Try.pinned (OpenSpec.ofChange fnRepairsWrong)

/-- 'laws.FnExactGreedyReveal': WHATEVER THE INPUT: true; the input reads as it did. -/
def fnExactGreedyRevealSpec : ChangeSpec := { name := "fnExactGreedyReveal", fn := fun _ => fun
  | [d] => { results := [.lit (.bool true)], args := [d] }
  | _ => none }
def fnExactGreedyRevealRow : OpenClaim := { program := "ytekgnpdchpdfiaa", sum := "bc48f02b72bda62c699f3c6283ba14e15e19c3d93873b9a0aa69b7a3b9fce6b0", func := "loop.example/g00860/laws.FnExactGreedyReveal", spec := "fnExactGreedyReveal", unfollowed := true, recurses := true, apart := false }
def FnExactGreedyRevealSaid : Prop := fnExactGreedyRevealRow.holds Try.pinned (OpenSpec.ofChange fnExactGreedyRevealSpec)

/-- ITS FALSE NEIGHBOUR: 'it returns false'. Refute it at one input. -/
def fnExactGreedyRevealWrong : ChangeSpec := { name := "fnExactGreedyReveal", fn := fun _ => fun
  | [d] => { results := [.lit (.bool false)], args := [d] }
  | _ => none }
def FnExactGreedyRevealWrongFalsely : Prop := fnExactGreedyRevealRow.holds Try.pinned (OpenSpec.ofChange fnExactGreedyRevealWrong)

/- THE SECOND FORM. 'bulk': how many values and letters a reading holds, each counted each time it is reached (what is shared counts as often as it is met; a slice's spare places count too). A statement '..UptoSaid' is the law's where the arguments, and the package variables that the reading takes, are together of bulk at most 1048576: NARROWER than '..Said'. Prove '..Said' where nothing that the law and all that it calls make is longer than what came in: it says more and counts as full. Else prove '..UptoSaid'. A law counts once. -/
mutual
def uptoBulk {H : Type} : DataW H → Nat
  | .lit (.string bytes) => bytes.length + 1
  | .lit _ => 1
  | .nil => 1
  | .ptr d => uptoBulk d + 1
  | .slice elems spare => uptoBulkAll elems + uptoBulkAll spare + 1
  | .agg parts => uptoBulkAll parts + 1
  | .iface _ d => uptoBulk d + 1
  | .map entries => uptoBulkEntries entries + 1
  | .held _ => 1
def uptoBulkAll {H : Type} : List (DataW H) → Nat
  | [] => 0
  | d :: r => uptoBulk d + uptoBulkAll r
def uptoBulkEntries {H : Type} : List (Lit × DataW H) → Nat
  | [] => 0
  | x :: r => uptoBulkEntry x + uptoBulkEntries r
def uptoBulkEntry {H : Type} : Lit × DataW H → Nat
  | (.string bytes, d) => bytes.length + uptoBulk d + 1
  | (_, d) => uptoBulk d + 1
 end
def uptoSmall : (H : Type) → List (DataW H) → Bool := fun _ ds => decide (uptoBulkAll ds ≤ 1048576)
def OpenSpec.upto (s : _root_.Go.ChangeSpec) : _root_.Go.OpenSpec := { _root_.Go.OpenSpec.ofChange s with cond := some uptoSmall }

/-- 'laws.FnExactDeduce', WHERE WHAT IT READS IS OF BULK AT MOST 1048576: true; the input reads as it did. -/
def fnExactDeduceUptoRow : OpenClaim := { program := "ytekgnpdchpdfiaa", sum := "bc48f02b72bda62c699f3c6283ba14e15e19c3d93873b9a0aa69b7a3b9fce6b0", func := "loop.example/g00860/laws.FnExactDeduce", spec := "fnExactDeduce", unfollowed := true, recurses := true, apart := false, narrowed := true }
def FnExactDeduceUptoSaid : Prop := fnExactDeduceUptoRow.holds Try.pinned (OpenSpec.upto fnExactDeduceSpec)

/-- 'laws.FnExactIsLogical', WHERE WHAT IT READS IS OF BULK AT MOST 1048576: true; the input reads as it did. -/
def fnExactIsLogicalUptoRow : OpenClaim := { program := "ytekgnpdchpdfiaa", sum := "bc48f02b72bda62c699f3c6283ba14e15e19c3d93873b9a0aa69b7a3b9fce6b0", func := "loop.example/g00860/laws.FnExactIsLogical", spec := "fnExactIsLogical", unfollowed := true, recurses := true, apart := false, narrowed := true }
def FnExactIsLogicalUptoSaid : Prop := fnExactIsLogicalUptoRow.holds Try.pinned (OpenSpec.upto fnExactIsLogicalSpec)

/-- 'laws.FnExactSolvePuzzle', WHERE WHAT IT READS IS OF BULK AT MOST 1048576: true; the input reads as it did. -/
def fnExactSolvePuzzleUptoRow : OpenClaim := { program := "ytekgnpdchpdfiaa", sum := "bc48f02b72bda62c699f3c6283ba14e15e19c3d93873b9a0aa69b7a3b9fce6b0", func := "loop.example/g00860/laws.FnExactSolvePuzzle", spec := "fnExactSolvePuzzle", unfollowed := true, recurses := true, apart := false, narrowed := true }
def FnExactSolvePuzzleUptoSaid : Prop := fnExactSolvePuzzleUptoRow.holds Try.pinned (OpenSpec.upto fnExactSolvePuzzleSpec)

/-- 'laws.FnExactLeastReveal', WHERE WHAT IT READS IS OF BULK AT MOST 1048576: true; the input reads as it did. -/
def fnExactLeastRevealUptoRow : OpenClaim := { program := "ytekgnpdchpdfiaa", sum := "bc48f02b72bda62c699f3c6283ba14e15e19c3d93873b9a0aa69b7a3b9fce6b0", func := "loop.example/g00860/laws.FnExactLeastReveal", spec := "fnExactLeastReveal", unfollowed := true, recurses := true, apart := false, narrowed := true }
def FnExactLeastRevealUptoSaid : Prop := fnExactLeastRevealUptoRow.holds Try.pinned (OpenSpec.upto fnExactLeastRevealSpec)

/-- 'laws.FnRepairs', WHERE WHAT IT READS IS OF BULK AT MOST 1048576: true; the input reads as it did. -/
def fnRepairsUptoRow : OpenClaim := { program := "ytekgnpdchpdfiaa", sum := "bc48f02b72bda62c699f3c6283ba14e15e19c3d93873b9a0aa69b7a3b9fce6b0", func := "loop.example/g00860/laws.FnRepairs", spec := "fnRepairs", unfollowed := true, recurses := true, apart := false, narrowed := true }
def FnRepairsUptoSaid : Prop := fnRepairsUptoRow.holds Try.pinned (OpenSpec.upto fnRepairsSpec)

/-- 'laws.FnExactGreedyReveal', WHERE WHAT IT READS IS OF BULK AT MOST 1048576: true; the input reads as it did. -/
def fnExactGreedyRevealUptoRow : OpenClaim := { program := "ytekgnpdchpdfiaa", sum := "bc48f02b72bda62c699f3c6283ba14e15e19c3d93873b9a0aa69b7a3b9fce6b0", func := "loop.example/g00860/laws.FnExactGreedyReveal", spec := "fnExactGreedyReveal", unfollowed := true, recurses := true, apart := false, narrowed := true }
def FnExactGreedyRevealUptoSaid : Prop := fnExactGreedyRevealUptoRow.holds Try.pinned (OpenSpec.upto fnExactGreedyRevealSpec)

end Rows
end Go.Proofs.Ytekgnpdchpdfiaa

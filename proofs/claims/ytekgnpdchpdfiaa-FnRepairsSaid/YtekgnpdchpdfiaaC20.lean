/- Contracts: the reference's ClosestImage, LeastChange. -/
import Derived.Test.YtekgnpdchpdfiaaC19
namespace Go.Proofs.Ytekgnpdchpdfiaa
open Go.RowKit


def leastChange (rows cols : List Int) : Int := if (closest rows cols).isSome then closeNum (closest rows cols) else -1
theorem LeastChange_i (v1 v2 : Value) (rows cols : List Int) (w : World) (h1 : Ints w v1 rows) (h2 : Ints w v2 cols) :
    Calls Try.prog 36 #[v1, v2] w fun e w' => e = .returned (.int .i64 (leastChange rows cols)) ∧ Below w.heap.size w w' := by
  go_enter Try.func36, Try.ntmps36
  go_wp2_with (fail)
  refine (ClosestImage_i _ _ _ _ _ h1 h2).mono ?_
  rintro e w1 ⟨v1, rfl, ho, hbel⟩
  cases hc : (closest rows cols).isSome
  · have Hl := Lib.hid (show leastChange rows cols = -1 from by unfold leastChange; rw [hc]; rfl)
    go_wp2
    go_ret
    exact ⟨retI Hl.out.symm, hbel⟩
  · have Hl := Lib.hid (show leastChange rows cols = closeNum (closest rows cols) from by unfold leastChange; rw [hc]; rfl)
    go_wp2
    go_ret
    exact ⟨retI Hl.out.symm, hbel⟩
end Go.Proofs.Ytekgnpdchpdfiaa

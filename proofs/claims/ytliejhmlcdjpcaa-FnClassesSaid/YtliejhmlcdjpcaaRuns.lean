/- Runs of a line: plain. -/
import Derived.Test.YtliejhmlcdjpcaaC1
namespace Go.Proofs.Ytliejhmlcdjpcaa

/-- the runs that have ended, and the length of the one that has not -/
def runsFin (s : List Int × Nat) : List Int := if 0 < s.2 then s.1 ++ [(s.2 : Int)] else s.1
def runsStep (s : List Int × Nat) (x : Int) : List Int × Nat := if x = 1 then (s.1, s.2 + 1) else (runsFin s, 0)
def runsSt (xs : List Int) : List Int × Nat := xs.foldl runsStep ([], 0)
def runsOf (xs : List Int) : List Int := runsFin (runsSt xs)

theorem runsSt_take {xs : List Int} {k : Nat} {x : Int} (h : xs[k]? = some x) : runsSt (xs.take (k + 1)) = if x = 1 then ((runsSt (xs.take k)).1, (runsSt (xs.take k)).2 + 1) else (runsFin (runsSt (xs.take k)), 0) := by
  obtain ⟨hk, hx⟩ := List.getElem?_eq_some_iff.1 h
  rw [List.take_succ_eq_append_getElem hk, hx]
  unfold runsSt
  rw [List.foldl_append]
  rfl

theorem runsSt_pos {xs : List Int} {k : Nat} (hk : k ≤ xs.length) : 0 < (runsSt (xs.take k)).2 ↔ 0 < k ∧ xs[k - 1]? = some 1 := by
  cases k with
  | zero => simp [runsSt]
  | succ k =>
    have hx : xs[k]? = some xs[k] := List.getElem?_eq_getElem (by omega)
    rw [runsSt_take hx]
    simp only [Nat.add_sub_cancel, hx]
    split <;> simp_all

theorem runsSt_len {xs : List Int} : ∀ k, k ≤ xs.length → (runsSt (xs.take k)).1.length + (runsSt (xs.take k)).2 ≤ k := by
  intro k
  induction k with
  | zero => intro _; simp [runsSt]
  | succ k ih =>
    intro hk
    have h1 := ih (by omega)
    have hx : xs[k]? = some xs[k] := List.getElem?_eq_getElem (by omega)
    rw [runsSt_take hx]
    split
    · simp; omega
    · simp only [runsFin]
      split
      · simp; omega
      · simp; omega

theorem runsOf_len (xs : List Int) : (runsOf xs).length ≤ xs.length := by
  have h := runsSt_len (xs := xs) xs.length (Nat.le_refl _)
  rw [List.take_length] at h
  unfold runsOf runsFin
  split
  · simp; omega
  · omega
end Go.Proofs.Ytliejhmlcdjpcaa

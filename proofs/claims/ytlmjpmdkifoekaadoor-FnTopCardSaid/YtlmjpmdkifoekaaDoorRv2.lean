/- Contracts: CountAgreeing, IsEnough, RevealNext, GreedyReveal of the program. -/
import Derived.Test.YtlmjpmdkifoekaaDoorRv1
namespace Go.Proofs.YtlmjpmdkifoekaaDoor
open Go.RowKit

/-- how many images of a list have in a cell what the image has -/
def cnt1 (c : Nat) (m : List (List Int)) (n : Nat) (A : List (List (List Int))) : Nat := (A.filter fun h => decide (at2 h (n / c) (n % c) = at2 m (n / c) (n % c))).length
theorem cnt1_eq (c : Nat) (L : List (List (List Int))) (m : List (List Int)) (cells : List Int) (n : Nat) : cnt1 c m n (agreeing c L m cells) = cntA c L m (cells ++ [(n : Int)]) := by
  unfold cntA
  rw [agreeing_snoc]
  unfold cnt1 cellN
  rw [Int.toNat_natCast]
theorem cnt1_take {c : Nat} {m : List (List Int)} {n j : Nat} {A : List (List (List Int))} {x : List (List Int)} (h : A[j]? = some x) : cnt1 c m n (A.take (j + 1)) = cnt1 c m n (A.take j) + if at2 x (n / c) (n % c) = at2 m (n / c) (n % c) then 1 else 0 := by
  unfold cnt1
  rw [List.take_add_one, h, Option.toList_some, List.filter_append, List.length_append]
  by_cases hb : at2 x (n / c) (n % c) = at2 m (n / c) (n % c) <;> simp [hb]
theorem cnt1_le (c : Nat) (m : List (List Int)) (n : Nat) (A : List (List (List Int))) : cnt1 c m n A ≤ A.length := List.length_filter_le _ _
def BestSt (f : Nat → Nat) (len k : Nat) (b fw : Int) : Prop := (k = 0 ∧ b = -1 ∧ fw = (len : Int) + 1) ∨ (1 ≤ k ∧ b = (argmin f k : Nat) ∧ fw = (f (argmin f k) : Nat))
theorem BestSt.less {f : Nat → Nat} {len k : Nat} {b fw : Int} (h : BestSt f len k b fw) (hlt : (f k : Int) < fw) : BestSt f len (k + 1) k (f k) := by
  rcases h with ⟨rfl, -, -⟩ | ⟨h1, -, rfl⟩
  · exact .inr ⟨by omega, by rw [argmin_one], by rw [argmin_one]⟩
  · have e : argmin f (k + 1) = k := by rw [argmin_step h1, if_pos (by omega)]
    exact .inr ⟨by omega, by rw [e], by rw [e]⟩
theorem BestSt.more {f : Nat → Nat} {len k : Nat} {b fw : Int} (hf : ∀ i, f i ≤ len) (h : BestSt f len k b fw) (hlt : ¬ (f k : Int) < fw) : BestSt f len (k + 1) b fw := by
  rcases h with ⟨rfl, -, rfl⟩ | ⟨h1, h2, rfl⟩
  · have := hf 0; omega
  · have e : argmin f (k + 1) = argmin f k := by rw [argmin_step h1, if_neg (by omega)]
    exact .inr ⟨by omega, by rw [e, h2], by rw [e]⟩
theorem BestSt.bd {f : Nat → Nat} {len k : Nat} {b fw : Int} (hf : ∀ i, f i ≤ len) (h : BestSt f len k b fw) : -1 ≤ b ∧ b ≤ k ∧ 0 ≤ fw ∧ fw ≤ (len : Int) + 1 := by
  rcases h with ⟨rfl, rfl, rfl⟩ | ⟨h1, rfl, rfl⟩
  · omega
  · have := (argmin_spec f k h1).1
    have := hf (argmin f k)
    omega
/-- the answer of RevealNext -/
def nextOr (r c : Nat) (L : List (List (List Int))) (m : List (List Int)) (cells : List Int) : Int := if cntA c L m cells = 1 then -1 else (nextCell c (r * c) L m cells : Nat)
end Go.Proofs.YtlmjpmdkifoekaaDoor

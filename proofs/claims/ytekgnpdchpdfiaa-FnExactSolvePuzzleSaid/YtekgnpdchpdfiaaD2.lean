/- Contracts: the reference's Deduce. -/
import Derived.Test.YtekgnpdchpdfiaaD1
import Derived.Test.YtekgnpdchpdfiaaAlike
import Derived.Test.YtekgnpdchpdfiaaC16
import Derived.Test.YtekgnpdchpdfiaaDraw2
import Derived.Deep.DeepCutAuto
import Derived.Deep.LoopGhost
import Derived.Deep.DeepFit
import Derived.Deep.RegionWith
namespace Go.Proofs.Ytekgnpdchpdfiaa
open Go.RowKit

theorem setT_row {m : List (List Int)} {y x : Nat} {v : Int} (hy : y < m.length) (i : Nat) : (setC m y x v).getD i [] = if i = y then (m.getD y []).set x v else m.getD i [] := by
  unfold setC
  by_cases hi : i = y
  · subst hi; rw [if_pos rfl, gD_self hy]
  · rw [if_neg hi, gD_ne (by omega)]
theorem at2_setT {m : List (List Int)} {r c y x : Nat} (h : TRect r c m) (hy : y < r) (hx : x < c) (v : Int) (i j : Nat) : at2 (setC m y x v) i j = if i = y ∧ j = x then v else at2 m i j := by
  unfold at2
  rw [setT_row (by rw [h.1]; exact hy)]
  obtain ⟨-, hl, -⟩ := h.row hy
  by_cases hi : i = y
  · subst hi
    rw [if_pos rfl]
    by_cases hj : j = x
    · subst hj; rw [if_pos ⟨rfl, rfl⟩, gD_self (by omega)]
    · rw [if_neg (fun h => hj h.2), gD_ne (by omega)]
  · rw [if_neg hi, if_neg (fun h => hi h.1)]
theorem TRect.setC {m : List (List Int)} {r c y x : Nat} (h : TRect r c m) (hy : y < r) {v : Int} (h0 : -1 ≤ v) (h1 : v ≤ 1) : TRect r c (setC m y x v) := by
  obtain ⟨-, hl, hb⟩ := h.row hy
  refine ⟨by unfold Go.Proofs.Ytekgnpdchpdfiaa.setC; rw [List.length_set]; exact h.1, fun row hrow => ?_⟩
  unfold Go.Proofs.Ytekgnpdchpdfiaa.setC at hrow
  rcases List.mem_or_eq_of_mem_set hrow with h2 | h2
  · exact h.2 row h2
  · subst h2
    refine ⟨by rw [List.length_set]; exact hl, fun z hz => ?_⟩
    rcases List.mem_or_eq_of_mem_set hz with h3 | h3
    · exact hb z h3
    · subst h3; exact ⟨h0, h1⟩
/-- -1 before the cell (y, x), 0 from there on -/
def Filled (r c y x : Nat) (g : List (List Int)) : Prop := TRect r c g ∧ ∀ i j, i < r → j < c → at2 g i j = if i < y ∨ (i = y ∧ j < x) then -1 else 0
theorem filled_zeros (r c : Nat) : Filled r c 0 0 (zeros r c) := by
  refine ⟨⟨by simp [zeros], fun row hrow => ?_⟩, fun i j _ _ => by rw [at2_zeros, if_neg (by omega)]⟩
  have := List.eq_of_mem_replicate hrow
  subst this
  exact ⟨by simp, fun x hx => by have := List.eq_of_mem_replicate hx; omega⟩
theorem Filled.step {r c y x : Nat} {g : List (List Int)} (h : Filled r c y x g) (hy : y < r) (hx : x < c) : Filled r c y (x + 1) (g.set y ((g.getD y []).set x (-1))) := by
  refine ⟨h.1.setC hy (by decide) (by decide), fun i j hi hj => ?_⟩
  have := at2_setT h.1 hy hx (-1) i j
  unfold setC at this
  rw [this, h.2 i j hi hj]
  by_cases he : i = y ∧ j = x
  · rw [if_pos he, if_pos (by omega)]
  · rw [if_neg he]
    by_cases h1 : i < y ∨ (i = y ∧ j < x)
    · rw [if_pos h1, if_pos (by omega)]
    · rw [if_neg h1, if_neg (by omega)]
theorem Filled.next {r c y : Nat} {g : List (List Int)} (h : Filled r c y c g) : Filled r c (y + 1) 0 g := by
  refine ⟨h.1, fun i j hi hj => ?_⟩
  rw [h.2 i j hi hj]
  by_cases h1 : i < y ∨ (i = y ∧ j < c)
  · rw [if_pos h1, if_pos (by omega)]
  · rw [if_neg h1, if_neg (by omega)]
theorem Filled.done {r c : Nat} {g : List (List Int)} (h : Filled r c r 0 g) : g = openGrid r c := by
  refine h.1.ext (openGrid_rect r c) fun i j hi hj => ?_
  rw [h.2 i j hi hj, if_pos (.inl hi)]
  unfold at2 openGrid
  rw [gD_some (l := List.replicate r _) (x := List.replicate c (-1)) (by rw [List.getElem?_replicate, if_pos hi])]
  exact (gD_some (by rw [List.getElem?_replicate, if_pos hj])).symm
theorem dloop_step {R C m n : List (List Int)} {r c k : Nat} (h1 : 1 ≤ r) (h2 : 1 ≤ c) (hm : TRect r c m) (hk : unk m ≤ k) (hs : dstep R C m = some n) (hne : n ≠ m) : ∃ k', k' < k ∧ unk n ≤ k' ∧ dloop R C k m = dloop R C k' n ∧ TRect r c n := by
  have hl := dstep_less h1 h2 hm hs hne
  cases k with
  | zero => omega
  | succ k =>
    refine ⟨k, Nat.lt_succ_self _, by omega, ?_, (dstep_ref h1 h2 hm hs).1⟩
    rw [dloop, hs]
    simp only
    rw [if_neg hne]
theorem dloop_stop {R C m : List (List Int)} {k : Nat} (hs : dstep R C m = some m) : dloop R C k m = some m := by
  cases k <;> (rw [dloop, hs]; simp)
theorem dloop_none {R C m : List (List Int)} {k : Nat} (hs : dstep R C m = none) : dloop R C k m = none := by
  cases k <;> rw [dloop, hs]
theorem dstep_no1 {R C m : List (List Int)} (h : passOk R m = false) : dstep R C m = none := by unfold dstep; rw [h]; rfl
theorem dstep_no2 {R C m : List (List Int)} (h : passOk R m = true) (h2 : passOk C (tr (passV R m)) = false) : dstep R C m = none := by unfold dstep; rw [h, h2]; rfl
theorem dstep_yes {R C m : List (List Int)} (h : passOk R m = true) (h2 : passOk C (tr (passV R m)) = true) : dstep R C m = some (tr (passV C (tr (passV R m)))) := by unfold dstep; rw [h, h2]; rfl
theorem deduce_no {R C : List (List Int)} (h : puzzleOk R C = false) : deduce R C = none := by unfold deduce; rw [h]; rfl
theorem deduce_yes {R C : List (List Int)} (h : puzzleOk R C = true) : deduce R C = dloop R C (R.length * C.length) (openGrid R.length C.length) := by unfold deduce; rw [h]; rfl
theorem puzzleOk_bd {R C : List (List Int)} (h : puzzleOk R C = true) : 1 ≤ R.length ∧ R.length ≤ 5 ∧ 1 ≤ C.length ∧ C.length ≤ 5 := by
  unfold puzzleOk at h
  simp only [Bool.and_eq_true, inR_iff] at h
  omega
end Go.Proofs.Ytekgnpdchpdfiaa

/- Deduction in place: plain. -/
import Derived.Test.YtekgnpdchpdfiaaD2
namespace Go.Proofs.Ytekgnpdchpdfiaa

def rowMix (R m : List (List Int)) (k : Nat) : List (List Int) := passTo R m k ++ m.drop k
theorem rowMix_len {R m : List (List Int)} {k : Nat} (h : k ≤ m.length) : (rowMix R m k).length = m.length := by
  unfold rowMix; rw [List.length_append, passTo_len, List.length_drop]; omega
theorem rowMix_zero (R m : List (List Int)) : rowMix R m 0 = m := by simp [rowMix, passTo]
theorem rowMix_at {R m : List (List Int)} {k : Nat} (h : k < m.length) : (rowMix R m k)[k]? = some (m.getD k []) := by
  unfold rowMix
  rw [List.getElem?_append_right (by rw [passTo_len]; exact Nat.le_refl _), passTo_len, Nat.sub_self, List.getElem?_drop, Nat.add_zero]
  exact gD_at [] h
theorem rowMix_set {R m : List (List Int)} {k : Nat} (h : k < m.length) : (rowMix R m k).set k ((sl R m k).getD []) = rowMix R m (k + 1) := by
  unfold rowMix
  rw [List.set_append_right _ _ (by rw [passTo_len]; exact Nat.le_refl _), passTo_len, Nat.sub_self, List.drop_eq_getElem_cons h, List.set_cons_zero, passTo_succ]
  simp
theorem rowMix_all {R m : List (List Int)} {k : Nat} (h : k = m.length) : rowMix R m k = passV R m := by
  subst h; unfold rowMix passV; simp
def colv (C A : List (List Int)) (j i : Nat) : Int := ((sl C (tr A) j).getD []).getD i 0
/-- the columns before x solved, and of column x the first k cells -/
def ColMix (C A : List (List Int)) (r c x k : Nat) (g : List (List Int)) : Prop := TRect r c g ∧ ∀ i j, i < r → j < c → at2 g i j = if j < x ∨ (j = x ∧ i < k) then colv C A j i else at2 A i j
theorem colMix_zero {C A : List (List Int)} {r c : Nat} (h : TRect r c A) : ColMix C A r c 0 0 A := ⟨h, fun i j _ _ => by rw [if_neg (by omega)]⟩
theorem ColMix.step {C A g : List (List Int)} {r c x k : Nat} (h : ColMix C A r c x k g) (hk : k < r) (hx : x < c) {v : Int} (hv : v = colv C A x k) (h0 : -1 ≤ v) (h1 : v ≤ 1) : ColMix C A r c x (k + 1) (g.set k ((g.getD k []).set x v)) := by
  refine ⟨h.1.setC hk h0 h1, fun i j hi hj => ?_⟩
  have := at2_setT h.1 hk hx v i j
  unfold setC at this
  rw [this, h.2 i j hi hj]
  by_cases he : i = k ∧ j = x
  · rw [if_pos he, if_pos (by omega), hv, he.1, he.2]
  · rw [if_neg he]
    by_cases h1 : j < x ∨ (j = x ∧ i < k)
    · rw [if_pos h1, if_pos (by omega)]
    · rw [if_neg h1, if_neg (by omega)]
theorem ColMix.next {C A g : List (List Int)} {r c x : Nat} (h : ColMix C A r c x r g) : ColMix C A r c (x + 1) 0 g := by
  refine ⟨h.1, fun i j hi hj => ?_⟩
  rw [h.2 i j hi hj]
  by_cases h1 : j < x ∨ (j = x ∧ i < r)
  · rw [if_pos h1, if_pos (by omega)]
  · rw [if_neg h1, if_neg (by omega)]
theorem ColMix.done {C A g : List (List Int)} {r c : Nat} (h1 : 1 ≤ r) (h2 : 1 ≤ c) (hA : TRect r c A) (h : ColMix C A r c c 0 g) (hok : passOk C (tr A) = true) : g = tr (passV C (tr A)) := by
  have hT := hA.tr h1
  have hB := (pass_ref hT hok).1
  refine h.1.ext (hB.tr h2) fun i j hi hj => ?_
  rw [h.2 i j hi hj, if_pos (.inl hj), tr_at2 hB h2 hj hi]
  unfold at2 colv passV
  rw [gD_some (passTo_at (by rw [hT.1]; exact hj))]
theorem col_at {A : List (List Int)} {r c x i : Nat} (h : TRect r c A) (h1 : 1 ≤ r) (hx : x < c) (hi : i < r) : ((tr A).getD x [])[i]? = some (at2 A i x) := by
  obtain ⟨-, hl, -⟩ := (h.tr h1).row hx
  rw [← tr_at2 h h1 hi hx]
  unfold at2
  exact gD_at 0 (by omega)
theorem colv_bd {C A : List (List Int)} {x : Nat} {o : List Int} (h : sl C (tr A) x = some o) (k : Nat) : -1 ≤ colv C A x k ∧ colv C A x k ≤ 1 := by
  unfold colv
  rw [h, Option.getD_some]
  by_cases hk : k < o.length
  · exact (solve_ref h).2.1 _ (List.mem_of_getElem? (gD_at 0 hk))
  · rw [gD_none (by omega)]; decide
/-- the blocks from lo to hi but for those from p to q -/
def Gap (lo p q hi : Nat) : Bk := fun b => (lo ≤ b ∧ b < hi) ∧ ¬ (p ≤ b ∧ b < q)
theorem gap_mono {lo p q hi hi' : Nat} (h : hi ≤ hi') : ∀ b, Gap lo p q hi b → Gap lo p q hi' b := fun _ hb => ⟨⟨hb.1.1, Nat.lt_of_lt_of_le hb.1.2 h⟩, hb.2⟩
theorem passOk_no {R m : List (List Int)} {k : Nat} (hk : k < m.length) (h : (sl R m k).isSome = false) : passOk R m = false := by
  rw [← Bool.not_eq_true]
  intro hp
  unfold passOk at hp
  have := List.all_eq_true.1 hp k (List.mem_range.2 hk)
  rw [h] at this
  cases this
theorem passOk_yes {R m : List (List Int)} (h : ∀ y, y < m.length → (sl R m y).isSome = true) : passOk R m = true := by
  unfold passOk
  rw [List.all_eq_true]
  exact fun y hy => h y (List.mem_range.1 hy)
end Go.Proofs.Ytekgnpdchpdfiaa

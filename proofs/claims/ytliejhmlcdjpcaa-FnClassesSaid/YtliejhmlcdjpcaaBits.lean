/- Images of numbers: plain. -/
import Derived.Test.YtliejhmlcdjpcaaLines
import Derived.Test.YtliejhmlcdjpcaaImg
namespace Go.Proofs.Ytliejhmlcdjpcaa

def bitCell (N key i : Nat) : Int := ((key / 2 ^ (N - 1 - i) % 2 : Nat) : Int)
def imgFrom (r c key k : Nat) : List (List Int) := (List.range r).map fun y => (List.range c).map fun x => if k ≤ y * c + x then bitCell (r * c) key (y * c + x) else 0
def imgOf (r c key : Nat) : List (List Int) := imgFrom r c key 0

theorem bitCell_bd (N key i : Nat) : 0 ≤ bitCell N key i ∧ bitCell N key i ≤ 1 := by
  unfold bitCell
  have := Nat.mod_lt (key / 2 ^ (N - 1 - i)) (show 0 < 2 by decide)
  omega
theorem imgFrom_shape (r c key k : Nat) : Shape r c (imgFrom r c key k) := by
  refine ⟨by simp [imgFrom], fun row hrow => ?_⟩
  simp only [imgFrom, List.mem_map, List.mem_range] at hrow
  obtain ⟨y, _, rfl⟩ := hrow
  refine ⟨by simp, fun z hz => ?_⟩
  simp only [List.mem_map, List.mem_range] at hz
  obtain ⟨x, _, rfl⟩ := hz
  split
  · exact bitCell_bd _ _ _
  · decide
theorem imgFrom_at {r c key k y x : Nat} (hy : y < r) (hx : x < c) : ∃ row, (imgFrom r c key k)[y]? = some row ∧ row[x]? = some (if k ≤ y * c + x then bitCell (r * c) key (y * c + x) else 0) :=
  ⟨_, by simp [imgFrom, hy]; rfl, by simp [hx]⟩
theorem grid_ext {a b : List (List Int)} {r c : Nat} (ha : a.length = r) (hb : b.length = r) (h : ∀ y, y < r → ∃ p q, a[y]? = some p ∧ b[y]? = some q ∧ p.length = c ∧ q.length = c ∧ ∀ x, x < c → p[x]? = q[x]?) : a = b := by
  apply List.ext_getElem?
  intro y
  by_cases hy : y < r
  · obtain ⟨p, q, h1, h2, h3, h4, h5⟩ := h y hy
    rw [h1, h2]
    congr 1
    apply List.ext_getElem?
    intro x
    by_cases hx : x < c
    · exact h5 x hx
    · rw [List.getElem?_eq_none (by omega), List.getElem?_eq_none (by omega)]
  · rw [List.getElem?_eq_none (by omega), List.getElem?_eq_none (by omega)]
theorem imgFrom_top (r c key : Nat) : imgFrom r c key (r * c) = List.replicate r (List.replicate c 0) := by
  apply grid_ext (r := r) (c := c) (by simp [imgFrom]) (by simp)
  intro y hy
  refine ⟨_, List.replicate c 0, by simp [imgFrom, hy]; rfl, by simp [hy], by simp, by simp, fun x hx => ?_⟩
  have h1 : y * c + x < r * c := by
    have : (y + 1) * c ≤ r * c := Nat.mul_le_mul_right _ hy
    rw [Nat.succ_mul] at this
    omega
  simp [hx, Nat.not_le.2 h1]
theorem div_mod_eq {c y x k : Nat} (hx : x < c) : y * c + x = k ↔ (k / c = y ∧ k % c = x) := by
  constructor
  · rintro rfl
    rw [Nat.mul_comm]
    exact ⟨by rw [Nat.mul_add_div (by omega), Nat.div_eq_of_lt hx]; omega, by rw [Nat.mul_add_mod, Nat.mod_eq_of_lt hx]⟩
  · rintro ⟨rfl, rfl⟩
    rw [Nat.mul_comm]; exact Nat.div_add_mod k c
theorem imgFrom_step {r c key k : Nat} (hc : 0 < c) (hk : k < r * c) {row : List Int} (hrow : (imgFrom r c key (k + 1))[k / c]? = some row) : imgFrom r c key k = (imgFrom r c key (k + 1)).set (k / c) (row.set (k % c) (bitCell (r * c) key k)) := by
  have hy : k / c < r := by rw [Nat.div_lt_iff_lt_mul hc]; exact hk
  have hx : k % c < c := Nat.mod_lt _ hc
  apply grid_ext (r := r) (c := c) (by simp [imgFrom]) (by simp [imgFrom])
  intro y hyr
  have hrow' := hrow
  simp [imgFrom, hy] at hrow'
  have hp : (imgFrom r c key k)[y]? = some ((List.range c).map fun x => if k ≤ y * c + x then bitCell (r * c) key (y * c + x) else 0) := by simp [imgFrom, hyr]
  have hq0 : (imgFrom r c key (k + 1))[y]? = some ((List.range c).map fun x => if k + 1 ≤ y * c + x then bitCell (r * c) key (y * c + x) else 0) := by simp [imgFrom, hyr]
  by_cases hyk : y = k / c
  · refine ⟨_, _, hp, by rw [hyk, List.getElem?_set_self (by simp [imgFrom]; exact hy)], by simp, by rw [← hrow']; simp, fun x hxc => ?_⟩
    rw [← hrow', List.getElem?_set]
    by_cases hxk : k % c = x
    · rw [if_pos hxk, if_pos (by simpa using hx)]
      have e : y * c + x = k := (div_mod_eq hxc).2 ⟨hyk.symm, hxk⟩
      simp [hxc, e]
    · rw [if_neg hxk]
      have e : y * c + x ≠ k := fun h => hxk ((div_mod_eq hxc).1 h).2
      simp only [List.getElem?_map, List.getElem?_range hxc, Option.map_some, ← hyk]
      by_cases h1 : k ≤ y * c + x
      · rw [if_pos h1, if_pos (by omega)]
      · rw [if_neg h1, if_neg (by omega)]
  · refine ⟨_, _, hp, by rw [List.getElem?_set_ne (fun e => hyk e.symm)]; exact hq0, by simp, by simp, fun x hxc => ?_⟩
    have e : y * c + x ≠ k := fun h => hyk ((div_mod_eq hxc).1 h).1.symm
    simp only [List.getElem?_map, List.getElem?_range hxc, Option.map_some]
    by_cases h1 : k ≤ y * c + x
    · rw [if_pos h1, if_pos (by omega)]
    · rw [if_neg h1, if_neg (by omega)]
theorem imgOf_one (c key : Nat) : imgOf 1 c key = [bitsLine c key] := by
  simp [imgOf, imgFrom, bitsLine, bitCell]
theorem bit_div (key N j : Nat) (hj : j < N) : key / 2 ^ (N - (j + 1)) / 2 = key / 2 ^ (N - j) := by
  rw [Nat.div_div_eq_div_mul, ← Nat.pow_succ]
  congr 2; omega

/-- for all numbers of cells -/
def linesForZ (rs : List Int) (z : Int) : List (List Int) := if inR 1 5 z then linesFor rs z.toNat else []
theorem linesForZ_len (rs : List Int) (z : Int) : (linesForZ rs z).length ≤ 32 := by
  unfold linesForZ
  split
  · rename_i h
    rw [inR_iff] at h
    exact Nat.le_trans (linesTo_len _ _ _) (Nat.pow_le_pow_right (n := 2) (by decide) (by omega : z.toNat ≤ 5))
  · simp
theorem sum_le_of {l : List Nat} {m : Nat} (h : ∀ x ∈ l, x ≤ m) : l.sum ≤ l.length * m := by
  induction l with
  | nil => simp
  | cons a l ih =>
    have h1 := h a (by simp)
    have h2 := ih (fun x hx => h x (by simp [hx]))
    simp only [List.sum_cons, List.length_cons, Nat.succ_mul]
    omega
theorem linesForZ_cells (rs : List Int) (z : Int) : ((linesForZ rs z).map List.length).sum ≤ 160 := by
  have hl := linesForZ_len rs z
  have h : ∀ x ∈ (linesForZ rs z).map List.length, x ≤ 5 := by
    intro x hx
    obtain ⟨l, hl, rfl⟩ := List.mem_map.1 hx
    unfold linesForZ at hl
    split at hl
    · rename_i h
      rw [inR_iff] at h
      rw [(linesTo_mem hl).1]; omega
    · simp at hl
  have := sum_le_of h
  simp only [List.length_map] at this
  omega
end Go.Proofs.Ytliejhmlcdjpcaa

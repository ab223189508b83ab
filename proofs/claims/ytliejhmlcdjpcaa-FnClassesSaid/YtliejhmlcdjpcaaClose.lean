/- Sums, gaps and the closest image: plain. -/
import Derived.Test.YtliejhmlcdjpcaaC13
import Derived.Test.YtliejhmlcdjpcaaBits
import Derived.Test.YtliejhmlcdjpcaaC2
namespace Go.Proofs.Ytliejhmlcdjpcaa

def mag (x : Int) : Int := if x < 0 then -x else x
theorem mag_nn (x : Int) : 0 ≤ mag x := by unfold mag; split <;> omega
theorem mag_sub (x y : Int) : mag (x - y) = mag (y - x) := by unfold mag; split <;> split <;> omega
def gapTo (a b : List Int) : Nat → Int
  | 0 => 0
  | k + 1 => gapTo a b k + mag (a.getD k 0 - b.getD k 0)
def gap (a b : List Int) : Int := gapTo a b a.length
theorem gapTo_succ {a b : List Int} {k : Nat} {x y : Int} (hx : a[k]? = some x) (hy : b[k]? = some y) : gapTo a b (k + 1) = gapTo a b k + mag (x - y) := by
  simp only [gapTo, List.getD, hx, hy, Option.getD_some]
theorem gapTo_comm (a b : List Int) : ∀ k, gapTo a b k = gapTo b a k := by
  intro k
  induction k with
  | zero => rfl
  | succ k ih => simp only [gapTo, ih]; rw [mag_sub]
theorem gapTo_bd {a b : List Int} (ha : ∀ x ∈ a, 0 ≤ x ∧ x ≤ 5) (hb : ∀ x ∈ b, 0 ≤ x ∧ x ≤ 5) : ∀ k, 0 ≤ gapTo a b k ∧ gapTo a b k ≤ 5 * k := by
  intro k
  induction k with
  | zero => simp [gapTo]
  | succ k ih =>
    have h1 : 0 ≤ a.getD k 0 ∧ a.getD k 0 ≤ 5 := by
      simp only [List.getD]
      cases h : a[k]? with
      | none => simp
      | some x => simpa using ha x (List.mem_of_getElem? h)
    have h2 : 0 ≤ b.getD k 0 ∧ b.getD k 0 ≤ 5 := by
      simp only [List.getD]
      cases h : b[k]? with
      | none => simp
      | some x => simpa using hb x (List.mem_of_getElem? h)
    simp only [gapTo]
    have h3 : 0 ≤ mag (a.getD k 0 - b.getD k 0) ∧ mag (a.getD k 0 - b.getD k 0) ≤ 5 := by unfold mag; split <;> omega
    omega

def changeOk (rows cols : List Int) (m : List (List Int)) : Bool := sumsFit rows cols && imageOk m && decide (m.length = rows.length) && decide ((m.headD []).length = cols.length)
def changeOf (rows cols : List Int) (m : List (List Int)) : Int := if changeOk rows cols m then gap rows (rowSumsOf m) + gap cols (colSumsOf m) else -1
theorem rowSums_bd {r c : Nat} {m : List (List Int)} (h : Shape r c m) (hc : c ≤ 5) : ∀ x ∈ m.map sumL, 0 ≤ x ∧ x ≤ 5 := by
  intro x hx
  obtain ⟨row, hr, rfl⟩ := List.mem_map.1 hx
  have h1 := h.sum_bd' hr
  have := (h.2 row hr).1
  omega
theorem rowSumsOf_ok {r c : Nat} {m : List (List Int)} (h : Shape r c m) (h1 : 1 ≤ r) (h2 : r ≤ 5) (h3 : 1 ≤ c) (h4 : c ≤ 5) : rowSumsOf m = m.map sumL := by unfold rowSumsOf; rw [if_pos (h.ok h1 h2 h3 h4)]
theorem trOf_ok {r c : Nat} {m : List (List Int)} (h : Shape r c m) (h1 : 1 ≤ r) (h2 : r ≤ 5) (h3 : 1 ≤ c) (h4 : c ≤ 5) : trOf m = tr m := by unfold trOf; rw [if_pos (h.ok h1 h2 h3 h4)]
theorem colSumsOf_ok {r c : Nat} {m : List (List Int)} (h : Shape r c m) (h1 : 1 ≤ r) (h2 : r ≤ 5) (h3 : 1 ≤ c) (h4 : c ≤ 5) : colSumsOf m = (tr m).map sumL := by
  unfold colSumsOf
  rw [trOf_ok h h1 h2 h3 h4, rowSumsOf_ok (h.tr h1) h3 h4 h1 h2]
theorem rowSumsOf_wf {r c : Nat} {m : List (List Int)} (h : Shape r c m) (h1 : 1 ≤ r) (h2 : r ≤ 5) (h3 : 1 ≤ c) (h4 : c ≤ 5) : (rowSumsOf m).length = r ∧ ∀ x ∈ rowSumsOf m, 0 ≤ x ∧ x ≤ 5 := by
  rw [rowSumsOf_ok h h1 h2 h3 h4]
  exact ⟨by simp [h.1], rowSums_bd h h4⟩
theorem colSumsOf_wf {r c : Nat} {m : List (List Int)} (h : Shape r c m) (h1 : 1 ≤ r) (h2 : r ≤ 5) (h3 : 1 ≤ c) (h4 : c ≤ 5) : (colSumsOf m).length = c ∧ ∀ x ∈ colSumsOf m, 0 ≤ x ∧ x ≤ 5 := by
  rw [colSumsOf_ok h h1 h2 h3 h4]
  exact ⟨by simp [(h.tr h1).1], rowSums_bd (h.tr h1) h2⟩

/-- what is known where the change is a number -/
structure ChangeAt (rows cols : List Int) (m : List (List Int)) (r c : Nat) : Prop where
  r1 : 1 ≤ r
  r4 : r ≤ 4
  c1 : 1 ≤ c
  c4 : c ≤ 4
  rl : rows.length = r
  cl : cols.length = c
  sh : Shape r c m
  rb : ∀ x ∈ rows, 0 ≤ x ∧ x ≤ 5
  cb : ∀ x ∈ cols, 0 ≤ x ∧ x ≤ 5
theorem sumsFit_iff {rows cols : List Int} (h : sumsFit rows cols = true) : 1 ≤ rows.length ∧ rows.length ≤ 4 ∧ 1 ≤ cols.length ∧ cols.length ≤ 4 ∧ (∀ x ∈ rows, 0 ≤ x ∧ x ≤ cols.length) ∧ (∀ x ∈ cols, 0 ≤ x ∧ x ≤ rows.length) := by
  unfold sumsFit at h
  simp only [Bool.and_eq_true, inR_iff, List.all_eq_true] at h
  obtain ⟨⟨⟨h1, h2⟩, h3⟩, h4⟩ := h
  exact ⟨by omega, by omega, by omega, by omega, h3, h4⟩
theorem changeOk_at {rows cols : List Int} {m : List (List Int)} (h : changeOk rows cols m = true) : ∃ r c, ChangeAt rows cols m r c := by
  unfold changeOk at h
  simp only [Bool.and_eq_true, decide_eq_true_eq] at h
  obtain ⟨⟨⟨h1, h2⟩, h3⟩, h4⟩ := h
  obtain ⟨r, c, a1, a2, a3, a4, hs⟩ := imageOk_shape h2
  obtain ⟨k1, k2, k3, k4, k5, k6⟩ := sumsFit_iff h1
  have e1 := hs.1
  have e2 := hs.head a1
  exact ⟨r, c, a1, by omega, a3, by omega, by omega, by omega, hs, fun x hx => by have := k5 x hx; omega, fun x hx => by have := k6 x hx; omega⟩
theorem changeOf_bd {rows cols : List Int} {m : List (List Int)} (h : changeOk rows cols m = true) : 0 ≤ changeOf rows cols m ∧ changeOf rows cols m ≤ 40 := by
  obtain ⟨r, c, H⟩ := changeOk_at h
  obtain ⟨h1, h2, h3, h4, h5, h6, hs, hrb, hcb⟩ := H
  unfold changeOf
  rw [if_pos h]
  have a1 := gapTo_bd hrb (rowSumsOf_wf hs h1 (by omega) h3 (by omega)).2 rows.length
  have a2 := gapTo_bd hcb (colSumsOf_wf hs h1 (by omega) h3 (by omega)).2 cols.length
  unfold gap
  omega

/-- the image of a number, so far as its first n cells go -/
def imgTo (r c key n : Nat) : List (List Int) := (List.range r).map fun y => (List.range c).map fun x => if y * c + x < n then bitCell (r * c) key (y * c + x) else 0
theorem imgTo_zero (r c key : Nat) : imgTo r c key 0 = zeros r c := by
  simp [imgTo, zeros, List.map_const']
theorem imgTo_all (r c key : Nat) : imgTo r c key (r * c) = imgOf r c key := by
  unfold imgTo imgOf imgFrom
  apply List.map_congr_left
  intro y hy
  apply List.map_congr_left
  intro x hx
  rw [List.mem_range] at hx hy
  have h1 : y * c + x < r * c := by
    have : (y + 1) * c ≤ r * c := Nat.mul_le_mul_right _ hy
    rw [Nat.succ_mul] at this
    omega
  rw [if_pos h1, if_pos (Nat.zero_le _)]
theorem imgTo_len (r c key n : Nat) : (imgTo r c key n).length = r := by simp [imgTo]
theorem imgTo_row {r c key n y : Nat} (hy : y < r) : (imgTo r c key n)[y]? = some ((List.range c).map fun x => if y * c + x < n then bitCell (r * c) key (y * c + x) else 0) := by simp [imgTo, hy]
theorem imgTo_step {r c key n : Nat} (hc : 0 < c) (hn : n < r * c) {row : List Int} (hrow : (imgTo r c key n)[n / c]? = some row) : (imgTo r c key n).set (n / c) (row.set (n % c) (bitCell (r * c) key n)) = imgTo r c key (n + 1) := by
  have hy : n / c < r := by rw [Nat.div_lt_iff_lt_mul hc]; exact hn
  have hx : n % c < c := Nat.mod_lt _ hc
  rw [imgTo_row hy] at hrow
  obtain rfl := Option.some.inj hrow
  apply grid_ext (r := r) (c := c) (by simp [imgTo]) (by simp [imgTo])
  intro y hyr
  have hq := imgTo_row (c := c) (key := key) (n := n + 1) hyr
  by_cases hyn : y = n / c
  · refine ⟨_, _, by rw [hyn, List.getElem?_set_self (by simp [imgTo]; exact hy)], hq, by simp, by simp, fun x hxc => ?_⟩
    rw [List.getElem?_set]
    by_cases hxn : n % c = x
    · rw [if_pos hxn, if_pos (by simpa using hx)]
      have e : y * c + x = n := (div_mod_eq hxc).2 ⟨hyn.symm, hxn⟩
      simp [hxc, e]
    · rw [if_neg hxn]
      have e : y * c + x ≠ n := fun h => hxn ((div_mod_eq hxc).1 h).2
      simp only [List.getElem?_map, List.getElem?_range hxc, Option.map_some, ← hyn]
      by_cases h1 : y * c + x < n
      · rw [if_pos h1, if_pos (by omega)]
      · rw [if_neg h1, if_neg (by omega)]
  · refine ⟨_, _, by rw [List.getElem?_set_ne (fun e => hyn e.symm)]; exact imgTo_row hyr, hq, by simp, by simp, fun x hxc => ?_⟩
    have e : y * c + x ≠ n := fun h => hyn ((div_mod_eq hxc).1 h).1.symm
    simp only [List.getElem?_map, List.getElem?_range hxc, Option.map_some]
    by_cases h1 : y * c + x < n
    · rw [if_pos h1, if_pos (by omega)]
    · rw [if_neg h1, if_neg (by omega)]
theorem imgOf_shape (r c key : Nat) : Shape r c (imgOf r c key) := imgFrom_shape _ _ _ _

/-- the best of the first k images -/
def closeTo (rows cols : List Int) : Nat → Option (Nat × Int)
  | 0 => none
  | k + 1 => match closeTo rows cols k with
    | none => some (k, changeOf rows cols (imgOf rows.length cols.length k))
    | some (b, l) => if changeOf rows cols (imgOf rows.length cols.length k) < l then some (k, changeOf rows cols (imgOf rows.length cols.length k)) else some (b, l)
def closeOk (rows cols : List Int) : Bool := sumsFit rows cols && decide (rows.length * cols.length ≤ 12)
def closest (rows cols : List Int) : Option (Nat × Int) := if closeOk rows cols then closeTo rows cols (2 ^ (rows.length * cols.length)) else none
theorem closeTo_some {rows cols : List Int} {k : Nat} (hk : 0 < k) : ∃ b l, closeTo rows cols k = some (b, l) := by
  cases k with
  | zero => omega
  | succ k =>
    simp only [closeTo]
    split
    · exact ⟨_, _, rfl⟩
    · split
      · exact ⟨_, _, rfl⟩
      · exact ⟨_, _, rfl⟩
theorem changeOk_img {rows cols : List Int} (h : sumsFit rows cols = true) (k : Nat) : changeOk rows cols (imgOf rows.length cols.length k) = true := by
  obtain ⟨k1, k2, k3, k4, k5, k6⟩ := sumsFit_iff h
  have hs := imgOf_shape rows.length cols.length k
  unfold changeOk
  rw [h, hs.ok k1 (by omega) k3 (by omega), hs.1, hs.head k1]
  simp
theorem closeTo_bd {rows cols : List Int} (h : sumsFit rows cols = true) : ∀ {k b : Nat} {l : Int}, closeTo rows cols k = some (b, l) → 0 ≤ l ∧ l ≤ 40 := by
  intro k
  induction k with
  | zero => intro b l h; simp [closeTo] at h
  | succ k ih =>
    intro b l hk
    have hb := changeOf_bd (changeOk_img h k)
    simp only [closeTo] at hk
    split at hk
    · simp at hk; obtain ⟨rfl, rfl⟩ := hk; exact hb
    · rename_i b' l' heq
      split at hk
      · simp at hk; obtain ⟨rfl, rfl⟩ := hk; exact hb
      · simp at hk; obtain ⟨rfl, rfl⟩ := hk; exact ih heq
def closeImg (rows cols : List Int) (x : Option (Nat × Int)) : List (List Int) := match x with | none => [] | some (b, _) => imgOf rows.length cols.length b
def closeNum (x : Option (Nat × Int)) : Int := match x with | none => 0 | some (_, l) => l
end Go.Proofs.Ytliejhmlcdjpcaa

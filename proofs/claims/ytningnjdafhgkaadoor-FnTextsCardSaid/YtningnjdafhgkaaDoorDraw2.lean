/- Images: plain. The lines with given runs: plain. Images of numbers: plain. Contracts of the functions that draw from a code: what they return lies in its range, whatever the code. Contracts of the functions that draw images. -/
import Derived.Test.YtningnjdafhgkaaDoorC1
import Derived.Deep.RegionHeld3
import Derived.Laws.BitsLemmas
import Derived.Deep.RegionWith
namespace Go.Proofs.YtningnjdafhgkaaDoor

/-- r rows of c cells, each 0 or 1 -/
def Shape (r c : Nat) (m : List (List Int)) : Prop := m.length = r ∧ ∀ row ∈ m, row.length = c ∧ ∀ x ∈ row, 0 ≤ x ∧ x ≤ 1
def rowOk (lo hi : Int) (n : Nat) (row : List Int) : Bool := decide (row.length = n) && inR 1 5 row.length && row.all (inR lo hi)
def gridOkB (lo hi : Int) (m : List (List Int)) : Bool := inR 1 5 m.length && m.all (rowOk lo hi (m.headD []).length)
def imageOk (m : List (List Int)) : Bool := gridOkB 0 1 m

theorem Shape.ok {r c : Nat} {m : List (List Int)} (h : Shape r c m) (h1 : 1 ≤ r) (h2 : r ≤ 5) (h3 : 1 ≤ c) (h4 : c ≤ 5) : imageOk m = true := by
  obtain ⟨hl, hr⟩ := h
  unfold imageOk gridOkB
  rw [Bool.and_eq_true]
  refine ⟨inR_t (by omega) (by omega), ?_⟩
  rw [List.all_eq_true]
  intro row hrow
  have hh : m.headD [] ∈ m := by
    cases m with
    | nil => simp at hrow
    | cons a m => simp
  obtain ⟨e1, e2⟩ := hr row hrow
  obtain ⟨e3, _⟩ := hr _ hh
  simp only [rowOk, Bool.and_eq_true, decide_eq_true_eq, List.all_eq_true]
  exact ⟨⟨by rw [e1, e3], inR_t (by omega) (by omega)⟩, fun x hx => inR_t (e2 x hx).1 (e2 x hx).2⟩

theorem imageOk_shape {m : List (List Int)} (h : imageOk m = true) : ∃ r c, 1 ≤ r ∧ r ≤ 5 ∧ 1 ≤ c ∧ c ≤ 5 ∧ Shape r c m := by
  unfold imageOk gridOkB at h
  rw [Bool.and_eq_true, List.all_eq_true, inR_iff] at h
  obtain ⟨⟨h1, h2⟩, h3⟩ := h
  have hh : m.headD [] ∈ m := by
    cases m with
    | nil => simp at h1
    | cons a m => simp
  have hhead := h3 _ hh
  simp only [rowOk, Bool.and_eq_true, decide_eq_true_eq, List.all_eq_true, inR_iff] at hhead
  refine ⟨m.length, (m.headD []).length, by omega, by omega, by omega, by omega, rfl, fun row hrow => ?_⟩
  have := h3 _ hrow
  simp only [rowOk, Bool.and_eq_true, decide_eq_true_eq, List.all_eq_true, inR_iff] at this
  exact ⟨this.1.1, this.2⟩

theorem Shape.row {r c : Nat} {m : List (List Int)} (h : Shape r c m) {y : Nat} (hy : y < r) : ∃ row, m[y]? = some row ∧ row.length = c ∧ ∀ x ∈ row, 0 ≤ x ∧ x ≤ 1 := by
  have hl : y < m.length := by rw [h.1]; exact hy
  exact ⟨m[y], List.getElem?_eq_getElem hl, h.2 _ (List.getElem_mem hl)⟩

theorem Shape.set {r c : Nat} {m : List (List Int)} (h : Shape r c m) {y x : Nat} {row : List Int} (hy : m[y]? = some row) {n : Int} (h0 : 0 ≤ n) (h1 : n ≤ 1) : Shape r c (m.set y (row.set x n)) := by
  refine ⟨by simp [h.1], fun q hq => ?_⟩
  rcases List.mem_or_eq_of_mem_set hq with hq | rfl
  · exact h.2 q hq
  · obtain ⟨e1, e2⟩ := h.2 row (List.mem_of_getElem? hy)
    refine ⟨by simpa using e1, fun z hz => ?_⟩
    rcases List.mem_or_eq_of_mem_set hz with hz | rfl
    · exact e2 z hz
    · exact ⟨h0, h1⟩
theorem shape_zeros (r c : Nat) : Shape r c (List.replicate r (List.replicate c 0)) := by
  refine ⟨by simp, fun row hrow => ?_⟩
  obtain rfl := List.eq_of_mem_replicate hrow
  refine ⟨by simp, fun x hx => ?_⟩
  obtain rfl := List.eq_of_mem_replicate hx
  exact ⟨by decide, by decide⟩
end Go.Proofs.YtningnjdafhgkaaDoor

namespace Go.Proofs.YtningnjdafhgkaaDoor

/-- the cells of a line, from the number of which they are the bits -/
def bitsLine (n key : Nat) : List Int := (List.range n).map fun x : Nat => ((key / 2 ^ (n - 1 - x) % 2 : Nat) : Int)
/-- all lines of n cells in order, as far as number k -/
def linesTo (n : Nat) (rs : List Int) (k : Nat) : List (List Int) := ((List.range k).map (bitsLine n)).filter fun l => decide (runsOf l = rs)
def linesFor (rs : List Int) (n : Nat) : List (List Int) := linesTo n rs (2 ^ n)

theorem bitsLine_len (n key : Nat) : (bitsLine n key).length = n := by simp [bitsLine]
theorem bitsLine_at {n key x : Nat} (h : x < n) : (bitsLine n key)[x]? = some ((key / 2 ^ (n - 1 - x) % 2 : Nat) : Int) := by simp [bitsLine, h]
theorem linesTo_succ (n : Nat) (rs : List Int) (k : Nat) : linesTo n rs (k + 1) = if runsOf (bitsLine n k) = rs then linesTo n rs k ++ [bitsLine n k] else linesTo n rs k := by
  unfold linesTo
  rw [List.range_succ, List.map_append, List.filter_append]
  split <;> simp_all
theorem linesTo_len (n : Nat) (rs : List Int) (k : Nat) : (linesTo n rs k).length ≤ k := by
  have := List.length_filter_le (fun l => decide (runsOf l = rs)) ((List.range k).map (bitsLine n))
  simpa [linesTo] using this
theorem bits_set {n key j : Nat} (h : j < n) : ((bitsLine n key).take j ++ List.replicate (n - j) 0).set j ((key / 2 ^ (n - 1 - j) % 2 : Nat) : Int) = (bitsLine n key).take (j + 1) ++ List.replicate (n - (j + 1)) 0 := by
  have := set_copy (bitsLine_at (key := key) h)
  rwa [bitsLine_len] at this

/-! ### a line solved from a state -/
def agreeAt (st line : List Int) (x : Nat) : Bool := decide (st.getD x 0 < 0) || (st.getD x 0 == line.getD x 0)
def agreesTo (st line : List Int) (j : Nat) : Bool := (List.range j).all (agreeAt st line)
def agrees (st line : List Int) : Bool := agreesTo st line line.length
def mergeAt (a b : Int) : Int := if a = b then a else -1
def mergeL (o line : List Int) : List Int := List.zipWith mergeAt o line
def solveStep (st : List Int) (acc : Option (List Int)) (line : List Int) : Option (List Int) :=
  if agrees st line then some (match acc with | none => line | some o => mergeL o line) else acc
def solveTo (L : List (List Int)) (st : List Int) (k : Nat) : Option (List Int) := (L.take k).foldl (solveStep st) none
def stateOk (st : List Int) : Bool := inR 1 5 st.length && st.all (inR (-1) 1)
def solveLine (rs st : List Int) : Option (List Int) := if stateOk st then solveTo (linesFor rs st.length) st (linesFor rs st.length).length else none

theorem agreeAt_eq {st line : List Int} {j : Nat} {x c : Int} (hx : st[j]? = some x) (hc : line[j]? = some c) : agreeAt st line j = (decide (x < 0) || (x == c)) := by
  simp [agreeAt, List.getD, hx, hc]
theorem agreesTo_succ (st line : List Int) (j : Nat) : agreesTo st line (j + 1) = (agreesTo st line j && agreeAt st line j) := by
  simp [agreesTo, List.range_succ]
theorem solveTo_succ {L : List (List Int)} {st : List Int} {k : Nat} {line : List Int} (h : L[k]? = some line) : solveTo L st (k + 1) = solveStep st (solveTo L st k) line := by
  obtain ⟨hk, hx⟩ := List.getElem?_eq_some_iff.1 h
  unfold solveTo
  rw [List.take_succ_eq_append_getElem hk, hx, List.foldl_append]; rfl
theorem mergeL_len (o line : List Int) : (mergeL o line).length = min o.length line.length := by simp [mergeL]
theorem mergeL_self (l : List Int) : mergeL l l = l := by
  apply List.ext_getElem?
  intro j
  simp only [mergeL, List.getElem?_zipWith]
  cases h : l[j]? <;> simp [mergeAt]
/-- as far as cell j -/
def mergeTo (o line : List Int) (j : Nat) : List Int := (mergeL o line).take j ++ o.drop j
theorem mergeTo_zero (o line : List Int) : mergeTo o line 0 = o := by simp [mergeTo]
theorem mergeTo_len {o line : List Int} (h : o.length = line.length) (j : Nat) : (mergeTo o line j).length = o.length := by
  simp [mergeTo, mergeL_len, h]; omega
theorem mergeTo_all {o line : List Int} (h : o.length = line.length) : mergeTo o line line.length = mergeL o line := by
  simp [mergeTo, List.take_of_length_le, mergeL_len, h]
theorem mergeTo_at {o line : List Int} {j : Nat} {a : Int} (h : o.length = line.length) (ha : o[j]? = some a) : (mergeTo o line j)[j]? = some a := by
  have hj := (List.getElem?_eq_some_iff.1 ha).1
  rw [mergeTo, List.getElem?_append_right (by simp [mergeL_len]; omega), List.length_take, mergeL_len, List.getElem?_drop, ← ha]
  congr 1; omega
theorem mergeTo_succ {o line : List Int} {j : Nat} {a b : Int} (h : o.length = line.length) (ha : o[j]? = some a) (hb : line[j]? = some b) : mergeTo o line (j + 1) = (mergeTo o line j).set j (mergeAt a b) := by
  have hj := (List.getElem?_eq_some_iff.1 ha).1
  have hm : (mergeL o line)[j]? = some (mergeAt a b) := by simp [mergeL, List.getElem?_zipWith, ha, hb]
  obtain ⟨h1, h2⟩ := List.getElem?_eq_some_iff.1 hm
  unfold mergeTo
  rw [List.set_append_right _ _ (by simp [mergeL_len]; omega), List.take_succ_eq_append_getElem h1, h2]
  have : j - (List.take j (mergeL o line)).length = 0 := by simp [mergeL_len]; omega
  rw [this, List.drop_eq_getElem_cons hj, List.set_cons_zero]
  simp
theorem mergeTo_same {o line : List Int} {j : Nat} {a : Int} (h : o.length = line.length) (ha : o[j]? = some a) (hb : line[j]? = some a) : mergeTo o line (j + 1) = mergeTo o line j := by
  rw [mergeTo_succ h ha hb]
  have h1 := mergeTo_at h ha
  have hl := mergeTo_len h j
  rw [show mergeAt a a = a from by simp [mergeAt]]
  obtain ⟨h2, h3⟩ := List.getElem?_eq_some_iff.1 h1
  rw [← h3]
  exact List.set_getElem_self h2

theorem linesTo_mem {n k : Nat} {rs l : List Int} (h : l ∈ linesTo n rs k) : l.length = n ∧ ∀ x ∈ l, 0 ≤ x ∧ x ≤ 1 := by
  simp only [linesTo, List.mem_filter, List.mem_map, List.mem_range] at h
  obtain ⟨⟨q, _, rfl⟩, _⟩ := h
  refine ⟨bitsLine_len _ _, fun x hx => ?_⟩
  simp only [bitsLine, List.mem_map, List.mem_range] at hx
  obtain ⟨j, _, rfl⟩ := hx
  have := Nat.mod_lt (q / 2 ^ (n - 1 - j)) (show 0 < 2 by decide)
  omega
theorem mergeL_bd {o line : List Int} (h : ∀ x ∈ o, -1 ≤ x ∧ x ≤ 1) : ∀ x ∈ mergeL o line, -1 ≤ x ∧ x ≤ 1 := by
  intro x hx
  obtain ⟨j, hj⟩ := List.getElem?_of_mem hx
  simp only [mergeL, List.getElem?_zipWith] at hj
  cases h1 : o[j]? with
  | none => simp [h1] at hj
  | some a =>
    cases h2 : line[j]? with
    | none => simp [h1, h2] at hj
    | some b =>
      simp [h1, h2] at hj
      have := h a (List.mem_of_getElem? h1)
      unfold mergeAt at hj
      split at hj <;> omega
theorem solveTo_wf {n : Nat} {rs st : List Int} : ∀ k, k ≤ (linesFor rs n).length → ∀ o, solveTo (linesFor rs n) st k = some o → o.length = n ∧ ∀ x ∈ o, -1 ≤ x ∧ x ≤ 1 := by
  intro k
  induction k with
  | zero => intro _ o h; simp [solveTo] at h
  | succ k ih =>
    intro hk o h
    have hline : (linesFor rs n)[k]? = some (linesFor rs n)[k] := List.getElem?_eq_getElem (by omega)
    rw [solveTo_succ hline] at h
    obtain ⟨hl1, hl2⟩ := linesTo_mem (List.mem_of_getElem? hline)
    unfold solveStep at h
    split at h
    · cases hacc : solveTo (linesFor rs n) st k with
      | none =>
        rw [hacc] at h
        simp at h
        subst h
        exact ⟨hl1, fun x hx => by have := hl2 x hx; omega⟩
      | some o' =>
        rw [hacc] at h
        simp at h
        subst h
        obtain ⟨e1, e2⟩ := ih (by omega) o' hacc
        exact ⟨by rw [mergeL_len]; omega, mergeL_bd e2⟩
    · exact ih (by omega) o h
end Go.Proofs.YtningnjdafhgkaaDoor

namespace Go.Proofs.YtningnjdafhgkaaDoor

def bitCell (N key i : Nat) : Int := ((key / 2 ^ (N - 1 - i) % 2 : Nat) : Int)
def imgFrom (r c key k : Nat) : List (List Int) := (List.range r).map fun y => (List.range c).map fun x => if k ≤ y * c + x then bitCell (r * c) key (y * c + x) else 0
def imgOf (r c key : Nat) : List (List Int) := imgFrom r c key 0

theorem bitCell_bd (N key i : Nat) : 0 ≤ bitCell N key i ∧ bitCell N key i ≤ 1 := by
  unfold bitCell
  have := Nat.mod_lt (key / 2 ^ (N - 1 - i)) (show 0 < 2 by decide)
  omega
theorem imgFrom_shape (r c key k : Nat) : Shape r c (imgFrom r c key k) := by
  refine ⟨by simp [imgFrom], fun row hrow => ?_⟩
  simp only [imgFrom, List.mem_map, List.mem_range] at hrow
  obtain ⟨y, _, rfl⟩ := hrow
  refine ⟨by simp, fun z hz => ?_⟩
  simp only [List.mem_map, List.mem_range] at hz
  obtain ⟨x, _, rfl⟩ := hz
  split
  · exact bitCell_bd _ _ _
  · decide
theorem imgFrom_at {r c key k y x : Nat} (hy : y < r) (hx : x < c) : ∃ row, (imgFrom r c key k)[y]? = some row ∧ row[x]? = some (if k ≤ y * c + x then bitCell (r * c) key (y * c + x) else 0) :=
  ⟨_, by simp [imgFrom, hy]; rfl, by simp [hx]⟩
theorem grid_ext {a b : List (List Int)} {r c : Nat} (ha : a.length = r) (hb : b.length = r) (h : ∀ y, y < r → ∃ p q, a[y]? = some p ∧ b[y]? = some q ∧ p.length = c ∧ q.length = c ∧ ∀ x, x < c → p[x]? = q[x]?) : a = b := by
  apply List.ext_getElem?
  intro y
  by_cases hy : y < r
  · obtain ⟨p, q, h1, h2, h3, h4, h5⟩ := h y hy
    rw [h1, h2]
    congr 1
    apply List.ext_getElem?
    intro x
    by_cases hx : x < c
    · exact h5 x hx
    · rw [List.getElem?_eq_none (by omega), List.getElem?_eq_none (by omega)]
  · rw [List.getElem?_eq_none (by omega), List.getElem?_eq_none (by omega)]
theorem imgFrom_top (r c key : Nat) : imgFrom r c key (r * c) = List.replicate r (List.replicate c 0) := by
  apply grid_ext (r := r) (c := c) (by simp [imgFrom]) (by simp)
  intro y hy
  refine ⟨_, List.replicate c 0, by simp [imgFrom, hy]; rfl, by simp [hy], by simp, by simp, fun x hx => ?_⟩
  have h1 : y * c + x < r * c := by
    have : (y + 1) * c ≤ r * c := Nat.mul_le_mul_right _ hy
    rw [Nat.succ_mul] at this
    omega
  simp [hx, Nat.not_le.2 h1]
theorem div_mod_eq {c y x k : Nat} (hx : x < c) : y * c + x = k ↔ (k / c = y ∧ k % c = x) := by
  constructor
  · rintro rfl
    rw [Nat.mul_comm]
    exact ⟨by rw [Nat.mul_add_div (by omega), Nat.div_eq_of_lt hx]; omega, by rw [Nat.mul_add_mod, Nat.mod_eq_of_lt hx]⟩
  · rintro ⟨rfl, rfl⟩
    rw [Nat.mul_comm]; exact Nat.div_add_mod k c
theorem imgFrom_step {r c key k : Nat} (hc : 0 < c) (hk : k < r * c) {row : List Int} (hrow : (imgFrom r c key (k + 1))[k / c]? = some row) : imgFrom r c key k = (imgFrom r c key (k + 1)).set (k / c) (row.set (k % c) (bitCell (r * c) key k)) := by
  have hy : k / c < r := by rw [Nat.div_lt_iff_lt_mul hc]; exact hk
  have hx : k % c < c := Nat.mod_lt _ hc
  apply grid_ext (r := r) (c := c) (by simp [imgFrom]) (by simp [imgFrom])
  intro y hyr
  have hrow' := hrow
  simp [imgFrom, hy] at hrow'
  have hp : (imgFrom r c key k)[y]? = some ((List.range c).map fun x => if k ≤ y * c + x then bitCell (r * c) key (y * c + x) else 0) := by simp [imgFrom, hyr]
  have hq0 : (imgFrom r c key (k + 1))[y]? = some ((List.range c).map fun x => if k + 1 ≤ y * c + x then bitCell (r * c) key (y * c + x) else 0) := by simp [imgFrom, hyr]
  by_cases hyk : y = k / c
  · refine ⟨_, _, hp, by rw [hyk, List.getElem?_set_self (by simp [imgFrom]; exact hy)], by simp, by rw [← hrow']; simp, fun x hxc => ?_⟩
    rw [← hrow', List.getElem?_set]
    by_cases hxk : k % c = x
    · rw [if_pos hxk, if_pos (by simpa using hx)]
      have e : y * c + x = k := (div_mod_eq hxc).2 ⟨hyk.symm, hxk⟩
      simp [hxc, e]
    · rw [if_neg hxk]
      have e : y * c + x ≠ k := fun h => hxk ((div_mod_eq hxc).1 h).2
      simp only [List.getElem?_map, List.getElem?_range hxc, Option.map_some, ← hyk]
      by_cases h1 : k ≤ y * c + x
      · rw [if_pos h1, if_pos (by omega)]
      · rw [if_neg h1, if_neg (by omega)]
  · refine ⟨_, _, hp, by rw [List.getElem?_set_ne (fun e => hyk e.symm)]; exact hq0, by simp, by simp, fun x hxc => ?_⟩
    have e : y * c + x ≠ k := fun h => hyk ((div_mod_eq hxc).1 h).1.symm
    simp only [List.getElem?_map, List.getElem?_range hxc, Option.map_some]
    by_cases h1 : k ≤ y * c + x
    · rw [if_pos h1, if_pos (by omega)]
    · rw [if_neg h1, if_neg (by omega)]
theorem imgOf_one (c key : Nat) : imgOf 1 c key = [bitsLine c key] := by
  simp [imgOf, imgFrom, bitsLine, bitCell]
theorem bit_div (key N j : Nat) (hj : j < N) : key / 2 ^ (N - (j + 1)) / 2 = key / 2 ^ (N - j) := by
  rw [Nat.div_div_eq_div_mul, ← Nat.pow_succ]
  congr 2; omega

/-- for all numbers of cells -/
def linesForZ (rs : List Int) (z : Int) : List (List Int) := if inR 1 5 z then linesFor rs z.toNat else []
theorem linesForZ_len (rs : List Int) (z : Int) : (linesForZ rs z).length ≤ 32 := by
  unfold linesForZ
  split
  · rename_i h
    rw [inR_iff] at h
    exact Nat.le_trans (linesTo_len _ _ _) (Nat.pow_le_pow_right (n := 2) (by decide) (by omega : z.toNat ≤ 5))
  · simp
theorem sum_le_of {l : List Nat} {m : Nat} (h : ∀ x ∈ l, x ≤ m) : l.sum ≤ l.length * m := by
  induction l with
  | nil => simp
  | cons a l ih =>
    have h1 := h a (by simp)
    have h2 := ih (fun x hx => h x (by simp [hx]))
    simp only [List.sum_cons, List.length_cons, Nat.succ_mul]
    omega
theorem linesForZ_cells (rs : List Int) (z : Int) : ((linesForZ rs z).map List.length).sum ≤ 160 := by
  have hl := linesForZ_len rs z
  have h : ∀ x ∈ (linesForZ rs z).map List.length, x ≤ 5 := by
    intro x hx
    obtain ⟨l, hl, rfl⟩ := List.mem_map.1 hx
    unfold linesForZ at hl
    split at hl
    · rename_i h
      rw [inR_iff] at h
      rw [(linesTo_mem hl).1]; omega
    · simp at hl
  have := sum_le_of h
  simp only [List.length_map] at this
  omega
end Go.Proofs.YtningnjdafhgkaaDoor

namespace Go.Proofs.YtningnjdafhgkaaDoor
open Go.RowKit

theorem i64_mask (m : Nat) (hm : m ≤ 62) (c : Int) (hc : c = ((2 ^ m - 1 : Nat) : Int)) (n : Int) : bits .and .i64 n c = n % ((2 ^ m : Nat) : Int) := by
  have hpow : 2 ^ m ∣ 2 ^ 64 := Nat.pow_dvd_pow 2 (by omega)
  have hlt : 2 ^ m ≤ 2 ^ 62 := Nat.pow_le_pow_right (by decide) hm
  have hpos : 0 < 2 ^ m := Nat.two_pow_pos m
  have hc' : (BitVec.ofInt 64 c).toNat = 2 ^ m - 1 := by
    rw [hc, BitVec.toNat_ofInt]
    have : 2 ^ m - 1 < 2 ^ 64 := by omega
    rw [← Int.natCast_emod, Nat.mod_eq_of_lt this]; rfl
  have key : (BitVec.ofInt 64 n &&& BitVec.ofInt 64 c).toNat = (n % ((2 ^ 64 : Nat) : Int)).toNat % 2 ^ m := by
    rw [BitVec.toNat_and, BitVec.toNat_ofInt, hc', Nat.and_two_pow_sub_one_eq_mod]
  show IntKind.i64.wrap ((BitVec.ofInt 64 n &&& BitVec.ofInt 64 c).toNat : Nat) = n % _
  rw [key, IntKind.wrap_i64]
  have h1 : ((n % ((2 ^ 64 : Nat) : Int)).toNat % 2 ^ m : Nat) < 2 ^ m := Nat.mod_lt _ hpos
  have h2 : (((n % ((2 ^ 64 : Nat) : Int)).toNat % 2 ^ m : Nat) : Int) = n % ((2 ^ m : Nat) : Int) := by
    rw [Int.natCast_emod, Int.toNat_of_nonneg (Int.emod_nonneg _ (by decide))]
    exact Int.emod_emod_of_dvd n (Int.natCast_dvd_natCast.2 hpow)
  rw [h2]
  have h3 : 0 ≤ n % ((2 ^ m : Nat) : Int) := Int.emod_nonneg _ (by omega)
  have h4 : n % ((2 ^ m : Nat) : Int) < ((2 ^ m : Nat) : Int) := Int.emod_lt_of_pos _ (by omega)
  omega
theorem i64_and255 (n : Int) : bits .and .i64 n 255 = n % 256 := i64_mask 8 (by decide) 255 (by decide) n
theorem i64_and30 (n : Int) : bits .and .i64 n 1073741823 = n % 1073741824 := i64_mask 30 (by decide) 1073741823 (by decide) n
theorem i64_and1 (n : Int) : bits .and .i64 n 1 = n % 2 := i64_mask 1 (by decide) 1 (by decide) n

def ByteV : RepT Int := fun _ _ u n => u = .int .u8 n ∧ 0 ≤ n ∧ n ≤ 255
theorem rByteV : Rep ByteV := ⟨fun _ h => h, fun _ h => h, fun h => h, fun h => by obtain ⟨rfl, _⟩ := h; rfl⟩
abbrev Bytes := Rd (Sl ByteV)

/-- a cursor over bytes that lie below block B -/
def Cur (B : Nat) (w : World) (g : Nat) : Prop :=
  B ≤ g ∧ ∃ (v : Value) (bs : List Int) (i : Nat) (h : Int), w.heap[g]? = some (.cells #[v, .int .i64 i, .int .i64 h] 66 (0, 0)) ∧ Sl ByteV (fun b => b < B) w v bs ∧ i ≤ bs.length

theorem Cur.keep {B g : Nat} {w w' : World} (h : Cur B w g) (hb : Below w.heap.size w w') : Cur B w' g := by
  obtain ⟨h1, v, bs, i, x, h2, h3, h4⟩ := h
  have hg := lt_of_block h2
  exact ⟨h1, v, bs, i, x, (hb.block g hg).trans h2, (rSl rByteV).same (sameOn_below hb fun b hb' => by omega) h3, h4⟩
theorem Cur.only {B g : Nat} {S : Bk} {w w' : World} (h : Cur B w g) (hb : Only S w w') (hg : ¬ S g) (hS : ∀ b, S b → B ≤ b) : Cur B w' g := by
  obtain ⟨h1, v, bs, i, x, h2, h3, h4⟩ := h
  have hgs := lt_of_block h2
  exact ⟨h1, v, bs, i, x, (hb.block g hgs hg).trans h2, (rSl rByteV).same (fun b hb' => hb.block b (by omega) (fun hs => by have := hS b hs; omega)) h3, h4⟩
theorem Cur.lt {B g : Nat} {w : World} (h : Cur B w g) : g < w.heap.size := by
  obtain ⟨h1, v, bs, i, x, h2, h3, h4⟩ := h
  exact lt_of_block h2
theorem setCell_block {w : World} {g j : Nat} {cs : Array Value} {t : TypeId} {u : Value} (h : w.heap[g]? = some (.cells cs t (0, 0))) : (w.setCell ⟨g, j, none⟩ u).heap[g]? = some (.cells (cs.setIfInBounds j u) t (0, 0)) := heap_setCell_same w g j cs t u h

/-- the call returned a number of a range and moved the cursor on -/
def Drew (B g : Nat) (w : World) (P : Int → Prop) (e : Ending) (w' : World) : Prop := ∃ n : Int, P n ∧ e = .returned (.int .i64 n) ∧ Cur B w' g ∧ Only (fun b => b = g) w w' ∧ w.heap.size = w'.heap.size

theorem and255_bd (n : Int) : 0 ≤ bits .and .i64 n 255 ∧ bits .and .i64 n 255 ≤ 255 := by rw [i64_and255]; omega
theorem cur_step1 {B g i : Nat} {w : World} {v : Value} {bs : List Int} {x : Int} (hB : B ≤ g) (h : w.heap[g]? = some (.cells #[v, .int .i64 i, .int .i64 x] 66 (0, 0))) (hbs : Sl ByteV (fun b => b < B) w v bs) (hi : i ≤ bs.length) (x' : Int) (n : Nat) :
    Cur B ((w.setCell ⟨g, 2, none⟩ (.int .i64 x')).drewN n) g ∧ Only (fun b => b = g) w ((w.setCell ⟨g, 2, none⟩ (.int .i64 x')).drewN n) ∧ w.heap.size = ((w.setCell ⟨g, 2, none⟩ (.int .i64 x')).drewN n).heap.size := by
  refine ⟨⟨hB, v, bs, i, x', setCell_block (w := w) h, (rSl rByteV).same (fun b hb => ?_) hbs, hi⟩, ?_, (size_setCell _ _ _).symm⟩
  · exact Below.heap_setCell w _ _ b (by simp; omega)
  · exact ((Only.refl (fun b => b = g) w).setCell (p := ⟨g, 2, none⟩) (.inl rfl) _).drewN n
theorem cur_step2 {B g i : Nat} {w : World} {v : Value} {bs : List Int} {x : Int} (hB : B ≤ g) (h : w.heap[g]? = some (.cells #[v, .int .i64 i, .int .i64 x] 66 (0, 0))) (hbs : Sl ByteV (fun b => b < B) w v bs) (hi : i < bs.length) (x' : Int) (n : Nat) :
    Cur B (((w.setCell ⟨g, 2, none⟩ (.int .i64 x')).drewN n).setCell ⟨g, 1, none⟩ (.int .i64 (i + 1))) g ∧ Only (fun b => b = g) w (((w.setCell ⟨g, 2, none⟩ (.int .i64 x')).drewN n).setCell ⟨g, 1, none⟩ (.int .i64 (i + 1))) ∧
      w.heap.size = (((w.setCell ⟨g, 2, none⟩ (.int .i64 x')).drewN n).setCell ⟨g, 1, none⟩ (.int .i64 (i + 1))).heap.size := by
  have h1 := setCell_block (j := 2) (u := .int .i64 x') h
  have h2 := setCell_block (w := (w.setCell ⟨g, 2, none⟩ (.int .i64 x')).drewN n) (j := 1) (u := .int .i64 (i + 1)) h1
  refine ⟨⟨hB, v, bs, i + 1, x', h2, (rSl rByteV).same (fun b hb => ?_) hbs, hi⟩, ?_, by rw [size_setCell]; exact (size_setCell _ _ _).symm⟩
  · rw [Below.heap_setCell _ _ _ b (by simp; omega)]
    exact Below.heap_setCell w _ _ b (by simp; omega)
  · exact (((Only.refl (fun b => b = g) w).setCell (p := ⟨g, 2, none⟩) (.inl rfl) _).drewN n).setCell (p := ⟨g, 1, none⟩) (.inl rfl) _

set_option maxHeartbeats 800000 in
theorem l01Byte_c (B g : Nat) (w : World) (h : Cur B w g) : Calls Tryd.prog 39 #[.pointer (some ⟨g, 0, none⟩)] w (Drew B g w fun n => 0 ≤ n ∧ n ≤ 255) := by
  obtain ⟨hB, v, bs, i, x, hblk, hbs, hi⟩ := h
  obtain ⟨a, cap, rfl, hcap, hmax, -, hc⟩ := id hbs
  have hcell : ∀ j, w.cell? ⟨g, j, none⟩ = #[Value.slice a bs.length cap, .int .i64 i, .int .i64 x][j]? := fun j => cell_of_row w g j _ _ _ hblk
  have hfree : ∀ j, w.frozen? ⟨g, j, none⟩ = false := fun j => frozen_of_row w g j _ _ hblk
  have c0 : w.cell? ⟨g, 0, none⟩ = some (.slice a bs.length cap) := hcell 0
  have c1 : w.cell? ⟨g, 1, none⟩ = some (.int .i64 i) := hcell 1
  have c2 : w.cell? ⟨g, 2, none⟩ = some (.int .i64 x) := hcell 2
  have f1 := hfree 1
  have f2 := hfree 2
  clear hcell hfree
  have Hblk := Lib.hid hblk
  have Hbs := Lib.hid hbs
  clear hblk hbs
  by_cases hlt : i < bs.length
  · obtain ⟨b, off, rfl, hbB, hc'⟩ := hc (by omega)
    obtain ⟨y, hy⟩ : ∃ y, bs[i]? = some y := ⟨_, List.getElem?_eq_getElem hlt⟩
    obtain ⟨u, hck, rfl, hy1, hy2⟩ := hc' i y hy
    have hbg : b < g := by omega
    clear hc hc' hy
    go_enter Tryd.func39, Tryd.ntmps39
    go_wp2
    go_quiet (fail)
    go_wp2
    go_quiet (fail)
    go_wp2
    go_quiet (fail)
    go_wp2
    go_ret
    exact ⟨_, and255_bd _, rfl, cur_step2 hB Hblk.out Hbs.out hlt _ _⟩
  · clear hc
    go_enter Tryd.func39, Tryd.ntmps39
    go_wp2
    go_quiet (fail)
    go_wp2
    go_quiet (fail)
    go_wp2
    go_ret
    exact ⟨_, and255_bd _, rfl, by rw [World.drewN_drewN]; exact cur_step1 hB Hblk.out Hbs.out hi _ _⟩

/-- below a bound from 1 to 256 -/
theorem l01Below_c (B g : Nat) (n : Int) (w : World) (h : Cur B w g) (h1 : 1 ≤ n) (h2 : n ≤ 256) : Calls Tryd.prog 37 #[.pointer (some ⟨g, 0, none⟩), .int .i64 n] w (Drew B g w fun m => 0 ≤ m ∧ m < n) := by
  go_enter Tryd.func37, Tryd.ntmps37
  go_wp2_with (fail)
  refine (l01Byte_c B g _ h).mono ?_
  rintro e w' ⟨m, ⟨hm0, hm1⟩, rfl, hc, ho, hz⟩
  have Hz := Lib.hid hz; clear hz
  have e1 : 0 ≤ m % n := Int.emod_nonneg _ (by omega)
  have e2 : m % n < n := Int.emod_lt_of_pos _ (by omega)
  have hn0 : (n == 0) = false := by simp; omega
  go_wp2
  go_ret
  exact ⟨_, ⟨e1, e2⟩, rfl, hc, ho, Hz.out⟩

theorem cur_new {w : World} {v : Value} {bs : List Int} (h : Bytes w v bs) (x : Int) : Cur w.heap.size (w.alloc (.cells #[v, .int .i64 0, .int .i64 x] 66)) w.heap.size :=
  ⟨Nat.le_refl _, v, bs, 0, x, heap_alloc_new w _, (rSl rByteV).same (fun b hb => Below.heap_alloc w _ b hb) h, Nat.zero_le _⟩
set_option maxRecDepth 100000 in
theorem l01New_c (v : Value) (bs : List Int) (w : World) (hv : Bytes w v bs) : Calls Tryd.prog 38 #[v] w fun e w' => ∃ g, e = .returned (.pointer (some ⟨g, 0, none⟩)) ∧ g = w.heap.size ∧ Cur w.heap.size w' g ∧ Below w.heap.size w w' ∧ w'.heap.size = w.heap.size + 1 := by
  obtain ⟨a, cap, rfl, hcap, hle, -, hc⟩ := id hv
  have Hv := Lib.hid hv; clear hv
  go_enter Tryd.func38, Tryd.ntmps38
  go_wp2
  go_loop [3, 4] (fun h i => ∃ (k : Nat) (x : Int), k ≤ bs.length ∧ i = .int .i64 k ∧ h = .int .i64 x) (fun _ i => bs.length - (intOf i).toNat)
  case atStart => exact ⟨0, _, Nat.zero_le _, rfl, rfl⟩
  case round =>
    obtain ⟨k, x, hk, rfl, rfl⟩ := hrel
    by_cases hlt : k < bs.length
    · by_cases hlt2 : k < 4000
      · obtain ⟨b, off, rfl, hb, hc'⟩ := hc (by omega)
        obtain ⟨y, hy⟩ : ∃ y, bs[k]? = some y := ⟨_, List.getElem?_eq_getElem hlt⟩
        obtain ⟨u, hck, rfl, hy1, hy2⟩ := hc' k y hy
        clear hc hc' hy
        go_wp2
        go_round
        case rel => exact ⟨k + 1, _, by omega, by go_num, rfl⟩
        case measure => simp [intOf]; omega
      · go_wp2
        go_ret
        exact ⟨_, rfl, rfl, cur_new Hv.out _, Below.pureAlloc _ _, by simp⟩
    · go_wp2
      go_ret
      exact ⟨_, rfl, rfl, cur_new Hv.out _, Below.pureAlloc _ _, by simp⟩

theorem l18New_c (v : Value) (bs : List Int) (n : Nat) (w : World) (hv : Bytes w v bs) (hn : n ≤ 1048576) : Calls Tryd.prog 24 #[v, .int .i64 n] w fun e w' => ∃ g, e = .returned (.pointer (some ⟨g, 0, none⟩)) ∧ g = w.heap.size ∧ Cur w.heap.size w' g ∧ Below w.heap.size w w' ∧ w'.heap.size = w.heap.size + 1 := by
  go_enter Tryd.func24, Tryd.ntmps24
  go_wp2_with (fail)
  refine (l01New_c v bs _ hv).mono ?_
  rintro e w1 ⟨g, rfl, rfl, hcur, hbel, hsz⟩
  have Hsz := Lib.hid hsz; clear hsz
  go_wp2_with (fail)
  go_loopw [6] (fun i wr => ∃ k : Nat, k ≤ n ∧ i = .int .i64 k ∧ Cur w.heap.size wr w.heap.size ∧ Below w.heap.size w wr ∧ wr.heap.size = w.heap.size + 1) (fun i _ => n - (intOf i).toNat)
  case atStart => exact ⟨0, Nat.zero_le _, rfl, hcur, hbel, Hsz.out⟩
  case round =>
    clear hcur hbel Hsz
    obtain ⟨k, hk, rfl, hcur, hbel, hsz⟩ := hrel
    have Hsz := Lib.hid hsz; clear hsz
    by_cases hlt : k < n
    · go_wp2_with (fail)
      refine (l01Byte_c _ _ _ hcur).mono ?_
      rintro e w2 ⟨m, -, rfl, hcur2, ho, hz⟩
      have Hz := Lib.hid hz; clear hz
      have hbel2 := hbel.trans (ho.below (by have := Hsz.out; omega) (fun b hb => by omega))
      go_wp2
      go_roundw
      case rel => exact ⟨k + 1, by omega, by go_num, hcur2, hbel2, by rw [← Hz.out, Hsz.out]⟩
      case measure => simp [intOf]; omega
    · go_wp2
      go_ret
      exact ⟨_, rfl, rfl, hcur, hbel, Hsz.out⟩

/-- the grid of zeros -/
def zeros (r c : Nat) : List (List Int) := List.replicate r (List.replicate c 0)
set_option maxHeartbeats 400000 in
theorem l02Empty_c (r c : Nat) (w : World) (hr : r ≤ 1048576) (hc : c ≤ 1048576) : Calls Tryd.prog 36 #[.int .i64 r, .int .i64 c] w (New 22 (Own 3 IntV) w (zeros r c)) := by
  go_enter Tryd.func36, Tryd.ntmps36
  go_wp2
  go_loopw [5, 6] (fun v i wr => ∃ k : Nat, k ≤ r ∧ i = .int .i64 k ∧ Own 22 (Own 3 IntV) (Iv w.heap.size wr.heap.size) wr v (zeros k c) ∧ Below w.heap.size w wr) (fun _ i _ => r - (intOf i).toNat)
  case atStart => exact ⟨0, Nat.zero_le _, rfl, own_lit0 _ _ _ (rOwn rIntV), Below.pureAlloc _ _⟩
  case round =>
    obtain ⟨k, hk, rfl, hown, hbel⟩ := hrel
    have hBs := hbel.size
    have Hown := Lib.hid hown; clear hown
    by_cases hlt : k < r
    · have hkl : (zeros k c).length < 1099511627776 := by simp [zeros]; omega
      go_wp2_with (first | (at_make; refine wpList_mk _ rfl _ _ 22 rfl 3 Tryd.underlying22 infoInt rfl (by decide) (R := IntV) 0 ⟨rfl, I64.small (by decide) (by decide)⟩ rIntV c rfl rfl (by omega) ?_; intro w1 hown1 hbel1 hsz1; have Hsz1 := Lib.hid hsz1; clear hsz1) | (at_builtin; (refine wpList_appR rfl _ _ 29 rfl (rOwn rIntV) 22 Tryd.underlying29 infoInts rfl (by decide) w.heap.size wr.heap.size hBs hbel1.size rfl rfl (by exact Own.keep (rOwn rIntV) Hown.out hbel1 (Nat.le_refl _)) (by exact hown1.point rIntV (Nat.le_refl _) (by rw [Hsz1.out]; omega)) hkl ?_); intro v2 w2 hown2 hbel2 _) | fail)
      have hb2 := (hbel.trans (hbel1.mono hBs)).trans hbel2
      have Hown2 := Lib.hid hown2; clear hown2
      go_wp2
      go_roundw
      case rel => exact ⟨k + 1, by omega, by go_num, by simpa [zeros, List.replicate_succ'] using Hown2.out, hb2⟩
      case measure => simp [intOf]; omega
    · go_wp2
      go_ret
      obtain rfl : k = r := by omega
      exact ⟨_, rfl, Hown.out, hbel⟩
end Go.Proofs.YtningnjdafhgkaaDoor

namespace Go.Proofs.YtningnjdafhgkaaDoor
open Go.RowKit

/-- the cell (y, x) of an owned grid of integers: where it lies, and what a store there makes of the grid -/
theorem own_grid_cell {E E' : TypeId} {S : Bk} {w : World} {g n cap : Nat} {m : List (List Int)} (h : Own E (Own E' IntV) S w (.slice (some ⟨g, 0, none⟩) n cap) m) {y : Nat} {row : List Int} (hy : m[y]? = some row) (hne : 0 < row.length) :
    ∃ q cq, w.cell? ⟨g, y, none⟩ = some (.slice (some ⟨q, 0, none⟩) row.length cq) ∧ S g ∧ S q ∧ q ≠ g ∧ row.length ≤ cq ∧ (∀ x, x < row.length → (∃ o, w.cell? ⟨q, x, none⟩ = some (.int .i64 o)) ∧ w.frozen? ⟨q, x, none⟩ = false) ∧
      (∀ x o, row[x]? = some o → w.cell? ⟨q, x, none⟩ = some (.int .i64 o)) ∧
      ∀ (w' : World), SameOn S w w' → ∀ (x : Nat) (n' : Int), x < row.length → I64 n' → Own E (Own E' IntV) S (w'.setCell ⟨q, x, none⟩ (.int .i64 n')) (.slice (some ⟨g, 0, none⟩) n cap) (m.set y (row.set x n')) := by
  obtain ⟨hSg, -, -, -, T, u, hu, hr, hT, -, hback⟩ := h.focus (rOwn rIntV) hy
  obtain ⟨q, cq, rfl, hq, hcq, hqs, -⟩ := hr.inv_ne hne
  refine ⟨q, cq, hu, hSg, (hT q hq).1, (hT q hq).2, hcq, fun x hx => ?_, fun x o ho => (hr.ints_cell ho).1, fun w' hs x n' hx hn' => ?_⟩
  · obtain ⟨o, h1, h2⟩ := hr.ints_at hx
    exact ⟨⟨o, h1⟩, h2⟩
  · exact hback _ _ (fun b hb hnb => (Below.heap_setCell w' _ _ b (fun e => by subst e; exact hnb hq)).trans (hs b hb)) (((rOwn rIntV).same (fun b hb => hs b (hT b hb).1) hr).setInt hx hn')

set_option maxHeartbeats 1000000 in
theorem l02Draw_c (B g : Nat) (n : Int) (w : World) (h : Cur B w g) (h1 : 1 ≤ n) (h2 : n ≤ 5) : Calls Tryd.prog 23 #[.pointer (some ⟨g, 0, none⟩), .int .i64 n] w fun e w' => ∃ (v : Value) (m : List (List Int)) (r c : Nat), e = .returned v ∧ (1 ≤ r ∧ (r : Int) ≤ n) ∧ (1 ≤ c ∧ (c : Int) ≤ n) ∧ Shape r c m ∧ Own 22 (Own 3 IntV) (Iv w.heap.size w'.heap.size) w' v m ∧ Cur B w' g ∧ Only (fun b => b = g) w w' := by
  have hgl := h.lt
  have hBg := h.1
  go_enter Tryd.func23, Tryd.ntmps23
  go_wp2_with (fail)
  refine (l01Below_c B g n _ h (by omega) (by omega)).mono ?_
  rintro e w1 ⟨r', ⟨hr0, hr1⟩, rfl, hcur1, ho1, hz1⟩
  have Hz1 := Lib.hid hz1; clear hz1
  go_wp2_with (fail)
  refine (l01Below_c B g n _ hcur1 (by omega) (by omega)).mono ?_
  rintro e w2 ⟨c', ⟨hc0, hc1⟩, rfl, hcur2, ho2, hz2⟩
  have Hz2 := Lib.hid hz2; clear hz2
  obtain ⟨r, rfl⟩ := Int.eq_ofNat_of_zero_le hr0
  obtain ⟨c, rfl⟩ := Int.eq_ofNat_of_zero_le hc0
  go_wp2_with (fail)
  rw [show (1 : Int) + (r : Int) = ((r + 1 : Nat) : Int) from by omega, show (1 : Int) + (c : Int) = ((c + 1 : Nat) : Int) from by omega]
  refine (l02Empty_c (r + 1) (c + 1) _ (by omega) (by omega)).mono ?_
  rintro e w3 ⟨v3, rfl, hown3, hbel3⟩
  have s3 := hbel3.size
  have hcur3 := hcur2.keep hbel3
  have ho3 : Only (fun b => b = g) w w3 := ((ho1.trans' (ho2.mono fun b hb _ => .inl hb))).trans' ((Only.of_pure hbel3 (fun b => b = g)).mono fun b hb _ => .inl hb)
  obtain ⟨G, cap, rfl, hG, hcap, hGs, -⟩ := hown3.inv_ne (by simp [zeros])
  have hlen3 : (zeros (r + 1) (c + 1)).length = r + 1 := by simp [zeros]
  rw [hlen3] at hcap hown3 ⊢
  have Hown3 := Lib.hid hown3
  clear hown3 hlen3
  have hw23 : w.heap.size = w2.heap.size := by rw [Hz1.out, Hz2.out]
  have hG1 := hG.1
  have hG2 := hG.2
  have Hw23 := Lib.hid hw23
  clear hw23
  go_wp2
  go_loopw [6, 7, 19] (fun _ _ i wr => ∃ (k : Nat) (m : List (List Int)), k ≤ r + 1 ∧ i = .int .i64 k ∧ Shape (r + 1) (c + 1) m ∧ Own 22 (Own 3 IntV) (Iv w2.heap.size w3.heap.size) wr (.slice (some ⟨G, 0, none⟩) (r + 1) cap) m ∧ Cur B wr g ∧ Only (fun b => b = g) w wr ∧ w3.heap.size = wr.heap.size) (fun _ _ i _ => r + 1 - (intOf i).toNat)
  case atStart => exact ⟨0, _, Nat.zero_le _, rfl, shape_zeros _ _, Hown3.out, hcur3, ho3, rfl⟩
  case round =>
    clear Hown3 hcur3 ho3
    obtain ⟨k, m, hk, rfl, hsh, hown, hcur, ho, hz⟩ := hrel
    by_cases hlt : k < r + 1
    · obtain ⟨row, hrow, hrl, -⟩ := hsh.row hlt
      have hS : ∀ b, Iv w2.heap.size w3.heap.size b → b < wr.heap.size := fun b hb => by have := hb.2; omega
      obtain ⟨q, cq, hcell, -, hq, hqg, hcq, -⟩ := own_grid_cell hown hrow (by omega)
      rw [hrl] at hcell hcq
      have Hz := Lib.hid hz
      have Hown := Lib.hid hown
      have Hrow := Lib.hid hrow
      have Hrl := Lib.hid hrl
      have HS := Lib.hid hS
      clear hz hown hrow hrl hS
      have hdec : decide ((k : Int) < (r : Int) + 1) = true := by simp; omega
      go_wp2
      obtain ⟨wo, hwo⟩ : ∃ wo : World, wo = wr := ⟨_, rfl⟩
      clear hcell
      go_loopw [7, 27] (fun _ i wr => ∃ (j : Nat) (m : List (List Int)), j ≤ c + 1 ∧ i = .int .i64 j ∧ Shape (r + 1) (c + 1) m ∧ Own 22 (Own 3 IntV) (Iv w2.heap.size w3.heap.size) wr (.slice (some ⟨G, 0, none⟩) (r + 1) cap) m ∧ Cur B wr g ∧ Only (fun b => b = g) w wr ∧ w3.heap.size = wr.heap.size) (fun _ i _ => c + 1 - (intOf i).toNat)
      case atStart => exact ⟨0, m, Nat.zero_le _, rfl, hsh, Hown.out, hcur, ho, Hz.out⟩
      case round =>
        clear hsh Hown hcur ho Hz Hrow Hrl HS hwo m
        obtain ⟨j, m, hj, rfl, hsh, hown, hcur, ho, hz⟩ := hrel
        by_cases hlt2 : j < c + 1
        · obtain ⟨row, hrow, hrl, -⟩ := hsh.row hlt
          obtain ⟨q, cq, hcell, hG', hq, hqg, hcq, hx, -, hset⟩ := own_grid_cell hown hrow (by omega)
          obtain ⟨⟨o, hco⟩, hfo⟩ := hx j (by omega)
          rw [hrl] at hcell hcq
          have hqB := hq.1
          have hqs := hq.2
          have Hz := Lib.hid hz
          have Hown := Lib.hid hown
          have Hrow := Lib.hid hrow
          have Hrl := Lib.hid hrl
          have Hset := Lib.hid hset
          clear hz hown hrow hrl hx hset
          have hqg2 : q ≠ g := by rintro rfl; have := hq.1; rw [← Hw23.out] at this; omega
          have hGg2 : G ≠ g := by rintro rfl; have := hG.1; rw [← Hw23.out] at this; omega
          have hGl : G < wr.heap.size := by have := hG.2; have := Hz.out; omega
          have hql : q < wr.heap.size := by have := hq.2; have := Hz.out; omega
          go_wp2
          go_region_with (go_at_call 37; refine (l01Below_c B g 2 _ (by exact hcur) (by decide) (by decide)).mono ?_; rintro e w5 ⟨n5, ⟨hn50, hn51⟩, rfl, hcur5, ho5, hz5⟩; have hc5 := (ho5.cell (p := ⟨G, k, none⟩) hGl hGg2).trans hcell; have hq5 := (ho5.cell (p := ⟨q, j, none⟩) hql hqg2).trans hco; have hf5 := (ho5.frozen (p := ⟨q, j, none⟩) hql hqg2).trans hfo; have Hz5 := Lib.hid hz5; clear hz5)
          all_goals
            have hall : Only (fun b => b = g) w w5 := (show Only (fun b => b = g) w wr.drew from ho.drew).trans' (Only.mono ho5 fun b hb _ => .inl hb)
            have hown5 := Hset.out w5 (ho5.same (T := Iv w2.heap.size w3.heap.size) (fun b hb e => by subst e; have := hb.1; rw [← Hw23.out] at this; omega) (fun b hb => by have := hb.2; have := Hz.out; show b < wr.heap.size; omega)) j n5 (by rw [Hrl.out]; exact hlt2) (I64.small (by omega) (by omega))
            have Hown5 := Lib.hid hown5
            clear hown5
            go_wp2
            go_roundw
            case rel => exact ⟨j + 1, _, by omega, by go_num, hsh.set Hrow.out hn50 (by omega), Hown5.out, hcur5.only (S := fun b => b = q) ((Only.refl (fun b => b = q) _).setCell (p := ⟨q, j, none⟩) (.inl rfl) _) (fun e => hqg2 e.symm) (fun b hb => by subst hb; rw [← Hw23.out] at hqB; omega), hall.setCell (p := ⟨q, j, none⟩) (.inr (by rw [Hw23.out]; exact hqB)) _, by rw [size_setCell, ← Hz5.out, Hz.out]; rfl⟩
            case measure => simp [intOf]; omega
        · have Hown := Lib.hid hown
          have Hz := Lib.hid hz
          clear hown hz
          go_wp2
          go_roundw
          case rel => exact ⟨k + 1, m, by omega, by go_num, hsh, Hown.out, hcur, ho, Hz.out⟩
          case measure => simp [intOf]; omega
    · have Hown := Lib.hid hown
      have Hz := Lib.hid hz
      clear hown hz
      go_wp2
      go_ret
      refine ⟨_, m, r + 1, c + 1, rfl, ⟨by omega, by omega⟩, ⟨by omega, by omega⟩, hsh, ?_, hcur, ho⟩
      exact (rOwn (rOwn rIntV)).mono (fun b hb => ⟨by rw [Hw23.out]; exact hb.1, by rw [← Hz.out]; exact hb.2⟩) Hown.out

/-- an image of some size up to n -/
theorem MakeImage_c (v : Value) (bs : List Int) (k n : Nat) (w : World) (hv : Bytes w v bs) (hk : k ≤ 1048576) (h1 : 1 ≤ n) (h2 : n ≤ 5) : Calls Tryd.prog 10 #[v, .int .i64 k, .int .i64 n] w fun e w' => ∃ (v' : Value) (m : List (List Int)) (r c : Nat), e = .returned v' ∧ (1 ≤ r ∧ r ≤ n) ∧ (1 ≤ c ∧ c ≤ n) ∧ Shape r c m ∧ Own 22 (Own 3 IntV) (Iv w.heap.size w'.heap.size) w' v' m ∧ Below w.heap.size w w' := by
  go_enter Tryd.func10, Tryd.ntmps10
  go_wp2_with (fail)
  refine (l18New_c v bs k _ hv hk).mono ?_
  rintro e w1 ⟨g, rfl, rfl, hcur, hbel, hsz⟩
  have s1 := hbel.size
  have hg1 := hcur.lt
  have Hsz := Lib.hid hsz; clear hsz
  go_wp2_with (fail)
  all_goals
    refine (l02Draw_c w.heap.size w.heap.size _ _ (by exact hcur) (by omega) (by omega)).mono ?_
    rintro e w2 ⟨v2, m, r, c, rfl, ⟨hr0, hr1⟩, ⟨hc0, hc1⟩, hsh, hown, hcur2, ho⟩
    have Hown := Lib.hid hown; clear hown
    go_wp2
    go_ret
    exact ⟨_, m, r, c, rfl, ⟨by omega, by omega⟩, ⟨by omega, by omega⟩, hsh, (rOwn (rOwn rIntV)).mono (fun b hb => ⟨Nat.le_trans s1 hb.1, hb.2⟩) Hown.out, hbel.trans (ho.below s1 fun b hb => by subst hb; exact Nat.le_refl _)⟩
end Go.Proofs.YtningnjdafhgkaaDoor

/- The lines with given runs: plain. -/
import Derived.Test.YtliejhmlcdjpcaaRuns
namespace Go.Proofs.Ytliejhmlcdjpcaa

/-- the cells of a line, from the number of which they are the bits -/
def bitsLine (n key : Nat) : List Int := (List.range n).map fun x : Nat => ((key / 2 ^ (n - 1 - x) % 2 : Nat) : Int)
/-- all lines of n cells in order, as far as number k -/
def linesTo (n : Nat) (rs : List Int) (k : Nat) : List (List Int) := ((List.range k).map (bitsLine n)).filter fun l => decide (runsOf l = rs)
def linesFor (rs : List Int) (n : Nat) : List (List Int) := linesTo n rs (2 ^ n)

theorem bitsLine_len (n key : Nat) : (bitsLine n key).length = n := by simp [bitsLine]
theorem bitsLine_at {n key x : Nat} (h : x < n) : (bitsLine n key)[x]? = some ((key / 2 ^ (n - 1 - x) % 2 : Nat) : Int) := by simp [bitsLine, h]
theorem linesTo_succ (n : Nat) (rs : List Int) (k : Nat) : linesTo n rs (k + 1) = if runsOf (bitsLine n k) = rs then linesTo n rs k ++ [bitsLine n k] else linesTo n rs k := by
  unfold linesTo
  rw [List.range_succ, List.map_append, List.filter_append]
  split <;> simp_all
theorem linesTo_len (n : Nat) (rs : List Int) (k : Nat) : (linesTo n rs k).length ≤ k := by
  have := List.length_filter_le (fun l => decide (runsOf l = rs)) ((List.range k).map (bitsLine n))
  simpa [linesTo] using this
theorem bits_set {n key j : Nat} (h : j < n) : ((bitsLine n key).take j ++ List.replicate (n - j) 0).set j ((key / 2 ^ (n - 1 - j) % 2 : Nat) : Int) = (bitsLine n key).take (j + 1) ++ List.replicate (n - (j + 1)) 0 := by
  have := set_copy (bitsLine_at (key := key) h)
  rwa [bitsLine_len] at this

/-! ### a line solved from a state -/
def agreeAt (st line : List Int) (x : Nat) : Bool := decide (st.getD x 0 < 0) || (st.getD x 0 == line.getD x 0)
def agreesTo (st line : List Int) (j : Nat) : Bool := (List.range j).all (agreeAt st line)
def agrees (st line : List Int) : Bool := agreesTo st line line.length
def mergeAt (a b : Int) : Int := if a = b then a else -1
def mergeL (o line : List Int) : List Int := List.zipWith mergeAt o line
def solveStep (st : List Int) (acc : Option (List Int)) (line : List Int) : Option (List Int) :=
  if agrees st line then some (match acc with | none => line | some o => mergeL o line) else acc
def solveTo (L : List (List Int)) (st : List Int) (k : Nat) : Option (List Int) := (L.take k).foldl (solveStep st) none
def stateOk (st : List Int) : Bool := inR 1 5 st.length && st.all (inR (-1) 1)
def solveLine (rs st : List Int) : Option (List Int) := if stateOk st then solveTo (linesFor rs st.length) st (linesFor rs st.length).length else none

theorem agreeAt_eq {st line : List Int} {j : Nat} {x c : Int} (hx : st[j]? = some x) (hc : line[j]? = some c) : agreeAt st line j = (decide (x < 0) || (x == c)) := by
  simp [agreeAt, List.getD, hx, hc]
theorem agreesTo_succ (st line : List Int) (j : Nat) : agreesTo st line (j + 1) = (agreesTo st line j && agreeAt st line j) := by
  simp [agreesTo, List.range_succ]
theorem solveTo_succ {L : List (List Int)} {st : List Int} {k : Nat} {line : List Int} (h : L[k]? = some line) : solveTo L st (k + 1) = solveStep st (solveTo L st k) line := by
  obtain ⟨hk, hx⟩ := List.getElem?_eq_some_iff.1 h
  unfold solveTo
  rw [List.take_succ_eq_append_getElem hk, hx, List.foldl_append]; rfl
theorem mergeL_len (o line : List Int) : (mergeL o line).length = min o.length line.length := by simp [mergeL]
theorem mergeL_self (l : List Int) : mergeL l l = l := by
  apply List.ext_getElem?
  intro j
  simp only [mergeL, List.getElem?_zipWith]
  cases h : l[j]? <;> simp [mergeAt]
/-- as far as cell j -/
def mergeTo (o line : List Int) (j : Nat) : List Int := (mergeL o line).take j ++ o.drop j
theorem mergeTo_zero (o line : List Int) : mergeTo o line 0 = o := by simp [mergeTo]
theorem mergeTo_len {o line : List Int} (h : o.length = line.length) (j : Nat) : (mergeTo o line j).length = o.length := by
  simp [mergeTo, mergeL_len, h]; omega
theorem mergeTo_all {o line : List Int} (h : o.length = line.length) : mergeTo o line line.length = mergeL o line := by
  simp [mergeTo, List.take_of_length_le, mergeL_len, h]
theorem mergeTo_at {o line : List Int} {j : Nat} {a : Int} (h : o.length = line.length) (ha : o[j]? = some a) : (mergeTo o line j)[j]? = some a := by
  have hj := (List.getElem?_eq_some_iff.1 ha).1
  rw [mergeTo, List.getElem?_append_right (by simp [mergeL_len]; omega), List.length_take, mergeL_len, List.getElem?_drop, ← ha]
  congr 1; omega
theorem mergeTo_succ {o line : List Int} {j : Nat} {a b : Int} (h : o.length = line.length) (ha : o[j]? = some a) (hb : line[j]? = some b) : mergeTo o line (j + 1) = (mergeTo o line j).set j (mergeAt a b) := by
  have hj := (List.getElem?_eq_some_iff.1 ha).1
  have hm : (mergeL o line)[j]? = some (mergeAt a b) := by simp [mergeL, List.getElem?_zipWith, ha, hb]
  obtain ⟨h1, h2⟩ := List.getElem?_eq_some_iff.1 hm
  unfold mergeTo
  rw [List.set_append_right _ _ (by simp [mergeL_len]; omega), List.take_succ_eq_append_getElem h1, h2]
  have : j - (List.take j (mergeL o line)).length = 0 := by simp [mergeL_len]; omega
  rw [this, List.drop_eq_getElem_cons hj, List.set_cons_zero]
  simp
theorem mergeTo_same {o line : List Int} {j : Nat} {a : Int} (h : o.length = line.length) (ha : o[j]? = some a) (hb : line[j]? = some a) : mergeTo o line (j + 1) = mergeTo o line j := by
  rw [mergeTo_succ h ha hb]
  have h1 := mergeTo_at h ha
  have hl := mergeTo_len h j
  rw [show mergeAt a a = a from by simp [mergeAt]]
  obtain ⟨h2, h3⟩ := List.getElem?_eq_some_iff.1 h1
  rw [← h3]
  exact List.set_getElem_self h2

theorem linesTo_mem {n k : Nat} {rs l : List Int} (h : l ∈ linesTo n rs k) : l.length = n ∧ ∀ x ∈ l, 0 ≤ x ∧ x ≤ 1 := by
  simp only [linesTo, List.mem_filter, List.mem_map, List.mem_range] at h
  obtain ⟨⟨q, _, rfl⟩, _⟩ := h
  refine ⟨bitsLine_len _ _, fun x hx => ?_⟩
  simp only [bitsLine, List.mem_map, List.mem_range] at hx
  obtain ⟨j, _, rfl⟩ := hx
  have := Nat.mod_lt (q / 2 ^ (n - 1 - j)) (show 0 < 2 by decide)
  omega
theorem mergeL_bd {o line : List Int} (h : ∀ x ∈ o, -1 ≤ x ∧ x ≤ 1) : ∀ x ∈ mergeL o line, -1 ≤ x ∧ x ≤ 1 := by
  intro x hx
  obtain ⟨j, hj⟩ := List.getElem?_of_mem hx
  simp only [mergeL, List.getElem?_zipWith] at hj
  cases h1 : o[j]? with
  | none => simp [h1] at hj
  | some a =>
    cases h2 : line[j]? with
    | none => simp [h1, h2] at hj
    | some b =>
      simp [h1, h2] at hj
      have := h a (List.mem_of_getElem? h1)
      unfold mergeAt at hj
      split at hj <;> omega
theorem solveTo_wf {n : Nat} {rs st : List Int} : ∀ k, k ≤ (linesFor rs n).length → ∀ o, solveTo (linesFor rs n) st k = some o → o.length = n ∧ ∀ x ∈ o, -1 ≤ x ∧ x ≤ 1 := by
  intro k
  induction k with
  | zero => intro _ o h; simp [solveTo] at h
  | succ k ih =>
    intro hk o h
    have hline : (linesFor rs n)[k]? = some (linesFor rs n)[k] := List.getElem?_eq_getElem (by omega)
    rw [solveTo_succ hline] at h
    obtain ⟨hl1, hl2⟩ := linesTo_mem (List.mem_of_getElem? hline)
    unfold solveStep at h
    split at h
    · cases hacc : solveTo (linesFor rs n) st k with
      | none =>
        rw [hacc] at h
        simp at h
        subst h
        exact ⟨hl1, fun x hx => by have := hl2 x hx; omega⟩
      | some o' =>
        rw [hacc] at h
        simp at h
        subst h
        obtain ⟨e1, e2⟩ := ih (by omega) o' hacc
        exact ⟨by rw [mergeL_len]; omega, mergeL_bd e2⟩
    · exact ih (by omega) o h
end Go.Proofs.Ytliejhmlcdjpcaa

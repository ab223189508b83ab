/- Sums over ranges; a matrix of bits with given line sums between two bounds exists, or a rectangle shows that there is none. Plain. -/
import Derived.Test.YtliejhmlcdjpcaaEnum
namespace Go.Proofs.Ytliejhmlcdjpcaa

/-- the sum of f over the first n numbers -/
def rs : Nat → (Nat → Int) → Int
  | 0, _ => 0
  | n + 1, f => rs n f + f n
theorem rs_congr {n : Nat} {f g : Nat → Int} (h : ∀ i, i < n → f i = g i) : rs n f = rs n g := by
  induction n with
  | zero => rfl
  | succ n ih => rw [rs, rs, ih (fun i hi => h i (by omega)), h n (by omega)]
theorem rs_le {n : Nat} {f g : Nat → Int} (h : ∀ i, i < n → f i ≤ g i) : rs n f ≤ rs n g := by
  induction n with
  | zero => exact Int.le_refl _
  | succ n ih => rw [rs, rs]; have := ih (fun i hi => h i (by omega)); have := h n (by omega); omega
theorem rs_add (n : Nat) (f g : Nat → Int) : rs n (fun i => f i + g i) = rs n f + rs n g := by
  induction n with
  | zero => rfl
  | succ n ih => rw [rs, rs, rs, ih]; omega
theorem rs_sub (n : Nat) (f g : Nat → Int) : rs n (fun i => f i - g i) = rs n f - rs n g := by
  induction n with
  | zero => rfl
  | succ n ih => rw [rs, rs, rs, ih]; omega
theorem rs_zero (n : Nat) : rs n (fun _ => 0) = 0 := by
  induction n with
  | zero => rfl
  | succ n ih => rw [rs, ih]; rfl
theorem rs_zero' {n : Nat} {f : Nat → Int} (h : ∀ i, i < n → f i = 0) : rs n f = 0 := (rs_congr h).trans (rs_zero n)
theorem rs_const (n : Nat) (k : Int) : rs n (fun _ => k) = n * k := by
  induction n with
  | zero => simp [rs]
  | succ n ih => rw [rs, ih, Int.natCast_succ, Int.add_mul]; omega
theorem rs_mul (n : Nat) (k : Int) (f : Nat → Int) : rs n (fun i => k * f i) = k * rs n f := by
  induction n with
  | zero => simp [rs]
  | succ n ih => rw [rs, rs, ih, Int.mul_add]
theorem rs_single {n i : Nat} (hi : i < n) (f : Nat → Int) : rs n (fun k => if k = i then f k else 0) = f i := by
  induction n with
  | zero => omega
  | succ n ih =>
    rw [rs]
    by_cases h : i = n
    · subst h
      rw [if_pos rfl, rs_zero' (fun k hk => if_neg (by omega))]; omega
    · rw [ih (by omega), if_neg (fun e => h e.symm)]; omega
theorem rs_comm (n m : Nat) (f : Nat → Nat → Int) : rs n (fun i => rs m (fun j => f i j)) = rs m (fun j => rs n (fun i => f i j)) := by
  induction n with
  | zero => rw [rs]; exact (rs_zero m).symm
  | succ n ih =>
    rw [rs, ih, ← rs_add]
    exact rs_congr fun j _ => by rw [rs]
theorem rs_nonneg {n : Nat} {f : Nat → Int} (h : ∀ i, i < n → 0 ≤ f i) : 0 ≤ rs n f := by
  have := rs_le (n := n) (f := fun _ => 0) (g := f) h
  rwa [rs_zero] at this
theorem rs_le1 {n i : Nat} (hi : i < n) {f : Nat → Int} (h : ∀ i, i < n → 0 ≤ f i) : f i ≤ rs n f := by
  have := rs_le (n := n) (f := fun k => if k = i then f k else 0) (g := f) (fun k hk => by split; exact Int.le_refl _; exact h k hk)
  rwa [rs_single hi] at this
theorem rs_pos {n : Nat} {f : Nat → Int} (h : 0 < rs n f) : ∃ i, i < n ∧ 0 < f i := by
  apply Classical.byContradiction
  intro hn
  have := rs_le (n := n) (f := f) (g := fun _ => 0) (fun i hi => by
    apply Classical.byContradiction; intro hlt; exact hn ⟨i, hi, by omega⟩)
  rw [rs_zero] at this
  omega

/-- a cell's part in the measure of a rectangle -/
def gc (a b : Bool) (l u : Int) : Int := (if b && !a then l else 0) - (if a && !b then u else 0)
/-- how much a rectangle needs beyond its room -/
def need (r c : Nat) (R C : Nat → Int) (l u : Nat → Nat → Int) (A B : Nat → Bool) : Int :=
  rs r (fun i => if A i then R i else 0) - rs c (fun j => if B j then C j else 0) + rs r (fun i => rs c (fun j => gc (A i) (B j) (l i j) (u i j)))
def setF (f : Nat → Nat → Int) (i0 j0 : Nat) (v : Int) : Nat → Nat → Int := fun i j => if i = i0 ∧ j = j0 then v else f i j
theorem gc_super (a0 a1 b0 b1 : Bool) {l u : Int} (h : l ≤ u) : gc a0 b0 l u + gc a1 b1 l u ≤ gc (a0 || a1) (b0 || b1) l u + gc (a0 && a1) (b0 && b1) l u := by
  cases a0 <;> cases a1 <;> cases b0 <;> cases b1 <;> simp [gc] <;> omega
theorem gc_super1 (a0 a1 b0 b1 : Bool) : gc a0 b0 0 0 + gc a1 b1 1 1 - 1 ≤ gc (a0 || a1) (b0 || b1) 0 1 + gc (a0 && a1) (b0 && b1) 0 1 := by
  cases a0 <;> cases a1 <;> cases b0 <;> cases b1 <;> decide
theorem rs_one {r c i0 j0 : Nat} (hi : i0 < r) (hj : j0 < c) : rs r (fun i => rs c (fun j => if i = i0 ∧ j = j0 then (1 : Int) else 0)) = 1 := by
  have h1 : ∀ i, i < r → rs c (fun j => if i = i0 ∧ j = j0 then (1 : Int) else 0) = if i = i0 then 1 else 0 := by
    intro i _
    by_cases h : i = i0
    · rw [if_pos h]
      rw [rs_congr (g := fun j => if j = j0 then (1 : Int) else 0) (fun j _ => by simp [h])]
      exact rs_single hj (fun _ => 1)
    · rw [if_neg h]
      exact rs_zero' fun j _ => if_neg (fun e => h e.1)
  rw [rs_congr h1]
  exact rs_single hi (fun _ => 1)
theorem need_super {r c i0 j0 : Nat} (hi : i0 < r) (hj : j0 < c) {R C : Nat → Int} {l u : Nat → Nat → Int} (hlu : ∀ i j, i < r → j < c → l i j ≤ u i j) (hl : l i0 j0 = 0) (hu : u i0 j0 = 1) (A0 B0 A1 B1 : Nat → Bool) :
    need r c R C l (setF u i0 j0 0) A0 B0 + need r c R C (setF l i0 j0 1) u A1 B1 - 1 ≤
      need r c R C l u (fun i => A0 i || A1 i) (fun j => B0 j || B1 j) + need r c R C l u (fun i => A0 i && A1 i) (fun j => B0 j && B1 j) := by
  unfold need
  have e1 : rs r (fun i => if A0 i then R i else 0) + rs r (fun i => if A1 i then R i else 0) = rs r (fun i => if (A0 i || A1 i) then R i else 0) + rs r (fun i => if (A0 i && A1 i) then R i else 0) := by
    rw [← rs_add, ← rs_add]
    refine rs_congr fun i _ => ?_
    cases A0 i <;> cases A1 i <;> simp
  have e2 : rs c (fun i => if B0 i then C i else 0) + rs c (fun i => if B1 i then C i else 0) = rs c (fun i => if (B0 i || B1 i) then C i else 0) + rs c (fun i => if (B0 i && B1 i) then C i else 0) := by
    rw [← rs_add, ← rs_add]
    refine rs_congr fun i _ => ?_
    cases B0 i <;> cases B1 i <;> simp
  have e3 := rs_le (n := r) (f := fun i => rs c (fun j => gc (A0 i) (B0 j) (l i j) (setF u i0 j0 0 i j)) + rs c (fun j => gc (A1 i) (B1 j) (setF l i0 j0 1 i j) (u i j)) - rs c (fun j => if i = i0 ∧ j = j0 then (1 : Int) else 0))
    (g := fun i => rs c (fun j => gc (A0 i || A1 i) (B0 j || B1 j) (l i j) (u i j)) + rs c (fun j => gc (A0 i && A1 i) (B0 j && B1 j) (l i j) (u i j))) (fun i hir => by
      show rs c _ + rs c _ - rs c _ ≤ rs c _ + rs c _
      rw [← rs_add, ← rs_add, ← rs_sub]
      refine rs_le fun j hjc => ?_
      by_cases h : i = i0 ∧ j = j0
      · obtain ⟨rfl, rfl⟩ := h
        have := gc_super1 (A0 i) (A1 i) (B0 j) (B1 j)
        simp only [setF, and_self, if_true, hl, hu]
        omega
      · have := gc_super (A0 i) (A1 i) (B0 j) (B1 j) (hlu i j hir hjc)
        simp only [setF, if_neg h]
        omega)
  rw [rs_sub, rs_add, rs_add, rs_one hi hj] at e3
  show _ - _ + _ + (_ - _ + _) - 1 ≤ (_ - _ + _) + (_ - _ + _)
  dsimp only at e1 e2 e3 ⊢
  omega
theorem rs_bit {n i : Nat} (hi : i < n) {f g : Nat → Int} (h : ∀ k, k < n → k ≠ i → f k = g k) : rs n f = rs n g - g i + f i := by
  have h1 := rs_sub n f g
  have h2 : rs n (fun k => f k - g k) = rs n (fun k => if k = i then f k - g k else 0) := rs_congr fun k hk => by
    by_cases e : k = i
    · rw [if_pos e]
    · rw [if_neg e, h k hk e]; omega
  rw [rs_single hi (fun k => f k - g k)] at h2
  omega
theorem free_less {r c i0 j0 : Nat} (hi : i0 < r) (hj : j0 < c) (f : Nat → Nat → Int) (v : Int) : rs r (fun i => rs c (fun j => setF f i0 j0 v i j)) = rs r (fun i => rs c (fun j => f i j)) - f i0 j0 + v := by
  rw [rs_bit hi (g := fun i => rs c (fun j => f i j)) (fun k _ hne => rs_congr fun j _ => by simp only [setF]; rw [if_neg (fun e => hne e.1)])]
  rw [rs_bit hj (f := fun j => setF f i0 j0 v i0 j) (g := fun j => f i0 j) (fun k _ hne => by simp only [setF]; rw [if_neg (fun e => hne e.2)])]
  simp only [setF, and_self, if_true]
  omega
/-- between the bounds there is a matrix with the given line sums, or a rectangle needs more than its room -/
theorem flow (r c : Nat) (R C : Nat → Int) (hRC : rs r R = rs c C) : ∀ (n : Nat) (l u : Nat → Nat → Int), (∀ i j, i < r → j < c → 0 ≤ l i j ∧ l i j ≤ u i j ∧ u i j ≤ 1) → rs r (fun i => rs c (fun j => u i j)) - rs r (fun i => rs c (fun j => l i j)) ≤ n →
    (∃ x : Nat → Nat → Int, (∀ i j, i < r → j < c → l i j ≤ x i j ∧ x i j ≤ u i j) ∧ (∀ i, i < r → rs c (fun j => x i j) = R i) ∧ (∀ j, j < c → rs r (fun i => x i j) = C j)) ∨ ∃ A B, 0 < need r c R C l u A B := by
  intro n
  induction n with
  | zero =>
    intro l u hb hn
    have heq : ∀ i j, i < r → j < c → l i j = u i j := by
      intro i j hi hj
      rw [← rs_sub] at hn
      have h0 : ∀ i, i < r → 0 ≤ rs c (fun j => u i j) - rs c (fun j => l i j) := fun i hi => by
        have := rs_le (n := c) (f := fun j => l i j) (g := fun j => u i j) (fun j hj => (hb i j hi hj).2.1)
        omega
      have h1 := rs_le1 hi h0
      rw [← rs_sub] at h1
      have h2 := rs_le1 hj (f := fun j => u i j - l i j) (fun j hj => by have := hb i j hi hj; omega)
      have := hb i j hi hj
      omega
    by_cases hR : ∀ i, i < r → rs c (fun j => u i j) = R i
    · by_cases hC : ∀ j, j < c → rs r (fun i => u i j) = C j
      · exact .inl ⟨u, fun i j hi hj => ⟨(hb i j hi hj).2.1, Int.le_refl _⟩, hR, hC⟩
      · right
        obtain ⟨j0, hn⟩ := Classical.not_forall.1 hC
        rw [Classical.not_imp] at hn
        obtain ⟨hj, hne⟩ := hn
        by_cases hlt : rs r (fun i => u i j0) < C j0
        · refine ⟨fun _ => true, fun j => !(j == j0), ?_⟩
          unfold need
          have e1 : rs c (fun j => if !(j == j0) then C j else 0) = rs c C - C j0 + 0 := by
            have := rs_bit hj (f := fun j => if !(j == j0) then C j else 0) (g := C) (fun k _ hne => by simp [hne])
            simpa using this
          have e2 : rs r (fun i => rs c (fun j => gc true (!(j == j0)) (l i j) (u i j))) = rs r (fun i => 0 - u i j0) := by
            refine rs_congr fun i _ => ?_
            rw [← rs_single hj (fun j => 0 - u i j)]
            refine rs_congr fun j _ => ?_
            by_cases e : j = j0 <;> simp [gc, e]
          rw [e1, e2, rs_sub, rs_zero]
          simp only [if_true]
          have hRC' : rs r (fun i => R i) = rs c C := hRC
          omega
        · refine ⟨fun _ => false, fun j => j == j0, ?_⟩
          unfold need
          have e1 : rs c (fun j => if (j == j0) then C j else 0) = C j0 := by
            rw [← rs_single hj C]
            exact rs_congr fun j _ => by simp
          have e2 : rs r (fun i => rs c (fun j => gc false (j == j0) (l i j) (u i j))) = rs r (fun i => u i j0) := by
            refine rs_congr fun i hi => ?_
            rw [← heq i j0 hi hj, ← rs_single hj (fun j => l i j)]
            refine rs_congr fun j _ => ?_
            by_cases e : j = j0 <;> simp [gc, e]
          rw [e1, e2]
          simp only [Bool.false_eq_true, if_false]
          rw [rs_zero]
          omega
    · right
      obtain ⟨i0, hn⟩ := Classical.not_forall.1 hR
      rw [Classical.not_imp] at hn
      obtain ⟨hi, hne⟩ := hn
      by_cases hlt : rs c (fun j => u i0 j) < R i0
      · refine ⟨fun i => i == i0, fun _ => false, ?_⟩
        unfold need
        have e1 : rs r (fun i => if (i == i0) then R i else 0) = R i0 := by
          rw [← rs_single hi R]
          exact rs_congr fun j _ => by simp
        have e2 : rs r (fun i => rs c (fun j => gc (i == i0) false (l i j) (u i j))) = 0 - rs c (fun j => u i0 j) := by
          rw [← rs_single hi (fun i => 0 - rs c (fun j => u i j))]
          refine rs_congr fun i _ => ?_
          by_cases e : i = i0
          · rw [if_pos e, ← rs_zero c, ← rs_sub]
            exact rs_congr fun j _ => by simp [gc, e]
          · rw [if_neg e]
            exact rs_zero' fun j _ => by simp [gc, e]
        rw [e1, e2]
        simp only [Bool.false_eq_true, if_false]
        rw [rs_zero]
        omega
      · refine ⟨fun i => !(i == i0), fun _ => true, ?_⟩
        unfold need
        have e1 : rs r (fun i => if !(i == i0) then R i else 0) = rs r R - R i0 + 0 := by
          have := rs_bit hi (f := fun j => if !(j == i0) then R j else 0) (g := R) (fun k _ hne => by simp [hne])
          simpa using this
        have e2 : rs r (fun i => rs c (fun j => gc (!(i == i0)) true (l i j) (u i j))) = rs c (fun j => u i0 j) := by
          rw [← rs_single hi (fun i => rs c (fun j => u i j))]
          refine rs_congr fun i hi => ?_
          by_cases e : i = i0
          · rw [if_pos e]
            exact rs_congr fun j hj => by rw [← heq i j hi hj]; simp [gc, e]
          · rw [if_neg e]
            exact rs_zero' fun j _ => by simp [gc, e]
        rw [e1, e2]
        simp only [if_true]
        have hRC' : rs r R = rs c (fun i => C i) := hRC
        omega
  | succ n ih =>
    intro l u hb hn
    by_cases hfree : ∃ i j, i < r ∧ j < c ∧ l i j < u i j
    · obtain ⟨i0, j0, hi, hj, hlt⟩ := hfree
      have hbb := hb i0 j0 hi hj
      have hl : l i0 j0 = 0 := by omega
      have hu : u i0 j0 = 1 := by omega
      have f0 := free_less hi hj u 0
      have f1 := free_less hi hj l 1
      rcases ih l (setF u i0 j0 0) (fun i j hi hj => by
          simp only [setF]
          split
          · rename_i h; obtain ⟨rfl, rfl⟩ := h; omega
          · exact hb i j hi hj) (by rw [f0]; omega) with ⟨x, hx, h2, h3⟩ | ⟨A0, B0, hA⟩
      · refine .inl ⟨x, fun i j hi hj => ⟨(hx i j hi hj).1, ?_⟩, h2, h3⟩
        have := (hx i j hi hj).2
        simp only [setF] at this
        split at this
        · rename_i h; obtain ⟨rfl, rfl⟩ := h; omega
        · exact this
      rcases ih (setF l i0 j0 1) u (fun i j hi hj => by
          simp only [setF]
          split
          · rename_i h; obtain ⟨rfl, rfl⟩ := h; omega
          · exact hb i j hi hj) (by rw [f1]; omega) with ⟨x, hx, h2, h3⟩ | ⟨A1, B1, hA1⟩
      · refine .inl ⟨x, fun i j hi hj => ⟨?_, (hx i j hi hj).2⟩, h2, h3⟩
        have := (hx i j hi hj).1
        simp only [setF] at this
        split at this
        · rename_i h; obtain ⟨rfl, rfl⟩ := h; omega
        · exact this
      right
      have hs := need_super hi hj (R := R) (C := C) (fun i j hi hj => (hb i j hi hj).2.1) hl hu A0 B0 A1 B1
      by_cases h : 0 < need r c R C l u (fun i => A0 i || A1 i) (fun j => B0 j || B1 j)
      · exact ⟨_, _, h⟩
      · exact ⟨_, _, show 0 < need r c R C l u (fun i => A0 i && A1 i) (fun j => B0 j && B1 j) by omega⟩
    · have heq : rs r (fun i => rs c (fun j => u i j)) ≤ rs r (fun i => rs c (fun j => l i j)) := rs_le fun i hi => rs_le fun j hj => by
        apply Classical.byContradiction
        intro h
        exact hfree ⟨i, j, hi, hj, by omega⟩
      exact ih l u hb (by omega)
/-- no rectangle needs more than its room where such a matrix exists -/
theorem flow_no {r c : Nat} {R C : Nat → Int} {l u x : Nat → Nat → Int} (hx : ∀ i j, i < r → j < c → l i j ≤ x i j ∧ x i j ≤ u i j) (hR : ∀ i, i < r → rs c (fun j => x i j) = R i) (hC : ∀ j, j < c → rs r (fun i => x i j) = C j) (A B : Nat → Bool) : need r c R C l u A B ≤ 0 := by
  unfold need
  have e1 : rs r (fun i => if A i then R i else 0) = rs r (fun i => rs c (fun j => if A i then x i j else 0)) := rs_congr fun i hi => by
    cases A i
    · simp [rs_zero]
    · simp [hR i hi]
  have e2 : rs c (fun j => if B j then C j else 0) = rs r (fun i => rs c (fun j => if B j then x i j else 0)) := by
    rw [rs_comm]
    exact rs_congr fun j hj => by
      cases B j
      · simp [rs_zero]
      · simp [hC j hj]
  rw [e1, e2, ← rs_sub, ← rs_add]
  refine Int.le_trans (rs_le (g := fun _ => 0) fun i hi => ?_) (by rw [rs_zero]; exact Int.le_refl _)
  rw [← rs_sub, ← rs_add]
  refine Int.le_trans (rs_le (g := fun _ => 0) fun j hj => ?_) (by rw [rs_zero]; exact Int.le_refl _)
  have := hx i j hi hj
  cases A i <;> cases B j <;> simp [gc] <;> omega
end Go.Proofs.Ytliejhmlcdjpcaa

/- Switches, and that they join all images with the same line sums (Ryser). Plain. -/
import Derived.Test.YtliejhmlcdjpcaaGR
namespace Go.Proofs.Ytliejhmlcdjpcaa

/-- a switch: two rows, two columns -/
abbrev Sw := Nat × Nat × Nat × Nat
abbrev Sw.y1 (s : Sw) : Nat := s.1
abbrev Sw.y2 (s : Sw) : Nat := s.2.1
abbrev Sw.x1 (s : Sw) : Nat := s.2.2.1
abbrev Sw.x2 (s : Sw) : Nat := s.2.2.2
def flipC (g : List (List Int)) (y x : Nat) : List (List Int) := setC g y x (1 - at2 g y x)
def applyS (g : List (List Int)) (s : Sw) : List (List Int) := flipC (flipC (flipC (flipC g s.y1 s.x1) s.y1 s.x2) s.y2 s.x1) s.y2 s.x2
/-- the switch fits the image -/
def SwOk (r c : Nat) (g : List (List Int)) (s : Sw) : Prop := s.y1 < s.y2 ∧ s.y2 < r ∧ s.x1 < s.x2 ∧ s.x2 < c ∧ at2 g s.y1 s.x1 = at2 g s.y2 s.x2 ∧ at2 g s.y1 s.x2 = at2 g s.y2 s.x1 ∧ at2 g s.y1 s.x1 ≠ at2 g s.y1 s.x2
instance (r c : Nat) (g : List (List Int)) (s : Sw) : Decidable (SwOk r c g s) := by unfold SwOk; infer_instance
theorem flipC_shape {r c y x : Nat} {g : List (List Int)} (h : Shape r c g) (hy : y < r) : Shape r c (flipC g y x) := by
  have := at2_bits h y x
  exact setC_shape h hy (by omega) (by omega)
theorem flipC_at {r c y x : Nat} {g : List (List Int)} (h : Shape r c g) (hy : y < r) (hx : x < c) (i j : Nat) : at2 (flipC g y x) i j = if i = y ∧ j = x then 1 - at2 g i j else at2 g i j := by
  unfold flipC
  rw [at2_setC h hy hx]
  split
  · rename_i e; rw [e.1, e.2]
  · rfl
theorem applyS_shape {r c : Nat} {g : List (List Int)} {s : Sw} (h : Shape r c g) (hs : SwOk r c g s) : Shape r c (applyS g s) := by
  obtain ⟨h1, h2, h3, h4, -⟩ := hs
  exact flipC_shape (flipC_shape (flipC_shape (flipC_shape h (by omega)) (by omega)) h2) h2
theorem applyS_at {r c : Nat} {g : List (List Int)} {s : Sw} (h : Shape r c g) (hs : SwOk r c g s) (i j : Nat) : at2 (applyS g s) i j = if (i = s.y1 ∨ i = s.y2) ∧ (j = s.x1 ∨ j = s.x2) then 1 - at2 g i j else at2 g i j := by
  obtain ⟨h1, h2, h3, h4, -⟩ := hs
  have a1 := flipC_shape (x := s.x1) h (show s.y1 < r by omega)
  have a2 := flipC_shape (x := s.x2) a1 (show s.y1 < r by omega)
  have a3 := flipC_shape (x := s.x1) a2 h2
  unfold applyS
  rw [flipC_at a3 h2 h4, flipC_at a2 h2 (by omega), flipC_at a1 (by omega) h4, flipC_at h (by omega) (by omega)]
  by_cases e1 : i = s.y1
  · by_cases e2 : j = s.x1
    · rw [if_neg (by omega), if_neg (by omega), if_neg (by omega), if_pos (by omega), if_pos (by omega)]
    · by_cases e3 : j = s.x2
      · rw [if_neg (by omega), if_neg (by omega), if_pos (by omega), if_neg (by omega), if_pos (by omega)]
      · rw [if_neg (by omega), if_neg (by omega), if_neg (by omega), if_neg (by omega), if_neg (by omega)]
  · by_cases e4 : i = s.y2
    · by_cases e2 : j = s.x1
      · rw [if_neg (by omega), if_pos (by omega), if_neg (by omega), if_neg (by omega), if_pos (by omega)]
      · by_cases e3 : j = s.x2
        · rw [if_pos (by omega), if_neg (by omega), if_neg (by omega), if_neg (by omega), if_pos (by omega)]
        · rw [if_neg (by omega), if_neg (by omega), if_neg (by omega), if_neg (by omega), if_neg (by omega)]
    · rw [if_neg (by omega), if_neg (by omega), if_neg (by omega), if_neg (by omega), if_neg (by omega)]
theorem applyS_ok {r c : Nat} {g : List (List Int)} {s : Sw} (h : Shape r c g) (hs : SwOk r c g s) : SwOk r c (applyS g s) s := by
  have hs' := hs
  obtain ⟨h1, h2, h3, h4, h5, h6, h7⟩ := hs
  refine ⟨h1, h2, h3, h4, ?_⟩
  rw [applyS_at h hs', applyS_at h hs', applyS_at h hs', applyS_at h hs', if_pos (by omega), if_pos (by omega), if_pos (by omega), if_pos (by omega)]
  exact ⟨by omega, by omega, by omega⟩
theorem applyS_twice {r c : Nat} {g : List (List Int)} {s : Sw} (h : Shape r c g) (hs : SwOk r c g s) : applyS (applyS g s) s = g := by
  have h1 := applyS_shape h hs
  have h2 := applyS_ok h hs
  refine (applyS_shape h1 h2).ext h fun i j _ _ => ?_
  show at2 _ i j = at2 g i j
  rw [applyS_at h1 h2, applyS_at h hs]
  split <;> omega
theorem rs_two {n a b : Nat} (ha : a < n) (hb : b < n) (hne : a ≠ b) {f g : Nat → Int} (h : ∀ k, k < n → k ≠ a → k ≠ b → f k = g k) (hab : f a + f b = g a + g b) : rs n f = rs n g := by
  have h1 := rs_bit ha (f := f) (g := fun k => if k = a then g a else f k) (fun k _ hk => by rw [if_neg hk])
  have h2 := rs_bit hb (f := fun k => if k = a then g a else f k) (g := g) (fun k hk hkb => by
    try dsimp only
    by_cases e : k = a
    · rw [if_pos e, e]
    · rw [if_neg e]; exact h k hk e hkb)
  try dsimp only at h1 h2
  rw [if_pos rfl] at h1
  rw [if_neg (fun e => hne e.symm)] at h2
  omega
theorem applyS_sums {xs ys : List Int} {r c : Nat} {g : List (List Int)} {s : Sw} (h : Sums xs ys r c g) (hs : SwOk r c g s) : Sums xs ys r c (applyS g s) := by
  obtain ⟨hsh, hr, hc⟩ := sums_iff.1 h
  have hs' := hs
  obtain ⟨h1, h2, h3, h4, h5, h6, h7⟩ := hs
  have b1 := at2_bits hsh s.y1 s.x1
  have b2 := at2_bits hsh s.y1 s.x2
  refine sums_iff.2 ⟨applyS_shape hsh hs', fun i hi => ?_, fun j hj => ?_⟩
  · rw [← hr i hi]
    refine rs_two (show s.x1 < c by omega) h4 (by omega) (fun k _ e1 e2 => by rw [applyS_at hsh hs', if_neg (by omega)]) ?_
    rw [applyS_at hsh hs', applyS_at hsh hs']
    by_cases e1 : i = s.y1
    · rw [if_pos (by omega), if_pos (by omega), e1]; omega
    · by_cases e2 : i = s.y2
      · rw [if_pos (by omega), if_pos (by omega), e2]; omega
      · rw [if_neg (by omega), if_neg (by omega)]
  · rw [← hc j hj]
    refine rs_two (show s.y1 < r by omega) h2 (by omega) (fun k _ e1 e2 => by rw [applyS_at hsh hs', if_neg (by omega)]) ?_
    rw [applyS_at hsh hs', applyS_at hsh hs']
    by_cases e1 : j = s.x1
    · rw [if_pos (by omega), if_pos (by omega), e1]; omega
    · by_cases e2 : j = s.x2
      · rw [if_pos (by omega), if_pos (by omega), e2]; omega
      · rw [if_neg (by omega), if_neg (by omega)]

/-- in how many cells two images differ -/
def distG (r c : Nat) (g h : List (List Int)) : Int := rs r (fun i => rs c (fun j => if at2 g i j = at2 h i j then 0 else 1))
theorem distG_nonneg (r c : Nat) (g h : List (List Int)) : 0 ≤ distG r c g h := rs_nonneg fun i _ => rs_nonneg fun j _ => by split <;> decide
theorem distG_comm (r c : Nat) (g h : List (List Int)) : distG r c g h = distG r c h g := rs_congr fun i _ => rs_congr fun j _ => by
  by_cases e : at2 g i j = at2 h i j
  · rw [if_pos e, if_pos e.symm]
  · rw [if_neg e, if_neg (fun x => e x.symm)]
theorem distG_zero {r c : Nat} {g h : List (List Int)} (hg : Shape r c g) (hh : Shape r c h) (hd : distG r c g h ≤ 0) : g = h := by
  refine hg.ext hh fun i j hi hj => ?_
  show at2 g i j = at2 h i j
  apply Classical.byContradiction
  intro hne
  have h1 := rs_le1 hi (f := fun i => rs c (fun j => if at2 g i j = at2 h i j then (0 : Int) else 1)) (fun i _ => rs_nonneg fun j _ => by split <;> decide)
  have h2 := rs_le1 hj (f := fun j => if at2 g i j = at2 h i j then (0 : Int) else 1) (fun j _ => by split <;> decide)
  try dsimp only at h1 h2
  rw [if_neg hne] at h2
  unfold distG at hd
  omega
theorem exists_max (f : Nat → Int) : ∀ r, 0 < r → ∃ a, a < r ∧ ∀ b, b < r → f b ≤ f a := by
  intro r
  induction r with
  | zero => intro h; omega
  | succ r ih =>
    intro _
    by_cases h0 : r = 0
    · subst h0
      refine ⟨0, by omega, fun b hb => ?_⟩
      have e : b = 0 := by omega
      rw [e]; exact Int.le_refl _
    · obtain ⟨a, ha, hm⟩ := ih (by omega)
      by_cases h : f a ≤ f r
      · exact ⟨r, by omega, fun b hb => by
          by_cases e : b = r
          · rw [e]; exact Int.le_refl _
          · have := hm b (by omega); omega⟩
      · exact ⟨a, by omega, fun b hb => by
          by_cases e : b = r
          · rw [e]; omega
          · exact hm b (by omega)⟩
theorem rs_other {n : Nat} {f g : Nat → Int} (h : rs n f = rs n g) {j : Nat} (hj : j < n) (hlt : f j < g j) : ∃ k, k < n ∧ g k < f k := by
  apply Classical.byContradiction
  intro hn
  have h1 := rs_sub n g f
  have h2 := rs_le1 hj (f := fun k => g k - f k) (fun k hk => by
    apply Classical.byContradiction; intro hlt2; exact hn ⟨k, hk, by omega⟩)
  try dsimp only at h2
  omega
/-- two images with the same sums: four cells that can be switched in one of them, three of which the images differ in -/
theorem ryser_cells {xs ys : List Int} {r c : Nat} {g h : List (List Int)} (hg : Sums xs ys r c g) (hh : Sums xs ys r c h) (hne : g ≠ h) :
    ∃ a b j k, a < r ∧ b < r ∧ j < c ∧ k < c ∧ at2 g a j = 1 ∧ at2 h a j = 0 ∧ at2 g a k = 0 ∧ at2 h a k = 1 ∧ at2 g b j = 0 ∧ at2 h b j = 1 ∧ (at2 g b k = 1 ∨ at2 h b k = 0) := by
  obtain ⟨gs, gr, gc⟩ := sums_iff.1 hg
  obtain ⟨hs, hr, hc⟩ := sums_iff.1 hh
  have bg := at2_bits gs
  have bh := at2_bits hs
  have hN : ∃ i, i < r ∧ ∃ k, k < c ∧ at2 g i k = 0 ∧ at2 h i k = 1 := by
    apply Classical.byContradiction
    intro hn
    apply hne
    refine gs.ext hs fun i j hi hj => ?_
    show at2 g i j = at2 h i j
    apply Classical.byContradiction
    intro hd
    have e : rs c (fun j => at2 g i j) = rs c (fun j => at2 h i j) := (gr i hi).trans (hr i hi).symm
    have b1 := bg i j
    have b2 := bh i j
    by_cases hlt : at2 g i j < at2 h i j
    · exact hn ⟨i, hi, j, hj, by omega, by omega⟩
    · obtain ⟨k, hk, hlt2⟩ := rs_other e.symm hj (by omega : at2 h i j < at2 g i j)
      have b3 := bg i k
      have b4 := bh i k
      exact hn ⟨i, hi, k, hk, by omega, by omega⟩
  obtain ⟨i0, hi0, k0, hk0, hz0, hz1⟩ := hN
  obtain ⟨a, ha, hmax⟩ := exists_max (fun i => rs c (fun k => if at2 g i k = 0 ∧ at2 h i k = 1 then 1 else 0)) r (by omega)
  have hpos : 0 < rs c (fun k => if at2 g a k = 0 ∧ at2 h a k = 1 then (1 : Int) else 0) := by
    have h1 := hmax i0 hi0
    have h2 := rs_le1 hk0 (f := fun k => if at2 g i0 k = 0 ∧ at2 h i0 k = 1 then (1 : Int) else 0) (fun k _ => by split <;> decide)
    try dsimp only at h1 h2
    rw [if_pos ⟨hz0, hz1⟩] at h2
    omega
  obtain ⟨k1, hk1, hp1⟩ := rs_pos hpos
  have hk1z : at2 g a k1 = 0 ∧ at2 h a k1 = 1 := by
    apply Classical.byContradiction
    intro hn
    rw [if_neg hn] at hp1
    omega
  obtain ⟨j, hj, hjlt⟩ := rs_other ((gr a ha).trans (hr a ha).symm) hk1 (show at2 g a k1 < at2 h a k1 by omega)
  have b1 := bg a j
  have b2 := bh a j
  obtain ⟨b, hb, hblt⟩ := rs_other ((hc j hj).trans (gc j hj).symm) ha (show at2 h a j < at2 g a j from hjlt)
  have b3 := bg b j
  have b4 := bh b j
  apply Classical.byContradiction
  intro hn
  have hall : ∀ k, k < c → at2 g a k = 0 ∧ at2 h a k = 1 → at2 g b k = 0 ∧ at2 h b k = 1 := by
    intro k hk hz
    have b5 := bg b k
    have b6 := bh b k
    apply Classical.byContradiction
    intro hn2
    exact hn ⟨a, b, j, k, ha, hb, hj, hk, by omega, by omega, hz.1, hz.2, by omega, by omega, by omega⟩
  have h1 := hmax b hb
  have h2 := rs_le (n := c) (f := fun k => (if at2 g a k = 0 ∧ at2 h a k = 1 then (1 : Int) else 0) + if k = j then 1 else 0) (g := fun k => if at2 g b k = 0 ∧ at2 h b k = 1 then 1 else 0) (fun k hk => by
    try dsimp only
    by_cases e : k = j
    · subst e
      rw [if_neg (by omega), if_pos rfl, if_pos (by omega)]; omega
    · rw [if_neg e]
      split
      · rename_i hz
        rw [if_pos (hall k hk hz)]; omega
      · split <;> omega)
  rw [rs_add, rs_single hj (fun _ => 1)] at h2
  try dsimp only at h1
  omega
/-- the switch of four cells, its rows and columns in order -/
def mkSw (a b j k : Nat) : Sw := (min a b, max a b, min j k, max j k)
theorem mkSw_ok {r c a b j k : Nat} {g : List (List Int)} (ha : a < r) (hb : b < r) (hj : j < c) (hk : k < c) (_ : at2 g a j = 0 ∨ at2 g a j = 1) (h2 : at2 g a k = 1 - at2 g a j) (h3 : at2 g b j = 1 - at2 g a j) (h4 : at2 g b k = at2 g a j) : SwOk r c g (mkSw a b j k) := by
  have hab : a ≠ b := by rintro rfl; omega
  have hjk : j ≠ k := by rintro rfl; omega
  unfold SwOk mkSw
  rcases Nat.lt_or_gt_of_ne hab with h | h <;> rcases Nat.lt_or_gt_of_ne hjk with h' | h'
  · rw [Nat.min_eq_left (by omega), Nat.max_eq_right (by omega), Nat.min_eq_left (by omega), Nat.max_eq_right (by omega)]; simp only [Sw.y1, Sw.y2, Sw.x1, Sw.x2]; omega
  · rw [Nat.min_eq_left (by omega), Nat.max_eq_right (by omega), Nat.min_eq_right (by omega), Nat.max_eq_left (by omega)]; simp only [Sw.y1, Sw.y2, Sw.x1, Sw.x2]; omega
  · rw [Nat.min_eq_right (by omega), Nat.max_eq_left (by omega), Nat.min_eq_left (by omega), Nat.max_eq_right (by omega)]; simp only [Sw.y1, Sw.y2, Sw.x1, Sw.x2]; omega
  · rw [Nat.min_eq_right (by omega), Nat.max_eq_left (by omega), Nat.min_eq_right (by omega), Nat.max_eq_left (by omega)]; simp only [Sw.y1, Sw.y2, Sw.x1, Sw.x2]; omega
theorem mkSw_mem {a b j k i x : Nat} (h : (i = (mkSw a b j k).y1 ∨ i = (mkSw a b j k).y2) ∧ (x = (mkSw a b j k).x1 ∨ x = (mkSw a b j k).x2)) : (i = a ∨ i = b) ∧ (x = j ∨ x = k) := by
  unfold mkSw at h
  simp only [Sw.y1, Sw.y2, Sw.x1, Sw.x2] at h
  omega
theorem mkSw_mem' {a b j k i x : Nat} (h : (i = a ∨ i = b) ∧ (x = j ∨ x = k)) : (i = (mkSw a b j k).y1 ∨ i = (mkSw a b j k).y2) ∧ (x = (mkSw a b j k).x1 ∨ x = (mkSw a b j k).x2) := by
  unfold mkSw
  simp only [Sw.y1, Sw.y2, Sw.x1, Sw.x2]
  omega
/-- the switch of four such cells brings the images nearer to each other -/
theorem dist_less {r c a b j k : Nat} {g h : List (List Int)} (hg : Shape r c g) (hh : Shape r c h) (ha : a < r) (hb : b < r) (hj : j < c) (hk : k < c) (h1 : at2 g a j = 0 ∨ at2 g a j = 1) (h2 : at2 g a k = 1 - at2 g a j) (h3 : at2 g b j = 1 - at2 g a j) (h4 : at2 g b k = at2 g a j)
    (e1 : at2 h a j = 1 - at2 g a j) (e2 : at2 h a k = at2 g a j) (e3 : at2 h b j = at2 g a j) : distG r c (applyS g (mkSw a b j k)) h < distG r c g h := by
  have hok := mkSw_ok (r := r) (c := c) ha hb hj hk h1 h2 h3 h4
  have hab : a ≠ b := by rintro rfl; omega
  have hjk : j ≠ k := by rintro rfl; omega
  have key := rs_le (n := r) (f := fun i => rs c (fun x => if at2 (applyS g (mkSw a b j k)) i x = at2 h i x then (0 : Int) else 1) + rs c (fun x => if i = a ∧ x = j then (1 : Int) else 0) + rs c (fun x => if i = a ∧ x = k then (1 : Int) else 0))
    (g := fun i => rs c (fun x => if at2 g i x = at2 h i x then (0 : Int) else 1) + rs c (fun x => if i = b ∧ x = k then (1 : Int) else 0)) (fun i hi => by
      try dsimp only
      rw [← rs_add, ← rs_add, ← rs_add]
      refine rs_le fun x hx => ?_
      rw [applyS_at hg hok]
      by_cases hm : (i = a ∨ i = b) ∧ (x = j ∨ x = k)
      · rw [if_pos (mkSw_mem' hm)]
        have b4 := at2_bits hh b k
        have b5 : at2 h b k = 0 ∨ at2 h b k = 1 := by omega
        rcases hm with ⟨hi' | hi', hx' | hx'⟩
        · rw [hi', hx', if_pos (show 1 - at2 g a j = at2 h a j by omega), if_neg (show ¬ at2 g a j = at2 h a j by omega), if_pos (show a = a ∧ j = j from ⟨rfl, rfl⟩), if_neg (show ¬ (a = a ∧ j = k) by omega), if_neg (show ¬ (a = b ∧ j = k) by omega)]; decide
        · rw [hi', hx', if_pos (show 1 - at2 g a k = at2 h a k by omega), if_neg (show ¬ at2 g a k = at2 h a k by omega), if_pos (show a = a ∧ k = k from ⟨rfl, rfl⟩), if_neg (show ¬ (a = a ∧ k = j) by omega), if_neg (show ¬ (a = b ∧ k = k) by omega)]; decide
        · rw [hi', hx', if_pos (show 1 - at2 g b j = at2 h b j by omega), if_neg (show ¬ at2 g b j = at2 h b j by omega), if_neg (show ¬ (b = a ∧ j = j) by omega), if_neg (show ¬ (b = a ∧ j = k) by omega), if_neg (show ¬ (b = b ∧ j = k) by omega)]; decide
        · rw [hi', hx', if_neg (show ¬ (b = a ∧ k = j) by omega), if_neg (show ¬ (b = a ∧ k = k) by omega), if_pos (show b = b ∧ k = k from ⟨rfl, rfl⟩)]
          by_cases e : at2 g b k = at2 h b k
          · rw [if_pos e, if_neg (by omega)]; decide
          · rw [if_neg e, if_pos (by omega)]; decide
      · rw [if_neg (fun h => hm (mkSw_mem h))]
        have n1 : ¬ (i = a ∧ x = j) := fun h => hm ⟨.inl h.1, .inl h.2⟩
        have n2 : ¬ (i = a ∧ x = k) := fun h => hm ⟨.inl h.1, .inr h.2⟩
        have n3 : ¬ (i = b ∧ x = k) := fun h => hm ⟨.inr h.1, .inr h.2⟩
        rw [if_neg n1, if_neg n2, if_neg n3]; omega)
  rw [rs_add, rs_add, rs_add, rs_one ha hj, rs_one ha hk, rs_one hb hk] at key
  unfold distG
  omega
/-- two images with the same sums that differ: a switch in one of them brings them nearer -/
theorem ryser_step {xs ys : List Int} {r c : Nat} {g h : List (List Int)} (hg : Sums xs ys r c g) (hh : Sums xs ys r c h) (hne : g ≠ h) :
    (∃ s, SwOk r c g s ∧ distG r c (applyS g s) h < distG r c g h) ∨ ∃ s, SwOk r c h s ∧ distG r c g (applyS h s) < distG r c g h := by
  obtain ⟨a, b, j, k, ha, hb, hj, hk, h1, h2, h3, h4, h5, h6, h7⟩ := ryser_cells hg hh hne
  have gs := hg.1
  have hs := hh.1
  by_cases h8 : at2 g b k = 1
  · exact .inl ⟨_, mkSw_ok ha hb hj hk (.inr h1) (by omega) (by omega) (by omega), dist_less gs hs ha hb hj hk (.inr h1) (by omega) (by omega) (by omega) (by omega) (by omega) (by omega)⟩
  · right
    have h9 : at2 h b k = 0 := by have := at2_bits hs b k; omega
    refine ⟨_, mkSw_ok ha hb hj hk (.inl h2) (by omega) (by omega) (by omega), ?_⟩
    have := dist_less hs gs ha hb hj hk (.inl h2) (by omega) (by omega) (by omega) (by omega) (by omega) (by omega)
    rw [distG_comm r c h g, distG_comm r c _ g] at this
    exact this
/-- switches lead from one image to another -/
inductive Join (r c : Nat) : List (List Int) → List (List Int) → Prop
  | refl (g) : Join r c g g
  | step {g h : List (List Int)} {s : Sw} : Join r c g h → SwOk r c h s → Join r c g (applyS h s)
theorem Join.trans {r c : Nat} {a b d : List (List Int)} (h1 : Join r c a b) (h2 : Join r c b d) : Join r c a d := by
  induction h2 with
  | refl => exact h1
  | step _ hs ih => exact .step ih hs
theorem Join.sums {r c : Nat} {xs ys : List Int} {a b : List (List Int)} (h1 : Join r c a b) (h : Sums xs ys r c a) : Sums xs ys r c b := by
  induction h1 with
  | refl => exact h
  | step _ hs ih => exact applyS_sums ih hs
theorem Join.shape {r c : Nat} {a b : List (List Int)} (h1 : Join r c a b) (h : Shape r c a) : Shape r c b := by
  induction h1 with
  | refl => exact h
  | step _ hs ih => exact applyS_shape ih hs
theorem Join.symm {r c : Nat} {a b : List (List Int)} (h1 : Join r c a b) (h : Shape r c a) : Join r c b a := by
  induction h1 with
  | refl => exact .refl _
  | @step b s h2 hs ih =>
    have hb := h2.shape h
    have h3 : Join r c (applyS b s) b := by
      have := Join.step (.refl (applyS b s)) (applyS_ok hb hs)
      rwa [applyS_twice hb hs] at this
    exact h3.trans ih
theorem ryser {xs ys : List Int} {r c : Nat} : ∀ (n : Nat) {g h : List (List Int)}, Sums xs ys r c g → Sums xs ys r c h → distG r c g h ≤ n → Join r c g h := by
  intro n
  induction n with
  | zero => intro g h hg hh hd; rw [distG_zero hg.1 hh.1 hd]; exact .refl _
  | succ n ih =>
    intro g h hg hh hd
    by_cases hne : g = h
    · rw [hne]; exact .refl _
    rcases ryser_step hg hh hne with ⟨s, hs, hlt⟩ | ⟨s, hs, hlt⟩
    · exact (Join.step (.refl g) hs).trans (ih (applyS_sums hg hs) hh (by omega))
    · have h1 := ih hg (applyS_sums hh hs) (by omega)
      have h2 := Join.step (.refl h) hs
      exact h1.trans (h2.symm hh.1)
theorem ryser_join {xs ys : List Int} {r c : Nat} {g h : List (List Int)} (hg : Sums xs ys r c g) (hh : Sums xs ys r c h) : Join r c g h := ryser _ hg hh (Int.self_le_toNat _)
theorem Join.first {r c : Nat} {g h : List (List Int)} (hj : Join r c g h) (hne : g ≠ h) : ∃ s, SwOk r c g s := by
  induction hj with
  | refl => exact absurd rfl hne
  | @step b s h2 hs ih =>
    by_cases e : g = b
    · subst e; exact ⟨s, hs⟩
    · exact ih e
/-- an image that is not the only one with its sums has a switch, and only such a one -/
theorem unique_iff {xs ys : List Int} {r c : Nat} {g : List (List Int)} (hg : Sums xs ys r c g) : (∀ h, Sums xs ys r c h → h = g) ↔ ∀ s, ¬ SwOk r c g s := by
  constructor
  · intro hu s hs
    have h1 := hu _ (applyS_sums hg hs)
    have h2 := applyS_at hg.1 hs s.y1 s.x1
    rw [h1, if_pos ⟨.inl rfl, .inl rfl⟩] at h2
    omega
  · intro hn h hh
    apply Classical.byContradiction
    intro hne
    obtain ⟨s, hs⟩ := (ryser_join hg hh).first (fun e => hne e.symm)
    exact hn s hs
end Go.Proofs.Ytliejhmlcdjpcaa

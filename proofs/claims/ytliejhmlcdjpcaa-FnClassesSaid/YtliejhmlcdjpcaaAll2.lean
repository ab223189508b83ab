/- All images with given sums, listed row by row; images turned. Plain. -/
import Derived.Test.YtliejhmlcdjpcaaRyser
namespace Go.Proofs.Ytliejhmlcdjpcaa

/-! ### lists in order -/
theorem GLt.irrefl {r c : Nat} {a : List (List Int)} : ¬ GLt r c a a := by rintro ⟨y, x, -, -, -, h⟩; omega
theorem GLt.asymm {r c : Nat} {a b : List (List Int)} (h : GLt r c a b) (k : GLt r c b a) : False := by
  obtain ⟨y, x, h1, h2, h3, h4⟩ := h
  obtain ⟨y', x', k1, k2, k3, k4⟩ := k
  by_cases e : y < y' ∨ y = y' ∧ x < x'
  · have := k3 y x e; omega
  · by_cases e2 : y' < y ∨ y' = y ∧ x' < x
    · have := h3 y' x' e2; omega
    · have e3 : y = y' ∧ x = x' := by omega
      obtain ⟨rfl, rfl⟩ := e3
      omega
theorem sorted_eq {α : Type} {R : α → α → Prop} (irr : ∀ a, ¬ R a a) (asy : ∀ a b, R a b → R b a → False) {l1 l2 : List α} (h1 : l1.Pairwise R) (h2 : l2.Pairwise R) (hm : ∀ x, x ∈ l1 ↔ x ∈ l2) : l1 = l2 := by
  induction l1 generalizing l2 with
  | nil =>
    cases l2 with
    | nil => rfl
    | cons b l2 => exact absurd ((hm b).2 (by simp)) (by simp)
  | cons a l1 ih =>
    cases l2 with
    | nil => exact absurd ((hm a).1 (by simp)) (by simp)
    | cons b l2 =>
      rw [List.pairwise_cons] at h1 h2
      have e : a = b := by
        rcases List.mem_cons.1 ((hm a).1 (by simp)) with e | e
        · exact e
        · rcases List.mem_cons.1 ((hm b).2 (by simp)) with e' | e'
          · exact e'.symm
          · exact (asy _ _ (h1.1 b e') (h2.1 a e)).elim
      subst e
      rw [ih h1.2 h2.2 fun x => ?_]
      constructor
      · intro hx
        rcases List.mem_cons.1 ((hm x).1 (List.mem_cons_of_mem _ hx)) with e | e
        · subst e; exact absurd (h1.1 x hx) (irr _)
        · exact e
      · intro hx
        rcases List.mem_cons.1 ((hm x).2 (List.mem_cons_of_mem _ hx)) with e | e
        · subst e; exact absurd (h2.1 x hx) (irr _)
        · exact e
theorem nodup_len {α β : Type} [DecidableEq β] (f : α → β) : ∀ (l1 : List α) (l2 : List β), l1.Pairwise (fun a b => f a ≠ f b) → (∀ x ∈ l1, f x ∈ l2) → l1.length ≤ l2.length
  | [], _, _, _ => by simp
  | a :: l1, l2, h, hm => by
    rw [List.pairwise_cons] at h
    have h1 := hm a (by simp)
    have h2 := nodup_len f l1 (l2.erase (f a)) h.2 fun x hx => by
      have := hm x (List.mem_cons_of_mem _ hx)
      exact (List.mem_erase_of_ne (fun e => h.1 x hx e.symm)).2 this
    rw [List.length_erase_of_mem h1] at h2
    have := List.length_pos_of_mem h1
    rw [List.length_cons]; omega

/-! ### images turned -/
theorem at2_tr {m : List (List Int)} {r c : Nat} (h : Shape r c m) (h1 : 1 ≤ r) {i j : Nat} (hi : i < c) (hj : j < r) : at2 (tr m) i j = at2 m j i := by
  unfold at2
  rw [gD_some (tr_at h h1 hi)]
  exact gD_some (by rw [List.getElem?_map, List.getElem?_range hj]; rfl)
theorem sums_tr {xs ys : List Int} {r c : Nat} {g : List (List Int)} (h1 : 1 ≤ r) (h : Sums xs ys r c g) : Sums ys xs c r (tr g) := by
  obtain ⟨hs, hr, hc⟩ := sums_iff.1 h
  refine sums_iff.2 ⟨hs.tr h1, fun i hi => ?_, fun j hj => ?_⟩
  · rw [← hc i hi]; exact rs_congr fun j hj => at2_tr hs h1 hi hj
  · rw [← hr j hj]; exact rs_congr fun i hi => at2_tr hs h1 hi hj
theorem tr_back {m : List (List Int)} {r c : Nat} (h : Shape r c m) (h1 : 1 ≤ r) (h2 : 1 ≤ c) : tr (tr m) = m := by
  refine ((h.tr h1).tr h2).ext h fun i j hi hj => ?_
  show at2 _ i j = at2 m i j
  rw [at2_tr (h.tr h1) h2 hi hj, at2_tr h h1 hj hi]
theorem sumsOk_comm (xs ys : List Int) : sumsOk xs ys = sumsOk ys xs := by
  rw [Bool.eq_iff_iff]
  simp only [sumsOk, Bool.and_eq_true, decide_eq_true_eq]
  constructor <;> (rintro ⟨⟨⟨⟨a, b⟩, d⟩, e⟩, f⟩; exact ⟨⟨⟨⟨b, a⟩, e⟩, d⟩, f.symm⟩)
theorem allImgs_nodup {xs ys : List Int} (h : sumsOk xs ys = true) : (allImgs xs ys).Pairwise (fun a b => a ≠ b) :=
  (allImgs_sorted h).imp fun hlt e => by subst e; exact GLt.irrefl hlt
theorem pairwise_mem {α : Type} {R : α → α → Prop} {l : List α} (h : l.Pairwise R) : l.Pairwise (fun a b => a ∈ l ∧ b ∈ l ∧ R a b) := by
  induction l with
  | nil => exact List.Pairwise.nil
  | cons a l ih =>
    rw [List.pairwise_cons] at h ⊢
    exact ⟨fun b hb => ⟨by simp, List.mem_cons_of_mem _ hb, h.1 b hb⟩, (ih h.2).imp fun hx => ⟨List.mem_cons_of_mem _ hx.1, List.mem_cons_of_mem _ hx.2.1, hx.2.2⟩⟩
theorem allImgs_tr_le {xs ys : List Int} (h : sumsOk xs ys = true) : (allImgs xs ys).length ≤ (allImgs ys xs).length := by
  obtain ⟨h1, h2, h3, h4, -⟩ := sumsOk_bd h
  have h' : sumsOk ys xs = true := by rw [sumsOk_comm]; exact h
  refine nodup_len tr _ _ ((pairwise_mem (allImgs_nodup h)).imp fun {a b} hab e => ?_) fun x hx => ?_
  · have ha := ((allImgs_mem h a).1 hab.1).1
    have hb := ((allImgs_mem h b).1 hab.2.1).1
    exact hab.2.2 (by rw [← tr_back ha h1 h3, e, tr_back hb h1 h3])
  · exact (allImgs_mem h' _).2 (sums_tr h1 ((allImgs_mem h x).1 hx))
theorem allImgs_tr_len {xs ys : List Int} (h : sumsOk xs ys = true) : (allImgs ys xs).length = (allImgs xs ys).length :=
  Nat.le_antisymm (allImgs_tr_le (by rw [sumsOk_comm]; exact h)) (allImgs_tr_le h)

/-! ### when an image exists -/
instance (xs ys : List Int) (k : Nat) : Decidable (tooMuch xs ys k) := by unfold tooMuch; infer_instance
def worstK (xs ys : List Int) : Nat := match (List.range ys.length).find? (fun i => decide (tooMuch xs ys (i + 1))) with
  | some i => i + 1
  | none => 0
def worst (xs ys : List Int) : Nat := if sumsOk xs ys then worstK xs ys else 0
def existsB (xs ys : List Int) : Bool := sumsOk xs ys && decide (worst xs ys = 0)
theorem worstK_zero {xs ys : List Int} : worstK xs ys = 0 ↔ ∀ k, 1 ≤ k → k ≤ ys.length → ¬ tooMuch xs ys k := by
  unfold worstK
  split
  · rename_i i hi
    have h1 := List.find?_some hi
    have h2 := List.mem_of_find?_eq_some hi
    rw [List.mem_range] at h2
    exact ⟨fun h => by omega, fun h => absurd (by simpa using h1) (h (i + 1) (by omega) (by omega))⟩
  · rename_i hi
    refine ⟨fun _ k h1 h2 => ?_, fun _ => rfl⟩
    have := List.find?_eq_none.1 hi (k - 1) (List.mem_range.2 (by omega))
    rw [show k - 1 + 1 = k by omega] at this
    simpa using this
theorem worstK_pos {xs ys : List Int} (h : worstK xs ys ≠ 0) : 1 ≤ worstK xs ys ∧ worstK xs ys ≤ ys.length ∧ tooMuch xs ys (worstK xs ys) := by
  unfold worstK at h ⊢
  split
  · rename_i i hi
    have h1 := List.find?_some hi
    have h2 := List.mem_of_find?_eq_some hi
    rw [List.mem_range] at h2
    exact ⟨by omega, by omega, by simpa using h1⟩
  · rename_i hi
    rw [hi] at h
    exact absurd rfl h
theorem existsB_iff {xs ys : List Int} (h : sumsOk xs ys = true) : existsB xs ys = true ↔ ∃ g, Sums xs ys xs.length ys.length g := by
  obtain ⟨h1, h2, h3, h4, h5, h6, h7⟩ := sumsOk_bd h
  unfold existsB worst
  rw [h]
  simp only [if_true, Bool.true_and, decide_eq_true_eq]
  rw [worstK_zero]
  exact ⟨fun hk => gr_yes h7 hk fun i => (h5 i).1, fun ⟨g, hg⟩ k _ hk => gr_no hg hk⟩
theorem existsB_imgs {xs ys : List Int} (h : sumsOk xs ys = true) : existsB xs ys = true ↔ allImgs xs ys ≠ [] := by
  rw [existsB_iff h]
  constructor
  · rintro ⟨g, hg⟩ e
    have := (allImgs_mem h g).2 hg
    rw [e] at this; cases this
  · intro hne
    obtain ⟨g, hg⟩ := List.exists_mem_of_ne_nil _ hne
    exact ⟨g, (allImgs_mem h g).1 hg⟩
theorem existsB_ok {xs ys : List Int} (h : existsB xs ys = true) : sumsOk xs ys = true := by
  unfold existsB at h
  rw [Bool.and_eq_true] at h
  exact h.1

/-! ### the list row by row -/
/-- all rows of n bits with the sum k, in order -/
def bitRows : Nat → Int → List (List Int)
  | 0, k => if k = 0 then [[]] else []
  | n + 1, k => (if 0 ≤ k then (bitRows n k).map (0 :: ·) else []) ++ (if 1 ≤ k then (bitRows n (k - 1)).map (1 :: ·) else [])
theorem bitRows_mem {n : Nat} : ∀ {k : Int} {l : List Int}, l ∈ bitRows n k ↔ l.length = n ∧ (∀ x ∈ l, 0 ≤ x ∧ x ≤ 1) ∧ sumL l = k := by
  induction n with
  | zero =>
    intro k l
    unfold bitRows
    constructor
    · intro h
      split at h
      · rename_i hk
        rw [List.mem_singleton] at h
        subst h; subst hk
        exact ⟨rfl, by simp, rfl⟩
      · cases h
    · rintro ⟨h1, -, h3⟩
      have : l = [] := List.eq_nil_of_length_eq_zero h1
      subst this
      rw [eSum_nil] at h3
      rw [if_pos h3.symm]; simp
  | succ n ih =>
    intro k l
    unfold bitRows
    rw [List.mem_append]
    constructor
    · rintro (h | h)
      · split at h
        · obtain ⟨t, ht, rfl⟩ := List.mem_map.1 h
          obtain ⟨h1, h2, h3⟩ := ih.1 ht
          refine ⟨by simp [h1], fun x hx => ?_, by rw [eSum_cons]; omega⟩
          rcases List.mem_cons.1 hx with rfl | hx
          · omega
          · exact h2 x hx
        · cases h
      · split at h
        · obtain ⟨t, ht, rfl⟩ := List.mem_map.1 h
          obtain ⟨h1, h2, h3⟩ := ih.1 ht
          refine ⟨by simp [h1], fun x hx => ?_, by rw [eSum_cons]; omega⟩
          rcases List.mem_cons.1 hx with rfl | hx
          · omega
          · exact h2 x hx
        · cases h
    · rintro ⟨h1, h2, h3⟩
      cases l with
      | nil => simp at h1
      | cons a l =>
        have ha := h2 a (by simp)
        have hl : ∀ x ∈ l, 0 ≤ x ∧ x ≤ 1 := fun x hx => h2 x (List.mem_cons_of_mem _ hx)
        rw [eSum_cons] at h3
        have hb := eSum_bits (l := l) fun i hi => by rw [gD_some (List.getElem?_eq_getElem hi)]; exact hl _ (List.getElem_mem hi)
        have h1 : l.length = n := by simpa using h1
        by_cases e : a = 0
        · left
          rw [if_pos (by omega)]
          exact List.mem_map.2 ⟨l, ih.2 ⟨h1, hl, by omega⟩, by rw [e]⟩
        · right
          rw [if_pos (by omega)]
          exact List.mem_map.2 ⟨l, ih.2 ⟨h1, hl, by omega⟩, by rw [show a = 1 by omega]⟩
/-- lists in order -/
def LLt (a b : List Int) : Prop := ∃ x, x < a.length ∧ (∀ j, j < x → a.getD j 0 = b.getD j 0) ∧ a.getD x 0 < b.getD x 0
theorem LLt.cons {a b : List Int} (z : Int) (h : LLt a b) : LLt (z :: a) (z :: b) := by
  obtain ⟨x, h1, h2, h3⟩ := h
  refine ⟨x + 1, by simp; omega, fun j hj => ?_, by simpa using h3⟩
  cases j with
  | zero => simp
  | succ j => have := h2 j (by omega); simpa using this
theorem bitRows_sorted {n : Nat} : ∀ {k : Int}, (bitRows n k).Pairwise LLt := by
  induction n with
  | zero => intro k; unfold bitRows; split <;> simp
  | succ n ih =>
    intro k
    unfold bitRows
    rw [List.pairwise_append]
    refine ⟨?_, ?_, ?_⟩
    · split
      · exact List.pairwise_map.2 (ih.imp fun h => h.cons 0)
      · exact List.Pairwise.nil
    · split
      · exact List.pairwise_map.2 (ih.imp fun h => h.cons 1)
      · exact List.Pairwise.nil
    · intro a ha b hb
      split at ha
      · split at hb
        · obtain ⟨a', -, rfl⟩ := List.mem_map.1 ha
          obtain ⟨b', -, rfl⟩ := List.mem_map.1 hb
          exact ⟨0, by simp, fun j hj => by omega, by simp⟩
        · cases hb
      · cases ha
/-- what a row leaves of the columns -/
def leftOver (cols row : List Int) : List Int := List.zipWith (fun k x => k - x) cols row
def rowFits (cols row : List Int) : Bool := (List.zipWith (fun k x => decide (x ≤ k)) cols row).all id
def goesOn (rows left : List Int) : Bool := if rows.length = 0 then decide (sumL left = 0) else existsB rows left
def rowsAll : List Int → List Int → List (List (List Int))
  | [], _ => [[]]
  | r :: rows, cols => (bitRows cols.length r).flatMap fun row => if rowFits cols row && goesOn rows (leftOver cols row) then (rowsAll rows (leftOver cols row)).map (row :: ·) else []
theorem leftOver_len {cols row : List Int} (h : row.length = cols.length) : (leftOver cols row).length = cols.length := by
  unfold leftOver; rw [List.length_zipWith, h, Nat.min_self]
theorem leftOver_at {cols row : List Int} (h : row.length = cols.length) {j : Nat} (hj : j < cols.length) : (leftOver cols row).getD j 0 = cols.getD j 0 - row.getD j 0 := by
  unfold leftOver
  rw [gD_some (x := cols.getD j 0 - row.getD j 0)]
  rw [List.getElem?_zipWith, gD_at 0 hj, gD_at 0 (by omega : j < row.length)]
theorem rowFits_iff {cols row : List Int} (h : row.length = cols.length) : rowFits cols row = true ↔ ∀ j, j < cols.length → 0 ≤ (leftOver cols row).getD j 0 := by
  unfold rowFits
  rw [List.all_eq_true]
  constructor
  · intro hx j hj
    rw [leftOver_at h hj]
    have := hx (decide (row.getD j 0 ≤ cols.getD j 0)) (List.mem_iff_getElem?.2 ⟨j, by rw [List.getElem?_zipWith, gD_at 0 hj, gD_at 0 (by omega : j < row.length)]⟩)
    simp only [id, decide_eq_true_eq] at this
    omega
  · intro hx b hb
    obtain ⟨j, hj⟩ := List.getElem?_of_mem hb
    have hjl := (List.getElem?_eq_some_iff.1 hj).1
    rw [List.length_zipWith] at hjl
    have hj2 : j < cols.length := by omega
    rw [List.getElem?_zipWith, gD_at 0 hj2, gD_at 0 (by omega : j < row.length)] at hj
    have := hx j hj2
    rw [leftOver_at h hj2] at this
    simp only [Option.some.injEq] at hj
    subst hj
    simp only [id, decide_eq_true_eq]
    omega
theorem sums_cons {r : Int} {rows cols row : List Int} {g : List (List Int)} (hl : row.length = cols.length) : Sums (r :: rows) cols (rows.length + 1) cols.length (row :: g) ↔ ((∀ x ∈ row, 0 ≤ x ∧ x ≤ 1) ∧ sumL row = r) ∧ Sums rows (leftOver cols row) rows.length cols.length g := by
  have hcol : ∀ j, colS (row :: g) j = row.getD j 0 + colS g j := fun j => by unfold colS; rw [List.map_cons, eSum_cons]
  constructor
  · rintro ⟨⟨h1, h2⟩, h3, h4⟩
    refine ⟨⟨(h2 row (by simp)).2, by have := h3 0 (by omega); simpa using this⟩, ⟨by simpa using h1, fun q hq => h2 q (List.mem_cons_of_mem _ hq)⟩, fun i hi => by have := h3 (i + 1) (by omega); simpa using this, fun j hj => ?_⟩
    rw [leftOver_at hl hj]
    have := h4 j hj
    rw [hcol] at this; omega
  · rintro ⟨⟨h1, h2⟩, ⟨h3, h4⟩, h5, h6⟩
    refine ⟨⟨by simp [h3], fun q hq => ?_⟩, fun i hi => ?_, fun j hj => ?_⟩
    · rcases List.mem_cons.1 hq with rfl | hq
      · exact ⟨hl, h1⟩
      · exact h4 q hq
    · cases i with
      | zero => simpa using h2
      | succ i => have := h5 i (by omega); simpa using this
    · rw [hcol, h6 j hj, leftOver_at hl hj]; omega
/-- sums of an image are as they should be -/
theorem sumsOk_of {xs ys : List Int} {g : List (List Int)} (h1 : 1 ≤ xs.length) (h2 : xs.length ≤ 5) (h3 : 1 ≤ ys.length) (h4 : ys.length ≤ 5) (hg : Sums xs ys xs.length ys.length g) : sumsOk xs ys = true := by
  obtain ⟨hs, hr, hc⟩ := sums_iff.1 hg
  have key : ∀ (l : List Int) (n : Nat), (∀ i, i < l.length → 0 ≤ l.getD i 0 ∧ l.getD i 0 ≤ n) → l.all (inR 0 n) = true := by
    intro l n hl
    rw [List.all_eq_true]
    intro x hx
    obtain ⟨i, hi, rfl⟩ := List.getElem_of_mem hx
    have := hl i hi
    rw [gD_some (List.getElem?_eq_getElem hi)] at this
    exact inR_t this.1 this.2
  have e : sumL xs = sumL ys := by
    rw [sumL_rs, sumL_rs, ← rs_congr hr, ← rs_congr hc]; exact rs_comm _ _ _
  simp only [sumsOk, Bool.and_eq_true, decide_eq_true_eq, inR_iff]
  refine ⟨⟨⟨⟨⟨by omega, by omega⟩, by omega, by omega⟩, key _ _ fun i hi => ?_⟩, key _ _ fun j hj => ?_⟩, e⟩
  · rw [← hr i hi]
    refine ⟨rs_nonneg fun j _ => (at2_bits hs i j).1, ?_⟩
    have := rs_le (n := ys.length) (f := fun j => at2 g i j) (g := fun _ => 1) fun j _ => (at2_bits hs i j).2
    rw [rs_const] at this; omega
  · rw [← hc j hj]
    refine ⟨rs_nonneg fun i _ => (at2_bits hs i j).1, ?_⟩
    have := rs_le (n := xs.length) (f := fun i => at2 g i j) (g := fun _ => 1) fun i _ => (at2_bits hs i j).2
    rw [rs_const] at this; omega
theorem rowsAll_mem : ∀ {rows cols : List Int} {g : List (List Int)}, rows.length ≤ 5 → 1 ≤ cols.length → cols.length ≤ 5 → (rows = [] → ∀ j, j < cols.length → cols.getD j 0 = 0) → (g ∈ rowsAll rows cols ↔ Sums rows cols rows.length cols.length g)
  | [], cols, g, _, _, _, h0 => by
    unfold rowsAll
    rw [List.mem_singleton]
    constructor
    · rintro rfl
      exact ⟨⟨rfl, by simp⟩, fun i hi => by simp at hi, fun j hj => by rw [h0 rfl j hj]; rfl⟩
    · rintro ⟨⟨h1, -⟩, -⟩
      exact List.eq_nil_of_length_eq_zero h1
  | r :: rows, cols, g, hr, hc1, hc5, _ => by
    unfold rowsAll
    rw [List.mem_flatMap]
    have hr' : rows.length ≤ 4 := by simpa using hr
    constructor
    · rintro ⟨row, hrow, hg⟩
      obtain ⟨hl, hb, hs⟩ := bitRows_mem.1 hrow
      split at hg
      · rename_i hcnd
        rw [Bool.and_eq_true] at hcnd
        obtain ⟨g', hg', rfl⟩ := List.mem_map.1 hg
        have hll := leftOver_len hl
        have hfit := (rowFits_iff hl).1 hcnd.1
        have := (rowsAll_mem (rows := rows) (cols := leftOver cols row) (by omega) (by omega) (by omega) (fun e j hj => by
          have h2 := hcnd.2
          unfold goesOn at h2
          rw [e] at h2
          simp only [List.length_nil, if_true, decide_eq_true_eq] at h2
          rw [sumL_rs] at h2
          have h3 := rs_le1 hj (f := fun i => (leftOver cols row).getD i 0) (fun i hi => hfit i (by omega))
          have h4 := hfit j (by omega)
          omega)).1 hg'
        rw [hll] at this
        exact (sums_cons hl).2 ⟨⟨hb, hs⟩, this⟩
      · cases hg
    · intro hg
      cases g with
      | nil => exact absurd hg.1.1 (by simp)
      | cons row g =>
        have hl := (hg.1.2 row (by simp)).1
        obtain ⟨⟨hb, hs⟩, hg'⟩ := (sums_cons hl).1 hg
        have hll := leftOver_len hl
        refine ⟨row, bitRows_mem.2 ⟨hl, hb, hs⟩, ?_⟩
        have hnn : ∀ j, j < cols.length → 0 ≤ (leftOver cols row).getD j 0 := fun j hj => by
          rw [← (sums_iff.1 hg').2.2 j hj]
          exact rs_nonneg fun i _ => (at2_bits hg'.1 i j).1
        have hzero : rows = [] → ∀ j, j < (leftOver cols row).length → (leftOver cols row).getD j 0 = 0 := fun e j hj => by
          have := (sums_iff.1 hg').2.2 j (by omega)
          rw [e] at this
          exact this.symm
        rw [← hll] at hg'
        have hgo : goesOn rows (leftOver cols row) = true := by
          unfold goesOn
          split
          · rename_i e
            have e' : rows = [] := List.eq_nil_of_length_eq_zero e
            rw [decide_eq_true_eq, sumL_rs]
            exact rs_zero' fun j hj => hzero e' j hj
          · rename_i e
            exact (existsB_iff (sumsOk_of (by omega) (by omega) (by omega) (by omega) hg')).2 ⟨g, hg'⟩
        rw [if_pos (by rw [Bool.and_eq_true]; exact ⟨(rowFits_iff hl).2 hnn, hgo⟩)]
        exact List.mem_map.2 ⟨g, (rowsAll_mem (by omega) (by omega) (by omega) hzero).2 hg', rfl⟩
theorem GLt.cons {r c : Nat} {a b : List (List Int)} (row : List Int) (h : GLt r c a b) : GLt (r + 1) c (row :: a) (row :: b) := by
  obtain ⟨y, x, h1, h2, h3, h4⟩ := h
  refine ⟨y + 1, x, by omega, h2, fun i j hij => ?_, by simpa [at2] using h4⟩
  cases i with
  | zero => rfl
  | succ i => have := h3 i j (by omega); simpa [at2] using this
theorem pairwise_flatMap' {α β : Type} {R : β → β → Prop} {Q : α → α → Prop} (f : α → List β) : ∀ (l : List α), l.Pairwise Q → (∀ a ∈ l, (f a).Pairwise R) → (∀ a ∈ l, ∀ b ∈ l, Q a b → ∀ x ∈ f a, ∀ y ∈ f b, R x y) → (l.flatMap f).Pairwise R
  | [], _, _, _ => by simp
  | a :: l, h1, h2, h3 => by
    rw [List.pairwise_cons] at h1
    rw [List.flatMap_cons, List.pairwise_append]
    refine ⟨h2 a (by simp), pairwise_flatMap' f l h1.2 (fun b hb => h2 b (List.mem_cons_of_mem _ hb)) (fun b hb b' hb' => h3 b (List.mem_cons_of_mem _ hb) b' (List.mem_cons_of_mem _ hb')), fun x hx y hy => ?_⟩
    obtain ⟨b, hb, hy⟩ := List.mem_flatMap.1 hy
    exact h3 a (by simp) b (List.mem_cons_of_mem _ hb) (h1.1 b hb) x hx y hy
theorem rowsAll_sorted : ∀ (rows cols : List Int), (rowsAll rows cols).Pairwise (GLt rows.length cols.length)
  | [], _ => by unfold rowsAll; simp
  | r :: rows, cols => by
    unfold rowsAll
    refine pairwise_flatMap' (Q := LLt) _ _ bitRows_sorted (fun row hrow => ?_) (fun a ha b hb hab x hx y hy => ?_)
    · have hl := leftOver_len (bitRows_mem.1 hrow).1
      split
      · refine List.pairwise_map.2 ((rowsAll_sorted rows (leftOver cols row)).imp fun h => ?_)
        rw [hl] at h
        exact h.cons row
      · exact List.Pairwise.nil
    · split at hx
      · split at hy
        · obtain ⟨g, -, rfl⟩ := List.mem_map.1 hx
          obtain ⟨h, -, rfl⟩ := List.mem_map.1 hy
          obtain ⟨k, h1, h2, h3⟩ := hab
          refine ⟨0, k, by simp, by rw [← (bitRows_mem.1 ha).1]; exact h1, fun i j hij => ?_, by simpa [at2] using h3⟩
          have e : i = 0 ∧ j < k := by omega
          rw [e.1]
          have := h2 j e.2
          simpa [at2] using this
        · cases hy
      · cases hx
theorem rowsAll_eq {xs ys : List Int} (h : sumsOk xs ys = true) : rowsAll xs ys = allImgs xs ys := by
  obtain ⟨h1, h2, h3, h4, -⟩ := sumsOk_bd h
  refine sorted_eq (fun a => GLt.irrefl) (fun a b => GLt.asymm) (rowsAll_sorted xs ys) (allImgs_sorted h) fun g => ?_
  rw [rowsAll_mem h2 h3 h4 (fun e => by rw [e] at h1; simp at h1), allImgs_mem h]
end Go.Proofs.Ytliejhmlcdjpcaa

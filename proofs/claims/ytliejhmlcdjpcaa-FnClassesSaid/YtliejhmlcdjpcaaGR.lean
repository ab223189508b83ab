/- Images with given line sums: when one exists (Gale, Ryser). Plain. -/
import Derived.Test.YtliejhmlcdjpcaaFlow
namespace Go.Proofs.Ytliejhmlcdjpcaa

theorem rs_head (n : Nat) (f : Nat → Int) : rs (n + 1) f = f 0 + rs n (fun i => f (i + 1)) := by
  induction n with
  | zero => simp [rs]
  | succ n ih => rw [rs, ih, rs]; omega
theorem sumL_rs (l : List Int) : sumL l = rs l.length (fun i => l.getD i 0) := by
  induction l with
  | nil => rfl
  | cons a l ih =>
    rw [eSum_cons, List.length_cons, rs_head, ih]
    simp
theorem sumL_map_range (n : Nat) (f : Nat → Int) : sumL ((List.range n).map f) = rs n f := by
  rw [sumL_rs, List.length_map, List.length_range]
  exact rs_congr fun i hi => gD_some (by rw [List.getElem?_map, List.getElem?_range hi]; rfl)
theorem sumL_map_add {α : Type} (l : List α) (f g : α → Int) : sumL (l.map fun x => f x + g x) = sumL (l.map f) + sumL (l.map g) := by
  induction l with
  | nil => rfl
  | cons a l ih => simp only [List.map_cons, eSum_cons, ih]; omega
theorem sumL_map_le {α : Type} {l : List α} {f g : α → Int} (h : ∀ x ∈ l, f x ≤ g x) : sumL (l.map f) ≤ sumL (l.map g) := by
  induction l with
  | nil => exact Int.le_refl _
  | cons a l ih =>
    simp only [List.map_cons, eSum_cons]
    have := ih (fun x hx => h x (List.mem_cons_of_mem _ hx))
    have := h a (by simp)
    omega
theorem sumL_perm {a b : List Int} (h : a.Perm b) : sumL a = sumL b := by
  induction h with
  | nil => rfl
  | cons x _ ih => rw [eSum_cons, eSum_cons, ih]
  | swap x y l => rw [eSum_cons, eSum_cons, eSum_cons, eSum_cons]; omega
  | trans _ _ h1 h2 => rw [h1, h2]
theorem sumL_const {α : Type} (l : List α) (k : Int) : sumL (l.map fun _ => k) = l.length * k := by
  induction l with
  | nil => simp [eSum_nil]
  | cons a l ih => rw [List.map_cons, eSum_cons, ih, List.length_cons, Int.natCast_succ, Int.add_mul]; omega

/-- the matrix as an image -/
def imgFn (r c : Nat) (x : Nat → Nat → Int) : List (List Int) := (List.range r).map fun i => (List.range c).map fun j => x i j
theorem imgFn_shape {r c : Nat} {x : Nat → Nat → Int} (h : ∀ i j, i < r → j < c → 0 ≤ x i j ∧ x i j ≤ 1) : Shape r c (imgFn r c x) := by
  refine ⟨by simp [imgFn], fun row hr => ?_⟩
  obtain ⟨i, hi, rfl⟩ := List.mem_map.1 hr
  refine ⟨by simp, fun z hz => ?_⟩
  obtain ⟨j, hj, rfl⟩ := List.mem_map.1 hz
  exact h i j (List.mem_range.1 hi) (List.mem_range.1 hj)
theorem imgFn_at {r c i j : Nat} {x : Nat → Nat → Int} (hi : i < r) (hj : j < c) : at2 (imgFn r c x) i j = x i j := by
  unfold at2 imgFn
  rw [gD_some (l := (List.range r).map _) (x := (List.range c).map fun j => x i j) (by rw [List.getElem?_map, List.getElem?_range hi]; rfl)]
  exact gD_some (by rw [List.getElem?_map, List.getElem?_range hj]; rfl)
theorem row_rs {m : List (List Int)} {r c i : Nat} (h : Shape r c m) (hi : i < r) : sumL (m.getD i []) = rs c (fun j => at2 m i j) := by
  rw [sumL_rs, (at2_row h hi).2]; rfl
theorem col_rs {m : List (List Int)} {r c : Nat} (h : Shape r c m) (j : Nat) : colS m j = rs r (fun i => at2 m i j) := by
  unfold colS
  rw [sumL_rs, List.length_map, h.1]
  exact rs_congr fun i _ => colS_at h i
theorem sums_iff {xs ys : List Int} {r c : Nat} {g : List (List Int)} : Sums xs ys r c g ↔ Shape r c g ∧ (∀ i, i < r → rs c (fun j => at2 g i j) = xs.getD i 0) ∧ ∀ j, j < c → rs r (fun i => at2 g i j) = ys.getD j 0 := by
  unfold Sums
  constructor
  · rintro ⟨h1, h2, h3⟩
    exact ⟨h1, fun i hi => by rw [← row_rs h1 hi]; exact h2 i hi, fun j hj => by rw [← col_rs h1]; exact h3 j hj⟩
  · rintro ⟨h1, h2, h3⟩
    exact ⟨h1, fun i hi => by rw [row_rs h1 hi]; exact h2 i hi, fun j hj => by rw [col_rs h1]; exact h3 j hj⟩
abbrev fn1 (l : List Int) : Nat → Int := fun i => l.getD i 0
/-- an image between two bounds with given sums, or a rectangle -/
theorem flowImg {xs ys : List Int} (hs : sumL xs = sumL ys) {l u : Nat → Nat → Int} (hb : ∀ i j, i < xs.length → j < ys.length → 0 ≤ l i j ∧ l i j ≤ u i j ∧ u i j ≤ 1) :
    (∃ g, Sums xs ys xs.length ys.length g ∧ ∀ i j, i < xs.length → j < ys.length → l i j ≤ at2 g i j ∧ at2 g i j ≤ u i j) ∨ ∃ A B, 0 < need xs.length ys.length (fn1 xs) (fn1 ys) l u A B := by
  have h0 : rs xs.length (fn1 xs) = rs ys.length (fn1 ys) := by rw [← sumL_rs, ← sumL_rs]; exact hs
  rcases flow xs.length ys.length (fn1 xs) (fn1 ys) h0 _ l u hb (Int.self_le_toNat _) with ⟨x, h1, h2, h3⟩ | h
  · left
    have hsh : Shape xs.length ys.length (imgFn xs.length ys.length x) := imgFn_shape fun i j hi hj => by have := hb i j hi hj; have := h1 i j hi hj; omega
    refine ⟨imgFn xs.length ys.length x, sums_iff.2 ⟨hsh, fun i hi => ?_, fun j hj => ?_⟩, fun i j hi hj => by rw [imgFn_at hi hj]; exact h1 i j hi hj⟩
    · rw [rs_congr fun j hj => imgFn_at hi hj]; exact h2 i hi
    · rw [rs_congr fun i hi => imgFn_at hi hj]; exact h3 j hj
  · exact .inr h
theorem flowImg_no {xs ys : List Int} {r c : Nat} {g : List (List Int)} (hg : Sums xs ys r c g) {l u : Nat → Nat → Int} (hb : ∀ i j, i < r → j < c → l i j ≤ at2 g i j ∧ at2 g i j ≤ u i j) (A B : Nat → Bool) : need r c (fn1 xs) (fn1 ys) l u A B ≤ 0 := by
  obtain ⟨h1, h2, h3⟩ := sums_iff.1 hg
  exact flow_no hb h2 h3 A B

/-- the numbers of a list that a mask keeps -/
def desc (l : List Int) : Prop := l.Pairwise (fun a b => b ≤ a)
/-- a list in descending order -/
def insD (x : Int) : List Int → List Int
  | [] => [x]
  | a :: l => if x ≤ a then a :: insD x l else x :: a :: l
def sortD (l : List Int) : List Int := l.foldl (fun acc x => insD x acc) []
theorem insD_perm (x : Int) (l : List Int) : (insD x l).Perm (x :: l) := by
  induction l with
  | nil => exact List.Perm.refl _
  | cons a l ih =>
    unfold insD
    split
    · exact (List.Perm.cons a ih).trans (List.Perm.swap x a l)
    · exact List.Perm.refl _
theorem insD_desc {x : Int} {l : List Int} (h : desc l) : desc (insD x l) := by
  induction l with
  | nil => exact List.pairwise_singleton _ _
  | cons a l ih =>
    unfold desc at h ⊢
    rw [List.pairwise_cons] at h
    unfold insD
    split
    · rename_i hxa
      rw [List.pairwise_cons]
      refine ⟨fun b hb => ?_, ih h.2⟩
      rcases List.mem_cons.1 ((insD_perm x l).mem_iff.1 hb) with rfl | hb
      · exact hxa
      · exact h.1 b hb
    · rename_i hxa
      rw [List.pairwise_cons, List.pairwise_cons]
      refine ⟨fun b hb => ?_, h⟩
      rcases List.mem_cons.1 hb with rfl | hb
      · omega
      · have := h.1 b hb; omega
theorem sortD_acc (l acc : List Int) : (l.foldl (fun acc x => insD x acc) acc).Perm (acc ++ l) ∧ (desc acc → desc (l.foldl (fun acc x => insD x acc) acc)) := by
  induction l generalizing acc with
  | nil => simp
  | cons a l ih =>
    obtain ⟨h1, h2⟩ := ih (insD a acc)
    refine ⟨h1.trans ?_, fun h => h2 (insD_desc h)⟩
    exact ((insD_perm a acc).append_right l).trans List.perm_middle.symm
theorem sortD_perm (l : List Int) : (sortD l).Perm l := (sortD_acc l []).1
theorem sortD_desc (l : List Int) : desc (sortD l) := (sortD_acc l []).2 List.Pairwise.nil
theorem sortD_len (l : List Int) : (sortD l).length = l.length := (sortD_perm l).length_eq
theorem desc_eq {a b : List Int} (h : a.Perm b) (h1 : desc a) (h2 : desc b) : a = b := by
  induction a generalizing b with
  | nil => exact (List.nil_perm.1 h).symm
  | cons x a ih =>
    cases b with
    | nil => simp at h
    | cons y b =>
      unfold desc at h1 h2
      rw [List.pairwise_cons] at h1 h2
      have hx : y ≤ x := by
        rcases List.mem_cons.1 (h.symm.mem_iff.1 (List.mem_cons_self (a := y) (l := b))) with e | hm
        · omega
        · exact h1.1 y hm
      have hy : x ≤ y := by
        rcases List.mem_cons.1 (h.mem_iff.1 (List.mem_cons_self (a := x) (l := a))) with e | hm
        · omega
        · exact h2.1 x hm
      have e : x = y := by omega
      subst e
      rw [ih h.cons_inv h1.2 h2.2]
theorem sortD_eq {a l : List Int} (h : a.Perm l) (hd : desc a) : a = sortD l := desc_eq (h.trans (sortD_perm l).symm) hd (sortD_desc l)

/-- a part of a list, as a list of places -/
theorem sub_of_perm {a b l : List Int} (h : List.Perm (a ++ b) l) : ∃ s : List Int, s.Sublist l ∧ s.Perm a := by
  induction l generalizing a b with
  | nil =>
    have := List.perm_nil.1 h
    exact ⟨[], List.Sublist.refl _, by rw [(List.append_eq_nil_iff.1 this).1]⟩
  | cons y l ih =>
    by_cases hy : y ∈ a
    · have h1 := List.perm_cons_erase hy
      have h2 : (y :: (a.erase y ++ b)).Perm (y :: l) := ((h1.append_right b).symm).trans h
      obtain ⟨s, hs, hp⟩ := ih h2.cons_inv
      exact ⟨y :: s, hs.cons_cons y, (List.Perm.cons y hp).trans h1.symm⟩
    · have hyb : y ∈ b := by
        have := h.symm.mem_iff.1 (List.mem_cons_self (a := y) (l := l))
        exact (List.mem_append.1 this).resolve_left hy
      have h1 := List.perm_cons_erase hyb
      have h2 : (y :: (a ++ b.erase y)).Perm (y :: l) := (List.perm_middle.symm.trans ((h1.append_left a).symm)).trans h
      obtain ⟨s, hs, hp⟩ := ih h2.cons_inv
      exact ⟨s, hs.cons y, hp⟩
theorem mask_of_sub {s l : List Int} (h : s.Sublist l) : ∃ T : Nat → Bool, rs l.length (fun j => if T j then 1 else 0) = s.length ∧ rs l.length (fun j => if T j then l.getD j 0 else 0) = sumL s := by
  induction h with
  | slnil => exact ⟨fun _ => false, rfl, rfl⟩
  | @cons s l a h ih =>
    obtain ⟨T, h1, h2⟩ := ih
    refine ⟨fun j => match j with | 0 => false | j + 1 => T j, ?_, ?_⟩
    · rw [List.length_cons, rs_head]; simpa using h1
    · rw [List.length_cons, rs_head]; simp only [List.getD_cons_zero, List.getD_cons_succ, Bool.false_eq_true, if_false]; omega
  | @cons_cons s l a h ih =>
    obtain ⟨T, h1, h2⟩ := ih
    refine ⟨fun j => match j with | 0 => true | j + 1 => T j, ?_, ?_⟩
    · rw [List.length_cons, rs_head, List.length_cons]; simp; omega
    · rw [List.length_cons, rs_head, eSum_cons]; simp only [List.getD_cons_zero, List.getD_cons_succ, if_true]; omega
/-- the k greatest numbers are some k numbers -/
theorem top_mask (ys : List Int) {k : Nat} (hk : k ≤ ys.length) : ∃ T : Nat → Bool, rs ys.length (fun j => if T j then 1 else 0) = k ∧ rs ys.length (fun j => if T j then ys.getD j 0 else 0) = sumL ((sortD ys).take k) := by
  have h : ((sortD ys).take k ++ (sortD ys).drop k).Perm ys := by rw [List.take_append_drop]; exact sortD_perm ys
  obtain ⟨s, hs, hp⟩ := sub_of_perm h
  obtain ⟨T, h1, h2⟩ := mask_of_sub hs
  refine ⟨T, ?_, ?_⟩
  · rw [h1, hp.length_eq, List.length_take, sortD_len, Nat.min_eq_left hk]
  · rw [h2, sumL_perm hp]
/-- no k numbers have a greater sum than the k greatest -/
theorem top_max (ys : List Int) {k : Nat} (hk : k ≤ ys.length) (T : Nat → Bool) (hT : rs ys.length (fun j => if T j then 1 else 0) = k) : rs ys.length (fun j => if T j then ys.getD j 0 else 0) ≤ sumL ((sortD ys).take k) := by
  cases k with
  | zero =>
    have h0 : ∀ j, j < ys.length → T j = false := by
      intro j hj
      have := rs_le1 hj (f := fun j => if T j then 1 else 0) (fun i _ => by split <;> decide)
      rw [hT] at this
      cases h : T j
      · rfl
      · rw [h] at this; simp at this
    rw [rs_zero' fun j hj => by rw [h0 j hj]; rfl]
    simp [eSum_nil]
  | succ k =>
    have hlen : k < (sortD ys).length := by rw [sortD_len]; omega
    obtain ⟨t, ht⟩ : ∃ t, t = (sortD ys)[k] := ⟨_, rfl⟩
    have hd := sortD_desc ys
    have e1 : rs ys.length (fun j => if T j then ys.getD j 0 else 0) ≤ rs ys.length (fun j => max (ys.getD j 0 - t) 0 + t * (if T j then 1 else 0)) := rs_le fun j _ => by
      cases T j <;> simp <;> omega
    rw [rs_add, rs_mul, hT] at e1
    have e2 : rs ys.length (fun j => max (ys.getD j 0 - t) 0) = sumL (ys.map fun y => max (y - t) 0) := by
      rw [sumL_rs, List.length_map]
      refine rs_congr fun j hj => ?_
      have h1 := List.getElem?_eq_getElem hj
      rw [gD_some h1, gD_some (x := max (ys[j] - t) 0)]
      rw [List.getElem?_map, h1]; rfl
    have e3 : sumL (ys.map fun y => max (y - t) 0) = sumL ((sortD ys).map fun y => max (y - t) 0) := (sumL_perm ((sortD_perm ys).map _)).symm
    have e4 : (sortD ys).map (fun y => max (y - t) 0) = ((sortD ys).take (k + 1)).map (fun y => max (y - t) 0) ++ ((sortD ys).drop (k + 1)).map (fun y => max (y - t) 0) := by rw [← List.map_append, List.take_append_drop]
    unfold desc at hd
    rw [List.pairwise_iff_getElem] at hd
    have hpre : ∀ y ∈ (sortD ys).take (k + 1), t ≤ y := by
      intro y hy
      obtain ⟨i, hi, rfl⟩ := List.getElem_of_mem hy
      rw [List.length_take] at hi
      rw [List.getElem_take, ht]
      by_cases hik : i = k
      · subst hik; exact Int.le_refl _
      · exact hd i k (by omega) hlen (by omega)
    have hpost : ∀ y ∈ (sortD ys).drop (k + 1), y ≤ t := by
      intro y hy
      obtain ⟨i, hi, rfl⟩ := List.getElem_of_mem hy
      rw [List.length_drop] at hi
      rw [List.getElem_drop, ht]
      exact hd k (k + 1 + i) hlen (by omega) (by omega)
    have e5 : sumL (((sortD ys).take (k + 1)).map fun y => max (y - t) 0) + ((k + 1 : Nat) : Int) * t ≤ sumL ((sortD ys).take (k + 1)) := by
      have h1 := sumL_map_le (l := (sortD ys).take (k + 1)) (f := fun y => max (y - t) 0 + t) (g := fun y => y) (fun y hy => by have := hpre y hy; simp; omega)
      rw [sumL_map_add, sumL_const, List.length_take, Nat.min_eq_left (by omega)] at h1
      simpa using h1
    have e6 : sumL (((sortD ys).drop (k + 1)).map fun y => max (y - t) 0) ≤ 0 := by
      have h1 := sumL_map_le (l := (sortD ys).drop (k + 1)) (f := fun y => max (y - t) 0) (g := fun _ => 0) (fun y hy => by have := hpost y hy; simp; omega)
      rw [sumL_const] at h1
      simpa using h1
    rw [e4, eSum_append] at e3
    rw [Int.mul_comm] at e1
    omega
/-- the conjugate of a list -/
def conjOf (xs : List Int) (n : Nat) : List Int := (List.range n).map fun k : Nat => ((xs.filter fun x => decide ((k : Int) < x)).length : Int)
/-- the most that k columns can hold -/
def mostL (xs : List Int) (k : Nat) : Int := sumL (xs.map fun x => min x k)
theorem conj_count {x : Int} (hx : 0 ≤ x) (k : Nat) : rs k (fun i => if (i : Int) < x then 1 else 0) = min x k := by
  induction k with
  | zero => simp [rs]; omega
  | succ k ih =>
    rw [rs, ih]
    split <;> omega
theorem conj_take {xs : List Int} (h : ∀ x ∈ xs, 0 ≤ x) {k n : Nat} (hk : k ≤ n) : sumL ((conjOf xs n).take k) = mostL xs k := by
  have e : (conjOf xs n).take k = (List.range k).map fun k : Nat => ((xs.filter fun x => decide ((k : Int) < x)).length : Int) := by
    unfold conjOf
    rw [← List.map_take, List.take_range, Nat.min_eq_left hk]
  rw [e, sumL_map_range]
  unfold mostL
  clear e
  induction xs with
  | nil => simp [rs_zero, eSum_nil]
  | cons a xs ih =>
    rw [List.map_cons, eSum_cons, ← ih (fun x hx => h x (List.mem_cons_of_mem _ hx)), ← conj_count (h a (by simp)) k, ← rs_add]
    refine rs_congr fun i _ => ?_
    rw [List.filter_cons]
    by_cases hi : (i : Int) < a
    · simp [hi]; omega
    · simp [hi]
theorem mostL_rs (xs : List Int) (k : Nat) : mostL xs k = rs xs.length (fun i => min (xs.getD i 0) k) := by
  unfold mostL
  rw [sumL_rs, List.length_map]
  refine rs_congr fun i hi => ?_
  have h1 := List.getElem?_eq_getElem hi
  rw [gD_some h1, gD_some (x := min xs[i] k)]
  rw [List.getElem?_map, h1]; rfl
/-- the columns' sums are too great for the rows -/
def tooMuch (xs ys : List Int) (k : Nat) : Prop := mostL xs k < sumL ((sortD ys).take k)
theorem gr_no {xs ys : List Int} {g : List (List Int)} (hg : Sums xs ys xs.length ys.length g) {k : Nat} (hk : k ≤ ys.length) : ¬ tooMuch xs ys k := by
  obtain ⟨h1, h2, h3⟩ := sums_iff.1 hg
  obtain ⟨T, hT, hS⟩ := top_mask ys hk
  unfold tooMuch
  rw [← hS, mostL_rs]
  have e1 : rs ys.length (fun j => if T j then ys.getD j 0 else 0) = rs xs.length (fun i => rs ys.length (fun j => if T j then at2 g i j else 0)) := by
    rw [rs_comm]
    exact rs_congr fun j hj => by
      cases T j
      · simp [rs_zero]
      · simp [h3 j hj]
  rw [e1, Int.not_lt]
  refine rs_le fun i hi => ?_
  have a1 : rs ys.length (fun j => if T j then at2 g i j else 0) ≤ rs ys.length (fun j => at2 g i j) := rs_le fun j _ => by
    have := at2_bits h1 i j
    cases T j <;> simp <;> omega
  have a2 : rs ys.length (fun j => if T j then at2 g i j else 0) ≤ rs ys.length (fun j => if T j then 1 else 0) := rs_le fun j _ => by
    have := at2_bits h1 i j
    cases T j <;> simp; omega
  rw [h2 i hi] at a1
  rw [hT] at a2
  omega
theorem gr_yes {xs ys : List Int} (hs : sumL xs = sumL ys) (h : ∀ k, 1 ≤ k → k ≤ ys.length → ¬ tooMuch xs ys k) (hx : ∀ i, 0 ≤ xs.getD i 0) : ∃ g, Sums xs ys xs.length ys.length g := by
  rcases flowImg hs (l := fun _ _ => 0) (u := fun _ _ => 1) (fun _ _ _ _ => by decide) with ⟨g, hg, -⟩ | ⟨A, B, hn⟩
  · exact ⟨g, hg⟩
  exfalso
  unfold need at hn
  obtain ⟨k, hk⟩ : ∃ k : Nat, rs ys.length (fun j => if B j then 0 else 1) = k := ⟨(rs ys.length (fun j => if B j then 0 else 1)).toNat, (Int.toNat_of_nonneg (rs_nonneg fun j _ => by split <;> decide)).symm⟩
  have hkl : k ≤ ys.length := by
    have := rs_le (n := ys.length) (f := fun j => if B j then 0 else 1) (g := fun _ => 1) (fun j _ => by split <;> decide)
    rw [rs_const, hk] at this; omega
  have e1 : rs xs.length (fun i => rs ys.length (fun j => gc (A i) (B j) 0 1)) = 0 - rs xs.length (fun i => if A i then (k : Int) else 0) := by
    have : rs xs.length (fun i => rs ys.length (fun j => gc (A i) (B j) 0 1)) = rs xs.length (fun i => 0 - if A i then (k : Int) else 0) := rs_congr fun i _ => by
      cases hA : A i
      · simp [gc, rs_zero]
      · rw [if_pos rfl, ← hk, ← rs_zero ys.length, ← rs_sub]
        refine rs_congr fun j _ => ?_
        cases B j <;> simp [gc, rs_zero]
    rw [this, rs_sub, rs_zero]
  have e2 : rs ys.length (fun j => if (!B j) then ys.getD j 0 else 0) = rs ys.length (fn1 ys) - rs ys.length (fun j => if B j then fn1 ys j else 0) := by
    rw [← rs_sub]
    refine rs_congr fun j _ => ?_
    cases B j <;> simp
  have e3 : rs xs.length (fun i => if A i then (k : Int) else fn1 xs i) = rs xs.length (fn1 xs) - rs xs.length (fun i => if A i then fn1 xs i else 0) + rs xs.length (fun i => if A i then (k : Int) else 0) := by
    rw [← rs_sub, ← rs_add]
    refine rs_congr fun j _ => ?_
    cases A j <;> simp
  have e4 : mostL xs k ≤ rs xs.length (fun i => if A i then (k : Int) else fn1 xs i) := by
    rw [mostL_rs]
    exact rs_le fun i _ => by show _ ≤ (if A i then (k : Int) else xs.getD i 0); split <;> omega
  have e5 := top_max ys hkl (fun j => !B j) (by rw [← hk]; exact rs_congr fun j _ => by cases B j <;> rfl)
  have e6 : rs xs.length (fn1 xs) = rs ys.length (fn1 ys) := by rw [← sumL_rs, ← sumL_rs]; exact hs
  rw [e1] at hn
  have hgt : tooMuch xs ys k := by unfold tooMuch; omega
  by_cases h0 : k = 0
  · subst h0
    unfold tooMuch at hgt
    have : 0 ≤ mostL xs 0 := by
      rw [mostL_rs]
      exact rs_nonneg fun i _ => by have := hx i; omega
    simp [eSum_nil] at hgt
    omega
  · exact h k (by omega) hkl hgt
end Go.Proofs.Ytliejhmlcdjpcaa

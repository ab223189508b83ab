/- Contracts and plain laws that the claims on sessions use. No condition of their own. -/
import Derived.Test.YthmocomfjgmjoaaGreatDoorQ02
namespace Go.Proofs.YthmocomfjgmjoaaGreatDoor
theorem gD_some {α : Type} {l : List α} {i : Nat} {x d : α} (h : l[i]? = some x) : l.getD i d = x := by rw [List.getD_eq_getElem?_getD, h]; rfl
theorem gD_none {α : Type} {l : List α} {i : Nat} {d : α} (h : l.length ≤ i) : l.getD i d = d := by rw [List.getD_eq_getElem?_getD, List.getElem?_eq_none h]; rfl
theorem gD_self {α : Type} {l : List α} {i : Nat} {v d : α} (h : i < l.length) : (l.set i v).getD i d = v := gD_some (List.getElem?_set_self h)
theorem gD_ne {α : Type} {l : List α} {i j : Nat} {v d : α} (h : i ≠ j) : (l.set i v).getD j d = l.getD j d := by rw [List.getD_eq_getElem?_getD, List.getElem?_set_ne h, ← List.getD_eq_getElem?_getD]
theorem gD_at {α : Type} {l : List α} {i : Nat} (d : α) (h : i < l.length) : l[i]? = some (l.getD i d) := by rw [List.getElem?_eq_getElem h, gD_some (List.getElem?_eq_getElem h)]
def at2 (m : List (List Int)) (i j : Nat) : Int := (m.getD i []).getD j 0
def setC (m : List (List Int)) (y x : Nat) (v : Int) : List (List Int) := m.set y ((m.getD y []).set x v)
def colS (m : List (List Int)) (j : Nat) : Int := sumL (m.map fun row => row.getD j 0)
theorem eSum_cons (a : Int) (l : List Int) : sumL (a :: l) = a + sumL l := by
  have h : ∀ (l : List Int) (b : Int), l.foldl (· + ·) b = b + l.foldl (· + ·) 0 := by
    intro l
    induction l with
    | nil => intro b; simp
    | cons c l ih => intro b; rw [List.foldl_cons, List.foldl_cons, ih, ih (0 + c)]; omega
  show (a :: l).foldl (· + ·) 0 = a + l.foldl (· + ·) 0
  rw [List.foldl_cons, h]; omega
theorem eSum_nil : sumL [] = 0 := rfl
theorem eSum_append (a b : List Int) : sumL (a ++ b) = sumL a + sumL b := by
  induction a with
  | nil => rw [List.nil_append, eSum_nil]; omega
  | cons x a ih => rw [List.cons_append, eSum_cons, eSum_cons, ih]; omega
theorem eSum_set {l : List Int} {k : Nat} {x : Int} (h : l[k]? = some x) (v : Int) : sumL (l.set k v) = sumL l - x + v := by
  induction l generalizing k with
  | nil => simp at h
  | cons a l ih =>
    cases k with
    | zero => simp at h; subst h; rw [List.set_cons_zero, eSum_cons, eSum_cons]; omega
    | succ k => rw [List.set_cons_succ, eSum_cons, eSum_cons, ih (by simpa using h)]; omega
theorem eSum_zero {l : List Int} (h : ∀ i, l.getD i 0 = 0) : sumL l = 0 := by
  induction l with
  | nil => rfl
  | cons a l ih =>
    rw [eSum_cons]
    have h0 := h 0
    have := ih (fun i => by have := h (i + 1); simpa using this)
    simp at h0
    omega
theorem eSum_bits {l : List Int} (h : ∀ i, i < l.length → 0 ≤ l.getD i 0 ∧ l.getD i 0 ≤ 1) : 0 ≤ sumL l ∧ sumL l ≤ l.length := by
  induction l with
  | nil => exact ⟨Int.le_refl _, by rw [eSum_nil]; exact Int.natCast_nonneg _⟩
  | cons a l ih =>
    have h0 := h 0 (by simp)
    have := ih (fun i hi => by have := h (i + 1) (by simpa using hi); simpa using this)
    simp at h0
    rw [eSum_cons, List.length_cons]; omega
theorem eSum_tail {a b : List Int} (hl : a.length = b.length) : ∀ {k : Nat}, (∀ i, i < k → a.getD i 0 = b.getD i 0) → (∀ i, k ≤ i → b.getD i 0 = 0) → (∀ i, i < a.length → 0 ≤ a.getD i 0 ∧ a.getD i 0 ≤ 1) → k < a.length →
    (a.getD k 0 = 0 → 0 ≤ sumL a - sumL b ∧ sumL a - sumL b ≤ (a.length : Int) - k - 1) ∧ (a.getD k 0 = 1 → 1 ≤ sumL a - sumL b) := by
  induction a generalizing b with
  | nil => intro k _ _ _ hk; simp at hk
  | cons x a ih =>
    cases b with
    | nil => simp at hl
    | cons y b =>
      intro k h1 h2 h3 hk
      have hl : a.length = b.length := by simpa using hl
      have hbits : ∀ i, i < a.length → 0 ≤ a.getD i 0 ∧ a.getD i 0 ≤ 1 := fun i hi => by
        have := h3 (i + 1) (by simpa using hi); simpa using this
      rw [eSum_cons, eSum_cons, List.length_cons]
      cases k with
      | zero =>
        have e0 := h2 0 (Nat.le_refl _)
        simp at e0
        have ez : sumL b = 0 := eSum_zero fun i => by have := h2 (i + 1) (Nat.zero_le _); simpa using this
        have hb := eSum_bits hbits
        constructor
        · intro hx; simp at hx; omega
        · intro hx; simp at hx; omega
      | succ k =>
        have e0 := h1 0 (Nat.succ_pos _)
        simp at e0
        have := @ih b hl k (fun i hi => by have := h1 (i + 1) (by omega); simpa using this) (fun i hi => by have := h2 (i + 1) (by omega); simpa using this) hbits (by simpa using hk)
        constructor
        · intro hx
          have := this.1 (by simpa using hx)
          omega
        · intro hx
          have := this.2 (by simpa using hx)
          omega
theorem at2_row {m : List (List Int)} {r c y : Nat} (h : Shape r c m) (hy : y < r) : m[y]? = some (m.getD y []) ∧ (m.getD y []).length = c := by
  obtain ⟨row, hr, hl, -⟩ := h.row hy
  rw [gD_some hr]; exact ⟨hr, hl⟩
theorem at2_bits {m : List (List Int)} {r c : Nat} (h : Shape r c m) (i j : Nat) : 0 ≤ at2 m i j ∧ at2 m i j ≤ 1 := by
  unfold at2
  by_cases hi : i < r
  · obtain ⟨row, hr, hl, hb⟩ := h.row hi
    rw [gD_some hr]
    by_cases hj : j < row.length
    · have := hb _ (List.getElem_mem hj)
      rw [gD_some (List.getElem?_eq_getElem hj)]; exact this
    · rw [gD_none (by omega)]; omega
  · rw [gD_none (l := m) (by rw [h.1]; omega)]; exact ⟨Int.le_refl _, by simp⟩
theorem setC_shape {m : List (List Int)} {r c y x : Nat} (h : Shape r c m) (hy : y < r) {v : Int} (h0 : 0 ≤ v) (h1 : v ≤ 1) : Shape r c (setC m y x v) := h.set (at2_row h hy).1 h0 h1
theorem setC_row {m : List (List Int)} {r c y x : Nat} (h : Shape r c m) (hy : y < r) (v : Int) (i : Nat) : (setC m y x v).getD i [] = if i = y then (m.getD y []).set x v else m.getD i [] := by
  unfold setC
  have hyl : y < m.length := by rw [h.1]; exact hy
  by_cases hi : i = y
  · subst hi; rw [if_pos rfl, gD_self hyl]
  · rw [if_neg hi, gD_ne (by omega)]
theorem at2_setC {m : List (List Int)} {r c y x : Nat} (h : Shape r c m) (hy : y < r) (hx : x < c) (v : Int) (i j : Nat) : at2 (setC m y x v) i j = if i = y ∧ j = x then v else at2 m i j := by
  unfold at2
  rw [setC_row h hy]
  have hl := (at2_row h hy).2
  by_cases hi : i = y
  · subst hi
    rw [if_pos rfl]
    by_cases hj : j = x
    · subst hj; rw [if_pos ⟨rfl, rfl⟩, gD_self (by omega)]
    · rw [if_neg (fun h => hj h.2), gD_ne (by omega)]
  · rw [if_neg hi, if_neg (fun h => hi h.1)]
theorem setC_back {m : List (List Int)} {r c y x : Nat} (h : Shape r c m) (hy : y < r) (hx : x < c) {v : Int} (hv0 : 0 ≤ v) (hv1 : v ≤ 1) (hz : at2 m y x = 0) : setC (setC m y x v) y x 0 = m := by
  have h2 := setC_shape (x := x) h hy hv0 hv1
  refine (setC_shape h2 hy (by decide) (by decide)).ext h fun i j hi hj => ?_
  show at2 _ i j = at2 m i j
  rw [at2_setC h2 hy hx, at2_setC h hy hx]
  by_cases he : i = y ∧ j = x
  · rw [if_pos he, he.1, he.2, hz]
  · rw [if_neg he, if_neg he]
theorem colS_at {m : List (List Int)} {r c j : Nat} (_h : Shape r c m) : ∀ i, (m.map fun row => row.getD j 0).getD i 0 = at2 m i j := by
  intro i
  unfold at2
  cases hi : m[i]? with
  | none =>
    have := List.getElem?_eq_none_iff.1 hi
    rw [gD_none (by rw [List.length_map]; exact this), gD_none (l := m) this, gD_none (by simp)]
  | some row => rw [gD_some (l := m) hi, gD_some (x := row.getD j 0)]; rw [List.getElem?_map, hi]; rfl
theorem colS_set {m : List (List Int)} {r c y x : Nat} (h : Shape r c m) (hy : y < r) (hx : x < c) (v : Int) (j : Nat) : colS (setC m y x v) j = if j = x then colS m j - at2 m y x + v else colS m j := by
  unfold colS setC
  rw [List.map_set]
  have hrow := at2_row h hy
  have e : (m.map fun row => row.getD j 0)[y]? = some (at2 m y j) := by
    rw [List.getElem?_map, hrow.1]; rfl
  rw [eSum_set e]
  by_cases hj : j = x
  · subst hj
    rw [if_pos rfl, gD_self (by omega)]
  · rw [if_neg hj, gD_ne (by omega)]
    unfold at2; omega
def Agree (g m : List (List Int)) (y x : Nat) : Prop := ∀ i j, (i < y ∨ i = y ∧ j < x) → at2 g i j = at2 m i j
def GLt (r c : Nat) (a b : List (List Int)) : Prop := ∃ y x, y < r ∧ x < c ∧ Agree a b y x ∧ at2 a y x < at2 b y x
def pcell (r c : Nat) (k : Nat → Nat → Int → List Int → List (List Int) → List (List (List Int))) (y x : Nat) (need : Int) (left : List Int) (m : List (List Int)) : List (List (List Int)) :=
  (if need ≤ (c : Int) - x - 1 ∧ left.getD x 0 ≤ (r : Int) - y - 1 then k y (x + 1) need left m else []) ++
  (if 0 < need ∧ 0 < left.getD x 0 then k y (x + 1) (need - 1) (left.set x (left.getD x 0 - 1)) (setC m y x 1) else [])
def pgo (xs : List Int) (r c : Nat) : Nat → Nat → Nat → Int → List Int → List (List Int) → List (List (List Int))
  | 0, _, _, _, _, _ => []
  | f + 1, y, x, need, left, m =>
    if x = c then (if 0 < need then [] else if y + 1 = r then [m] else pcell r c (pgo xs r c f) (y + 1) 0 (xs.getD (y + 1) 0) left m)
    else pcell r c (pgo xs r c f) y x need left m
structure PInv (xs ys : List Int) (r c y x : Nat) (need : Int) (left : List Int) (m : List (List Int)) : Prop where
  sh : Shape r c m
  zero : ∀ i j, (y < i ∨ i = y ∧ x ≤ j) → at2 m i j = 0
  rows : ∀ i, i < y → sumL (m.getD i []) = xs.getD i 0
  needE : need = xs.getD y 0 - sumL (m.getD y [])
  ll : left.length = c
  leftE : ∀ j, j < c → left.getD j 0 = ys.getD j 0 - colS m j
  need0 : 0 ≤ need ∧ need ≤ (c : Int) - x
  left0 : ∀ j, j < c → 0 ≤ left.getD j 0 ∧ left.getD j 0 ≤ (r : Int) - y - (if j < x then 1 else 0)
  hx : ∀ i, i < r → 0 ≤ xs.getD i 0 ∧ xs.getD i 0 ≤ c
def Sums (xs ys : List Int) (r c : Nat) (g : List (List Int)) : Prop := Shape r c g ∧ (∀ i, i < r → sumL (g.getD i []) = xs.getD i 0) ∧ ∀ j, j < c → colS g j = ys.getD j 0
def Goal (xs ys : List Int) (r c y x : Nat) (m g : List (List Int)) : Prop := Sums xs ys r c g ∧ Agree g m y x
theorem PInv.white {xs ys : List Int} {r c y x : Nat} {need : Int} {left : List Int} {m : List (List Int)} (h : PInv xs ys r c y x need left m) (hn : need ≤ (c : Int) - x - 1) (hl : left.getD x 0 ≤ (r : Int) - y - 1) : PInv xs ys r c y (x + 1) need left m := by
  refine ⟨h.sh, fun i j hij => h.zero i j (by omega), h.rows, h.needE, h.ll, h.leftE, ⟨h.need0.1, by have := h.need0; push_cast; omega⟩, fun j hj => ?_, h.hx⟩
  obtain ⟨h1, h2⟩ := h.left0 j hj
  refine ⟨h1, ?_⟩
  by_cases hjx : j < x
  · rw [if_pos hjx] at h2; rw [if_pos (by omega)]; exact h2
  · by_cases hje : j = x
    · subst hje; rw [if_pos (by omega)]; exact hl
    · rw [if_neg hjx] at h2; rw [if_neg (by omega)]; exact h2
theorem PInv.black {xs ys : List Int} {r c y x : Nat} {need : Int} {left : List Int} {m : List (List Int)} (h : PInv xs ys r c y x need left m) (hy : y < r) (hx : x < c) (hn : 0 < need) (hl : 0 < left.getD x 0) :
    PInv xs ys r c y (x + 1) (need - 1) (left.set x (left.getD x 0 - 1)) (setC m y x 1) := by
  have hz : at2 m y x = 0 := h.zero y x (.inr ⟨rfl, Nat.le_refl _⟩)
  have hr := at2_row h.sh hy
  refine ⟨setC_shape h.sh hy (by decide) (by decide), fun i j hij => ?_, fun i hi => ?_, ?_, by rw [List.length_set, h.ll], fun j hj => ?_, ⟨by omega, by have := h.need0; push_cast; omega⟩, fun j hj => ?_, h.hx⟩
  · rw [at2_setC h.sh hy hx, if_neg (by omega)]
    exact h.zero i j (by omega)
  · rw [setC_row h.sh hy, if_neg (by omega)]; exact h.rows i hi
  · rw [setC_row h.sh hy, if_pos rfl]
    have e : (m.getD y [])[x]? = some (at2 m y x) := by
      exact gD_at 0 (by omega)
    rw [eSum_set e, hz]
    have := h.needE; omega
  · rw [colS_set h.sh hy hx, hz]
    have := h.leftE j hj
    by_cases hjx : j = x
    · subst hjx; rw [if_pos rfl, gD_self (by rw [h.ll]; exact hj)]; omega
    · rw [if_neg hjx, gD_ne (by omega)]; exact this
  · obtain ⟨h1, h2⟩ := h.left0 j hj
    by_cases hjx : j = x
    · subst hjx
      rw [gD_self (by rw [h.ll]; exact hj)]
      rw [if_pos (by omega)]; rw [if_neg (by omega)] at h2; omega
    · rw [gD_ne (by omega)]
      refine ⟨h1, ?_⟩
      by_cases hjl : j < x
      · rw [if_pos hjl] at h2; rw [if_pos (by omega)]; exact h2
      · rw [if_neg hjl] at h2; rw [if_neg (by omega)]; exact h2
theorem PInv.next {xs ys : List Int} {r c y : Nat} {need : Int} {left : List Int} {m : List (List Int)} (h : PInv xs ys r c y c need left m) (hy : y + 1 < r) : PInv xs ys r c (y + 1) 0 (xs.getD (y + 1) 0) left m := by
  have h0 := h.need0
  refine ⟨h.sh, fun i j hij => h.zero i j (by omega), fun i hi => ?_, ?_, h.ll, h.leftE, ?_, fun j hj => ?_, h.hx⟩
  · by_cases hiy : i < y
    · exact h.rows i hiy
    · obtain rfl : i = y := by omega
      have := h.needE; omega
  · have : sumL (m.getD (y + 1) []) = 0 := eSum_zero fun j => h.zero (y + 1) j (.inl (by omega))
    omega
  · have := h.hx (y + 1) hy
    exact ⟨this.1, by push_cast; omega⟩
  · obtain ⟨h1, h2⟩ := h.left0 j hj
    rw [if_pos hj] at h2
    exact ⟨h1, by rw [if_neg (by omega)]; push_cast; omega⟩
theorem Sums.guard {xs ys : List Int} {r c y x : Nat} {need : Int} {left : List Int} {m g : List (List Int)} (h : PInv xs ys r c y x need left m) (hy : y < r) (hx : x < c) (hg : Goal xs ys r c y x m g) :
    (at2 g y x = 0 → need ≤ (c : Int) - x - 1 ∧ left.getD x 0 ≤ (r : Int) - y - 1) ∧ (at2 g y x = 1 → 0 < need ∧ 0 < left.getD x 0) := by
  obtain ⟨⟨gs, gr, gc⟩, ga⟩ := hg
  have hrow := at2_row h.sh hy
  have grow := at2_row gs hy
  have t1 := eSum_tail (a := g.getD y []) (b := m.getD y []) (by rw [hrow.2, grow.2]) (k := x) (fun i hi => ga y i (.inr ⟨rfl, hi⟩)) (fun i hi => h.zero y i (.inr ⟨rfl, hi⟩)) (fun i _ => at2_bits gs y i) (by rw [grow.2]; exact hx)
  have t2 := eSum_tail (a := g.map fun row => row.getD x 0) (b := m.map fun row => row.getD x 0) (by rw [List.length_map, List.length_map, gs.1, h.sh.1]) (k := y) (fun i hi => by rw [colS_at gs, colS_at h.sh]; exact ga i x (.inl hi))
    (fun i hi => by rw [colS_at h.sh]; exact h.zero i x (by omega)) (fun i _ => by rw [colS_at gs]; exact at2_bits gs i x) (by rw [List.length_map, gs.1]; exact hy)
  rw [colS_at gs, List.length_map, gs.1] at t2
  rw [grow.2] at t1
  have e1 := gr y hy
  have e2 : sumL (g.map fun row => row.getD x 0) = ys.getD x 0 := gc x hx
  have e3 := h.needE
  have e4 : left.getD x 0 = ys.getD x 0 - sumL (m.map fun row => row.getD x 0) := h.leftE x hx
  constructor
  · intro hz
    have a1 := t1.1 hz
    have a2 := t2.1 hz
    omega
  · intro hz
    have a1 := t1.2 hz
    have a2 := t2.2 hz
    omega
theorem pcell_mem {xs ys : List Int} {r c y x : Nat} {need : Int} {left : List Int} {m : List (List Int)} {k : Nat → Nat → Int → List Int → List (List Int) → List (List (List Int))} (h : PInv xs ys r c y x need left m) (hy : y < r) (hx : x < c)
    (hk : ∀ need left m, PInv xs ys r c y (x + 1) need left m → ∀ g, g ∈ k y (x + 1) need left m ↔ Goal xs ys r c y (x + 1) m g) (g : List (List Int)) :
    g ∈ pcell r c k y x need left m ↔ Goal xs ys r c y x m g := by
  have hz : at2 m y x = 0 := h.zero y x (.inr ⟨rfl, Nat.le_refl _⟩)
  unfold pcell
  rw [List.mem_append]
  constructor
  · rintro (hm | hm)
    · split at hm
      · rename_i hc
        have := (hk _ _ _ (h.white hc.1 hc.2) g).1 hm
        exact ⟨this.1, fun i j hij => this.2 i j (by omega)⟩
      · cases hm
    · split at hm
      · rename_i hc
        have := (hk _ _ _ (h.black hy hx hc.1 hc.2) g).1 hm
        refine ⟨this.1, fun i j hij => ?_⟩
        have e := this.2 i j (by omega)
        rw [at2_setC h.sh hy hx, if_neg (by omega)] at e
        exact e
      · cases hm
  · intro hg
    have hgu := Sums.guard h hy hx hg
    have hb := at2_bits hg.1.1 y x
    have hcase : at2 g y x = 0 ∨ at2 g y x = 1 := by omega
    rcases hcase with h0 | h1
    · left
      have hc := hgu.1 h0
      rw [if_pos hc]
      refine (hk _ _ _ (h.white hc.1 hc.2) g).2 ⟨hg.1, fun i j hij => ?_⟩
      by_cases he : i = y ∧ j = x
      · rw [he.1, he.2, h0, hz]
      · exact hg.2 i j (by omega)
    · right
      have hc := hgu.2 h1
      rw [if_pos hc]
      refine (hk _ _ _ (h.black hy hx hc.1 hc.2) g).2 ⟨hg.1, fun i j hij => ?_⟩
      rw [at2_setC h.sh hy hx]
      by_cases he : i = y ∧ j = x
      · rw [if_pos he, he.1, he.2, h1]
      · rw [if_neg he]; exact hg.2 i j (by omega)
theorem pgo_mem (xs ys : List Int) (r c : Nat) (f : Nat) : ∀ (y x : Nat) (need : Int) (left : List Int) (m : List (List Int)), PInv xs ys r c y x need left m → y < r → x ≤ c → 1 ≤ c → r * (c + 1) ≤ f + (y * (c + 1) + x) →
    ∀ g, g ∈ pgo xs r c f y x need left m ↔ Goal xs ys r c y x m g := by
  induction f with
  | zero =>
    intro y x need left m _ hy hx _ hf
    have h1 : (y + 1) * (c + 1) ≤ r * (c + 1) := Nat.mul_le_mul_right _ hy
    rw [Nat.succ_mul] at h1
    omega
  | succ f ih =>
    intro y x need left m h hy hx hc1 hf g
    rw [pgo]
    by_cases hxc : x = c
    · subst hxc
      rw [if_pos rfl]
      have h0 := h.need0
      rw [if_neg (by omega)]
      by_cases hyr : y + 1 = r
      · rw [if_pos hyr, List.mem_singleton]
        constructor
        · rintro rfl
          refine ⟨⟨h.sh, fun i hi => ?_, fun j hj => ?_⟩, fun _ _ _ => rfl⟩
          · by_cases hiy : i < y
            · exact h.rows i hiy
            · obtain rfl : i = y := by omega
              have := h.needE; omega
          · obtain ⟨h1, h2⟩ := h.left0 j hj
            rw [if_pos hj] at h2
            have := h.leftE j hj
            omega
        · rintro ⟨⟨gs, -⟩, ga⟩
          exact gs.ext h.sh fun i j hi hj => ga i j (by omega)
      · rw [if_neg hyr]
        have hy1 : y + 1 < r := by omega
        have hf' : r * (x + 1) ≤ f + ((y + 1) * (x + 1) + (0 + 1)) := by rw [Nat.succ_mul]; omega
        rw [pcell_mem (h.next hy1) hy1 (by omega) (fun need' left' m' hi => ih (y + 1) (0 + 1) need' left' m' hi hy1 (by omega) hc1 hf') g]
        refine ⟨fun hg => ⟨hg.1, fun i j hij => ?_⟩, fun hg => ⟨hg.1, fun i j hij => ?_⟩⟩
        · by_cases hjx : i < y + 1
          · exact hg.2 i j (.inl hjx)
          · omega
        · by_cases hjx : i < y
          · exact hg.2 i j (.inl hjx)
          · obtain rfl : i = y := by omega
            by_cases hjc : j < x
            · exact hg.2 i j (.inr ⟨rfl, hjc⟩)
            · unfold at2
              rw [gD_none (l := g.getD i []) (by rw [(at2_row hg.1.1 hy).2]; omega), gD_none (l := m.getD i []) (by rw [(at2_row h.sh hy).2]; omega)]
    · rw [if_neg hxc]
      exact pcell_mem h hy (by omega) (fun need' left' m' hi => ih y (x + 1) need' left' m' hi hy (by omega) hc1 (by omega)) g
theorem pcell_sorted {xs ys : List Int} {r c y x : Nat} {need : Int} {left : List Int} {m : List (List Int)} {k : Nat → Nat → Int → List Int → List (List Int) → List (List (List Int))} (h : PInv xs ys r c y x need left m) (hy : y < r) (hx : x < c)
    (hk : ∀ need left m, PInv xs ys r c y (x + 1) need left m → ∀ g, g ∈ k y (x + 1) need left m ↔ Goal xs ys r c y (x + 1) m g)
    (hs : ∀ need left m, PInv xs ys r c y (x + 1) need left m → (k y (x + 1) need left m).Pairwise (GLt r c)) : (pcell r c k y x need left m).Pairwise (GLt r c) := by
  unfold pcell
  rw [List.pairwise_append]
  refine ⟨?_, ?_, ?_⟩
  · split
    · rename_i hc; exact hs _ _ _ (h.white hc.1 hc.2)
    · exact List.Pairwise.nil
  · split
    · rename_i hc; exact hs _ _ _ (h.black hy hx hc.1 hc.2)
    · exact List.Pairwise.nil
  · intro a ha b hb
    split at ha
    · split at hb
      · rename_i hc1 hc2
        have h1 := (hk _ _ _ (h.white hc1.1 hc1.2) a).1 ha
        have h2 := (hk _ _ _ (h.black hy hx hc2.1 hc2.2) b).1 hb
        refine ⟨y, x, hy, hx, fun i j hij => ?_, ?_⟩
        · rw [h1.2 i j (by omega), h2.2 i j (by omega), at2_setC h.sh hy hx, if_neg (by omega)]
        · rw [h1.2 y x (by omega), h2.2 y x (by omega), at2_setC h.sh hy hx, if_pos ⟨rfl, rfl⟩, h.zero y x (by omega)]
          decide
      · cases hb
    · cases ha
theorem pgo_sorted (xs ys : List Int) (r c : Nat) (f : Nat) : ∀ (y x : Nat) (need : Int) (left : List Int) (m : List (List Int)), PInv xs ys r c y x need left m → y < r → x ≤ c → 1 ≤ c → r * (c + 1) ≤ f + (y * (c + 1) + x) →
    (pgo xs r c f y x need left m).Pairwise (GLt r c) := by
  induction f with
  | zero => intro y x need left m _ _ _ _ _; exact List.Pairwise.nil
  | succ f ih =>
    intro y x need left m h hy hx hc1 hf
    rw [pgo]
    by_cases hxc : x = c
    · subst hxc
      rw [if_pos rfl]
      have h0 := h.need0
      rw [if_neg (by omega)]
      by_cases hyr : y + 1 = r
      · rw [if_pos hyr]; exact List.pairwise_singleton _ _
      · rw [if_neg hyr]
        have hy1 : y + 1 < r := by omega
        have hf' : r * (x + 1) ≤ f + ((y + 1) * (x + 1) + (0 + 1)) := by rw [Nat.succ_mul]; omega
        exact pcell_sorted (h.next hy1) hy1 (by omega) (fun need' left' m' hi => pgo_mem xs ys r x f (y + 1) (0 + 1) need' left' m' hi hy1 (by omega) hc1 hf') (fun need' left' m' hi => ih (y + 1) (0 + 1) need' left' m' hi hy1 (by omega) hc1 hf')
    · rw [if_neg hxc]
      exact pcell_sorted h hy (by omega) (fun need' left' m' hi => pgo_mem xs ys r c f y (x + 1) need' left' m' hi hy (by omega) hc1 (by omega)) (fun need' left' m' hi => ih y (x + 1) need' left' m' hi hy (by omega) hc1 (by omega))
theorem pgo_len (xs : List Int) (r c : Nat) (f : Nat) : ∀ (y x : Nat) (need : Int) (left : List Int) (m : List (List Int)), (pgo xs r c f y x need left m).length ≤ 2 ^ f := by
  induction f with
  | zero => intro y x need left m; simp [pgo]
  | succ f ih =>
    have key : ∀ (y x : Nat) (need : Int) (left : List Int) (m : List (List Int)), (pcell r c (pgo xs r c f) y x need left m).length ≤ 2 ^ (f + 1) := by
      intro y x need left m
      unfold pcell
      rw [List.length_append, Nat.pow_succ]
      have h1 : (if need ≤ (c : Int) - x - 1 ∧ left.getD x 0 ≤ (r : Int) - y - 1 then pgo xs r c f y (x + 1) need left m else []).length ≤ 2 ^ f := by
        split
        · exact ih _ _ _ _ _
        · simp
      have h2 : (if 0 < need ∧ 0 < left.getD x 0 then pgo xs r c f y (x + 1) (need - 1) (left.set x (left.getD x 0 - 1)) (setC m y x 1) else []).length ≤ 2 ^ f := by
        split
        · exact ih _ _ _ _ _
        · simp
      omega
    intro y x need left m
    rw [pgo]
    have hp : 1 ≤ 2 ^ (f + 1) := Nat.one_le_two_pow
    split
    · split
      · simp
      · split
        · simpa using hp
        · exact key _ _ _ _ _
    · exact key _ _ _ _ _
def sumsOk (xs ys : List Int) : Bool := inR 1 5 xs.length && inR 1 5 ys.length && xs.all (inR 0 ys.length) && ys.all (inR 0 xs.length) && decide (sumL xs = sumL ys)
def allImgs (xs ys : List Int) : List (List (List Int)) := pgo xs xs.length ys.length (xs.length * (ys.length + 1)) 0 0 (xs.getD 0 0) ys (zeros xs.length ys.length)
theorem sumsOk_bd {xs ys : List Int} (h : sumsOk xs ys = true) : 1 ≤ xs.length ∧ xs.length ≤ 5 ∧ 1 ≤ ys.length ∧ ys.length ≤ 5 ∧ (∀ i, 0 ≤ xs.getD i 0 ∧ xs.getD i 0 ≤ ys.length) ∧ (∀ j, 0 ≤ ys.getD j 0 ∧ ys.getD j 0 ≤ xs.length) ∧ sumL xs = sumL ys := by
  unfold sumsOk at h
  simp only [Bool.and_eq_true, decide_eq_true_eq, inR_iff] at h
  obtain ⟨⟨⟨⟨⟨a1, a2⟩, b1, b2⟩, h3⟩, h4⟩, h5⟩ := h
  have key : ∀ (l : List Int) (n : Nat), l.all (inR 0 n) = true → ∀ i, 0 ≤ l.getD i 0 ∧ l.getD i 0 ≤ n := by
    intro l n hl i
    rw [List.getD_eq_getElem?_getD]
    cases hi : l[i]? with
    | none => simp
    | some a =>
      have := List.all_eq_true.1 hl a (List.mem_of_getElem? hi)
      rw [inR_iff] at this
      exact this
  exact ⟨by omega, by omega, by omega, by omega, key _ _ h3, key _ _ h4, h5⟩
theorem at2_zeros (r c i j : Nat) : at2 (zeros r c) i j = 0 := by
  unfold at2 zeros
  by_cases hi : i < r
  · rw [gD_some (l := List.replicate r _) (x := List.replicate c 0) (by rw [List.getElem?_replicate, if_pos hi])]
    by_cases hj : j < c
    · exact gD_some (by rw [List.getElem?_replicate, if_pos hj])
    · exact gD_none (by rw [List.length_replicate]; omega)
  · rw [gD_none (l := List.replicate r _) (by rw [List.length_replicate]; omega)]; rfl
theorem pinv0 {xs ys : List Int} (h : sumsOk xs ys = true) : PInv xs ys xs.length ys.length 0 0 (xs.getD 0 0) ys (zeros xs.length ys.length) := by
  obtain ⟨h1, h2, h3, h4, h5, h6, h7⟩ := sumsOk_bd h
  have hsh : Shape xs.length ys.length (zeros xs.length ys.length) := shape_zeros _ _
  refine ⟨hsh, fun i j _ => at2_zeros _ _ _ _, fun i hi => by omega, ?_, rfl, fun j hj => ?_, ⟨(h5 0).1, by have := (h5 0).2; push_cast; omega⟩, fun j hj => ⟨(h6 j).1, by rw [if_neg (by omega)]; have := (h6 j).2; push_cast; omega⟩, fun i _ => h5 i⟩
  · rw [eSum_zero fun j => at2_zeros _ _ 0 j]; omega
  · have : colS (zeros xs.length ys.length) j = 0 := eSum_zero fun i => by rw [colS_at hsh]; exact at2_zeros _ _ _ _
    omega
theorem allImgs_mem {xs ys : List Int} (h : sumsOk xs ys = true) (g : List (List Int)) : g ∈ allImgs xs ys ↔ Sums xs ys xs.length ys.length g := by
  obtain ⟨h1, h2, h3, h4, -⟩ := sumsOk_bd h
  unfold allImgs
  rw [pgo_mem xs ys _ _ _ 0 0 _ _ _ (pinv0 h) (by omega) (by omega) h3 (by omega)]
  exact ⟨fun hg => hg.1, fun hg => ⟨hg, fun i j hij => by omega⟩⟩
theorem allImgs_sorted {xs ys : List Int} (h : sumsOk xs ys = true) : (allImgs xs ys).Pairwise (GLt xs.length ys.length) := by
  obtain ⟨h1, h2, h3, h4, -⟩ := sumsOk_bd h
  unfold allImgs
  exact pgo_sorted xs ys _ _ _ 0 0 _ _ _ (pinv0 h) (by omega) (by omega) h3 (by omega)
theorem allImgs_len (xs ys : List Int) : (allImgs xs ys).length ≤ 2 ^ (xs.length * (ys.length + 1)) := pgo_len _ _ _ _ _ _ _ _ _
def rs : Nat → (Nat → Int) → Int
  | 0, _ => 0
  | n + 1, f => rs n f + f n
theorem rs_congr {n : Nat} {f g : Nat → Int} (h : ∀ i, i < n → f i = g i) : rs n f = rs n g := by
  induction n with
  | zero => rfl
  | succ n ih => rw [rs, rs, ih (fun i hi => h i (by omega)), h n (by omega)]
theorem rs_le {n : Nat} {f g : Nat → Int} (h : ∀ i, i < n → f i ≤ g i) : rs n f ≤ rs n g := by
  induction n with
  | zero => exact Int.le_refl _
  | succ n ih => rw [rs, rs]; have := ih (fun i hi => h i (by omega)); have := h n (by omega); omega
theorem rs_add (n : Nat) (f g : Nat → Int) : rs n (fun i => f i + g i) = rs n f + rs n g := by
  induction n with
  | zero => rfl
  | succ n ih => rw [rs, rs, rs, ih]; omega
theorem rs_sub (n : Nat) (f g : Nat → Int) : rs n (fun i => f i - g i) = rs n f - rs n g := by
  induction n with
  | zero => rfl
  | succ n ih => rw [rs, rs, rs, ih]; omega
theorem rs_zero (n : Nat) : rs n (fun _ => 0) = 0 := by
  induction n with
  | zero => rfl
  | succ n ih => rw [rs, ih]; rfl
theorem rs_zero' {n : Nat} {f : Nat → Int} (h : ∀ i, i < n → f i = 0) : rs n f = 0 := (rs_congr h).trans (rs_zero n)
theorem rs_const (n : Nat) (k : Int) : rs n (fun _ => k) = n * k := by
  induction n with
  | zero => simp [rs]
  | succ n ih => rw [rs, ih, Int.natCast_succ, Int.add_mul]; omega
theorem rs_mul (n : Nat) (k : Int) (f : Nat → Int) : rs n (fun i => k * f i) = k * rs n f := by
  induction n with
  | zero => simp [rs]
  | succ n ih => rw [rs, rs, ih, Int.mul_add]
theorem rs_single {n i : Nat} (hi : i < n) (f : Nat → Int) : rs n (fun k => if k = i then f k else 0) = f i := by
  induction n with
  | zero => omega
  | succ n ih =>
    rw [rs]
    by_cases h : i = n
    · subst h
      rw [if_pos rfl, rs_zero' (fun k hk => if_neg (by omega))]; omega
    · rw [ih (by omega), if_neg (fun e => h e.symm)]; omega
theorem rs_comm (n m : Nat) (f : Nat → Nat → Int) : rs n (fun i => rs m (fun j => f i j)) = rs m (fun j => rs n (fun i => f i j)) := by
  induction n with
  | zero => rw [rs]; exact (rs_zero m).symm
  | succ n ih =>
    rw [rs, ih, ← rs_add]
    exact rs_congr fun j _ => by rw [rs]
theorem rs_nonneg {n : Nat} {f : Nat → Int} (h : ∀ i, i < n → 0 ≤ f i) : 0 ≤ rs n f := by
  have := rs_le (n := n) (f := fun _ => 0) (g := f) h
  rwa [rs_zero] at this
theorem rs_le1 {n i : Nat} (hi : i < n) {f : Nat → Int} (h : ∀ i, i < n → 0 ≤ f i) : f i ≤ rs n f := by
  have := rs_le (n := n) (f := fun k => if k = i then f k else 0) (g := f) (fun k hk => by split; exact Int.le_refl _; exact h k hk)
  rwa [rs_single hi] at this
theorem rs_pos {n : Nat} {f : Nat → Int} (h : 0 < rs n f) : ∃ i, i < n ∧ 0 < f i := by
  apply Classical.byContradiction
  intro hn
  have := rs_le (n := n) (f := f) (g := fun _ => 0) (fun i hi => by
    apply Classical.byContradiction; intro hlt; exact hn ⟨i, hi, by omega⟩)
  rw [rs_zero] at this
  omega
def gc (a b : Bool) (l u : Int) : Int := (if b && !a then l else 0) - (if a && !b then u else 0)
def need (r c : Nat) (R C : Nat → Int) (l u : Nat → Nat → Int) (A B : Nat → Bool) : Int :=
  rs r (fun i => if A i then R i else 0) - rs c (fun j => if B j then C j else 0) + rs r (fun i => rs c (fun j => gc (A i) (B j) (l i j) (u i j)))
def setF (f : Nat → Nat → Int) (i0 j0 : Nat) (v : Int) : Nat → Nat → Int := fun i j => if i = i0 ∧ j = j0 then v else f i j
theorem gc_super (a0 a1 b0 b1 : Bool) {l u : Int} (h : l ≤ u) : gc a0 b0 l u + gc a1 b1 l u ≤ gc (a0 || a1) (b0 || b1) l u + gc (a0 && a1) (b0 && b1) l u := by
  cases a0 <;> cases a1 <;> cases b0 <;> cases b1 <;> simp [gc] <;> omega
theorem gc_super1 (a0 a1 b0 b1 : Bool) : gc a0 b0 0 0 + gc a1 b1 1 1 - 1 ≤ gc (a0 || a1) (b0 || b1) 0 1 + gc (a0 && a1) (b0 && b1) 0 1 := by
  cases a0 <;> cases a1 <;> cases b0 <;> cases b1 <;> decide
theorem rs_one {r c i0 j0 : Nat} (hi : i0 < r) (hj : j0 < c) : rs r (fun i => rs c (fun j => if i = i0 ∧ j = j0 then (1 : Int) else 0)) = 1 := by
  have h1 : ∀ i, i < r → rs c (fun j => if i = i0 ∧ j = j0 then (1 : Int) else 0) = if i = i0 then 1 else 0 := by
    intro i _
    by_cases h : i = i0
    · rw [if_pos h]
      rw [rs_congr (g := fun j => if j = j0 then (1 : Int) else 0) (fun j _ => by simp [h])]
      exact rs_single hj (fun _ => 1)
    · rw [if_neg h]
      exact rs_zero' fun j _ => if_neg (fun e => h e.1)
  rw [rs_congr h1]
  exact rs_single hi (fun _ => 1)
theorem need_super {r c i0 j0 : Nat} (hi : i0 < r) (hj : j0 < c) {R C : Nat → Int} {l u : Nat → Nat → Int} (hlu : ∀ i j, i < r → j < c → l i j ≤ u i j) (hl : l i0 j0 = 0) (hu : u i0 j0 = 1) (A0 B0 A1 B1 : Nat → Bool) :
    need r c R C l (setF u i0 j0 0) A0 B0 + need r c R C (setF l i0 j0 1) u A1 B1 - 1 ≤
      need r c R C l u (fun i => A0 i || A1 i) (fun j => B0 j || B1 j) + need r c R C l u (fun i => A0 i && A1 i) (fun j => B0 j && B1 j) := by
  unfold need
  have e1 : rs r (fun i => if A0 i then R i else 0) + rs r (fun i => if A1 i then R i else 0) = rs r (fun i => if (A0 i || A1 i) then R i else 0) + rs r (fun i => if (A0 i && A1 i) then R i else 0) := by
    rw [← rs_add, ← rs_add]
    refine rs_congr fun i _ => ?_
    cases A0 i <;> cases A1 i <;> simp
  have e2 : rs c (fun i => if B0 i then C i else 0) + rs c (fun i => if B1 i then C i else 0) = rs c (fun i => if (B0 i || B1 i) then C i else 0) + rs c (fun i => if (B0 i && B1 i) then C i else 0) := by
    rw [← rs_add, ← rs_add]
    refine rs_congr fun i _ => ?_
    cases B0 i <;> cases B1 i <;> simp
  have e3 := rs_le (n := r) (f := fun i => rs c (fun j => gc (A0 i) (B0 j) (l i j) (setF u i0 j0 0 i j)) + rs c (fun j => gc (A1 i) (B1 j) (setF l i0 j0 1 i j) (u i j)) - rs c (fun j => if i = i0 ∧ j = j0 then (1 : Int) else 0))
    (g := fun i => rs c (fun j => gc (A0 i || A1 i) (B0 j || B1 j) (l i j) (u i j)) + rs c (fun j => gc (A0 i && A1 i) (B0 j && B1 j) (l i j) (u i j))) (fun i hir => by
      show rs c _ + rs c _ - rs c _ ≤ rs c _ + rs c _
      rw [← rs_add, ← rs_add, ← rs_sub]
      refine rs_le fun j hjc => ?_
      by_cases h : i = i0 ∧ j = j0
      · obtain ⟨rfl, rfl⟩ := h
        have := gc_super1 (A0 i) (A1 i) (B0 j) (B1 j)
        simp only [setF, and_self, if_true, hl, hu]
        omega
      · have := gc_super (A0 i) (A1 i) (B0 j) (B1 j) (hlu i j hir hjc)
        simp only [setF, if_neg h]
        omega)
  rw [rs_sub, rs_add, rs_add, rs_one hi hj] at e3
  show _ - _ + _ + (_ - _ + _) - 1 ≤ (_ - _ + _) + (_ - _ + _)
  dsimp only at e1 e2 e3 ⊢
  omega
theorem rs_bit {n i : Nat} (hi : i < n) {f g : Nat → Int} (h : ∀ k, k < n → k ≠ i → f k = g k) : rs n f = rs n g - g i + f i := by
  have h1 := rs_sub n f g
  have h2 : rs n (fun k => f k - g k) = rs n (fun k => if k = i then f k - g k else 0) := rs_congr fun k hk => by
    by_cases e : k = i
    · rw [if_pos e]
    · rw [if_neg e, h k hk e]; omega
  rw [rs_single hi (fun k => f k - g k)] at h2
  omega
theorem free_less {r c i0 j0 : Nat} (hi : i0 < r) (hj : j0 < c) (f : Nat → Nat → Int) (v : Int) : rs r (fun i => rs c (fun j => setF f i0 j0 v i j)) = rs r (fun i => rs c (fun j => f i j)) - f i0 j0 + v := by
  rw [rs_bit hi (g := fun i => rs c (fun j => f i j)) (fun k _ hne => rs_congr fun j _ => by simp only [setF]; rw [if_neg (fun e => hne e.1)])]
  rw [rs_bit hj (f := fun j => setF f i0 j0 v i0 j) (g := fun j => f i0 j) (fun k _ hne => by simp only [setF]; rw [if_neg (fun e => hne e.2)])]
  simp only [setF, and_self, if_true]
  omega
theorem flow (r c : Nat) (R C : Nat → Int) (hRC : rs r R = rs c C) : ∀ (n : Nat) (l u : Nat → Nat → Int), (∀ i j, i < r → j < c → 0 ≤ l i j ∧ l i j ≤ u i j ∧ u i j ≤ 1) → rs r (fun i => rs c (fun j => u i j)) - rs r (fun i => rs c (fun j => l i j)) ≤ n →
    (∃ x : Nat → Nat → Int, (∀ i j, i < r → j < c → l i j ≤ x i j ∧ x i j ≤ u i j) ∧ (∀ i, i < r → rs c (fun j => x i j) = R i) ∧ (∀ j, j < c → rs r (fun i => x i j) = C j)) ∨ ∃ A B, 0 < need r c R C l u A B := by
  intro n
  induction n with
  | zero =>
    intro l u hb hn
    have heq : ∀ i j, i < r → j < c → l i j = u i j := by
      intro i j hi hj
      rw [← rs_sub] at hn
      have h0 : ∀ i, i < r → 0 ≤ rs c (fun j => u i j) - rs c (fun j => l i j) := fun i hi => by
        have := rs_le (n := c) (f := fun j => l i j) (g := fun j => u i j) (fun j hj => (hb i j hi hj).2.1)
        omega
      have h1 := rs_le1 hi h0
      rw [← rs_sub] at h1
      have h2 := rs_le1 hj (f := fun j => u i j - l i j) (fun j hj => by have := hb i j hi hj; omega)
      have := hb i j hi hj
      omega
    by_cases hR : ∀ i, i < r → rs c (fun j => u i j) = R i
    · by_cases hC : ∀ j, j < c → rs r (fun i => u i j) = C j
      · exact .inl ⟨u, fun i j hi hj => ⟨(hb i j hi hj).2.1, Int.le_refl _⟩, hR, hC⟩
      · right
        obtain ⟨j0, hn⟩ := Classical.not_forall.1 hC
        rw [Classical.not_imp] at hn
        obtain ⟨hj, hne⟩ := hn
        by_cases hlt : rs r (fun i => u i j0) < C j0
        · refine ⟨fun _ => true, fun j => !(j == j0), ?_⟩
          unfold need
          have e1 : rs c (fun j => if !(j == j0) then C j else 0) = rs c C - C j0 + 0 := by
            have := rs_bit hj (f := fun j => if !(j == j0) then C j else 0) (g := C) (fun k _ hne => by simp [hne])
            simpa using this
          have e2 : rs r (fun i => rs c (fun j => gc true (!(j == j0)) (l i j) (u i j))) = rs r (fun i => 0 - u i j0) := by
            refine rs_congr fun i _ => ?_
            rw [← rs_single hj (fun j => 0 - u i j)]
            refine rs_congr fun j _ => ?_
            by_cases e : j = j0 <;> simp [gc, e]
          rw [e1, e2, rs_sub, rs_zero]
          simp only [if_true]
          have hRC' : rs r (fun i => R i) = rs c C := hRC
          omega
        · refine ⟨fun _ => false, fun j => j == j0, ?_⟩
          unfold need
          have e1 : rs c (fun j => if (j == j0) then C j else 0) = C j0 := by
            rw [← rs_single hj C]
            exact rs_congr fun j _ => by simp
          have e2 : rs r (fun i => rs c (fun j => gc false (j == j0) (l i j) (u i j))) = rs r (fun i => u i j0) := by
            refine rs_congr fun i hi => ?_
            rw [← heq i j0 hi hj, ← rs_single hj (fun j => l i j)]
            refine rs_congr fun j _ => ?_
            by_cases e : j = j0 <;> simp [gc, e]
          rw [e1, e2]
          simp only [Bool.false_eq_true, if_false]
          rw [rs_zero]
          omega
    · right
      obtain ⟨i0, hn⟩ := Classical.not_forall.1 hR
      rw [Classical.not_imp] at hn
      obtain ⟨hi, hne⟩ := hn
      by_cases hlt : rs c (fun j => u i0 j) < R i0
      · refine ⟨fun i => i == i0, fun _ => false, ?_⟩
        unfold need
        have e1 : rs r (fun i => if (i == i0) then R i else 0) = R i0 := by
          rw [← rs_single hi R]
          exact rs_congr fun j _ => by simp
        have e2 : rs r (fun i => rs c (fun j => gc (i == i0) false (l i j) (u i j))) = 0 - rs c (fun j => u i0 j) := by
          rw [← rs_single hi (fun i => 0 - rs c (fun j => u i j))]
          refine rs_congr fun i _ => ?_
          by_cases e : i = i0
          · rw [if_pos e, ← rs_zero c, ← rs_sub]
            exact rs_congr fun j _ => by simp [gc, e]
          · rw [if_neg e]
            exact rs_zero' fun j _ => by simp [gc, e]
        rw [e1, e2]
        simp only [Bool.false_eq_true, if_false]
        rw [rs_zero]
        omega
      · refine ⟨fun i => !(i == i0), fun _ => true, ?_⟩
        unfold need
        have e1 : rs r (fun i => if !(i == i0) then R i else 0) = rs r R - R i0 + 0 := by
          have := rs_bit hi (f := fun j => if !(j == i0) then R j else 0) (g := R) (fun k _ hne => by simp [hne])
          simpa using this
        have e2 : rs r (fun i => rs c (fun j => gc (!(i == i0)) true (l i j) (u i j))) = rs c (fun j => u i0 j) := by
          rw [← rs_single hi (fun i => rs c (fun j => u i j))]
          refine rs_congr fun i hi => ?_
          by_cases e : i = i0
          · rw [if_pos e]
            exact rs_congr fun j hj => by rw [← heq i j hi hj]; simp [gc, e]
          · rw [if_neg e]
            exact rs_zero' fun j _ => by simp [gc, e]
        rw [e1, e2]
        simp only [if_true]
        have hRC' : rs r R = rs c (fun i => C i) := hRC
        omega
  | succ n ih =>
    intro l u hb hn
    by_cases hfree : ∃ i j, i < r ∧ j < c ∧ l i j < u i j
    · obtain ⟨i0, j0, hi, hj, hlt⟩ := hfree
      have hbb := hb i0 j0 hi hj
      have hl : l i0 j0 = 0 := by omega
      have hu : u i0 j0 = 1 := by omega
      have f0 := free_less hi hj u 0
      have f1 := free_less hi hj l 1
      rcases ih l (setF u i0 j0 0) (fun i j hi hj => by
          simp only [setF]
          split
          · rename_i h; obtain ⟨rfl, rfl⟩ := h; omega
          · exact hb i j hi hj) (by rw [f0]; omega) with ⟨x, hx, h2, h3⟩ | ⟨A0, B0, hA⟩
      · refine .inl ⟨x, fun i j hi hj => ⟨(hx i j hi hj).1, ?_⟩, h2, h3⟩
        have := (hx i j hi hj).2
        simp only [setF] at this
        split at this
        · rename_i h; obtain ⟨rfl, rfl⟩ := h; omega
        · exact this
      rcases ih (setF l i0 j0 1) u (fun i j hi hj => by
          simp only [setF]
          split
          · rename_i h; obtain ⟨rfl, rfl⟩ := h; omega
          · exact hb i j hi hj) (by rw [f1]; omega) with ⟨x, hx, h2, h3⟩ | ⟨A1, B1, hA1⟩
      · refine .inl ⟨x, fun i j hi hj => ⟨?_, (hx i j hi hj).2⟩, h2, h3⟩
        have := (hx i j hi hj).1
        simp only [setF] at this
        split at this
        · rename_i h; obtain ⟨rfl, rfl⟩ := h; omega
        · exact this
      right
      have hs := need_super hi hj (R := R) (C := C) (fun i j hi hj => (hb i j hi hj).2.1) hl hu A0 B0 A1 B1
      by_cases h : 0 < need r c R C l u (fun i => A0 i || A1 i) (fun j => B0 j || B1 j)
      · exact ⟨_, _, h⟩
      · exact ⟨_, _, show 0 < need r c R C l u (fun i => A0 i && A1 i) (fun j => B0 j && B1 j) by omega⟩
    · have heq : rs r (fun i => rs c (fun j => u i j)) ≤ rs r (fun i => rs c (fun j => l i j)) := rs_le fun i hi => rs_le fun j hj => by
        apply Classical.byContradiction
        intro h
        exact hfree ⟨i, j, hi, hj, by omega⟩
      exact ih l u hb (by omega)
theorem rs_head (n : Nat) (f : Nat → Int) : rs (n + 1) f = f 0 + rs n (fun i => f (i + 1)) := by
  induction n with
  | zero => simp [rs]
  | succ n ih => rw [rs, ih, rs]; omega
theorem sumL_rs (l : List Int) : sumL l = rs l.length (fun i => l.getD i 0) := by
  induction l with
  | nil => rfl
  | cons a l ih =>
    rw [eSum_cons, List.length_cons, rs_head, ih]
    simp
theorem sumL_map_range (n : Nat) (f : Nat → Int) : sumL ((List.range n).map f) = rs n f := by
  rw [sumL_rs, List.length_map, List.length_range]
  exact rs_congr fun i hi => gD_some (by rw [List.getElem?_map, List.getElem?_range hi]; rfl)
theorem sumL_map_add {α : Type} (l : List α) (f g : α → Int) : sumL (l.map fun x => f x + g x) = sumL (l.map f) + sumL (l.map g) := by
  induction l with
  | nil => rfl
  | cons a l ih => simp only [List.map_cons, eSum_cons, ih]; omega
theorem sumL_map_le {α : Type} {l : List α} {f g : α → Int} (h : ∀ x ∈ l, f x ≤ g x) : sumL (l.map f) ≤ sumL (l.map g) := by
  induction l with
  | nil => exact Int.le_refl _
  | cons a l ih =>
    simp only [List.map_cons, eSum_cons]
    have := ih (fun x hx => h x (List.mem_cons_of_mem _ hx))
    have := h a (by simp)
    omega
theorem sumL_perm {a b : List Int} (h : a.Perm b) : sumL a = sumL b := by
  induction h with
  | nil => rfl
  | cons x _ ih => rw [eSum_cons, eSum_cons, ih]
  | swap x y l => rw [eSum_cons, eSum_cons, eSum_cons, eSum_cons]; omega
  | trans _ _ h1 h2 => rw [h1, h2]
theorem sumL_const {α : Type} (l : List α) (k : Int) : sumL (l.map fun _ => k) = l.length * k := by
  induction l with
  | nil => simp [eSum_nil]
  | cons a l ih => rw [List.map_cons, eSum_cons, ih, List.length_cons, Int.natCast_succ, Int.add_mul]; omega
def imgFn (r c : Nat) (x : Nat → Nat → Int) : List (List Int) := (List.range r).map fun i => (List.range c).map fun j => x i j
theorem imgFn_shape {r c : Nat} {x : Nat → Nat → Int} (h : ∀ i j, i < r → j < c → 0 ≤ x i j ∧ x i j ≤ 1) : Shape r c (imgFn r c x) := by
  refine ⟨by simp [imgFn], fun row hr => ?_⟩
  obtain ⟨i, hi, rfl⟩ := List.mem_map.1 hr
  refine ⟨by simp, fun z hz => ?_⟩
  obtain ⟨j, hj, rfl⟩ := List.mem_map.1 hz
  exact h i j (List.mem_range.1 hi) (List.mem_range.1 hj)
theorem imgFn_at {r c i j : Nat} {x : Nat → Nat → Int} (hi : i < r) (hj : j < c) : at2 (imgFn r c x) i j = x i j := by
  unfold at2 imgFn
  rw [gD_some (l := (List.range r).map _) (x := (List.range c).map fun j => x i j) (by rw [List.getElem?_map, List.getElem?_range hi]; rfl)]
  exact gD_some (by rw [List.getElem?_map, List.getElem?_range hj]; rfl)
theorem row_rs {m : List (List Int)} {r c i : Nat} (h : Shape r c m) (hi : i < r) : sumL (m.getD i []) = rs c (fun j => at2 m i j) := by
  rw [sumL_rs, (at2_row h hi).2]; rfl
theorem col_rs {m : List (List Int)} {r c : Nat} (h : Shape r c m) (j : Nat) : colS m j = rs r (fun i => at2 m i j) := by
  unfold colS
  rw [sumL_rs, List.length_map, h.1]
  exact rs_congr fun i _ => colS_at h i
theorem sums_iff {xs ys : List Int} {r c : Nat} {g : List (List Int)} : Sums xs ys r c g ↔ Shape r c g ∧ (∀ i, i < r → rs c (fun j => at2 g i j) = xs.getD i 0) ∧ ∀ j, j < c → rs r (fun i => at2 g i j) = ys.getD j 0 := by
  unfold Sums
  constructor
  · rintro ⟨h1, h2, h3⟩
    exact ⟨h1, fun i hi => by rw [← row_rs h1 hi]; exact h2 i hi, fun j hj => by rw [← col_rs h1]; exact h3 j hj⟩
  · rintro ⟨h1, h2, h3⟩
    exact ⟨h1, fun i hi => by rw [row_rs h1 hi]; exact h2 i hi, fun j hj => by rw [col_rs h1]; exact h3 j hj⟩
abbrev fn1 (l : List Int) : Nat → Int := fun i => l.getD i 0
theorem flowImg {xs ys : List Int} (hs : sumL xs = sumL ys) {l u : Nat → Nat → Int} (hb : ∀ i j, i < xs.length → j < ys.length → 0 ≤ l i j ∧ l i j ≤ u i j ∧ u i j ≤ 1) :
    (∃ g, Sums xs ys xs.length ys.length g ∧ ∀ i j, i < xs.length → j < ys.length → l i j ≤ at2 g i j ∧ at2 g i j ≤ u i j) ∨ ∃ A B, 0 < need xs.length ys.length (fn1 xs) (fn1 ys) l u A B := by
  have h0 : rs xs.length (fn1 xs) = rs ys.length (fn1 ys) := by rw [← sumL_rs, ← sumL_rs]; exact hs
  rcases flow xs.length ys.length (fn1 xs) (fn1 ys) h0 _ l u hb (Int.self_le_toNat _) with ⟨x, h1, h2, h3⟩ | h
  · left
    have hsh : Shape xs.length ys.length (imgFn xs.length ys.length x) := imgFn_shape fun i j hi hj => by have := hb i j hi hj; have := h1 i j hi hj; omega
    refine ⟨imgFn xs.length ys.length x, sums_iff.2 ⟨hsh, fun i hi => ?_, fun j hj => ?_⟩, fun i j hi hj => by rw [imgFn_at hi hj]; exact h1 i j hi hj⟩
    · rw [rs_congr fun j hj => imgFn_at hi hj]; exact h2 i hi
    · rw [rs_congr fun i hi => imgFn_at hi hj]; exact h3 j hj
  · exact .inr h
def desc (l : List Int) : Prop := l.Pairwise (fun a b => b ≤ a)
def insD (x : Int) : List Int → List Int
  | [] => [x]
  | a :: l => if x ≤ a then a :: insD x l else x :: a :: l
def sortD (l : List Int) : List Int := l.foldl (fun acc x => insD x acc) []
theorem insD_perm (x : Int) (l : List Int) : (insD x l).Perm (x :: l) := by
  induction l with
  | nil => exact List.Perm.refl _
  | cons a l ih =>
    unfold insD
    split
    · exact (List.Perm.cons a ih).trans (List.Perm.swap x a l)
    · exact List.Perm.refl _
theorem insD_desc {x : Int} {l : List Int} (h : desc l) : desc (insD x l) := by
  induction l with
  | nil => exact List.pairwise_singleton _ _
  | cons a l ih =>
    unfold desc at h ⊢
    rw [List.pairwise_cons] at h
    unfold insD
    split
    · rename_i hxa
      rw [List.pairwise_cons]
      refine ⟨fun b hb => ?_, ih h.2⟩
      rcases List.mem_cons.1 ((insD_perm x l).mem_iff.1 hb) with rfl | hb
      · exact hxa
      · exact h.1 b hb
    · rename_i hxa
      rw [List.pairwise_cons, List.pairwise_cons]
      refine ⟨fun b hb => ?_, h⟩
      rcases List.mem_cons.1 hb with rfl | hb
      · omega
      · have := h.1 b hb; omega
theorem sortD_acc (l acc : List Int) : (l.foldl (fun acc x => insD x acc) acc).Perm (acc ++ l) ∧ (desc acc → desc (l.foldl (fun acc x => insD x acc) acc)) := by
  induction l generalizing acc with
  | nil => simp
  | cons a l ih =>
    obtain ⟨h1, h2⟩ := ih (insD a acc)
    refine ⟨h1.trans ?_, fun h => h2 (insD_desc h)⟩
    exact ((insD_perm a acc).append_right l).trans List.perm_middle.symm
theorem sortD_perm (l : List Int) : (sortD l).Perm l := (sortD_acc l []).1
theorem sortD_desc (l : List Int) : desc (sortD l) := (sortD_acc l []).2 List.Pairwise.nil
theorem sortD_len (l : List Int) : (sortD l).length = l.length := (sortD_perm l).length_eq
theorem desc_eq {a b : List Int} (h : a.Perm b) (h1 : desc a) (h2 : desc b) : a = b := by
  induction a generalizing b with
  | nil => exact (List.nil_perm.1 h).symm
  | cons x a ih =>
    cases b with
    | nil => simp at h
    | cons y b =>
      unfold desc at h1 h2
      rw [List.pairwise_cons] at h1 h2
      have hx : y ≤ x := by
        rcases List.mem_cons.1 (h.symm.mem_iff.1 (List.mem_cons_self (a := y) (l := b))) with e | hm
        · omega
        · exact h1.1 y hm
      have hy : x ≤ y := by
        rcases List.mem_cons.1 (h.mem_iff.1 (List.mem_cons_self (a := x) (l := a))) with e | hm
        · omega
        · exact h2.1 x hm
      have e : x = y := by omega
      subst e
      rw [ih h.cons_inv h1.2 h2.2]
theorem sortD_eq {a l : List Int} (h : a.Perm l) (hd : desc a) : a = sortD l := desc_eq (h.trans (sortD_perm l).symm) hd (sortD_desc l)
theorem sub_of_perm {a b l : List Int} (h : List.Perm (a ++ b) l) : ∃ s : List Int, s.Sublist l ∧ s.Perm a := by
  induction l generalizing a b with
  | nil =>
    have := List.perm_nil.1 h
    exact ⟨[], List.Sublist.refl _, by rw [(List.append_eq_nil_iff.1 this).1]⟩
  | cons y l ih =>
    by_cases hy : y ∈ a
    · have h1 := List.perm_cons_erase hy
      have h2 : (y :: (a.erase y ++ b)).Perm (y :: l) := ((h1.append_right b).symm).trans h
      obtain ⟨s, hs, hp⟩ := ih h2.cons_inv
      exact ⟨y :: s, hs.cons_cons y, (List.Perm.cons y hp).trans h1.symm⟩
    · have hyb : y ∈ b := by
        have := h.symm.mem_iff.1 (List.mem_cons_self (a := y) (l := l))
        exact (List.mem_append.1 this).resolve_left hy
      have h1 := List.perm_cons_erase hyb
      have h2 : (y :: (a ++ b.erase y)).Perm (y :: l) := (List.perm_middle.symm.trans ((h1.append_left a).symm)).trans h
      obtain ⟨s, hs, hp⟩ := ih h2.cons_inv
      exact ⟨s, hs.cons y, hp⟩
theorem mask_of_sub {s l : List Int} (h : s.Sublist l) : ∃ T : Nat → Bool, rs l.length (fun j => if T j then 1 else 0) = s.length ∧ rs l.length (fun j => if T j then l.getD j 0 else 0) = sumL s := by
  induction h with
  | slnil => exact ⟨fun _ => false, rfl, rfl⟩
  | @cons s l a h ih =>
    obtain ⟨T, h1, h2⟩ := ih
    refine ⟨fun j => match j with | 0 => false | j + 1 => T j, ?_, ?_⟩
    · rw [List.length_cons, rs_head]; simpa using h1
    · rw [List.length_cons, rs_head]; simp only [List.getD_cons_zero, List.getD_cons_succ, Bool.false_eq_true, if_false]; omega
  | @cons_cons s l a h ih =>
    obtain ⟨T, h1, h2⟩ := ih
    refine ⟨fun j => match j with | 0 => true | j + 1 => T j, ?_, ?_⟩
    · rw [List.length_cons, rs_head, List.length_cons]; simp; omega
    · rw [List.length_cons, rs_head, eSum_cons]; simp only [List.getD_cons_zero, List.getD_cons_succ, if_true]; omega
theorem top_mask (ys : List Int) {k : Nat} (hk : k ≤ ys.length) : ∃ T : Nat → Bool, rs ys.length (fun j => if T j then 1 else 0) = k ∧ rs ys.length (fun j => if T j then ys.getD j 0 else 0) = sumL ((sortD ys).take k) := by
  have h : ((sortD ys).take k ++ (sortD ys).drop k).Perm ys := by rw [List.take_append_drop]; exact sortD_perm ys
  obtain ⟨s, hs, hp⟩ := sub_of_perm h
  obtain ⟨T, h1, h2⟩ := mask_of_sub hs
  refine ⟨T, ?_, ?_⟩
  · rw [h1, hp.length_eq, List.length_take, sortD_len, Nat.min_eq_left hk]
  · rw [h2, sumL_perm hp]
theorem top_max (ys : List Int) {k : Nat} (hk : k ≤ ys.length) (T : Nat → Bool) (hT : rs ys.length (fun j => if T j then 1 else 0) = k) : rs ys.length (fun j => if T j then ys.getD j 0 else 0) ≤ sumL ((sortD ys).take k) := by
  cases k with
  | zero =>
    have h0 : ∀ j, j < ys.length → T j = false := by
      intro j hj
      have := rs_le1 hj (f := fun j => if T j then 1 else 0) (fun i _ => by split <;> decide)
      rw [hT] at this
      cases h : T j
      · rfl
      · rw [h] at this; simp at this
    rw [rs_zero' fun j hj => by rw [h0 j hj]; rfl]
    simp [eSum_nil]
  | succ k =>
    have hlen : k < (sortD ys).length := by rw [sortD_len]; omega
    obtain ⟨t, ht⟩ : ∃ t, t = (sortD ys)[k] := ⟨_, rfl⟩
    have hd := sortD_desc ys
    have e1 : rs ys.length (fun j => if T j then ys.getD j 0 else 0) ≤ rs ys.length (fun j => max (ys.getD j 0 - t) 0 + t * (if T j then 1 else 0)) := rs_le fun j _ => by
      cases T j <;> simp <;> omega
    rw [rs_add, rs_mul, hT] at e1
    have e2 : rs ys.length (fun j => max (ys.getD j 0 - t) 0) = sumL (ys.map fun y => max (y - t) 0) := by
      rw [sumL_rs, List.length_map]
      refine rs_congr fun j hj => ?_
      have h1 := List.getElem?_eq_getElem hj
      rw [gD_some h1, gD_some (x := max (ys[j] - t) 0)]
      rw [List.getElem?_map, h1]; rfl
    have e3 : sumL (ys.map fun y => max (y - t) 0) = sumL ((sortD ys).map fun y => max (y - t) 0) := (sumL_perm ((sortD_perm ys).map _)).symm
    have e4 : (sortD ys).map (fun y => max (y - t) 0) = ((sortD ys).take (k + 1)).map (fun y => max (y - t) 0) ++ ((sortD ys).drop (k + 1)).map (fun y => max (y - t) 0) := by rw [← List.map_append, List.take_append_drop]
    unfold desc at hd
    rw [List.pairwise_iff_getElem] at hd
    have hpre : ∀ y ∈ (sortD ys).take (k + 1), t ≤ y := by
      intro y hy
      obtain ⟨i, hi, rfl⟩ := List.getElem_of_mem hy
      rw [List.length_take] at hi
      rw [List.getElem_take, ht]
      by_cases hik : i = k
      · subst hik; exact Int.le_refl _
      · exact hd i k (by omega) hlen (by omega)
    have hpost : ∀ y ∈ (sortD ys).drop (k + 1), y ≤ t := by
      intro y hy
      obtain ⟨i, hi, rfl⟩ := List.getElem_of_mem hy
      rw [List.length_drop] at hi
      rw [List.getElem_drop, ht]
      exact hd k (k + 1 + i) hlen (by omega) (by omega)
    have e5 : sumL (((sortD ys).take (k + 1)).map fun y => max (y - t) 0) + ((k + 1 : Nat) : Int) * t ≤ sumL ((sortD ys).take (k + 1)) := by
      have h1 := sumL_map_le (l := (sortD ys).take (k + 1)) (f := fun y => max (y - t) 0 + t) (g := fun y => y) (fun y hy => by have := hpre y hy; simp; omega)
      rw [sumL_map_add, sumL_const, List.length_take, Nat.min_eq_left (by omega)] at h1
      simpa using h1
    have e6 : sumL (((sortD ys).drop (k + 1)).map fun y => max (y - t) 0) ≤ 0 := by
      have h1 := sumL_map_le (l := (sortD ys).drop (k + 1)) (f := fun y => max (y - t) 0) (g := fun _ => 0) (fun y hy => by have := hpost y hy; simp; omega)
      rw [sumL_const] at h1
      simpa using h1
    rw [e4, eSum_append] at e3
    rw [Int.mul_comm] at e1
    omega
def conjOf (xs : List Int) (n : Nat) : List Int := (List.range n).map fun k : Nat => ((xs.filter fun x => decide ((k : Int) < x)).length : Int)
def mostL (xs : List Int) (k : Nat) : Int := sumL (xs.map fun x => min x k)
theorem conj_count {x : Int} (hx : 0 ≤ x) (k : Nat) : rs k (fun i => if (i : Int) < x then 1 else 0) = min x k := by
  induction k with
  | zero => simp [rs]; omega
  | succ k ih =>
    rw [rs, ih]
    split <;> omega
theorem conj_take {xs : List Int} (h : ∀ x ∈ xs, 0 ≤ x) {k n : Nat} (hk : k ≤ n) : sumL ((conjOf xs n).take k) = mostL xs k := by
  have e : (conjOf xs n).take k = (List.range k).map fun k : Nat => ((xs.filter fun x => decide ((k : Int) < x)).length : Int) := by
    unfold conjOf
    rw [← List.map_take, List.take_range, Nat.min_eq_left hk]
  rw [e, sumL_map_range]
  unfold mostL
  clear e
  induction xs with
  | nil => simp [rs_zero, eSum_nil]
  | cons a xs ih =>
    rw [List.map_cons, eSum_cons, ← ih (fun x hx => h x (List.mem_cons_of_mem _ hx)), ← conj_count (h a (by simp)) k, ← rs_add]
    refine rs_congr fun i _ => ?_
    rw [List.filter_cons]
    by_cases hi : (i : Int) < a
    · simp [hi]; omega
    · simp [hi]
theorem mostL_rs (xs : List Int) (k : Nat) : mostL xs k = rs xs.length (fun i => min (xs.getD i 0) k) := by
  unfold mostL
  rw [sumL_rs, List.length_map]
  refine rs_congr fun i hi => ?_
  have h1 := List.getElem?_eq_getElem hi
  rw [gD_some h1, gD_some (x := min xs[i] k)]
  rw [List.getElem?_map, h1]; rfl
def tooMuch (xs ys : List Int) (k : Nat) : Prop := mostL xs k < sumL ((sortD ys).take k)
theorem gr_no {xs ys : List Int} {g : List (List Int)} (hg : Sums xs ys xs.length ys.length g) {k : Nat} (hk : k ≤ ys.length) : ¬ tooMuch xs ys k := by
  obtain ⟨h1, h2, h3⟩ := sums_iff.1 hg
  obtain ⟨T, hT, hS⟩ := top_mask ys hk
  unfold tooMuch
  rw [← hS, mostL_rs]
  have e1 : rs ys.length (fun j => if T j then ys.getD j 0 else 0) = rs xs.length (fun i => rs ys.length (fun j => if T j then at2 g i j else 0)) := by
    rw [rs_comm]
    exact rs_congr fun j hj => by
      cases T j
      · simp [rs_zero]
      · simp [h3 j hj]
  rw [e1, Int.not_lt]
  refine rs_le fun i hi => ?_
  have a1 : rs ys.length (fun j => if T j then at2 g i j else 0) ≤ rs ys.length (fun j => at2 g i j) := rs_le fun j _ => by
    have := at2_bits h1 i j
    cases T j <;> simp <;> omega
  have a2 : rs ys.length (fun j => if T j then at2 g i j else 0) ≤ rs ys.length (fun j => if T j then 1 else 0) := rs_le fun j _ => by
    have := at2_bits h1 i j
    cases T j <;> simp; omega
  rw [h2 i hi] at a1
  rw [hT] at a2
  omega
theorem gr_yes {xs ys : List Int} (hs : sumL xs = sumL ys) (h : ∀ k, 1 ≤ k → k ≤ ys.length → ¬ tooMuch xs ys k) (hx : ∀ i, 0 ≤ xs.getD i 0) : ∃ g, Sums xs ys xs.length ys.length g := by
  rcases flowImg hs (l := fun _ _ => 0) (u := fun _ _ => 1) (fun _ _ _ _ => by decide) with ⟨g, hg, -⟩ | ⟨A, B, hn⟩
  · exact ⟨g, hg⟩
  exfalso
  unfold need at hn
  obtain ⟨k, hk⟩ : ∃ k : Nat, rs ys.length (fun j => if B j then 0 else 1) = k := ⟨(rs ys.length (fun j => if B j then 0 else 1)).toNat, (Int.toNat_of_nonneg (rs_nonneg fun j _ => by split <;> decide)).symm⟩
  have hkl : k ≤ ys.length := by
    have := rs_le (n := ys.length) (f := fun j => if B j then 0 else 1) (g := fun _ => 1) (fun j _ => by split <;> decide)
    rw [rs_const, hk] at this; omega
  have e1 : rs xs.length (fun i => rs ys.length (fun j => gc (A i) (B j) 0 1)) = 0 - rs xs.length (fun i => if A i then (k : Int) else 0) := by
    have : rs xs.length (fun i => rs ys.length (fun j => gc (A i) (B j) 0 1)) = rs xs.length (fun i => 0 - if A i then (k : Int) else 0) := rs_congr fun i _ => by
      cases hA : A i
      · simp [gc, rs_zero]
      · rw [if_pos rfl, ← hk, ← rs_zero ys.length, ← rs_sub]
        refine rs_congr fun j _ => ?_
        cases B j <;> simp [gc, rs_zero]
    rw [this, rs_sub, rs_zero]
  have e2 : rs ys.length (fun j => if (!B j) then ys.getD j 0 else 0) = rs ys.length (fn1 ys) - rs ys.length (fun j => if B j then fn1 ys j else 0) := by
    rw [← rs_sub]
    refine rs_congr fun j _ => ?_
    cases B j <;> simp
  have e3 : rs xs.length (fun i => if A i then (k : Int) else fn1 xs i) = rs xs.length (fn1 xs) - rs xs.length (fun i => if A i then fn1 xs i else 0) + rs xs.length (fun i => if A i then (k : Int) else 0) := by
    rw [← rs_sub, ← rs_add]
    refine rs_congr fun j _ => ?_
    cases A j <;> simp
  have e4 : mostL xs k ≤ rs xs.length (fun i => if A i then (k : Int) else fn1 xs i) := by
    rw [mostL_rs]
    exact rs_le fun i _ => by show _ ≤ (if A i then (k : Int) else xs.getD i 0); split <;> omega
  have e5 := top_max ys hkl (fun j => !B j) (by rw [← hk]; exact rs_congr fun j _ => by cases B j <;> rfl)
  have e6 : rs xs.length (fn1 xs) = rs ys.length (fn1 ys) := by rw [← sumL_rs, ← sumL_rs]; exact hs
  rw [e1] at hn
  have hgt : tooMuch xs ys k := by unfold tooMuch; omega
  by_cases h0 : k = 0
  · subst h0
    unfold tooMuch at hgt
    have : 0 ≤ mostL xs 0 := by
      rw [mostL_rs]
      exact rs_nonneg fun i _ => by have := hx i; omega
    simp [eSum_nil] at hgt
    omega
  · exact h k (by omega) hkl hgt
abbrev Sw := Nat × Nat × Nat × Nat
abbrev Sw.y1 (s : Sw) : Nat := s.1
abbrev Sw.y2 (s : Sw) : Nat := s.2.1
abbrev Sw.x1 (s : Sw) : Nat := s.2.2.1
abbrev Sw.x2 (s : Sw) : Nat := s.2.2.2
def flipC (g : List (List Int)) (y x : Nat) : List (List Int) := setC g y x (1 - at2 g y x)
def applyS (g : List (List Int)) (s : Sw) : List (List Int) := flipC (flipC (flipC (flipC g s.y1 s.x1) s.y1 s.x2) s.y2 s.x1) s.y2 s.x2
def SwOk (r c : Nat) (g : List (List Int)) (s : Sw) : Prop := s.y1 < s.y2 ∧ s.y2 < r ∧ s.x1 < s.x2 ∧ s.x2 < c ∧ at2 g s.y1 s.x1 = at2 g s.y2 s.x2 ∧ at2 g s.y1 s.x2 = at2 g s.y2 s.x1 ∧ at2 g s.y1 s.x1 ≠ at2 g s.y1 s.x2
instance (r c : Nat) (g : List (List Int)) (s : Sw) : Decidable (SwOk r c g s) := by unfold SwOk; infer_instance
theorem flipC_shape {r c y x : Nat} {g : List (List Int)} (h : Shape r c g) (hy : y < r) : Shape r c (flipC g y x) := by
  have := at2_bits h y x
  exact setC_shape h hy (by omega) (by omega)
theorem flipC_at {r c y x : Nat} {g : List (List Int)} (h : Shape r c g) (hy : y < r) (hx : x < c) (i j : Nat) : at2 (flipC g y x) i j = if i = y ∧ j = x then 1 - at2 g i j else at2 g i j := by
  unfold flipC
  rw [at2_setC h hy hx]
  split
  · rename_i e; rw [e.1, e.2]
  · rfl
theorem applyS_shape {r c : Nat} {g : List (List Int)} {s : Sw} (h : Shape r c g) (hs : SwOk r c g s) : Shape r c (applyS g s) := by
  obtain ⟨h1, h2, h3, h4, -⟩ := hs
  exact flipC_shape (flipC_shape (flipC_shape (flipC_shape h (by omega)) (by omega)) h2) h2
theorem applyS_at {r c : Nat} {g : List (List Int)} {s : Sw} (h : Shape r c g) (hs : SwOk r c g s) (i j : Nat) : at2 (applyS g s) i j = if (i = s.y1 ∨ i = s.y2) ∧ (j = s.x1 ∨ j = s.x2) then 1 - at2 g i j else at2 g i j := by
  obtain ⟨h1, h2, h3, h4, -⟩ := hs
  have a1 := flipC_shape (x := s.x1) h (show s.y1 < r by omega)
  have a2 := flipC_shape (x := s.x2) a1 (show s.y1 < r by omega)
  have a3 := flipC_shape (x := s.x1) a2 h2
  unfold applyS
  rw [flipC_at a3 h2 h4, flipC_at a2 h2 (by omega), flipC_at a1 (by omega) h4, flipC_at h (by omega) (by omega)]
  by_cases e1 : i = s.y1
  · by_cases e2 : j = s.x1
    · rw [if_neg (by omega), if_neg (by omega), if_neg (by omega), if_pos (by omega), if_pos (by omega)]
    · by_cases e3 : j = s.x2
      · rw [if_neg (by omega), if_neg (by omega), if_pos (by omega), if_neg (by omega), if_pos (by omega)]
      · rw [if_neg (by omega), if_neg (by omega), if_neg (by omega), if_neg (by omega), if_neg (by omega)]
  · by_cases e4 : i = s.y2
    · by_cases e2 : j = s.x1
      · rw [if_neg (by omega), if_pos (by omega), if_neg (by omega), if_neg (by omega), if_pos (by omega)]
      · by_cases e3 : j = s.x2
        · rw [if_pos (by omega), if_neg (by omega), if_neg (by omega), if_neg (by omega), if_pos (by omega)]
        · rw [if_neg (by omega), if_neg (by omega), if_neg (by omega), if_neg (by omega), if_neg (by omega)]
    · rw [if_neg (by omega), if_neg (by omega), if_neg (by omega), if_neg (by omega), if_neg (by omega)]
theorem applyS_ok {r c : Nat} {g : List (List Int)} {s : Sw} (h : Shape r c g) (hs : SwOk r c g s) : SwOk r c (applyS g s) s := by
  have hs' := hs
  obtain ⟨h1, h2, h3, h4, h5, h6, h7⟩ := hs
  refine ⟨h1, h2, h3, h4, ?_⟩
  rw [applyS_at h hs', applyS_at h hs', applyS_at h hs', applyS_at h hs', if_pos (by omega), if_pos (by omega), if_pos (by omega), if_pos (by omega)]
  exact ⟨by omega, by omega, by omega⟩
theorem applyS_twice {r c : Nat} {g : List (List Int)} {s : Sw} (h : Shape r c g) (hs : SwOk r c g s) : applyS (applyS g s) s = g := by
  have h1 := applyS_shape h hs
  have h2 := applyS_ok h hs
  refine (applyS_shape h1 h2).ext h fun i j _ _ => ?_
  show at2 _ i j = at2 g i j
  rw [applyS_at h1 h2, applyS_at h hs]
  split <;> omega
theorem rs_two {n a b : Nat} (ha : a < n) (hb : b < n) (hne : a ≠ b) {f g : Nat → Int} (h : ∀ k, k < n → k ≠ a → k ≠ b → f k = g k) (hab : f a + f b = g a + g b) : rs n f = rs n g := by
  have h1 := rs_bit ha (f := f) (g := fun k => if k = a then g a else f k) (fun k _ hk => by rw [if_neg hk])
  have h2 := rs_bit hb (f := fun k => if k = a then g a else f k) (g := g) (fun k hk hkb => by
    try dsimp only
    by_cases e : k = a
    · rw [if_pos e, e]
    · rw [if_neg e]; exact h k hk e hkb)
  try dsimp only at h1 h2
  rw [if_pos rfl] at h1
  rw [if_neg (fun e => hne e.symm)] at h2
  omega
theorem applyS_sums {xs ys : List Int} {r c : Nat} {g : List (List Int)} {s : Sw} (h : Sums xs ys r c g) (hs : SwOk r c g s) : Sums xs ys r c (applyS g s) := by
  obtain ⟨hsh, hr, hc⟩ := sums_iff.1 h
  have hs' := hs
  obtain ⟨h1, h2, h3, h4, h5, h6, h7⟩ := hs
  have b1 := at2_bits hsh s.y1 s.x1
  have b2 := at2_bits hsh s.y1 s.x2
  refine sums_iff.2 ⟨applyS_shape hsh hs', fun i hi => ?_, fun j hj => ?_⟩
  · rw [← hr i hi]
    refine rs_two (show s.x1 < c by omega) h4 (by omega) (fun k _ e1 e2 => by rw [applyS_at hsh hs', if_neg (by omega)]) ?_
    rw [applyS_at hsh hs', applyS_at hsh hs']
    by_cases e1 : i = s.y1
    · rw [if_pos (by omega), if_pos (by omega), e1]; omega
    · by_cases e2 : i = s.y2
      · rw [if_pos (by omega), if_pos (by omega), e2]; omega
      · rw [if_neg (by omega), if_neg (by omega)]
  · rw [← hc j hj]
    refine rs_two (show s.y1 < r by omega) h2 (by omega) (fun k _ e1 e2 => by rw [applyS_at hsh hs', if_neg (by omega)]) ?_
    rw [applyS_at hsh hs', applyS_at hsh hs']
    by_cases e1 : j = s.x1
    · rw [if_pos (by omega), if_pos (by omega), e1]; omega
    · by_cases e2 : j = s.x2
      · rw [if_pos (by omega), if_pos (by omega), e2]; omega
      · rw [if_neg (by omega), if_neg (by omega)]
def distG (r c : Nat) (g h : List (List Int)) : Int := rs r (fun i => rs c (fun j => if at2 g i j = at2 h i j then 0 else 1))
theorem distG_comm (r c : Nat) (g h : List (List Int)) : distG r c g h = distG r c h g := rs_congr fun i _ => rs_congr fun j _ => by
  by_cases e : at2 g i j = at2 h i j
  · rw [if_pos e, if_pos e.symm]
  · rw [if_neg e, if_neg (fun x => e x.symm)]
theorem distG_zero {r c : Nat} {g h : List (List Int)} (hg : Shape r c g) (hh : Shape r c h) (hd : distG r c g h ≤ 0) : g = h := by
  refine hg.ext hh fun i j hi hj => ?_
  show at2 g i j = at2 h i j
  apply Classical.byContradiction
  intro hne
  have h1 := rs_le1 hi (f := fun i => rs c (fun j => if at2 g i j = at2 h i j then (0 : Int) else 1)) (fun i _ => rs_nonneg fun j _ => by split <;> decide)
  have h2 := rs_le1 hj (f := fun j => if at2 g i j = at2 h i j then (0 : Int) else 1) (fun j _ => by split <;> decide)
  try dsimp only at h1 h2
  rw [if_neg hne] at h2
  unfold distG at hd
  omega
theorem exists_max (f : Nat → Int) : ∀ r, 0 < r → ∃ a, a < r ∧ ∀ b, b < r → f b ≤ f a := by
  intro r
  induction r with
  | zero => intro h; omega
  | succ r ih =>
    intro _
    by_cases h0 : r = 0
    · subst h0
      refine ⟨0, by omega, fun b hb => ?_⟩
      have e : b = 0 := by omega
      rw [e]; exact Int.le_refl _
    · obtain ⟨a, ha, hm⟩ := ih (by omega)
      by_cases h : f a ≤ f r
      · exact ⟨r, by omega, fun b hb => by
          by_cases e : b = r
          · rw [e]; exact Int.le_refl _
          · have := hm b (by omega); omega⟩
      · exact ⟨a, by omega, fun b hb => by
          by_cases e : b = r
          · rw [e]; omega
          · exact hm b (by omega)⟩
theorem rs_other {n : Nat} {f g : Nat → Int} (h : rs n f = rs n g) {j : Nat} (hj : j < n) (hlt : f j < g j) : ∃ k, k < n ∧ g k < f k := by
  apply Classical.byContradiction
  intro hn
  have h1 := rs_sub n g f
  have h2 := rs_le1 hj (f := fun k => g k - f k) (fun k hk => by
    apply Classical.byContradiction; intro hlt2; exact hn ⟨k, hk, by omega⟩)
  try dsimp only at h2
  omega
theorem ryser_cells {xs ys : List Int} {r c : Nat} {g h : List (List Int)} (hg : Sums xs ys r c g) (hh : Sums xs ys r c h) (hne : g ≠ h) :
    ∃ a b j k, a < r ∧ b < r ∧ j < c ∧ k < c ∧ at2 g a j = 1 ∧ at2 h a j = 0 ∧ at2 g a k = 0 ∧ at2 h a k = 1 ∧ at2 g b j = 0 ∧ at2 h b j = 1 ∧ (at2 g b k = 1 ∨ at2 h b k = 0) := by
  obtain ⟨gs, gr, gc⟩ := sums_iff.1 hg
  obtain ⟨hs, hr, hc⟩ := sums_iff.1 hh
  have bg := at2_bits gs
  have bh := at2_bits hs
  have hN : ∃ i, i < r ∧ ∃ k, k < c ∧ at2 g i k = 0 ∧ at2 h i k = 1 := by
    apply Classical.byContradiction
    intro hn
    apply hne
    refine gs.ext hs fun i j hi hj => ?_
    show at2 g i j = at2 h i j
    apply Classical.byContradiction
    intro hd
    have e : rs c (fun j => at2 g i j) = rs c (fun j => at2 h i j) := (gr i hi).trans (hr i hi).symm
    have b1 := bg i j
    have b2 := bh i j
    by_cases hlt : at2 g i j < at2 h i j
    · exact hn ⟨i, hi, j, hj, by omega, by omega⟩
    · obtain ⟨k, hk, hlt2⟩ := rs_other e.symm hj (by omega : at2 h i j < at2 g i j)
      have b3 := bg i k
      have b4 := bh i k
      exact hn ⟨i, hi, k, hk, by omega, by omega⟩
  obtain ⟨i0, hi0, k0, hk0, hz0, hz1⟩ := hN
  obtain ⟨a, ha, hmax⟩ := exists_max (fun i => rs c (fun k => if at2 g i k = 0 ∧ at2 h i k = 1 then 1 else 0)) r (by omega)
  have hpos : 0 < rs c (fun k => if at2 g a k = 0 ∧ at2 h a k = 1 then (1 : Int) else 0) := by
    have h1 := hmax i0 hi0
    have h2 := rs_le1 hk0 (f := fun k => if at2 g i0 k = 0 ∧ at2 h i0 k = 1 then (1 : Int) else 0) (fun k _ => by split <;> decide)
    try dsimp only at h1 h2
    rw [if_pos ⟨hz0, hz1⟩] at h2
    omega
  obtain ⟨k1, hk1, hp1⟩ := rs_pos hpos
  have hk1z : at2 g a k1 = 0 ∧ at2 h a k1 = 1 := by
    apply Classical.byContradiction
    intro hn
    rw [if_neg hn] at hp1
    omega
  obtain ⟨j, hj, hjlt⟩ := rs_other ((gr a ha).trans (hr a ha).symm) hk1 (show at2 g a k1 < at2 h a k1 by omega)
  have b1 := bg a j
  have b2 := bh a j
  obtain ⟨b, hb, hblt⟩ := rs_other ((hc j hj).trans (gc j hj).symm) ha (show at2 h a j < at2 g a j from hjlt)
  have b3 := bg b j
  have b4 := bh b j
  apply Classical.byContradiction
  intro hn
  have hall : ∀ k, k < c → at2 g a k = 0 ∧ at2 h a k = 1 → at2 g b k = 0 ∧ at2 h b k = 1 := by
    intro k hk hz
    have b5 := bg b k
    have b6 := bh b k
    apply Classical.byContradiction
    intro hn2
    exact hn ⟨a, b, j, k, ha, hb, hj, hk, by omega, by omega, hz.1, hz.2, by omega, by omega, by omega⟩
  have h1 := hmax b hb
  have h2 := rs_le (n := c) (f := fun k => (if at2 g a k = 0 ∧ at2 h a k = 1 then (1 : Int) else 0) + if k = j then 1 else 0) (g := fun k => if at2 g b k = 0 ∧ at2 h b k = 1 then 1 else 0) (fun k hk => by
    try dsimp only
    by_cases e : k = j
    · subst e
      rw [if_neg (by omega), if_pos rfl, if_pos (by omega)]; omega
    · rw [if_neg e]
      split
      · rename_i hz
        rw [if_pos (hall k hk hz)]; omega
      · split <;> omega)
  rw [rs_add, rs_single hj (fun _ => 1)] at h2
  try dsimp only at h1
  omega
def mkSw (a b j k : Nat) : Sw := (min a b, max a b, min j k, max j k)
theorem mkSw_ok {r c a b j k : Nat} {g : List (List Int)} (ha : a < r) (hb : b < r) (hj : j < c) (hk : k < c) (_ : at2 g a j = 0 ∨ at2 g a j = 1) (h2 : at2 g a k = 1 - at2 g a j) (h3 : at2 g b j = 1 - at2 g a j) (h4 : at2 g b k = at2 g a j) : SwOk r c g (mkSw a b j k) := by
  have hab : a ≠ b := by rintro rfl; omega
  have hjk : j ≠ k := by rintro rfl; omega
  unfold SwOk mkSw
  rcases Nat.lt_or_gt_of_ne hab with h | h <;> rcases Nat.lt_or_gt_of_ne hjk with h' | h'
  · rw [Nat.min_eq_left (by omega), Nat.max_eq_right (by omega), Nat.min_eq_left (by omega), Nat.max_eq_right (by omega)]; simp only [Sw.y1, Sw.y2, Sw.x1, Sw.x2]; omega
  · rw [Nat.min_eq_left (by omega), Nat.max_eq_right (by omega), Nat.min_eq_right (by omega), Nat.max_eq_left (by omega)]; simp only [Sw.y1, Sw.y2, Sw.x1, Sw.x2]; omega
  · rw [Nat.min_eq_right (by omega), Nat.max_eq_left (by omega), Nat.min_eq_left (by omega), Nat.max_eq_right (by omega)]; simp only [Sw.y1, Sw.y2, Sw.x1, Sw.x2]; omega
  · rw [Nat.min_eq_right (by omega), Nat.max_eq_left (by omega), Nat.min_eq_right (by omega), Nat.max_eq_left (by omega)]; simp only [Sw.y1, Sw.y2, Sw.x1, Sw.x2]; omega
theorem mkSw_mem {a b j k i x : Nat} (h : (i = (mkSw a b j k).y1 ∨ i = (mkSw a b j k).y2) ∧ (x = (mkSw a b j k).x1 ∨ x = (mkSw a b j k).x2)) : (i = a ∨ i = b) ∧ (x = j ∨ x = k) := by
  unfold mkSw at h
  simp only [Sw.y1, Sw.y2, Sw.x1, Sw.x2] at h
  omega
theorem mkSw_mem' {a b j k i x : Nat} (h : (i = a ∨ i = b) ∧ (x = j ∨ x = k)) : (i = (mkSw a b j k).y1 ∨ i = (mkSw a b j k).y2) ∧ (x = (mkSw a b j k).x1 ∨ x = (mkSw a b j k).x2) := by
  unfold mkSw
  simp only [Sw.y1, Sw.y2, Sw.x1, Sw.x2]
  omega
theorem dist_less {r c a b j k : Nat} {g h : List (List Int)} (hg : Shape r c g) (hh : Shape r c h) (ha : a < r) (hb : b < r) (hj : j < c) (hk : k < c) (h1 : at2 g a j = 0 ∨ at2 g a j = 1) (h2 : at2 g a k = 1 - at2 g a j) (h3 : at2 g b j = 1 - at2 g a j) (h4 : at2 g b k = at2 g a j)
    (e1 : at2 h a j = 1 - at2 g a j) (e2 : at2 h a k = at2 g a j) (e3 : at2 h b j = at2 g a j) : distG r c (applyS g (mkSw a b j k)) h < distG r c g h := by
  have hok := mkSw_ok (r := r) (c := c) ha hb hj hk h1 h2 h3 h4
  have hab : a ≠ b := by rintro rfl; omega
  have hjk : j ≠ k := by rintro rfl; omega
  have key := rs_le (n := r) (f := fun i => rs c (fun x => if at2 (applyS g (mkSw a b j k)) i x = at2 h i x then (0 : Int) else 1) + rs c (fun x => if i = a ∧ x = j then (1 : Int) else 0) + rs c (fun x => if i = a ∧ x = k then (1 : Int) else 0))
    (g := fun i => rs c (fun x => if at2 g i x = at2 h i x then (0 : Int) else 1) + rs c (fun x => if i = b ∧ x = k then (1 : Int) else 0)) (fun i hi => by
      try dsimp only
      rw [← rs_add, ← rs_add, ← rs_add]
      refine rs_le fun x hx => ?_
      rw [applyS_at hg hok]
      by_cases hm : (i = a ∨ i = b) ∧ (x = j ∨ x = k)
      · rw [if_pos (mkSw_mem' hm)]
        have b4 := at2_bits hh b k
        have b5 : at2 h b k = 0 ∨ at2 h b k = 1 := by omega
        rcases hm with ⟨hi' | hi', hx' | hx'⟩
        · rw [hi', hx', if_pos (show 1 - at2 g a j = at2 h a j by omega), if_neg (show ¬ at2 g a j = at2 h a j by omega), if_pos (show a = a ∧ j = j from ⟨rfl, rfl⟩), if_neg (show ¬ (a = a ∧ j = k) by omega), if_neg (show ¬ (a = b ∧ j = k) by omega)]; decide
        · rw [hi', hx', if_pos (show 1 - at2 g a k = at2 h a k by omega), if_neg (show ¬ at2 g a k = at2 h a k by omega), if_pos (show a = a ∧ k = k from ⟨rfl, rfl⟩), if_neg (show ¬ (a = a ∧ k = j) by omega), if_neg (show ¬ (a = b ∧ k = k) by omega)]; decide
        · rw [hi', hx', if_pos (show 1 - at2 g b j = at2 h b j by omega), if_neg (show ¬ at2 g b j = at2 h b j by omega), if_neg (show ¬ (b = a ∧ j = j) by omega), if_neg (show ¬ (b = a ∧ j = k) by omega), if_neg (show ¬ (b = b ∧ j = k) by omega)]; decide
        · rw [hi', hx', if_neg (show ¬ (b = a ∧ k = j) by omega), if_neg (show ¬ (b = a ∧ k = k) by omega), if_pos (show b = b ∧ k = k from ⟨rfl, rfl⟩)]
          by_cases e : at2 g b k = at2 h b k
          · rw [if_pos e, if_neg (by omega)]; decide
          · rw [if_neg e, if_pos (by omega)]; decide
      · rw [if_neg (fun h => hm (mkSw_mem h))]
        have n1 : ¬ (i = a ∧ x = j) := fun h => hm ⟨.inl h.1, .inl h.2⟩
        have n2 : ¬ (i = a ∧ x = k) := fun h => hm ⟨.inl h.1, .inr h.2⟩
        have n3 : ¬ (i = b ∧ x = k) := fun h => hm ⟨.inr h.1, .inr h.2⟩
        rw [if_neg n1, if_neg n2, if_neg n3]; omega)
  rw [rs_add, rs_add, rs_add, rs_one ha hj, rs_one ha hk, rs_one hb hk] at key
  unfold distG
  omega
theorem ryser_step {xs ys : List Int} {r c : Nat} {g h : List (List Int)} (hg : Sums xs ys r c g) (hh : Sums xs ys r c h) (hne : g ≠ h) :
    (∃ s, SwOk r c g s ∧ distG r c (applyS g s) h < distG r c g h) ∨ ∃ s, SwOk r c h s ∧ distG r c g (applyS h s) < distG r c g h := by
  obtain ⟨a, b, j, k, ha, hb, hj, hk, h1, h2, h3, h4, h5, h6, h7⟩ := ryser_cells hg hh hne
  have gs := hg.1
  have hs := hh.1
  by_cases h8 : at2 g b k = 1
  · exact .inl ⟨_, mkSw_ok ha hb hj hk (.inr h1) (by omega) (by omega) (by omega), dist_less gs hs ha hb hj hk (.inr h1) (by omega) (by omega) (by omega) (by omega) (by omega) (by omega)⟩
  · right
    have h9 : at2 h b k = 0 := by have := at2_bits hs b k; omega
    refine ⟨_, mkSw_ok ha hb hj hk (.inl h2) (by omega) (by omega) (by omega), ?_⟩
    have := dist_less hs gs ha hb hj hk (.inl h2) (by omega) (by omega) (by omega) (by omega) (by omega) (by omega)
    rw [distG_comm r c h g, distG_comm r c _ g] at this
    exact this
inductive Join (r c : Nat) : List (List Int) → List (List Int) → Prop
  | refl (g) : Join r c g g
  | step {g h : List (List Int)} {s : Sw} : Join r c g h → SwOk r c h s → Join r c g (applyS h s)
theorem Join.trans {r c : Nat} {a b d : List (List Int)} (h1 : Join r c a b) (h2 : Join r c b d) : Join r c a d := by
  induction h2 with
  | refl => exact h1
  | step _ hs ih => exact .step ih hs
theorem Join.sums {r c : Nat} {xs ys : List Int} {a b : List (List Int)} (h1 : Join r c a b) (h : Sums xs ys r c a) : Sums xs ys r c b := by
  induction h1 with
  | refl => exact h
  | step _ hs ih => exact applyS_sums ih hs
theorem Join.shape {r c : Nat} {a b : List (List Int)} (h1 : Join r c a b) (h : Shape r c a) : Shape r c b := by
  induction h1 with
  | refl => exact h
  | step _ hs ih => exact applyS_shape ih hs
theorem Join.symm {r c : Nat} {a b : List (List Int)} (h1 : Join r c a b) (h : Shape r c a) : Join r c b a := by
  induction h1 with
  | refl => exact .refl _
  | @step b s h2 hs ih =>
    have hb := h2.shape h
    have h3 : Join r c (applyS b s) b := by
      have := Join.step (.refl (applyS b s)) (applyS_ok hb hs)
      rwa [applyS_twice hb hs] at this
    exact h3.trans ih
theorem ryser {xs ys : List Int} {r c : Nat} : ∀ (n : Nat) {g h : List (List Int)}, Sums xs ys r c g → Sums xs ys r c h → distG r c g h ≤ n → Join r c g h := by
  intro n
  induction n with
  | zero => intro g h hg hh hd; rw [distG_zero hg.1 hh.1 hd]; exact .refl _
  | succ n ih =>
    intro g h hg hh hd
    by_cases hne : g = h
    · rw [hne]; exact .refl _
    rcases ryser_step hg hh hne with ⟨s, hs, hlt⟩ | ⟨s, hs, hlt⟩
    · exact (Join.step (.refl g) hs).trans (ih (applyS_sums hg hs) hh (by omega))
    · have h1 := ih hg (applyS_sums hh hs) (by omega)
      have h2 := Join.step (.refl h) hs
      exact h1.trans (h2.symm hh.1)
theorem ryser_join {xs ys : List Int} {r c : Nat} {g h : List (List Int)} (hg : Sums xs ys r c g) (hh : Sums xs ys r c h) : Join r c g h := ryser _ hg hh (Int.self_le_toNat _)
theorem Join.first {r c : Nat} {g h : List (List Int)} (hj : Join r c g h) (hne : g ≠ h) : ∃ s, SwOk r c g s := by
  induction hj with
  | refl => exact absurd rfl hne
  | @step b s h2 hs ih =>
    by_cases e : g = b
    · subst e; exact ⟨s, hs⟩
    · exact ih e
theorem unique_iff {xs ys : List Int} {r c : Nat} {g : List (List Int)} (hg : Sums xs ys r c g) : (∀ h, Sums xs ys r c h → h = g) ↔ ∀ s, ¬ SwOk r c g s := by
  constructor
  · intro hu s hs
    have h1 := hu _ (applyS_sums hg hs)
    have h2 := applyS_at hg.1 hs s.y1 s.x1
    rw [h1, if_pos ⟨.inl rfl, .inl rfl⟩] at h2
    omega
  · intro hn h hh
    apply Classical.byContradiction
    intro hne
    obtain ⟨s, hs⟩ := (ryser_join hg hh).first (fun e => hne e.symm)
    exact hn s hs
theorem GLt.irrefl {r c : Nat} {a : List (List Int)} : ¬ GLt r c a a := by rintro ⟨y, x, -, -, -, h⟩; omega
theorem GLt.asymm {r c : Nat} {a b : List (List Int)} (h : GLt r c a b) (k : GLt r c b a) : False := by
  obtain ⟨y, x, h1, h2, h3, h4⟩ := h
  obtain ⟨y', x', k1, k2, k3, k4⟩ := k
  by_cases e : y < y' ∨ y = y' ∧ x < x'
  · have := k3 y x e; omega
  · by_cases e2 : y' < y ∨ y' = y ∧ x' < x
    · have := h3 y' x' e2; omega
    · have e3 : y = y' ∧ x = x' := by omega
      obtain ⟨rfl, rfl⟩ := e3
      omega
theorem sorted_eq {α : Type} {R : α → α → Prop} (irr : ∀ a, ¬ R a a) (asy : ∀ a b, R a b → R b a → False) {l1 l2 : List α} (h1 : l1.Pairwise R) (h2 : l2.Pairwise R) (hm : ∀ x, x ∈ l1 ↔ x ∈ l2) : l1 = l2 := by
  induction l1 generalizing l2 with
  | nil =>
    cases l2 with
    | nil => rfl
    | cons b l2 => exact absurd ((hm b).2 (by simp)) (by simp)
  | cons a l1 ih =>
    cases l2 with
    | nil => exact absurd ((hm a).1 (by simp)) (by simp)
    | cons b l2 =>
      rw [List.pairwise_cons] at h1 h2
      have e : a = b := by
        rcases List.mem_cons.1 ((hm a).1 (by simp)) with e | e
        · exact e
        · rcases List.mem_cons.1 ((hm b).2 (by simp)) with e' | e'
          · exact e'.symm
          · exact (asy _ _ (h1.1 b e') (h2.1 a e)).elim
      subst e
      rw [ih h1.2 h2.2 fun x => ?_]
      constructor
      · intro hx
        rcases List.mem_cons.1 ((hm x).1 (List.mem_cons_of_mem _ hx)) with e | e
        · subst e; exact absurd (h1.1 x hx) (irr _)
        · exact e
      · intro hx
        rcases List.mem_cons.1 ((hm x).2 (List.mem_cons_of_mem _ hx)) with e | e
        · subst e; exact absurd (h2.1 x hx) (irr _)
        · exact e
theorem nodup_len {α β : Type} [DecidableEq β] (f : α → β) : ∀ (l1 : List α) (l2 : List β), l1.Pairwise (fun a b => f a ≠ f b) → (∀ x ∈ l1, f x ∈ l2) → l1.length ≤ l2.length
  | [], _, _, _ => by simp
  | a :: l1, l2, h, hm => by
    rw [List.pairwise_cons] at h
    have h1 := hm a (by simp)
    have h2 := nodup_len f l1 (l2.erase (f a)) h.2 fun x hx => by
      have := hm x (List.mem_cons_of_mem _ hx)
      exact (List.mem_erase_of_ne (fun e => h.1 x hx e.symm)).2 this
    rw [List.length_erase_of_mem h1] at h2
    have := List.length_pos_of_mem h1
    rw [List.length_cons]; omega
theorem at2_tr {m : List (List Int)} {r c : Nat} (h : Shape r c m) (h1 : 1 ≤ r) {i j : Nat} (hi : i < c) (hj : j < r) : at2 (tr m) i j = at2 m j i := by
  unfold at2
  rw [gD_some (tr_at h h1 hi)]
  exact gD_some (by rw [List.getElem?_map, List.getElem?_range hj]; rfl)
theorem allImgs_nodup {xs ys : List Int} (h : sumsOk xs ys = true) : (allImgs xs ys).Pairwise (fun a b => a ≠ b) :=
  (allImgs_sorted h).imp fun hlt e => by subst e; exact GLt.irrefl hlt
instance (xs ys : List Int) (k : Nat) : Decidable (tooMuch xs ys k) := by unfold tooMuch; infer_instance
def worstK (xs ys : List Int) : Nat := match (List.range ys.length).find? (fun i => decide (tooMuch xs ys (i + 1))) with
  | some i => i + 1
  | none => 0
def worst (xs ys : List Int) : Nat := if sumsOk xs ys then worstK xs ys else 0
def existsB (xs ys : List Int) : Bool := sumsOk xs ys && decide (worst xs ys = 0)
theorem worstK_zero {xs ys : List Int} : worstK xs ys = 0 ↔ ∀ k, 1 ≤ k → k ≤ ys.length → ¬ tooMuch xs ys k := by
  unfold worstK
  split
  · rename_i i hi
    have h1 := List.find?_some hi
    have h2 := List.mem_of_find?_eq_some hi
    rw [List.mem_range] at h2
    exact ⟨fun h => by omega, fun h => absurd (by simpa using h1) (h (i + 1) (by omega) (by omega))⟩
  · rename_i hi
    refine ⟨fun _ k h1 h2 => ?_, fun _ => rfl⟩
    have := List.find?_eq_none.1 hi (k - 1) (List.mem_range.2 (by omega))
    rw [show k - 1 + 1 = k by omega] at this
    simpa using this
theorem worstK_pos {xs ys : List Int} (h : worstK xs ys ≠ 0) : 1 ≤ worstK xs ys ∧ worstK xs ys ≤ ys.length ∧ tooMuch xs ys (worstK xs ys) := by
  unfold worstK at h ⊢
  split
  · rename_i i hi
    have h1 := List.find?_some hi
    have h2 := List.mem_of_find?_eq_some hi
    rw [List.mem_range] at h2
    exact ⟨by omega, by omega, by simpa using h1⟩
  · rename_i hi
    rw [hi] at h
    exact absurd rfl h
theorem existsB_iff {xs ys : List Int} (h : sumsOk xs ys = true) : existsB xs ys = true ↔ ∃ g, Sums xs ys xs.length ys.length g := by
  obtain ⟨h1, h2, h3, h4, h5, h6, h7⟩ := sumsOk_bd h
  unfold existsB worst
  rw [h]
  simp only [if_true, Bool.true_and, decide_eq_true_eq]
  rw [worstK_zero]
  exact ⟨fun hk => gr_yes h7 hk fun i => (h5 i).1, fun ⟨g, hg⟩ k _ hk => gr_no hg hk⟩
theorem existsB_imgs {xs ys : List Int} (h : sumsOk xs ys = true) : existsB xs ys = true ↔ allImgs xs ys ≠ [] := by
  rw [existsB_iff h]
  constructor
  · rintro ⟨g, hg⟩ e
    have := (allImgs_mem h g).2 hg
    rw [e] at this; cases this
  · intro hne
    obtain ⟨g, hg⟩ := List.exists_mem_of_ne_nil _ hne
    exact ⟨g, (allImgs_mem h g).1 hg⟩
theorem existsB_ok {xs ys : List Int} (h : existsB xs ys = true) : sumsOk xs ys = true := by
  unfold existsB at h
  rw [Bool.and_eq_true] at h
  exact h.1
def bitRows : Nat → Int → List (List Int)
  | 0, k => if k = 0 then [[]] else []
  | n + 1, k => (if 0 ≤ k then (bitRows n k).map (0 :: ·) else []) ++ (if 1 ≤ k then (bitRows n (k - 1)).map (1 :: ·) else [])
theorem bitRows_mem {n : Nat} : ∀ {k : Int} {l : List Int}, l ∈ bitRows n k ↔ l.length = n ∧ (∀ x ∈ l, 0 ≤ x ∧ x ≤ 1) ∧ sumL l = k := by
  induction n with
  | zero =>
    intro k l
    unfold bitRows
    constructor
    · intro h
      split at h
      · rename_i hk
        rw [List.mem_singleton] at h
        subst h; subst hk
        exact ⟨rfl, by simp, rfl⟩
      · cases h
    · rintro ⟨h1, -, h3⟩
      have : l = [] := List.eq_nil_of_length_eq_zero h1
      subst this
      rw [eSum_nil] at h3
      rw [if_pos h3.symm]; simp
  | succ n ih =>
    intro k l
    unfold bitRows
    rw [List.mem_append]
    constructor
    · rintro (h | h)
      · split at h
        · obtain ⟨t, ht, rfl⟩ := List.mem_map.1 h
          obtain ⟨h1, h2, h3⟩ := ih.1 ht
          refine ⟨by simp [h1], fun x hx => ?_, by rw [eSum_cons]; omega⟩
          rcases List.mem_cons.1 hx with rfl | hx
          · omega
          · exact h2 x hx
        · cases h
      · split at h
        · obtain ⟨t, ht, rfl⟩ := List.mem_map.1 h
          obtain ⟨h1, h2, h3⟩ := ih.1 ht
          refine ⟨by simp [h1], fun x hx => ?_, by rw [eSum_cons]; omega⟩
          rcases List.mem_cons.1 hx with rfl | hx
          · omega
          · exact h2 x hx
        · cases h
    · rintro ⟨h1, h2, h3⟩
      cases l with
      | nil => simp at h1
      | cons a l =>
        have ha := h2 a (by simp)
        have hl : ∀ x ∈ l, 0 ≤ x ∧ x ≤ 1 := fun x hx => h2 x (List.mem_cons_of_mem _ hx)
        rw [eSum_cons] at h3
        have hb := eSum_bits (l := l) fun i hi => by rw [gD_some (List.getElem?_eq_getElem hi)]; exact hl _ (List.getElem_mem hi)
        have h1 : l.length = n := by simpa using h1
        by_cases e : a = 0
        · left
          rw [if_pos (by omega)]
          exact List.mem_map.2 ⟨l, ih.2 ⟨h1, hl, by omega⟩, by rw [e]⟩
        · right
          rw [if_pos (by omega)]
          exact List.mem_map.2 ⟨l, ih.2 ⟨h1, hl, by omega⟩, by rw [show a = 1 by omega]⟩
def LLt (a b : List Int) : Prop := ∃ x, x < a.length ∧ (∀ j, j < x → a.getD j 0 = b.getD j 0) ∧ a.getD x 0 < b.getD x 0
theorem LLt.cons {a b : List Int} (z : Int) (h : LLt a b) : LLt (z :: a) (z :: b) := by
  obtain ⟨x, h1, h2, h3⟩ := h
  refine ⟨x + 1, by simp; omega, fun j hj => ?_, by simpa using h3⟩
  cases j with
  | zero => simp
  | succ j => have := h2 j (by omega); simpa using this
theorem bitRows_sorted {n : Nat} : ∀ {k : Int}, (bitRows n k).Pairwise LLt := by
  induction n with
  | zero => intro k; unfold bitRows; split <;> simp
  | succ n ih =>
    intro k
    unfold bitRows
    rw [List.pairwise_append]
    refine ⟨?_, ?_, ?_⟩
    · split
      · exact List.pairwise_map.2 (ih.imp fun h => h.cons 0)
      · exact List.Pairwise.nil
    · split
      · exact List.pairwise_map.2 (ih.imp fun h => h.cons 1)
      · exact List.Pairwise.nil
    · intro a ha b hb
      split at ha
      · split at hb
        · obtain ⟨a', -, rfl⟩ := List.mem_map.1 ha
          obtain ⟨b', -, rfl⟩ := List.mem_map.1 hb
          exact ⟨0, by simp, fun j hj => by omega, by simp⟩
        · cases hb
      · cases ha
def leftOver (cols row : List Int) : List Int := List.zipWith (fun k x => k - x) cols row
def rowFits (cols row : List Int) : Bool := (List.zipWith (fun k x => decide (x ≤ k)) cols row).all id
def goesOn (rows left : List Int) : Bool := if rows.length = 0 then decide (sumL left = 0) else existsB rows left
def rowsAll : List Int → List Int → List (List (List Int))
  | [], _ => [[]]
  | r :: rows, cols => (bitRows cols.length r).flatMap fun row => if rowFits cols row && goesOn rows (leftOver cols row) then (rowsAll rows (leftOver cols row)).map (row :: ·) else []
theorem leftOver_len {cols row : List Int} (h : row.length = cols.length) : (leftOver cols row).length = cols.length := by
  unfold leftOver; rw [List.length_zipWith, h, Nat.min_self]
theorem leftOver_at {cols row : List Int} (h : row.length = cols.length) {j : Nat} (hj : j < cols.length) : (leftOver cols row).getD j 0 = cols.getD j 0 - row.getD j 0 := by
  unfold leftOver
  rw [gD_some (x := cols.getD j 0 - row.getD j 0)]
  rw [List.getElem?_zipWith, gD_at 0 hj, gD_at 0 (by omega : j < row.length)]
theorem rowFits_iff {cols row : List Int} (h : row.length = cols.length) : rowFits cols row = true ↔ ∀ j, j < cols.length → 0 ≤ (leftOver cols row).getD j 0 := by
  unfold rowFits
  rw [List.all_eq_true]
  constructor
  · intro hx j hj
    rw [leftOver_at h hj]
    have := hx (decide (row.getD j 0 ≤ cols.getD j 0)) (List.mem_iff_getElem?.2 ⟨j, by rw [List.getElem?_zipWith, gD_at 0 hj, gD_at 0 (by omega : j < row.length)]⟩)
    simp only [id, decide_eq_true_eq] at this
    omega
  · intro hx b hb
    obtain ⟨j, hj⟩ := List.getElem?_of_mem hb
    have hjl := (List.getElem?_eq_some_iff.1 hj).1
    rw [List.length_zipWith] at hjl
    have hj2 : j < cols.length := by omega
    rw [List.getElem?_zipWith, gD_at 0 hj2, gD_at 0 (by omega : j < row.length)] at hj
    have := hx j hj2
    rw [leftOver_at h hj2] at this
    simp only [Option.some.injEq] at hj
    subst hj
    simp only [id, decide_eq_true_eq]
    omega
theorem sums_cons {r : Int} {rows cols row : List Int} {g : List (List Int)} (hl : row.length = cols.length) : Sums (r :: rows) cols (rows.length + 1) cols.length (row :: g) ↔ ((∀ x ∈ row, 0 ≤ x ∧ x ≤ 1) ∧ sumL row = r) ∧ Sums rows (leftOver cols row) rows.length cols.length g := by
  have hcol : ∀ j, colS (row :: g) j = row.getD j 0 + colS g j := fun j => by unfold colS; rw [List.map_cons, eSum_cons]
  constructor
  · rintro ⟨⟨h1, h2⟩, h3, h4⟩
    refine ⟨⟨(h2 row (by simp)).2, by have := h3 0 (by omega); simpa using this⟩, ⟨by simpa using h1, fun q hq => h2 q (List.mem_cons_of_mem _ hq)⟩, fun i hi => by have := h3 (i + 1) (by omega); simpa using this, fun j hj => ?_⟩
    rw [leftOver_at hl hj]
    have := h4 j hj
    rw [hcol] at this; omega
  · rintro ⟨⟨h1, h2⟩, ⟨h3, h4⟩, h5, h6⟩
    refine ⟨⟨by simp [h3], fun q hq => ?_⟩, fun i hi => ?_, fun j hj => ?_⟩
    · rcases List.mem_cons.1 hq with rfl | hq
      · exact ⟨hl, h1⟩
      · exact h4 q hq
    · cases i with
      | zero => simpa using h2
      | succ i => have := h5 i (by omega); simpa using this
    · rw [hcol, h6 j hj, leftOver_at hl hj]; omega
theorem sumsOk_of {xs ys : List Int} {g : List (List Int)} (h1 : 1 ≤ xs.length) (h2 : xs.length ≤ 5) (h3 : 1 ≤ ys.length) (h4 : ys.length ≤ 5) (hg : Sums xs ys xs.length ys.length g) : sumsOk xs ys = true := by
  obtain ⟨hs, hr, hc⟩ := sums_iff.1 hg
  have key : ∀ (l : List Int) (n : Nat), (∀ i, i < l.length → 0 ≤ l.getD i 0 ∧ l.getD i 0 ≤ n) → l.all (inR 0 n) = true := by
    intro l n hl
    rw [List.all_eq_true]
    intro x hx
    obtain ⟨i, hi, rfl⟩ := List.getElem_of_mem hx
    have := hl i hi
    rw [gD_some (List.getElem?_eq_getElem hi)] at this
    exact inR_t this.1 this.2
  have e : sumL xs = sumL ys := by
    rw [sumL_rs, sumL_rs, ← rs_congr hr, ← rs_congr hc]; exact rs_comm _ _ _
  simp only [sumsOk, Bool.and_eq_true, decide_eq_true_eq, inR_iff]
  refine ⟨⟨⟨⟨⟨by omega, by omega⟩, by omega, by omega⟩, key _ _ fun i hi => ?_⟩, key _ _ fun j hj => ?_⟩, e⟩
  · rw [← hr i hi]
    refine ⟨rs_nonneg fun j _ => (at2_bits hs i j).1, ?_⟩
    have := rs_le (n := ys.length) (f := fun j => at2 g i j) (g := fun _ => 1) fun j _ => (at2_bits hs i j).2
    rw [rs_const] at this; omega
  · rw [← hc j hj]
    refine ⟨rs_nonneg fun i _ => (at2_bits hs i j).1, ?_⟩
    have := rs_le (n := xs.length) (f := fun i => at2 g i j) (g := fun _ => 1) fun i _ => (at2_bits hs i j).2
    rw [rs_const] at this; omega
theorem rowsAll_mem : ∀ {rows cols : List Int} {g : List (List Int)}, rows.length ≤ 5 → 1 ≤ cols.length → cols.length ≤ 5 → (rows = [] → ∀ j, j < cols.length → cols.getD j 0 = 0) → (g ∈ rowsAll rows cols ↔ Sums rows cols rows.length cols.length g)
  | [], cols, g, _, _, _, h0 => by
    unfold rowsAll
    rw [List.mem_singleton]
    constructor
    · rintro rfl
      exact ⟨⟨rfl, by simp⟩, fun i hi => by simp at hi, fun j hj => by rw [h0 rfl j hj]; rfl⟩
    · rintro ⟨⟨h1, -⟩, -⟩
      exact List.eq_nil_of_length_eq_zero h1
  | r :: rows, cols, g, hr, hc1, hc5, _ => by
    unfold rowsAll
    rw [List.mem_flatMap]
    have hr' : rows.length ≤ 4 := by simpa using hr
    constructor
    · rintro ⟨row, hrow, hg⟩
      obtain ⟨hl, hb, hs⟩ := bitRows_mem.1 hrow
      split at hg
      · rename_i hcnd
        rw [Bool.and_eq_true] at hcnd
        obtain ⟨g', hg', rfl⟩ := List.mem_map.1 hg
        have hll := leftOver_len hl
        have hfit := (rowFits_iff hl).1 hcnd.1
        have := (rowsAll_mem (rows := rows) (cols := leftOver cols row) (by omega) (by omega) (by omega) (fun e j hj => by
          have h2 := hcnd.2
          unfold goesOn at h2
          rw [e] at h2
          simp only [List.length_nil, if_true, decide_eq_true_eq] at h2
          rw [sumL_rs] at h2
          have h3 := rs_le1 hj (f := fun i => (leftOver cols row).getD i 0) (fun i hi => hfit i (by omega))
          have h4 := hfit j (by omega)
          omega)).1 hg'
        rw [hll] at this
        exact (sums_cons hl).2 ⟨⟨hb, hs⟩, this⟩
      · cases hg
    · intro hg
      cases g with
      | nil => exact absurd hg.1.1 (by simp)
      | cons row g =>
        have hl := (hg.1.2 row (by simp)).1
        obtain ⟨⟨hb, hs⟩, hg'⟩ := (sums_cons hl).1 hg
        have hll := leftOver_len hl
        refine ⟨row, bitRows_mem.2 ⟨hl, hb, hs⟩, ?_⟩
        have hnn : ∀ j, j < cols.length → 0 ≤ (leftOver cols row).getD j 0 := fun j hj => by
          rw [← (sums_iff.1 hg').2.2 j hj]
          exact rs_nonneg fun i _ => (at2_bits hg'.1 i j).1
        have hzero : rows = [] → ∀ j, j < (leftOver cols row).length → (leftOver cols row).getD j 0 = 0 := fun e j hj => by
          have := (sums_iff.1 hg').2.2 j (by omega)
          rw [e] at this
          exact this.symm
        rw [← hll] at hg'
        have hgo : goesOn rows (leftOver cols row) = true := by
          unfold goesOn
          split
          · rename_i e
            have e' : rows = [] := List.eq_nil_of_length_eq_zero e
            rw [decide_eq_true_eq, sumL_rs]
            exact rs_zero' fun j hj => hzero e' j hj
          · rename_i e
            exact (existsB_iff (sumsOk_of (by omega) (by omega) (by omega) (by omega) hg')).2 ⟨g, hg'⟩
        rw [if_pos (by rw [Bool.and_eq_true]; exact ⟨(rowFits_iff hl).2 hnn, hgo⟩)]
        exact List.mem_map.2 ⟨g, (rowsAll_mem (by omega) (by omega) (by omega) hzero).2 hg', rfl⟩
theorem GLt.cons {r c : Nat} {a b : List (List Int)} (row : List Int) (h : GLt r c a b) : GLt (r + 1) c (row :: a) (row :: b) := by
  obtain ⟨y, x, h1, h2, h3, h4⟩ := h
  refine ⟨y + 1, x, by omega, h2, fun i j hij => ?_, by simpa [at2] using h4⟩
  cases i with
  | zero => rfl
  | succ i => have := h3 i j (by omega); simpa [at2] using this
theorem pairwise_flatMap' {α β : Type} {R : β → β → Prop} {Q : α → α → Prop} (f : α → List β) : ∀ (l : List α), l.Pairwise Q → (∀ a ∈ l, (f a).Pairwise R) → (∀ a ∈ l, ∀ b ∈ l, Q a b → ∀ x ∈ f a, ∀ y ∈ f b, R x y) → (l.flatMap f).Pairwise R
  | [], _, _, _ => by simp
  | a :: l, h1, h2, h3 => by
    rw [List.pairwise_cons] at h1
    rw [List.flatMap_cons, List.pairwise_append]
    refine ⟨h2 a (by simp), pairwise_flatMap' f l h1.2 (fun b hb => h2 b (List.mem_cons_of_mem _ hb)) (fun b hb b' hb' => h3 b (List.mem_cons_of_mem _ hb) b' (List.mem_cons_of_mem _ hb')), fun x hx y hy => ?_⟩
    obtain ⟨b, hb, hy⟩ := List.mem_flatMap.1 hy
    exact h3 a (by simp) b (List.mem_cons_of_mem _ hb) (h1.1 b hb) x hx y hy
theorem rowsAll_sorted : ∀ (rows cols : List Int), (rowsAll rows cols).Pairwise (GLt rows.length cols.length)
  | [], _ => by unfold rowsAll; simp
  | r :: rows, cols => by
    unfold rowsAll
    refine pairwise_flatMap' (Q := LLt) _ _ bitRows_sorted (fun row hrow => ?_) (fun a ha b hb hab x hx y hy => ?_)
    · have hl := leftOver_len (bitRows_mem.1 hrow).1
      split
      · refine List.pairwise_map.2 ((rowsAll_sorted rows (leftOver cols row)).imp fun h => ?_)
        rw [hl] at h
        exact h.cons row
      · exact List.Pairwise.nil
    · split at hx
      · split at hy
        · obtain ⟨g, -, rfl⟩ := List.mem_map.1 hx
          obtain ⟨h, -, rfl⟩ := List.mem_map.1 hy
          obtain ⟨k, h1, h2, h3⟩ := hab
          refine ⟨0, k, by simp, by rw [← (bitRows_mem.1 ha).1]; exact h1, fun i j hij => ?_, by simpa [at2] using h3⟩
          have e : i = 0 ∧ j < k := by omega
          rw [e.1]
          have := h2 j e.2
          simpa [at2] using this
        · cases hy
      · cases hx
theorem rowsAll_eq {xs ys : List Int} (h : sumsOk xs ys = true) : rowsAll xs ys = allImgs xs ys := by
  obtain ⟨h1, h2, h3, h4, -⟩ := sumsOk_bd h
  refine sorted_eq (fun a => GLt.irrefl) (fun a b => GLt.asymm) (rowsAll_sorted xs ys) (allImgs_sorted h) fun g => ?_
  rw [rowsAll_mem h2 h3 h4 (fun e => by rw [e] at h1; simp at h1), allImgs_mem h]
def dirOkB (dx dy : Int) : Bool := inR 0 3 dx && inR (-3) 3 dy && decide (Int.gcd dx dy = 1) && (decide (0 < dx) || decide (dy = 1))
def lnOf (c : Nat) (dx dy y x : Int) : Int := dx * y - dy * x + max 0 (dy * ((c : Int) - 1))
def nLn (r c : Nat) (dx dy : Int) : Int := max (lnOf c dx dy ((r : Int) - 1) 0) (lnOf c dx dy ((r : Int) - 1) ((c : Int) - 1)) + 1
theorem dirOkB_bd {dx dy : Int} (h : dirOkB dx dy = true) : 0 ≤ dx ∧ dx ≤ 3 ∧ -3 ≤ dy ∧ dy ≤ 3 := by
  simp only [dirOkB, inR, Bool.and_eq_true, decide_eq_true_eq] at h
  omega
theorem lnOf_range {r c : Nat} {dx dy : Int} (h : 0 ≤ dx ∧ dx ≤ 3 ∧ -3 ≤ dy ∧ dy ≤ 3) {y x : Int} (hy0 : 0 ≤ y) (hy : y < r) (hx0 : 0 ≤ x) (hx : x < c) : 0 ≤ lnOf c dx dy y x ∧ lnOf c dx dy y x < nLn r c dx dy := by
  obtain ⟨h1, h2, h3, h4⟩ := h
  have e1 : dx = 0 ∨ dx = 1 ∨ dx = 2 ∨ dx = 3 := by omega
  have e2 : dy = -3 ∨ dy = -2 ∨ dy = -1 ∨ dy = 0 ∨ dy = 1 ∨ dy = 2 ∨ dy = 3 := by omega
  unfold nLn lnOf
  rcases e1 with rfl | rfl | rfl | rfl <;> rcases e2 with rfl | rfl | rfl | rfl | rfl | rfl | rfl <;> omega
theorem nLn_range {r c : Nat} {dx dy : Int} (h : 0 ≤ dx ∧ dx ≤ 3 ∧ -3 ≤ dy ∧ dy ≤ 3) (hr1 : 1 ≤ r) (hr : r ≤ 5) (hc1 : 1 ≤ c) (hc : c ≤ 5) : 1 ≤ nLn r c dx dy ∧ nLn r c dx dy ≤ 25 := by
  obtain ⟨h1, h2, h3, h4⟩ := h
  have e1 : dx = 0 ∨ dx = 1 ∨ dx = 2 ∨ dx = 3 := by omega
  have e2 : dy = -3 ∨ dy = -2 ∨ dy = -1 ∨ dy = 0 ∨ dy = 1 ∨ dy = 2 ∨ dy = 3 := by omega
  unfold nLn lnOf
  rcases e1 with rfl | rfl | rfl | rfl <;> rcases e2 with rfl | rfl | rfl | rfl | rfl | rfl | rfl <;> omega
def addAt (l : List Int) (k : Nat) (v : Int) : List Int := l.set k (l.getD k 0 + v)
def lnRow (m : List (List Int)) (c : Nat) (dx dy : Int) (y : Nat) : Nat → List Int → List Int
  | 0, l => l
  | k + 1, l => lnRow m c dx dy y k (addAt l (lnOf c dx dy y ((c - (k + 1) : Nat) : Int)).toNat (at2 m y (c - (k + 1))))
def lnAll (m : List (List Int)) (r c : Nat) (dx dy : Int) : Nat → List Int → List Int
  | 0, l => l
  | k + 1, l => lnAll m r c dx dy k (lnRow m c dx dy (r - (k + 1)) c l)
def lineSums (m : List (List Int)) (dx dy : Int) : List Int :=
  if imageOk m = true ∧ dirOkB dx dy = true then lnAll m m.length (m.headD []).length dx dy m.length (List.replicate (nLn m.length (m.headD []).length dx dy).toNat 0) else []
theorem lnRow_step {m : List (List Int)} {c y x : Nat} {dx dy : Int} (h : x < c) (l : List Int) :
    lnRow m c dx dy y (c - x) l = lnRow m c dx dy y (c - (x + 1)) (addAt l (lnOf c dx dy y x).toNat (at2 m y x)) := by
  have e : c - x = (c - (x + 1)) + 1 := by omega
  have e2 : c - ((c - (x + 1)) + 1) = x := by omega
  rw [e, lnRow, e2]
theorem lnAll_step {m : List (List Int)} {r c y : Nat} {dx dy : Int} (h : y < r) (l : List Int) : lnAll m r c dx dy (r - y) l = lnAll m r c dx dy (r - (y + 1)) (lnRow m c dx dy y c l) := by
  have e : r - y = (r - (y + 1)) + 1 := by omega
  have e2 : r - ((r - (y + 1)) + 1) = y := by omega
  rw [e, lnAll, e2]
theorem addAt_len (l : List Int) (k : Nat) (v : Int) : (addAt l k v).length = l.length := List.length_set
def Upto (b : Int) (l : List Int) : Prop := ∀ v ∈ l, 0 ≤ v ∧ v ≤ b
theorem Upto.add {b : Int} {l : List Int} (h : Upto b l) {k : Nat} {v : Int} (hk : k < l.length) (h0 : 0 ≤ v) (h1 : v ≤ 1) : Upto (b + 1) (addAt l k v) := by
  intro w hw
  unfold addAt at hw
  rcases List.mem_or_eq_of_mem_set hw with h2 | rfl
  · have := h w h2; omega
  · have := h (l.getD k 0) (List.mem_of_getElem? (gD_at 0 hk)); omega
theorem lnRow_upto {m : List (List Int)} {r c y : Nat} {dx dy : Int} (hm : Shape r c m) (hd : 0 ≤ dx ∧ dx ≤ 3 ∧ -3 ≤ dy ∧ dy ≤ 3) (hy : y < r) (k : Nat) : ∀ (l : List Int) (b : Int), k ≤ c → l.length = (nLn r c dx dy).toNat → Upto b l → Upto (b + k) (lnRow m c dx dy y k l) ∧ (lnRow m c dx dy y k l).length = l.length := by
  induction k with
  | zero => intro l b _ _ h; exact ⟨by simpa [lnRow] using h, rfl⟩
  | succ k ih =>
    intro l b hk hl h
    rw [lnRow]
    have hb := at2_bits hm y (c - (k + 1))
    have hr := lnOf_range (r := r) (c := c) hd (y := y) (x := ((c - (k + 1) : Nat) : Int)) (by omega) (by omega) (by omega) (by omega)
    have h2 := h.add (k := (lnOf c dx dy y ((c - (k + 1) : Nat) : Int)).toNat) (by omega) hb.1 hb.2
    obtain ⟨h3, h4⟩ := ih _ (b + 1) (by omega) (by rw [addAt_len]; exact hl) h2
    refine ⟨?_, by rw [h4, addAt_len]⟩
    have e : b + 1 + (k : Int) = b + ((k + 1 : Nat) : Int) := by omega
    rw [e] at h3
    exact h3
def blk (g : List (List Int)) : Nat := (sumL (g.map sumL)).toNat
def isB (r c : Nat) (g : List (List Int)) (y x : Int) : Bool := decide (0 ≤ y) && decide (y < r) && decide (0 ≤ x) && decide (x < c) && decide (at2 g y.toNat x.toNat = 1)
def wipeF (r c : Nat) : Nat → List (List Int) → Int → Int → List (List Int)
  | 0, g, _, _ => g
  | k + 1, g, y, x => if isB r c g y x = true then wipeF r c k (wipeF r c k (wipeF r c k (wipeF r c k (setC g y.toNat x.toNat 0) (y - 1) x) (y + 1) x) y (x - 1)) y (x + 1) else g
theorem isB_bd {r c : Nat} {g : List (List Int)} {y x : Int} (h : isB r c g y x = true) : 0 ≤ y ∧ y.toNat < r ∧ 0 ≤ x ∧ x.toNat < c ∧ at2 g y.toNat x.toNat = 1 := by
  simp only [isB, Bool.and_eq_true, decide_eq_true_eq] at h
  omega
theorem wSum_nonneg {l : List Int} (h : ∀ x ∈ l, 0 ≤ x) : 0 ≤ sumL l := by
  induction l with
  | nil => rw [eSum_nil]; omega
  | cons a l ih =>
    rw [eSum_cons]
    have h1 := h a List.mem_cons_self
    have h2 := ih (fun x hx => h x (List.mem_cons_of_mem _ hx))
    omega
theorem blk_nonneg {r c : Nat} {g : List (List Int)} (h : Shape r c g) : 0 ≤ sumL (g.map sumL) := by
  apply wSum_nonneg
  intro x hx
  obtain ⟨row, hr, rfl⟩ := List.mem_map.mp hx
  exact wSum_nonneg (fun v hv => ((h.2 row hr).2 v hv).1)
theorem blk_set {r c : Nat} {g : List (List Int)} (h : Shape r c g) {y x : Int} (hb : isB r c g y x = true) : blk (setC g y.toNat x.toNat 0) + 1 = blk g := by
  obtain ⟨_, hy, _, hx, h1⟩ := isB_bd hb
  have hs : Shape r c (setC g y.toNat x.toNat 0) := setC_shape h hy (by omega) (by omega)
  have n1 := blk_nonneg h
  have n2 := blk_nonneg hs
  have e : sumL ((setC g y.toNat x.toNat 0).map sumL) = sumL (g.map sumL) - 1 := by
    obtain ⟨e1, e2⟩ := at2_row h hy
    unfold setC
    rw [List.map_set]
    have e3 : (g.map sumL)[y.toNat]? = some (sumL (g.getD y.toNat [])) := by rw [List.getElem?_map, e1]; rfl
    rw [eSum_set e3]
    have e4 : (g.getD y.toNat [])[x.toNat]? = some (at2 g y.toNat x.toNat) := gD_at 0 (by omega)
    rw [eSum_set e4, h1]
    omega
  unfold blk
  rw [e]
  omega
theorem wSum_le {l : List Int} {b : Int} (h : ∀ x ∈ l, x ≤ b) : sumL l ≤ l.length * b := by
  induction l with
  | nil => rw [eSum_nil]; simp
  | cons a l ih =>
    rw [eSum_cons]
    have h1 := h a List.mem_cons_self
    have h2 := ih (fun x hx => h x (List.mem_cons_of_mem _ hx))
    have e : ((a :: l).length : Int) * b = l.length * b + b := by
      rw [List.length_cons, Int.natCast_add, Int.add_mul]; omega
    omega
theorem blk_le {r c : Nat} {g : List (List Int)} (h : Shape r c g) : blk g ≤ r * c := by
  have h1 : sumL (g.map sumL) ≤ (g.map sumL).length * (c : Int) := by
    apply wSum_le
    intro x hx
    obtain ⟨row, hr, rfl⟩ := List.mem_map.mp hx
    obtain ⟨hl, hv⟩ := h.2 row hr
    have := wSum_le (b := 1) (fun v hm => (hv v hm).2)
    omega
  rw [List.length_map, h.1] at h1
  have h2 := blk_nonneg h
  unfold blk
  have e : ((r * c : Nat) : Int) = (r : Int) * c := by simp
  omega
theorem wipeF_shape {r c : Nat} : ∀ (k : Nat) {g : List (List Int)} (y x : Int), Shape r c g → Shape r c (wipeF r c k g y x) ∧ blk (wipeF r c k g y x) ≤ blk g := by
  intro k
  induction k with
  | zero => intro g y x h; exact ⟨h, Nat.le_refl _⟩
  | succ k ih =>
    intro g y x h
    rw [wipeF]
    split
    · rename_i hb
      obtain ⟨_, hy, _, hx, h1⟩ := isB_bd hb
      have s0 : Shape r c (setC g y.toNat x.toNat 0) := setC_shape h hy (by omega) (by omega)
      have b0 := blk_set h hb
      obtain ⟨s1, b1⟩ := ih (y - 1) x s0
      obtain ⟨s2, b2⟩ := ih (y + 1) x s1
      obtain ⟨s3, b3⟩ := ih y (x - 1) s2
      obtain ⟨s4, b4⟩ := ih y (x + 1) s3
      exact ⟨s4, by omega⟩
    · exact ⟨h, Nat.le_refl _⟩
theorem wipeF_off {r c : Nat} {g : List (List Int)} {y x : Int} (h : ¬ isB r c g y x = true) (k : Nat) : wipeF r c k g y x = g := by
  cases k with
  | zero => rfl
  | succ k => rw [wipeF, if_neg h]
theorem wipeF_on {r c : Nat} {g : List (List Int)} {y x : Int} (h : isB r c g y x = true) (k : Nat) :
    wipeF r c (k + 1) g y x = wipeF r c k (wipeF r c k (wipeF r c k (wipeF r c k (setC g y.toNat x.toNat 0) (y - 1) x) (y + 1) x) y (x - 1)) y (x + 1) := by
  rw [wipeF, if_pos h]
def cntRow (r c y : Nat) : Nat → List (List Int) × Int → List (List Int) × Int
  | 0, s => s
  | k + 1, s => cntRow r c y k (if at2 s.1 y (c - (k + 1)) = 1 then (wipeF r c (r * c + 1) s.1 y ((c - (k + 1) : Nat) : Int), s.2 + 1) else s)
def cntAll (r c : Nat) : Nat → List (List Int) × Int → List (List Int) × Int
  | 0, s => s
  | k + 1, s => cntAll r c k (cntRow r c (r - (k + 1)) c s)
def pieces (m : List (List Int)) : Int := if imageOk m = true then (cntAll m.length (m.headD []).length m.length (m, 0)).2 else -1
theorem cntRow_step {r c y x : Nat} (h : x < c) (s : List (List Int) × Int) :
    cntRow r c y (c - x) s = cntRow r c y (c - (x + 1)) (if at2 s.1 y x = 1 then (wipeF r c (r * c + 1) s.1 y x, s.2 + 1) else s) := by
  have e : c - x = (c - (x + 1)) + 1 := by omega
  have e2 : c - ((c - (x + 1)) + 1) = x := by omega
  rw [e, cntRow, e2]
theorem cntAll_step {r c y : Nat} (h : y < r) (s : List (List Int) × Int) : cntAll r c (r - y) s = cntAll r c (r - (y + 1)) (cntRow r c y c s) := by
  have e : r - y = (r - (y + 1)) + 1 := by omega
  have e2 : r - ((r - (y + 1)) + 1) = y := by omega
  rw [e, cntAll, e2]
def kl (w : List Int) (a b : Nat) : Prop := w.getD b 0 < w.getD a 0 ∨ w.getD a 0 = w.getD b 0 ∧ a < b
theorem kl_asymm {w : List Int} {a b : Nat} (h : kl w a b) : ¬ kl w b a := by unfold kl at *; omega
def Ord (w : List Int) (c : Nat) (l : List Nat) : Prop := l.Perm (List.range c) ∧ l.Pairwise (kl w)
theorem Ord.eq {w : List Int} {c : Nat} {a b : List Nat} (ha : Ord w c a) (hb : Ord w c b) : a = b :=
  (ha.1.trans hb.1.symm).eq_of_pairwise (fun _ _ _ _ h1 h2 => absurd h2 (kl_asymm h1)) ha.2 hb.2
def klB (w : List Int) (a b : Nat) : Bool := decide (w.getD b 0 < w.getD a 0) || decide (w.getD a 0 = w.getD b 0) && decide (a ≤ b)
def ordOf (w : List Int) (c : Nat) : List Nat := (List.range c).mergeSort (klB w)
theorem ordOf_ord (w : List Int) (c : Nat) : Ord w c (ordOf w c) := by
  have hp : (ordOf w c).Perm (List.range c) := List.mergeSort_perm _ _
  have hs : (ordOf w c).Pairwise (fun a b => klB w a b = true) := by
    apply List.pairwise_mergeSort
    · intro a b c h1 h2
      simp only [klB, Bool.or_eq_true, Bool.and_eq_true, decide_eq_true_eq] at *
      omega
    · intro a b
      simp only [klB, Bool.or_eq_true, Bool.and_eq_true, decide_eq_true_eq]
      omega
  have hn : (ordOf w c).Nodup := hp.nodup_iff.mpr List.nodup_range
  refine ⟨hp, ?_⟩
  have := hs.and hn
  refine this.imp ?_
  intro a b ⟨h1, h2⟩
  simp only [klB, Bool.or_eq_true, Bool.and_eq_true, decide_eq_true_eq] at h1
  unfold kl
  omega
theorem Ord.length {w : List Int} {c : Nat} {l : List Nat} (h : Ord w c l) : l.length = c := by rw [h.1.length_eq, List.length_range]
theorem Ord.nodup {w : List Int} {c : Nat} {l : List Nat} (h : Ord w c l) : l.Nodup := h.1.nodup_iff.mpr List.nodup_range
theorem Ord.mem {w : List Int} {c : Nat} {l : List Nat} (h : Ord w c l) (x : Nat) : x ∈ l ↔ x < c := by rw [h.1.mem_iff, List.mem_range]
theorem Ord.lt {w : List Int} {c : Nat} {l : List Nat} (h : Ord w c l) {i x : Nat} (hx : l[i]? = some x) : x < c := (h.mem x).mp (List.mem_of_getElem? hx)
theorem Ord.next {w : List Int} {c : Nat} {l : List Nat} (h : Ord w c l) {i b : Nat} (hb : b < c) (hn : b ∉ l.take i) (hm : ∀ x, x < c → x ∉ l.take i → x = b ∨ kl w b x) : l[i]? = some b := by
  have hi : i < l.length := by
    rcases Nat.lt_or_ge i l.length with hi | hi
    · exact hi
    · rw [List.take_of_length_le hi] at hn
      exact absurd ((h.mem b).mpr hb) hn
  have h2 : l[i] ∉ l.take i := by
    intro hc
    obtain ⟨j, hj, e⟩ := List.mem_take_iff_getElem.mp hc
    have hj2 : j < l.length := by omega
    have hq : kl w l[j] l[i] := List.pairwise_iff_getElem.mp h.2 j i hj2 hi (by omega)
    rw [e] at hq
    exact kl_asymm hq hq
  rcases hm l[i] (h.lt (List.getElem?_eq_getElem hi)) h2 with e | hk
  · rw [List.getElem?_eq_getElem hi, e]
  · exfalso
    obtain ⟨j, hj, e⟩ := List.getElem_of_mem ((h.mem b).mpr hb)
    have hji : i ≤ j := by
      rcases Nat.lt_or_ge j i with hlt | hge
      · exact absurd (List.mem_take_iff_getElem.mpr ⟨j, by omega, e⟩) hn
      · exact hge
    rcases Nat.lt_or_ge i j with hlt | hge
    · have := List.pairwise_iff_getElem.mp h.2 i j hi hj hlt
      rw [e] at this
      exact kl_asymm this hk
    · have : i = j := by omega
      subst this
      rw [e] at hk
      exact kl_asymm hk hk
def mkr (c : Nat) (s : List Nat) : List Int := (List.range c).map fun x => if x ∈ s then 1 else 0
def fillRow (w : List Int) (n : Nat) : List Int := mkr w.length ((ordOf w w.length).take n)
def lower (w row : List Int) : List Int := (List.range w.length).map fun x => w.getD x 0 - row.getD x 0
def bld : List Int → List Int → List (List Int)
  | [], _ => []
  | n :: rs, w => fillRow w n.toNat :: bld rs (lower w (fillRow w n.toNat))
theorem mkr_at {c x : Nat} (h : x < c) (s : List Nat) : (mkr c s).getD x 0 = if x ∈ s then 1 else 0 := by
  apply gD_some
  unfold mkr
  rw [List.getElem?_map, List.getElem?_range h]
  rfl
theorem mkr_len (c : Nat) (s : List Nat) : (mkr c s).length = c := by simp [mkr]
theorem mkr_nil (c : Nat) : mkr c [] = List.replicate c 0 := by
  apply List.ext_getElem?
  intro i
  unfold mkr
  rcases Nat.lt_or_ge i c with h | h
  · rw [List.getElem?_map, List.getElem?_range h, List.getElem?_replicate, if_pos h]
    simp
  · rw [List.getElem?_eq_none (by simpa using h), List.getElem?_eq_none (by simpa using h)]
theorem mkr_add {c b : Nat} (s : List Nat) (_hb : b < c) : (mkr c s).set b 1 = mkr c (s ++ [b]) := by
  apply List.ext_getElem?
  intro i
  unfold mkr
  rcases Nat.lt_or_ge i c with h | h
  · rw [List.getElem?_map, List.getElem?_range h, List.getElem?_set]
    by_cases hbi : b = i
    · rw [if_pos hbi, if_pos (by simpa using _hb)]
      simp [hbi]
    · rw [if_neg hbi, List.getElem?_map, List.getElem?_range h]
      have : ¬ i = b := fun e => hbi e.symm
      simp [this]
  · rw [List.getElem?_eq_none (by simpa using h), List.getElem?_eq_none (by simpa using h)]
theorem lower_nil (w : List Int) : lower w (mkr w.length []) = w := by
  apply List.ext_getElem?
  intro i
  unfold lower
  rcases Nat.lt_or_ge i w.length with h | h
  · rw [List.getElem?_map, List.getElem?_range h, Option.map_some, mkr_at h, gD_at 0 h]
    simp
  · rw [List.getElem?_eq_none (by simpa using h), List.getElem?_eq_none h]
theorem lower_add {w : List Int} {b : Nat} {s : List Nat} (hb : b < w.length) (hn : b ∉ s) :
    (lower w (mkr w.length s)).set b ((lower w (mkr w.length s)).getD b 0 - 1) = lower w (mkr w.length (s ++ [b])) := by
  have e : ∀ (t : List Nat) {i : Nat}, i < w.length → (lower w (mkr w.length t))[i]? = some (w.getD i 0 - if i ∈ t then 1 else 0) := by
    intro t i hi
    unfold lower
    rw [List.getElem?_map, List.getElem?_range hi, Option.map_some, mkr_at hi]
  have el : ∀ t, (lower w (mkr w.length t)).length = w.length := by intro t; simp [lower]
  apply List.ext_getElem?
  intro i
  rcases Nat.lt_or_ge i w.length with h | h
  · rw [List.getElem?_set, e _ h]
    by_cases hbi : b = i
    · subst hbi
      rw [if_pos rfl, if_pos (by rw [el]; exact hb), gD_some (e s hb), if_neg hn, e _ h, if_pos (by simp)]
      simp
    · rw [if_neg hbi, e _ h]
      have h3 : ¬ i = b := fun e => hbi e.symm
      simp [h3]
  · rw [List.getElem?_eq_none (by rw [List.length_set, el]; exact h), List.getElem?_eq_none (by rw [el]; exact h)]
theorem take_snoc {l : List Nat} {i b : Nat} (h : l[i]? = some b) : l.take (i + 1) = l.take i ++ [b] := by
  rw [List.take_add_one, h]; rfl
def insJ (P : List Nat) (j i : Nat) : List Nat := P.take j ++ i :: P.drop j
theorem set_mid {α : Type} (A : List α) (x y : α) (B : List α) : (A ++ x :: B).set A.length y = A ++ y :: B := by
  induction A with
  | nil => rfl
  | cons a A ih => show a :: (A ++ x :: B).set A.length y = _; rw [ih]; rfl
theorem split_at {P : List Nat} {j p : Nat} (h : P[j]? = some p) : (P.take j).length = j ∧ P.take (j + 1) = P.take j ++ [p] ∧ P.drop j = p :: P.drop (j + 1) := by
  obtain ⟨hj, rfl⟩ := List.getElem?_eq_some_iff.1 h
  refine ⟨by rw [List.length_take]; omega, ?_, List.drop_eq_getElem_cons hj⟩
  rw [List.take_add_one, h]; rfl
theorem insJ_len {P : List Nat} {j i : Nat} (h : j ≤ P.length) : (insJ P j i).length = P.length + 1 := by
  unfold insJ
  rw [List.length_append, List.length_cons, List.length_take, List.length_drop]; omega
theorem insJ_at {P : List Nat} {j i : Nat} (h : j ≤ P.length) : (insJ P j i)[j]? = some i := by
  unfold insJ
  have h1 : (P.take j).length = j := by rw [List.length_take]; omega
  rw [List.getElem?_append_right (by omega), h1, Nat.sub_self]; rfl
theorem insJ_prev {P : List Nat} {j i p : Nat} (h : P[j]? = some p) : (insJ P (j + 1) i)[j]? = some p := by
  unfold insJ
  obtain ⟨h1, h2, -⟩ := split_at h
  rw [List.getElem?_append_left (by rw [h2, List.length_append, h1]; simp), List.getElem?_take, if_pos (by omega), h]
theorem insJ_swap {P : List Nat} {j i p : Nat} (h : P[j]? = some p) (R : List Nat) : ((insJ P (j + 1) i ++ R).set (j + 1) p).set j i = insJ P j i ++ R := by
  unfold insJ
  obtain ⟨h1, h2, h3⟩ := split_at h
  rw [h2, h3]
  have e1 : P.take j ++ [p] ++ i :: P.drop (j + 1) ++ R = (P.take j ++ [p]) ++ i :: (P.drop (j + 1) ++ R) := by simp
  have e2 : j + 1 = (P.take j ++ [p]).length := by rw [List.length_append, h1]; rfl
  rw [e1]
  have e3 : ((P.take j ++ [p]) ++ i :: (P.drop (j + 1) ++ R)).set (j + 1) p = (P.take j ++ [p]) ++ p :: (P.drop (j + 1) ++ R) := by
    have := set_mid (P.take j ++ [p]) i p (P.drop (j + 1) ++ R)
    rw [← e2] at this; exact this
  rw [e3]
  have e4 : (P.take j ++ [p]) ++ p :: (P.drop (j + 1) ++ R) = P.take j ++ p :: (p :: (P.drop (j + 1) ++ R)) := by simp
  rw [e4]
  have e5 : (P.take j ++ p :: (p :: (P.drop (j + 1) ++ R))).set j i = P.take j ++ i :: (p :: (P.drop (j + 1) ++ R)) := by
    have := set_mid (P.take j) p i (p :: (P.drop (j + 1) ++ R))
    rw [h1] at this; exact this
  rw [e5]; simp
theorem insJ_ord {w : List Int} {P : List Nat} {i j : Nat} (hp : Ord w i P) (h1 : ∀ q ∈ P.drop j, w.getD q 0 < w.getD i 0) (h2 : j = 0 ∨ ∃ p, P[j - 1]? = some p ∧ w.getD i 0 ≤ w.getD p 0) : Ord w (i + 1) (insJ P j i) := by
  refine ⟨?_, ?_⟩
  · have e : (insJ P j i).Perm (i :: P) := by
      unfold insJ
      refine List.perm_middle.trans ?_
      rw [List.take_append_drop]
    refine e.trans ?_
    rw [List.range_succ]
    refine (List.Perm.cons i hp.1).trans ?_
    exact (List.perm_append_singleton i (List.range i)).symm
  · have hd := hp.2
    rw [← List.take_append_drop j P, List.pairwise_append] at hd
    obtain ⟨d1, d2, d3⟩ := hd
    unfold insJ
    rw [List.pairwise_append]
    refine ⟨d1, ?_, ?_⟩
    · rw [List.pairwise_cons]
      exact ⟨fun q hq => .inl (h1 q hq), d2⟩
    · intro a ha b hb
      rw [List.mem_cons] at hb
      rcases hb with rfl | hb
      · obtain ⟨t, ht, e⟩ := List.mem_take_iff_getElem.mp ha
        rcases h2 with rfl | ⟨p, hp1, hp2⟩
        · omega
        · have ha2 : a < b := (hp.mem a).mp (List.mem_of_mem_take ha)
          obtain ⟨hjl, hpe⟩ := List.getElem?_eq_some_iff.1 hp1
          rcases Nat.lt_or_ge t (j - 1) with hlt | hge
          · have hk := List.pairwise_iff_getElem.mp hp.2 t (j - 1) (by omega) hjl hlt
            rw [e, hpe] at hk
            unfold kl at *
            omega
          · have : t = j - 1 := by omega
            subst this
            rw [hpe] at e
            subst e
            unfold kl
            omega
      · exact d3 a ha b hb
def restL (i c : Nat) : List Nat := (List.range (c - i)).map (· + i)
theorem restL_cons {i c : Nat} (h : i < c) : restL i c = i :: restL (i + 1) c := by
  unfold restL
  have e : c - i = (c - (i + 1)) + 1 := by omega
  rw [e, List.range_succ_eq_map, List.map_cons, List.map_map]
  simp only [Nat.zero_add, List.cons.injEq, true_and]
  apply List.map_congr_left
  intro a _
  show a + 1 + i = a + (i + 1)
  omega
theorem restL_len (i c : Nat) : (restL i c).length = c - i := by simp [restL]
theorem restL_done (c : Nat) : restL c c = [] := by simp [restL]
theorem restL_zero (c : Nat) : restL 0 c = List.range c := by simp [restL]
def lowK : List Int → List Int → Nat → List Int
  | _, w, 0 => w
  | [], w, _ + 1 => w
  | n :: rs, w, k + 1 => lowK rs (lower w (fillRow w n.toNat)) k
theorem lowK_step : ∀ {rows : List Int} {w : List Int} {k : Nat} {n : Int}, rows[k]? = some n → lowK rows w (k + 1) = lower (lowK rows w k) (fillRow (lowK rows w k) n.toNat)
  | [], _, _, _, h => by simp at h
  | a :: rs, w, 0, n, h => by
    have : a = n := by simpa using h
    subst this
    cases rs <;> rfl
  | a :: rs, w, k + 1, n, h => by
    have h' : rs[k]? = some n := by simpa using h
    exact lowK_step (rows := rs) (w := lower w (fillRow w a.toNat)) h'
theorem bld_at : ∀ {rows : List Int} {w : List Int} {k : Nat} {n : Int}, rows[k]? = some n → (bld rows w)[k]? = some (fillRow (lowK rows w k) n.toNat)
  | [], _, _, _, h => by simp at h
  | a :: rs, w, 0, n, h => by
    have : a = n := by simpa using h
    subst this
    rfl
  | a :: rs, w, k + 1, n, h => by
    have h' : rs[k]? = some n := by simpa using h
    show (bld rs (lower w (fillRow w a.toNat)))[k]? = _
    rw [bld_at h']
    rfl
theorem bld_len : ∀ (rows w : List Int), (bld rows w).length = rows.length
  | [], _ => rfl
  | a :: rs, w => by show (bld rs _).length + 1 = rs.length + 1; rw [bld_len rs]
theorem lower_len (w row : List Int) : (lower w row).length = w.length := by simp [lower]
theorem lowK_len : ∀ (rows w : List Int) (k : Nat), (lowK rows w k).length = w.length
  | _, _, 0 => by unfold lowK; rfl
  | [], _, _ + 1 => rfl
  | a :: rs, w, k + 1 => by show (lowK rs _ k).length = _; rw [lowK_len rs, lower_len]
theorem lower_bd {w row : List Int} {a b : Int} (h : ∀ x ∈ w, a ≤ x ∧ x ≤ b) (hr : ∀ i, 0 ≤ row.getD i 0 ∧ row.getD i 0 ≤ 1) : ∀ x ∈ lower w row, a - 1 ≤ x ∧ x ≤ b := by
  intro x hx
  unfold lower at hx
  rw [List.mem_map] at hx
  obtain ⟨i, hi, rfl⟩ := hx
  rw [List.mem_range] at hi
  have h1 := h (w.getD i 0) (List.mem_of_getElem? (gD_at 0 hi))
  have h2 := hr i
  omega
theorem mkr_bit (c : Nat) (s : List Nat) (i : Nat) : 0 ≤ (mkr c s).getD i 0 ∧ (mkr c s).getD i 0 ≤ 1 := by
  rcases Nat.lt_or_ge i c with h | h
  · rw [mkr_at h]; split <;> omega
  · rw [List.getD_eq_getElem?_getD, List.getElem?_eq_none (by rw [mkr_len]; exact h)]; simp
theorem lowK_bd : ∀ (rows w : List Int) (k : Nat) {a b : Int}, (∀ x ∈ w, a ≤ x ∧ x ≤ b) → ∀ x ∈ lowK rows w k, a - k ≤ x ∧ x ≤ b
  | _, _, 0, _, _, h => by unfold lowK; intro x hx; have := h x hx; omega
  | [], _, k + 1, _, _, h => by show ∀ x ∈ _, _; intro x hx; have := h x hx; omega
  | n :: rs, w, k + 1, a, b, h => by
    intro x hx
    have := lowK_bd rs (lower w (fillRow w n.toNat)) k (lower_bd h (fun i => mkr_bit _ _ i)) x hx
    omega
def nearGo (d : List (List Int) → Int) : List (List (List Int)) → List (List Int) → List (List Int)
  | [], b => b
  | m :: l, b => nearGo d l (if d m < d b then m else b)
def nearL (d : List (List Int) → Int) (l : List (List (List Int))) : Option (List (List Int)) :=
  match l with
  | [] => none
  | a :: t => some (nearGo d t a)
theorem nearGo_first (d : List (List Int) → Int) (a : List (List Int)) (t : List (List (List Int))) : nearGo d (a :: t) a = nearGo d t a := by
  rw [nearGo, if_neg (by omega)]
theorem nearGo_step {d : List (List Int) → Int} {l : List (List (List Int))} {k : Nat} {m b : List (List Int)} (h : l[k]? = some m) : nearGo d (l.drop k) b = nearGo d (l.drop (k + 1)) (if d m < d b then m else b) := by
  have hk : k < l.length := by
    rcases Nat.lt_or_ge k l.length with h1 | h1
    · exact h1
    · rw [List.getElem?_eq_none h1] at h; exact absurd h (by simp)
  rw [List.drop_eq_getElem_cons hk, nearGo]
  rw [List.getElem?_eq_getElem hk] at h
  rw [Option.some.inj h]
end Go.Proofs.YthmocomfjgmjoaaGreatDoor

/- All images with given sums, listed cell by cell. Plain. -/
import Derived.Test.YtliejhmlcdjpcaaC12
namespace Go.Proofs.Ytliejhmlcdjpcaa

theorem gD_some {α : Type} {l : List α} {i : Nat} {x d : α} (h : l[i]? = some x) : l.getD i d = x := by rw [List.getD_eq_getElem?_getD, h]; rfl
theorem gD_none {α : Type} {l : List α} {i : Nat} {d : α} (h : l.length ≤ i) : l.getD i d = d := by rw [List.getD_eq_getElem?_getD, List.getElem?_eq_none h]; rfl
theorem gD_self {α : Type} {l : List α} {i : Nat} {v d : α} (h : i < l.length) : (l.set i v).getD i d = v := gD_some (List.getElem?_set_self h)
theorem gD_ne {α : Type} {l : List α} {i j : Nat} {v d : α} (h : i ≠ j) : (l.set i v).getD j d = l.getD j d := by rw [List.getD_eq_getElem?_getD, List.getElem?_set_ne h, ← List.getD_eq_getElem?_getD]
theorem gD_at {α : Type} {l : List α} {i : Nat} (d : α) (h : i < l.length) : l[i]? = some (l.getD i d) := by rw [List.getElem?_eq_getElem h, gD_some (List.getElem?_eq_getElem h)]
def at2 (m : List (List Int)) (i j : Nat) : Int := (m.getD i []).getD j 0
def setC (m : List (List Int)) (y x : Nat) (v : Int) : List (List Int) := m.set y ((m.getD y []).set x v)
def colS (m : List (List Int)) (j : Nat) : Int := sumL (m.map fun row => row.getD j 0)

theorem eSum_cons (a : Int) (l : List Int) : sumL (a :: l) = a + sumL l := by
  have h : ∀ (l : List Int) (b : Int), l.foldl (· + ·) b = b + l.foldl (· + ·) 0 := by
    intro l
    induction l with
    | nil => intro b; simp
    | cons c l ih => intro b; rw [List.foldl_cons, List.foldl_cons, ih, ih (0 + c)]; omega
  show (a :: l).foldl (· + ·) 0 = a + l.foldl (· + ·) 0
  rw [List.foldl_cons, h]; omega
theorem eSum_nil : sumL [] = 0 := rfl
theorem eSum_append (a b : List Int) : sumL (a ++ b) = sumL a + sumL b := by
  induction a with
  | nil => rw [List.nil_append, eSum_nil]; omega
  | cons x a ih => rw [List.cons_append, eSum_cons, eSum_cons, ih]; omega
theorem eSum_set {l : List Int} {k : Nat} {x : Int} (h : l[k]? = some x) (v : Int) : sumL (l.set k v) = sumL l - x + v := by
  induction l generalizing k with
  | nil => simp at h
  | cons a l ih =>
    cases k with
    | zero => simp at h; subst h; rw [List.set_cons_zero, eSum_cons, eSum_cons]; omega
    | succ k => rw [List.set_cons_succ, eSum_cons, eSum_cons, ih (by simpa using h)]; omega
theorem eSum_zero {l : List Int} (h : ∀ i, l.getD i 0 = 0) : sumL l = 0 := by
  induction l with
  | nil => rfl
  | cons a l ih =>
    rw [eSum_cons]
    have h0 := h 0
    have := ih (fun i => by have := h (i + 1); simpa using this)
    simp at h0
    omega
theorem eSum_bits {l : List Int} (h : ∀ i, i < l.length → 0 ≤ l.getD i 0 ∧ l.getD i 0 ≤ 1) : 0 ≤ sumL l ∧ sumL l ≤ l.length := by
  induction l with
  | nil => exact ⟨Int.le_refl _, by rw [eSum_nil]; exact Int.natCast_nonneg _⟩
  | cons a l ih =>
    have h0 := h 0 (by simp)
    have := ih (fun i hi => by have := h (i + 1) (by simpa using hi); simpa using this)
    simp at h0
    rw [eSum_cons, List.length_cons]; omega
/-- what a list holds from a place on, against another list that agrees before it and is zero from there on -/
theorem eSum_tail {a b : List Int} (hl : a.length = b.length) : ∀ {k : Nat}, (∀ i, i < k → a.getD i 0 = b.getD i 0) → (∀ i, k ≤ i → b.getD i 0 = 0) → (∀ i, i < a.length → 0 ≤ a.getD i 0 ∧ a.getD i 0 ≤ 1) → k < a.length →
    (a.getD k 0 = 0 → 0 ≤ sumL a - sumL b ∧ sumL a - sumL b ≤ (a.length : Int) - k - 1) ∧ (a.getD k 0 = 1 → 1 ≤ sumL a - sumL b) := by
  induction a generalizing b with
  | nil => intro k _ _ _ hk; simp at hk
  | cons x a ih =>
    cases b with
    | nil => simp at hl
    | cons y b =>
      intro k h1 h2 h3 hk
      have hl : a.length = b.length := by simpa using hl
      have hbits : ∀ i, i < a.length → 0 ≤ a.getD i 0 ∧ a.getD i 0 ≤ 1 := fun i hi => by
        have := h3 (i + 1) (by simpa using hi); simpa using this
      rw [eSum_cons, eSum_cons, List.length_cons]
      cases k with
      | zero =>
        have e0 := h2 0 (Nat.le_refl _)
        simp at e0
        have ez : sumL b = 0 := eSum_zero fun i => by have := h2 (i + 1) (Nat.zero_le _); simpa using this
        have hb := eSum_bits hbits
        constructor
        · intro hx; simp at hx; omega
        · intro hx; simp at hx; omega
      | succ k =>
        have e0 := h1 0 (Nat.succ_pos _)
        simp at e0
        have := @ih b hl k (fun i hi => by have := h1 (i + 1) (by omega); simpa using this) (fun i hi => by have := h2 (i + 1) (by omega); simpa using this) hbits (by simpa using hk)
        constructor
        · intro hx
          have := this.1 (by simpa using hx)
          omega
        · intro hx
          have := this.2 (by simpa using hx)
          omega

theorem at2_row {m : List (List Int)} {r c y : Nat} (h : Shape r c m) (hy : y < r) : m[y]? = some (m.getD y []) ∧ (m.getD y []).length = c := by
  obtain ⟨row, hr, hl, -⟩ := h.row hy
  rw [gD_some hr]; exact ⟨hr, hl⟩
theorem at2_bits {m : List (List Int)} {r c : Nat} (h : Shape r c m) (i j : Nat) : 0 ≤ at2 m i j ∧ at2 m i j ≤ 1 := by
  unfold at2
  by_cases hi : i < r
  · obtain ⟨row, hr, hl, hb⟩ := h.row hi
    rw [gD_some hr]
    by_cases hj : j < row.length
    · have := hb _ (List.getElem_mem hj)
      rw [gD_some (List.getElem?_eq_getElem hj)]; exact this
    · rw [gD_none (by omega)]; omega
  · rw [gD_none (l := m) (by rw [h.1]; omega)]; exact ⟨Int.le_refl _, by simp⟩
theorem setC_shape {m : List (List Int)} {r c y x : Nat} (h : Shape r c m) (hy : y < r) {v : Int} (h0 : 0 ≤ v) (h1 : v ≤ 1) : Shape r c (setC m y x v) := h.set (at2_row h hy).1 h0 h1
theorem setC_row {m : List (List Int)} {r c y x : Nat} (h : Shape r c m) (hy : y < r) (v : Int) (i : Nat) : (setC m y x v).getD i [] = if i = y then (m.getD y []).set x v else m.getD i [] := by
  unfold setC
  have hyl : y < m.length := by rw [h.1]; exact hy
  by_cases hi : i = y
  · subst hi; rw [if_pos rfl, gD_self hyl]
  · rw [if_neg hi, gD_ne (by omega)]
theorem at2_setC {m : List (List Int)} {r c y x : Nat} (h : Shape r c m) (hy : y < r) (hx : x < c) (v : Int) (i j : Nat) : at2 (setC m y x v) i j = if i = y ∧ j = x then v else at2 m i j := by
  unfold at2
  rw [setC_row h hy]
  have hl := (at2_row h hy).2
  by_cases hi : i = y
  · subst hi
    rw [if_pos rfl]
    by_cases hj : j = x
    · subst hj; rw [if_pos ⟨rfl, rfl⟩, gD_self (by omega)]
    · rw [if_neg (fun h => hj h.2), gD_ne (by omega)]
  · rw [if_neg hi, if_neg (fun h => hi h.1)]
theorem setC_back {m : List (List Int)} {r c y x : Nat} (h : Shape r c m) (hy : y < r) (hx : x < c) {v : Int} (hv0 : 0 ≤ v) (hv1 : v ≤ 1) (hz : at2 m y x = 0) : setC (setC m y x v) y x 0 = m := by
  have h2 := setC_shape (x := x) h hy hv0 hv1
  refine (setC_shape h2 hy (by decide) (by decide)).ext h fun i j hi hj => ?_
  show at2 _ i j = at2 m i j
  rw [at2_setC h2 hy hx, at2_setC h hy hx]
  by_cases he : i = y ∧ j = x
  · rw [if_pos he, he.1, he.2, hz]
  · rw [if_neg he, if_neg he]
theorem colS_at {m : List (List Int)} {r c j : Nat} (_h : Shape r c m) : ∀ i, (m.map fun row => row.getD j 0).getD i 0 = at2 m i j := by
  intro i
  unfold at2
  cases hi : m[i]? with
  | none =>
    have := List.getElem?_eq_none_iff.1 hi
    rw [gD_none (by rw [List.length_map]; exact this), gD_none (l := m) this, gD_none (by simp)]
  | some row => rw [gD_some (l := m) hi, gD_some (x := row.getD j 0)]; rw [List.getElem?_map, hi]; rfl
theorem colS_set {m : List (List Int)} {r c y x : Nat} (h : Shape r c m) (hy : y < r) (hx : x < c) (v : Int) (j : Nat) : colS (setC m y x v) j = if j = x then colS m j - at2 m y x + v else colS m j := by
  unfold colS setC
  rw [List.map_set]
  have hrow := at2_row h hy
  have e : (m.map fun row => row.getD j 0)[y]? = some (at2 m y j) := by
    rw [List.getElem?_map, hrow.1]; rfl
  rw [eSum_set e]
  by_cases hj : j = x
  · subst hj
    rw [if_pos rfl, gD_self (by omega)]
  · rw [if_neg hj, gD_ne (by omega)]
    unfold at2; omega

/-- the two grids agree before the cell (y, x) -/
def Agree (g m : List (List Int)) (y x : Nat) : Prop := ∀ i j, (i < y ∨ i = y ∧ j < x) → at2 g i j = at2 m i j
/-- the first grid comes before the second -/
def GLt (r c : Nat) (a b : List (List Int)) : Prop := ∃ y x, y < r ∧ x < c ∧ Agree a b y x ∧ at2 a y x < at2 b y x

def pcell (r c : Nat) (k : Nat → Nat → Int → List Int → List (List Int) → List (List (List Int))) (y x : Nat) (need : Int) (left : List Int) (m : List (List Int)) : List (List (List Int)) :=
  (if need ≤ (c : Int) - x - 1 ∧ left.getD x 0 ≤ (r : Int) - y - 1 then k y (x + 1) need left m else []) ++
  (if 0 < need ∧ 0 < left.getD x 0 then k y (x + 1) (need - 1) (left.set x (left.getD x 0 - 1)) (setC m y x 1) else [])
def pgo (xs : List Int) (r c : Nat) : Nat → Nat → Nat → Int → List Int → List (List Int) → List (List (List Int))
  | 0, _, _, _, _, _ => []
  | f + 1, y, x, need, left, m =>
    if x = c then (if 0 < need then [] else if y + 1 = r then [m] else pcell r c (pgo xs r c f) (y + 1) 0 (xs.getD (y + 1) 0) left m)
    else pcell r c (pgo xs r c f) y x need left m

structure PInv (xs ys : List Int) (r c y x : Nat) (need : Int) (left : List Int) (m : List (List Int)) : Prop where
  sh : Shape r c m
  zero : ∀ i j, (y < i ∨ i = y ∧ x ≤ j) → at2 m i j = 0
  rows : ∀ i, i < y → sumL (m.getD i []) = xs.getD i 0
  needE : need = xs.getD y 0 - sumL (m.getD y [])
  ll : left.length = c
  leftE : ∀ j, j < c → left.getD j 0 = ys.getD j 0 - colS m j
  need0 : 0 ≤ need ∧ need ≤ (c : Int) - x
  left0 : ∀ j, j < c → 0 ≤ left.getD j 0 ∧ left.getD j 0 ≤ (r : Int) - y - (if j < x then 1 else 0)
  hx : ∀ i, i < r → 0 ≤ xs.getD i 0 ∧ xs.getD i 0 ≤ c

/-- an image with the sums xs and ys -/
def Sums (xs ys : List Int) (r c : Nat) (g : List (List Int)) : Prop := Shape r c g ∧ (∀ i, i < r → sumL (g.getD i []) = xs.getD i 0) ∧ ∀ j, j < c → colS g j = ys.getD j 0
def Goal (xs ys : List Int) (r c y x : Nat) (m g : List (List Int)) : Prop := Sums xs ys r c g ∧ Agree g m y x

theorem PInv.white {xs ys : List Int} {r c y x : Nat} {need : Int} {left : List Int} {m : List (List Int)} (h : PInv xs ys r c y x need left m) (hn : need ≤ (c : Int) - x - 1) (hl : left.getD x 0 ≤ (r : Int) - y - 1) : PInv xs ys r c y (x + 1) need left m := by
  refine ⟨h.sh, fun i j hij => h.zero i j (by omega), h.rows, h.needE, h.ll, h.leftE, ⟨h.need0.1, by have := h.need0; push_cast; omega⟩, fun j hj => ?_, h.hx⟩
  obtain ⟨h1, h2⟩ := h.left0 j hj
  refine ⟨h1, ?_⟩
  by_cases hjx : j < x
  · rw [if_pos hjx] at h2; rw [if_pos (by omega)]; exact h2
  · by_cases hje : j = x
    · subst hje; rw [if_pos (by omega)]; exact hl
    · rw [if_neg hjx] at h2; rw [if_neg (by omega)]; exact h2
theorem PInv.black {xs ys : List Int} {r c y x : Nat} {need : Int} {left : List Int} {m : List (List Int)} (h : PInv xs ys r c y x need left m) (hy : y < r) (hx : x < c) (hn : 0 < need) (hl : 0 < left.getD x 0) :
    PInv xs ys r c y (x + 1) (need - 1) (left.set x (left.getD x 0 - 1)) (setC m y x 1) := by
  have hz : at2 m y x = 0 := h.zero y x (.inr ⟨rfl, Nat.le_refl _⟩)
  have hr := at2_row h.sh hy
  refine ⟨setC_shape h.sh hy (by decide) (by decide), fun i j hij => ?_, fun i hi => ?_, ?_, by rw [List.length_set, h.ll], fun j hj => ?_, ⟨by omega, by have := h.need0; push_cast; omega⟩, fun j hj => ?_, h.hx⟩
  · rw [at2_setC h.sh hy hx, if_neg (by omega)]
    exact h.zero i j (by omega)
  · rw [setC_row h.sh hy, if_neg (by omega)]; exact h.rows i hi
  · rw [setC_row h.sh hy, if_pos rfl]
    have e : (m.getD y [])[x]? = some (at2 m y x) := by
      exact gD_at 0 (by omega)
    rw [eSum_set e, hz]
    have := h.needE; omega
  · rw [colS_set h.sh hy hx, hz]
    have := h.leftE j hj
    by_cases hjx : j = x
    · subst hjx; rw [if_pos rfl, gD_self (by rw [h.ll]; exact hj)]; omega
    · rw [if_neg hjx, gD_ne (by omega)]; exact this
  · obtain ⟨h1, h2⟩ := h.left0 j hj
    by_cases hjx : j = x
    · subst hjx
      rw [gD_self (by rw [h.ll]; exact hj)]
      rw [if_pos (by omega)]; rw [if_neg (by omega)] at h2; omega
    · rw [gD_ne (by omega)]
      refine ⟨h1, ?_⟩
      by_cases hjl : j < x
      · rw [if_pos hjl] at h2; rw [if_pos (by omega)]; exact h2
      · rw [if_neg hjl] at h2; rw [if_neg (by omega)]; exact h2
theorem PInv.next {xs ys : List Int} {r c y : Nat} {need : Int} {left : List Int} {m : List (List Int)} (h : PInv xs ys r c y c need left m) (hy : y + 1 < r) : PInv xs ys r c (y + 1) 0 (xs.getD (y + 1) 0) left m := by
  have h0 := h.need0
  refine ⟨h.sh, fun i j hij => h.zero i j (by omega), fun i hi => ?_, ?_, h.ll, h.leftE, ?_, fun j hj => ?_, h.hx⟩
  · by_cases hiy : i < y
    · exact h.rows i hiy
    · obtain rfl : i = y := by omega
      have := h.needE; omega
  · have : sumL (m.getD (y + 1) []) = 0 := eSum_zero fun j => h.zero (y + 1) j (.inl (by omega))
    omega
  · have := h.hx (y + 1) hy
    exact ⟨this.1, by push_cast; omega⟩
  · obtain ⟨h1, h2⟩ := h.left0 j hj
    rw [if_pos hj] at h2
    exact ⟨h1, by rw [if_neg (by omega)]; push_cast; omega⟩
theorem Sums.guard {xs ys : List Int} {r c y x : Nat} {need : Int} {left : List Int} {m g : List (List Int)} (h : PInv xs ys r c y x need left m) (hy : y < r) (hx : x < c) (hg : Goal xs ys r c y x m g) :
    (at2 g y x = 0 → need ≤ (c : Int) - x - 1 ∧ left.getD x 0 ≤ (r : Int) - y - 1) ∧ (at2 g y x = 1 → 0 < need ∧ 0 < left.getD x 0) := by
  obtain ⟨⟨gs, gr, gc⟩, ga⟩ := hg
  have hrow := at2_row h.sh hy
  have grow := at2_row gs hy
  have t1 := eSum_tail (a := g.getD y []) (b := m.getD y []) (by rw [hrow.2, grow.2]) (k := x) (fun i hi => ga y i (.inr ⟨rfl, hi⟩)) (fun i hi => h.zero y i (.inr ⟨rfl, hi⟩)) (fun i _ => at2_bits gs y i) (by rw [grow.2]; exact hx)
  have t2 := eSum_tail (a := g.map fun row => row.getD x 0) (b := m.map fun row => row.getD x 0) (by rw [List.length_map, List.length_map, gs.1, h.sh.1]) (k := y) (fun i hi => by rw [colS_at gs, colS_at h.sh]; exact ga i x (.inl hi))
    (fun i hi => by rw [colS_at h.sh]; exact h.zero i x (by omega)) (fun i _ => by rw [colS_at gs]; exact at2_bits gs i x) (by rw [List.length_map, gs.1]; exact hy)
  rw [colS_at gs, List.length_map, gs.1] at t2
  rw [grow.2] at t1
  have e1 := gr y hy
  have e2 : sumL (g.map fun row => row.getD x 0) = ys.getD x 0 := gc x hx
  have e3 := h.needE
  have e4 : left.getD x 0 = ys.getD x 0 - sumL (m.map fun row => row.getD x 0) := h.leftE x hx
  constructor
  · intro hz
    have a1 := t1.1 hz
    have a2 := t2.1 hz
    omega
  · intro hz
    have a1 := t1.2 hz
    have a2 := t2.2 hz
    omega
theorem pcell_mem {xs ys : List Int} {r c y x : Nat} {need : Int} {left : List Int} {m : List (List Int)} {k : Nat → Nat → Int → List Int → List (List Int) → List (List (List Int))} (h : PInv xs ys r c y x need left m) (hy : y < r) (hx : x < c)
    (hk : ∀ need left m, PInv xs ys r c y (x + 1) need left m → ∀ g, g ∈ k y (x + 1) need left m ↔ Goal xs ys r c y (x + 1) m g) (g : List (List Int)) :
    g ∈ pcell r c k y x need left m ↔ Goal xs ys r c y x m g := by
  have hz : at2 m y x = 0 := h.zero y x (.inr ⟨rfl, Nat.le_refl _⟩)
  unfold pcell
  rw [List.mem_append]
  constructor
  · rintro (hm | hm)
    · split at hm
      · rename_i hc
        have := (hk _ _ _ (h.white hc.1 hc.2) g).1 hm
        exact ⟨this.1, fun i j hij => this.2 i j (by omega)⟩
      · cases hm
    · split at hm
      · rename_i hc
        have := (hk _ _ _ (h.black hy hx hc.1 hc.2) g).1 hm
        refine ⟨this.1, fun i j hij => ?_⟩
        have e := this.2 i j (by omega)
        rw [at2_setC h.sh hy hx, if_neg (by omega)] at e
        exact e
      · cases hm
  · intro hg
    have hgu := Sums.guard h hy hx hg
    have hb := at2_bits hg.1.1 y x
    have hcase : at2 g y x = 0 ∨ at2 g y x = 1 := by omega
    rcases hcase with h0 | h1
    · left
      have hc := hgu.1 h0
      rw [if_pos hc]
      refine (hk _ _ _ (h.white hc.1 hc.2) g).2 ⟨hg.1, fun i j hij => ?_⟩
      by_cases he : i = y ∧ j = x
      · rw [he.1, he.2, h0, hz]
      · exact hg.2 i j (by omega)
    · right
      have hc := hgu.2 h1
      rw [if_pos hc]
      refine (hk _ _ _ (h.black hy hx hc.1 hc.2) g).2 ⟨hg.1, fun i j hij => ?_⟩
      rw [at2_setC h.sh hy hx]
      by_cases he : i = y ∧ j = x
      · rw [if_pos he, he.1, he.2, h1]
      · rw [if_neg he]; exact hg.2 i j (by omega)
theorem pgo_mem (xs ys : List Int) (r c : Nat) (f : Nat) : ∀ (y x : Nat) (need : Int) (left : List Int) (m : List (List Int)), PInv xs ys r c y x need left m → y < r → x ≤ c → 1 ≤ c → r * (c + 1) ≤ f + (y * (c + 1) + x) →
    ∀ g, g ∈ pgo xs r c f y x need left m ↔ Goal xs ys r c y x m g := by
  induction f with
  | zero =>
    intro y x need left m _ hy hx _ hf
    have h1 : (y + 1) * (c + 1) ≤ r * (c + 1) := Nat.mul_le_mul_right _ hy
    rw [Nat.succ_mul] at h1
    omega
  | succ f ih =>
    intro y x need left m h hy hx hc1 hf g
    rw [pgo]
    by_cases hxc : x = c
    · subst hxc
      rw [if_pos rfl]
      have h0 := h.need0
      rw [if_neg (by omega)]
      by_cases hyr : y + 1 = r
      · rw [if_pos hyr, List.mem_singleton]
        constructor
        · rintro rfl
          refine ⟨⟨h.sh, fun i hi => ?_, fun j hj => ?_⟩, fun _ _ _ => rfl⟩
          · by_cases hiy : i < y
            · exact h.rows i hiy
            · obtain rfl : i = y := by omega
              have := h.needE; omega
          · obtain ⟨h1, h2⟩ := h.left0 j hj
            rw [if_pos hj] at h2
            have := h.leftE j hj
            omega
        · rintro ⟨⟨gs, -⟩, ga⟩
          exact gs.ext h.sh fun i j hi hj => ga i j (by omega)
      · rw [if_neg hyr]
        have hy1 : y + 1 < r := by omega
        have hf' : r * (x + 1) ≤ f + ((y + 1) * (x + 1) + (0 + 1)) := by rw [Nat.succ_mul]; omega
        rw [pcell_mem (h.next hy1) hy1 (by omega) (fun need' left' m' hi => ih (y + 1) (0 + 1) need' left' m' hi hy1 (by omega) hc1 hf') g]
        refine ⟨fun hg => ⟨hg.1, fun i j hij => ?_⟩, fun hg => ⟨hg.1, fun i j hij => ?_⟩⟩
        · by_cases hjx : i < y + 1
          · exact hg.2 i j (.inl hjx)
          · omega
        · by_cases hjx : i < y
          · exact hg.2 i j (.inl hjx)
          · obtain rfl : i = y := by omega
            by_cases hjc : j < x
            · exact hg.2 i j (.inr ⟨rfl, hjc⟩)
            · unfold at2
              rw [gD_none (l := g.getD i []) (by rw [(at2_row hg.1.1 hy).2]; omega), gD_none (l := m.getD i []) (by rw [(at2_row h.sh hy).2]; omega)]
    · rw [if_neg hxc]
      exact pcell_mem h hy (by omega) (fun need' left' m' hi => ih y (x + 1) need' left' m' hi hy (by omega) hc1 (by omega)) g
theorem pcell_sorted {xs ys : List Int} {r c y x : Nat} {need : Int} {left : List Int} {m : List (List Int)} {k : Nat → Nat → Int → List Int → List (List Int) → List (List (List Int))} (h : PInv xs ys r c y x need left m) (hy : y < r) (hx : x < c)
    (hk : ∀ need left m, PInv xs ys r c y (x + 1) need left m → ∀ g, g ∈ k y (x + 1) need left m ↔ Goal xs ys r c y (x + 1) m g)
    (hs : ∀ need left m, PInv xs ys r c y (x + 1) need left m → (k y (x + 1) need left m).Pairwise (GLt r c)) : (pcell r c k y x need left m).Pairwise (GLt r c) := by
  unfold pcell
  rw [List.pairwise_append]
  refine ⟨?_, ?_, ?_⟩
  · split
    · rename_i hc; exact hs _ _ _ (h.white hc.1 hc.2)
    · exact List.Pairwise.nil
  · split
    · rename_i hc; exact hs _ _ _ (h.black hy hx hc.1 hc.2)
    · exact List.Pairwise.nil
  · intro a ha b hb
    split at ha
    · split at hb
      · rename_i hc1 hc2
        have h1 := (hk _ _ _ (h.white hc1.1 hc1.2) a).1 ha
        have h2 := (hk _ _ _ (h.black hy hx hc2.1 hc2.2) b).1 hb
        refine ⟨y, x, hy, hx, fun i j hij => ?_, ?_⟩
        · rw [h1.2 i j (by omega), h2.2 i j (by omega), at2_setC h.sh hy hx, if_neg (by omega)]
        · rw [h1.2 y x (by omega), h2.2 y x (by omega), at2_setC h.sh hy hx, if_pos ⟨rfl, rfl⟩, h.zero y x (by omega)]
          decide
      · cases hb
    · cases ha
theorem pgo_sorted (xs ys : List Int) (r c : Nat) (f : Nat) : ∀ (y x : Nat) (need : Int) (left : List Int) (m : List (List Int)), PInv xs ys r c y x need left m → y < r → x ≤ c → 1 ≤ c → r * (c + 1) ≤ f + (y * (c + 1) + x) →
    (pgo xs r c f y x need left m).Pairwise (GLt r c) := by
  induction f with
  | zero => intro y x need left m _ _ _ _ _; exact List.Pairwise.nil
  | succ f ih =>
    intro y x need left m h hy hx hc1 hf
    rw [pgo]
    by_cases hxc : x = c
    · subst hxc
      rw [if_pos rfl]
      have h0 := h.need0
      rw [if_neg (by omega)]
      by_cases hyr : y + 1 = r
      · rw [if_pos hyr]; exact List.pairwise_singleton _ _
      · rw [if_neg hyr]
        have hy1 : y + 1 < r := by omega
        have hf' : r * (x + 1) ≤ f + ((y + 1) * (x + 1) + (0 + 1)) := by rw [Nat.succ_mul]; omega
        exact pcell_sorted (h.next hy1) hy1 (by omega) (fun need' left' m' hi => pgo_mem xs ys r x f (y + 1) (0 + 1) need' left' m' hi hy1 (by omega) hc1 hf') (fun need' left' m' hi => ih (y + 1) (0 + 1) need' left' m' hi hy1 (by omega) hc1 hf')
    · rw [if_neg hxc]
      exact pcell_sorted h hy (by omega) (fun need' left' m' hi => pgo_mem xs ys r c f y (x + 1) need' left' m' hi hy (by omega) hc1 (by omega)) (fun need' left' m' hi => ih y (x + 1) need' left' m' hi hy (by omega) hc1 (by omega))
theorem pgo_len (xs : List Int) (r c : Nat) (f : Nat) : ∀ (y x : Nat) (need : Int) (left : List Int) (m : List (List Int)), (pgo xs r c f y x need left m).length ≤ 2 ^ f := by
  induction f with
  | zero => intro y x need left m; simp [pgo]
  | succ f ih =>
    have key : ∀ (y x : Nat) (need : Int) (left : List Int) (m : List (List Int)), (pcell r c (pgo xs r c f) y x need left m).length ≤ 2 ^ (f + 1) := by
      intro y x need left m
      unfold pcell
      rw [List.length_append, Nat.pow_succ]
      have h1 : (if need ≤ (c : Int) - x - 1 ∧ left.getD x 0 ≤ (r : Int) - y - 1 then pgo xs r c f y (x + 1) need left m else []).length ≤ 2 ^ f := by
        split
        · exact ih _ _ _ _ _
        · simp
      have h2 : (if 0 < need ∧ 0 < left.getD x 0 then pgo xs r c f y (x + 1) (need - 1) (left.set x (left.getD x 0 - 1)) (setC m y x 1) else []).length ≤ 2 ^ f := by
        split
        · exact ih _ _ _ _ _
        · simp
      omega
    intro y x need left m
    rw [pgo]
    have hp : 1 ≤ 2 ^ (f + 1) := Nat.one_le_two_pow
    split
    · split
      · simp
      · split
        · simpa using hp
        · exact key _ _ _ _ _
    · exact key _ _ _ _ _

/-- SumsOk -/
def sumsOk (xs ys : List Int) : Bool := inR 1 5 xs.length && inR 1 5 ys.length && xs.all (inR 0 ys.length) && ys.all (inR 0 xs.length) && decide (sumL xs = sumL ys)
/-- all images with the given sums -/
def allImgs (xs ys : List Int) : List (List (List Int)) := pgo xs xs.length ys.length (xs.length * (ys.length + 1)) 0 0 (xs.getD 0 0) ys (zeros xs.length ys.length)
theorem sumsOk_bd {xs ys : List Int} (h : sumsOk xs ys = true) : 1 ≤ xs.length ∧ xs.length ≤ 5 ∧ 1 ≤ ys.length ∧ ys.length ≤ 5 ∧ (∀ i, 0 ≤ xs.getD i 0 ∧ xs.getD i 0 ≤ ys.length) ∧ (∀ j, 0 ≤ ys.getD j 0 ∧ ys.getD j 0 ≤ xs.length) ∧ sumL xs = sumL ys := by
  unfold sumsOk at h
  simp only [Bool.and_eq_true, decide_eq_true_eq, inR_iff] at h
  obtain ⟨⟨⟨⟨⟨a1, a2⟩, b1, b2⟩, h3⟩, h4⟩, h5⟩ := h
  have key : ∀ (l : List Int) (n : Nat), l.all (inR 0 n) = true → ∀ i, 0 ≤ l.getD i 0 ∧ l.getD i 0 ≤ n := by
    intro l n hl i
    rw [List.getD_eq_getElem?_getD]
    cases hi : l[i]? with
    | none => simp
    | some a =>
      have := List.all_eq_true.1 hl a (List.mem_of_getElem? hi)
      rw [inR_iff] at this
      exact this
  exact ⟨by omega, by omega, by omega, by omega, key _ _ h3, key _ _ h4, h5⟩
theorem at2_zeros (r c i j : Nat) : at2 (zeros r c) i j = 0 := by
  unfold at2 zeros
  by_cases hi : i < r
  · rw [gD_some (l := List.replicate r _) (x := List.replicate c 0) (by rw [List.getElem?_replicate, if_pos hi])]
    by_cases hj : j < c
    · exact gD_some (by rw [List.getElem?_replicate, if_pos hj])
    · exact gD_none (by rw [List.length_replicate]; omega)
  · rw [gD_none (l := List.replicate r _) (by rw [List.length_replicate]; omega)]; rfl
theorem pinv0 {xs ys : List Int} (h : sumsOk xs ys = true) : PInv xs ys xs.length ys.length 0 0 (xs.getD 0 0) ys (zeros xs.length ys.length) := by
  obtain ⟨h1, h2, h3, h4, h5, h6, h7⟩ := sumsOk_bd h
  have hsh : Shape xs.length ys.length (zeros xs.length ys.length) := shape_zeros _ _
  refine ⟨hsh, fun i j _ => at2_zeros _ _ _ _, fun i hi => by omega, ?_, rfl, fun j hj => ?_, ⟨(h5 0).1, by have := (h5 0).2; push_cast; omega⟩, fun j hj => ⟨(h6 j).1, by rw [if_neg (by omega)]; have := (h6 j).2; push_cast; omega⟩, fun i _ => h5 i⟩
  · rw [eSum_zero fun j => at2_zeros _ _ 0 j]; omega
  · have : colS (zeros xs.length ys.length) j = 0 := eSum_zero fun i => by rw [colS_at hsh]; exact at2_zeros _ _ _ _
    omega
theorem allImgs_mem {xs ys : List Int} (h : sumsOk xs ys = true) (g : List (List Int)) : g ∈ allImgs xs ys ↔ Sums xs ys xs.length ys.length g := by
  obtain ⟨h1, h2, h3, h4, -⟩ := sumsOk_bd h
  unfold allImgs
  rw [pgo_mem xs ys _ _ _ 0 0 _ _ _ (pinv0 h) (by omega) (by omega) h3 (by omega)]
  exact ⟨fun hg => hg.1, fun hg => ⟨hg, fun i j hij => by omega⟩⟩
theorem allImgs_sorted {xs ys : List Int} (h : sumsOk xs ys = true) : (allImgs xs ys).Pairwise (GLt xs.length ys.length) := by
  obtain ⟨h1, h2, h3, h4, -⟩ := sumsOk_bd h
  unfold allImgs
  exact pgo_sorted xs ys _ _ _ 0 0 _ _ _ (pinv0 h) (by omega) (by omega) h3 (by omega)
theorem allImgs_len (xs ys : List Int) : (allImgs xs ys).length ≤ 2 ^ (xs.length * (ys.length + 1)) := pgo_len _ _ _ _ _ _ _ _ _
end Go.Proofs.Ytliejhmlcdjpcaa

/- Sums, gaps and the closest image: plain. Bits as a number, images as numbers; the closest image: plain. The search of l07Reach (plain): the nodes found, in order; when a cell is free. -/
import Derived.Test.YtlmjpmdkifoekaaDoorC12
import Derived.Test.YtlmjpmdkifoekaaDoorDraw2
import Derived.Test.YtlmjpmdkifoekaaDoorC1
import Derived.Test.YtlmjpmdkifoekaaDoorAll2
import Derived.Test.YtlmjpmdkifoekaaDoorPath
namespace Go.Proofs.YtlmjpmdkifoekaaDoor

def mag (x : Int) : Int := if x < 0 then -x else x
theorem mag_nn (x : Int) : 0 ≤ mag x := by unfold mag; split <;> omega
theorem mag_sub (x y : Int) : mag (x - y) = mag (y - x) := by unfold mag; split <;> split <;> omega
def gapTo (a b : List Int) : Nat → Int
  | 0 => 0
  | k + 1 => gapTo a b k + mag (a.getD k 0 - b.getD k 0)
def gap (a b : List Int) : Int := gapTo a b a.length
theorem gapTo_succ {a b : List Int} {k : Nat} {x y : Int} (hx : a[k]? = some x) (hy : b[k]? = some y) : gapTo a b (k + 1) = gapTo a b k + mag (x - y) := by
  simp only [gapTo, List.getD, hx, hy, Option.getD_some]
theorem gapTo_comm (a b : List Int) : ∀ k, gapTo a b k = gapTo b a k := by
  intro k
  induction k with
  | zero => rfl
  | succ k ih => simp only [gapTo, ih]; rw [mag_sub]
theorem gapTo_bd {a b : List Int} (ha : ∀ x ∈ a, 0 ≤ x ∧ x ≤ 5) (hb : ∀ x ∈ b, 0 ≤ x ∧ x ≤ 5) : ∀ k, 0 ≤ gapTo a b k ∧ gapTo a b k ≤ 5 * k := by
  intro k
  induction k with
  | zero => simp [gapTo]
  | succ k ih =>
    have h1 : 0 ≤ a.getD k 0 ∧ a.getD k 0 ≤ 5 := by
      simp only [List.getD]
      cases h : a[k]? with
      | none => simp
      | some x => simpa using ha x (List.mem_of_getElem? h)
    have h2 : 0 ≤ b.getD k 0 ∧ b.getD k 0 ≤ 5 := by
      simp only [List.getD]
      cases h : b[k]? with
      | none => simp
      | some x => simpa using hb x (List.mem_of_getElem? h)
    simp only [gapTo]
    have h3 : 0 ≤ mag (a.getD k 0 - b.getD k 0) ∧ mag (a.getD k 0 - b.getD k 0) ≤ 5 := by unfold mag; split <;> omega
    omega

def changeOk (rows cols : List Int) (m : List (List Int)) : Bool := sumsFit rows cols && imageOk m && decide (m.length = rows.length) && decide ((m.headD []).length = cols.length)
def changeOf (rows cols : List Int) (m : List (List Int)) : Int := if changeOk rows cols m then gap rows (rowSumsOf m) + gap cols (colSumsOf m) else -1
theorem rowSums_bd {r c : Nat} {m : List (List Int)} (h : Shape r c m) (hc : c ≤ 5) : ∀ x ∈ m.map sumL, 0 ≤ x ∧ x ≤ 5 := by
  intro x hx
  obtain ⟨row, hr, rfl⟩ := List.mem_map.1 hx
  have h1 := h.sum_bd' hr
  have := (h.2 row hr).1
  omega
theorem rowSumsOf_ok {r c : Nat} {m : List (List Int)} (h : Shape r c m) (h1 : 1 ≤ r) (h2 : r ≤ 5) (h3 : 1 ≤ c) (h4 : c ≤ 5) : rowSumsOf m = m.map sumL := by unfold rowSumsOf; rw [if_pos (h.ok h1 h2 h3 h4)]
theorem trOf_ok {r c : Nat} {m : List (List Int)} (h : Shape r c m) (h1 : 1 ≤ r) (h2 : r ≤ 5) (h3 : 1 ≤ c) (h4 : c ≤ 5) : trOf m = tr m := by unfold trOf; rw [if_pos (h.ok h1 h2 h3 h4)]
theorem colSumsOf_ok {r c : Nat} {m : List (List Int)} (h : Shape r c m) (h1 : 1 ≤ r) (h2 : r ≤ 5) (h3 : 1 ≤ c) (h4 : c ≤ 5) : colSumsOf m = (tr m).map sumL := by
  unfold colSumsOf
  rw [trOf_ok h h1 h2 h3 h4, rowSumsOf_ok (h.tr h1) h3 h4 h1 h2]
theorem rowSumsOf_wf {r c : Nat} {m : List (List Int)} (h : Shape r c m) (h1 : 1 ≤ r) (h2 : r ≤ 5) (h3 : 1 ≤ c) (h4 : c ≤ 5) : (rowSumsOf m).length = r ∧ ∀ x ∈ rowSumsOf m, 0 ≤ x ∧ x ≤ 5 := by
  rw [rowSumsOf_ok h h1 h2 h3 h4]
  exact ⟨by simp [h.1], rowSums_bd h h4⟩
theorem colSumsOf_wf {r c : Nat} {m : List (List Int)} (h : Shape r c m) (h1 : 1 ≤ r) (h2 : r ≤ 5) (h3 : 1 ≤ c) (h4 : c ≤ 5) : (colSumsOf m).length = c ∧ ∀ x ∈ colSumsOf m, 0 ≤ x ∧ x ≤ 5 := by
  rw [colSumsOf_ok h h1 h2 h3 h4]
  exact ⟨by simp [(h.tr h1).1], rowSums_bd (h.tr h1) h2⟩

/-- what is known where the change is a number -/
structure ChangeAt (rows cols : List Int) (m : List (List Int)) (r c : Nat) : Prop where
  r1 : 1 ≤ r
  r4 : r ≤ 4
  c1 : 1 ≤ c
  c4 : c ≤ 4
  rl : rows.length = r
  cl : cols.length = c
  sh : Shape r c m
  rb : ∀ x ∈ rows, 0 ≤ x ∧ x ≤ 5
  cb : ∀ x ∈ cols, 0 ≤ x ∧ x ≤ 5
theorem sumsFit_iff {rows cols : List Int} (h : sumsFit rows cols = true) : 1 ≤ rows.length ∧ rows.length ≤ 4 ∧ 1 ≤ cols.length ∧ cols.length ≤ 4 ∧ (∀ x ∈ rows, 0 ≤ x ∧ x ≤ cols.length) ∧ (∀ x ∈ cols, 0 ≤ x ∧ x ≤ rows.length) := by
  unfold sumsFit at h
  simp only [Bool.and_eq_true, inR_iff, List.all_eq_true] at h
  obtain ⟨⟨⟨h1, h2⟩, h3⟩, h4⟩ := h
  exact ⟨by omega, by omega, by omega, by omega, h3, h4⟩
theorem changeOk_at {rows cols : List Int} {m : List (List Int)} (h : changeOk rows cols m = true) : ∃ r c, ChangeAt rows cols m r c := by
  unfold changeOk at h
  simp only [Bool.and_eq_true, decide_eq_true_eq] at h
  obtain ⟨⟨⟨h1, h2⟩, h3⟩, h4⟩ := h
  obtain ⟨r, c, a1, a2, a3, a4, hs⟩ := imageOk_shape h2
  obtain ⟨k1, k2, k3, k4, k5, k6⟩ := sumsFit_iff h1
  have e1 := hs.1
  have e2 := hs.head a1
  exact ⟨r, c, a1, by omega, a3, by omega, by omega, by omega, hs, fun x hx => by have := k5 x hx; omega, fun x hx => by have := k6 x hx; omega⟩
theorem changeOf_bd {rows cols : List Int} {m : List (List Int)} (h : changeOk rows cols m = true) : 0 ≤ changeOf rows cols m ∧ changeOf rows cols m ≤ 40 := by
  obtain ⟨r, c, H⟩ := changeOk_at h
  obtain ⟨h1, h2, h3, h4, h5, h6, hs, hrb, hcb⟩ := H
  unfold changeOf
  rw [if_pos h]
  have a1 := gapTo_bd hrb (rowSumsOf_wf hs h1 (by omega) h3 (by omega)).2 rows.length
  have a2 := gapTo_bd hcb (colSumsOf_wf hs h1 (by omega) h3 (by omega)).2 cols.length
  unfold gap
  omega

/-- the image of a number, so far as its first n cells go -/
def imgTo (r c key n : Nat) : List (List Int) := (List.range r).map fun y => (List.range c).map fun x => if y * c + x < n then bitCell (r * c) key (y * c + x) else 0
theorem imgTo_zero (r c key : Nat) : imgTo r c key 0 = zeros r c := by
  simp [imgTo, zeros, List.map_const']
theorem imgTo_all (r c key : Nat) : imgTo r c key (r * c) = imgOf r c key := by
  unfold imgTo imgOf imgFrom
  apply List.map_congr_left
  intro y hy
  apply List.map_congr_left
  intro x hx
  rw [List.mem_range] at hx hy
  have h1 : y * c + x < r * c := by
    have : (y + 1) * c ≤ r * c := Nat.mul_le_mul_right _ hy
    rw [Nat.succ_mul] at this
    omega
  rw [if_pos h1, if_pos (Nat.zero_le _)]
theorem imgTo_len (r c key n : Nat) : (imgTo r c key n).length = r := by simp [imgTo]
theorem imgTo_row {r c key n y : Nat} (hy : y < r) : (imgTo r c key n)[y]? = some ((List.range c).map fun x => if y * c + x < n then bitCell (r * c) key (y * c + x) else 0) := by simp [imgTo, hy]
theorem imgTo_step {r c key n : Nat} (hc : 0 < c) (hn : n < r * c) {row : List Int} (hrow : (imgTo r c key n)[n / c]? = some row) : (imgTo r c key n).set (n / c) (row.set (n % c) (bitCell (r * c) key n)) = imgTo r c key (n + 1) := by
  have hy : n / c < r := by rw [Nat.div_lt_iff_lt_mul hc]; exact hn
  have hx : n % c < c := Nat.mod_lt _ hc
  rw [imgTo_row hy] at hrow
  obtain rfl := Option.some.inj hrow
  apply grid_ext (r := r) (c := c) (by simp [imgTo]) (by simp [imgTo])
  intro y hyr
  have hq := imgTo_row (c := c) (key := key) (n := n + 1) hyr
  by_cases hyn : y = n / c
  · refine ⟨_, _, by rw [hyn, List.getElem?_set_self (by simp [imgTo]; exact hy)], hq, by simp, by simp, fun x hxc => ?_⟩
    rw [List.getElem?_set]
    by_cases hxn : n % c = x
    · rw [if_pos hxn, if_pos (by simpa using hx)]
      have e : y * c + x = n := (div_mod_eq hxc).2 ⟨hyn.symm, hxn⟩
      simp [hxc, e]
    · rw [if_neg hxn]
      have e : y * c + x ≠ n := fun h => hxn ((div_mod_eq hxc).1 h).2
      simp only [List.getElem?_map, List.getElem?_range hxc, Option.map_some, ← hyn]
      by_cases h1 : y * c + x < n
      · rw [if_pos h1, if_pos (by omega)]
      · rw [if_neg h1, if_neg (by omega)]
  · refine ⟨_, _, by rw [List.getElem?_set_ne (fun e => hyn e.symm)]; exact imgTo_row hyr, hq, by simp, by simp, fun x hxc => ?_⟩
    have e : y * c + x ≠ n := fun h => hyn ((div_mod_eq hxc).1 h).1.symm
    simp only [List.getElem?_map, List.getElem?_range hxc, Option.map_some]
    by_cases h1 : y * c + x < n
    · rw [if_pos h1, if_pos (by omega)]
    · rw [if_neg h1, if_neg (by omega)]
theorem imgOf_shape (r c key : Nat) : Shape r c (imgOf r c key) := imgFrom_shape _ _ _ _

/-- the best of the first k images -/
def closeTo (rows cols : List Int) : Nat → Option (Nat × Int)
  | 0 => none
  | k + 1 => match closeTo rows cols k with
    | none => some (k, changeOf rows cols (imgOf rows.length cols.length k))
    | some (b, l) => if changeOf rows cols (imgOf rows.length cols.length k) < l then some (k, changeOf rows cols (imgOf rows.length cols.length k)) else some (b, l)
def closeOk (rows cols : List Int) : Bool := sumsFit rows cols && decide (rows.length * cols.length ≤ 12)
def closest (rows cols : List Int) : Option (Nat × Int) := if closeOk rows cols then closeTo rows cols (2 ^ (rows.length * cols.length)) else none
theorem closeTo_some {rows cols : List Int} {k : Nat} (hk : 0 < k) : ∃ b l, closeTo rows cols k = some (b, l) := by
  cases k with
  | zero => omega
  | succ k =>
    simp only [closeTo]
    split
    · exact ⟨_, _, rfl⟩
    · split
      · exact ⟨_, _, rfl⟩
      · exact ⟨_, _, rfl⟩
theorem changeOk_img {rows cols : List Int} (h : sumsFit rows cols = true) (k : Nat) : changeOk rows cols (imgOf rows.length cols.length k) = true := by
  obtain ⟨k1, k2, k3, k4, k5, k6⟩ := sumsFit_iff h
  have hs := imgOf_shape rows.length cols.length k
  unfold changeOk
  rw [h, hs.ok k1 (by omega) k3 (by omega), hs.1, hs.head k1]
  simp
theorem closeTo_bd {rows cols : List Int} (h : sumsFit rows cols = true) : ∀ {k b : Nat} {l : Int}, closeTo rows cols k = some (b, l) → 0 ≤ l ∧ l ≤ 40 := by
  intro k
  induction k with
  | zero => intro b l h; simp [closeTo] at h
  | succ k ih =>
    intro b l hk
    have hb := changeOf_bd (changeOk_img h k)
    simp only [closeTo] at hk
    split at hk
    · simp at hk; obtain ⟨rfl, rfl⟩ := hk; exact hb
    · rename_i b' l' heq
      split at hk
      · simp at hk; obtain ⟨rfl, rfl⟩ := hk; exact hb
      · simp at hk; obtain ⟨rfl, rfl⟩ := hk; exact ih heq
def closeImg (rows cols : List Int) (x : Option (Nat × Int)) : List (List Int) := match x with | none => [] | some (b, _) => imgOf rows.length cols.length b
def closeNum (x : Option (Nat × Int)) : Int := match x with | none => 0 | some (_, l) => l
end Go.Proofs.YtlmjpmdkifoekaaDoor

namespace Go.Proofs.YtlmjpmdkifoekaaDoor

def keyC : List Nat → Nat
  | [] => 0
  | b :: l => b * 2 ^ l.length + keyC l
theorem keyC_foldl (l : List Nat) : ∀ k, l.foldl (fun k b => 2 * k + b) k = k * 2 ^ l.length + keyC l := by
  induction l with
  | nil => intro k; simp [keyC]
  | cons b l ih =>
    intro k
    rw [List.foldl_cons, ih, keyC, List.length_cons, Nat.pow_succ, Nat.add_mul]
    rw [Nat.mul_comm 2 k, Nat.mul_assoc, Nat.mul_comm 2 (2 ^ l.length)]
    omega
theorem keyC_lt : ∀ {l : List Nat}, (∀ b ∈ l, b ≤ 1) → keyC l < 2 ^ l.length
  | [], _ => by simp [keyC]
  | b :: l, h => by
    have h1 := h b (by simp)
    have h2 := keyC_lt (l := l) (fun x hx => h x (List.mem_cons_of_mem _ hx))
    rw [keyC, List.length_cons, Nat.pow_succ]
    have : b * 2 ^ l.length ≤ 1 * 2 ^ l.length := Nat.mul_le_mul_right _ h1
    omega
theorem keyC_bit : ∀ {l : List Nat}, (∀ b ∈ l, b ≤ 1) → ∀ {i b : Nat}, l[i]? = some b → keyC l / 2 ^ (l.length - 1 - i) % 2 = b
  | [], _, i, b, h => by simp at h
  | a :: l, h, 0, b, hb => by
    simp at hb
    subst hb
    have h1 := h a (by simp)
    have h2 := keyC_lt (l := l) (fun x hx => h x (List.mem_cons_of_mem _ hx))
    rw [keyC, List.length_cons, Nat.sub_zero, Nat.add_sub_cancel, Nat.mul_comm a, Nat.mul_add_div (Nat.two_pow_pos _), Nat.div_eq_of_lt h2]
    omega
  | a :: l, h, i + 1, b, hb => by
    have hb' : l[i]? = some b := by simpa using hb
    have hi := (List.getElem?_eq_some_iff.1 hb').1
    have ih := keyC_bit (l := l) (fun x hx => h x (List.mem_cons_of_mem _ hx)) hb'
    rw [keyC, List.length_cons]
    obtain ⟨m, hm⟩ : ∃ m, m = l.length - 1 - i := ⟨_, rfl⟩
    rw [show l.length + 1 - 1 - (i + 1) = m by omega]
    rw [← hm] at ih
    obtain ⟨d, hd⟩ : ∃ d, l.length = m + 1 + d := ⟨i, by omega⟩
    have e : a * 2 ^ l.length = 2 ^ m * (2 * (a * 2 ^ d)) := by
      rw [hd, Nat.pow_add, Nat.pow_succ]
      rw [Nat.mul_comm a, Nat.mul_assoc, Nat.mul_assoc, Nat.mul_comm (2 ^ d) a]
    rw [e, Nat.mul_add_div (Nat.two_pow_pos _), Nat.mul_add_mod]
    exact ih
/-- the cells of an image in order -/
def cellsN (r c : Nat) (g : List (List Int)) : List Nat := (List.range (r * c)).map fun n => (at2 g (n / c) (n % c)).toNat
def keyOfImg (r c : Nat) (g : List (List Int)) : Nat := keyC (cellsN r c g)
theorem cellsN_len (r c : Nat) (g : List (List Int)) : (cellsN r c g).length = r * c := by simp [cellsN]
theorem cellsN_bit {r c : Nat} {g : List (List Int)} (h : Shape r c g) : ∀ b ∈ cellsN r c g, b ≤ 1 := by
  intro b hb
  obtain ⟨n, -, rfl⟩ := List.mem_map.1 hb
  have := at2_bits h (n / c) (n % c)
  omega
theorem keyOfImg_lt {r c : Nat} {g : List (List Int)} (h : Shape r c g) : keyOfImg r c g < 2 ^ (r * c) := by
  have := keyC_lt (cellsN_bit h)
  rwa [cellsN_len] at this
theorem keyOfImg_bit {r c : Nat} {g : List (List Int)} (h : Shape r c g) {n : Nat} (hn : n < r * c) : bitCell (r * c) (keyOfImg r c g) n = at2 g (n / c) (n % c) := by
  have h1 := keyC_bit (cellsN_bit h) (i := n) (b := (at2 g (n / c) (n % c)).toNat) (by unfold cellsN; rw [List.getElem?_map, List.getElem?_range hn]; rfl)
  rw [cellsN_len] at h1
  unfold bitCell keyOfImg
  rw [h1]
  have := at2_bits h (n / c) (n % c)
  omega
/-- every image has a number -/
theorem imgOf_key {r c : Nat} (hc : 1 ≤ c) {g : List (List Int)} (h : Shape r c g) : imgOf r c (keyOfImg r c g) = g := by
  refine (imgOf_shape r c _).ext h fun i j hi hj => ?_
  show at2 _ i j = at2 g i j
  have hlt : i * c + j < r * c := by
    have : (i + 1) * c ≤ r * c := Nat.mul_le_mul_right c hi
    rw [Nat.succ_mul] at this; omega
  have e1 : (i * c + j) / c = i := by rw [Nat.mul_comm, Nat.mul_add_div (by omega), Nat.div_eq_of_lt hj, Nat.add_zero]
  have e2 : (i * c + j) % c = j := by rw [Nat.mul_comm, Nat.mul_add_mod, Nat.mod_eq_of_lt hj]
  have hb := keyOfImg_bit h hlt
  rw [e1, e2] at hb
  rw [← hb]
  unfold at2 imgOf imgFrom
  rw [gD_some (l := (List.range r).map _) (x := (List.range c).map fun x => if 0 ≤ i * c + x then bitCell (r * c) (keyOfImg r c g) (i * c + x) else 0) (by rw [List.getElem?_map, List.getElem?_range hi]; rfl)]
  rw [gD_some (x := bitCell (r * c) (keyOfImg r c g) (i * c + j))]
  rw [List.getElem?_map, List.getElem?_range hj]; simp
theorem keyOfImg_inj {r c : Nat} (hc : 1 ≤ c) {g h : List (List Int)} (hg : Shape r c g) (hh : Shape r c h) (e : keyOfImg r c g = keyOfImg r c h) : g = h := by
  rw [← imgOf_key hc hg, e, imgOf_key hc hh]

/-! ### the closest image -/
theorem closeTo_min {rows cols : List Int} : ∀ {k b : Nat} {l : Int}, closeTo rows cols k = some (b, l) → b < k ∧ l = changeOf rows cols (imgOf rows.length cols.length b) ∧ ∀ j, j < k → l ≤ changeOf rows cols (imgOf rows.length cols.length j)
  | 0, b, l, h => by simp [closeTo] at h
  | k + 1, b, l, h => by
    simp only [closeTo] at h
    split at h
    · rename_i hn
      have hk0 : k = 0 := by
        cases k with
        | zero => rfl
        | succ k => obtain ⟨b', l', e⟩ := closeTo_some (rows := rows) (cols := cols) (k := k + 1) (by omega); rw [e] at hn; cases hn
      simp at h
      obtain ⟨rfl, rfl⟩ := h
      exact ⟨by omega, rfl, fun j hj => by rw [show j = k by omega]; exact Int.le_refl _⟩
    · rename_i b' l' heq
      obtain ⟨h1, h2, h3⟩ := closeTo_min heq
      split at h
      · rename_i hlt
        simp at h
        obtain ⟨rfl, rfl⟩ := h
        exact ⟨by omega, rfl, fun j hj => by
          by_cases e : j = k
          · rw [e]; exact Int.le_refl _
          · have := h3 j (by omega); omega⟩
      · rename_i hge
        simp at h
        obtain ⟨rfl, rfl⟩ := h
        exact ⟨by omega, h2, fun j hj => by
          by_cases e : j = k
          · rw [e]; omega
          · exact h3 j (by omega)⟩
/-- what is needed of the closest image -/
theorem closest_spec {rows cols : List Int} (h : sumsFit rows cols = true) (h12 : rows.length * cols.length ≤ 12) : ∃ b l, closest rows cols = some (b, l) ∧ l = changeOf rows cols (imgOf rows.length cols.length b) ∧ ∀ g, Shape rows.length cols.length g → l ≤ changeOf rows cols g := by
  have hc : closest rows cols = closeTo rows cols (2 ^ (rows.length * cols.length)) := by
    unfold closest closeOk
    rw [h]; simp [h12]
  obtain ⟨b, l, e⟩ := closeTo_some (rows := rows) (cols := cols) (k := 2 ^ (rows.length * cols.length)) (Nat.two_pow_pos _)
  obtain ⟨h1, h2, h3⟩ := closeTo_min e
  obtain ⟨-, -, k3, -⟩ := sumsFit_iff h
  refine ⟨b, l, by rw [hc, e], h2, fun g hg => ?_⟩
  have := h3 _ (keyOfImg_lt hg)
  rwa [imgOf_key k3 hg] at this
theorem gapTo_zero {a b : List Int} (hl : a.length = b.length) (ha : ∀ x ∈ a, 0 ≤ x ∧ x ≤ 5) (hb : ∀ x ∈ b, 0 ≤ x ∧ x ≤ 5) : ∀ k, k ≤ a.length → gapTo a b k = 0 → ∀ i, i < k → a.getD i 0 = b.getD i 0 := by
  intro k
  induction k with
  | zero => intro _ _ i hi; omega
  | succ k ih =>
    intro hk h0 i hi
    have e1 := gD_at 0 (show k < a.length by omega)
    have e2 := gD_at 0 (show k < b.length by omega)
    rw [gapTo_succ e1 e2] at h0
    have h1 := (gapTo_bd ha hb k).1
    have h2 := mag_nn (a.getD k 0 - b.getD k 0)
    by_cases e : i = k
    · rw [e]
      have : mag (a.getD k 0 - b.getD k 0) = 0 := by omega
      unfold mag at this
      split at this <;> omega
    · exact ih (by omega) (by omega) i (by omega)
theorem gapTo_same {a b : List Int} (hl : a.length = b.length) : ∀ k, k ≤ a.length → (∀ i, i < k → a.getD i 0 = b.getD i 0) → gapTo a b k = 0 := by
  intro k
  induction k with
  | zero => intro _ _; rfl
  | succ k ih =>
    intro hk h
    have e1 := gD_at 0 (show k < a.length by omega)
    have e2 := gD_at 0 (show k < b.length by omega)
    rw [gapTo_succ e1 e2, ih (by omega) (fun i hi => h i (by omega)), h k (by omega)]
    simp [mag]
theorem gapTo_parity {a b : List Int} (hl : a.length = b.length) : ∀ k, k ≤ a.length → (gapTo a b k - (rs k (fn1 a) + rs k (fn1 b))) % 2 = 0 := by
  intro k
  induction k with
  | zero => intro _; rfl
  | succ k ih =>
    intro hk
    have e1 := gD_at 0 (show k < a.length by omega)
    have e2 := gD_at 0 (show k < b.length by omega)
    have h1 := ih (by omega)
    rw [gapTo_succ e1 e2, rs, rs]
    have h2 : (mag (a.getD k 0 - b.getD k 0) - (a.getD k 0 + b.getD k 0)) % 2 = 0 := by unfold mag; split <;> omega
    show (gapTo a b k + mag (a.getD k 0 - b.getD k 0) - (rs k (fn1 a) + a.getD k 0 + (rs k (fn1 b) + b.getD k 0))) % 2 = 0
    omega
/-- the sums of an image, as its lists of sums -/
theorem sums_of_image {r c : Nat} {g : List (List Int)} (h : Shape r c g) (h1 : 1 ≤ r) (h2 : r ≤ 5) (h3 : 1 ≤ c) (h4 : c ≤ 5) : Sums (rowSumsOf g) (colSumsOf g) r c g := by
  refine ⟨h, fun i hi => ?_, fun j hj => ?_⟩
  · rw [rowSumsOf_ok h h1 h2 h3 h4]
    obtain ⟨e, -⟩ := at2_row h hi
    rw [gD_some (x := sumL (g.getD i []))]
    rw [List.getElem?_map, e]; rfl
  · rw [colSumsOf_ok h h1 h2 h3 h4]
    have ht := h.tr h1
    obtain ⟨e, -⟩ := at2_row ht hj
    rw [gD_some (x := sumL ((tr g).getD j []))]
    · rw [row_rs ht hj, col_rs h]
      exact rs_congr fun i hi => (at2_tr h h1 hj hi).symm
    · rw [List.getElem?_map, e]; rfl
theorem change_img {rows cols : List Int} {g : List (List Int)} (hf : sumsFit rows cols = true) (hg : Shape rows.length cols.length g) : changeOf rows cols g = gap rows (rowSumsOf g) + gap cols (colSumsOf g) := by
  obtain ⟨k1, k2, k3, k4, -⟩ := sumsFit_iff hf
  have hok : changeOk rows cols g = true := by
    unfold changeOk
    rw [hf, hg.ok k1 (by omega) k3 (by omega), hg.1, hg.head k1]
    simp
  unfold changeOf
  rw [if_pos hok]
theorem fit_5 {rows cols : List Int} (hf : sumsFit rows cols = true) : (∀ x ∈ rows, 0 ≤ x ∧ x ≤ 5) ∧ ∀ x ∈ cols, 0 ≤ x ∧ x ≤ 5 := by
  obtain ⟨k1, k2, k3, k4, k5, k6⟩ := sumsFit_iff hf
  exact ⟨fun x hx => by have := k5 x hx; omega, fun x hx => by have := k6 x hx; omega⟩
/-- no change exactly if the image has the sums -/
theorem change_zero {rows cols : List Int} {g : List (List Int)} (hf : sumsFit rows cols = true) (hg : Shape rows.length cols.length g) : changeOf rows cols g = 0 ↔ Sums rows cols rows.length cols.length g := by
  obtain ⟨k1, k2, k3, k4, -⟩ := sumsFit_iff hf
  obtain ⟨f1, f2⟩ := fit_5 hf
  obtain ⟨w1, w2⟩ := rowSumsOf_wf hg k1 (by omega) k3 (by omega)
  obtain ⟨w3, w4⟩ := colSumsOf_wf hg k1 (by omega) k3 (by omega)
  have hs := sums_of_image hg k1 (by omega) k3 (by omega)
  rw [change_img hf hg]
  have g1 := (gapTo_bd f1 w2 rows.length).1
  have g2 := (gapTo_bd f2 w4 cols.length).1
  unfold gap
  constructor
  · intro h0
    have a1 := gapTo_zero w1.symm f1 w2 rows.length (Nat.le_refl _) (by omega)
    have a2 := gapTo_zero w3.symm f2 w4 cols.length (Nat.le_refl _) (by omega)
    exact ⟨hg, fun i hi => (hs.2.1 i hi).trans (a1 i hi).symm, fun j hj => (hs.2.2 j hj).trans (a2 j hj).symm⟩
  · rintro ⟨-, h1, h2⟩
    rw [gapTo_same w1.symm rows.length (Nat.le_refl _) (fun i hi => (h1 i hi).symm.trans (hs.2.1 i hi)), gapTo_same w3.symm cols.length (Nat.le_refl _) (fun j hj => (h2 j hj).symm.trans (hs.2.2 j hj))]
    rfl
theorem change_parity {rows cols : List Int} {g : List (List Int)} (hf : sumsFit rows cols = true) (hg : Shape rows.length cols.length g) : (changeOf rows cols g - (sumL rows + sumL cols)) % 2 = 0 := by
  obtain ⟨k1, k2, k3, k4, -⟩ := sumsFit_iff hf
  obtain ⟨w1, w2⟩ := rowSumsOf_wf hg k1 (by omega) k3 (by omega)
  obtain ⟨w3, w4⟩ := colSumsOf_wf hg k1 (by omega) k3 (by omega)
  have hs := sums_iff.1 (sums_of_image hg k1 (by omega) k3 (by omega))
  have p1 := gapTo_parity w1.symm rows.length (Nat.le_refl _)
  have p2 := gapTo_parity w3.symm cols.length (Nat.le_refl _)
  have e : rs rows.length (fn1 (rowSumsOf g)) = rs cols.length (fn1 (colSumsOf g)) := by
    rw [show rs rows.length (fn1 (rowSumsOf g)) = rs rows.length (fun i => rs cols.length (fun j => at2 g i j)) from rs_congr fun i hi => (hs.2.1 i hi).symm]
    rw [show rs cols.length (fn1 (colSumsOf g)) = rs cols.length (fun j => rs rows.length (fun i => at2 g i j)) from rs_congr fun j hj => (hs.2.2 j hj).symm]
    exact rs_comm _ _ _
  rw [change_img hf hg, sumL_rs rows, sumL_rs cols]
  unfold gap
  have q1 : rs rows.length (fun i => rows.getD i 0) = rs rows.length (fn1 rows) := rfl
  have q2 : rs cols.length (fun i => cols.getD i 0) = rs cols.length (fn1 cols) := rfl
  rw [q1, q2]
  omega
/-- no change at all exactly if an image with the sums exists -/
theorem closest_exists {rows cols : List Int} (hf : sumsFit rows cols = true) (h12 : rows.length * cols.length ≤ 12) {b : Nat} {l : Int} (hc : closest rows cols = some (b, l)) : l = 0 ↔ existsB rows cols = true := by
  obtain ⟨b', l', e, h1, h2⟩ := closest_spec hf h12
  rw [hc] at e
  obtain ⟨rfl, rfl⟩ : b = b' ∧ l = l' := by simpa using e
  have hsh := imgOf_shape rows.length cols.length b
  obtain ⟨k1, k2, k3, k4, -⟩ := sumsFit_iff hf
  constructor
  · intro h0
    rw [h1] at h0
    have hs := (change_zero hf hsh).1 h0
    exact (existsB_iff (sumsOk_of k1 (by omega) k3 (by omega) hs)).2 ⟨_, hs⟩
  · intro hex
    obtain ⟨g, hg⟩ := (existsB_iff (existsB_ok hex)).1 hex
    have h3 := h2 g hg.1
    rw [(change_zero hf hg.1).2 hg] at h3
    have h4 := gapTo_bd (fit_5 hf).1 (rowSumsOf_wf hsh k1 (by omega) k3 (by omega)).2 rows.length
    have h5 := gapTo_bd (fit_5 hf).2 (colSumsOf_wf hsh k1 (by omega) k3 (by omega)).2 cols.length
    have h6 : 0 ≤ l := by
      rw [h1, change_img hf hsh]; unfold gap; omega
    omega
end Go.Proofs.YtlmjpmdkifoekaaDoor

namespace Go.Proofs.YtlmjpmdkifoekaaDoor

/-- the nodes q found from a; the first k are done, and of the next one the edges to nodes below w0 -/
structure QInv (r c : Nat) (g : List (List Int)) (a : Nat) (q : List Nat) (k w0 : Nat) : Prop where
  nd : q.Pairwise (fun x y => x ≠ y)
  lt : ∀ v ∈ q, v < r + c
  start : a ∈ q
  re : ∀ v ∈ q, Reach r c g a v
  done : ∀ i v w, i < k → q[i]? = some v → w < r + c → Edge r g v w → w ∈ q
  mid : ∀ v w, q[k]? = some v → w < w0 → Edge r g v w → w ∈ q
def seenOf (n : Nat) (q : List Nat) : List Bool := (List.range n).map fun w => decide (w ∈ q)
def intsN (q : List Nat) : List Int := q.map fun v : Nat => (v : Int)
theorem intsN_len (q : List Nat) : (intsN q).length = q.length := by simp [intsN]
theorem intsN_at {q : List Nat} {k v : Nat} (h : q[k]? = some v) : (intsN q)[k]? = some (v : Int) := by simp [intsN, h]
theorem intsN_snoc (q : List Nat) (w : Nat) : intsN (q ++ [w]) = intsN q ++ [(w : Int)] := by simp [intsN]
theorem seenOf_len (n : Nat) (q : List Nat) : (seenOf n q).length = n := by simp [seenOf]
theorem seenOf_at {n w : Nat} (q : List Nat) (h : w < n) : (seenOf n q)[w]? = some (decide (w ∈ q)) := by simp [seenOf, h]
theorem seenOf_set (n : Nat) (q : List Nat) (w : Nat) : (seenOf n q).set w true = seenOf n (q ++ [w]) := by
  apply List.ext_getElem?
  intro i
  rw [List.getElem?_set, seenOf_len]
  by_cases hi : i < n
  · rw [seenOf_at _ hi, seenOf_at _ hi]
    by_cases hw : w = i
    · subst hw; rw [if_pos rfl, if_pos hi]; simp
    · rw [if_neg hw]
      congr 1
      have : (i ∈ q) = (i ∈ q ++ [w]) := by
        simp only [List.mem_append, List.mem_singleton, eq_iff_iff]
        exact ⟨.inl, fun h => h.elim id fun e => absurd e.symm hw⟩
      simp only [this]
  · by_cases hw : w = i
    · rw [if_pos hw, if_neg (by omega), List.getElem?_eq_none (by rw [seenOf_len]; omega)]
    · rw [if_neg hw, List.getElem?_eq_none (by rw [seenOf_len]; omega), List.getElem?_eq_none (by rw [seenOf_len]; omega)]
theorem seenOf_nil (n : Nat) : seenOf n [] = List.replicate n false := by
  apply List.ext_getElem?
  intro i
  by_cases hi : i < n
  · rw [seenOf_at _ hi, List.getElem?_replicate, if_pos hi]; simp
  · rw [List.getElem?_eq_none (by rw [seenOf_len]; omega), List.getElem?_eq_none (by simp; omega)]
theorem qinv_start {r c a : Nat} (g : List (List Int)) (ha : a < r + c) : QInv r c g a [a] 0 0 :=
  ⟨List.pairwise_singleton _ _, fun v hv => by rw [List.mem_singleton] at hv; omega, by simp, fun v hv => by rw [List.mem_singleton] at hv; rw [hv]; exact .refl, fun i v w hi => by omega, fun v w _ hw => by omega⟩
theorem QInv.add {r c a k v w : Nat} {g : List (List Int)} {q : List Nat} (h : QInv r c g a q k w) (hv : q[k]? = some v) (hw : w < r + c) (he : Edge r g v w) (hn : w ∉ q) : QInv r c g a (q ++ [w]) k (w + 1) where
  nd := by
    rw [List.pairwise_append]
    refine ⟨h.nd, List.pairwise_singleton _ _, fun x hx y hy => ?_⟩
    rw [List.mem_singleton] at hy
    subst hy
    exact fun e => hn (e ▸ hx)
  lt := fun x hx => by
    rcases List.mem_append.1 hx with hx | hx
    · exact h.lt x hx
    · rw [List.mem_singleton] at hx; omega
  start := List.mem_append_left _ h.start
  re := fun x hx => by
    rcases List.mem_append.1 hx with hx | hx
    · exact h.re x hx
    · rw [List.mem_singleton] at hx
      subst hx
      exact (h.re v (List.mem_of_getElem? hv)).step he hw
  done := fun i x y hi hx hy hxy => by
    have hkl := (List.getElem?_eq_some_iff.1 hv).1
    rw [List.getElem?_append_left (by omega)] at hx
    exact List.mem_append_left _ (h.done i x y hi hx hy hxy)
  mid := fun x y hx hy hxy => by
    have hkl := (List.getElem?_eq_some_iff.1 hv).1
    rw [List.getElem?_append_left hkl] at hx
    by_cases e : y = w
    · rw [e]; simp
    · exact List.mem_append_left _ (h.mid x y hx (by omega) hxy)
theorem QInv.skip {r c a k v w : Nat} {g : List (List Int)} {q : List Nat} (h : QInv r c g a q k w) (hv : q[k]? = some v) (hn : Edge r g v w → w ∈ q) : QInv r c g a q k (w + 1) :=
  ⟨h.nd, h.lt, h.start, h.re, h.done, fun x y hx hy hxy => by
    by_cases e : y = w
    · subst e
      rw [hv] at hx
      obtain rfl := Option.some.inj hx
      exact hn hxy
    · exact h.mid x y hx (by omega) hxy⟩
theorem QInv.next {r c a k w : Nat} {g : List (List Int)} {q : List Nat} (h : QInv r c g a q k w) (hw : r + c ≤ w) : QInv r c g a q (k + 1) 0 :=
  ⟨h.nd, h.lt, h.start, h.re, fun i v y hi hv hy hxy => by
    by_cases e : i = k
    · subst e; exact h.mid v y hv (by omega) hxy
    · exact h.done i v y (by omega) hv hy hxy, fun v y _ hy => by omega⟩
theorem QInv.len {r c a k w : Nat} {g : List (List Int)} {q : List Nat} (h : QInv r c g a q k w) : q.length ≤ r + c := by
  have := nodup_len (fun v : Nat => v) q (List.range (r + c)) h.nd fun v hv => List.mem_range.2 (h.lt v hv)
  rwa [List.length_range] at this
theorem QInv.all {r c a k w : Nat} {g : List (List Int)} {q : List Nat} (h : QInv r c g a q k w) (hk : q.length ≤ k) (ha : a < r + c) : ∀ v, v ∈ q ↔ Reach r c g a v := fun v =>
  ⟨h.re v, fun hr => hr.closed (S := fun v => v ∈ q) h.start ha fun x y _ hy hx he => by
    obtain ⟨i, hi⟩ := List.getElem?_of_mem hx
    exact h.done i x y (by have := (List.getElem?_eq_some_iff.1 hi).1; omega) hi hy he⟩

/-- the node where the search for a cell begins, and the one that it looks for -/
def fromOf (r : Nat) (m : List (List Int)) (y x : Nat) : Nat := if at2 m y x = 1 then r + x else y
def toOf (r : Nat) (m : List (List Int)) (y x : Nat) : Nat := if at2 m y x = 1 then y else r + x
open Classical in
theorem free_reach {r c : Nat} {m : List (List Int)} (hs : Shape r c m) (hr1 : 1 ≤ r) (hr5 : r ≤ 5) (hc1 : 1 ≤ c) (hc5 : c ≤ 5) {y x : Nat} (hy : y < r) (hx : x < c) :
    (∃ h, Sums (rowSumsOf m) (colSumsOf m) r c h ∧ at2 h y x ≠ at2 m y x) ↔ Reach r c m (fromOf r m y x) (toOf r m y x) := by
  have hS := sums_of_image hs hr1 hr5 hc1 hc5
  have hrl := (rowSumsOf_wf hs hr1 hr5 hc1 hc5).1
  have hcl := (colSumsOf_wf hs hr1 hr5 hc1 hc5).1
  have hok : sumsOk (rowSumsOf m) (colSumsOf m) = true := sumsOk_of (by omega) (by omega) (by omega) (by omega) (by rw [hrl, hcl]; exact hS)
  have hsum : sumL (rowSumsOf m) = sumL (colSumsOf m) := by
    obtain ⟨-, -, -, -, -, -, h⟩ := sumsOk_bd hok
    exact h
  have hb := at2_bits hs y x
  unfold fromOf toOf
  by_cases h1 : at2 m y x = 1
  · rw [if_pos h1, if_pos h1]
    have key := free_black (xs := rowSumsOf m) (ys := colSumsOf m) (g := m) hsum (by rw [hrl, hcl]; exact hS) (y := y) (x := x) (by omega) (by omega) h1
    rw [hrl, hcl] at key
    rw [← key, h1]
    constructor
    · rintro ⟨h, hh, hne⟩
      have := at2_bits hh.1 y x
      exact ⟨h, hh, by omega⟩
    · rintro ⟨h, hh, h0⟩
      exact ⟨h, hh, by omega⟩
  · have h0 : at2 m y x = 0 := by omega
    rw [if_neg h1, if_neg h1]
    have key := free_white (xs := rowSumsOf m) (ys := colSumsOf m) (g := m) hsum (by rw [hrl, hcl]; exact hS) (y := y) (x := x) (by omega) (by omega) h0
    rw [hrl, hcl] at key
    rw [← key, h0]
    constructor
    · rintro ⟨h, hh, hne⟩
      have := at2_bits hh.1 y x
      exact ⟨h, hh, by omega⟩
    · rintro ⟨h, hh, h0⟩
      exact ⟨h, hh, by omega⟩
theorem fromOf_lt {r c : Nat} {m : List (List Int)} {y x : Nat} (hy : y < r) (hx : x < c) : fromOf r m y x < r + c ∧ toOf r m y x < r + c := by
  unfold fromOf toOf
  split <;> omega
end Go.Proofs.YtlmjpmdkifoekaaDoor
namespace Go.Proofs.YtlmjpmdkifoekaaDoor
theorem sums_lists {xs ys : List Int} {r c : Nat} {x : List (List Int)} (h : Sums xs ys r c x) (hx : xs.length = r) (hy : ys.length = c) (h1 : 1 ≤ r) (h2 : r ≤ 5) (h3 : 1 ≤ c) (h4 : c ≤ 5) : rowSumsOf x = xs ∧ colSumsOf x = ys := by
  have h' := sums_of_image h.1 h1 h2 h3 h4
  have l1 := (rowSumsOf_wf h.1 h1 h2 h3 h4).1
  have l2 := (colSumsOf_wf h.1 h1 h2 h3 h4).1
  refine ⟨List.ext_getElem? fun i => ?_, List.ext_getElem? fun i => ?_⟩
  · by_cases hi : i < r
    · rw [gD_at 0 (by omega : i < (rowSumsOf x).length), gD_at 0 (by omega : i < xs.length), ← h'.2.1 i hi, h.2.1 i hi]
    · rw [List.getElem?_eq_none (by omega), List.getElem?_eq_none (by omega)]
  · by_cases hi : i < c
    · rw [gD_at 0 (by omega : i < (colSumsOf x).length), gD_at 0 (by omega : i < ys.length), ← h'.2.2 i hi, h.2.2 i hi]
    · rw [List.getElem?_eq_none (by omega), List.getElem?_eq_none (by omega)]
theorem images_one {r c : Nat} {m : List (List Int)} (hs : Shape r c m) (hr1 : 1 ≤ r) (hr5 : r ≤ 5) (hc1 : 1 ≤ c) (hc5 : c ≤ 5) : (allImgs (rowSumsOf m) (colSumsOf m)).length = 1 ↔ switchesOf r c m = [] := by
  have hS := sums_of_image hs hr1 hr5 hc1 hc5
  have hrl := (rowSumsOf_wf hs hr1 hr5 hc1 hc5).1
  have hcl := (colSumsOf_wf hs hr1 hr5 hc1 hc5).1
  have hok : sumsOk (rowSumsOf m) (colSumsOf m) = true := sumsOk_of (by omega) (by omega) (by omega) (by omega) (by rw [hrl, hcl]; exact hS)
  have hmem : ∀ q, q ∈ allImgs (rowSumsOf m) (colSumsOf m) ↔ Sums (rowSumsOf m) (colSumsOf m) r c q := fun q => by rw [allImgs_mem hok, hrl, hcl]
  have hnd := allImgs_nodup hok
  have hu := unique_iff hS
  constructor
  · intro h
    obtain ⟨x, hx⟩ := List.length_eq_one_iff.1 h
    have hm := (hmem m).2 hS
    rw [hx, List.mem_singleton] at hm
    have hall := hu.1 fun g hg => by
      have := (hmem g).2 hg
      rw [hx, List.mem_singleton] at this
      rw [this, hm]
    rw [List.eq_nil_iff_forall_not_mem]
    exact fun s hs' => hall s (switchesOf_mem.1 hs')
  · intro h
    have hall := hu.2 fun s hs' => by
      have := switchesOf_mem.2 hs'
      rw [h] at this; cases this
    have h1 := nodup_len (fun x : List (List Int) => x) (allImgs (rowSumsOf m) (colSumsOf m)) [m] hnd fun g hg => by rw [hall g ((hmem g).1 hg)]; simp
    have h2 := List.length_pos_of_mem ((hmem m).2 hS)
    rw [List.length_singleton] at h1
    omega
end Go.Proofs.YtlmjpmdkifoekaaDoor

/- Bits as a number, images as numbers; the closest image: plain. -/
import Derived.Test.YtliejhmlcdjpcaaClose
import Derived.Test.YtliejhmlcdjpcaaAll2
namespace Go.Proofs.Ytliejhmlcdjpcaa

def keyC : List Nat → Nat
  | [] => 0
  | b :: l => b * 2 ^ l.length + keyC l
theorem keyC_foldl (l : List Nat) : ∀ k, l.foldl (fun k b => 2 * k + b) k = k * 2 ^ l.length + keyC l := by
  induction l with
  | nil => intro k; simp [keyC]
  | cons b l ih =>
    intro k
    rw [List.foldl_cons, ih, keyC, List.length_cons, Nat.pow_succ, Nat.add_mul]
    rw [Nat.mul_comm 2 k, Nat.mul_assoc, Nat.mul_comm 2 (2 ^ l.length)]
    omega
theorem keyC_lt : ∀ {l : List Nat}, (∀ b ∈ l, b ≤ 1) → keyC l < 2 ^ l.length
  | [], _ => by simp [keyC]
  | b :: l, h => by
    have h1 := h b (by simp)
    have h2 := keyC_lt (l := l) (fun x hx => h x (List.mem_cons_of_mem _ hx))
    rw [keyC, List.length_cons, Nat.pow_succ]
    have : b * 2 ^ l.length ≤ 1 * 2 ^ l.length := Nat.mul_le_mul_right _ h1
    omega
theorem keyC_bit : ∀ {l : List Nat}, (∀ b ∈ l, b ≤ 1) → ∀ {i b : Nat}, l[i]? = some b → keyC l / 2 ^ (l.length - 1 - i) % 2 = b
  | [], _, i, b, h => by simp at h
  | a :: l, h, 0, b, hb => by
    simp at hb
    subst hb
    have h1 := h a (by simp)
    have h2 := keyC_lt (l := l) (fun x hx => h x (List.mem_cons_of_mem _ hx))
    rw [keyC, List.length_cons, Nat.sub_zero, Nat.add_sub_cancel, Nat.mul_comm a, Nat.mul_add_div (Nat.two_pow_pos _), Nat.div_eq_of_lt h2]
    omega
  | a :: l, h, i + 1, b, hb => by
    have hb' : l[i]? = some b := by simpa using hb
    have hi := (List.getElem?_eq_some_iff.1 hb').1
    have ih := keyC_bit (l := l) (fun x hx => h x (List.mem_cons_of_mem _ hx)) hb'
    rw [keyC, List.length_cons]
    obtain ⟨m, hm⟩ : ∃ m, m = l.length - 1 - i := ⟨_, rfl⟩
    rw [show l.length + 1 - 1 - (i + 1) = m by omega]
    rw [← hm] at ih
    obtain ⟨d, hd⟩ : ∃ d, l.length = m + 1 + d := ⟨i, by omega⟩
    have e : a * 2 ^ l.length = 2 ^ m * (2 * (a * 2 ^ d)) := by
      rw [hd, Nat.pow_add, Nat.pow_succ]
      rw [Nat.mul_comm a, Nat.mul_assoc, Nat.mul_assoc, Nat.mul_comm (2 ^ d) a]
    rw [e, Nat.mul_add_div (Nat.two_pow_pos _), Nat.mul_add_mod]
    exact ih
/-- the cells of an image in order -/
def cellsN (r c : Nat) (g : List (List Int)) : List Nat := (List.range (r * c)).map fun n => (at2 g (n / c) (n % c)).toNat
def keyOfImg (r c : Nat) (g : List (List Int)) : Nat := keyC (cellsN r c g)
theorem cellsN_len (r c : Nat) (g : List (List Int)) : (cellsN r c g).length = r * c := by simp [cellsN]
theorem cellsN_bit {r c : Nat} {g : List (List Int)} (h : Shape r c g) : ∀ b ∈ cellsN r c g, b ≤ 1 := by
  intro b hb
  obtain ⟨n, -, rfl⟩ := List.mem_map.1 hb
  have := at2_bits h (n / c) (n % c)
  omega
theorem keyOfImg_lt {r c : Nat} {g : List (List Int)} (h : Shape r c g) : keyOfImg r c g < 2 ^ (r * c) := by
  have := keyC_lt (cellsN_bit h)
  rwa [cellsN_len] at this
theorem keyOfImg_bit {r c : Nat} {g : List (List Int)} (h : Shape r c g) {n : Nat} (hn : n < r * c) : bitCell (r * c) (keyOfImg r c g) n = at2 g (n / c) (n % c) := by
  have h1 := keyC_bit (cellsN_bit h) (i := n) (b := (at2 g (n / c) (n % c)).toNat) (by unfold cellsN; rw [List.getElem?_map, List.getElem?_range hn]; rfl)
  rw [cellsN_len] at h1
  unfold bitCell keyOfImg
  rw [h1]
  have := at2_bits h (n / c) (n % c)
  omega
/-- every image has a number -/
theorem imgOf_key {r c : Nat} (hc : 1 ≤ c) {g : List (List Int)} (h : Shape r c g) : imgOf r c (keyOfImg r c g) = g := by
  refine (imgOf_shape r c _).ext h fun i j hi hj => ?_
  show at2 _ i j = at2 g i j
  have hlt : i * c + j < r * c := by
    have : (i + 1) * c ≤ r * c := Nat.mul_le_mul_right c hi
    rw [Nat.succ_mul] at this; omega
  have e1 : (i * c + j) / c = i := by rw [Nat.mul_comm, Nat.mul_add_div (by omega), Nat.div_eq_of_lt hj, Nat.add_zero]
  have e2 : (i * c + j) % c = j := by rw [Nat.mul_comm, Nat.mul_add_mod, Nat.mod_eq_of_lt hj]
  have hb := keyOfImg_bit h hlt
  rw [e1, e2] at hb
  rw [← hb]
  unfold at2 imgOf imgFrom
  rw [gD_some (l := (List.range r).map _) (x := (List.range c).map fun x => if 0 ≤ i * c + x then bitCell (r * c) (keyOfImg r c g) (i * c + x) else 0) (by rw [List.getElem?_map, List.getElem?_range hi]; rfl)]
  rw [gD_some (x := bitCell (r * c) (keyOfImg r c g) (i * c + j))]
  rw [List.getElem?_map, List.getElem?_range hj]; simp
theorem keyOfImg_inj {r c : Nat} (hc : 1 ≤ c) {g h : List (List Int)} (hg : Shape r c g) (hh : Shape r c h) (e : keyOfImg r c g = keyOfImg r c h) : g = h := by
  rw [← imgOf_key hc hg, e, imgOf_key hc hh]

/-! ### the closest image -/
theorem closeTo_min {rows cols : List Int} : ∀ {k b : Nat} {l : Int}, closeTo rows cols k = some (b, l) → b < k ∧ l = changeOf rows cols (imgOf rows.length cols.length b) ∧ ∀ j, j < k → l ≤ changeOf rows cols (imgOf rows.length cols.length j)
  | 0, b, l, h => by simp [closeTo] at h
  | k + 1, b, l, h => by
    simp only [closeTo] at h
    split at h
    · rename_i hn
      have hk0 : k = 0 := by
        cases k with
        | zero => rfl
        | succ k => obtain ⟨b', l', e⟩ := closeTo_some (rows := rows) (cols := cols) (k := k + 1) (by omega); rw [e] at hn; cases hn
      simp at h
      obtain ⟨rfl, rfl⟩ := h
      exact ⟨by omega, rfl, fun j hj => by rw [show j = k by omega]; exact Int.le_refl _⟩
    · rename_i b' l' heq
      obtain ⟨h1, h2, h3⟩ := closeTo_min heq
      split at h
      · rename_i hlt
        simp at h
        obtain ⟨rfl, rfl⟩ := h
        exact ⟨by omega, rfl, fun j hj => by
          by_cases e : j = k
          · rw [e]; exact Int.le_refl _
          · have := h3 j (by omega); omega⟩
      · rename_i hge
        simp at h
        obtain ⟨rfl, rfl⟩ := h
        exact ⟨by omega, h2, fun j hj => by
          by_cases e : j = k
          · rw [e]; omega
          · exact h3 j (by omega)⟩
/-- what is needed of the closest image -/
theorem closest_spec {rows cols : List Int} (h : sumsFit rows cols = true) (h12 : rows.length * cols.length ≤ 12) : ∃ b l, closest rows cols = some (b, l) ∧ l = changeOf rows cols (imgOf rows.length cols.length b) ∧ ∀ g, Shape rows.length cols.length g → l ≤ changeOf rows cols g := by
  have hc : closest rows cols = closeTo rows cols (2 ^ (rows.length * cols.length)) := by
    unfold closest closeOk
    rw [h]; simp [h12]
  obtain ⟨b, l, e⟩ := closeTo_some (rows := rows) (cols := cols) (k := 2 ^ (rows.length * cols.length)) (Nat.two_pow_pos _)
  obtain ⟨h1, h2, h3⟩ := closeTo_min e
  obtain ⟨-, -, k3, -⟩ := sumsFit_iff h
  refine ⟨b, l, by rw [hc, e], h2, fun g hg => ?_⟩
  have := h3 _ (keyOfImg_lt hg)
  rwa [imgOf_key k3 hg] at this
theorem gapTo_zero {a b : List Int} (hl : a.length = b.length) (ha : ∀ x ∈ a, 0 ≤ x ∧ x ≤ 5) (hb : ∀ x ∈ b, 0 ≤ x ∧ x ≤ 5) : ∀ k, k ≤ a.length → gapTo a b k = 0 → ∀ i, i < k → a.getD i 0 = b.getD i 0 := by
  intro k
  induction k with
  | zero => intro _ _ i hi; omega
  | succ k ih =>
    intro hk h0 i hi
    have e1 := gD_at 0 (show k < a.length by omega)
    have e2 := gD_at 0 (show k < b.length by omega)
    rw [gapTo_succ e1 e2] at h0
    have h1 := (gapTo_bd ha hb k).1
    have h2 := mag_nn (a.getD k 0 - b.getD k 0)
    by_cases e : i = k
    · rw [e]
      have : mag (a.getD k 0 - b.getD k 0) = 0 := by omega
      unfold mag at this
      split at this <;> omega
    · exact ih (by omega) (by omega) i (by omega)
theorem gapTo_same {a b : List Int} (hl : a.length = b.length) : ∀ k, k ≤ a.length → (∀ i, i < k → a.getD i 0 = b.getD i 0) → gapTo a b k = 0 := by
  intro k
  induction k with
  | zero => intro _ _; rfl
  | succ k ih =>
    intro hk h
    have e1 := gD_at 0 (show k < a.length by omega)
    have e2 := gD_at 0 (show k < b.length by omega)
    rw [gapTo_succ e1 e2, ih (by omega) (fun i hi => h i (by omega)), h k (by omega)]
    simp [mag]
theorem gapTo_parity {a b : List Int} (hl : a.length = b.length) : ∀ k, k ≤ a.length → (gapTo a b k - (rs k (fn1 a) + rs k (fn1 b))) % 2 = 0 := by
  intro k
  induction k with
  | zero => intro _; rfl
  | succ k ih =>
    intro hk
    have e1 := gD_at 0 (show k < a.length by omega)
    have e2 := gD_at 0 (show k < b.length by omega)
    have h1 := ih (by omega)
    rw [gapTo_succ e1 e2, rs, rs]
    have h2 : (mag (a.getD k 0 - b.getD k 0) - (a.getD k 0 + b.getD k 0)) % 2 = 0 := by unfold mag; split <;> omega
    show (gapTo a b k + mag (a.getD k 0 - b.getD k 0) - (rs k (fn1 a) + a.getD k 0 + (rs k (fn1 b) + b.getD k 0))) % 2 = 0
    omega
/-- the sums of an image, as its lists of sums -/
theorem sums_of_image {r c : Nat} {g : List (List Int)} (h : Shape r c g) (h1 : 1 ≤ r) (h2 : r ≤ 5) (h3 : 1 ≤ c) (h4 : c ≤ 5) : Sums (rowSumsOf g) (colSumsOf g) r c g := by
  refine ⟨h, fun i hi => ?_, fun j hj => ?_⟩
  · rw [rowSumsOf_ok h h1 h2 h3 h4]
    obtain ⟨e, -⟩ := at2_row h hi
    rw [gD_some (x := sumL (g.getD i []))]
    rw [List.getElem?_map, e]; rfl
  · rw [colSumsOf_ok h h1 h2 h3 h4]
    have ht := h.tr h1
    obtain ⟨e, -⟩ := at2_row ht hj
    rw [gD_some (x := sumL ((tr g).getD j []))]
    · rw [row_rs ht hj, col_rs h]
      exact rs_congr fun i hi => (at2_tr h h1 hj hi).symm
    · rw [List.getElem?_map, e]; rfl
theorem change_img {rows cols : List Int} {g : List (List Int)} (hf : sumsFit rows cols = true) (hg : Shape rows.length cols.length g) : changeOf rows cols g = gap rows (rowSumsOf g) + gap cols (colSumsOf g) := by
  obtain ⟨k1, k2, k3, k4, -⟩ := sumsFit_iff hf
  have hok : changeOk rows cols g = true := by
    unfold changeOk
    rw [hf, hg.ok k1 (by omega) k3 (by omega), hg.1, hg.head k1]
    simp
  unfold changeOf
  rw [if_pos hok]
theorem fit_5 {rows cols : List Int} (hf : sumsFit rows cols = true) : (∀ x ∈ rows, 0 ≤ x ∧ x ≤ 5) ∧ ∀ x ∈ cols, 0 ≤ x ∧ x ≤ 5 := by
  obtain ⟨k1, k2, k3, k4, k5, k6⟩ := sumsFit_iff hf
  exact ⟨fun x hx => by have := k5 x hx; omega, fun x hx => by have := k6 x hx; omega⟩
/-- no change exactly if the image has the sums -/
theorem change_zero {rows cols : List Int} {g : List (List Int)} (hf : sumsFit rows cols = true) (hg : Shape rows.length cols.length g) : changeOf rows cols g = 0 ↔ Sums rows cols rows.length cols.length g := by
  obtain ⟨k1, k2, k3, k4, -⟩ := sumsFit_iff hf
  obtain ⟨f1, f2⟩ := fit_5 hf
  obtain ⟨w1, w2⟩ := rowSumsOf_wf hg k1 (by omega) k3 (by omega)
  obtain ⟨w3, w4⟩ := colSumsOf_wf hg k1 (by omega) k3 (by omega)
  have hs := sums_of_image hg k1 (by omega) k3 (by omega)
  rw [change_img hf hg]
  have g1 := (gapTo_bd f1 w2 rows.length).1
  have g2 := (gapTo_bd f2 w4 cols.length).1
  unfold gap
  constructor
  · intro h0
    have a1 := gapTo_zero w1.symm f1 w2 rows.length (Nat.le_refl _) (by omega)
    have a2 := gapTo_zero w3.symm f2 w4 cols.length (Nat.le_refl _) (by omega)
    exact ⟨hg, fun i hi => (hs.2.1 i hi).trans (a1 i hi).symm, fun j hj => (hs.2.2 j hj).trans (a2 j hj).symm⟩
  · rintro ⟨-, h1, h2⟩
    rw [gapTo_same w1.symm rows.length (Nat.le_refl _) (fun i hi => (h1 i hi).symm.trans (hs.2.1 i hi)), gapTo_same w3.symm cols.length (Nat.le_refl _) (fun j hj => (h2 j hj).symm.trans (hs.2.2 j hj))]
    rfl
theorem change_parity {rows cols : List Int} {g : List (List Int)} (hf : sumsFit rows cols = true) (hg : Shape rows.length cols.length g) : (changeOf rows cols g - (sumL rows + sumL cols)) % 2 = 0 := by
  obtain ⟨k1, k2, k3, k4, -⟩ := sumsFit_iff hf
  obtain ⟨w1, w2⟩ := rowSumsOf_wf hg k1 (by omega) k3 (by omega)
  obtain ⟨w3, w4⟩ := colSumsOf_wf hg k1 (by omega) k3 (by omega)
  have hs := sums_iff.1 (sums_of_image hg k1 (by omega) k3 (by omega))
  have p1 := gapTo_parity w1.symm rows.length (Nat.le_refl _)
  have p2 := gapTo_parity w3.symm cols.length (Nat.le_refl _)
  have e : rs rows.length (fn1 (rowSumsOf g)) = rs cols.length (fn1 (colSumsOf g)) := by
    rw [show rs rows.length (fn1 (rowSumsOf g)) = rs rows.length (fun i => rs cols.length (fun j => at2 g i j)) from rs_congr fun i hi => (hs.2.1 i hi).symm]
    rw [show rs cols.length (fn1 (colSumsOf g)) = rs cols.length (fun j => rs rows.length (fun i => at2 g i j)) from rs_congr fun j hj => (hs.2.2 j hj).symm]
    exact rs_comm _ _ _
  rw [change_img hf hg, sumL_rs rows, sumL_rs cols]
  unfold gap
  have q1 : rs rows.length (fun i => rows.getD i 0) = rs rows.length (fn1 rows) := rfl
  have q2 : rs cols.length (fun i => cols.getD i 0) = rs cols.length (fn1 cols) := rfl
  rw [q1, q2]
  omega
/-- no change at all exactly if an image with the sums exists -/
theorem closest_exists {rows cols : List Int} (hf : sumsFit rows cols = true) (h12 : rows.length * cols.length ≤ 12) {b : Nat} {l : Int} (hc : closest rows cols = some (b, l)) : l = 0 ↔ existsB rows cols = true := by
  obtain ⟨b', l', e, h1, h2⟩ := closest_spec hf h12
  rw [hc] at e
  obtain ⟨rfl, rfl⟩ : b = b' ∧ l = l' := by simpa using e
  have hsh := imgOf_shape rows.length cols.length b
  obtain ⟨k1, k2, k3, k4, -⟩ := sumsFit_iff hf
  constructor
  · intro h0
    rw [h1] at h0
    have hs := (change_zero hf hsh).1 h0
    exact (existsB_iff (sumsOk_of k1 (by omega) k3 (by omega) hs)).2 ⟨_, hs⟩
  · intro hex
    obtain ⟨g, hg⟩ := (existsB_iff (existsB_ok hex)).1 hex
    have h3 := h2 g hg.1
    rw [(change_zero hf hg.1).2 hg] at h3
    have h4 := gapTo_bd (fit_5 hf).1 (rowSumsOf_wf hsh k1 (by omega) k3 (by omega)).2 rows.length
    have h5 := gapTo_bd (fit_5 hf).2 (colSumsOf_wf hsh k1 (by omega) k3 (by omega)).2 cols.length
    have h6 : 0 ≤ l := by
      rw [h1, change_img hf hsh]; unfold gap; omega
    omega
end Go.Proofs.Ytliejhmlcdjpcaa

/- What holds of a solved line: plain. FnRuns: what the law rests on, with no program in sight. Contracts: less. -/
import Derived.Test.YtlmjpmdkifoekaaDoorDraw2
import Derived.Test.YtlmjpmdkifoekaaDoorC9
namespace Go.Proofs.YtlmjpmdkifoekaaDoor

/-- the number of a line -/
def keyOfLine (l : List Int) : Nat := l.foldl (fun a x => 2 * a + x.toNat) 0
theorem key_snoc (l : List Int) (x : Int) : keyOfLine (l ++ [x]) = 2 * keyOfLine l + x.toNat := by simp [keyOfLine]
theorem bitsLine_succ (n key : Nat) : bitsLine (n + 1) key = bitsLine n (key / 2) ++ [((key % 2 : Nat) : Int)] := by
  unfold bitsLine
  rw [List.range_succ, List.map_append]
  congr 1
  · apply List.map_congr_left
    intro x hx
    have hx : x < n := by simpa using hx
    have e : n + 1 - 1 - x = (n - 1 - x) + 1 := by omega
    rw [e, Nat.pow_succ, Nat.mul_comm, ← Nat.div_div_eq_div_mul]
  · simp
theorem snoc_ind {P : List Int → Prop} (h0 : P []) (h1 : ∀ l x, P l → P (l ++ [x])) (l : List Int) : P l := by
  have : ∀ n (l : List Int), l.length = n → P l := by
    intro n
    induction n with
    | zero => intro l hl; rw [List.eq_nil_of_length_eq_zero hl]; exact h0
    | succ n ih =>
      intro l hl
      rcases List.eq_nil_or_concat l with rfl | ⟨q, x, rfl⟩
      · simp at hl
      · rw [List.concat_eq_append] at hl ⊢
        exact h1 q x (ih q (by simpa using hl))
  exact this _ l rfl
theorem line_key (l : List Int) : (∀ x ∈ l, 0 ≤ x ∧ x ≤ 1) → keyOfLine l < 2 ^ l.length ∧ bitsLine l.length (keyOfLine l) = l := by
  refine snoc_ind (P := fun l => (∀ x ∈ l, 0 ≤ x ∧ x ≤ 1) → keyOfLine l < 2 ^ l.length ∧ bitsLine l.length (keyOfLine l) = l) ?_ ?_ l
  · intro _; simp [keyOfLine, bitsLine]
  · intro l x ih h
    obtain ⟨i1, i2⟩ := ih (fun y hy => h y (by simp [hy]))
    have hx := h x (by simp)
    rw [key_snoc, List.length_append, List.length_singleton, Nat.pow_succ, bitsLine_succ]
    have e1 : (2 * keyOfLine l + x.toNat) / 2 = keyOfLine l := by omega
    have e2 : (((2 * keyOfLine l + x.toNat) % 2 : Nat) : Int) = x := by omega
    rw [e1, e2, i2]
    exact ⟨by omega, rfl⟩
theorem mem_linesFor {n : Nat} {rs l : List Int} (hl : l.length = n) (hb : ∀ x ∈ l, 0 ≤ x ∧ x ≤ 1) (hr : runsOf l = rs) : l ∈ linesFor rs n := by
  obtain ⟨h1, h2⟩ := line_key l hb
  rw [hl] at h1 h2
  simp only [linesFor, linesTo, List.mem_filter, List.mem_map, List.mem_range, decide_eq_true_eq]
  exact ⟨⟨keyOfLine l, h1, h2⟩, hr⟩

/-- of the first k lines that agree: does one have this cell? -/
def anyCell (L : List (List Int)) (st : List Int) (c : Int) (i k : Nat) : Bool := (L.take k).any fun l => agrees st l && l.getD i 0 == c
theorem anyCell_succ {L : List (List Int)} {st : List Int} {c : Int} {i k : Nat} {line : List Int} (h : L[k]? = some line) : anyCell L st c i (k + 1) = (anyCell L st c i k || (agrees st line && line.getD i 0 == c)) := by
  obtain ⟨hk, hx⟩ := List.getElem?_eq_some_iff.1 h
  unfold anyCell
  rw [List.take_succ_eq_append_getElem hk, hx, List.any_append]; simp

/-- what a solved cell says of the lines -/
def CellSays (a : Int) (black white : Bool) : Prop := (a = 1 ∧ black = true ∧ white = false) ∨ (a = 0 ∧ white = true ∧ black = false) ∨ (a = -1 ∧ black = true ∧ white = true)

theorem cell_merge {a b : Int} {B W : Bool} (h : CellSays a B W) (hb : b = 0 ∨ b = 1) : CellSays (mergeAt a b) (B || b == 1) (W || b == 0) := by
  unfold CellSays mergeAt at *
  rcases hb with rfl | rfl <;> rcases h with ⟨rfl, rfl, rfl⟩ | ⟨rfl, rfl, rfl⟩ | ⟨rfl, rfl, rfl⟩ <;> simp

theorem solved_says {L : List (List Int)} {st : List Int} {n : Nat} (hL : ∀ l ∈ L, l.length = n ∧ ∀ x ∈ l, 0 ≤ x ∧ x ≤ 1) {i : Nat} (hi : i < n) :
    ∀ k, k ≤ L.length → match solveTo L st k with
      | none => (anyCell L st 1 i k = false ∧ anyCell L st 0 i k = false ∧ ∀ l ∈ L.take k, agrees st l = false)
      | some o => o.length = n ∧ CellSays (o.getD i 0) (anyCell L st 1 i k) (anyCell L st 0 i k) := by
  intro k
  induction k with
  | zero => intro _; simp [solveTo, anyCell]
  | succ k ih =>
    intro hk
    have hline : L[k]? = some L[k] := List.getElem?_eq_getElem (by omega)
    obtain ⟨line, hl⟩ : ∃ line, line = L[k] := ⟨_, rfl⟩
    rw [← hl] at hline
    obtain ⟨hl1, hl2⟩ := hL line (List.mem_of_getElem? hline)
    have ih := ih (by omega)
    rw [solveTo_succ hline, anyCell_succ hline, anyCell_succ hline]
    have hcell : line[i]? = some line[i] := List.getElem?_eq_getElem (by omega)
    have hgd : line.getD i 0 = line[i] := by simp [List.getD, hcell]
    have hb : line[i] = 0 ∨ line[i] = 1 := by have := hl2 _ (List.mem_of_getElem? hcell); omega
    unfold solveStep
    cases hag : agrees st line with
    | false =>
      simp only [Bool.false_and, Bool.or_false, Bool.false_eq_true, if_false]
      cases hacc : solveTo L st k with
      | none =>
        rw [hacc] at ih
        refine ⟨ih.1, ih.2.1, fun l hm => ?_⟩
        obtain ⟨hk', hx⟩ := List.getElem?_eq_some_iff.1 hline
        rw [List.take_succ_eq_append_getElem hk', hx, List.mem_append] at hm
        rcases hm with hm | hm
        · exact ih.2.2 l hm
        · simp at hm; subst hm; exact hag
      | some o => rw [hacc] at ih; exact ih
    | true =>
      simp only [Bool.true_and, if_true, hgd]
      cases hacc : solveTo L st k with
      | none =>
        rw [hacc] at ih
        refine ⟨hl1, ?_⟩
        rw [ih.1, ih.2.1, hgd]
        rcases hb with h | h <;> rw [h] <;> simp [CellSays]
      | some o =>
        rw [hacc] at ih
        obtain ⟨h1, h2⟩ := ih
        refine ⟨by rw [mergeL_len]; omega, ?_⟩
        have ho : o[i]? = some o[i] := List.getElem?_eq_getElem (by omega)
        have e : (mergeL o line).getD i 0 = mergeAt (o.getD i 0) line[i] := by
          simp [List.getD, mergeL, List.getElem?_zipWith, ho, hcell]
        rw [e]
        exact cell_merge h2 hb

theorem solved_some {L : List (List Int)} {st : List Int} {n : Nat} (hn : 0 < n) (hL : ∀ l ∈ L, l.length = n ∧ ∀ x ∈ l, 0 ≤ x ∧ x ≤ 1) {l : List Int} (hl : l ∈ L) (ha : agrees st l = true) : ∃ o, solveTo L st L.length = some o := by
  have h := solved_says (st := st) hL hn L.length (Nat.le_refl _)
  cases hs : solveTo L st L.length with
  | some o => exact ⟨o, rfl⟩
  | none =>
    rw [hs] at h
    have := h.2.2 l (by rw [List.take_length]; exact hl)
    rw [ha] at this; cases this

/-- a state made of a line by hiding some cells -/
def HidOf (line st : List Int) : Prop := st.length = line.length ∧ ∀ (j : Nat) (x c : Int), st[j]? = some x → line[j]? = some c → x = c ∨ x = -1
theorem hidOf_agrees {line st : List Int} (h : HidOf line st) : agrees st line = true := by
  unfold agrees agreesTo
  rw [List.all_eq_true]
  intro j hj
  have hj : j < line.length := by simpa using hj
  have hjs : j < st.length := by rw [h.1]; exact hj
  have h1 : st[j]? = some st[j] := List.getElem?_eq_getElem hjs
  have h2 : line[j]? = some line[j] := List.getElem?_eq_getElem hj
  rw [agreeAt_eq h1 h2]
  rcases h.2 j _ _ h1 h2 with e | e
  · simp [e]
  · simp [e]
theorem hidOf_ok {line st : List Int} (h : HidOf line st) (h1 : 1 ≤ line.length) (h2 : line.length ≤ 5) (hb : ∀ x ∈ line, 0 ≤ x ∧ x ≤ 1) : stateOk st = true := by
  unfold stateOk
  rw [Bool.and_eq_true, List.all_eq_true]
  refine ⟨inR_t (by rw [h.1]; omega) (by rw [h.1]; omega), fun x hx => ?_⟩
  obtain ⟨j, hj⟩ := List.getElem?_of_mem hx
  have hjl := (List.getElem?_eq_some_iff.1 hj).1
  have hjl2 : j < line.length := by rw [← h.1]; exact hjl
  have h2 : line[j]? = some line[j] := List.getElem?_eq_getElem hjl2
  have := hb _ (List.mem_of_getElem? h2)
  rcases h.2 j _ _ hj h2 with e | e
  · exact inR_t (by omega) (by omega)
  · exact inR_t (by omega) (by omega)
theorem hidOf_snoc {line st : List Int} {k : Nat} {x y : Int} (h : HidOf (line.take k) st) (hx : line[k]? = some x) (hy : y = x ∨ y = -1) : HidOf (line.take (k + 1)) (st ++ [y]) := by
  obtain ⟨hk, e⟩ := List.getElem?_eq_some_iff.1 hx
  rw [List.take_succ_eq_append_getElem hk, e]
  have hl : st.length = k := by rw [h.1, List.length_take]; omega
  refine ⟨by simp [h.1], fun j a c ha hc => ?_⟩
  by_cases hj : j < k
  · rw [List.getElem?_append_left (by omega)] at ha
    rw [List.getElem?_append_left (by simp; omega)] at hc
    exact h.2 j a c ha hc
  · have hj' : j = k := by
      have := (List.getElem?_eq_some_iff.1 ha).1
      simp at this; omega
    subst hj'
    rw [List.getElem?_append_right (by omega)] at ha
    rw [List.getElem?_append_right (by simp; omega)] at hc
    simp [hl] at ha
    have : j - (List.take j line).length = 0 := by simp; omega
    rw [this] at hc
    simp at hc
    subst ha hc
    exact hy
theorem hidOf_vals {line st : List Int} (h : HidOf line st) (hb : ∀ x ∈ line, 0 ≤ x ∧ x ≤ 1) {j : Nat} {x : Int} (hx : st[j]? = some x) : x = -1 ∨ x = 0 ∨ x = 1 := by
  have hjl := (List.getElem?_eq_some_iff.1 hx).1
  have hjl2 : j < line.length := by rw [← h.1]; exact hjl
  have h2 : line[j]? = some line[j] := List.getElem?_eq_getElem hjl2
  have := hb _ (List.mem_of_getElem? h2)
  rcases h.2 j _ _ hx h2 with e | e <;> omega
end Go.Proofs.YtlmjpmdkifoekaaDoor

namespace Go.Proofs.YtlmjpmdkifoekaaDoor

def lessL : List Int → List Int → Bool
  | a :: al, b :: bl => if a ≠ b then decide (a < b) else lessL al bl
  | _, _ => false
theorem lessL_nil_right (a : List Int) : lessL a [] = false := by cases a <;> rfl
theorem lessL_step {a b : List Int} {k : Nat} {x y : Int} (hx : a[k]? = some x) (hy : b[k]? = some y) : lessL (a.drop k) (b.drop k) = if x ≠ y then decide (x < y) else lessL (a.drop (k + 1)) (b.drop (k + 1)) := by
  obtain ⟨h1, h1'⟩ := List.getElem?_eq_some_iff.1 hx
  obtain ⟨h2, h2'⟩ := List.getElem?_eq_some_iff.1 hy
  rw [List.drop_eq_getElem_cons h1, List.drop_eq_getElem_cons h2, h1', h2']
  rfl
theorem lessL_end {a b : List Int} {k : Nat} (h : a.length ≤ k ∨ b.length ≤ k) : lessL (a.drop k) (b.drop k) = false := by
  rcases h with h | h
  · rw [List.drop_of_length_le h]; rfl
  · rw [List.drop_of_length_le h]; exact lessL_nil_right _
theorem lessL_snoc_eq (a : List Int) (x y : Int) : lessL (a ++ [x]) (a ++ [y]) = decide (x < y) := by
  induction a with
  | nil => simp [lessL]; omega
  | cons c a ih => simp [lessL, ih]
theorem lessL_snoc {x y : Int} : ∀ {a b : List Int}, a.length = b.length → lessL a b = true → lessL (a ++ [x]) (b ++ [y]) = true := by
  intro a
  induction a with
  | nil => intro b hl h; simp [lessL] at h
  | cons c a ih =>
    intro b hl h
    cases b with
    | nil => simp at hl
    | cons d b =>
      simp only [lessL, List.cons_append] at h ⊢
      split
      · rename_i hne; rw [if_pos hne] at h; exact h
      · rename_i hne; rw [if_neg hne] at h; exact ih (by simpa using hl) h
theorem bits_less : ∀ (n k1 k2 : Nat), k1 < k2 → k2 < 2 ^ n → lessL (bitsLine n k1) (bitsLine n k2) = true := by
  intro n
  induction n with
  | zero => intro k1 k2 h1 h2; simp at h2; omega
  | succ n ih =>
    intro k1 k2 h1 h2
    rw [bitsLine_succ, bitsLine_succ]
    rw [Nat.pow_succ] at h2
    by_cases he : k1 / 2 = k2 / 2
    · rw [he, lessL_snoc_eq]
      simp
      omega
    · exact lessL_snoc (by simp [bitsLine_len]) (ih _ _ (by omega) (by omega))
theorem linesFor_up (rs : List Int) (n : Nat) : (linesFor rs n).Pairwise fun a b => lessL a b = true := by
  unfold linesFor linesTo
  apply List.Pairwise.filter
  rw [List.pairwise_map]
  refine List.Pairwise.imp_of_mem ?_ List.pairwise_lt_range
  intro a b _ hb hab
  exact bits_less n a b hab (List.mem_range.1 hb)
theorem linesFor_less {rs : List Int} {n k : Nat} {x y : List Int} (hx : (linesFor rs n)[k]? = some x) (hy : (linesFor rs n)[k + 1]? = some y) : lessL x y = true := by
  obtain ⟨h1, rfl⟩ := List.getElem?_eq_some_iff.1 hx
  obtain ⟨h2, rfl⟩ := List.getElem?_eq_some_iff.1 hy
  exact List.pairwise_iff_getElem.1 (linesFor_up rs n) k (k + 1) h1 h2 (by omega)
theorem linesFor_runs {rs : List Int} {n : Nat} {x : List Int} (h : x ∈ linesFor rs n) : runsOf x = rs := by
  unfold linesFor linesTo at h
  rw [List.mem_filter] at h
  simpa using h.2
theorem sumL_snoc (a : List Int) (x : Int) : sumL (a ++ [x]) = sumL a + x := by simp [sumL]
theorem runs_total {xs : List Int} : (∀ x ∈ xs, 0 ≤ x ∧ x ≤ 1) → sumL (runsOf xs) = sumL xs := by
  intro h
  have key : ∀ ys : List Int, (∀ x ∈ ys, 0 ≤ x ∧ x ≤ 1) → sumL (runsSt ys).1 + ((runsSt ys).2 : Int) = sumL ys := by
    intro ys
    induction ys using snoc_ind with
    | h0 => intro _; rfl
    | h1 l x ih =>
      intro hb
      have h1 := ih (fun z hz => hb z (by simp [hz]))
      have hx := hb x (by simp)
      have e : runsSt (l ++ [x]) = runsStep (runsSt l) x := by simp [runsSt]
      rw [e, sumL_snoc]
      unfold runsStep
      split
      · rename_i hx1; subst hx1; simp only; push_cast; omega
      · rename_i hx1
        have hx0 : x = 0 := by omega
        subst hx0
        simp only [runsFin]
        split
        · rw [sumL_snoc]; push_cast; omega
        · rename_i hz
          have : (runsSt l).2 = 0 := by omega
          rw [this] at h1
          simpa using h1
  unfold runsOf runsFin
  have := key xs h
  split
  · rw [sumL_snoc]; exact this
  · rename_i hz
    have h0 : (runsSt xs).2 = 0 := by omega
    rw [h0] at this
    simpa using this
theorem runs_bd (xs : List Int) : ∀ x ∈ runsOf xs, 0 ≤ x ∧ x ≤ xs.length := by
  have key : ∀ ys : List Int, (∀ x ∈ (runsSt ys).1, 0 ≤ x ∧ x ≤ (ys.length : Int)) ∧ (runsSt ys).2 ≤ ys.length := by
    intro ys
    induction ys using snoc_ind with
    | h0 => exact ⟨fun x hx => by simp [runsSt] at hx, by simp [runsSt]⟩
    | h1 l x ih =>
      obtain ⟨h1, h2⟩ := ih
      have e : runsSt (l ++ [x]) = runsStep (runsSt l) x := by simp [runsSt]
      rw [e, List.length_append, List.length_singleton]
      unfold runsStep
      split
      · exact ⟨fun z hz => by have := h1 z hz; push_cast; omega, by simp only; omega⟩
      · refine ⟨fun z hz => ?_, by simp⟩
        simp only [runsFin] at hz
        split at hz
        · rcases List.mem_append.1 hz with hz | hz
          · have := h1 z hz; push_cast; omega
          · simp at hz; subst hz; push_cast; omega
        · have := h1 z hz; push_cast; omega
  intro x hx
  obtain ⟨h1, h2⟩ := key xs
  unfold runsOf runsFin at hx
  split at hx
  · rcases List.mem_append.1 hx with hx | hx
    · exact h1 x hx
    · simp at hx; omega
  · exact h1 x hx
theorem any_take_step {α : Type} (p : α → Bool) {xs : List α} {k : Nat} {x : α} (h : xs[k]? = some x) : (xs.take (k + 1)).any p = ((xs.take k).any p || p x) := by
  rw [List.take_add_one, h]; simp
end Go.Proofs.YtlmjpmdkifoekaaDoor

namespace Go.Proofs.YtlmjpmdkifoekaaDoor
open Go.RowKit

set_option maxHeartbeats 400000 in
theorem less_c (v v2 : Value) (xs ys : List Int) (w : World) (hv : Ints w v xs) (hv2 : Ints w v2 ys) : Calls Tryd.prog 71 #[v, v2] w fun e w' => e = .returned (.bool (lessL xs ys)) ∧ w = w' := by
  have Hv := Lib.hid hv
  have Hv2 := Lib.hid hv2
  obtain ⟨a, cap, rfl, -, hle, -⟩ := hv
  obtain ⟨a2, cap2, rfl, -, hle2, -⟩ := hv2
  go_enter Tryd.func71, Tryd.ntmps71
  go_wp2
  go_loop [5, 6, 9] (fun _ _ i => ∃ k : Nat, k ≤ xs.length ∧ i = .int .i64 k ∧ (lessL (xs.drop k) (ys.drop k) = lessL xs ys)) (fun _ _ i => xs.length - (intOf i).toNat)
  case atStart => exact ⟨0, Nat.zero_le _, rfl, rfl⟩
  case round =>
    obtain ⟨k, hk, rfl, hls⟩ := hrel
    have Hls := Lib.hid hls
    clear hls
    by_cases hlt : k < xs.length
    · obtain ⟨x, hx⟩ : ∃ x, xs[k]? = some x := ⟨_, List.getElem?_eq_getElem hlt⟩
      obtain ⟨b, off, cpr, he, hb, -⟩ := Hv.out.inv_ne (by omega)
      obtain ⟨rfl, -⟩ : a = some ⟨b, off, none⟩ ∧ cap = cpr := by simpa using he
      have hcx := Ints.at Hv.out hx
      by_cases hlt2 : k < ys.length
      · obtain ⟨y, hy⟩ : ∃ y, ys[k]? = some y := ⟨_, List.getElem?_eq_getElem hlt2⟩
        obtain ⟨b2, off2, cpr2, he2, hb2, -⟩ := Hv2.out.inv_ne (by omega)
        obtain ⟨rfl, -⟩ : a2 = some ⟨b2, off2, none⟩ ∧ cap2 = cpr2 := by simpa using he2
        have hcy := Ints.at Hv2.out hy
        have Hst := Lib.hid (lessL_step hx hy)
        clear hx hy he he2
        by_cases hxy : x = y
        · subst hxy
          go_wp2
          go_round
          case rel => exact ⟨k + 1, by omega, by go_num, by rw [← Hls.out, Hst.out]; simp⟩
          case measure => simp [intOf]; omega
        · have hne : (x == y) = false := by simpa using hxy
          have Hr := Lib.hid (show lessL xs ys = decide (x < y) from by rw [← Hls.out, Hst.out, if_pos hxy])
          go_wp2
          go_ret
          exact ⟨retB Hr.out.symm, rfl⟩
      · have Hr := Lib.hid (show lessL (xs.drop (k + 1)) (ys.drop (k + 1)) = lessL xs ys from by rw [← Hls.out, lessL_end (.inr (by omega)), lessL_end (.inr (by omega))])
        clear hx he
        go_wp2
        go_round
        case rel => exact ⟨k + 1, by omega, by go_num, Hr.out⟩
        case measure => simp [intOf]; omega
    · have Hr := Lib.hid (show lessL xs ys = false from by rw [← Hls.out, lessL_end (.inl (by omega))])
      go_wp2
      go_ret
      exact ⟨retB Hr.out.symm, rfl⟩
end Go.Proofs.YtlmjpmdkifoekaaDoor

/- Contracts: ConjugateOf. Contracts: the reference's SortedDown. Contracts: the reference's SumsOk, WorstColumns, Exists. -/
import Derived.Test.YtekgnpdchpdfiaaDoorAll2
import Derived.Test.YtekgnpdchpdfiaaDoorC1
import Derived.Test.YtekgnpdchpdfiaaDoorMem
import Derived.RegionTactic
import Derived.BigRegion
import Derived.Test.YtekgnpdchpdfiaaDoorC12
namespace Go.Proofs.YtekgnpdchpdfiaaDoor
open Go.RowKit

/-- the conjugate of the first k numbers, and the first j of its numbers one greater -/
def conjTo (xs : List Int) (n k j : Nat) : List Int := (List.range n).map fun i : Nat => (((xs.take k).filter fun x => decide ((i : Int) < x)).length : Int) + if i < j then 1 else 0
theorem conjTo_zero (xs : List Int) (n k : Nat) : conjTo xs n k 0 = conjOf (xs.take k) n := by
  unfold conjTo conjOf
  exact List.map_congr_left fun i _ => by simp
theorem conjTo_start (xs : List Int) (n : Nat) : conjTo xs n 0 0 = List.replicate n 0 := by
  unfold conjTo
  simp [List.map_const']
theorem conjTo_len (xs : List Int) (n k j : Nat) : (conjTo xs n k j).length = n := by simp [conjTo]
theorem conjTo_next {xs : List Int} {n k : Nat} {x : Int} (hx : xs[k]? = some x) (h0 : 0 ≤ x) : conjTo xs n k x.toNat = conjTo xs n (k + 1) 0 := by
  unfold conjTo
  refine List.map_congr_left fun i _ => ?_
  rw [List.take_add_one, hx, List.filter_append, List.length_append]
  simp only [Option.toList_some, List.filter_cons, List.filter_nil]
  by_cases h : (i : Int) < x
  · rw [if_pos (by omega)]; simp [h]
  · rw [if_neg (by omega)]; simp [h]
theorem conjTo_at {xs : List Int} {n k j i : Nat} (hi : i < n) : ∃ z : Int, (conjTo xs n k j)[i]? = some z ∧ 0 ≤ z ∧ z ≤ xs.length + 1 := by
  unfold conjTo
  rw [List.getElem?_map, List.getElem?_range hi]
  refine ⟨_, rfl, ?_, ?_⟩
  · show (0 : Int) ≤ _ + _
    split <;> omega
  · have h1 := List.length_filter_le (fun x => decide ((i : Int) < x)) (xs.take k)
    have h2 : (xs.take k).length ≤ xs.length := by rw [List.length_take]; omega
    show (_ + _ : Int) ≤ _
    split <;> omega
theorem conjTo_set {xs : List Int} {n k j : Nat} {z : Int} (hz : (conjTo xs n k j)[j]? = some z) : (conjTo xs n k j).set j (z + 1) = conjTo xs n k (j + 1) := by
  have hj := (List.getElem?_eq_some_iff.1 hz).1
  rw [conjTo_len] at hj
  apply List.ext_getElem?
  intro i
  rw [List.getElem?_set]
  by_cases hi : j = i
  · subst hi
    rw [if_pos rfl, if_pos (by rw [conjTo_len]; exact hj)]
    unfold conjTo at hz ⊢
    rw [List.getElem?_map, List.getElem?_range hj] at hz ⊢
    simp only [Option.map_some, Option.some.injEq] at hz ⊢
    rw [if_neg (by omega)] at hz
    rw [if_pos (by omega)]; omega
  · rw [if_neg hi]
    unfold conjTo
    rw [List.getElem?_map, List.getElem?_map]
    cases hr : (List.range n)[i]? with
    | none => rfl
    | some i' =>
      have : i' = i := by
        have h1 := (List.getElem?_eq_some_iff.1 hr).1
        rw [List.length_range] at h1
        rw [List.getElem?_range h1] at hr
        exact (Option.some.inj hr).symm
      subst this
      simp only [Option.map_some, Option.some.injEq]
      have : (i' < j) ↔ (i' < j + 1) := by omega
      simp only [this]
theorem all_at {xs : List Int} {lo hi : Int} (h : xs.all (inR lo hi) = true) {k : Nat} {x : Int} (hx : xs[k]? = some x) : lo ≤ x ∧ x ≤ hi := by
  have := List.all_eq_true.1 h x (List.mem_of_getElem? hx)
  rwa [inR_iff] at this
end Go.Proofs.YtekgnpdchpdfiaaDoor

namespace Go.Proofs.YtekgnpdchpdfiaaDoor
open Go.RowKit

def insAt (S : List Int) (p : Nat) (x : Int) : List Int := S.take p ++ x :: S.drop p
theorem insAt_len (S : List Int) (p : Nat) (x : Int) : (insAt S p x).length = S.length + 1 := by
  unfold insAt
  rw [List.length_append, List.length_cons, List.length_take, List.length_drop]; omega
theorem insAt_end (S : List Int) (x : Int) : insAt S S.length x = S ++ [x] := by simp [insAt]
theorem insAt_at {S : List Int} {p : Nat} (hp : p ≤ S.length) (x : Int) : (insAt S p x)[p]? = some x := by
  unfold insAt
  rw [List.getElem?_append_right (by rw [List.length_take]; omega), List.length_take, Nat.min_eq_left hp, Nat.sub_self]; rfl
theorem insAt_before {S : List Int} {p : Nat} {y : Int} (hy : S[p]? = some y) (x : Int) : (insAt S (p + 1) x)[p]? = some y := by
  unfold insAt
  have hp := (List.getElem?_eq_some_iff.1 hy).1
  rw [List.getElem?_append_left (by rw [List.length_take]; omega), List.getElem?_take, if_pos (by omega)]; exact hy
theorem insAt_swap : ∀ {S : List Int} {p : Nat} {y : Int}, S[p]? = some y → ∀ x, ((insAt S (p + 1) x).set (p + 1) y).set p x = insAt S p x
  | [], p, y, h, x => by simp at h
  | a :: S, 0, y, h, x => by
    simp at h
    subst h
    simp [insAt]
  | a :: S, p + 1, y, h, x => by
    have := insAt_swap (S := S) (p := p) (y := y) (by simpa using h) x
    simp only [insAt, List.take_succ_cons, List.drop_succ_cons, List.cons_append, List.set_cons_succ] at this ⊢
    rw [this]
theorem insAt_insD : ∀ {S : List Int} {p : Nat} {x : Int}, (∀ y ∈ S.take p, x ≤ y) → (∀ y ∈ S.drop p, y < x) → insAt S p x = insD x S
  | [], p, x, _, _ => by simp [insAt, insD]
  | a :: S, 0, x, _, h => by
    have := h a (by simp)
    simp only [insAt, List.take_zero, List.drop_zero, List.nil_append, insD]
    rw [if_neg (by omega)]
  | a :: S, p + 1, x, h1, h2 => by
    have ha := h1 a (by simp)
    have := insAt_insD (S := S) (p := p) (x := x) (fun y hy => h1 y (by simp [hy])) (fun y hy => h2 y (by simpa using hy))
    simp only [insAt, List.take_succ_cons, List.drop_succ_cons, List.cons_append, insD] at this ⊢
    rw [if_pos ha, this]
theorem sortD_snoc {xs : List Int} {k : Nat} {x : Int} (h : xs[k]? = some x) : sortD (xs.take (k + 1)) = insD x (sortD (xs.take k)) := by
  unfold sortD
  rw [List.take_add_one, h, List.foldl_append]; rfl
theorem insAt_done {S : List Int} (hd : desc S) {p : Nat} {x y : Int} (hy : S[p]? = some y) (hxy : x ≤ y) (h2 : ∀ y ∈ S.drop (p + 1), y < x) : insAt S (p + 1) x = insD x S := by
  refine insAt_insD (fun z hz => ?_) h2
  obtain ⟨i, hi, rfl⟩ := List.getElem_of_mem hz
  rw [List.length_take] at hi
  rw [List.getElem_take]
  obtain ⟨hp, rfl⟩ := List.getElem?_eq_some_iff.1 hy
  unfold desc at hd
  rw [List.pairwise_iff_getElem] at hd
  by_cases hip : i = p
  · subst hip; exact hxy
  · exact Int.le_trans hxy (hd i p (by omega) hp (by omega))
theorem drop_more {S : List Int} {p : Nat} {x y : Int} (hy : S[p]? = some y) (hxy : y < x) (h2 : ∀ y ∈ S.drop (p + 1), y < x) : ∀ y ∈ S.drop p, y < x := by
  intro z hz
  rw [List.drop_eq_getElem_cons (List.getElem?_eq_some_iff.1 hy).1] at hz
  rcases List.mem_cons.1 hz with e | hz
  · obtain ⟨hp, rfl⟩ := List.getElem?_eq_some_iff.1 hy
    rw [e]; exact hxy
  · exact h2 z hz
end Go.Proofs.YtekgnpdchpdfiaaDoor

namespace Go.Proofs.YtekgnpdchpdfiaaDoor
open Go.RowKit

theorem Sl.pre {α : Type} {R : RepT α} {S : Bk} {w : World} {a : Option Addr} {n c : Nat} {xs : List α} (h : Sl R S w (.slice a n c) xs) {k : Nat} (hk : k ≤ xs.length) : Sl R S w (.slice a k c) (xs.take k) := by
  obtain ⟨a', cap', he, h1, h2, h3, h4⟩ := h
  simp only [Value.slice.injEq] at he
  obtain ⟨rfl, rfl, rfl⟩ := he
  have hl : (xs.take k).length = k := by rw [List.length_take]; omega
  refine ⟨a, c, by rw [hl], by omega, by omega, h3, fun h0 => ?_⟩
  obtain ⟨b, off, rfl, hb, hc⟩ := h4 (by omega)
  refine ⟨b, off, rfl, hb, fun j x hj => hc j x ?_⟩
  rw [List.getElem?_take] at hj
  split at hj
  · exact hj
  · cases hj
theorem Ints.pre {w : World} {a : Option Addr} {n c : Nat} {xs : List Int} (h : Ints w (.slice a n c) xs) {k : Nat} (hk : k ≤ xs.length) : Ints w (.slice a k c) (xs.take k) := Sl.pre h hk
theorem conjOf_len (xs : List Int) (n : Nat) : (conjOf xs n).length = n := by simp [conjOf]
theorem conjOf_bd {xs : List Int} {n : Nat} : ∀ x ∈ conjOf xs n, 0 ≤ x ∧ x ≤ xs.length := by
  intro x hx
  unfold conjOf at hx
  obtain ⟨i, -, rfl⟩ := List.mem_map.1 hx
  have := List.length_filter_le (fun x => decide ((i : Int) < x)) xs
  omega
theorem conj_small {xs : List Int} {n k : Nat} (h : xs.length ≤ 5) (hn : n ≤ 5) : Small ((conjOf xs n).take k) := by
  refine ⟨by rw [List.length_take, conjOf_len]; omega, fun x hx => ?_⟩
  have := conjOf_bd x (List.mem_of_mem_take hx)
  omega
theorem sortD_small {ys : List Int} {k : Nat} {m : Int} (h : ys.all (inR 0 m) = true) (hm : m ≤ 5) (hl : ys.length ≤ 5) : Small ((sortD ys).take k) := by
  refine ⟨by rw [List.length_take, sortD_len]; omega, fun x hx => ?_⟩
  have h1 : x ∈ ys := (sortD_perm ys).mem_iff.1 (List.mem_of_mem_take hx)
  have := List.all_eq_true.1 h x h1
  rw [inR_iff] at this
  omega
theorem sumsOk_all {xs ys : List Int} (h : sumsOk xs ys = true) : xs.all (inR 0 ys.length) = true ∧ ys.all (inR 0 xs.length) = true := by
  unfold sumsOk at h
  simp only [Bool.and_eq_true] at h
  exact ⟨h.1.1.2, h.1.2⟩
theorem conj_sum {xs ys : List Int} (h : sumsOk xs ys = true) {k : Nat} (hk : k ≤ ys.length) : sumL ((conjOf xs ys.length).take k) = mostL xs k :=
  conj_take (fun x hx => by have := List.all_eq_true.1 (sumsOk_all h).1 x hx; rw [inR_iff] at this; exact this.1) hk
theorem worstK_first {xs ys : List Int} {k : Nat} (h1 : 1 ≤ k) (h2 : k ≤ ys.length) (h : tooMuch xs ys k) (hb : ∀ i, 1 ≤ i → i < k → ¬ tooMuch xs ys i) : worstK xs ys = k := by
  unfold worstK
  have e : (List.range ys.length).find? (fun i => decide (tooMuch xs ys (i + 1))) = some (k - 1) := by
    rw [List.find?_range_eq_some]
    refine ⟨by rw [show k - 1 + 1 = k by omega]; exact decide_eq_true h, List.mem_range.2 (by omega), fun j hj => ?_⟩
    have := hb (j + 1) (by omega) (by omega)
    simp [this]
  rw [e]
  dsimp only
  omega
theorem worst_le (xs ys : List Int) : worst xs ys ≤ ys.length := by
  unfold worst
  split
  · by_cases h : worstK xs ys = 0
    · omega
    · exact (worstK_pos h).2.1
  · omega
theorem small_sum {xs : List Int} (h : Small xs) (hl : xs.length ≤ 5) : -5242880 ≤ sumL xs ∧ sumL xs ≤ 5242880 := by
  have := sumL_small h xs.length (Nat.le_refl _)
  rw [List.take_length] at this
  omega
end Go.Proofs.YtekgnpdchpdfiaaDoor

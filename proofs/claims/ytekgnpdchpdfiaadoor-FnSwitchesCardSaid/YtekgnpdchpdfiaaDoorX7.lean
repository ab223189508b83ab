/- Contracts: the reference's rows of an image, and what they leave of the columns. Contracts: what a row leaves of the columns. Contracts: all images of the reference: its recursion. Contracts: AllImages of the reference. -/
import Derived.Test.YtekgnpdchpdfiaaDoorX3
import Derived.Test.YtekgnpdchpdfiaaDoorMem
import Derived.Test.YtekgnpdchpdfiaaDoorC1
import Derived.Laws.EntriesVeiled
import Derived.Deep.DeepCutAuto
import Derived.Test.YtekgnpdchpdfiaaDoorE3
namespace Go.Proofs.YtekgnpdchpdfiaaDoor
open Go.RowKit

theorem own_one {α : Type} {R : RepT α} (hR : Rep R) (w : World) (E : TypeId) {u : Value} {x : α} {T : Bk} {lo : Nat} (hu : R T w u x) (hT : ∀ b, T b → lo ≤ b ∧ b < w.heap.size) (hlo : lo ≤ w.heap.size) :
    Own E R (Iv lo (w.heap.size + 1)) (w.alloc (.cells #[u] E)) (.slice (some ⟨w.heap.size, 0, none⟩) 1 1) [x] := by
  refine .inr ⟨w.heap.size, #[u], rfl, ⟨hlo, Nat.lt_succ_self _⟩, heap_alloc_new w _, by simp, by simp [maxLen], by simp, fun k b => T b ∧ k = 0, fun k b hb => ⟨⟨(hT b hb.1).1, Nat.lt_succ_of_lt (hT b hb.1).2⟩, by have := (hT b hb.1).2; omega⟩, fun j k b hj hk => by rw [hj.2, hk.2], fun k y hk => ?_⟩
  have hk0 : k = 0 := by
    have := (List.getElem?_eq_some_iff.1 hk).1
    simpa using this
  subst hk0
  simp at hk; subst hk
  exact ⟨u, rfl, hR.mono (fun b hb => ⟨hb, rfl⟩) (hR.same (fun b hb => Below.heap_alloc _ _ _ (hT b hb).2) hu)⟩
/-- the rows whose first cell is x -/
def rowPart (n : Nat) (k : Int) (x : Nat) : List (List Int) := if (x : Int) ≤ k then (bitRows n (k - x)).map ((x : Int) :: ·) else []
def rowUpTo (n : Nat) (k : Int) (x : Nat) : List (List Int) := (List.range x).flatMap (rowPart n k)
theorem rowUpTo_zero (n : Nat) (k : Int) : rowUpTo n k 0 = [] := by simp [rowUpTo]
theorem rowUpTo_succ (n : Nat) (k : Int) (x : Nat) : rowUpTo n k (x + 1) = rowUpTo n k x ++ rowPart n k x := by
  unfold rowUpTo
  rw [List.range_succ, List.flatMap_append]; simp
theorem rowUpTo_two (n : Nat) (k : Int) : rowUpTo n k 2 = bitRows (n + 1) k := by
  rw [rowUpTo_succ, rowUpTo_succ, rowUpTo_zero, bitRows]
  unfold rowPart
  simp
theorem bitRows_len : ∀ (n : Nat) (k : Int), (bitRows n k).length ≤ 2 ^ n
  | 0, k => by unfold bitRows; split <;> simp
  | n + 1, k => by
    unfold bitRows
    have h1 := bitRows_len n k
    have h2 := bitRows_len n (k - 1)
    rw [List.length_append, Nat.pow_succ]
    have a1 : (if 0 ≤ k then (bitRows n k).map (0 :: ·) else []).length ≤ 2 ^ n := by split <;> simp [h1]
    have a2 : (if 1 ≤ k then (bitRows n (k - 1)).map (1 :: ·) else []).length ≤ 2 ^ n := by split <;> simp [h2]
    omega
theorem bitRows_32 {n : Nat} (h : n ≤ 5) (k : Int) : (bitRows n k).length ≤ 32 := by
  have h1 := bitRows_len n k
  have h2 := Nat.pow_le_pow_right (n := 2) (by decide) h
  omega
theorem rowUpTo_len {n : Nat} (h : n ≤ 5) (k : Int) (x : Nat) : (rowUpTo n k x).length ≤ x * 32 := by
  induction x with
  | zero => simp [rowUpTo]
  | succ x ih =>
    rw [rowUpTo_succ, List.length_append]
    have : (rowPart n k x).length ≤ 32 := by
      unfold rowPart
      split
      · rw [List.length_map]; exact bitRows_32 h _
      · simp
    omega
theorem map_take_succ {α β : Type} (f : α → β) {L : List α} {j : Nat} {x : α} (h : L[j]? = some x) : (L.take (j + 1)).map f = (L.take j).map f ++ [f x] := by
  rw [List.take_add_one, h, List.map_append]; rfl
end Go.Proofs.YtekgnpdchpdfiaaDoor

namespace Go.Proofs.YtekgnpdchpdfiaaDoor
open Go.RowKit

theorem leftOver_next {cols row : List Int} {k : Nat} {c x : Int} (hc : cols[k]? = some c) (hx : row[k]? = some x) : (leftOver cols row)[k]? = some (c - x) := by
  unfold leftOver
  rw [List.getElem?_zipWith, hc, hx]
theorem rowFits_no {cols row : List Int} (hl : row.length = cols.length) {k : Nat} {c x : Int} (hc : cols[k]? = some c) (hx : row[k]? = some x) (h : c < x) : rowFits cols row = false := by
  rw [Bool.eq_false_iff]
  intro hf
  have hk := (List.getElem?_eq_some_iff.1 hc).1
  have := (rowFits_iff hl).1 hf k hk
  rw [gD_some (leftOver_next hc hx)] at this
  omega
theorem rowFits_yes {cols row : List Int} (hl : row.length = cols.length) (h : ∀ j, j < cols.length → 0 ≤ (leftOver cols row).getD j 0) : rowFits cols row = true := (rowFits_iff hl).2 h
def leftRes (cols row : List Int) : List Int := if rowFits cols row then leftOver cols row else []
end Go.Proofs.YtekgnpdchpdfiaaDoor

namespace Go.Proofs.YtekgnpdchpdfiaaDoor
open Go.RowKit

theorem Sl.tail {α : Type} {R : RepT α} {S : Bk} {w : World} {b off n c : Nat} {x : α} {xs : List α} (h : Sl R S w (.slice (some ⟨b, off, none⟩) n c) (x :: xs)) : Sl R S w (.slice (if c = 1 then some ⟨b, off, none⟩ else some ⟨b, off + 1, none⟩) xs.length (c - 1)) xs := by
  obtain ⟨a', cap', he, h1, h2, h3, h4⟩ := h
  simp only [Value.slice.injEq] at he
  obtain ⟨rfl, hn, rfl⟩ := he
  rw [List.length_cons] at h1 h2
  refine ⟨_, _, rfl, by omega, by omega, (fun h => by split at h <;> cases h), fun h0 => ?_⟩
  rw [if_neg (by omega)]
  obtain ⟨b', off', he, hb, hc⟩ := h4 (by rw [List.length_cons]; omega)
  simp only [Option.some.injEq, Addr.mk.injEq, and_true] at he
  obtain ⟨rfl, rfl⟩ := he
  refine ⟨b, off + 1, rfl, hb, fun k y hk => ?_⟩
  obtain ⟨u, hu, hr⟩ := hc (k + 1) y (by simpa using hk)
  exact ⟨u, by rw [show off + 1 + k = off + (k + 1) by omega]; exact hu, hr⟩
def rowsG (rows cols row : List Int) : List (List (List Int)) := if rowFits cols row && goesOn rows (leftOver cols row) then (rowsAll rows (leftOver cols row)).map (row :: ·) else []
def rowsTo (rows cols : List Int) (L : List (List Int)) (k : Nat) : List (List (List Int)) := (L.take k).flatMap (rowsG rows cols)
theorem rowsTo_zero (rows cols : List Int) (L : List (List Int)) : rowsTo rows cols L 0 = [] := by simp [rowsTo]
theorem rowsTo_succ {rows cols : List Int} {L : List (List Int)} {k : Nat} {l : List Int} (h : L[k]? = some l) : rowsTo rows cols L (k + 1) = rowsTo rows cols L k ++ rowsG rows cols l := by
  unfold rowsTo
  rw [List.take_add_one, h, List.flatMap_append]; simp
theorem rowsTo_all {r : Int} {rows cols : List Int} {L : List (List Int)} {k : Nat} (hL : L = bitRows cols.length r) (hk : L.length ≤ k) : rowsTo rows cols L k = rowsAll (r :: rows) cols := by
  unfold rowsTo
  rw [List.take_of_length_le hk, hL]; rfl
theorem flatMap_take_len {α β : Type} (g : α → List β) : ∀ (L : List α) (k : Nat), ((L.take k).flatMap g).length ≤ (L.flatMap g).length
  | [], k => by simp
  | a :: L, 0 => by simp
  | a :: L, k + 1 => by
    rw [List.take_succ_cons, List.flatMap_cons, List.flatMap_cons, List.length_append, List.length_append]
    have := flatMap_take_len g L k
    omega
theorem rowsTo_len {r : Int} {rows cols : List Int} {L : List (List Int)} {k : Nat} (hL : L = bitRows cols.length r) : (rowsTo rows cols L k).length ≤ (rowsAll (r :: rows) cols).length := by
  have := flatMap_take_len (rowsG rows cols) L k
  rw [hL] at this
  rw [hL]; exact this
theorem rowsG_no {rows cols row : List Int} (h : (rowFits cols row && goesOn rows (leftOver cols row)) = false) : rowsG rows cols row = [] := by unfold rowsG; rw [h]; rfl
theorem rowsG_yes {rows cols row : List Int} (h : (rowFits cols row && goesOn rows (leftOver cols row)) = true) (done : List (List Int)) : (rowsG rows cols row).map (done ++ ·) = (rowsAll rows (leftOver cols row)).map ((done ++ [row]) ++ ·) := by
  unfold rowsG
  rw [h, if_pos rfl, List.map_map]
  exact List.map_congr_left fun m _ => by simp
theorem rowsG_len {rows cols row : List Int} (h : (rowFits cols row && goesOn rows (leftOver cols row)) = true) : (rowsG rows cols row).length = (rowsAll rows (leftOver cols row)).length := by
  unfold rowsG
  rw [h, if_pos rfl, List.length_map]
theorem leftOver_bd {cols row : List Int} (hl : row.length = cols.length) (hc5 : ∀ x ∈ cols, 0 ≤ x ∧ x ≤ 5) (hr1 : ∀ x ∈ row, 0 ≤ x ∧ x ≤ 1) (hf : rowFits cols row = true) : ∀ x ∈ leftOver cols row, 0 ≤ x ∧ x ≤ 5 := by
  intro x hx
  obtain ⟨j, hj, rfl⟩ := List.getElem_of_mem hx
  have hj' : j < cols.length := by rw [← leftOver_len hl]; exact hj
  have h1 := (rowFits_iff hl).1 hf j hj'
  have h2 := leftOver_at hl hj'
  rw [gD_some (List.getElem?_eq_getElem hj)] at h1 h2
  have h3 := hc5 cols[j] (List.getElem_mem hj')
  have h4 := hr1 row[j] (List.getElem_mem (by omega))
  rw [gD_some (List.getElem?_eq_getElem hj'), gD_some (List.getElem?_eq_getElem (by omega))] at h2
  omega
theorem small_5 {xs : List Int} (h : ∀ x ∈ xs, 0 ≤ x ∧ x ≤ 5) (hl : xs.length ≤ 5) : Small xs := ⟨by omega, fun x hx => by have := h x hx; omega⟩
end Go.Proofs.YtekgnpdchpdfiaaDoor

namespace Go.Proofs.YtekgnpdchpdfiaaDoor
open Go.RowKit

theorem imgs_len {xs ys : List Int} (h : sumsOk xs ys = true) : (allImgs xs ys).length ≤ 1073741824 := by
  obtain ⟨-, h2, -, h4, -⟩ := sumsOk_bd h
  refine Nat.le_trans (allImgs_len xs ys) ?_
  have h5 : xs.length * (ys.length + 1) ≤ 5 * 6 := Nat.mul_le_mul h2 (by omega)
  exact Nat.le_trans (Nat.pow_le_pow_right (by decide) h5) (by decide)
theorem imgsOf_ok {xs ys : List Int} (h : sumsOk xs ys = true) : imgsOf xs ys = allImgs xs ys := by unfold imgsOf; rw [h]; rfl
theorem imgsOf_no {xs ys : List Int} (h : sumsOk xs ys = false) : imgsOf xs ys = [] := by unfold imgsOf; rw [h]; rfl
theorem imgsOf_none {xs ys : List Int} (h : existsB xs ys = false) : imgsOf xs ys = [] := by
  cases hok : sumsOk xs ys
  · exact imgsOf_no hok
  · rw [imgsOf_ok hok]
    apply Classical.byContradiction
    intro hne
    rw [(existsB_imgs hok).2 hne] at h
    cases h
theorem imgsOf_some {xs ys : List Int} (h : existsB xs ys = true) : imgsOf xs ys ≠ [] := by
  have hok := existsB_ok h
  rw [imgsOf_ok hok]
  exact (existsB_imgs hok).1 h
theorem imgsOf_len (xs ys : List Int) : (imgsOf xs ys).length ≤ 1073741824 := by
  cases hok : sumsOk xs ys
  · rw [imgsOf_no hok]; simp
  · rw [imgsOf_ok hok]; exact imgs_len hok
theorem sumsOk_5 {xs ys : List Int} (h : sumsOk xs ys = true) : (∀ x ∈ xs, 0 ≤ x ∧ x ≤ 5) ∧ ∀ y ∈ ys, 0 ≤ y ∧ y ≤ 5 := by
  obtain ⟨a, b⟩ := sumsOk_all h
  obtain ⟨-, h2, -, h4, -⟩ := sumsOk_bd h
  constructor
  · intro x hx
    have := List.all_eq_true.1 a x hx
    rw [inR_iff] at this; omega
  · intro x hx
    have := List.all_eq_true.1 b x hx
    rw [inR_iff] at this; omega
end Go.Proofs.YtekgnpdchpdfiaaDoor

/- Contracts: RepairSums; bounds of the closest image. -/
import Derived.Test.YtekgnpdchpdfiaaC20
namespace Go.Proofs.Ytekgnpdchpdfiaa
open Go.RowKit

theorem closeImg_bd (rows cols : List Int) : (closeImg rows cols (closest rows cols)).length ≤ 5 ∧ cells (closeImg rows cols (closest rows cols)) ≤ 25 := by
  unfold closest
  split
  · rename_i h
    unfold closeOk at h
    rw [Bool.and_eq_true] at h
    obtain ⟨k1, k2, k3, k4, -, -⟩ := sumsFit_iff h.1
    generalize closeTo rows cols (2 ^ (rows.length * cols.length)) = x
    cases x with
    | none => simp [closeImg, cells]
    | some p =>
      obtain ⟨b, l⟩ := p
      have hs := imgOf_shape rows.length cols.length b
      refine ⟨by simp only [closeImg]; rw [hs.1]; omega, ?_⟩
      simp only [closeImg, cells]
      have h5 : ∀ x ∈ (imgOf rows.length cols.length b).map List.length, x ≤ 4 := by
        intro x hx
        obtain ⟨r, hr, rfl⟩ := List.mem_map.1 hx
        rw [(hs.2 r hr).1]; exact k4
      have := sum_le_of h5
      rw [List.length_map, hs.1] at this
      omega
  · simp [closeImg, cells]
theorem colSumsOf_len (m : List (List Int)) : (colSumsOf m).length ≤ 5 := rowSumsOf_len _

def repRows (rows cols : List Int) : List Int := rowSumsOf (closeImg rows cols (closest rows cols))
def repCols (rows cols : List Int) : List Int := colSumsOf (closeImg rows cols (closest rows cols))
theorem repRows_len (rows cols : List Int) : (repRows rows cols).length ≤ 5 := rowSumsOf_len _
theorem repCols_len (rows cols : List Int) : (repCols rows cols).length ≤ 5 := colSumsOf_len _
theorem RepairSums_i (v1 v2 : Value) (rows cols : List Int) (w : World) (h1 : Ints w v1 rows) (h2 : Ints w v2 cols) :
    Calls Try.prog 34 #[v1, v2] w fun e w' => ∃ (v1' v2' : Value) (M : Nat), w.heap.size ≤ M ∧ M ≤ w'.heap.size ∧ e = .returned (.tuple #[v1', v2', .bool (closest rows cols).isSome]) ∧ Own 3 IntV (Iv w.heap.size M) w' v1' (repRows rows cols) ∧ Own 3 IntV (Iv M w'.heap.size) w' v2' (repCols rows cols) ∧ Below w.heap.size w w' := by
  go_enter Try.func34, Try.ntmps34
  go_wp2_with (fail)
  refine (ClosestImage_i _ _ _ _ _ h1 h2).mono ?_
  rintro e w1 ⟨v1, rfl, ho, hbel⟩
  have hs1 := hbel.size
  cases hc : (closest rows cols).isSome
  · have hnone : closest rows cols = none := by cases h : closest rows cols with | none => rfl | some p => rw [h] at hc; simp at hc
    have Hl := Lib.hid (show repRows rows cols = [] from by unfold repRows; rw [hnone]; rfl)
    have Hl2 := Lib.hid (show repCols rows cols = [] from by unfold repCols; rw [hnone]; rfl)
    clear hnone ho
    go_wp2
    refine bodyPost_ret (v := .tuple #[.slice none 0 0, .slice none 0 0, .bool false]) (by simp [results, Try.results34, go_sem]) rfl ⟨_, _, w1.heap.size, hs1, Nat.le_refl _, by rw [hc], by rw [Hl.out]; exact Own.nil _ _ _ _, by rw [Hl2.out]; exact Own.nil _ _ _ _, hbel⟩
  · have Ho := Lib.hid ho
    clear ho
    go_wp2_with (fail)
    refine (RowSums_i _ _ _ Ho.out.grid).mono ?_
    rintro e w2 ⟨v2, rfl, o2, b2⟩
    have hs2 : w1.heap.size ≤ w2.heap.size := b2.size
    have Hg := Lib.hid (Ho.out.grid.keep b2)
    have bb2 := hbel.trans_pure b2 (Nat.le_refl _)
    have Ho2 := Lib.hid o2
    clear o2
    obtain ⟨p1, p2, p3, rfl⟩ := Ho2.out.shape
    go_wp2_with (fail)
    refine (ColSums_i _ _ _ Hg.out).mono ?_
    rintro e w3 ⟨v3, rfl, o3, b3⟩
    have hs3 : w2.heap.size ≤ w3.heap.size := b3.size
    have bb3 := bb2.trans_pure b3 (Nat.le_refl _)
    have Ho3 := Lib.hid o3
    clear o3
    obtain ⟨q1, q2, q3, rfl⟩ := Ho3.out.shape
    go_wp2
    refine bodyPost_ret (v := .tuple #[.slice p1 p2 p3, .slice q1 q2 q3, .bool true]) (by simp [results, Try.results34, go_sem]) rfl ⟨_, _, w2.heap.size, by omega, hs3, by rw [hc], ?_, Ho3.out, bb3⟩
    exact (rOwn rIntV).mono (fun b hb => ⟨by have := hb.1; omega, hb.2⟩) (Own.keep rIntV Ho2.out b3 (Nat.le_refl _))
end Go.Proofs.Ytekgnpdchpdfiaa

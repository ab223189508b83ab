/- Contracts: PuzzleOf. -/
import Derived.Test.YtekgnpdchpdfiaaC13
import Derived.Test.YtekgnpdchpdfiaaC15
import Derived.Test.YtekgnpdchpdfiaaC3
namespace Go.Proofs.Ytekgnpdchpdfiaa
open Go.RowKit

theorem sum_le_of5 {l : List Nat} {m : Nat} (h : ∀ x ∈ l, x ≤ m) : l.sum ≤ l.length * m := by
  induction l with
  | nil => simp
  | cons a l ih =>
    have h1 := h a (by simp)
    have h2 := ih (fun x hx => h x (by simp [hx]))
    simp only [List.sum_cons, List.length_cons, Nat.succ_mul]
    omega
theorem map_take_snoc' {α β : Type} (f : α → β) {m : List α} {k : Nat} {x : α} (h : m[k]? = some x) : (m.take (k + 1)).map f = (m.take k).map f ++ [f x] := by
  rw [List.take_add_one, h]; simp

set_option maxRecDepth 100000 in
set_option maxHeartbeats 400000 in
theorem runsOfAll_c (v : Value) (m : List (List Int)) (w : World) (hv : Grid w v m) (hm : m.length ≤ 1048576) (hr : ∀ x ∈ m, x.length ≤ 1048576) : Calls Try.prog 101 #[v] w (New 41 (Own 3 IntV) w (m.map runsOf)) := by
  have Hv := Lib.hid hv
  obtain ⟨a, cap0, rfl, -⟩ := hv
  go_enter Try.func101, Try.ntmps101
  go_wp2
  go_loopw [3, 5, 8] (fun v _ i wr => ∃ k : Nat, k ≤ m.length ∧ i = .int .i64 k ∧ Own 41 (Own 3 IntV) (Iv w.heap.size wr.heap.size) wr v ((m.take k).map runsOf) ∧ Below w.heap.size w wr) (fun _ _ i _ => m.length - (intOf i).toNat)
  case atStart => exact ⟨0, Nat.zero_le _, rfl, Own.nil _ _ _ _, Below.refl _ _⟩
  case round =>
    obtain ⟨k, hk, rfl, hown, hbel⟩ := hrel
    obtain ⟨wo, rfl⟩ : ∃ wo : World, wo = wr := ⟨_, rfl⟩
    have hBs := hbel.size
    by_cases hlt : k < m.length
    · obtain ⟨row, hrow⟩ : ∃ row, m[k]? = some row := ⟨_, List.getElem?_eq_getElem hlt⟩
      obtain ⟨b, off, cpr, he, hb, -⟩ := Hv.out.inv_ne (by omega)
      obtain ⟨rfl, -⟩ : a = some ⟨b, off, none⟩ ∧ cap0 = cpr := by simpa using he
      obtain ⟨u, hck, hu⟩ := Sl.at Hv.out hrow
      have hu : Ints w u row := hu
      obtain ⟨br, cpr, rfl, -⟩ := id hu
      rw [← hbel.cell (p := ⟨b, off + k, none⟩) hb] at hck
      have hrl := hr row (List.mem_of_getElem? hrow)
      have Hst := Lib.hid (map_take_snoc' runsOf hrow)
      have Hu := Lib.hid (hu.keep hbel)
      have hkl : ((m.take k).map runsOf).length < 1099511627776 := by simp; omega
      have Hown := Lib.hid hown
      clear hrow hu hown he
      go_wp2_with (fail)
      refine (RunsOf_i _ _ _ Hu.out hrl).mono ?_
      rintro e w1 ⟨v1, rfl, hown1, hbel1⟩
      have hs1 : wo.heap.size ≤ w1.heap.size := hbel1.size
      obtain ⟨p1, p2, p3, rfl⟩ := hown1.shape
      go_wp2_with (first | (at_builtin; (refine wpList_appR rfl _ _ 22 rfl (rOwn rIntV) 41 Try.underlying22 infoInts rfl (by decide) w.heap.size wo.heap.size hBs hs1 rfl rfl (by exact Own.keep (rOwn rIntV) Hown.out hbel1 (Nat.le_refl _)) (by exact hown1) hkl ?_); intro v2 w2 hown2 hbel2 _) | fail)
      have hb2 := (hbel.trans (hbel1.mono hBs)).trans hbel2
      have Hown2 := Lib.hid hown2
      clear hown2
      go_wp2
      go_roundw
      case rel => exact ⟨k + 1, by omega, by go_num, by rw [Hst.out]; exact Hown2.out, hb2⟩
      case measure => simp [intOf]; omega
    · have Hfin := Lib.hid (show (m.take k).map runsOf = m.map runsOf from by rw [List.take_of_length_le (by omega)])
      have Hown := Lib.hid hown
      clear hown
      go_wp2
      go_ret
      exact ⟨_, rfl, by rw [← Hfin.out]; exact Hown.out, hbel⟩
set_option maxRecDepth 100000 in
set_option maxHeartbeats 400000 in
theorem l14Runs_c (v : Value) (m : List (List Int)) (w : World) (hv : Grid w v m) (hm : m.length ≤ 1048576) (hr : ∀ x ∈ m, x.length ≤ 1048576) : Calls Try.prog 119 #[v] w (New 41 (Own 3 IntV) w (m.map runsOf)) := by
  have Hv := Lib.hid hv
  obtain ⟨a, cap0, rfl, -⟩ := hv
  go_enter Try.func119, Try.ntmps119
  go_wp2
  go_loopw [3, 5, 9] (fun v _ i wr => ∃ k : Nat, k ≤ m.length ∧ i = .int .i64 k ∧ Own 41 (Own 3 IntV) (Iv w.heap.size wr.heap.size) wr v ((m.take k).map runsOf) ∧ Below w.heap.size w wr) (fun _ _ i _ => m.length - (intOf i).toNat)
  case atStart => exact ⟨0, Nat.zero_le _, rfl, own_lit0 _ _ _ (rOwn rIntV), Below.pureAlloc _ _⟩
  case round =>
    obtain ⟨k, hk, rfl, hown, hbel⟩ := hrel
    obtain ⟨wo, rfl⟩ : ∃ wo : World, wo = wr := ⟨_, rfl⟩
    have hBs := hbel.size
    by_cases hlt : k < m.length
    · obtain ⟨row, hrow⟩ : ∃ row, m[k]? = some row := ⟨_, List.getElem?_eq_getElem hlt⟩
      obtain ⟨b, off, cpr, he, hb, -⟩ := Hv.out.inv_ne (by omega)
      obtain ⟨rfl, -⟩ : a = some ⟨b, off, none⟩ ∧ cap0 = cpr := by simpa using he
      obtain ⟨u, hck, hu⟩ := Sl.at Hv.out hrow
      have hu : Ints w u row := hu
      obtain ⟨br, cpr, rfl, -⟩ := id hu
      rw [← hbel.cell (p := ⟨b, off + k, none⟩) hb] at hck
      have hrl := hr row (List.mem_of_getElem? hrow)
      have Hst := Lib.hid (map_take_snoc' runsOf hrow)
      have Hu := Lib.hid (hu.keep hbel)
      have hkl : ((m.take k).map runsOf).length < 1099511627776 := by simp; omega
      have Hown := Lib.hid hown
      clear hrow hu hown he
      go_wp2_with (fail)
      refine (RunsOf_s _ _ _ Hu.out hrl).mono ?_
      rintro e w1 ⟨v1, rfl, hown1, hbel1⟩
      have hs1 : wo.heap.size ≤ w1.heap.size := hbel1.size
      obtain ⟨p1, p2, p3, rfl⟩ := hown1.shape
      go_wp2_with (first | (at_builtin; (refine wpList_appR rfl _ _ 22 rfl (rOwn rIntV) 41 Try.underlying22 infoInts rfl (by decide) w.heap.size wo.heap.size hBs hs1 rfl rfl (by exact Own.keep (rOwn rIntV) Hown.out hbel1 (Nat.le_refl _)) (by exact hown1) hkl ?_); intro v2 w2 hown2 hbel2 _) | fail)
      have hb2 := (hbel.trans (hbel1.mono hBs)).trans hbel2
      have Hown2 := Lib.hid hown2
      clear hown2
      go_wp2
      go_roundw
      case rel => exact ⟨k + 1, by omega, by go_num, by rw [Hst.out]; exact Hown2.out, hb2⟩
      case measure => simp [intOf]; omega
    · have Hfin := Lib.hid (show (m.take k).map runsOf = m.map runsOf from by rw [List.take_of_length_le (by omega)])
      have Hown := Lib.hid hown
      clear hown
      go_wp2
      go_ret
      exact ⟨_, rfl, by rw [← Hfin.out]; exact Hown.out, hbel⟩

def pzRows (m : List (List Int)) : List (List Int) := if imageOk m then m.map runsOf else []
def pzCols (m : List (List Int)) : List (List Int) := if imageOk m then (tr m).map runsOf else []
theorem map_runs_bd {m : List (List Int)} (h : imageOk m = true) : (m.map runsOf).length ≤ 5 ∧ cells (m.map runsOf) ≤ 25 := by
  obtain ⟨r, c, h1, h2, h3, h4, hs⟩ := imageOk_shape h
  refine ⟨by simp [hs.1, h2], ?_⟩
  unfold cells
  have h5 : ∀ x ∈ ((m.map runsOf).map List.length), x ≤ 5 := by
    intro x hx
    simp only [List.map_map, List.mem_map, Function.comp] at hx
    obtain ⟨r', hr, rfl⟩ := hx
    have := runsOf_len r'
    have := (hs.2 r' hr).1
    omega
  have := sum_le_of5 h5
  simp only [List.length_map, hs.1] at this
  omega
theorem pz_bd (m : List (List Int)) : (pzRows m).length ≤ 5 ∧ cells (pzRows m) ≤ 25 ∧ (pzCols m).length ≤ 5 ∧ cells (pzCols m) ≤ 25 := by
  unfold pzRows pzCols
  cases h : imageOk m
  · simp [cells]
  · have h1 := map_runs_bd h
    have h2 := map_runs_bd (imageOk_tr h)
    exact ⟨h1.1, h1.2, h2.1, h2.2⟩
end Go.Proofs.Ytekgnpdchpdfiaa

/- Contracts: sizes and copies of slices of slices. Contracts: images: ImageOk, RowSums, TransposeOf, ColSums. Contracts: images: RowSums, TransposeOf, ColSums, newGrid. Contracts: RowSums, ColSums. Contracts: puzzles: PuzzleOk. -/
import Derived.Test.YtningnjdafhgkaaDoorC1
import Derived.Test.YtningnjdafhgkaaDoorDraw2
import Derived.BigGuardPart
namespace Go.Proofs.YtningnjdafhgkaaDoor
open Go.RowKit

theorem set_copy' {α : Type} {xs : List α} {z : α} {k : Nat} {x : α} (h : xs[k]? = some x) : (xs.take k ++ List.replicate (xs.length - k) z).set k x = xs.take (k + 1) ++ List.replicate (xs.length - (k + 1)) z := by
  obtain ⟨hk, hx⟩ := List.getElem?_eq_some_iff.1 h
  obtain ⟨d, hd⟩ : ∃ d, xs.length - k = d + 1 := ⟨xs.length - k - 1, by omega⟩
  rw [hd, show xs.length - (k + 1) = d from by omega, List.set_append_right _ _ (by simp; omega), List.length_take, Nat.min_eq_left (Nat.le_of_lt hk), Nat.sub_self, List.replicate_succ, List.set_cons_zero, List.take_succ_eq_append_getElem hk, hx]
  simp

/-- what is left of a size -/
def leftOf (n : Nat) (left : Int) : Int := if (n : Int) ≤ left then left - n else -1
/-- how large a grid is -/
def bulk (g : List (List Int)) : Nat := g.length + cells g
end Go.Proofs.YtningnjdafhgkaaDoor

namespace Go.Proofs.YtningnjdafhgkaaDoor
open Go.RowKit

theorem headD_of {α : Type} {l : List (List α)} {h : List α} (hh : l[0]? = some h) : l.headD [] = h := by
  cases l with
  | nil => simp at hh
  | cons a l => simpa using hh

set_option maxHeartbeats 400000 in
theorem gridOk_c (v : Value) (g : List (List Int)) (lo hi : Int) (w : World) (hv : Grid w v g) : Calls Tryd.prog 29 #[v, .int .i64 lo, .int .i64 hi] w fun e w' => e = .returned (.bool (gridOkB lo hi g)) ∧ w = w' := by
  obtain ⟨a, cap, rfl, hcap, hle, -, hc⟩ := hv
  cases hin : inR 1 5 g.length
  · have Hr := Lib.hid (show gridOkB lo hi g = false from by simp [gridOkB, hin])
    go_enter Tryd.func29, Tryd.ntmps29
    go_wp2_with (first | (go_at_call 41; refine (within_c _ _ _ _).mono ?_; rintro e w' ⟨rfl, rfl⟩))
    go_ret
    exact ⟨retB Hr.out.symm, rfl⟩
  have hb := inR_iff.1 hin
  obtain ⟨b, off, rfl, -, hc'⟩ := hc (by omega)
  obtain ⟨hd, hhd⟩ : ∃ hd, g[0]? = some hd := ⟨_, List.getElem?_eq_getElem (by omega)⟩
  obtain ⟨u0, hck0, hu0⟩ := hc' 0 hd hhd
  obtain ⟨a0, cap0, rfl, -⟩ := hu0
  rw [Nat.add_zero] at hck0
  have Hhd := Lib.hid (headD_of hhd)
  have Hin := Lib.hid hin
  clear hhd hb
  go_enter Tryd.func29, Tryd.ntmps29
  go_wp2_with (first | (go_at_call 41; refine (within_c _ _ _ _).mono ?_; rintro e w' ⟨rfl, rfl⟩))
  clear hin
  go_loop [8, 15] (fun _ i => ∃ k : Nat, k ≤ g.length ∧ i = .int .i64 k ∧ (g.take k).all (rowOk lo hi hd.length) = true) (fun _ i => g.length - (intOf i).toNat)
  case atStart => exact ⟨0, Nat.zero_le _, rfl, rfl⟩
  case round =>
    obtain ⟨k, hk, rfl, hall⟩ := hrel
    have Hall := Lib.hid hall; clear hall
    by_cases hlt : k < g.length
    · obtain ⟨r, hr⟩ : ∃ r, g[k]? = some r := ⟨_, List.getElem?_eq_getElem hlt⟩
      obtain ⟨u, hck, hu⟩ := hc' k r hr
      have hu : Ints w u r := hu
      obtain ⟨ar, capr, rfl, -⟩ := id hu
      have Hs := Lib.hid (all_take_step (rowOk lo hi hd.length) hr)
      have Hr := Lib.hid hr
      clear hr hc' hc
      by_cases hl : r.length = hd.length
      · have hl1 : r.length ≤ hd.length := by omega
        have hl2 : hd.length ≤ r.length := by omega
        have Hl := Lib.hid hl
        rw [hl] at hck hu
        clear hl
        cases hin : inR 1 5 hd.length
        · have Hf := Lib.hid (show rowOk lo hi hd.length r = false from by unfold rowOk; rw [Hl.out, hin]; simp)
          have Hg := Lib.hid (show gridOkB lo hi g = false from by unfold gridOkB; rw [Hhd.out, all_of_take _ Hr.out Hf.out]; simp)
          go_wp2_with (first | (go_at_call 41; refine (within_c _ _ _ _).mono ?_; rintro e w' ⟨rfl, rfl⟩))
          go_ret
          exact ⟨retB Hg.out.symm, rfl⟩
        · cases hal : r.all (inR lo hi)
          · have Hf := Lib.hid (show rowOk lo hi hd.length r = false from by unfold rowOk; rw [hal]; simp)
            have Hg := Lib.hid (show gridOkB lo hi g = false from by unfold gridOkB; rw [Hhd.out, all_of_take _ Hr.out Hf.out]; simp)
            go_wp2_with (first | (go_at_call 41; refine (within_c _ _ _ _).mono ?_; rintro e w' ⟨rfl, rfl⟩) | (go_at_call 42; refine (allWithin_c _ _ _ _ _ hu).mono ?_; rintro e w' ⟨rfl, rfl⟩))
            go_ret
            exact ⟨retB Hg.out.symm, rfl⟩
          · have Hf := Lib.hid (show rowOk lo hi hd.length r = true from by unfold rowOk; rw [hal, Hl.out, hin]; simp)
            go_wp2_with (first | (go_at_call 41; refine (within_c _ _ _ _).mono ?_; rintro e w' ⟨rfl, rfl⟩) | (go_at_call 42; refine (allWithin_c _ _ _ _ _ hu).mono ?_; rintro e w' ⟨rfl, rfl⟩))
            go_round
            case rel => exact ⟨k + 1, by omega, by go_num, by rw [Hs.out, Hall.out, Hf.out]; rfl⟩
            case measure => simp [intOf]; omega
      · have Hf := Lib.hid (show rowOk lo hi hd.length r = false from by unfold rowOk; simp [hl])
        have Hg := Lib.hid (show gridOkB lo hi g = false from by unfold gridOkB; rw [Hhd.out, all_of_take _ Hr.out Hf.out]; simp)
        have hne : ((r.length : Int) == (hd.length : Int)) = false := by rw [beq_eq_false_iff_ne]; omega
        go_wp2_with (first | (go_at_call 41; refine (within_c _ _ _ _).mono ?_; rintro e w' ⟨rfl, rfl⟩) | (go_at_call 42; refine (allWithin_c _ _ _ _ _ hu).mono ?_; rintro e w' ⟨rfl, rfl⟩))
        all_goals try (exfalso; omega)
        go_ret
        exact ⟨retB Hg.out.symm, rfl⟩
    · have Hg := Lib.hid (show gridOkB lo hi g = true from by unfold gridOkB; rw [Hhd.out, Hin.out, all_done Hall.out (by omega)]; rfl)
      go_wp2
      go_ret
      exact ⟨retB Hg.out.symm, rfl⟩
theorem ImageOk_i (v : Value) (g : List (List Int)) (w : World) (hv : Grid w v g) : Calls Tryd.prog 15 #[v] w fun e w' => e = .returned (.bool (imageOk g)) ∧ w = w' := by
  go_enter Tryd.func15, Tryd.ntmps15
  go_wp2_with (fail)
  refine (gridOk_c _ _ _ _ _ hv).mono ?_
  rintro e w' ⟨rfl, rfl⟩
  go_wp2
  go_ret
  exact ⟨rfl, rfl⟩

end Go.Proofs.YtningnjdafhgkaaDoor

namespace Go.Proofs.YtningnjdafhgkaaDoor
open Go.RowKit

/-- rows and columns exchanged, so far as the first y rows and x cells of the next one go -/
def trTo (m : List (List Int)) (r c y x : Nat) : List (List Int) := (List.range c).map fun j => (List.range r).map fun i => if i < y ∨ (i = y ∧ j < x) then (m.getD i []).getD j 0 else 0
def tr (m : List (List Int)) : List (List Int) := (List.range (m.headD []).length).map fun j => (List.range m.length).map fun i => (m.getD i []).getD j 0
def trOf (m : List (List Int)) : List (List Int) := if imageOk m then tr m else []
def rowSumsOf (m : List (List Int)) : List Int := if imageOk m then m.map sumL else []
def colSumsOf (m : List (List Int)) : List Int := rowSumsOf (trOf m)

theorem trTo_zero (m : List (List Int)) (r c : Nat) : trTo m r c 0 0 = zeros c r := by
  simp [trTo, zeros, List.map_const']
theorem trTo_next (m : List (List Int)) (r c y : Nat) : trTo m r c y c = trTo m r c (y + 1) 0 := by
  unfold trTo
  apply List.map_congr_left
  intro j hj
  apply List.map_congr_left
  intro i _
  rw [List.mem_range] at hj
  have : (i < y ∨ i = y ∧ j < c) ↔ (i < y + 1 ∨ i = y + 1 ∧ j < 0) := by omega
  simp only [this]
theorem trTo_all (m : List (List Int)) (r c : Nat) (hr : m.length = r) (hc : (m.headD []).length = c) : trTo m r c r 0 = tr m := by
  unfold trTo tr
  rw [hr, hc]
  apply List.map_congr_left
  intro j _
  apply List.map_congr_left
  intro i hi
  rw [List.mem_range] at hi
  rw [if_pos (.inl hi)]
theorem trTo_row {m : List (List Int)} {r c y x : Nat} (hx : x < c) : (trTo m r c y x)[x]? = some ((List.range r).map fun i => if i < y ∨ (i = y ∧ x < x) then (m.getD i []).getD x 0 else 0) := by
  simp [trTo, hx]
theorem trTo_set {m : List (List Int)} {r c y x : Nat} {row : List Int} {z : Int} {q : List Int} (hx : x < c) (hy : y < r) (hrow : m[y]? = some row) (hz : row[x]? = some z) (hq : (trTo m r c y x)[x]? = some q) : (trTo m r c y x).set x (q.set y z) = trTo m r c y (x + 1) := by
  rw [trTo_row hx] at hq
  obtain rfl := Option.some.inj hq
  apply List.ext_getElem?
  intro j
  rw [List.getElem?_set]
  by_cases hj : x = j
  · subst hj
    simp only [if_true]
    have hl : x < (trTo m r c y x).length := by simp [trTo, hx]
    rw [if_pos hl]
    simp only [trTo, List.getElem?_map, List.getElem?_range hx, Option.map_some]
    congr 1
    apply List.ext_getElem?
    intro i
    rw [List.getElem?_set]
    by_cases hi : y = i
    · subst hi
      simp [hy, hrow, hz, List.getD]
    · rw [if_neg hi]
      by_cases hir : i < r
      · simp only [List.getElem?_map, List.getElem?_range hir, Option.map_some]
        have : (i < y ∨ i = y ∧ x < x) ↔ (i < y ∨ i = y ∧ x < x + 1) := by omega
        simp only [this]
      · rw [List.getElem?_eq_none (by simpa using hir), List.getElem?_eq_none (by simpa using hir)]
  · rw [if_neg hj]
    by_cases hjc : j < c
    · simp only [trTo, List.getElem?_map, List.getElem?_range hjc, Option.map_some]
      congr 1
      apply List.map_congr_left
      intro i _
      have : (i < y ∨ i = y ∧ j < x) ↔ (i < y ∨ i = y ∧ j < x + 1) := by omega
      simp only [this]
    · rw [List.getElem?_eq_none (by simpa [trTo] using hjc), List.getElem?_eq_none (by simpa [trTo] using hjc)]
theorem trTo_len (m : List (List Int)) (r c y x : Nat) : (trTo m r c y x).length = c := by simp [trTo]
theorem Shape.head {r c : Nat} {m : List (List Int)} (h : Shape r c m) (h1 : 1 ≤ r) : (m.headD []).length = c := by
  obtain ⟨row, hr, hl, -⟩ := h.row (y := 0) (by omega)
  rw [headD_of hr, hl]
theorem Shape.tr {r c : Nat} {m : List (List Int)} (h : Shape r c m) (h1 : 1 ≤ r) : Shape c r (tr m) := by
  refine ⟨by simp only [Go.Proofs.YtningnjdafhgkaaDoor.tr, h.head h1, List.length_map, List.length_range], fun row hrow => ?_⟩
  simp only [Go.Proofs.YtningnjdafhgkaaDoor.tr, List.mem_map, List.mem_range] at hrow
  obtain ⟨j, _, rfl⟩ := hrow
  refine ⟨by simp [h.1], fun z hz => ?_⟩
  simp only [List.mem_map, List.mem_range] at hz
  obtain ⟨i, hi, rfl⟩ := hz
  obtain ⟨row, hrow, -, hb⟩ := h.row (y := i) (by rw [← h.1]; exact hi)
  simp only [List.getD, hrow, Option.getD_some]
  cases hzz : row[j]? with
  | none => simp
  | some z => simpa using hb z (List.mem_of_getElem? hzz)
theorem imageOk_tr {m : List (List Int)} (h : imageOk m = true) : imageOk (tr m) = true := by
  obtain ⟨r, c, h1, h2, h3, h4, hs⟩ := imageOk_shape h
  exact (hs.tr h1).ok h3 h4 h1 h2
theorem tr_at {m : List (List Int)} {r c : Nat} (h : Shape r c m) (h1 : 1 ≤ r) {j : Nat} (hj : j < c) : (tr m)[j]? = some ((List.range r).map fun i => (m.getD i []).getD j 0) := by
  simp only [tr, h.head h1, h.1]
  simp [hj]
theorem Shape.ext {r c : Nat} {a b : List (List Int)} (ha : Shape r c a) (hb : Shape r c b) (h : ∀ y x, y < r → x < c → (a.getD y []).getD x 0 = (b.getD y []).getD x 0) : a = b := by
  apply List.ext_getElem?
  intro y
  by_cases hy : y < r
  · obtain ⟨p, hp, hpl, -⟩ := ha.row hy
    obtain ⟨q, hq, hql, -⟩ := hb.row hy
    rw [hp, hq]
    congr 1
    apply List.ext_getElem?
    intro x
    by_cases hx : x < c
    · have := h y x hy hx
      simp only [List.getD, hp, hq, Option.getD_some] at this
      rw [List.getElem?_eq_getElem (by omega), List.getElem?_eq_getElem (by omega)] at this ⊢
      simpa using this
    · rw [List.getElem?_eq_none (by omega), List.getElem?_eq_none (by omega)]
  · rw [List.getElem?_eq_none (by rw [ha.1]; omega), List.getElem?_eq_none (by rw [hb.1]; omega)]
theorem tr_cell {m : List (List Int)} {r c : Nat} (h : Shape r c m) (h1 : 1 ≤ r) {j i : Nat} (hj : j < c) (hi : i < r) : ((tr m).getD j []).getD i 0 = (m.getD i []).getD j 0 := by
  simp only [List.getD, tr_at h h1 hj, Option.getD_some]
  simp [hi]
theorem tr_tr {m : List (List Int)} {r c : Nat} (h : Shape r c m) (h1 : 1 ≤ r) (h2 : 1 ≤ c) : tr (tr m) = m := by
  refine ((h.tr h1).tr h2).ext h fun y x hy hx => ?_
  rw [tr_cell (h.tr h1) h2 hy hx, tr_cell h h1 hx hy]
theorem rowSumsOf_len (m : List (List Int)) : (rowSumsOf m).length ≤ 5 := by
  unfold rowSumsOf
  split
  · rename_i h
    obtain ⟨r, c, -, h2, -, -, hs⟩ := imageOk_shape h
    simp [hs.1, h2]
  · simp
theorem Shape.small {r c : Nat} {m : List (List Int)} (h : Shape r c m) (hc : c ≤ 5) {row : List Int} (hr : row ∈ m) : Small row := by
  obtain ⟨e, hb⟩ := h.2 row hr
  exact ⟨by omega, fun x hx => by have := hb x hx; omega⟩
theorem Shape.sum_bd {r c : Nat} {m : List (List Int)} (h : Shape r c m) {row : List Int} (hr : row ∈ m) : ∀ k, k ≤ row.length → 0 ≤ sumL (row.take k) ∧ sumL (row.take k) ≤ k := by
  obtain ⟨e, hb⟩ := h.2 row hr
  intro k
  induction k with
  | zero => intro _; simp [sumL]
  | succ k ih =>
    intro hk
    have h1 := ih (by omega)
    rw [sumL_take (List.getElem?_eq_getElem (show k < row.length by omega))]
    have := hb _ (List.getElem_mem (show k < row.length by omega))
    omega
theorem Shape.sum_bd' {r c : Nat} {m : List (List Int)} (h : Shape r c m) {row : List Int} (hr : row ∈ m) : 0 ≤ sumL row ∧ sumL row ≤ row.length := by
  have := h.sum_bd hr row.length (Nat.le_refl _)
  rwa [sumL_done (Nat.le_refl _)] at this


end Go.Proofs.YtningnjdafhgkaaDoor

namespace Go.Proofs.YtningnjdafhgkaaDoor
open Go.RowKit

theorem map_take_snoc {m : List (List Int)} {k : Nat} {row : List Int} (h : m[k]? = some row) : (m.take (k + 1)).map sumL = (m.take k).map sumL ++ [sumL row] := by
  rw [List.take_add_one, h]; simp
theorem rowSums_done {m : List (List Int)} {k : Nat} (h : imageOk m = true) (hk : m.length ≤ k) : (m.take k).map sumL = rowSumsOf m := by
  rw [List.take_of_length_le hk, rowSumsOf, if_pos h]

set_option maxHeartbeats 400000 in
theorem RowSums_i (v : Value) (m : List (List Int)) (w : World) (hv : Grid w v m) : Calls Tryd.prog 11 #[v] w (New 3 IntV w (rowSumsOf m)) := by
  have Hv := Lib.hid hv
  obtain ⟨a, cap0, rfl, hcap, hle, -, hc⟩ := hv
  cases hok : imageOk m
  · have Hr := Lib.hid (show rowSumsOf m = [] from by simp [rowSumsOf, hok])
    have Hok := Lib.hid hok; clear hok
    go_enter Tryd.func11, Tryd.ntmps11
    go_wp2_with (fail)
    refine (ImageOk_i _ _ _ Hv.out).mono ?_
    rintro e w' ⟨rfl, rfl⟩
    rw [Hok.out]
    go_wp2
    go_ret
    exact ⟨_, rfl, by rw [Hr.out]; exact Own.nil _ _ _ _, Below.refl _ _⟩
  obtain ⟨r, c, hr1, hr5, hc1, hc5, hsh⟩ := imageOk_shape hok
  have hml : m.length ≤ 5 := by have := hsh.1; omega
  have hml1 : 1 ≤ m.length := by have := hsh.1; omega
  obtain ⟨b, off, rfl, hb, hc'⟩ := hc (by omega)
  have Hok := Lib.hid hok
  clear hc hc' hok
  go_enter Tryd.func11, Tryd.ntmps11
  go_wp2_with (fail)
  refine (ImageOk_i _ _ _ Hv.out).mono ?_
  rintro e w' ⟨rfl, rfl⟩
  rw [Hok.out]
  go_wp2
  go_loopw [3, 5, 11] (fun v _ i wr => ∃ k : Nat, k ≤ m.length ∧ i = .int .i64 k ∧ Own 3 IntV (Iv w.heap.size wr.heap.size) wr v ((m.take k).map sumL) ∧ Below w.heap.size w wr) (fun _ _ i _ => m.length - (intOf i).toNat)
  case atStart => exact ⟨0, Nat.zero_le _, rfl, Own.nil _ _ _ _, Below.refl _ _⟩
  case round =>
    obtain ⟨k, hk, rfl, hown, hbel⟩ := hrel
    have hBs := hbel.size
    by_cases hlt : k < m.length
    · obtain ⟨row, hrow⟩ : ∃ row, m[k]? = some row := ⟨_, List.getElem?_eq_getElem hlt⟩
      obtain ⟨u, hck, hu⟩ := Sl.at Hv.out hrow
      have hu : Ints w u row := hu
      obtain ⟨br, cpr, rfl, -⟩ := id hu
      rw [← hbel.cell (p := ⟨b, off + k, none⟩) hb] at hck
      have hsm := hsh.small hc5 (List.mem_of_getElem? hrow)
      have hbd := hsh.sum_bd' (List.mem_of_getElem? hrow)
      have hrl := (hsh.2 row (List.mem_of_getElem? hrow)).1
      have hs0 : 0 ≤ sumL row := hbd.1
      have hs1 : sumL row ≤ 5 := by omega
      have Hst := Lib.hid (map_take_snoc hrow)
      have Hu := Lib.hid (hu.keep hbel)
      have hkl : ((m.take k).map sumL).length < 1099511627776 := by simp; omega
      have Hown := Lib.hid hown
      clear hrow hu hown hrl hbd
      go_wp2_with (first | (go_at_call 25; refine (sumOf_c _ _ _ Hu.out hsm).mono ?_; rintro e w' ⟨rfl, rfl⟩) | (at_builtin; (refine wpList_appR rfl _ _ 22 rfl rIntV 3 Tryd.underlying22 infoInt rfl (by decide) w.heap.size wr.heap.size hBs (Nat.le_refl _) rfl rfl (by exact Hown.out) (by exact ⟨rfl, I64.small (by omega) (by omega)⟩) hkl ?_); intro v2 w2 hown2 hbel2 _) | fail)
      have Hown2 := Lib.hid hown2
      clear hown2
      go_wp2
      go_roundw
      case rel => exact ⟨k + 1, by omega, by go_num, by rw [Hst.out]; exact Hown2.out, hbel.trans hbel2⟩
      case measure => simp [intOf]; omega
    · have Hfin := Lib.hid (rowSums_done Hok.out (show m.length ≤ k by omega))
      have Hown := Lib.hid hown
      clear hown
      go_wp2
      go_ret
      exact ⟨_, rfl, by rw [← Hfin.out]; exact Hown.out, hbel⟩


end Go.Proofs.YtningnjdafhgkaaDoor

namespace Go.Proofs.YtningnjdafhgkaaDoor
open Go.RowKit

def fits (n : Int) (runs : List Int) : Bool := runs.all (inR 1 5) && decide (sumL runs + runs.length - 1 ≤ n)
def puzzleOk (rows cols : List (List Int)) : Bool := inR 1 5 rows.length && inR 1 5 cols.length && rows.all (fits cols.length) && cols.all (fits rows.length)

theorem sum_ge_len {xs : List Int} (h : xs.all (inR 1 5) = true) : ∀ k, k ≤ xs.length → (k : Int) ≤ sumL (xs.take k) ∧ sumL (xs.take k) ≤ 5 * k := by
  rw [List.all_eq_true] at h
  intro k
  induction k with
  | zero => intro _; simp [sumL]
  | succ k ih =>
    intro hk
    have h1 := ih (by omega)
    rw [sumL_take (List.getElem?_eq_getElem (show k < xs.length by omega))]
    have := inR_iff.1 (h _ (List.getElem_mem (show k < xs.length by omega)))
    omega



end Go.Proofs.YtningnjdafhgkaaDoor

/- Contracts: slices.Index, IntervalOf, IsHConvex, IsVConvex. FnIntervals: what holds of each row, by looking at all rows. Contracts: IntervalOf, IsHConvex, IsVConvex. Contracts: IsHConvex, IsVConvex. -/
import Derived.Test.YtlmjpmdkifoekaaDoorC12
import Derived.Test.YtlmjpmdkifoekaaDoorC22
namespace Go.Proofs.YtlmjpmdkifoekaaDoor
open Go.RowKit

/-- where v first stands -/
def idxFrom (v : Int) : List Int → Nat → Int
  | [], _ => -1
  | a :: l, k => if v = a then (k : Int) else idxFrom v l (k + 1)
def idx (v : Int) (l : List Int) : Int := idxFrom v l 0
theorem idxFrom_step {v : Int} {l : List Int} {k : Nat} {x : Int} (h : l[k]? = some x) : idxFrom v (l.drop k) k = if v = x then (k : Int) else idxFrom v (l.drop (k + 1)) (k + 1) := by
  obtain ⟨h1, rfl⟩ := List.getElem?_eq_some_iff.1 h
  rw [List.drop_eq_getElem_cons h1]
  rfl
def firstOf (row : List Int) : Int := max 0 (idx 1 row)
def spanOf (row : List Int) : List Int := (row.drop (firstOf row).toNat).take (sumL row).toNat
def interOk (row : List Int) : Bool := row.all (inR 0 1) && decide (sumL (spanOf row) = sumL row)

theorem Index_c (v : Value) (xs : List Int) (n : Int) (w : World) (hv : Ints w v xs) : Calls Tryd.prog 99 #[v, .int .i64 n] w fun e w' => e = .returned (.int .i64 (idx n xs)) ∧ w = w' := by
  have Hv := Lib.hid hv
  obtain ⟨a, cap, rfl, -, hle, -⟩ := hv
  go_enter Tryd.func99, Tryd.ntmps99
  go_wp2
  go_loop [5, 8] (fun _ i => ∃ k : Nat, k ≤ xs.length ∧ i = .int .i64 k ∧ idxFrom n (xs.drop k) k = idx n xs) (fun _ i => xs.length - (intOf i).toNat)
  case atStart => exact ⟨0, Nat.zero_le _, rfl, rfl⟩
  case round =>
    obtain ⟨k, hk, rfl, hi⟩ := hrel
    have Hi := Lib.hid hi
    clear hi
    by_cases hlt : k < xs.length
    · obtain ⟨x, hx⟩ : ∃ x, xs[k]? = some x := ⟨_, List.getElem?_eq_getElem hlt⟩
      obtain ⟨b, off, cpr, he, hb, -⟩ := Hv.out.inv_ne (by omega)
      obtain ⟨rfl, -⟩ : a = some ⟨b, off, none⟩ ∧ cap = cpr := by simpa using he
      have hcx := Ints.at Hv.out hx
      have Hst := Lib.hid (idxFrom_step (v := n) hx)
      clear hx he
      by_cases hnx : n = x
      · subst hnx
        have Hr := Lib.hid (show idx n xs = k from by rw [← Hi.out, Hst.out, if_pos rfl])
        go_wp2
        go_ret
        exact ⟨retI Hr.out.symm, rfl⟩
      · have hne : (n == x) = false := by simpa using hnx
        have Hr := Lib.hid (show idxFrom n (xs.drop (k + 1)) (k + 1) = idx n xs from by rw [← Hi.out, Hst.out, if_neg hnx])
        go_wp2
        go_round
        case rel => exact ⟨k + 1, by omega, by go_num, Hr.out⟩
        case measure => simp [intOf]; omega
    · have Hr := Lib.hid (show idx n xs = -1 from by rw [← Hi.out, List.drop_of_length_le (by omega)]; rfl)
      go_wp2
      go_ret
      exact ⟨retI Hr.out.symm, rfl⟩
end Go.Proofs.YtlmjpmdkifoekaaDoor

namespace Go.Proofs.YtlmjpmdkifoekaaDoor

def rowFacts (row : List Int) : Bool :=
  decide (0 ≤ firstOf row) && decide (firstOf row + sumL row ≤ row.length) && decide (0 ≤ sumL row) && (interOk row == decide ((runsOf row).length ≤ 1)) &&
    (!interOk row || decide (sumL row = sumL (runsOf row))) && (!interOk row || decide (sumL row ≤ 0) || (decide (firstOf row < row.length) && decide (row.getD (firstOf row).toNat 0 = 1))) &&
    (decide (row.length = 0) || decide (firstOf row < row.length))
theorem all_rows : ((List.range 6).all fun n => (List.range (2 ^ n)).all fun key => rowFacts (bitsLine n key)) = true := by decide +kernel
theorem row_facts {row : List Int} (hl : row.length ≤ 5) (hb : ∀ x ∈ row, 0 ≤ x ∧ x ≤ 1) : rowFacts row = true := by
  obtain ⟨h1, h2⟩ := line_key row hb
  have h := all_rows
  rw [List.all_eq_true] at h
  have h3 := h row.length (List.mem_range.2 (by omega))
  rw [List.all_eq_true] at h3
  have h4 := h3 (keyOfLine row) (List.mem_range.2 h1)
  rwa [h2] at h4
end Go.Proofs.YtlmjpmdkifoekaaDoor

set_option linter.unusedSimpArgs false
namespace Go.Proofs.YtlmjpmdkifoekaaDoor
open Go.RowKit

theorem sub_ints {w : World} {b off n c : Nat} {l : List Int} (h : Ints w (.slice (some ⟨b, off, none⟩) n c) l) {i k : Nat} (hik : i + k ≤ l.length) (cap : Nat) (hc : k ≤ cap) (hb : b < w.heap.size) : Ints w (.slice (some ⟨b, off + i, none⟩) k cap) ((l.drop i).take k) := by
  have hl : ((l.drop i).take k).length = k := by simp; omega
  refine ⟨some ⟨b, off + i, none⟩, cap, by rw [hl], by rw [hl]; exact hc, by rw [hl]; obtain ⟨a', cap', he, h1, h2, -⟩ := h; omega, fun h => by simp at h, fun _ => ⟨b, off + i, rfl, hb, fun j x hx => ?_⟩⟩
  have hj := (List.getElem?_eq_some_iff.1 hx).1
  rw [hl] at hj
  rw [List.getElem?_take, if_pos hj, List.getElem?_drop] at hx
  obtain ⟨u, hu, hr⟩ := Sl.at h hx
  exact ⟨u, by rw [Nat.add_assoc]; exact hu, hr⟩

def interRes (row : List Int) : Value := .tuple #[.int .i64 (if interOk row then firstOf row else 0), .int .i64 (if interOk row then sumL row else 0), .bool (interOk row)]
end Go.Proofs.YtlmjpmdkifoekaaDoor

namespace Go.Proofs.YtlmjpmdkifoekaaDoor
open Go.RowKit

def hConvex (m : List (List Int)) : Bool := imageOk m && m.all interOk
end Go.Proofs.YtlmjpmdkifoekaaDoor

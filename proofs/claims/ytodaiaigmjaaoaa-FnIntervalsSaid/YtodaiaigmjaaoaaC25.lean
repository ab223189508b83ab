/- Contracts: slices.Index, IntervalOf, IsHConvex, IsVConvex. -/
import Derived.Test.YtodaiaigmjaaoaaC13
namespace Go.Proofs.Ytodaiaigmjaaoaa
open Go.RowKit

/-- where v first stands -/
def idxFrom (v : Int) : List Int → Nat → Int
  | [], _ => -1
  | a :: l, k => if v = a then (k : Int) else idxFrom v l (k + 1)
def idx (v : Int) (l : List Int) : Int := idxFrom v l 0
theorem idxFrom_step {v : Int} {l : List Int} {k : Nat} {x : Int} (h : l[k]? = some x) : idxFrom v (l.drop k) k = if v = x then (k : Int) else idxFrom v (l.drop (k + 1)) (k + 1) := by
  obtain ⟨h1, rfl⟩ := List.getElem?_eq_some_iff.1 h
  rw [List.drop_eq_getElem_cons h1]
  rfl
def firstOf (row : List Int) : Int := max 0 (idx 1 row)
def spanOf (row : List Int) : List Int := (row.drop (firstOf row).toNat).take (sumL row).toNat
def interOk (row : List Int) : Bool := row.all (inR 0 1) && decide (sumL (spanOf row) = sumL row)

theorem Index_c (v : Value) (xs : List Int) (n : Int) (w : World) (hv : Ints w v xs) : Calls Try.prog 83 #[v, .int .i64 n] w fun e w' => e = .returned (.int .i64 (idx n xs)) ∧ w = w' := by
  have Hv := Lib.hid hv
  obtain ⟨a, cap, rfl, -, hle, -⟩ := hv
  go_enter Try.func83, Try.ntmps83
  go_wp2
  go_loop [5, 8] (fun _ i => ∃ k : Nat, k ≤ xs.length ∧ i = .int .i64 k ∧ idxFrom n (xs.drop k) k = idx n xs) (fun _ i => xs.length - (intOf i).toNat)
  case atStart => exact ⟨0, Nat.zero_le _, rfl, rfl⟩
  case round =>
    obtain ⟨k, hk, rfl, hi⟩ := hrel
    have Hi := Lib.hid hi
    clear hi
    by_cases hlt : k < xs.length
    · obtain ⟨x, hx⟩ : ∃ x, xs[k]? = some x := ⟨_, List.getElem?_eq_getElem hlt⟩
      obtain ⟨b, off, cpr, he, hb, -⟩ := Hv.out.inv_ne (by omega)
      obtain ⟨rfl, -⟩ : a = some ⟨b, off, none⟩ ∧ cap = cpr := by simpa using he
      have hcx := Ints.at Hv.out hx
      have Hst := Lib.hid (idxFrom_step (v := n) hx)
      clear hx he
      by_cases hnx : n = x
      · subst hnx
        have Hr := Lib.hid (show idx n xs = k from by rw [← Hi.out, Hst.out, if_pos rfl])
        go_wp2
        go_ret
        exact ⟨retI Hr.out.symm, rfl⟩
      · have hne : (n == x) = false := by simpa using hnx
        have Hr := Lib.hid (show idxFrom n (xs.drop (k + 1)) (k + 1) = idx n xs from by rw [← Hi.out, Hst.out, if_neg hnx])
        go_wp2
        go_round
        case rel => exact ⟨k + 1, by omega, by go_num, Hr.out⟩
        case measure => simp [intOf]; omega
    · have Hr := Lib.hid (show idx n xs = -1 from by rw [← Hi.out, List.drop_of_length_le (by omega)]; rfl)
      go_wp2
      go_ret
      exact ⟨retI Hr.out.symm, rfl⟩
end Go.Proofs.Ytodaiaigmjaaoaa

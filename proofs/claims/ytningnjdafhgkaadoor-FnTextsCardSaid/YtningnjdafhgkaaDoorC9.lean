/- Contracts: slices.Equal, LinesFor, SolveLine. Contract: SolveLine. Contracts: the reference's lines: l13Image, l02Same, LinesFor, l14Agrees, SolveLine. Contracts: the reference's SolveLine. Contracts: two grids are alike. Contracts: two grids are the same. -/
import Derived.Test.YtningnjdafhgkaaDoorC1
import Derived.Test.YtningnjdafhgkaaDoorDraw2
import Derived.Lib.SliceRun
import Derived.Test.YtningnjdafhgkaaDoorC12
import Derived.Test.YtningnjdafhgkaaDoorMem
import Derived.RegionTactic
import Derived.BigRegion
import Derived.Laws.EntriesVeiled
namespace Go.Proofs.YtningnjdafhgkaaDoor
open Go.RowKit


theorem pow_wrap {n : Nat} (h : n ≤ 5) : wrap64 ((2 : Int) ^ n) = ((2 ^ n : Nat) : Int) := by
  exact match n, h with
  | 0, _ => by unfold wrap64; decide
  | 1, _ => by unfold wrap64; decide
  | 2, _ => by unfold wrap64; decide
  | 3, _ => by unfold wrap64; decide
  | 4, _ => by unfold wrap64; decide
  | 5, _ => by unfold wrap64; decide
theorem bit_at (k m : Nat) : bits .and .i64 ((k : Int) / 2 ^ m) 1 = ((k / 2 ^ m % 2 : Nat) : Int) := by
  rw [i64_and1]; push_cast; rfl
theorem pow_le32 {n : Nat} (h : n ≤ 5) : 2 ^ n ≤ 32 := Nat.pow_le_pow_right (n := 2) (by decide) h

end Go.Proofs.YtningnjdafhgkaaDoor

namespace Go.Proofs.YtningnjdafhgkaaDoor
open Go.RowKit

/-- what SolveLine returns: a new line and true, or nil and false -/
def SolveRes (w : World) (r : Option (List Int)) (e : Ending) (w' : World) : Prop :=
  Below w.heap.size w w' ∧ match r with
  | none => e = .returned (.tuple #[.slice none 0 0, .bool false])
  | some o => ∃ v', e = .returned (.tuple #[v', .bool true]) ∧ Own 3 IntV (Iv w.heap.size w'.heap.size) w' v' o

theorem Own.set_self {α : Type} {E : TypeId} {R : RepT α} {S : Bk} {w : World} {v : Value} {xs : List α} {k : Nat} {x : α} (h : Own E R S w v xs) (hk : xs[k]? = some x) : Own E R S w v (xs.set k x) := by
  obtain ⟨h1, h2⟩ := List.getElem?_eq_some_iff.1 hk
  have : xs.set k x = xs := by rw [← h2]; exact List.set_getElem_self h1
  rwa [this]

/-- where the state of the search lies -/
def SolveAt (S : Bk) (L : List (List Int)) (g cap : Nat) (wr : World) (v6 : Value) (acc : Option (List Int)) (k : Nat) : Prop :=
  match acc with
  | none => v6 = .slice none 0 0 ∧ Own 22 (Own 3 IntV) S wr (.slice (some ⟨g, 0, none⟩) L.length cap) L
  | some o => ∃ k0, k0 < k ∧ Own 22 (Own 3 IntV) S wr (.slice (some ⟨g, 0, none⟩) L.length cap) (L.set k0 o) ∧ wr.cell? ⟨g, k0, none⟩ = some v6

end Go.Proofs.YtningnjdafhgkaaDoor

namespace Go.Proofs.YtningnjdafhgkaaDoor
open Go.RowKit

/-- the cell (y, x) of an owned grid, with its value's bounds forgotten -/
theorem Shape.cell {r c : Nat} {m : List (List Int)} (h : Shape r c m) {y : Nat} (hy : y < r) : ∃ row, m[y]? = some row ∧ row.length = c := by
  obtain ⟨row, h1, h2, _⟩ := h.row hy
  exact ⟨row, h1, h2⟩


theorem same_q (v v2 : Value) (xs ys : List Int) (w : World) (hv : Ints w v xs) (hv2 : Ints w v2 ys) : Calls Tryd.prog 17 #[v, v2] w fun e w' => e = .returned (.bool (decide (xs = ys))) ∧ ∃ n, w' = w.drewN n := by
  obtain ⟨a, cap, rfl, hcap, hle, -, hc⟩ := hv
  obtain ⟨a2, cap2, rfl, hcap2, hle2, -, hc2⟩ := hv2
  by_cases hl : xs.length = ys.length
  · have hl1 : xs.length ≤ ys.length := by omega
    have hl2 : ys.length ≤ xs.length := by omega
    have Hl := Lib.hid hl; clear hl
    go_enter Tryd.func17, Tryd.ntmps17
    go_wp2
    go_loopw [5, 6, 14] (fun _ _ i wr => ∃ k : Nat, k ≤ xs.length ∧ i = .int .i64 k ∧ xs.take k = ys.take k ∧ ∃ n, wr = w.drewN n) (fun _ _ i _ => xs.length - (intOf i).toNat)
    case atStart => exact ⟨0, Nat.zero_le _, rfl, rfl, 0, rfl⟩
    case round =>
      obtain ⟨k, hk, rfl, heq, n, rfl⟩ := hrel
      have Heq := Lib.hid heq; clear heq
      by_cases hlt : k < xs.length
      · obtain ⟨b, off, rfl, hb, hc'⟩ := hc (by omega)
        obtain ⟨x, hx⟩ : ∃ x, xs[k]? = some x := ⟨_, List.getElem?_eq_getElem hlt⟩
        obtain ⟨u, hck, rfl, -⟩ := hc' k x hx
        obtain ⟨b2, off2, rfl, hb2, hc2'⟩ := hc2 (by omega)
        obtain ⟨y, hy⟩ : ∃ y, ys[k]? = some y := ⟨_, List.getElem?_eq_getElem (by omega)⟩
        obtain ⟨u2, hck2, rfl, -⟩ := hc2' k y hy
        have hlt2 : k < ys.length := by omega
        have Hx := Lib.hid hx
        have Hy := Lib.hid hy
        clear hx hc hc' hy hc2 hc2'
        by_cases hxy : x = y
        · subst hxy
          go_wp2
          try (go_quiet (fail))
          go_wp2
          go_roundw
          case rel => exact ⟨k + 1, by omega, by go_num, take_step_eq Heq.out Hx.out Hy.out, _, rfl⟩
          case measure => simp [intOf]; omega
        · have hne : (x == y) = false := by simpa using hxy
          have Hxy := Lib.hid hxy; clear hxy
          go_wp2
          try (go_quiet (fail))
          go_wp2
          go_ret
          exact ⟨retB (Eq.symm (by simp; intro h; have h1 := Hx.out; rw [h, Hy.out] at h1; exact Hxy.out (Option.some.inj h1).symm)), _, rfl⟩
      · go_wp2
        go_ret
        exact ⟨retB (Eq.symm (by have h := Heq.out; have hl := Hl.out; rw [List.take_of_length_le (by omega), List.take_of_length_le (by omega)] at h; simp [h])), n, rfl⟩
  · have hne : decide (xs = ys) = false := by simp; intro h; exact hl (by rw [h])
    rw [hne]; clear hne
    have hl' : ((xs.length : Int) == (ys.length : Int)) = false := by simp; omega
    go_enter Tryd.func17, Tryd.ntmps17
    go_wp2
    go_ret
    exact ⟨rfl, 0, rfl⟩
end Go.Proofs.YtningnjdafhgkaaDoor

namespace Go.Proofs.YtningnjdafhgkaaDoor
open Go.RowKit

theorem retTB {v : Value} {b b' : Bool} (h : b = b') : Ending.returned (.tuple #[v, .bool b]) = Ending.returned (.tuple #[v, .bool b']) := by rw [h]
theorem agrees_false {st line : List Int} {k : Nat} (hk : k < line.length) (h : agreeAt st line k = false) : agrees st line = false := by
  unfold agrees agreesTo
  rw [List.all_eq_false]
  exact ⟨k, by simpa using hk, by simp [h]⟩
theorem inR_vals {x : Int} (h : inR (-1) 1 x = true) : x = -1 ∨ x = 0 ∨ x = 1 := by rw [inR_iff] at h; omega

theorem solveLine_len (rs st : List Int) : ((solveLine rs st).getD []).length ≤ 5 := by
  cases h : solveLine rs st with
  | none => simp
  | some o =>
    unfold solveLine at h
    split at h
    · rename_i hok
      unfold stateOk at hok
      rw [Bool.and_eq_true, inR_iff] at hok
      have := (solveTo_wf _ (Nat.le_refl _) o h).1
      simp; omega
    · cases h

end Go.Proofs.YtningnjdafhgkaaDoor

namespace Go.Proofs.YtningnjdafhgkaaDoor
open Go.RowKit

set_option maxHeartbeats 400000 in
theorem alike_q (v v2 : Value) (xs ys : List (List Int)) (w : World) (hv : Grid w v xs) (hv2 : Grid w v2 ys) : Calls Tryd.prog 16 #[v, v2] w fun e w' => e = .returned (.bool (decide (xs = ys))) ∧ ∃ n, w' = w.drewN n := by
  have Hv := Lib.hid hv
  have Hv2 := Lib.hid hv2
  obtain ⟨a, cap, rfl, hcap, hle, -, -⟩ := hv
  obtain ⟨a2, cap2, rfl, hcap2, hle2, -, -⟩ := hv2
  by_cases hl : xs.length = ys.length
  · have hl1 : xs.length ≤ ys.length := by omega
    have hl2 : ys.length ≤ xs.length := by omega
    have Hl := Lib.hid hl; clear hl
    have hbe : ((xs.length : Int) != (ys.length : Int)) = false := by rw [bne_eq_false_iff_eq]; omega
    have hbe2 : ((xs.length : Int) == (ys.length : Int)) = true := by rw [beq_iff_eq]; omega
    go_enter Tryd.func16, Tryd.ntmps16
    go_wp2
    go_loopw [4, 5, 6, 14] (fun _ _ _ i wr => ∃ k n : Nat, k ≤ xs.length ∧ i = .int .i64 k ∧ xs.take k = ys.take k ∧ wr = w.drewN n) (fun _ _ _ i _ => xs.length - (intOf i).toNat)
    case atStart => exact ⟨0, 0, Nat.zero_le _, rfl, rfl, rfl⟩
    case round =>
      obtain ⟨k, n, hk, rfl, heq, rfl⟩ := hrel
      have Heq := Lib.hid heq; clear heq
      by_cases hlt : k < xs.length
      · obtain ⟨x, hx⟩ : ∃ x, xs[k]? = some x := ⟨_, List.getElem?_eq_getElem hlt⟩
        obtain ⟨y, hy⟩ : ∃ y, ys[k]? = some y := ⟨_, List.getElem?_eq_getElem (by omega)⟩
        obtain ⟨b, off, c1, he, hb, -⟩ := Hv.out.inv_ne (by omega)
        obtain ⟨rfl, -⟩ : a = some ⟨b, off, none⟩ ∧ cap = c1 := by simpa using he
        obtain ⟨b2, off2, c2, he2, hb2, -⟩ := Hv2.out.inv_ne (by omega)
        obtain ⟨rfl, -⟩ : a2 = some ⟨b2, off2, none⟩ ∧ cap2 = c2 := by simpa using he2
        obtain ⟨u, hck, hu⟩ := Sl.at Hv.out hx
        obtain ⟨u2, hck2, hu2⟩ := Sl.at Hv2.out hy
        have hu : Ints w u x := hu
        have hu2 : Ints w u2 y := hu2
        obtain ⟨p1, p2, rfl, -⟩ := id hu
        obtain ⟨q1, q2, rfl, -⟩ := id hu2
        have Hu := Lib.hid (hu.keep (below_drewN (Below.refl _ _) n))
        have Hu2 := Lib.hid (hu2.keep (below_drewN (Below.refl _ _) n))
        have Hx := Lib.hid hx
        have Hy := Lib.hid hy
        clear hx hy he he2 hu hu2
        by_cases hxy : x = y
        · subst hxy
          go_wp2_with (fail)
          refine (same_q _ _ x x _ Hu.out Hu2.out).mono ?_
          rintro e w' ⟨rfl, m, rfl⟩
          rw [decide_eq_true (rfl : x = x)]
          go_wp2
          go_roundw
          case rel => exact ⟨k + 1, n + m, by omega, by go_num, take_step_eq Heq.out Hx.out Hy.out, by first | rfl | exact World.drewN_drewN _ _ _⟩
          case measure => simp [intOf]; omega
        · have Hd := Lib.hid (show decide (x = y) = false from by simpa using hxy)
          have Hne := Lib.hid hxy
          clear hxy
          go_wp2_with (fail)
          refine (same_q _ _ x y _ Hu.out Hu2.out).mono ?_
          rintro e w' ⟨rfl, m, rfl⟩
          rw [Hd.out]
          go_wp2
          go_ret
          exact ⟨retB (Eq.symm (by simp; intro h; have h1 := Hx.out; rw [h, Hy.out] at h1; exact Hne.out (Option.some.inj h1).symm)), n + m, rfl⟩
      · have hdk : decide ((k : Int) < (xs.length : Int)) = false := by simp; omega
        go_wp2
        go_ret
        exact ⟨retB (Eq.symm (by have h := Heq.out; have hl := Hl.out; rw [List.take_of_length_le (by omega), List.take_of_length_le (by omega)] at h; simp [h])), n, rfl⟩
  · have hne : decide (xs = ys) = false := by simp; intro h; exact hl (by rw [h])
    rw [hne]; clear hne
    have hl' : ((xs.length : Int) == (ys.length : Int)) = false := by simp; omega
    go_enter Tryd.func16, Tryd.ntmps16
    go_wp2
    go_ret
    exact ⟨rfl, 0, rfl⟩
theorem alike_c (v v2 : Value) (xs ys : List (List Int)) (w : World) (hv : Grid w v xs) (hv2 : Grid w v2 ys) : Calls Tryd.prog 16 #[v, v2] w fun e w' => e = .returned (.bool (decide (xs = ys))) ∧ Below w.heap.size w w' :=
  (alike_q v v2 xs ys w hv hv2).mono fun _ _ ⟨he, n, hn⟩ => ⟨he, by subst hn; exact below_drewN (Below.refl _ _) n⟩
end Go.Proofs.YtningnjdafhgkaaDoor

namespace Go.Proofs.YtningnjdafhgkaaDoor
open Go.RowKit

end Go.Proofs.YtningnjdafhgkaaDoor

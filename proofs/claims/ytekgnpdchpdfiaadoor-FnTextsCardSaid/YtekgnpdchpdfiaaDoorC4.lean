/- Contracts: slices of slices: equal, marked, held, copied. -/
import Derived.Test.YtekgnpdchpdfiaaDoorC2
namespace Go.Proofs.YtekgnpdchpdfiaaDoor
open Go.RowKit

theorem infoInts : (Tryd.prog.info? 29).map (fun i => (i.zero, i.size, i.bytes)) = some (some (.slice none 0 0), 1, 24) := by kernel_rfl

set_option maxHeartbeats 400000 in
theorem eqIntSS_q (v v2 : Value) (xs ys : List (List Int)) (w : World) (hv : Grid w v xs) (hv2 : Grid w v2 ys) : Calls Tryd.prog 38 #[v, v2] w fun e w' => e = .returned (.bool (decide (xs = ys))) ∧ ∃ n, w' = w.drewN n := by
  obtain ⟨a, cap, rfl, hcap, hle, -, hc⟩ := hv
  obtain ⟨a2, cap2, rfl, hcap2, hle2, -, hc2⟩ := hv2
  by_cases hl : xs.length = ys.length
  · have hl1 : xs.length ≤ ys.length := by omega
    have hl2 : ys.length ≤ xs.length := by omega
    have Hl := Lib.hid hl; clear hl
    go_enter Tryd.func38, Tryd.ntmps38
    go_wp2
    go_loopw [5] (fun i wr => ∃ k : Nat, k ≤ xs.length ∧ i = .int .i64 k ∧ xs.take k = ys.take k ∧ ∃ n, wr = w.drewN n) (fun i _ => xs.length - (intOf i).toNat)
    case atStart => exact ⟨0, Nat.zero_le _, rfl, rfl, 0, rfl⟩
    case round =>
      obtain ⟨k, hk, rfl, heq, n, hw⟩ := hrel
      have Heq := Lib.hid heq; clear heq
      by_cases hlt : k < xs.length
      · obtain ⟨b, off, rfl, hb, hc'⟩ := hc (by omega)
        obtain ⟨x, hx⟩ : ∃ x, xs[k]? = some x := ⟨_, List.getElem?_eq_getElem hlt⟩
        obtain ⟨u, hck, hu⟩ := hc' k x hx
        obtain ⟨b2, off2, rfl, hb2, hc2'⟩ := hc2 (by omega)
        obtain ⟨y, hy⟩ : ∃ y, ys[k]? = some y := ⟨_, List.getElem?_eq_getElem (by omega)⟩
        obtain ⟨u2, hck2, hu2⟩ := hc2' k y hy
        have hlt2 : k < ys.length := by omega
        have Hx := Lib.hid hx
        have Hy := Lib.hid hy
        have hu : Ints wr u x := by rw [hw]; exact hu
        have hu2 : Ints wr u2 y := by rw [hw]; exact hu2
        have hck : wr.cell? ⟨b, off + k, none⟩ = some u := by rw [hw]; exact hck
        have hck2 : wr.cell? ⟨b2, off2 + k, none⟩ = some u2 := by rw [hw]; exact hck2
        have Hw := Lib.hid hw
        clear hx hc hc' hy hc2 hc2' hw
        by_cases hxy : x = y
        · subst hxy
          have hd : ∀ m, Calls Tryd.prog 31 #[u, u2] (wr.drewN m) fun e w'' => e = .returned (.bool true) ∧ ∃ q, w'' = (wr.drewN m).drewN q := fun m => by
            have := eqIntS_q u u2 x x (wr.drewN m) hu hu2
            simpa only [decide_true] using this
          have Hd := Lib.hid hd; clear hd hu hu2
          go_wp2
          go_quiet ((go_at_call 31; exact Calls.quiet_of (Hd.out _)))
          go_wp2
          go_roundw
          case rel => exact ⟨k + 1, by omega, by go_num, take_step_eq Heq.out Hx.out Hy.out, quiet1 Hw.out _⟩
          case measure => simp [intOf]; omega
        · have hd : ∀ m, Calls Tryd.prog 31 #[u, u2] (wr.drewN m) fun e w'' => e = .returned (.bool false) ∧ ∃ q, w'' = (wr.drewN m).drewN q := fun m => by
            have := eqIntS_q u u2 x y (wr.drewN m) hu hu2
            simpa only [hxy, decide_false] using this
          have Hd := Lib.hid hd; clear hd hu hu2
          have Hxy := Lib.hid hxy; clear hxy
          go_wp2
          go_quiet ((go_at_call 31; exact Calls.quiet_of (Hd.out _)))
          go_wp2
          go_ret
          exact ⟨retB (Eq.symm (by simp; intro h; have h1 := Hx.out; rw [h, Hy.out] at h1; exact Hxy.out (Option.some.inj h1).symm)), quiet1 Hw.out _⟩
      · have Hw := Lib.hid hw; clear hw
        go_wp2
        go_ret
        exact ⟨retB (Eq.symm (by have h := Heq.out; have hl := Hl.out; rw [List.take_of_length_le (by omega), List.take_of_length_le (by omega)] at h; simp [h])), n, Hw.out⟩
  · have hne : decide (xs = ys) = false := by simp; intro h; exact hl (by rw [h])
    rw [hne]; clear hne
    have hl' : ((xs.length : Int) == (ys.length : Int)) = false := by simp; omega
    go_enter Tryd.func38, Tryd.ntmps38
    go_wp2
    go_ret
    exact ⟨rfl, 0, rfl⟩
theorem eqIntSS_c (v v2 : Value) (xs ys : List (List Int)) (w : World) (hv : Grid w v xs) (hv2 : Grid w v2 ys) : Calls Tryd.prog 38 #[v, v2] w fun e w' => e = .returned (.bool (decide (xs = ys))) ∧ Below w.heap.size w w' :=
  (eqIntSS_q v v2 xs ys w hv hv2).mono fun _ _ ⟨he, n, hn⟩ => ⟨he, by subst hn; exact below_drewN (Below.refl _ _) n⟩

/-- the number of cells -/
def cells (g : List (List Int)) : Nat := (g.map List.length).sum
/-- k, k + 1, .. in the rows of a grid -/
def gmarks : Int → List (List Int) → List (List Int)
  | _, [] => []
  | k, r :: g => marks k r.length :: gmarks (k + r.length) g
theorem gmarks_len (g : List (List Int)) : ∀ k, (gmarks k g).length = g.length := by
  induction g with
  | nil => intro k; rfl
  | cons r g ih => intro k; simp [gmarks, ih]
theorem cells_take {g : List (List Int)} {k : Nat} {r : List Int} (h : g[k]? = some r) : cells (g.take (k + 1)) = cells (g.take k) + r.length := by
  obtain ⟨hk, hx⟩ := List.getElem?_eq_some_iff.1 h
  rw [List.take_succ_eq_append_getElem hk, hx]; simp [cells]
theorem cells_take_le (g : List (List Int)) (k : Nat) : cells (g.take k) ≤ cells g := by
  have : cells g = cells (g.take k) + cells (g.drop k) := by
    have h : cells (g.take k ++ g.drop k) = cells (g.take k) + cells (g.drop k) := by unfold cells; rw [List.map_append, List.sum_append]
    rwa [List.take_append_drop] at h
  omega
theorem gmarks_at {g : List (List Int)} : ∀ {k : Int} {j : Nat} {r : List Int}, g[j]? = some r → (gmarks k g)[j]? = some (marks (k + cells (g.take j)) r.length) := by
  induction g with
  | nil => intro k j r h; simp at h
  | cons a g ih =>
    intro k j r h
    cases j with
    | zero => simp at h; subst h; simp [gmarks, cells]
    | succ j =>
      simp at h
      simp only [gmarks, List.getElem?_cons_succ]
      rw [ih h]
      congr 2
      simp [cells]
      omega

end Go.Proofs.YtekgnpdchpdfiaaDoor

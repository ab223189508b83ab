/- Contracts: puzzles: PuzzleOk. -/
import Derived.Test.YtekgnpdchpdfiaaC8
import Derived.Test.YtekgnpdchpdfiaaImg
import Derived.BigGuardPart
namespace Go.Proofs.Ytekgnpdchpdfiaa
open Go.RowKit

def fits (n : Int) (runs : List Int) : Bool := runs.all (inR 1 5) && decide (sumL runs + runs.length - 1 ≤ n)
def puzzleOk (rows cols : List (List Int)) : Bool := inR 1 5 rows.length && inR 1 5 cols.length && rows.all (fits cols.length) && cols.all (fits rows.length)

theorem sum_ge_len {xs : List Int} (h : xs.all (inR 1 5) = true) : ∀ k, k ≤ xs.length → (k : Int) ≤ sumL (xs.take k) ∧ sumL (xs.take k) ≤ 5 * k := by
  rw [List.all_eq_true] at h
  intro k
  induction k with
  | zero => intro _; simp [sumL]
  | succ k ih =>
    intro hk
    have h1 := ih (by omega)
    rw [sumL_take (List.getElem?_eq_getElem (show k < xs.length by omega))]
    have := inR_iff.1 (h _ (List.getElem_mem (show k < xs.length by omega)))
    omega

theorem l03Size_c (r c : Int) (w : World) : Calls Try.prog 88 #[.int .i64 r, .int .i64 c] w fun e w' => e = .returned (.bool (inR 1 5 r && inR 1 5 c)) ∧ w = w' := by
  cases h1 : inR 1 5 r
  · have H1 := Lib.hid h1; clear h1
    go_enter Try.func88, Try.ntmps88
    go_wp2_with (first | (go_at_call 103; refine (l01In_c _ _ _ _).mono ?_; rintro e w' ⟨rfl, rfl⟩; (try rw [H1.out])))
    go_ret
    exact ⟨rfl, rfl⟩
  · have H1 := Lib.hid h1; clear h1
    go_enter Try.func88, Try.ntmps88
    go_wp2_with (fail)
    refine (l01In_c _ _ _ _).mono ?_
    rintro e w' ⟨rfl, rfl⟩
    rw [H1.out]
    go_wp2_with (fail)
    refine (l01In_c _ _ _ _).mono ?_
    rintro e w' ⟨rfl, rfl⟩
    go_wp2
    go_ret
    exact ⟨rfl, rfl⟩

set_option maxHeartbeats 400000 in
theorem l14Fits_c (v : Value) (xs : List Int) (n : Nat) (w : World) (hv : Ints w v xs) (hn1 : 1 ≤ n) (hn5 : n ≤ 5) : Calls Try.prog 89 #[v, .int .i64 n] w fun e w' => e = .returned (.bool (fits n xs)) ∧ w = w' := by
  have Hv := Lib.hid hv
  obtain ⟨a, cap, rfl, hcap, hle, -, -⟩ := hv
  by_cases hl : (n : Int) < xs.length
  · have hfit : fits n xs = false := by
      unfold fits
      cases hall : xs.all (inR 1 5)
      · rfl
      · have := (sum_ge_len hall xs.length (Nat.le_refl _)).1
        rw [List.take_length] at this
        simp; omega
    have Hfit := Lib.hid hfit
    clear hfit
    go_enter Try.func89, Try.ntmps89
    go_wp2
    go_ret
    exact ⟨retB Hfit.out.symm, rfl⟩
  · have hl5 : xs.length ≤ 5 := by omega
    go_enter Try.func89, Try.ntmps89
    go_wp2
    go_loop [5, 7, 17] (fun s _ i => ∃ k : Nat, k ≤ xs.length ∧ i = .int .i64 k ∧ s = .int .i64 (sumL (xs.take k) + xs.length - 1) ∧ (xs.take k).all (inR 1 5) = true) (fun _ _ i => xs.length - (intOf i).toNat)
    case atStart => exact ⟨0, Nat.zero_le _, rfl, by simp [sumL], rfl⟩
    case round =>
      obtain ⟨k, hk, rfl, rfl, hall⟩ := hrel
      have hsb := sum_ge_len hall k (by simp; omega)
      rw [List.take_take, Nat.min_self] at hsb
      have hs0 := hsb.1
      have hs1 := hsb.2
      have Hall := Lib.hid hall
      clear hsb hall
      by_cases hlt : k < xs.length
      · obtain ⟨x, hx⟩ : ∃ x, xs[k]? = some x := ⟨_, List.getElem?_eq_getElem hlt⟩
        obtain ⟨b, off, cpr, he, hb, -⟩ := Hv.out.inv_ne (by omega)
        obtain ⟨rfl, -⟩ : a = some ⟨b, off, none⟩ ∧ cap = cpr := by simpa using he
        have hcx := Ints.at Hv.out hx
        have Hst := Lib.hid (sumL_take hx)
        have Has := Lib.hid (all_take_step (inR 1 5) hx)
        have Hx := Lib.hid hx
        clear hx he
        cases hin : inR 1 5 x
        · have Hin := Lib.hid hin; clear hin
          have Hf := Lib.hid (show fits n xs = false from by unfold fits; rw [all_of_take _ Hx.out Hin.out]; rfl)
          go_wp2_with (first | (go_at_call 103; refine (l01In_c _ _ _ _).mono ?_; rintro e w' ⟨rfl, rfl⟩; rw [Hin.out]))
          go_ret
          exact ⟨retB Hf.out.symm, rfl⟩
        · have hxb := inR_iff.1 hin
          have hx1 := hxb.1
          have hx5 := hxb.2
          have Hin := Lib.hid hin; clear hin hxb
          go_wp2_with (first | (go_at_call 103; refine (l01In_c _ _ _ _).mono ?_; rintro e w' ⟨rfl, rfl⟩; rw [Hin.out]))
          go_round
          case rel => exact ⟨k + 1, by omega, by go_num, by rw [Hst.out]; congr 1; omega, by rw [Has.out, Hall.out, Hin.out]; rfl⟩
          case measure => simp [intOf]; omega
      · obtain rfl : k = xs.length := by omega
        rw [List.take_length] at hs0 hs1 ⊢
        have Hf := Lib.hid (show fits n xs = decide (sumL xs + xs.length - 1 ≤ n) from by unfold fits; rw [all_done Hall.out (Nat.le_refl _)]; rfl)
        go_wp2
        go_ret
        exact ⟨retB Hf.out.symm, rfl⟩

theorem small_of {xs : List Int} (h : xs.all (inR 1 5) = true) (hl : xs.length ≤ 1048576) : Small xs := ⟨hl, fun x hx => by rw [List.all_eq_true] at h; have := inR_iff.1 (h x hx); omega⟩
set_option maxHeartbeats 400000 in
theorem runsFit_c (v : Value) (g : List (List Int)) (n : Nat) (w : World) (hv : Grid w v g) (hn5 : n ≤ 5) (hl : ∀ r ∈ g, r.length ≤ 1048576) : Calls Try.prog 92 #[v, .int .i64 n] w fun e w' => e = .returned (.bool (g.all (fits n))) ∧ w = w' := by
  have Hv := Lib.hid hv
  obtain ⟨a, cap, rfl, hcap, hle, -, -⟩ := hv
  go_enter Try.func92, Try.ntmps92
  go_wp2
  go_loop [6, 9] (fun _ i => ∃ k : Nat, k ≤ g.length ∧ i = .int .i64 k ∧ (g.take k).all (fits n) = true) (fun _ i => g.length - (intOf i).toNat)
  case atStart => exact ⟨0, Nat.zero_le _, rfl, rfl⟩
  case round =>
    obtain ⟨k, hk, rfl, hall⟩ := hrel
    have Hall := Lib.hid hall
    clear hall
    by_cases hlt : k < g.length
    · obtain ⟨r, hr⟩ : ∃ r, g[k]? = some r := ⟨_, List.getElem?_eq_getElem hlt⟩
      obtain ⟨b, off, cpr, he, hb, -⟩ := Hv.out.inv_ne (by omega)
      obtain ⟨rfl, -⟩ : a = some ⟨b, off, none⟩ ∧ cap = cpr := by simpa using he
      obtain ⟨u, hck, hu⟩ := Sl.at Hv.out hr
      have hu : Ints w u r := hu
      obtain ⟨ar, cpr, rfl, -⟩ := id hu
      have hrl := hl r (List.mem_of_getElem? hr)
      have Has := Lib.hid (all_take_step (fits n) hr)
      have Hr := Lib.hid hr
      have Hu := Lib.hid hu
      clear hr he hu hl
      cases hin : r.all (inR 1 5)
      · have Hin := Lib.hid hin; clear hin
        have Hf := Lib.hid (show g.all (fits n) = false from all_of_take _ Hr.out (by unfold fits; rw [Hin.out]; rfl))
        go_wp2_with (first | (go_at_call 75; refine (allWithin_c _ _ _ _ _ Hu.out).mono ?_; rintro e w' ⟨rfl, rfl⟩; rw [Hin.out]))
        go_ret
        exact ⟨retB Hf.out.symm, rfl⟩
      · have hsm := small_of hin hrl
        have hsb := sum_ge_len hin r.length (Nat.le_refl _)
        rw [List.take_length] at hsb
        have hs0 := hsb.1
        have hs1 := hsb.2
        have Hin := Lib.hid hin; clear hin hsb
        have Hsm := Lib.hid hsm; clear hsm
        by_cases hgt : (n : Int) < sumL r + r.length - 1
        · have Hf := Lib.hid (show g.all (fits n) = false from all_of_take _ Hr.out (by unfold fits; rw [Hin.out]; simp; omega))
          go_wp2_with (first | (go_at_call 75; refine (allWithin_c _ _ _ _ _ Hu.out).mono ?_; rintro e w' ⟨rfl, rfl⟩; rw [Hin.out]) | (go_at_call 79; refine (sumOf_c _ _ _ Hu.out Hsm.out).mono ?_; rintro e w' ⟨rfl, rfl⟩))
          go_ret
          exact ⟨retB Hf.out.symm, rfl⟩
        · have Hf := Lib.hid (show fits n r = true from by unfold fits; rw [Hin.out]; simp; omega)
          go_wp2_with (first | (go_at_call 75; refine (allWithin_c _ _ _ _ _ Hu.out).mono ?_; rintro e w' ⟨rfl, rfl⟩; rw [Hin.out]) | (go_at_call 79; refine (sumOf_c _ _ _ Hu.out Hsm.out).mono ?_; rintro e w' ⟨rfl, rfl⟩))
          go_round
          case rel => exact ⟨k + 1, by omega, by go_num, by rw [Has.out, Hall.out, Hf.out]; rfl⟩
          case measure => simp [intOf]; omega
    · have Hf := Lib.hid (show g.all (fits n) = true from all_done Hall.out (by omega))
      go_wp2
      go_ret
      exact ⟨retB Hf.out.symm, rfl⟩
end Go.Proofs.Ytekgnpdchpdfiaa

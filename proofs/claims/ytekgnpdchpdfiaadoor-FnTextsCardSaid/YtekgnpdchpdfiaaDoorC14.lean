/- Contracts: puzzles: PuzzleOk. -/
import Derived.Test.YtekgnpdchpdfiaaDoorC8
import Derived.Test.YtekgnpdchpdfiaaDoorImg
import Derived.BigGuardPart
namespace Go.Proofs.YtekgnpdchpdfiaaDoor
open Go.RowKit

def fits (n : Int) (runs : List Int) : Bool := runs.all (inR 1 5) && decide (sumL runs + runs.length - 1 ≤ n)
def puzzleOk (rows cols : List (List Int)) : Bool := inR 1 5 rows.length && inR 1 5 cols.length && rows.all (fits cols.length) && cols.all (fits rows.length)

theorem sum_ge_len {xs : List Int} (h : xs.all (inR 1 5) = true) : ∀ k, k ≤ xs.length → (k : Int) ≤ sumL (xs.take k) ∧ sumL (xs.take k) ≤ 5 * k := by
  rw [List.all_eq_true] at h
  intro k
  induction k with
  | zero => intro _; simp [sumL]
  | succ k ih =>
    intro hk
    have h1 := ih (by omega)
    rw [sumL_take (List.getElem?_eq_getElem (show k < xs.length by omega))]
    have := inR_iff.1 (h _ (List.getElem_mem (show k < xs.length by omega)))
    omega



theorem small_of {xs : List Int} (h : xs.all (inR 1 5) = true) (hl : xs.length ≤ 1048576) : Small xs := ⟨hl, fun x hx => by rw [List.all_eq_true] at h; have := inR_iff.1 (h x hx); omega⟩
set_option maxHeartbeats 400000 in
theorem runsFit_c (v : Value) (g : List (List Int)) (n : Nat) (w : World) (hv : Grid w v g) (hn5 : n ≤ 5) (hl : ∀ r ∈ g, r.length ≤ 1048576) : Calls Tryd.prog 63 #[v, .int .i64 n] w fun e w' => e = .returned (.bool (g.all (fits n))) ∧ w = w' := by
  have Hv := Lib.hid hv
  obtain ⟨a, cap, rfl, hcap, hle, -, -⟩ := hv
  go_enter Tryd.func63, Tryd.ntmps63
  go_wp2
  go_loop [6, 9] (fun _ i => ∃ k : Nat, k ≤ g.length ∧ i = .int .i64 k ∧ (g.take k).all (fits n) = true) (fun _ i => g.length - (intOf i).toNat)
  case atStart => exact ⟨0, Nat.zero_le _, rfl, rfl⟩
  case round =>
    obtain ⟨k, hk, rfl, hall⟩ := hrel
    have Hall := Lib.hid hall
    clear hall
    by_cases hlt : k < g.length
    · obtain ⟨r, hr⟩ : ∃ r, g[k]? = some r := ⟨_, List.getElem?_eq_getElem hlt⟩
      obtain ⟨b, off, cpr, he, hb, -⟩ := Hv.out.inv_ne (by omega)
      obtain ⟨rfl, -⟩ : a = some ⟨b, off, none⟩ ∧ cap = cpr := by simpa using he
      obtain ⟨u, hck, hu⟩ := Sl.at Hv.out hr
      have hu : Ints w u r := hu
      obtain ⟨ar, cpr, rfl, -⟩ := id hu
      have hrl := hl r (List.mem_of_getElem? hr)
      have Has := Lib.hid (all_take_step (fits n) hr)
      have Hr := Lib.hid hr
      have Hu := Lib.hid hu
      clear hr he hu hl
      cases hin : r.all (inR 1 5)
      · have Hin := Lib.hid hin; clear hin
        have Hf := Lib.hid (show g.all (fits n) = false from all_of_take _ Hr.out (by unfold fits; rw [Hin.out]; rfl))
        go_wp2_with (first | (go_at_call 90; refine (allWithin_c _ _ _ _ _ Hu.out).mono ?_; rintro e w' ⟨rfl, rfl⟩; rw [Hin.out]))
        go_ret
        exact ⟨retB Hf.out.symm, rfl⟩
      · have hsm := small_of hin hrl
        have hsb := sum_ge_len hin r.length (Nat.le_refl _)
        rw [List.take_length] at hsb
        have hs0 := hsb.1
        have hs1 := hsb.2
        have Hin := Lib.hid hin; clear hin hsb
        have Hsm := Lib.hid hsm; clear hsm
        by_cases hgt : (n : Int) < sumL r + r.length - 1
        · have Hf := Lib.hid (show g.all (fits n) = false from all_of_take _ Hr.out (by unfold fits; rw [Hin.out]; simp; omega))
          go_wp2_with (first | (go_at_call 90; refine (allWithin_c _ _ _ _ _ Hu.out).mono ?_; rintro e w' ⟨rfl, rfl⟩; rw [Hin.out]) | (go_at_call 48; refine (sumOf_c _ _ _ Hu.out Hsm.out).mono ?_; rintro e w' ⟨rfl, rfl⟩))
          go_ret
          exact ⟨retB Hf.out.symm, rfl⟩
        · have Hf := Lib.hid (show fits n r = true from by unfold fits; rw [Hin.out]; simp; omega)
          go_wp2_with (first | (go_at_call 90; refine (allWithin_c _ _ _ _ _ Hu.out).mono ?_; rintro e w' ⟨rfl, rfl⟩; rw [Hin.out]) | (go_at_call 48; refine (sumOf_c _ _ _ Hu.out Hsm.out).mono ?_; rintro e w' ⟨rfl, rfl⟩))
          go_round
          case rel => exact ⟨k + 1, by omega, by go_num, by rw [Has.out, Hall.out, Hf.out]; rfl⟩
          case measure => simp [intOf]; omega
    · have Hf := Lib.hid (show g.all (fits n) = true from all_done Hall.out (by omega))
      go_wp2
      go_ret
      exact ⟨retB Hf.out.symm, rfl⟩
end Go.Proofs.YtekgnpdchpdfiaaDoor

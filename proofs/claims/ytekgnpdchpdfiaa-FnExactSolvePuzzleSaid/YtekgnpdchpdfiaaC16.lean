/- Contracts: PuzzleOk. -/
import Derived.Test.YtekgnpdchpdfiaaC15
namespace Go.Proofs.Ytekgnpdchpdfiaa
open Go.RowKit

set_option maxHeartbeats 400000 in
theorem PuzzleOk_i (a b : Value) (x y : List (List Int)) (w : World) (h1 : Grid w a x) (h2 : Grid w b y) (hlx : ∀ r ∈ x, r.length ≤ 1048576) (hly : ∀ r ∈ y, r.length ≤ 1048576) :
    Calls Try.prog 51 #[.agg #[a, b]] w fun e w' => e = .returned (.bool (puzzleOk x y)) ∧ w' = w.alloc (.cells #[a, b] 28) := by
  obtain ⟨aa, ca, rfl, -⟩ := id h1
  obtain ⟨ab, cb, rfl, -⟩ := id h2
  have hb : ∀ o, Below w.heap.size w (w.alloc o) := fun o => Below.pureAlloc w o
  have Hb := Lib.hid hb; clear hb
  cases hx : inR 1 5 x.length
  · have Hf := Lib.hid (show puzzleOk x y = false from by unfold puzzleOk; rw [hx]; rfl)
    have Hx := Lib.hid hx; clear hx
    go_enter Try.func51, Try.ntmps51
    go_wp2_with (first | (go_at_call 74; refine (within_c _ _ _ _).mono ?_; rintro e w' ⟨rfl, rfl⟩; rw [Hx.out]))
    go_ret
    exact ⟨retB Hf.out.symm, rfl⟩
  have hxb := (inR_iff.1 hx).2
  have Hx := Lib.hid hx; clear hx
  cases hy : inR 1 5 y.length
  · have Hf := Lib.hid (show puzzleOk x y = false from by unfold puzzleOk; rw [hy]; simp)
    have Hy := Lib.hid hy; clear hy
    go_enter Try.func51, Try.ntmps51
    go_wp2_with (first | (go_at_call 74; refine (within_c _ _ _ _).mono ?_; rintro e w' ⟨rfl, rfl⟩; (first | rw [Hx.out] | rw [Hy.out])))
    go_ret
    exact ⟨retB Hf.out.symm, rfl⟩
  have hyb := (inR_iff.1 hy).2
  have Hy := Lib.hid hy; clear hy
  go_enter Try.func51, Try.ntmps51
  go_wp2_with (fail)
  refine (within_c _ _ _ _).mono ?_
  rintro e w' ⟨rfl, rfl⟩
  rw [Hx.out]
  go_wp2_with (fail)
  refine (within_c _ _ _ _).mono ?_
  rintro e w' ⟨rfl, rfl⟩
  rw [Hy.out]
  go_wp2_with (fail)
  refine (runsFit_c _ _ _ _ (h1.keep (Hb.out _)) (by omega) hlx).mono ?_
  rintro e w' ⟨rfl, rfl⟩
  cases hf : x.all (fits y.length)
  · have Hf := Lib.hid (show puzzleOk x y = false from by unfold puzzleOk; rw [hf]; simp)
    go_wp2
    go_ret
    exact ⟨retB Hf.out.symm, rfl⟩
  have Hf := Lib.hid hf; clear hf
  go_wp2_with (fail)
  refine (runsFit_c _ _ _ _ (h2.keep (Hb.out _)) (by omega) hly).mono ?_
  rintro e w' ⟨rfl, rfl⟩
  have Hg := Lib.hid (show puzzleOk x y = y.all (fits x.length) from by unfold puzzleOk; rw [Hx.out, Hy.out, Hf.out]; rfl)
  go_wp2
  go_ret
  exact ⟨retB Hg.out.symm, rfl⟩
set_option maxHeartbeats 800000 in
theorem PuzzleOk_s (a b : Value) (x y : List (List Int)) (w : World) (h1 : Grid w a x) (h2 : Grid w b y) :
    Calls Try.prog 46 #[.agg #[a, b]] w fun e w' => e = .returned (.bool (puzzleOk x y)) ∧ w' = w.alloc (.cells #[a, b] 28) := by
  obtain ⟨aa, ca, rfl, -⟩ := id h1
  obtain ⟨ab, cb, rfl, -⟩ := id h2
  have hb : ∀ o, Below w.heap.size w (w.alloc o) := fun o => Below.pureAlloc w o
  have Hb := Lib.hid hb; clear hb
  cases hs : (inR 1 5 x.length && inR 1 5 y.length)
  · have Hf := Lib.hid (show puzzleOk x y = false from by unfold puzzleOk; rw [hs]; rfl)
    have Hs := Lib.hid hs; clear hs
    go_enter Try.func46, Try.ntmps46
    go_wp2_with (fail)
    refine (l03Size_c _ _ _).mono ?_
    rintro e w' ⟨rfl, rfl⟩
    rw [Hs.out]
    go_wp2
    go_ret
    exact ⟨retB Hf.out.symm, rfl⟩
  have hs' := hs
  rw [Bool.and_eq_true, inR_iff, inR_iff] at hs'
  obtain ⟨⟨hx1, hx5⟩, ⟨hy1, hy5⟩⟩ := hs'
  have Hs := Lib.hid hs; clear hs
  have hx1' : 1 ≤ x.length := by omega
  have hx5' : x.length ≤ 5 := by omega
  have hy1' : 1 ≤ y.length := by omega
  have hy5' : y.length ≤ 5 := by omega
  go_enter Try.func46, Try.ntmps46
  go_wp2_with (fail)
  refine (l03Size_c _ _ _).mono ?_
  rintro e w' ⟨rfl, rfl⟩
  rw [Hs.out]
  have K1 := h1.keep (Hb.out (.cells #[.slice aa x.length ca, .slice ab y.length cb] 28))
  have K2 := h2.keep (Hb.out (.cells #[.slice aa x.length ca, .slice ab y.length cb] 28))
  have k0 := (Blk.new w #[.slice aa x.length ca, .slice ab y.length cb] 28).cell 0
  have k1 := (Blk.new w #[.slice aa x.length ca, .slice ab y.length cb] 28).cell 1
  obtain ⟨W, hW⟩ : ∃ W, W = w.alloc (.cells #[.slice aa x.length ca, .slice ab y.length cb] 28) := ⟨_, rfl⟩
  rw [← hW] at K1 K2 k0 k1 ⊢
  have k0 : W.cell? ⟨w.heap.size, 0, none⟩ = some (.slice aa x.length ca) := k0
  have k1 : W.cell? ⟨w.heap.size, 1, none⟩ = some (.slice ab y.length cb) := k1
  have HW := Lib.hid hW; clear hW
  have K1 := Lib.hid K1
  have K2 := Lib.hid K2
  go_wp2
  go_loop [4, 18] (fun _ i => ∃ k : Nat, k ≤ x.length ∧ i = .int .i64 k ∧ (x.take k).all (fits y.length) = true) (fun _ i => x.length - (intOf i).toNat)
  case atStart => exact ⟨0, Nat.zero_le _, rfl, rfl⟩
  case round =>
    obtain ⟨k, hk, rfl, hall⟩ := hrel
    have Hall := Lib.hid hall
    clear hall
    by_cases hlt : k < x.length
    · obtain ⟨r, hr⟩ : ∃ r, x[k]? = some r := ⟨_, List.getElem?_eq_getElem hlt⟩
      obtain ⟨bl, off, cpr, he, hbl, -⟩ := K1.out.inv_ne (by omega)
      obtain ⟨rfl, -⟩ : aa = some ⟨bl, off, none⟩ ∧ ca = cpr := by simpa using he
      obtain ⟨u, hck, hu⟩ := Sl.at K1.out hr
      have hu : Ints W u r := hu
      obtain ⟨ar, cpr, rfl, -⟩ := id hu
      have Has := Lib.hid (all_take_step (fits y.length) hr)
      have Hr := Lib.hid hr
      have Hu := Lib.hid hu
      clear hr he hu
      cases hf : fits y.length r
      · have Hf := Lib.hid (show puzzleOk x y = false from by unfold puzzleOk; rw [all_of_take _ Hr.out hf]; simp)
        have Hff := Lib.hid hf; clear hf
        go_wp2_with (first | (go_at_call 89; refine (l14Fits_c _ _ _ _ Hu.out hy1' hy5').mono ?_; rintro e w' ⟨rfl, rfl⟩; rw [Hff.out]))
        go_ret
        exact ⟨retB Hf.out.symm, HW.out⟩
      · have Hff := Lib.hid hf; clear hf
        go_wp2_with (first | (go_at_call 89; refine (l14Fits_c _ _ _ _ Hu.out hy1' hy5').mono ?_; rintro e w' ⟨rfl, rfl⟩; rw [Hff.out]))
        go_round
        case rel => exact ⟨k + 1, by omega, by go_num, by rw [Has.out, Hall.out, Hff.out]; rfl⟩
        case measure => simp [intOf]; omega
    · have hallx : x.all (fits y.length) = true := all_done Hall.out (by omega)
      have Hallx := Lib.hid hallx
      clear hallx
      have hdk : decide ((k : Int) < (x.length : Int)) = false := by simp; omega
      go_wp2
      go_loop [6, 32] (fun _ i => ∃ j : Nat, j ≤ y.length ∧ i = .int .i64 j ∧ (y.take j).all (fits x.length) = true) (fun _ i => y.length - (intOf i).toNat)
      case atStart => exact ⟨0, Nat.zero_le _, rfl, rfl⟩
      case round =>
        obtain ⟨j, hj, rfl, hall2⟩ := hrel
        have Hall2 := Lib.hid hall2
        clear hall2
        by_cases hltj : j < y.length
        · obtain ⟨r, hr⟩ : ∃ r, y[j]? = some r := ⟨_, List.getElem?_eq_getElem hltj⟩
          obtain ⟨bl, off, cpr, he, hbl, -⟩ := K2.out.inv_ne (by omega)
          obtain ⟨rfl, -⟩ : ab = some ⟨bl, off, none⟩ ∧ cb = cpr := by simpa using he
          obtain ⟨u, hck, hu⟩ := Sl.at K2.out hr
          have hu : Ints W u r := hu
          obtain ⟨ar, cpr, rfl, -⟩ := id hu
          have Has := Lib.hid (all_take_step (fits x.length) hr)
          have Hr := Lib.hid hr
          have Hu := Lib.hid hu
          clear hr he hu
          cases hf : fits x.length r
          · have Hf := Lib.hid (show puzzleOk x y = false from by unfold puzzleOk; rw [all_of_take _ Hr.out hf]; simp)
            have Hff := Lib.hid hf; clear hf
            go_wp2_with (first | (go_at_call 89; refine (l14Fits_c _ _ _ _ Hu.out hx1' hx5').mono ?_; rintro e w' ⟨rfl, rfl⟩; rw [Hff.out]))
            go_ret
            exact ⟨retB Hf.out.symm, HW.out⟩
          · have Hff := Lib.hid hf; clear hf
            go_wp2_with (first | (go_at_call 89; refine (l14Fits_c _ _ _ _ Hu.out hx1' hx5').mono ?_; rintro e w' ⟨rfl, rfl⟩; rw [Hff.out]))
            go_round
            case rel => exact ⟨j + 1, by omega, by go_num, by rw [Has.out, Hall2.out, Hff.out]; rfl⟩
            case measure => simp [intOf]; omega
        · have Hf := Lib.hid (show puzzleOk x y = true from by unfold puzzleOk; rw [Hs.out, Hallx.out, all_done Hall2.out (by omega)]; rfl)
          go_wp2
          go_ret
          exact ⟨retB Hf.out.symm, HW.out⟩
end Go.Proofs.Ytekgnpdchpdfiaa

/- Contracts: images: ImageOk, RowSums, TransposeOf, ColSums. -/
import Derived.Test.YtliejhmlcdjpcaaC8
import Derived.Test.YtliejhmlcdjpcaaImg
import Derived.BigGuardPart
namespace Go.Proofs.Ytliejhmlcdjpcaa
open Go.RowKit

theorem headD_of {α : Type} {l : List (List α)} {h : List α} (hh : l[0]? = some h) : l.headD [] = h := by
  cases l with
  | nil => simp at hh
  | cons a l => simpa using hh

set_option maxHeartbeats 400000 in
theorem gridOk_c (v : Value) (g : List (List Int)) (lo hi : Int) (w : World) (hv : Grid w v g) : Calls Try.prog 61 #[v, .int .i64 lo, .int .i64 hi] w fun e w' => e = .returned (.bool (gridOkB lo hi g)) ∧ w = w' := by
  obtain ⟨a, cap, rfl, hcap, hle, -, hc⟩ := hv
  cases hin : inR 1 5 g.length
  · have Hr := Lib.hid (show gridOkB lo hi g = false from by simp [gridOkB, hin])
    go_enter Try.func61, Try.ntmps61
    go_wp2_with (first | (go_at_call 67; refine (within_c _ _ _ _).mono ?_; rintro e w' ⟨rfl, rfl⟩))
    go_ret
    exact ⟨retB Hr.out.symm, rfl⟩
  have hb := inR_iff.1 hin
  obtain ⟨b, off, rfl, -, hc'⟩ := hc (by omega)
  obtain ⟨hd, hhd⟩ : ∃ hd, g[0]? = some hd := ⟨_, List.getElem?_eq_getElem (by omega)⟩
  obtain ⟨u0, hck0, hu0⟩ := hc' 0 hd hhd
  obtain ⟨a0, cap0, rfl, -⟩ := hu0
  rw [Nat.add_zero] at hck0
  have Hhd := Lib.hid (headD_of hhd)
  have Hin := Lib.hid hin
  clear hhd hb
  go_enter Try.func61, Try.ntmps61
  go_wp2_with (first | (go_at_call 67; refine (within_c _ _ _ _).mono ?_; rintro e w' ⟨rfl, rfl⟩))
  clear hin
  go_loop [8, 15] (fun _ i => ∃ k : Nat, k ≤ g.length ∧ i = .int .i64 k ∧ (g.take k).all (rowOk lo hi hd.length) = true) (fun _ i => g.length - (intOf i).toNat)
  case atStart => exact ⟨0, Nat.zero_le _, rfl, rfl⟩
  case round =>
    obtain ⟨k, hk, rfl, hall⟩ := hrel
    have Hall := Lib.hid hall; clear hall
    by_cases hlt : k < g.length
    · obtain ⟨r, hr⟩ : ∃ r, g[k]? = some r := ⟨_, List.getElem?_eq_getElem hlt⟩
      obtain ⟨u, hck, hu⟩ := hc' k r hr
      have hu : Ints w u r := hu
      obtain ⟨ar, capr, rfl, -⟩ := id hu
      have Hs := Lib.hid (all_take_step (rowOk lo hi hd.length) hr)
      have Hr := Lib.hid hr
      clear hr hc' hc
      by_cases hl : r.length = hd.length
      · have hl1 : r.length ≤ hd.length := by omega
        have hl2 : hd.length ≤ r.length := by omega
        have Hl := Lib.hid hl
        rw [hl] at hck hu
        clear hl
        cases hin : inR 1 5 hd.length
        · have Hf := Lib.hid (show rowOk lo hi hd.length r = false from by unfold rowOk; rw [Hl.out, hin]; simp)
          have Hg := Lib.hid (show gridOkB lo hi g = false from by unfold gridOkB; rw [Hhd.out, all_of_take _ Hr.out Hf.out]; simp)
          go_wp2_with (first | (go_at_call 67; refine (within_c _ _ _ _).mono ?_; rintro e w' ⟨rfl, rfl⟩))
          go_ret
          exact ⟨retB Hg.out.symm, rfl⟩
        · cases hal : r.all (inR lo hi)
          · have Hf := Lib.hid (show rowOk lo hi hd.length r = false from by unfold rowOk; rw [hal]; simp)
            have Hg := Lib.hid (show gridOkB lo hi g = false from by unfold gridOkB; rw [Hhd.out, all_of_take _ Hr.out Hf.out]; simp)
            go_wp2_with (first | (go_at_call 67; refine (within_c _ _ _ _).mono ?_; rintro e w' ⟨rfl, rfl⟩) | (go_at_call 73; refine (allWithin_c _ _ _ _ _ hu).mono ?_; rintro e w' ⟨rfl, rfl⟩))
            go_ret
            exact ⟨retB Hg.out.symm, rfl⟩
          · have Hf := Lib.hid (show rowOk lo hi hd.length r = true from by unfold rowOk; rw [hal, Hl.out, hin]; simp)
            go_wp2_with (first | (go_at_call 67; refine (within_c _ _ _ _).mono ?_; rintro e w' ⟨rfl, rfl⟩) | (go_at_call 73; refine (allWithin_c _ _ _ _ _ hu).mono ?_; rintro e w' ⟨rfl, rfl⟩))
            go_round
            case rel => exact ⟨k + 1, by omega, by go_num, by rw [Hs.out, Hall.out, Hf.out]; rfl⟩
            case measure => simp [intOf]; omega
      · have Hf := Lib.hid (show rowOk lo hi hd.length r = false from by unfold rowOk; simp [hl])
        have Hg := Lib.hid (show gridOkB lo hi g = false from by unfold gridOkB; rw [Hhd.out, all_of_take _ Hr.out Hf.out]; simp)
        have hne : ((r.length : Int) == (hd.length : Int)) = false := by rw [beq_eq_false_iff_ne]; omega
        go_wp2_with (first | (go_at_call 67; refine (within_c _ _ _ _).mono ?_; rintro e w' ⟨rfl, rfl⟩) | (go_at_call 73; refine (allWithin_c _ _ _ _ _ hu).mono ?_; rintro e w' ⟨rfl, rfl⟩))
        go_ret
        exact ⟨retB Hg.out.symm, rfl⟩
    · have Hg := Lib.hid (show gridOkB lo hi g = true from by unfold gridOkB; rw [Hhd.out, Hin.out, all_done Hall.out (by omega)]; rfl)
      go_wp2
      go_ret
      exact ⟨retB Hg.out.symm, rfl⟩
theorem ImageOk_i (v : Value) (g : List (List Int)) (w : World) (hv : Grid w v g) : Calls Try.prog 31 #[v] w fun e w' => e = .returned (.bool (imageOk g)) ∧ w = w' := by
  go_enter Try.func31, Try.ntmps31
  go_wp2_with (fail)
  refine (gridOk_c _ _ _ _ _ hv).mono ?_
  rintro e w' ⟨rfl, rfl⟩
  go_wp2
  go_ret
  exact ⟨rfl, rfl⟩

set_option maxHeartbeats 800000 in
theorem ImageOk_s (v : Value) (g : List (List Int)) (w : World) (hv : Grid w v g) : Calls Try.prog 71 #[v] w fun e w' => e = .returned (.bool (imageOk g)) ∧ w = w' := by
  obtain ⟨a, cap, rfl, hcap, hle, -, hc⟩ := hv
  cases hin : inR 1 5 g.length
  · have Hr := Lib.hid (show imageOk g = false from by simp [imageOk, gridOkB, hin])
    go_enter Try.func71, Try.ntmps71
    go_wp2_with (first | (go_at_call 92; refine (l01In_c _ _ _ _).mono ?_; rintro e w' ⟨rfl, rfl⟩))
    go_ret
    exact ⟨retB Hr.out.symm, rfl⟩
  have hb := inR_iff.1 hin
  obtain ⟨b, off, rfl, -, hc'⟩ := hc (by omega)
  obtain ⟨hd, hhd⟩ : ∃ hd, g[0]? = some hd := ⟨_, List.getElem?_eq_getElem (by omega)⟩
  obtain ⟨u0, hck0, hu0⟩ := hc' 0 hd hhd
  obtain ⟨a0, cap0, rfl, -⟩ := hu0
  rw [Nat.add_zero] at hck0
  have Hhd := Lib.hid (headD_of hhd)
  have Hhd0 := Lib.hid hhd
  have hpos : 0 < g.length := by omega
  clear hhd hb
  cases hinh : inR 1 5 hd.length
  · have Hf := Lib.hid (show rowOk 0 1 hd.length hd = false from by unfold rowOk; rw [hinh]; simp)
    have Hg := Lib.hid (show imageOk g = false from by unfold imageOk gridOkB; rw [Hhd.out, all_of_take _ Hhd0.out Hf.out]; simp)
    go_enter Try.func71, Try.ntmps71
    go_wp2_with (first | (go_at_call 92; refine (l01In_c _ _ _ _).mono ?_; rintro e w' ⟨rfl, rfl⟩))
    go_ret
    exact ⟨retB Hg.out.symm, rfl⟩
  have Hin := Lib.hid hin
  have Hinh := Lib.hid hinh
  go_enter Try.func71, Try.ntmps71
  go_wp2_with (first | (go_at_call 92; refine (l01In_c _ _ _ _).mono ?_; rintro e w' ⟨rfl, rfl⟩))
  clear hin hinh
  go_loop [4, 6, 21] (fun _ _ i => ∃ k : Nat, k ≤ g.length ∧ i = .int .i64 k ∧ (g.take k).all (rowOk 0 1 hd.length) = true) (fun _ _ i => g.length - (intOf i).toNat)
  case atStart => exact ⟨0, Nat.zero_le _, rfl, rfl⟩
  case round =>
    obtain ⟨k, hk, rfl, hall⟩ := hrel
    have Hall := Lib.hid hall; clear hall
    by_cases hlt : k < g.length
    · obtain ⟨r, hr⟩ : ∃ r, g[k]? = some r := ⟨_, List.getElem?_eq_getElem hlt⟩
      obtain ⟨u, hck, hu⟩ := hc' k r hr
      obtain ⟨ar, capr, rfl, hcapr, hler, -, hcr⟩ := hu
      have Hs := Lib.hid (all_take_step (rowOk 0 1 hd.length) hr)
      have Hr := Lib.hid hr
      clear hr hc' hc
      by_cases hl : r.length = hd.length
      · have hl1 : r.length ≤ hd.length := by omega
        have hl2 : hd.length ≤ r.length := by omega
        have Hl := Lib.hid hl
        clear hl
        have hdk : decide ((k : Int) < (g.length : Int)) = true := by simp; omega
        go_wp2
        go_loop [6, 34] (fun _ i => ∃ j : Nat, j ≤ r.length ∧ i = .int .i64 j ∧ (r.take j).all (inR 0 1) = true) (fun _ i => r.length - (intOf i).toNat)
        case atStart => exact ⟨0, Nat.zero_le _, rfl, rfl⟩
        case round =>
          obtain ⟨j, hj, rfl, hall2⟩ := hrel
          have Hall2 := Lib.hid hall2; clear hall2
          by_cases hltj : j < r.length
          · obtain ⟨br, offr, rfl, -, hcc⟩ := hcr (by omega)
            obtain ⟨x, hx⟩ : ∃ x, r[j]? = some x := ⟨_, List.getElem?_eq_getElem hltj⟩
            obtain ⟨ux, hcx, rfl, -⟩ := hcc j x hx
            have Hs2 := Lib.hid (all_take_step (inR 0 1) hx)
            have Hx := Lib.hid hx
            clear hx hcc hcr
            by_cases h0 : x = 0
            · subst h0
              go_wp2
              go_round
              case rel => exact ⟨j + 1, by omega, by go_num, by rw [Hs2.out, Hall2.out]; rfl⟩
              case measure => simp [intOf]; omega
            · by_cases h1 : x = 1
              · subst h1
                go_wp2
                go_round
                case rel => exact ⟨j + 1, by omega, by go_num, by rw [Hs2.out, Hall2.out]; rfl⟩
                case measure => simp [intOf]; omega
              · have hxf : inR 0 1 x = false := by simp [inR]; omega
                have Hf := Lib.hid (show rowOk 0 1 hd.length r = false from by unfold rowOk; rw [all_of_take _ Hx.out hxf]; simp)
                have Hg := Lib.hid (show imageOk g = false from by unfold imageOk gridOkB; rw [Hhd.out, all_of_take _ Hr.out Hf.out]; simp)
                have hn0 : (x == 0) = false := by simpa using h0
                have hn1 : (x == 1) = false := by simpa using h1
                go_wp2
                go_ret
                exact ⟨retB Hg.out.symm, rfl⟩
          · have Hf := Lib.hid (show rowOk 0 1 hd.length r = true from by unfold rowOk; rw [all_done Hall2.out (by omega), Hl.out, Hinh.out]; simp)
            go_wp2
            go_round
            case rel => exact ⟨k + 1, by omega, by go_num, by rw [Hs.out, Hall.out, Hf.out]; rfl⟩
            case measure => simp [intOf]; omega
      · have Hf := Lib.hid (show rowOk 0 1 hd.length r = false from by unfold rowOk; simp [hl])
        have Hg := Lib.hid (show imageOk g = false from by unfold imageOk gridOkB; rw [Hhd.out, all_of_take _ Hr.out Hf.out]; simp)
        have hne : ((r.length : Int) == (hd.length : Int)) = false := by rw [beq_eq_false_iff_ne]; omega
        go_wp2
        go_ret
        exact ⟨retB Hg.out.symm, rfl⟩
    · have Hg := Lib.hid (show imageOk g = true from by unfold imageOk gridOkB; rw [Hhd.out, Hin.out, all_done Hall.out (by omega)]; rfl)
      go_wp2
      go_ret
      exact ⟨retB Hg.out.symm, rfl⟩
end Go.Proofs.Ytliejhmlcdjpcaa

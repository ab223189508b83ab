/- Contracts: sizes and copies of slices of slices. Contracts: images: ImageOk, RowSums, TransposeOf, ColSums. Contracts: images: RowSums, TransposeOf, ColSums, newGrid. Contracts: RowSums, ColSums. Contracts: puzzles: PuzzleOk. -/
import Derived.Test.YtlmjpmdkifoekaaDoorC1
import Derived.Test.YtlmjpmdkifoekaaDoorDraw2
import Derived.BigGuardPart
namespace Go.Proofs.YtlmjpmdkifoekaaDoor
open Go.RowKit

theorem set_copy' {α : Type} {xs : List α} {z : α} {k : Nat} {x : α} (h : xs[k]? = some x) : (xs.take k ++ List.replicate (xs.length - k) z).set k x = xs.take (k + 1) ++ List.replicate (xs.length - (k + 1)) z := by
  obtain ⟨hk, hx⟩ := List.getElem?_eq_some_iff.1 h
  obtain ⟨d, hd⟩ : ∃ d, xs.length - k = d + 1 := ⟨xs.length - k - 1, by omega⟩
  rw [hd, show xs.length - (k + 1) = d from by omega, List.set_append_right _ _ (by simp; omega), List.length_take, Nat.min_eq_left (Nat.le_of_lt hk), Nat.sub_self, List.replicate_succ, List.set_cons_zero, List.take_succ_eq_append_getElem hk, hx]
  simp

/-- what is left of a size -/
def leftOf (n : Nat) (left : Int) : Int := if (n : Int) ≤ left then left - n else -1
theorem szIntS_c (v : Value) (xs : List Int) (left : Int) (w : World) (hv : Ints w v xs) (h0 : 0 ≤ left) (h1 : left ≤ 1048576) : Calls Tryd.prog 72 #[v, .int .i64 left] w fun e w' => e = .returned (.int .i64 (leftOf xs.length left)) ∧ w = w' := by
  obtain ⟨a, cap, rfl, hcap, hle, -, hc⟩ := hv
  by_cases h : (xs.length : Int) ≤ left
  · have hr := Lib.hid (show leftOf xs.length left = left - xs.length from by simp [leftOf, h])
    go_enter Tryd.func72, Tryd.ntmps72
    go_wp2
    go_ret
    exact ⟨retI hr.out.symm, rfl⟩
  · have hr := Lib.hid (show leftOf xs.length left = -1 from by simp [leftOf, h])
    go_enter Tryd.func72, Tryd.ntmps72
    go_wp2
    go_ret
    exact ⟨retI hr.out.symm, rfl⟩
/-- how large a grid is -/
def bulk (g : List (List Int)) : Nat := g.length + cells g
theorem szIntSS_c (v : Value) (xs : List (List Int)) (left : Int) (w : World) (hv : Grid w v xs) (h0 : 0 ≤ left) (h1 : left ≤ 1048576) : Calls Tryd.prog 29 #[v, .int .i64 left] w fun e w' => e = .returned (.int .i64 (leftOf (bulk xs) left)) ∧ w = w' := by
  obtain ⟨a, cap, rfl, hcap, hle, -, hc⟩ := hv
  by_cases h : (xs.length : Int) ≤ left
  · go_enter Tryd.func29, Tryd.ntmps29
    go_wp2
    go_loop [1, 5] (fun m i => ∃ k : Nat, k ≤ xs.length ∧ i = .int .i64 k ∧ (xs.length : Int) + cells (xs.take k) ≤ left ∧ m = .int .i64 (left - xs.length - cells (xs.take k))) (fun _ i => xs.length - (intOf i).toNat)
    case atStart => exact ⟨0, Nat.zero_le _, rfl, by simpa [cells] using h, by simp [cells]⟩
    case round =>
      obtain ⟨k, hk, rfl, hle2, rfl⟩ := hrel
      have hcl := cells_take_le xs k
      by_cases hlt : k < xs.length
      · obtain ⟨r, hr⟩ : ∃ r, xs[k]? = some r := ⟨_, List.getElem?_eq_getElem hlt⟩
        obtain ⟨b, off, rfl, -, hc'⟩ := hc (by omega)
        obtain ⟨u, hck, hu⟩ := hc' k _ hr
        have hu : Ints w u r := hu
        have hct := cells_take hr
        have hcl2 := cells_take_le xs (k + 1)
        have Hct := Lib.hid hct
        by_cases hfit : (r.length : Int) ≤ left - xs.length - cells (xs.take k)
        · have hcall := szIntS_c u r (left - xs.length - cells (xs.take k)) w hu (by omega) (by omega)
          rw [show leftOf r.length (left - xs.length - cells (xs.take k)) = left - xs.length - cells (xs.take k) - r.length from by simp [leftOf, hfit]] at hcall
          have Hcall := Lib.hid hcall
          have hpos : 0 ≤ left - (xs.length : Int) - cells (xs.take k) - r.length := by omega
          clear hc hc' hr hct hu hcall
          go_wp2_with (fail)
          refine Hcall.out.mono ?_
          rintro e w' ⟨rfl, rfl⟩
          go_wp2
          go_round
          case rel => exact ⟨k + 1, by omega, by go_num, by rw [Hct.out]; omega, by rw [Hct.out]; congr 1; omega⟩
          case measure => simp [intOf]; omega
        · have hcall := szIntS_c u r (left - xs.length - cells (xs.take k)) w hu (by omega) (by omega)
          rw [show leftOf r.length (left - xs.length - cells (xs.take k)) = -1 from by simp [leftOf, hfit]] at hcall
          have Hcall := Lib.hid hcall
          have hbig : leftOf (bulk xs) left = -1 := by unfold leftOf bulk; rw [if_neg (by omega)]
          have Hbig := Lib.hid hbig
          clear hc hc' hr hct hu hcall hbig
          go_wp2_with (fail)
          refine Hcall.out.mono ?_
          rintro e w' ⟨rfl, rfl⟩
          go_wp2
          go_ret
          exact ⟨retI Hbig.out.symm, rfl⟩
      · obtain rfl : k = xs.length := by omega
        rw [List.take_length] at hle2 ⊢
        have hr := Lib.hid (show leftOf (bulk xs) left = left - xs.length - cells xs from by unfold leftOf bulk; rw [if_pos (by omega)]; omega)
        go_wp2
        go_ret
        exact ⟨retI hr.out.symm, rfl⟩
  · have hr := Lib.hid (show leftOf (bulk xs) left = -1 from by unfold leftOf bulk; rw [if_neg (by omega)])
    go_enter Tryd.func29, Tryd.ntmps29
    go_wp2
    go_ret
    exact ⟨retI hr.out.symm, rfl⟩
set_option maxHeartbeats 400000 in
theorem toIntSS_c (v : Value) (xs : List (List Int)) (w : World) (hv : Grid w v xs) (hlen : xs.length ≤ 1048576) (hcl : cells xs ≤ 1048576) : Calls Tryd.prog 31 #[v] w (New 24 (Own 3 IntV) w xs) := by
  obtain ⟨a, cap, rfl, hcap, -, -, hc⟩ := hv
  go_enter Tryd.func31, Tryd.ntmps31
  go_wp2_with (first | (at_make; refine wpList_mk _ rfl _ _ 23 rfl 24 Tryd.underlying23 infoInts rfl (by decide) (R := Own 3 IntV) [] (Own.nil _ _ _ _) (rOwn rIntV) xs.length rfl rfl (by omega) ?_; intro w1 hown hbel hsz))
  have Hown : Own 24 (Own 3 IntV) (Iv w.heap.size w1.heap.size) w1 (.slice (some ⟨w.heap.size, 0, none⟩) xs.length xs.length) (xs.take 0 ++ List.replicate (xs.length - 0) []) := by simpa using hown.point (rOwn rIntV) (Nat.le_refl _) (by omega)
  clear hown hsz
  go_loopw [4] (fun i wr => ∃ k : Nat, k ≤ xs.length ∧ i = .int .i64 k ∧ Own 24 (Own 3 IntV) (Iv w.heap.size wr.heap.size) wr (.slice (some ⟨w.heap.size, 0, none⟩) xs.length xs.length) (xs.take k ++ List.replicate (xs.length - k) []) ∧ Below w.heap.size w wr) (fun i _ => xs.length - (intOf i).toNat)
  case atStart => exact ⟨0, Nat.zero_le _, rfl, Hown, hbel⟩
  case round =>
    clear Hown hbel
    obtain ⟨k, hk, rfl, hown, hbel⟩ := hrel
    have hBs := hbel.size
    by_cases hlt : k < xs.length
    · obtain ⟨b, off, rfl, hb, hc'⟩ := hc (by omega)
      obtain ⟨x, hx⟩ : ∃ x, xs[k]? = some x := ⟨_, List.getElem?_eq_getElem hlt⟩
      obtain ⟨u, hck, hu⟩ := hc' k x hx
      have hu : Ints w u x := hu
      have hur := hu.keep hbel
      have hct := cells_take hx
      have hcl2 := cells_take_le xs (k + 1)
      have hxl : x.length ≤ 1048576 := by omega
      have hl : (xs.take k ++ List.replicate (xs.length - k) ([] : List Int)).length = xs.length := by simp; omega
      rw [← hbel.cell (p := ⟨b, off + k, none⟩) hb] at hck
      have Hx := Lib.hid hx
      have Hl := Lib.hid hl
      have Hown := Lib.hid hown
      clear hx hc hc' hl hown hu hct
      go_wp2_with (fail)
      refine (toIntS_c _ _ _ hur (by omega)).mono ?_
      rintro e w2 ⟨v2, rfl, hown2, hbel2⟩
      have hs2 := hbel2.size
      obtain ⟨p1, p2, p3, rfl⟩ := hown2.shape
      have hown' := Own.keep (rOwn rIntV) Hown.out hbel2 (Nat.le_refl _)
      obtain ⟨y, hy⟩ : ∃ y, (xs.take k ++ List.replicate (xs.length - k) ([] : List Int))[k]? = some y := ⟨_, List.getElem?_eq_getElem (by rw [Hl.out]; exact hlt)⟩
      obtain ⟨hg, -, -, hf, T, u0, hcell0, -, -, hupd, -⟩ := hown'.focus (rOwn rIntV) hy
      have hnew := hupd _ _ (Iv wr.heap.size w2.heap.size) (Iv w.heap.size w2.heap.size) hown2 (fun b hb => ⟨⟨by have := hb.1; omega, hb.2⟩, by have := hb.1; have := hg.2; omega⟩) (fun b h1 h2 => by have := h1.1; have := h2.2; omega) (fun b h1 => ⟨h1.1, by have := h1.2; omega⟩)
      rw [set_copy' Hx.out] at hnew
      have Hnew := Lib.hid hnew
      have hbelw := hbel.trans_pure hbel2 (Nat.le_refl _)
      clear hown' hy hupd hnew hown2 Hown hg
      go_wp2
      go_roundw
      case rel => exact ⟨k + 1, by omega, by go_num, by rw [size_setCell]; exact Hnew.out, hbelw.setCell (Nat.le_refl _) _⟩
      case measure => simp [intOf]; omega
    · have Hown := Lib.hid hown
      clear hown
      go_wp2
      go_ret
      refine ⟨_, rfl, ?_, hbel⟩
      have h1 := Hown.out
      obtain rfl : k = xs.length := by omega
      simpa using h1
end Go.Proofs.YtlmjpmdkifoekaaDoor

namespace Go.Proofs.YtlmjpmdkifoekaaDoor
open Go.RowKit

theorem headD_of {α : Type} {l : List (List α)} {h : List α} (hh : l[0]? = some h) : l.headD [] = h := by
  cases l with
  | nil => simp at hh
  | cons a l => simpa using hh

set_option maxHeartbeats 400000 in
theorem gridOk_c (v : Value) (g : List (List Int)) (lo hi : Int) (w : World) (hv : Grid w v g) : Calls Tryd.prog 54 #[v, .int .i64 lo, .int .i64 hi] w fun e w' => e = .returned (.bool (gridOkB lo hi g)) ∧ w = w' := by
  obtain ⟨a, cap, rfl, hcap, hle, -, hc⟩ := hv
  cases hin : inR 1 5 g.length
  · have Hr := Lib.hid (show gridOkB lo hi g = false from by simp [gridOkB, hin])
    go_enter Tryd.func54, Tryd.ntmps54
    go_wp2_with (first | (go_at_call 69; refine (within_c _ _ _ _).mono ?_; rintro e w' ⟨rfl, rfl⟩))
    go_ret
    exact ⟨retB Hr.out.symm, rfl⟩
  have hb := inR_iff.1 hin
  obtain ⟨b, off, rfl, -, hc'⟩ := hc (by omega)
  obtain ⟨hd, hhd⟩ : ∃ hd, g[0]? = some hd := ⟨_, List.getElem?_eq_getElem (by omega)⟩
  obtain ⟨u0, hck0, hu0⟩ := hc' 0 hd hhd
  obtain ⟨a0, cap0, rfl, -⟩ := hu0
  rw [Nat.add_zero] at hck0
  have Hhd := Lib.hid (headD_of hhd)
  have Hin := Lib.hid hin
  clear hhd hb
  go_enter Tryd.func54, Tryd.ntmps54
  go_wp2_with (first | (go_at_call 69; refine (within_c _ _ _ _).mono ?_; rintro e w' ⟨rfl, rfl⟩))
  clear hin
  go_loop [8, 15] (fun _ i => ∃ k : Nat, k ≤ g.length ∧ i = .int .i64 k ∧ (g.take k).all (rowOk lo hi hd.length) = true) (fun _ i => g.length - (intOf i).toNat)
  case atStart => exact ⟨0, Nat.zero_le _, rfl, rfl⟩
  case round =>
    obtain ⟨k, hk, rfl, hall⟩ := hrel
    have Hall := Lib.hid hall; clear hall
    by_cases hlt : k < g.length
    · obtain ⟨r, hr⟩ : ∃ r, g[k]? = some r := ⟨_, List.getElem?_eq_getElem hlt⟩
      obtain ⟨u, hck, hu⟩ := hc' k r hr
      have hu : Ints w u r := hu
      obtain ⟨ar, capr, rfl, -⟩ := id hu
      have Hs := Lib.hid (all_take_step (rowOk lo hi hd.length) hr)
      have Hr := Lib.hid hr
      clear hr hc' hc
      by_cases hl : r.length = hd.length
      · have hl1 : r.length ≤ hd.length := by omega
        have hl2 : hd.length ≤ r.length := by omega
        have Hl := Lib.hid hl
        rw [hl] at hck hu
        clear hl
        cases hin : inR 1 5 hd.length
        · have Hf := Lib.hid (show rowOk lo hi hd.length r = false from by unfold rowOk; rw [Hl.out, hin]; simp)
          have Hg := Lib.hid (show gridOkB lo hi g = false from by unfold gridOkB; rw [Hhd.out, all_of_take _ Hr.out Hf.out]; simp)
          go_wp2_with (first | (go_at_call 69; refine (within_c _ _ _ _).mono ?_; rintro e w' ⟨rfl, rfl⟩))
          go_ret
          exact ⟨retB Hg.out.symm, rfl⟩
        · cases hal : r.all (inR lo hi)
          · have Hf := Lib.hid (show rowOk lo hi hd.length r = false from by unfold rowOk; rw [hal]; simp)
            have Hg := Lib.hid (show gridOkB lo hi g = false from by unfold gridOkB; rw [Hhd.out, all_of_take _ Hr.out Hf.out]; simp)
            go_wp2_with (first | (go_at_call 69; refine (within_c _ _ _ _).mono ?_; rintro e w' ⟨rfl, rfl⟩) | (go_at_call 98; refine (allWithin_c _ _ _ _ _ hu).mono ?_; rintro e w' ⟨rfl, rfl⟩))
            go_ret
            exact ⟨retB Hg.out.symm, rfl⟩
          · have Hf := Lib.hid (show rowOk lo hi hd.length r = true from by unfold rowOk; rw [hal, Hl.out, hin]; simp)
            go_wp2_with (first | (go_at_call 69; refine (within_c _ _ _ _).mono ?_; rintro e w' ⟨rfl, rfl⟩) | (go_at_call 98; refine (allWithin_c _ _ _ _ _ hu).mono ?_; rintro e w' ⟨rfl, rfl⟩))
            go_round
            case rel => exact ⟨k + 1, by omega, by go_num, by rw [Hs.out, Hall.out, Hf.out]; rfl⟩
            case measure => simp [intOf]; omega
      · have Hf := Lib.hid (show rowOk lo hi hd.length r = false from by unfold rowOk; simp [hl])
        have Hg := Lib.hid (show gridOkB lo hi g = false from by unfold gridOkB; rw [Hhd.out, all_of_take _ Hr.out Hf.out]; simp)
        have hne : ((r.length : Int) == (hd.length : Int)) = false := by rw [beq_eq_false_iff_ne]; omega
        go_wp2_with (first | (go_at_call 69; refine (within_c _ _ _ _).mono ?_; rintro e w' ⟨rfl, rfl⟩) | (go_at_call 98; refine (allWithin_c _ _ _ _ _ hu).mono ?_; rintro e w' ⟨rfl, rfl⟩))
        go_ret
        exact ⟨retB Hg.out.symm, rfl⟩
    · have Hg := Lib.hid (show gridOkB lo hi g = true from by unfold gridOkB; rw [Hhd.out, Hin.out, all_done Hall.out (by omega)]; rfl)
      go_wp2
      go_ret
      exact ⟨retB Hg.out.symm, rfl⟩
theorem ImageOk_i (v : Value) (g : List (List Int)) (w : World) (hv : Grid w v g) : Calls Tryd.prog 55 #[v] w fun e w' => e = .returned (.bool (imageOk g)) ∧ w = w' := by
  go_enter Tryd.func55, Tryd.ntmps55
  go_wp2_with (fail)
  refine (gridOk_c _ _ _ _ _ hv).mono ?_
  rintro e w' ⟨rfl, rfl⟩
  go_wp2
  go_ret
  exact ⟨rfl, rfl⟩

set_option maxHeartbeats 800000 in
theorem ImageOk_s (v : Value) (g : List (List Int)) (w : World) (hv : Grid w v g) : Calls Tryd.prog 96 #[v] w fun e w' => e = .returned (.bool (imageOk g)) ∧ w = w' := by
  obtain ⟨a, cap, rfl, hcap, hle, -, hc⟩ := hv
  cases hin : inR 1 5 g.length
  · have Hr := Lib.hid (show imageOk g = false from by simp [imageOk, gridOkB, hin])
    go_enter Tryd.func96, Tryd.ntmps96
    go_wp2_with (first | (go_at_call 127; refine (l01In_c _ _ _ _).mono ?_; rintro e w' ⟨rfl, rfl⟩))
    go_ret
    exact ⟨retB Hr.out.symm, rfl⟩
  have hb := inR_iff.1 hin
  obtain ⟨b, off, rfl, -, hc'⟩ := hc (by omega)
  obtain ⟨hd, hhd⟩ : ∃ hd, g[0]? = some hd := ⟨_, List.getElem?_eq_getElem (by omega)⟩
  obtain ⟨u0, hck0, hu0⟩ := hc' 0 hd hhd
  obtain ⟨a0, cap0, rfl, -⟩ := hu0
  rw [Nat.add_zero] at hck0
  have Hhd := Lib.hid (headD_of hhd)
  have Hhd0 := Lib.hid hhd
  have hpos : 0 < g.length := by omega
  clear hhd hb
  cases hinh : inR 1 5 hd.length
  · have Hf := Lib.hid (show rowOk 0 1 hd.length hd = false from by unfold rowOk; rw [hinh]; simp)
    have Hg := Lib.hid (show imageOk g = false from by unfold imageOk gridOkB; rw [Hhd.out, all_of_take _ Hhd0.out Hf.out]; simp)
    go_enter Tryd.func96, Tryd.ntmps96
    go_wp2_with (first | (go_at_call 127; refine (l01In_c _ _ _ _).mono ?_; rintro e w' ⟨rfl, rfl⟩))
    go_ret
    exact ⟨retB Hg.out.symm, rfl⟩
  have Hin := Lib.hid hin
  have Hinh := Lib.hid hinh
  go_enter Tryd.func96, Tryd.ntmps96
  go_wp2_with (first | (go_at_call 127; refine (l01In_c _ _ _ _).mono ?_; rintro e w' ⟨rfl, rfl⟩))
  clear hin hinh
  go_loop [4, 6, 21] (fun _ _ i => ∃ k : Nat, k ≤ g.length ∧ i = .int .i64 k ∧ (g.take k).all (rowOk 0 1 hd.length) = true) (fun _ _ i => g.length - (intOf i).toNat)
  case atStart => exact ⟨0, Nat.zero_le _, rfl, rfl⟩
  case round =>
    obtain ⟨k, hk, rfl, hall⟩ := hrel
    have Hall := Lib.hid hall; clear hall
    by_cases hlt : k < g.length
    · obtain ⟨r, hr⟩ : ∃ r, g[k]? = some r := ⟨_, List.getElem?_eq_getElem hlt⟩
      obtain ⟨u, hck, hu⟩ := hc' k r hr
      obtain ⟨ar, capr, rfl, hcapr, hler, -, hcr⟩ := hu
      have Hs := Lib.hid (all_take_step (rowOk 0 1 hd.length) hr)
      have Hr := Lib.hid hr
      clear hr hc' hc
      by_cases hl : r.length = hd.length
      · have hl1 : r.length ≤ hd.length := by omega
        have hl2 : hd.length ≤ r.length := by omega
        have Hl := Lib.hid hl
        clear hl
        have hdk : decide ((k : Int) < (g.length : Int)) = true := by simp; omega
        go_wp2
        go_loop [6, 34] (fun _ i => ∃ j : Nat, j ≤ r.length ∧ i = .int .i64 j ∧ (r.take j).all (inR 0 1) = true) (fun _ i => r.length - (intOf i).toNat)
        case atStart => exact ⟨0, Nat.zero_le _, rfl, rfl⟩
        case round =>
          obtain ⟨j, hj, rfl, hall2⟩ := hrel
          have Hall2 := Lib.hid hall2; clear hall2
          by_cases hltj : j < r.length
          · obtain ⟨br, offr, rfl, -, hcc⟩ := hcr (by omega)
            obtain ⟨x, hx⟩ : ∃ x, r[j]? = some x := ⟨_, List.getElem?_eq_getElem hltj⟩
            obtain ⟨ux, hcx, rfl, -⟩ := hcc j x hx
            have Hs2 := Lib.hid (all_take_step (inR 0 1) hx)
            have Hx := Lib.hid hx
            clear hx hcc hcr
            by_cases h0 : x = 0
            · subst h0
              go_wp2
              go_round
              case rel => exact ⟨j + 1, by omega, by go_num, by rw [Hs2.out, Hall2.out]; rfl⟩
              case measure => simp [intOf]; omega
            · by_cases h1 : x = 1
              · subst h1
                go_wp2
                go_round
                case rel => exact ⟨j + 1, by omega, by go_num, by rw [Hs2.out, Hall2.out]; rfl⟩
                case measure => simp [intOf]; omega
              · have hxf : inR 0 1 x = false := by simp [inR]; omega
                have Hf := Lib.hid (show rowOk 0 1 hd.length r = false from by unfold rowOk; rw [all_of_take _ Hx.out hxf]; simp)
                have Hg := Lib.hid (show imageOk g = false from by unfold imageOk gridOkB; rw [Hhd.out, all_of_take _ Hr.out Hf.out]; simp)
                have hn0 : (x == 0) = false := by simpa using h0
                have hn1 : (x == 1) = false := by simpa using h1
                go_wp2
                go_ret
                exact ⟨retB Hg.out.symm, rfl⟩
          · have Hf := Lib.hid (show rowOk 0 1 hd.length r = true from by unfold rowOk; rw [all_done Hall2.out (by omega), Hl.out, Hinh.out]; simp)
            go_wp2
            go_round
            case rel => exact ⟨k + 1, by omega, by go_num, by rw [Hs.out, Hall.out, Hf.out]; rfl⟩
            case measure => simp [intOf]; omega
      · have Hf := Lib.hid (show rowOk 0 1 hd.length r = false from by unfold rowOk; simp [hl])
        have Hg := Lib.hid (show imageOk g = false from by unfold imageOk gridOkB; rw [Hhd.out, all_of_take _ Hr.out Hf.out]; simp)
        have hne : ((r.length : Int) == (hd.length : Int)) = false := by rw [beq_eq_false_iff_ne]; omega
        go_wp2
        go_ret
        exact ⟨retB Hg.out.symm, rfl⟩
    · have Hg := Lib.hid (show imageOk g = true from by unfold imageOk gridOkB; rw [Hhd.out, Hin.out, all_done Hall.out (by omega)]; rfl)
      go_wp2
      go_ret
      exact ⟨retB Hg.out.symm, rfl⟩
end Go.Proofs.YtlmjpmdkifoekaaDoor

namespace Go.Proofs.YtlmjpmdkifoekaaDoor
open Go.RowKit

/-- rows and columns exchanged, so far as the first y rows and x cells of the next one go -/
def trTo (m : List (List Int)) (r c y x : Nat) : List (List Int) := (List.range c).map fun j => (List.range r).map fun i => if i < y ∨ (i = y ∧ j < x) then (m.getD i []).getD j 0 else 0
def tr (m : List (List Int)) : List (List Int) := (List.range (m.headD []).length).map fun j => (List.range m.length).map fun i => (m.getD i []).getD j 0
def trOf (m : List (List Int)) : List (List Int) := if imageOk m then tr m else []
def rowSumsOf (m : List (List Int)) : List Int := if imageOk m then m.map sumL else []
def colSumsOf (m : List (List Int)) : List Int := rowSumsOf (trOf m)

theorem trTo_zero (m : List (List Int)) (r c : Nat) : trTo m r c 0 0 = zeros c r := by
  simp [trTo, zeros, List.map_const']
theorem trTo_next (m : List (List Int)) (r c y : Nat) : trTo m r c y c = trTo m r c (y + 1) 0 := by
  unfold trTo
  apply List.map_congr_left
  intro j hj
  apply List.map_congr_left
  intro i _
  rw [List.mem_range] at hj
  have : (i < y ∨ i = y ∧ j < c) ↔ (i < y + 1 ∨ i = y + 1 ∧ j < 0) := by omega
  simp only [this]
theorem trTo_all (m : List (List Int)) (r c : Nat) (hr : m.length = r) (hc : (m.headD []).length = c) : trTo m r c r 0 = tr m := by
  unfold trTo tr
  rw [hr, hc]
  apply List.map_congr_left
  intro j _
  apply List.map_congr_left
  intro i hi
  rw [List.mem_range] at hi
  rw [if_pos (.inl hi)]
theorem trTo_row {m : List (List Int)} {r c y x : Nat} (hx : x < c) : (trTo m r c y x)[x]? = some ((List.range r).map fun i => if i < y ∨ (i = y ∧ x < x) then (m.getD i []).getD x 0 else 0) := by
  simp [trTo, hx]
theorem trTo_set {m : List (List Int)} {r c y x : Nat} {row : List Int} {z : Int} {q : List Int} (hx : x < c) (hy : y < r) (hrow : m[y]? = some row) (hz : row[x]? = some z) (hq : (trTo m r c y x)[x]? = some q) : (trTo m r c y x).set x (q.set y z) = trTo m r c y (x + 1) := by
  rw [trTo_row hx] at hq
  obtain rfl := Option.some.inj hq
  apply List.ext_getElem?
  intro j
  rw [List.getElem?_set]
  by_cases hj : x = j
  · subst hj
    simp only [if_true]
    have hl : x < (trTo m r c y x).length := by simp [trTo, hx]
    rw [if_pos hl]
    simp only [trTo, List.getElem?_map, List.getElem?_range hx, Option.map_some]
    congr 1
    apply List.ext_getElem?
    intro i
    rw [List.getElem?_set]
    by_cases hi : y = i
    · subst hi
      simp [hy, hrow, hz, List.getD]
    · rw [if_neg hi]
      by_cases hir : i < r
      · simp only [List.getElem?_map, List.getElem?_range hir, Option.map_some]
        have : (i < y ∨ i = y ∧ x < x) ↔ (i < y ∨ i = y ∧ x < x + 1) := by omega
        simp only [this]
      · rw [List.getElem?_eq_none (by simpa using hir), List.getElem?_eq_none (by simpa using hir)]
  · rw [if_neg hj]
    by_cases hjc : j < c
    · simp only [trTo, List.getElem?_map, List.getElem?_range hjc, Option.map_some]
      congr 1
      apply List.map_congr_left
      intro i _
      have : (i < y ∨ i = y ∧ j < x) ↔ (i < y ∨ i = y ∧ j < x + 1) := by omega
      simp only [this]
    · rw [List.getElem?_eq_none (by simpa [trTo] using hjc), List.getElem?_eq_none (by simpa [trTo] using hjc)]
theorem trTo_len (m : List (List Int)) (r c y x : Nat) : (trTo m r c y x).length = c := by simp [trTo]
theorem Shape.head {r c : Nat} {m : List (List Int)} (h : Shape r c m) (h1 : 1 ≤ r) : (m.headD []).length = c := by
  obtain ⟨row, hr, hl, -⟩ := h.row (y := 0) (by omega)
  rw [headD_of hr, hl]
theorem Shape.tr {r c : Nat} {m : List (List Int)} (h : Shape r c m) (h1 : 1 ≤ r) : Shape c r (tr m) := by
  refine ⟨by simp only [Go.Proofs.YtlmjpmdkifoekaaDoor.tr, h.head h1, List.length_map, List.length_range], fun row hrow => ?_⟩
  simp only [Go.Proofs.YtlmjpmdkifoekaaDoor.tr, List.mem_map, List.mem_range] at hrow
  obtain ⟨j, _, rfl⟩ := hrow
  refine ⟨by simp [h.1], fun z hz => ?_⟩
  simp only [List.mem_map, List.mem_range] at hz
  obtain ⟨i, hi, rfl⟩ := hz
  obtain ⟨row, hrow, -, hb⟩ := h.row (y := i) (by rw [← h.1]; exact hi)
  simp only [List.getD, hrow, Option.getD_some]
  cases hzz : row[j]? with
  | none => simp
  | some z => simpa using hb z (List.mem_of_getElem? hzz)
theorem imageOk_tr {m : List (List Int)} (h : imageOk m = true) : imageOk (tr m) = true := by
  obtain ⟨r, c, h1, h2, h3, h4, hs⟩ := imageOk_shape h
  exact (hs.tr h1).ok h3 h4 h1 h2
theorem tr_at {m : List (List Int)} {r c : Nat} (h : Shape r c m) (h1 : 1 ≤ r) {j : Nat} (hj : j < c) : (tr m)[j]? = some ((List.range r).map fun i => (m.getD i []).getD j 0) := by
  simp only [tr, h.head h1, h.1]
  simp [hj]
theorem Shape.ext {r c : Nat} {a b : List (List Int)} (ha : Shape r c a) (hb : Shape r c b) (h : ∀ y x, y < r → x < c → (a.getD y []).getD x 0 = (b.getD y []).getD x 0) : a = b := by
  apply List.ext_getElem?
  intro y
  by_cases hy : y < r
  · obtain ⟨p, hp, hpl, -⟩ := ha.row hy
    obtain ⟨q, hq, hql, -⟩ := hb.row hy
    rw [hp, hq]
    congr 1
    apply List.ext_getElem?
    intro x
    by_cases hx : x < c
    · have := h y x hy hx
      simp only [List.getD, hp, hq, Option.getD_some] at this
      rw [List.getElem?_eq_getElem (by omega), List.getElem?_eq_getElem (by omega)] at this ⊢
      simpa using this
    · rw [List.getElem?_eq_none (by omega), List.getElem?_eq_none (by omega)]
  · rw [List.getElem?_eq_none (by rw [ha.1]; omega), List.getElem?_eq_none (by rw [hb.1]; omega)]
theorem tr_cell {m : List (List Int)} {r c : Nat} (h : Shape r c m) (h1 : 1 ≤ r) {j i : Nat} (hj : j < c) (hi : i < r) : ((tr m).getD j []).getD i 0 = (m.getD i []).getD j 0 := by
  simp only [List.getD, tr_at h h1 hj, Option.getD_some]
  simp [hi]
theorem tr_tr {m : List (List Int)} {r c : Nat} (h : Shape r c m) (h1 : 1 ≤ r) (h2 : 1 ≤ c) : tr (tr m) = m := by
  refine ((h.tr h1).tr h2).ext h fun y x hy hx => ?_
  rw [tr_cell (h.tr h1) h2 hy hx, tr_cell h h1 hx hy]
theorem rowSumsOf_len (m : List (List Int)) : (rowSumsOf m).length ≤ 5 := by
  unfold rowSumsOf
  split
  · rename_i h
    obtain ⟨r, c, -, h2, -, -, hs⟩ := imageOk_shape h
    simp [hs.1, h2]
  · simp
theorem Shape.small {r c : Nat} {m : List (List Int)} (h : Shape r c m) (hc : c ≤ 5) {row : List Int} (hr : row ∈ m) : Small row := by
  obtain ⟨e, hb⟩ := h.2 row hr
  exact ⟨by omega, fun x hx => by have := hb x hx; omega⟩
theorem Shape.sum_bd {r c : Nat} {m : List (List Int)} (h : Shape r c m) {row : List Int} (hr : row ∈ m) : ∀ k, k ≤ row.length → 0 ≤ sumL (row.take k) ∧ sumL (row.take k) ≤ k := by
  obtain ⟨e, hb⟩ := h.2 row hr
  intro k
  induction k with
  | zero => intro _; simp [sumL]
  | succ k ih =>
    intro hk
    have h1 := ih (by omega)
    rw [sumL_take (List.getElem?_eq_getElem (show k < row.length by omega))]
    have := hb _ (List.getElem_mem (show k < row.length by omega))
    omega
theorem Shape.sum_bd' {r c : Nat} {m : List (List Int)} (h : Shape r c m) {row : List Int} (hr : row ∈ m) : 0 ≤ sumL row ∧ sumL row ≤ row.length := by
  have := h.sum_bd hr row.length (Nat.le_refl _)
  rwa [sumL_done (Nat.le_refl _)] at this

set_option maxHeartbeats 400000 in
theorem newGrid_c (r c : Nat) (w : World) (hr : r ≤ 1048576) (hc : c ≤ 1048576) : Calls Tryd.prog 67 #[.int .i64 r, .int .i64 c] w (New 24 (Own 3 IntV) w (zeros r c)) := by
  go_enter Tryd.func67, Tryd.ntmps67
  go_wp2
  go_loopw [5, 6] (fun v i wr => ∃ k : Nat, k ≤ r ∧ i = .int .i64 k ∧ Own 24 (Own 3 IntV) (Iv w.heap.size wr.heap.size) wr v (zeros k c) ∧ Below w.heap.size w wr) (fun _ i _ => r - (intOf i).toNat)
  case atStart => exact ⟨0, Nat.zero_le _, rfl, Own.nil _ _ _ _, Below.refl _ _⟩
  case round =>
    obtain ⟨k, hk, rfl, hown, hbel⟩ := hrel
    have hBs := hbel.size
    have Hown := Lib.hid hown; clear hown
    by_cases hlt : k < r
    · have hkl : (zeros k c).length < 1099511627776 := by simp [zeros]; omega
      go_wp2_with (first | (at_make; refine wpList_mk _ rfl _ _ 24 rfl 3 Tryd.underlying24 infoInt rfl (by decide) (R := IntV) 0 ⟨rfl, I64.small (by decide) (by decide)⟩ rIntV c rfl rfl (by omega) ?_; intro w1 hown1 hbel1 hsz1; have Hsz1 := Lib.hid hsz1; clear hsz1) | (at_builtin; (refine wpList_appR rfl _ _ 23 rfl (rOwn rIntV) 24 Tryd.underlying23 infoInts rfl (by decide) w.heap.size wr.heap.size hBs hbel1.size rfl rfl (by exact Own.keep (rOwn rIntV) Hown.out hbel1 (Nat.le_refl _)) (by exact hown1.point rIntV (Nat.le_refl _) (by rw [Hsz1.out]; omega)) hkl ?_); intro v2 w2 hown2 hbel2 _) | fail)
      have hb2 := (hbel.trans (hbel1.mono hBs)).trans hbel2
      have Hown2 := Lib.hid hown2; clear hown2
      go_wp2
      go_roundw
      case rel => exact ⟨k + 1, by omega, by go_num, by simpa [zeros, List.replicate_succ'] using Hown2.out, hb2⟩
      case measure => simp [intOf]; omega
    · go_wp2
      go_ret
      obtain rfl : k = r := by omega
      exact ⟨_, rfl, Hown.out, hbel⟩

set_option maxHeartbeats 1000000 in
theorem TransposeOf_i (v : Value) (m : List (List Int)) (w : World) (hv : Grid w v m) : Calls Tryd.prog 57 #[v] w (New 24 (Own 3 IntV) w (trOf m)) := by
  have Hv := Lib.hid hv
  obtain ⟨a, cap0, rfl, hcap, hle, -, hc⟩ := hv
  cases hok : imageOk m
  · have Hr := Lib.hid (show trOf m = [] from by simp [trOf, hok])
    have Hok := Lib.hid hok; clear hok
    go_enter Tryd.func57, Tryd.ntmps57
    go_wp2_with (fail)
    refine (ImageOk_i _ _ _ Hv.out).mono ?_
    rintro e w' ⟨rfl, rfl⟩
    rw [Hok.out]
    go_wp2
    go_ret
    exact ⟨_, rfl, by rw [Hr.out]; exact Own.nil _ _ _ _, Below.refl _ _⟩
  have Hr := Lib.hid (show trOf m = tr m from by simp [trOf, hok])
  obtain ⟨r, c, hr1, hr5, hc1, hc5, hsh⟩ := imageOk_shape hok
  have hml : m.length = r := hsh.1
  have Hml := Lib.hid hml
  have Hhead := Lib.hid (hsh.head hr1)
  obtain ⟨row0, hrow0, hrl0, -⟩ := hsh.row (y := 0) (by omega)
  obtain ⟨b, off, rfl, hb, hc'⟩ := hc (by omega)
  obtain ⟨u0, hck0, hu0⟩ := hc' 0 row0 hrow0
  obtain ⟨a0, cp0, rfl, -⟩ := hu0
  rw [hrl0, Nat.add_zero] at hck0
  rw [hml] at hcap hle ⊢
  have Hok := Lib.hid hok
  have Hv := Hv
  rw [hml] at Hv
  clear hc hc' hrow0 hrl0 hml hok
  go_enter Tryd.func57, Tryd.ntmps57
  go_wp2_with (fail)
  refine (ImageOk_i _ _ _ Hv.out).mono ?_
  rintro e w' ⟨rfl, rfl⟩
  rw [Hok.out]
  go_wp2_with (fail)
  refine (newGrid_c c r _ (by omega) (by omega)).mono ?_
  rintro e w1 ⟨v1, rfl, hown, hbel⟩
  have hs1 := hbel.size
  obtain ⟨G, cap, rfl, hG, hcapG, hGs, -⟩ := hown.inv_ne (by simp [zeros]; omega)
  have hzl : (zeros c r).length = c := by simp [zeros]
  rw [hzl] at hcapG hown ⊢
  rw [← trTo_zero m r c] at hown
  have Hown := Lib.hid hown
  clear hown hzl
  go_wp2
  go_loopw [4, 5, 6, 7, 20] (fun _ _ _ _ i wr => ∃ k : Nat, k ≤ r ∧ i = .int .i64 k ∧ Own 24 (Own 3 IntV) (Iv w.heap.size w1.heap.size) wr (.slice (some ⟨G, 0, none⟩) c cap) (trTo m r c k 0) ∧ Below w.heap.size w wr ∧ w1.heap.size ≤ wr.heap.size) (fun _ _ _ _ i _ => r - (intOf i).toNat)
  case atStart => exact ⟨0, Nat.zero_le _, rfl, Hown.out, hbel, Nat.le_refl _⟩
  case round =>
    clear Hown hbel
    obtain ⟨k, hk, rfl, hown, hbel, hsz⟩ := hrel
    by_cases hlt : k < r
    · obtain ⟨row, hrow, hrl, hrb⟩ := hsh.row hlt
      obtain ⟨u, hck, hu⟩ := Sl.at Hv.out hrow
      have hu : Ints w u row := hu
      obtain ⟨br, offr, cpr, rfl, hbr, hat⟩ := hu.inv_ne (by omega)
      rw [← hbel.cell (p := ⟨b, off + k, none⟩) hb] at hck
      rw [hrl] at hck hu
      have Hown := Lib.hid hown
      have Hrow := Lib.hid hrow
      have Hrl := Lib.hid hrl
      have Hu := Lib.hid hu
      clear hown hrow hrl hu
      have hdec : decide ((k : Int) < (r : Int)) = true := by simp; omega
      go_wp2
      obtain ⟨wo, hwo⟩ : ∃ wo : World, wo = wr := ⟨_, rfl⟩
      clear hck
      go_loopw [6, 7, 27] (fun _ _ i wr => ∃ j : Nat, j ≤ c ∧ i = .int .i64 j ∧ Own 24 (Own 3 IntV) (Iv w.heap.size w1.heap.size) wr (.slice (some ⟨G, 0, none⟩) c cap) (trTo m r c k j) ∧ Below w.heap.size w wr ∧ w1.heap.size ≤ wr.heap.size) (fun _ _ i _ => c - (intOf i).toNat)
      case atStart => exact ⟨0, Nat.zero_le _, rfl, Hown.out, hbel, hsz⟩
      case round =>
        clear Hown hbel hsz hwo
        obtain ⟨j, hj, rfl, hown, hbel, hsz⟩ := hrel
        by_cases hltj : j < c
        · obtain ⟨z, hz⟩ : ∃ z, row[j]? = some z := ⟨_, List.getElem?_eq_getElem (by rw [Hrl.out]; exact hltj)⟩
          have hzb := hrb z (List.mem_of_getElem? hz)
          have hcz := Ints.at Hu.out hz
          rw [← hbel.cell (p := ⟨br, offr + j, none⟩) hbr] at hcz
          have hq := trTo_row (m := m) (r := r) (c := c) (y := k) hltj
          obtain ⟨q, cq, hcell, -, hSq, hqG, hcq, hx, -, hset⟩ := own_grid_cell hown hq (by simp; omega)
          have hql : ((List.range r).map fun i => if i < k ∨ (i = k ∧ j < j) then (m.getD i []).getD j 0 else 0).length = r := by simp
          rw [hql] at hcell hcq hx
          obtain ⟨⟨o, hco⟩, hfo⟩ := hx k hlt
          have hnew := hset wr (fun _ _ => rfl) k z (by rw [hql]; exact hlt) (I64.small (by omega) (by omega))
          rw [trTo_set hltj hlt Hrow.out hz hq] at hnew
          have Hnew := Lib.hid hnew
          have hqs := hSq.1
          clear hown hz hq hx hset hql hnew
          go_wp2
          go_roundw
          case rel => exact ⟨j + 1, by omega, by go_num, Hnew.out, hbel.setCell hqs _, by rw [size_setCell]; exact hsz⟩
          case measure => simp [intOf]; omega
        · obtain rfl : j = c := by omega
          rw [trTo_next] at hown
          have Hown := Lib.hid hown
          clear hown
          go_wp2
          go_roundw
          case rel => exact ⟨k + 1, by omega, by go_num, Hown.out, hbel, hsz⟩
          case measure => simp [intOf]; omega
    · have Hown := Lib.hid hown
      clear hown
      go_wp2
      go_ret
      obtain rfl : k = r := by omega
      refine ⟨_, rfl, ?_, hbel⟩
      rw [Hr.out, ← trTo_all m k c Hml.out Hhead.out]
      exact (rOwn (rOwn rIntV)).mono (fun b hb => ⟨hb.1, Nat.lt_of_lt_of_le hb.2 hsz⟩) Hown.out
set_option maxHeartbeats 1000000 in
theorem TransposeOf_s (v : Value) (m : List (List Int)) (w : World) (hv : Grid w v m) : Calls Tryd.prog 97 #[v] w (New 24 (Own 3 IntV) w (trOf m)) := by
  have Hv := Lib.hid hv
  obtain ⟨a, cap0, rfl, hcap, hle, -, hc⟩ := hv
  cases hok : imageOk m
  · have Hr := Lib.hid (show trOf m = [] from by simp [trOf, hok])
    have Hok := Lib.hid hok; clear hok
    go_enter Tryd.func97, Tryd.ntmps97
    go_wp2_with (fail)
    refine (ImageOk_s _ _ _ Hv.out).mono ?_
    rintro e w' ⟨rfl, rfl⟩
    rw [Hok.out]
    go_wp2
    go_ret
    exact ⟨_, rfl, by rw [Hr.out]; exact Own.nil _ _ _ _, Below.refl _ _⟩
  have Hr := Lib.hid (show trOf m = tr m from by simp [trOf, hok])
  obtain ⟨r, c, hr1, hr5, hc1, hc5, hsh⟩ := imageOk_shape hok
  have hml : m.length = r := hsh.1
  have Hml := Lib.hid hml
  have Hhead := Lib.hid (hsh.head hr1)
  obtain ⟨row0, hrow0, hrl0, -⟩ := hsh.row (y := 0) (by omega)
  obtain ⟨b, off, rfl, hb, hc'⟩ := hc (by omega)
  obtain ⟨u0, hck0, hu0⟩ := hc' 0 row0 hrow0
  obtain ⟨a0, cp0, rfl, -⟩ := hu0
  rw [hrl0, Nat.add_zero] at hck0
  rw [hml] at hcap hle ⊢
  have Hok := Lib.hid hok
  have Hv := Hv
  rw [hml] at Hv
  clear hc hc' hrow0 hrl0 hml hok
  go_enter Tryd.func97, Tryd.ntmps97
  go_wp2_with (fail)
  refine (ImageOk_s _ _ _ Hv.out).mono ?_
  rintro e w' ⟨rfl, rfl⟩
  rw [Hok.out]
  go_wp2_with (fail)
  refine (l02Empty_c c r _ (by omega) (by omega)).mono ?_
  rintro e w1 ⟨v1, rfl, hown, hbel⟩
  have hs1 := hbel.size
  obtain ⟨G, cap, rfl, hG, hcapG, hGs, -⟩ := hown.inv_ne (by simp [zeros]; omega)
  have hzl : (zeros c r).length = c := by simp [zeros]
  rw [hzl] at hcapG hown ⊢
  rw [← trTo_zero m r c] at hown
  have Hown := Lib.hid hown
  clear hown hzl
  go_wp2
  go_loopw [4, 5, 6, 7, 20] (fun _ _ _ _ i wr => ∃ k : Nat, k ≤ r ∧ i = .int .i64 k ∧ Own 24 (Own 3 IntV) (Iv w.heap.size w1.heap.size) wr (.slice (some ⟨G, 0, none⟩) c cap) (trTo m r c k 0) ∧ Below w.heap.size w wr ∧ w1.heap.size ≤ wr.heap.size) (fun _ _ _ _ i _ => r - (intOf i).toNat)
  case atStart => exact ⟨0, Nat.zero_le _, rfl, Hown.out, hbel, Nat.le_refl _⟩
  case round =>
    clear Hown hbel
    obtain ⟨k, hk, rfl, hown, hbel, hsz⟩ := hrel
    by_cases hlt : k < r
    · obtain ⟨row, hrow, hrl, hrb⟩ := hsh.row hlt
      obtain ⟨u, hck, hu⟩ := Sl.at Hv.out hrow
      have hu : Ints w u row := hu
      obtain ⟨br, offr, cpr, rfl, hbr, hat⟩ := hu.inv_ne (by omega)
      rw [← hbel.cell (p := ⟨b, off + k, none⟩) hb] at hck
      rw [hrl] at hck hu
      have Hown := Lib.hid hown
      have Hrow := Lib.hid hrow
      have Hrl := Lib.hid hrl
      have Hu := Lib.hid hu
      clear hown hrow hrl hu
      have hdec : decide ((k : Int) < (r : Int)) = true := by simp; omega
      go_wp2
      obtain ⟨wo, hwo⟩ : ∃ wo : World, wo = wr := ⟨_, rfl⟩
      clear hck
      go_loopw [6, 7, 27] (fun _ _ i wr => ∃ j : Nat, j ≤ c ∧ i = .int .i64 j ∧ Own 24 (Own 3 IntV) (Iv w.heap.size w1.heap.size) wr (.slice (some ⟨G, 0, none⟩) c cap) (trTo m r c k j) ∧ Below w.heap.size w wr ∧ w1.heap.size ≤ wr.heap.size) (fun _ _ i _ => c - (intOf i).toNat)
      case atStart => exact ⟨0, Nat.zero_le _, rfl, Hown.out, hbel, hsz⟩
      case round =>
        clear Hown hbel hsz hwo
        obtain ⟨j, hj, rfl, hown, hbel, hsz⟩ := hrel
        by_cases hltj : j < c
        · obtain ⟨z, hz⟩ : ∃ z, row[j]? = some z := ⟨_, List.getElem?_eq_getElem (by rw [Hrl.out]; exact hltj)⟩
          have hzb := hrb z (List.mem_of_getElem? hz)
          have hcz := Ints.at Hu.out hz
          rw [← hbel.cell (p := ⟨br, offr + j, none⟩) hbr] at hcz
          have hq := trTo_row (m := m) (r := r) (c := c) (y := k) hltj
          obtain ⟨q, cq, hcell, -, hSq, hqG, hcq, hx, -, hset⟩ := own_grid_cell hown hq (by simp; omega)
          have hql : ((List.range r).map fun i => if i < k ∨ (i = k ∧ j < j) then (m.getD i []).getD j 0 else 0).length = r := by simp
          rw [hql] at hcell hcq hx
          obtain ⟨⟨o, hco⟩, hfo⟩ := hx k hlt
          have hnew := hset wr (fun _ _ => rfl) k z (by rw [hql]; exact hlt) (I64.small (by omega) (by omega))
          rw [trTo_set hltj hlt Hrow.out hz hq] at hnew
          have Hnew := Lib.hid hnew
          have hqs := hSq.1
          clear hown hz hq hx hset hql hnew
          go_wp2
          go_roundw
          case rel => exact ⟨j + 1, by omega, by go_num, Hnew.out, hbel.setCell hqs _, by rw [size_setCell]; exact hsz⟩
          case measure => simp [intOf]; omega
        · obtain rfl : j = c := by omega
          rw [trTo_next] at hown
          have Hown := Lib.hid hown
          clear hown
          go_wp2
          go_roundw
          case rel => exact ⟨k + 1, by omega, by go_num, Hown.out, hbel, hsz⟩
          case measure => simp [intOf]; omega
    · have Hown := Lib.hid hown
      clear hown
      go_wp2
      go_ret
      obtain rfl : k = r := by omega
      refine ⟨_, rfl, ?_, hbel⟩
      rw [Hr.out, ← trTo_all m k c Hml.out Hhead.out]
      exact (rOwn (rOwn rIntV)).mono (fun b hb => ⟨hb.1, Nat.lt_of_lt_of_le hb.2 hsz⟩) Hown.out
end Go.Proofs.YtlmjpmdkifoekaaDoor

namespace Go.Proofs.YtlmjpmdkifoekaaDoor
open Go.RowKit

theorem map_take_snoc {m : List (List Int)} {k : Nat} {row : List Int} (h : m[k]? = some row) : (m.take (k + 1)).map sumL = (m.take k).map sumL ++ [sumL row] := by
  rw [List.take_add_one, h]; simp
theorem rowSums_done {m : List (List Int)} {k : Nat} (h : imageOk m = true) (hk : m.length ≤ k) : (m.take k).map sumL = rowSumsOf m := by
  rw [List.take_of_length_le hk, rowSumsOf, if_pos h]

set_option maxHeartbeats 400000 in
theorem RowSums_i (v : Value) (m : List (List Int)) (w : World) (hv : Grid w v m) : Calls Tryd.prog 15 #[v] w (New 3 IntV w (rowSumsOf m)) := by
  have Hv := Lib.hid hv
  obtain ⟨a, cap0, rfl, hcap, hle, -, hc⟩ := hv
  cases hok : imageOk m
  · have Hr := Lib.hid (show rowSumsOf m = [] from by simp [rowSumsOf, hok])
    have Hok := Lib.hid hok; clear hok
    go_enter Tryd.func15, Tryd.ntmps15
    go_wp2_with (fail)
    refine (ImageOk_i _ _ _ Hv.out).mono ?_
    rintro e w' ⟨rfl, rfl⟩
    rw [Hok.out]
    go_wp2
    go_ret
    exact ⟨_, rfl, by rw [Hr.out]; exact Own.nil _ _ _ _, Below.refl _ _⟩
  obtain ⟨r, c, hr1, hr5, hc1, hc5, hsh⟩ := imageOk_shape hok
  have hml : m.length ≤ 5 := by have := hsh.1; omega
  have hml1 : 1 ≤ m.length := by have := hsh.1; omega
  obtain ⟨b, off, rfl, hb, hc'⟩ := hc (by omega)
  have Hok := Lib.hid hok
  clear hc hc' hok
  go_enter Tryd.func15, Tryd.ntmps15
  go_wp2_with (fail)
  refine (ImageOk_i _ _ _ Hv.out).mono ?_
  rintro e w' ⟨rfl, rfl⟩
  rw [Hok.out]
  go_wp2
  go_loopw [3, 5, 11] (fun v _ i wr => ∃ k : Nat, k ≤ m.length ∧ i = .int .i64 k ∧ Own 3 IntV (Iv w.heap.size wr.heap.size) wr v ((m.take k).map sumL) ∧ Below w.heap.size w wr) (fun _ _ i _ => m.length - (intOf i).toNat)
  case atStart => exact ⟨0, Nat.zero_le _, rfl, Own.nil _ _ _ _, Below.refl _ _⟩
  case round =>
    obtain ⟨k, hk, rfl, hown, hbel⟩ := hrel
    have hBs := hbel.size
    by_cases hlt : k < m.length
    · obtain ⟨row, hrow⟩ : ∃ row, m[k]? = some row := ⟨_, List.getElem?_eq_getElem hlt⟩
      obtain ⟨u, hck, hu⟩ := Sl.at Hv.out hrow
      have hu : Ints w u row := hu
      obtain ⟨br, cpr, rfl, -⟩ := id hu
      rw [← hbel.cell (p := ⟨b, off + k, none⟩) hb] at hck
      have hsm := hsh.small hc5 (List.mem_of_getElem? hrow)
      have hbd := hsh.sum_bd' (List.mem_of_getElem? hrow)
      have hrl := (hsh.2 row (List.mem_of_getElem? hrow)).1
      have hs0 : 0 ≤ sumL row := hbd.1
      have hs1 : sumL row ≤ 5 := by omega
      have Hst := Lib.hid (map_take_snoc hrow)
      have Hu := Lib.hid (hu.keep hbel)
      have hkl : ((m.take k).map sumL).length < 1099511627776 := by simp; omega
      have Hown := Lib.hid hown
      clear hrow hu hown hrl hbd
      go_wp2_with (first | (go_at_call 56; refine (sumOf_c _ _ _ Hu.out hsm).mono ?_; rintro e w' ⟨rfl, rfl⟩) | (at_builtin; (refine wpList_appR rfl _ _ 24 rfl rIntV 3 Tryd.underlying24 infoInt rfl (by decide) w.heap.size wr.heap.size hBs (Nat.le_refl _) rfl rfl (by exact Hown.out) (by exact ⟨rfl, I64.small (by omega) (by omega)⟩) hkl ?_); intro v2 w2 hown2 hbel2 _) | fail)
      have Hown2 := Lib.hid hown2
      clear hown2
      go_wp2
      go_roundw
      case rel => exact ⟨k + 1, by omega, by go_num, by rw [Hst.out]; exact Hown2.out, hbel.trans hbel2⟩
      case measure => simp [intOf]; omega
    · have Hfin := Lib.hid (rowSums_done Hok.out (show m.length ≤ k by omega))
      have Hown := Lib.hid hown
      clear hown
      go_wp2
      go_ret
      exact ⟨_, rfl, by rw [← Hfin.out]; exact Hown.out, hbel⟩

set_option maxHeartbeats 400000 in
theorem RowSums_s (v : Value) (m : List (List Int)) (w : World) (hv : Grid w v m) : Calls Tryd.prog 49 #[v] w (New 3 IntV w (rowSumsOf m)) := by
  have Hv := Lib.hid hv
  obtain ⟨a, cap0, rfl, hcap, hle, -, hc⟩ := hv
  cases hok : imageOk m
  · have Hr := Lib.hid (show rowSumsOf m = [] from by simp [rowSumsOf, hok])
    have Hok := Lib.hid hok; clear hok
    go_enter Tryd.func49, Tryd.ntmps49
    go_wp2_with (fail)
    refine (ImageOk_s _ _ _ Hv.out).mono ?_
    rintro e w' ⟨rfl, rfl⟩
    rw [Hok.out]
    go_wp2
    go_ret
    exact ⟨_, rfl, by rw [Hr.out]; exact Own.nil _ _ _ _, Below.refl _ _⟩
  obtain ⟨r, c, hr1, hr5, hc1, hc5, hsh⟩ := imageOk_shape hok
  have hml : m.length ≤ 5 := by have := hsh.1; omega
  have hml1 : 1 ≤ m.length := by have := hsh.1; omega
  obtain ⟨b, off, rfl, hb, hc'⟩ := hc (by omega)
  have Hok := Lib.hid hok
  clear hc hc' hok
  go_enter Tryd.func49, Tryd.ntmps49
  go_wp2_with (fail)
  refine (ImageOk_s _ _ _ Hv.out).mono ?_
  rintro e w' ⟨rfl, rfl⟩
  rw [Hok.out]
  go_wp2
  go_loopw [3, 5, 6, 8, 15] (fun v _ _ _ i wr => ∃ k : Nat, k ≤ m.length ∧ i = .int .i64 k ∧ Own 3 IntV (Iv w.heap.size wr.heap.size) wr v ((m.take k).map sumL) ∧ Below w.heap.size w wr) (fun _ _ _ _ i _ => m.length - (intOf i).toNat)
  case atStart => exact ⟨0, Nat.zero_le _, rfl, own_lit0 _ _ _ rIntV, Below.pureAlloc _ _⟩
  case round =>
    obtain ⟨k, hk, rfl, hown, hbel⟩ := hrel
    have hBs := hbel.size
    by_cases hlt : k < m.length
    · obtain ⟨row, hrow⟩ : ∃ row, m[k]? = some row := ⟨_, List.getElem?_eq_getElem hlt⟩
      obtain ⟨u, hck, hu⟩ := Sl.at Hv.out hrow
      have hu : Ints w u row := hu
      have hrl := (hsh.2 row (List.mem_of_getElem? hrow)).1
      obtain ⟨br, offr, cpr, rfl, hbr, -⟩ := hu.inv_ne (by omega)
      rw [← hbel.cell (p := ⟨b, off + k, none⟩) hb] at hck
      have hbds := hsh.sum_bd (List.mem_of_getElem? hrow)
      have hrl1 : row.length ≤ 5 := by omega
      have Hst := Lib.hid (map_take_snoc hrow)
      have Hbds := Lib.hid hbds
      have Hu := Lib.hid (hu.keep hbel)
      have hkl : ((m.take k).map sumL).length < 1099511627776 := by simp; omega
      have Hown := Lib.hid hown
      have Hbv := Lib.hid (hsh.2 row (List.mem_of_getElem? hrow)).2
      clear hrow hu hown hrl hbds
      have hdec : decide ((k : Int) < (m.length : Int)) = true := by simp; omega
      go_wp2
      go_loop [6, 8, 21] (fun s _ i => ∃ j : Nat, j ≤ row.length ∧ i = .int .i64 j ∧ s = .int .i64 (sumL (row.take j))) (fun _ _ i => row.length - (intOf i).toNat)
      case atStart => exact ⟨0, Nat.zero_le _, rfl, rfl⟩
      case round =>
        obtain ⟨j, hj, rfl, rfl⟩ := hrel
        have hb0 := (Hbds.out j hj).1
        have hb1 := (Hbds.out j hj).2
        by_cases hltj : j < row.length
        · obtain ⟨x, hx⟩ : ∃ x, row[j]? = some x := ⟨_, List.getElem?_eq_getElem hltj⟩
          have hcx := Ints.at Hu.out hx
          have hx0 := (Hbv.out x (List.mem_of_getElem? hx)).1
          have hx1 := (Hbv.out x (List.mem_of_getElem? hx)).2
          have Hsx := Lib.hid (sumL_take hx)
          clear hx
          go_wp2
          go_round
          case rel => exact ⟨j + 1, by omega, by go_num, by rw [Hsx.out]⟩
          case measure => simp [intOf]; omega
        · obtain rfl : j = row.length := by omega
          rw [List.take_length] at hb0 hb1 ⊢
          go_wp2_with (first | (at_builtin; (refine wpList_appR rfl _ _ 24 rfl rIntV 3 Tryd.underlying24 infoInt rfl (by decide) w.heap.size wr.heap.size hBs (Nat.le_refl _) rfl rfl (by exact Hown.out) (by exact ⟨rfl, I64.small (by omega) (by omega)⟩) hkl ?_); intro v2 w2 hown2 hbel2 _) | fail)
          have Hown2 := Lib.hid hown2
          clear hown2
          go_wp2
          go_roundw
          case rel => exact ⟨k + 1, by omega, by go_num, by rw [Hst.out]; exact Hown2.out, hbel.trans hbel2⟩
          case measure => simp [intOf]; omega
    · have Hfin := Lib.hid (rowSums_done Hok.out (show m.length ≤ k by omega))
      have Hown := Lib.hid hown
      clear hown
      go_wp2
      go_ret
      exact ⟨_, rfl, by rw [← Hfin.out]; exact Hown.out, hbel⟩

theorem ColSums_i (v : Value) (m : List (List Int)) (w : World) (hv : Grid w v m) : Calls Tryd.prog 16 #[v] w (New 3 IntV w (colSumsOf m)) := by
  go_enter Tryd.func16, Tryd.ntmps16
  go_wp2_with (fail)
  refine (TransposeOf_i _ _ _ hv).mono ?_
  rintro e w1 ⟨v1, rfl, hown, hbel⟩
  have hs1 := hbel.size
  go_wp2_with (fail)
  refine (RowSums_i _ _ _ hown.grid).mono ?_
  rintro e w2 ⟨v2, rfl, hown2, hbel2⟩
  have Hown2 := Lib.hid hown2
  clear hown2
  go_wp2
  go_ret
  exact ⟨_, rfl, (rOwn rIntV).mono (fun b hb => ⟨Nat.le_trans hs1 hb.1, hb.2⟩) Hown2.out, hbel.trans_pure hbel2 (Nat.le_refl _)⟩
theorem ColSums_s (v : Value) (m : List (List Int)) (w : World) (hv : Grid w v m) : Calls Tryd.prog 50 #[v] w (New 3 IntV w (colSumsOf m)) := by
  go_enter Tryd.func50, Tryd.ntmps50
  go_wp2_with (fail)
  refine (TransposeOf_s _ _ _ hv).mono ?_
  rintro e w1 ⟨v1, rfl, hown, hbel⟩
  have hs1 := hbel.size
  go_wp2_with (fail)
  refine (RowSums_s _ _ _ hown.grid).mono ?_
  rintro e w2 ⟨v2, rfl, hown2, hbel2⟩
  have Hown2 := Lib.hid hown2
  clear hown2
  go_wp2
  go_ret
  exact ⟨_, rfl, (rOwn rIntV).mono (fun b hb => ⟨Nat.le_trans hs1 hb.1, hb.2⟩) Hown2.out, hbel.trans_pure hbel2 (Nat.le_refl _)⟩
end Go.Proofs.YtlmjpmdkifoekaaDoor

namespace Go.Proofs.YtlmjpmdkifoekaaDoor
open Go.RowKit

def fits (n : Int) (runs : List Int) : Bool := runs.all (inR 1 5) && decide (sumL runs + runs.length - 1 ≤ n)
def puzzleOk (rows cols : List (List Int)) : Bool := inR 1 5 rows.length && inR 1 5 cols.length && rows.all (fits cols.length) && cols.all (fits rows.length)

theorem sum_ge_len {xs : List Int} (h : xs.all (inR 1 5) = true) : ∀ k, k ≤ xs.length → (k : Int) ≤ sumL (xs.take k) ∧ sumL (xs.take k) ≤ 5 * k := by
  rw [List.all_eq_true] at h
  intro k
  induction k with
  | zero => intro _; simp [sumL]
  | succ k ih =>
    intro hk
    have h1 := ih (by omega)
    rw [sumL_take (List.getElem?_eq_getElem (show k < xs.length by omega))]
    have := inR_iff.1 (h _ (List.getElem_mem (show k < xs.length by omega)))
    omega

theorem l03Size_c (r c : Int) (w : World) : Calls Tryd.prog 131 #[.int .i64 r, .int .i64 c] w fun e w' => e = .returned (.bool (inR 1 5 r && inR 1 5 c)) ∧ w = w' := by
  cases h1 : inR 1 5 r
  · have H1 := Lib.hid h1; clear h1
    go_enter Tryd.func131, Tryd.ntmps131
    go_wp2_with (first | (go_at_call 127; refine (l01In_c _ _ _ _).mono ?_; rintro e w' ⟨rfl, rfl⟩; (try rw [H1.out])))
    go_ret
    exact ⟨rfl, rfl⟩
  · have H1 := Lib.hid h1; clear h1
    go_enter Tryd.func131, Tryd.ntmps131
    go_wp2_with (fail)
    refine (l01In_c _ _ _ _).mono ?_
    rintro e w' ⟨rfl, rfl⟩
    rw [H1.out]
    go_wp2_with (fail)
    refine (l01In_c _ _ _ _).mono ?_
    rintro e w' ⟨rfl, rfl⟩
    go_wp2
    go_ret
    exact ⟨rfl, rfl⟩


theorem small_of {xs : List Int} (h : xs.all (inR 1 5) = true) (hl : xs.length ≤ 1048576) : Small xs := ⟨hl, fun x hx => by rw [List.all_eq_true] at h; have := inR_iff.1 (h x hx); omega⟩
set_option maxHeartbeats 400000 in
theorem runsFit_c (v : Value) (g : List (List Int)) (n : Nat) (w : World) (hv : Grid w v g) (hn5 : n ≤ 5) (hl : ∀ r ∈ g, r.length ≤ 1048576) : Calls Tryd.prog 70 #[v, .int .i64 n] w fun e w' => e = .returned (.bool (g.all (fits n))) ∧ w = w' := by
  have Hv := Lib.hid hv
  obtain ⟨a, cap, rfl, hcap, hle, -, -⟩ := hv
  go_enter Tryd.func70, Tryd.ntmps70
  go_wp2
  go_loop [6, 9] (fun _ i => ∃ k : Nat, k ≤ g.length ∧ i = .int .i64 k ∧ (g.take k).all (fits n) = true) (fun _ i => g.length - (intOf i).toNat)
  case atStart => exact ⟨0, Nat.zero_le _, rfl, rfl⟩
  case round =>
    obtain ⟨k, hk, rfl, hall⟩ := hrel
    have Hall := Lib.hid hall
    clear hall
    by_cases hlt : k < g.length
    · obtain ⟨r, hr⟩ : ∃ r, g[k]? = some r := ⟨_, List.getElem?_eq_getElem hlt⟩
      obtain ⟨b, off, cpr, he, hb, -⟩ := Hv.out.inv_ne (by omega)
      obtain ⟨rfl, -⟩ : a = some ⟨b, off, none⟩ ∧ cap = cpr := by simpa using he
      obtain ⟨u, hck, hu⟩ := Sl.at Hv.out hr
      have hu : Ints w u r := hu
      obtain ⟨ar, cpr, rfl, -⟩ := id hu
      have hrl := hl r (List.mem_of_getElem? hr)
      have Has := Lib.hid (all_take_step (fits n) hr)
      have Hr := Lib.hid hr
      have Hu := Lib.hid hu
      clear hr he hu hl
      cases hin : r.all (inR 1 5)
      · have Hin := Lib.hid hin; clear hin
        have Hf := Lib.hid (show g.all (fits n) = false from all_of_take _ Hr.out (by unfold fits; rw [Hin.out]; rfl))
        go_wp2_with (first | (go_at_call 98; refine (allWithin_c _ _ _ _ _ Hu.out).mono ?_; rintro e w' ⟨rfl, rfl⟩; rw [Hin.out]))
        go_ret
        exact ⟨retB Hf.out.symm, rfl⟩
      · have hsm := small_of hin hrl
        have hsb := sum_ge_len hin r.length (Nat.le_refl _)
        rw [List.take_length] at hsb
        have hs0 := hsb.1
        have hs1 := hsb.2
        have Hin := Lib.hid hin; clear hin hsb
        have Hsm := Lib.hid hsm; clear hsm
        by_cases hgt : (n : Int) < sumL r + r.length - 1
        · have Hf := Lib.hid (show g.all (fits n) = false from all_of_take _ Hr.out (by unfold fits; rw [Hin.out]; simp; omega))
          go_wp2_with (first | (go_at_call 98; refine (allWithin_c _ _ _ _ _ Hu.out).mono ?_; rintro e w' ⟨rfl, rfl⟩; rw [Hin.out]) | (go_at_call 56; refine (sumOf_c _ _ _ Hu.out Hsm.out).mono ?_; rintro e w' ⟨rfl, rfl⟩))
          go_ret
          exact ⟨retB Hf.out.symm, rfl⟩
        · have Hf := Lib.hid (show fits n r = true from by unfold fits; rw [Hin.out]; simp; omega)
          go_wp2_with (first | (go_at_call 98; refine (allWithin_c _ _ _ _ _ Hu.out).mono ?_; rintro e w' ⟨rfl, rfl⟩; rw [Hin.out]) | (go_at_call 56; refine (sumOf_c _ _ _ Hu.out Hsm.out).mono ?_; rintro e w' ⟨rfl, rfl⟩))
          go_round
          case rel => exact ⟨k + 1, by omega, by go_num, by rw [Has.out, Hall.out, Hf.out]; rfl⟩
          case measure => simp [intOf]; omega
    · have Hf := Lib.hid (show g.all (fits n) = true from all_done Hall.out (by omega))
      go_wp2
      go_ret
      exact ⟨retB Hf.out.symm, rfl⟩
end Go.Proofs.YtlmjpmdkifoekaaDoor

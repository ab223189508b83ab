/- Contracts: masks: MaskOk, MeetsMask, the images that meet a mask. -/
import Derived.Test.YtlmjpmdkifoekaaDoorMk
import Derived.Test.YtlmjpmdkifoekaaDoorX7
import Derived.Test.YtlmjpmdkifoekaaDoorE3
namespace Go.Proofs.YtlmjpmdkifoekaaDoor
open Go.RowKit

set_option maxHeartbeats 1000000 in
theorem MaskOk_i (v vx vy : Value) (g : List (List Int)) (xs ys : List Int) (w : World) (hv : Grid w v g) (hx : Ints w vx xs) (hy : Ints w vy ys) : Calls Tryd.prog 12 #[v, vx, vy] w fun e w' => e = .returned (.bool (maskOk g xs ys)) ∧ w = w' := by
  have Hv := Lib.hid hv
  have Hx := Lib.hid hx
  have Hy := Lib.hid hy
  obtain ⟨a, cap, rfl, -⟩ := id hv
  obtain ⟨ax, cx, rfl, -⟩ := id hx
  obtain ⟨ay, cy, rfl, -⟩ := id hy
  cases hok : sumsOk xs ys
  · have Hok := Lib.hid hok
    have Hr := Lib.hid (show maskOk g xs ys = false from by unfold maskOk; rw [hok]; rfl)
    clear hok hv hx hy
    go_enter Tryd.func12, Tryd.ntmps12
    go_wp2_with (fail)
    refine (SumsOk_i _ _ _ _ _ Hx.out Hy.out).mono ?_
    rintro e w' ⟨rfl, rfl⟩
    rw [Hok.out]
    go_wp2
    go_ret
    exact ⟨retB Hr.out.symm, rfl⟩
  have Hg := Lib.hid (maskOk_grid (g := g) hok)
  have Hok := Lib.hid hok
  obtain ⟨x1, x5, y1, y5⟩ := sumsOk_sz hok
  cases hgo : gridOkB (-1) 1 g
  · have Hgo := Lib.hid hgo
    have Hr := Lib.hid (show maskOk g xs ys = false from by rw [Hg.out, hgo]; rfl)
    clear hok hv hx hy hgo
    go_enter Tryd.func12, Tryd.ntmps12
    go_wp2_with (fail)
    refine (SumsOk_i _ _ _ _ _ Hx.out Hy.out).mono ?_
    rintro e w' ⟨rfl, rfl⟩
    rw [Hok.out]
    go_wp2_with (fail)
    refine (gridOk_c _ _ _ _ _ Hv.out).mono ?_
    rintro e w' ⟨rfl, rfl⟩
    rw [Hgo.out]
    go_wp2
    go_ret
    exact ⟨retB Hr.out.symm, rfl⟩
  have Hgo := Lib.hid hgo
  have hg0 : 0 < g.length := by
    unfold gridOkB at hgo
    simp only [Bool.and_eq_true, inR_iff] at hgo
    omega
  obtain ⟨b, off, cp, he, hb, -⟩ := hv.inv_ne hg0
  obtain ⟨rfl, -⟩ : a = some ⟨b, off, none⟩ ∧ cap = cp := by simpa using he
  obtain ⟨hd, hhd⟩ : ∃ hd, g[0]? = some hd := ⟨_, List.getElem?_eq_getElem hg0⟩
  obtain ⟨u, hck, hu⟩ := Sl.at hv hhd
  obtain ⟨au, cu, rfl, -⟩ := hu
  rw [Nat.add_zero] at hck
  have Hhd := Lib.hid (headD_of hhd)
  clear he hhd
  by_cases hl : g.length = xs.length
  · have hl2 : ((g.length : Int) == (xs.length : Int)) = true := by rw [beq_iff_eq]; omega
    have Hr := Lib.hid (show maskOk g xs ys = ((hd.length : Int) == (ys.length : Int)) from by
      rw [Hg.out, Hgo.out, Hhd.out, decide_eq_true hl, Bool.true_and, Bool.true_and, Bool.eq_iff_iff, decide_eq_true_eq, beq_iff_eq]
      omega)
    clear hok hv hx hy hgo hl
    go_enter Tryd.func12, Tryd.ntmps12
    go_wp2_with (fail)
    refine (SumsOk_i _ _ _ _ _ Hx.out Hy.out).mono ?_
    rintro e w' ⟨rfl, rfl⟩
    rw [Hok.out]
    go_wp2_with (fail)
    refine (gridOk_c _ _ _ _ _ Hv.out).mono ?_
    rintro e w' ⟨rfl, rfl⟩
    rw [Hgo.out]
    go_wp2
    go_ret
    exact ⟨retB Hr.out.symm, rfl⟩
  · have hl2 : ((g.length : Int) == (xs.length : Int)) = false := by rw [beq_eq_false_iff_ne]; omega
    have Hr := Lib.hid (show maskOk g xs ys = false from by
      rw [Hg.out, decide_eq_false hl, Bool.and_false]; rfl)
    clear hok hv hx hy hgo hl
    go_enter Tryd.func12, Tryd.ntmps12
    go_wp2_with (fail)
    refine (SumsOk_i _ _ _ _ _ Hx.out Hy.out).mono ?_
    rintro e w' ⟨rfl, rfl⟩
    rw [Hok.out]
    go_wp2_with (fail)
    refine (gridOk_c _ _ _ _ _ Hv.out).mono ?_
    rintro e w' ⟨rfl, rfl⟩
    rw [Hgo.out]
    go_wp2
    go_ret
    exact ⟨retB Hr.out.symm, rfl⟩
set_option maxHeartbeats 1000000 in
theorem l08Size_c (v : Value) (g : List (List Int)) (rows cols lo hi : Int) (w : World) (hv : Grid w v g) : Calls Tryd.prog 112 #[v, .int .i64 rows, .int .i64 cols, .int .i64 lo, .int .i64 hi] w fun e w' => e = .returned (.bool (sizeB g rows cols lo hi)) ∧ w = w' := by
  have Hv := Lib.hid hv
  obtain ⟨a, cap, rfl, -, hle, -⟩ := id hv
  by_cases hl : ¬ (g.length : Int) = rows
  · have hl2 : ((g.length : Int) == rows) = false := by rw [beq_eq_false_iff_ne]; exact hl
    have Hr := Lib.hid (show sizeB g rows cols lo hi = false from by unfold sizeB; rw [decide_eq_false hl]; rfl)
    clear hl hv
    go_enter Tryd.func112, Tryd.ntmps112
    go_wp2
    go_ret
    exact ⟨retB Hr.out.symm, rfl⟩
  have hl := Decidable.not_not.1 hl
  subst hl
  have Hs := Lib.hid (show ∀ h : Bool, (g.all (fun row => decide ((row.length : Int) = cols) && row.all (inR lo hi))) = h → sizeB g g.length cols lo hi = h from fun h e => by unfold sizeB; rw [e, decide_eq_true rfl, Bool.true_and])
  clear hv
  go_enter Tryd.func112, Tryd.ntmps112
  go_wp2
  go_loopw [12, 14, 21] (fun _ _ i wr => ∃ k : Nat, k ≤ g.length ∧ i = .int .i64 k ∧ Hid ((g.take k).all (fun row => decide ((row.length : Int) = cols) && row.all (inR lo hi)) = true) ∧ w = wr) (fun _ _ i _ => g.length - (intOf i).toNat)
  case atStart => exact ⟨0, Nat.zero_le _, rfl, Lib.hid rfl, rfl⟩
  case round =>
    obtain ⟨k, hk, rfl, Hall, rfl⟩ := hrel
    by_cases hlt : k < g.length
    · obtain ⟨b, off, cp, he, hb, -⟩ := Hv.out.inv_ne (by omega)
      obtain ⟨rfl, -⟩ : a = some ⟨b, off, none⟩ ∧ cap = cp := by simpa using he
      obtain ⟨r, hr⟩ : ∃ r, g[k]? = some r := ⟨_, List.getElem?_eq_getElem hlt⟩
      obtain ⟨u, hck, hu⟩ := Sl.at Hv.out hr
      have hu : Ints w u r := hu
      have Hu := Lib.hid hu
      obtain ⟨ar, cr, rfl, -, hler, -⟩ := hu
      have Hst := Lib.hid (all_take_step (fun row : List Int => decide ((row.length : Int) = cols) && row.all (inR lo hi)) hr)
      have Hrr := Lib.hid hr
      clear he hr
      by_cases hrl : ¬ (r.length : Int) = cols
      · have hrl2 : ((r.length : Int) == cols) = false := by rw [beq_eq_false_iff_ne]; exact hrl
        have Hf := Lib.hid (show sizeB g g.length cols lo hi = false from Hs.out _ (all_of_take _ Hrr.out (by rw [decide_eq_false hrl]; rfl)))
        clear hrl
        go_wp2
        go_ret
        exact ⟨retB Hf.out.symm, rfl⟩
      have hrl := Decidable.not_not.1 hrl
      subst hrl
      go_wp2
      go_loopw [14, 31] (fun _ i wr => ∃ j : Nat, j ≤ r.length ∧ i = .int .i64 j ∧ Hid ((r.take j).all (inR lo hi) = true) ∧ w = wr) (fun _ i _ => r.length - (intOf i).toNat)
      case atStart => exact ⟨0, Nat.zero_le _, rfl, Lib.hid rfl, rfl⟩
      case round =>
        clear hck
        obtain ⟨j, hj, rfl, Hall2, rfl⟩ := hrel
        by_cases hltj : j < r.length
        · obtain ⟨br, offr, cpr, her, hbr, -⟩ := Hu.out.inv_ne (by omega)
          obtain ⟨rfl, -⟩ : ar = some ⟨br, offr, none⟩ ∧ cr = cpr := by simpa using her
          obtain ⟨x, hx⟩ : ∃ x, r[j]? = some x := ⟨_, List.getElem?_eq_getElem hltj⟩
          have hcx := Ints.at Hu.out hx
          have Hst2 := Lib.hid (all_take_step (inR lo hi) hx)
          have Hx := Lib.hid hx
          clear her hx
          cases hin : inR lo hi x
          · have Hin := Lib.hid hin
            have Hf := Lib.hid (show sizeB g g.length r.length lo hi = false from Hs.out _ (all_of_take _ Hrr.out (by rw [all_of_take _ Hx.out hin, Bool.and_false])))
            clear hin
            go_wp2_with (fail)
            refine (l01In_c _ _ _ _).mono ?_
            rintro e w' ⟨rfl, rfl⟩
            rw [Hin.out]
            go_wp2
            go_ret
            exact ⟨retB Hf.out.symm, rfl⟩
          · have Hin := Lib.hid hin
            have Ha2 := Lib.hid (show (r.take (j + 1)).all (inR lo hi) = true from by rw [Hst2.out, Hall2.out, hin]; rfl)
            clear hin
            go_wp2_with (fail)
            refine (l01In_c _ _ _ _).mono ?_
            rintro e w' ⟨rfl, rfl⟩
            rw [Hin.out]
            go_wp2
            go_roundw
            case rel => exact ⟨j + 1, by omega, by go_num, Ha2, by first | rfl | trivial⟩
            case measure => simp [intOf]; omega
        · have Ha := Lib.hid (show (g.take (k + 1)).all (fun row => decide ((row.length : Int) = (r.length : Int)) && row.all (inR lo hi)) = true from by
            rw [Hst.out, Hall.out, all_done Hall2.out (by omega)]; simp)
          go_wp2
          go_roundw
          case rel => exact ⟨k + 1, by omega, by go_num, Ha, by first | rfl | trivial⟩
          case measure => simp [intOf]; omega
    · have Hf := Lib.hid (show sizeB g g.length cols lo hi = true from Hs.out _ (all_done Hall.out (by omega)))
      go_wp2
      go_ret
      exact ⟨retB Hf.out.symm, rfl⟩
theorem MaskOk_s (v vx vy : Value) (g : List (List Int)) (xs ys : List Int) (w : World) (hv : Grid w v g) (hx : Ints w vx xs) (hy : Ints w vy ys) : Calls Tryd.prog 76 #[v, vx, vy] w fun e w' => e = .returned (.bool (maskOk g xs ys)) ∧ w = w' := by
  have Hv := Lib.hid hv
  have Hx := Lib.hid hx
  have Hy := Lib.hid hy
  obtain ⟨a, cap, rfl, -⟩ := id hv
  obtain ⟨ax, cx, rfl, -⟩ := id hx
  obtain ⟨ay, cy, rfl, -⟩ := id hy
  clear hv hx hy
  cases hok : sumsOk xs ys
  · have Hok := Lib.hid hok
    have Hr := Lib.hid (show maskOk g xs ys = false from by unfold maskOk; rw [hok]; rfl)
    clear hok
    go_enter Tryd.func76, Tryd.ntmps76
    go_wp2_with (fail)
    refine (SumsOk_s _ _ _ _ _ Hx.out Hy.out).mono ?_
    rintro e w' ⟨rfl, rfl⟩
    rw [Hok.out]
    go_wp2
    go_ret
    exact ⟨retB Hr.out.symm, rfl⟩
  have Hok := Lib.hid hok
  have Hr := Lib.hid (show maskOk g xs ys = sizeB g xs.length ys.length (-1) 1 from by unfold maskOk; rw [hok]; rfl)
  clear hok
  go_enter Tryd.func76, Tryd.ntmps76
  go_wp2_with (fail)
  refine (SumsOk_s _ _ _ _ _ Hx.out Hy.out).mono ?_
  rintro e w' ⟨rfl, rfl⟩
  rw [Hok.out]
  go_wp2_with (fail)
  refine (l08Size_c _ _ _ _ _ _ _ Hv.out).mono ?_
  rintro e w' ⟨rfl, rfl⟩
  go_wp2
  go_ret
  exact ⟨retB Hr.out.symm, rfl⟩
theorem sizeB_any {g : List (List Int)} {r c : Nat} (h : TRect r c g) : sizeB g r c (-9223372036854775807) 9223372036854775807 = true := by
  unfold sizeB
  simp only [Bool.and_eq_true, decide_eq_true_eq, List.all_eq_true, inR_iff]
  exact ⟨by have := h.1; omega, fun row hr => ⟨by have := (h.2 row hr).1; omega, fun x hx => by have := (h.2 row hr).2 x hx; omega⟩⟩
set_option maxHeartbeats 1600000 in
theorem MeetsMask_i (v v2 : Value) (m g : List (List Int)) (r c : Nat) (w : World) (hv : Grid w v m) (hv2 : Grid w v2 g) (hs : Shape r c m) (hg : TRect r c g) (hr1 : 1 ≤ r) (hr5 : r ≤ 5) (hc1 : 1 ≤ c) (hc5 : c ≤ 5) :
    Calls Tryd.prog 13 #[v, v2] w fun e w' => e = .returned (.bool (meetsB r c m g)) ∧ w = w' := by
  have Hok := Lib.hid (hs.ok hr1 hr5 hc1 hc5)
  obtain ⟨b, off, cp, rfl, hb, hm⟩ := hv.rowsT hs.trectM hr1 hc1
  obtain ⟨b2, off2, cp2, rfl, hb2, hm2⟩ := hv2.rowsT hg hr1 hc1
  have Hv := Lib.hid hv
  have Hv2 := Lib.hid hv2
  have Hm := Lib.hid hm
  have Hm2 := Lib.hid hm2
  have Hsz := Lib.hid (sizeB_any hg)
  obtain ⟨b0, o0, c0, hc0, -⟩ := hm 0 (by omega)
  have hc0 := hc0 w (Below.refl _ _)
  rw [Nat.add_zero] at hc0
  clear hv hv2 hm hm2 hg
  go_enter Tryd.func13, Tryd.ntmps13
  go_wp2_with (fail)
  refine (ImageOk_i _ _ _ Hv.out).mono ?_
  rintro e w' ⟨rfl, rfl⟩
  rw [Hok.out]

  clear hc0
  go_wp2
  go_loopw [5, 6, 7, 8, 21] (fun _ _ _ _ i wr => ∃ y : Nat, y ≤ r ∧ i = .int .i64 y ∧ Hid (∀ i, i < y → ∀ j, j < c → at2 g i j = -1 ∨ at2 g i j = at2 m i j) ∧ w = wr) (fun _ _ _ _ i _ => r - (intOf i).toNat)
  case atStart => exact ⟨0, Nat.zero_le _, rfl, Lib.hid fun i hi => by omega, rfl⟩
  case round =>
    obtain ⟨y, hy, rfl, Hall, rfl⟩ := hrel
    by_cases hyr : y < r
    · obtain ⟨br, orr, cr, h1, h2⟩ := Hm.out y hyr
      obtain ⟨bg, og, cg, h3, h4⟩ := Hm2.out y hyr
      have e1 := h1 w (Below.refl _ _)
      have e2 := h3 w (Below.refl _ _)
      have H2 := Lib.hid h2
      have H4 := Lib.hid h4
      clear h1 h2 h3 h4
      go_wp2
      go_loopw [7, 8, 36] (fun _ _ i wr => ∃ x : Nat, x ≤ c ∧ i = .int .i64 x ∧ Hid (∀ j, j < x → at2 g y j = -1 ∨ at2 g y j = at2 m y j) ∧ w = wr) (fun _ _ i _ => c - (intOf i).toNat)
      case atStart => exact ⟨0, Nat.zero_le _, rfl, Lib.hid fun j hj => by omega, rfl⟩
      case round =>
        obtain ⟨x, hx, rfl, Hrow, rfl⟩ := hrel
        by_cases hxc : x < c
        · have e3 := H2.out x hxc w (Below.refl _ _)
          have e4 := H4.out x hxc w (Below.refl _ _)
          by_cases hG : at2 g y x = -1 ∨ at2 g y x = at2 m y x
          · have Hrow2 := Lib.hid (show ∀ j, j < x + 1 → at2 g y j = -1 ∨ at2 g y j = at2 m y j from fun j hj => by
              by_cases h : j < x
              · exact Hrow.out j h
              · obtain rfl : j = x := by omega
                exact hG)
            obtain ⟨D, hD⟩ : ∃ D, at2 g y x = D := ⟨_, rfl⟩
            obtain ⟨X, hX⟩ : ∃ X, at2 m y x = X := ⟨_, rfl⟩
            rw [hD, hX] at hG
            rw [hD] at e4
            rw [hX] at e3
            clear hD hX
            by_cases hD1 : D = -1
            · subst hD1
              clear hG
              go_wp2
              go_roundw
              case rel => exact ⟨x + 1, by omega, by go_num, Hrow2, by first | rfl | trivial⟩
              case measure => simp [intOf]; omega
            · obtain rfl : D = X := hG.resolve_left hD1
              have hD2 : (D == -1) = false := by rw [beq_eq_false_iff_ne]; exact hD1
              go_wp2
              go_roundw
              case rel => exact ⟨x + 1, by omega, by go_num, Hrow2, by first | rfl | trivial⟩
              case measure => simp [intOf]; omega
          · have Hf := Lib.hid (show meetsB r c m g = false from by
              unfold meetsB
              rw [decide_eq_false_iff_not]
              exact fun h => hG (h y hyr x hxc))
            obtain ⟨D, hD⟩ : ∃ D, at2 g y x = D := ⟨_, rfl⟩
            obtain ⟨X, hX⟩ : ∃ X, at2 m y x = X := ⟨_, rfl⟩
            rw [hD, hX] at hG
            rw [hD] at e4
            rw [hX] at e3
            have hD1 : ¬ D = -1 := fun h => hG (.inl h)
            have hDX : ¬ D = X := fun h => hG (.inr h)
            have hD2 : (D == -1) = false := by rw [beq_eq_false_iff_ne]; exact hD1
            have hD3 : (D == X) = false := by rw [beq_eq_false_iff_ne]; exact hDX
            clear hD hX hG
            go_wp2
            go_ret
            exact ⟨retB Hf.out.symm, rfl⟩
        · have Hall2 := Lib.hid (show ∀ i, i < y + 1 → ∀ j, j < c → at2 g i j = -1 ∨ at2 g i j = at2 m i j from fun i hi j hj => by
            by_cases h : i < y
            · exact Hall.out i h j hj
            · obtain rfl : i = y := by omega
              exact Hrow.out j (by omega))
          go_wp2
          go_roundw
          case rel => exact ⟨y + 1, by omega, by go_num, Hall2, by first | rfl | trivial⟩
          case measure => simp [intOf]; omega
    · have Hf := Lib.hid (show meetsB r c m g = true from by
        unfold meetsB
        rw [decide_eq_true_eq]
        exact fun i hi j hj => Hall.out i (by omega) j hj)
      go_wp2
      go_ret
      exact ⟨retB Hf.out.symm, rfl⟩
set_option maxHeartbeats 1600000 in
theorem MeetsMask_s (v v2 : Value) (m g : List (List Int)) (r c : Nat) (w : World) (hv : Grid w v m) (hv2 : Grid w v2 g) (hs : Shape r c m) (hg : TRect r c g) (hr1 : 1 ≤ r) (hr5 : r ≤ 5) (hc1 : 1 ≤ c) (hc5 : c ≤ 5) :
    Calls Tryd.prog 114 #[v, v2] w fun e w' => e = .returned (.bool (meetsB r c m g)) ∧ w = w' := by
  have Hok := Lib.hid (hs.ok hr1 hr5 hc1 hc5)
  obtain ⟨b, off, cp, rfl, hb, hm⟩ := hv.rowsT hs.trectM hr1 hc1
  obtain ⟨b2, off2, cp2, rfl, hb2, hm2⟩ := hv2.rowsT hg hr1 hc1
  have Hv := Lib.hid hv
  have Hv2 := Lib.hid hv2
  have Hm := Lib.hid hm
  have Hm2 := Lib.hid hm2
  have Hsz := Lib.hid (sizeB_any hg)
  obtain ⟨b0, o0, c0, hc0, -⟩ := hm 0 (by omega)
  have hc0 := hc0 w (Below.refl _ _)
  rw [Nat.add_zero] at hc0
  clear hv hv2 hm hm2 hg
  go_enter Tryd.func114, Tryd.ntmps114
  go_wp2_with (fail)
  refine (ImageOk_s _ _ _ Hv.out).mono ?_
  rintro e w' ⟨rfl, rfl⟩
  rw [Hok.out]
  go_wp2_with (fail)
  refine (l08Size_c _ _ _ _ _ _ _ Hv2.out).mono ?_
  rintro e w' ⟨rfl, rfl⟩
  rw [Hsz.out]
  clear hc0
  go_wp2
  go_loopw [5, 6, 7, 8, 25] (fun _ _ _ _ i wr => ∃ y : Nat, y ≤ r ∧ i = .int .i64 y ∧ Hid (∀ i, i < y → ∀ j, j < c → at2 g i j = -1 ∨ at2 g i j = at2 m i j) ∧ w = wr) (fun _ _ _ _ i _ => r - (intOf i).toNat)
  case atStart => exact ⟨0, Nat.zero_le _, rfl, Lib.hid fun i hi => by omega, rfl⟩
  case round =>
    obtain ⟨y, hy, rfl, Hall, rfl⟩ := hrel
    by_cases hyr : y < r
    · obtain ⟨br, orr, cr, h1, h2⟩ := Hm.out y hyr
      obtain ⟨bg, og, cg, h3, h4⟩ := Hm2.out y hyr
      have e1 := h1 w (Below.refl _ _)
      have e2 := h3 w (Below.refl _ _)
      have H2 := Lib.hid h2
      have H4 := Lib.hid h4
      clear h1 h2 h3 h4
      go_wp2
      go_loopw [7, 8, 32] (fun _ _ i wr => ∃ x : Nat, x ≤ c ∧ i = .int .i64 x ∧ Hid (∀ j, j < x → at2 g y j = -1 ∨ at2 g y j = at2 m y j) ∧ w = wr) (fun _ _ i _ => c - (intOf i).toNat)
      case atStart => exact ⟨0, Nat.zero_le _, rfl, Lib.hid fun j hj => by omega, rfl⟩
      case round =>
        obtain ⟨x, hx, rfl, Hrow, rfl⟩ := hrel
        by_cases hxc : x < c
        · have e3 := H2.out x hxc w (Below.refl _ _)
          have e4 := H4.out x hxc w (Below.refl _ _)
          by_cases hG : at2 g y x = -1 ∨ at2 g y x = at2 m y x
          · have Hrow2 := Lib.hid (show ∀ j, j < x + 1 → at2 g y j = -1 ∨ at2 g y j = at2 m y j from fun j hj => by
              by_cases h : j < x
              · exact Hrow.out j h
              · obtain rfl : j = x := by omega
                exact hG)
            obtain ⟨D, hD⟩ : ∃ D, at2 g y x = D := ⟨_, rfl⟩
            obtain ⟨X, hX⟩ : ∃ X, at2 m y x = X := ⟨_, rfl⟩
            rw [hD, hX] at hG
            rw [hD] at e4
            rw [hX] at e3
            clear hD hX
            by_cases hD1 : D = -1
            · subst hD1
              clear hG
              go_wp2
              go_roundw
              case rel => exact ⟨x + 1, by omega, by go_num, Hrow2, by first | rfl | trivial⟩
              case measure => simp [intOf]; omega
            · obtain rfl : D = X := hG.resolve_left hD1
              have hD2 : (D == -1) = false := by rw [beq_eq_false_iff_ne]; exact hD1
              go_wp2
              go_roundw
              case rel => exact ⟨x + 1, by omega, by go_num, Hrow2, by first | rfl | trivial⟩
              case measure => simp [intOf]; omega
          · have Hf := Lib.hid (show meetsB r c m g = false from by
              unfold meetsB
              rw [decide_eq_false_iff_not]
              exact fun h => hG (h y hyr x hxc))
            obtain ⟨D, hD⟩ : ∃ D, at2 g y x = D := ⟨_, rfl⟩
            obtain ⟨X, hX⟩ : ∃ X, at2 m y x = X := ⟨_, rfl⟩
            rw [hD, hX] at hG
            rw [hD] at e4
            rw [hX] at e3
            have hD1 : ¬ D = -1 := fun h => hG (.inl h)
            have hDX : ¬ D = X := fun h => hG (.inr h)
            have hD2 : (D == -1) = false := by rw [beq_eq_false_iff_ne]; exact hD1
            have hD3 : (D == X) = false := by rw [beq_eq_false_iff_ne]; exact hDX
            clear hD hX hG
            go_wp2
            go_ret
            exact ⟨retB Hf.out.symm, rfl⟩
        · have Hall2 := Lib.hid (show ∀ i, i < y + 1 → ∀ j, j < c → at2 g i j = -1 ∨ at2 g i j = at2 m i j from fun i hi j hj => by
            by_cases h : i < y
            · exact Hall.out i h j hj
            · obtain rfl : i = y := by omega
              exact Hrow.out j (by omega))
          go_wp2
          go_roundw
          case rel => exact ⟨y + 1, by omega, by go_num, Hall2, by first | rfl | trivial⟩
          case measure => simp [intOf]; omega
    · have Hf := Lib.hid (show meetsB r c m g = true from by
        unfold meetsB
        rw [decide_eq_true_eq]
        exact fun i hi j hj => Hall.out i (by omega) j hj)
      go_wp2
      go_ret
      exact ⟨retB Hf.out.symm, rfl⟩
end Go.Proofs.YtlmjpmdkifoekaaDoor

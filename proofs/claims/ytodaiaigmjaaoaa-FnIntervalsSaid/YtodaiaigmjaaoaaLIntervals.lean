/- FnIntervals: the walk of the law. -/
import Derived.Test.YtodaiaigmjaaoaaC29
import Derived.Test.YtodaiaigmjaaoaaC27
import Derived.Test.YtodaiaigmjaaoaaInterLaw
import Derived.Test.YtodaiaigmjaaoaaC3
import Derived.Test.YtodaiaigmjaaoaaRunsLaw
namespace Go.Proofs.Ytodaiaigmjaaoaa
open Go.RowKit

theorem all_snoc_eq {m : List (List Int)} {k : Nat} {row : List Int} (h : m[k]? = some row) : (m.take (k + 1)).all interOk = ((m.take k).all interOk && interOk row) := all_take_step interOk h
set_option maxRecDepth 100000 in
set_option maxHeartbeats 3200000 in
theorem FnIntervals_w {v : Value} {bs : List Int} {w : World} (hv : Bytes w v bs) :
    Calls Try.prog 9 #[v] w fun e w' => e = .returned (.bool true) ∧ Below w.heap.size w w' := by
  obtain ⟨a, cap, rfl, -, -, -, -⟩ := id hv
  rcases Nat.lt_or_ge 1048576 bs.length with h1 | h1
  · go_enter Try.func9, Try.ntmps9
    go_wp2
    go_ret
    exact ⟨rfl, Below.refl _ _⟩
  have hd0 : decide ((1048576 : Int) < (bs.length : Int)) = false := by simp; omega
  go_enter Try.func9, Try.ntmps9
  go_wp2_with (fail)
  refine (MakeImage_c _ bs 0 5 w hv (by decide) (by decide) (by decide)).mono ?_
  rintro e w1 ⟨v1, m, r, c, rfl, ⟨hr1, hr2⟩, ⟨hc1, hc2⟩, hsh, hown1, hbel1⟩
  obtain ⟨g, cap1, rfl, hg, hcap1, hgs, -⟩ := hown1.inv_ne (by rw [hsh.1]; omega)
  have hgrid := hown1.grid
  have hml := hsh.1
  rw [hml] at hcap1 hown1 hgrid ⊢
  have Hgrid := Lib.hid hgrid
  have Hsh := Lib.hid hsh
  have Hml := Lib.hid hml
  clear hown1 hgrid hsh hml
  go_wp2
  go_loopw [4, 6, 7, 8, 9, 10, 18] (fun av _ _ _ _ _ i wr => ∃ (k : Nat) (b : Bool), k ≤ r ∧ i = .int .i64 k ∧ av = .bool b ∧ b = (m.take k).all interOk ∧ Below w1.heap.size w1 wr) (fun _ _ _ _ _ _ i _ => r - (intOf i).toNat)
  case atStart => exact ⟨0, true, Nat.zero_le _, rfl, rfl, rfl, Below.refl _ _⟩
  case round =>
    obtain ⟨k, b, hk, rfl, rfl, hb, hbel⟩ := hrel
    obtain ⟨wo, rfl⟩ : ∃ wo : World, wo = wr := ⟨_, rfl⟩
    have Hb := Lib.hid hb
    have hBs := hbel.size
    clear hb
    by_cases hlt : k < r
    · obtain ⟨row, hrow, hrl, hrb⟩ := Hsh.out.row hlt
      obtain ⟨u, hck, hu⟩ := Sl.at Hgrid.out hrow
      have hu : Ints w1 u row := hu
      obtain ⟨br, offr, cpr, rfl, hbr, hat⟩ := hu.inv_ne (by omega)
      rw [← hbel.cell (p := ⟨g, 0 + k, none⟩) hgs, Nat.zero_add] at hck
      have hf := row_facts (row := row) (by omega) hrb
      unfold rowFacts at hf
      simp only [Bool.and_eq_true, decide_eq_true_eq, Bool.or_eq_true, beq_iff_eq, Bool.not_eq_true'] at hf
      obtain ⟨⟨⟨⟨⟨⟨f1, f2⟩, f3⟩, f4⟩, f5⟩, f6⟩, f7⟩ := hf
      have Hu := Lib.hid (hu.keep hbel)
      have Hrb := Lib.hid hrb
      have Has := Lib.hid (all_snoc_eq hrow)
      have hr1' : 1 ≤ row.length := by omega
      have hr5' : row.length ≤ 5 := by omega
      have hrt := runs_total hrb
      have hrl2 := runsOf_len row
      have hsm : Small (runsOf row) := by
        refine ⟨by omega, fun x hx => ?_⟩
        have := runs_bd row x hx
        omega
      have Hsm := Lib.hid hsm
      have hdk : decide ((k : Int) < (r : Int)) = true := by simp; omega
      cases hi : interOk row
      · have hl1 : decide ((((runsOf row).length : Nat) : Int) ≤ 1) = false := by
          rw [hi] at f4
          have := f4.symm
          simp at this ⊢; omega
        have Hres := Lib.hid (show interRes row = .tuple #[.int .i64 0, .int .i64 0, .bool false] from by unfold interRes; rw [hi]; rfl)
        have Hi := Lib.hid hi
        clear hi f1 f2 f3 f4 f5 f6 f7 hrow hrl hrb hu hat hrt hsm
        cases b
        · go_wp2_with (fail)
          refine (IntervalOf_c _ _ _ Hu.out hr1' hr5' Hrb.out).mono ?_
          rintro e w' ⟨rfl, rfl⟩
          rw [Hres.out]
          go_wp2_with (fail)
          refine (RunsOf_i _ _ _ Hu.out (by omega)).mono ?_
          rintro e w2 ⟨v2, rfl, o2, b2⟩
          obtain ⟨p1, p2, p3, rfl⟩ := o2.shape
          have hp2 := o2.ints.len
          subst hp2
          have hbel2 := hbel.trans_pure b2 (Nat.le_refl _)
          clear o2 hck
          go_wp2
          go_roundw
          case rel => exact ⟨k + 1, false, by omega, by go_num, rfl, by rw [Has.out, Hi.out]; simp, hbel2⟩
          case measure => simp [intOf]; omega
        · go_wp2_with (fail)
          refine (IntervalOf_c _ _ _ Hu.out hr1' hr5' Hrb.out).mono ?_
          rintro e w' ⟨rfl, rfl⟩
          rw [Hres.out]
          go_wp2_with (fail)
          refine (RunsOf_i _ _ _ Hu.out (by omega)).mono ?_
          rintro e w2 ⟨v2, rfl, o2, b2⟩
          obtain ⟨p1, p2, p3, rfl⟩ := o2.shape
          have hp2 := o2.ints.len
          subst hp2
          have hbel2 := hbel.trans_pure b2 (Nat.le_refl _)
          clear o2 hck
          go_wp2
          go_roundw
          case rel => exact ⟨k + 1, false, by omega, by go_num, rfl, by rw [Has.out, Hi.out]; simp, hbel2⟩
          case measure => simp [intOf]; omega
      · have hl1 : decide ((((runsOf row).length : Nat) : Int) ≤ 1) = true := by
          rw [hi] at f4
          have := f4.symm
          simp at this ⊢; omega
        have Hres := Lib.hid (show interRes row = .tuple #[.int .i64 (firstOf row), .int .i64 (sumL row), .bool true] from by unfold interRes; rw [hi]; rfl)
        have Hi := Lib.hid hi
        have e1 : sumL row = sumL (runsOf row) := by rcases f5 with f | f; · rw [hi] at f; cases f
                                                     · exact f
        obtain ⟨n, hn⟩ : ∃ n, n = sumL row := ⟨_, rfl⟩
        have Hst := Lib.hid (show sumL (runsOf row) = n from by rw [hn, e1])
        obtain ⟨st, hst⟩ : ∃ st, st = firstOf row := ⟨_, rfl⟩
        have hres2 : interRes row = .tuple #[.int .i64 st, .int .i64 n, .bool true] := by rw [Hres.out, hn, hst]
        have Hres2 := Lib.hid hres2
        have hst0 : 0 ≤ st := by rw [hst]; exact f1
        have hn0 : 0 ≤ n := by rw [hn]; exact f3
        have hf6 : 0 < n → st < row.length ∧ row.getD st.toNat 0 = 1 := by
          intro hpos
          rcases f6 with f | f
          · rcases f with f | f
            · rw [hi] at f; cases f
            · rw [← hn] at f; omega
          · rw [← hst] at f; exact f
        clear hi f1 f2 f3 f4 f5 f6 f7 hrow hrl hrb hrt hsm e1 hn hst hres2 Hres
        by_cases hpos : 0 < n
        · obtain ⟨g1, g2⟩ := hf6 hpos
          obtain ⟨sn, rfl⟩ : ∃ sn : Nat, st = sn := ⟨st.toNat, by omega⟩
          have hz : row[sn]? = some 1 := by
            rw [Int.toNat_natCast, List.getD_eq_getElem?_getD] at g2
            obtain ⟨z, hz⟩ : ∃ z, row[sn]? = some z := ⟨_, List.getElem?_eq_getElem (by omega)⟩
            rw [hz] at g2 ⊢
            simp at g2; rw [g2]
          have hcz := Ints.at hu hz
          have Hcz := Lib.hid hcz
          have hdn : decide ((0 : Int) < n) = true := by simpa using hpos
          clear hz g2 hu hat hf6 hcz
          cases b
          · go_wp2_with (fail)
            refine (IntervalOf_c _ _ _ Hu.out hr1' hr5' Hrb.out).mono ?_
            rintro e w' ⟨rfl, rfl⟩
            rw [Hres2.out]
            go_wp2_with (fail)
            refine (RunsOf_i _ _ _ Hu.out (by omega)).mono ?_
            rintro e w2 ⟨v2, rfl, o2, b2⟩
            obtain ⟨p1, p2, p3, rfl⟩ := o2.shape
            have hp2 := o2.ints.len
            subst hp2
            have hbel2 := hbel.trans_pure b2 (Nat.le_refl _)
            have Ho2 := Lib.hid o2.ints
            clear o2 hck
            go_wp2_with (fail)
            refine (total_c _ _ _ Ho2.out Hsm.out).mono ?_
            rintro e w' ⟨rfl, rfl⟩
            rw [Hst.out]
            have hc2 := (hbel2.cell (p := ⟨br, offr + sn, none⟩) hbr).trans Hcz.out
            have hns : ¬ row.length ≤ sn := by omega
            have hns1 : ¬ ((sn : Int) < 0) := by omega
            have hns2 : ¬ (((row.length : Nat) : Int) ≤ (sn : Int)) := by omega
            have hns3 : sn < row.length := by omega
            go_wp2
            go_roundw
            case rel => exact ⟨k + 1, _, by omega, by go_num, rfl, by rw [Has.out, Hi.out, ← Hb.out]; rfl, hbel2⟩
            case measure => simp [intOf]; omega
          · go_wp2_with (fail)
            refine (IntervalOf_c _ _ _ Hu.out hr1' hr5' Hrb.out).mono ?_
            rintro e w' ⟨rfl, rfl⟩
            rw [Hres2.out]
            go_wp2_with (fail)
            refine (RunsOf_i _ _ _ Hu.out (by omega)).mono ?_
            rintro e w2 ⟨v2, rfl, o2, b2⟩
            obtain ⟨p1, p2, p3, rfl⟩ := o2.shape
            have hp2 := o2.ints.len
            subst hp2
            have hbel2 := hbel.trans_pure b2 (Nat.le_refl _)
            have Ho2 := Lib.hid o2.ints
            clear o2 hck
            go_wp2_with (fail)
            refine (total_c _ _ _ Ho2.out Hsm.out).mono ?_
            rintro e w' ⟨rfl, rfl⟩
            rw [Hst.out]
            have hc2 := (hbel2.cell (p := ⟨br, offr + sn, none⟩) hbr).trans Hcz.out
            have hns : ¬ row.length ≤ sn := by omega
            have hns1 : ¬ ((sn : Int) < 0) := by omega
            have hns2 : ¬ (((row.length : Nat) : Int) ≤ (sn : Int)) := by omega
            have hns3 : sn < row.length := by omega
            go_wp2
            go_roundw
            case rel => exact ⟨k + 1, _, by omega, by go_num, rfl, by rw [Has.out, Hi.out, ← Hb.out]; rfl, hbel2⟩
            case measure => simp [intOf]; omega
        · have hn00 : n = 0 := by omega
          subst hn00
          clear hu hat hf6 hpos
          cases b
          · go_wp2_with (fail)
            refine (IntervalOf_c _ _ _ Hu.out hr1' hr5' Hrb.out).mono ?_
            rintro e w' ⟨rfl, rfl⟩
            rw [Hres2.out]
            go_wp2_with (fail)
            refine (RunsOf_i _ _ _ Hu.out (by omega)).mono ?_
            rintro e w2 ⟨v2, rfl, o2, b2⟩
            obtain ⟨p1, p2, p3, rfl⟩ := o2.shape
            have hp2 := o2.ints.len
            subst hp2
            have hbel2 := hbel.trans_pure b2 (Nat.le_refl _)
            have Ho2 := Lib.hid o2.ints
            clear o2 hck
            go_wp2_with (fail)
            refine (total_c _ _ _ Ho2.out Hsm.out).mono ?_
            rintro e w' ⟨rfl, rfl⟩
            rw [Hst.out]
            go_wp2
            go_roundw
            case rel => exact ⟨k + 1, _, by omega, by go_num, rfl, by rw [Has.out, Hi.out, ← Hb.out]; rfl, hbel2⟩
            case measure => simp [intOf]; omega
          · go_wp2_with (fail)
            refine (IntervalOf_c _ _ _ Hu.out hr1' hr5' Hrb.out).mono ?_
            rintro e w' ⟨rfl, rfl⟩
            rw [Hres2.out]
            go_wp2_with (fail)
            refine (RunsOf_i _ _ _ Hu.out (by omega)).mono ?_
            rintro e w2 ⟨v2, rfl, o2, b2⟩
            obtain ⟨p1, p2, p3, rfl⟩ := o2.shape
            have hp2 := o2.ints.len
            subst hp2
            have hbel2 := hbel.trans_pure b2 (Nat.le_refl _)
            have Ho2 := Lib.hid o2.ints
            clear o2 hck
            go_wp2_with (fail)
            refine (total_c _ _ _ Ho2.out Hsm.out).mono ?_
            rintro e w' ⟨rfl, rfl⟩
            rw [Hst.out]
            go_wp2
            go_roundw
            case rel => exact ⟨k + 1, _, by omega, by go_num, rfl, by rw [Has.out, Hi.out, ← Hb.out]; rfl, hbel2⟩
            case measure => simp [intOf]; omega
    · have Hall := Lib.hid (show b = m.all interOk from by rw [Hb.out, List.take_of_length_le (by rw [Hml.out]; omega)])
      have hok := Hsh.out.ok hr1 hr2 hc1 hc2
      have hall2 : hConvex m = b := by unfold hConvex; rw [hok, Hall.out]; rfl
      have htr : hConvex (trOf (trOf m)) = b := by
        have e1 : trOf m = tr m := by unfold trOf; rw [if_pos hok]
        have e2 : trOf (tr m) = tr (tr m) := by unfold trOf; rw [if_pos (imageOk_tr hok)]
        rw [e1, e2, tr_tr Hsh.out hr1 hc1, hall2]
      have Hh := Lib.hid hall2
      have Htr := Lib.hid htr
      have hdk : decide ((k : Int) < (r : Int)) = false := by simp; omega
      clear hall2 htr hok
      go_wp2_with (fail)
      refine (IsHConvex_c _ _ _ (Hgrid.out.keep hbel)).mono ?_
      rintro e w' ⟨rfl, rfl⟩
      rw [Hh.out]
      have hbb : (b == b) = true := by simp
      go_wp2_with (fail)
      refine (TransposeOf_i _ _ _ (Hgrid.out.keep hbel)).mono ?_
      rintro e w2 ⟨v2, rfl, o2, b2⟩
      go_wp2_with (fail)
      refine (IsVConvex_c _ _ _ o2.grid).mono ?_
      rintro e w3 ⟨rfl, b3⟩
      rw [Htr.out]
      have bb3 := (hbel.trans_pure b2 (Nat.le_refl _)).trans_pure b3 (Nat.le_refl _)
      go_wp2_with (fail)
      refine (CountPieces_c _ _ r c _ (Hgrid.out.keep bb3) Hsh.out hr1 hr2 hc1 hc2).mono ?_
      rintro e w4 ⟨⟨n, rfl, hn⟩, b4⟩
      have bb4 := bb3.trans_pure b4 (Nat.le_refl _)
      have hdn : decide (n ≤ ones m) = true := by simpa using hn
      go_wp2_with (fail)
      refine (CountBlack_c _ _ r c _ (Hgrid.out.keep bb4) Hsh.out hr1 hr2 hc1 hc2).mono ?_
      rintro e w' ⟨rfl, rfl⟩
      have bbf := hbel1.trans_pure bb4 (Nat.le_refl _)
      go_wp2
      go_ret
      exact ⟨rfl, bbf⟩
end Go.Proofs.Ytodaiaigmjaaoaa

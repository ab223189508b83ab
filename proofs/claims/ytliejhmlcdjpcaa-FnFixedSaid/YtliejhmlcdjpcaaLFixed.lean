/- FnFixed: the walk of the law. -/
import Derived.Test.YtliejhmlcdjpcaaSw4
import Derived.Test.YtliejhmlcdjpcaaDraw2
namespace Go.Proofs.Ytliejhmlcdjpcaa
open Go.RowKit

set_option maxHeartbeats 1000000 in
theorem IsFixed_i (v : Value) (m : List (List Int)) (r c y x : Nat) (f : Int) (l : List Int) (w : World) (hv : Grid w v m) (hs : Shape r c m) (hr1 : 1 ≤ r) (hr5 : r ≤ 5) (hc1 : 1 ≤ c) (hc5 : c ≤ 5) (hy : y < r) (hx : x < c) (hl : (fixedOf (rowSumsOf m) (colSumsOf m))[y]? = some l) (hf : l[x]? = some f) :
    Calls Try.prog 17 #[v, .int .i64 y, .int .i64 x] w fun e w' => e = .returned (.bool (decide (0 ≤ f))) ∧ Below w.heap.size w w' := by
  have Hv := Lib.hid hv
  have hfix := (fix_ok hs hr1 hr5 hc1 hc5).len
  obtain ⟨F, hF⟩ : ∃ F, F = fixedOf (rowSumsOf m) (colSumsOf m) := ⟨_, rfl⟩
  rw [← hF] at hfix hl
  have HF := Lib.hid hF; clear hF
  have Hb := Lib.hid (inB_iff (r := r) (c := c) (y := y) (x := x).2 (by omega))
  obtain ⟨a, cap, rfl, -⟩ := hv
  go_enter Try.func17, Try.ntmps17
  go_wp2_with (fail)
  refine (hasCell_c _ _ _ _ _ _ _ Hv.out hs hr1 hr5 hc1 hc5).mono ?_
  rintro e w' ⟨rfl, rfl⟩
  rw [Hb.out]
  go_wp2_with (fail)
  refine (RowSums_i _ _ _ Hv.out).mono ?_
  rintro e w1 ⟨v1, rfl, o1, b1⟩
  have Ho1 := Lib.hid o1.ints; clear o1
  go_wp2_with (fail)
  refine (ColSums_i _ _ _ (Hv.out.keep b1)).mono ?_
  rintro e w2 ⟨v2, rfl, o2, b2⟩
  go_wp2_with (fail)
  refine (FixedCells_i _ _ _ _ _ (Ho1.out.keep b2) o2.ints).mono ?_
  rintro e w3 ⟨v3, rfl, o3, b3⟩
  rw [← HF.out] at o3
  have bb : Below w.heap.size w w3 := b1.trans_pure (b2.trans_pure b3 (Nat.le_refl _)) (Nat.le_refl _)
  obtain ⟨g, gc, rfl, -, -, hgl, -⟩ := o3.inv_ne (by omega)
  have Hg := o3.grid
  obtain ⟨u, hck, hu⟩ := Sl.at Hg hl
  have hu : Ints w3 u l := hu
  have hxl := (List.getElem?_eq_some_iff.1 hf).1
  obtain ⟨br, offr, cpr, rfl, hbr, -⟩ := hu.inv_ne (by omega)
  have hcf := Ints.at hu hf
  rw [Nat.zero_add] at hck
  rw [hfix]
  clear o2 o3 Hg hu hl hf hfix
  go_wp2
  go_ret
  exact ⟨rfl, bb⟩

set_option maxRecDepth 100000 in
set_option maxHeartbeats 1600000 in
theorem FnFixed_w {v : Value} {bs : List Int} {w : World} (hv : Bytes w v bs) :
    Calls Try.prog 4 #[v] w fun e w' => e = .returned (.bool true) ∧ Below w.heap.size w w' := by
  obtain ⟨a, cap, rfl, -, -, -, -⟩ := id hv
  rcases Nat.lt_or_ge 1048576 bs.length with h1 | h1
  · go_enter Try.func4, Try.ntmps4
    go_wp2
    go_ret
    exact ⟨rfl, Below.refl _ _⟩
  have hd0 : decide ((1048576 : Int) < (bs.length : Int)) = false := by simp; omega
  go_enter Try.func4, Try.ntmps4
  go_wp2_with (fail)
  refine (MakeImage_c _ bs 0 4 w hv (by decide) (by decide) (by decide)).mono ?_
  rintro e w1 ⟨v1, m, r, c, rfl, ⟨hr1, hr4⟩, ⟨hc1, hc4⟩, hsh, hown1, bb1⟩
  have hr5 : r ≤ 5 := by omega
  have hc5 : c ≤ 5 := by omega
  obtain ⟨p, off, cp, rfl, hp, hcl⟩ := hown1.grid.cells hsh hr1 hc1
  have Hm := Lib.hid hown1.grid
  have Hcl := Lib.hid hcl
  have hfix := fix_ok hsh hr1 hr5 hc1 hc5
  obtain ⟨F, hF⟩ : ∃ F, F = fixedOf (rowSumsOf m) (colSumsOf m) := ⟨_, rfl⟩
  rw [← hF] at hfix
  have HF := Lib.hid hF
  have Hfix := Lib.hid hfix
  clear hfix hF hown1 hcl
  go_wp2_with (fail)
  refine (RowSums_i _ _ _ Hm.out).mono ?_
  rintro e w2 ⟨v2, rfl, o2, b2⟩
  have Ho2 := Lib.hid o2.ints; clear o2
  go_wp2_with (fail)
  refine (ColSums_i _ _ _ (Hm.out.keep b2)).mono ?_
  rintro e w3 ⟨v3, rfl, o3, b3⟩
  go_wp2_with (fail)
  refine (FixedCells_i _ _ _ _ _ (Ho2.out.keep b3) o3.ints).mono ?_
  rintro e w4 ⟨v4, rfl, o4, b4⟩
  rw [← HF.out] at o4
  have b14 := b2.trans_pure (b3.trans_pure b4 (Nat.le_refl _)) (Nat.le_refl _)
  have bb4 := bb1.trans_pure b14 (Nat.le_refl _)
  obtain ⟨g, gc, rfl, -, -, hgl, -⟩ := o4.inv_ne (by rw [Hfix.out.len]; omega)
  have Hg := Lib.hid o4.grid
  have hFl := Hfix.out.len
  rw [hFl] at Hg ⊢
  have hp4 : p < w4.heap.size := Nat.lt_of_lt_of_le hp b14.size
  clear o3 o4 hFl
  go_wp2
  go_loopw [5, 6, 7, 8, 9, 10, 28] (fun n _ _ _ _ _ i wr => ∃ k : Nat, k ≤ r ∧ i = .int .i64 k ∧ n = .int .i64 (negs (F.take k)) ∧ negs (F.take k) ≤ 5 * k ∧ Hid (Below w4.heap.size w4 wr)) (fun _ _ _ _ _ _ i _ => r - (intOf i).toNat)
  case atStart => exact ⟨0, Nat.zero_le _, rfl, by simp [negs], by simp [negs], Below.refl _ _⟩
  case round =>
    obtain ⟨k, hk, rfl, rfl, hn, Hb⟩ := hrel
    by_cases hlt : k < r
    · obtain ⟨l, hl, hll, hlc⟩ := Hfix.out.row k hlt
      obtain ⟨u, hck, hu⟩ := Sl.at Hg.out hl
      have hu : Ints w4 u l := hu
      obtain ⟨br, offr, cpr, rfl, hbr, -⟩ := hu.inv_ne (by omega)
      rw [Nat.zero_add, hll] at hck
      obtain ⟨b2, o2, c2, hmk, hb2, hmx⟩ := Hcl.out k hlt
      have hck' := (Hb.out.cell (p := ⟨g, k, none⟩) hgl).trans hck
      have hmk4 := (b14.cell (p := ⟨p, off + k, none⟩) hp).trans hmk
      have hmk' := (Hb.out.cell (p := ⟨p, off + k, none⟩) hp4).trans hmk4
      have hb24 : b2 < w4.heap.size := Nat.lt_of_lt_of_le hb2 b14.size
      have Hu := Lib.hid hu
      have Hl := Lib.hid hl
      have Hll := Lib.hid hll
      have Hlc := Lib.hid hlc
      have Hmx := Lib.hid hmx
      clear hu hl hlc hmx hmk hmk4 hll
      obtain ⟨N, hN⟩ : ∃ N, N = negs (F.take k) := ⟨_, rfl⟩
      rw [← hN] at hn ⊢
      go_wp2
      clear hck' hmk'
      go_loopw [5, 8, 9, 10, 43] (fun n _ _ _ i wr => ∃ x : Nat, x ≤ c ∧ i = .int .i64 x ∧ n = .int .i64 ((N + negRow (l.take x) : Nat) : Int) ∧ negRow (l.take x) ≤ x ∧ Hid (Below w4.heap.size w4 wr)) (fun _ _ _ _ i _ => c - (intOf i).toNat)
      case atStart => exact ⟨0, Nat.zero_le _, rfl, by simp [negRow], by simp [negRow], Hb⟩
      case round =>
        clear Hb
        obtain ⟨x, hx, rfl, rfl, hnx, Hb⟩ := hrel
        by_cases hlt2 : x < c
        · obtain ⟨f, hf, hfc⟩ := Hlc.out x hlt2
          have hcf := Ints.at Hu.out hf
          have hmc := (Hb.out.cell (p := ⟨b2, o2 + x, none⟩) hb24).trans ((b14.cell (p := ⟨b2, o2 + x, none⟩) hb2).trans (Hmx.out x hlt2))
          have Hn := Lib.hid (negRow_take hf)
          have Hf := Lib.hid hf
          have hz0 := (at2_bits hsh k x).1
          clear hf
          obtain ⟨N2, hN2⟩ : ∃ N2, N2 = negRow (l.take x) := ⟨_, rfl⟩
          rw [← hN2] at hnx ⊢ Hn
          clear hN2
          obtain ⟨z, hz⟩ : ∃ z, z = at2 m k x := ⟨_, rfl⟩
          rw [← hz] at hmc hfc hz0
          clear hz
          go_wp2_with (fail)
          refine (IsFixed_i _ m r c k x f l _ (Hm.out.keep (b14.trans_pure (Hb.out) (Nat.le_refl _) )) hsh hr1 hr5 hc1 hc5 hlt hlt2 (by rw [← HF.out]; exact Hl.out) Hf.out).mono ?_
          rintro e w5 ⟨rfl, b5⟩
          have Hb5 := Lib.hid (Hb.out.trans_pure b5 (Nat.le_refl _))
          have e1 := (Hb5.out.cell (p := ⟨g, k, none⟩) hgl).trans hck
          have e2 := (Hb5.out.cell (p := ⟨br, offr + x, none⟩) hbr).trans hcf
          clear hcf hmc
          rcases hfc with rfl | rfl
          · have hd : decide ((0 : Int) ≤ -1) = false := rfl
            rw [hd]
            go_wp2
            go_roundw
            case rel => exact ⟨x + 1, by omega, by go_num, by rw [Hn.out, if_pos (by decide)]; go_num, by rw [Hn.out, if_pos (by decide)]; omega, Hb5⟩
            case measure => simp [intOf]; omega
          · have hd : decide ((0 : Int) ≤ f) = true := by simpa using hz0
            have hm1 : (f == -1) = false := by rw [beq_eq_false_iff_ne]; omega
            have Hm2 := Lib.hid (show negRow (l.take (x + 1)) = N2 from by rw [Hn.out, if_neg (by omega)]; omega)
            rw [hd]
            go_wp2
            go_roundw
            case rel => exact ⟨x + 1, by omega, by go_num, by rw [Hm2.out]; go_num, by rw [Hm2.out]; omega, Hb5⟩
            case measure => simp [intOf]; omega
        · obtain rfl : x = c := by omega
          have hlast : l.take x = l := List.take_of_length_le (Nat.le_of_eq Hll.out)
          rw [hlast] at hnx ⊢
          have Hs := Lib.hid (negs_take Hl.out)
          go_wp2
          go_roundw
          case rel => exact ⟨k + 1, by omega, by go_num, by rw [Hs.out, ← hN], by rw [Hs.out, ← hN]; omega, Hb⟩
          case measure => simp [intOf]; omega
    · obtain rfl : k = r := by omega
      rw [List.take_of_length_le (Nat.le_of_eq Hfix.out.len)] at hn ⊢
      have hm1 := Hm.out.keep (b14.trans_pure Hb.out (Nat.le_refl _))
      have bbr := bb4.trans_pure Hb.out (Nat.le_refl _)
      have Hzero := Lib.hid Hfix.out.zero
      have Htext := Lib.hid Hfix.out.text
      obtain ⟨N, hN⟩ : ∃ N, N = negs F := ⟨_, rfl⟩
      rw [← hN] at hn Hzero ⊢
      have HN := Lib.hid hN
      clear hN
      go_wp2_with (fail)
      refine (FreeCells_i _ m k c _ hm1 hsh hr1 hr5 hc1 hc5).mono ?_
      rintro e w6 ⟨rfl, b6⟩
      rw [← HF.out, ← HN.out]
      have bb6 := bbr.trans_pure b6 (Nat.le_refl _)
      have Hm2 := Lib.hid (hm1.keep b6)
      have hself : ((N : Int) == (N : Int)) = true := by simp
      have fin : ∀ z : Bool, ((N : Int) == 0) = z → decide (switchesOf k c m = []) = z := by
        rintro z rfl
        rw [Bool.eq_iff_iff, decide_eq_true_eq, beq_iff_eq, ← Hzero.out]
        omega
      obtain ⟨z, hz⟩ : ∃ z, ((N : Int) == 0) = z := ⟨_, rfl⟩
      have Hfin := Lib.hid (fin z hz)
      clear fin hm1
      go_wp2_with (fail)
      refine (IsUnique_i _ m k c _ Hm2.out hsh hr1 hr5 hc1 hc5).mono ?_
      rintro e w7 ⟨rfl, b7⟩
      rw [Hfin.out]
      have bb7 := bb6.trans_pure b7 (Nat.le_refl _)
      go_wp2_with (fail)
      refine (RowSums_i _ _ _ (Hm2.out.keep b7)).mono ?_
      rintro e w8 ⟨v8, rfl, o8, b8⟩
      have bb8 := bb7.trans_pure b8 (Nat.le_refl _)
      have Ho8 := Lib.hid o8.ints
      clear o8
      go_wp2_with (fail)
      refine (ColSums_i _ _ _ ((Hm2.out.keep b7).keep b8)).mono ?_
      rintro e w9 ⟨v9, rfl, o9, b9⟩
      have bb9 := bb8.trans_pure b9 (Nat.le_refl _)
      go_wp2_with (fail)
      refine (FixedLine_i _ _ _ _ _ (Ho8.out.keep b9) o9.ints).mono ?_
      rintro e w10 ⟨rfl, b10⟩
      have bb10 := bb9.trans_pure b10 (Nat.le_refl _)
      have ht : fixedText (rowSumsOf m) (colSumsOf m) = signsOf F := by unfold fixedText; rw [← HF.out]
      rw [ht]
      obtain ⟨T, hT⟩ : ∃ T, T = signsOf F := ⟨_, rfl⟩
      rw [← hT] at Htext ⊢
      clear ht hT o9
      have hT2 : T.toList.isEmpty = false := by
        rw [ByteArray.toList_eq, List.isEmpty_eq_false_iff]
        intro e
        have h := Htext.out
        have h2 := congrArg List.length e
        rw [Array.length_toList, List.length_nil] at h2
        have h3 : T.size = T.data.size := rfl
        omega
      go_wp2
      go_ret
      exact ⟨rfl, bb10⟩
end Go.Proofs.Ytliejhmlcdjpcaa

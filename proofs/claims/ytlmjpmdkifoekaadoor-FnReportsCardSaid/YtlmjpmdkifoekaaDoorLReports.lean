/- FnReports: the walk of the law. -/
import Derived.Test.YtlmjpmdkifoekaaDoorP4
import Derived.Test.YtlmjpmdkifoekaaDoorW5
import Derived.Test.YtlmjpmdkifoekaaDoorKeyL
namespace Go.Proofs.YtlmjpmdkifoekaaDoor
open Go.RowKit

theorem sums_said {r c : Nat} {m : List (List Int)} (hs : Shape r c m) (hr1 : 1 ≤ r) (hr5 : r ≤ 5) (hc1 : 1 ≤ c) (hc5 : c ≤ 5) : sumsOk (rowSumsOf m) (colSumsOf m) = true ∧ sumsLineOf (rowSumsOf m) (colSumsOf m) = ⟨#[114, 111, 119, 115, 32]⟩ ++ sumsText (rowSumsOf m) ++ ⟨#[32, 99, 111, 108, 115, 32]⟩ ++ sumsText (colSumsOf m) ++ ⟨#[32, 105, 109, 97, 103, 101, 115, 32]⟩ ++ fmtInt ((allImgs (rowSumsOf m) (colSumsOf m)).length : Int) := by
  have hS := sums_of_image hs hr1 hr5 hc1 hc5
  have hrl := (rowSumsOf_wf hs hr1 hr5 hc1 hc5).1
  have hcl := (colSumsOf_wf hs hr1 hr5 hc1 hc5).1
  have hok : sumsOk (rowSumsOf m) (colSumsOf m) = true := sumsOk_of (by omega) (by omega) (by omega) (by omega) (by rw [hrl, hcl]; exact hS)
  refine ⟨hok, ?_⟩
  have hex : existsB (rowSumsOf m) (colSumsOf m) = true := by
    cases h : existsB (rowSumsOf m) (colSumsOf m) with
    | true => rfl
    | false =>
      have h1 := imgsOf_none h
      have h2 : m ∈ imgsOf (rowSumsOf m) (colSumsOf m) := by rw [imgsOf_ok hok, allImgs_mem hok, hrl, hcl]; exact hS
      rw [h1] at h2; cases h2
  unfold sumsLineOf sumsHead
  rw [if_pos hok, if_pos hex, imgsOf_ok hok]
theorem lit_grid (w w' : World) (hw : Below (((w.alloc (.cells #[.int .i64 1, .int .i64 (-1)] 3)).alloc (.cells #[.int .i64 0, .int .i64 2] 3)).alloc (.cells #[.slice (some ⟨w.heap.size, 0, none⟩) 2 2, .slice (some ⟨w.heap.size + 1, 0, none⟩) 2 2] 24)).heap.size (((w.alloc (.cells #[.int .i64 1, .int .i64 (-1)] 3)).alloc (.cells #[.int .i64 0, .int .i64 2] 3)).alloc (.cells #[.slice (some ⟨w.heap.size, 0, none⟩) 2 2, .slice (some ⟨w.heap.size + 1, 0, none⟩) 2 2] 24)) w') : Grid w' (.slice (some ⟨w.heap.size + 2, 0, none⟩) 2 2) [[1, -1], [0, 2]] := by
  have k1 : Blk w' w.heap.size #[.int .i64 1, .int .i64 (-1)] 3 := (((Blk.new w _ _).keep (Below.pureAlloc _ _)).keep (Below.pureAlloc _ _)).keep hw
  have k2 : Blk w' (w.heap.size + 1) #[.int .i64 0, .int .i64 2] 3 := by
    have h := ((Blk.new (w.alloc (.cells #[.int .i64 1, .int .i64 (-1)] 3)) #[.int .i64 0, .int .i64 2] 3).keep (Below.pureAlloc _ (.cells #[.slice (some ⟨w.heap.size, 0, none⟩) 2 2, .slice (some ⟨w.heap.size + 1, 0, none⟩) 2 2] 24))).keep hw
    rwa [show (w.alloc (.cells #[.int .i64 1, .int .i64 (-1)] 3)).heap.size = w.heap.size + 1 from by simp] at h
  have k3 : Blk w' (w.heap.size + 2) #[.slice (some ⟨w.heap.size, 0, none⟩) 2 2, .slice (some ⟨w.heap.size + 1, 0, none⟩) 2 2] 24 := by
    have h := (Blk.new ((w.alloc (.cells #[.int .i64 1, .int .i64 (-1)] 3)).alloc (.cells #[.int .i64 0, .int .i64 2] 3)) #[.slice (some ⟨w.heap.size, 0, none⟩) 2 2, .slice (some ⟨w.heap.size + 1, 0, none⟩) 2 2] 24).keep hw
    rwa [show ((w.alloc (.cells #[.int .i64 1, .int .i64 (-1)] 3)).alloc (.cells #[.int .i64 0, .int .i64 2] 3)).heap.size = w.heap.size + 2 from by simp] at h
  have two : ∀ (b : Nat) (x y : Int), I64 x → I64 y → Blk w' b #[.int .i64 x, .int .i64 y] 3 → Sl IntV (fun b => b < w'.heap.size) w' (.slice (some ⟨b, 0, none⟩) 2 2) [x, y] := fun b x y hx hy hB => by
    refine ⟨_, 2, rfl, by simp, by simp, fun h => by simp at h, fun _ => ⟨b, 0, rfl, hB.lt, fun k z hk => ?_⟩⟩
    have hc := hB.cell k
    rw [Nat.zero_add, hc]
    match k, hk with
    | 0, hk => simp at hk; subst hk; exact ⟨_, rfl, rfl, hx⟩
    | 1, hk => simp at hk; subst hk; exact ⟨_, rfl, rfl, hy⟩
    | n + 2, hk => simp at hk
  refine ⟨_, 2, rfl, by simp, by simp, fun h => by simp at h, fun _ => ⟨w.heap.size + 2, 0, rfl, k3.lt, fun k z hk => ?_⟩⟩
  have hc := k3.cell k
  rw [Nat.zero_add, hc]
  match k, hk with
  | 0, hk => simp at hk; subst hk; exact ⟨_, rfl, two _ _ _ (I64.small (by omega) (by omega)) (I64.small (by omega) (by omega)) k1⟩
  | 1, hk => simp at hk; subst hk; exact ⟨_, rfl, two _ _ _ (I64.small (by omega) (by omega)) (I64.small (by omega) (by omega)) k2⟩
  | n + 2, hk => simp at hk
theorem dir_said : dirText 1 (-1) = ⟨#[49, 44, 45, 49]⟩ := by decide +kernel
theorem grid_said : gridText [[1, -1], [0, 2]] = ⟨#[49, 32, 45, 49, 47, 48, 32, 50]⟩ := by decide +kernel
set_option maxRecDepth 100000 in
set_option maxHeartbeats 3200000 in
theorem FnReports_w {v : Value} {bs : List Int} {w : World} (hv : Bytes w v bs) (ht : Tab w) :
    Calls Tryd.prog 7 #[v] w fun e w' => e = .returned (.bool true) ∧ Below w.heap.size w w' := by
  obtain ⟨a, cap, rfl, -, -, -, -⟩ := id hv
  rcases Nat.lt_or_ge 1048576 bs.length with h1 | h1
  · go_enter Tryd.func7, Tryd.ntmps7
    go_wp2
    go_ret
    exact ⟨rfl, Below.refl _ _⟩
  have hd0 : decide ((1048576 : Int) < (bs.length : Int)) = false := by simp; omega
  have HT := Lib.hid ht
  clear ht
  go_enter Tryd.func7, Tryd.ntmps7
  go_wp2_with (fail)
  refine (MakePair_c _ bs w hv).mono ?_
  rintro e w1 ⟨va, vb, m, t, r, c, rfl, ⟨hr1, hr4⟩, ⟨hc1, hc4⟩, hs, hsum, gm, gt, bb1⟩
  have hr5 : r ≤ 5 := by omega
  have hc5 : c ≤ 5 := by omega
  have hs2 := hsum.1
  have hse := sums_lists hsum (rowSumsOf_wf hs hr1 hr5 hc1 hc5).1 (colSumsOf_wf hs hr1 hr5 hc1 hc5).1 hr1 hr5 hc1 hc5
  obtain ⟨hok, hline⟩ := sums_said hs hr1 hr5 hc1 hc5
  have hwr := (rowSumsOf_wf hs hr1 hr5 hc1 hc5).1
  have hwc := (colSumsOf_wf hs hr1 hr5 hc1 hc5).1
  have hbig := imgs_big hok
  rw [imgsOf_ok hok] at hbig
  obtain ⟨xs, hxs⟩ : ∃ xs, xs = rowSumsOf m := ⟨_, rfl⟩
  obtain ⟨ys, hys⟩ : ∃ ys, ys = colSumsOf m := ⟨_, rfl⟩
  have E1 := Lib.hid (show rowSumsOf m = rowSumsOf t from hse.1.symm)
  have E2 := Lib.hid (show colSumsOf m = colSumsOf t from hse.2.symm)
  rw [← hxs, ← hys] at hok hline hbig
  rw [← hxs] at hwr
  rw [← hys] at hwc
  have hlx : xs.length ≤ 5 := by omega
  have hly : ys.length ≤ 5 := by omega
  have Hxs := Lib.hid hxs
  have Hys := Lib.hid hys
  have Hok := Lib.hid hok
  obtain ⟨A, hA⟩ : ∃ A, A = sumsText xs := ⟨_, rfl⟩
  obtain ⟨B, hB⟩ : ∃ B, B = sumsText ys := ⟨_, rfl⟩
  obtain ⟨N, hN⟩ : ∃ N, N = (allImgs xs ys).length := ⟨_, rfl⟩
  rw [← hA, ← hB, ← hN] at hline
  rw [← hN] at hbig
  have Hline := Lib.hid hline
  have HA := Lib.hid hA
  have HB := Lib.hid hB
  have HN := Lib.hid hN
  have Gm := Lib.hid gm
  have Gt := Lib.hid gt
  obtain ⟨a1, k1, rfl, -⟩ := gm
  obtain ⟨a2, k2, rfl, -⟩ := gt
  clear hsum hse hxs hys hok hline hA hB hN hwr hwc
  go_wp2_with (fail)
  refine (PathTo_t _ _ m t r c _ Gm.out Gt.out hs hs2 hr1 hr4 hc1 hc4 E1.out E2.out).mono ?_
  rintro e w2 ⟨v1, W, rfl, hW, hWl, oW, b2⟩
  have HW := Lib.hid hW
  have hsm := path_small hr5 hc5 hW.1
  have Hsm := Lib.hid hsm
  have Hsz := Lib.hid (pathTxt_size hWl hsm)
  have Hz0 := Lib.hid (pathTxt_zero W)
  have Hstep := Lib.hid (fun k s => pathTxt_succ (W := W) (k := k) (s := s))
  have hz0 := fmt_size (n := (W.length : Int)) (by omega)
  have Hown := Lib.hid oW
  obtain ⟨wa, wc, rfl⟩ := oW.shape
  obtain ⟨NW, hNW⟩ : ∃ NW, NW = W.length := ⟨_, rfl⟩
  have HT2 := Lib.hid (HT.out.keep (bb1.trans_pure b2 (Nat.le_refl _)))
  rw [← hNW] at hWl hz0 Hz0 Hown ⊢
  have HNW := Lib.hid hNW
  clear hW hsm hNW oW
  go_wp2_with (fail)
  refine (FormatInt_i _ (I64.small (by omega) (by omega)) _ HT2.out).mono ?_
  rintro e w3 ⟨rfl, b3⟩
  have b23 := b2.trans_pure b3 (Nat.le_refl _)
  have Hown3 := Lib.hid (Hown.out.keep b3)
  have HT3 := Lib.hid (HT2.out.keep b3)
  obtain ⟨F0, hF0⟩ : ∃ F0, F0 = fmtInt (NW : Int) := ⟨_, rfl⟩
  rw [← hF0] at Hz0 hz0 ⊢
  clear hF0
  go_wp2
  go_loopw [7, 9, 32] (fun s _ i wr => ∃ k : Nat, k ≤ NW ∧ i = .int .i64 k ∧ s = .string (pathTxt W k) ∧ Hid (Below w3.heap.size w3 wr)) (fun _ _ i _ => NW - (intOf i).toNat)
  case atStart => exact ⟨0, Nat.zero_le _, rfl, by rw [Hz0.out], Lib.hid (Below.refl _ _)⟩
  case round =>
    obtain ⟨k, hk, rfl, rfl, Hb⟩ := hrel
    obtain ⟨wi, rfl⟩ : ∃ wi : World, wi = wr := ⟨_, rfl⟩
    by_cases hlt : k < NW
    · obtain ⟨sp, hsp⟩ : ∃ sp, W[k]? = some sp := ⟨_, List.getElem?_eq_getElem (by rw [← HNW.out]; exact hlt)⟩
      obtain ⟨g, cp, he, -, hgl, -, hcells⟩ := Hown3.out.at (by rw [← HNW.out]; omega)
      obtain ⟨rfl, -⟩ : wa = some ⟨g, 0, none⟩ ∧ wc = cp := by
        simp only [Value.slice.injEq] at he
        exact ⟨he.1, he.2.2⟩
      have c0 := (Hb.out.cell (p := ⟨g, k * 4 + 0, none⟩) hgl).trans (hcells k sp hsp 0 (.int .i64 sp.1) rfl)
      have c1 := (Hb.out.cell (p := ⟨g, k * 4 + 1, none⟩) hgl).trans (hcells k sp hsp 1 (.int .i64 sp.2.1) rfl)
      have c2 := (Hb.out.cell (p := ⟨g, k * 4 + 2, none⟩) hgl).trans (hcells k sp hsp 2 (.int .i64 sp.2.2.1) rfl)
      have c3 := (Hb.out.cell (p := ⟨g, k * 4 + 3, none⟩) hgl).trans (hcells k sp hsp 3 (.int .i64 sp.2.2.2) rfl)
      rw [Nat.add_zero] at c0
      have hsm := Hsm.out sp (List.mem_of_getElem? hsp)
      have hsz := Hsz.out k
      have hz := swTxt_size hsm
      have Hst := Lib.hid (Hstep.out k sp hsp)
      have Hbx := Lib.hid (Below.pureAlloc wi (.cells (swC sp).toArray 62))
      have HTx := Lib.hid ((HT3.out.keep Hb.out).keep Hbx.out)
      obtain ⟨h1, h2, h3, h4⟩ := hsm
      obtain ⟨P, hP⟩ : ∃ P, P = pathTxt W k := ⟨_, rfl⟩
      rw [← hP] at hsz Hst ⊢
      have hsw : switchText sp.1 sp.2.1 sp.2.2.1 sp.2.2.2 = swTxt sp := rfl
      have Hsw := Lib.hid hsw
      have hz2 : (P ++ ⟨#[32]⟩ : ByteArray).size ≤ 41 + 100 * k := by
        have e2 : (⟨#[32]⟩ : ByteArray).size = 1 := rfl
        rw [ba_append_size, e2]; omega
      clear he hcells hsp hP hsw
      go_wp2_with (fail)
      refine (FormatSwitch_i sp.1 sp.2.1 sp.2.2.1 sp.2.2.2 (I64.small (by omega) (by omega)) (I64.small (by omega) (by omega)) (I64.small (by omega) (by omega)) (I64.small (by omega) (by omega)) _ HTx.out).mono ?_
      rintro e w4 ⟨rfl, b4⟩
      rw [Hsw.out]
      obtain ⟨S, hS⟩ : ∃ S, S = swTxt sp := ⟨_, rfl⟩
      rw [← hS] at hz Hst ⊢
      have Hst2 := Lib.hid (show pathTxt W (k + 1) = P ++ ⟨#[32]⟩ ++ S from by rw [Hst.out, ba_assoc3])
      have Hb4 := Lib.hid (Hb.out.trans_pure (Hbx.out.trans_pure b4 (Nat.le_refl _)) (Nat.le_refl _))
      clear hS c0 c1 c2 c3
      go_wp2
      go_roundw
      case rel => exact ⟨k + 1, by omega, by go_num, by rw [Hst2.out], Hb4⟩
      case measure => simp [intOf]; omega
    · obtain rfl : k = NW := by omega
      have hbw := Hb.out
      have b1k := b23.trans_pure hbw (Nat.le_refl _)
      obtain ⟨P, hP⟩ : ∃ P, P = pathTxt W k := ⟨_, rfl⟩
      have HP := Lib.hid hP
      have hPs := Hsz.out k
      rw [← hP] at hPs ⊢
      clear hP hbw
      go_wp2_with (fail)
      refine (RowSums_i _ _ _ (Gm.out.keep b1k)).mono ?_
      rintro e w5 ⟨v5, rfl, o5, b5⟩
      rw [← Hxs.out] at o5
      have H5 := Lib.hid o5.ints
      obtain ⟨x1, x2, x3, rfl⟩ := o5.shape
      have hx2 := Ints.len H5.out
      subst hx2
      have b15 := b1k.trans_pure b5 (Nat.le_refl _)
      clear o5
      go_wp2_with (fail)
      refine (ColSums_i _ _ _ (Gm.out.keep b15)).mono ?_
      rintro e w6 ⟨v6, rfl, o6, b6⟩
      rw [← Hys.out] at o6
      have H6 := Lib.hid o6.ints
      obtain ⟨y1, y2, y3, rfl⟩ := o6.shape
      have hy2 := Ints.len H6.out
      subst hy2
      have b16 := b15.trans_pure b6 (Nat.le_refl _)
      have Hx6 := Lib.hid (H5.out.keep b6)
      clear o6
      go_wp2_with (fail)
      refine (PathLine_t _ _ m t r c _ (Gm.out.keep b16) (Gt.out.keep b16) hs hs2 hr1 hr4 hc1 hc4 E1.out E2.out (HT.out.keep (bb1.trans_pure b16 (Nat.le_refl _)))).mono ?_
      rintro e w7 ⟨W', hW', rfl, b7⟩
      obtain rfl := hW'.eq HW.out
      rw [← HNW.out, ← HP.out]
      have b67 := b7
      have b17 := b16.trans_pure b7 (Nat.le_refl _)
      clear hW'
      have HT7 := Lib.hid (HT.out.keep (bb1.trans_pure b17 (Nat.le_refl _)))
      have sA := sums_size H5.out (by omega)
      have sB := sums_size H6.out (by omega)
      rw [← HA.out] at sA
      rw [← HB.out] at sB
      obtain ⟨za, zb, zc, z1, z2, z3, z4, z5⟩ := sumsSz sA sB (fmt_size (n := (N : Int)) (by omega))
      have Hx7 := Lib.hid (Hx6.out.keep b7)
      have Hy7 := Lib.hid (H6.out.keep b7)
      go_wp2_with (fail)
      refine (SumsLine_i _ _ _ _ _ Hx7.out Hy7.out (by omega) (by omega) HT7.out).mono ?_
      rintro e w8 ⟨rfl, b8⟩
      rw [Hline.out]
      go_wp2_with (fail)
      refine (FormatSums_i _ _ _ (Hx7.out.keep b8) (by omega) (HT7.out.keep b8)).mono ?_
      rintro e w9 ⟨rfl, b9⟩
      rw [← HA.out]
      have b89 := b8.trans_pure b9 (Nat.le_refl _)
      go_wp2_with (fail)
      refine (FormatSums_i _ _ _ (Hy7.out.keep b89) (by omega) (HT7.out.keep b89)).mono ?_
      rintro e w10 ⟨rfl, b10⟩
      rw [← HB.out]
      have b810 := b89.trans_pure b10 (Nat.le_refl _)
      go_wp2_with (fail)
      refine (CountImages_i _ _ _ _ _ (Hx7.out.keep b810) (Hy7.out.keep b810) Hok.out).mono ?_
      rintro e w11 ⟨rfl, b11⟩
      rw [← HN.out]
      have b811 := b810.trans_pure b11 (Nat.le_refl _)
      go_wp2_with (fail)
      refine (FormatInt_i _ (I64.small (by omega) (by omega)) _ (HT7.out.keep b811)).mono ?_
      rintro e w12 ⟨rfl, b12⟩
      have b812 := b811.trans_pure b12 (Nat.le_refl _)
      obtain ⟨FN, hFN⟩ : ∃ FN, FN = fmtInt (N : Int) := ⟨_, rfl⟩
      rw [← hFN] at zc ⊢
      clear hFN
      have HT12 := Lib.hid (HT7.out.keep b812)
      go_wp2_with (fail)
      refine (FormatDirection_i 1 (-1) (I64.small (by omega) (by omega)) (I64.small (by omega) (by omega)) _ HT12.out).mono ?_
      rintro e w13 ⟨rfl, b13⟩
      rw [dir_said]
      have HT13 := Lib.hid (HT12.out.keep b13)
      have Hlit := Lib.hid (lit_grid w13 _ (Below.refl _ _))
      have Hlb := Lib.hid (show Below w13.heap.size w13 (((w13.alloc (.cells #[.int .i64 1, .int .i64 (-1)] 3)).alloc (.cells #[.int .i64 0, .int .i64 2] 3)).alloc (.cells #[.slice (some ⟨w13.heap.size, 0, none⟩) 2 2, .slice (some ⟨w13.heap.size + 1, 0, none⟩) 2 2] 24)) from (Below.pureAlloc _ _).trans_pure ((Below.pureAlloc _ _).trans_pure (Below.pureAlloc _ _) (Nat.le_refl _)) (Nat.le_refl _))
      go_wp2_with (fail)
      refine (FormatGrid_i _ [[1, -1], [0, 2]] _ (by exact Hlit.out) (by decide) (by decide) (HT13.out.keep Hlb.out)).mono ?_
      rintro e w14 ⟨rfl, b14⟩
      rw [grid_said]
      have bbf := bb1.trans_pure (b17.trans_pure (b812.trans_pure (b13.trans_pure (Hlb.out.trans_pure b14 (Nat.le_refl _)) (Nat.le_refl _)) (Nat.le_refl _)) (Nat.le_refl _)) (Nat.le_refl _)
      go_wp2
      go_ret
      exact ⟨rfl, bbf⟩
end Go.Proofs.YtlmjpmdkifoekaaDoor

/- Contracts: LeastReveal of the program. -/
import Derived.Test.YtliejhmlcdjpcaaRv3
import Derived.Test.YtliejhmlcdjpcaaRv4
namespace Go.Proofs.Ytliejhmlcdjpcaa
open Go.RowKit

theorem cell_yx {c y x : Nat} (hx : x < c) : (y * c + x) / c = y ∧ (y * c + x) % c = x := by
  refine ⟨?_, ?_⟩
  · rw [Nat.add_comm, Nat.add_mul_div_right _ _ (by omega), Nat.div_eq_of_lt hx]; omega
  · rw [Nat.add_comm, Nat.add_mul_mod_self_right, Nat.mod_eq_of_lt hx]
theorem pow62 : 4096 ≤ 2 ^ 62 := Nat.pow_le_pow_right (n := 2) (by decide) (show 12 ≤ 62 by decide)
theorem pow62' : 4096 < 2 ^ 62 := Nat.pow_lt_pow_right (a := 2) (by decide) (show 12 < 62 by decide)
theorem diffSet_step {c y x : Nat} (m g : List (List Int)) (hx : x < c) : diffSet c m g (y * c + (x + 1)) = diffSet c m g (y * c + x) ||| (if at2 g y x ≠ at2 m y x then 2 ^ (y * c + x) else 0) := by
  obtain ⟨e1, e2⟩ := cell_yx (y := y) hx
  show bitSet _ (y * c + x + 1) = _
  rw [bitSet]
  unfold diffSet cellN
  rw [Int.toNat_natCast, e1, e2]
  by_cases h : at2 g y x ≠ at2 m y x
  · rw [if_pos (decide_eq_true h), if_pos h]
  · rw [if_neg (by rw [decide_eq_true_eq]; exact h), if_neg h]
theorem diffs_take {c N : Nat} {m : List (List Int)} {L : List (List (List Int))} {k : Nat} {x : List (List Int)} (h : L[k]? = some x) : diffs c N m (L.take (k + 1)) = diffs c N m (L.take k) ++ if diffSet c m x N ≠ 0 then [diffSet c m x N] else [] := by
  unfold diffs
  rw [List.take_add_one, h, Option.toList_some, List.map_append, List.filter_append]
  by_cases hb : diffSet c m x N ≠ 0 <;> simp [hb]
theorem diffs_mem {c N : Nat} {m : List (List Int)} {L : List (List (List Int))} : ∀ d ∈ diffs c N m L, d < 2 ^ N := fun d hd => by
  unfold diffs at hd
  rw [List.mem_filter, List.mem_map] at hd
  obtain ⟨⟨g, -, rfl⟩, -⟩ := hd
  exact bitSet_lt _ _
theorem meets_take {D : List Nat} {s j d : Nat} (h : D[j]? = some d) : meetsAll (D.take (j + 1)) s = (meetsAll (D.take j) s && decide (d &&& s ≠ 0)) := by
  unfold meetsAll
  rw [List.take_add_one, h, Option.toList_some, List.all_append]; simp
def enoughB (c : Nat) (L : List (List (List Int))) (m : List (List Int)) (l : List Int) : Bool := decide (cntA c L m l = 1)
def leastOf (r c : Nat) (m : List (List Int)) : List Int := (bestR (enoughB c (allImgs (rowSumsOf m) (colSumsOf m)) m) (r * c) (2 ^ (r * c))).getD []
def smallB (m : List (List Int)) : Bool := decide (m.length ≤ 3) && decide ((m.headD []).length ≤ 4)
def leastRv (m : List (List Int)) : Option (List Int) := if imageOk m && smallB m then some (leastOf m.length (m.headD []).length m) else none
theorem smallB_iff {r c : Nat} {m : List (List Int)} (h : Shape r c m) (h1 : 1 ≤ r) : smallB m = decide (r ≤ 3 ∧ c ≤ 4) := by
  unfold smallB
  rw [h.1, h.head h1]
  simp
theorem leastRv_ok {r c : Nat} {m : List (List Int)} (h : Shape r c m) (h1 : 1 ≤ r) (hok : imageOk m = true) (h3 : r ≤ 3) (h4 : c ≤ 4) : leastRv m = some (leastOf r c m) := by
  unfold leastRv
  rw [hok, smallB_iff h h1, decide_eq_true ⟨h3, h4⟩, h.1, h.head h1]; rfl
theorem leastRv_big {r c : Nat} {m : List (List Int)} (h : Shape r c m) (h1 : 1 ≤ r) (hb : ¬ (r ≤ 3 ∧ c ≤ 4)) : leastRv m = none := by
  unfold leastRv
  rw [smallB_iff h h1, decide_eq_false hb]; simp
theorem leastOf_spec {r c : Nat} {m : List (List Int)} (h : Shape r c m) (h1 : 1 ≤ r) (h2 : r ≤ 5) (h3 : 1 ≤ c) (h4 : c ≤ 5) : bestR (enoughB c (allImgs (rowSumsOf m) (colSumsOf m)) m) (r * c) (2 ^ (r * c)) = some (leastOf r c m) ∧ LeastRev (enoughB c (allImgs (rowSumsOf m) (colSumsOf m)) m) (r * c) (leastOf r c m) := by
  unfold leastOf
  cases hb : bestR (enoughB c (allImgs (rowSumsOf m) (colSumsOf m)) m) (r * c) (2 ^ (r * c)) with
  | none =>
    exfalso
    obtain ⟨g1, g2⟩ := greedyOf_spec h h1 h2 h3 h4
    obtain ⟨s, hs, hq⟩ := rising_memb g1
    rcases bestR_spec (enoughB c (allImgs (rowSumsOf m) (colSumsOf m)) m) (r * c) (2 ^ (r * c)) with ⟨-, hn⟩ | ⟨W, hW, -⟩
    · have := hn s hs
      rw [hq] at this
      unfold enoughB at this
      rw [g2] at this
      simp at this
    · rw [hb] at hW; cases hW
  | some W => exact ⟨rfl, bestR_least hb⟩
theorem leastRv_len (m : List (List Int)) : ((leastRv m).getD []).length ≤ 25 := by
  unfold leastRv
  split
  · rename_i h
    rw [Bool.and_eq_true] at h
    obtain ⟨r, c, hr1, hr5, hc1, hc5, hsh⟩ := imageOk_shape h.1
    rw [hsh.1, hsh.head hr1]
    have := rising_le (leastOf_spec hsh hr1 hr5 hc1 hc5).2.1.1
    have := Nat.mul_le_mul hr5 hc5
    rw [Option.getD_some]; omega
  · exact Nat.zero_le _
set_option maxRecDepth 100000 in
set_option maxHeartbeats 4000000 in
theorem LeastReveal_i (v : Value) (m : List (List Int)) (r c : Nat) (w : World) (hv : Grid w v m) (hs : Shape r c m) (hr1 : 1 ≤ r) (hr3 : r ≤ 3) (hc1 : 1 ≤ c) (hc4 : c ≤ 4) : Calls Try.prog 8 #[v] w fun e w' => ∃ v', e = .returned (.tuple #[v', .bool true]) ∧ Own 3 IntV (Iv w.heap.size w'.heap.size) w' v' (leastOf r c m) ∧ Below w.heap.size w w' := by
  have hr5 : r ≤ 5 := by omega
  have hc5 : c ≤ 5 := by omega
  have hI := imgsOk hs hr1 hr5 hc1 hc5
  have hle := (leastOf_spec hs hr1 hr5 hc1 hc5).1
  obtain ⟨L, hL⟩ : ∃ L, L = allImgs (rowSumsOf m) (colSumsOf m) := ⟨_, rfl⟩
  rw [← hL] at hI hle
  have HI := Lib.hid hI
  have hbig := hI.big
  have hL0 : 0 < L.length := List.length_pos_of_mem hI.self
  obtain ⟨N, hN⟩ : ∃ N, N = r * c := ⟨_, rfl⟩
  have hN12 : N ≤ 12 := by rw [hN]; exact Nat.mul_le_mul hr3 hc4
  rw [← hN] at hle
  obtain ⟨P, hP⟩ : ∃ P, P = 2 ^ N := ⟨_, rfl⟩
  have hPb : P ≤ 4096 := by rw [hP]; exact Nat.pow_le_pow_right (n := 2) (by decide) hN12
  rw [← hP] at hle
  have HN := Lib.hid hN
  have HP := Lib.hid hP
  have Hle := Lib.hid hle
  have HL := Lib.hid hL
  have Hok := Lib.hid (hs.ok hr1 hr5 hc1 hc5)
  have Hv := Lib.hid hv
  have Hmeet := Lib.hid (show ∀ s, meetsAll (diffs c N m L) s = enoughB c L m (membL N s) from fun s => by rw [hN]; exact meets_enough hc1 hI.nd hI.shape hI.self s)
  obtain ⟨b, off, cp, rfl, hb, hmc⟩ := hv.cells hs hr1 hc1
  obtain ⟨b0, o0, c0, hc0, hb0, -⟩ := hmc 0 (by omega)
  rw [Nat.add_zero] at hc0
  have Hmc := Lib.hid hmc
  have Hc0 := Lib.hid hc0
  have Hmul := Lib.hid (show (r : Int) * (c : Int) = (N : Int) from by rw [hN, Int.natCast_mul])
  have Hpow := Lib.hid (show wrap64 ((2 : Int) ^ N) = (P : Int) from by rw [hP]; exact pow_wrap12 (by omega))
  clear hI hle hN hP hL hv hmc
  go_enter Try.func8, Try.ntmps8
  go_wp2_with (fail)
  refine (ImageOk_i _ _ _ Hv.out).mono ?_
  rintro e w' ⟨rfl, rfl⟩
  rw [Hok.out]
  go_wp2_with (fail)
  refine (agreeing_i _ (.slice none 0 0) m [] r c _ Hv.out ⟨none, 0, rfl, by simp, by simp, fun _ => rfl, fun h => by simp at h⟩ hs hr1 hr5 hc1 hc5 (rising_nil _)).mono ?_
  rintro e w1 ⟨v1, rfl, g1, b1⟩
  rw [show agreeing c (allImgs (rowSumsOf m) (colSumsOf m)) m [] = L from by rw [← HL.out]; exact List.filter_eq_self.2 (fun _ _ => rfl)] at g1
  obtain ⟨gl, go, gc, rfl, hgl, -⟩ := g1.inv_ne hL0
  have Hg := Lib.hid g1
  obtain ⟨NL, hNL⟩ : ∃ NL, NL = L.length := ⟨_, rfl⟩
  rw [← hNL] at Hg hbig hL0 ⊢
  have HNL := Lib.hid hNL
  have hs1 := b1.size
  clear g1 hNL hc0
  go_wp2
  go_loopw [4, 8, 9, 10, 11, 12, 13, 43] (fun dv _ _ _ _ _ _ i wr => ∃ k : Nat, k ≤ NL ∧ i = .int .i64 k ∧ Hid (Own 3 IntV (Iv w1.heap.size wr.heap.size) wr dv (intsN (diffs c N m (L.take k)))) ∧ Hid (Below w1.heap.size w1 wr)) (fun _ _ _ _ _ _ _ i _ => NL - (intOf i).toNat)
  case atStart => exact ⟨0, Nat.zero_le _, rfl, Own.nil _ _ _ _, Below.refl _ _⟩
  case round =>
    obtain ⟨k, hk, rfl, Ho, Hb⟩ := hrel
    obtain ⟨wo, hwo⟩ : ∃ wo, wo = wr := ⟨_, rfl⟩
    have b1r := b1.trans_pure Hb.out (Nat.le_refl _)
    by_cases hlt : k < NL
    · obtain ⟨x, hx⟩ : ∃ x, L[k]? = some x := ⟨_, List.getElem?_eq_getElem (by rw [← HNL.out]; exact hlt)⟩
      have hxs := HI.out.shape x (List.mem_of_getElem? hx)
      obtain ⟨u, hck, hu⟩ := Sl.at Hg.out hx
      have hu : Grid w1 u x := hu
      obtain ⟨bx, offx, cpx, rfl, hbx, hxc⟩ := hu.cells hxs hr1 hc1
      have hck := (Hb.out.cell (p := ⟨gl, go + k, none⟩) hgl).trans hck
      have Hxc := Lib.hid hxc
      have Htk := Lib.hid (diffs_take (c := c) (N := N) (m := m) hx)
      clear hwo hx hu hxc
      go_wp2
      clear hck
      go_loopw [9, 10, 11, 12, 13, 49] (fun sv _ _ _ _ i wi => ∃ y : Nat, y ≤ r ∧ i = .int .i64 y ∧ sv = .int .i64 (diffSet c m x (y * c)) ∧ Hid (Below wr.heap.size wr wi)) (fun _ _ _ _ _ i _ => r - (intOf i).toNat)
      case atStart => exact ⟨0, Nat.zero_le _, rfl, by rw [Nat.zero_mul]; rfl, Below.refl _ _⟩
      case round =>
        obtain ⟨y, hy, rfl, rfl, Hbi⟩ := hrel
        obtain ⟨wp, hwp⟩ : ∃ wp, wp = wr := ⟨_, rfl⟩
        have bwi := b1r.trans_pure Hbi.out (Nat.le_refl _)
        have b1i := Hb.out.trans_pure Hbi.out (Nat.le_refl _)
        have hdb := bitSet_lt (fun n => decide (cellN c n x ≠ cellN c n m)) (y * c)
        by_cases hlty : y < r
        · obtain ⟨q1, f1, p1, m1, hq1, m2⟩ := Hmc.out y hlty
          obtain ⟨q2, f2, p2, x1, hq2, x2⟩ := Hxc.out y hlty
          have m1 := (bwi.cell (p := ⟨b, off + y, none⟩) hb).trans m1
          have Hrow := Lib.hid (show ∀ xx, xx < c → _ from fun xx hxx => (bwi.cell (p := ⟨q1, f1 + xx, none⟩) hq1).trans (m2 xx hxx))
          have Hx1 := Lib.hid ((b1i.cell (p := ⟨bx, offx + y, none⟩) hbx).trans x1)
          have Hx2 := Lib.hid (show ∀ xx, xx < c → _ from fun xx hxx => (b1i.cell (p := ⟨q2, f2 + xx, none⟩) hq2).trans (x2 xx hxx))
          have hq1w := Nat.lt_of_lt_of_le hq1 bwi.size
          have hq2w := Nat.lt_of_lt_of_le hq2 b1i.size
          have hbxw := Nat.lt_of_lt_of_le hbx b1i.size
          have hyN : y * c + c ≤ N := by rw [HN.out, ← Nat.succ_mul]; exact Nat.mul_le_mul_right _ hlty
          clear hwp m2 x1 x2 hdb
          obtain ⟨S0, hS0⟩ : ∃ S0, S0 = diffSet c m x (y * c) := ⟨_, rfl⟩
          rw [← hS0]
          have HS0 := Lib.hid hS0
          clear hS0
          go_wp2
          clear m1
          go_loopw [9, 12, 13, 56] (fun sv _ _ i wi => ∃ xx : Nat, xx ≤ c ∧ i = .int .i64 xx ∧ sv = .int .i64 (diffSet c m x (y * c + xx)) ∧ Hid (Below wr.heap.size wr wi)) (fun _ _ _ i _ => c - (intOf i).toNat)
          case atStart => exact ⟨0, Nat.zero_le _, rfl, by rw [Nat.add_zero, HS0.out], Below.refl _ _⟩
          case round =>
            obtain ⟨xx, hxx, rfl, rfl, Hbj⟩ := hrel
            have hdb := bitSet_lt (fun n => decide (cellN c n x ≠ cellN c n m)) (y * c + xx)
            by_cases hltx : xx < c
            · have hq1c := (Hbj.out.cell (p := ⟨q1, f1 + xx, none⟩) hq1w).trans (Hrow.out xx hltx)
              have hx1c := (Hbj.out.cell (p := ⟨bx, offx + y, none⟩) hbxw).trans Hx1.out
              have hx2c := (Hbj.out.cell (p := ⟨q2, f2 + xx, none⟩) hq2w).trans (Hx2.out xx hltx)
              have Hst := Lib.hid (diffSet_step (c := c) (y := y) (x := xx) m x hltx)
              obtain ⟨z1, hz1⟩ : ∃ z, z = at2 x y xx := ⟨_, rfl⟩
              obtain ⟨z2, hz2⟩ : ∃ z, z = at2 m y xx := ⟨_, rfl⟩
              rw [← hz1] at hx2c Hst
              rw [← hz2] at hq1c Hst
              obtain ⟨S1, hS1⟩ : ∃ S1, S1 = diffSet c m x (y * c + xx) := ⟨_, rfl⟩
              have hS1b : S1 < 2 ^ (y * c + xx) := by rw [hS1]; exact hdb
              rw [← hS1] at Hst ⊢
              clear hz1 hz2 hdb hS1
              by_cases hz : z1 = z2
              · have hze : (z1 != z2) = false := by simp [hz]
                have Hs2 := Lib.hid (show diffSet c m x (y * c + (xx + 1)) = S1 from by rw [Hst.out, if_neg (fun h => h hz)]; simp)
                clear hz hS1b
                go_wp2
                go_roundw
                case rel => exact ⟨xx + 1, by omega, by go_num, by rw [Hs2.out], Hbj⟩
                case measure => simp [intOf]; omega
              · have hze : (z1 != z2) = true := by simp [hz]
                obtain ⟨Y, hY⟩ : ∃ Y : Nat, (y : Int) * (c : Int) = (Y : Int) := ⟨y * c, by rw [Int.natCast_mul]⟩
                have hYe : y * c = Y := by have h := hY; rw [← Int.natCast_mul] at h; omega
                rw [hYe] at hS1b hyN Hst
                obtain ⟨p, hp⟩ : ∃ p : Nat, (Y : Int) + (xx : Int) = (p : Int) := ⟨Y + xx, by omega⟩
                have hpe : Y + xx = p := by omega
                have hp12 : p ≤ 12 := by omega
                rw [hpe] at hS1b Hst
                have h62 : (2 : Nat) ^ p ≤ 4096 := Nat.pow_le_pow_right (n := 2) (by decide) hp12
                obtain ⟨Q, hQ⟩ : ∃ Q, Q = 2 ^ p := ⟨_, rfl⟩
                have hpw : wrap64 ((2 : Int) ^ p) = (Q : Int) := by rw [hQ]; exact pow_wrap12 (by omega)
                rw [← hQ] at hS1b h62 Hst
                have hor : bits .or .i64 (S1 : Int) (Q : Int) = ((S1 ||| Q : Nat) : Int) := bits_or (Nat.lt_of_lt_of_le hS1b (Nat.le_trans h62 pow62)) (Nat.lt_of_le_of_lt h62 pow62')
                obtain ⟨S2, hS2⟩ : ∃ S2, S2 = S1 ||| Q := ⟨_, rfl⟩
                rw [← hS2] at hor
                have Hs2 := Lib.hid (show diffSet c m x (y * c + (xx + 1)) = S2 from by rw [hYe, Hst.out, if_pos hz, hS2])
                have HyN := Lib.hid hyN
                clear hz hS1b hYe hQ hS2 hpe hyN Hst
                go_wp2
                go_roundw
                case rel => exact ⟨xx + 1, by omega, by go_num, by rw [Hs2.out], Hbj⟩
                case measure => simp [intOf]; omega
            · obtain rfl : xx = c := by omega
              have Hb3 := Lib.hid (Hbi.out.trans_pure Hbj.out (Nat.le_refl _))
              have Hs2 := Lib.hid (show y * xx + xx = (y + 1) * xx from by rw [Nat.succ_mul])
              clear hdb
              go_wp2
              go_roundw
              case rel => exact ⟨y + 1, by omega, by go_num, by rw [← Hs2.out], Hb3⟩
              case measure => simp [intOf]; omega
        · obtain rfl : y = r := by omega
          have Hb2 := Lib.hid (Hb.out.trans_pure Hbi.out (Nat.le_refl _))
          have hsi := Hbi.out.size
          have Ho2 := Lib.hid (Own.grow rIntV Ho.out (Nat.le_refl _) Hbi.out)
          have hdl : (diffs c N m (L.take k)).length ≤ k := Nat.le_trans (List.length_filter_le _ _) (by rw [List.length_map, List.length_take]; omega)
          obtain ⟨S, hS⟩ : ∃ S, S = diffSet c m x (y * c) := ⟨_, rfl⟩
          rw [← HN.out] at hS
          rw [← hS] at Htk
          have hSb : S < P := by rw [hS, HP.out]; exact bitSet_lt _ _
          have HS := Lib.hid (show diffSet c m x (y * c) = S from by rw [hS, HN.out])
          rw [HS.out]
          clear hS hwp hdb Ho
          by_cases h0 : S = 0
          · have hse : ((S : Int) != 0) = false := by rw [h0]; rfl
            have Ht2 := Lib.hid (show diffs c N m (L.take (k + 1)) = diffs c N m (L.take k) from by rw [Htk.out, if_neg (fun h => h h0), List.append_nil])
            clear h0
            go_wp2
            go_roundw
            case rel => exact ⟨k + 1, by omega, by go_num, Lib.hid (by rw [Ht2.out]; exact Ho2.out), Hb2⟩
            case measure => simp [intOf]; omega
          · have hse : ((S : Int) != 0) = true := by rw [bne_iff_ne]; omega
            have Ht2 := Lib.hid (show intsN (diffs c N m (L.take (k + 1))) = intsN (diffs c N m (L.take k)) ++ [(S : Int)] from by rw [Htk.out, if_pos h0, intsN_snoc])
            obtain ⟨wz, rfl⟩ : ∃ wz : World, wz = wr := ⟨_, rfl⟩
            have hSI : I64 (S : Int) := I64.small (by omega) (by omega)
            have hsw := Hb2.out.size
            have hdl2 : (intsN (diffs c N m (L.take k))).length < 1099511627776 := by rw [intsN_len]; omega
            obtain ⟨y1, y2, y3, rfl⟩ := Ho2.out.shape
            clear h0
            go_wp2_with (first
              | (at_builtin; (refine wpList_appR (w0 := wz) (u := .int .i64 S) rfl _ _ 25 rfl rIntV 3 Try.underlying25 infoInt rfl (by decide) w1.heap.size wz.heap.size hsw (Nat.le_refl _) rfl rfl (by exact Ho2.out) (by exact ⟨rfl, hSI⟩) hdl2 ?_); intro v3 w3 o3 b3 _)
              | fail)
            exact ⟨⟨k + 1, by omega, by go_num, Lib.hid (by rw [Ht2.out]; exact o3), Lib.hid (Hb2.out.trans b3)⟩, by simp [intOf]; omega⟩
    · obtain rfl : k = NL := by omega
      rw [List.take_of_length_le (by rw [← HNL.out]; exact Nat.le_refl _)] at Ho
      clear hwo
      have b1k := b1.trans_pure Hb.out (Nat.le_refl _)
      have Hmt := Lib.hid (show ∀ s, meetsAll (diffs c N m L) s = enoughB c L m (membL N s) from Hmeet.out)
      have Hdb := Lib.hid (show ∀ d ∈ diffs c N m L, d < P from fun d hd => by rw [HP.out]; exact diffs_mem d hd)
      have hDl : (diffs c N m L).length ≤ k := Nat.le_trans (List.length_filter_le _ _) (by rw [List.length_map, ← HNL.out]; exact Nat.le_refl _)
      obtain ⟨D, hD⟩ : ∃ D, D = diffs c N m L := ⟨_, rfl⟩
      rw [← hD] at Ho Hmt Hdb hDl
      obtain ⟨p1, p2, p3, rfl⟩ := Ho.out.shape
      have hp2 := Ints.len Ho.out.ints
      rw [intsN_len] at hp2
      have Hp2 := Lib.hid hp2
      have HDi := Lib.hid Ho.out.ints
      obtain ⟨f, hf⟩ : ∃ f : List Int → Bool, f = enoughB c L m := ⟨_, rfl⟩
      rw [← hf] at Hmt Hle
      obtain ⟨wz, hwz⟩ : ∃ wz, wz = wr := ⟨_, rfl⟩
      rw [← hwz] at HDi b1k
      have Hwz := Lib.hid (show Below wz.heap.size wz wr from by rw [hwz]; exact Below.refl _ _)
      clear hD hf hwz hp2 Ho Hb Hmeet
      go_wp2
      have hmul := Hmul.out
      have hpow := Hpow.out
      go_loopw [14, 15, 16, 17, 19, 20] (fun bv fv sv _ _ _ wr => ∃ s : Nat, s ≤ P ∧ sv = .int .i64 s ∧ ((fv = .bool false ∧ bv = .slice none 0 0 ∧ Hid (bestR f N s = none)) ∨ ∃ W, fv = .bool true ∧ Hid (Own 3 IntV (Iv wz.heap.size wr.heap.size) wr bv W) ∧ Hid (bestR f N s = some W)) ∧ Hid (Below wz.heap.size wz wr)) (fun _ _ sv _ _ _ _ => P - (intOf sv).toNat)
      case atStart => exact ⟨0, Nat.zero_le _, rfl, .inl ⟨rfl, rfl, rfl⟩, Hwz⟩
      case round =>
        clear Hwz
        obtain ⟨s, hs, rfl, hst, Hb⟩ := hrel
        have Hst := Lib.hid hst
        have bwr := b1k.trans_pure Hb.out (Nat.le_refl _)
        have hc0 := (bwr.cell (p := ⟨b, off, none⟩) hb).trans Hc0.out
        clear hst
        by_cases hlt : s < P
        · have Hbs := Lib.hid (show bestR f N (s + 1) = if f (membL N s) then (match bestR f N s with | none => some (membL N s) | some b => if revLtB (membL N s) b then some (membL N s) else some b) else bestR f N s from rfl)
          go_wp2
          clear hc0 hmul hpow
          have Hb0 := Lib.hid (Below.refl wr.heap.size wr)
          go_loopw [17, 19, 102] (fun ev _ i wi => ∃ j : Nat, j ≤ p2 ∧ i = .int .i64 j ∧ ev = .bool (meetsAll (D.take j) s) ∧ Hid (Below wr.heap.size wr wi)) (fun _ _ i _ => p2 - (intOf i).toNat)
          case atStart => exact ⟨0, Nat.zero_le _, rfl, by rw [List.take_zero]; rfl, Hb0⟩
          case round =>
            clear Hb0
            obtain ⟨j, hj, rfl, rfl, Hbi⟩ := hrel
            obtain ⟨ev, hev⟩ : ∃ ev, ev = meetsAll (D.take j) s := ⟨_, rfl⟩
            rw [← hev]
            have Hev := Lib.hid hev
            clear hev
            by_cases hltj : j < p2
            · have hjD : j < D.length := by have := Hp2.out; omega
              obtain ⟨d, hd⟩ : ∃ d, D[j]? = some d := ⟨_, List.getElem?_eq_getElem hjD⟩
              have hdP := Hdb.out d (List.mem_of_getElem? hd)
              obtain ⟨gq, oq, cq, he, hgq, -⟩ := HDi.out.inv_ne (by rw [intsN_len]; omega)
              obtain ⟨rfl, -⟩ : p1 = some ⟨gq, oq, none⟩ ∧ p3 = cq := by
                simp only [Value.slice.injEq] at he
                exact ⟨he.1, he.2.2⟩
              have hcd := ((Hb.out.trans_pure Hbi.out (Nat.le_refl _)).cell (p := ⟨gq, oq + j, none⟩) hgq).trans (Ints.at HDi.out (intsN_at hd))
              have hand : bits .and .i64 (d : Int) (s : Int) = ((d &&& s : Nat) : Int) := bits_and (Nat.lt_of_lt_of_le hdP (Nat.le_trans hPb pow62)) (Nat.lt_of_lt_of_le hlt (Nat.le_trans hPb pow62))
              have Hmt2 := Lib.hid (meets_take (s := s) hd)
              rw [← Hev.out] at Hmt2
              obtain ⟨z, hz⟩ : ∃ z, (((d &&& s : Nat) : Int) != 0) = z := ⟨_, rfl⟩
              have hzd : decide (d &&& s ≠ 0) = z := by
                rw [← hz, Bool.eq_iff_iff, decide_eq_true_eq, bne_iff_ne]
                omega
              rw [hzd] at Hmt2
              obtain ⟨ds, hds⟩ : ∃ ds, ds = d &&& s := ⟨_, rfl⟩
              rw [← hds] at hand hz
              clear hd he hzd hds
              cases ev
              · have Hm2 := Lib.hid (show meetsAll (D.take (j + 1)) s = false from by rw [Hmt2.out]; rfl)
                go_wp2
                go_roundw
                case rel => exact ⟨j + 1, by omega, by go_num, by rw [Hm2.out], Hbi⟩
                case measure => simp [intOf]; omega
              · have Hm2 := Lib.hid (show meetsAll (D.take (j + 1)) s = z from by rw [Hmt2.out]; rfl)
                go_wp2
                go_roundw
                case rel => exact ⟨j + 1, by omega, by go_num, by rw [Hm2.out], Hbi⟩
                case measure => simp [intOf]; omega
            · have hjn : D.length ≤ j := by have := Hp2.out; omega
              have Hb2 := Lib.hid (Hb.out.trans_pure Hbi.out (Nat.le_refl _))
              have Hfe := Lib.hid (show f (membL N s) = ev from by rw [← Hmt.out, Hev.out, List.take_of_length_le hjn])
              clear hjn
              cases ev
              · have Hs2 := Lib.hid (show bestR f N (s + 1) = bestR f N s from by rw [Hbs.out, if_neg (by rw [Hfe.out]; simp)])
                have hsi := Hbi.out.size
                rcases Hst.out with ⟨rfl, rfl, Hn⟩ | ⟨W, rfl, Hw, Hn⟩
                · go_wp2
                  go_roundw
                  case rel => exact ⟨s + 1, by omega, by go_num, .inl ⟨rfl, rfl, Lib.hid (by rw [Hs2.out]; exact Hn.out)⟩, Hb2⟩
                  case measure => simp [intOf]; omega
                · have Hw2 := Lib.hid (Own.grow rIntV Hw.out (Nat.le_refl _) Hbi.out)
                  go_wp2
                  go_roundw
                  case rel => exact ⟨s + 1, by omega, by go_num, .inr ⟨W, rfl, Hw2, Lib.hid (by rw [Hs2.out]; exact Hn.out)⟩, Hb2⟩
                  case measure => simp [intOf]; omega
              · have hs2N : s < 2 ^ N := by rw [← HP.out]; exact hlt
                have Hs2N := Lib.hid hs2N
                clear hs2N
                have hsz2 := Hb2.out.size
                have hml := membL_len N s
                go_wp2_with (fail)
                refine (members_c s N _ _ rfl Hs2N.out (by omega)).mono ?_
                rintro e w5 ⟨v5, rfl, o5, b5⟩
                have Hb5 := Lib.hid (Hb2.out.trans_pure b5 (Nat.le_refl _))
                have o5' : Own 3 IntV (Iv wz.heap.size w5.heap.size) w5 v5 (membL N s) := (rOwn rIntV).mono (fun b hb => ⟨Nat.le_trans hsz2 hb.1, hb.2⟩) o5
                obtain ⟨q1, q2, q3, rfl⟩ := o5.shape
                obtain rfl : q2 = (membL N s).length := Ints.len o5.ints
                have Ho5 := Lib.hid o5'
                clear o5 o5'
                obtain ⟨l, hl⟩ : ∃ l, l = membL N s := ⟨_, rfl⟩
                rw [← hl] at Ho5 hml Hfe Hbs ⊢
                clear hl
                rcases Hst.out with ⟨rfl, rfl, Hn⟩ | ⟨W, rfl, Hw, Hn⟩
                · have Hs2 := Lib.hid (show bestR f N (s + 1) = some l from by rw [Hbs.out, if_pos Hfe.out, Hn.out])
                  go_wp2
                  go_roundw
                  case rel => exact ⟨s + 1, by omega, by go_num, .inr ⟨l, rfl, Ho5, Hs2⟩, Hb5⟩
                  case measure => simp [intOf]; omega
                · have Hw2 := Lib.hid (Own.grow rIntV Hw.out (Nat.le_refl _) (Hbi.out.trans_pure b5 (Nat.le_refl _)))
                  have hWb : W.length ≤ N := by
                    rcases bestR_spec f N s with ⟨h, -⟩ | ⟨V, h, hV, -⟩
                    · rw [Hn.out] at h; cases h
                    · rw [Hn.out] at h
                      obtain rfl := Option.some.inj h
                      exact rising_le hV.1
                  obtain ⟨y1, y2, y3, rfl⟩ := Hw2.out.shape
                  obtain rfl : y2 = W.length := Ints.len Hw2.out.ints
                  have Hs2 := Lib.hid (show bestR f N (s + 1) = if revLtB l W then some l else some W from by rw [Hbs.out, if_pos Hfe.out, Hn.out])
                  have Hw3 := Lib.hid Hw2.out
                  clear Hw
                  rcases Nat.lt_trichotomy l.length W.length with hll | hll | hll
                  · have Hs3 := Lib.hid (show bestR f N (s + 1) = some l from by rw [Hs2.out, if_pos (by unfold revLtB; rw [decide_eq_true hll]; rfl)])
                    go_wp2
                    go_roundw
                    case rel => exact ⟨s + 1, by omega, by go_num, .inr ⟨l, rfl, Ho5, Hs3⟩, Hb5⟩
                    case measure => simp [intOf]; omega
                  · have Hll := Lib.hid hll
                    have hll9 : l.length ≤ 1000 := by omega
                    rw [← hll] at Hw3 ⊢
                    obtain ⟨ll, hll1⟩ : ∃ ll, ll = l.length := ⟨_, rfl⟩
                    rw [← hll1] at Ho5 Hw3 ⊢
                    have Hll9 := Lib.hid hll9
                    clear hll hll1 Hw2 hll9
                    go_wp2_with (fail)
                    refine (Compare_c _ _ l W _ Ho5.out.ints Hw3.out.ints Hll.out Hll9.out).mono ?_
                    rintro e w6 ⟨z, rfl, hz, b6⟩
                    have Hb6 := Lib.hid (Hb5.out.trans_pure b6 (Nat.le_refl _))
                    have Ho6 := Lib.hid (Own.grow rIntV Ho5.out (Nat.le_refl _) b6)
                    have Hw6 := Lib.hid (Own.grow rIntV Hw3.out (Nat.le_refl _) b6)
                    by_cases hz0 : z < 0
                    · have hd3 : decide (z < 0) = true := decide_eq_true hz0
                      have Hs3 := Lib.hid (show bestR f N (s + 1) = some l from by rw [Hs2.out, if_pos (by unfold revLtB; rw [decide_eq_true Hll.out, decide_eq_true (hz.1 hz0)]; simp)])
                      clear hz
                      go_wp2
                      go_roundw
                      case rel => exact ⟨s + 1, by omega, by go_num, .inr ⟨l, rfl, Ho6, Hs3⟩, Hb6⟩
                      case measure => simp [intOf]; omega
                    · have hd3 : decide (z < 0) = false := decide_eq_false hz0
                      have Hs3 := Lib.hid (show bestR f N (s + 1) = some W from by
                        rw [Hs2.out, if_neg]
                        unfold revLtB
                        rw [decide_eq_false (by have := Hll.out; omega), decide_eq_false (fun h => hz0 (hz.2 h))]; simp)
                      clear hz
                      go_wp2
                      go_roundw
                      case rel => exact ⟨s + 1, by omega, by go_num, .inr ⟨W, rfl, Hw6, Hs3⟩, Hb6⟩
                      case measure => simp [intOf]; omega
                  · have hd1 : ¬ l.length < W.length := by omega
                    have hd2 : ¬ l.length = W.length := by omega
                    have hd3 : ((l.length : Int) == (W.length : Int)) = false := by rw [beq_eq_false_iff_ne]; omega
                    have Hs3 := Lib.hid (show bestR f N (s + 1) = some W from by
                      rw [Hs2.out, if_neg]
                      unfold revLtB
                      rw [decide_eq_false (by omega), decide_eq_false (by omega)]; simp)
                    go_wp2
                    go_roundw
                    case rel => exact ⟨s + 1, by omega, by go_num, .inr ⟨W, rfl, Hw3, Hs3⟩, Hb5⟩
                    case measure => simp [intOf]; omega
        · obtain rfl : s = P := Nat.le_antisymm hs (Nat.le_of_not_lt hlt)
          rcases Hst.out with ⟨rfl, rfl, Hn⟩ | ⟨W, rfl, Hw, Hn⟩
          · exfalso
            rw [Hle.out] at Hn
            exact absurd Hn.out (by simp)
          · have HWe := Lib.hid (show leastOf r c m = W from by
              have := Hn.out
              rw [Hle.out] at this
              exact Option.some.inj this)
            obtain ⟨y1, y2, y3, rfl⟩ := Hw.out.shape
            have hszf := b1k.size
            go_wp2
            refine bodyPost_ret (v := .tuple #[.slice y1 y2 y3, .bool true]) (by simp [results, Try.results8, go_sem]) rfl ?_
            exact ⟨_, rfl, by rw [HWe.out]; exact (rOwn rIntV).mono (fun b hb => ⟨Nat.le_trans hszf hb.1, hb.2⟩) Hw.out, bwr⟩
theorem LeastReveal_i2 (v : Value) (m : List (List Int)) (w : World) (hv : Grid w v m) : Calls Try.prog 8 #[v] w fun e w' => ∃ v', e = .returned (.tuple #[v', .bool (leastRv m).isSome]) ∧ Own 3 IntV (Iv w.heap.size w'.heap.size) w' v' ((leastRv m).getD []) ∧ Below w.heap.size w w' := by
  cases hok : imageOk m
  · have Hr := Lib.hid (show leastRv m = none from by simp [leastRv, hok])
    have Hok := Lib.hid hok; clear hok
    obtain ⟨a, cap, rfl, -⟩ := id hv
    go_enter Try.func8, Try.ntmps8
    go_wp2_with (fail)
    refine (ImageOk_i _ _ _ hv).mono ?_
    rintro e w' ⟨rfl, rfl⟩
    rw [Hok.out]
    go_wp2
    refine bodyPost_ret (v := .tuple #[.slice none 0 0, .bool false]) (by simp [results, Try.results8, go_sem]) rfl ?_
    exact ⟨_, by rw [Hr.out]; rfl, by rw [Hr.out]; exact Own.nil _ _ _ _, Below.refl _ _⟩
  · obtain ⟨r, c, hr1, hr5, hc1, hc5, hsh⟩ := imageOk_shape hok
    by_cases hb : r ≤ 3 ∧ c ≤ 4
    · rw [leastRv_ok hsh hr1 hok hb.1 hb.2]
      exact LeastReveal_i v m r c w hv hsh hr1 hb.1 hc1 hb.2
    · have Hr := Lib.hid (leastRv_big hsh hr1 hb)
      have Hok := Lib.hid hok; clear hok
      have Hv := Lib.hid hv
      obtain ⟨b, off, cp, rfl, hb, hmc⟩ := hv.cells hsh hr1 hc1
      obtain ⟨b0, o0, c0, hc0, hb0, -⟩ := hmc 0 (by omega)
      rw [Nat.add_zero] at hc0
      clear hmc
      go_enter Try.func8, Try.ntmps8
      go_wp2_with (fail)
      refine (ImageOk_i _ _ _ Hv.out).mono ?_
      rintro e w' ⟨rfl, rfl⟩
      rw [Hok.out]
      by_cases h3 : r ≤ 3
      · go_wp2
        refine bodyPost_ret (v := .tuple #[.slice none 0 0, .bool false]) (by simp [results, Try.results8, go_sem]) rfl ?_
        exact ⟨_, by rw [Hr.out]; rfl, by rw [Hr.out]; exact Own.nil _ _ _ _, Below.refl _ _⟩
      · go_wp2
        refine bodyPost_ret (v := .tuple #[.slice none 0 0, .bool false]) (by simp [results, Try.results8, go_sem]) rfl ?_
        exact ⟨_, by rw [Hr.out]; rfl, by rw [Hr.out]; exact Own.nil _ _ _ _, Below.refl _ _⟩
end Go.Proofs.Ytliejhmlcdjpcaa

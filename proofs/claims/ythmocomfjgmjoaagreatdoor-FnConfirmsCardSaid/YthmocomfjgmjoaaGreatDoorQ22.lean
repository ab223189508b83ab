/- Contracts and plain laws that the claims on sessions use. No condition of their own. -/
import Derived.Test.YthmocomfjgmjoaaGreatDoorQ08
import Derived.Test.YthmocomfjgmjoaaGreatDoorQ04
import Derived.Test.YthmocomfjgmjoaaGreatDoorQ09
import Derived.Test.YthmocomfjgmjoaaGreatDoorQ01
import Derived.Test.YthmocomfjgmjoaaGreatDoorQ10
set_option maxHeartbeats 2000000
set_option maxRecDepth 100000
namespace Go.Proofs.YthmocomfjgmjoaaGreatDoor
open Go.RowKit
theorem rising_t (v : Value) (l : List Int) (n : Int) (N : Nat) (w : World) (hv : Ints w v l) (hn : n = (N : Int)) (hN : N ≤ 1048576) (hl : Rising N l) : Calls Tryz.prog 233 #[v, .int .i64 n] w fun e w' => e = .returned (.bool true) ∧ w = w' := by
  subst hn
  obtain ⟨a, cap0, rfl, -⟩ := id hv
  have Hv := Lib.hid hv
  have Hl := Lib.hid hl
  have hll : l.length ≤ 1048576 := by have := rising_len (ris_zero.2 hl) (Nat.zero_le _); omega
  clear hv hl
  go_enter Tryz.func233, Tryz.ntmps233
  go_wp2
  go_loopw [5, 6, 9] (fun _ _ i wr => ∃ k : Nat, k ≤ l.length ∧ i = .int .i64 k ∧ w = wr) (fun _ _ i _ => l.length - (intOf i).toNat)
  case atStart => exact ⟨0, Nat.zero_le _, rfl, rfl⟩
  case round =>
    obtain ⟨k, hk, rfl, rfl⟩ := hrel
    by_cases hlt : k < l.length
    · obtain ⟨b, off, cpr, he, hb, -⟩ := Hv.out.inv_ne (by omega)
      obtain ⟨rfl, -⟩ : a = some ⟨b, off, none⟩ ∧ cap0 = cpr := by simpa using he
      obtain ⟨x, hx⟩ : ∃ x, l[k]? = some x := ⟨_, List.getElem?_eq_getElem hlt⟩
      have hcx := Ints.at Hv.out hx
      have hbd := Hl.out.2 x (List.mem_of_getElem? hx)
      have Hr := Lib.hid (show inR 0 ((N : Int) - 1) x = true from inR_t (by omega) (by omega))
      by_cases hk0 : 0 < k
      · obtain ⟨K, hK⟩ : ∃ K : Nat, (k : Int) - 1 = (K : Int) := ⟨k - 1, by omega⟩
        obtain ⟨y, hy⟩ : ∃ y, l[K]? = some y := ⟨_, List.getElem?_eq_getElem (by omega)⟩
        have hcy := Ints.at Hv.out hy
        have hyx : y < x := by
          obtain ⟨i1, e1⟩ := List.getElem?_eq_some_iff.1 hy
          obtain ⟨i2, e2⟩ := List.getElem?_eq_some_iff.1 hx
          rw [← e1, ← e2]
          exact List.pairwise_iff_getElem.1 Hl.out.1 _ _ i1 i2 (by omega)
        have hd : decide (y ≥ x) = false := decide_eq_false (by omega)
        have hd2 : decide (x ≤ y) = false := decide_eq_false (by omega)
        have hd3 : decide ((0 : Int) < (k : Int)) = true := by simp; omega
        clear hx hy he
        go_wp2_with (fail)
        refine (within_c _ _ _ _).mono ?_
        rintro e w' ⟨rfl, rfl⟩
        rw [Hr.out]
        go_wp2
        go_roundw
        case rel => exact ⟨k + 1, by omega, by go_num, trivial⟩
        case measure => simp [intOf]; omega
      · obtain rfl : k = 0 := by omega
        rw [Nat.add_zero] at hcx
        clear hx he
        go_wp2_with (fail)
        refine (within_c _ _ _ _).mono ?_
        rintro e w' ⟨rfl, rfl⟩
        rw [Hr.out]
        go_wp2
        go_roundw
        case rel => exact ⟨0 + 1, by omega, by go_num, trivial⟩
        case measure => simp [intOf]; omega
    · go_wp2
      go_ret
      exact ⟨rfl, rfl⟩
structure ImgsOk (r c : Nat) (m : List (List Int)) (L : List (List (List Int))) : Prop where
  eq : L = allImgs (rowSumsOf m) (colSumsOf m)
  ok : sumsOk (rowSumsOf m) (colSumsOf m) = true
  mem : ∀ q, q ∈ L ↔ Sums (rowSumsOf m) (colSumsOf m) r c q
  self : m ∈ L
  nd : L.Pairwise (fun a b => a ≠ b)
  shape : ∀ g ∈ L, Shape r c g
  big : L.length ≤ 1073741824
theorem imgsOk {r c : Nat} {m : List (List Int)} (hs : Shape r c m) (hr1 : 1 ≤ r) (hr5 : r ≤ 5) (hc1 : 1 ≤ c) (hc5 : c ≤ 5) : ImgsOk r c m (allImgs (rowSumsOf m) (colSumsOf m)) := by
  have hS := sums_of_image hs hr1 hr5 hc1 hc5
  have hrl := (rowSumsOf_wf hs hr1 hr5 hc1 hc5).1
  have hcl := (colSumsOf_wf hs hr1 hr5 hc1 hc5).1
  have hok : sumsOk (rowSumsOf m) (colSumsOf m) = true := sumsOk_of (by omega) (by omega) (by omega) (by omega) (by rw [hrl, hcl]; exact hS)
  have hmem : ∀ q, q ∈ allImgs (rowSumsOf m) (colSumsOf m) ↔ Sums (rowSumsOf m) (colSumsOf m) r c q := fun q => by rw [allImgs_mem hok, hrl, hcl]
  have hlen := allImgs_len (rowSumsOf m) (colSumsOf m)
  refine ⟨rfl, hok, hmem, (hmem m).2 hS, allImgs_nodup hok, fun g hg => ((hmem g).1 hg).1, Nat.le_trans hlen ?_⟩
  rw [hrl, hcl]
  exact Nat.le_trans (Nat.pow_le_pow_right (by decide) (Nat.mul_le_mul hr5 (Nat.succ_le_succ hc5))) (by decide)
theorem agreeing_take {c : Nat} {L : List (List (List Int))} {m : List (List Int)} {cells : List Int} {k : Nat} {x : List (List Int)} (h : L[k]? = some x) : agreeing c (L.take (k + 1)) m cells = agreeing c (L.take k) m cells ++ if agreesB c m x cells then [x] else [] := by
  unfold agreeing
  rw [List.take_add_one, h, Option.toList_some, List.filter_append]
  cases hb : agreesB c m x cells <;> simp [hb]
theorem agreesB_take {c : Nat} {m x : List (List Int)} {cells : List Int} {j n : Nat} (h : cells[j]? = some (n : Int)) : agreesB c m x (cells.take (j + 1)) = (agreesB c m x (cells.take j) && decide (at2 x (n / c) (n % c) = at2 m (n / c) (n % c))) := by
  rw [List.take_add_one, h, Option.toList_some, agreesB_snoc]
  unfold cellN
  rw [Int.toNat_natCast]
theorem infoGridA : (Tryz.prog.info? 31).map (fun i => (i.zero, i.size, i.bytes)) = some (some (.slice none 0 0), 1, 24) := by kernel_rfl
theorem agreeing_i (v v2 : Value) (m : List (List Int)) (cells : List Int) (r c : Nat) (w : World) (hv : Grid w v m) (hv2 : Ints w v2 cells) (hs : Shape r c m) (hr1 : 1 ≤ r) (hr5 : r ≤ 5) (hc1 : 1 ≤ c) (hc5 : c ≤ 5) (hris : Rising (r * c) cells) : Calls Tryz.prog 170 #[v, v2] w fun e w' => ∃ v', e = .returned (.tuple #[v', .bool true]) ∧ Grids w' v' (agreeing c (allImgs (rowSumsOf m) (colSumsOf m)) m cells) ∧ Below w.heap.size w w' := by
  have hI := imgsOk hs hr1 hr5 hc1 hc5
  obtain ⟨L, hL⟩ : ∃ L, L = allImgs (rowSumsOf m) (colSumsOf m) := ⟨_, rfl⟩
  rw [← hL] at hI ⊢
  have HI := Lib.hid hI
  have hN25 : r * c ≤ 25 := Nat.mul_le_mul hr5 hc5
  have Hok := Lib.hid (hs.ok hr1 hr5 hc1 hc5)
  have Hv := Lib.hid hv
  have Hv2 := Lib.hid hv2
  obtain ⟨b, off, cp, rfl, hb, hcl⟩ := hv.cells hs hr1 hc1
  obtain ⟨b0, o0, c0, hc0, hb0, -⟩ := hcl 0 (by omega)
  rw [Nat.add_zero] at hc0
  have Hcl := Lib.hid hcl
  obtain ⟨a2, cap2, rfl, -⟩ := id hv2
  have Hris := Lib.hid hris
  have hcl25 : cells.length ≤ 25 := by have := rising_len (ris_zero.2 hris) (Nat.zero_le _); omega
  have HL := Lib.hid hL
  have hbig := hI.big
  have hN0 : 0 < L.length := List.length_pos_of_mem hI.self
  have Hmul := Lib.hid (show (r : Int) * (c : Int) = ((r * c : Nat) : Int) from by rw [Int.natCast_mul])
  clear hI hcl hv hv2 hris hL
  go_enter Tryz.func170, Tryz.ntmps170
  go_wp2_with (fail)
  refine (ImageOk_i _ _ _ Hv.out).mono ?_
  rintro e w' ⟨rfl, rfl⟩
  rw [Hok.out]
  go_wp2_with (fail)
  refine (rising_t _ cells _ (r * c) _ Hv2.out Hmul.out (by omega) Hris.out).mono ?_
  rintro e w' ⟨rfl, rfl⟩
  go_wp2_with (fail)
  refine (RowSums_i _ _ _ Hv.out).mono ?_
  rintro e w2 ⟨v2, rfl, o2, b2⟩
  have Ho2 := Lib.hid o2.ints; clear o2
  go_wp2_with (fail)
  refine (ColSums_i _ _ _ (Hv.out.keep b2)).mono ?_
  rintro e w3 ⟨v3, rfl, o3, b3⟩
  go_wp2_with (fail)
  refine (AllImages_i _ _ _ _ _ (Ho2.out.keep b3) o3.ints).mono ?_
  rintro e w4 ⟨v4, rfl, o4, b4⟩
  rw [HI.out.ok]
  rw [show imgsOf (rowSumsOf m) (colSumsOf m) = L from by unfold imgsOf; rw [HI.out.ok, HL.out]; rfl] at o4
  have b14 := b2.trans_pure (b3.trans_pure b4 (Nat.le_refl _)) (Nat.le_refl _)
  obtain ⟨gl, gc, rfl, -, -, hgl, -⟩ := o4.inv_ne hN0
  have Hg := Lib.hid o4.grids
  obtain ⟨N, hN⟩ : ∃ N, N = L.length := ⟨_, rfl⟩
  rw [← hN] at Hg hN0 hbig ⊢
  have HN := Lib.hid hN
  have hb4 : b < w4.heap.size := Nat.lt_of_lt_of_le hb b14.size
  have hb04 : b0 < w4.heap.size := Nat.lt_of_lt_of_le hb0 b14.size
  clear o3 o4 hN hc0
  go_wp2
  go_loopw [8, 10, 11, 13, 14, 15, 41] (fun out _ _ _ _ _ i wr => ∃ (k : Nat) (us : List Value), k ≤ N ∧ i = .int .i64 k ∧ Hid (Own 31 AnyV (Iv w4.heap.size wr.heap.size) wr out us) ∧ Hid (Heads (Sl (Sl IntV)) w4 us (agreeing c (L.take k) m cells)) ∧ Hid (Below w4.heap.size w4 wr)) (fun _ _ _ _ _ _ i _ => N - (intOf i).toNat)
  case atStart => exact ⟨0, [], Nat.zero_le _, rfl, Own.nil _ _ _ _, Heads.nil _ _, Below.refl _ _⟩
  case round =>
    obtain ⟨k, us, hk, rfl, Ho, Hh, Hb⟩ := hrel
    have HMr := Lib.hid (show ∀ y x, y < r → x < c → ∃ br offr cpr, wr.cell? ⟨b, off + y, none⟩ = some (.slice (some ⟨br, offr, none⟩) c cpr) ∧ br < wr.heap.size ∧ wr.cell? ⟨br, offr + x, none⟩ = some (.int .i64 (at2 m y x)) from fun y x hy hx => by
      obtain ⟨br, offr, cpr, h1, h2, h3⟩ := Hcl.out y hy
      have b4r := b14.trans_pure Hb.out (Nat.le_refl _)
      exact ⟨br, offr, cpr, (b4r.cell (p := ⟨b, off + y, none⟩) hb).trans h1, Nat.lt_of_lt_of_le h2 b4r.size, (b4r.cell (p := ⟨br, offr + x, none⟩) h2).trans (h3 x hx)⟩)
    by_cases hlt : k < N
    · obtain ⟨x, hx⟩ : ∃ x, L[k]? = some x := ⟨_, List.getElem?_eq_getElem (by rw [← HN.out]; exact hlt)⟩
      have hxs := HI.out.shape x (List.mem_of_getElem? hx)
      obtain ⟨u, hck, hu⟩ := Sl.at Hg.out hx
      have hu : Grid w4 u x := hu
      obtain ⟨bx, offx, cpx, rfl, hbx, hxc⟩ := hu.cells hxs hr1 hc1
      rw [Nat.zero_add] at hck
      have hck' := (Hb.out.cell (p := ⟨gl, k, none⟩) hgl).trans hck
      have HXr := Lib.hid (show ∀ y x', y < r → x' < c → ∃ br offr cpr, wr.cell? ⟨bx, offx + y, none⟩ = some (.slice (some ⟨br, offr, none⟩) c cpr) ∧ br < wr.heap.size ∧ wr.cell? ⟨br, offr + x', none⟩ = some (.int .i64 (at2 x y x')) from fun y x' hy hx' => by
        obtain ⟨br, offr, cpr, h1, h2, h3⟩ := hxc y hy
        exact ⟨br, offr, cpr, (Hb.out.cell (p := ⟨bx, offx + y, none⟩) hbx).trans h1, Nat.lt_of_lt_of_le h2 Hb.out.size, (Hb.out.cell (p := ⟨br, offr + x', none⟩) h2).trans (h3 x' hx')⟩)
      have Htk := Lib.hid (agreeing_take (c := c) (m := m) (cells := cells) hx)
      have Hu := Lib.hid hu
      have Hcw := Lib.hid (Hv2.out.keep (b14.trans_pure Hb.out (Nat.le_refl _)))
      have hbr : b < wr.heap.size := Nat.lt_of_lt_of_le hb4 Hb.out.size
      have hbxr : bx < wr.heap.size := Nat.lt_of_lt_of_le hbx Hb.out.size
      have hlen := Hh.out.1
      have hlen2 : (agreeing c (L.take k) m cells).length ≤ k := Nat.le_trans (List.length_filter_le _ _) (by rw [List.length_take]; omega)
      clear hx hck hu hxc
      go_wp2
      clear hck'
      go_loopw [11, 13, 14, 15, 47] (fun ag _ _ _ i wi => ∃ j : Nat, j ≤ cells.length ∧ i = .int .i64 j ∧ ag = .bool (agreesB c m x (cells.take j)) ∧ Hid (Below wr.heap.size wr wi)) (fun _ _ _ _ i _ => cells.length - (intOf i).toNat)
      case atStart => exact ⟨0, Nat.zero_le _, rfl, rfl, Below.refl _ _⟩
      case round =>
        obtain ⟨wo, hwo⟩ : ∃ wo, wo = wr := ⟨_, rfl⟩
        clear hwo
        obtain ⟨j, hj, rfl, rfl, Hbi⟩ := hrel
        by_cases hltj : j < cells.length
        · obtain ⟨n0, hn0⟩ : ∃ n, cells[j]? = some n := ⟨_, List.getElem?_eq_getElem hltj⟩
          have hnb := Hris.out.2 n0 (List.mem_of_getElem? hn0)
          obtain ⟨n, rfl⟩ : ∃ n : Nat, n0 = n := ⟨n0.toNat, by omega⟩
          have hnN : n < r * c := by omega
          have hky : n / c < r := by rw [Nat.div_lt_iff_lt_mul (by omega)]; exact hnN
          have hkx : n % c < c := Nat.mod_lt _ (by omega)
          have Hst := Lib.hid (agreesB_take (c := c) (m := m) (x := x) hn0)
          obtain ⟨bc, offc, cpc, hec, hbc, -⟩ := Hcw.out.inv_ne (by omega)
          obtain ⟨rfl, -⟩ : a2 = some ⟨bc, offc, none⟩ ∧ cap2 = cpc := by simpa using hec
          have hcn := (Hbi.out.cell (p := ⟨bc, offc + j, none⟩) hbc).trans (Ints.at Hcw.out hn0)
          obtain ⟨q1, f1, p1, m1, hq1, m2⟩ := HMr.out (n / c) (n % c) hky hkx
          obtain ⟨q2, f2, p2, x1, hq2, x2⟩ := HXr.out (n / c) (n % c) hky hkx
          obtain ⟨q0, f0, p0, m0, hq0, -⟩ := HMr.out 0 0 (by omega) (by omega)
          rw [Nat.add_zero] at m0
          have m0 := (Hbi.out.cell (p := ⟨b, off, none⟩) hbr).trans m0
          have m1 := (Hbi.out.cell (p := ⟨b, off + n / c, none⟩) hbr).trans m1
          have m2 := (Hbi.out.cell (p := ⟨q1, f1 + n % c, none⟩) hq1).trans m2
          have x1 := (Hbi.out.cell (p := ⟨bx, offx + n / c, none⟩) hbxr).trans x1
          have x2 := (Hbi.out.cell (p := ⟨q2, f2 + n % c, none⟩) hq2).trans x2
          have hi1 : (0 : Int) ≤ (n : Int) / (c : Int) := Int.ediv_nonneg (by omega) (by omega)
          have hi2 : (n : Int) / (c : Int) < (r : Int) := by rw [← Int.natCast_ediv]; omega
          have hi3 : (0 : Int) ≤ (n : Int) % (c : Int) := Int.emod_nonneg _ (by omega)
          have hi4 : (n : Int) % (c : Int) < (c : Int) := Int.emod_lt_of_pos _ (by omega)
          obtain ⟨z1, hz1⟩ : ∃ z, z = at2 x (n / c) (n % c) := ⟨_, rfl⟩
          obtain ⟨z2, hz2⟩ : ∃ z, z = at2 m (n / c) (n % c) := ⟨_, rfl⟩
          rw [← hz1] at x2 Hst
          rw [← hz2] at m2 Hst
          obtain ⟨ag, hag⟩ : ∃ ag, ag = agreesB c m x (cells.take j) := ⟨_, rfl⟩
          rw [← hag] at Hst ⊢
          clear hz1 hz2 hag hn0 hnb hec
          cases ag
          · have Hs2 := Lib.hid (show agreesB c m x (cells.take (j + 1)) = false from by rw [Hst.out]; rfl)
            go_wp2
            go_region
            all_goals
              go_wp2
              go_region
            all_goals
              go_wp2
              go_roundw
              case rel => exact ⟨j + 1, by omega, by go_num, by rw [Hs2.out], Lib.hid Hbi.out.drew.drew⟩
              case measure => simp [intOf]; omega
          · have Hs2 := Lib.hid (show agreesB c m x (cells.take (j + 1)) = (z1 == z2) from by rw [Hst.out, Bool.true_and, Bool.eq_iff_iff, decide_eq_true_eq, beq_iff_eq])
            go_wp2
            go_region
            all_goals
              go_wp2
              go_region
            all_goals
              go_wp2
              go_roundw
              case rel => exact ⟨j + 1, by omega, by go_num, by rw [Hs2.out], Lib.hid Hbi.out.drew.drew⟩
              case measure => simp [intOf]; omega
        · obtain rfl : j = cells.length := by omega
          rw [List.take_length]
          have Hb2 := Lib.hid (Hb.out.trans_pure Hbi.out (Nat.le_refl _))
          have hsz := Hbi.out.size
          have Ho2 := Lib.hid (Own.grow rAnyV Ho.out (Nat.le_refl _) Hbi.out)
          obtain ⟨ag, hag⟩ : ∃ ag, ag = agreesB c m x cells := ⟨_, rfl⟩
          have Hag := Lib.hid hag
          rw [← hag]
          clear hag Ho
          cases ag
          · have Ht2 := Lib.hid (show agreeing c (L.take (k + 1)) m cells = agreeing c (L.take k) m cells from by rw [Htk.out, ← Hag.out]; simp)
            go_wp2
            go_roundw
            case rel => exact ⟨k + 1, us, by omega, by go_num, Ho2, Lib.hid (by rw [Ht2.out]; exact Hh.out), Hb2⟩
            case measure => simp [intOf]; omega
          · have Ht2 := Lib.hid (show agreeing c (L.take (k + 1)) m cells = agreeing c (L.take k) m cells ++ [x] from by rw [Htk.out, ← Hag.out]; simp)
            obtain ⟨wo, rfl⟩ : ∃ wo : World, wo = wr := ⟨_, rfl⟩
            have hus : us.length < 1099511627776 := by omega
            have hw4 := Hb2.out.size
            obtain ⟨p1, p2, p3, rfl⟩ := Ho2.out.shape
            go_wp2_with (first | (at_builtin; (refine wpList_appR rfl _ _ 77 rfl rAnyV 31 Tryz.underlying77 infoGridA rfl (by decide) w4.heap.size wo.heap.size hw4 (Nat.le_refl _) rfl rfl (by exact Ho2.out) (by exact ⟨rfl, rfl⟩) hus ?_); intro v2 w2 hown2 hbel2 _) | fail)
            have Hb3 := Lib.hid (Hb2.out.trans hbel2)
            have Hh3 := Lib.hid (Hh.out.snoc (x := x) Hu.out)
            exact ⟨⟨k + 1, _, by omega, by go_num, Lib.hid hown2, Lib.hid (by rw [Ht2.out]; exact Hh3.out), Hb3⟩, by simp [intOf]; omega⟩
    · obtain rfl : k = N := by omega
      rw [List.take_of_length_le (by rw [← HN.out]; exact Nat.le_refl _)] at Hh
      obtain ⟨p1, p2, p3, rfl⟩ := Ho.out.shape
      have Hfin := Lib.hid ((Hh.out.keep (rSl (rSl rIntV)) Hb.out).list Ho.out)
      have bbf := b14.trans_pure Hb.out (Nat.le_refl _)
      go_wp2
      refine bodyPost_ret (v := .tuple #[.slice p1 p2 p3, .bool true]) (by simp [results, Tryz.results170, go_sem]) rfl ?_
      exact ⟨_, rfl, Hfin.out, bbf⟩
theorem CountAgreeing_i (v v2 : Value) (m : List (List Int)) (cells : List Int) (r c : Nat) (w : World) (hv : Grid w v m) (hv2 : Ints w v2 cells) (hs : Shape r c m) (hr1 : 1 ≤ r) (hr5 : r ≤ 5) (hc1 : 1 ≤ c) (hc5 : c ≤ 5) (hris : Rising (r * c) cells) : Calls Tryz.prog 169 #[v, v2] w fun e w' => e = .returned (.int .i64 (cntA c (allImgs (rowSumsOf m) (colSumsOf m)) m cells)) ∧ Below w.heap.size w w' := by
  have Hv := Lib.hid hv
  have Hv2 := Lib.hid hv2
  obtain ⟨a, cap, rfl, -⟩ := hv
  obtain ⟨a2, cap2, rfl, -⟩ := hv2
  go_enter Tryz.func169, Tryz.ntmps169
  go_wp2_with (fail)
  refine (agreeing_i _ _ m cells r c _ Hv.out Hv2.out hs hr1 hr5 hc1 hc5 hris).mono ?_
  rintro e w1 ⟨v1, rfl, g1, b1⟩
  obtain ⟨p1, p2, rfl, -⟩ := g1
  go_wp2
  go_ret
  exact ⟨rfl, b1⟩
theorem IsEnough_i (v v2 : Value) (m : List (List Int)) (cells : List Int) (r c : Nat) (w : World) (hv : Grid w v m) (hv2 : Ints w v2 cells) (hs : Shape r c m) (hr1 : 1 ≤ r) (hr5 : r ≤ 5) (hc1 : 1 ≤ c) (hc5 : c ≤ 5) (hris : Rising (r * c) cells) : Calls Tryz.prog 112 #[v, v2] w fun e w' => e = .returned (.bool (decide (cntA c (allImgs (rowSumsOf m) (colSumsOf m)) m cells = 1))) ∧ Below w.heap.size w w' := by
  have Hv := Lib.hid hv
  have Hv2 := Lib.hid hv2
  obtain ⟨a, cap, rfl, -⟩ := hv
  obtain ⟨a2, cap2, rfl, -⟩ := hv2
  obtain ⟨N, hN⟩ : ∃ N, N = cntA c (allImgs (rowSumsOf m) (colSumsOf m)) m cells := ⟨_, rfl⟩
  rw [← hN]
  have HN := Lib.hid hN
  clear hN
  go_enter Tryz.func112, Tryz.ntmps112
  go_wp2_with (fail)
  refine (CountAgreeing_i _ _ m cells r c _ Hv.out Hv2.out hs hr1 hr5 hc1 hc5 hris).mono ?_
  rintro e w1 ⟨rfl, b1⟩
  rw [← HN.out]
  obtain ⟨z, hz⟩ : ∃ z, ((N : Int) == 1) = z := ⟨_, rfl⟩
  have Hz := Lib.hid (show z = decide (N = 1) from by rw [← hz, Bool.eq_iff_iff, decide_eq_true_eq, beq_iff_eq]; omega)
  go_wp2
  go_ret
  exact ⟨retB Hz.out, b1⟩
def cnt1 (c : Nat) (m : List (List Int)) (n : Nat) (A : List (List (List Int))) : Nat := (A.filter fun h => decide (at2 h (n / c) (n % c) = at2 m (n / c) (n % c))).length
theorem cnt1_eq (c : Nat) (L : List (List (List Int))) (m : List (List Int)) (cells : List Int) (n : Nat) : cnt1 c m n (agreeing c L m cells) = cntA c L m (cells ++ [(n : Int)]) := by
  unfold cntA
  rw [agreeing_snoc]
  unfold cnt1 cellN
  rw [Int.toNat_natCast]
theorem cnt1_take {c : Nat} {m : List (List Int)} {n j : Nat} {A : List (List (List Int))} {x : List (List Int)} (h : A[j]? = some x) : cnt1 c m n (A.take (j + 1)) = cnt1 c m n (A.take j) + if at2 x (n / c) (n % c) = at2 m (n / c) (n % c) then 1 else 0 := by
  unfold cnt1
  rw [List.take_add_one, h, Option.toList_some, List.filter_append, List.length_append]
  by_cases hb : at2 x (n / c) (n % c) = at2 m (n / c) (n % c) <;> simp [hb]
theorem cnt1_le (c : Nat) (m : List (List Int)) (n : Nat) (A : List (List (List Int))) : cnt1 c m n A ≤ A.length := List.length_filter_le _ _
def BestSt (f : Nat → Nat) (len k : Nat) (b fw : Int) : Prop := (k = 0 ∧ b = -1 ∧ fw = (len : Int) + 1) ∨ (1 ≤ k ∧ b = (argmin f k : Nat) ∧ fw = (f (argmin f k) : Nat))
theorem BestSt.less {f : Nat → Nat} {len k : Nat} {b fw : Int} (h : BestSt f len k b fw) (hlt : (f k : Int) < fw) : BestSt f len (k + 1) k (f k) := by
  rcases h with ⟨rfl, -, -⟩ | ⟨h1, -, rfl⟩
  · exact .inr ⟨by omega, by rw [argmin_one], by rw [argmin_one]⟩
  · have e : argmin f (k + 1) = k := by rw [argmin_step h1, if_pos (by omega)]
    exact .inr ⟨by omega, by rw [e], by rw [e]⟩
theorem BestSt.more {f : Nat → Nat} {len k : Nat} {b fw : Int} (hf : ∀ i, f i ≤ len) (h : BestSt f len k b fw) (hlt : ¬ (f k : Int) < fw) : BestSt f len (k + 1) b fw := by
  rcases h with ⟨rfl, -, rfl⟩ | ⟨h1, h2, rfl⟩
  · have := hf 0; omega
  · have e : argmin f (k + 1) = argmin f k := by rw [argmin_step h1, if_neg (by omega)]
    exact .inr ⟨by omega, by rw [e, h2], by rw [e]⟩
theorem BestSt.bd {f : Nat → Nat} {len k : Nat} {b fw : Int} (hf : ∀ i, f i ≤ len) (h : BestSt f len k b fw) : -1 ≤ b ∧ b ≤ k ∧ 0 ≤ fw ∧ fw ≤ (len : Int) + 1 := by
  rcases h with ⟨rfl, rfl, rfl⟩ | ⟨h1, rfl, rfl⟩
  · omega
  · have := (argmin_spec f k h1).1
    have := hf (argmin f k)
    omega
def nextOr (r c : Nat) (L : List (List (List Int))) (m : List (List Int)) (cells : List Int) : Int := if cntA c L m cells = 1 then -1 else (nextCell c (r * c) L m cells : Nat)
theorem RevealNext_i (v v2 : Value) (m : List (List Int)) (cells : List Int) (r c : Nat) (w : World) (hv : Grid w v m) (hv2 : Ints w v2 cells) (hs : Shape r c m) (hr1 : 1 ≤ r) (hr5 : r ≤ 5) (hc1 : 1 ≤ c) (hc5 : c ≤ 5) (hris : Rising (r * c) cells) : Calls Tryz.prog 113 #[v, v2] w fun e w' => e = .returned (.int .i64 (nextOr r c (allImgs (rowSumsOf m) (colSumsOf m)) m cells)) ∧ Below w.heap.size w w' := by
  have hI := imgsOk hs hr1 hr5 hc1 hc5
  obtain ⟨L, hL⟩ : ∃ L, L = allImgs (rowSumsOf m) (colSumsOf m) := ⟨_, rfl⟩
  rw [← hL] at hI ⊢
  have HI := Lib.hid hI
  have hN25 : r * c ≤ 25 := Nat.mul_le_mul hr5 hc5
  have hrc1 : 1 ≤ r * c := Nat.mul_pos hr1 hc1
  have Hv := Lib.hid hv
  have Hv2 := Lib.hid hv2
  obtain ⟨b, off, cp, rfl, hb, hcl⟩ := hv.cells hs hr1 hc1
  obtain ⟨b0, o0, c0, hc0, hb0, -⟩ := hcl 0 (by omega)
  rw [Nat.add_zero] at hc0
  have Hcl := Lib.hid hcl
  have Hc0 := Lib.hid hc0
  obtain ⟨a2, cap2, rfl, -⟩ := id hv2
  have Hris := Lib.hid hris
  have HL := Lib.hid hL
  have Hmul := Lib.hid (show (r : Int) * (c : Int) = ((r * c : Nat) : Int) from by rw [Int.natCast_mul])
  have Hnext := Lib.hid (show (cntA c L m cells = 1 → nextOr r c L m cells = -1) ∧ (cntA c L m cells ≠ 1 → nextOr r c L m cells = (nextCell c (r * c) L m cells : Nat)) from ⟨fun h => by unfold nextOr; rw [if_pos h], fun h => by unfold nextOr; rw [if_neg h]⟩)
  have Hnc := Lib.hid (show nextCell c (r * c) L m cells = argmin (fun k => cnt1 c m k (agreeing c L m cells)) (r * c) from by unfold nextCell; congr 1; funext k; rw [cnt1_eq])
  have hbig := hI.big
  clear hI hcl hv hv2 hris hL hc0
  go_enter Tryz.func113, Tryz.ntmps113
  go_wp2_with (fail)
  refine (agreeing_i _ _ m cells r c _ Hv.out Hv2.out hs hr1 hr5 hc1 hc5 Hris.out).mono ?_
  rintro e w1 ⟨v1, rfl, g1, b1⟩
  rw [← HL.out] at g1
  obtain ⟨A, hA⟩ : ∃ A, A = agreeing c L m cells := ⟨_, rfl⟩
  rw [← hA] at g1 Hnc
  have hcn : cntA c L m cells = A.length := by rw [hA]; rfl
  have hAL : A.length ≤ 1073741824 := by rw [hA]; exact Nat.le_trans (List.length_filter_le _ _) hbig
  have hApos : 0 < A.length := by rw [← hcn]; exact cntA_pos HI.out.self cells
  have HAs := Lib.hid (show ∀ x ∈ A, Shape r c x from fun x hx => HI.out.shape x (by rw [hA] at hx; exact (List.mem_filter.1 hx).1))
  rw [hcn] at Hnext
  clear hA hcn
  have Hg := Lib.hid g1
  obtain ⟨gl, go, gc, rfl, hgl, -⟩ := g1.inv_ne hApos
  obtain ⟨N, hN⟩ : ∃ N, N = A.length := ⟨_, rfl⟩
  rw [← hN] at Hg Hnext hAL hApos ⊢
  have HN := Lib.hid hN
  clear g1 hN
  by_cases h1 : N = 1
  · have Hr := Lib.hid (Hnext.out.1 h1)
    have hd : ((N : Int) == 1) = true := by simp [h1]
    clear h1
    go_wp2
    go_ret
    exact ⟨retI Hr.out.symm, b1⟩
  have Hr := Lib.hid (Hnext.out.2 h1)
  have hd : ((N : Int) == 1) = false := by rw [beq_eq_false_iff_ne]; omega
  have Hf := Lib.hid (show ∀ i, cnt1 c m i A ≤ N from fun i => by rw [HN.out]; exact cnt1_le c m i A)
  obtain ⟨f, hf⟩ : ∃ f : Nat → Nat, f = fun k => cnt1 c m k A := ⟨_, rfl⟩
  have Hfe := Lib.hid (show ∀ k, f k = cnt1 c m k A from fun k => by rw [hf])
  rw [← hf] at Hnc
  have Hfl := Lib.hid (show ∀ i, f i ≤ N from fun i => by rw [hf]; exact Hf.out i)
  clear h1 hf
  go_wp2
  go_loopw [7, 8, 9, 10, 11, 12, 14] (fun bv fv i _ _ _ _ wr => ∃ (k : Nat) (bi fi : Int), k ≤ r * c ∧ i = .int .i64 k ∧ bv = .int .i64 bi ∧ fv = .int .i64 fi ∧ Hid (BestSt f N k bi fi) ∧ Hid (Below w1.heap.size w1 wr)) (fun _ _ i _ _ _ _ _ => r * c - (intOf i).toNat)
  case atStart => exact ⟨0, -1, (N : Int) + 1, Nat.zero_le _, rfl, rfl, rfl, .inl ⟨rfl, rfl, rfl⟩, Below.refl _ _⟩
  case round =>
    clear hd
    obtain ⟨k, bi, fi, hk, rfl, rfl, rfl, Hst, Hb⟩ := hrel
    have b1r := b1.trans_pure Hb.out (Nat.le_refl _)
    have hc0 := (b1r.cell (p := ⟨b, off, none⟩) hb).trans Hc0.out
    obtain ⟨hb1, hb2, hb3, hb4⟩ := Hst.out.bd Hfl.out
    by_cases hlt : k < r * c
    · have hdk : (k : Int) < (r : Int) * (c : Int) := by rw [Hmul.out]; omega
      have hky : k / c < r := by rw [Nat.div_lt_iff_lt_mul (by omega)]; exact hlt
      have hkx : k % c < c := Nat.mod_lt _ (by omega)
      have hi1 : (0 : Int) ≤ (k : Int) / (c : Int) := Int.ediv_nonneg (by omega) (by omega)
      have hi2 : (k : Int) / (c : Int) < (r : Int) := by rw [← Int.natCast_ediv]; omega
      have hi3 : (0 : Int) ≤ (k : Int) % (c : Int) := Int.emod_nonneg _ (by omega)
      have hi4 : (k : Int) % (c : Int) < (c : Int) := Int.emod_lt_of_pos _ (by omega)
      obtain ⟨q1, f1, p1, m1, hq1, m2⟩ := Hcl.out (k / c) hky
      have m1 := (b1r.cell (p := ⟨b, off + k / c, none⟩) hb).trans m1
      have m2 := (b1r.cell (p := ⟨q1, f1 + k % c, none⟩) hq1).trans (m2 (k % c) hkx)
      have hbw : b < wr.heap.size := Nat.lt_of_lt_of_le hb b1r.size
      have hq1w : q1 < wr.heap.size := Nat.lt_of_lt_of_le hq1 b1r.size
      have HM := Lib.hid (And.intro m1 m2)
      obtain ⟨z2, hz2⟩ : ∃ z, z = at2 m (k / c) (k % c) := ⟨_, rfl⟩
      have Hz2 := Lib.hid hz2
      rw [← hz2] at HM
      clear m1 m2 hz2
      go_wp2
      go_region
      all_goals go_wp2
      all_goals
        have Hb0 := Lib.hid (show Below wr.heap.size wr wr.drew from (Below.refl _ _).drew)
        clear hc0
        go_loopw [12, 14, 56] (fun cv _ i wi => ∃ j : Nat, j ≤ N ∧ i = .int .i64 j ∧ cv = .int .i64 (cnt1 c m k (A.take j)) ∧ Hid (Below wr.heap.size wr wi)) (fun _ _ i _ => N - (intOf i).toNat)
        case atStart => exact ⟨0, Nat.zero_le _, rfl, by simp [cnt1], Hb0⟩
        case round =>
          clear Hb0
          obtain ⟨j, hj, rfl, rfl, Hbi⟩ := hrel
          have hcl := cnt1_le c m k (A.take j)
          rw [List.length_take] at hcl
          obtain ⟨C, hC⟩ : ∃ C, C = cnt1 c m k (A.take j) := ⟨_, rfl⟩
          rw [← hC] at hcl ⊢
          have HC := Lib.hid hC
          clear hC
          by_cases hltj : j < N
          · obtain ⟨x, hx⟩ : ∃ x, A[j]? = some x := ⟨_, List.getElem?_eq_getElem (by rw [← HN.out]; exact hltj)⟩
            have hxs := HAs.out x (List.mem_of_getElem? hx)
            obtain ⟨u, hck, hu⟩ := Sl.at Hg.out hx
            have hu : Grid w1 u x := hu
            obtain ⟨bx, offx, cpx, rfl, hbx, hxc⟩ := hu.cells hxs hr1 hc1
            have b1i := Hb.out.trans_pure Hbi.out (Nat.le_refl _)
            have hck := (b1i.cell (p := ⟨gl, go + j, none⟩) hgl).trans hck
            obtain ⟨q2, f2, p2, x1, hq2, x2⟩ := hxc (k / c) hky
            have x1 := (b1i.cell (p := ⟨bx, offx + k / c, none⟩) hbx).trans x1
            have x2 := (b1i.cell (p := ⟨q2, f2 + k % c, none⟩) hq2).trans (x2 (k % c) hkx)
            have m1 := (Hbi.out.cell (p := ⟨b, off + k / c, none⟩) hbw).trans HM.out.1
            have m2 := (Hbi.out.cell (p := ⟨q1, f1 + k % c, none⟩) hq1w).trans HM.out.2
            have Hst1 := Lib.hid (cnt1_take (c := c) (m := m) (n := k) hx)
            obtain ⟨z1, hz1⟩ : ∃ z, z = at2 x (k / c) (k % c) := ⟨_, rfl⟩
            rw [← hz1, ← Hz2.out, ← HC.out] at Hst1
            rw [← hz1] at x2
            clear hz1 hx hu hxc
            by_cases hz : z1 = z2
            · have hze : (z1 == z2) = true := by simp [hz]
              have Hs2 := Lib.hid (show cnt1 c m k (A.take (j + 1)) = C + 1 from by rw [Hst1.out, if_pos hz])
              clear hz
              go_wp2
              go_region
              all_goals
                go_wp2
                go_roundw
                case rel => exact ⟨j + 1, by omega, by go_num, by rw [Hs2.out]; go_num, Lib.hid Hbi.out.drew⟩
                case measure => simp [intOf]; omega
            · have hze : (z1 == z2) = false := by simp [hz]
              have Hs2 := Lib.hid (show cnt1 c m k (A.take (j + 1)) = C from by rw [Hst1.out, if_neg hz]; rfl)
              clear hz
              go_wp2
              go_region
              all_goals
                go_wp2
                go_roundw
                case rel => exact ⟨j + 1, by omega, by go_num, by rw [Hs2.out], Lib.hid Hbi.out.drew⟩
                case measure => simp [intOf]; omega
          · obtain rfl : j = N := by omega
            have hfk : f k = C := by rw [Hfe.out, HC.out, List.take_of_length_le (by rw [← HN.out]; exact Nat.le_refl _)]
            have Hb2 := Lib.hid (Hb.out.trans_pure Hbi.out (Nat.le_refl _))
            have Hfk := Lib.hid hfk
            clear hfk
            by_cases hltc : (C : Int) < fi
            · have Hst2 := Lib.hid (Hst.out.less (by rw [Hfk.out]; exact hltc))
              rw [Hfk.out] at Hst2
              go_wp2
              go_roundw
              case rel => exact ⟨k + 1, k, C, by omega, by go_num, rfl, rfl, Hst2, Hb2⟩
              case measure => simp [intOf]; omega
            · have Hst2 := Lib.hid (Hst.out.more Hfl.out (by rw [Hfk.out]; exact hltc))
              go_wp2
              go_roundw
              case rel => exact ⟨k + 1, bi, fi, by omega, by go_num, rfl, rfl, Hst2, Hb2⟩
              case measure => simp [intOf]; omega
    · obtain rfl : k = r * c := by omega
      have hdk : ¬ (((r * c : Nat) : Int) < (r : Int) * (c : Int)) := by rw [Hmul.out]; omega
      have Hfin := Lib.hid (show bi = nextOr r c L m cells from by
        rcases Hst.out with ⟨h, -⟩ | ⟨-, h, -⟩
        · omega
        · rw [h, Hr.out, Hnc.out])
      obtain ⟨K, hK⟩ : ∃ K, K = r * c := ⟨_, rfl⟩
      rw [← hK] at hdk ⊢
      clear hK
      go_wp2
      go_ret
      exact ⟨retI Hfin.out, b1r⟩
def lenOf : Value → Nat
  | .slice _ n _ => n
  | _ => 0
theorem sortU_ins {N : Nat} {n : Int} {cells : List Int} (hr : Rising N (insS n cells)) : sortU (cells ++ [n]) = insS n cells := by
  have hp : (sortU (cells ++ [n])).Perm (insS n cells) := (sortU_perm _).trans (insS_perm n cells).symm
  have hne : (sortU (cells ++ [n])).Pairwise (fun a b => a ≠ b) := (hp.pairwise_iff (fun h => Ne.symm h)).2 (hr.1.imp fun h => by omega)
  exact rising_eq hp ((List.Pairwise.and (sortU_sorted _) hne).imp fun h => by omega) hr.1
theorem rising_le {N : Nat} {l : List Int} (h : Rising N l) : l.length ≤ N := by have := rising_len (ris_zero.2 h) (Nat.zero_le _); omega
def greedyOf (r c : Nat) (m : List (List Int)) : List Int := greedy c (r * c) (allImgs (rowSumsOf m) (colSumsOf m)) m (allImgs (rowSumsOf m) (colSumsOf m)).length []
def greedyR (m : List (List Int)) : Option (List Int) := if imageOk m then some (greedyOf m.length (m.headD []).length m) else none
theorem greedyR_ok {r c : Nat} {m : List (List Int)} (h : Shape r c m) (h1 : 1 ≤ r) (h2 : r ≤ 5) (h3 : 1 ≤ c) (h4 : c ≤ 5) : greedyR m = some (greedyOf r c m) := by
  unfold greedyR
  rw [if_pos (h.ok h1 h2 h3 h4), h.1, h.head h1]
theorem rising_nil (N : Nat) : Rising N [] := ⟨List.Pairwise.nil, fun x hx => by cases hx⟩
theorem greedyOf_spec {r c : Nat} {m : List (List Int)} (h : Shape r c m) (h1 : 1 ≤ r) (h2 : r ≤ 5) (h3 : 1 ≤ c) (h4 : c ≤ 5) : Rising (r * c) (greedyOf r c m) ∧ cntA c (allImgs (rowSumsOf m) (colSumsOf m)) m (greedyOf r c m) = 1 := by
  have hI := imgsOk h h1 h2 h3 h4
  exact greedy_enough h1 h3 hI.nd hI.shape hI.self _ [] (rising_nil _) (by
    have : cntA c (allImgs (rowSumsOf m) (colSumsOf m)) m [] ≤ (allImgs (rowSumsOf m) (colSumsOf m)).length := List.length_filter_le _ _
    omega)
theorem greedyR_len (m : List (List Int)) : ((greedyR m).getD []).length ≤ 25 := by
  cases hok : imageOk m
  · simp [greedyR, hok]
  · obtain ⟨r, c, hr1, hr5, hc1, hc5, hsh⟩ := imageOk_shape hok
    rw [greedyR_ok hsh hr1 hr5 hc1 hc5]
    have := rising_le (greedyOf_spec hsh hr1 hr5 hc1 hc5).1
    have : r * c ≤ 25 := Nat.mul_le_mul hr5 hc5
    simp only [Option.getD_some]
    omega
structure GSt (n r c : Nat) (m : List (List Int)) (L : List (List (List Int))) (W : List Int) (w wr : World) (ov : Value) (cells : List Int) (f : Nat) : Prop where
  own : Own 3 IntV (Iv n wr.heap.size) wr ov cells
  ris : Rising (r * c) cells
  cnt : cntA c L m cells ≤ f + 1
  eq : W = greedy c (r * c) L m f cells
  bel : Below n w wr
theorem GreedyReveal_i (v : Value) (m : List (List Int)) (r c : Nat) (w : World) (hv : Grid w v m) (hs : Shape r c m) (hr1 : 1 ≤ r) (hr5 : r ≤ 5) (hc1 : 1 ≤ c) (hc5 : c ≤ 5) : Calls Tryz.prog 52 #[v] w fun e w' => ∃ v', e = .returned (.tuple #[v', .bool true]) ∧ Own 3 IntV (Iv w.heap.size w'.heap.size) w' v' (greedyOf r c m) ∧ Below w.heap.size w w' := by
  have hI := imgsOk hs hr1 hr5 hc1 hc5
  obtain ⟨W, hW⟩ : ∃ W, W = greedyOf r c m := ⟨_, rfl⟩
  obtain ⟨L, hL⟩ : ∃ L, L = allImgs (rowSumsOf m) (colSumsOf m) := ⟨_, rfl⟩
  have hW2 : W = greedy c (r * c) L m L.length [] := by rw [hW, hL]; rfl
  have hcn : cntA c L m [] ≤ L.length := List.length_filter_le _ _
  rw [← hL] at hI
  rw [← hW]
  have HI := Lib.hid hI
  have hN25 : r * c ≤ 25 := Nat.mul_le_mul hr5 hc5
  have Hok := Lib.hid (hs.ok hr1 hr5 hc1 hc5)
  have Hv := Lib.hid hv
  have HL := Lib.hid hL
  obtain ⟨a, cap, rfl, -⟩ := hv
  have St0 := Lib.hid (show GSt w.heap.size r c m L W w w (.slice none 0 0) [] L.length from ⟨Own.nil _ _ _ _, rising_nil _, by omega, hW2, Below.refl _ _⟩)
  clear hI hW hL hW2 hcn
  go_enter Tryz.func52, Tryz.ntmps52
  go_wp2_with (fail)
  refine (ImageOk_i _ _ _ Hv.out).mono ?_
  rintro e w' ⟨rfl, rfl⟩
  rw [Hok.out]
  go_wp2
  go_loopw [4] (fun ov wr => ∃ (cells : List Int) (f : Nat), Hid (GSt w.heap.size r c m L W w wr ov cells f)) (fun ov _ => 26 - lenOf ov)
  case atStart => exact ⟨[], L.length, St0⟩
  case round =>
    clear St0
    obtain ⟨cells, f, St⟩ := hrel
    obtain ⟨N, hN⟩ : ∃ N, N = cntA c L m cells := ⟨_, rfl⟩
    have HN := Lib.hid hN
    have hpos : 1 ≤ N := by rw [hN]; exact cntA_pos HI.out.self cells
    have hNf : N ≤ f + 1 := by rw [hN]; exact St.out.cnt
    have hcl := rising_le St.out.ris
    have Hci := Lib.hid St.out.own.ints
    obtain ⟨p1, p2, p3, rfl⟩ := St.out.own.shape
    obtain rfl : p2 = cells.length := Ints.len St.out.own.ints
    clear hN
    go_wp2_with (fail)
    refine (IsEnough_i _ _ m cells r c _ (Hv.out.keep St.out.bel) Hci.out hs hr1 hr5 hc1 hc5 St.out.ris).mono ?_
    rintro e w1 ⟨rfl, b1⟩
    rw [← HL.out, ← HN.out]
    have sz1 := b1.size
    have hnw := St.out.bel.size
    by_cases h1 : N = 1
    · rw [decide_eq_true h1]
      have Hfin := Lib.hid (show W = cells from by rw [St.out.eq, greedy_done (by rw [← HN.out]; omega)])
      have Hown := Lib.hid (Own.grow rIntV St.out.own (Nat.le_refl _) b1)
      have bbf := St.out.bel.trans_pure b1 (Nat.le_refl _)
      clear h1
      go_wp2
      refine bodyPost_ret (v := .tuple #[.slice p1 cells.length p3, .bool true]) (by simp [results, Tryz.results52, go_sem]) rfl ?_
      exact ⟨_, rfl, by rw [Hfin.out]; exact Hown.out, bbf⟩
    · rw [decide_eq_false h1]
      have hns := next_spec hr1 hc1 HI.out.nd HI.out.shape HI.out.self St.out.ris (by rw [← HN.out]; omega)
      have Hnx := Lib.hid (show nextOr r c L m cells = (nextCell c (r * c) L m cells : Nat) from by unfold nextOr; rw [if_neg (by rw [← HN.out]; exact h1)])
      obtain ⟨f', rfl⟩ : ∃ f', f = f' + 1 := ⟨f - 1, by omega⟩
      have Heq := Lib.hid (show W = greedy c (r * c) L m f' (insS (nextCell c (r * c) L m cells) cells) from by rw [St.out.eq, greedy_step (by rw [← HN.out]; omega)])
      obtain ⟨X, hX⟩ : ∃ X, X = nextCell c (r * c) L m cells := ⟨_, rfl⟩
      rw [← hX] at hns Hnx Heq
      have hXb := hns.1
      have Hri := Lib.hid hns.2.2.2.1
      have Hcn := Lib.hid (show cntA c L m (insS X cells) ≤ f' + 1 from by have := hns.2.2.2.2; rw [← HN.out] at this; omega)
      clear hX hns h1
      have Hci1 := Lib.hid (Hci.out.keep b1)
      have Hb1 := Lib.hid (St.out.bel.trans_pure b1 (Nat.le_refl _))
      have Hown1 := Lib.hid (Own.grow rIntV St.out.own (Nat.le_refl _) b1)
      go_wp2_with (fail)
      refine (RevealNext_i _ _ m cells r c _ (Hv.out.keep Hb1.out) Hci1.out hs hr1 hr5 hc1 hc5 St.out.ris).mono ?_
      rintro e w2 ⟨rfl, b2⟩
      rw [← HL.out, Hnx.out]
      have hXI : I64 (X : Int) := I64.small (by omega) (by omega)
      have sz2 := b2.size
      have Hown2 := Lib.hid (Own.grow rIntV Hown1.out (Nat.le_refl _) b2)
      have Hb2 := Lib.hid (Hb1.out.trans_pure b2 (Nat.le_refl _))
      have hcl2 : cells.length < 1099511627776 := by omega
      clear Hown1 Hci Hci1
      go_wp2_with (first | (at_builtin; (refine wpList_appR (w0 := w2) (u := .int .i64 X) rfl _ _ 32 rfl rIntV 3 Tryz.underlying32 infoInt rfl (by decide) w.heap.size w2.heap.size Hb2.out.size (Nat.le_refl _) rfl rfl (by exact Hown2.out) (by exact ⟨rfl, hXI⟩) hcl2 ?_); intro v3 w3 o3 b3 _; obtain ⟨q3, hq3⟩ : ∃ q3, q3 = cells ++ [(X : Int)] := ⟨_, rfl⟩; rw [← hq3] at o3; obtain ⟨g3, c3, rfl, hg3, -, hg3s, -⟩ := o3.inv_ne (by rw [hq3]; simp); have Hq3 := Lib.hid hq3; have hl3 : q3.length = cells.length + 1 := (by rw [hq3]; simp); have Hl3 := Lib.hid hl3; clear hq3 hl3; have Ho3 := Lib.hid o3; have Hb3 := Lib.hid b3; clear o3 b3) | fail)
      have HI3 := Lib.hid (show ∀ x ∈ q3, I64 x from fun x hx => by
        rw [Hq3.out] at hx
        have := Hri.out.2 x ((insS_perm (X : Int) cells).mem_iff.2 hx)
        exact I64.small (by omega) (by omega))
      have hl3 : q3.length < 4611686018427387904 := by rw [Hl3.out]; omega
      refine (Sort_c g3 c3 q3 _ w3 Ho3.out HI3.out hl3).mono ?_
      rintro e w4 ⟨rfl, o4, h4⟩
      rw [show sortU q3 = insS X cells from by rw [Hq3.out, sortU_ins Hri.out]] at o4
      have hz4 := h4.size
      have hb4 : Below w.heap.size w3 w4 := h4.below (Nat.le_trans (Nat.le_trans hnw (Nat.le_trans sz1 sz2)) Hb3.out.size) fun b hb => by have hb : b = g3 := hb; rw [hb]; exact hg3.1
      have St4 := Lib.hid (show GSt w.heap.size r c m L W w w4 (.slice (some ⟨g3, 0, none⟩) q3.length c3) (insS X cells) f' from ⟨(rOwn rIntV).mono (fun b hb => ⟨hb.1.1, Nat.lt_of_lt_of_le hb.2 hz4⟩) o4, Hri.out, Hcn.out, Heq.out, (Hb2.out.trans Hb3.out).trans hb4⟩)
      clear o4
      go_wp2
      go_roundw
      case rel => exact ⟨_, f', St4⟩
      case measure => have := Hl3.out; simp [lenOf]; omega
theorem GreedyReveal_i2 (v : Value) (m : List (List Int)) (w : World) (hv : Grid w v m) : Calls Tryz.prog 52 #[v] w fun e w' => ∃ v', e = .returned (.tuple #[v', .bool (greedyR m).isSome]) ∧ Own 3 IntV (Iv w.heap.size w'.heap.size) w' v' ((greedyR m).getD []) ∧ Below w.heap.size w w' := by
  cases hok : imageOk m
  · have Hr := Lib.hid (show greedyR m = none from by simp [greedyR, hok])
    have Hok := Lib.hid hok; clear hok
    obtain ⟨a, cap, rfl, -⟩ := id hv
    go_enter Tryz.func52, Tryz.ntmps52
    go_wp2_with (fail)
    refine (ImageOk_i _ _ _ hv).mono ?_
    rintro e w' ⟨rfl, rfl⟩
    rw [Hok.out]
    go_wp2
    refine bodyPost_ret (v := .tuple #[.slice none 0 0, .bool false]) (by simp [results, Tryz.results52, go_sem]) rfl ?_
    exact ⟨_, by rw [Hr.out]; rfl, by rw [Hr.out]; exact Own.nil _ _ _ _, Below.refl _ _⟩
  · obtain ⟨r, c, hr1, hr5, hc1, hc5, hsh⟩ := imageOk_shape hok
    rw [greedyR_ok hsh hr1 hr5 hc1 hc5]
    exact GreedyReveal_i v m r c w hv hsh hr1 hr5 hc1 hc5
end Go.Proofs.YthmocomfjgmjoaaGreatDoor

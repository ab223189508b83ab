/- Contracts: the images that agree (program): rising, agreeing, CountAgreeing, IsEnough, RevealNext. -/
import Derived.Test.YtliejhmlcdjpcaaE3
import Derived.Test.YtliejhmlcdjpcaaPath
import Derived.Test.YtliejhmlcdjpcaaSw3
import Derived.Test.YtliejhmlcdjpcaaMem
import Derived.Test.YtliejhmlcdjpcaaKeyL
namespace Go.Proofs.Ytliejhmlcdjpcaa
open Go.RowKit

theorem rising_t (v : Value) (l : List Int) (n : Int) (N : Nat) (w : World) (hv : Ints w v l) (hn : n = (N : Int)) (hN : N ≤ 1048576) (hl : Rising N l) : Calls Try.prog 62 #[v, .int .i64 n] w fun e w' => e = .returned (.bool true) ∧ w = w' := by
  subst hn
  obtain ⟨a, cap0, rfl, -⟩ := id hv
  have Hv := Lib.hid hv
  have Hl := Lib.hid hl
  have hll : l.length ≤ 1048576 := by have := rising_len (ris_zero.2 hl) (Nat.zero_le _); omega
  clear hv hl
  go_enter Try.func62, Try.ntmps62
  go_wp2
  go_loopw [5, 6, 9] (fun _ _ i wr => ∃ k : Nat, k ≤ l.length ∧ i = .int .i64 k ∧ w = wr) (fun _ _ i _ => l.length - (intOf i).toNat)
  case atStart => exact ⟨0, Nat.zero_le _, rfl, rfl⟩
  case round =>
    obtain ⟨k, hk, rfl, rfl⟩ := hrel
    by_cases hlt : k < l.length
    · obtain ⟨b, off, cpr, he, hb, -⟩ := Hv.out.inv_ne (by omega)
      obtain ⟨rfl, -⟩ : a = some ⟨b, off, none⟩ ∧ cap0 = cpr := by simpa using he
      obtain ⟨x, hx⟩ : ∃ x, l[k]? = some x := ⟨_, List.getElem?_eq_getElem hlt⟩
      have hcx := Ints.at Hv.out hx
      have hbd := Hl.out.2 x (List.mem_of_getElem? hx)
      have Hr := Lib.hid (show inR 0 ((N : Int) - 1) x = true from inR_t (by omega) (by omega))
      by_cases hk0 : 0 < k
      · obtain ⟨K, hK⟩ : ∃ K : Nat, (k : Int) - 1 = (K : Int) := ⟨k - 1, by omega⟩
        obtain ⟨y, hy⟩ : ∃ y, l[K]? = some y := ⟨_, List.getElem?_eq_getElem (by omega)⟩
        have hcy := Ints.at Hv.out hy
        have hyx : y < x := by
          obtain ⟨i1, e1⟩ := List.getElem?_eq_some_iff.1 hy
          obtain ⟨i2, e2⟩ := List.getElem?_eq_some_iff.1 hx
          rw [← e1, ← e2]
          exact List.pairwise_iff_getElem.1 Hl.out.1 _ _ i1 i2 (by omega)
        have hd : decide (y ≥ x) = false := decide_eq_false (by omega)
        have hd2 : decide (x ≤ y) = false := decide_eq_false (by omega)
        have hd3 : decide ((0 : Int) < (k : Int)) = true := by simp; omega
        clear hx hy he
        go_wp2_with (fail)
        refine (within_c _ _ _ _).mono ?_
        rintro e w' ⟨rfl, rfl⟩
        rw [Hr.out]
        go_wp2
        go_roundw
        case rel => exact ⟨k + 1, by omega, by go_num, trivial⟩
        case measure => simp [intOf]; omega
      · obtain rfl : k = 0 := by omega
        rw [Nat.add_zero] at hcx
        clear hx he
        go_wp2_with (fail)
        refine (within_c _ _ _ _).mono ?_
        rintro e w' ⟨rfl, rfl⟩
        rw [Hr.out]
        go_wp2
        go_roundw
        case rel => exact ⟨0 + 1, by omega, by go_num, trivial⟩
        case measure => simp [intOf]; omega
    · go_wp2
      go_ret
      exact ⟨rfl, rfl⟩
/-- what is known of the images with the sums of an image -/
structure ImgsOk (r c : Nat) (m : List (List Int)) (L : List (List (List Int))) : Prop where
  eq : L = allImgs (rowSumsOf m) (colSumsOf m)
  ok : sumsOk (rowSumsOf m) (colSumsOf m) = true
  mem : ∀ q, q ∈ L ↔ Sums (rowSumsOf m) (colSumsOf m) r c q
  self : m ∈ L
  nd : L.Pairwise (fun a b => a ≠ b)
  shape : ∀ g ∈ L, Shape r c g
  big : L.length ≤ 1073741824
theorem imgsOk {r c : Nat} {m : List (List Int)} (hs : Shape r c m) (hr1 : 1 ≤ r) (hr5 : r ≤ 5) (hc1 : 1 ≤ c) (hc5 : c ≤ 5) : ImgsOk r c m (allImgs (rowSumsOf m) (colSumsOf m)) := by
  have hS := sums_of_image hs hr1 hr5 hc1 hc5
  have hrl := (rowSumsOf_wf hs hr1 hr5 hc1 hc5).1
  have hcl := (colSumsOf_wf hs hr1 hr5 hc1 hc5).1
  have hok : sumsOk (rowSumsOf m) (colSumsOf m) = true := sumsOk_of (by omega) (by omega) (by omega) (by omega) (by rw [hrl, hcl]; exact hS)
  have hmem : ∀ q, q ∈ allImgs (rowSumsOf m) (colSumsOf m) ↔ Sums (rowSumsOf m) (colSumsOf m) r c q := fun q => by rw [allImgs_mem hok, hrl, hcl]
  have hlen := allImgs_len (rowSumsOf m) (colSumsOf m)
  refine ⟨rfl, hok, hmem, (hmem m).2 hS, allImgs_nodup hok, fun g hg => ((hmem g).1 hg).1, Nat.le_trans hlen ?_⟩
  rw [hrl, hcl]
  exact Nat.le_trans (Nat.pow_le_pow_right (by decide) (Nat.mul_le_mul hr5 (Nat.succ_le_succ hc5))) (by decide)
theorem agreeing_take {c : Nat} {L : List (List (List Int))} {m : List (List Int)} {cells : List Int} {k : Nat} {x : List (List Int)} (h : L[k]? = some x) : agreeing c (L.take (k + 1)) m cells = agreeing c (L.take k) m cells ++ if agreesB c m x cells then [x] else [] := by
  unfold agreeing
  rw [List.take_add_one, h, Option.toList_some, List.filter_append]
  cases hb : agreesB c m x cells <;> simp [hb]
theorem agreesB_take {c : Nat} {m x : List (List Int)} {cells : List Int} {j n : Nat} (h : cells[j]? = some (n : Int)) : agreesB c m x (cells.take (j + 1)) = (agreesB c m x (cells.take j) && decide (at2 x (n / c) (n % c) = at2 m (n / c) (n % c))) := by
  rw [List.take_add_one, h, Option.toList_some, agreesB_snoc]
  unfold cellN
  rw [Int.toNat_natCast]
theorem infoGridA : (Try.prog.info? 23).map (fun i => (i.zero, i.size, i.bytes)) = some (some (.slice none 0 0), 1, 24) := by kernel_rfl
set_option maxRecDepth 100000 in
set_option maxHeartbeats 2000000 in
theorem agreeing_i (v v2 : Value) (m : List (List Int)) (cells : List Int) (r c : Nat) (w : World) (hv : Grid w v m) (hv2 : Ints w v2 cells) (hs : Shape r c m) (hr1 : 1 ≤ r) (hr5 : r ≤ 5) (hc1 : 1 ≤ c) (hc5 : c ≤ 5) (hris : Rising (r * c) cells) : Calls Try.prog 32 #[v, v2] w fun e w' => ∃ v', e = .returned (.tuple #[v', .bool true]) ∧ Grids w' v' (agreeing c (allImgs (rowSumsOf m) (colSumsOf m)) m cells) ∧ Below w.heap.size w w' := by
  have hI := imgsOk hs hr1 hr5 hc1 hc5
  obtain ⟨L, hL⟩ : ∃ L, L = allImgs (rowSumsOf m) (colSumsOf m) := ⟨_, rfl⟩
  rw [← hL] at hI ⊢
  have HI := Lib.hid hI
  have hN25 : r * c ≤ 25 := Nat.mul_le_mul hr5 hc5
  have Hok := Lib.hid (hs.ok hr1 hr5 hc1 hc5)
  have Hv := Lib.hid hv
  have Hv2 := Lib.hid hv2
  obtain ⟨b, off, cp, rfl, hb, hcl⟩ := hv.cells hs hr1 hc1
  obtain ⟨b0, o0, c0, hc0, hb0, -⟩ := hcl 0 (by omega)
  rw [Nat.add_zero] at hc0
  have Hcl := Lib.hid hcl
  obtain ⟨a2, cap2, rfl, -⟩ := id hv2
  have Hris := Lib.hid hris
  have hcl25 : cells.length ≤ 25 := by have := rising_len (ris_zero.2 hris) (Nat.zero_le _); omega
  have HL := Lib.hid hL
  have hbig := hI.big
  have hN0 : 0 < L.length := List.length_pos_of_mem hI.self
  have Hmul := Lib.hid (show (r : Int) * (c : Int) = ((r * c : Nat) : Int) from by rw [Int.natCast_mul])
  clear hI hcl hv hv2 hris hL
  go_enter Try.func32, Try.ntmps32
  go_wp2_with (fail)
  refine (ImageOk_i _ _ _ Hv.out).mono ?_
  rintro e w' ⟨rfl, rfl⟩
  rw [Hok.out]
  go_wp2_with (fail)
  refine (rising_t _ cells _ (r * c) _ Hv2.out Hmul.out (by omega) Hris.out).mono ?_
  rintro e w' ⟨rfl, rfl⟩
  go_wp2_with (fail)
  refine (RowSums_i _ _ _ Hv.out).mono ?_
  rintro e w2 ⟨v2, rfl, o2, b2⟩
  have Ho2 := Lib.hid o2.ints; clear o2
  go_wp2_with (fail)
  refine (ColSums_i _ _ _ (Hv.out.keep b2)).mono ?_
  rintro e w3 ⟨v3, rfl, o3, b3⟩
  go_wp2_with (fail)
  refine (AllImages_i _ _ _ _ _ (Ho2.out.keep b3) o3.ints).mono ?_
  rintro e w4 ⟨v4, rfl, o4, b4⟩
  rw [HI.out.ok]
  rw [show imgsOf (rowSumsOf m) (colSumsOf m) = L from by unfold imgsOf; rw [HI.out.ok, HL.out]; rfl] at o4
  have b14 := b2.trans_pure (b3.trans_pure b4 (Nat.le_refl _)) (Nat.le_refl _)
  obtain ⟨gl, gc, rfl, -, -, hgl, -⟩ := o4.inv_ne hN0
  have Hg := Lib.hid o4.grids
  obtain ⟨N, hN⟩ : ∃ N, N = L.length := ⟨_, rfl⟩
  rw [← hN] at Hg hN0 hbig ⊢
  have HN := Lib.hid hN
  have hb4 : b < w4.heap.size := Nat.lt_of_lt_of_le hb b14.size
  have hb04 : b0 < w4.heap.size := Nat.lt_of_lt_of_le hb0 b14.size
  clear o3 o4 hN hc0
  go_wp2
  go_loopw [8, 10, 11, 13, 14, 15, 41] (fun out _ _ _ _ _ i wr => ∃ (k : Nat) (us : List Value), k ≤ N ∧ i = .int .i64 k ∧ Hid (Own 23 AnyV (Iv w4.heap.size wr.heap.size) wr out us) ∧ Hid (Heads (Sl (Sl IntV)) w4 us (agreeing c (L.take k) m cells)) ∧ Hid (Below w4.heap.size w4 wr)) (fun _ _ _ _ _ _ i _ => N - (intOf i).toNat)
  case atStart => exact ⟨0, [], Nat.zero_le _, rfl, Own.nil _ _ _ _, Heads.nil _ _, Below.refl _ _⟩
  case round =>
    obtain ⟨k, us, hk, rfl, Ho, Hh, Hb⟩ := hrel
    have HMr := Lib.hid (show ∀ y x, y < r → x < c → ∃ br offr cpr, wr.cell? ⟨b, off + y, none⟩ = some (.slice (some ⟨br, offr, none⟩) c cpr) ∧ br < wr.heap.size ∧ wr.cell? ⟨br, offr + x, none⟩ = some (.int .i64 (at2 m y x)) from fun y x hy hx => by
      obtain ⟨br, offr, cpr, h1, h2, h3⟩ := Hcl.out y hy
      have b4r := b14.trans_pure Hb.out (Nat.le_refl _)
      exact ⟨br, offr, cpr, (b4r.cell (p := ⟨b, off + y, none⟩) hb).trans h1, Nat.lt_of_lt_of_le h2 b4r.size, (b4r.cell (p := ⟨br, offr + x, none⟩) h2).trans (h3 x hx)⟩)
    by_cases hlt : k < N
    · obtain ⟨x, hx⟩ : ∃ x, L[k]? = some x := ⟨_, List.getElem?_eq_getElem (by rw [← HN.out]; exact hlt)⟩
      have hxs := HI.out.shape x (List.mem_of_getElem? hx)
      obtain ⟨u, hck, hu⟩ := Sl.at Hg.out hx
      have hu : Grid w4 u x := hu
      obtain ⟨bx, offx, cpx, rfl, hbx, hxc⟩ := hu.cells hxs hr1 hc1
      rw [Nat.zero_add] at hck
      have hck' := (Hb.out.cell (p := ⟨gl, k, none⟩) hgl).trans hck
      have HXr := Lib.hid (show ∀ y x', y < r → x' < c → ∃ br offr cpr, wr.cell? ⟨bx, offx + y, none⟩ = some (.slice (some ⟨br, offr, none⟩) c cpr) ∧ br < wr.heap.size ∧ wr.cell? ⟨br, offr + x', none⟩ = some (.int .i64 (at2 x y x')) from fun y x' hy hx' => by
        obtain ⟨br, offr, cpr, h1, h2, h3⟩ := hxc y hy
        exact ⟨br, offr, cpr, (Hb.out.cell (p := ⟨bx, offx + y, none⟩) hbx).trans h1, Nat.lt_of_lt_of_le h2 Hb.out.size, (Hb.out.cell (p := ⟨br, offr + x', none⟩) h2).trans (h3 x' hx')⟩)
      have Htk := Lib.hid (agreeing_take (c := c) (m := m) (cells := cells) hx)
      have Hu := Lib.hid hu
      have Hcw := Lib.hid (Hv2.out.keep (b14.trans_pure Hb.out (Nat.le_refl _)))
      have hbr : b < wr.heap.size := Nat.lt_of_lt_of_le hb4 Hb.out.size
      have hbxr : bx < wr.heap.size := Nat.lt_of_lt_of_le hbx Hb.out.size
      have hlen := Hh.out.1
      have hlen2 : (agreeing c (L.take k) m cells).length ≤ k := Nat.le_trans (List.length_filter_le _ _) (by rw [List.length_take]; omega)
      clear hx hck hu hxc
      go_wp2
      clear hck'
      go_loopw [11, 13, 14, 15, 47] (fun ag _ _ _ i wi => ∃ j : Nat, j ≤ cells.length ∧ i = .int .i64 j ∧ ag = .bool (agreesB c m x (cells.take j)) ∧ Hid (Below wr.heap.size wr wi)) (fun _ _ _ _ i _ => cells.length - (intOf i).toNat)
      case atStart => exact ⟨0, Nat.zero_le _, rfl, rfl, Below.refl _ _⟩
      case round =>
        obtain ⟨wo, hwo⟩ : ∃ wo, wo = wr := ⟨_, rfl⟩
        clear hwo
        obtain ⟨j, hj, rfl, rfl, Hbi⟩ := hrel
        by_cases hltj : j < cells.length
        · obtain ⟨n0, hn0⟩ : ∃ n, cells[j]? = some n := ⟨_, List.getElem?_eq_getElem hltj⟩
          have hnb := Hris.out.2 n0 (List.mem_of_getElem? hn0)
          obtain ⟨n, rfl⟩ : ∃ n : Nat, n0 = n := ⟨n0.toNat, by omega⟩
          have hnN : n < r * c := by omega
          have hky : n / c < r := by rw [Nat.div_lt_iff_lt_mul (by omega)]; exact hnN
          have hkx : n % c < c := Nat.mod_lt _ (by omega)
          have Hst := Lib.hid (agreesB_take (c := c) (m := m) (x := x) hn0)
          obtain ⟨bc, offc, cpc, hec, hbc, -⟩ := Hcw.out.inv_ne (by omega)
          obtain ⟨rfl, -⟩ : a2 = some ⟨bc, offc, none⟩ ∧ cap2 = cpc := by simpa using hec
          have hcn := (Hbi.out.cell (p := ⟨bc, offc + j, none⟩) hbc).trans (Ints.at Hcw.out hn0)
          obtain ⟨q1, f1, p1, m1, hq1, m2⟩ := HMr.out (n / c) (n % c) hky hkx
          obtain ⟨q2, f2, p2, x1, hq2, x2⟩ := HXr.out (n / c) (n % c) hky hkx
          obtain ⟨q0, f0, p0, m0, hq0, -⟩ := HMr.out 0 0 (by omega) (by omega)
          rw [Nat.add_zero] at m0
          have m0 := (Hbi.out.cell (p := ⟨b, off, none⟩) hbr).trans m0
          have m1 := (Hbi.out.cell (p := ⟨b, off + n / c, none⟩) hbr).trans m1
          have m2 := (Hbi.out.cell (p := ⟨q1, f1 + n % c, none⟩) hq1).trans m2
          have x1 := (Hbi.out.cell (p := ⟨bx, offx + n / c, none⟩) hbxr).trans x1
          have x2 := (Hbi.out.cell (p := ⟨q2, f2 + n % c, none⟩) hq2).trans x2
          have hi1 : (0 : Int) ≤ (n : Int) / (c : Int) := Int.ediv_nonneg (by omega) (by omega)
          have hi2 : (n : Int) / (c : Int) < (r : Int) := by rw [← Int.natCast_ediv]; omega
          have hi3 : (0 : Int) ≤ (n : Int) % (c : Int) := Int.emod_nonneg _ (by omega)
          have hi4 : (n : Int) % (c : Int) < (c : Int) := Int.emod_lt_of_pos _ (by omega)
          obtain ⟨z1, hz1⟩ : ∃ z, z = at2 x (n / c) (n % c) := ⟨_, rfl⟩
          obtain ⟨z2, hz2⟩ : ∃ z, z = at2 m (n / c) (n % c) := ⟨_, rfl⟩
          rw [← hz1] at x2 Hst
          rw [← hz2] at m2 Hst
          obtain ⟨ag, hag⟩ : ∃ ag, ag = agreesB c m x (cells.take j) := ⟨_, rfl⟩
          rw [← hag] at Hst ⊢
          clear hz1 hz2 hag hn0 hnb hec
          cases ag
          · have Hs2 := Lib.hid (show agreesB c m x (cells.take (j + 1)) = false from by rw [Hst.out]; rfl)
            go_wp2
            go_region
            all_goals
              go_wp2
              go_region
            all_goals
              go_wp2
              go_roundw
              case rel => exact ⟨j + 1, by omega, by go_num, by rw [Hs2.out], Lib.hid Hbi.out.drew.drew⟩
              case measure => simp [intOf]; omega
          · have Hs2 := Lib.hid (show agreesB c m x (cells.take (j + 1)) = (z1 == z2) from by rw [Hst.out, Bool.true_and, Bool.eq_iff_iff, decide_eq_true_eq, beq_iff_eq])
            go_wp2
            go_region
            all_goals
              go_wp2
              go_region
            all_goals
              go_wp2
              go_roundw
              case rel => exact ⟨j + 1, by omega, by go_num, by rw [Hs2.out], Lib.hid Hbi.out.drew.drew⟩
              case measure => simp [intOf]; omega
        · obtain rfl : j = cells.length := by omega
          rw [List.take_length]
          have Hb2 := Lib.hid (Hb.out.trans_pure Hbi.out (Nat.le_refl _))
          have hsz := Hbi.out.size
          have Ho2 := Lib.hid (Own.grow rAnyV Ho.out (Nat.le_refl _) Hbi.out)
          obtain ⟨ag, hag⟩ : ∃ ag, ag = agreesB c m x cells := ⟨_, rfl⟩
          have Hag := Lib.hid hag
          rw [← hag]
          clear hag Ho
          cases ag
          · have Ht2 := Lib.hid (show agreeing c (L.take (k + 1)) m cells = agreeing c (L.take k) m cells from by rw [Htk.out, ← Hag.out]; simp)
            go_wp2
            go_roundw
            case rel => exact ⟨k + 1, us, by omega, by go_num, Ho2, Lib.hid (by rw [Ht2.out]; exact Hh.out), Hb2⟩
            case measure => simp [intOf]; omega
          · have Ht2 := Lib.hid (show agreeing c (L.take (k + 1)) m cells = agreeing c (L.take k) m cells ++ [x] from by rw [Htk.out, ← Hag.out]; simp)
            obtain ⟨wo, rfl⟩ : ∃ wo : World, wo = wr := ⟨_, rfl⟩
            have hus : us.length < 1099511627776 := by omega
            have hw4 := Hb2.out.size
            obtain ⟨p1, p2, p3, rfl⟩ := Ho2.out.shape
            go_wp2_with (first | (at_builtin; (refine wpList_appR rfl _ _ 41 rfl rAnyV 23 Try.underlying41 infoGridA rfl (by decide) w4.heap.size wo.heap.size hw4 (Nat.le_refl _) rfl rfl (by exact Ho2.out) (by exact ⟨rfl, rfl⟩) hus ?_); intro v2 w2 hown2 hbel2 _) | fail)
            have Hb3 := Lib.hid (Hb2.out.trans hbel2)
            have Hh3 := Lib.hid (Hh.out.snoc (x := x) Hu.out)
            exact ⟨⟨k + 1, _, by omega, by go_num, Lib.hid hown2, Lib.hid (by rw [Ht2.out]; exact Hh3.out), Hb3⟩, by simp [intOf]; omega⟩
    · obtain rfl : k = N := by omega
      rw [List.take_of_length_le (by rw [← HN.out]; exact Nat.le_refl _)] at Hh
      obtain ⟨p1, p2, p3, rfl⟩ := Ho.out.shape
      have Hfin := Lib.hid ((Hh.out.keep (rSl (rSl rIntV)) Hb.out).list Ho.out)
      have bbf := b14.trans_pure Hb.out (Nat.le_refl _)
      go_wp2
      refine bodyPost_ret (v := .tuple #[.slice p1 p2 p3, .bool true]) (by simp [results, Try.results32, go_sem]) rfl ?_
      exact ⟨_, rfl, Hfin.out, bbf⟩
end Go.Proofs.Ytliejhmlcdjpcaa

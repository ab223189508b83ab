/- FnClasses: the walk of the law. -/
import Derived.Test.YtliejhmlcdjpcaaSw6
import Derived.Test.YtliejhmlcdjpcaaSw7
import Derived.Test.YtliejhmlcdjpcaaG2
import Derived.Test.YtliejhmlcdjpcaaAlike
namespace Go.Proofs.Ytliejhmlcdjpcaa
open Go.RowKit

theorem sums_lists {xs ys : List Int} {r c : Nat} {x : List (List Int)} (h : Sums xs ys r c x) (hx : xs.length = r) (hy : ys.length = c) (h1 : 1 ≤ r) (h2 : r ≤ 5) (h3 : 1 ≤ c) (h4 : c ≤ 5) : rowSumsOf x = xs ∧ colSumsOf x = ys := by
  have h' := sums_of_image h.1 h1 h2 h3 h4
  have l1 := (rowSumsOf_wf h.1 h1 h2 h3 h4).1
  have l2 := (colSumsOf_wf h.1 h1 h2 h3 h4).1
  refine ⟨List.ext_getElem? fun i => ?_, List.ext_getElem? fun i => ?_⟩
  · by_cases hi : i < r
    · rw [gD_at 0 (by omega : i < (rowSumsOf x).length), gD_at 0 (by omega : i < xs.length), ← h'.2.1 i hi, h.2.1 i hi]
    · rw [List.getElem?_eq_none (by omega), List.getElem?_eq_none (by omega)]
  · by_cases hi : i < c
    · rw [gD_at 0 (by omega : i < (colSumsOf x).length), gD_at 0 (by omega : i < ys.length), ← h'.2.2 i hi, h.2.2 i hi]
    · rw [List.getElem?_eq_none (by omega), List.getElem?_eq_none (by omega)]

def hasIn (m : List (List Int)) (l : List (List (List Int))) : Bool := l.any fun x => decide (x = m)

set_option maxRecDepth 100000 in
set_option maxHeartbeats 3200000 in
theorem FnClasses_w {v : Value} {bs : List Int} {w : World} (hv : Bytes w v bs) :
    Calls Try.prog 6 #[v] w fun e w' => e = .returned (.bool true) ∧ Below w.heap.size w w' := by
  obtain ⟨a, cap, rfl, -, -, -, -⟩ := id hv
  rcases Nat.lt_or_ge 1048576 bs.length with h1 | h1
  · go_enter Try.func6, Try.ntmps6
    go_wp2
    go_ret
    exact ⟨rfl, Below.refl _ _⟩
  have hd0 : decide ((1048576 : Int) < (bs.length : Int)) = false := by simp; omega
  go_enter Try.func6, Try.ntmps6
  go_wp2_with (fail)
  refine (MakePair_c _ bs w hv).mono ?_
  rintro e w1 ⟨va, vb, m, g, r, c, rfl, ⟨hr1, hr4⟩, ⟨hc1, hc4⟩, hsh, hSg, hM, hG, bb1⟩
  have hS := sums_of_image hsh hr1 (by omega) hc1 (by omega)
  have hrl := (rowSumsOf_wf hsh hr1 (by omega) hc1 (by omega)).1
  have hcl := (colSumsOf_wf hsh hr1 (by omega) hc1 (by omega)).1
  have hok : sumsOk (rowSumsOf m) (colSumsOf m) = true := sumsOk_of (by omega) (by omega) (by omega) (by omega) (by rw [hrl, hcl]; exact hS)
  have hmem : ∀ q, q ∈ allImgs (rowSumsOf m) (colSumsOf m) ↔ Sums (rowSumsOf m) (colSumsOf m) r c q := fun q => by rw [allImgs_mem hok, hrl, hcl]
  have hsorted : (allImgs (rowSumsOf m) (colSumsOf m)).Pairwise (GLt r c) := by have := allImgs_sorted hok; rwa [hrl, hcl] at this
  have htr := allImgs_tr_len hok
  have hlen := allImgs_len (rowSumsOf m) (colSumsOf m)
  have hbig : (allImgs (rowSumsOf m) (colSumsOf m)).length ≤ 1048576 := Nat.le_trans hlen (by rw [hrl, hcl]; exact Nat.le_trans (Nat.pow_le_pow_right (by decide) (Nat.mul_le_mul hr4 (Nat.succ_le_succ hc4))) (by decide))
  obtain ⟨L, hL⟩ : ∃ L, L = allImgs (rowSumsOf m) (colSumsOf m) := ⟨_, rfl⟩
  rw [← hL] at hmem hsorted htr hbig
  have HL := Lib.hid hL
  have Hmem := Lib.hid hmem
  have Hsorted := Lib.hid hsorted
  have Htr := Lib.hid htr
  have Hok := Lib.hid hok
  have HmL := Lib.hid ((hmem m).2 hS)
  have HgL := Lib.hid ((hmem g).2 hSg)
  have HM := Lib.hid (show ∀ w', Below w1.heap.size w1 w' → Grid w' va m from fun w' hb => hM.keep hb)
  have HG := Lib.hid (show ∀ w', Below w1.heap.size w1 w' → Grid w' vb g from fun w' hb => hG.keep hb)
  obtain ⟨a1, k1, rfl, -⟩ := hM
  obtain ⟨a2, k2, rfl, -⟩ := hG
  have hNp : 0 < L.length := List.length_pos_of_mem HmL.out
  have Hrl := Lib.hid hrl
  have Hcl := Lib.hid hcl
  clear hS hrl hcl hok hmem hsorted htr hlen hL hSg hv
  go_wp2_with (fail)
  refine (RowSums_i _ _ _ (HM.out _ (Below.refl _ _))).mono ?_
  rintro e w2 ⟨v2, rfl, o2, b2⟩
  have Ho2 := Lib.hid o2.ints; clear o2
  go_wp2_with (fail)
  refine (ColSums_i _ _ _ (HM.out _ b2)).mono ?_
  rintro e w3 ⟨v3, rfl, o3, b3⟩
  go_wp2_with (fail)
  refine (AllImages_i _ _ _ _ _ (Ho2.out.keep b3) o3.ints).mono ?_
  rintro e w4 ⟨v4, rfl, o4, b4⟩
  rw [Hok.out]
  rw [show imgsOf (rowSumsOf m) (colSumsOf m) = L from by unfold imgsOf; rw [Hok.out, HL.out]; rfl] at o4
  have b14 := b2.trans_pure (b3.trans_pure b4 (Nat.le_refl _)) (Nat.le_refl _)
  have bb4 := bb1.trans_pure b14 (Nat.le_refl _)
  obtain ⟨gl, gc, rfl, -, -, hgl, -⟩ := o4.inv_ne hNp
  have Hg := Lib.hid o4.grids
  obtain ⟨N, hN⟩ : ∃ N, N = L.length := ⟨_, rfl⟩
  rw [← hN] at Hg hNp hbig ⊢
  have HN := Lib.hid hN
  clear o3 o4 hN
  have HMw := Lib.hid (show ∀ w', Below w4.heap.size w4 w' → Grid w' (.slice a1 m.length k1) m from fun w' hb => HM.out w' (b14.trans_pure hb (Nat.le_refl _)))
  have HGw := Lib.hid (show ∀ w', Below w4.heap.size w4 w' → Grid w' (.slice a2 g.length k2) g from fun w' hb => HG.out w' (b14.trans_pure hb (Nat.le_refl _)))
  clear HM HG
  have HM := HMw
  have HG := HGw
  clear HMw HGw
  go_wp2
  go_loopw [7, 8, 9, 10, 30] (fun o t _ _ i wr => ∃ (k : Nat) (ob tb : Bool), k ≤ N ∧ i = .int .i64 k ∧ o = .bool ob ∧ t = .bool tb ∧ Hid (ob = hasIn m (L.take k)) ∧ Hid (tb = hasIn g (L.take k)) ∧ Hid (Below w4.heap.size w4 wr)) (fun _ _ _ _ i _ => N - (intOf i).toNat)
  case atStart => exact ⟨0, false, false, Nat.zero_le _, rfl, rfl, rfl, rfl, rfl, Below.refl _ _⟩
  case round =>
    obtain ⟨k, ob, tb, hk, rfl, rfl, rfl, Ho, Ht, Hb⟩ := hrel
    by_cases hlt : k < N
    · obtain ⟨x, hx⟩ : ∃ x, L[k]? = some x := ⟨_, List.getElem?_eq_getElem (by rw [← HN.out]; exact hlt)⟩
      have hxS := (Hmem.out x).1 (List.mem_of_getElem? hx)
      have hxs := hxS.1
      obtain ⟨u, hck, hu⟩ := Sl.at Hg.out hx
      have HU := Lib.hid (show ∀ w', Below wr.heap.size wr w' → Grid w' u x from fun w' hb => Grid.keep (show Grid w4 u x from hu) (Hb.out.trans_pure hb (Nat.le_refl _)))
      obtain ⟨ua, uc, rfl, -⟩ := hu
      rw [Nat.zero_add] at hck
      have hck' := (Hb.out.cell (p := ⟨gl, k, none⟩) hgl).trans hck
      have Htk := Lib.hid (show ∀ q, hasIn q (L.take (k + 1)) = (hasIn q (L.take k) || decide (x = q)) from fun q => by
        unfold hasIn
        rw [List.take_add_one, hx]; simp)
      have Hex := Lib.hid (show rowSumsOf x = rowSumsOf m ∧ colSumsOf x = colSumsOf m from sums_lists hxS Hrl.out Hcl.out hr1 (by omega) hc1 (by omega))
      by_cases hk0 : 0 < k
      · obtain ⟨K, hkK⟩ : ∃ K : Nat, (k : Int) - 1 = (K : Int) := ⟨k - 1, by omega⟩
        have hKN : K < N := by omega
        obtain ⟨x0, hx0⟩ : ∃ x0, L[K]? = some x0 := ⟨_, List.getElem?_eq_getElem (by rw [← HN.out]; omega)⟩
        have hx0S := (Hmem.out x0).1 (List.mem_of_getElem? hx0)
        have hx0s := hx0S.1
        have hx0w := Hsorted.out
        have Hlt := Lib.hid (show GLt r c x0 x from by
          obtain ⟨i1, e1⟩ := List.getElem?_eq_some_iff.1 hx0
          obtain ⟨i2, e2⟩ := List.getElem?_eq_some_iff.1 hx
          rw [← e1, ← e2]
          exact List.pairwise_iff_getElem.1 hx0w _ _ i1 i2 (by omega))
        obtain ⟨u0, hck0, hu0⟩ := Sl.at Hg.out hx0
        have HU0 := Lib.hid (show ∀ w', Below wr.heap.size wr w' → Grid w' u0 x0 from fun w' hb => Grid.keep (show Grid w4 u0 x0 from hu0) (Hb.out.trans_pure hb (Nat.le_refl _)))
        obtain ⟨ub, ud, rfl, -⟩ := hu0
        have hk0d : decide ((0 : Int) < (k : Int)) = true := by simp; omega
        rw [Nat.zero_add] at hck0
        have hs0 : ∀ w', Below wr.heap.size wr w' → w'.cell? ⟨gl, K, none⟩ = some (.slice ub x0.length ud) := fun w' hb => (Hb.out.trans_pure hb (Nat.le_refl _)).cell (p := ⟨gl, K, none⟩) hgl |>.trans hck0
        have Hs0 := Lib.hid hs0
        clear hx0w hx0 hck0 hs0 hx hck hxS hx0S
        cases ob <;> cases tb
        · go_wp2_with (fail)
          refine (SameSums_t _ _ x m r c _ (HU.out _ (Below.refl _ _)) (HM.out _ (Hb.out)) hxs hsh hr1 (by omega) hc1 (by omega) Hex.out.1 Hex.out.2).mono ?_
          rintro e u1 ⟨rfl, c1⟩
          have d1 : Below wr.heap.size wr u1 := c1
          have e0 := Hs0.out u1 d1
          go_wp2_with (fail)
          refine (before_t _ _ x0 x r c _ (HU0.out _ d1) (HU.out _ d1) hx0s hxs hr1 (by omega) Hlt.out).mono ?_
          rintro e u2 ⟨rfl, c2⟩
          have d2 : Below wr.heap.size wr u2 := d1.trans_pure c2 (Nat.le_refl _)
          go_wp2_with (fail)
          refine (alike_c _ _ x m _ (HU.out _ d2) (HM.out _ (Hb.out.trans_pure d2 (Nat.le_refl _)))).mono ?_
          rintro e u3 ⟨rfl, c3⟩
          have d3 : Below wr.heap.size wr u3 := d2.trans_pure c3 (Nat.le_refl _)
          go_wp2_with (fail)
          refine (alike_c _ _ x g _ (HU.out _ d3) (HG.out _ (Hb.out.trans_pure d3 (Nat.le_refl _)))).mono ?_
          rintro e u4 ⟨rfl, c4⟩
          have d4 : Below wr.heap.size wr u4 := d3.trans_pure c4 (Nat.le_refl _)
          have HbN := Lib.hid (Hb.out.trans_pure d4 (Nat.le_refl _))
          go_wp2
          go_roundw
          case rel => exact ⟨k + 1, _, _, by omega, by go_num, rfl, rfl, Lib.hid (by rw [Htk.out, ← Ho.out]; simp), Lib.hid (by rw [Htk.out, ← Ht.out]; simp), HbN⟩
          case measure => simp [intOf]; omega
        · go_wp2_with (fail)
          refine (SameSums_t _ _ x m r c _ (HU.out _ (Below.refl _ _)) (HM.out _ (Hb.out)) hxs hsh hr1 (by omega) hc1 (by omega) Hex.out.1 Hex.out.2).mono ?_
          rintro e u1 ⟨rfl, c1⟩
          have d1 : Below wr.heap.size wr u1 := c1
          have e0 := Hs0.out u1 d1
          go_wp2_with (fail)
          refine (before_t _ _ x0 x r c _ (HU0.out _ d1) (HU.out _ d1) hx0s hxs hr1 (by omega) Hlt.out).mono ?_
          rintro e u2 ⟨rfl, c2⟩
          have d2 : Below wr.heap.size wr u2 := d1.trans_pure c2 (Nat.le_refl _)
          go_wp2_with (fail)
          refine (alike_c _ _ x m _ (HU.out _ d2) (HM.out _ (Hb.out.trans_pure d2 (Nat.le_refl _)))).mono ?_
          rintro e u3 ⟨rfl, c3⟩
          have d3 : Below wr.heap.size wr u3 := d2.trans_pure c3 (Nat.le_refl _)
          have HbN := Lib.hid (Hb.out.trans_pure d3 (Nat.le_refl _))
          go_wp2
          go_roundw
          case rel => exact ⟨k + 1, _, _, by omega, by go_num, rfl, rfl, Lib.hid (by rw [Htk.out, ← Ho.out]; simp), Lib.hid (by rw [Htk.out, ← Ht.out]; simp), HbN⟩
          case measure => simp [intOf]; omega
        · go_wp2_with (fail)
          refine (SameSums_t _ _ x m r c _ (HU.out _ (Below.refl _ _)) (HM.out _ (Hb.out)) hxs hsh hr1 (by omega) hc1 (by omega) Hex.out.1 Hex.out.2).mono ?_
          rintro e u1 ⟨rfl, c1⟩
          have d1 : Below wr.heap.size wr u1 := c1
          have e0 := Hs0.out u1 d1
          go_wp2_with (fail)
          refine (before_t _ _ x0 x r c _ (HU0.out _ d1) (HU.out _ d1) hx0s hxs hr1 (by omega) Hlt.out).mono ?_
          rintro e u2 ⟨rfl, c2⟩
          have d2 : Below wr.heap.size wr u2 := d1.trans_pure c2 (Nat.le_refl _)
          go_wp2_with (fail)
          refine (alike_c _ _ x g _ (HU.out _ d2) (HG.out _ (Hb.out.trans_pure d2 (Nat.le_refl _)))).mono ?_
          rintro e u3 ⟨rfl, c3⟩
          have d3 : Below wr.heap.size wr u3 := d2.trans_pure c3 (Nat.le_refl _)
          have HbN := Lib.hid (Hb.out.trans_pure d3 (Nat.le_refl _))
          go_wp2
          go_roundw
          case rel => exact ⟨k + 1, _, _, by omega, by go_num, rfl, rfl, Lib.hid (by rw [Htk.out, ← Ho.out]; simp), Lib.hid (by rw [Htk.out, ← Ht.out]; simp), HbN⟩
          case measure => simp [intOf]; omega
        · go_wp2_with (fail)
          refine (SameSums_t _ _ x m r c _ (HU.out _ (Below.refl _ _)) (HM.out _ (Hb.out)) hxs hsh hr1 (by omega) hc1 (by omega) Hex.out.1 Hex.out.2).mono ?_
          rintro e u1 ⟨rfl, c1⟩
          have d1 : Below wr.heap.size wr u1 := c1
          have e0 := Hs0.out u1 d1
          go_wp2_with (fail)
          refine (before_t _ _ x0 x r c _ (HU0.out _ d1) (HU.out _ d1) hx0s hxs hr1 (by omega) Hlt.out).mono ?_
          rintro e u2 ⟨rfl, c2⟩
          have d2 : Below wr.heap.size wr u2 := d1.trans_pure c2 (Nat.le_refl _)
          have HbN := Lib.hid (Hb.out.trans_pure d2 (Nat.le_refl _))
          go_wp2
          go_roundw
          case rel => exact ⟨k + 1, _, _, by omega, by go_num, rfl, rfl, Lib.hid (by rw [Htk.out, ← Ho.out]; simp), Lib.hid (by rw [Htk.out, ← Ht.out]; simp), HbN⟩
          case measure => simp [intOf]; omega
      · obtain rfl : k = 0 := by omega
        clear hx hck hxS
        cases ob <;> cases tb
        · go_wp2_with (fail)
          refine (SameSums_t _ _ x m r c _ (HU.out _ (Below.refl _ _)) (HM.out _ (Hb.out)) hxs hsh hr1 (by omega) hc1 (by omega) Hex.out.1 Hex.out.2).mono ?_
          rintro e u1 ⟨rfl, c1⟩
          have d1 : Below wr.heap.size wr u1 := c1
          go_wp2_with (fail)
          refine (alike_c _ _ x m _ (HU.out _ d1) (HM.out _ (Hb.out.trans_pure d1 (Nat.le_refl _)))).mono ?_
          rintro e u2 ⟨rfl, c2⟩
          have d2 : Below wr.heap.size wr u2 := d1.trans_pure c2 (Nat.le_refl _)
          go_wp2_with (fail)
          refine (alike_c _ _ x g _ (HU.out _ d2) (HG.out _ (Hb.out.trans_pure d2 (Nat.le_refl _)))).mono ?_
          rintro e u3 ⟨rfl, c3⟩
          have d3 : Below wr.heap.size wr u3 := d2.trans_pure c3 (Nat.le_refl _)
          have HbN := Lib.hid (Hb.out.trans_pure d3 (Nat.le_refl _))
          go_wp2
          go_roundw
          case rel => exact ⟨0 + 1, _, _, by omega, by go_num, rfl, rfl, Lib.hid (by rw [Htk.out, ← Ho.out]; simp), Lib.hid (by rw [Htk.out, ← Ht.out]; simp), HbN⟩
          case measure => simp [intOf]; omega
        · go_wp2_with (fail)
          refine (SameSums_t _ _ x m r c _ (HU.out _ (Below.refl _ _)) (HM.out _ (Hb.out)) hxs hsh hr1 (by omega) hc1 (by omega) Hex.out.1 Hex.out.2).mono ?_
          rintro e u1 ⟨rfl, c1⟩
          have d1 : Below wr.heap.size wr u1 := c1
          go_wp2_with (fail)
          refine (alike_c _ _ x m _ (HU.out _ d1) (HM.out _ (Hb.out.trans_pure d1 (Nat.le_refl _)))).mono ?_
          rintro e u2 ⟨rfl, c2⟩
          have d2 : Below wr.heap.size wr u2 := d1.trans_pure c2 (Nat.le_refl _)
          have HbN := Lib.hid (Hb.out.trans_pure d2 (Nat.le_refl _))
          go_wp2
          go_roundw
          case rel => exact ⟨0 + 1, _, _, by omega, by go_num, rfl, rfl, Lib.hid (by rw [Htk.out, ← Ho.out]; simp), Lib.hid (by rw [Htk.out, ← Ht.out]; simp), HbN⟩
          case measure => simp [intOf]; omega
        · go_wp2_with (fail)
          refine (SameSums_t _ _ x m r c _ (HU.out _ (Below.refl _ _)) (HM.out _ (Hb.out)) hxs hsh hr1 (by omega) hc1 (by omega) Hex.out.1 Hex.out.2).mono ?_
          rintro e u1 ⟨rfl, c1⟩
          have d1 : Below wr.heap.size wr u1 := c1
          go_wp2_with (fail)
          refine (alike_c _ _ x g _ (HU.out _ d1) (HG.out _ (Hb.out.trans_pure d1 (Nat.le_refl _)))).mono ?_
          rintro e u2 ⟨rfl, c2⟩
          have d2 : Below wr.heap.size wr u2 := d1.trans_pure c2 (Nat.le_refl _)
          have HbN := Lib.hid (Hb.out.trans_pure d2 (Nat.le_refl _))
          go_wp2
          go_roundw
          case rel => exact ⟨0 + 1, _, _, by omega, by go_num, rfl, rfl, Lib.hid (by rw [Htk.out, ← Ho.out]; simp), Lib.hid (by rw [Htk.out, ← Ht.out]; simp), HbN⟩
          case measure => simp [intOf]; omega
        · go_wp2_with (fail)
          refine (SameSums_t _ _ x m r c _ (HU.out _ (Below.refl _ _)) (HM.out _ (Hb.out)) hxs hsh hr1 (by omega) hc1 (by omega) Hex.out.1 Hex.out.2).mono ?_
          rintro e u1 ⟨rfl, c1⟩
          have d1 : Below wr.heap.size wr u1 := c1
          have HbN := Lib.hid (Hb.out.trans_pure d1 (Nat.le_refl _))
          go_wp2
          go_roundw
          case rel => exact ⟨0 + 1, _, _, by omega, by go_num, rfl, rfl, Lib.hid (by rw [Htk.out, ← Ho.out]; simp), Lib.hid (by rw [Htk.out, ← Ht.out]; simp), HbN⟩
          case measure => simp [intOf]; omega
    · obtain rfl : k = N := by omega
      have hall : L.take k = L := List.take_of_length_le (by rw [← HN.out]; exact Nat.le_refl _)
      have hin : ∀ q, q ∈ L → hasIn q L = true := fun q hq => by unfold hasIn; rw [List.any_eq_true]; exact ⟨q, hq, by simp⟩
      obtain rfl : ob = true := by rw [Ho.out, hall]; exact hin m HmL.out
      obtain rfl : tb = true := by rw [Ht.out, hall]; exact hin g HgL.out
      have bbr := bb4.trans_pure Hb.out (Nat.le_refl _)
      clear hall hin Ho Ht
      go_wp2_with (fail)
      refine (ColSums_i _ _ _ (HM.out _ Hb.out)).mono ?_
      rintro e u1 ⟨y1, rfl, q1, c1⟩
      have d1 := Hb.out.trans_pure c1 (Nat.le_refl _)
      have Hq1 := Lib.hid q1.ints; clear q1
      go_wp2_with (fail)
      refine (RowSums_i _ _ _ (HM.out _ d1)).mono ?_
      rintro e u2 ⟨y2, rfl, q2, c2⟩
      have d2 := d1.trans_pure c2 (Nat.le_refl _)
      have Hq2 := Lib.hid q2.ints; clear q2
      go_wp2_with (fail)
      refine (CountImages_i _ _ _ _ _ (Hq1.out.keep c2) Hq2.out (by rw [sumsOk_comm]; exact Hok.out)).mono ?_
      rintro e u3 ⟨rfl, c3⟩
      have d3 := d2.trans_pure c3 (Nat.le_refl _)
      rw [Htr.out, ← HN.out]
      go_wp2_with (fail)
      refine (ImageLines_i _ L _ (Hg.out.keep d3) (by rw [← HN.out]; omega)).mono ?_
      rintro e u4 ⟨y4, rfl, q4, c4⟩
      obtain ⟨z1, z2, z3, rfl⟩ := q4.shape
      have hz := Sl.len q4.strs
      rw [imgLines_len, ← HN.out] at hz
      subst hz
      have d4 := d3.trans_pure c4 (Nat.le_refl _)
      have bbf := bb4.trans_pure d4 (Nat.le_refl _)
      clear q4
      go_wp2
      go_ret
      exact ⟨rfl, bbf⟩
end Go.Proofs.Ytliejhmlcdjpcaa

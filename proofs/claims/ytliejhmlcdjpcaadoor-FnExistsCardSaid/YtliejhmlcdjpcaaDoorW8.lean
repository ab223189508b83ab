/- Contracts: MakeSums. -/
import Derived.Test.YtliejhmlcdjpcaaDoorW7
import Derived.Test.YtliejhmlcdjpcaaDoorDraw2
namespace Go.Proofs.YtliejhmlcdjpcaaDoor
open Go.RowKit

theorem sumsOk_mk {xs ys : List Int} (x1 : 1 ≤ xs.length) (x5 : xs.length ≤ 5) (y1 : 1 ≤ ys.length) (y5 : ys.length ≤ 5) (hx : ∀ x ∈ xs, 0 ≤ x ∧ x ≤ ys.length) (hy : ∀ y ∈ ys, 0 ≤ y ∧ y ≤ xs.length) (hs : sumL xs = sumL ys) : sumsOk xs ys = true := by
  unfold sumsOk
  simp only [Bool.and_eq_true, decide_eq_true_eq, List.all_eq_true]
  exact ⟨⟨⟨⟨inR_t (by omega) (by omega), inR_t (by omega) (by omega)⟩, fun x hx' => inR_t (hx x hx').1 (hx x hx').2⟩, fun y hy' => inR_t (hy y hy').1 (hy y hy').2⟩, hs⟩
theorem set_mem {l : List Int} {i : Nat} {v z : Int} (h : z ∈ l.set i v) : z = v ∨ z ∈ l := by
  rcases List.mem_or_eq_of_mem_set h with h | h
  · exact .inr h
  · exact .inl h
/-- the columns' sums so far -/
structure ColsOk (xs : List Int) (c : Nat) (ys : List Int) : Prop where
  len : ys.length = c
  bd : ∀ y ∈ ys, 0 ≤ y ∧ y ≤ xs.length
  sum : sumL xs = sumL ys
theorem ColsOk.at {xs : List Int} {c : Nat} {ys : List Int} (h : ColsOk xs c ys) {i : Nat} (hi : i < c) : ∃ y, ys[i]? = some y ∧ 0 ≤ y ∧ y ≤ xs.length := by
  have e := List.getElem?_eq_getElem (l := ys) (i := i) (by rw [h.len]; exact hi)
  exact ⟨_, e, h.bd _ (List.mem_of_getElem? e)⟩
/-- one moved from i to j -/
theorem ColsOk.move {xs : List Int} {c : Nat} {ys : List Int} (h : ColsOk xs c ys) {i j : Nat} {y z : Int} (hi : ys[i]? = some y) (hy : 0 < y) (hj : (ys.set i (y - 1))[j]? = some z) (hz : z < xs.length) : ColsOk xs c ((ys.set i (y - 1)).set j (z + 1)) := by
  have hyb := h.bd y (List.mem_of_getElem? hi)
  have hzb : 0 ≤ z := by
    rcases set_mem (List.mem_of_getElem? hj) with e | e
    · omega
    · exact (h.bd z e).1
  refine ⟨by rw [List.length_set, List.length_set]; exact h.len, fun u hu => ?_, ?_⟩
  · rcases set_mem hu with e | e
    · omega
    · rcases set_mem e with e | e
      · omega
      · exact h.bd u e
  · rw [eSum_set hj, eSum_set hi, h.sum]; omega
set_option maxRecDepth 100000 in
set_option maxHeartbeats 2000000 in
theorem MakeSums_c (v : Value) (bs : List Int) (w : World) (hv : Bytes w v bs) : Calls Tryd.prog 21 #[v] w fun e w' => ∃ (va vb : Value) (xs ys : List Int), e = .returned (.tuple #[va, vb]) ∧ sumsOk xs ys = true ∧ xs.length ≤ 4 ∧ ys.length ≤ 4 ∧ Ints w' va xs ∧ Ints w' vb ys ∧ Below w.heap.size w w' := by
  go_enter Tryd.func21, Tryd.ntmps21
  go_wp2_with (fail)
  refine (l01New_c v bs _ hv).mono ?_
  rintro e w1 ⟨g, rfl, rfl, hcur, hbel, hsz⟩
  have Hsz := Lib.hid hsz
  clear hsz
  go_wp2_with (fail)
  refine (l02Draw_c w.heap.size w.heap.size 4 _ hcur (by decide) (by decide)).mono ?_
  rintro e w2 ⟨v2, m, r, c, rfl, ⟨hr1, hr4⟩, ⟨hc1, hc4⟩, hsh, hown2, hcur2, ho2⟩
  have hr4' : r ≤ 4 := by omega
  have hc4' : c ≤ 4 := by omega
  have Hm := Lib.hid hown2.grid
  have hz2 : w.heap.size < w2.heap.size := by have := ho2.size; have := Hsz.out; omega
  have bb2 : Below w.heap.size w w2 := hbel.trans (ho2.below (by have := Hsz.out; omega) fun b hb => by have hb : b = w.heap.size := hb; omega)
  have Hcur2 := Lib.hid hcur2
  have hS := sums_of_image hsh hr1 (by omega) hc1 (by omega)
  have hrl := (rowSumsOf_wf hsh hr1 (by omega) hc1 (by omega)).1
  have hcl := (colSumsOf_wf hsh hr1 (by omega) hc1 (by omega)).1
  have hok : sumsOk (rowSumsOf m) (colSumsOf m) = true := sumsOk_of (by omega) (by omega) (by omega) (by omega) (by rw [hrl, hcl]; exact hS)
  clear hown2 ho2 hbel hcur hcur2 hr4 hc4
  go_wp2_with (fail)
  refine (RowSums_s _ _ _ Hm.out).mono ?_
  rintro e w3 ⟨v3, rfl, o3, b3⟩
  obtain ⟨g3, c3, rfl, -, -, hg3, -⟩ := o3.inv_ne (by omega)
  have H3 := Lib.hid o3
  clear o3
  go_wp2_with (fail)
  refine (ColSums_s _ _ _ (Hm.out.keep b3)).mono ?_
  rintro e w4 ⟨v4, rfl, o4, b4⟩
  obtain ⟨g4, c4, rfl, hg4, hcc4, hg4s, -⟩ := o4.inv_ne (by omega)
  rw [hcl] at o4 hcc4 ⊢
  rw [hrl] at H3
  obtain ⟨xs, hxs⟩ : ∃ xs, xs = rowSumsOf m := ⟨_, rfl⟩
  obtain ⟨ys, hys⟩ : ∃ ys, ys = colSumsOf m := ⟨_, rfl⟩
  rw [← hxs] at H3 hok hrl
  rw [← hys] at o4 hok hcl
  have hco : ColsOk xs c ys := by
    obtain ⟨-, -, -, -, -, -, h7⟩ := sumsOk_bd hok
    have h8 := (sumsOk_all hok).2
    exact ⟨hcl, fun y hy => by have := List.all_eq_true.1 h8 y hy; rwa [inR_iff] at this, h7⟩
  have Hxr := Lib.hid (show ∀ x ∈ xs, 0 ≤ x ∧ x ≤ c from fun x hx => by
    have := List.all_eq_true.1 (sumsOk_all hok).1 x hx
    rw [inR_iff, hcl] at this; exact this)
  have Hco := Lib.hid hco
  have Ho4 := Lib.hid o4
  have Hrl := Lib.hid hrl
  have b24 := b3.trans_pure b4 (Nat.le_refl _)
  have Hcur4 := Lib.hid (Hcur2.out.keep b24)
  have bb4 := bb2.trans_pure b24 (Nat.le_refl _)
  have hs3 := b3.size
  have hs4 := b4.size
  have H34 := Lib.hid ((rOwn rIntV).same (sameOn_below b4 fun b hb => hb.2) H3.out)
  clear o4 hco hok hS hrl hcl hxs hys
  go_wp2_with (fail)
  refine (l01Below_c w.heap.size w.heap.size 5 _ Hcur4.out (by decide) (by decide)).mono ?_
  rintro e w5 ⟨k, ⟨hk0, hk1⟩, rfl, hcur5, ho5, hz5⟩
  obtain ⟨n, rfl⟩ : ∃ n : Nat, k = (n : Int) := ⟨k.toNat, by omega⟩
  have hn4 : n ≤ 4 := by omega
  have hws : w.heap.size < w2.heap.size := hz2
  have bel5 := bb4.trans (Only.below ho5 (by omega) fun b hb => by have hb : b = w.heap.size := hb; omega)
  have Hb5 := Lib.hid bel5
  have Hcur5 := Lib.hid hcur5
  have Hz5 := Lib.hid hz5
  have Hy5 := Lib.hid (Ho4.out.only rIntV ho5 (fun b hb => hb.2) (fun b hb => by have := hb.1; show ¬ b = w.heap.size; omega))
  have Hx5 := Lib.hid (H34.out.only rIntV ho5 (fun b hb => by have := hb.2; omega) (fun b hb => by have := hb.1; show ¬ b = w.heap.size; omega))
  have hg4w : g4 ≠ w.heap.size := by have := hg4.1; omega
  have hg4l : g4 < w4.heap.size := hg4.2
  have hg4u : w3.heap.size ≤ g4 := hg4.1
  clear hcur5 ho5 hz5 bel5 Ho4 H34 hk0 hk1 Hcur4 Hcur2 H3 Hm
  go_wp2
  go_loopw [8, 9, 10] (fun nv _ _ wr => ∃ (k : Nat) (ys : List Int), k ≤ 4 ∧ nv = .int .i64 k ∧ Hid (ColsOk xs c ys) ∧ Hid (Own 3 IntV (Iv w3.heap.size w4.heap.size) wr (.slice (some ⟨g4, 0, none⟩) c c4) ys) ∧ Hid (Cur w.heap.size wr w.heap.size) ∧ Hid (Own 3 IntV (Iv w2.heap.size w3.heap.size) wr (.slice (some ⟨g3, 0, none⟩) r c3) xs) ∧ Hid (Below w.heap.size w wr) ∧ Hid (w4.heap.size = wr.heap.size)) (fun nv _ _ _ => (intOf nv).toNat)
  case atStart => exact ⟨n, ys, hn4, rfl, Hco.out, Hy5.out, Hcur5.out, Hx5.out, Hb5.out, Hz5.out⟩
  case round =>
    clear Hco Hy5 Hcur5 Hx5 Hb5 Hz5 hn4
    obtain ⟨k, ys, hk, rfl, Hco, Hy, Hcu, Hx, Hb, Hz⟩ := hrel
    obtain ⟨wo, rfl⟩ : ∃ wo : World, wo = wr := ⟨_, rfl⟩
    by_cases hlt : 0 < k
    · go_wp2_with (fail)
      refine (l01Below_c w.heap.size w.heap.size c _ Hcu.out (by omega) (by omega)).mono ?_
      rintro e w6 ⟨i', ⟨hi0, hi1⟩, rfl, hcur6, ho6, hz6⟩
      obtain ⟨i, rfl⟩ : ∃ i : Nat, i' = (i : Int) := ⟨i'.toNat, by omega⟩
      have Hcur6 := Lib.hid hcur6
      have Ho6 := Lib.hid ho6
      have Hz6 := Lib.hid hz6
      clear hcur6 ho6 hz6
      go_wp2_with (fail)
      refine (l01Below_c w.heap.size w.heap.size c _ Hcur6.out (by omega) (by omega)).mono ?_
      rintro e w7 ⟨j', ⟨hj0, hj1⟩, rfl, hcur7, ho7, hz7⟩
      obtain ⟨j, rfl⟩ : ∃ j : Nat, j' = (j : Int) := ⟨j'.toNat, by omega⟩
      have hic : i < c := by omega
      have hjc : j < c := by omega
      have hoo : Only (fun b => b = w.heap.size) wo w7 := (Ho6.out.trans ho7).mono fun b hb _ => hb.elim id id
      have hz7' : w4.heap.size = w7.heap.size := by rw [Hz.out, Hz6.out, hz7]
      have Hz7 := Lib.hid hz7'
      have Hcur7 := Lib.hid hcur7
      have Hb7 := Lib.hid (Hb.out.trans (Only.below hoo (by have := Hz.out; omega) fun b hb => by have hb : b = w.heap.size := hb; omega))
      have hy7 := Hy.out.only rIntV hoo (fun b hb => by have := hb.2; have := Hz.out; omega) (fun b hb => by have := hb.1; show ¬ b = w.heap.size; omega)
      have Hx7 := Lib.hid (Hx.out.only rIntV hoo (fun b hb => by have := hb.2; have := Hz.out; omega) (fun b hb => by have := hb.1; show ¬ b = w.heap.size; omega))
      obtain ⟨y, hy, hy0, hyr⟩ := Hco.out.at hic
      obtain ⟨u, hu, hu0, hur⟩ := Hco.out.at hjc
      obtain ⟨hcy, hfy, -⟩ := hy7.ints_cell hy
      obtain ⟨hcu, hfu, -⟩ := hy7.ints_cell hu
      have hxl := Hrl.out
      have Hy7 := Lib.hid hy7
      have HY := Lib.hid hy
      clear hoo hcur7 ho7 hz7 hz7' hy7 Ho6 Hz6 Hcur6 Hcu Hy Hx hj0 hj1 hi0 hi1
      by_cases hyp : 0 < y
      · have hdy : decide (y > 0) = true := decide_eq_true hyp
        by_cases hul : u < (r : Int)
        · have hdu : decide (u < (r : Int)) = true := decide_eq_true hul
          have hyl : i < ys.length := by rw [Hco.out.len]; exact hic
          have hset := Hy7.out.setInt (k := i) (c := y - 1) hyl (I64.small (by omega) (by omega))
          obtain ⟨z, hz, hzr⟩ : ∃ z, (ys.set i (y - 1))[j]? = some z ∧ 0 ≤ z ∧ z < r := by
            by_cases e : i = j
            · subst e
              exact ⟨y - 1, List.getElem?_set_self hyl, by omega, by omega⟩
            · exact ⟨u, by rw [List.getElem?_set_ne e]; exact hu, by omega, hul⟩
          obtain ⟨hz0, hzr⟩ := hzr
          obtain ⟨hcz, hfz, -⟩ := hset.ints_cell hz
          have hset2 := hset.setInt (k := j) (c := z + 1) (by rw [List.length_set, Hco.out.len]; exact hjc) (I64.small (by omega) (by omega))
          have Hco2 := Lib.hid (Hco.out.move HY.out hyp hz (by rw [hxl]; exact hzr))
          have honly := ((Only.refl (fun b => b = g4) w7).setCell (p := ⟨g4, i, none⟩) (.inl rfl) (.int .i64 (y - 1))).setCell (p := ⟨g4, j, none⟩) (.inl rfl) (.int .i64 (z + 1))
          have Hcur8 := Lib.hid (Hcur7.out.only honly (fun e => hg4w e.symm) (fun b hb => by have hb : b = g4 := hb; omega))
          have Hx8 := Lib.hid (Hx7.out.only rIntV honly (fun b hb => by have := hb.2; have := Hz7.out; omega) (fun b hb => by have := hb.2; show ¬ b = g4; omega))
          have Hb8 := Lib.hid (Hb7.out.trans (Only.below honly (by have := Hz7.out; omega) fun b hb => by have hb : b = g4 := hb; omega))
          have Hset2 := Lib.hid hset2
          clear hset hset2 hz hu honly hy Hy7 Hx7 Hb7 Hcur7 Hco
          go_wp2
          go_roundw
          case rel => exact ⟨k - 1, _, by omega, by go_num, Hco2, Hset2, Hcur8, Hx8, Hb8, Lib.hid (by rw [size_setCell, size_setCell]; exact Hz7.out)⟩
          case measure => simp [intOf]; omega
        · have hdu : decide (u < (r : Int)) = false := decide_eq_false hul
          clear hy hu
          go_wp2
          go_roundw
          case rel => exact ⟨k - 1, ys, by omega, by go_num, Hco, Hy7, Hcur7, Hx7, Hb7, Hz7⟩
          case measure => simp [intOf]; omega
      · have hdy : decide (y > 0) = false := decide_eq_false hyp
        clear hy hu
        go_wp2
        go_roundw
        case rel => exact ⟨k - 1, ys, by omega, by go_num, Hco, Hy7, Hcur7, Hx7, Hb7, Hz7⟩
        case measure => simp [intOf]; omega
    · obtain rfl : k = 0 := by omega
      have hok := Lib.hid (sumsOk_mk (xs := xs) (ys := ys) (by rw [Hrl.out]; exact hr1) (by rw [Hrl.out]; omega) (by rw [Hco.out.len]; exact hc1) (by rw [Hco.out.len]; omega) (by rw [Hco.out.len]; exact Hxr.out) Hco.out.bd Hco.out.sum)
      go_wp2
      refine bodyPost_ret (v := .tuple #[.slice (some ⟨g3, 0, none⟩) r c3, .slice (some ⟨g4, 0, none⟩) c c4]) (by simp [results, Tryd.results21, go_sem]) rfl ?_
      exact ⟨_, _, xs, ys, rfl, hok.out, by rw [Hrl.out]; exact hr4', by rw [Hco.out.len]; exact hc4', Hx.out.ints, Hy.out.ints, Hb.out⟩
end Go.Proofs.YtliejhmlcdjpcaaDoor

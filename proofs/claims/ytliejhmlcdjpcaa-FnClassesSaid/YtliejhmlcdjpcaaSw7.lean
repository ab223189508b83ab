/- Contracts: SameSums, CountImages, before. -/
import Derived.Test.YtliejhmlcdjpcaaE3
import Derived.Test.YtliejhmlcdjpcaaC22
import Derived.Test.YtliejhmlcdjpcaaC6
import Derived.Test.YtliejhmlcdjpcaaSw1
import Derived.BigQuiet
namespace Go.Proofs.Ytliejhmlcdjpcaa
open Go.RowKit

theorem CountImages_i (v v2 : Value) (xs ys : List Int) (w : World) (hv : Ints w v xs) (hv2 : Ints w v2 ys) (hok : sumsOk xs ys = true) : Calls Try.prog 27 #[v, v2] w fun e w' => e = .returned (.int .i64 (allImgs xs ys).length) ∧ Below w.heap.size w w' := by
  have Hv := Lib.hid hv
  have Hv2 := Lib.hid hv2
  have Hok := Lib.hid hok
  obtain ⟨a, cap, rfl, -⟩ := hv
  obtain ⟨a2, cap2, rfl, -⟩ := hv2
  clear hok
  go_enter Try.func27, Try.ntmps27
  go_wp2_with (fail)
  refine (AllImages_i _ _ _ _ _ Hv.out Hv2.out).mono ?_
  rintro e w1 ⟨v1, rfl, o1, b1⟩
  rw [Hok.out]
  rw [show imgsOf xs ys = allImgs xs ys from by unfold imgsOf; rw [Hok.out]; rfl] at o1
  obtain ⟨p1, p2, p3, rfl⟩ := o1.shape
  have hl := o1.grids.len
  subst hl
  clear o1
  go_wp2
  go_ret
  exact ⟨rfl, b1⟩

set_option maxHeartbeats 1000000 in
theorem sameSize_t (v v2 : Value) (m g : List (List Int)) (r c : Nat) (w : World) (hv : Grid w v m) (hv2 : Grid w v2 g) (hs : Shape r c m) (hs2 : Shape r c g) (hr1 : 1 ≤ r) (hr5 : r ≤ 5) (hc1 : 1 ≤ c) (hc5 : c ≤ 5) : Calls Try.prog 54 #[v, v2] w fun e w' => e = .returned (.bool true) ∧ Below w.heap.size w w' := by
  have hrow := fun {q : List (List Int)} (h : Shape r c q) => h.row (y := 0) (by omega)
  obtain ⟨r1, hr1', hl1, -⟩ := hrow hs
  obtain ⟨r2, hr2', hl2, -⟩ := hrow hs2
  obtain ⟨b, off, cp, rfl, hb, -⟩ := hv.inv_ne (by have := hs.1; omega)
  obtain ⟨b2, off2, cp2, rfl, hb2, -⟩ := hv2.inv_ne (by have := hs2.1; omega)
  obtain ⟨u, hck, hu⟩ := Sl.at hv hr1'
  obtain ⟨u2, hck2, hu2⟩ := Sl.at hv2 hr2'
  obtain ⟨a1, k1, rfl, -⟩ := hu
  obtain ⟨a2, k2, rfl, -⟩ := hu2
  rw [Nat.add_zero, hl1] at hck
  rw [Nat.add_zero, hl2] at hck2
  have hml := hs.1
  have hgl := hs2.1
  rw [hml] at hv ⊢
  rw [hgl] at hv2 ⊢
  have Hq1 := Lib.hid (show ∀ n, Calls Try.prog 31 #[.slice (some ⟨b, off, none⟩) r cp] (w.drewN n) fun e w' => e = .returned (.bool true) ∧ w' = w.drewN n from fun n => (ImageOk_i _ m (w.drewN n) (Grid.keep hv (below_drewN (Below.refl _ _) n))).mono fun e w' ⟨he, hw⟩ => ⟨by rw [he, hs.ok hr1 hr5 hc1 hc5], hw.symm⟩)
  have Hq2 := Lib.hid (show ∀ n, Calls Try.prog 31 #[.slice (some ⟨b2, off2, none⟩) r cp2] (w.drewN n) fun e w' => e = .returned (.bool true) ∧ w' = w.drewN n from fun n => (ImageOk_i _ g (w.drewN n) (Grid.keep hv2 (below_drewN (Below.refl _ _) n))).mono fun e w' ⟨he, hw⟩ => ⟨by rw [he, hs2.ok hr1 hr5 hc1 hc5], hw.symm⟩)
  clear hrow hr1' hr2' hl1 hl2 hml hgl hv hv2
  go_enter Try.func54, Try.ntmps54
  go_wp2
  go_quiet ((first | (go_at_call 31; with_reducible exact Calls.quiet_of_same (Hq1.out _)) | (go_at_call 31; with_reducible exact Calls.quiet_of_same (Hq2.out _))))
  go_wp2
  go_ret
  exact ⟨rfl, below_drewN (Below.refl _ _) _⟩
theorem SameSums_t (v v2 : Value) (m g : List (List Int)) (r c : Nat) (w : World) (hv : Grid w v m) (hv2 : Grid w v2 g) (hs : Shape r c m) (hs2 : Shape r c g) (hr1 : 1 ≤ r) (hr5 : r ≤ 5) (hc1 : 1 ≤ c) (hc5 : c ≤ 5) (e1 : rowSumsOf m = rowSumsOf g) (e2 : colSumsOf m = colSumsOf g) : Calls Try.prog 24 #[v, v2] w fun e w' => e = .returned (.bool true) ∧ Below w.heap.size w w' := by
  have Hv := Lib.hid hv
  have Hv2 := Lib.hid hv2
  obtain ⟨a, cap, rfl, -⟩ := hv
  obtain ⟨a2, cap2, rfl, -⟩ := hv2
  have E1 := Lib.hid e1
  have E2 := Lib.hid e2
  clear e1 e2
  go_enter Try.func24, Try.ntmps24
  go_wp2_with (fail)
  refine (sameSize_t _ _ m g r c _ Hv.out Hv2.out hs hs2 hr1 hr5 hc1 hc5).mono ?_
  rintro e w1 ⟨rfl, b1⟩
  go_wp2_with (fail)
  refine (RowSums_i _ _ _ (Hv.out.keep b1)).mono ?_
  rintro e w2 ⟨v3, rfl, o3, b2⟩
  have bb2 := b1.trans_pure b2 (Nat.le_refl _)
  have Ho3 := Lib.hid o3.ints; clear o3
  go_wp2_with (fail)
  refine (RowSums_i _ _ _ (Hv2.out.keep bb2)).mono ?_
  rintro e w3 ⟨v4, rfl, o4, b3⟩
  have bb3 := bb2.trans_pure b3 (Nat.le_refl _)
  have Ho4 := Lib.hid o4.ints; clear o4
  go_wp2_with (fail)
  refine (Equal_q _ _ _ _ _ (Ho3.out.keep b3) Ho4.out).mono ?_
  rintro e w4 ⟨rfl, n4, hw4⟩
  have b4 : Below w3.heap.size w3 w4 := by rw [hw4]; exact below_drewN (Below.refl _ _) n4
  clear hw4
  rw [decide_eq_true E1.out]
  have bb4 := bb3.trans_pure b4 (Nat.le_refl _)
  go_wp2_with (fail)
  refine (ColSums_i _ _ _ (Hv.out.keep bb4)).mono ?_
  rintro e w5 ⟨v5, rfl, o5, b5⟩
  have bb5 := bb4.trans_pure b5 (Nat.le_refl _)
  have Ho5 := Lib.hid o5.ints; clear o5
  go_wp2_with (fail)
  refine (ColSums_i _ _ _ (Hv2.out.keep bb5)).mono ?_
  rintro e w6 ⟨v6, rfl, o6, b6⟩
  have bb6 := bb5.trans_pure b6 (Nat.le_refl _)
  have Ho6 := Lib.hid o6.ints; clear o6
  go_wp2_with (fail)
  refine (Equal_q _ _ _ _ _ (Ho5.out.keep b6) Ho6.out).mono ?_
  rintro e w7 ⟨rfl, n7, hw7⟩
  have b7 : Below w6.heap.size w6 w7 := by rw [hw7]; exact below_drewN (Below.refl _ _) n7
  clear hw7
  rw [decide_eq_true E2.out]
  have bb7 := bb6.trans_pure b7 (Nat.le_refl _)
  go_wp2
  go_ret
  exact ⟨rfl, bb7⟩

theorem lessL_of : ∀ {a b : List Int} {x : Nat} {p q : Int}, (∀ i, i < x → a[i]? = b[i]?) → a[x]? = some p → b[x]? = some q → p < q → lessL a b = true
  | [], _, _, _, _, _, ha, _, _ => by simp at ha
  | _ :: _, [], _, _, _, _, _, hb, _ => by simp at hb
  | u :: al, z :: bl, 0, p, q, _, ha, hb, h => by
    simp at ha hb
    subst ha; subst hb
    have hne : u ≠ z := by omega
    simp [lessL, hne, h]
  | u :: al, z :: bl, x + 1, p, q, hx, ha, hb, h => by
    have h0 := hx 0 (by omega)
    simp at h0
    subst h0
    have := lessL_of (a := al) (b := bl) (x := x) (p := p) (q := q) (fun i hi => by simpa using hx (i + 1) (by omega)) (by simpa using ha) (by simpa using hb) h
    simpa [lessL] using this

set_option maxHeartbeats 1000000 in
theorem before_t (v v2 : Value) (m g : List (List Int)) (r c : Nat) (w : World) (hv : Grid w v m) (hv2 : Grid w v2 g) (hs : Shape r c m) (hs2 : Shape r c g) (hr1 : 1 ≤ r) (hr5 : r ≤ 5) (hlt : GLt r c m g) : Calls Try.prog 25 #[v, v2] w fun e w' => e = .returned (.bool true) ∧ Below w.heap.size w w' := by
  obtain ⟨y, x, hy, hx, hag, hxy⟩ := hlt
  have hml := hs.1
  have hgl := hs2.1
  obtain ⟨b, off, cp, rfl, hb, -⟩ := hv.inv_ne (by omega)
  obtain ⟨b2, off2, cp2, rfl, hb2, -⟩ := hv2.inv_ne (by omega)
  rw [hml] at hv ⊢
  rw [hgl] at hv2 ⊢
  have Hv := Lib.hid hv
  have Hv2 := Lib.hid hv2
  have Hag := Lib.hid hag
  have Hxy := Lib.hid hxy
  clear hml hgl hv hv2 hag hxy
  go_enter Try.func25, Try.ntmps25
  go_wp2
  go_loopw [5, 6, 9] (fun _ _ i wr => ∃ k : Nat, k ≤ y ∧ i = .int .i64 k ∧ Hid (Below w.heap.size w wr)) (fun _ _ i _ => r - (intOf i).toNat)
  case atStart => exact ⟨0, Nat.zero_le _, rfl, Below.refl _ _⟩
  case round =>
    obtain ⟨k, hk, rfl, Hb⟩ := hrel
    have hkr : k < r := by omega
    obtain ⟨ra, hra, hral, -⟩ := hs.row hkr
    obtain ⟨rb, hrb, hrbl, -⟩ := hs2.row hkr
    have Hv' := Hv.out.keep Hb.out
    have Hv2' := Hv2.out.keep Hb.out
    obtain ⟨u, hck, hu⟩ := Sl.at Hv' hra
    obtain ⟨u2, hck2, hu2⟩ := Sl.at Hv2' hrb
    have Hu := Lib.hid (show Ints wr u ra from hu)
    have Hu2 := Lib.hid (show Ints wr u2 rb from hu2)
    obtain ⟨a1, k1, rfl, -⟩ := hu
    obtain ⟨a2, k2, rfl, -⟩ := hu2
    have hd : decide ((k : Int) < (r : Int)) = true := by simp; omega
    have hat : ∀ j, j < c → ra[j]? = some (at2 m k j) ∧ rb[j]? = some (at2 g k j) := fun j hj => by
      refine ⟨?_, ?_⟩
      · unfold at2
        rw [List.getD_eq_getElem?_getD (l := m), hra]
        exact gD_at 0 (by show j < ra.length; omega)
      · unfold at2
        rw [List.getD_eq_getElem?_getD (l := g), hrb]
        exact gD_at 0 (by show j < rb.length; omega)
    have Hat := Lib.hid hat
    rw [hral] at hck
    rw [hrbl] at hck2
    clear hra hrb hat Hv' Hv2'
    have Hral := Lib.hid hral
    have Hrbl := Lib.hid hrbl
    clear hral hrbl
    by_cases hky : k < y
    · have he : ra = rb := List.ext_getElem? fun j => by
        by_cases hj : j < c
        · rw [(Hat.out j hj).1, (Hat.out j hj).2, Hag.out k j (.inl hky)]
        · rw [List.getElem?_eq_none (by have := Hral.out; omega), List.getElem?_eq_none (by have := Hrbl.out; omega)]
      have He := Lib.hid he
      clear he
      rw [Hral.out] at Hu
      rw [Hrbl.out] at Hu2
      go_wp2_with (fail)
      refine (same_q _ _ _ _ _ Hu.out Hu2.out).mono ?_
      rintro e w4 ⟨rfl, n4, hw4⟩
      have b4 : Below wr.heap.size wr w4 := by rw [hw4]; exact below_drewN (Below.refl _ _) n4
      clear hw4
      rw [decide_eq_true He.out]
      have Hb4 := Lib.hid (Hb.out.trans_pure b4 (Nat.le_refl _))
      go_wp2
      go_roundw
      case rel => exact ⟨k + 1, by omega, by go_num, Hb4⟩
      case measure => simp [intOf]; omega
    · obtain rfl : k = y := by omega
      have Hne := Lib.hid (show ra ≠ rb from fun e => by
        have h1 := (Hat.out x hx).1
        rw [e, (Hat.out x hx).2] at h1
        have := Option.some.inj h1
        have := Hxy.out
        omega)
      have Hls := Lib.hid (show lessL ra rb = true from lessL_of (x := x) (fun j hj => by rw [(Hat.out j (by omega)).1, (Hat.out j (by omega)).2, Hag.out k j (.inr ⟨rfl, hj⟩)]) (Hat.out x hx).1 (Hat.out x hx).2 Hxy.out)
      rw [Hral.out] at Hu
      rw [Hrbl.out] at Hu2
      go_wp2_with (fail)
      refine (same_q _ _ _ _ _ Hu.out Hu2.out).mono ?_
      rintro e w4 ⟨rfl, n4, hw4⟩
      have b4 : Below wr.heap.size wr w4 := by rw [hw4]; exact below_drewN (Below.refl _ _) n4
      clear hw4
      rw [decide_eq_false Hne.out]
      have Hb4 := Lib.hid (Hb.out.trans_pure b4 (Nat.le_refl _))
      have hb5 : b2 < wr.heap.size := Nat.lt_of_lt_of_le hb2 Hb.out.size
      have hck3 := (b4.cell (p := ⟨b2, off2 + k, none⟩) hb5).trans hck2
      go_wp2_with (fail)
      refine (less_c _ _ ra rb _ (Hu.out.keep b4) (Hu2.out.keep b4)).mono ?_
      rintro e w' ⟨rfl, rfl⟩
      rw [Hls.out]
      go_wp2
      go_ret
      exact ⟨rfl, Hb4.out⟩
end Go.Proofs.Ytliejhmlcdjpcaa

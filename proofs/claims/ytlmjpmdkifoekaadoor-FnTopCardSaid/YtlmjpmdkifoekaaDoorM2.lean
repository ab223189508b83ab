/- Contracts: the images that meet a mask, conflicts of rectangles, the rectangle that proves that there is none. -/
import Derived.Test.YtlmjpmdkifoekaaDoorM1
import Derived.Test.YtlmjpmdkifoekaaDoorD6
import Derived.Test.YtlmjpmdkifoekaaDoorC27
import Derived.Test.YtlmjpmdkifoekaaDoorRv4
namespace Go.Proofs.YtlmjpmdkifoekaaDoor
open Go.RowKit

theorem maskOk_parts {g : List (List Int)} {xs ys : List Int} (h : maskOk g xs ys = true) : sumsOk xs ys = true ∧ TRect xs.length ys.length g := by
  unfold maskOk at h
  rw [Bool.and_eq_true] at h
  exact ⟨h.1, sizeB_rect.1 h.2⟩
theorem imgs_shape {xs ys : List Int} (hok : sumsOk xs ys = true) : ∀ m ∈ imgsOf xs ys, Shape xs.length ys.length m := fun m hm => by
  rw [imgsOf_okM hok, allImgs_mem hok] at hm
  exact hm.1
theorem filter_take {α : Type} (f : α → Bool) {L : List α} {k : Nat} {x : α} (h : L[k]? = some x) : (L.take (k + 1)).filter f = (L.take k).filter f ++ if f x then [x] else [] := by
  rw [List.take_add_one, h, List.filter_append]
  simp only [Option.toList_some, List.filter_cons, List.filter_nil]
theorem filter_first {α : Type} (f : α → Bool) {L : List α} {k : Nat} {x : α} (h : L[k]? = some x) (h0 : (L.take k).filter f = []) (hf : f x = true) : ∃ l, L.filter f = x :: l := by
  have e : L.filter f = (L.take k).filter f ++ (L.drop k).filter f := by rw [← List.filter_append, List.take_append_drop]
  obtain ⟨hk, rfl⟩ := List.getElem?_eq_some_iff.1 h
  rw [e, h0, List.nil_append, List.drop_eq_getElem_cons hk, List.filter_cons, if_pos hf]
  exact ⟨_, rfl⟩
theorem infoGridM : (Tryd.prog.info? 23).map (fun i => (i.zero, i.size, i.bytes)) = some (some (.slice none 0 0), 1, 24) := by kernel_rfl
set_option maxHeartbeats 1600000 in
theorem masked_c (v vx vy : Value) (g : List (List Int)) (xs ys : List Int) (w : World) (hv : Grid w v g) (hx : Ints w vx xs) (hy : Ints w vy ys) (hok : maskOk g xs ys = true) : Calls Tryd.prog 51 #[v, vx, vy] w fun e w' => ∃ v', e = .returned v' ∧ Grids w' v' (maskedOf g xs ys) ∧ Below w.heap.size w w' := by
  obtain ⟨hs, hr⟩ := maskOk_parts hok
  obtain ⟨x1, x5, y1, y5⟩ := sumsOk_sz hs
  have Hsh := Lib.hid (imgs_shape hs)
  have hbig := imgsOf_len xs ys
  obtain ⟨L, hL⟩ : ∃ L, L = imgsOf xs ys := ⟨_, rfl⟩
  have Hfin := Lib.hid (show L.filter (fun m => meetsB xs.length ys.length m g) = maskedOf g xs ys from by rw [hL]; rfl)
  rw [← hL] at Hsh hbig
  have HL := Lib.hid hL
  have Hv := Lib.hid hv
  have Hx := Lib.hid hx
  have Hy := Lib.hid hy
  have Hr := Lib.hid hr
  obtain ⟨a, cap, rfl, -⟩ := hv
  obtain ⟨ax, cx, rfl, -⟩ := hx
  obtain ⟨ay, cy, rfl, -⟩ := hy
  clear hs hr hok hL
  go_enter Tryd.func51, Tryd.ntmps51
  go_wp2_with (fail)
  refine (AllImages_i _ _ _ _ _ Hx.out Hy.out).mono ?_
  rintro e w1 ⟨v1, rfl, o1, b1⟩
  rw [← HL.out] at o1
  obtain ⟨p1, p2, p3, rfl⟩ := o1.shape
  have hp2 := Sl.len o1.grids
  subst hp2
  have Hg := Lib.hid o1.grids
  have Hv1 := Lib.hid (Hv.out.keep b1)
  obtain ⟨N, hN⟩ : ∃ N, N = L.length := ⟨_, rfl⟩
  rw [← hN] at Hg hbig ⊢
  have HN := Lib.hid hN
  clear o1 hN
  go_wp2
  go_loopw [9, 11, 20] (fun out _ i wr => ∃ (k : Nat) (us : List Value), k ≤ N ∧ i = .int .i64 k ∧ Hid (Own 23 AnyV (Iv w1.heap.size wr.heap.size) wr out us) ∧ Hid (Heads (Sl (Sl IntV)) w1 us ((L.take k).filter fun m => meetsB xs.length ys.length m g)) ∧ Hid (Below w1.heap.size w1 wr)) (fun _ _ i _ => N - (intOf i).toNat)
  case atStart => exact ⟨0, [], Nat.zero_le _, rfl, Own.nil _ _ _ _, Heads.nil _ _, Below.refl _ _⟩
  case round =>
    obtain ⟨k, us, hk, rfl, Ho, Hh, Hb⟩ := hrel
    by_cases hlt : k < N
    · obtain ⟨x, hx⟩ : ∃ x, L[k]? = some x := ⟨_, List.getElem?_eq_getElem (by rw [← HN.out]; exact hlt)⟩
      have hxs := Hsh.out x (List.mem_of_getElem? hx)
      obtain ⟨gl, go, gc, he, hgl, -⟩ := Hg.out.inv_ne (by rw [← HN.out]; omega)
      obtain ⟨rfl, -⟩ : p1 = some ⟨gl, go, none⟩ ∧ p3 = gc := by
        simp only [Value.slice.injEq] at he
        exact ⟨he.1, he.2.2⟩
      obtain ⟨u, hck, hu⟩ := Sl.at Hg.out hx
      have Hu := Lib.hid (show Grid w1 u x from hu)
      obtain ⟨ua, uc, rfl, -⟩ := hu
      have hck' := (Hb.out.cell (p := ⟨gl, go + k, none⟩) hgl).trans hck
      have Htk := Lib.hid (filter_take (fun m => meetsB xs.length ys.length m g) hx)
      have hlen := Hh.out.1
      have hlen2 : ((L.take k).filter fun m => meetsB xs.length ys.length m g).length ≤ k := Nat.le_trans (List.length_filter_le _ _) (by rw [List.length_take]; omega)
      obtain ⟨wo, rfl⟩ : ∃ wo : World, wo = wr := ⟨_, rfl⟩
      clear hx hck he
      go_wp2_with (fail)
      refine (MeetsMask_i _ _ x g xs.length ys.length _ (Hu.out.keep Hb.out) (Hv1.out.keep Hb.out) hxs Hr.out x1 x5 y1 y5).mono ?_
      rintro e w' ⟨rfl, rfl⟩
      obtain ⟨ag, hag⟩ : ∃ ag, ag = meetsB xs.length ys.length x g := ⟨_, rfl⟩
      rw [← hag] at Htk ⊢
      clear hag
      cases ag
      · have Ht2 := Lib.hid (show (L.take (k + 1)).filter (fun m => meetsB xs.length ys.length m g) = (L.take k).filter (fun m => meetsB xs.length ys.length m g) from by rw [Htk.out]; simp)
        go_wp2
        go_roundw
        case rel => exact ⟨k + 1, us, by omega, by go_num, Ho, Lib.hid (by rw [Ht2.out]; exact Hh.out), Hb⟩
        case measure => simp [intOf]; omega
      · have Ht2 := Lib.hid (show (L.take (k + 1)).filter (fun m => meetsB xs.length ys.length m g) = (L.take k).filter (fun m => meetsB xs.length ys.length m g) ++ [x] from by rw [Htk.out]; simp)
        have hus : us.length < 1099511627776 := by omega
        have hw4 := Hb.out.size
        obtain ⟨q1, q2, q3, rfl⟩ := Ho.out.shape
        go_wp2_with (first | (at_builtin; (refine wpList_appR rfl _ _ 45 rfl rAnyV 23 Tryd.underlying45 infoGridM rfl (by decide) w1.heap.size wo.heap.size hw4 (Nat.le_refl _) rfl rfl (by exact Ho.out) (by exact ⟨rfl, rfl⟩) hus ?_); intro v2 w2 hown2 hbel2 _) | fail)
        have Hb3 := Lib.hid (Hb.out.trans hbel2)
        have Hh3 := Lib.hid (Hh.out.snoc (x := x) Hu.out)
        exact ⟨⟨k + 1, _, by omega, by go_num, Lib.hid hown2, Lib.hid (by rw [Ht2.out]; exact Hh3.out), Hb3⟩, by simp [intOf]; omega⟩
    · obtain rfl : k = N := by omega
      rw [List.take_of_length_le (by rw [← HN.out]; exact Nat.le_refl _)] at Hh
      obtain ⟨q1, q2, q3, rfl⟩ := Ho.out.shape
      have Hfin2 := Lib.hid ((Hh.out.keep (rSl (rSl rIntV)) Hb.out).list Ho.out)
      have bbf := b1.trans_pure Hb.out (Nat.le_refl _)
      go_wp2
      go_ret
      exact ⟨_, rfl, by rw [← Hfin.out]; exact Hfin2.out, bbf⟩
set_option maxHeartbeats 1000000 in
theorem MaskedImage_i (v vx vy : Value) (g : List (List Int)) (xs ys : List Int) (w : World) (hv : Grid w v g) (hx : Ints w vx xs) (hy : Ints w vy ys) (hok : maskOk g xs ys = true) : Calls Tryd.prog 9 #[v, vx, vy] w fun e w' => ∃ v', e = .returned (.tuple #[v', .bool (!(maskedOf g xs ys).isEmpty)]) ∧ Grid w' v' ((maskedOf g xs ys).headD []) ∧ Below w.heap.size w w' := by
  have Hv := Lib.hid hv
  have Hx := Lib.hid hx
  have Hy := Lib.hid hy
  have Hok := Lib.hid hok
  obtain ⟨a, cap, rfl, -⟩ := hv
  obtain ⟨ax, cx, rfl, -⟩ := hx
  obtain ⟨ay, cy, rfl, -⟩ := hy
  clear hok
  go_enter Tryd.func9, Tryd.ntmps9
  go_wp2_with (fail)
  refine (MaskOk_i _ _ _ _ _ _ _ Hv.out Hx.out Hy.out).mono ?_
  rintro e w' ⟨rfl, rfl⟩
  rw [Hok.out]
  go_wp2_with (fail)
  refine (masked_c _ _ _ _ _ _ _ Hv.out Hx.out Hy.out Hok.out).mono ?_
  rintro e w1 ⟨v1, rfl, g1, b1⟩
  cases hM : maskedOf g xs ys with
  | nil =>
    rw [hM] at g1
    obtain ⟨a1, c1, rfl, -⟩ := id g1
    have hn : ([] : List (List (List Int))).length = 0 := rfl
    rw [hn] at g1 ⊢
    have HM := Lib.hid hM
    clear hM g1
    go_wp2
    refine bodyPost_ret (v := .tuple #[.slice none 0 0, .bool false]) (by simp [results, Tryd.results9, go_sem]) rfl ?_
    exact ⟨_, by rw [HM.out]; rfl, by rw [HM.out]; exact Own.grid (E := 0) (E' := 0) (S := fun _ => False) (Own.nil _ _ _ _), b1⟩
  | cons m l =>
    rw [hM] at g1
    obtain ⟨b, off, c, rfl, hb, -⟩ := g1.inv_ne (by simp)
    obtain ⟨u, hck, hu⟩ := Sl.at g1 (k := 0) (x := m) rfl
    have Hu := Lib.hid (show Grid w1 u m from hu)
    obtain ⟨ua, uc, rfl, -⟩ := hu
    rw [Nat.add_zero] at hck
    obtain ⟨N, hN⟩ : ∃ N, N = (m :: l).length := ⟨_, rfl⟩
    have hN0 : 0 < N := by rw [hN]; simp
    have hNz : ((N : Int) == 0) = false := by rw [beq_eq_false_iff_ne]; omega
    rw [← hN]
    have HM := Lib.hid hM
    clear hM g1 hN
    go_wp2
    refine bodyPost_ret (v := .tuple #[.slice ua m.length uc, .bool true]) (by simp [results, Tryd.results9, go_sem]) rfl ?_
    exact ⟨_, by rw [HM.out]; rfl, by rw [HM.out]; exact Hu.out, b1⟩
set_option maxHeartbeats 1000000 in
theorem MaskedCount_i (v vx vy : Value) (g : List (List Int)) (xs ys : List Int) (w : World) (hv : Grid w v g) (hx : Ints w vx xs) (hy : Ints w vy ys) (hok : maskOk g xs ys = true) : Calls Tryd.prog 11 #[v, vx, vy] w fun e w' => e = .returned (.int .i64 (maskedOf g xs ys).length) ∧ Below w.heap.size w w' := by
  have Hv := Lib.hid hv
  have Hx := Lib.hid hx
  have Hy := Lib.hid hy
  have Hok := Lib.hid hok
  obtain ⟨a, cap, rfl, -⟩ := hv
  obtain ⟨ax, cx, rfl, -⟩ := hx
  obtain ⟨ay, cy, rfl, -⟩ := hy
  clear hok
  go_enter Tryd.func11, Tryd.ntmps11
  go_wp2_with (fail)
  refine (MaskOk_i _ _ _ _ _ _ _ Hv.out Hx.out Hy.out).mono ?_
  rintro e w' ⟨rfl, rfl⟩
  rw [Hok.out]
  go_wp2_with (fail)
  refine (masked_c _ _ _ _ _ _ _ Hv.out Hx.out Hy.out Hok.out).mono ?_
  rintro e w1 ⟨v1, rfl, g1, b1⟩
  obtain ⟨a1, c1, rfl, -⟩ := g1
  go_wp2
  go_ret
  exact ⟨rfl, b1⟩
set_option maxHeartbeats 1600000 in
theorem MaskedImage_s (v vx vy : Value) (g : List (List Int)) (xs ys : List Int) (w : World) (hv : Grid w v g) (hx : Ints w vx xs) (hy : Ints w vy ys) (hok : maskOk g xs ys = true) : Calls Tryd.prog 77 #[v, vx, vy] w fun e w' => ∃ v', e = .returned (.tuple #[v', .bool (!(maskedOf g xs ys).isEmpty)]) ∧ Grid w' v' ((maskedOf g xs ys).headD []) ∧ Below w.heap.size w w' := by
  obtain ⟨hs, hr⟩ := maskOk_parts hok
  obtain ⟨x1, x5, y1, y5⟩ := sumsOk_sz hs
  have Hsh := Lib.hid (imgs_shape hs)
  have hbig := imgsOf_len xs ys
  obtain ⟨L, hL⟩ : ∃ L, L = imgsOf xs ys := ⟨_, rfl⟩
  have Hfin := Lib.hid (show L.filter (fun m => meetsB xs.length ys.length m g) = maskedOf g xs ys from by rw [hL]; rfl)
  rw [← hL] at Hsh hbig
  have HL := Lib.hid hL
  have Hv := Lib.hid hv
  have Hx := Lib.hid hx
  have Hy := Lib.hid hy
  have Hr := Lib.hid hr
  have Hok := Lib.hid hok
  obtain ⟨a, cap, rfl, -⟩ := hv
  obtain ⟨ax, cx, rfl, -⟩ := hx
  obtain ⟨ay, cy, rfl, -⟩ := hy
  clear hs hr hok hL
  go_enter Tryd.func77, Tryd.ntmps77
  go_wp2_with (fail)
  refine (MaskOk_s _ _ _ _ _ _ _ Hv.out Hx.out Hy.out).mono ?_
  rintro e w' ⟨rfl, rfl⟩
  rw [Hok.out]
  go_wp2_with (fail)
  refine (AllImages_s _ _ _ _ _ Hx.out Hy.out).mono ?_
  rintro e w1 ⟨v1, rfl, o1, b1⟩
  rw [← HL.out] at o1
  obtain ⟨p1, p2, p3, rfl⟩ := o1.shape
  have hp2 := Sl.len o1.grids
  subst hp2
  have Hg := Lib.hid o1.grids
  have Hv1 := Lib.hid (Hv.out.keep b1)
  obtain ⟨N, hN⟩ : ∃ N, N = L.length := ⟨_, rfl⟩
  rw [← hN] at Hg hbig ⊢
  have HN := Lib.hid hN
  clear o1 hN
  go_wp2
  go_loopw [11, 25] (fun _ i wr => ∃ k : Nat, k ≤ N ∧ i = .int .i64 k ∧ Hid ((L.take k).filter (fun m => meetsB xs.length ys.length m g) = []) ∧ w1 = wr) (fun _ i _ => N - (intOf i).toNat)
  case atStart => exact ⟨0, Nat.zero_le _, rfl, Lib.hid rfl, rfl⟩
  case round =>
    obtain ⟨k, hk, rfl, Hh, rfl⟩ := hrel
    by_cases hlt : k < N
    · obtain ⟨x, hx⟩ : ∃ x, L[k]? = some x := ⟨_, List.getElem?_eq_getElem (by rw [← HN.out]; exact hlt)⟩
      have hxs := Hsh.out x (List.mem_of_getElem? hx)
      obtain ⟨gl, go, gc, he, hgl, -⟩ := Hg.out.inv_ne (by rw [← HN.out]; omega)
      obtain ⟨rfl, -⟩ : p1 = some ⟨gl, go, none⟩ ∧ p3 = gc := by
        simp only [Value.slice.injEq] at he
        exact ⟨he.1, he.2.2⟩
      obtain ⟨u, hck, hu⟩ := Sl.at Hg.out hx
      have Hu := Lib.hid (show Grid w1 u x from hu)
      obtain ⟨ua, uc, rfl, -⟩ := hu
      have Htk := Lib.hid (filter_take (fun m => meetsB xs.length ys.length m g) hx)
      have Hxk := Lib.hid hx
      clear hx he
      go_wp2_with (fail)
      refine (MeetsMask_s _ _ x g xs.length ys.length _ Hu.out Hv1.out hxs Hr.out x1 x5 y1 y5).mono ?_
      rintro e w' ⟨rfl, rfl⟩
      obtain ⟨ag, hag⟩ : ∃ ag, ag = meetsB xs.length ys.length x g := ⟨_, rfl⟩
      have Hag := Lib.hid hag
      rw [← hag] at Htk ⊢
      clear hag
      cases ag
      · have Ht2 := Lib.hid (show (L.take (k + 1)).filter (fun m => meetsB xs.length ys.length m g) = [] from by rw [Htk.out, Hh.out]; simp)
        clear hck
        go_wp2
        go_roundw
        case rel => exact ⟨k + 1, by omega, by go_num, Ht2, by first | rfl | trivial⟩
        case measure => simp [intOf]; omega
      · obtain ⟨l, hl⟩ := filter_first (fun m => meetsB xs.length ys.length m g) Hxk.out Hh.out Hag.out.symm
        rw [Hfin.out] at hl
        have Hl := Lib.hid hl
        clear hck hl
        go_wp2
        refine bodyPost_ret (v := .tuple #[.slice ua x.length uc, .bool true]) (by simp [results, Tryd.results77, go_sem]) rfl ?_
        exact ⟨_, by rw [Hl.out]; rfl, by rw [Hl.out]; exact Hu.out, b1⟩
    · obtain rfl : k = N := by omega
      rw [List.take_of_length_le (by rw [← HN.out]; exact Nat.le_refl _), Hfin.out] at Hh
      go_wp2
      refine bodyPost_ret (v := .tuple #[.slice none 0 0, .bool false]) (by simp [results, Tryd.results77, go_sem]) rfl ?_
      exact ⟨_, by rw [Hh.out]; rfl, by rw [Hh.out]; exact Own.grid (E := 0) (E' := 0) (S := fun _ => False) (Own.nil _ _ _ _), b1⟩
set_option maxHeartbeats 1600000 in
theorem MaskedCount_s (v vx vy : Value) (g : List (List Int)) (xs ys : List Int) (w : World) (hv : Grid w v g) (hx : Ints w vx xs) (hy : Ints w vy ys) (hok : maskOk g xs ys = true) : Calls Tryd.prog 116 #[v, vx, vy] w fun e w' => e = .returned (.int .i64 (maskedOf g xs ys).length) ∧ Below w.heap.size w w' := by
  obtain ⟨hs, hr⟩ := maskOk_parts hok
  obtain ⟨x1, x5, y1, y5⟩ := sumsOk_sz hs
  have Hsh := Lib.hid (imgs_shape hs)
  have hbig := imgsOf_len xs ys
  obtain ⟨L, hL⟩ : ∃ L, L = imgsOf xs ys := ⟨_, rfl⟩
  have Hfin := Lib.hid (show L.filter (fun m => meetsB xs.length ys.length m g) = maskedOf g xs ys from by rw [hL]; rfl)
  rw [← hL] at Hsh hbig
  have HL := Lib.hid hL
  have Hv := Lib.hid hv
  have Hx := Lib.hid hx
  have Hy := Lib.hid hy
  have Hr := Lib.hid hr
  have Hok := Lib.hid hok
  obtain ⟨a, cap, rfl, -⟩ := hv
  obtain ⟨ax, cx, rfl, -⟩ := hx
  obtain ⟨ay, cy, rfl, -⟩ := hy
  clear hs hr hok hL
  go_enter Tryd.func116, Tryd.ntmps116
  go_wp2_with (fail)
  refine (MaskOk_s _ _ _ _ _ _ _ Hv.out Hx.out Hy.out).mono ?_
  rintro e w' ⟨rfl, rfl⟩
  rw [Hok.out]
  go_wp2_with (fail)
  refine (AllImages_s _ _ _ _ _ Hx.out Hy.out).mono ?_
  rintro e w1 ⟨v1, rfl, o1, b1⟩
  rw [← HL.out] at o1
  obtain ⟨p1, p2, p3, rfl⟩ := o1.shape
  have hp2 := Sl.len o1.grids
  subst hp2
  have Hg := Lib.hid o1.grids
  have Hv1 := Lib.hid (Hv.out.keep b1)
  obtain ⟨N, hN⟩ : ∃ N, N = L.length := ⟨_, rfl⟩
  rw [← hN] at Hg hbig ⊢
  have HN := Lib.hid hN
  clear o1 hN
  go_wp2
  go_loopw [7, 11, 25] (fun n _ i wr => ∃ (k z : Nat), k ≤ N ∧ i = .int .i64 k ∧ n = .int .i64 z ∧ z ≤ k ∧ Hid (((L.take k).filter (fun m => meetsB xs.length ys.length m g)).length = z) ∧ w1 = wr) (fun _ _ i _ => N - (intOf i).toNat)
  case atStart => exact ⟨0, 0, Nat.zero_le _, rfl, rfl, Nat.le_refl _, Lib.hid rfl, rfl⟩
  case round =>
    obtain ⟨k, z, hk, rfl, rfl, hz, Hh, rfl⟩ := hrel
    by_cases hlt : k < N
    · obtain ⟨x, hx⟩ : ∃ x, L[k]? = some x := ⟨_, List.getElem?_eq_getElem (by rw [← HN.out]; exact hlt)⟩
      have hxs := Hsh.out x (List.mem_of_getElem? hx)
      obtain ⟨gl, go, gc, he, hgl, -⟩ := Hg.out.inv_ne (by rw [← HN.out]; omega)
      obtain ⟨rfl, -⟩ : p1 = some ⟨gl, go, none⟩ ∧ p3 = gc := by
        simp only [Value.slice.injEq] at he
        exact ⟨he.1, he.2.2⟩
      obtain ⟨u, hck, hu⟩ := Sl.at Hg.out hx
      have Hu := Lib.hid (show Grid w1 u x from hu)
      obtain ⟨ua, uc, rfl, -⟩ := hu
      have Htk := Lib.hid (filter_take (fun m => meetsB xs.length ys.length m g) hx)
      clear hx he
      go_wp2_with (fail)
      refine (MeetsMask_s _ _ x g xs.length ys.length _ Hu.out Hv1.out hxs Hr.out x1 x5 y1 y5).mono ?_
      rintro e w' ⟨rfl, rfl⟩
      obtain ⟨ag, hag⟩ : ∃ ag, ag = meetsB xs.length ys.length x g := ⟨_, rfl⟩
      rw [← hag] at Htk ⊢
      clear hag
      cases ag
      · have Ht2 := Lib.hid (show ((L.take (k + 1)).filter (fun m => meetsB xs.length ys.length m g)).length = z from by rw [Htk.out, List.length_append, Hh.out]; rfl)
        clear hck
        go_wp2
        go_roundw
        case rel => exact ⟨k + 1, z, by omega, by go_num, rfl, by omega, Ht2, by first | rfl | trivial⟩
        case measure => simp [intOf]; omega
      · have Ht2 := Lib.hid (show ((L.take (k + 1)).filter (fun m => meetsB xs.length ys.length m g)).length = z + 1 from by rw [Htk.out, List.length_append, Hh.out]; rfl)
        clear hck
        go_wp2
        go_roundw
        case rel => exact ⟨k + 1, z + 1, by omega, by go_num, by go_num, by omega, Ht2, by first | rfl | trivial⟩
        case measure => simp [intOf]; omega
    · obtain rfl : k = N := by omega
      rw [List.take_of_length_le (by rw [← HN.out]; exact Nat.le_refl _), Hfin.out] at Hh
      go_wp2
      go_ret
      exact ⟨by rw [Hh.out]; rfl, b1⟩
end Go.Proofs.YtlmjpmdkifoekaaDoor

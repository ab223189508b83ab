/- Contracts and plain laws that the claims on sessions use. No condition of their own. -/
import Derived.Test.YthmocomfjgmjoaaGreatDoorQ09
import Derived.Test.YthmocomfjgmjoaaGreatDoorQ04
import Derived.Test.YthmocomfjgmjoaaGreatDoorQ02
import Derived.Test.YthmocomfjgmjoaaGreatDoorQ08
import Derived.Test.YthmocomfjgmjoaaGreatDoorQ06
import Derived.BigQuiet
set_option maxHeartbeats 2000000
namespace Go.Proofs.YthmocomfjgmjoaaGreatDoor
open Go.RowKit
def posK (s : Sw) : Nat → Nat × Nat
  | 0 => (s.y1, s.x1)
  | 1 => (s.y1, s.x2)
  | 2 => (s.y2, s.x1)
  | _ => (s.y2, s.x2)
def flips (g : List (List Int)) (s : Sw) : Nat → List (List Int)
  | 0 => g
  | n + 1 => flipC (flips g s n) (posK s n).1 (posK s n).2
theorem flips_four (g : List (List Int)) (s : Sw) : flips g s 4 = applyS g s := rfl
theorem posK_lt {r c : Nat} {g : List (List Int)} {s : Sw} (hs : SwOk r c g s) (n : Nat) : (posK s n).1 < r ∧ (posK s n).2 < c := by
  obtain ⟨h1, h2, h3, h4, -⟩ := hs
  match n with
  | 0 => exact ⟨Nat.lt_trans h1 h2, Nat.lt_trans h3 h4⟩
  | 1 => exact ⟨Nat.lt_trans h1 h2, h4⟩
  | 2 => exact ⟨h2, Nat.lt_trans h3 h4⟩
  | _ + 3 => exact ⟨h2, h4⟩
theorem flips_shape {r c : Nat} {g : List (List Int)} {s : Sw} (h : Shape r c g) (hs : SwOk r c g s) : ∀ n, Shape r c (flips g s n)
  | 0 => h
  | n + 1 => flipC_shape (flips_shape h hs n) (posK_lt hs n).1
theorem flips_at {r c : Nat} {g : List (List Int)} {s : Sw} (h : Shape r c g) (hs : SwOk r c g s) : ∀ n, n < 4 → at2 (flips g s n) (posK s n).1 (posK s n).2 = at2 g (posK s n).1 (posK s n).2 := by
  have hs' := hs
  obtain ⟨h1, h2, h3, h4, -⟩ := hs'
  have key : ∀ n k, k ≤ n → n < 4 → at2 (flips g s k) (posK s n).1 (posK s n).2 = at2 g (posK s n).1 (posK s n).2 := by
    intro n k
    induction k with
    | zero => intro _ _; rfl
    | succ k ih =>
      intro hk hn
      show at2 (flipC (flips g s k) (posK s k).1 (posK s k).2) _ _ = _
      rw [flipC_at (flips_shape h hs k) (posK_lt hs k).1 (posK_lt hs k).2, if_neg, ih (by omega) hn]
      obtain ⟨a, b, x, y⟩ := s
      have h1 : a < b := h1
      have h3 : x < y := h3
      rcases (by omega : n = 1 ∧ k = 0 ∨ n = 2 ∧ k = 0 ∨ n = 2 ∧ k = 1 ∨ n = 3 ∧ k = 0 ∨ n = 3 ∧ k = 1 ∨ n = 3 ∧ k = 2) with ⟨rfl, rfl⟩ | ⟨rfl, rfl⟩ | ⟨rfl, rfl⟩ | ⟨rfl, rfl⟩ | ⟨rfl, rfl⟩ | ⟨rfl, rfl⟩ <;> (show ¬ (_ = _ ∧ _ = _)) <;> simp only [posK, Sw.y1, Sw.y2, Sw.x1, Sw.x2] <;> omega
  exact fun n hn => key n n (Nat.le_refl _) hn
def ysOf (s : Sw) : List Int := [s.y1, s.y2]
def xsOf (s : Sw) : List Int := [s.x1, s.x2]
theorem posK_two (s : Sw) {k j : Nat} (hk : k < 2) (hj : j < 2) : (ysOf s)[k]? = some ((posK s (2 * k + j)).1 : Int) ∧ (xsOf s)[j]? = some ((posK s (2 * k + j)).2 : Int) := by
  rcases (by omega : k = 0 ∧ j = 0 ∨ k = 0 ∧ j = 1 ∨ k = 1 ∧ j = 0 ∨ k = 1 ∧ j = 1) with ⟨rfl, rfl⟩ | ⟨rfl, rfl⟩ | ⟨rfl, rfl⟩ | ⟨rfl, rfl⟩ <;> exact ⟨rfl, rfl⟩
theorem allSw_len4 : ∀ r, r < 5 → ∀ c, c < 5 → (allSw r c).length ≤ 36 := by decide +kernel
theorem switchesOf_len4 {r c : Nat} (hr : r ≤ 4) (hc : c ≤ 4) (g : List (List Int)) : (switchesOf r c g).length ≤ 36 := Nat.le_trans (List.length_filter_le _ _) (allSw_len4 r (by omega) c (by omega))
theorem CountImages_i (v v2 : Value) (xs ys : List Int) (w : World) (hv : Ints w v xs) (hv2 : Ints w v2 ys) (hok : sumsOk xs ys = true) : Calls Tryz.prog 92 #[v, v2] w fun e w' => e = .returned (.int .i64 (allImgs xs ys).length) ∧ Below w.heap.size w w' := by
  have Hv := Lib.hid hv
  have Hv2 := Lib.hid hv2
  have Hok := Lib.hid hok
  obtain ⟨a, cap, rfl, -⟩ := hv
  obtain ⟨a2, cap2, rfl, -⟩ := hv2
  clear hok
  go_enter Tryz.func92, Tryz.ntmps92
  go_wp2_with (fail)
  refine (AllImages_i _ _ _ _ _ Hv.out Hv2.out).mono ?_
  rintro e w1 ⟨v1, rfl, o1, b1⟩
  rw [Hok.out]
  rw [show imgsOf xs ys = allImgs xs ys from by unfold imgsOf; rw [Hok.out]; rfl] at o1
  obtain ⟨p1, p2, p3, rfl⟩ := o1.shape
  have hl := o1.grids.len
  subst hl
  clear o1
  go_wp2
  go_ret
  exact ⟨rfl, b1⟩
theorem sameSize_t (v v2 : Value) (m g : List (List Int)) (r c : Nat) (w : World) (hv : Grid w v m) (hv2 : Grid w v2 g) (hs : Shape r c m) (hs2 : Shape r c g) (hr1 : 1 ≤ r) (hr5 : r ≤ 5) (hc1 : 1 ≤ c) (hc5 : c ≤ 5) : Calls Tryz.prog 98 #[v, v2] w fun e w' => e = .returned (.bool true) ∧ Below w.heap.size w w' := by
  have hrow := fun {q : List (List Int)} (h : Shape r c q) => h.row (y := 0) (by omega)
  obtain ⟨r1, hr1', hl1, -⟩ := hrow hs
  obtain ⟨r2, hr2', hl2, -⟩ := hrow hs2
  obtain ⟨b, off, cp, rfl, hb, -⟩ := hv.inv_ne (by have := hs.1; omega)
  obtain ⟨b2, off2, cp2, rfl, hb2, -⟩ := hv2.inv_ne (by have := hs2.1; omega)
  obtain ⟨u, hck, hu⟩ := Sl.at hv hr1'
  obtain ⟨u2, hck2, hu2⟩ := Sl.at hv2 hr2'
  obtain ⟨a1, k1, rfl, -⟩ := hu
  obtain ⟨a2, k2, rfl, -⟩ := hu2
  rw [Nat.add_zero, hl1] at hck
  rw [Nat.add_zero, hl2] at hck2
  have hml := hs.1
  have hgl := hs2.1
  rw [hml] at hv ⊢
  rw [hgl] at hv2 ⊢
  have Hq1 := Lib.hid (show ∀ n, Calls Tryz.prog 84 #[.slice (some ⟨b, off, none⟩) r cp] (w.drewN n) fun e w' => e = .returned (.bool true) ∧ w' = w.drewN n from fun n => (ImageOk_i _ m (w.drewN n) (Grid.keep hv (below_drewN (Below.refl _ _) n))).mono fun e w' ⟨he, hw⟩ => ⟨by rw [he, hs.ok hr1 hr5 hc1 hc5], hw.symm⟩)
  have Hq2 := Lib.hid (show ∀ n, Calls Tryz.prog 84 #[.slice (some ⟨b2, off2, none⟩) r cp2] (w.drewN n) fun e w' => e = .returned (.bool true) ∧ w' = w.drewN n from fun n => (ImageOk_i _ g (w.drewN n) (Grid.keep hv2 (below_drewN (Below.refl _ _) n))).mono fun e w' ⟨he, hw⟩ => ⟨by rw [he, hs2.ok hr1 hr5 hc1 hc5], hw.symm⟩)
  clear hrow hr1' hr2' hl1 hl2 hml hgl hv hv2
  go_enter Tryz.func98, Tryz.ntmps98
  go_wp2
  go_quiet ((first | (go_at_call 84; with_reducible exact Calls.quiet_of_same (Hq1.out _)) | (go_at_call 84; with_reducible exact Calls.quiet_of_same (Hq2.out _))))
  go_wp2
  go_ret
  exact ⟨rfl, below_drewN (Below.refl _ _) _⟩
theorem SameSums_t (v v2 : Value) (m g : List (List Int)) (r c : Nat) (w : World) (hv : Grid w v m) (hv2 : Grid w v2 g) (hs : Shape r c m) (hs2 : Shape r c g) (hr1 : 1 ≤ r) (hr5 : r ≤ 5) (hc1 : 1 ≤ c) (hc5 : c ≤ 5) (e1 : rowSumsOf m = rowSumsOf g) (e2 : colSumsOf m = colSumsOf g) : Calls Tryz.prog 160 #[v, v2] w fun e w' => e = .returned (.bool true) ∧ Below w.heap.size w w' := by
  have Hv := Lib.hid hv
  have Hv2 := Lib.hid hv2
  obtain ⟨a, cap, rfl, -⟩ := hv
  obtain ⟨a2, cap2, rfl, -⟩ := hv2
  have E1 := Lib.hid e1
  have E2 := Lib.hid e2
  clear e1 e2
  go_enter Tryz.func160, Tryz.ntmps160
  go_wp2_with (fail)
  refine (sameSize_t _ _ m g r c _ Hv.out Hv2.out hs hs2 hr1 hr5 hc1 hc5).mono ?_
  rintro e w1 ⟨rfl, b1⟩
  go_wp2_with (fail)
  refine (RowSums_i _ _ _ (Hv.out.keep b1)).mono ?_
  rintro e w2 ⟨v3, rfl, o3, b2⟩
  have bb2 := b1.trans_pure b2 (Nat.le_refl _)
  have Ho3 := Lib.hid o3.ints; clear o3
  go_wp2_with (fail)
  refine (RowSums_i _ _ _ (Hv2.out.keep bb2)).mono ?_
  rintro e w3 ⟨v4, rfl, o4, b3⟩
  have bb3 := bb2.trans_pure b3 (Nat.le_refl _)
  have Ho4 := Lib.hid o4.ints; clear o4
  go_wp2_with (fail)
  refine (Equal_q _ _ _ _ _ (Ho3.out.keep b3) Ho4.out).mono ?_
  rintro e w4 ⟨rfl, n4, hw4⟩
  have b4 : Below w3.heap.size w3 w4 := by rw [hw4]; exact below_drewN (Below.refl _ _) n4
  clear hw4
  rw [decide_eq_true E1.out]
  have bb4 := bb3.trans_pure b4 (Nat.le_refl _)
  go_wp2_with (fail)
  refine (ColSums_i _ _ _ (Hv.out.keep bb4)).mono ?_
  rintro e w5 ⟨v5, rfl, o5, b5⟩
  have bb5 := bb4.trans_pure b5 (Nat.le_refl _)
  have Ho5 := Lib.hid o5.ints; clear o5
  go_wp2_with (fail)
  refine (ColSums_i _ _ _ (Hv2.out.keep bb5)).mono ?_
  rintro e w6 ⟨v6, rfl, o6, b6⟩
  have bb6 := bb5.trans_pure b6 (Nat.le_refl _)
  have Ho6 := Lib.hid o6.ints; clear o6
  go_wp2_with (fail)
  refine (Equal_q _ _ _ _ _ (Ho5.out.keep b6) Ho6.out).mono ?_
  rintro e w7 ⟨rfl, n7, hw7⟩
  have b7 : Below w6.heap.size w6 w7 := by rw [hw7]; exact below_drewN (Below.refl _ _) n7
  clear hw7
  rw [decide_eq_true E2.out]
  have bb7 := bb6.trans_pure b7 (Nat.le_refl _)
  go_wp2
  go_ret
  exact ⟨rfl, bb7⟩
def ApplyRes (w : World) (g : List (List Int)) : Ending → World → Prop := fun e w' => ∃ v', e = .returned (.tuple #[v', .bool true]) ∧ Own 32 (Own 3 IntV) (Iv w.heap.size w'.heap.size) w' v' g ∧ Below w.heap.size w w'
def distRow (c : Nat) (g h : List (List Int)) (i : Nat) : Int := rs c (fun j => if at2 g i j = at2 h i j then 0 else 1)
theorem distRow_bd (g h : List (List Int)) (i : Nat) : ∀ c, 0 ≤ distRow c g h i ∧ distRow c g h i ≤ c := by
  intro c
  induction c with
  | zero => simp [distRow, rs]
  | succ c ih =>
    have e : distRow (c + 1) g h i = distRow c g h i + if at2 g i c = at2 h i c then 0 else 1 := rfl
    rw [e]
    split <;> omega
theorem distG_bd (c : Nat) (g h : List (List Int)) : ∀ r, 0 ≤ distG r c g h ∧ distG r c g h ≤ ((r * c : Nat) : Int) := by
  intro r
  induction r with
  | zero => simp [distG, rs]
  | succ r ih =>
    have e : distG (r + 1) c g h = distG r c g h + distRow c g h r := rfl
    have := distRow_bd g h r c
    rw [e, Nat.succ_mul]
    omega
theorem ApplySwitch_t (v : Value) (m : List (List Int)) (r c : Nat) (s : Sw) (w : World) (hv : Grid w v m) (hs : Shape r c m) (hr1 : 1 ≤ r) (hr5 : r ≤ 5) (hc1 : 1 ≤ c) (hc5 : c ≤ 5) (hok : SwOk r c m s) : Calls Tryz.prog 37 #[v, SwV s.y1 s.y2 s.x1 s.x2] w (ApplyRes w (applyS m s)) := by
  obtain ⟨b, off, cp, rfl, hb, hcl⟩ := hv.cells hs hr1 hc1
  have Hcl := Lib.hid hcl
  have hbel := Below.pureAlloc w (.cells #[.int .i64 s.y1, .int .i64 s.y2, .int .i64 s.x1, .int .i64 s.x2] 65)
  have Hv1 := Lib.hid (hv.keep hbel)
  have Hk := Lib.hid (Blk.new w #[.int .i64 s.y1, .int .i64 s.y2, .int .i64 s.x1, .int .i64 s.x2] 65)
  have Hml := Lib.hid (show m.length ≤ 1048576 from by have := hs.1; omega)
  have HR := Lib.hid (show ∀ p ∈ m, p.length ≤ 1048576 from fun p hp => by have := (hs.2 p hp).1; omega)
  obtain ⟨y1, hy1⟩ : ∃ y1, y1 = s.y1 := ⟨_, rfl⟩
  obtain ⟨y2, hy2⟩ : ∃ y2, y2 = s.y2 := ⟨_, rfl⟩
  obtain ⟨x1, hx1⟩ : ∃ x1, x1 = s.x1 := ⟨_, rfl⟩
  obtain ⟨x2, hx2⟩ : ∃ x2, x2 = s.x2 := ⟨_, rfl⟩
  rw [← hy1, ← hy2, ← hx1, ← hx2] at Hk Hv1 hbel ⊢
  have HE1 := Lib.hid hy1
  have HE2 := Lib.hid hy2
  have HE3 := Lib.hid hx1
  have HE4 := Lib.hid hx2
  have Hsok := Lib.hid hok
  have Hy : Hid (ysOf s = [(y1 : Int), y2]) := Lib.hid (by rw [hy1, hy2]; rfl)
  have Hx : Hid (xsOf s = [(x1 : Int), x2]) := Lib.hid (by rw [hx1, hx2]; rfl)
  clear hcl hy1 hy2 hx1 hx2 hok
  have Hok2 := Lib.hid (show swOkB r c m y1 y2 x1 x2 = true from by rw [HE1.out, HE2.out, HE3.out, HE4.out, swOkB_nat]; exact decide_eq_true Hsok.out)
  go_enter Tryz.func37, Tryz.ntmps37
  go_wp2_with (fail)
  refine (SwitchOk_i _ m r c _ _ _ _ _ Hv1.out hs hr1 hr5 hc1 hc5).mono ?_
  rintro e w1 ⟨rfl, b1⟩
  rw [Hok2.out]
  have Hk1 := Lib.hid (Hk.out.keep b1)
  have s1 : w.heap.size + 1 ≤ w1.heap.size := by have := b1.size; simp at this; exact this
  have bb1 := hbel.trans_pure b1 (Nat.le_refl _)
  have Hb1 := Lib.hid b1
  clear b1 Hk Hok2
  go_wp2_with (fail)
  refine (copyGrid_c _ m _ (Hv1.out.keep Hb1.out) Hml.out HR.out).mono ?_
  rintro e w2 ⟨v2, rfl, o2, b2⟩
  have Hk2 := Lib.hid (Hk1.out.keep b2)
  have bb2 : Below w.heap.size w w2 := bb1.trans_pure b2 (Nat.le_refl _)
  have hml := hs.1
  obtain ⟨G, cap, rfl, hG, hcap, hGl, -⟩ := o2.inv_ne (by omega)
  rw [hml] at o2 hcap ⊢
  have hz2 : w.heap.size + 1 ≤ w2.heap.size := Nat.le_trans s1 b2.size
  have o2 := (rOwn (rOwn rIntV)).mono (S' := Iv (w.heap.size + 1) w2.heap.size) (fun b hb => ⟨Nat.le_trans s1 hb.1, hb.2⟩) o2
  have k0 := Hk2.out.cell 0
  have k1 := Hk2.out.cell 1
  have k2 := Hk2.out.cell 2
  have k3 := Hk2.out.cell 3
  simp only [List.getElem?_toArray, List.getElem?_cons_zero, List.getElem?_cons_succ] at k0 k1 k2 k3
  have Ho2 := Lib.hid o2
  have Hl3 := Lib.hid (Blk.new w2 #[.int .i64 y1, .int .i64 y2] 3)
  have Hb3 := Lib.hid (Below.pureAlloc w2 (.cells #[.int .i64 y1, .int .i64 y2] 3))
  have hGa : w.heap.size + 1 ≤ G := Nat.le_trans s1 hG.1
  have hzz : w2.heap.size + 1 ≤ (w2.alloc (.cells #[.int .i64 y1, .int .i64 y2] 3)).heap.size := by simp
  have Ho3 := Lib.hid ((rOwn (rOwn rIntV)).same (sameOn_below Hb3.out fun b hb => hb.2) Ho2.out)
  have Hk3 := Lib.hid (Hk2.out.keep Hb3.out)
  have Hbb3 := Lib.hid (bb2.trans_pure Hb3.out (Nat.le_refl _))
  clear o2 hml hG Ho2 Hb3 bb2 Hk2 b2 bb1 Hk1 Hb1 s1
  go_wp2
  clear k0 k1 k2 k3
  go_loopw [8, 10, 23] (fun _ _ i wr => ∃ k : Nat, k ≤ 2 ∧ i = .int .i64 k ∧ Hid (Own 32 (Own 3 IntV) (Iv (w.heap.size + 1) w2.heap.size) wr (.slice (some ⟨G, 0, none⟩) r cap) (flips m s (2 * k))) ∧ Hid (Blk wr w.heap.size #[.int .i64 y1, .int .i64 y2, .int .i64 x1, .int .i64 x2] 65) ∧ Hid (Blk wr w2.heap.size #[.int .i64 y1, .int .i64 y2] 3) ∧ Hid (Below w.heap.size w wr) ∧ w2.heap.size + 1 ≤ wr.heap.size) (fun _ _ i _ => 2 - (intOf i).toNat)
  case atStart => exact ⟨0, Nat.zero_le _, rfl, Ho3, Hk3, Hl3, Hbb3, hzz⟩
  case round =>
    clear Ho3 Hk3 Hl3 Hbb3 hzz
    obtain ⟨k, hk, rfl, Ho, Hkb, Hlb, Hbe, hz⟩ := hrel
    by_cases hlt : k < 2
    · obtain ⟨Y, hY⟩ : ∃ Y, Y = (posK s (2 * k + 0)).1 := ⟨_, rfl⟩
      have hYv := (posK_two s (j := 0) hlt (by decide)).1
      rw [Hy.out, ← hY] at hYv
      have hYr : Y < r := by rw [hY]; exact (posK_lt Hsok.out _).1
      have hY1 : Y = (posK s (2 * k + 1)).1 := by rw [hY]; rcases (by omega : k = 0 ∨ k = 1) with rfl | rfl <;> rfl
      have hcY : wr.cell? ⟨w2.heap.size, k, none⟩ = some (.int .i64 Y) := by
        rw [Hlb.out.cell k]
        rcases (by omega : k = 0 ∨ k = 1) with rfl | rfl <;> simpa using hYv
      have k2 := Hkb.out.cell 2
      have k3 := Hkb.out.cell 3
      simp only [List.getElem?_toArray, List.getElem?_cons_zero, List.getElem?_cons_succ] at k2 k3
      have HY := Lib.hid hY
      have HY1 := Lib.hid hY1
      clear hY hY1 hYv
      have Hl4 := Lib.hid (Blk.new wr #[.int .i64 x1, .int .i64 x2] 3)
      have Hb4 := Lib.hid (Below.pureAlloc wr (.cells #[.int .i64 x1, .int .i64 x2] 3))
      have hzz : wr.heap.size + 1 ≤ (wr.alloc (.cells #[.int .i64 x1, .int .i64 x2] 3)).heap.size := by simp
      have Ho4 := Lib.hid ((rOwn (rOwn rIntV)).same (sameOn_below Hb4.out fun b hb => by have := hb.2; omega) Ho.out)
      have Hk4 := Lib.hid (Hkb.out.keep Hb4.out)
      have Hlb4 := Lib.hid (Hlb.out.keep Hb4.out)
      have Hbb4 := Lib.hid (Hbe.out.trans_pure Hb4.out (Nat.le_refl _))
      clear Ho Hkb Hlb Hbe Hb4
      obtain ⟨L, hL⟩ : ∃ L, L = wr.heap.size := ⟨_, rfl⟩
      rw [← hL] at Hl4 hz hzz
      have HL := Lib.hid hL
      clear hL
      go_wp2
      rw [← HL.out]
      clear hcY k2 k3
      go_loopw [10, 33] (fun _ i wr => ∃ j : Nat, j ≤ 2 ∧ i = .int .i64 j ∧ Hid (Own 32 (Own 3 IntV) (Iv (w.heap.size + 1) w2.heap.size) wr (.slice (some ⟨G, 0, none⟩) r cap) (flips m s (2 * k + j))) ∧ Hid (Blk wr w.heap.size #[.int .i64 y1, .int .i64 y2, .int .i64 x1, .int .i64 x2] 65) ∧ Hid (Blk wr w2.heap.size #[.int .i64 y1, .int .i64 y2] 3) ∧ Hid (Blk wr L #[.int .i64 x1, .int .i64 x2] 3) ∧ Hid (Below w.heap.size w wr) ∧ L + 1 ≤ wr.heap.size) (fun _ i _ => 2 - (intOf i).toNat)
      case atStart => exact ⟨0, Nat.zero_le _, rfl, Ho4, Hk4, Hlb4, Hl4, Hbb4, hzz⟩
      case round =>
        clear Ho4 Hk4 Hlb4 Hl4 Hbb4 hzz
        obtain ⟨j, hj, rfl, Ho, Hkb, Hlb, Hlx, Hbe, hz2⟩ := hrel
        by_cases hlt2 : j < 2
        · obtain ⟨X, hX⟩ : ∃ X, X = (posK s (2 * k + j)).2 := ⟨_, rfl⟩
          have hYj : Y = (posK s (2 * k + j)).1 := by
            rcases (by omega : j = 0 ∨ j = 1) with rfl | rfl
            · exact HY.out
            · exact HY1.out
          have hXv := (posK_two s hlt hlt2).2
          rw [Hx.out, ← hX] at hXv
          have hXc : X < c := by rw [hX]; exact (posK_lt Hsok.out _).2
          have hcX : wr.cell? ⟨L, j, none⟩ = some (.int .i64 X) := by
            rw [Hlx.out.cell j]
            rcases (by omega : j = 0 ∨ j = 1) with rfl | rfl <;> simpa using hXv
          have hfs := flips_shape hs Hsok.out (2 * k + j)
          obtain ⟨row, hrow, hrl, -⟩ := hfs.row hYr
          obtain ⟨q, cq, hcell, -, hq, hqG, hcq, hxs, hrd, hset⟩ := own_grid_cell Ho.out hrow (by omega)
          have hfo := (hxs X (by omega)).2
          obtain ⟨z, hz'⟩ : ∃ z, z = at2 m Y X := ⟨_, rfl⟩
          have hzb := at2_bits hs Y X
          have hat : at2 (flips m s (2 * k + j)) Y X = at2 m Y X := by
            have h := flips_at hs Hsok.out (2 * k + j) (by omega)
            rwa [← hYj, ← hX] at h
          have hrz : row[X]? = some z := by
            rw [hz', ← hat]
            unfold at2
            rw [List.getD_eq_getElem?_getD (l := flips m s (2 * k + j)), hrow]
            exact gD_at 0 (by show X < row.length; omega)
          have hco := hrd X z hrz
          rw [← hz'] at hzb
          have Hnew := Lib.hid (show Own 32 (Own 3 IntV) (Iv (w.heap.size + 1) w2.heap.size) (wr.setCell ⟨q, X, none⟩ (.int .i64 (1 - z))) (.slice (some ⟨G, 0, none⟩) r cap) (flips m s (2 * k + (j + 1))) from by
            have h := hset wr (fun _ _ => rfl) X (1 - z) (by omega) (I64.small (by omega) (by omega))
            have e : flips m s (2 * k + (j + 1)) = (flips m s (2 * k + j)).set Y (row.set X (1 - z)) := by
              show flipC (flips m s (2 * k + j)) (posK s (2 * k + j)).1 (posK s (2 * k + j)).2 = _
              rw [← hYj, ← hX]
              unfold flipC setC
              have hat := flips_at hs Hsok.out (2 * k + j) (by omega)
              rw [← hYj, ← hX] at hat
              rw [hat, ← hz', List.getD_eq_getElem?_getD, hrow]; rfl
            rw [e]; exact h)
          have hqn : q ≠ w.heap.size := by have := hq.1; omega
          have hqn2 : q ≠ w2.heap.size := by have := hq.2; omega
          have hqn3 : q ≠ L := by have := hq.2; omega
          have Hkb2 := Lib.hid (Hkb.out.set_ne (g' := q) (j := X) hqn.symm (.int .i64 (1 - z)))
          have Hlb2 := Lib.hid (Hlb.out.set_ne (g' := q) (j := X) hqn2.symm (.int .i64 (1 - z)))
          have Hlx2 := Lib.hid (Hlx.out.set_ne (g' := q) (j := X) hqn3.symm (.int .i64 (1 - z)))
          have Hbe2 := Lib.hid (Hbe.out.setCell (p := ⟨q, X, none⟩) (by have := hq.1; show w.heap.size ≤ q; omega) (.int .i64 (1 - z)))
          rw [hrl] at hcell
          clear hX hYj hXv hfs hrow hrl hxs hset hat hrz hrd hz' Ho Hkb Hlb Hlx Hbe
          go_wp2
          go_region
          all_goals go_wp2
          all_goals go_roundw
          all_goals first
            | (case measure => simp [intOf]; omega)
            | (case rel => exact ⟨j + 1, by omega, by go_num, Lib.hid (by exact Hnew.out), Lib.hid (by exact Hkb2.out), Lib.hid (by exact Hlb2.out), Lib.hid (by exact Hlx2.out), Lib.hid ⟨Hbe2.out.os, Hbe2.out.tape, Hbe2.out.output, Hbe2.out.size, Hbe2.out.block⟩, by first | exact hz2 | (simp; exact hz2) | (rw [size_setCell]; exact hz2)⟩)
        · obtain rfl : j = 2 := by omega
          go_wp2
          go_roundw
          case rel => exact ⟨k + 1, by omega, by go_num, Lib.hid (by have := Ho.out; rwa [show 2 * (k + 1) = 2 * k + 2 from by omega]), Hkb, Hlb, Hbe, by omega⟩
          case measure => simp [intOf]; omega
    · obtain rfl : k = 2 := by omega
      go_wp2
      refine bodyPost_ret (v := .tuple #[.slice (some ⟨G, 0, none⟩) r cap, .bool true]) (by simp [results, Tryz.results37, go_sem]) rfl ?_
      exact ⟨_, rfl, by rw [← flips_four]; exact (rOwn (rOwn rIntV)).mono (fun b hb => ⟨by have := hb.1; omega, by have := hb.2; omega⟩) Ho.out, Hbe.out⟩
theorem DistanceOf_i (v v2 : Value) (m g : List (List Int)) (r c : Nat) (w : World) (hv : Grid w v m) (hv2 : Grid w v2 g) (hs : Shape r c m) (hs2 : Shape r c g) (hr1 : 1 ≤ r) (hr5 : r ≤ 5) (hc1 : 1 ≤ c) (hc5 : c ≤ 5) : Calls Tryz.prog 99 #[v, v2] w fun e w' => e = .returned (.int .i64 (distG r c m g)) ∧ Below w.heap.size w w' := by
  obtain ⟨b, off, cp, rfl, hb, hcl⟩ := hv.cells hs hr1 hc1
  obtain ⟨b2, off2, cp2, rfl, hb2, hcl2⟩ := hv2.cells hs2 hr1 hc1
  have Hcl := Lib.hid hcl
  have Hcl2 := Lib.hid hcl2
  have Hv := Lib.hid hv
  have Hv2 := Lib.hid hv2
  have hbd := distG_bd c m g
  have Hbd := Lib.hid hbd
  clear hcl hcl2 hv hv2 hbd
  go_enter Tryz.func99, Tryz.ntmps99
  go_wp2_with (fail)
  refine (sameSize_t _ _ m g r c _ Hv.out Hv2.out hs hs2 hr1 hr5 hc1 hc5).mono ?_
  rintro e w1 ⟨rfl, b1⟩
  go_wp2
  go_loopw [5, 6, 7, 8, 9, 16] (fun n _ _ _ _ i wr => ∃ k : Nat, k ≤ r ∧ i = .int .i64 k ∧ n = .int .i64 (distG k c m g) ∧ Hid (Below w.heap.size w wr)) (fun _ _ _ _ _ i _ => r - (intOf i).toNat)
  case atStart => exact ⟨0, Nat.zero_le _, rfl, rfl, b1⟩
  case round =>
    obtain ⟨k, hk, rfl, rfl, Hb⟩ := hrel
    have hd0 := (distG_bd c m g k).1
    have hd1 := (distG_bd c m g k).2
    have hkc : k * c ≤ 25 := Nat.mul_le_mul (show k ≤ 5 by omega) hc5
    obtain ⟨D, hD⟩ : ∃ D, D = distG k c m g := ⟨_, rfl⟩
    rw [← hD] at hd0 hd1 ⊢
    have HD := Lib.hid hD
    clear hD
    by_cases hlt : k < r
    · obtain ⟨q, oq, cq, hmk, hq, hmx⟩ := Hcl.out k hlt
      obtain ⟨q2, oq2, cq2, hgk, hq2, hgx⟩ := Hcl2.out k hlt
      have hmk' := (Hb.out.cell (p := ⟨b, off + k, none⟩) hb).trans hmk
      have Hmx := Lib.hid hmx
      have Hgx := Lib.hid hgx
      have Hgk := Lib.hid hgk
      clear hmk hmx hgx hgk
      go_wp2
      clear hmk'
      go_loopw [5, 8, 9, 23] (fun n _ _ i wr => ∃ x : Nat, x ≤ c ∧ i = .int .i64 x ∧ n = .int .i64 (D + distRow x m g k) ∧ Hid (Below w.heap.size w wr)) (fun _ _ _ i _ => c - (intOf i).toNat)
      case atStart => exact ⟨0, Nat.zero_le _, rfl, by simp [distRow, rs], Hb⟩
      case round =>
        clear Hb
        obtain ⟨x, hx, rfl, rfl, Hb⟩ := hrel
        have hr0 := (distRow_bd m g k x).1
        have hr1 := (distRow_bd m g k x).2
        obtain ⟨E, hE⟩ : ∃ E, E = distRow x m g k := ⟨_, rfl⟩
        rw [← hE] at hr0 hr1 ⊢
        have HE := Lib.hid hE
        clear hE
        by_cases hlt2 : x < c
        · have hmc := (Hb.out.cell (p := ⟨q, oq + x, none⟩) hq).trans (Hmx.out x hlt2)
          have hgk' := (Hb.out.cell (p := ⟨b2, off2 + k, none⟩) hb2).trans Hgk.out
          have hgc := (Hb.out.cell (p := ⟨q2, oq2 + x, none⟩) hq2).trans (Hgx.out x hlt2)
          have Hst := Lib.hid (show distRow (x + 1) m g k = distRow x m g k + if at2 m k x = at2 g k x then 0 else 1 from rfl)
          obtain ⟨z1, hz1⟩ : ∃ z, z = at2 m k x := ⟨_, rfl⟩
          obtain ⟨z2, hz2⟩ : ∃ z, z = at2 g k x := ⟨_, rfl⟩
          rw [← hz1] at hmc Hst
          rw [← hz2] at hgc Hst
          clear hz1 hz2
          by_cases hz : z1 = z2
          · have hne : (z1 != z2) = false := by simp [hz]
            have Hs2 := Lib.hid (show distRow (x + 1) m g k = E from by rw [Hst.out, if_pos hz, ← HE.out]; omega)
            clear hz
            go_wp2
            go_roundw
            case rel => exact ⟨x + 1, by omega, by go_num, by rw [Hs2.out], Hb⟩
            case measure => simp [intOf]; omega
          · have hne : (z1 != z2) = true := by simp [hz]
            have Hs2 := Lib.hid (show distRow (x + 1) m g k = E + 1 from by rw [Hst.out, if_neg hz, ← HE.out])
            clear hz
            go_wp2
            go_roundw
            case rel => exact ⟨x + 1, by omega, by go_num, by rw [Hs2.out, Int.add_assoc], Hb⟩
            case measure => simp [intOf]; omega
        · obtain rfl : x = c := by omega
          have Hst := Lib.hid (show distG (k + 1) x m g = D + E from by rw [HD.out, HE.out]; rfl)
          go_wp2
          go_roundw
          case rel => exact ⟨k + 1, by omega, by go_num, by rw [Hst.out], Hb⟩
          case measure => simp [intOf]; omega
    · obtain rfl : k = r := by omega
      go_wp2
      go_ret
      exact ⟨retI HD.out, Hb.out⟩
def swG (m : List (List Int)) (y1 y2 x1 x2 : Int) : Bool := imageOk m && swOkB m.length (m.headD []).length m y1 y2 x1 x2
def appG (m : List (List Int)) (y1 y2 x1 x2 : Int) : Option (List (List Int)) := if swG m y1 y2 x1 x2 = true then some (applyS m (y1.toNat, y2.toNat, x1.toNat, x2.toNat)) else none
theorem swG_shape {m : List (List Int)} {r c : Nat} (hs : Shape r c m) (hr : 1 ≤ r) (h : imageOk m = true) (y1 y2 x1 x2 : Int) : swG m y1 y2 x1 x2 = swOkB r c m y1 y2 x1 x2 := by
  obtain ⟨e1, e2⟩ := shape_dims hs hr
  rw [swG, h, e1, e2]; rfl
theorem swOkB_sw {r c : Nat} {m : List (List Int)} {y1 y2 x1 x2 : Int} (h : swOkB r c m y1 y2 x1 x2 = true) : ∃ s : Sw, y1 = s.y1 ∧ y2 = s.y2 ∧ x1 = s.x1 ∧ x2 = s.x2 ∧ SwOk r c m s ∧ (y1.toNat, y2.toNat, x1.toNat, x2.toNat) = s := by
  unfold swOkB at h
  rw [Bool.and_eq_true, Bool.and_eq_true, inB_iff, inB_iff] at h
  obtain ⟨h1, h2, h3⟩ := h
  refine ⟨(y1.toNat, y2.toNat, x1.toNat, x2.toNat), ?_, ?_, ?_, ?_, of_decide_eq_true h3, rfl⟩
  · show y1 = ((y1.toNat : Nat) : Int); omega
  · show y2 = ((y2.toNat : Nat) : Int); omega
  · show x1 = ((x1.toNat : Nat) : Int); omega
  · show x2 = ((x2.toNat : Nat) : Int); omega
theorem SwitchOk_ig (v : Value) (m : List (List Int)) (y1 y2 x1 x2 : Int) (w : World) (hv : Grid w v m) : Calls Tryz.prog 93 #[v, SwV y1 y2 x1 x2] w fun e w' => e = .returned (.bool (swG m y1 y2 x1 x2)) ∧ Below w.heap.size w w' := by
  cases hok : imageOk m
  · have Hr := Lib.hid (show swG m y1 y2 x1 x2 = false from by simp [swG, hok])
    have H1 := Lib.hid (hasG_no hok y1 x1)
    have hbel := Below.pureAlloc w (.cells #[.int .i64 y1, .int .i64 y2, .int .i64 x1, .int .i64 x2] 65)
    have Hv1 := Lib.hid (hv.keep hbel)
    obtain ⟨a, cap0, rfl, -⟩ := id hv
    clear hok hv
    go_enter Tryz.func93, Tryz.ntmps93
    go_wp2_with (fail)
    refine (has_i _ _ _ _ _ Hv1.out).mono ?_
    rintro e w' ⟨rfl, rfl⟩
    rw [H1.out]
    go_wp2
    go_ret
    exact ⟨retB Hr.out.symm, hbel⟩
  · obtain ⟨r, c, hr1, hr5, hc1, hc5, hs⟩ := imageOk_shape hok
    rw [swG_shape hs hr1 hok]
    exact SwitchOk_i v m r c y1 y2 x1 x2 w hv hs hr1 hr5 hc1 hc5
theorem ApplySwitch_ig (v : Value) (m : List (List Int)) (y1 y2 x1 x2 : Int) (w : World) (hv : Grid w v m) : Calls Tryz.prog 37 #[v, SwV y1 y2 x1 x2] w (ImgRes w (appG m y1 y2 x1 x2)) := by
  cases h1 : swG m y1 y2 x1 x2
  · have Hr := Lib.hid (show appG m y1 y2 x1 x2 = none from by simp [appG, h1])
    have H1 := Lib.hid h1
    have hbel := Below.pureAlloc w (.cells #[.int .i64 y1, .int .i64 y2, .int .i64 x1, .int .i64 x2] 65)
    have Hv1 := Lib.hid (hv.keep hbel)
    obtain ⟨a, cap0, rfl, -⟩ := id hv
    clear h1 hv
    go_enter Tryz.func37, Tryz.ntmps37
    go_wp2_with (fail)
    refine (SwitchOk_ig _ _ _ _ _ _ _ Hv1.out).mono ?_
    rintro e w' ⟨rfl, b2⟩
    rw [H1.out]
    go_wp2
    go_ret2
    exact ⟨_, by rw [Hr.out]; rfl, by rw [Hr.out]; exact Own.nil _ _ _ _, hbel.trans_pure b2 (Nat.le_refl _)⟩
  · have hok : imageOk m = true := by unfold swG at h1; rw [Bool.and_eq_true] at h1; exact h1.1
    obtain ⟨r, c, hr1, hr5, hc1, hc5, hs⟩ := imageOk_shape hok
    have h2 := h1
    rw [swG_shape hs hr1 hok] at h2
    rw [show appG m y1 y2 x1 x2 = some (applyS m (y1.toNat, y2.toNat, x1.toNat, x2.toNat)) from by simp [appG, h1]]
    obtain ⟨s, rfl, rfl, rfl, rfl, hsw, e⟩ := swOkB_sw h2
    rw [e]
    exact ApplySwitch_t v m r c s w hv hs hr1 hr5 hc1 hc5 hsw
end Go.Proofs.YthmocomfjgmjoaaGreatDoor

/- Contracts: a switch applied (l06Apply), MakePair. -/
import Derived.Test.YtliejhmlcdjpcaaSw3
import Derived.Test.YtliejhmlcdjpcaaKeyL
import Derived.Test.YtliejhmlcdjpcaaCopy2
import Derived.Test.YtliejhmlcdjpcaaDraw2
namespace Go.Proofs.Ytliejhmlcdjpcaa
open Go.RowKit


/-- the n-th cell of a switch -/
def posK (s : Sw) : Nat → Nat × Nat
  | 0 => (s.y1, s.x1)
  | 1 => (s.y1, s.x2)
  | 2 => (s.y2, s.x1)
  | _ => (s.y2, s.x2)
def flips (g : List (List Int)) (s : Sw) : Nat → List (List Int)
  | 0 => g
  | n + 1 => flipC (flips g s n) (posK s n).1 (posK s n).2
theorem flips_four (g : List (List Int)) (s : Sw) : flips g s 4 = applyS g s := rfl
theorem posK_lt {r c : Nat} {g : List (List Int)} {s : Sw} (hs : SwOk r c g s) (n : Nat) : (posK s n).1 < r ∧ (posK s n).2 < c := by
  obtain ⟨h1, h2, h3, h4, -⟩ := hs
  match n with
  | 0 => exact ⟨Nat.lt_trans h1 h2, Nat.lt_trans h3 h4⟩
  | 1 => exact ⟨Nat.lt_trans h1 h2, h4⟩
  | 2 => exact ⟨h2, Nat.lt_trans h3 h4⟩
  | _ + 3 => exact ⟨h2, h4⟩
theorem flips_shape {r c : Nat} {g : List (List Int)} {s : Sw} (h : Shape r c g) (hs : SwOk r c g s) : ∀ n, Shape r c (flips g s n)
  | 0 => h
  | n + 1 => flipC_shape (flips_shape h hs n) (posK_lt hs n).1
theorem flips_at {r c : Nat} {g : List (List Int)} {s : Sw} (h : Shape r c g) (hs : SwOk r c g s) : ∀ n, n < 4 → at2 (flips g s n) (posK s n).1 (posK s n).2 = at2 g (posK s n).1 (posK s n).2 := by
  have hs' := hs
  obtain ⟨h1, h2, h3, h4, -⟩ := hs'
  have key : ∀ n k, k ≤ n → n < 4 → at2 (flips g s k) (posK s n).1 (posK s n).2 = at2 g (posK s n).1 (posK s n).2 := by
    intro n k
    induction k with
    | zero => intro _ _; rfl
    | succ k ih =>
      intro hk hn
      show at2 (flipC (flips g s k) (posK s k).1 (posK s k).2) _ _ = _
      rw [flipC_at (flips_shape h hs k) (posK_lt hs k).1 (posK_lt hs k).2, if_neg, ih (by omega) hn]
      obtain ⟨a, b, x, y⟩ := s
      have h1 : a < b := h1
      have h3 : x < y := h3
      rcases (by omega : n = 1 ∧ k = 0 ∨ n = 2 ∧ k = 0 ∨ n = 2 ∧ k = 1 ∨ n = 3 ∧ k = 0 ∨ n = 3 ∧ k = 1 ∨ n = 3 ∧ k = 2) with ⟨rfl, rfl⟩ | ⟨rfl, rfl⟩ | ⟨rfl, rfl⟩ | ⟨rfl, rfl⟩ | ⟨rfl, rfl⟩ | ⟨rfl, rfl⟩ <;> (show ¬ (_ = _ ∧ _ = _)) <;> simp only [posK, Sw.y1, Sw.y2, Sw.x1, Sw.x2] <;> omega
  exact fun n hn => key n n (Nat.le_refl _) hn
def ysOf (s : Sw) : List Int := [s.y1, s.y2]
def xsOf (s : Sw) : List Int := [s.x1, s.x2]
theorem posK_two (s : Sw) {k j : Nat} (hk : k < 2) (hj : j < 2) : (ysOf s)[k]? = some ((posK s (2 * k + j)).1 : Int) ∧ (xsOf s)[j]? = some ((posK s (2 * k + j)).2 : Int) := by
  rcases (by omega : k = 0 ∧ j = 0 ∨ k = 0 ∧ j = 1 ∨ k = 1 ∧ j = 0 ∨ k = 1 ∧ j = 1) with ⟨rfl, rfl⟩ | ⟨rfl, rfl⟩ | ⟨rfl, rfl⟩ | ⟨rfl, rfl⟩ <;> exact ⟨rfl, rfl⟩
set_option maxHeartbeats 2000000 in
theorem l06Apply_c (v : Value) (m : List (List Int)) (r c : Nat) (s : Sw) (w : World) (hv : Grid w v m) (hs : Shape r c m) (hr1 : 1 ≤ r) (hr5 : r ≤ 5) (hc1 : 1 ≤ c) (hc5 : c ≤ 5) (hok : SwOk r c m s) : Calls Try.prog 49 #[v, SwV s.y1 s.y2 s.x1 s.x2] w (New 25 (Own 3 IntV) w (applyS m s)) := by
  obtain ⟨b, off, cp, rfl, hb, hcl⟩ := hv.cells hs hr1 hc1
  have Hcl := Lib.hid hcl
  have hbel := Below.pureAlloc w (.cells #[.int .i64 s.y1, .int .i64 s.y2, .int .i64 s.x1, .int .i64 s.x2] 64)
  have Hv1 := Lib.hid (hv.keep hbel)
  have Hk := Lib.hid (Blk.new w #[.int .i64 s.y1, .int .i64 s.y2, .int .i64 s.x1, .int .i64 s.x2] 64)
  have Hml := Lib.hid (show m.length ≤ 1048576 from by have := hs.1; omega)
  have HR := Lib.hid (show ∀ p ∈ m, p.length ≤ 1048576 from fun p hp => by have := (hs.2 p hp).1; omega)
  obtain ⟨y1, hy1⟩ : ∃ y1, y1 = s.y1 := ⟨_, rfl⟩
  obtain ⟨y2, hy2⟩ : ∃ y2, y2 = s.y2 := ⟨_, rfl⟩
  obtain ⟨x1, hx1⟩ : ∃ x1, x1 = s.x1 := ⟨_, rfl⟩
  obtain ⟨x2, hx2⟩ : ∃ x2, x2 = s.x2 := ⟨_, rfl⟩
  rw [← hy1, ← hy2, ← hx1, ← hx2] at Hk Hv1 hbel ⊢
  have Hy : Hid (ysOf s = [(y1 : Int), y2]) := Lib.hid (by rw [hy1, hy2]; rfl)
  have Hx : Hid (xsOf s = [(x1 : Int), x2]) := Lib.hid (by rw [hx1, hx2]; rfl)
  clear hcl hy1 hy2 hx1 hx2
  go_enter Try.func49, Try.ntmps49
  go_wp2_with (fail)
  refine (l02Copy_c _ m _ Hv1.out Hml.out HR.out).mono ?_
  rintro e w2 ⟨v2, rfl, o2, b2⟩
  have Hk2 := Lib.hid (Hk.out.keep b2)
  have bb2 : Below w.heap.size w w2 := hbel.trans_pure b2 (Nat.le_refl _)
  have hml := hs.1
  obtain ⟨G, cap, rfl, hG, hcap, hGl, -⟩ := o2.inv_ne (by omega)
  rw [hml] at o2 hcap ⊢
  have hz1 : (w.alloc (.cells #[.int .i64 y1, .int .i64 y2, .int .i64 x1, .int .i64 x2] 64)).heap.size = w.heap.size + 1 := by simp
  rw [hz1] at o2
  have hz2 : w.heap.size + 1 ≤ w2.heap.size := by rw [← hz1]; exact b2.size
  have k0 := Hk2.out.cell 0
  have k1 := Hk2.out.cell 1
  have k2 := Hk2.out.cell 2
  have k3 := Hk2.out.cell 3
  simp only [List.getElem?_toArray, List.getElem?_cons_zero, List.getElem?_cons_succ] at k0 k1 k2 k3
  have Ho2 := Lib.hid o2
  have Hl3 := Lib.hid (Blk.new w2 #[.int .i64 y1, .int .i64 y2] 3)
  have Hb3 := Lib.hid (Below.pureAlloc w2 (.cells #[.int .i64 y1, .int .i64 y2] 3))
  have hGa : w.heap.size + 1 ≤ G := by have := hG.1; rw [hz1] at this; exact this
  have hzz : w2.heap.size + 1 ≤ (w2.alloc (.cells #[.int .i64 y1, .int .i64 y2] 3)).heap.size := by simp
  have Ho3 := Lib.hid ((rOwn (rOwn rIntV)).same (sameOn_below Hb3.out fun b hb => hb.2) Ho2.out)
  have Hk3 := Lib.hid (Hk2.out.keep Hb3.out)
  have Hbb3 := Lib.hid (bb2.trans_pure Hb3.out (Nat.le_refl _))
  clear o2 hml hG hz1 Ho2 Hb3 bb2 Hk2 b2 Hk
  have Hsok := Lib.hid hok
  clear hok
  go_wp2
  clear k0 k1 k2 k3
  go_loopw [7, 9, 18] (fun _ _ i wr => ∃ k : Nat, k ≤ 2 ∧ i = .int .i64 k ∧ Hid (Own 25 (Own 3 IntV) (Iv (w.heap.size + 1) w2.heap.size) wr (.slice (some ⟨G, 0, none⟩) r cap) (flips m s (2 * k))) ∧ Hid (Blk wr w.heap.size #[.int .i64 y1, .int .i64 y2, .int .i64 x1, .int .i64 x2] 64) ∧ Hid (Blk wr w2.heap.size #[.int .i64 y1, .int .i64 y2] 3) ∧ Hid (Below w.heap.size w wr) ∧ w2.heap.size + 1 ≤ wr.heap.size) (fun _ _ i _ => 2 - (intOf i).toNat)
  case atStart => exact ⟨0, Nat.zero_le _, rfl, Ho3, Hk3, Hl3, Hbb3, hzz⟩
  case round =>
    clear Ho3 Hk3 Hl3 Hbb3 hzz
    obtain ⟨k, hk, rfl, Ho, Hkb, Hlb, Hbe, hz⟩ := hrel
    by_cases hlt : k < 2
    · obtain ⟨Y, hY⟩ : ∃ Y, Y = (posK s (2 * k + 0)).1 := ⟨_, rfl⟩
      have hYv := (posK_two s (j := 0) hlt (by decide)).1
      rw [Hy.out, ← hY] at hYv
      have hYr : Y < r := by rw [hY]; exact (posK_lt Hsok.out _).1
      have hY1 : Y = (posK s (2 * k + 1)).1 := by rw [hY]; rcases (by omega : k = 0 ∨ k = 1) with rfl | rfl <;> rfl
      have hcY : wr.cell? ⟨w2.heap.size, k, none⟩ = some (.int .i64 Y) := by
        rw [Hlb.out.cell k]
        rcases (by omega : k = 0 ∨ k = 1) with rfl | rfl <;> simpa using hYv
      have k2 := Hkb.out.cell 2
      have k3 := Hkb.out.cell 3
      simp only [List.getElem?_toArray, List.getElem?_cons_zero, List.getElem?_cons_succ] at k2 k3
      have HY := Lib.hid hY
      have HY1 := Lib.hid hY1
      clear hY hY1 hYv
      have Hl4 := Lib.hid (Blk.new wr #[.int .i64 x1, .int .i64 x2] 3)
      have Hb4 := Lib.hid (Below.pureAlloc wr (.cells #[.int .i64 x1, .int .i64 x2] 3))
      have hzz : wr.heap.size + 1 ≤ (wr.alloc (.cells #[.int .i64 x1, .int .i64 x2] 3)).heap.size := by simp
      have Ho4 := Lib.hid ((rOwn (rOwn rIntV)).same (sameOn_below Hb4.out fun b hb => by have := hb.2; omega) Ho.out)
      have Hk4 := Lib.hid (Hkb.out.keep Hb4.out)
      have Hlb4 := Lib.hid (Hlb.out.keep Hb4.out)
      have Hbb4 := Lib.hid (Hbe.out.trans_pure Hb4.out (Nat.le_refl _))
      clear Ho Hkb Hlb Hbe Hb4
      obtain ⟨L, hL⟩ : ∃ L, L = wr.heap.size := ⟨_, rfl⟩
      rw [← hL] at Hl4 hz hzz
      have HL := Lib.hid hL
      clear hL
      go_wp2
      rw [← HL.out]
      clear hcY k2 k3
      go_loopw [9, 28] (fun _ i wr => ∃ j : Nat, j ≤ 2 ∧ i = .int .i64 j ∧ Hid (Own 25 (Own 3 IntV) (Iv (w.heap.size + 1) w2.heap.size) wr (.slice (some ⟨G, 0, none⟩) r cap) (flips m s (2 * k + j))) ∧ Hid (Blk wr w.heap.size #[.int .i64 y1, .int .i64 y2, .int .i64 x1, .int .i64 x2] 64) ∧ Hid (Blk wr w2.heap.size #[.int .i64 y1, .int .i64 y2] 3) ∧ Hid (Blk wr L #[.int .i64 x1, .int .i64 x2] 3) ∧ Hid (Below w.heap.size w wr) ∧ L + 1 ≤ wr.heap.size) (fun _ i _ => 2 - (intOf i).toNat)
      case atStart => exact ⟨0, Nat.zero_le _, rfl, Ho4, Hk4, Hlb4, Hl4, Hbb4, hzz⟩
      case round =>
        clear Ho4 Hk4 Hlb4 Hl4 Hbb4 hzz
        obtain ⟨j, hj, rfl, Ho, Hkb, Hlb, Hlx, Hbe, hz2⟩ := hrel
        by_cases hlt2 : j < 2
        · obtain ⟨X, hX⟩ : ∃ X, X = (posK s (2 * k + j)).2 := ⟨_, rfl⟩
          have hYj : Y = (posK s (2 * k + j)).1 := by
            rcases (by omega : j = 0 ∨ j = 1) with rfl | rfl
            · exact HY.out
            · exact HY1.out
          have hXv := (posK_two s hlt hlt2).2
          rw [Hx.out, ← hX] at hXv
          have hXc : X < c := by rw [hX]; exact (posK_lt Hsok.out _).2
          have hcX : wr.cell? ⟨L, j, none⟩ = some (.int .i64 X) := by
            rw [Hlx.out.cell j]
            rcases (by omega : j = 0 ∨ j = 1) with rfl | rfl <;> simpa using hXv
          have hfs := flips_shape hs Hsok.out (2 * k + j)
          obtain ⟨row, hrow, hrl, -⟩ := hfs.row hYr
          obtain ⟨q, cq, hcell, -, hq, hqG, hcq, hxs, -, hset⟩ := own_grid_cell Ho.out hrow (by omega)
          obtain ⟨⟨o0, hco⟩, hfo⟩ := hxs X (by omega)
          obtain ⟨br, offr, cpr, hmY, hbr, hmX⟩ := Hcl.out Y hYr
          have hmX := hmX X hXc
          have hmY' := (Hbe.out.cell (p := ⟨b, off + Y, none⟩) hb).trans hmY
          have hmX' := (Hbe.out.cell (p := ⟨br, offr + X, none⟩) hbr).trans hmX
          have hzb := at2_bits hs Y X
          obtain ⟨z, hz'⟩ : ∃ z, z = at2 m Y X := ⟨_, rfl⟩
          rw [← hz'] at hmX' hzb
          have Hnew := Lib.hid (show Own 25 (Own 3 IntV) (Iv (w.heap.size + 1) w2.heap.size) (wr.setCell ⟨q, X, none⟩ (.int .i64 (1 - z))) (.slice (some ⟨G, 0, none⟩) r cap) (flips m s (2 * k + (j + 1))) from by
            have h := hset wr (fun _ _ => rfl) X (1 - z) (by omega) (I64.small (by omega) (by omega))
            have e : flips m s (2 * k + (j + 1)) = (flips m s (2 * k + j)).set Y (row.set X (1 - z)) := by
              show flipC (flips m s (2 * k + j)) (posK s (2 * k + j)).1 (posK s (2 * k + j)).2 = _
              rw [← hYj, ← hX]
              unfold flipC setC
              have hat := flips_at hs Hsok.out (2 * k + j) (by omega)
              rw [← hYj, ← hX] at hat
              rw [hat, ← hz', List.getD_eq_getElem?_getD, hrow]; rfl
            rw [e]; exact h)
          have hqn : q ≠ w.heap.size := by have := hq.1; omega
          have hqn2 : q ≠ w2.heap.size := by have := hq.2; omega
          have hqn3 : q ≠ L := by have := hq.2; omega
          have Hkb2 := Lib.hid (Hkb.out.set_ne (g' := q) (j := X) hqn.symm (.int .i64 (1 - z)))
          have Hlb2 := Lib.hid (Hlb.out.set_ne (g' := q) (j := X) hqn2.symm (.int .i64 (1 - z)))
          have Hlx2 := Lib.hid (Hlx.out.set_ne (g' := q) (j := X) hqn3.symm (.int .i64 (1 - z)))
          have Hbe2 := Lib.hid (Hbe.out.setCell (p := ⟨q, X, none⟩) (by have := hq.1; show w.heap.size ≤ q; omega) (.int .i64 (1 - z)))
          rw [hrl] at hcell
          clear hX hYj hXv hfs hrow hrl hxs hset hmY hmX hz' Ho Hkb Hlb Hlx Hbe
          go_wp2
          go_region
          all_goals go_wp2
          all_goals go_roundw
          all_goals first
            | (case measure => simp [intOf]; omega)
            | (case rel => exact ⟨j + 1, by omega, by go_num, Lib.hid (by exact Hnew.out), Lib.hid (by exact Hkb2.out), Lib.hid (by exact Hlb2.out), Lib.hid (by exact Hlx2.out), Lib.hid ⟨Hbe2.out.os, Hbe2.out.tape, Hbe2.out.output, Hbe2.out.size, Hbe2.out.block⟩, by first | exact hz2 | (simp; exact hz2) | (rw [size_setCell]; exact hz2)⟩)
        · obtain rfl : j = 2 := by omega
          go_wp2
          go_roundw
          case rel => exact ⟨k + 1, by omega, by go_num, Lib.hid (by have := Ho.out; rwa [show 2 * (k + 1) = 2 * k + 2 from by omega]), Hkb, Hlb, Hbe, by omega⟩
          case measure => simp [intOf]; omega
    · obtain rfl : k = 2 := by omega
      go_wp2
      go_ret
      exact ⟨_, rfl, by rw [← flips_four]; exact (rOwn (rOwn rIntV)).mono (fun b hb => ⟨by have := hb.1; omega, by have := hb.2; omega⟩) Ho.out, Hbe.out⟩


theorem allSw_len4 : ∀ r, r < 5 → ∀ c, c < 5 → (allSw r c).length ≤ 36 := by decide +kernel
theorem switchesOf_len4 {r c : Nat} (hr : r ≤ 4) (hc : c ≤ 4) (g : List (List Int)) : (switchesOf r c g).length ≤ 36 := Nat.le_trans (List.length_filter_le _ _) (allSw_len4 r (by omega) c (by omega))

structure PairSt (n r c : Nat) (xs ys : List Int) (m : List (List Int)) (mv bv : Value) (w wr : World) (g : List (List Int)) : Prop where
  mo : Own 25 (Own 3 IntV) (Iv (n + 1) wr.heap.size) wr mv m
  bo : Own 25 (Own 3 IntV) (Iv (n + 1) wr.heap.size) wr bv g
  su : Sums xs ys r c g
  cur : Cur n wr n
  bel : Below n w wr
  lt : n < wr.heap.size
theorem PairSt.pure {n r c : Nat} {xs ys : List Int} {m g : List (List Int)} {mv bv : Value} {w wr w' : World} (h : PairSt n r c xs ys m mv bv w wr g) (hb : Below wr.heap.size wr w') : PairSt n r c xs ys m mv bv w w' g :=
  ⟨Own.grow (rOwn rIntV) h.mo (Nat.le_refl _) hb, Own.grow (rOwn rIntV) h.bo (Nat.le_refl _) hb, h.su, h.cur.keep hb, h.bel.trans (hb.mono (Nat.le_of_lt h.lt)), Nat.lt_of_lt_of_le h.lt hb.size⟩
theorem PairSt.draw {n r c : Nat} {xs ys : List Int} {m g : List (List Int)} {mv bv : Value} {w wr w' : World} (h : PairSt n r c xs ys m mv bv w wr g) (ho : Only (fun b => b = n) wr w') (hz : wr.heap.size = w'.heap.size) (hc : Cur n w' n) : PairSt n r c xs ys m mv bv w w' g := by
  have hs : SameOn (Iv (n + 1) wr.heap.size) wr w' := ho.same (fun b hb e => by have := hb.1; have e : b = n := e; omega) fun b hb => hb.2
  exact ⟨by rw [← hz]; exact (rOwn (rOwn rIntV)).same hs h.mo, by rw [← hz]; exact (rOwn (rOwn rIntV)).same hs h.bo, h.su, hc, h.bel.trans (ho.below (Nat.le_of_lt h.lt) fun b hb => by have hb : b = n := hb; omega), by rw [← hz]; exact h.lt⟩

set_option maxRecDepth 20000 in
set_option maxHeartbeats 2000000 in
theorem MakePair_c (v : Value) (bs : List Int) (w : World) (hv : Bytes w v bs) : Calls Try.prog 22 #[v] w fun e w' => ∃ (va vb : Value) (m g : List (List Int)) (r c : Nat), e = .returned (.tuple #[va, vb]) ∧ (1 ≤ r ∧ r ≤ 4) ∧ (1 ≤ c ∧ c ≤ 4) ∧ Shape r c m ∧ Sums (rowSumsOf m) (colSumsOf m) r c g ∧ Grid w' va m ∧ Grid w' vb g ∧ Below w.heap.size w w' := by
  go_enter Try.func22, Try.ntmps22
  go_wp2_with (fail)
  refine (l01New_c v bs _ hv).mono ?_
  rintro e w1 ⟨g, rfl, rfl, hcur, hbel, hsz⟩
  have Hsz := Lib.hid hsz
  clear hsz
  go_wp2_with (fail)
  refine (l02Draw_c w.heap.size w.heap.size 4 _ hcur (by decide) (by decide)).mono ?_
  rintro e w2 ⟨v2, m, r, c, rfl, ⟨hr1, hr4⟩, ⟨hc1, hc4⟩, hsh, hown2, hcur2, ho2⟩
  have s2 := ho2.size
  have hz2 : w.heap.size + 1 ≤ w2.heap.size := by rw [← Hsz.out]; exact s2
  have hb2 : Below w.heap.size w w2 := hbel.trans (ho2.below (by rw [Hsz.out]; omega) fun b hb => by subst hb; exact Nat.le_refl _)
  rw [Hsz.out] at hown2
  have Hml := Lib.hid (show m.length ≤ 1048576 from by have := hsh.1; omega)
  have HR := Lib.hid (show ∀ p ∈ m, p.length ≤ 1048576 from fun p hp => by have := (hsh.2 p hp).1; omega)
  go_wp2_with (fail)
  refine (l02Copy_c _ m _ hown2.grid Hml.out HR.out).mono ?_
  rintro e w3 ⟨v3, rfl, hown3, hbel3⟩
  have s3 := hbel3.size
  have hcur3 := hcur2.keep hbel3
  go_wp2_with (fail)
  refine (l01Below_c w.heap.size w.heap.size 6 _ hcur3 (by decide) (by decide)).mono ?_
  rintro e w4 ⟨k, ⟨hk0, hk1⟩, rfl, hcur4, ho4, hz4⟩
  have Hz4 := Lib.hid hz4
  clear hz4
  have hS := sums_of_image hsh hr1 (by omega) hc1 (by omega)
  have St0 : PairSt w.heap.size r c (rowSumsOf m) (colSumsOf m) m v2 v3 w w3 m :=
    ⟨Own.grow (rOwn rIntV) hown2 (Nat.le_refl _) hbel3, (rOwn (rOwn rIntV)).mono (fun b hb => ⟨by have := hb.1; omega, hb.2⟩) hown3, hS, hcur3, hb2.trans (hbel3.mono (by omega)), by omega⟩
  have St := Lib.hid (St0.draw ho4 Hz4.out hcur4)
  clear St0 hS hown2 hown3 hcur hbel hcur2 ho2 hb2 hcur3 hcur4 ho4 hbel3 s2 s3 hz2 Hml HR Hz4
  obtain ⟨K, rfl⟩ : ∃ K : Nat, k = K := ⟨k.toNat, by omega⟩
  have hK : K ≤ 5 := by omega
  have hr4' : r ≤ 4 := by omega
  have hc4' : c ≤ 4 := by omega
  clear hk0 hk1 hr4 hc4
  go_wp2
  go_loopw [6, 7, 8] (fun bv i _ wr => ∃ (k : Nat) (g : List (List Int)), k ≤ 5 ∧ i = .int .i64 k ∧ Hid (PairSt w.heap.size r c (rowSumsOf m) (colSumsOf m) m v2 bv w wr g)) (fun _ i _ _ => (intOf i).toNat)
  case atStart => exact ⟨K, m, hK, rfl, St⟩
  case round =>
    clear St
    obtain ⟨k, g, hk, rfl, St⟩ := hrel
    by_cases hk0 : 0 < k
    · have Hgr := Lib.hid St.out.bo.grid
      have hgs := St.out.su.1
      go_wp2_with (fail)
      refine (SwitchesOf_s _ g r c _ Hgr.out hgs hr1 (by omega) hc1 (by omega)).mono ?_
      rintro e w5 ⟨v5, rfl, o5, b5⟩
      have St5 := Lib.hid (St.out.pure b5)
      have hl36 := switchesOf_len4 hr4' hc4' g
      have Hmem := Lib.hid (fun s => (switchesOf_mem (r := r) (c := c) (g := g) (s := s)).1)
      obtain ⟨l, hl⟩ : ∃ l, l = switchesOf r c g := ⟨_, rfl⟩
      rw [← hl] at o5 hl36 Hmem
      have hwl := St.out.lt
      clear hl St
      by_cases hl0 : 0 < l.length
      · obtain ⟨gl, cl, rfl, hgl1, hgl2, hcl, hcells⟩ := o5.at hl0
        have Hc := Lib.hid hcells
        have hgl3 := St5.out.lt
        clear hcells o5
        go_wp2_with (fail)
        refine (l01Below_c w.heap.size w.heap.size l.length _ St5.out.cur (by omega) (by omega)).mono ?_
        rintro e w6 ⟨i, ⟨hi0, hi1⟩, rfl, hcur6, ho6, hz6⟩
        have Hz6 := Lib.hid hz6
        clear hz6
        have St6 := Lib.hid (St5.out.draw ho6 Hz6.out hcur6)
        obtain ⟨I, rfl⟩ : ∃ I : Nat, i = I := ⟨i.toNat, by omega⟩
        have hIl : I < l.length := by omega
        obtain ⟨s, hs⟩ : ∃ s, l[I]? = some s := ⟨_, List.getElem?_eq_getElem hIl⟩
        have hok := Hmem.out s (List.mem_of_getElem? hs)
        have hn6 : gl ≠ w.heap.size := by omega
        have c0 := (ho6.cell (p := ⟨gl, I * 4 + 0, none⟩) hgl2 hn6).trans (Hc.out I s hs 0 (.int .i64 s.1) rfl)
        have c1 := (ho6.cell (p := ⟨gl, I * 4 + 1, none⟩) hgl2 hn6).trans (Hc.out I s hs 1 (.int .i64 s.2.1) rfl)
        have c2 := (ho6.cell (p := ⟨gl, I * 4 + 2, none⟩) hgl2 hn6).trans (Hc.out I s hs 2 (.int .i64 s.2.2.1) rfl)
        have c3 := (ho6.cell (p := ⟨gl, I * 4 + 3, none⟩) hgl2 hn6).trans (Hc.out I s hs 3 (.int .i64 s.2.2.2) rfl)
        rw [Nat.add_zero] at c0
        have Hs := Lib.hid hs
        clear hs Hc Hmem hcur6 ho6
        go_wp2_with (fail)
        refine (l06Apply_c _ g r c s _ St6.out.bo.grid hgs hr1 (by omega) hc1 (by omega) hok).mono ?_
        rintro e w7 ⟨v7, rfl, o7, b7⟩
        have hw6 := St6.out.lt
        have St7 : PairSt w.heap.size r c (rowSumsOf m) (colSumsOf m) m v2 v7 w w7 (applyS g s) := by
          have h := St6.out.pure b7
          exact ⟨h.mo, (rOwn (rOwn rIntV)).mono (fun b hb => ⟨by have := hb.1; omega, hb.2⟩) o7, applyS_sums St6.out.su hok, h.cur, h.bel, h.lt⟩
        have St7 := Lib.hid St7
        clear c0 c1 c2 c3 o7
        go_wp2
        go_roundw
        case rel => exact ⟨k - 1, _, by omega, by go_num, St7⟩
        case measure => simp [intOf]; omega
      · obtain ⟨a5, c5, rfl⟩ := o5.shape
        have hl1 : l.length = 0 := by omega
        rw [hl1]
        clear o5 Hmem
        go_wp2
        go_roundw
        case rel => exact ⟨k - 1, _, by omega, by go_num, St5⟩
        case measure => simp [intOf]; omega
    · obtain rfl : k = 0 := by omega
      have hG := St.out.bo.grid
      have hM := St.out.mo.grid
      obtain ⟨m1, m2, m3, rfl⟩ := St.out.mo.shape
      obtain ⟨g1, g2, g3, rfl⟩ := St.out.bo.shape
      go_wp2
      exact bodyPost_ret (v := .tuple #[.slice m1 m2 m3, .slice g1 g2 g3]) (by simp [results, Try.results22, go_sem]) rfl ⟨_, _, m, g, r, c, rfl, ⟨hr1, hr4'⟩, ⟨hc1, hc4'⟩, hsh, St.out.su, hM, hG, St.out.bel⟩
end Go.Proofs.Ytliejhmlcdjpcaa

/- Contracts: a switch applied (l06Apply), MakePair. Contracts: SameSums, CountImages, before. Contracts: ApplySwitch and DistanceOf of the program. -/
import Derived.Test.YtlmjpmdkifoekaaDoorSw3
import Derived.Test.YtlmjpmdkifoekaaDoorKeyL
import Derived.Test.YtlmjpmdkifoekaaDoorC1
import Derived.Test.YtlmjpmdkifoekaaDoorDraw2
import Derived.Test.YtlmjpmdkifoekaaDoorE3
import Derived.Test.YtlmjpmdkifoekaaDoorC22
import Derived.Test.YtlmjpmdkifoekaaDoorC9
import Derived.BigQuiet
namespace Go.Proofs.YtlmjpmdkifoekaaDoor
open Go.RowKit


/-- the n-th cell of a switch -/
def posK (s : Sw) : Nat → Nat × Nat
  | 0 => (s.y1, s.x1)
  | 1 => (s.y1, s.x2)
  | 2 => (s.y2, s.x1)
  | _ => (s.y2, s.x2)
def flips (g : List (List Int)) (s : Sw) : Nat → List (List Int)
  | 0 => g
  | n + 1 => flipC (flips g s n) (posK s n).1 (posK s n).2
theorem flips_four (g : List (List Int)) (s : Sw) : flips g s 4 = applyS g s := rfl
theorem posK_lt {r c : Nat} {g : List (List Int)} {s : Sw} (hs : SwOk r c g s) (n : Nat) : (posK s n).1 < r ∧ (posK s n).2 < c := by
  obtain ⟨h1, h2, h3, h4, -⟩ := hs
  match n with
  | 0 => exact ⟨Nat.lt_trans h1 h2, Nat.lt_trans h3 h4⟩
  | 1 => exact ⟨Nat.lt_trans h1 h2, h4⟩
  | 2 => exact ⟨h2, Nat.lt_trans h3 h4⟩
  | _ + 3 => exact ⟨h2, h4⟩
theorem flips_shape {r c : Nat} {g : List (List Int)} {s : Sw} (h : Shape r c g) (hs : SwOk r c g s) : ∀ n, Shape r c (flips g s n)
  | 0 => h
  | n + 1 => flipC_shape (flips_shape h hs n) (posK_lt hs n).1
theorem flips_at {r c : Nat} {g : List (List Int)} {s : Sw} (h : Shape r c g) (hs : SwOk r c g s) : ∀ n, n < 4 → at2 (flips g s n) (posK s n).1 (posK s n).2 = at2 g (posK s n).1 (posK s n).2 := by
  have hs' := hs
  obtain ⟨h1, h2, h3, h4, -⟩ := hs'
  have key : ∀ n k, k ≤ n → n < 4 → at2 (flips g s k) (posK s n).1 (posK s n).2 = at2 g (posK s n).1 (posK s n).2 := by
    intro n k
    induction k with
    | zero => intro _ _; rfl
    | succ k ih =>
      intro hk hn
      show at2 (flipC (flips g s k) (posK s k).1 (posK s k).2) _ _ = _
      rw [flipC_at (flips_shape h hs k) (posK_lt hs k).1 (posK_lt hs k).2, if_neg, ih (by omega) hn]
      obtain ⟨a, b, x, y⟩ := s
      have h1 : a < b := h1
      have h3 : x < y := h3
      rcases (by omega : n = 1 ∧ k = 0 ∨ n = 2 ∧ k = 0 ∨ n = 2 ∧ k = 1 ∨ n = 3 ∧ k = 0 ∨ n = 3 ∧ k = 1 ∨ n = 3 ∧ k = 2) with ⟨rfl, rfl⟩ | ⟨rfl, rfl⟩ | ⟨rfl, rfl⟩ | ⟨rfl, rfl⟩ | ⟨rfl, rfl⟩ | ⟨rfl, rfl⟩ <;> (show ¬ (_ = _ ∧ _ = _)) <;> simp only [posK, Sw.y1, Sw.y2, Sw.x1, Sw.x2] <;> omega
  exact fun n hn => key n n (Nat.le_refl _) hn
def ysOf (s : Sw) : List Int := [s.y1, s.y2]
def xsOf (s : Sw) : List Int := [s.x1, s.x2]
theorem posK_two (s : Sw) {k j : Nat} (hk : k < 2) (hj : j < 2) : (ysOf s)[k]? = some ((posK s (2 * k + j)).1 : Int) ∧ (xsOf s)[j]? = some ((posK s (2 * k + j)).2 : Int) := by
  rcases (by omega : k = 0 ∧ j = 0 ∨ k = 0 ∧ j = 1 ∨ k = 1 ∧ j = 0 ∨ k = 1 ∧ j = 1) with ⟨rfl, rfl⟩ | ⟨rfl, rfl⟩ | ⟨rfl, rfl⟩ | ⟨rfl, rfl⟩ <;> exact ⟨rfl, rfl⟩
set_option maxHeartbeats 2000000 in
theorem l06Apply_c (v : Value) (m : List (List Int)) (r c : Nat) (s : Sw) (w : World) (hv : Grid w v m) (hs : Shape r c m) (hr1 : 1 ≤ r) (hr5 : r ≤ 5) (hc1 : 1 ≤ c) (hc5 : c ≤ 5) (hok : SwOk r c m s) : Calls Tryd.prog 84 #[v, SwV s.y1 s.y2 s.x1 s.x2] w (New 24 (Own 3 IntV) w (applyS m s)) := by
  obtain ⟨b, off, cp, rfl, hb, hcl⟩ := hv.cells hs hr1 hc1
  have Hcl := Lib.hid hcl
  have hbel := Below.pureAlloc w (.cells #[.int .i64 s.y1, .int .i64 s.y2, .int .i64 s.x1, .int .i64 s.x2] 62)
  have Hv1 := Lib.hid (hv.keep hbel)
  have Hk := Lib.hid (Blk.new w #[.int .i64 s.y1, .int .i64 s.y2, .int .i64 s.x1, .int .i64 s.x2] 62)
  have Hml := Lib.hid (show m.length ≤ 1048576 from by have := hs.1; omega)
  have HR := Lib.hid (show ∀ p ∈ m, p.length ≤ 1048576 from fun p hp => by have := (hs.2 p hp).1; omega)
  obtain ⟨y1, hy1⟩ : ∃ y1, y1 = s.y1 := ⟨_, rfl⟩
  obtain ⟨y2, hy2⟩ : ∃ y2, y2 = s.y2 := ⟨_, rfl⟩
  obtain ⟨x1, hx1⟩ : ∃ x1, x1 = s.x1 := ⟨_, rfl⟩
  obtain ⟨x2, hx2⟩ : ∃ x2, x2 = s.x2 := ⟨_, rfl⟩
  rw [← hy1, ← hy2, ← hx1, ← hx2] at Hk Hv1 hbel ⊢
  have Hy : Hid (ysOf s = [(y1 : Int), y2]) := Lib.hid (by rw [hy1, hy2]; rfl)
  have Hx : Hid (xsOf s = [(x1 : Int), x2]) := Lib.hid (by rw [hx1, hx2]; rfl)
  clear hcl hy1 hy2 hx1 hx2
  go_enter Tryd.func84, Tryd.ntmps84
  go_wp2_with (fail)
  refine (l02Copy_c _ m _ Hv1.out Hml.out HR.out).mono ?_
  rintro e w2 ⟨v2, rfl, o2, b2⟩
  have Hk2 := Lib.hid (Hk.out.keep b2)
  have bb2 : Below w.heap.size w w2 := hbel.trans_pure b2 (Nat.le_refl _)
  have hml := hs.1
  obtain ⟨G, cap, rfl, hG, hcap, hGl, -⟩ := o2.inv_ne (by omega)
  rw [hml] at o2 hcap ⊢
  have hz1 : (w.alloc (.cells #[.int .i64 y1, .int .i64 y2, .int .i64 x1, .int .i64 x2] 62)).heap.size = w.heap.size + 1 := by simp
  rw [hz1] at o2
  have hz2 : w.heap.size + 1 ≤ w2.heap.size := by rw [← hz1]; exact b2.size
  have k0 := Hk2.out.cell 0
  have k1 := Hk2.out.cell 1
  have k2 := Hk2.out.cell 2
  have k3 := Hk2.out.cell 3
  simp only [List.getElem?_toArray, List.getElem?_cons_zero, List.getElem?_cons_succ] at k0 k1 k2 k3
  have Ho2 := Lib.hid o2
  have Hl3 := Lib.hid (Blk.new w2 #[.int .i64 y1, .int .i64 y2] 3)
  have Hb3 := Lib.hid (Below.pureAlloc w2 (.cells #[.int .i64 y1, .int .i64 y2] 3))
  have hGa : w.heap.size + 1 ≤ G := by have := hG.1; rw [hz1] at this; exact this
  have hzz : w2.heap.size + 1 ≤ (w2.alloc (.cells #[.int .i64 y1, .int .i64 y2] 3)).heap.size := by simp
  have Ho3 := Lib.hid ((rOwn (rOwn rIntV)).same (sameOn_below Hb3.out fun b hb => hb.2) Ho2.out)
  have Hk3 := Lib.hid (Hk2.out.keep Hb3.out)
  have Hbb3 := Lib.hid (bb2.trans_pure Hb3.out (Nat.le_refl _))
  clear o2 hml hG hz1 Ho2 Hb3 bb2 Hk2 b2 Hk
  have Hsok := Lib.hid hok
  clear hok
  go_wp2
  clear k0 k1 k2 k3
  go_loopw [7, 9, 18] (fun _ _ i wr => ∃ k : Nat, k ≤ 2 ∧ i = .int .i64 k ∧ Hid (Own 24 (Own 3 IntV) (Iv (w.heap.size + 1) w2.heap.size) wr (.slice (some ⟨G, 0, none⟩) r cap) (flips m s (2 * k))) ∧ Hid (Blk wr w.heap.size #[.int .i64 y1, .int .i64 y2, .int .i64 x1, .int .i64 x2] 62) ∧ Hid (Blk wr w2.heap.size #[.int .i64 y1, .int .i64 y2] 3) ∧ Hid (Below w.heap.size w wr) ∧ w2.heap.size + 1 ≤ wr.heap.size) (fun _ _ i _ => 2 - (intOf i).toNat)
  case atStart => exact ⟨0, Nat.zero_le _, rfl, Ho3, Hk3, Hl3, Hbb3, hzz⟩
  case round =>
    clear Ho3 Hk3 Hl3 Hbb3 hzz
    obtain ⟨k, hk, rfl, Ho, Hkb, Hlb, Hbe, hz⟩ := hrel
    by_cases hlt : k < 2
    · obtain ⟨Y, hY⟩ : ∃ Y, Y = (posK s (2 * k + 0)).1 := ⟨_, rfl⟩
      have hYv := (posK_two s (j := 0) hlt (by decide)).1
      rw [Hy.out, ← hY] at hYv
      have hYr : Y < r := by rw [hY]; exact (posK_lt Hsok.out _).1
      have hY1 : Y = (posK s (2 * k + 1)).1 := by rw [hY]; rcases (by omega : k = 0 ∨ k = 1) with rfl | rfl <;> rfl
      have hcY : wr.cell? ⟨w2.heap.size, k, none⟩ = some (.int .i64 Y) := by
        rw [Hlb.out.cell k]
        rcases (by omega : k = 0 ∨ k = 1) with rfl | rfl <;> simpa using hYv
      have k2 := Hkb.out.cell 2
      have k3 := Hkb.out.cell 3
      simp only [List.getElem?_toArray, List.getElem?_cons_zero, List.getElem?_cons_succ] at k2 k3
      have HY := Lib.hid hY
      have HY1 := Lib.hid hY1
      clear hY hY1 hYv
      have Hl4 := Lib.hid (Blk.new wr #[.int .i64 x1, .int .i64 x2] 3)
      have Hb4 := Lib.hid (Below.pureAlloc wr (.cells #[.int .i64 x1, .int .i64 x2] 3))
      have hzz : wr.heap.size + 1 ≤ (wr.alloc (.cells #[.int .i64 x1, .int .i64 x2] 3)).heap.size := by simp
      have Ho4 := Lib.hid ((rOwn (rOwn rIntV)).same (sameOn_below Hb4.out fun b hb => by have := hb.2; omega) Ho.out)
      have Hk4 := Lib.hid (Hkb.out.keep Hb4.out)
      have Hlb4 := Lib.hid (Hlb.out.keep Hb4.out)
      have Hbb4 := Lib.hid (Hbe.out.trans_pure Hb4.out (Nat.le_refl _))
      clear Ho Hkb Hlb Hbe Hb4
      obtain ⟨L, hL⟩ : ∃ L, L = wr.heap.size := ⟨_, rfl⟩
      rw [← hL] at Hl4 hz hzz
      have HL := Lib.hid hL
      clear hL
      go_wp2
      rw [← HL.out]
      clear hcY k2 k3
      go_loopw [9, 28] (fun _ i wr => ∃ j : Nat, j ≤ 2 ∧ i = .int .i64 j ∧ Hid (Own 24 (Own 3 IntV) (Iv (w.heap.size + 1) w2.heap.size) wr (.slice (some ⟨G, 0, none⟩) r cap) (flips m s (2 * k + j))) ∧ Hid (Blk wr w.heap.size #[.int .i64 y1, .int .i64 y2, .int .i64 x1, .int .i64 x2] 62) ∧ Hid (Blk wr w2.heap.size #[.int .i64 y1, .int .i64 y2] 3) ∧ Hid (Blk wr L #[.int .i64 x1, .int .i64 x2] 3) ∧ Hid (Below w.heap.size w wr) ∧ L + 1 ≤ wr.heap.size) (fun _ i _ => 2 - (intOf i).toNat)
      case atStart => exact ⟨0, Nat.zero_le _, rfl, Ho4, Hk4, Hlb4, Hl4, Hbb4, hzz⟩
      case round =>
        clear Ho4 Hk4 Hlb4 Hl4 Hbb4 hzz
        obtain ⟨j, hj, rfl, Ho, Hkb, Hlb, Hlx, Hbe, hz2⟩ := hrel
        by_cases hlt2 : j < 2
        · obtain ⟨X, hX⟩ : ∃ X, X = (posK s (2 * k + j)).2 := ⟨_, rfl⟩
          have hYj : Y = (posK s (2 * k + j)).1 := by
            rcases (by omega : j = 0 ∨ j = 1) with rfl | rfl
            · exact HY.out
            · exact HY1.out
          have hXv := (posK_two s hlt hlt2).2
          rw [Hx.out, ← hX] at hXv
          have hXc : X < c := by rw [hX]; exact (posK_lt Hsok.out _).2
          have hcX : wr.cell? ⟨L, j, none⟩ = some (.int .i64 X) := by
            rw [Hlx.out.cell j]
            rcases (by omega : j = 0 ∨ j = 1) with rfl | rfl <;> simpa using hXv
          have hfs := flips_shape hs Hsok.out (2 * k + j)
          obtain ⟨row, hrow, hrl, -⟩ := hfs.row hYr
          obtain ⟨q, cq, hcell, -, hq, hqG, hcq, hxs, -, hset⟩ := own_grid_cell Ho.out hrow (by omega)
          obtain ⟨⟨o0, hco⟩, hfo⟩ := hxs X (by omega)
          obtain ⟨br, offr, cpr, hmY, hbr, hmX⟩ := Hcl.out Y hYr
          have hmX := hmX X hXc
          have hmY' := (Hbe.out.cell (p := ⟨b, off + Y, none⟩) hb).trans hmY
          have hmX' := (Hbe.out.cell (p := ⟨br, offr + X, none⟩) hbr).trans hmX
          have hzb := at2_bits hs Y X
          obtain ⟨z, hz'⟩ : ∃ z, z = at2 m Y X := ⟨_, rfl⟩
          rw [← hz'] at hmX' hzb
          have Hnew := Lib.hid (show Own 24 (Own 3 IntV) (Iv (w.heap.size + 1) w2.heap.size) (wr.setCell ⟨q, X, none⟩ (.int .i64 (1 - z))) (.slice (some ⟨G, 0, none⟩) r cap) (flips m s (2 * k + (j + 1))) from by
            have h := hset wr (fun _ _ => rfl) X (1 - z) (by omega) (I64.small (by omega) (by omega))
            have e : flips m s (2 * k + (j + 1)) = (flips m s (2 * k + j)).set Y (row.set X (1 - z)) := by
              show flipC (flips m s (2 * k + j)) (posK s (2 * k + j)).1 (posK s (2 * k + j)).2 = _
              rw [← hYj, ← hX]
              unfold flipC setC
              have hat := flips_at hs Hsok.out (2 * k + j) (by omega)
              rw [← hYj, ← hX] at hat
              rw [hat, ← hz', List.getD_eq_getElem?_getD, hrow]; rfl
            rw [e]; exact h)
          have hqn : q ≠ w.heap.size := by have := hq.1; omega
          have hqn2 : q ≠ w2.heap.size := by have := hq.2; omega
          have hqn3 : q ≠ L := by have := hq.2; omega
          have Hkb2 := Lib.hid (Hkb.out.set_ne (g' := q) (j := X) hqn.symm (.int .i64 (1 - z)))
          have Hlb2 := Lib.hid (Hlb.out.set_ne (g' := q) (j := X) hqn2.symm (.int .i64 (1 - z)))
          have Hlx2 := Lib.hid (Hlx.out.set_ne (g' := q) (j := X) hqn3.symm (.int .i64 (1 - z)))
          have Hbe2 := Lib.hid (Hbe.out.setCell (p := ⟨q, X, none⟩) (by have := hq.1; show w.heap.size ≤ q; omega) (.int .i64 (1 - z)))
          rw [hrl] at hcell
          clear hX hYj hXv hfs hrow hrl hxs hset hmY hmX hz' Ho Hkb Hlb Hlx Hbe
          go_wp2
          go_region
          all_goals go_wp2
          all_goals go_roundw
          all_goals first
            | (case measure => simp [intOf]; omega)
            | (case rel => exact ⟨j + 1, by omega, by go_num, Lib.hid (by exact Hnew.out), Lib.hid (by exact Hkb2.out), Lib.hid (by exact Hlb2.out), Lib.hid (by exact Hlx2.out), Lib.hid ⟨Hbe2.out.os, Hbe2.out.tape, Hbe2.out.output, Hbe2.out.size, Hbe2.out.block⟩, by first | exact hz2 | (simp; exact hz2) | (rw [size_setCell]; exact hz2)⟩)
        · obtain rfl : j = 2 := by omega
          go_wp2
          go_roundw
          case rel => exact ⟨k + 1, by omega, by go_num, Lib.hid (by have := Ho.out; rwa [show 2 * (k + 1) = 2 * k + 2 from by omega]), Hkb, Hlb, Hbe, by omega⟩
          case measure => simp [intOf]; omega
    · obtain rfl : k = 2 := by omega
      go_wp2
      go_ret
      exact ⟨_, rfl, by rw [← flips_four]; exact (rOwn (rOwn rIntV)).mono (fun b hb => ⟨by have := hb.1; omega, by have := hb.2; omega⟩) Ho.out, Hbe.out⟩


theorem allSw_len4 : ∀ r, r < 5 → ∀ c, c < 5 → (allSw r c).length ≤ 36 := by decide +kernel
theorem switchesOf_len4 {r c : Nat} (hr : r ≤ 4) (hc : c ≤ 4) (g : List (List Int)) : (switchesOf r c g).length ≤ 36 := Nat.le_trans (List.length_filter_le _ _) (allSw_len4 r (by omega) c (by omega))

structure PairSt (n r c : Nat) (xs ys : List Int) (m : List (List Int)) (mv bv : Value) (w wr : World) (g : List (List Int)) : Prop where
  mo : Own 24 (Own 3 IntV) (Iv (n + 1) wr.heap.size) wr mv m
  bo : Own 24 (Own 3 IntV) (Iv (n + 1) wr.heap.size) wr bv g
  su : Sums xs ys r c g
  cur : Cur n wr n
  bel : Below n w wr
  lt : n < wr.heap.size
theorem PairSt.pure {n r c : Nat} {xs ys : List Int} {m g : List (List Int)} {mv bv : Value} {w wr w' : World} (h : PairSt n r c xs ys m mv bv w wr g) (hb : Below wr.heap.size wr w') : PairSt n r c xs ys m mv bv w w' g :=
  ⟨Own.grow (rOwn rIntV) h.mo (Nat.le_refl _) hb, Own.grow (rOwn rIntV) h.bo (Nat.le_refl _) hb, h.su, h.cur.keep hb, h.bel.trans (hb.mono (Nat.le_of_lt h.lt)), Nat.lt_of_lt_of_le h.lt hb.size⟩
theorem PairSt.draw {n r c : Nat} {xs ys : List Int} {m g : List (List Int)} {mv bv : Value} {w wr w' : World} (h : PairSt n r c xs ys m mv bv w wr g) (ho : Only (fun b => b = n) wr w') (hz : wr.heap.size = w'.heap.size) (hc : Cur n w' n) : PairSt n r c xs ys m mv bv w w' g := by
  have hs : SameOn (Iv (n + 1) wr.heap.size) wr w' := ho.same (fun b hb e => by have := hb.1; have e : b = n := e; omega) fun b hb => hb.2
  exact ⟨by rw [← hz]; exact (rOwn (rOwn rIntV)).same hs h.mo, by rw [← hz]; exact (rOwn (rOwn rIntV)).same hs h.bo, h.su, hc, h.bel.trans (ho.below (Nat.le_of_lt h.lt) fun b hb => by have hb : b = n := hb; omega), by rw [← hz]; exact h.lt⟩

set_option maxRecDepth 20000 in
set_option maxHeartbeats 2000000 in
theorem MakePair_c (v : Value) (bs : List Int) (w : World) (hv : Bytes w v bs) : Calls Tryd.prog 37 #[v] w fun e w' => ∃ (va vb : Value) (m g : List (List Int)) (r c : Nat), e = .returned (.tuple #[va, vb]) ∧ (1 ≤ r ∧ r ≤ 4) ∧ (1 ≤ c ∧ c ≤ 4) ∧ Shape r c m ∧ Sums (rowSumsOf m) (colSumsOf m) r c g ∧ Grid w' va m ∧ Grid w' vb g ∧ Below w.heap.size w w' := by
  go_enter Tryd.func37, Tryd.ntmps37
  go_wp2_with (fail)
  refine (l01New_c v bs _ hv).mono ?_
  rintro e w1 ⟨g, rfl, rfl, hcur, hbel, hsz⟩
  have Hsz := Lib.hid hsz
  clear hsz
  go_wp2_with (fail)
  refine (l02Draw_c w.heap.size w.heap.size 4 _ hcur (by decide) (by decide)).mono ?_
  rintro e w2 ⟨v2, m, r, c, rfl, ⟨hr1, hr4⟩, ⟨hc1, hc4⟩, hsh, hown2, hcur2, ho2⟩
  have s2 := ho2.size
  have hz2 : w.heap.size + 1 ≤ w2.heap.size := by rw [← Hsz.out]; exact s2
  have hb2 : Below w.heap.size w w2 := hbel.trans (ho2.below (by rw [Hsz.out]; omega) fun b hb => by subst hb; exact Nat.le_refl _)
  rw [Hsz.out] at hown2
  have Hml := Lib.hid (show m.length ≤ 1048576 from by have := hsh.1; omega)
  have HR := Lib.hid (show ∀ p ∈ m, p.length ≤ 1048576 from fun p hp => by have := (hsh.2 p hp).1; omega)
  go_wp2_with (fail)
  refine (l02Copy_c _ m _ hown2.grid Hml.out HR.out).mono ?_
  rintro e w3 ⟨v3, rfl, hown3, hbel3⟩
  have s3 := hbel3.size
  have hcur3 := hcur2.keep hbel3
  go_wp2_with (fail)
  refine (l01Below_c w.heap.size w.heap.size 6 _ hcur3 (by decide) (by decide)).mono ?_
  rintro e w4 ⟨k, ⟨hk0, hk1⟩, rfl, hcur4, ho4, hz4⟩
  have Hz4 := Lib.hid hz4
  clear hz4
  have hS := sums_of_image hsh hr1 (by omega) hc1 (by omega)
  have St0 : PairSt w.heap.size r c (rowSumsOf m) (colSumsOf m) m v2 v3 w w3 m :=
    ⟨Own.grow (rOwn rIntV) hown2 (Nat.le_refl _) hbel3, (rOwn (rOwn rIntV)).mono (fun b hb => ⟨by have := hb.1; omega, hb.2⟩) hown3, hS, hcur3, hb2.trans (hbel3.mono (by omega)), by omega⟩
  have St := Lib.hid (St0.draw ho4 Hz4.out hcur4)
  clear St0 hS hown2 hown3 hcur hbel hcur2 ho2 hb2 hcur3 hcur4 ho4 hbel3 s2 s3 hz2 Hml HR Hz4
  obtain ⟨K, rfl⟩ : ∃ K : Nat, k = K := ⟨k.toNat, by omega⟩
  have hK : K ≤ 5 := by omega
  have hr4' : r ≤ 4 := by omega
  have hc4' : c ≤ 4 := by omega
  clear hk0 hk1 hr4 hc4
  go_wp2
  go_loopw [6, 7, 8] (fun bv i _ wr => ∃ (k : Nat) (g : List (List Int)), k ≤ 5 ∧ i = .int .i64 k ∧ Hid (PairSt w.heap.size r c (rowSumsOf m) (colSumsOf m) m v2 bv w wr g)) (fun _ i _ _ => (intOf i).toNat)
  case atStart => exact ⟨K, m, hK, rfl, St⟩
  case round =>
    clear St
    obtain ⟨k, g, hk, rfl, St⟩ := hrel
    by_cases hk0 : 0 < k
    · have Hgr := Lib.hid St.out.bo.grid
      have hgs := St.out.su.1
      go_wp2_with (fail)
      refine (SwitchesOf_s _ g r c _ Hgr.out hgs hr1 (by omega) hc1 (by omega)).mono ?_
      rintro e w5 ⟨v5, rfl, o5, b5⟩
      have St5 := Lib.hid (St.out.pure b5)
      have hl36 := switchesOf_len4 hr4' hc4' g
      have Hmem := Lib.hid (fun s => (switchesOf_mem (r := r) (c := c) (g := g) (s := s)).1)
      obtain ⟨l, hl⟩ : ∃ l, l = switchesOf r c g := ⟨_, rfl⟩
      rw [← hl] at o5 hl36 Hmem
      have hwl := St.out.lt
      clear hl St
      by_cases hl0 : 0 < l.length
      · obtain ⟨gl, cl, rfl, hgl1, hgl2, hcl, hcells⟩ := o5.at hl0
        have Hc := Lib.hid hcells
        have hgl3 := St5.out.lt
        clear hcells o5
        go_wp2_with (fail)
        refine (l01Below_c w.heap.size w.heap.size l.length _ St5.out.cur (by omega) (by omega)).mono ?_
        rintro e w6 ⟨i, ⟨hi0, hi1⟩, rfl, hcur6, ho6, hz6⟩
        have Hz6 := Lib.hid hz6
        clear hz6
        have St6 := Lib.hid (St5.out.draw ho6 Hz6.out hcur6)
        obtain ⟨I, rfl⟩ : ∃ I : Nat, i = I := ⟨i.toNat, by omega⟩
        have hIl : I < l.length := by omega
        obtain ⟨s, hs⟩ : ∃ s, l[I]? = some s := ⟨_, List.getElem?_eq_getElem hIl⟩
        have hok := Hmem.out s (List.mem_of_getElem? hs)
        have hn6 : gl ≠ w.heap.size := by omega
        have c0 := (ho6.cell (p := ⟨gl, I * 4 + 0, none⟩) hgl2 hn6).trans (Hc.out I s hs 0 (.int .i64 s.1) rfl)
        have c1 := (ho6.cell (p := ⟨gl, I * 4 + 1, none⟩) hgl2 hn6).trans (Hc.out I s hs 1 (.int .i64 s.2.1) rfl)
        have c2 := (ho6.cell (p := ⟨gl, I * 4 + 2, none⟩) hgl2 hn6).trans (Hc.out I s hs 2 (.int .i64 s.2.2.1) rfl)
        have c3 := (ho6.cell (p := ⟨gl, I * 4 + 3, none⟩) hgl2 hn6).trans (Hc.out I s hs 3 (.int .i64 s.2.2.2) rfl)
        rw [Nat.add_zero] at c0
        have Hs := Lib.hid hs
        clear hs Hc Hmem hcur6 ho6
        go_wp2_with (fail)
        refine (l06Apply_c _ g r c s _ St6.out.bo.grid hgs hr1 (by omega) hc1 (by omega) hok).mono ?_
        rintro e w7 ⟨v7, rfl, o7, b7⟩
        have hw6 := St6.out.lt
        have St7 : PairSt w.heap.size r c (rowSumsOf m) (colSumsOf m) m v2 v7 w w7 (applyS g s) := by
          have h := St6.out.pure b7
          exact ⟨h.mo, (rOwn (rOwn rIntV)).mono (fun b hb => ⟨by have := hb.1; omega, hb.2⟩) o7, applyS_sums St6.out.su hok, h.cur, h.bel, h.lt⟩
        have St7 := Lib.hid St7
        clear c0 c1 c2 c3 o7
        go_wp2
        go_roundw
        case rel => exact ⟨k - 1, _, by omega, by go_num, St7⟩
        case measure => simp [intOf]; omega
      · obtain ⟨a5, c5, rfl⟩ := o5.shape
        have hl1 : l.length = 0 := by omega
        rw [hl1]
        clear o5 Hmem
        go_wp2
        go_roundw
        case rel => exact ⟨k - 1, _, by omega, by go_num, St5⟩
        case measure => simp [intOf]; omega
    · obtain rfl : k = 0 := by omega
      have hG := St.out.bo.grid
      have hM := St.out.mo.grid
      obtain ⟨m1, m2, m3, rfl⟩ := St.out.mo.shape
      obtain ⟨g1, g2, g3, rfl⟩ := St.out.bo.shape
      go_wp2
      exact bodyPost_ret (v := .tuple #[.slice m1 m2 m3, .slice g1 g2 g3]) (by simp [results, Tryd.results37, go_sem]) rfl ⟨_, _, m, g, r, c, rfl, ⟨hr1, hr4'⟩, ⟨hc1, hc4'⟩, hsh, St.out.su, hM, hG, St.out.bel⟩
end Go.Proofs.YtlmjpmdkifoekaaDoor

namespace Go.Proofs.YtlmjpmdkifoekaaDoor
open Go.RowKit

theorem CountImages_i (v v2 : Value) (xs ys : List Int) (w : World) (hv : Ints w v xs) (hv2 : Ints w v2 ys) (hok : sumsOk xs ys = true) : Calls Tryd.prog 43 #[v, v2] w fun e w' => e = .returned (.int .i64 (allImgs xs ys).length) ∧ Below w.heap.size w w' := by
  have Hv := Lib.hid hv
  have Hv2 := Lib.hid hv2
  have Hok := Lib.hid hok
  obtain ⟨a, cap, rfl, -⟩ := hv
  obtain ⟨a2, cap2, rfl, -⟩ := hv2
  clear hok
  go_enter Tryd.func43, Tryd.ntmps43
  go_wp2_with (fail)
  refine (AllImages_i _ _ _ _ _ Hv.out Hv2.out).mono ?_
  rintro e w1 ⟨v1, rfl, o1, b1⟩
  rw [Hok.out]
  rw [show imgsOf xs ys = allImgs xs ys from by unfold imgsOf; rw [Hok.out]; rfl] at o1
  obtain ⟨p1, p2, p3, rfl⟩ := o1.shape
  have hl := o1.grids.len
  subst hl
  clear o1
  go_wp2
  go_ret
  exact ⟨rfl, b1⟩

set_option maxHeartbeats 1000000 in
theorem sameSize_t (v v2 : Value) (m g : List (List Int)) (r c : Nat) (w : World) (hv : Grid w v m) (hv2 : Grid w v2 g) (hs : Shape r c m) (hs2 : Shape r c g) (hr1 : 1 ≤ r) (hr5 : r ≤ 5) (hc1 : 1 ≤ c) (hc5 : c ≤ 5) : Calls Tryd.prog 120 #[v, v2] w fun e w' => e = .returned (.bool true) ∧ Below w.heap.size w w' := by
  have hrow := fun {q : List (List Int)} (h : Shape r c q) => h.row (y := 0) (by omega)
  obtain ⟨r1, hr1', hl1, -⟩ := hrow hs
  obtain ⟨r2, hr2', hl2, -⟩ := hrow hs2
  obtain ⟨b, off, cp, rfl, hb, -⟩ := hv.inv_ne (by have := hs.1; omega)
  obtain ⟨b2, off2, cp2, rfl, hb2, -⟩ := hv2.inv_ne (by have := hs2.1; omega)
  obtain ⟨u, hck, hu⟩ := Sl.at hv hr1'
  obtain ⟨u2, hck2, hu2⟩ := Sl.at hv2 hr2'
  obtain ⟨a1, k1, rfl, -⟩ := hu
  obtain ⟨a2, k2, rfl, -⟩ := hu2
  rw [Nat.add_zero, hl1] at hck
  rw [Nat.add_zero, hl2] at hck2
  have hml := hs.1
  have hgl := hs2.1
  rw [hml] at hv ⊢
  rw [hgl] at hv2 ⊢
  have Hq1 := Lib.hid (show ∀ n, Calls Tryd.prog 55 #[.slice (some ⟨b, off, none⟩) r cp] (w.drewN n) fun e w' => e = .returned (.bool true) ∧ w' = w.drewN n from fun n => (ImageOk_i _ m (w.drewN n) (Grid.keep hv (below_drewN (Below.refl _ _) n))).mono fun e w' ⟨he, hw⟩ => ⟨by rw [he, hs.ok hr1 hr5 hc1 hc5], hw.symm⟩)
  have Hq2 := Lib.hid (show ∀ n, Calls Tryd.prog 55 #[.slice (some ⟨b2, off2, none⟩) r cp2] (w.drewN n) fun e w' => e = .returned (.bool true) ∧ w' = w.drewN n from fun n => (ImageOk_i _ g (w.drewN n) (Grid.keep hv2 (below_drewN (Below.refl _ _) n))).mono fun e w' ⟨he, hw⟩ => ⟨by rw [he, hs2.ok hr1 hr5 hc1 hc5], hw.symm⟩)
  clear hrow hr1' hr2' hl1 hl2 hml hgl hv hv2
  go_enter Tryd.func120, Tryd.ntmps120
  go_wp2
  go_quiet ((first | (go_at_call 55; with_reducible exact Calls.quiet_of_same (Hq1.out _)) | (go_at_call 55; with_reducible exact Calls.quiet_of_same (Hq2.out _))))
  go_wp2
  go_ret
  exact ⟨rfl, below_drewN (Below.refl _ _) _⟩
theorem SameSums_t (v v2 : Value) (m g : List (List Int)) (r c : Nat) (w : World) (hv : Grid w v m) (hv2 : Grid w v2 g) (hs : Shape r c m) (hs2 : Shape r c g) (hr1 : 1 ≤ r) (hr5 : r ≤ 5) (hc1 : 1 ≤ c) (hc5 : c ≤ 5) (e1 : rowSumsOf m = rowSumsOf g) (e2 : colSumsOf m = colSumsOf g) : Calls Tryd.prog 85 #[v, v2] w fun e w' => e = .returned (.bool true) ∧ Below w.heap.size w w' := by
  have Hv := Lib.hid hv
  have Hv2 := Lib.hid hv2
  obtain ⟨a, cap, rfl, -⟩ := hv
  obtain ⟨a2, cap2, rfl, -⟩ := hv2
  have E1 := Lib.hid e1
  have E2 := Lib.hid e2
  clear e1 e2
  go_enter Tryd.func85, Tryd.ntmps85
  go_wp2_with (fail)
  refine (sameSize_t _ _ m g r c _ Hv.out Hv2.out hs hs2 hr1 hr5 hc1 hc5).mono ?_
  rintro e w1 ⟨rfl, b1⟩
  go_wp2_with (fail)
  refine (RowSums_i _ _ _ (Hv.out.keep b1)).mono ?_
  rintro e w2 ⟨v3, rfl, o3, b2⟩
  have bb2 := b1.trans_pure b2 (Nat.le_refl _)
  have Ho3 := Lib.hid o3.ints; clear o3
  go_wp2_with (fail)
  refine (RowSums_i _ _ _ (Hv2.out.keep bb2)).mono ?_
  rintro e w3 ⟨v4, rfl, o4, b3⟩
  have bb3 := bb2.trans_pure b3 (Nat.le_refl _)
  have Ho4 := Lib.hid o4.ints; clear o4
  go_wp2_with (fail)
  refine (Equal_q _ _ _ _ _ (Ho3.out.keep b3) Ho4.out).mono ?_
  rintro e w4 ⟨rfl, n4, hw4⟩
  have b4 : Below w3.heap.size w3 w4 := by rw [hw4]; exact below_drewN (Below.refl _ _) n4
  clear hw4
  rw [decide_eq_true E1.out]
  have bb4 := bb3.trans_pure b4 (Nat.le_refl _)
  go_wp2_with (fail)
  refine (ColSums_i _ _ _ (Hv.out.keep bb4)).mono ?_
  rintro e w5 ⟨v5, rfl, o5, b5⟩
  have bb5 := bb4.trans_pure b5 (Nat.le_refl _)
  have Ho5 := Lib.hid o5.ints; clear o5
  go_wp2_with (fail)
  refine (ColSums_i _ _ _ (Hv2.out.keep bb5)).mono ?_
  rintro e w6 ⟨v6, rfl, o6, b6⟩
  have bb6 := bb5.trans_pure b6 (Nat.le_refl _)
  have Ho6 := Lib.hid o6.ints; clear o6
  go_wp2_with (fail)
  refine (Equal_q _ _ _ _ _ (Ho5.out.keep b6) Ho6.out).mono ?_
  rintro e w7 ⟨rfl, n7, hw7⟩
  have b7 : Below w6.heap.size w6 w7 := by rw [hw7]; exact below_drewN (Below.refl _ _) n7
  clear hw7
  rw [decide_eq_true E2.out]
  have bb7 := bb6.trans_pure b7 (Nat.le_refl _)
  go_wp2
  go_ret
  exact ⟨rfl, bb7⟩

theorem lessL_of : ∀ {a b : List Int} {x : Nat} {p q : Int}, (∀ i, i < x → a[i]? = b[i]?) → a[x]? = some p → b[x]? = some q → p < q → lessL a b = true
  | [], _, _, _, _, _, ha, _, _ => by simp at ha
  | _ :: _, [], _, _, _, _, _, hb, _ => by simp at hb
  | u :: al, z :: bl, 0, p, q, _, ha, hb, h => by
    simp at ha hb
    subst ha; subst hb
    have hne : u ≠ z := by omega
    simp [lessL, hne, h]
  | u :: al, z :: bl, x + 1, p, q, hx, ha, hb, h => by
    have h0 := hx 0 (by omega)
    simp at h0
    subst h0
    have := lessL_of (a := al) (b := bl) (x := x) (p := p) (q := q) (fun i hi => by simpa using hx (i + 1) (by omega)) (by simpa using ha) (by simpa using hb) h
    simpa [lessL] using this

set_option maxHeartbeats 1000000 in
theorem before_t (v v2 : Value) (m g : List (List Int)) (r c : Nat) (w : World) (hv : Grid w v m) (hv2 : Grid w v2 g) (hs : Shape r c m) (hs2 : Shape r c g) (hr1 : 1 ≤ r) (hr5 : r ≤ 5) (hlt : GLt r c m g) : Calls Tryd.prog 25 #[v, v2] w fun e w' => e = .returned (.bool true) ∧ Below w.heap.size w w' := by
  obtain ⟨y, x, hy, hx, hag, hxy⟩ := hlt
  have hml := hs.1
  have hgl := hs2.1
  obtain ⟨b, off, cp, rfl, hb, -⟩ := hv.inv_ne (by omega)
  obtain ⟨b2, off2, cp2, rfl, hb2, -⟩ := hv2.inv_ne (by omega)
  rw [hml] at hv ⊢
  rw [hgl] at hv2 ⊢
  have Hv := Lib.hid hv
  have Hv2 := Lib.hid hv2
  have Hag := Lib.hid hag
  have Hxy := Lib.hid hxy
  clear hml hgl hv hv2 hag hxy
  go_enter Tryd.func25, Tryd.ntmps25
  go_wp2
  go_loopw [5, 6, 9] (fun _ _ i wr => ∃ k : Nat, k ≤ y ∧ i = .int .i64 k ∧ Hid (Below w.heap.size w wr)) (fun _ _ i _ => r - (intOf i).toNat)
  case atStart => exact ⟨0, Nat.zero_le _, rfl, Below.refl _ _⟩
  case round =>
    obtain ⟨k, hk, rfl, Hb⟩ := hrel
    have hkr : k < r := by omega
    obtain ⟨ra, hra, hral, -⟩ := hs.row hkr
    obtain ⟨rb, hrb, hrbl, -⟩ := hs2.row hkr
    have Hv' := Hv.out.keep Hb.out
    have Hv2' := Hv2.out.keep Hb.out
    obtain ⟨u, hck, hu⟩ := Sl.at Hv' hra
    obtain ⟨u2, hck2, hu2⟩ := Sl.at Hv2' hrb
    have Hu := Lib.hid (show Ints wr u ra from hu)
    have Hu2 := Lib.hid (show Ints wr u2 rb from hu2)
    obtain ⟨a1, k1, rfl, -⟩ := hu
    obtain ⟨a2, k2, rfl, -⟩ := hu2
    have hd : decide ((k : Int) < (r : Int)) = true := by simp; omega
    have hat : ∀ j, j < c → ra[j]? = some (at2 m k j) ∧ rb[j]? = some (at2 g k j) := fun j hj => by
      refine ⟨?_, ?_⟩
      · unfold at2
        rw [List.getD_eq_getElem?_getD (l := m), hra]
        exact gD_at 0 (by show j < ra.length; omega)
      · unfold at2
        rw [List.getD_eq_getElem?_getD (l := g), hrb]
        exact gD_at 0 (by show j < rb.length; omega)
    have Hat := Lib.hid hat
    rw [hral] at hck
    rw [hrbl] at hck2
    clear hra hrb hat Hv' Hv2'
    have Hral := Lib.hid hral
    have Hrbl := Lib.hid hrbl
    clear hral hrbl
    by_cases hky : k < y
    · have he : ra = rb := List.ext_getElem? fun j => by
        by_cases hj : j < c
        · rw [(Hat.out j hj).1, (Hat.out j hj).2, Hag.out k j (.inl hky)]
        · rw [List.getElem?_eq_none (by have := Hral.out; omega), List.getElem?_eq_none (by have := Hrbl.out; omega)]
      have He := Lib.hid he
      clear he
      rw [Hral.out] at Hu
      rw [Hrbl.out] at Hu2
      go_wp2_with (fail)
      refine (same_q _ _ _ _ _ Hu.out Hu2.out).mono ?_
      rintro e w4 ⟨rfl, n4, hw4⟩
      have b4 : Below wr.heap.size wr w4 := by rw [hw4]; exact below_drewN (Below.refl _ _) n4
      clear hw4
      rw [decide_eq_true He.out]
      have Hb4 := Lib.hid (Hb.out.trans_pure b4 (Nat.le_refl _))
      go_wp2
      go_roundw
      case rel => exact ⟨k + 1, by omega, by go_num, Hb4⟩
      case measure => simp [intOf]; omega
    · obtain rfl : k = y := by omega
      have Hne := Lib.hid (show ra ≠ rb from fun e => by
        have h1 := (Hat.out x hx).1
        rw [e, (Hat.out x hx).2] at h1
        have := Option.some.inj h1
        have := Hxy.out
        omega)
      have Hls := Lib.hid (show lessL ra rb = true from lessL_of (x := x) (fun j hj => by rw [(Hat.out j (by omega)).1, (Hat.out j (by omega)).2, Hag.out k j (.inr ⟨rfl, hj⟩)]) (Hat.out x hx).1 (Hat.out x hx).2 Hxy.out)
      rw [Hral.out] at Hu
      rw [Hrbl.out] at Hu2
      go_wp2_with (fail)
      refine (same_q _ _ _ _ _ Hu.out Hu2.out).mono ?_
      rintro e w4 ⟨rfl, n4, hw4⟩
      have b4 : Below wr.heap.size wr w4 := by rw [hw4]; exact below_drewN (Below.refl _ _) n4
      clear hw4
      rw [decide_eq_false Hne.out]
      have Hb4 := Lib.hid (Hb.out.trans_pure b4 (Nat.le_refl _))
      have hb5 : b2 < wr.heap.size := Nat.lt_of_lt_of_le hb2 Hb.out.size
      have hck3 := (b4.cell (p := ⟨b2, off2 + k, none⟩) hb5).trans hck2
      go_wp2_with (fail)
      refine (less_c _ _ ra rb _ (Hu.out.keep b4) (Hu2.out.keep b4)).mono ?_
      rintro e w' ⟨rfl, rfl⟩
      rw [Hls.out]
      go_wp2
      go_ret
      exact ⟨rfl, Hb4.out⟩
end Go.Proofs.YtlmjpmdkifoekaaDoor

namespace Go.Proofs.YtlmjpmdkifoekaaDoor
open Go.RowKit

def ApplyRes (w : World) (g : List (List Int)) : Ending → World → Prop := fun e w' => ∃ v', e = .returned (.tuple #[v', .bool true]) ∧ Own 24 (Own 3 IntV) (Iv w.heap.size w'.heap.size) w' v' g ∧ Below w.heap.size w w'
theorem distG_switch {r c : Nat} {g : List (List Int)} {s : Sw} (h : Shape r c g) (hs : SwOk r c g s) : distG r c (applyS g s) g = 4 := by
  have hs' := hs
  obtain ⟨h1, h2, h3, h4, -⟩ := hs'
  have e : distG r c (applyS g s) g = rs r (fun i => rs c (fun j => if (i = s.y1 ∨ i = s.y2) ∧ (j = s.x1 ∨ j = s.x2) then 1 else 0)) := rs_congr fun i _ => rs_congr fun j _ => by
    rw [applyS_at h hs]
    have hb := at2_bits h i j
    by_cases hc : (i = s.y1 ∨ i = s.y2) ∧ (j = s.x1 ∨ j = s.x2)
    · rw [if_pos hc, if_pos hc, if_neg (by omega)]
    · rw [if_neg hc, if_neg hc, if_pos rfl]
  have e2 : ∀ i j, (if (i = s.y1 ∨ i = s.y2) ∧ (j = s.x1 ∨ j = s.x2) then (1 : Int) else 0) = ((if i = s.y1 ∧ j = s.x1 then (1 : Int) else 0) + (if i = s.y1 ∧ j = s.x2 then 1 else 0)) + ((if i = s.y2 ∧ j = s.x1 then 1 else 0) + (if i = s.y2 ∧ j = s.x2 then 1 else 0)) := by
    intro i j
    by_cases a1 : i = s.y1 <;> by_cases a2 : i = s.y2 <;> by_cases b1 : j = s.x1 <;> by_cases b2 : j = s.x2 <;> simp [a1, a2, b1, b2] <;> omega
  rw [e, rs_congr fun i _ => rs_congr fun j _ => e2 i j]
  simp only [rs_add]
  rw [rs_one (by omega) (by omega), rs_one (by omega) (by omega), rs_one (by omega) (by omega), rs_one (by omega) (by omega)]
  decide
/-- the cells before a place that differ -/
def distRow (c : Nat) (g h : List (List Int)) (i : Nat) : Int := rs c (fun j => if at2 g i j = at2 h i j then 0 else 1)
theorem distRow_bd (g h : List (List Int)) (i : Nat) : ∀ c, 0 ≤ distRow c g h i ∧ distRow c g h i ≤ c := by
  intro c
  induction c with
  | zero => simp [distRow, rs]
  | succ c ih =>
    have e : distRow (c + 1) g h i = distRow c g h i + if at2 g i c = at2 h i c then 0 else 1 := rfl
    rw [e]
    split <;> omega
theorem distG_bd (c : Nat) (g h : List (List Int)) : ∀ r, 0 ≤ distG r c g h ∧ distG r c g h ≤ ((r * c : Nat) : Int) := by
  intro r
  induction r with
  | zero => simp [distG, rs]
  | succ r ih =>
    have e : distG (r + 1) c g h = distG r c g h + distRow c g h r := rfl
    have := distRow_bd g h r c
    rw [e, Nat.succ_mul]
    omega

set_option maxHeartbeats 2000000 in
theorem ApplySwitch_t (v : Value) (m : List (List Int)) (r c : Nat) (s : Sw) (w : World) (hv : Grid w v m) (hs : Shape r c m) (hr1 : 1 ≤ r) (hr5 : r ≤ 5) (hc1 : 1 ≤ c) (hc5 : c ≤ 5) (hok : SwOk r c m s) : Calls Tryd.prog 88 #[v, SwV s.y1 s.y2 s.x1 s.x2] w (ApplyRes w (applyS m s)) := by
  obtain ⟨b, off, cp, rfl, hb, hcl⟩ := hv.cells hs hr1 hc1
  have Hcl := Lib.hid hcl
  have hbel := Below.pureAlloc w (.cells #[.int .i64 s.y1, .int .i64 s.y2, .int .i64 s.x1, .int .i64 s.x2] 62)
  have Hv1 := Lib.hid (hv.keep hbel)
  have Hk := Lib.hid (Blk.new w #[.int .i64 s.y1, .int .i64 s.y2, .int .i64 s.x1, .int .i64 s.x2] 62)
  have Hml := Lib.hid (show m.length ≤ 1048576 from by have := hs.1; omega)
  have HR := Lib.hid (show ∀ p ∈ m, p.length ≤ 1048576 from fun p hp => by have := (hs.2 p hp).1; omega)
  obtain ⟨y1, hy1⟩ : ∃ y1, y1 = s.y1 := ⟨_, rfl⟩
  obtain ⟨y2, hy2⟩ : ∃ y2, y2 = s.y2 := ⟨_, rfl⟩
  obtain ⟨x1, hx1⟩ : ∃ x1, x1 = s.x1 := ⟨_, rfl⟩
  obtain ⟨x2, hx2⟩ : ∃ x2, x2 = s.x2 := ⟨_, rfl⟩
  rw [← hy1, ← hy2, ← hx1, ← hx2] at Hk Hv1 hbel ⊢
  have HE1 := Lib.hid hy1
  have HE2 := Lib.hid hy2
  have HE3 := Lib.hid hx1
  have HE4 := Lib.hid hx2
  have Hsok := Lib.hid hok
  have Hy : Hid (ysOf s = [(y1 : Int), y2]) := Lib.hid (by rw [hy1, hy2]; rfl)
  have Hx : Hid (xsOf s = [(x1 : Int), x2]) := Lib.hid (by rw [hx1, hx2]; rfl)
  clear hcl hy1 hy2 hx1 hx2 hok
  have Hok2 := Lib.hid (show swOkB r c m y1 y2 x1 x2 = true from by rw [HE1.out, HE2.out, HE3.out, HE4.out, swOkB_nat]; exact decide_eq_true Hsok.out)
  go_enter Tryd.func88, Tryd.ntmps88
  go_wp2_with (fail)
  refine (SwitchOk_i _ m r c _ _ _ _ _ Hv1.out hs hr1 hr5 hc1 hc5).mono ?_
  rintro e w1 ⟨rfl, b1⟩
  rw [Hok2.out]
  have Hk1 := Lib.hid (Hk.out.keep b1)
  have s1 : w.heap.size + 1 ≤ w1.heap.size := by have := b1.size; simp at this; exact this
  have bb1 := hbel.trans_pure b1 (Nat.le_refl _)
  have Hb1 := Lib.hid b1
  clear b1 Hk Hok2
  go_wp2_with (fail)
  refine (copyGrid_c _ m _ (Hv1.out.keep Hb1.out) Hml.out HR.out).mono ?_
  rintro e w2 ⟨v2, rfl, o2, b2⟩
  have Hk2 := Lib.hid (Hk1.out.keep b2)
  have bb2 : Below w.heap.size w w2 := bb1.trans_pure b2 (Nat.le_refl _)
  have hml := hs.1
  obtain ⟨G, cap, rfl, hG, hcap, hGl, -⟩ := o2.inv_ne (by omega)
  rw [hml] at o2 hcap ⊢
  have hz2 : w.heap.size + 1 ≤ w2.heap.size := Nat.le_trans s1 b2.size
  have o2 := (rOwn (rOwn rIntV)).mono (S' := Iv (w.heap.size + 1) w2.heap.size) (fun b hb => ⟨Nat.le_trans s1 hb.1, hb.2⟩) o2
  have k0 := Hk2.out.cell 0
  have k1 := Hk2.out.cell 1
  have k2 := Hk2.out.cell 2
  have k3 := Hk2.out.cell 3
  simp only [List.getElem?_toArray, List.getElem?_cons_zero, List.getElem?_cons_succ] at k0 k1 k2 k3
  have Ho2 := Lib.hid o2
  have Hl3 := Lib.hid (Blk.new w2 #[.int .i64 y1, .int .i64 y2] 3)
  have Hb3 := Lib.hid (Below.pureAlloc w2 (.cells #[.int .i64 y1, .int .i64 y2] 3))
  have hGa : w.heap.size + 1 ≤ G := Nat.le_trans s1 hG.1
  have hzz : w2.heap.size + 1 ≤ (w2.alloc (.cells #[.int .i64 y1, .int .i64 y2] 3)).heap.size := by simp
  have Ho3 := Lib.hid ((rOwn (rOwn rIntV)).same (sameOn_below Hb3.out fun b hb => hb.2) Ho2.out)
  have Hk3 := Lib.hid (Hk2.out.keep Hb3.out)
  have Hbb3 := Lib.hid (bb2.trans_pure Hb3.out (Nat.le_refl _))
  clear o2 hml hG Ho2 Hb3 bb2 Hk2 b2 bb1 Hk1 Hb1 s1
  go_wp2
  clear k0 k1 k2 k3
  go_loopw [8, 10, 23] (fun _ _ i wr => ∃ k : Nat, k ≤ 2 ∧ i = .int .i64 k ∧ Hid (Own 24 (Own 3 IntV) (Iv (w.heap.size + 1) w2.heap.size) wr (.slice (some ⟨G, 0, none⟩) r cap) (flips m s (2 * k))) ∧ Hid (Blk wr w.heap.size #[.int .i64 y1, .int .i64 y2, .int .i64 x1, .int .i64 x2] 62) ∧ Hid (Blk wr w2.heap.size #[.int .i64 y1, .int .i64 y2] 3) ∧ Hid (Below w.heap.size w wr) ∧ w2.heap.size + 1 ≤ wr.heap.size) (fun _ _ i _ => 2 - (intOf i).toNat)
  case atStart => exact ⟨0, Nat.zero_le _, rfl, Ho3, Hk3, Hl3, Hbb3, hzz⟩
  case round =>
    clear Ho3 Hk3 Hl3 Hbb3 hzz
    obtain ⟨k, hk, rfl, Ho, Hkb, Hlb, Hbe, hz⟩ := hrel
    by_cases hlt : k < 2
    · obtain ⟨Y, hY⟩ : ∃ Y, Y = (posK s (2 * k + 0)).1 := ⟨_, rfl⟩
      have hYv := (posK_two s (j := 0) hlt (by decide)).1
      rw [Hy.out, ← hY] at hYv
      have hYr : Y < r := by rw [hY]; exact (posK_lt Hsok.out _).1
      have hY1 : Y = (posK s (2 * k + 1)).1 := by rw [hY]; rcases (by omega : k = 0 ∨ k = 1) with rfl | rfl <;> rfl
      have hcY : wr.cell? ⟨w2.heap.size, k, none⟩ = some (.int .i64 Y) := by
        rw [Hlb.out.cell k]
        rcases (by omega : k = 0 ∨ k = 1) with rfl | rfl <;> simpa using hYv
      have k2 := Hkb.out.cell 2
      have k3 := Hkb.out.cell 3
      simp only [List.getElem?_toArray, List.getElem?_cons_zero, List.getElem?_cons_succ] at k2 k3
      have HY := Lib.hid hY
      have HY1 := Lib.hid hY1
      clear hY hY1 hYv
      have Hl4 := Lib.hid (Blk.new wr #[.int .i64 x1, .int .i64 x2] 3)
      have Hb4 := Lib.hid (Below.pureAlloc wr (.cells #[.int .i64 x1, .int .i64 x2] 3))
      have hzz : wr.heap.size + 1 ≤ (wr.alloc (.cells #[.int .i64 x1, .int .i64 x2] 3)).heap.size := by simp
      have Ho4 := Lib.hid ((rOwn (rOwn rIntV)).same (sameOn_below Hb4.out fun b hb => by have := hb.2; omega) Ho.out)
      have Hk4 := Lib.hid (Hkb.out.keep Hb4.out)
      have Hlb4 := Lib.hid (Hlb.out.keep Hb4.out)
      have Hbb4 := Lib.hid (Hbe.out.trans_pure Hb4.out (Nat.le_refl _))
      clear Ho Hkb Hlb Hbe Hb4
      obtain ⟨L, hL⟩ : ∃ L, L = wr.heap.size := ⟨_, rfl⟩
      rw [← hL] at Hl4 hz hzz
      have HL := Lib.hid hL
      clear hL
      go_wp2
      rw [← HL.out]
      clear hcY k2 k3
      go_loopw [10, 33] (fun _ i wr => ∃ j : Nat, j ≤ 2 ∧ i = .int .i64 j ∧ Hid (Own 24 (Own 3 IntV) (Iv (w.heap.size + 1) w2.heap.size) wr (.slice (some ⟨G, 0, none⟩) r cap) (flips m s (2 * k + j))) ∧ Hid (Blk wr w.heap.size #[.int .i64 y1, .int .i64 y2, .int .i64 x1, .int .i64 x2] 62) ∧ Hid (Blk wr w2.heap.size #[.int .i64 y1, .int .i64 y2] 3) ∧ Hid (Blk wr L #[.int .i64 x1, .int .i64 x2] 3) ∧ Hid (Below w.heap.size w wr) ∧ L + 1 ≤ wr.heap.size) (fun _ i _ => 2 - (intOf i).toNat)
      case atStart => exact ⟨0, Nat.zero_le _, rfl, Ho4, Hk4, Hlb4, Hl4, Hbb4, hzz⟩
      case round =>
        clear Ho4 Hk4 Hlb4 Hl4 Hbb4 hzz
        obtain ⟨j, hj, rfl, Ho, Hkb, Hlb, Hlx, Hbe, hz2⟩ := hrel
        by_cases hlt2 : j < 2
        · obtain ⟨X, hX⟩ : ∃ X, X = (posK s (2 * k + j)).2 := ⟨_, rfl⟩
          have hYj : Y = (posK s (2 * k + j)).1 := by
            rcases (by omega : j = 0 ∨ j = 1) with rfl | rfl
            · exact HY.out
            · exact HY1.out
          have hXv := (posK_two s hlt hlt2).2
          rw [Hx.out, ← hX] at hXv
          have hXc : X < c := by rw [hX]; exact (posK_lt Hsok.out _).2
          have hcX : wr.cell? ⟨L, j, none⟩ = some (.int .i64 X) := by
            rw [Hlx.out.cell j]
            rcases (by omega : j = 0 ∨ j = 1) with rfl | rfl <;> simpa using hXv
          have hfs := flips_shape hs Hsok.out (2 * k + j)
          obtain ⟨row, hrow, hrl, -⟩ := hfs.row hYr
          obtain ⟨q, cq, hcell, -, hq, hqG, hcq, hxs, hrd, hset⟩ := own_grid_cell Ho.out hrow (by omega)
          have hfo := (hxs X (by omega)).2
          obtain ⟨z, hz'⟩ : ∃ z, z = at2 m Y X := ⟨_, rfl⟩
          have hzb := at2_bits hs Y X
          have hat : at2 (flips m s (2 * k + j)) Y X = at2 m Y X := by
            have h := flips_at hs Hsok.out (2 * k + j) (by omega)
            rwa [← hYj, ← hX] at h
          have hrz : row[X]? = some z := by
            rw [hz', ← hat]
            unfold at2
            rw [List.getD_eq_getElem?_getD (l := flips m s (2 * k + j)), hrow]
            exact gD_at 0 (by show X < row.length; omega)
          have hco := hrd X z hrz
          rw [← hz'] at hzb
          have Hnew := Lib.hid (show Own 24 (Own 3 IntV) (Iv (w.heap.size + 1) w2.heap.size) (wr.setCell ⟨q, X, none⟩ (.int .i64 (1 - z))) (.slice (some ⟨G, 0, none⟩) r cap) (flips m s (2 * k + (j + 1))) from by
            have h := hset wr (fun _ _ => rfl) X (1 - z) (by omega) (I64.small (by omega) (by omega))
            have e : flips m s (2 * k + (j + 1)) = (flips m s (2 * k + j)).set Y (row.set X (1 - z)) := by
              show flipC (flips m s (2 * k + j)) (posK s (2 * k + j)).1 (posK s (2 * k + j)).2 = _
              rw [← hYj, ← hX]
              unfold flipC setC
              have hat := flips_at hs Hsok.out (2 * k + j) (by omega)
              rw [← hYj, ← hX] at hat
              rw [hat, ← hz', List.getD_eq_getElem?_getD, hrow]; rfl
            rw [e]; exact h)
          have hqn : q ≠ w.heap.size := by have := hq.1; omega
          have hqn2 : q ≠ w2.heap.size := by have := hq.2; omega
          have hqn3 : q ≠ L := by have := hq.2; omega
          have Hkb2 := Lib.hid (Hkb.out.set_ne (g' := q) (j := X) hqn.symm (.int .i64 (1 - z)))
          have Hlb2 := Lib.hid (Hlb.out.set_ne (g' := q) (j := X) hqn2.symm (.int .i64 (1 - z)))
          have Hlx2 := Lib.hid (Hlx.out.set_ne (g' := q) (j := X) hqn3.symm (.int .i64 (1 - z)))
          have Hbe2 := Lib.hid (Hbe.out.setCell (p := ⟨q, X, none⟩) (by have := hq.1; show w.heap.size ≤ q; omega) (.int .i64 (1 - z)))
          rw [hrl] at hcell
          clear hX hYj hXv hfs hrow hrl hxs hset hat hrz hrd hz' Ho Hkb Hlb Hlx Hbe
          go_wp2
          go_region
          all_goals go_wp2
          all_goals go_roundw
          all_goals first
            | (case measure => simp [intOf]; omega)
            | (case rel => exact ⟨j + 1, by omega, by go_num, Lib.hid (by exact Hnew.out), Lib.hid (by exact Hkb2.out), Lib.hid (by exact Hlb2.out), Lib.hid (by exact Hlx2.out), Lib.hid ⟨Hbe2.out.os, Hbe2.out.tape, Hbe2.out.output, Hbe2.out.size, Hbe2.out.block⟩, by first | exact hz2 | (simp; exact hz2) | (rw [size_setCell]; exact hz2)⟩)
        · obtain rfl : j = 2 := by omega
          go_wp2
          go_roundw
          case rel => exact ⟨k + 1, by omega, by go_num, Lib.hid (by have := Ho.out; rwa [show 2 * (k + 1) = 2 * k + 2 from by omega]), Hkb, Hlb, Hbe, by omega⟩
          case measure => simp [intOf]; omega
    · obtain rfl : k = 2 := by omega
      go_wp2
      refine bodyPost_ret (v := .tuple #[.slice (some ⟨G, 0, none⟩) r cap, .bool true]) (by simp [results, Tryd.results88, go_sem]) rfl ?_
      exact ⟨_, rfl, by rw [← flips_four]; exact (rOwn (rOwn rIntV)).mono (fun b hb => ⟨by have := hb.1; omega, by have := hb.2; omega⟩) Ho.out, Hbe.out⟩
end Go.Proofs.YtlmjpmdkifoekaaDoor

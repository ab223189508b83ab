/- Contracts: conflicts of rectangles, the rectangle that proves that no image meets a mask, MaskLine. -/
import Derived.Test.YtlmjpmdkifoekaaDoorM2
import Derived.Test.YtlmjpmdkifoekaaDoorF4
import Derived.Test.YtlmjpmdkifoekaaDoorT3
namespace Go.Proofs.YtlmjpmdkifoekaaDoor
open Go.RowKit

theorem idx_any (n : Int) : ∀ (xs : List Int) (k : Nat), decide (0 ≤ idxFrom n xs k) = xs.any fun x => x == n
  | [], k => by simp [idxFrom]
  | a :: l, k => by
    unfold idxFrom
    rw [List.any_cons]
    by_cases h : n = a
    · subst h
      rw [if_pos rfl, decide_eq_true (by omega)]
      simp
    · rw [if_neg h, idx_any n l (k + 1)]
      have : (a == n) = false := by rw [beq_eq_false_iff_ne]; exact fun e => h e.symm
      rw [this, Bool.false_or]
theorem Contains_c (v : Value) (xs : List Int) (n : Int) (w : World) (hv : Ints w v xs) : Calls Tryd.prog 60 #[v, .int .i64 n] w fun e w' => e = .returned (.bool (xs.any fun x => x == n)) ∧ w = w' := by
  have Hv := Lib.hid hv
  have Hr := Lib.hid (idx_any n xs 0)
  obtain ⟨a, cap, rfl, -⟩ := hv
  go_enter Tryd.func60, Tryd.ntmps60
  go_wp2_with (fail)
  refine (Index_c _ _ _ _ Hv.out).mono ?_
  rintro e w' ⟨rfl, rfl⟩
  obtain ⟨z, hz⟩ : ∃ z, z = idx n xs := ⟨_, rfl⟩
  have Hr2 := Lib.hid (show decide (0 ≤ z) = xs.any fun x => x == n from by rw [hz]; exact Hr.out)
  rw [← hz]
  clear hz
  go_wp2
  go_ret
  exact ⟨retB Hr2.out, rfl⟩
theorem membL_at {K a k : Nat} {z : Int} (h : (membL K a)[k]? = some z) : ∃ p : Nat, z = p ∧ p < K := by
  obtain ⟨i, rfl, h1, -⟩ := membL_mem.1 (List.mem_of_getElem? h)
  exact ⟨i, rfl, h1⟩
structure Gc (g : List (List Int)) (a b y x : Nat) (z : Int) : Prop where
  same : a.testBit y = b.testBit x → z = 0
  inn : a.testBit y = true → b.testBit x = false → z = -(if at2 g y x = 0 then 0 else 1)
  out : a.testBit y = false → b.testBit x = true → z = if at2 g y x = 1 then 1 else 0
theorem gcOf (g : List (List Int)) (a b y x : Nat) : Gc g a b y x (cellG g a b y x) := by
  constructor <;> unfold cellG gc mLow mUp
  · intro h
    rw [h]
    cases b.testBit x <;> simp
  · intro h1 h2
    rw [h1, h2]; simp
  · intro h1 h2
    rw [h1, h2]; simp
set_option maxRecDepth 100000 in
set_option maxHeartbeats 3200000 in
theorem Conf_i (v vx vy va vb : Value) (g : List (List Int)) (xs ys : List Int) (a b : Nat) (w : World) (hv : Grid w v g) (hx : Ints w vx xs) (hy : Ints w vy ys) (ha : Ints w va (membL xs.length a)) (hb : Ints w vb (membL ys.length b)) (hok : maskOk g xs ys = true) :
    Calls Tryd.prog 19 #[v, vx, vy, va, vb] w fun e w' => e = .returned (.bool (confB g xs ys a b)) ∧ w = w' := by
  obtain ⟨hs, hr⟩ := maskOk_parts hok
  obtain ⟨x1, x5, y1, y5⟩ := sumsOk_sz hs
  obtain ⟨hx5, hy5⟩ := imgs5 hs
  have Hx5 := Lib.hid hx5
  have Hy5 := Lib.hid hy5
  have Hres := Lib.hid (conf_room g xs ys a b)
  have Hlx := Lib.hid (accL_all xs a)
  have Hly := Lib.hid (accL_all ys b)
  have hla := membL_len xs.length a
  have hlb := membL_len ys.length b
  have Hra := Lib.hid (membL_rising xs.length a)
  have Hrb := Lib.hid (membL_rising ys.length b)
  have Hma := Lib.hid (fun k z => membL_at (K := xs.length) (a := a) (k := k) (z := z))
  have Hmb := Lib.hid (fun k z => membL_at (K := ys.length) (a := b) (k := k) (z := z))
  have Hya := Lib.hid (fun y => any_memb (K := xs.length) (a := a) (y := y))
  have Hyb := Lib.hid (fun y => any_memb (K := ys.length) (a := b) (y := y))
  obtain ⟨r, hrr⟩ : ∃ r, r = xs.length := ⟨_, rfl⟩
  obtain ⟨c, hcc⟩ : ∃ c, c = ys.length := ⟨_, rfl⟩
  rw [← hrr] at hr x1 x5 Hres Hlx hla Hra Hma Hya ha
  rw [← hcc] at hr y1 y5 Hres Hly hlb Hrb Hmb Hyb hb
  obtain ⟨A, hA⟩ : ∃ A, A = membL r a := ⟨_, rfl⟩
  obtain ⟨B, hB⟩ : ∃ B, B = membL c b := ⟨_, rfl⟩
  rw [← hA] at Hlx hla Hra Hma Hya ha
  rw [← hB] at Hly hlb Hrb Hmb Hyb hb
  have Hok := Lib.hid hok
  have Hv := Lib.hid hv
  have Hx := Lib.hid hx
  have Hy := Lib.hid hy
  have Ha := Lib.hid ha
  have Hb := Lib.hid hb
  obtain ⟨bg, og, cg, rfl, hbg, hrows⟩ := hv.rowsT hr x1 y1
  have Hrows := Lib.hid hrows
  obtain ⟨bx, ox, cx, rfl, hbx, -⟩ := hx.inv_ne (by omega)
  obtain ⟨by', oy, cy, rfl, hby, -⟩ := hy.inv_ne (by omega)
  obtain ⟨aa, ca, rfl, -⟩ := ha
  obtain ⟨ab, cb, rfl, -⟩ := hb
  rw [← hrr] at Hx ⊢
  rw [← hcc] at Hy ⊢
  have Hrr := Lib.hid hrr
  have Hcc := Lib.hid hcc
  clear hs hr hok hx5 hy5 hrr hcc hA hB hv hx hy hrows
  go_enter Tryd.func19, Tryd.ntmps19
  go_wp2_with (fail)
  refine (MaskOk_i _ _ _ _ _ _ _ Hv.out Hx.out Hy.out).mono ?_
  rintro e w' ⟨rfl, rfl⟩
  rw [Hok.out]
  go_wp2_with (fail)
  refine (rising_t _ A _ r _ Ha.out rfl (by omega) Hra.out).mono ?_
  rintro e w' ⟨rfl, rfl⟩
  go_wp2_with (fail)
  refine (rising_t _ B _ c _ Hb.out rfl (by omega) Hrb.out).mono ?_
  rintro e w' ⟨rfl, rfl⟩
  go_wp2
  go_loopw [11, 14, 44] (fun n _ i wr => ∃ k : Nat, k ≤ A.length ∧ i = .int .i64 k ∧ n = .int .i64 (accL xs A k) ∧ w = wr) (fun _ _ i _ => A.length - (intOf i).toNat)
  case atStart => exact ⟨0, Nat.zero_le _, rfl, by rw [accL_zero], rfl⟩
  case round =>
    obtain ⟨k, hk, rfl, rfl, rfl⟩ := hrel
    by_cases hlt : k < A.length
    · obtain ⟨z, hz⟩ : ∃ z, A[k]? = some z := ⟨_, List.getElem?_eq_getElem hlt⟩
      obtain ⟨p, rfl, hp⟩ := Hma.out k z hz
      obtain ⟨ba, oa, ca', he, hba, -⟩ := Ha.out.inv_ne (by omega)
      obtain ⟨rfl, -⟩ : aa = some ⟨ba, oa, none⟩ ∧ ca = ca' := by
        simp only [Value.slice.injEq] at he
        exact ⟨he.1, he.2.2⟩
      have c1 := Ints.at Ha.out hz
      have c2 := Ints.at Hx.out (gD_at 0 (l := xs) (i := p) (by rw [← Hrr.out]; exact hp))
      have Hst := Lib.hid (accL_succ (xs := xs) hz)
      have hbd := accL_bd (L := A) Hx5.out k
      have hq := Hx5.out _ (List.mem_of_getElem? (gD_at 0 (l := xs) (i := p) (by rw [← Hrr.out]; exact hp)))
      rw [show ((p : Int)).toNat = p from rfl] at Hst
      obtain ⟨q, hqq⟩ : ∃ q, q = xs.getD p 0 := ⟨_, rfl⟩
      rw [← hqq] at c2 Hst hq
      obtain ⟨n, hn⟩ : ∃ n, n = accL xs A k := ⟨_, rfl⟩
      rw [← hn] at Hst hbd ⊢
      clear hz he hqq hn
      go_wp2
      go_roundw
      case rel => exact ⟨k + 1, by omega, by go_num, by rw [Hst.out] <;> go_num, by first | rfl | trivial⟩
      case measure => simp [intOf]; omega
    · obtain rfl : k = A.length := by omega
      rw [Hlx.out]
      have hsel := accL_bd (L := A) Hx5.out A.length
      rw [Hlx.out] at hsel
      obtain ⟨S, hS⟩ : ∃ S, S = selS xs a := ⟨_, rfl⟩
      rw [← hS] at Hres hsel ⊢
      clear hS
      go_wp2
      go_loopw [11, 16, 57] (fun n _ i wr => ∃ k : Nat, k ≤ B.length ∧ i = .int .i64 k ∧ n = .int .i64 (S - accL ys B k) ∧ w = wr) (fun _ _ i _ => B.length - (intOf i).toNat)
      case atStart => exact ⟨0, Nat.zero_le _, rfl, by rw [accL_zero, Int.sub_zero], rfl⟩
      case round =>
        obtain ⟨k, hk, rfl, rfl, rfl⟩ := hrel
        by_cases hlt : k < B.length
        · obtain ⟨z, hz⟩ : ∃ z, B[k]? = some z := ⟨_, List.getElem?_eq_getElem hlt⟩
          obtain ⟨p, rfl, hp⟩ := Hmb.out k z hz
          obtain ⟨ba, oa, ca', he, hba, -⟩ := Hb.out.inv_ne (by omega)
          obtain ⟨rfl, -⟩ : ab = some ⟨ba, oa, none⟩ ∧ cb = ca' := by
            simp only [Value.slice.injEq] at he
            exact ⟨he.1, he.2.2⟩
          have c1 := Ints.at Hb.out hz
          have c2 := Ints.at Hy.out (gD_at 0 (l := ys) (i := p) (by rw [← Hcc.out]; exact hp))
          have Hst := Lib.hid (accL_succ (xs := ys) hz)
          have hbd := accL_bd (L := B) Hy5.out k
          have hq := Hy5.out _ (List.mem_of_getElem? (gD_at 0 (l := ys) (i := p) (by rw [← Hcc.out]; exact hp)))
          rw [show ((p : Int)).toNat = p from rfl] at Hst
          obtain ⟨q, hqq⟩ : ∃ q, q = ys.getD p 0 := ⟨_, rfl⟩
          rw [← hqq] at c2 Hst hq
          obtain ⟨n, hn⟩ : ∃ n, n = accL ys B k := ⟨_, rfl⟩
          rw [← hn] at Hst hbd ⊢
          clear hz he hqq hn
          obtain ⟨n2, hn2⟩ : ∃ n2, n2 = S - n := ⟨_, rfl⟩
          have hn2b : -100 ≤ n2 ∧ n2 ≤ 100 := by omega
          have Hn2 := Lib.hid (show S - (n + q) = n2 - q from by omega)
          rw [← hn2]
          clear hn2
          go_wp2
          go_roundw
          case rel => exact ⟨k + 1, by omega, by go_num, by rw [Hst.out, Hn2.out] <;> go_num, by first | rfl | trivial⟩
          case measure => simp [intOf]; omega
        · obtain rfl : k = B.length := by omega
          rw [Hly.out]
          have hsel2 := accL_bd (L := B) Hy5.out B.length
          rw [Hly.out] at hsel2
          obtain ⟨T, hT⟩ : ∃ T, T = S - selS ys b := ⟨_, rfl⟩
          rw [← hT] at Hres ⊢
          have hTb : -100 ≤ T ∧ T ≤ 100 := by omega
          clear hT hsel hsel2
          go_wp2
          go_loopw [12, 17, 18, 19, 20, 21, 22, 70] (fun n _ _ _ _ _ _ i wr => ∃ y : Nat, y ≤ r ∧ i = .int .i64 y ∧ n = .int .i64 (-(roomTo g c a b y 0)) ∧ w = wr) (fun _ _ _ _ _ _ _ i _ => r - (intOf i).toNat)
          case atStart => exact ⟨0, Nat.zero_le _, rfl, rfl, rfl⟩
          case round =>
            obtain ⟨y, hy, rfl, rfl, rfl⟩ := hrel
            by_cases hyr : y < r
            · obtain ⟨br, orr, cr, h1, h2⟩ := Hrows.out y hyr
              have e1 := h1 w (Below.refl _ _)
              have H2 := Lib.hid h2
              obtain ⟨N0, hN0⟩ : ∃ N0, N0 = -(roomTo g c a b y 0) := ⟨_, rfl⟩
              have HN0 := Lib.hid hN0
              rw [← hN0]
              clear h1 h2 hN0
              go_wp2
              go_loopw [12, 19, 20, 21, 22, 77] (fun n _ _ _ _ i wr => ∃ x : Nat, x ≤ c ∧ i = .int .i64 x ∧ n = .int .i64 (-(roomTo g c a b y x)) ∧ w = wr) (fun _ _ _ _ _ i _ => c - (intOf i).toNat)
              case atStart => exact ⟨0, Nat.zero_le _, rfl, by rw [HN0.out], rfl⟩
              case round =>
                clear e1 HN0
                obtain ⟨x, hx, rfl, rfl, rfl⟩ := hrel
                by_cases hxc : x < c
                · have e3 := H2.out x hxc w (Below.refl _ _)
                  have hbd := roomTo_bd (g := g) (a := a) (b := b) y5 (y := y) (x := x) (by omega) (by omega)
                  have Hst := Lib.hid (roomTo_succ g c a b y x)
                  obtain ⟨g1, g2, g3⟩ := gcOf g a b y x
                  obtain ⟨Z, hZ⟩ : ∃ Z, Z = cellG g a b y x := ⟨_, rfl⟩
                  rw [← hZ] at Hst g1 g2 g3
                  obtain ⟨R0, hR0⟩ : ∃ R0, R0 = roomTo g c a b y x := ⟨_, rfl⟩
                  rw [← hR0] at Hst hbd ⊢
                  obtain ⟨M, hM⟩ : ∃ M, M = -R0 := ⟨_, rfl⟩
                  have Hst2 := Lib.hid (show -(roomTo g c a b y (x + 1)) = M - Z from by rw [Hst.out, hM]; omega)
                  have hMb : -30 ≤ M ∧ M ≤ 30 := by omega
                  have Ha1 := Lib.hid (Hya.out y hyr)
                  have Hb1 := Lib.hid (Hyb.out x hxc)
                  obtain ⟨p, hp⟩ : ∃ p, p = a.testBit y := ⟨_, rfl⟩
                  obtain ⟨q, hq⟩ : ∃ q, q = b.testBit x := ⟨_, rfl⟩
                  rw [← hp] at g1 g2 g3 Ha1
                  rw [← hq] at g1 g2 g3 Hb1
                  obtain ⟨D, hD⟩ : ∃ D, D = at2 g y x := ⟨_, rfl⟩
                  rw [← hD] at g2 g3 e3
                  rw [← hM]
                  clear hZ hR0 hM hp hq hD Hst hbd
                  go_wp2_with (fail)
                  refine (Contains_c _ _ _ _ Ha.out).mono ?_
                  rintro e w' ⟨rfl, rfl⟩
                  rw [Ha1.out]
                  go_wp2_with (fail)
                  refine (Contains_c _ _ _ _ Hb.out).mono ?_
                  rintro e w' ⟨rfl, rfl⟩
                  rw [Hb1.out]
                  cases p <;> cases q
                  · have Hz := Lib.hid (g1 rfl)
                    clear g1 g2 g3
                    go_wp2
                    go_roundw
                    case rel => exact ⟨x + 1, by omega, by go_num, by rw [Hst2.out, Hz.out, Int.sub_zero], by first | rfl | trivial⟩
                    case measure => simp [intOf]; omega
                  · by_cases hD1 : D = 1
                    · have hD2 : (D == 1) = true := by rw [beq_iff_eq]; exact hD1
                      have hz := g3 rfl rfl
                      rw [if_pos hD1] at hz
                      have Hz := Lib.hid hz
                      clear g1 g2 g3 hz
                      go_wp2
                      go_roundw
                      case rel => exact ⟨x + 1, by omega, by go_num, by rw [Hst2.out, Hz.out] <;> go_num, by first | rfl | trivial⟩
                      case measure => simp [intOf]; omega
                    · have hD2 : (D == 1) = false := by rw [beq_eq_false_iff_ne]; exact hD1
                      have hz := g3 rfl rfl
                      rw [if_neg hD1] at hz
                      have Hz := Lib.hid hz
                      clear g1 g2 g3 hz
                      go_wp2
                      go_roundw
                      case rel => exact ⟨x + 1, by omega, by go_num, by rw [Hst2.out, Hz.out, Int.sub_zero], by first | rfl | trivial⟩
                      case measure => simp [intOf]; omega
                  · by_cases hD1 : D = 0
                    · have hD2 : (D == 0) = true := by rw [beq_iff_eq]; exact hD1
                      have hz := g2 rfl rfl
                      rw [if_pos hD1] at hz
                      have Hz := Lib.hid hz
                      clear g1 g2 g3 hz
                      go_wp2
                      go_roundw
                      case rel => exact ⟨x + 1, by omega, by go_num, by rw [Hst2.out, Hz.out] <;> go_num, by first | rfl | trivial⟩
                      case measure => simp [intOf]; omega
                    · have hD2 : (D == 0) = false := by rw [beq_eq_false_iff_ne]; exact hD1
                      have hz := g2 rfl rfl
                      rw [if_neg hD1] at hz
                      have Hz := Lib.hid (show M - Z = M + 1 from by omega)
                      clear g1 g2 g3 hz
                      go_wp2
                      go_roundw
                      case rel => exact ⟨x + 1, by omega, by go_num, by rw [Hst2.out, Hz.out] <;> go_num, by first | rfl | trivial⟩
                      case measure => simp [intOf]; omega
                  · have Hz := Lib.hid (g1 rfl)
                    clear g1 g2 g3
                    go_wp2
                    go_roundw
                    case rel => exact ⟨x + 1, by omega, by go_num, by rw [Hst2.out, Hz.out, Int.sub_zero], by first | rfl | trivial⟩
                    case measure => simp [intOf]; omega
                · obtain rfl : x = c := by omega
                  have Hrow := Lib.hid (roomTo_row g x a b y)
                  rw [Hrow.out]
                  go_wp2
                  go_roundw
                  case rel => exact ⟨y + 1, by omega, by go_num, rfl, by first | rfl | trivial⟩
                  case measure => simp [intOf]; omega
            · obtain rfl : y = r := by omega
              obtain ⟨M, hM⟩ : ∃ M, M = -(roomTo g c a b y 0) := ⟨_, rfl⟩
              rw [← hM] at Hres ⊢
              clear hM
              go_wp2
              go_ret
              exact ⟨retB (by rw [Hres.out]), rfl⟩
set_option maxRecDepth 100000 in
set_option maxHeartbeats 3200000 in
theorem Conf_s (v vx vy va vb : Value) (g : List (List Int)) (xs ys : List Int) (a b : Nat) (w : World) (hv : Grid w v g) (hx : Ints w vx xs) (hy : Ints w vy ys) (ha : Ints w va (membL xs.length a)) (hb : Ints w vb (membL ys.length b)) (hok : maskOk g xs ys = true) :
    Calls Tryd.prog 118 #[v, vx, vy, va, vb] w fun e w' => e = .returned (.bool (confB g xs ys a b)) ∧ w = w' := by
  obtain ⟨hs, hr⟩ := maskOk_parts hok
  obtain ⟨x1, x5, y1, y5⟩ := sumsOk_sz hs
  obtain ⟨hx5, hy5⟩ := imgs5 hs
  have Hx5 := Lib.hid hx5
  have Hy5 := Lib.hid hy5
  have Hres := Lib.hid (conf_room g xs ys a b)
  have Hlx := Lib.hid (accL_all xs a)
  have Hly := Lib.hid (accL_all ys b)
  have hla := membL_len xs.length a
  have hlb := membL_len ys.length b
  have Hra := Lib.hid (membL_rising xs.length a)
  have Hrb := Lib.hid (membL_rising ys.length b)
  have Hma := Lib.hid (fun k z => membL_at (K := xs.length) (a := a) (k := k) (z := z))
  have Hmb := Lib.hid (fun k z => membL_at (K := ys.length) (a := b) (k := k) (z := z))
  have Hya := Lib.hid (fun y => any_memb (K := xs.length) (a := a) (y := y))
  have Hyb := Lib.hid (fun y => any_memb (K := ys.length) (a := b) (y := y))
  obtain ⟨r, hrr⟩ : ∃ r, r = xs.length := ⟨_, rfl⟩
  obtain ⟨c, hcc⟩ : ∃ c, c = ys.length := ⟨_, rfl⟩
  rw [← hrr] at hr x1 x5 Hres Hlx hla Hra Hma Hya ha
  rw [← hcc] at hr y1 y5 Hres Hly hlb Hrb Hmb Hyb hb
  obtain ⟨A, hA⟩ : ∃ A, A = membL r a := ⟨_, rfl⟩
  obtain ⟨B, hB⟩ : ∃ B, B = membL c b := ⟨_, rfl⟩
  rw [← hA] at Hlx hla Hra Hma Hya ha
  rw [← hB] at Hly hlb Hrb Hmb Hyb hb
  have Hok := Lib.hid hok
  have Hv := Lib.hid hv
  have Hx := Lib.hid hx
  have Hy := Lib.hid hy
  have Ha := Lib.hid ha
  have Hb := Lib.hid hb
  obtain ⟨bg, og, cg, rfl, hbg, hrows⟩ := hv.rowsT hr x1 y1
  have Hrows := Lib.hid hrows
  obtain ⟨bx, ox, cx, rfl, hbx, -⟩ := hx.inv_ne (by omega)
  obtain ⟨by', oy, cy, rfl, hby, -⟩ := hy.inv_ne (by omega)
  obtain ⟨aa, ca, rfl, -⟩ := ha
  obtain ⟨ab, cb, rfl, -⟩ := hb
  rw [← hrr] at Hx ⊢
  rw [← hcc] at Hy ⊢
  have Hrr := Lib.hid hrr
  have Hcc := Lib.hid hcc
  clear hs hr hok hx5 hy5 hrr hcc hA hB hv hx hy hrows
  go_enter Tryd.func118, Tryd.ntmps118
  go_wp2
  go_loopw [11, 13, 25] (fun n _ i wr => ∃ k : Nat, k ≤ A.length ∧ i = .int .i64 k ∧ n = .int .i64 (accL xs A k) ∧ w = wr) (fun _ _ i _ => A.length - (intOf i).toNat)
  case atStart => exact ⟨0, Nat.zero_le _, rfl, by rw [accL_zero], rfl⟩
  case round =>
    obtain ⟨k, hk, rfl, rfl, rfl⟩ := hrel
    by_cases hlt : k < A.length
    · obtain ⟨z, hz⟩ : ∃ z, A[k]? = some z := ⟨_, List.getElem?_eq_getElem hlt⟩
      obtain ⟨p, rfl, hp⟩ := Hma.out k z hz
      obtain ⟨ba, oa, ca', he, hba, -⟩ := Ha.out.inv_ne (by omega)
      obtain ⟨rfl, -⟩ : aa = some ⟨ba, oa, none⟩ ∧ ca = ca' := by
        simp only [Value.slice.injEq] at he
        exact ⟨he.1, he.2.2⟩
      have c1 := Ints.at Ha.out hz
      have c2 := Ints.at Hx.out (gD_at 0 (l := xs) (i := p) (by rw [← Hrr.out]; exact hp))
      have Hst := Lib.hid (accL_succ (xs := xs) hz)
      have hbd := accL_bd (L := A) Hx5.out k
      have hq := Hx5.out _ (List.mem_of_getElem? (gD_at 0 (l := xs) (i := p) (by rw [← Hrr.out]; exact hp)))
      rw [show ((p : Int)).toNat = p from rfl] at Hst
      obtain ⟨q, hqq⟩ : ∃ q, q = xs.getD p 0 := ⟨_, rfl⟩
      rw [← hqq] at c2 Hst hq
      obtain ⟨n, hn⟩ : ∃ n, n = accL xs A k := ⟨_, rfl⟩
      rw [← hn] at Hst hbd ⊢
      clear hz he hqq hn
      go_wp2
      go_roundw
      case rel => exact ⟨k + 1, by omega, by go_num, by rw [Hst.out] <;> go_num, by first | rfl | trivial⟩
      case measure => simp [intOf]; omega
    · obtain rfl : k = A.length := by omega
      rw [Hlx.out]
      have hsel := accL_bd (L := A) Hx5.out A.length
      rw [Hlx.out] at hsel
      obtain ⟨S, hS⟩ : ∃ S, S = selS xs a := ⟨_, rfl⟩
      rw [← hS] at Hres hsel ⊢
      clear hS
      go_wp2
      go_loopw [11, 15, 38] (fun n _ i wr => ∃ k : Nat, k ≤ B.length ∧ i = .int .i64 k ∧ n = .int .i64 (S - accL ys B k) ∧ w = wr) (fun _ _ i _ => B.length - (intOf i).toNat)
      case atStart => exact ⟨0, Nat.zero_le _, rfl, by rw [accL_zero, Int.sub_zero], rfl⟩
      case round =>
        obtain ⟨k, hk, rfl, rfl, rfl⟩ := hrel
        by_cases hlt : k < B.length
        · obtain ⟨z, hz⟩ : ∃ z, B[k]? = some z := ⟨_, List.getElem?_eq_getElem hlt⟩
          obtain ⟨p, rfl, hp⟩ := Hmb.out k z hz
          obtain ⟨ba, oa, ca', he, hba, -⟩ := Hb.out.inv_ne (by omega)
          obtain ⟨rfl, -⟩ : ab = some ⟨ba, oa, none⟩ ∧ cb = ca' := by
            simp only [Value.slice.injEq] at he
            exact ⟨he.1, he.2.2⟩
          have c1 := Ints.at Hb.out hz
          have c2 := Ints.at Hy.out (gD_at 0 (l := ys) (i := p) (by rw [← Hcc.out]; exact hp))
          have Hst := Lib.hid (accL_succ (xs := ys) hz)
          have hbd := accL_bd (L := B) Hy5.out k
          have hq := Hy5.out _ (List.mem_of_getElem? (gD_at 0 (l := ys) (i := p) (by rw [← Hcc.out]; exact hp)))
          rw [show ((p : Int)).toNat = p from rfl] at Hst
          obtain ⟨q, hqq⟩ : ∃ q, q = ys.getD p 0 := ⟨_, rfl⟩
          rw [← hqq] at c2 Hst hq
          obtain ⟨n, hn⟩ : ∃ n, n = accL ys B k := ⟨_, rfl⟩
          rw [← hn] at Hst hbd ⊢
          clear hz he hqq hn
          obtain ⟨n2, hn2⟩ : ∃ n2, n2 = S - n := ⟨_, rfl⟩
          have hn2b : -100 ≤ n2 ∧ n2 ≤ 100 := by omega
          have Hn2 := Lib.hid (show S - (n + q) = n2 - q from by omega)
          rw [← hn2]
          clear hn2
          go_wp2
          go_roundw
          case rel => exact ⟨k + 1, by omega, by go_num, by rw [Hst.out, Hn2.out] <;> go_num, by first | rfl | trivial⟩
          case measure => simp [intOf]; omega
        · obtain rfl : k = B.length := by omega
          rw [Hly.out]
          have hsel2 := accL_bd (L := B) Hy5.out B.length
          rw [Hly.out] at hsel2
          obtain ⟨T, hT⟩ : ∃ T, T = S - selS ys b := ⟨_, rfl⟩
          rw [← hT] at Hres ⊢
          have hTb : -100 ≤ T ∧ T ≤ 100 := by omega
          clear hT hsel hsel2
          go_wp2
          go_loopw [16, 17, 18, 19, 20, 21, 22, 51] (fun n _ _ _ _ _ _ i wr => ∃ y : Nat, y ≤ r ∧ i = .int .i64 y ∧ n = .int .i64 (-(roomTo g c a b y 0)) ∧ w = wr) (fun _ _ _ _ _ _ _ i _ => r - (intOf i).toNat)
          case atStart => exact ⟨0, Nat.zero_le _, rfl, rfl, rfl⟩
          case round =>
            obtain ⟨y, hy, rfl, rfl, rfl⟩ := hrel
            by_cases hyr : y < r
            · obtain ⟨br, orr, cr, h1, h2⟩ := Hrows.out y hyr
              have e1 := h1 w (Below.refl _ _)
              have H2 := Lib.hid h2
              obtain ⟨N0, hN0⟩ : ∃ N0, N0 = -(roomTo g c a b y 0) := ⟨_, rfl⟩
              have HN0 := Lib.hid hN0
              rw [← hN0]
              clear h1 h2 hN0
              go_wp2
              go_loopw [16, 19, 20, 21, 22, 58] (fun n _ _ _ _ i wr => ∃ x : Nat, x ≤ c ∧ i = .int .i64 x ∧ n = .int .i64 (-(roomTo g c a b y x)) ∧ w = wr) (fun _ _ _ _ _ i _ => c - (intOf i).toNat)
              case atStart => exact ⟨0, Nat.zero_le _, rfl, by rw [HN0.out], rfl⟩
              case round =>
                clear e1 HN0
                obtain ⟨x, hx, rfl, rfl, rfl⟩ := hrel
                by_cases hxc : x < c
                · have e3 := H2.out x hxc w (Below.refl _ _)
                  have hbd := roomTo_bd (g := g) (a := a) (b := b) y5 (y := y) (x := x) (by omega) (by omega)
                  have Hst := Lib.hid (roomTo_succ g c a b y x)
                  obtain ⟨g1, g2, g3⟩ := gcOf g a b y x
                  obtain ⟨Z, hZ⟩ : ∃ Z, Z = cellG g a b y x := ⟨_, rfl⟩
                  rw [← hZ] at Hst g1 g2 g3
                  obtain ⟨R0, hR0⟩ : ∃ R0, R0 = roomTo g c a b y x := ⟨_, rfl⟩
                  rw [← hR0] at Hst hbd ⊢
                  obtain ⟨M, hM⟩ : ∃ M, M = -R0 := ⟨_, rfl⟩
                  have Hst2 := Lib.hid (show -(roomTo g c a b y (x + 1)) = M - Z from by rw [Hst.out, hM]; omega)
                  have hMb : -30 ≤ M ∧ M ≤ 30 := by omega
                  have Ha1 := Lib.hid (Hya.out y hyr)
                  have Hb1 := Lib.hid (Hyb.out x hxc)
                  obtain ⟨p, hp⟩ : ∃ p, p = a.testBit y := ⟨_, rfl⟩
                  obtain ⟨q, hq⟩ : ∃ q, q = b.testBit x := ⟨_, rfl⟩
                  rw [← hp] at g1 g2 g3 Ha1
                  rw [← hq] at g1 g2 g3 Hb1
                  obtain ⟨D, hD⟩ : ∃ D, D = at2 g y x := ⟨_, rfl⟩
                  rw [← hD] at g2 g3 e3
                  rw [← hM]
                  clear hZ hR0 hM hp hq hD Hst hbd
                  go_wp2_with (fail)
                  refine (l08Has_c _ _ _ _ Ha.out).mono ?_
                  rintro e w' ⟨rfl, rfl⟩
                  rw [Ha1.out]
                  go_wp2_with (fail)
                  refine (l08Has_c _ _ _ _ Hb.out).mono ?_
                  rintro e w' ⟨rfl, rfl⟩
                  rw [Hb1.out]
                  cases p <;> cases q
                  · have Hz := Lib.hid (g1 rfl)
                    clear g1 g2 g3
                    go_wp2
                    go_roundw
                    case rel => exact ⟨x + 1, by omega, by go_num, by rw [Hst2.out, Hz.out, Int.sub_zero], by first | rfl | trivial⟩
                    case measure => simp [intOf]; omega
                  · by_cases hD1 : D = 1
                    · have hD2 : (D == 1) = true := by rw [beq_iff_eq]; exact hD1
                      have hz := g3 rfl rfl
                      rw [if_pos hD1] at hz
                      have Hz := Lib.hid hz
                      clear g1 g2 g3 hz
                      go_wp2
                      go_roundw
                      case rel => exact ⟨x + 1, by omega, by go_num, by rw [Hst2.out, Hz.out] <;> go_num, by first | rfl | trivial⟩
                      case measure => simp [intOf]; omega
                    · have hD2 : (D == 1) = false := by rw [beq_eq_false_iff_ne]; exact hD1
                      have hz := g3 rfl rfl
                      rw [if_neg hD1] at hz
                      have Hz := Lib.hid hz
                      clear g1 g2 g3 hz
                      go_wp2
                      go_roundw
                      case rel => exact ⟨x + 1, by omega, by go_num, by rw [Hst2.out, Hz.out, Int.sub_zero], by first | rfl | trivial⟩
                      case measure => simp [intOf]; omega
                  · by_cases hD1 : D = 0
                    · have hD2 : (D == 0) = true := by rw [beq_iff_eq]; exact hD1
                      have hz := g2 rfl rfl
                      rw [if_pos hD1] at hz
                      have Hz := Lib.hid hz
                      clear g1 g2 g3 hz
                      go_wp2
                      go_roundw
                      case rel => exact ⟨x + 1, by omega, by go_num, by rw [Hst2.out, Hz.out] <;> go_num, by first | rfl | trivial⟩
                      case measure => simp [intOf]; omega
                    · have hD2 : (D == 0) = false := by rw [beq_eq_false_iff_ne]; exact hD1
                      have hz := g2 rfl rfl
                      rw [if_neg hD1] at hz
                      have Hz := Lib.hid (show M - Z = M + 1 from by omega)
                      clear g1 g2 g3 hz
                      go_wp2
                      go_roundw
                      case rel => exact ⟨x + 1, by omega, by go_num, by rw [Hst2.out, Hz.out] <;> go_num, by first | rfl | trivial⟩
                      case measure => simp [intOf]; omega
                  · have Hz := Lib.hid (g1 rfl)
                    clear g1 g2 g3
                    go_wp2
                    go_roundw
                    case rel => exact ⟨x + 1, by omega, by go_num, by rw [Hst2.out, Hz.out, Int.sub_zero], by first | rfl | trivial⟩
                    case measure => simp [intOf]; omega
                · obtain rfl : x = c := by omega
                  have Hrow := Lib.hid (roomTo_row g x a b y)
                  rw [Hrow.out]
                  go_wp2
                  go_roundw
                  case rel => exact ⟨y + 1, by omega, by go_num, rfl, by first | rfl | trivial⟩
                  case measure => simp [intOf]; omega
            · obtain rfl : y = r := by omega
              obtain ⟨M, hM⟩ : ∃ M, M = -(roomTo g c a b y 0) := ⟨_, rfl⟩
              rw [← hM] at Hres ⊢
              clear hM
              go_wp2
              go_ret
              exact ⟨retB (by rw [Hres.out]), rfl⟩
end Go.Proofs.YtlmjpmdkifoekaaDoor

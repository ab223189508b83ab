/- Contracts: two grids are alike. -/
import Derived.Test.YtliejhmlcdjpcaaC9
namespace Go.Proofs.Ytliejhmlcdjpcaa
open Go.RowKit

set_option maxHeartbeats 400000 in
theorem alike_q (v v2 : Value) (xs ys : List (List Int)) (w : World) (hv : Grid w v xs) (hv2 : Grid w v2 ys) : Calls Try.prog 26 #[v, v2] w fun e w' => e = .returned (.bool (decide (xs = ys))) ∧ ∃ n, w' = w.drewN n := by
  have Hv := Lib.hid hv
  have Hv2 := Lib.hid hv2
  obtain ⟨a, cap, rfl, hcap, hle, -, -⟩ := hv
  obtain ⟨a2, cap2, rfl, hcap2, hle2, -, -⟩ := hv2
  by_cases hl : xs.length = ys.length
  · have hl1 : xs.length ≤ ys.length := by omega
    have hl2 : ys.length ≤ xs.length := by omega
    have Hl := Lib.hid hl; clear hl
    have hbe : ((xs.length : Int) != (ys.length : Int)) = false := by rw [bne_eq_false_iff_eq]; omega
    have hbe2 : ((xs.length : Int) == (ys.length : Int)) = true := by rw [beq_iff_eq]; omega
    go_enter Try.func26, Try.ntmps26
    go_wp2
    go_loopw [4, 5, 6, 14] (fun _ _ _ i wr => ∃ k n : Nat, k ≤ xs.length ∧ i = .int .i64 k ∧ xs.take k = ys.take k ∧ wr = w.drewN n) (fun _ _ _ i _ => xs.length - (intOf i).toNat)
    case atStart => exact ⟨0, 0, Nat.zero_le _, rfl, rfl, rfl⟩
    case round =>
      obtain ⟨k, n, hk, rfl, heq, rfl⟩ := hrel
      have Heq := Lib.hid heq; clear heq
      by_cases hlt : k < xs.length
      · obtain ⟨x, hx⟩ : ∃ x, xs[k]? = some x := ⟨_, List.getElem?_eq_getElem hlt⟩
        obtain ⟨y, hy⟩ : ∃ y, ys[k]? = some y := ⟨_, List.getElem?_eq_getElem (by omega)⟩
        obtain ⟨b, off, c1, he, hb, -⟩ := Hv.out.inv_ne (by omega)
        obtain ⟨rfl, -⟩ : a = some ⟨b, off, none⟩ ∧ cap = c1 := by simpa using he
        obtain ⟨b2, off2, c2, he2, hb2, -⟩ := Hv2.out.inv_ne (by omega)
        obtain ⟨rfl, -⟩ : a2 = some ⟨b2, off2, none⟩ ∧ cap2 = c2 := by simpa using he2
        obtain ⟨u, hck, hu⟩ := Sl.at Hv.out hx
        obtain ⟨u2, hck2, hu2⟩ := Sl.at Hv2.out hy
        have hu : Ints w u x := hu
        have hu2 : Ints w u2 y := hu2
        obtain ⟨p1, p2, rfl, -⟩ := id hu
        obtain ⟨q1, q2, rfl, -⟩ := id hu2
        have Hu := Lib.hid (hu.keep (below_drewN (Below.refl _ _) n))
        have Hu2 := Lib.hid (hu2.keep (below_drewN (Below.refl _ _) n))
        have Hx := Lib.hid hx
        have Hy := Lib.hid hy
        clear hx hy he he2 hu hu2
        by_cases hxy : x = y
        · subst hxy
          go_wp2_with (fail)
          refine (same_q _ _ x x _ Hu.out Hu2.out).mono ?_
          rintro e w' ⟨rfl, m, rfl⟩
          rw [decide_eq_true (rfl : x = x)]
          go_wp2
          go_roundw
          case rel => exact ⟨k + 1, n + m, by omega, by go_num, take_step_eq Heq.out Hx.out Hy.out, by first | rfl | exact World.drewN_drewN _ _ _⟩
          case measure => simp [intOf]; omega
        · have Hd := Lib.hid (show decide (x = y) = false from by simpa using hxy)
          have Hne := Lib.hid hxy
          clear hxy
          go_wp2_with (fail)
          refine (same_q _ _ x y _ Hu.out Hu2.out).mono ?_
          rintro e w' ⟨rfl, m, rfl⟩
          rw [Hd.out]
          go_wp2
          go_ret
          exact ⟨retB (Eq.symm (by simp; intro h; have h1 := Hx.out; rw [h, Hy.out] at h1; exact Hne.out (Option.some.inj h1).symm)), n + m, rfl⟩
      · have hdk : decide ((k : Int) < (xs.length : Int)) = false := by simp; omega
        go_wp2
        go_ret
        exact ⟨retB (Eq.symm (by have h := Heq.out; have hl := Hl.out; rw [List.take_of_length_le (by omega), List.take_of_length_le (by omega)] at h; simp [h])), n, rfl⟩
  · have hne : decide (xs = ys) = false := by simp; intro h; exact hl (by rw [h])
    rw [hne]; clear hne
    have hl' : ((xs.length : Int) == (ys.length : Int)) = false := by simp; omega
    go_enter Try.func26, Try.ntmps26
    go_wp2
    go_ret
    exact ⟨rfl, 0, rfl⟩
theorem alike_c (v v2 : Value) (xs ys : List (List Int)) (w : World) (hv : Grid w v xs) (hv2 : Grid w v2 ys) : Calls Try.prog 26 #[v, v2] w fun e w' => e = .returned (.bool (decide (xs = ys))) ∧ Below w.heap.size w w' :=
  (alike_q v v2 xs ys w hv hv2).mono fun _ _ ⟨he, n, hn⟩ => ⟨he, by subst hn; exact below_drewN (Below.refl _ _) n⟩
end Go.Proofs.Ytliejhmlcdjpcaa

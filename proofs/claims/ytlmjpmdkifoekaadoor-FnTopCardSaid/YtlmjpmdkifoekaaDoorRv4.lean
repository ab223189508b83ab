/- Contracts: slices.Compare, members, LeastReveal of the program. -/
import Derived.Test.YtlmjpmdkifoekaaDoorRv2
import Derived.Laws.BitsLemmas
import Derived.Test.YtlmjpmdkifoekaaDoorShelf
namespace Go.Proofs.YtlmjpmdkifoekaaDoor
open Go.RowKit

theorem pow_wrap12 {n : Nat} (h : n ≤ 40) : wrap64 ((2 : Int) ^ n) = ((2 ^ n : Nat) : Int) := by
  have h1 : 2 ^ n ≤ 2 ^ 40 := Nat.pow_le_pow_right (n := 2) (by decide) h
  have h2 : ((2 ^ n : Nat) : Int) = (2 : Int) ^ n := by simp
  rw [← h2]
  obtain ⟨m, hm⟩ : ∃ m : Nat, m = 2 ^ n := ⟨_, rfl⟩
  rw [← hm] at h1 ⊢
  unfold wrap64
  omega
theorem wraps_i64 (n : Int) (h0 : 0 ≤ n) (h1 : n < 2 ^ 62) : IntKind.i64.wrap n = n := by
  rw [IntKind.wrap_i64]
  have : (2 : Int) ^ 62 = 4611686018427387904 := by decide
  omega
theorem bits_or {a b : Nat} (ha : a < 2 ^ 62) (hb : b < 2 ^ 62) : bits .or .i64 (a : Int) (b : Int) = ((a ||| b : Nat) : Int) := (bits_nat .i64 62 (by decide) wraps_i64 a b ha hb).2
theorem bits_and {a b : Nat} (ha : a < 2 ^ 62) (hb : b < 2 ^ 62) : bits .and .i64 (a : Int) (b : Int) = ((a &&& b : Nat) : Int) := (bits_nat .i64 62 (by decide) wraps_i64 a b ha hb).1
theorem lexI_at : ∀ {p q : List Int} {k : Nat} {x y : Int}, p.take k = q.take k → p[k]? = some x → q[k]? = some y → x ≠ y → (lexI p q ↔ x < y)
  | [], _, _, _, _, _, h, _, _ => by simp at h
  | _ :: _, [], _, _, _, _, _, h, _ => by simp at h
  | a :: p, b :: q, 0, x, y, _, h1, h2, hne => by
    simp at h1 h2
    subst h1; subst h2
    constructor
    · rintro (h | ⟨h, -⟩)
      · exact h
      · exact absurd h hne
    · exact .inl
  | a :: p, b :: q, k + 1, x, y, ht, h1, h2, hne => by
    simp only [List.take_succ_cons, List.cons.injEq] at ht
    obtain ⟨rfl, ht⟩ := ht
    have ih := lexI_at (p := p) (q := q) (k := k) ht (by simpa using h1) (by simpa using h2) hne
    rw [← ih]
    constructor
    · rintro (h | ⟨-, h⟩)
      · omega
      · exact h
    · exact fun h => .inr ⟨rfl, h⟩
theorem lexI_self (p : List Int) : ¬ lexI p p := fun h => lexI_asymm h h
theorem cmp_facts (x y : Int) : (Lib.compareInt x y = 0 ↔ x = y) ∧ (Lib.compareInt x y < 0 ↔ x < y) ∧ -1 ≤ Lib.compareInt x y ∧ Lib.compareInt x y ≤ 1 := by
  unfold Lib.compareInt
  split
  · omega
  · split <;> omega
theorem div_cast (s i : Nat) : (s : Int) / 2 ^ i = ((s / 2 ^ i : Nat) : Int) := by push_cast; rfl
set_option maxHeartbeats 1000000 in
theorem members_c (s K : Nat) (n : Int) (w : World) (hn : n = (s : Int)) (hs : s < 2 ^ K) (hK : K ≤ 40) : Calls Tryd.prog 52 #[.int .i64 n] w (New 3 IntV w (membL K s)) := by
  subst hn
  have Hs := Lib.hid hs
  have hsb : s < 1099511627776 := Nat.lt_of_lt_of_le hs (Nat.le_trans (Nat.pow_le_pow_right (by decide) hK) (by decide))
  clear hs
  go_enter Tryd.func52, Tryd.ntmps52
  go_wp2
  go_loopw [3, 4] (fun ov i wr => ∃ k : Nat, k ≤ K ∧ i = .int .i64 k ∧ Hid (Own 3 IntV (Iv w.heap.size wr.heap.size) wr ov (membL k s)) ∧ Hid (Below w.heap.size w wr)) (fun _ i _ => K - (intOf i).toNat)
  case atStart => exact ⟨0, Nat.zero_le _, rfl, Own.nil _ _ _ _, Below.refl _ _⟩
  case round =>
    obtain ⟨k, hk, rfl, Ho, Hb⟩ := hrel
    obtain ⟨wo, rfl⟩ : ∃ wo : World, wo = wr := ⟨_, rfl⟩
    have hBs := Hb.out.size
    have hml := membL_len k s
    have hml2 : (membL k s).length < 1099511627776 := by omega
    obtain ⟨p1, p2, p3, rfl⟩ := Ho.out.shape
    obtain ⟨D, hD⟩ : ∃ D, D = s / 2 ^ k := ⟨_, rfl⟩
    have hdc : (s : Int) / 2 ^ k = (D : Int) := by rw [hD]; exact div_cast s k
    have Htb := Lib.hid (show s.testBit k = decide (D % 2 = 1) from by rw [testBit_div, hD])
    have HD := Lib.hid hD
    have hDb : D < 1099511627776 := by rw [hD]; exact Nat.lt_of_le_of_lt (Nat.div_le_self _ _) hsb
    have hand : bits .and .i64 (D : Int) 1 = ((D % 2 : Nat) : Int) := by rw [i64_and1]; push_cast; rfl
    clear hD
    by_cases hlt : 0 < D
    · have hkK : k < K := Nat.lt_of_not_le fun h => by
        have h1 : s < 2 ^ k := Nat.lt_of_lt_of_le Hs.out (Nat.pow_le_pow_right (by decide) h)
        have := Nat.div_eq_of_lt h1
        rw [← HD.out] at this
        omega
      have hkI : I64 (k : Int) := I64.small (by omega) (by omega)
      have Hms := Lib.hid (membL_succ k s)
      by_cases hbit : D % 2 = 1
      · have hb1 : (((D % 2 : Nat) : Int) == 1) = true := by rw [hbit]; rfl
        have Hm2 := Lib.hid (show membL (k + 1) s = membL k s ++ [(k : Int)] from by rw [Hms.out, Htb.out, decide_eq_true hbit]; rfl)
        obtain ⟨D2, hD2⟩ : ∃ D2, D2 = D % 2 := ⟨_, rfl⟩
        rw [← hD2] at hand hb1
        clear hbit hD2
        go_wp2_with (first
          | (at_builtin; (refine wpList_appR (w0 := wo) (u := .int .i64 k) rfl _ _ 24 rfl rIntV 3 Tryd.underlying24 infoInt rfl (by decide) w.heap.size wo.heap.size hBs (Nat.le_refl _) rfl rfl (by exact Ho.out) (by exact ⟨rfl, hkI⟩) hml2 ?_); intro v3 w3 o3 b3 _)
          | fail)
        exact ⟨⟨k + 1, hkK, by go_num, Lib.hid (by rw [Hm2.out]; exact o3), Lib.hid (Hb.out.trans b3)⟩, by simp [intOf]; omega⟩
      · have hb1 : (((D % 2 : Nat) : Int) == 1) = false := by rw [beq_eq_false_iff_ne]; omega
        have Hm2 := Lib.hid (show membL (k + 1) s = membL k s from by rw [Hms.out, Htb.out, decide_eq_false hbit]; simp)
        obtain ⟨D2, hD2⟩ : ∃ D2, D2 = D % 2 := ⟨_, rfl⟩
        rw [← hD2] at hand hb1
        clear hbit hD2
        go_wp2
        go_roundw
        case rel => exact ⟨k + 1, hkK, by go_num, Lib.hid (by rw [Hm2.out]; exact Ho.out), Hb⟩
        case measure => simp [intOf]; omega
    · obtain rfl : D = 0 := by omega
      have Hfin := Lib.hid (show membL K s = membL k s from by
        refine membL_big ?_ hk
        have := HD.out
        rw [eq_comm, Nat.div_eq_zero_iff] at this
        rcases this with h | h
        · have := Nat.two_pow_pos k; omega
        · exact h)
      clear hand
      go_wp2
      go_ret
      exact ⟨_, rfl, by rw [Hfin.out]; exact Ho.out, Hb.out⟩
end Go.Proofs.YtlmjpmdkifoekaaDoor

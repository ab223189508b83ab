/- Contracts: the reference's ClosestImage, LeastChange. -/
import Derived.Test.YtadbiefcpjcinaaC19
namespace Go.Proofs.Ytadbiefcpjcinaa
open Go.RowKit

theorem ClosestImage_sb (v1 v2 : Value) (rows cols : List Int) (w : World) (h1 : Ints w v1 rows) (h2 : Ints w v2 cols) (hbad : closeOk rows cols = false) :
    Calls Try.prog 25 #[v1, v2] w (CloseRes w rows cols (closest rows cols)) := by
  have hcl : closest rows cols = none := by unfold closest; rw [hbad]; rfl
  rw [hcl]
  have H1 := Lib.hid h1
  have H2 := Lib.hid h2
  obtain ⟨a1, c1, rfl, -⟩ := id h1
  obtain ⟨a2, c2, rfl, -⟩ := id h2
  clear h1 h2 hcl
  cases hsf : sumsFit rows cols
  · have Hsf := Lib.hid hsf; clear hsf hbad
    go_enter Try.func25, Try.ntmps25
    go_wp2_with (fail)
    refine (SumsFit_s _ _ _ _ _ H1.out H2.out).mono ?_
    rintro e w' ⟨rfl, rfl⟩
    rw [Hsf.out]
    go_wp2
    refine bodyPost_ret (v := .tuple #[.slice none 0 0, .int .i64 0, .bool false]) (by simp [results, Try.results25, go_sem]) rfl ⟨_, rfl, Own.nil _ _ _ _, Below.refl _ _⟩
  · have hgt : 12 < rows.length * cols.length := by
      unfold closeOk at hbad; rw [hsf] at hbad; simpa using hbad
    obtain ⟨k1, k2, k3, k4, -, -⟩ := sumsFit_iff hsf
    obtain ⟨N, hN⟩ : ∃ N, N = rows.length * cols.length := ⟨_, rfl⟩
    have hN16 : N ≤ 16 := by rw [hN]; exact Nat.mul_le_mul k2 k4
    rw [← hN] at hgt
    have hmul : (rows.length : Int) * (cols.length : Int) = (N : Int) := by rw [hN]; simp
    have Hsf := Lib.hid hsf; clear hsf hbad hN
    go_enter Try.func25, Try.ntmps25
    go_wp2_with (fail)
    refine (SumsFit_s _ _ _ _ _ H1.out H2.out).mono ?_
    rintro e w' ⟨rfl, rfl⟩
    rw [Hsf.out]
    go_wp2
    refine bodyPost_ret (v := .tuple #[.slice none 0 0, .int .i64 0, .bool false]) (by simp [results, Try.results25, go_sem]) rfl ⟨_, rfl, Own.nil _ _ _ _, Below.refl _ _⟩

set_option maxHeartbeats 1600000 in
set_option maxRecDepth 100000 in
theorem ClosestImage_sg (v1 v2 : Value) (rows cols : List Int) (w : World) (h1 : Ints w v1 rows) (h2 : Ints w v2 cols) (hok : closeOk rows cols = true) :
    Calls Try.prog 25 #[v1, v2] w (CloseRes w rows cols (closest rows cols)) := by
  have hcl : closest rows cols = closeTo rows cols (2 ^ (rows.length * cols.length)) := by unfold closest; rw [if_pos hok]
  unfold closeOk at hok
  rw [Bool.and_eq_true, decide_eq_true_eq] at hok
  obtain ⟨hsf, hle⟩ := hok
  obtain ⟨k1, k2, k3, k4, -, -⟩ := sumsFit_iff hsf
  have H1 := Lib.hid h1
  have H2 := Lib.hid h2
  obtain ⟨a1, c1, rfl, -⟩ := id h1
  obtain ⟨a2, c2, rfl, -⟩ := id h2
  clear h1 h2
  obtain ⟨N, hN⟩ : ∃ N, N = rows.length * cols.length := ⟨_, rfl⟩
  rw [← hN] at hle hcl
  have hN1 : 1 ≤ N := by rw [hN]; exact Nat.mul_le_mul k1 k3
  have hmul : (rows.length : Int) * (cols.length : Int) = (N : Int) := by rw [hN]; simp
  have hpow0 := pow_wrap' (n := N) (by omega)
  obtain ⟨P, hP⟩ : ∃ P : Nat, P = 2 ^ N := ⟨_, rfl⟩
  have hP4 : P ≤ 4096 := by rw [hP]; exact Nat.pow_le_pow_right (n := 2) (by decide) hle
  have hP1 : 1 ≤ P := by rw [hP]; exact Nat.two_pow_pos N
  rw [← hP] at hcl hpow0
  have hpow : wrap64 ((2 : Int) ^ N) = (P : Int) := hpow0
  have Hsf := Lib.hid hsf
  have HN := Lib.hid hN
  have Hcl := Lib.hid hcl
  clear hsf hN hP hpow0 hcl
  go_enter Try.func25, Try.ntmps25
  go_wp2_with (fail)
  refine (SumsFit_s _ _ _ _ _ H1.out H2.out).mono ?_
  rintro e w' ⟨rfl, rfl⟩
  rw [Hsf.out]
  go_wp2
  go_loopw [7, 8, 9, 10, 11] (fun best least key _ _ wr => ∃ k : Nat, k ≤ P ∧ key = .int .i64 k ∧ Below w.heap.size w wr ∧ ((k = 0 ∧ least = .int .i64 (-1)) ∨ ∃ (b : Nat) (l : Int), closeTo rows cols k = some (b, l) ∧ least = .int .i64 l ∧ (0 ≤ l ∧ l ≤ 40) ∧ Own 33 (Own 3 IntV) (Iv w.heap.size wr.heap.size) wr best (imgOf rows.length cols.length b))) (fun _ _ key _ _ _ => P - (intOf key).toNat)
  case atStart => exact ⟨0, Nat.zero_le _, rfl, Below.pureAlloc _ _, .inl ⟨rfl, rfl⟩⟩
  case round =>
    obtain ⟨k, hk, rfl, hbel, hst⟩ := hrel
    obtain ⟨wo, rfl⟩ : ∃ wo : World, wo = wr := ⟨_, rfl⟩
    have Hst := Lib.hid hst
    clear hst
    by_cases hlt : k < P
    · go_wp2_with (fail)
      refine (l13Image_c rows.length cols.length k _ (by omega) (by omega) (by omega) (by omega) (by omega)).mono ?_
      rintro e w1 ⟨v1, rfl, hown, hbel1⟩
      clear hpow hmul
      have hs1 : wo.heap.size ≤ w1.heap.size := hbel1.size
      have hws : w.heap.size ≤ wo.heap.size := hbel.size
      have hbw := hbel.trans_pure hbel1 (Nat.le_refl _)
      have Hown := Lib.hid hown
      clear hown
      go_wp2_with (fail)
      refine (ChangeOf_s _ _ _ _ _ _ _ (H1.out.keep hbw) (H2.out.keep hbw) Hown.out.grid).mono ?_
      rintro e w3 ⟨rfl, hbel3⟩
      have hs3 : w1.heap.size ≤ w3.heap.size := hbel3.size
      have hbw3 := hbw.trans_pure hbel3 (Nat.le_refl _)
      have hbo3 := hbel1.trans_pure hbel3 (Nat.le_refl _)
      have hown3 : Own 33 (Own 3 IntV) (Iv w.heap.size w3.heap.size) w3 v1 (imgOf rows.length cols.length k) :=
        (rOwn (rOwn rIntV)).mono (fun b hb => ⟨by have := hb.1; omega, by have := hb.2; omega⟩) (Own.keep (rOwn rIntV) Hown.out hbel3 (Nat.le_refl _))
      have Hown3 := Lib.hid hown3
      clear hown3 Hown
      have hch := changeOf_bd (changeOk_img Hsf.out k)
      obtain ⟨ch, hchE⟩ : ∃ ch, ch = changeOf rows cols (imgOf rows.length cols.length k) := ⟨_, rfl⟩
      rw [← hchE] at hch ⊢
      obtain ⟨hch0, hch40⟩ := hch
      have HchE := Lib.hid hchE
      clear hchE
      rcases Hst.out with ⟨rfl, rfl⟩ | ⟨b, l, hcb, rfl, ⟨hl0, hl40⟩, ho⟩
      · have Hnext := Lib.hid (closeTo_succ_none (rows := rows) (cols := cols) (k := 0) rfl)
        go_wp2
        go_roundw
        case rel => exact ⟨1, by omega, by go_num, hbw3, .inr ⟨0, ch, by rw [HchE.out]; exact Hnext.out, rfl, ⟨hch0, hch40⟩, Hown3.out⟩⟩
        case measure => exact meas (k := 0) hP1
      · have Ho := Lib.hid ho
        have Hcb := Lib.hid hcb
        clear ho hcb
        have hln : ¬ l < 0 := by omega
        have hld : decide (l < 0) = false := by simp; omega
        by_cases hlt3 : ch < l
        · have Hnext := Lib.hid (closeTo_succ_lt Hcb.out (by rw [← HchE.out]; exact hlt3))
          have hcd : decide (ch < l) = true := by simp; omega
          go_wp2
          go_roundw
          case rel => exact ⟨k + 1, by omega, by go_num, hbw3, .inr ⟨k, ch, by rw [HchE.out]; exact Hnext.out, rfl, ⟨hch0, hch40⟩, Hown3.out⟩⟩
          case measure => exact meas hlt
        · have Hnext := Lib.hid (closeTo_succ_ge Hcb.out (by rw [← HchE.out]; exact hlt3))
          have hcd : decide (ch < l) = false := by simp; omega
          go_wp2
          go_roundw
          case rel => exact ⟨k + 1, by omega, by go_num, hbw3, .inr ⟨b, l, Hnext.out, rfl, ⟨hl0, hl40⟩, Own.grow (rOwn rIntV) Ho.out (Nat.le_refl _) hbo3⟩⟩
          case measure => exact meas hlt
    · obtain rfl : k = P := by omega
      rcases Hst.out with ⟨h0, -⟩ | ⟨b, l, hcb, rfl, ⟨hl0, hl40⟩, ho⟩
      · omega
      obtain ⟨gb, cb, rfl, -⟩ := ho.inv_ne (by rw [imgOf_len]; exact k1)
      have Hb := Lib.hid (Hcl.out.trans hcb)
      have Ho := Lib.hid ho
      clear ho hcb
      go_wp2
      refine bodyPost_ret (v := .tuple #[.slice (some ⟨gb, 0, none⟩) (imgOf rows.length cols.length b).length cb, .int .i64 l, .bool true]) (by simp [results, Try.results25, go_sem]) rfl ⟨_, by rw [Hb.out]; rfl, by rw [Hb.out]; exact Ho.out, hbel⟩
theorem ClosestImage_s (v1 v2 : Value) (rows cols : List Int) (w : World) (h1 : Ints w v1 rows) (h2 : Ints w v2 cols) :
    Calls Try.prog 25 #[v1, v2] w (CloseRes w rows cols (closest rows cols)) := by
  cases h : closeOk rows cols
  · exact ClosestImage_sb _ _ _ _ _ h1 h2 h
  · exact ClosestImage_sg _ _ _ _ _ h1 h2 h

def leastChange (rows cols : List Int) : Int := if (closest rows cols).isSome then closeNum (closest rows cols) else -1
end Go.Proofs.Ytadbiefcpjcinaa

/- FnConfirms: the walk of the law. -/
import Derived.Test.YthmocomfjgmjoaaGreatDoorKZr
import Derived.Test.YthmocomfjgmjoaaGreatDoorKZf
import Derived.Test.YthmocomfjgmjoaaGreatDoorQ02
set_option maxHeartbeats 4000000
set_option maxRecDepth 100000
namespace Go.Proofs.YthmocomfjgmjoaaGreatDoor
open Go.RowKit
theorem FnConfirms_w {v : Value} {bs : List Int} {w : World} (hv : Bytes w v bs) (ht : TabE w) :
    Calls Tryz.prog 3 #[v] w fun e w' => e = .returned (.bool true) ∧ Below w.heap.size w w' := by
  obtain ⟨a, cap, rfl, -, -, -, -⟩ := id hv
  rcases Nat.lt_or_ge 1048576 bs.length with h1 | h1
  · go_enter Tryz.func3, Tryz.ntmps3
    go_wp2
    go_ret
    exact ⟨rfl, Below.refl _ _⟩
  have hd0 : decide ((1048576 : Int) < (bs.length : Int)) = false := by simp; omega
  have Ht := Lib.hid ht
  clear ht
  go_enter Tryz.func3, Tryz.ntmps3
  go_wp2_with (fail)
  refine (MakeNum_c _ bs 1 w hv (by decide)).mono ?_
  rintro e w1 ⟨r, ⟨hr0, hr1⟩, rfl, b1⟩
  have hm : r.tmod 2 = 0 ∨ r.tmod 2 = 1 := by
    have e1 := Int.tmod_eq_emod_of_nonneg (b := 2) hr0
    omega
  rcases hm with hm | hm
  · go_wp2_with (fail)
    refine (FormatInt_i 1 (I64.small (by decide) (by decide)) _ (Ht.out.keep b1).1).mono ?_
    rintro e w2 ⟨rfl, b2⟩
    rw [show fmtInt 1 = ⟨#[49]⟩ by decide +kernel]
    have bb2 := b1.trans_pure b2 (Nat.le_refl _)
    go_wp2_with (first
      | (go_at_call 8; refine (FormatInt_i 0 (I64.small (by decide) (by decide)) _ (Ht.out.keep bb2).1).mono ?_; rw [show fmtInt 0 = ⟨#[48]⟩ by decide +kernel]; rintro e w3 ⟨rfl, b3⟩)
      | (go_at_call 9; refine (RunSession_i textL1 _ (Ht.out.keep (bb2.trans_pure b3 (Nat.le_refl _))) (by decide +kernel)).mono ?_; rw [sessL1]; rintro e w4 ⟨rfl, b4⟩)
      | fail)
    have bb4 := (bb2.trans_pure b3 (Nat.le_refl _)).trans_pure b4 (Nat.le_refl _)
    go_wp2_with (fail)
    refine (SplitLines_i (saidAll saidL1 ByteArray.empty) _ (by decide +kernel)).mono ?_
    rw [splitL1]
    rintro e w5 ⟨vl, rfl, ol, b5⟩
    obtain ⟨gl, off, cl, rfl, hgl, hcl⟩ := ol.inv_ne (by decide)
    have bb5 := bb4.trans_pure b5 (Nat.le_refl _)
    have q0 : w5.cell? ⟨gl, off, none⟩ = some (.string ⟨#[111, 107]⟩) := by
      obtain ⟨u, hu, rfl, -⟩ := Sl.at ol (k := 0) rfl
      exact hu
    have q1 : w5.cell? ⟨gl, off + 1, none⟩ = some (.string ⟨#[35, 46, 47, 46, 35, 32, 114, 111, 119, 115, 32, 49, 44, 49, 32, 99, 111, 108, 115, 32, 49, 44, 49, 32, 102, 114, 101, 101, 32, 52]⟩) := by
      obtain ⟨u, hu, rfl, -⟩ := Sl.at ol (k := 1) rfl
      exact hu
    have q2 : w5.cell? ⟨gl, off + 2, none⟩ = some (.string ⟨#[46, 35, 47, 35, 46, 59, 35, 46, 47, 46, 35]⟩) := by
      obtain ⟨u, hu, rfl, -⟩ := Sl.at ol (k := 2) rfl
      exact hu
    have q3 : w5.cell? ⟨gl, off + 3, none⟩ = some (.string ⟨#[49, 32, 115, 119, 105, 116, 99, 104, 101, 115, 32, 48, 58, 49, 58, 48, 58, 49]⟩) := by
      obtain ⟨u, hu, rfl, -⟩ := Sl.at ol (k := 3) rfl
      exact hu
    have q4 : w5.cell? ⟨gl, off + 4, none⟩ = some (.string ⟨#[46, 35, 47, 35, 46]⟩) := by
      obtain ⟨u, hu, rfl, -⟩ := Sl.at ol (k := 4) rfl
      exact hu
    have q5 : w5.cell? ⟨gl, off + 5, none⟩ = some (.string ⟨#[48]⟩) := by
      obtain ⟨u, hu, rfl, -⟩ := Sl.at ol (k := 5) rfl
      exact hu
    have q6 : w5.cell? ⟨gl, off + 6, none⟩ = some (.string ⟨#[49, 44, 48, 44, 49]⟩) := by
      obtain ⟨u, hu, rfl, -⟩ := Sl.at ol (k := 6) rfl
      exact hu
    have q7 : w5.cell? ⟨gl, off + 7, none⟩ = some (.string ⟨#[114, 111, 119, 115, 32, 50, 44, 49, 32, 99, 111, 108, 115, 32, 50, 44, 49, 32, 105, 109, 97, 103, 101, 115, 32, 49]⟩) := by
      obtain ⟨u, hu, rfl, -⟩ := Sl.at ol (k := 7) rfl
      exact hu
    have q8 : w5.cell? ⟨gl, off + 8, none⟩ = some (.string ⟨#[35, 35, 47, 35, 46]⟩) := by
      obtain ⟨u, hu, rfl, -⟩ := Sl.at ol (k := 8) rfl
      exact hu
    have q9 : w5.cell? ⟨gl, off + 9, none⟩ = some (.string ⟨#[35, 35, 47, 35, 46, 32, 114, 111, 119, 115, 32, 50, 44, 49, 32, 99, 111, 108, 115, 32, 50, 44, 49, 32, 117, 110, 105, 113, 117, 101]⟩) := by
      obtain ⟨u, hu, rfl, -⟩ := Sl.at ol (k := 9) rfl
      exact hu
    have q10 : w5.cell? ⟨gl, off + 10, none⟩ = some (.string ⟨#[35, 35, 47, 35, 46]⟩) := by
      obtain ⟨u, hu, rfl, -⟩ := Sl.at ol (k := 10) rfl
      exact hu
    have q11 : w5.cell? ⟨gl, off + 11, none⟩ = some (.string ⟨#[114, 111, 119, 115, 32, 51, 44, 48, 32, 99, 111, 108, 115, 32, 49, 44, 49, 44, 49, 32, 105, 109, 97, 103, 101, 115, 32, 49]⟩) := by
      obtain ⟨u, hu, rfl, -⟩ := Sl.at ol (k := 11) rfl
      exact hu
    have q12 : w5.cell? ⟨gl, off + 12, none⟩ = some (.string ⟨#[114, 111, 119, 115, 32, 50, 44, 50, 32, 99, 111, 108, 115, 32, 51, 44, 49, 32, 110, 111, 110, 101]⟩) := by
      obtain ⟨u, hu, rfl, -⟩ := Sl.at ol (k := 12) rfl
      exact hu
    have q14 : w5.cell? ⟨gl, off + 14, none⟩ = some (.string ⟨#[35, 46, 47, 35, 46]⟩) := by
      obtain ⟨u, hu, rfl, -⟩ := Sl.at ol (k := 14) rfl
      exact hu
    have q15 : w5.cell? ⟨gl, off + 15, none⟩ = some (.string ⟨#[114, 111, 119, 115, 32, 49, 44, 49, 32, 99, 111, 108, 115, 32, 49, 44, 49, 32, 105, 109, 97, 103, 101, 115, 32, 50]⟩) := by
      obtain ⟨u, hu, rfl, -⟩ := Sl.at ol (k := 15) rfl
      exact hu
    have q16 : w5.cell? ⟨gl, off + 16, none⟩ = some (.string ⟨#[46, 35, 47, 35, 46, 32, 50]⟩) := by
      obtain ⟨u, hu, rfl, -⟩ := Sl.at ol (k := 16) rfl
      exact hu
    have q18 : w5.cell? ⟨gl, off + 18, none⟩ = some (.string ⟨#[49, 32, 115, 111, 108, 117, 116, 105, 111, 110, 115, 32, 46, 35, 46, 47, 35, 35, 35, 47, 46, 35, 46, 32, 108, 111, 103, 105, 99, 97, 108]⟩) := by
      obtain ⟨u, hu, rfl, -⟩ := Sl.at ol (k := 18) rfl
      exact hu
    have q19 : w5.cell? ⟨gl, off + 19, none⟩ = some (.string ⟨#[46, 35, 46, 47, 35, 35, 35, 47, 46, 35, 46]⟩) := by
      obtain ⟨u, hu, rfl, -⟩ := Sl.at ol (k := 19) rfl
      exact hu
    have q20 : w5.cell? ⟨gl, off + 20, none⟩ = some (.string ⟨#[117, 110, 107, 110, 111, 119, 110, 32, 99, 111, 109, 109, 97, 110, 100]⟩) := by
      obtain ⟨u, hu, rfl, -⟩ := Sl.at ol (k := 20) rfl
      exact hu
    have hlen : saidL1.length = 21 := by decide
    rw [hlen] at hcl ⊢
    clear ol hlen
    go_wp2
    go_ret
    exact ⟨rfl, bb5⟩
  · go_wp2_with (fail)
    refine (FormatInt_i 2 (I64.small (by decide) (by decide)) _ (Ht.out.keep b1).1).mono ?_
    rintro e w2 ⟨rfl, b2⟩
    rw [show fmtInt 2 = ⟨#[50]⟩ by decide +kernel]
    have bb2 := b1.trans_pure b2 (Nat.le_refl _)
    go_wp2_with (first
      | (go_at_call 8; refine (FormatInt_i 2 (I64.small (by decide) (by decide)) _ (Ht.out.keep bb2).1).mono ?_; rw [show fmtInt 2 = ⟨#[50]⟩ by decide +kernel]; rintro e w3 ⟨rfl, b3⟩)
      | (go_at_call 9; refine (RunSession_i textL2 _ (Ht.out.keep (bb2.trans_pure b3 (Nat.le_refl _))) (by decide +kernel)).mono ?_; rw [sessL2]; rintro e w4 ⟨rfl, b4⟩)
      | fail)
    have bb4 := (bb2.trans_pure b3 (Nat.le_refl _)).trans_pure b4 (Nat.le_refl _)
    go_wp2_with (fail)
    refine (SplitLines_i (saidAll saidL2 ByteArray.empty) _ (by decide +kernel)).mono ?_
    rw [splitL2]
    rintro e w5 ⟨vl, rfl, ol, b5⟩
    obtain ⟨gl, off, cl, rfl, hgl, hcl⟩ := ol.inv_ne (by decide)
    have bb5 := bb4.trans_pure b5 (Nat.le_refl _)
    have q0 : w5.cell? ⟨gl, off, none⟩ = some (.string ⟨#[111, 107]⟩) := by
      obtain ⟨u, hu, rfl, -⟩ := Sl.at ol (k := 0) rfl
      exact hu
    have q1 : w5.cell? ⟨gl, off + 1, none⟩ = some (.string ⟨#[35, 46, 47, 46, 35, 32, 114, 111, 119, 115, 32, 49, 44, 49, 32, 99, 111, 108, 115, 32, 49, 44, 49, 32, 102, 114, 101, 101, 32, 52]⟩) := by
      obtain ⟨u, hu, rfl, -⟩ := Sl.at ol (k := 1) rfl
      exact hu
    have q2 : w5.cell? ⟨gl, off + 2, none⟩ = some (.string ⟨#[46, 35, 47, 35, 46, 59, 35, 46, 47, 46, 35]⟩) := by
      obtain ⟨u, hu, rfl, -⟩ := Sl.at ol (k := 2) rfl
      exact hu
    have q3 : w5.cell? ⟨gl, off + 3, none⟩ = some (.string ⟨#[49, 32, 115, 119, 105, 116, 99, 104, 101, 115, 32, 48, 58, 49, 58, 48, 58, 49]⟩) := by
      obtain ⟨u, hu, rfl, -⟩ := Sl.at ol (k := 3) rfl
      exact hu
    have q4 : w5.cell? ⟨gl, off + 4, none⟩ = some (.string ⟨#[46, 35, 47, 35, 46]⟩) := by
      obtain ⟨u, hu, rfl, -⟩ := Sl.at ol (k := 4) rfl
      exact hu
    have q5 : w5.cell? ⟨gl, off + 5, none⟩ = some (.string ⟨#[48]⟩) := by
      obtain ⟨u, hu, rfl, -⟩ := Sl.at ol (k := 5) rfl
      exact hu
    have q6 : w5.cell? ⟨gl, off + 6, none⟩ = some (.string ⟨#[49, 44, 48, 44, 49]⟩) := by
      obtain ⟨u, hu, rfl, -⟩ := Sl.at ol (k := 6) rfl
      exact hu
    have q7 : w5.cell? ⟨gl, off + 7, none⟩ = some (.string ⟨#[114, 111, 119, 115, 32, 50, 44, 49, 32, 99, 111, 108, 115, 32, 50, 44, 49, 32, 105, 109, 97, 103, 101, 115, 32, 49]⟩) := by
      obtain ⟨u, hu, rfl, -⟩ := Sl.at ol (k := 7) rfl
      exact hu
    have q8 : w5.cell? ⟨gl, off + 8, none⟩ = some (.string ⟨#[35, 35, 47, 35, 46]⟩) := by
      obtain ⟨u, hu, rfl, -⟩ := Sl.at ol (k := 8) rfl
      exact hu
    have q9 : w5.cell? ⟨gl, off + 9, none⟩ = some (.string ⟨#[35, 35, 47, 35, 46, 32, 114, 111, 119, 115, 32, 50, 44, 49, 32, 99, 111, 108, 115, 32, 50, 44, 49, 32, 117, 110, 105, 113, 117, 101]⟩) := by
      obtain ⟨u, hu, rfl, -⟩ := Sl.at ol (k := 9) rfl
      exact hu
    have q10 : w5.cell? ⟨gl, off + 10, none⟩ = some (.string ⟨#[35, 35, 47, 35, 46]⟩) := by
      obtain ⟨u, hu, rfl, -⟩ := Sl.at ol (k := 10) rfl
      exact hu
    have q11 : w5.cell? ⟨gl, off + 11, none⟩ = some (.string ⟨#[114, 111, 119, 115, 32, 51, 44, 48, 32, 99, 111, 108, 115, 32, 49, 44, 49, 44, 49, 32, 105, 109, 97, 103, 101, 115, 32, 49]⟩) := by
      obtain ⟨u, hu, rfl, -⟩ := Sl.at ol (k := 11) rfl
      exact hu
    have q12 : w5.cell? ⟨gl, off + 12, none⟩ = some (.string ⟨#[114, 111, 119, 115, 32, 50, 44, 50, 32, 99, 111, 108, 115, 32, 51, 44, 49, 32, 110, 111, 110, 101]⟩) := by
      obtain ⟨u, hu, rfl, -⟩ := Sl.at ol (k := 12) rfl
      exact hu
    have q14 : w5.cell? ⟨gl, off + 14, none⟩ = some (.string ⟨#[35, 35, 47, 35, 35]⟩) := by
      obtain ⟨u, hu, rfl, -⟩ := Sl.at ol (k := 14) rfl
      exact hu
    have q15 : w5.cell? ⟨gl, off + 15, none⟩ = some (.string ⟨#[114, 111, 119, 115, 32, 49, 44, 49, 32, 99, 111, 108, 115, 32, 49, 44, 49, 32, 105, 109, 97, 103, 101, 115, 32, 50]⟩) := by
      obtain ⟨u, hu, rfl, -⟩ := Sl.at ol (k := 15) rfl
      exact hu
    have q16 : w5.cell? ⟨gl, off + 16, none⟩ = some (.string ⟨#[46, 35, 47, 35, 46, 32, 50]⟩) := by
      obtain ⟨u, hu, rfl, -⟩ := Sl.at ol (k := 16) rfl
      exact hu
    have q18 : w5.cell? ⟨gl, off + 18, none⟩ = some (.string ⟨#[49, 32, 115, 111, 108, 117, 116, 105, 111, 110, 115, 32, 46, 35, 46, 47, 35, 35, 35, 47, 46, 35, 46, 32, 108, 111, 103, 105, 99, 97, 108]⟩) := by
      obtain ⟨u, hu, rfl, -⟩ := Sl.at ol (k := 18) rfl
      exact hu
    have q19 : w5.cell? ⟨gl, off + 19, none⟩ = some (.string ⟨#[46, 35, 46, 47, 35, 35, 35, 47, 46, 35, 46]⟩) := by
      obtain ⟨u, hu, rfl, -⟩ := Sl.at ol (k := 19) rfl
      exact hu
    have q20 : w5.cell? ⟨gl, off + 20, none⟩ = some (.string ⟨#[117, 110, 107, 110, 111, 119, 110, 32, 99, 111, 109, 109, 97, 110, 100]⟩) := by
      obtain ⟨u, hu, rfl, -⟩ := Sl.at ol (k := 20) rfl
      exact hu
    have hlen : saidL2.length = 21 := by decide
    rw [hlen] at hcl ⊢
    clear ol hlen
    go_wp2
    go_ret
    exact ⟨rfl, bb5⟩
end Go.Proofs.YthmocomfjgmjoaaGreatDoor

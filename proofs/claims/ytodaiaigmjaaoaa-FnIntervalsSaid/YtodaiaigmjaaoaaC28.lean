/- Contracts: cells of images; counting black cells. -/
import Derived.Test.YtodaiaigmjaaoaaCopy
import Derived.Test.YtodaiaigmjaaoaaC12
import Derived.Test.YtodaiaigmjaaoaaC13
namespace Go.Proofs.Ytodaiaigmjaaoaa
open Go.RowKit

def inB (r c : Nat) (y x : Int) : Bool := inR 0 ((r : Int) - 1) y && inR 0 ((c : Int) - 1) x
/-- the cell of an image, or -1 -/
def cellOf (m : List (List Int)) (r c : Nat) (y x : Int) : Int := if inB r c y x then (m.getD y.toNat []).getD x.toNat 0 else -1
theorem hasCell_c (v : Value) (m : List (List Int)) (r c : Nat) (y x : Int) (w : World) (hv : Grid w v m) (hs : Shape r c m) (hr1 : 1 ≤ r) (hr5 : r ≤ 5) (hc1 : 1 ≤ c) (hc5 : c ≤ 5) : Calls Try.prog 112 #[v, .int .i64 y, .int .i64 x] w fun e w' => e = .returned (.bool (inB r c y x)) ∧ w = w' := by
  have Hv := Lib.hid hv
  have Hok := Lib.hid (hs.ok hr1 hr5 hc1 hc5)
  have hml := hs.1
  obtain ⟨row0, hrow0, hrl0, -⟩ := hs.row (y := 0) (by omega)
  obtain ⟨a, cap0, rfl, -⟩ := hv
  obtain ⟨b, off, cpr, he, hb, -⟩ := Hv.out.inv_ne (by omega)
  obtain ⟨rfl, -⟩ : a = some ⟨b, off, none⟩ ∧ cap0 = cpr := by simpa using he
  obtain ⟨u0, hck0, hu0⟩ := Sl.at Hv.out hrow0
  obtain ⟨a0, cp0, rfl, -⟩ := hu0
  rw [hrl0, Nat.add_zero] at hck0
  rw [hml] at Hv ⊢
  clear hrow0 hrl0 he hml
  cases h1 : inR 0 ((r : Int) - 1) y
  · have Hr := Lib.hid (show inB r c y x = false from by simp [inB, h1])
    have H1 := Lib.hid h1; clear h1
    go_enter Try.func112, Try.ntmps112
    go_wp2_with (fail)
    refine (ImageOk_i _ _ _ Hv.out).mono ?_
    rintro e w' ⟨rfl, rfl⟩
    rw [Hok.out]
    go_wp2_with (fail)
    refine (within_c _ _ _ _).mono ?_
    rintro e w' ⟨rfl, rfl⟩
    rw [H1.out]
    go_wp2
    go_ret
    exact ⟨retB Hr.out.symm, rfl⟩
  · have Hr := Lib.hid (show inR 0 ((c : Int) - 1) x = inB r c y x from by simp [inB, h1])
    have H1 := Lib.hid h1; clear h1
    go_enter Try.func112, Try.ntmps112
    go_wp2_with (fail)
    refine (ImageOk_i _ _ _ Hv.out).mono ?_
    rintro e w' ⟨rfl, rfl⟩
    rw [Hok.out]
    go_wp2_with (fail)
    refine (within_c _ _ _ _).mono ?_
    rintro e w' ⟨rfl, rfl⟩
    rw [H1.out]
    go_wp2_with (fail)
    refine (within_c _ _ _ _).mono ?_
    rintro e w' ⟨rfl, rfl⟩
    go_wp2
    go_ret
    exact ⟨retB Hr.out, rfl⟩
theorem CellAt_c (v : Value) (m : List (List Int)) (r c : Nat) (y x : Int) (w : World) (hv : Grid w v m) (hs : Shape r c m) (hr1 : 1 ≤ r) (hr5 : r ≤ 5) (hc1 : 1 ≤ c) (hc5 : c ≤ 5) : Calls Try.prog 87 #[v, .int .i64 y, .int .i64 x] w fun e w' => e = .returned (.int .i64 (cellOf m r c y x)) ∧ w = w' := by
  have Hv := Lib.hid hv
  obtain ⟨a, cap0, rfl, -⟩ := id hv
  cases h1 : inB r c y x
  · have Hr := Lib.hid (show cellOf m r c y x = -1 from by simp [cellOf, h1])
    have H1 := Lib.hid h1; clear h1
    go_enter Try.func87, Try.ntmps87
    go_wp2_with (fail)
    refine (hasCell_c _ _ _ _ _ _ _ Hv.out hs hr1 hr5 hc1 hc5).mono ?_
    rintro e w' ⟨rfl, rfl⟩
    rw [H1.out]
    go_wp2
    go_ret
    exact ⟨retI Hr.out.symm, rfl⟩
  · have h2 := h1
    unfold inB at h2
    rw [Bool.and_eq_true, inR_iff, inR_iff] at h2
    obtain ⟨⟨y0, y1⟩, x0, x1⟩ := h2
    obtain ⟨yn, rfl⟩ : ∃ n : Nat, y = n := ⟨y.toNat, by omega⟩
    obtain ⟨xn, rfl⟩ : ∃ n : Nat, x = n := ⟨x.toNat, by omega⟩
    have hml := hs.1
    obtain ⟨row, hrow, hrl, hrb⟩ := hs.row (y := yn) (by omega)
    obtain ⟨b, off, cpr, he, hb, -⟩ := Hv.out.inv_ne (by omega)
    obtain ⟨rfl, -⟩ : a = some ⟨b, off, none⟩ ∧ cap0 = cpr := by simpa using he
    obtain ⟨u, hck, hu⟩ := Sl.at Hv.out hrow
    have hu : Ints w u row := hu
    obtain ⟨br, offr, cpr2, rfl, hbr, hat⟩ := hu.inv_ne (by omega)
    obtain ⟨z, hz⟩ : ∃ z, row[xn]? = some z := ⟨_, List.getElem?_eq_getElem (by omega)⟩
    have hcz := Ints.at hu hz
    have Hr := Lib.hid (show cellOf m r c yn xn = z from by
      unfold cellOf
      rw [if_pos h1, Int.toNat_natCast, Int.toNat_natCast, List.getD_eq_getElem?_getD, List.getD_eq_getElem?_getD, hrow]
      simp [hz])
    have H1 := Lib.hid h1
    rw [hml] at Hv ⊢
    have hyr : yn < r := by omega
    have hxr : xn < row.length := by omega
    clear h1 hrow hz hu hat hrl hml he
    go_enter Try.func87, Try.ntmps87
    go_wp2_with (fail)
    refine (hasCell_c _ _ _ _ _ _ _ Hv.out hs hr1 hr5 hc1 hc5).mono ?_
    rintro e w' ⟨rfl, rfl⟩
    rw [H1.out]
    go_wp2
    go_ret
    exact ⟨retI Hr.out.symm, rfl⟩
/-- the black cells -/
def ones (m : List (List Int)) : Int := sumL (m.map sumL)
theorem sumL_append1 (l : List Int) (x : Int) : sumL (l ++ [x]) = sumL l + x := by simp [sumL, List.foldl_append]
theorem ones_take {m : List (List Int)} {k : Nat} {row : List Int} (h : m[k]? = some row) : ones (m.take (k + 1)) = ones (m.take k) + sumL row := by
  unfold ones
  rw [List.take_add_one, h]
  simp only [Option.toList_some, List.map_append, List.map_cons, List.map_nil]
  exact sumL_append1 _ _
theorem ones_bd {m : List (List Int)} {r c : Nat} (hs : Shape r c m) : ∀ k, 0 ≤ ones (m.take k) ∧ ones (m.take k) ≤ ((k * c : Nat) : Int) := by
  intro k
  induction k with
  | zero => simp [ones, sumL]
  | succ k ih =>
    cases h : m[k]? with
    | none =>
      have : m.take (k + 1) = m.take k := by rw [List.take_add_one, h]; simp
      rw [this, Nat.succ_mul]
      omega
    | some row =>
      have h1 := hs.sum_bd' (List.mem_of_getElem? h)
      have h2 := (hs.2 row (List.mem_of_getElem? h)).1
      rw [ones_take h, Nat.succ_mul]
      rw [h2] at h1
      omega
set_option maxRecDepth 100000 in
theorem CountBlack_c (v : Value) (m : List (List Int)) (r c : Nat) (w : World) (hv : Grid w v m) (hs : Shape r c m) (hr1 : 1 ≤ r) (hr5 : r ≤ 5) (hc1 : 1 ≤ c) (hc5 : c ≤ 5) : Calls Try.prog 48 #[v] w fun e w' => e = .returned (.int .i64 (ones m)) ∧ w = w' := by
  have Hv := Lib.hid hv
  have Hok := Lib.hid (hs.ok hr1 hr5 hc1 hc5)
  have hml5 : m.length ≤ 5 := by have := hs.1; omega
  obtain ⟨a, cap0, rfl, -⟩ := hv
  go_enter Try.func48, Try.ntmps48
  go_wp2_with (fail)
  refine (ImageOk_i _ _ _ Hv.out).mono ?_
  rintro e w' ⟨rfl, rfl⟩
  rw [Hok.out]
  go_wp2
  go_loop [3, 5, 11] (fun n _ i => ∃ k : Nat, k ≤ m.length ∧ i = .int .i64 k ∧ n = .int .i64 (ones (m.take k))) (fun _ _ i => m.length - (intOf i).toNat)
  case atStart => exact ⟨0, Nat.zero_le _, rfl, rfl⟩
  case round =>
    obtain ⟨k, hk, rfl, rfl⟩ := hrel
    obtain ⟨t, ht⟩ : ∃ t, t = ones (m.take k) := ⟨_, rfl⟩
    have hb := ones_bd hs k
    rw [← ht] at hb ⊢
    have hkc : k * c ≤ 25 := Nat.mul_le_mul (show k ≤ 5 by omega) hc5
    have hb1 : 0 ≤ t := hb.1
    have hb2 : t ≤ 25 := by have := hb.2; omega
    have Ht := Lib.hid ht
    clear hb ht hkc
    by_cases hlt : k < m.length
    · obtain ⟨row, hrow⟩ : ∃ row, m[k]? = some row := ⟨_, List.getElem?_eq_getElem hlt⟩
      obtain ⟨b, off, cpr, he, hb, -⟩ := Hv.out.inv_ne (by omega)
      obtain ⟨rfl, -⟩ : a = some ⟨b, off, none⟩ ∧ cap0 = cpr := by simpa using he
      obtain ⟨u, hck, hu⟩ := Sl.at Hv.out hrow
      have hu : Ints w u row := hu
      obtain ⟨br, cpr, rfl, -⟩ := id hu
      have hsm := hs.small hc5 (List.mem_of_getElem? hrow)
      have hsb := hs.sum_bd' (List.mem_of_getElem? hrow)
      have hrl := (hs.2 row (List.mem_of_getElem? hrow)).1
      have hs1 : 0 ≤ sumL row := hsb.1
      have hs2 : sumL row ≤ 5 := by have := hsb.2; omega
      have Hst := Lib.hid (ones_take hrow)
      have Hu := Lib.hid hu
      clear hrow he hu hsb hrl
      go_wp2_with (fail)
      refine (sumOf_c _ _ _ Hu.out hsm).mono ?_
      rintro e w' ⟨rfl, rfl⟩
      go_wp2
      go_round
      case rel => exact ⟨k + 1, by omega, by go_num, by rw [Hst.out, ← Ht.out]⟩
      case measure => simp [intOf]; omega
    · have Hf := Lib.hid (show t = ones m from by rw [Ht.out, List.take_of_length_le (by omega)])
      have hdk : decide ((k : Int) < (m.length : Int)) = false := by simp; omega
      go_wp2
      go_ret
      exact ⟨retI Hf.out, rfl⟩
end Go.Proofs.Ytodaiaigmjaaoaa

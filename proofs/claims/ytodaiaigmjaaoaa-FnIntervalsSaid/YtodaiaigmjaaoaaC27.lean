/- Contracts: IsHConvex, IsVConvex. -/
import Derived.Test.YtodaiaigmjaaoaaC26
namespace Go.Proofs.Ytodaiaigmjaaoaa
open Go.RowKit

def hConvex (m : List (List Int)) : Bool := imageOk m && m.all interOk
set_option maxHeartbeats 400000 in
theorem IsHConvex_c (v : Value) (m : List (List Int)) (w : World) (hv : Grid w v m) : Calls Try.prog 44 #[v] w fun e w' => e = .returned (.bool (hConvex m)) ∧ w = w' := by
  have Hv := Lib.hid hv
  obtain ⟨a, cap0, rfl, hcap, hle, -, -⟩ := hv
  cases hok : imageOk m
  · have Hr := Lib.hid (show hConvex m = false from by simp [hConvex, hok])
    have Hok := Lib.hid hok; clear hok
    go_enter Try.func44, Try.ntmps44
    go_wp2_with (fail)
    refine (ImageOk_i _ _ _ Hv.out).mono ?_
    rintro e w' ⟨rfl, rfl⟩
    rw [Hok.out]
    go_wp2
    go_ret
    exact ⟨retB Hr.out.symm, rfl⟩
  obtain ⟨r, c, hr1, hr5, hc1, hc5, hsh⟩ := imageOk_shape hok
  have hml1 : 1 ≤ m.length := by have := hsh.1; omega
  have Hok := Lib.hid hok; clear hok
  go_enter Try.func44, Try.ntmps44
  go_wp2_with (fail)
  refine (ImageOk_i _ _ _ Hv.out).mono ?_
  rintro e w' ⟨rfl, rfl⟩
  rw [Hok.out]
  go_wp2
  go_loop [4, 5, 6, 7, 13] (fun _ _ _ _ i => ∃ k : Nat, k ≤ m.length ∧ i = .int .i64 k ∧ (m.take k).all interOk = true) (fun _ _ _ _ i => m.length - (intOf i).toNat)
  case atStart => exact ⟨0, Nat.zero_le _, rfl, rfl⟩
  case round =>
    obtain ⟨k, hk, rfl, hall⟩ := hrel
    have Hall := Lib.hid hall; clear hall
    by_cases hlt : k < m.length
    · obtain ⟨row, hrow⟩ : ∃ row, m[k]? = some row := ⟨_, List.getElem?_eq_getElem hlt⟩
      obtain ⟨b, off, cpr, he, hb, -⟩ := Hv.out.inv_ne (by omega)
      obtain ⟨rfl, -⟩ : a = some ⟨b, off, none⟩ ∧ cap0 = cpr := by simpa using he
      obtain ⟨u, hck, hu⟩ := Sl.at Hv.out hrow
      have hu : Ints w u row := hu
      obtain ⟨br, cpr, rfl, -⟩ := id hu
      obtain ⟨hrl, hrb⟩ := hsh.2 row (List.mem_of_getElem? hrow)
      have hrl1 : 1 ≤ row.length := by omega
      have hrl5 : row.length ≤ 5 := by omega
      have Has := Lib.hid (all_take_step interOk hrow)
      have Hrow := Lib.hid hrow
      have Hu := Lib.hid hu
      have Hrb := Lib.hid hrb
      clear hrow he hu hrb hrl
      cases hi : interOk row
      · have Hi := Lib.hid hi; clear hi
        have Hf := Lib.hid (show hConvex m = false from by unfold hConvex; rw [all_of_take _ Hrow.out Hi.out]; simp)
        have hres : interRes row = .tuple #[.int .i64 0, .int .i64 0, .bool false] := by unfold interRes; rw [Hi.out]; rfl
        have Hres := Lib.hid hres; clear hres
        go_wp2_with (fail)
        refine (IntervalOf_c _ _ _ Hu.out hrl1 hrl5 Hrb.out).mono ?_
        rintro e w' ⟨rfl, rfl⟩
        rw [Hres.out]
        go_wp2
        go_ret
        exact ⟨retB Hf.out.symm, rfl⟩
      · have Hi := Lib.hid hi; clear hi
        have hres : interRes row = .tuple #[.int .i64 (firstOf row), .int .i64 (sumL row), .bool true] := by unfold interRes; rw [Hi.out]; rfl
        have Hres := Lib.hid hres; clear hres
        go_wp2_with (fail)
        refine (IntervalOf_c _ _ _ Hu.out hrl1 hrl5 Hrb.out).mono ?_
        rintro e w' ⟨rfl, rfl⟩
        rw [Hres.out]
        go_wp2
        go_round
        case rel => exact ⟨k + 1, by omega, by go_num, by rw [Has.out, Hall.out, Hi.out]; rfl⟩
        case measure => simp [intOf]; omega
    · have Hf := Lib.hid (show hConvex m = true from by unfold hConvex; rw [Hok.out, all_done Hall.out (by omega)]; rfl)
      go_wp2
      go_ret
      exact ⟨retB Hf.out.symm, rfl⟩
theorem IsVConvex_c (v : Value) (m : List (List Int)) (w : World) (hv : Grid w v m) : Calls Try.prog 45 #[v] w fun e w' => e = .returned (.bool (hConvex (trOf m))) ∧ Below w.heap.size w w' := by
  go_enter Try.func45, Try.ntmps45
  go_wp2_with (fail)
  refine (TransposeOf_i _ _ _ hv).mono ?_
  rintro e w1 ⟨v1, rfl, ho, hbel⟩
  go_wp2_with (fail)
  refine (IsHConvex_c _ _ _ ho.grid).mono ?_
  rintro e w2 ⟨rfl, rfl⟩
  go_wp2
  go_ret
  exact ⟨rfl, hbel⟩
end Go.Proofs.Ytodaiaigmjaaoaa

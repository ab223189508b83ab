/- Contracts: RowSums, ColSums. -/
import Derived.Test.YtliejhmlcdjpcaaC12
namespace Go.Proofs.Ytliejhmlcdjpcaa
open Go.RowKit

theorem map_take_snoc {m : List (List Int)} {k : Nat} {row : List Int} (h : m[k]? = some row) : (m.take (k + 1)).map sumL = (m.take k).map sumL ++ [sumL row] := by
  rw [List.take_add_one, h]; simp
theorem rowSums_done {m : List (List Int)} {k : Nat} (h : imageOk m = true) (hk : m.length ≤ k) : (m.take k).map sumL = rowSumsOf m := by
  rw [List.take_of_length_le hk, rowSumsOf, if_pos h]

set_option maxHeartbeats 400000 in
theorem RowSums_i (v : Value) (m : List (List Int)) (w : World) (hv : Grid w v m) : Calls Try.prog 15 #[v] w (New 3 IntV w (rowSumsOf m)) := by
  have Hv := Lib.hid hv
  obtain ⟨a, cap0, rfl, hcap, hle, -, hc⟩ := hv
  cases hok : imageOk m
  · have Hr := Lib.hid (show rowSumsOf m = [] from by simp [rowSumsOf, hok])
    have Hok := Lib.hid hok; clear hok
    go_enter Try.func15, Try.ntmps15
    go_wp2_with (fail)
    refine (ImageOk_i _ _ _ Hv.out).mono ?_
    rintro e w' ⟨rfl, rfl⟩
    rw [Hok.out]
    go_wp2
    go_ret
    exact ⟨_, rfl, by rw [Hr.out]; exact Own.nil _ _ _ _, Below.refl _ _⟩
  obtain ⟨r, c, hr1, hr5, hc1, hc5, hsh⟩ := imageOk_shape hok
  have hml : m.length ≤ 5 := by have := hsh.1; omega
  have hml1 : 1 ≤ m.length := by have := hsh.1; omega
  obtain ⟨b, off, rfl, hb, hc'⟩ := hc (by omega)
  have Hok := Lib.hid hok
  clear hc hc' hok
  go_enter Try.func15, Try.ntmps15
  go_wp2_with (fail)
  refine (ImageOk_i _ _ _ Hv.out).mono ?_
  rintro e w' ⟨rfl, rfl⟩
  rw [Hok.out]
  go_wp2
  go_loopw [3, 5, 11] (fun v _ i wr => ∃ k : Nat, k ≤ m.length ∧ i = .int .i64 k ∧ Own 3 IntV (Iv w.heap.size wr.heap.size) wr v ((m.take k).map sumL) ∧ Below w.heap.size w wr) (fun _ _ i _ => m.length - (intOf i).toNat)
  case atStart => exact ⟨0, Nat.zero_le _, rfl, Own.nil _ _ _ _, Below.refl _ _⟩
  case round =>
    obtain ⟨k, hk, rfl, hown, hbel⟩ := hrel
    have hBs := hbel.size
    by_cases hlt : k < m.length
    · obtain ⟨row, hrow⟩ : ∃ row, m[k]? = some row := ⟨_, List.getElem?_eq_getElem hlt⟩
      obtain ⟨u, hck, hu⟩ := Sl.at Hv.out hrow
      have hu : Ints w u row := hu
      obtain ⟨br, cpr, rfl, -⟩ := id hu
      rw [← hbel.cell (p := ⟨b, off + k, none⟩) hb] at hck
      have hsm := hsh.small hc5 (List.mem_of_getElem? hrow)
      have hbd := hsh.sum_bd' (List.mem_of_getElem? hrow)
      have hrl := (hsh.2 row (List.mem_of_getElem? hrow)).1
      have hs0 : 0 ≤ sumL row := hbd.1
      have hs1 : sumL row ≤ 5 := by omega
      have Hst := Lib.hid (map_take_snoc hrow)
      have Hu := Lib.hid (hu.keep hbel)
      have hkl : ((m.take k).map sumL).length < 1099511627776 := by simp; omega
      have Hown := Lib.hid hown
      clear hrow hu hown hrl hbd
      go_wp2_with (first | (go_at_call 39; refine (sumOf_c _ _ _ Hu.out hsm).mono ?_; rintro e w' ⟨rfl, rfl⟩) | (at_builtin; (refine wpList_appR rfl _ _ 25 rfl rIntV 3 Try.underlying25 infoInt rfl (by decide) w.heap.size wr.heap.size hBs (Nat.le_refl _) rfl rfl (by exact Hown.out) (by exact ⟨rfl, I64.small (by omega) (by omega)⟩) hkl ?_); intro v2 w2 hown2 hbel2 _) | fail)
      have Hown2 := Lib.hid hown2
      clear hown2
      go_wp2
      go_roundw
      case rel => exact ⟨k + 1, by omega, by go_num, by rw [Hst.out]; exact Hown2.out, hbel.trans hbel2⟩
      case measure => simp [intOf]; omega
    · have Hfin := Lib.hid (rowSums_done Hok.out (show m.length ≤ k by omega))
      have Hown := Lib.hid hown
      clear hown
      go_wp2
      go_ret
      exact ⟨_, rfl, by rw [← Hfin.out]; exact Hown.out, hbel⟩


theorem ColSums_i (v : Value) (m : List (List Int)) (w : World) (hv : Grid w v m) : Calls Try.prog 16 #[v] w (New 3 IntV w (colSumsOf m)) := by
  go_enter Try.func16, Try.ntmps16
  go_wp2_with (fail)
  refine (TransposeOf_i _ _ _ hv).mono ?_
  rintro e w1 ⟨v1, rfl, hown, hbel⟩
  have hs1 := hbel.size
  go_wp2_with (fail)
  refine (RowSums_i _ _ _ hown.grid).mono ?_
  rintro e w2 ⟨v2, rfl, hown2, hbel2⟩
  have Hown2 := Lib.hid hown2
  clear hown2
  go_wp2
  go_ret
  exact ⟨_, rfl, (rOwn rIntV).mono (fun b hb => ⟨Nat.le_trans hs1 hb.1, hb.2⟩) Hown2.out, hbel.trans_pure hbel2 (Nat.le_refl _)⟩
end Go.Proofs.Ytliejhmlcdjpcaa

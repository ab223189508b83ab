/- Contracts: copies of lists and grids. -/
import Derived.Test.YtliejhmlcdjpcaaMem2
import Derived.Test.YtliejhmlcdjpcaaC4
import Derived.Test.YtliejhmlcdjpcaaC1
namespace Go.Proofs.Ytliejhmlcdjpcaa
open Go.RowKit

theorem copyInts_c (v : Value) (xs : List Int) (w : World) (hv : Ints w v xs) (hl : xs.length ≤ 1048576) : Calls Try.prog 52 #[v] w (New 3 IntV w xs) := by
  have Hv := Lib.hid hv
  obtain ⟨a, cap, rfl, -⟩ := hv
  have hl0 : ([] : List Int).length + xs.length ≤ 1099511627776 := by simp; omega
  go_enter Try.func52, Try.ntmps52
  go_wp2_with (first | (at_builtin; refine wpList_appI rfl _ _ 25 rfl 3 Try.underlying25 infoInt rfl (fun _ => False) rfl rfl (by exact Own.nil _ _ _ _) (by exact Hv.out) hl0 ?_; intro v2 w2 hown2 honly2 _))
  have hb : Below w.heap.size w w2 := by
    have ho : Only (fun b => (Value.slice none 0 0).ownBlock = some b) w w2 := honly2
    refine Only.pure (ho.mono fun b hb _ => ?_)
    exact absurd hb (by simp [Value.ownBlock])
  go_wp2
  go_ret
  refine ⟨_, rfl, ?_, hb⟩
  have h := (rOwn rIntV).mono (S' := Iv w.heap.size w2.heap.size) (fun b hb => by
    rcases hb with hb | hb
    · exact hb.elim
    · exact hb) hown2
  simpa using h
set_option maxRecDepth 100000 in
set_option maxHeartbeats 400000 in
theorem copyGrid_c (v : Value) (m : List (List Int)) (w : World) (hv : Grid w v m) (hm : m.length ≤ 1048576) (hr : ∀ x ∈ m, x.length ≤ 1048576) : Calls Try.prog 38 #[v] w (New 25 (Own 3 IntV) w m) := by
  have Hv := Lib.hid hv
  obtain ⟨a, cap0, rfl, -⟩ := hv
  go_enter Try.func38, Try.ntmps38
  go_wp2
  go_loopw [3, 5, 8] (fun v _ i wr => ∃ k : Nat, k ≤ m.length ∧ i = .int .i64 k ∧ Own 25 (Own 3 IntV) (Iv w.heap.size wr.heap.size) wr v (m.take k) ∧ Below w.heap.size w wr) (fun _ _ i _ => m.length - (intOf i).toNat)
  case atStart => exact ⟨0, Nat.zero_le _, rfl, Own.nil _ _ _ _, Below.refl _ _⟩
  case round =>
    obtain ⟨k, hk, rfl, hown, hbel⟩ := hrel
    obtain ⟨wo, rfl⟩ : ∃ wo : World, wo = wr := ⟨_, rfl⟩
    have hBs := hbel.size
    by_cases hlt : k < m.length
    · obtain ⟨row, hrow⟩ : ∃ row, m[k]? = some row := ⟨_, List.getElem?_eq_getElem hlt⟩
      obtain ⟨b, off, cpr, he, hb, -⟩ := Hv.out.inv_ne (by omega)
      obtain ⟨rfl, -⟩ : a = some ⟨b, off, none⟩ ∧ cap0 = cpr := by simpa using he
      obtain ⟨u, hck, hu⟩ := Sl.at Hv.out hrow
      have hu : Ints w u row := hu
      obtain ⟨br, cpr, rfl, -⟩ := id hu
      rw [← hbel.cell (p := ⟨b, off + k, none⟩) hb] at hck
      have hrl := hr row (List.mem_of_getElem? hrow)
      have Hst := Lib.hid (show m.take (k + 1) = m.take k ++ [row] from by rw [List.take_add_one, hrow]; rfl)
      have Hu := Lib.hid (hu.keep hbel)
      have hkl : (m.take k).length < 1099511627776 := by simp; omega
      have Hown := Lib.hid hown
      clear hrow hu hown he
      go_wp2_with (fail)
      refine (copyInts_c _ _ _ Hu.out hrl).mono ?_
      rintro e w1 ⟨v1, rfl, hown1, hbel1⟩
      have hs1 : wo.heap.size ≤ w1.heap.size := hbel1.size
      obtain ⟨p1, p2, p3, rfl⟩ := hown1.shape
      go_wp2_with (first | (at_builtin; (refine wpList_appR rfl _ _ 23 rfl (rOwn rIntV) 25 Try.underlying23 infoInts rfl (by decide) w.heap.size wo.heap.size hBs hs1 rfl rfl (by exact Own.keep (rOwn rIntV) Hown.out hbel1 (Nat.le_refl _)) (by exact hown1) hkl ?_); intro v2 w2 hown2 hbel2 _) | fail)
      have hb2 := (hbel.trans (hbel1.mono hBs)).trans hbel2
      have Hown2 := Lib.hid hown2
      clear hown2
      go_wp2
      go_roundw
      case rel => exact ⟨k + 1, by omega, by go_num, by rw [Hst.out]; exact Hown2.out, hb2⟩
      case measure => simp [intOf]; omega
    · have Hfin := Lib.hid (show m.take k = m from by rw [List.take_of_length_le (by omega)])
      have Hown := Lib.hid hown
      clear hown
      go_wp2
      go_ret
      exact ⟨_, rfl, by rw [← Hfin.out]; exact Hown.out, hbel⟩

end Go.Proofs.Ytliejhmlcdjpcaa

/- Contracts: copies of images by the reference. -/
import Derived.Test.YtliejhmlcdjpcaaMem2
import Derived.Test.YtliejhmlcdjpcaaC3
namespace Go.Proofs.Ytliejhmlcdjpcaa
open Go.RowKit

theorem infoIntsL : (Try.prog.info? 25).map (fun i => (i.zero, i.size, i.bytes)) = some (some (.slice none 0 0), 1, 24) := by kernel_rfl
set_option maxRecDepth 100000 in
set_option maxHeartbeats 800000 in
theorem l02Copy_c (v : Value) (m : List (List Int)) (w : World) (hv : Grid w v m) (hm : m.length ≤ 1048576) (hr : ∀ x ∈ m, x.length ≤ 1048576) : Calls Try.prog 46 #[v] w (New 25 (Own 3 IntV) w m) := by
  have Hv := Lib.hid hv
  have Hr := Lib.hid hr
  obtain ⟨a, cap0, rfl, -⟩ := hv
  clear hr
  go_enter Try.func46, Try.ntmps46
  go_wp2
  go_loopw [3, 9] (fun v i wr => ∃ k : Nat, k ≤ m.length ∧ i = .int .i64 k ∧ Own 25 (Own 3 IntV) (Iv w.heap.size wr.heap.size) wr v (m.take k) ∧ Below w.heap.size w wr) (fun _ i _ => m.length - (intOf i).toNat)
  case atStart => exact ⟨0, Nat.zero_le _, rfl, own_lit0 _ _ _ (rOwn rIntV), Below.pureAlloc _ _⟩
  case round =>
    obtain ⟨k, hk, rfl, hown, hbel⟩ := hrel
    obtain ⟨wo, rfl⟩ : ∃ wo : World, wo = wr := ⟨_, rfl⟩
    have hBs := hbel.size
    by_cases hlt : k < m.length
    · obtain ⟨row, hrow⟩ : ∃ row, m[k]? = some row := ⟨_, List.getElem?_eq_getElem hlt⟩
      obtain ⟨b, off, cpr, he, hb, -⟩ := Hv.out.inv_ne (by omega)
      obtain ⟨rfl, -⟩ : a = some ⟨b, off, none⟩ ∧ cap0 = cpr := by simpa using he
      obtain ⟨u, hck, hu⟩ := Sl.at Hv.out hrow
      have hu : Ints w u row := hu
      obtain ⟨br, cpr, rfl, -⟩ := id hu
      rw [← hbel.cell (p := ⟨b, off + k, none⟩) hb] at hck
      have hrl := Hr.out row (List.mem_of_getElem? hrow)
      have Hst := Lib.hid (show m.take (k + 1) = m.take k ++ [row] from by rw [List.take_add_one, hrow]; rfl)
      have Hu := Lib.hid ((hu.keep hbel).keep (Below.pureAlloc wo (.cells #[] 3)))
      have Hlit := Lib.hid (own_lit0 wo 3 wo.heap.size rIntV)
      have hz : (wo.alloc (.cells #[] 3)).heap.size = wo.heap.size + 1 := by simp
      have Hz := Lib.hid hz
      have hl0 : ([] : List Int).length + row.length ≤ 1099511627776 := by simp; omega
      have hkl : (m.take k).length < 1099511627776 := by simp; omega
      obtain ⟨p1, p2, p3, rfl⟩ := hown.shape
      have Hown := Lib.hid hown
      clear hrow hu hown he hz
      go_wp2_with (first
        | (at_builtin; (refine wpList_appI rfl _ _ 25 rfl 3 Try.underlying25 infoInt rfl (Iv wo.heap.size (wo.alloc (.cells #[] 3)).heap.size) rfl rfl (by exact Hlit.out) (by exact Hu.out) hl0 ?_; intro v2 w2 hown2 honly2 _; obtain ⟨q1, q2, q3, rfl⟩ := hown2.shape; have hb2 : Below wo.heap.size wo w2 := (Below.pureAlloc wo (.cells #[] 3)).trans (Only.below honly2 (by rw [Hz.out]; omega) (fun b hb => (Hlit.out.ownBlock' b hb).1)); have hM : wo.heap.size ≤ w2.heap.size := hb2.size; have Hel := Lib.hid ((rOwn rIntV).mono (S' := Iv wo.heap.size w2.heap.size) (fun b hb => hb.elim (fun h => ⟨h.1, by have h1 := h.2; have h2 := honly2.size; rw [Hz.out] at h1 h2; omega⟩) (fun h => ⟨by have h1 := h.1; rw [Hz.out] at h1; omega, h.2⟩)) hown2); have HB2 := Lib.hid hb2; clear hown2 honly2 hb2))
        | (at_builtin; (refine wpList_appR rfl _ _ 23 rfl (rOwn rIntV) 25 Try.underlying23 infoIntsL rfl (by decide) w.heap.size wo.heap.size hBs hM rfl rfl (by exact Own.keep (rOwn rIntV) Hown.out HB2.out (Nat.le_refl _)) (by exact Hel.out) hkl ?_); intro v3 w3 hown3 hbel3 _)
        | fail)
      have hb3 := (hbel.trans (HB2.out.mono hBs)).trans hbel3
      have Hown3 := Lib.hid hown3
      clear hown3
      go_wp2
      go_roundw
      case rel => exact ⟨k + 1, by omega, by go_num, by rw [Hst.out]; simpa using Hown3.out, hb3⟩
      case measure => simp [intOf]; omega
    · have Hfin := Lib.hid (show m.take k = m from by rw [List.take_of_length_le (by omega)])
      have Hown := Lib.hid hown
      clear hown
      go_wp2
      go_ret
      exact ⟨_, rfl, by rw [← Hfin.out]; exact Hown.out, hbel⟩
end Go.Proofs.Ytliejhmlcdjpcaa

/- Bytes. From a row's reading of an argument to what the walks ask. -/
import Derived.Test.YtliejhmlcdjpcaaDraw
import Derived.Test.YtliejhmlcdjpcaaRowInts
import Derived.OpenShut
import Derived.ShutString
import Derived.ChangeOld
namespace Go.Proofs.Ytliejhmlcdjpcaa
open Go.ChangeShapes Go.WideShapes Go.ChangeAt Go.RowKit

/-- a slice of bytes that the row reads -/
theorem bytes_open {H : Type} {enc : TypeId × Value → H} {P : Program} {W : World} {base : Nat} {t e : TypeId} {v : Value} {d : DataW H} {ps : List MemPlace}
    (hu : P.underlying t = some (.slice e)) (he : P.underlying e = some (.int .u8)) (hc : P.cellsOf e = 1)
    (hv : Value.okWide P W .any base t v) (h : DataW.Trod enc P W 0 (fun _ => true) true t v d ps) : ∃ xs, Bytes W v xs := by
  obtain ⟨a0, len0, cap0, rfl⟩ := okWide_slice hu hv
  obtain ⟨fuel, hf⟩ := h
  rcases open_ints hu he hc hf with ⟨hcs, _⟩ | ⟨x, l, c, zs, hcs, _, hl, hm, hz, _, hcell, hwz⟩
  · simp [Value.cells] at hcs
    obtain ⟨rfl, rfl, rfl⟩ := hcs
    exact ⟨[], none, 0, rfl, by simp, by simp, fun _ => rfl, fun h => by simp at h⟩
  · simp [Value.cells] at hcs
    obtain ⟨rfl, rfl, rfl⟩ := hcs
    have hz' : zs.length = cap0 := by simpa using hz
    have hlen : (zs.take len0).length = len0 := by simp; omega
    have hm' : cap0 ≤ 9223372036854775807 := by simpa [maxLen] using hm
    refine ⟨zs.take len0, some x, cap0, by rw [hlen], by rw [hlen]; exact hl, by rw [hlen]; omega, fun h => by simp at h, fun h0 => ?_⟩
    rw [hlen] at h0
    obtain ⟨b, off, spot⟩ := x
    have hc0 := hcell 0 (by omega)
    have hspot : spot = none := by simpa [Addr.add] using World.cell?_spot hc0
    subst hspot
    refine ⟨b, off, rfl, ?_, fun k y hk => ?_⟩
    · have := block_lt_of_cell hc0
      simpa [Addr.add] using this
    · have hkl := (List.getElem?_eq_some_iff.1 hk).1
      rw [hlen] at hkl
      rw [List.getElem?_take, if_pos hkl] at hk
      have hck := hcell k (by omega)
      rw [Addr.add_lit] at hck
      have hg : zs.getD k 0 = y := by simp [List.getD, hk]
      rw [hg] at hck
      refine ⟨_, hck, rfl, ?_⟩
      have hw := hwz y (List.mem_of_getElem? hk)
      have := hw
      simp [Lit.wf, IntKind.min, IntKind.max, IntKind.signed, IntKind.bits] at this
      exact this
end Go.Proofs.Ytliejhmlcdjpcaa

/- From a row's reading of an argument to what the walks ask. Slices of slices, structs. From a row's reading of an argument to what the walks ask. Structs. From a row's reading of an argument to what the walks ask. Bytes. From a row's reading of an argument to what the walks ask. -/
import Derived.Test.YtningnjdafhgkaaDoorMem
import Derived.OpenShut
import Derived.ShutString
import Derived.ChangeOld
import Derived.Deep.Slices
import Derived.Deep.Strs
import Derived.Lib.SmallJoins
import Derived.Test.YtningnjdafhgkaaDoorC1
import Derived.Test.YtningnjdafhgkaaDoorDraw2
namespace Go.Proofs.YtningnjdafhgkaaDoor
open Go.ChangeShapes Go.WideShapes Go.ChangeAt Go.RowKit

/-- a slice of ints that the row reads -/
theorem ints_open {H : Type} {enc : TypeId × Value → H} {P : Program} {W : World} {base : Nat} {t e : TypeId} {v : Value} {d : DataW H} {ps : List MemPlace}
    (hu : P.underlying t = some (.slice e)) (he : P.underlying e = some (.int .i64)) (hc : P.cellsOf e = 1)
    (hv : Value.okWide P W .any base t v) (h : DataW.Trod enc P W 0 (fun _ => true) true t v d ps) : ∃ xs, Ints W v xs := by
  obtain ⟨a0, len0, cap0, rfl⟩ := okWide_slice hu hv
  obtain ⟨fuel, hf⟩ := h
  rcases open_ints hu he hc hf with ⟨hcs, _⟩ | ⟨x, l, c, zs, hcs, _, hl, hm, hz, _, hcell, hwz⟩
  · simp [Value.cells] at hcs
    obtain ⟨rfl, rfl, rfl⟩ := hcs
    exact ⟨[], none, 0, rfl, by simp, by simp, fun _ => rfl, fun h => by simp at h⟩
  · simp [Value.cells] at hcs
    obtain ⟨rfl, rfl, rfl⟩ := hcs
    have hz' : zs.length = cap0 := by simpa using hz
    have hlen : (zs.take len0).length = len0 := by simp; omega
    have hm' : cap0 ≤ 9223372036854775807 := by simpa [maxLen] using hm
    refine ⟨zs.take len0, some x, cap0, by rw [hlen], by rw [hlen]; exact hl, by rw [hlen]; omega, fun h => by simp at h, fun h0 => ?_⟩
    rw [hlen] at h0
    obtain ⟨b, off, spot⟩ := x
    have hc0 := hcell 0 (by omega)
    have hspot : spot = none := by simpa [Addr.add] using World.cell?_spot hc0
    subst hspot
    refine ⟨b, off, rfl, ?_, fun k y hk => ?_⟩
    · have := block_lt_of_cell hc0
      simpa [Addr.add] using this
    · have hkl := (List.getElem?_eq_some_iff.1 hk).1
      rw [hlen] at hkl
      rw [List.getElem?_take, if_pos hkl] at hk
      have hck := hcell k (by omega)
      rw [Addr.add_lit] at hck
      have hg : zs.getD k 0 = y := by simp [List.getD, hk]
      rw [hg] at hck
      refine ⟨_, hck, rfl, ?_⟩
      have hw := hwz y (List.mem_of_getElem? hk)
      have := hw
      simp [Lit.wf, IntKind.min, IntKind.max, IntKind.signed, IntKind.bits] at this
      exact this
end Go.Proofs.YtningnjdafhgkaaDoor

namespace Go.Proofs.YtningnjdafhgkaaDoor
open Go.ChangeShapes Go.WideShapes Go.ChangeAt Go.RowKit Go.Deep

theorem list_of {α : Type} {P : Nat → α → Prop} : ∀ (n : Nat), (∀ i, i < n → ∃ x, P i x) → ∃ xs : List α, xs.length = n ∧ ∀ k x, xs[k]? = some x → P k x := by
  intro n
  induction n with
  | zero => intro _; exact ⟨[], rfl, fun k x h => by simp at h⟩
  | succ n ih =>
    intro h
    obtain ⟨xs, hl, hx⟩ := ih (fun i hi => h i (by omega))
    obtain ⟨y, hy⟩ := h n (by omega)
    refine ⟨xs ++ [y], by simp [hl], fun k x hk => ?_⟩
    rw [List.getElem?_append] at hk
    split at hk
    · exact hx k x hk
    · rename_i hge
      have hkn := (List.getElem?_eq_some_iff.1 hk).1
      simp at hkn
      obtain rfl : k = n := by omega
      rw [hl, Nat.sub_self] at hk
      simp at hk
      rw [← hk]; exact hy

section
variable {H : Type} {enc : TypeId × Value → H} {P : Program} {W : World}

/-- a value of one cell that reads as a slice: the slice of what its elements are -/
theorem trod_sl {α : Type} {R : RepT α} {t e : TypeId} (hu : P.underlying t = some (.slice e)) (hc : P.cellsOf e = 1)
    (elem : ∀ n v y, DataW.trod enc P W 0 (fun _ => true) true n e [v] = some y → ∃ x, Rd R W v x) {n : Nat} {v : Value} {y : DataW H × List MemPlace} (h : DataW.trod enc P W 0 (fun _ => true) true n t [v] = some y) : ∃ xs, Rd (Sl R) W v xs := by
  rcases open_slice1 hu hc h with ⟨hcs, _⟩ | ⟨a, len, cap, m, n', V, D, Pl, hcs, _, hl, hm, hmm, _, hx⟩
  · simp at hcs
    subst hcs
    exact ⟨[], none, 0, rfl, by simp, by simp, fun _ => rfl, fun h => by simp at h⟩
  · simp at hcs
    subst hcs
    simp only [if_true] at hmm
    subst hmm
    obtain ⟨xs, hxl, hxs⟩ := list_of (P := fun i x => W.cell? (a.add i) = some (V i) ∧ Rd R W (V i) x) len (fun i hi => by
      obtain ⟨h1, h2⟩ := hx i (by omega)
      obtain ⟨x, hx'⟩ := elem _ _ _ h2
      exact ⟨x, h1, hx'⟩)
    refine ⟨xs, some a, m, by rw [hxl], by rw [hxl]; exact hl, by rw [hxl]; simp [maxLen] at hm; omega, fun h => by simp at h, fun h0 => ?_⟩
    rw [hxl] at h0
    obtain ⟨b, off, spot⟩ := a
    have hc0 := (hx 0 (by omega)).1
    have hspot : spot = none := by simpa [Addr.add] using World.cell?_spot hc0
    subst hspot
    refine ⟨b, off, rfl, ?_, fun k x hk => ?_⟩
    · have := block_lt_of_cell hc0
      simpa [Addr.add] using this
    · obtain ⟨h1, h2⟩ := hxs k x hk
      rw [Addr.add_lit] at h1
      exact ⟨_, h1, h2⟩
theorem trod_intV {e : TypeId} (he : P.underlying e = some (.int .i64)) {n : Nat} {v : Value} {y : DataW H × List MemPlace} (h : DataW.trod enc P W 0 (fun _ => true) true n e [v] = some y) : ∃ x, Rd IntV W v x := by
  obtain ⟨z, hv, _, hw⟩ := DataW.trod_int he h
  simp at hv
  subst hv
  exact ⟨z, rfl, bounds_i64 hw⟩
theorem trod_ints {t e : TypeId} (hu : P.underlying t = some (.slice e)) (he : P.underlying e = some (.int .i64)) (hc : P.cellsOf e = 1) {n : Nat} {v : Value} {y : DataW H × List MemPlace} (h : DataW.trod enc P W 0 (fun _ => true) true n t [v] = some y) : ∃ x, Ints W v x :=
  trod_sl hu hc (fun _ _ _ => trod_intV he) h
theorem trod_grid {t t1 e : TypeId} (hu : P.underlying t = some (.slice t1)) (hu1 : P.underlying t1 = some (.slice e)) (he : P.underlying e = some (.int .i64)) (hc1 : P.cellsOf t1 = 1) (hc : P.cellsOf e = 1) {n : Nat} {v : Value} {y : DataW H × List MemPlace} (h : DataW.trod enc P W 0 (fun _ => true) true n t [v] = some y) : ∃ x, Grid W v x :=
  trod_sl hu hc1 (fun _ _ _ => trod_ints hu1 he hc) h

theorem grid_open {base : Nat} {t t1 e : TypeId} {v : Value} {d : DataW H} {ps : List MemPlace} (hu : P.underlying t = some (.slice t1)) (hu1 : P.underlying t1 = some (.slice e)) (he : P.underlying e = some (.int .i64)) (hc1 : P.cellsOf t1 = 1) (hc : P.cellsOf e = 1)
    (hv : Value.okWide P W .any base t v) (h : DataW.Trod enc P W 0 (fun _ => true) true t v d ps) : ∃ xs, Grid W v xs := by
  obtain ⟨a0, len0, cap0, rfl⟩ := okWide_slice hu hv
  obtain ⟨fuel, hf⟩ := h
  exact trod_grid hu hu1 he hc1 hc (by simpa [Value.cells] using hf)
theorem grids_open {base : Nat} {t t2 t1 e : TypeId} {v : Value} {d : DataW H} {ps : List MemPlace} (hu : P.underlying t = some (.slice t2)) (hu2 : P.underlying t2 = some (.slice t1)) (hu1 : P.underlying t1 = some (.slice e)) (he : P.underlying e = some (.int .i64)) (hc2 : P.cellsOf t2 = 1) (hc1 : P.cellsOf t1 = 1) (hc : P.cellsOf e = 1)
    (hv : Value.okWide P W .any base t v) (h : DataW.Trod enc P W 0 (fun _ => true) true t v d ps) : ∃ xs, Grids W v xs := by
  obtain ⟨a0, len0, cap0, rfl⟩ := okWide_slice hu hv
  obtain ⟨fuel, hf⟩ := h
  exact trod_sl hu hc2 (fun _ _ _ => trod_grid hu2 hu1 he hc1 hc) (by simpa [Value.cells] using hf)
end
end Go.Proofs.YtningnjdafhgkaaDoor

namespace Go.Proofs.YtningnjdafhgkaaDoor
open Go.ChangeShapes Go.WideShapes Go.ChangeAt Go.RowKit Go.Deep Go.Joins

section
variable {H : Type} {enc : TypeId × Value → H} {W : World} {base : Nat} {v : Value} {d : DataW H} {ps : List MemPlace}
end
end Go.Proofs.YtningnjdafhgkaaDoor

namespace Go.Proofs.YtningnjdafhgkaaDoor
open Go.ChangeShapes Go.WideShapes Go.ChangeAt Go.RowKit

/-- a slice of bytes that the row reads -/
theorem bytes_open {H : Type} {enc : TypeId × Value → H} {P : Program} {W : World} {base : Nat} {t e : TypeId} {v : Value} {d : DataW H} {ps : List MemPlace}
    (hu : P.underlying t = some (.slice e)) (he : P.underlying e = some (.int .u8)) (hc : P.cellsOf e = 1)
    (hv : Value.okWide P W .any base t v) (h : DataW.Trod enc P W 0 (fun _ => true) true t v d ps) : ∃ xs, Bytes W v xs := by
  obtain ⟨a0, len0, cap0, rfl⟩ := okWide_slice hu hv
  obtain ⟨fuel, hf⟩ := h
  rcases open_ints hu he hc hf with ⟨hcs, _⟩ | ⟨x, l, c, zs, hcs, _, hl, hm, hz, _, hcell, hwz⟩
  · simp [Value.cells] at hcs
    obtain ⟨rfl, rfl, rfl⟩ := hcs
    exact ⟨[], none, 0, rfl, by simp, by simp, fun _ => rfl, fun h => by simp at h⟩
  · simp [Value.cells] at hcs
    obtain ⟨rfl, rfl, rfl⟩ := hcs
    have hz' : zs.length = cap0 := by simpa using hz
    have hlen : (zs.take len0).length = len0 := by simp; omega
    have hm' : cap0 ≤ 9223372036854775807 := by simpa [maxLen] using hm
    refine ⟨zs.take len0, some x, cap0, by rw [hlen], by rw [hlen]; exact hl, by rw [hlen]; omega, fun h => by simp at h, fun h0 => ?_⟩
    rw [hlen] at h0
    obtain ⟨b, off, spot⟩ := x
    have hc0 := hcell 0 (by omega)
    have hspot : spot = none := by simpa [Addr.add] using World.cell?_spot hc0
    subst hspot
    refine ⟨b, off, rfl, ?_, fun k y hk => ?_⟩
    · have := block_lt_of_cell hc0
      simpa [Addr.add] using this
    · have hkl := (List.getElem?_eq_some_iff.1 hk).1
      rw [hlen] at hkl
      rw [List.getElem?_take, if_pos hkl] at hk
      have hck := hcell k (by omega)
      rw [Addr.add_lit] at hck
      have hg : zs.getD k 0 = y := by simp [List.getD, hk]
      rw [hg] at hck
      refine ⟨_, hck, rfl, ?_⟩
      have hw := hwz y (List.mem_of_getElem? hk)
      have := hw
      simp [Lit.wf, IntKind.min, IntKind.max, IntKind.signed, IntKind.bits] at this
      exact this
end Go.Proofs.YtningnjdafhgkaaDoor

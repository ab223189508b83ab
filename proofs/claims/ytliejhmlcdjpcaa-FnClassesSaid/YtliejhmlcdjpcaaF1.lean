/- Contracts: numbers as texts: FormatInt. -/
import Derived.Test.YtliejhmlcdjpcaaC1
import Derived.Test.YtliejhmlcdjpcaaText
import Derived.Laws.BytesString
import Derived.Deep.RegionWith
import Derived.Deep.DeepFit
namespace Go.Proofs.Ytliejhmlcdjpcaa
open Go.RowKit

theorem run_byte1 {P : Program} (w : World) (src dst e : TypeId) (z : Int) (hs : P.underlying src = some (.slice e)) (he : P.underlying e = some (.int .u8)) (hd : P.underlying dst = some .string) :
    (convert src dst (.slice (some ⟨w.heap.size, 0, none⟩) 1 1)).run P (w.alloc (.cells #[.int .u8 z] e)) = .ok (.string ⟨#[UInt8.ofNat z.toNat]⟩) (w.alloc (.cells #[.int .u8 z] e)) := by
  rw [run_convert_bytes_string _ _ _ _ _ _ _ hs he hd]
  have hl : (loadCells ⟨w.heap.size, 0, none⟩ 1).run P (w.alloc (.cells #[.int .u8 z] e)) = .ok ([z].map (Value.int .u8)).toArray (w.alloc (.cells #[.int .u8 z] e)) := by
    have := run_loadCells_list (P := P) (w.alloc (.cells #[.int .u8 z] e)) ⟨w.heap.size, 0, none⟩ [.int .u8 z] (cell_new1 w _ e)
    simpa using this
  rw [run_bytesToString _ _ _ _ _ hl]
  rfl

theorem below_undrew {w w2 : World} (h : Below w.drew.heap.size w.drew w2) : Below w.heap.size w w2 := ⟨h.os, h.tape, h.output, h.size, h.block⟩
theorem retS1 {b b' : ByteArray} (h : b = b') : Ending.returned (.string b) = Ending.returned (.string b') := by rw [h]
theorem tdiv10 {n : Int} (h : n ≤ 0) : n.tdiv 10 = -((-n) / 10) := by
  have h2 : (-(-n)).tdiv 10 = -((-n).tdiv 10) := Int.neg_tdiv ..
  rw [Int.neg_neg, Int.tdiv_eq_ediv_of_nonneg (a := -n) (by omega)] at h2
  exact h2
theorem tmod10 (n : Int) : n.tmod 10 = n - 10 * n.tdiv 10 := Int.tmod_def n 10
end Go.Proofs.Ytliejhmlcdjpcaa

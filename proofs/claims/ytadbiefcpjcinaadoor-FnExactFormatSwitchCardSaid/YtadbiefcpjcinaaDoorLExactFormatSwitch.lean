/- FormatSwitch: the walk of the law. -/
import Derived.Test.YtadbiefcpjcinaaDoorF5
namespace Go.Proofs.YtadbiefcpjcinaaDoor
open Go.RowKit

set_option maxHeartbeats 800000 in
theorem FnExactFormatSwitch_w {w : World} {x0 : Int × Int × Int × Int} {v0 : Value} (h0 : v0 = .agg #[.int .i64 x0.1, .int .i64 x0.2.1, .int .i64 x0.2.2.1, .int .i64 x0.2.2.2] ∧ I64 x0.1 ∧ I64 x0.2.1 ∧ I64 x0.2.2.1 ∧ I64 x0.2.2.2) (ht : Tab w) :
    Calls Tryd.prog 4 #[v0] w fun e w' => e = .returned (.bool true) ∧ Below w.heap.size w w' := by
  obtain ⟨rfl, hx, hy, hz, hu⟩ := h0
  obtain ⟨x, y, z, u⟩ := x0
  have B := Blk.new w #[.int .i64 x, .int .i64 y, .int .i64 z, .int .i64 u] 37
  have bb := Below.pureAlloc w (.cells #[.int .i64 x, .int .i64 y, .int .i64 z, .int .i64 u] 37)
  have T := ht.keep bb
  have hB := Lib.hid B; have hbb := Lib.hid bb; have hT := Lib.hid T
  clear B bb T ht
  go_enter Tryd.func4, Tryd.ntmps4
  go_wp2_with (fail)
  refine (toSwitch_c x y z u _).mono ?_
  rintro e w1 ⟨rfl, b1⟩
  replace hB := Lib.hid (hB.out.keep b1); replace hT := Lib.hid (hT.out.keep b1); replace hbb := Lib.hid (hbb.out.trans_pure b1 (Nat.le_refl _))
  have c0 : w1.cell? ⟨w.heap.size, 0, none⟩ = some (.int .i64 x) := hB.out.cell 0
  have c1 : w1.cell? ⟨w.heap.size, 1, none⟩ = some (.int .i64 y) := hB.out.cell 1
  have c2 : w1.cell? ⟨w.heap.size, 2, none⟩ = some (.int .i64 z) := hB.out.cell 2
  have c3 : w1.cell? ⟨w.heap.size, 3, none⟩ = some (.int .i64 u) := hB.out.cell 3
  go_wp2_with (fail)
  refine (FormatSwitch_s x y z u hx hy hz hu _).mono ?_
  rintro e w2 ⟨rfl, b2⟩
  replace hB := Lib.hid (hB.out.keep b2); replace hT := Lib.hid (hT.out.keep b2); replace hbb := Lib.hid (hbb.out.trans_pure b2 (Nat.le_refl _))
  have c0 : w2.cell? ⟨w.heap.size, 0, none⟩ = some (.int .i64 x) := hB.out.cell 0
  have c1 : w2.cell? ⟨w.heap.size, 1, none⟩ = some (.int .i64 y) := hB.out.cell 1
  have c2 : w2.cell? ⟨w.heap.size, 2, none⟩ = some (.int .i64 z) := hB.out.cell 2
  have c3 : w2.cell? ⟨w.heap.size, 3, none⟩ = some (.int .i64 u) := hB.out.cell 3
  go_wp2_with (fail)
  refine (toSwitch_c x y z u _).mono ?_
  rintro e w3 ⟨rfl, b3⟩
  replace hT := Lib.hid (hT.out.keep b3); replace hbb := Lib.hid (hbb.out.trans_pure b3 (Nat.le_refl _))
  go_wp2_with (fail)
  refine (FormatSwitch_i x y z u hx hy hz hu _ hT.out).mono ?_
  rintro e w4 ⟨rfl, b4⟩
  replace hbb := Lib.hid (hbb.out.trans_pure b4 (Nat.le_refl _))
  go_wp2
  go_ret
  exact ⟨rfl, hbb.out⟩
end Go.Proofs.YtadbiefcpjcinaaDoor

/- Contracts: directions as texts. -/
import Derived.Test.YtodaiaigmjaaoaaDoorF2
import Derived.Test.YtodaiaigmjaaoaaDoorBlk
import Derived.Deep.RegionWith
namespace Go.Proofs.YtodaiaigmjaaoaaDoor
open Go.RowKit

theorem toDirection_c (x y : Int) (w : World) : Calls Tryd.prog 18 #[.agg #[.int .i64 x, .int .i64 y]] w fun e w' => e = .returned (.agg #[.int .i64 x, .int .i64 y]) ∧ Below w.heap.size w w' := by
  go_enter Tryd.func18, Tryd.ntmps18
  go_wp2
  refine bodyPost_ret (v := .agg #[.int .i64 x, .int .i64 y]) (by simp [results, Tryd.results18, go_sem]) rfl ⟨rfl, ?_⟩
  exact (((Below.refl w.heap.size w).alloc (Nat.le_refl _) _).alloc (by simp) _).alloc (by simp; omega) _
def dirText (x y : Int) : ByteArray := fmtInt x ++ ⟨#[44]⟩ ++ fmtInt y
theorem dirText_size {x y : Int} (hx : I64 x) (hy : I64 y) : (fmtInt x).size ≤ 20 ∧ (fmtInt y).size ≤ 20 ∧ (fmtInt x ++ ⟨#[44]⟩ : ByteArray).size ≤ 21 := by
  have h1 := fmt_size hx.out
  have h2 := fmt_size hy.out
  refine ⟨h1, h2, ?_⟩
  rw [ba_append_size]
  have : (⟨#[44]⟩ : ByteArray).size = 1 := rfl
  omega
set_option maxHeartbeats 4000000 in
theorem FormatDirection_i (x y : Int) (hx : I64 x) (hy : I64 y) (w : World) (ht : Tab w) : Calls Tryd.prog 19 #[.agg #[.int .i64 x, .int .i64 y]] w fun e w' => e = .returned (.string (dirText x y)) ∧ Below w.heap.size w w' := by
  have B : Blk (w.alloc (.cells #[.int .i64 x, .int .i64 y] 43)).drew w.heap.size #[.int .i64 x, .int .i64 y] 43 := Blk.new w _ _
  have bb : Below w.heap.size w (w.alloc (.cells #[.int .i64 x, .int .i64 y] 43)).drew := (Below.pureAlloc w _).drew
  have T : Tab (w.alloc (.cells #[.int .i64 x, .int .i64 y] 43)).drew := ht.keep bb
  have hB := Lib.hid B
  have hbb := Lib.hid bb
  have hT := Lib.hid T
  obtain ⟨z1, z2, z3⟩ := dirText_size hx hy
  clear B bb T ht
  go_enter Tryd.func19, Tryd.ntmps19
  go_wp2
  go_region_with (first | (go_at_call 37; refine (FormatInt_i _ ?_ _ hT.out).mono ?_; assumption; rintro e w2 ⟨rfl, hb2⟩; replace hB := Lib.hid (hB.out.keep hb2); replace hT := Lib.hid (hT.out.keep hb2); replace hbb := Lib.hid (hbb.out.trans_pure hb2 (Nat.le_refl _)); have c0 : w2.cell? ⟨w.heap.size, 0, none⟩ = some (.int .i64 x) := hB.out.cell 0; have c1 : w2.cell? ⟨w.heap.size, 1, none⟩ = some (.int .i64 y) := hB.out.cell 1) | (go_at_call 36; refine (FormatInt_s _ ?_ _).mono ?_; assumption; rintro e w2 ⟨rfl, hb2⟩; replace hB := Lib.hid (hB.out.keep hb2); replace hT := Lib.hid (hT.out.keep hb2); replace hbb := Lib.hid (hbb.out.trans_pure hb2 (Nat.le_refl _)); have c0 : w2.cell? ⟨w.heap.size, 0, none⟩ = some (.int .i64 x) := hB.out.cell 0; have c1 : w2.cell? ⟨w.heap.size, 1, none⟩ = some (.int .i64 y) := hB.out.cell 1))
  all_goals go_wp2
  all_goals go_ret
  all_goals exact ⟨rfl, hbb.out⟩
set_option maxHeartbeats 4000000 in
theorem FormatDirection_s (x y : Int) (hx : I64 x) (hy : I64 y) (w : World) (ht : Tab w) : Calls Tryd.prog 17 #[.agg #[.int .i64 x, .int .i64 y]] w fun e w' => e = .returned (.string (dirText x y)) ∧ Below w.heap.size w w' := by
  have B : Blk (w.alloc (.cells #[.int .i64 x, .int .i64 y] 43)).drew w.heap.size #[.int .i64 x, .int .i64 y] 43 := Blk.new w _ _
  have bb : Below w.heap.size w (w.alloc (.cells #[.int .i64 x, .int .i64 y] 43)).drew := (Below.pureAlloc w _).drew
  have T : Tab (w.alloc (.cells #[.int .i64 x, .int .i64 y] 43)).drew := ht.keep bb
  have hB := Lib.hid B
  have hbb := Lib.hid bb
  have hT := Lib.hid T
  obtain ⟨z1, z2, z3⟩ := dirText_size hx hy
  clear B bb T ht
  go_enter Tryd.func17, Tryd.ntmps17
  go_wp2
  go_region_with (first | (go_at_call 37; refine (FormatInt_i _ ?_ _ hT.out).mono ?_; assumption; rintro e w2 ⟨rfl, hb2⟩; replace hB := Lib.hid (hB.out.keep hb2); replace hT := Lib.hid (hT.out.keep hb2); replace hbb := Lib.hid (hbb.out.trans_pure hb2 (Nat.le_refl _)); have c0 : w2.cell? ⟨w.heap.size, 0, none⟩ = some (.int .i64 x) := hB.out.cell 0; have c1 : w2.cell? ⟨w.heap.size, 1, none⟩ = some (.int .i64 y) := hB.out.cell 1) | (go_at_call 36; refine (FormatInt_s _ ?_ _).mono ?_; assumption; rintro e w2 ⟨rfl, hb2⟩; replace hB := Lib.hid (hB.out.keep hb2); replace hT := Lib.hid (hT.out.keep hb2); replace hbb := Lib.hid (hbb.out.trans_pure hb2 (Nat.le_refl _)); have c0 : w2.cell? ⟨w.heap.size, 0, none⟩ = some (.int .i64 x) := hB.out.cell 0; have c1 : w2.cell? ⟨w.heap.size, 1, none⟩ = some (.int .i64 y) := hB.out.cell 1))
  all_goals go_wp2
  all_goals go_ret
  all_goals exact ⟨rfl, hbb.out⟩
end Go.Proofs.YtodaiaigmjaaoaaDoor

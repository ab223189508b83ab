/- Contracts: directions as texts. Contracts: switches and puzzles as texts. -/
import Derived.Test.YtlmjpmdkifoekaaDoorF4
import Derived.Test.YtlmjpmdkifoekaaDoorMem
import Derived.Deep.RegionWith
import Derived.Test.YtlmjpmdkifoekaaDoorC24
import Derived.Deep.DeepFit
namespace Go.Proofs.YtlmjpmdkifoekaaDoor
open Go.RowKit

def dirText (x y : Int) : ByteArray := fmtInt x ++ ⟨#[44]⟩ ++ fmtInt y
theorem dirText_size {x y : Int} (hx : I64 x) (hy : I64 y) : (fmtInt x).size ≤ 20 ∧ (fmtInt y).size ≤ 20 ∧ (fmtInt x ++ ⟨#[44]⟩ : ByteArray).size ≤ 21 := by
  have h1 := fmt_size hx.out
  have h2 := fmt_size hy.out
  refine ⟨h1, h2, ?_⟩
  rw [ba_append_size]
  have : (⟨#[44]⟩ : ByteArray).size = 1 := rfl
  omega
set_option maxHeartbeats 4000000 in
theorem FormatDirection_i (x y : Int) (hx : I64 x) (hy : I64 y) (w : World) (ht : Tab w) : Calls Tryd.prog 44 #[.agg #[.int .i64 x, .int .i64 y]] w fun e w' => e = .returned (.string (dirText x y)) ∧ Below w.heap.size w w' := by
  have B : Blk (w.alloc (.cells #[.int .i64 x, .int .i64 y] 69)).drew w.heap.size #[.int .i64 x, .int .i64 y] 69 := Blk.new w _ _
  have bb : Below w.heap.size w (w.alloc (.cells #[.int .i64 x, .int .i64 y] 69)).drew := (Below.pureAlloc w _).drew
  have T : Tab (w.alloc (.cells #[.int .i64 x, .int .i64 y] 69)).drew := ht.keep bb
  have hB := Lib.hid B
  have hbb := Lib.hid bb
  have hT := Lib.hid T
  obtain ⟨z1, z2, z3⟩ := dirText_size hx hy
  clear B bb T ht
  go_enter Tryd.func44, Tryd.ntmps44
  go_wp2
  go_region_with (first | (go_at_call 39; refine (FormatInt_i _ ?_ _ hT.out).mono ?_; assumption; rintro e w2 ⟨rfl, hb2⟩; replace hB := Lib.hid (hB.out.keep hb2); replace hT := Lib.hid (hT.out.keep hb2); replace hbb := Lib.hid (hbb.out.trans_pure hb2 (Nat.le_refl _)); have c0 : w2.cell? ⟨w.heap.size, 0, none⟩ = some (.int .i64 x) := hB.out.cell 0; have c1 : w2.cell? ⟨w.heap.size, 1, none⟩ = some (.int .i64 y) := hB.out.cell 1) | (go_at_call 74; refine (FormatInt_s _ ?_ _).mono ?_; assumption; rintro e w2 ⟨rfl, hb2⟩; replace hB := Lib.hid (hB.out.keep hb2); replace hT := Lib.hid (hT.out.keep hb2); replace hbb := Lib.hid (hbb.out.trans_pure hb2 (Nat.le_refl _)); have c0 : w2.cell? ⟨w.heap.size, 0, none⟩ = some (.int .i64 x) := hB.out.cell 0; have c1 : w2.cell? ⟨w.heap.size, 1, none⟩ = some (.int .i64 y) := hB.out.cell 1))
  all_goals go_wp2
  all_goals go_ret
  all_goals exact ⟨rfl, hbb.out⟩
end Go.Proofs.YtlmjpmdkifoekaaDoor

namespace Go.Proofs.YtlmjpmdkifoekaaDoor
open Go.RowKit

def switchText (x y z u : Int) : ByteArray := intsText ⟨#[58]⟩ [x, y, z, u]
theorem own_lit4 (w : World) (x y z u : Int) (hx : I64 x) (hy : I64 y) (hz : I64 z) (hu : I64 u) (E : TypeId) :
    Ints (w.alloc (.cells #[.int .i64 x, .int .i64 y, .int .i64 z, .int .i64 u] E)) (.slice (some ⟨w.heap.size, 0, none⟩) 4 4) [x, y, z, u] := by
  refine ⟨some ⟨w.heap.size, 0, none⟩, 4, rfl, by simp, by simp, fun h => by simp at h, fun _ => ⟨w.heap.size, 0, rfl, by simp, fun k v hk => ?_⟩⟩
  match k, hk with
  | 0, hk => simp at hk; subst hk; exact ⟨_, by simp, rfl, hx⟩
  | 1, hk => simp at hk; subst hk; exact ⟨_, by simp, rfl, hy⟩
  | 2, hk => simp at hk; subst hk; exact ⟨_, by simp, rfl, hz⟩
  | 3, hk => simp at hk; subst hk; exact ⟨_, by simp, rfl, hu⟩
set_option maxRecDepth 100000 in
theorem FormatSwitch_i (x y z u : Int) (hx : I64 x) (hy : I64 y) (hz : I64 z) (hu : I64 u) (w : World) (ht : Tab w) : Calls Tryd.prog 40 #[.agg #[.int .i64 x, .int .i64 y, .int .i64 z, .int .i64 u]] w fun e w' => e = .returned (.string (switchText x y z u)) ∧ Below w.heap.size w w' := by
  have b1 := Below.pureAlloc w (.cells #[.int .i64 x, .int .i64 y, .int .i64 z, .int .i64 u] 62)
  have o := own_lit4 (w.alloc (.cells #[.int .i64 x, .int .i64 y, .int .i64 z, .int .i64 u] 62)) x y z u hx hy hz hu 3
  rw [show (w.alloc (.cells #[.int .i64 x, .int .i64 y, .int .i64 z, .int .i64 u] 62)).heap.size = w.heap.size + 1 from by simp] at o
  have b2 := b1.trans_pure (Below.pureAlloc _ (.cells #[.int .i64 x, .int .i64 y, .int .i64 z, .int .i64 u] 3)) (Nat.le_refl _)
  have T := ht.keep b2
  have H64 : Ints64 [x, y, z, u] := by intro n hn; simp at hn; rcases hn with rfl | rfl | rfl | rfl <;> assumption
  have hbk : bulkB ⟨#[58]⟩ ([x, y, z, u].map fmtInt) ≤ 1099511627776 := by have := ints_bulk (sep := ⟨#[58]⟩) (by decide) H64; simp only [List.length_cons, List.length_nil] at this; omega
  have Hbk := Lib.hid hbk
  have Ho := Lib.hid o
  have HT := Lib.hid T
  clear o T hbk H64
  go_enter Tryd.func40, Tryd.ntmps40
  go_wp2_with (fail)
  refine (texts_c _ _ _ Ho.out (by simp) HT.out).mono ?_
  rintro e w1 ⟨v1, rfl, o1, b3⟩
  have Hst := Lib.hid (strs_of o1)
  have bb := b2.trans_pure b3 (Nat.le_refl _)
  go_wp2_with (fail)
  refine (Join_i _ _ _ _ Hst.out Hbk.out (by simp)).mono ?_
  rintro e w2 ⟨rfl, b4⟩
  have bb2 := bb.trans_pure b4 (Nat.le_refl _)
  go_wp2
  go_ret
  exact ⟨rfl, bb2⟩
set_option maxRecDepth 100000 in
theorem FormatSwitch_s (x y z u : Int) (hx : I64 x) (hy : I64 y) (hz : I64 z) (hu : I64 u) (w : World) : Calls Tryd.prog 75 #[.agg #[.int .i64 x, .int .i64 y, .int .i64 z, .int .i64 u]] w fun e w' => e = .returned (.string (switchText x y z u)) ∧ Below w.heap.size w w' := by
  have b1 := Below.pureAlloc w (.cells #[.int .i64 x, .int .i64 y, .int .i64 z, .int .i64 u] 62)
  have o := own_lit4 (w.alloc (.cells #[.int .i64 x, .int .i64 y, .int .i64 z, .int .i64 u] 62)) x y z u hx hy hz hu 3
  rw [show (w.alloc (.cells #[.int .i64 x, .int .i64 y, .int .i64 z, .int .i64 u] 62)).heap.size = w.heap.size + 1 from by simp] at o
  have b2 := b1.trans_pure (Below.pureAlloc _ (.cells #[.int .i64 x, .int .i64 y, .int .i64 z, .int .i64 u] 3)) (Nat.le_refl _)
  have Ho := Lib.hid o
  clear o
  go_enter Tryd.func75, Tryd.ntmps75
  go_wp2_with (fail)
  refine (l15Ints_c _ _ _ _ Ho.out (by simp) (by decide)).mono ?_
  rintro e w1 ⟨rfl, b3⟩
  have bb := b2.trans_pure b3 (Nat.le_refl _)
  go_wp2
  go_ret
  exact ⟨rfl, bb⟩
def puzzleText (x y : List (List Int)) : ByteArray := runsText x ++ ⟨#[32, 124, 32]⟩ ++ runsText y
theorem runsText_size {w : World} {v : Value} {g : List (List Int)} (h : Grid w v g) (hl : g.length ≤ 1048576) (hc : cells g ≤ 1048576) : (runsText g).size ≤ 1099511627776 := by
  have h1 := joinB_size ⟨#[32]⟩ (g.map sumsText)
  have h2 := rows_bulk (sep := ⟨#[32]⟩) (f := sumsText) (g := g) (by decide) (fun r hr => sumsText_size (grid_64 h r hr))
  unfold runsText; omega
end Go.Proofs.YtlmjpmdkifoekaaDoor

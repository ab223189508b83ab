/- Contracts: switches and puzzles as texts. -/
import Derived.Test.YtadbiefcpjcinaaDoorF4
import Derived.Test.YtadbiefcpjcinaaDoorBlk
import Derived.Test.YtadbiefcpjcinaaDoorC15
import Derived.Deep.RegionWith
import Derived.Deep.DeepFit
namespace Go.Proofs.YtadbiefcpjcinaaDoor
open Go.RowKit

theorem toSwitch_c (x y z u : Int) (w : World) : Calls Tryd.prog 20 #[.agg #[.int .i64 x, .int .i64 y, .int .i64 z, .int .i64 u]] w fun e w' => e = .returned (.agg #[.int .i64 x, .int .i64 y, .int .i64 z, .int .i64 u]) ∧ Below w.heap.size w w' := by
  go_enter Tryd.func20, Tryd.ntmps20
  go_wp2
  refine bodyPost_ret (v := .agg #[.int .i64 x, .int .i64 y, .int .i64 z, .int .i64 u]) (by simp [results, Tryd.results20, go_sem]) rfl ⟨rfl, ?_⟩
  exact (((Below.refl w.heap.size w).alloc (Nat.le_refl _) _).alloc (by simp) _).alloc (by simp; omega) _
def switchText (x y z u : Int) : ByteArray := intsText ⟨#[58]⟩ [x, y, z, u]
theorem own_lit4 (w : World) (x y z u : Int) (hx : I64 x) (hy : I64 y) (hz : I64 z) (hu : I64 u) (E : TypeId) :
    Ints (w.alloc (.cells #[.int .i64 x, .int .i64 y, .int .i64 z, .int .i64 u] E)) (.slice (some ⟨w.heap.size, 0, none⟩) 4 4) [x, y, z, u] := by
  refine ⟨some ⟨w.heap.size, 0, none⟩, 4, rfl, by simp, by simp, fun h => by simp at h, fun _ => ⟨w.heap.size, 0, rfl, by simp, fun k v hk => ?_⟩⟩
  match k, hk with
  | 0, hk => simp at hk; subst hk; exact ⟨_, by simp, rfl, hx⟩
  | 1, hk => simp at hk; subst hk; exact ⟨_, by simp, rfl, hy⟩
  | 2, hk => simp at hk; subst hk; exact ⟨_, by simp, rfl, hz⟩
  | 3, hk => simp at hk; subst hk; exact ⟨_, by simp, rfl, hu⟩
set_option maxRecDepth 100000 in
theorem FormatSwitch_i (x y z u : Int) (hx : I64 x) (hy : I64 y) (hz : I64 z) (hu : I64 u) (w : World) (ht : Tab w) : Calls Tryd.prog 21 #[.agg #[.int .i64 x, .int .i64 y, .int .i64 z, .int .i64 u]] w fun e w' => e = .returned (.string (switchText x y z u)) ∧ Below w.heap.size w w' := by
  have b1 := Below.pureAlloc w (.cells #[.int .i64 x, .int .i64 y, .int .i64 z, .int .i64 u] 39)
  have o := own_lit4 (w.alloc (.cells #[.int .i64 x, .int .i64 y, .int .i64 z, .int .i64 u] 39)) x y z u hx hy hz hu 3
  rw [show (w.alloc (.cells #[.int .i64 x, .int .i64 y, .int .i64 z, .int .i64 u] 39)).heap.size = w.heap.size + 1 from by simp] at o
  have b2 := b1.trans_pure (Below.pureAlloc _ (.cells #[.int .i64 x, .int .i64 y, .int .i64 z, .int .i64 u] 3)) (Nat.le_refl _)
  have T := ht.keep b2
  have H64 : Ints64 [x, y, z, u] := by intro n hn; simp at hn; rcases hn with rfl | rfl | rfl | rfl <;> assumption
  have hbk : bulkB ⟨#[58]⟩ ([x, y, z, u].map fmtInt) ≤ 1099511627776 := by have := ints_bulk (sep := ⟨#[58]⟩) (by decide) H64; simp only [List.length_cons, List.length_nil] at this; omega
  have Hbk := Lib.hid hbk
  have Ho := Lib.hid o
  have HT := Lib.hid T
  clear o T hbk H64
  go_enter Tryd.func21, Tryd.ntmps21
  go_wp2_with (fail)
  refine (texts_c _ _ _ Ho.out (by simp) HT.out).mono ?_
  rintro e w1 ⟨v1, rfl, o1, b3⟩
  have Hst := Lib.hid (strs_of o1)
  have bb := b2.trans_pure b3 (Nat.le_refl _)
  go_wp2_with (fail)
  refine (Join_i _ _ _ _ Hst.out Hbk.out (by simp)).mono ?_
  rintro e w2 ⟨rfl, b4⟩
  have bb2 := bb.trans_pure b4 (Nat.le_refl _)
  go_wp2
  go_ret
  exact ⟨rfl, bb2⟩
set_option maxRecDepth 100000 in
theorem FormatSwitch_s (x y z u : Int) (hx : I64 x) (hy : I64 y) (hz : I64 z) (hu : I64 u) (w : World) : Calls Tryd.prog 19 #[.agg #[.int .i64 x, .int .i64 y, .int .i64 z, .int .i64 u]] w fun e w' => e = .returned (.string (switchText x y z u)) ∧ Below w.heap.size w w' := by
  have b1 := Below.pureAlloc w (.cells #[.int .i64 x, .int .i64 y, .int .i64 z, .int .i64 u] 39)
  have o := own_lit4 (w.alloc (.cells #[.int .i64 x, .int .i64 y, .int .i64 z, .int .i64 u] 39)) x y z u hx hy hz hu 3
  rw [show (w.alloc (.cells #[.int .i64 x, .int .i64 y, .int .i64 z, .int .i64 u] 39)).heap.size = w.heap.size + 1 from by simp] at o
  have b2 := b1.trans_pure (Below.pureAlloc _ (.cells #[.int .i64 x, .int .i64 y, .int .i64 z, .int .i64 u] 3)) (Nat.le_refl _)
  have Ho := Lib.hid o
  clear o
  go_enter Tryd.func19, Tryd.ntmps19
  go_wp2_with (fail)
  refine (l15Ints_c _ _ _ _ Ho.out (by simp) (by decide)).mono ?_
  rintro e w1 ⟨rfl, b3⟩
  have bb := b2.trans_pure b3 (Nat.le_refl _)
  go_wp2
  go_ret
  exact ⟨rfl, bb⟩
def puzzleText (x y : List (List Int)) : ByteArray := runsText x ++ ⟨#[32, 124, 32]⟩ ++ runsText y
theorem runsText_size {w : World} {v : Value} {g : List (List Int)} (h : Grid w v g) (hl : g.length ≤ 1048576) (hc : cells g ≤ 1048576) : (runsText g).size ≤ 1099511627776 := by
  have h1 := joinB_size ⟨#[32]⟩ (g.map sumsText)
  have h2 := rows_bulk (sep := ⟨#[32]⟩) (f := sumsText) (g := g) (by decide) (fun r hr => sumsText_size (grid_64 h r hr))
  unfold runsText; omega
set_option maxHeartbeats 4000000 in
theorem FormatPuzzle_i (a b : Value) (x y : List (List Int)) (w : World) (h1 : Grid w a x) (h2 : Grid w b y) (hx : x.length ≤ 1048576) (hcx : cells x ≤ 1048576) (hy : y.length ≤ 1048576) (hcy : cells y ≤ 1048576) (ht : Tab w) : Calls Tryd.prog 34 #[.agg #[a, b]] w fun e w' => e = .returned (.string (puzzleText x y)) ∧ Below w.heap.size w w' := by
  have B : Blk (w.alloc (.cells #[a, b] 54)).drew w.heap.size #[a, b] 54 := Blk.new w _ _
  have bb : Below w.heap.size w (w.alloc (.cells #[a, b] 54)).drew := (Below.pureAlloc w _).drew
  have T := ht.keep bb
  have z1 := runsText_size h1 hx hcx
  have z2 := runsText_size h2 hy hcy
  have z3 : (runsText x ++ ⟨#[32, 124, 32]⟩ : ByteArray).size ≤ 1099511627779 := by
    rw [ba_append_size]
    have : (⟨#[32, 124, 32]⟩ : ByteArray).size = 3 := rfl
    omega
  have z0 : (⟨#[32, 124, 32]⟩ : ByteArray).size = 3 := rfl
  have G1 := Lib.hid (h1.keep bb)
  have G2 := Lib.hid (h2.keep bb)
  obtain ⟨p1, p2, p3, rfl⟩ : ∃ p q r, a = .slice p q r := by obtain ⟨q1, q2, rfl, -⟩ := id h1; exact ⟨_, _, _, rfl⟩
  obtain ⟨q1, q2, q3, rfl⟩ : ∃ p q r, b = .slice p q r := by obtain ⟨q1, q2, rfl, -⟩ := id h2; exact ⟨_, _, _, rfl⟩
  have hB := Lib.hid B
  have hbb := Lib.hid bb
  have hT := Lib.hid T
  clear B bb T ht h1 h2
  go_enter Tryd.func34, Tryd.ntmps34
  go_wp2
  go_region_with (first | (go_at_call 59; go_fit (runs_i _ _ _ G1.out hx hcx hT.out); rintro e w2 ⟨rfl, hb2⟩; replace hB := Lib.hid (hB.out.keep hb2); replace hT := Lib.hid (hT.out.keep hb2); replace G1 := Lib.hid (G1.out.keep hb2); replace G2 := Lib.hid (G2.out.keep hb2); replace hbb := Lib.hid (hbb.out.trans_pure hb2 (Nat.le_refl _)); have c0 : w2.cell? ⟨w.heap.size, 0, none⟩ = some (.slice p1 p2 p3) := hB.out.cell 0; have c1 : w2.cell? ⟨w.heap.size, 1, none⟩ = some (.slice q1 q2 q3) := hB.out.cell 1) | (go_at_call 59; go_fit (runs_i _ _ _ G2.out hy hcy hT.out); rintro e w2 ⟨rfl, hb2⟩; replace hB := Lib.hid (hB.out.keep hb2); replace hT := Lib.hid (hT.out.keep hb2); replace G1 := Lib.hid (G1.out.keep hb2); replace G2 := Lib.hid (G2.out.keep hb2); replace hbb := Lib.hid (hbb.out.trans_pure hb2 (Nat.le_refl _)); have c0 : w2.cell? ⟨w.heap.size, 0, none⟩ = some (.slice p1 p2 p3) := hB.out.cell 0; have c1 : w2.cell? ⟨w.heap.size, 1, none⟩ = some (.slice q1 q2 q3) := hB.out.cell 1) | (go_at_call 58; go_fit (runs_s _ _ _ G1.out hx hcx); rintro e w2 ⟨rfl, hb2⟩; replace hB := Lib.hid (hB.out.keep hb2); replace hT := Lib.hid (hT.out.keep hb2); replace G1 := Lib.hid (G1.out.keep hb2); replace G2 := Lib.hid (G2.out.keep hb2); replace hbb := Lib.hid (hbb.out.trans_pure hb2 (Nat.le_refl _)); have c0 : w2.cell? ⟨w.heap.size, 0, none⟩ = some (.slice p1 p2 p3) := hB.out.cell 0; have c1 : w2.cell? ⟨w.heap.size, 1, none⟩ = some (.slice q1 q2 q3) := hB.out.cell 1) | (go_at_call 58; go_fit (runs_s _ _ _ G2.out hy hcy); rintro e w2 ⟨rfl, hb2⟩; replace hB := Lib.hid (hB.out.keep hb2); replace hT := Lib.hid (hT.out.keep hb2); replace G1 := Lib.hid (G1.out.keep hb2); replace G2 := Lib.hid (G2.out.keep hb2); replace hbb := Lib.hid (hbb.out.trans_pure hb2 (Nat.le_refl _)); have c0 : w2.cell? ⟨w.heap.size, 0, none⟩ = some (.slice p1 p2 p3) := hB.out.cell 0; have c1 : w2.cell? ⟨w.heap.size, 1, none⟩ = some (.slice q1 q2 q3) := hB.out.cell 1))
  all_goals go_wp2
  all_goals go_ret
  all_goals exact ⟨rfl, hbb.out⟩
set_option maxHeartbeats 4000000 in
theorem FormatPuzzle_s (a b : Value) (x y : List (List Int)) (w : World) (h1 : Grid w a x) (h2 : Grid w b y) (hx : x.length ≤ 1048576) (hcx : cells x ≤ 1048576) (hy : y.length ≤ 1048576) (hcy : cells y ≤ 1048576) (ht : Tab w) : Calls Tryd.prog 32 #[.agg #[a, b]] w fun e w' => e = .returned (.string (puzzleText x y)) ∧ Below w.heap.size w w' := by
  have B : Blk (w.alloc (.cells #[a, b] 54)).drew w.heap.size #[a, b] 54 := Blk.new w _ _
  have bb : Below w.heap.size w (w.alloc (.cells #[a, b] 54)).drew := (Below.pureAlloc w _).drew
  have T := ht.keep bb
  have z1 := runsText_size h1 hx hcx
  have z2 := runsText_size h2 hy hcy
  have z3 : (runsText x ++ ⟨#[32, 124, 32]⟩ : ByteArray).size ≤ 1099511627779 := by
    rw [ba_append_size]
    have : (⟨#[32, 124, 32]⟩ : ByteArray).size = 3 := rfl
    omega
  have z0 : (⟨#[32, 124, 32]⟩ : ByteArray).size = 3 := rfl
  have G1 := Lib.hid (h1.keep bb)
  have G2 := Lib.hid (h2.keep bb)
  obtain ⟨p1, p2, p3, rfl⟩ : ∃ p q r, a = .slice p q r := by obtain ⟨q1, q2, rfl, -⟩ := id h1; exact ⟨_, _, _, rfl⟩
  obtain ⟨q1, q2, q3, rfl⟩ : ∃ p q r, b = .slice p q r := by obtain ⟨q1, q2, rfl, -⟩ := id h2; exact ⟨_, _, _, rfl⟩
  have hB := Lib.hid B
  have hbb := Lib.hid bb
  have hT := Lib.hid T
  clear B bb T ht h1 h2
  go_enter Tryd.func32, Tryd.ntmps32
  go_wp2
  go_region_with (first | (go_at_call 59; go_fit (runs_i _ _ _ G1.out hx hcx hT.out); rintro e w2 ⟨rfl, hb2⟩; replace hB := Lib.hid (hB.out.keep hb2); replace hT := Lib.hid (hT.out.keep hb2); replace G1 := Lib.hid (G1.out.keep hb2); replace G2 := Lib.hid (G2.out.keep hb2); replace hbb := Lib.hid (hbb.out.trans_pure hb2 (Nat.le_refl _)); have c0 : w2.cell? ⟨w.heap.size, 0, none⟩ = some (.slice p1 p2 p3) := hB.out.cell 0; have c1 : w2.cell? ⟨w.heap.size, 1, none⟩ = some (.slice q1 q2 q3) := hB.out.cell 1) | (go_at_call 59; go_fit (runs_i _ _ _ G2.out hy hcy hT.out); rintro e w2 ⟨rfl, hb2⟩; replace hB := Lib.hid (hB.out.keep hb2); replace hT := Lib.hid (hT.out.keep hb2); replace G1 := Lib.hid (G1.out.keep hb2); replace G2 := Lib.hid (G2.out.keep hb2); replace hbb := Lib.hid (hbb.out.trans_pure hb2 (Nat.le_refl _)); have c0 : w2.cell? ⟨w.heap.size, 0, none⟩ = some (.slice p1 p2 p3) := hB.out.cell 0; have c1 : w2.cell? ⟨w.heap.size, 1, none⟩ = some (.slice q1 q2 q3) := hB.out.cell 1) | (go_at_call 58; go_fit (runs_s _ _ _ G1.out hx hcx); rintro e w2 ⟨rfl, hb2⟩; replace hB := Lib.hid (hB.out.keep hb2); replace hT := Lib.hid (hT.out.keep hb2); replace G1 := Lib.hid (G1.out.keep hb2); replace G2 := Lib.hid (G2.out.keep hb2); replace hbb := Lib.hid (hbb.out.trans_pure hb2 (Nat.le_refl _)); have c0 : w2.cell? ⟨w.heap.size, 0, none⟩ = some (.slice p1 p2 p3) := hB.out.cell 0; have c1 : w2.cell? ⟨w.heap.size, 1, none⟩ = some (.slice q1 q2 q3) := hB.out.cell 1) | (go_at_call 58; go_fit (runs_s _ _ _ G2.out hy hcy); rintro e w2 ⟨rfl, hb2⟩; replace hB := Lib.hid (hB.out.keep hb2); replace hT := Lib.hid (hT.out.keep hb2); replace G1 := Lib.hid (G1.out.keep hb2); replace G2 := Lib.hid (G2.out.keep hb2); replace hbb := Lib.hid (hbb.out.trans_pure hb2 (Nat.le_refl _)); have c0 : w2.cell? ⟨w.heap.size, 0, none⟩ = some (.slice p1 p2 p3) := hB.out.cell 0; have c1 : w2.cell? ⟨w.heap.size, 1, none⟩ = some (.slice q1 q2 q3) := hB.out.cell 1))
  all_goals go_wp2
  all_goals go_ret
  all_goals exact ⟨rfl, hbb.out⟩
end Go.Proofs.YtadbiefcpjcinaaDoor

/- Contracts: puzzles: PuzzleOk, the comparison and copies of puzzles. -/
import Derived.Test.YtadbiefcpjcinaaC14
namespace Go.Proofs.Ytadbiefcpjcinaa
open Go.RowKit

/-- two owned grids, one behind the other -/
def OwnPz (lo hi : Nat) (w : World) (a b : Value) (x y : List (List Int)) : Prop :=
  ∃ M, lo ≤ M ∧ M ≤ hi ∧ Own 33 (Own 3 IntV) (Iv lo M) w a x ∧ Own 33 (Own 3 IntV) (Iv M hi) w b y
theorem OwnPz.keep {lo hi : Nat} {w w' : World} {a b : Value} {x y : List (List Int)} (h : OwnPz lo hi w a b x y) (hb : Below w.heap.size w w') (hh : hi ≤ w.heap.size) : OwnPz lo hi w' a b x y := by
  obtain ⟨M, h1, h2, o1, o2⟩ := h
  exact ⟨M, h1, h2, Own.keep (rOwn rIntV) o1 hb (by omega), Own.keep (rOwn rIntV) o2 hb hh⟩
theorem OwnPz.only {lo hi : Nat} {T : Bk} {w w' : World} {a b : Value} {x y : List (List Int)} (h : OwnPz lo hi w a b x y) (ho : Only T w w') (hh : hi ≤ w.heap.size) (hd : ∀ b, lo ≤ b → b < hi → ¬ T b) : OwnPz lo hi w' a b x y := by
  obtain ⟨M, h1, h2, o1, o2⟩ := h
  exact ⟨M, h1, h2, (rOwn (rOwn rIntV)).same (ho.same (T := Iv lo M) (fun b hb => hd b hb.1 (by have := hb.2; omega)) (fun b hb => by have := hb.2; omega)) o1,
    (rOwn (rOwn rIntV)).same (ho.same (T := Iv M hi) (fun b hb => hd b (by have := hb.1; omega) hb.2) (fun b hb => by have := hb.2; omega)) o2⟩
theorem OwnPz.shape {lo hi : Nat} {w : World} {a b : Value} {x y : List (List Int)} (h : OwnPz lo hi w a b x y) : (∃ p q r, a = .slice p q r) ∧ (∃ p q r, b = .slice p q r) := by
  obtain ⟨M, h1, h2, o1, o2⟩ := h
  exact ⟨o1.shape, o2.shape⟩
theorem OwnPz.reads {lo hi : Nat} {w : World} {a b : Value} {x y : List (List Int)} (h : OwnPz lo hi w a b x y) : Grid w a x ∧ Grid w b y := by
  obtain ⟨M, h1, h2, o1, o2⟩ := h
  exact ⟨o1.grid, o2.grid⟩
theorem OwnPz.wide {lo hi lo' hi' : Nat} {w : World} {a b : Value} {x y : List (List Int)} (h : OwnPz lo hi w a b x y) (h1 : lo' ≤ lo) (h2 : hi ≤ hi') : OwnPz lo' hi' w a b x y := by
  obtain ⟨M, k1, k2, o1, o2⟩ := h
  exact ⟨M, by omega, by omega, (rOwn (rOwn rIntV)).mono (fun b hb => ⟨by have := hb.1; omega, hb.2⟩) o1, (rOwn (rOwn rIntV)).mono (fun b hb => ⟨hb.1, by have := hb.2; omega⟩) o2⟩

theorem eqPuzzle_c (a b a' b' : Value) (x y x' y' : List (List Int)) (w : World) (h1 : Grid w a x) (h2 : Grid w b y) (h1' : Grid w a' x') (h2' : Grid w b' y') :
    Calls Try.prog 14 #[.agg #[a, b], .agg #[a', b']] w fun e w' => e = .returned (.bool (decide (x = x') && decide (y = y'))) ∧ ∃ n, w' = ((w.alloc (.cells #[a, b] 25)).alloc (.cells #[a', b'] 25)).drewN n := by
  have hb : ∀ o1 o2 n, Below w.heap.size w (((w.alloc o1).alloc o2).drewN n) := fun o1 o2 n => below_drewN (((Below.refl _ _).alloc (Nat.le_refl _) _).alloc (by simp) _) _
  have Hb := Lib.hid hb; clear hb
  go_enter Try.func14, Try.ntmps14
  go_wp2_with (fail)
  refine (eqIntSS_q _ _ _ _ _ (h1.keep (Hb.out _ _ 0)) (h1'.keep (Hb.out _ _ 0))).mono ?_
  rintro e w' ⟨rfl, n, rfl⟩
  cases he : decide (x = x')
  · go_wp2
    go_ret
    exact ⟨retB (by rw [he]; simp), n, rfl⟩
  have He := Lib.hid he
  go_wp2_with (fail)
  refine (eqIntSS_q _ _ _ _ _ (h2.keep (Hb.out _ _ _)) (h2'.keep (Hb.out _ _ _))).mono ?_
  rintro e w' ⟨rfl, n1, rfl⟩
  cases he2 : decide (y = y')
  · go_wp2
    go_ret
    exact ⟨retB (by rw [he2]; simp), n + n1, by simp⟩
  · go_wp2
    go_ret
    exact ⟨retB (by rw [He.out, he2]; rfl), n + n1, by simp⟩
/-- a block of plain cells -/
def Blk (w : World) (g : Nat) (cs : Array Value) (t : TypeId) : Prop := w.heap[g]? = some (.cells cs t (0, 0))
theorem Blk.lt {w : World} {g : Nat} {cs : Array Value} {t : TypeId} (h : Blk w g cs t) : g < w.heap.size := lt_of_block h
theorem Blk.keep {w w' : World} {g : Nat} {cs : Array Value} {t : TypeId} (h : Blk w g cs t) (hb : Below w.heap.size w w') : Blk w' g cs t := (hb.block g h.lt).trans h
theorem Blk.only {S : Bk} {w w' : World} {g : Nat} {cs : Array Value} {t : TypeId} (h : Blk w g cs t) (hb : Only S w w') (hn : ¬ S g) : Blk w' g cs t := (hb.block g h.lt hn).trans h
theorem Blk.set {w : World} {g j : Nat} {cs : Array Value} {t : TypeId} (h : Blk w g cs t) (u : Value) : Blk (w.setCell ⟨g, j, none⟩ u) g (cs.setIfInBounds j u) t := heap_setCell_same w g j cs t u h
theorem Blk.set_ne {w : World} {g g' j : Nat} {cs : Array Value} {t : TypeId} (h : Blk w g cs t) (hne : g ≠ g') (u : Value) : Blk (w.setCell ⟨g', j, none⟩ u) g cs t := (Below.heap_setCell w _ _ g (by simpa using hne)).trans h
theorem Blk.cell {w : World} {g : Nat} {cs : Array Value} {t : TypeId} (h : Blk w g cs t) (j : Nat) : w.cell? ⟨g, j, none⟩ = cs[j]? := cell_of_row w g j _ _ _ h
theorem Blk.frozen {w : World} {g : Nat} {cs : Array Value} {t : TypeId} (h : Blk w g cs t) (j : Nat) : w.frozen? ⟨g, j, none⟩ = false := frozen_of_row w g j _ _ h
theorem Blk.new (w : World) (cs : Array Value) (t : TypeId) : Blk (w.alloc (.cells cs t)) w.heap.size cs t := heap_alloc_new w _

end Go.Proofs.Ytadbiefcpjcinaa

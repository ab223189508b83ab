/- Contracts: puzzles: PuzzleOk, the comparison and copies of puzzles. -/
import Derived.Test.YtekgnpdchpdfiaaC14
import Derived.Test.YtekgnpdchpdfiaaBlk
namespace Go.Proofs.Ytekgnpdchpdfiaa
open Go.RowKit

/-- two owned grids, one behind the other -/
def OwnPz (lo hi : Nat) (w : World) (a b : Value) (x y : List (List Int)) : Prop :=
  ∃ M, lo ≤ M ∧ M ≤ hi ∧ Own 41 (Own 3 IntV) (Iv lo M) w a x ∧ Own 41 (Own 3 IntV) (Iv M hi) w b y
theorem OwnPz.keep {lo hi : Nat} {w w' : World} {a b : Value} {x y : List (List Int)} (h : OwnPz lo hi w a b x y) (hb : Below w.heap.size w w') (hh : hi ≤ w.heap.size) : OwnPz lo hi w' a b x y := by
  obtain ⟨M, h1, h2, o1, o2⟩ := h
  exact ⟨M, h1, h2, Own.keep (rOwn rIntV) o1 hb (by omega), Own.keep (rOwn rIntV) o2 hb hh⟩
theorem OwnPz.only {lo hi : Nat} {T : Bk} {w w' : World} {a b : Value} {x y : List (List Int)} (h : OwnPz lo hi w a b x y) (ho : Only T w w') (hh : hi ≤ w.heap.size) (hd : ∀ b, lo ≤ b → b < hi → ¬ T b) : OwnPz lo hi w' a b x y := by
  obtain ⟨M, h1, h2, o1, o2⟩ := h
  exact ⟨M, h1, h2, (rOwn (rOwn rIntV)).same (ho.same (T := Iv lo M) (fun b hb => hd b hb.1 (by have := hb.2; omega)) (fun b hb => by have := hb.2; omega)) o1,
    (rOwn (rOwn rIntV)).same (ho.same (T := Iv M hi) (fun b hb => hd b (by have := hb.1; omega) hb.2) (fun b hb => by have := hb.2; omega)) o2⟩
theorem OwnPz.shape {lo hi : Nat} {w : World} {a b : Value} {x y : List (List Int)} (h : OwnPz lo hi w a b x y) : (∃ p q r, a = .slice p q r) ∧ (∃ p q r, b = .slice p q r) := by
  obtain ⟨M, h1, h2, o1, o2⟩ := h
  exact ⟨o1.shape, o2.shape⟩
theorem OwnPz.reads {lo hi : Nat} {w : World} {a b : Value} {x y : List (List Int)} (h : OwnPz lo hi w a b x y) : Grid w a x ∧ Grid w b y := by
  obtain ⟨M, h1, h2, o1, o2⟩ := h
  exact ⟨o1.grid, o2.grid⟩
theorem OwnPz.wide {lo hi lo' hi' : Nat} {w : World} {a b : Value} {x y : List (List Int)} (h : OwnPz lo hi w a b x y) (h1 : lo' ≤ lo) (h2 : hi ≤ hi') : OwnPz lo' hi' w a b x y := by
  obtain ⟨M, k1, k2, o1, o2⟩ := h
  exact ⟨M, by omega, by omega, (rOwn (rOwn rIntV)).mono (fun b hb => ⟨by have := hb.1; omega, hb.2⟩) o1, (rOwn (rOwn rIntV)).mono (fun b hb => ⟨hb.1, by have := hb.2; omega⟩) o2⟩

theorem eqPuzzle_c (a b a' b' : Value) (x y x' y' : List (List Int)) (w : World) (h1 : Grid w a x) (h2 : Grid w b y) (h1' : Grid w a' x') (h2' : Grid w b' y') :
    Calls Try.prog 14 #[.agg #[a, b], .agg #[a', b']] w fun e w' => e = .returned (.bool (decide (x = x') && decide (y = y'))) ∧ ∃ n, w' = ((w.alloc (.cells #[a, b] 28)).alloc (.cells #[a', b'] 28)).drewN n := by
  have hb : ∀ o1 o2 n, Below w.heap.size w (((w.alloc o1).alloc o2).drewN n) := fun o1 o2 n => below_drewN (((Below.refl _ _).alloc (Nat.le_refl _) _).alloc (by simp) _) _
  have Hb := Lib.hid hb; clear hb
  go_enter Try.func14, Try.ntmps14
  go_wp2_with (fail)
  refine (eqIntSS_q _ _ _ _ _ (h1.keep (Hb.out _ _ 0)) (h1'.keep (Hb.out _ _ 0))).mono ?_
  rintro e w' ⟨rfl, n, rfl⟩
  cases he : decide (x = x')
  · go_wp2
    go_ret
    exact ⟨retB (by rw [he]; simp), n, rfl⟩
  have He := Lib.hid he
  go_wp2_with (fail)
  refine (eqIntSS_q _ _ _ _ _ (h2.keep (Hb.out _ _ _)) (h2'.keep (Hb.out _ _ _))).mono ?_
  rintro e w' ⟨rfl, n1, rfl⟩
  cases he2 : decide (y = y')
  · go_wp2
    go_ret
    exact ⟨retB (by rw [he2]; simp), n + n1, by simp⟩
  · go_wp2
    go_ret
    exact ⟨retB (by rw [He.out, he2]; rfl), n + n1, by simp⟩
def leftPz (x y : List (List Int)) (left : Int) : Int := if leftOf (bulk x) left < 0 then -1 else leftOf (bulk y) (leftOf (bulk x) left)
theorem leftOf_le (n : Nat) (left : Int) (h : left ≤ 1048576) : leftOf n left ≤ 1048576 := by unfold leftOf; split <;> omega
theorem szPuzzle_c (a b : Value) (x y : List (List Int)) (left : Int) (w : World) (h1 : Grid w a x) (h2 : Grid w b y) (h0 : 0 ≤ left) (hl1 : left ≤ 1048576) :
    Calls Try.prog 9 #[.agg #[a, b], .int .i64 left] w fun e w' => e = .returned (.int .i64 (leftPz x y left)) ∧ w' = w.alloc (.cells #[a, b] 24) := by
  have hb : ∀ o, Below w.heap.size w (w.alloc o) := fun o => Below.pureAlloc w o
  have Hb := Lib.hid hb; clear hb
  go_enter Try.func9, Try.ntmps9
  go_wp2_with (fail)
  refine (szIntSS_c _ _ _ _ (h1.keep (Hb.out _)) h0 hl1).mono ?_
  rintro e w' ⟨rfl, rfl⟩
  by_cases hneg : leftOf (bulk x) left < 0
  · have Hf := Lib.hid (show leftPz x y left = -1 from by unfold leftPz; rw [if_pos hneg])
    go_wp2
    go_ret
    exact ⟨retI Hf.out.symm, rfl⟩
  · have Hf := Lib.hid (show leftPz x y left = leftOf (bulk y) (leftOf (bulk x) left) from by unfold leftPz; rw [if_neg hneg])
    have hle := leftOf_le (bulk x) left hl1
    go_wp2_with (fail)
    refine (szIntSS_c _ _ _ _ (h2.keep (Hb.out _)) (by omega) hle).mono ?_
    rintro e w' ⟨rfl, rfl⟩
    by_cases hneg2 : leftOf (bulk y) (leftOf (bulk x) left) < 0
    · have Hg := Lib.hid (show leftPz x y left = -1 from by rw [Hf.out]; unfold leftOf at hneg2 ⊢; split <;> split at hneg2 <;> first | rfl | omega)
      go_wp2
      go_ret
      exact ⟨retI Hg.out.symm, rfl⟩
    · go_wp2
      go_ret
      exact ⟨retI Hf.out.symm, rfl⟩

set_option maxHeartbeats 400000 in
theorem toPuzzle_c (a b : Value) (x y : List (List Int)) (w : World) (h1 : Grid w a x) (h2 : Grid w b y) (hx : x.length ≤ 1048576) (hcx : cells x ≤ 1048576) (hy : y.length ≤ 1048576) (hcy : cells y ≤ 1048576) :
    Calls Try.prog 11 #[.agg #[a, b]] w fun e w' => ∃ a' b', e = .returned (.agg #[a', b']) ∧ OwnPz w.heap.size w'.heap.size w' a' b' x y ∧ Below w.heap.size w w' := by
  obtain ⟨aa, ca, rfl, -⟩ := id h1
  obtain ⟨ab, cb, rfl, -⟩ := id h2
  go_enter Try.func11, Try.ntmps11
  go_wp2_with (fail)
  have B1 := Blk.new w #[.slice aa x.length ca, .slice ab y.length cb] 24
  have b1 := Below.pureAlloc w (.cells #[.slice aa x.length ca, .slice ab y.length cb] 24)
  obtain ⟨W1, hW1⟩ : ∃ W, W = w.alloc (.cells #[.slice aa x.length ca, .slice ab y.length cb] 24) := ⟨_, rfl⟩
  have z1 : W1.heap.size = w.heap.size + 1 := by rw [hW1]; simp
  rw [← hW1] at B1 b1 ⊢
  have B2 := Blk.new W1 #[.slice none 0 0, .slice none 0 0] 28
  have b2 := Below.pureAlloc W1 (.cells #[.slice none 0 0, .slice none 0 0] 28)
  obtain ⟨W2, hW2⟩ : ∃ W, W = W1.alloc (.cells #[.slice none 0 0, .slice none 0 0] 28) := ⟨_, rfl⟩
  have z2 : W2.heap.size = w.heap.size + 1 + 1 := by rw [hW2]; simp [z1]
  rw [← hW2] at B2 b2 ⊢
  have B3 := Blk.new W2 #[.slice none 0 0, .slice none 0 0] 28
  have b3 := Below.pureAlloc W2 (.cells #[.slice none 0 0, .slice none 0 0] 28)
  obtain ⟨W3, hW3⟩ : ∃ W, W = W2.alloc (.cells #[.slice none 0 0, .slice none 0 0] 28) := ⟨_, rfl⟩
  have z3 : W3.heap.size = w.heap.size + 1 + 1 + 1 := by rw [hW3]; simp [z2]
  rw [← hW3] at B3 b3 ⊢
  rw [z2] at B3
  rw [z1] at B2
  replace B1 := (B1.keep b2).keep b3
  replace B2 := B2.keep b3
  have bb3 : Below w.heap.size w W3 := (b1.trans_pure b2 (by omega)).trans_pure b3 (by omega)
  have Z3 := Lib.hid z3
  clear hW1 hW2 hW3 z1 z2 z3 b1 b2 b3
  refine (toIntSS_c _ _ _ (h1.keep bb3) (by omega) (by omega)).mono ?_
  rintro e w4 ⟨a', rfl, o4, b4⟩
  obtain ⟨p1, p2, p3, rfl⟩ := o4.shape
  have s4 : W3.heap.size ≤ w4.heap.size := b4.size
  replace B1 := B1.keep b4
  replace B2 := B2.keep b4
  replace B3 := B3.keep b4
  have c1 : w4.cell? ⟨w.heap.size, 1, none⟩ = some (.slice ab y.length cb) := B1.cell 1
  have c3 : w4.cell? ⟨w.heap.size + 1 + 1, 0, none⟩ = some (.slice none 0 0) := B3.cell 0
  have f3 := B3.frozen 0
  have bb4 := bb3.trans_pure b4 (Nat.le_refl _)
  go_wp2_with (fail)
  have b5 : Below W3.heap.size W3 w4 := b4
  obtain ⟨W5, hW5⟩ : ∃ W, W = w4.setCell ⟨w.heap.size + 1 + 1, 0, none⟩ (.slice p1 p2 p3) := ⟨_, rfl⟩
  rw [← hW5]
  replace B1 := B1.set_ne (j := 0) (g' := w.heap.size + 1 + 1) (by omega) (.slice p1 p2 p3)
  replace B2 := B2.set_ne (j := 0) (g' := w.heap.size + 1 + 1) (by omega) (.slice p1 p2 p3)
  replace B3 := B3.set (j := 0) (.slice p1 p2 p3)
  replace o4 := (rOwn (rOwn rIntV)).same (w' := W5) (fun b hb => by rw [hW5]; exact Below.heap_setCell w4 _ _ b (by have := hb.1; rw [Z3.out] at this; simp; omega)) o4
  have bb5 : Below w.heap.size w W5 := by rw [hW5]; exact bb4.setCell (by simp; omega) _
  have z5 : W5.heap.size = w4.heap.size := by rw [hW5, size_setCell]
  rw [← hW5] at B1 B2 B3
  have Z5 := Lib.hid z5
  clear hW5 z5 c1 c3 f3
  refine (toIntSS_c _ _ _ (h2.keep bb5) (by omega) (by omega)).mono ?_
  rintro e w6 ⟨b', rfl, o6, b6⟩
  obtain ⟨q1, q2, q3, rfl⟩ := o6.shape
  have s6 : W5.heap.size ≤ w6.heap.size := b6.size
  replace B1 := B1.keep b6
  replace B2 := B2.keep b6
  replace B3 := B3.keep b6
  replace o4 := Own.keep (rOwn rIntV) o4 b6 (by rw [Z5.out]; exact Nat.le_refl _)
  have bb6 := bb5.trans_pure b6 (Nat.le_refl _)
  have c30 : w6.cell? ⟨w.heap.size + 1 + 1, 0, none⟩ = some (.slice p1 p2 p3) := B3.cell 0
  have c31 : w6.cell? ⟨w.heap.size + 1 + 1, 1, none⟩ = some (.slice none 0 0) := B3.cell 1
  have f31 := B3.frozen 1
  have c20 : w6.cell? ⟨w.heap.size + 1, 0, none⟩ = some (.slice none 0 0) := B2.cell 0
  have c21 : w6.cell? ⟨w.heap.size + 1, 1, none⟩ = some (.slice none 0 0) := B2.cell 1
  have f20 := B2.frozen 0
  have f21 := B2.frozen 1
  go_wp2_with (fail)
  obtain ⟨W7, hW7⟩ : ∃ W, W = (((w6.setCell ⟨w.heap.size + 1 + 1, 1, none⟩ (.slice q1 q2 q3)).setCell ⟨w.heap.size + 1, 0, none⟩ (.slice p1 p2 p3)).setCell ⟨w.heap.size + 1, 1, none⟩ (.slice q1 q2 q3)) := ⟨_, rfl⟩
  have B2' := ((B2.set_ne (j := 1) (g' := w.heap.size + 1 + 1) (by omega) (.slice q1 q2 q3)).set (j := 0) (.slice p1 p2 p3)).set (j := 1) (.slice q1 q2 q3)
  have bb7 : Below w.heap.size w W7 := by rw [hW7]; exact ((bb6.setCell (by simp; omega) _).setCell (by simp) _).setCell (by simp) _
  have hsame : ∀ b, W3.heap.size ≤ b → W7.heap[b]? = w6.heap[b]? := by
    intro b hb
    rw [Z3.out] at hb
    rw [hW7, Below.heap_setCell _ _ _ b (by simp; omega), Below.heap_setCell _ _ _ b (by simp; omega), Below.heap_setCell _ _ _ b (by simp; omega)]
  have z7 : W7.heap.size = w6.heap.size := by rw [hW7, size_setCell, size_setCell, size_setCell]
  rw [← hW7] at B2' ⊢
  clear hW7
  replace o4 := (rOwn (rOwn rIntV)).same (w' := W7) (fun b hb => hsame b hb.1) o4
  replace o6 := (rOwn (rOwn rIntV)).same (w' := W7) (fun b hb => hsame b (by have := hb.1; rw [Z5.out] at this; omega)) o6
  have c0 : W7.cell? ⟨w.heap.size + 1, 0, none⟩ = some (.slice p1 p2 p3) := B2'.cell 0
  have c1 : W7.cell? ⟨w.heap.size + 1, 1, none⟩ = some (.slice q1 q2 q3) := B2'.cell 1
  refine bodyPost_ret (v := .agg #[.slice p1 p2 p3, .slice q1 q2 q3]) (by simp [results, Try.results11, go_sem, c0, c1]) rfl ⟨_, _, rfl, ⟨w4.heap.size, ?_, ?_, ?_, ?_⟩, bb7⟩
  · exact bb4.size
  · rw [z7, ← Z5.out]; exact s6
  · exact (rOwn (rOwn rIntV)).mono (fun b hb => ⟨by have := hb.1; rw [Z3.out] at this; omega, hb.2⟩) o4
  · exact (rOwn (rOwn rIntV)).mono (fun b hb => ⟨by have := hb.1; rw [Z5.out] at this; exact this, by rw [z7]; exact hb.2⟩) o6
end Go.Proofs.Ytekgnpdchpdfiaa

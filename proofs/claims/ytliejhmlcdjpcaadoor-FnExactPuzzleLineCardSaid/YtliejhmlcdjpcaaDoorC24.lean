/- Contracts: puzzles: PuzzleOk, the comparison and copies of puzzles. Contracts: PuzzleOk. Contracts: PuzzleOf. Contracts: PuzzleOf; marks of puzzles. -/
import Derived.Test.YtliejhmlcdjpcaaDoorC12
import Derived.Test.YtliejhmlcdjpcaaDoorMem
import Derived.Test.YtliejhmlcdjpcaaDoorC1
namespace Go.Proofs.YtliejhmlcdjpcaaDoor
open Go.RowKit

/-- two owned grids, one behind the other -/
def OwnPz (lo hi : Nat) (w : World) (a b : Value) (x y : List (List Int)) : Prop :=
  ∃ M, lo ≤ M ∧ M ≤ hi ∧ Own 24 (Own 3 IntV) (Iv lo M) w a x ∧ Own 24 (Own 3 IntV) (Iv M hi) w b y
theorem OwnPz.keep {lo hi : Nat} {w w' : World} {a b : Value} {x y : List (List Int)} (h : OwnPz lo hi w a b x y) (hb : Below w.heap.size w w') (hh : hi ≤ w.heap.size) : OwnPz lo hi w' a b x y := by
  obtain ⟨M, h1, h2, o1, o2⟩ := h
  exact ⟨M, h1, h2, Own.keep (rOwn rIntV) o1 hb (by omega), Own.keep (rOwn rIntV) o2 hb hh⟩
theorem OwnPz.only {lo hi : Nat} {T : Bk} {w w' : World} {a b : Value} {x y : List (List Int)} (h : OwnPz lo hi w a b x y) (ho : Only T w w') (hh : hi ≤ w.heap.size) (hd : ∀ b, lo ≤ b → b < hi → ¬ T b) : OwnPz lo hi w' a b x y := by
  obtain ⟨M, h1, h2, o1, o2⟩ := h
  exact ⟨M, h1, h2, (rOwn (rOwn rIntV)).same (ho.same (T := Iv lo M) (fun b hb => hd b hb.1 (by have := hb.2; omega)) (fun b hb => by have := hb.2; omega)) o1,
    (rOwn (rOwn rIntV)).same (ho.same (T := Iv M hi) (fun b hb => hd b (by have := hb.1; omega) hb.2) (fun b hb => by have := hb.2; omega)) o2⟩
theorem OwnPz.shape {lo hi : Nat} {w : World} {a b : Value} {x y : List (List Int)} (h : OwnPz lo hi w a b x y) : (∃ p q r, a = .slice p q r) ∧ (∃ p q r, b = .slice p q r) := by
  obtain ⟨M, h1, h2, o1, o2⟩ := h
  exact ⟨o1.shape, o2.shape⟩
theorem OwnPz.reads {lo hi : Nat} {w : World} {a b : Value} {x y : List (List Int)} (h : OwnPz lo hi w a b x y) : Grid w a x ∧ Grid w b y := by
  obtain ⟨M, h1, h2, o1, o2⟩ := h
  exact ⟨o1.grid, o2.grid⟩
theorem OwnPz.wide {lo hi lo' hi' : Nat} {w : World} {a b : Value} {x y : List (List Int)} (h : OwnPz lo hi w a b x y) (h1 : lo' ≤ lo) (h2 : hi ≤ hi') : OwnPz lo' hi' w a b x y := by
  obtain ⟨M, k1, k2, o1, o2⟩ := h
  exact ⟨M, by omega, by omega, (rOwn (rOwn rIntV)).mono (fun b hb => ⟨by have := hb.1; omega, hb.2⟩) o1, (rOwn (rOwn rIntV)).mono (fun b hb => ⟨hb.1, by have := hb.2; omega⟩) o2⟩

theorem eqPuzzle_c (a b a' b' : Value) (x y x' y' : List (List Int)) (w : World) (h1 : Grid w a x) (h2 : Grid w b y) (h1' : Grid w a' x') (h2' : Grid w b' y') :
    Calls Tryd.prog 42 #[.agg #[a, b], .agg #[a', b']] w fun e w' => e = .returned (.bool (decide (x = x') && decide (y = y'))) ∧ ∃ n, w' = ((w.alloc (.cells #[a, b] 56)).alloc (.cells #[a', b'] 56)).drewN n := by
  have hb : ∀ o1 o2 n, Below w.heap.size w (((w.alloc o1).alloc o2).drewN n) := fun o1 o2 n => below_drewN (((Below.refl _ _).alloc (Nat.le_refl _) _).alloc (by simp) _) _
  have Hb := Lib.hid hb; clear hb
  go_enter Tryd.func42, Tryd.ntmps42
  go_wp2_with (fail)
  refine (eqIntSS_q _ _ _ _ _ (h1.keep (Hb.out _ _ 0)) (h1'.keep (Hb.out _ _ 0))).mono ?_
  rintro e w' ⟨rfl, n, rfl⟩
  cases he : decide (x = x')
  · go_wp2
    go_ret
    exact ⟨retB (by rw [he]; simp), n, rfl⟩
  have He := Lib.hid he
  go_wp2_with (fail)
  refine (eqIntSS_q _ _ _ _ _ (h2.keep (Hb.out _ _ _)) (h2'.keep (Hb.out _ _ _))).mono ?_
  rintro e w' ⟨rfl, n1, rfl⟩
  cases he2 : decide (y = y')
  · go_wp2
    go_ret
    exact ⟨retB (by rw [he2]; simp), n + n1, by simp⟩
  · go_wp2
    go_ret
    exact ⟨retB (by rw [He.out, he2]; rfl), n + n1, by simp⟩
def leftPz (x y : List (List Int)) (left : Int) : Int := if leftOf (bulk x) left < 0 then -1 else leftOf (bulk y) (leftOf (bulk x) left)
theorem leftOf_le (n : Nat) (left : Int) (h : left ≤ 1048576) : leftOf n left ≤ 1048576 := by unfold leftOf; split <;> omega
theorem szPuzzle_c (a b : Value) (x y : List (List Int)) (left : Int) (w : World) (h1 : Grid w a x) (h2 : Grid w b y) (h0 : 0 ≤ left) (hl1 : left ≤ 1048576) :
    Calls Tryd.prog 38 #[.agg #[a, b], .int .i64 left] w fun e w' => e = .returned (.int .i64 (leftPz x y left)) ∧ w' = w.alloc (.cells #[a, b] 53) := by
  have hb : ∀ o, Below w.heap.size w (w.alloc o) := fun o => Below.pureAlloc w o
  have Hb := Lib.hid hb; clear hb
  go_enter Tryd.func38, Tryd.ntmps38
  go_wp2_with (fail)
  refine (szIntSS_c _ _ _ _ (h1.keep (Hb.out _)) h0 hl1).mono ?_
  rintro e w' ⟨rfl, rfl⟩
  by_cases hneg : leftOf (bulk x) left < 0
  · have Hf := Lib.hid (show leftPz x y left = -1 from by unfold leftPz; rw [if_pos hneg])
    go_wp2
    go_ret
    exact ⟨retI Hf.out.symm, rfl⟩
  · have Hf := Lib.hid (show leftPz x y left = leftOf (bulk y) (leftOf (bulk x) left) from by unfold leftPz; rw [if_neg hneg])
    have hle := leftOf_le (bulk x) left hl1
    go_wp2_with (fail)
    refine (szIntSS_c _ _ _ _ (h2.keep (Hb.out _)) (by omega) hle).mono ?_
    rintro e w' ⟨rfl, rfl⟩
    by_cases hneg2 : leftOf (bulk y) (leftOf (bulk x) left) < 0
    · have Hg := Lib.hid (show leftPz x y left = -1 from by rw [Hf.out]; unfold leftOf at hneg2 ⊢; split <;> split at hneg2 <;> first | rfl | omega)
      go_wp2
      go_ret
      exact ⟨retI Hg.out.symm, rfl⟩
    · go_wp2
      go_ret
      exact ⟨retI Hf.out.symm, rfl⟩

set_option maxHeartbeats 400000 in
theorem toPuzzle_c (a b : Value) (x y : List (List Int)) (w : World) (h1 : Grid w a x) (h2 : Grid w b y) (hx : x.length ≤ 1048576) (hcx : cells x ≤ 1048576) (hy : y.length ≤ 1048576) (hcy : cells y ≤ 1048576) :
    Calls Tryd.prog 40 #[.agg #[a, b]] w fun e w' => ∃ a' b', e = .returned (.agg #[a', b']) ∧ OwnPz w.heap.size w'.heap.size w' a' b' x y ∧ Below w.heap.size w w' := by
  obtain ⟨aa, ca, rfl, -⟩ := id h1
  obtain ⟨ab, cb, rfl, -⟩ := id h2
  go_enter Tryd.func40, Tryd.ntmps40
  go_wp2_with (fail)
  have B1 := Blk.new w #[.slice aa x.length ca, .slice ab y.length cb] 53
  have b1 := Below.pureAlloc w (.cells #[.slice aa x.length ca, .slice ab y.length cb] 53)
  obtain ⟨W1, hW1⟩ : ∃ W, W = w.alloc (.cells #[.slice aa x.length ca, .slice ab y.length cb] 53) := ⟨_, rfl⟩
  have z1 : W1.heap.size = w.heap.size + 1 := by rw [hW1]; simp
  rw [← hW1] at B1 b1 ⊢
  have B2 := Blk.new W1 #[.slice none 0 0, .slice none 0 0] 56
  have b2 := Below.pureAlloc W1 (.cells #[.slice none 0 0, .slice none 0 0] 56)
  obtain ⟨W2, hW2⟩ : ∃ W, W = W1.alloc (.cells #[.slice none 0 0, .slice none 0 0] 56) := ⟨_, rfl⟩
  have z2 : W2.heap.size = w.heap.size + 1 + 1 := by rw [hW2]; simp [z1]
  rw [← hW2] at B2 b2 ⊢
  have B3 := Blk.new W2 #[.slice none 0 0, .slice none 0 0] 56
  have b3 := Below.pureAlloc W2 (.cells #[.slice none 0 0, .slice none 0 0] 56)
  obtain ⟨W3, hW3⟩ : ∃ W, W = W2.alloc (.cells #[.slice none 0 0, .slice none 0 0] 56) := ⟨_, rfl⟩
  have z3 : W3.heap.size = w.heap.size + 1 + 1 + 1 := by rw [hW3]; simp [z2]
  rw [← hW3] at B3 b3 ⊢
  rw [z2] at B3
  rw [z1] at B2
  replace B1 := (B1.keep b2).keep b3
  replace B2 := B2.keep b3
  have bb3 : Below w.heap.size w W3 := (b1.trans_pure b2 (by omega)).trans_pure b3 (by omega)
  have Z3 := Lib.hid z3
  clear hW1 hW2 hW3 z1 z2 z3 b1 b2 b3
  refine (toIntSS_c _ _ _ (h1.keep bb3) (by omega) (by omega)).mono ?_
  rintro e w4 ⟨a', rfl, o4, b4⟩
  obtain ⟨p1, p2, p3, rfl⟩ := o4.shape
  have s4 : W3.heap.size ≤ w4.heap.size := b4.size
  replace B1 := B1.keep b4
  replace B2 := B2.keep b4
  replace B3 := B3.keep b4
  have c1 : w4.cell? ⟨w.heap.size, 1, none⟩ = some (.slice ab y.length cb) := B1.cell 1
  have c3 : w4.cell? ⟨w.heap.size + 1 + 1, 0, none⟩ = some (.slice none 0 0) := B3.cell 0
  have f3 := B3.frozen 0
  have bb4 := bb3.trans_pure b4 (Nat.le_refl _)
  go_wp2_with (fail)
  have b5 : Below W3.heap.size W3 w4 := b4
  obtain ⟨W5, hW5⟩ : ∃ W, W = w4.setCell ⟨w.heap.size + 1 + 1, 0, none⟩ (.slice p1 p2 p3) := ⟨_, rfl⟩
  rw [← hW5]
  replace B1 := B1.set_ne (j := 0) (g' := w.heap.size + 1 + 1) (by omega) (.slice p1 p2 p3)
  replace B2 := B2.set_ne (j := 0) (g' := w.heap.size + 1 + 1) (by omega) (.slice p1 p2 p3)
  replace B3 := B3.set (j := 0) (.slice p1 p2 p3)
  replace o4 := (rOwn (rOwn rIntV)).same (w' := W5) (fun b hb => by rw [hW5]; exact Below.heap_setCell w4 _ _ b (by have := hb.1; rw [Z3.out] at this; simp; omega)) o4
  have bb5 : Below w.heap.size w W5 := by rw [hW5]; exact bb4.setCell (by simp; omega) _
  have z5 : W5.heap.size = w4.heap.size := by rw [hW5, size_setCell]
  rw [← hW5] at B1 B2 B3
  have Z5 := Lib.hid z5
  clear hW5 z5 c1 c3 f3
  refine (toIntSS_c _ _ _ (h2.keep bb5) (by omega) (by omega)).mono ?_
  rintro e w6 ⟨b', rfl, o6, b6⟩
  obtain ⟨q1, q2, q3, rfl⟩ := o6.shape
  have s6 : W5.heap.size ≤ w6.heap.size := b6.size
  replace B1 := B1.keep b6
  replace B2 := B2.keep b6
  replace B3 := B3.keep b6
  replace o4 := Own.keep (rOwn rIntV) o4 b6 (by rw [Z5.out]; exact Nat.le_refl _)
  have bb6 := bb5.trans_pure b6 (Nat.le_refl _)
  have c30 : w6.cell? ⟨w.heap.size + 1 + 1, 0, none⟩ = some (.slice p1 p2 p3) := B3.cell 0
  have c31 : w6.cell? ⟨w.heap.size + 1 + 1, 1, none⟩ = some (.slice none 0 0) := B3.cell 1
  have f31 := B3.frozen 1
  have c20 : w6.cell? ⟨w.heap.size + 1, 0, none⟩ = some (.slice none 0 0) := B2.cell 0
  have c21 : w6.cell? ⟨w.heap.size + 1, 1, none⟩ = some (.slice none 0 0) := B2.cell 1
  have f20 := B2.frozen 0
  have f21 := B2.frozen 1
  go_wp2_with (fail)
  obtain ⟨W7, hW7⟩ : ∃ W, W = (((w6.setCell ⟨w.heap.size + 1 + 1, 1, none⟩ (.slice q1 q2 q3)).setCell ⟨w.heap.size + 1, 0, none⟩ (.slice p1 p2 p3)).setCell ⟨w.heap.size + 1, 1, none⟩ (.slice q1 q2 q3)) := ⟨_, rfl⟩
  have B2' := ((B2.set_ne (j := 1) (g' := w.heap.size + 1 + 1) (by omega) (.slice q1 q2 q3)).set (j := 0) (.slice p1 p2 p3)).set (j := 1) (.slice q1 q2 q3)
  have bb7 : Below w.heap.size w W7 := by rw [hW7]; exact ((bb6.setCell (by simp; omega) _).setCell (by simp) _).setCell (by simp) _
  have hsame : ∀ b, W3.heap.size ≤ b → W7.heap[b]? = w6.heap[b]? := by
    intro b hb
    rw [Z3.out] at hb
    rw [hW7, Below.heap_setCell _ _ _ b (by simp; omega), Below.heap_setCell _ _ _ b (by simp; omega), Below.heap_setCell _ _ _ b (by simp; omega)]
  have z7 : W7.heap.size = w6.heap.size := by rw [hW7, size_setCell, size_setCell, size_setCell]
  rw [← hW7] at B2' ⊢
  clear hW7
  replace o4 := (rOwn (rOwn rIntV)).same (w' := W7) (fun b hb => hsame b hb.1) o4
  replace o6 := (rOwn (rOwn rIntV)).same (w' := W7) (fun b hb => hsame b (by have := hb.1; rw [Z5.out] at this; omega)) o6
  have c0 : W7.cell? ⟨w.heap.size + 1, 0, none⟩ = some (.slice p1 p2 p3) := B2'.cell 0
  have c1 : W7.cell? ⟨w.heap.size + 1, 1, none⟩ = some (.slice q1 q2 q3) := B2'.cell 1
  refine bodyPost_ret (v := .agg #[.slice p1 p2 p3, .slice q1 q2 q3]) (by simp [results, Tryd.results40, go_sem, c0, c1]) rfl ⟨_, _, rfl, ⟨w4.heap.size, ?_, ?_, ?_, ?_⟩, bb7⟩
  · exact bb4.size
  · rw [z7, ← Z5.out]; exact s6
  · exact (rOwn (rOwn rIntV)).mono (fun b hb => ⟨by have := hb.1; rw [Z3.out] at this; omega, hb.2⟩) o4
  · exact (rOwn (rOwn rIntV)).mono (fun b hb => ⟨by have := hb.1; rw [Z5.out] at this; exact this, by rw [z7]; exact hb.2⟩) o6
end Go.Proofs.YtliejhmlcdjpcaaDoor

namespace Go.Proofs.YtliejhmlcdjpcaaDoor
open Go.RowKit

set_option maxHeartbeats 400000 in
theorem PuzzleOk_i (a b : Value) (x y : List (List Int)) (w : World) (h1 : Grid w a x) (h2 : Grid w b y) (hlx : ∀ r ∈ x, r.length ≤ 1048576) (hly : ∀ r ∈ y, r.length ≤ 1048576) :
    Calls Tryd.prog 122 #[.agg #[a, b]] w fun e w' => e = .returned (.bool (puzzleOk x y)) ∧ w' = w.alloc (.cells #[a, b] 56) := by
  obtain ⟨aa, ca, rfl, -⟩ := id h1
  obtain ⟨ab, cb, rfl, -⟩ := id h2
  have hb : ∀ o, Below w.heap.size w (w.alloc o) := fun o => Below.pureAlloc w o
  have Hb := Lib.hid hb; clear hb
  cases hx : inR 1 5 x.length
  · have Hf := Lib.hid (show puzzleOk x y = false from by unfold puzzleOk; rw [hx]; rfl)
    have Hx := Lib.hid hx; clear hx
    go_enter Tryd.func122, Tryd.ntmps122
    go_wp2_with (first | (go_at_call 72; refine (within_c _ _ _ _).mono ?_; rintro e w' ⟨rfl, rfl⟩; rw [Hx.out]))
    go_ret
    exact ⟨retB Hf.out.symm, rfl⟩
  have hxb := (inR_iff.1 hx).2
  have Hx := Lib.hid hx; clear hx
  cases hy : inR 1 5 y.length
  · have Hf := Lib.hid (show puzzleOk x y = false from by unfold puzzleOk; rw [hy]; simp)
    have Hy := Lib.hid hy; clear hy
    go_enter Tryd.func122, Tryd.ntmps122
    go_wp2_with (first | (go_at_call 72; refine (within_c _ _ _ _).mono ?_; rintro e w' ⟨rfl, rfl⟩; (first | rw [Hx.out] | rw [Hy.out])))
    go_ret
    exact ⟨retB Hf.out.symm, rfl⟩
  have hyb := (inR_iff.1 hy).2
  have Hy := Lib.hid hy; clear hy
  go_enter Tryd.func122, Tryd.ntmps122
  go_wp2_with (fail)
  refine (within_c _ _ _ _).mono ?_
  rintro e w' ⟨rfl, rfl⟩
  rw [Hx.out]
  go_wp2_with (fail)
  refine (within_c _ _ _ _).mono ?_
  rintro e w' ⟨rfl, rfl⟩
  rw [Hy.out]
  go_wp2_with (fail)
  refine (runsFit_c _ _ _ _ (h1.keep (Hb.out _)) (by omega) hlx).mono ?_
  rintro e w' ⟨rfl, rfl⟩
  cases hf : x.all (fits y.length)
  · have Hf := Lib.hid (show puzzleOk x y = false from by unfold puzzleOk; rw [hf]; simp)
    go_wp2
    go_ret
    exact ⟨retB Hf.out.symm, rfl⟩
  have Hf := Lib.hid hf; clear hf
  go_wp2_with (fail)
  refine (runsFit_c _ _ _ _ (h2.keep (Hb.out _)) (by omega) hly).mono ?_
  rintro e w' ⟨rfl, rfl⟩
  have Hg := Lib.hid (show puzzleOk x y = y.all (fits x.length) from by unfold puzzleOk; rw [Hx.out, Hy.out, Hf.out]; rfl)
  go_wp2
  go_ret
  exact ⟨retB Hg.out.symm, rfl⟩
set_option maxHeartbeats 800000 in
theorem PuzzleOk_s (a b : Value) (x y : List (List Int)) (w : World) (h1 : Grid w a x) (h2 : Grid w b y) :
    Calls Tryd.prog 118 #[.agg #[a, b]] w fun e w' => e = .returned (.bool (puzzleOk x y)) ∧ w' = w.alloc (.cells #[a, b] 56) := by
  obtain ⟨aa, ca, rfl, -⟩ := id h1
  obtain ⟨ab, cb, rfl, -⟩ := id h2
  have hb : ∀ o, Below w.heap.size w (w.alloc o) := fun o => Below.pureAlloc w o
  have Hb := Lib.hid hb; clear hb
  cases hs : (inR 1 5 x.length && inR 1 5 y.length)
  · have Hf := Lib.hid (show puzzleOk x y = false from by unfold puzzleOk; rw [hs]; rfl)
    have Hs := Lib.hid hs; clear hs
    go_enter Tryd.func118, Tryd.ntmps118
    go_wp2_with (fail)
    refine (l03Size_c _ _ _).mono ?_
    rintro e w' ⟨rfl, rfl⟩
    rw [Hs.out]
    go_wp2
    go_ret
    exact ⟨retB Hf.out.symm, rfl⟩
  have hs' := hs
  rw [Bool.and_eq_true, inR_iff, inR_iff] at hs'
  obtain ⟨⟨hx1, hx5⟩, ⟨hy1, hy5⟩⟩ := hs'
  have Hs := Lib.hid hs; clear hs
  have hx1' : 1 ≤ x.length := by omega
  have hx5' : x.length ≤ 5 := by omega
  have hy1' : 1 ≤ y.length := by omega
  have hy5' : y.length ≤ 5 := by omega
  go_enter Tryd.func118, Tryd.ntmps118
  go_wp2_with (fail)
  refine (l03Size_c _ _ _).mono ?_
  rintro e w' ⟨rfl, rfl⟩
  rw [Hs.out]
  have K1 := h1.keep (Hb.out (.cells #[.slice aa x.length ca, .slice ab y.length cb] 56))
  have K2 := h2.keep (Hb.out (.cells #[.slice aa x.length ca, .slice ab y.length cb] 56))
  have k0 := (Blk.new w #[.slice aa x.length ca, .slice ab y.length cb] 56).cell 0
  have k1 := (Blk.new w #[.slice aa x.length ca, .slice ab y.length cb] 56).cell 1
  obtain ⟨W, hW⟩ : ∃ W, W = w.alloc (.cells #[.slice aa x.length ca, .slice ab y.length cb] 56) := ⟨_, rfl⟩
  rw [← hW] at K1 K2 k0 k1 ⊢
  have k0 : W.cell? ⟨w.heap.size, 0, none⟩ = some (.slice aa x.length ca) := k0
  have k1 : W.cell? ⟨w.heap.size, 1, none⟩ = some (.slice ab y.length cb) := k1
  have HW := Lib.hid hW; clear hW
  have K1 := Lib.hid K1
  have K2 := Lib.hid K2
  go_wp2
  go_loop [4, 18] (fun _ i => ∃ k : Nat, k ≤ x.length ∧ i = .int .i64 k ∧ (x.take k).all (fits y.length) = true) (fun _ i => x.length - (intOf i).toNat)
  case atStart => exact ⟨0, Nat.zero_le _, rfl, rfl⟩
  case round =>
    obtain ⟨k, hk, rfl, hall⟩ := hrel
    have Hall := Lib.hid hall
    clear hall
    by_cases hlt : k < x.length
    · obtain ⟨r, hr⟩ : ∃ r, x[k]? = some r := ⟨_, List.getElem?_eq_getElem hlt⟩
      obtain ⟨bl, off, cpr, he, hbl, -⟩ := K1.out.inv_ne (by omega)
      obtain ⟨rfl, -⟩ : aa = some ⟨bl, off, none⟩ ∧ ca = cpr := by simpa using he
      obtain ⟨u, hck, hu⟩ := Sl.at K1.out hr
      have hu : Ints W u r := hu
      obtain ⟨ar, cpr, rfl, -⟩ := id hu
      have Has := Lib.hid (all_take_step (fits y.length) hr)
      have Hr := Lib.hid hr
      have Hu := Lib.hid hu
      clear hr he hu
      cases hf : fits y.length r
      · have Hf := Lib.hid (show puzzleOk x y = false from by unfold puzzleOk; rw [all_of_take _ Hr.out hf]; simp)
        have Hff := Lib.hid hf; clear hf
        go_wp2_with (first | (go_at_call 149; refine (l14Fits_c _ _ _ _ Hu.out hy1' hy5').mono ?_; rintro e w' ⟨rfl, rfl⟩; rw [Hff.out]))
        go_ret
        exact ⟨retB Hf.out.symm, HW.out⟩
      · have Hff := Lib.hid hf; clear hf
        go_wp2_with (first | (go_at_call 149; refine (l14Fits_c _ _ _ _ Hu.out hy1' hy5').mono ?_; rintro e w' ⟨rfl, rfl⟩; rw [Hff.out]))
        go_round
        case rel => exact ⟨k + 1, by omega, by go_num, by rw [Has.out, Hall.out, Hff.out]; rfl⟩
        case measure => simp [intOf]; omega
    · have hallx : x.all (fits y.length) = true := all_done Hall.out (by omega)
      have Hallx := Lib.hid hallx
      clear hallx
      have hdk : decide ((k : Int) < (x.length : Int)) = false := by simp; omega
      go_wp2
      go_loop [6, 32] (fun _ i => ∃ j : Nat, j ≤ y.length ∧ i = .int .i64 j ∧ (y.take j).all (fits x.length) = true) (fun _ i => y.length - (intOf i).toNat)
      case atStart => exact ⟨0, Nat.zero_le _, rfl, rfl⟩
      case round =>
        obtain ⟨j, hj, rfl, hall2⟩ := hrel
        have Hall2 := Lib.hid hall2
        clear hall2
        by_cases hltj : j < y.length
        · obtain ⟨r, hr⟩ : ∃ r, y[j]? = some r := ⟨_, List.getElem?_eq_getElem hltj⟩
          obtain ⟨bl, off, cpr, he, hbl, -⟩ := K2.out.inv_ne (by omega)
          obtain ⟨rfl, -⟩ : ab = some ⟨bl, off, none⟩ ∧ cb = cpr := by simpa using he
          obtain ⟨u, hck, hu⟩ := Sl.at K2.out hr
          have hu : Ints W u r := hu
          obtain ⟨ar, cpr, rfl, -⟩ := id hu
          have Has := Lib.hid (all_take_step (fits x.length) hr)
          have Hr := Lib.hid hr
          have Hu := Lib.hid hu
          clear hr he hu
          cases hf : fits x.length r
          · have Hf := Lib.hid (show puzzleOk x y = false from by unfold puzzleOk; rw [all_of_take _ Hr.out hf]; simp)
            have Hff := Lib.hid hf; clear hf
            go_wp2_with (first | (go_at_call 149; refine (l14Fits_c _ _ _ _ Hu.out hx1' hx5').mono ?_; rintro e w' ⟨rfl, rfl⟩; rw [Hff.out]))
            go_ret
            exact ⟨retB Hf.out.symm, HW.out⟩
          · have Hff := Lib.hid hf; clear hf
            go_wp2_with (first | (go_at_call 149; refine (l14Fits_c _ _ _ _ Hu.out hx1' hx5').mono ?_; rintro e w' ⟨rfl, rfl⟩; rw [Hff.out]))
            go_round
            case rel => exact ⟨j + 1, by omega, by go_num, by rw [Has.out, Hall2.out, Hff.out]; rfl⟩
            case measure => simp [intOf]; omega
        · have Hf := Lib.hid (show puzzleOk x y = true from by unfold puzzleOk; rw [Hs.out, Hallx.out, all_done Hall2.out (by omega)]; rfl)
          go_wp2
          go_ret
          exact ⟨retB Hf.out.symm, HW.out⟩
end Go.Proofs.YtliejhmlcdjpcaaDoor

namespace Go.Proofs.YtliejhmlcdjpcaaDoor
open Go.RowKit

theorem sum_le_of5 {l : List Nat} {m : Nat} (h : ∀ x ∈ l, x ≤ m) : l.sum ≤ l.length * m := by
  induction l with
  | nil => simp
  | cons a l ih =>
    have h1 := h a (by simp)
    have h2 := ih (fun x hx => h x (by simp [hx]))
    simp only [List.sum_cons, List.length_cons, Nat.succ_mul]
    omega
theorem map_take_snoc' {α β : Type} (f : α → β) {m : List α} {k : Nat} {x : α} (h : m[k]? = some x) : (m.take (k + 1)).map f = (m.take k).map f ++ [f x] := by
  rw [List.take_add_one, h]; simp

set_option maxRecDepth 100000 in
set_option maxHeartbeats 400000 in
theorem runsOfAll_c (v : Value) (m : List (List Int)) (w : World) (hv : Grid w v m) (hm : m.length ≤ 1048576) (hr : ∀ x ∈ m, x.length ≤ 1048576) : Calls Tryd.prog 156 #[v] w (New 24 (Own 3 IntV) w (m.map runsOf)) := by
  have Hv := Lib.hid hv
  obtain ⟨a, cap0, rfl, -⟩ := hv
  go_enter Tryd.func156, Tryd.ntmps156
  go_wp2
  go_loopw [3, 5, 8] (fun v _ i wr => ∃ k : Nat, k ≤ m.length ∧ i = .int .i64 k ∧ Own 24 (Own 3 IntV) (Iv w.heap.size wr.heap.size) wr v ((m.take k).map runsOf) ∧ Below w.heap.size w wr) (fun _ _ i _ => m.length - (intOf i).toNat)
  case atStart => exact ⟨0, Nat.zero_le _, rfl, Own.nil _ _ _ _, Below.refl _ _⟩
  case round =>
    obtain ⟨k, hk, rfl, hown, hbel⟩ := hrel
    obtain ⟨wo, rfl⟩ : ∃ wo : World, wo = wr := ⟨_, rfl⟩
    have hBs := hbel.size
    by_cases hlt : k < m.length
    · obtain ⟨row, hrow⟩ : ∃ row, m[k]? = some row := ⟨_, List.getElem?_eq_getElem hlt⟩
      obtain ⟨b, off, cpr, he, hb, -⟩ := Hv.out.inv_ne (by omega)
      obtain ⟨rfl, -⟩ : a = some ⟨b, off, none⟩ ∧ cap0 = cpr := by simpa using he
      obtain ⟨u, hck, hu⟩ := Sl.at Hv.out hrow
      have hu : Ints w u row := hu
      obtain ⟨br, cpr, rfl, -⟩ := id hu
      rw [← hbel.cell (p := ⟨b, off + k, none⟩) hb] at hck
      have hrl := hr row (List.mem_of_getElem? hrow)
      have Hst := Lib.hid (map_take_snoc' runsOf hrow)
      have Hu := Lib.hid (hu.keep hbel)
      have hkl : ((m.take k).map runsOf).length < 1099511627776 := by simp; omega
      have Hown := Lib.hid hown
      clear hrow hu hown he
      go_wp2_with (fail)
      refine (RunsOf_i _ _ _ Hu.out hrl).mono ?_
      rintro e w1 ⟨v1, rfl, hown1, hbel1⟩
      have hs1 : wo.heap.size ≤ w1.heap.size := hbel1.size
      obtain ⟨p1, p2, p3, rfl⟩ := hown1.shape
      go_wp2_with (first | (at_builtin; (refine wpList_appR rfl _ _ 23 rfl (rOwn rIntV) 24 Tryd.underlying23 infoInts rfl (by decide) w.heap.size wo.heap.size hBs hs1 rfl rfl (by exact Own.keep (rOwn rIntV) Hown.out hbel1 (Nat.le_refl _)) (by exact hown1) hkl ?_); intro v2 w2 hown2 hbel2 _) | fail)
      have hb2 := (hbel.trans (hbel1.mono hBs)).trans hbel2
      have Hown2 := Lib.hid hown2
      clear hown2
      go_wp2
      go_roundw
      case rel => exact ⟨k + 1, by omega, by go_num, by rw [Hst.out]; exact Hown2.out, hb2⟩
      case measure => simp [intOf]; omega
    · have Hfin := Lib.hid (show (m.take k).map runsOf = m.map runsOf from by rw [List.take_of_length_le (by omega)])
      have Hown := Lib.hid hown
      clear hown
      go_wp2
      go_ret
      exact ⟨_, rfl, by rw [← Hfin.out]; exact Hown.out, hbel⟩
set_option maxRecDepth 100000 in
set_option maxHeartbeats 400000 in
theorem l14Runs_c (v : Value) (m : List (List Int)) (w : World) (hv : Grid w v m) (hm : m.length ≤ 1048576) (hr : ∀ x ∈ m, x.length ≤ 1048576) : Calls Tryd.prog 176 #[v] w (New 24 (Own 3 IntV) w (m.map runsOf)) := by
  have Hv := Lib.hid hv
  obtain ⟨a, cap0, rfl, -⟩ := hv
  go_enter Tryd.func176, Tryd.ntmps176
  go_wp2
  go_loopw [3, 5, 9] (fun v _ i wr => ∃ k : Nat, k ≤ m.length ∧ i = .int .i64 k ∧ Own 24 (Own 3 IntV) (Iv w.heap.size wr.heap.size) wr v ((m.take k).map runsOf) ∧ Below w.heap.size w wr) (fun _ _ i _ => m.length - (intOf i).toNat)
  case atStart => exact ⟨0, Nat.zero_le _, rfl, own_lit0 _ _ _ (rOwn rIntV), Below.pureAlloc _ _⟩
  case round =>
    obtain ⟨k, hk, rfl, hown, hbel⟩ := hrel
    obtain ⟨wo, rfl⟩ : ∃ wo : World, wo = wr := ⟨_, rfl⟩
    have hBs := hbel.size
    by_cases hlt : k < m.length
    · obtain ⟨row, hrow⟩ : ∃ row, m[k]? = some row := ⟨_, List.getElem?_eq_getElem hlt⟩
      obtain ⟨b, off, cpr, he, hb, -⟩ := Hv.out.inv_ne (by omega)
      obtain ⟨rfl, -⟩ : a = some ⟨b, off, none⟩ ∧ cap0 = cpr := by simpa using he
      obtain ⟨u, hck, hu⟩ := Sl.at Hv.out hrow
      have hu : Ints w u row := hu
      obtain ⟨br, cpr, rfl, -⟩ := id hu
      rw [← hbel.cell (p := ⟨b, off + k, none⟩) hb] at hck
      have hrl := hr row (List.mem_of_getElem? hrow)
      have Hst := Lib.hid (map_take_snoc' runsOf hrow)
      have Hu := Lib.hid (hu.keep hbel)
      have hkl : ((m.take k).map runsOf).length < 1099511627776 := by simp; omega
      have Hown := Lib.hid hown
      clear hrow hu hown he
      go_wp2_with (fail)
      refine (RunsOf_s _ _ _ Hu.out hrl).mono ?_
      rintro e w1 ⟨v1, rfl, hown1, hbel1⟩
      have hs1 : wo.heap.size ≤ w1.heap.size := hbel1.size
      obtain ⟨p1, p2, p3, rfl⟩ := hown1.shape
      go_wp2_with (first | (at_builtin; (refine wpList_appR rfl _ _ 23 rfl (rOwn rIntV) 24 Tryd.underlying23 infoInts rfl (by decide) w.heap.size wo.heap.size hBs hs1 rfl rfl (by exact Own.keep (rOwn rIntV) Hown.out hbel1 (Nat.le_refl _)) (by exact hown1) hkl ?_); intro v2 w2 hown2 hbel2 _) | fail)
      have hb2 := (hbel.trans (hbel1.mono hBs)).trans hbel2
      have Hown2 := Lib.hid hown2
      clear hown2
      go_wp2
      go_roundw
      case rel => exact ⟨k + 1, by omega, by go_num, by rw [Hst.out]; exact Hown2.out, hb2⟩
      case measure => simp [intOf]; omega
    · have Hfin := Lib.hid (show (m.take k).map runsOf = m.map runsOf from by rw [List.take_of_length_le (by omega)])
      have Hown := Lib.hid hown
      clear hown
      go_wp2
      go_ret
      exact ⟨_, rfl, by rw [← Hfin.out]; exact Hown.out, hbel⟩

def pzRows (m : List (List Int)) : List (List Int) := if imageOk m then m.map runsOf else []
def pzCols (m : List (List Int)) : List (List Int) := if imageOk m then (tr m).map runsOf else []
theorem map_runs_bd {m : List (List Int)} (h : imageOk m = true) : (m.map runsOf).length ≤ 5 ∧ cells (m.map runsOf) ≤ 25 := by
  obtain ⟨r, c, h1, h2, h3, h4, hs⟩ := imageOk_shape h
  refine ⟨by simp [hs.1, h2], ?_⟩
  unfold cells
  have h5 : ∀ x ∈ ((m.map runsOf).map List.length), x ≤ 5 := by
    intro x hx
    simp only [List.map_map, List.mem_map, Function.comp] at hx
    obtain ⟨r', hr, rfl⟩ := hx
    have := runsOf_len r'
    have := (hs.2 r' hr).1
    omega
  have := sum_le_of5 h5
  simp only [List.length_map, hs.1] at this
  omega
theorem pz_bd (m : List (List Int)) : (pzRows m).length ≤ 5 ∧ cells (pzRows m) ≤ 25 ∧ (pzCols m).length ≤ 5 ∧ cells (pzCols m) ≤ 25 := by
  unfold pzRows pzCols
  cases h : imageOk m
  · simp [cells]
  · have h1 := map_runs_bd h
    have h2 := map_runs_bd (imageOk_tr h)
    exact ⟨h1.1, h1.2, h2.1, h2.2⟩
end Go.Proofs.YtliejhmlcdjpcaaDoor

namespace Go.Proofs.YtliejhmlcdjpcaaDoor
open Go.RowKit

def PzRes (w : World) (x y : List (List Int)) (ok : Bool) (e : Ending) (w' : World) : Prop :=
  ∃ a b, e = .returned (.tuple #[.agg #[a, b], .bool ok]) ∧ OwnPz w.heap.size w'.heap.size w' a b x y ∧ Below w.heap.size w w'

set_option maxHeartbeats 800000 in
set_option maxRecDepth 100000 in
theorem PuzzleOf_i (v : Value) (m : List (List Int)) (w : World) (hv : Grid w v m) : Calls Tryd.prog 124 #[v] w (PzRes w (pzRows m) (pzCols m) (imageOk m)) := by
  obtain ⟨a, cap0, rfl, -⟩ := id hv
  have b1 := Below.pureAlloc w (.cells #[.slice none 0 0, .slice none 0 0] 56)
  have B1 := Blk.new w #[.slice none 0 0, .slice none 0 0] 56
  have Hv := Lib.hid (hv.keep b1)
  clear hv
  cases hok : imageOk m
  · have Hr := Lib.hid (show pzRows m = [] from by simp [pzRows, hok])
    have Hc := Lib.hid (show pzCols m = [] from by simp [pzCols, hok])
    have Hok := Lib.hid hok; clear hok B1
    go_enter Tryd.func124, Tryd.ntmps124
    go_wp2_with (fail)
    refine (ImageOk_i _ _ _ Hv.out).mono ?_
    rintro e w' ⟨rfl, rfl⟩
    rw [Hok.out]
    go_wp2
    have z1 : (w.alloc (.cells #[.slice none 0 0, .slice none 0 0] 56)).heap.size = w.heap.size + 1 := by simp
    refine bodyPost_ret (v := .tuple #[.agg #[.slice none 0 0, .slice none 0 0], .bool false]) (by simp [results, Tryd.results124, go_sem]) rfl ⟨_, _, rfl, ⟨w.heap.size, Nat.le_refl _, by rw [z1]; omega, by rw [Hr.out]; exact Own.nil _ _ _ _, by rw [Hc.out]; exact Own.nil _ _ _ _⟩, b1⟩
  · have Hr := Lib.hid (show pzRows m = m.map runsOf from by simp [pzRows, hok])
    have Hc := Lib.hid (show pzCols m = (tr m).map runsOf from by simp [pzCols, hok])
    have Ht := Lib.hid (show trOf m = tr m from by simp [trOf, hok])
    obtain ⟨r, c, hr1, hr5, hc1, hc5, hsh⟩ := imageOk_shape hok
    have hml : m.length ≤ 1048576 := by have := hsh.1; omega
    have hmr : ∀ x ∈ m, x.length ≤ 1048576 := fun x hx => by have := (hsh.2 x hx).1; omega
    have hst := hsh.tr hr1
    have htl : (tr m).length ≤ 1048576 := by have := hst.1; omega
    have htr : ∀ x ∈ tr m, x.length ≤ 1048576 := fun x hx => by have := (hst.2 x hx).1; omega
    have Hmr := Lib.hid hmr
    have Htr := Lib.hid htr
    have Hok := Lib.hid hok; clear hok hmr htr hst hsh
    go_enter Tryd.func124, Tryd.ntmps124
    go_wp2_with (fail)
    refine (ImageOk_i _ _ _ Hv.out).mono ?_
    rintro e w' ⟨rfl, rfl⟩
    rw [Hok.out]
    obtain ⟨W1, hW1⟩ : ∃ W, W = w.alloc (.cells #[.slice none 0 0, .slice none 0 0] 56) := ⟨_, rfl⟩
    have z1 : W1.heap.size = w.heap.size + 1 := by rw [hW1]; simp
    rw [← hW1] at Hv B1 b1 ⊢
    have Z1 := Lib.hid z1
    clear hW1 z1
    go_wp2_with (fail)
    refine (runsOfAll_c _ _ _ Hv.out hml Hmr.out).mono ?_
    rintro e w2 ⟨v2, rfl, o2, b2⟩
    have s2 : W1.heap.size ≤ w2.heap.size := b2.size
    obtain ⟨p1, p2, p3, rfl⟩ := o2.shape
    have bb2 := b1.trans_pure b2 (Nat.le_refl _)
    replace B1 := B1.keep b2
    go_wp2_with (fail)
    refine (TransposeOf_i _ _ _ (Hv.out.keep b2)).mono ?_
    rintro e w3 ⟨v3, rfl, o3, b3⟩
    have s3 : w2.heap.size ≤ w3.heap.size := b3.size
    have bb3 := bb2.trans_pure b3 (Nat.le_refl _)
    replace B1 := B1.keep b3
    replace o2 := Own.keep (rOwn rIntV) o2 b3 (Nat.le_refl _)
    rw [Ht.out] at o3
    go_wp2_with (fail)
    refine (runsOfAll_c _ _ _ o3.grid htl Htr.out).mono ?_
    rintro e w4 ⟨v4, rfl, o4, b4⟩
    have s4 : w3.heap.size ≤ w4.heap.size := b4.size
    obtain ⟨q1, q2, q3, rfl⟩ := o4.shape
    have bb4 := bb3.trans_pure b4 (Nat.le_refl _)
    replace B1 := B1.keep b4
    replace o2 := Own.keep (rOwn rIntV) o2 b4 (by omega)
    have c0 : w4.cell? ⟨w.heap.size, 0, none⟩ = some (.slice none 0 0) := B1.cell 0
    have c1 : w4.cell? ⟨w.heap.size, 1, none⟩ = some (.slice none 0 0) := B1.cell 1
    have f0 := B1.frozen 0
    have f1 := B1.frozen 1
    clear o3
    go_wp2
    obtain ⟨W5, hW5⟩ : ∃ W, W = (w4.setCell ⟨w.heap.size, 0, none⟩ (.slice p1 p2 p3)).setCell ⟨w.heap.size, 1, none⟩ (.slice q1 q2 q3) := ⟨_, rfl⟩
    have B5 := (B1.set (j := 0) (.slice p1 p2 p3)).set (j := 1) (.slice q1 q2 q3)
    have bb5 : Below w.heap.size w W5 := by rw [hW5]; exact (bb4.setCell (by simp) _).setCell (by simp) _
    have hsame : ∀ b, W1.heap.size ≤ b → W5.heap[b]? = w4.heap[b]? := by
      intro b hb
      rw [Z1.out] at hb
      rw [hW5, Below.heap_setCell _ _ _ b (by simp; omega), Below.heap_setCell _ _ _ b (by simp; omega)]
    have z5 : W5.heap.size = w4.heap.size := by rw [hW5, size_setCell, size_setCell]
    rw [← hW5] at B5 ⊢
    clear hW5
    replace o2 := (rOwn (rOwn rIntV)).same (w' := W5) (fun b hb => hsame b hb.1) o2
    replace o4 := (rOwn (rOwn rIntV)).same (w' := W5) (fun b hb => hsame b (by have := hb.1; omega)) o4
    have d0 : W5.cell? ⟨w.heap.size, 0, none⟩ = some (.slice p1 p2 p3) := B5.cell 0
    have d1 : W5.cell? ⟨w.heap.size, 1, none⟩ = some (.slice q1 q2 q3) := B5.cell 1
    have hz1 := Z1.out
    refine bodyPost_ret (v := .tuple #[.agg #[.slice p1 p2 p3, .slice q1 q2 q3], .bool true]) (by simp [results, Tryd.results124, go_sem, d0, d1]) rfl ⟨_, _, rfl, ⟨w3.heap.size, by omega, by omega, ?_, ?_⟩, bb5⟩
    · rw [Hr.out]; exact (rOwn (rOwn rIntV)).mono (fun b hb => ⟨by have := hb.1; omega, by have := hb.2; omega⟩) o2
    · rw [Hc.out]; exact (rOwn (rOwn rIntV)).mono (fun b hb => ⟨hb.1, by have := hb.2; omega⟩) o4
set_option maxHeartbeats 800000 in
set_option maxRecDepth 100000 in
theorem PuzzleOf_s (v : Value) (m : List (List Int)) (w : World) (hv : Grid w v m) : Calls Tryd.prog 150 #[v] w (PzRes w (pzRows m) (pzCols m) (imageOk m)) := by
  obtain ⟨a, cap0, rfl, -⟩ := id hv
  have b1 := Below.pureAlloc w (.cells #[.slice none 0 0, .slice none 0 0] 56)
  have B1 := Blk.new w #[.slice none 0 0, .slice none 0 0] 56
  have Hv := Lib.hid (hv.keep b1)
  clear hv
  cases hok : imageOk m
  · have Hr := Lib.hid (show pzRows m = [] from by simp [pzRows, hok])
    have Hc := Lib.hid (show pzCols m = [] from by simp [pzCols, hok])
    have Hok := Lib.hid hok; clear hok B1
    go_enter Tryd.func150, Tryd.ntmps150
    go_wp2_with (fail)
    refine (ImageOk_s _ _ _ Hv.out).mono ?_
    rintro e w' ⟨rfl, rfl⟩
    rw [Hok.out]
    go_wp2
    have z1 : (w.alloc (.cells #[.slice none 0 0, .slice none 0 0] 56)).heap.size = w.heap.size + 1 := by simp
    refine bodyPost_ret (v := .tuple #[.agg #[.slice none 0 0, .slice none 0 0], .bool false]) (by simp [results, Tryd.results150, go_sem]) rfl ⟨_, _, rfl, ⟨w.heap.size, Nat.le_refl _, by rw [z1]; omega, by rw [Hr.out]; exact Own.nil _ _ _ _, by rw [Hc.out]; exact Own.nil _ _ _ _⟩, b1⟩
  · have Hr := Lib.hid (show pzRows m = m.map runsOf from by simp [pzRows, hok])
    have Hc := Lib.hid (show pzCols m = (tr m).map runsOf from by simp [pzCols, hok])
    have Ht := Lib.hid (show trOf m = tr m from by simp [trOf, hok])
    obtain ⟨r, c, hr1, hr5, hc1, hc5, hsh⟩ := imageOk_shape hok
    have hml : m.length ≤ 1048576 := by have := hsh.1; omega
    have hmr : ∀ x ∈ m, x.length ≤ 1048576 := fun x hx => by have := (hsh.2 x hx).1; omega
    have hst := hsh.tr hr1
    have htl : (tr m).length ≤ 1048576 := by have := hst.1; omega
    have htr : ∀ x ∈ tr m, x.length ≤ 1048576 := fun x hx => by have := (hst.2 x hx).1; omega
    have Hmr := Lib.hid hmr
    have Htr := Lib.hid htr
    have Hok := Lib.hid hok; clear hok hmr htr hst hsh
    go_enter Tryd.func150, Tryd.ntmps150
    go_wp2_with (fail)
    refine (ImageOk_s _ _ _ Hv.out).mono ?_
    rintro e w' ⟨rfl, rfl⟩
    rw [Hok.out]
    obtain ⟨W1, hW1⟩ : ∃ W, W = w.alloc (.cells #[.slice none 0 0, .slice none 0 0] 56) := ⟨_, rfl⟩
    have z1 : W1.heap.size = w.heap.size + 1 := by rw [hW1]; simp
    rw [← hW1] at Hv B1 b1 ⊢
    have Z1 := Lib.hid z1
    clear hW1 z1
    go_wp2_with (fail)
    refine (l14Runs_c _ _ _ Hv.out hml Hmr.out).mono ?_
    rintro e w2 ⟨v2, rfl, o2, b2⟩
    have s2 : W1.heap.size ≤ w2.heap.size := b2.size
    obtain ⟨p1, p2, p3, rfl⟩ := o2.shape
    have bb2 := b1.trans_pure b2 (Nat.le_refl _)
    replace B1 := B1.keep b2
    go_wp2_with (fail)
    refine (TransposeOf_s _ _ _ (Hv.out.keep b2)).mono ?_
    rintro e w3 ⟨v3, rfl, o3, b3⟩
    have s3 : w2.heap.size ≤ w3.heap.size := b3.size
    have bb3 := bb2.trans_pure b3 (Nat.le_refl _)
    replace B1 := B1.keep b3
    replace o2 := Own.keep (rOwn rIntV) o2 b3 (Nat.le_refl _)
    rw [Ht.out] at o3
    go_wp2_with (fail)
    refine (l14Runs_c _ _ _ o3.grid htl Htr.out).mono ?_
    rintro e w4 ⟨v4, rfl, o4, b4⟩
    have s4 : w3.heap.size ≤ w4.heap.size := b4.size
    obtain ⟨q1, q2, q3, rfl⟩ := o4.shape
    have bb4 := bb3.trans_pure b4 (Nat.le_refl _)
    replace B1 := B1.keep b4
    replace o2 := Own.keep (rOwn rIntV) o2 b4 (by omega)
    have c0 : w4.cell? ⟨w.heap.size, 0, none⟩ = some (.slice none 0 0) := B1.cell 0
    have c1 : w4.cell? ⟨w.heap.size, 1, none⟩ = some (.slice none 0 0) := B1.cell 1
    have f0 := B1.frozen 0
    have f1 := B1.frozen 1
    clear o3
    go_wp2
    obtain ⟨W5, hW5⟩ : ∃ W, W = (w4.setCell ⟨w.heap.size, 0, none⟩ (.slice p1 p2 p3)).setCell ⟨w.heap.size, 1, none⟩ (.slice q1 q2 q3) := ⟨_, rfl⟩
    have B5 := (B1.set (j := 0) (.slice p1 p2 p3)).set (j := 1) (.slice q1 q2 q3)
    have bb5 : Below w.heap.size w W5 := by rw [hW5]; exact (bb4.setCell (by simp) _).setCell (by simp) _
    have hsame : ∀ b, W1.heap.size ≤ b → W5.heap[b]? = w4.heap[b]? := by
      intro b hb
      rw [Z1.out] at hb
      rw [hW5, Below.heap_setCell _ _ _ b (by simp; omega), Below.heap_setCell _ _ _ b (by simp; omega)]
    have z5 : W5.heap.size = w4.heap.size := by rw [hW5, size_setCell, size_setCell]
    rw [← hW5] at B5 ⊢
    clear hW5
    replace o2 := (rOwn (rOwn rIntV)).same (w' := W5) (fun b hb => hsame b hb.1) o2
    replace o4 := (rOwn (rOwn rIntV)).same (w' := W5) (fun b hb => hsame b (by have := hb.1; omega)) o4
    have d0 : W5.cell? ⟨w.heap.size, 0, none⟩ = some (.slice p1 p2 p3) := B5.cell 0
    have d1 : W5.cell? ⟨w.heap.size, 1, none⟩ = some (.slice q1 q2 q3) := B5.cell 1
    have hz1 := Z1.out
    refine bodyPost_ret (v := .tuple #[.agg #[.slice p1 p2 p3, .slice q1 q2 q3], .bool true]) (by simp [results, Tryd.results150, go_sem, d0, d1]) rfl ⟨_, _, rfl, ⟨w3.heap.size, by omega, by omega, ?_, ?_⟩, bb5⟩
    · rw [Hr.out]; exact (rOwn (rOwn rIntV)).mono (fun b hb => ⟨by have := hb.1; omega, by have := hb.2; omega⟩) o2
    · rw [Hc.out]; exact (rOwn (rOwn rIntV)).mono (fun b hb => ⟨hb.1, by have := hb.2; omega⟩) o4
end Go.Proofs.YtliejhmlcdjpcaaDoor

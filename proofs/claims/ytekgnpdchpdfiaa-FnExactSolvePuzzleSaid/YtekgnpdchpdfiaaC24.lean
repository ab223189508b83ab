/- Contracts: PuzzleOf; marks of puzzles. -/
import Derived.Test.YtekgnpdchpdfiaaC23
namespace Go.Proofs.Ytekgnpdchpdfiaa
open Go.RowKit

def PzRes (w : World) (x y : List (List Int)) (ok : Bool) (e : Ending) (w' : World) : Prop :=
  ∃ a b, e = .returned (.tuple #[.agg #[a, b], .bool ok]) ∧ OwnPz w.heap.size w'.heap.size w' a b x y ∧ Below w.heap.size w w'

set_option maxHeartbeats 800000 in
set_option maxRecDepth 100000 in
theorem PuzzleOf_i (v : Value) (m : List (List Int)) (w : World) (hv : Grid w v m) : Calls Try.prog 60 #[v] w (PzRes w (pzRows m) (pzCols m) (imageOk m)) := by
  obtain ⟨a, cap0, rfl, -⟩ := id hv
  have b1 := Below.pureAlloc w (.cells #[.slice none 0 0, .slice none 0 0] 28)
  have B1 := Blk.new w #[.slice none 0 0, .slice none 0 0] 28
  have Hv := Lib.hid (hv.keep b1)
  clear hv
  cases hok : imageOk m
  · have Hr := Lib.hid (show pzRows m = [] from by simp [pzRows, hok])
    have Hc := Lib.hid (show pzCols m = [] from by simp [pzCols, hok])
    have Hok := Lib.hid hok; clear hok B1
    go_enter Try.func60, Try.ntmps60
    go_wp2_with (fail)
    refine (ImageOk_i _ _ _ Hv.out).mono ?_
    rintro e w' ⟨rfl, rfl⟩
    rw [Hok.out]
    go_wp2
    have z1 : (w.alloc (.cells #[.slice none 0 0, .slice none 0 0] 28)).heap.size = w.heap.size + 1 := by simp
    refine bodyPost_ret (v := .tuple #[.agg #[.slice none 0 0, .slice none 0 0], .bool false]) (by simp [results, Try.results60, go_sem]) rfl ⟨_, _, rfl, ⟨w.heap.size, Nat.le_refl _, by rw [z1]; omega, by rw [Hr.out]; exact Own.nil _ _ _ _, by rw [Hc.out]; exact Own.nil _ _ _ _⟩, b1⟩
  · have Hr := Lib.hid (show pzRows m = m.map runsOf from by simp [pzRows, hok])
    have Hc := Lib.hid (show pzCols m = (tr m).map runsOf from by simp [pzCols, hok])
    have Ht := Lib.hid (show trOf m = tr m from by simp [trOf, hok])
    obtain ⟨r, c, hr1, hr5, hc1, hc5, hsh⟩ := imageOk_shape hok
    have hml : m.length ≤ 1048576 := by have := hsh.1; omega
    have hmr : ∀ x ∈ m, x.length ≤ 1048576 := fun x hx => by have := (hsh.2 x hx).1; omega
    have hst := hsh.tr hr1
    have htl : (tr m).length ≤ 1048576 := by have := hst.1; omega
    have htr : ∀ x ∈ tr m, x.length ≤ 1048576 := fun x hx => by have := (hst.2 x hx).1; omega
    have Hmr := Lib.hid hmr
    have Htr := Lib.hid htr
    have Hok := Lib.hid hok; clear hok hmr htr hst hsh
    go_enter Try.func60, Try.ntmps60
    go_wp2_with (fail)
    refine (ImageOk_i _ _ _ Hv.out).mono ?_
    rintro e w' ⟨rfl, rfl⟩
    rw [Hok.out]
    obtain ⟨W1, hW1⟩ : ∃ W, W = w.alloc (.cells #[.slice none 0 0, .slice none 0 0] 28) := ⟨_, rfl⟩
    have z1 : W1.heap.size = w.heap.size + 1 := by rw [hW1]; simp
    rw [← hW1] at Hv B1 b1 ⊢
    have Z1 := Lib.hid z1
    clear hW1 z1
    go_wp2_with (fail)
    refine (runsOfAll_c _ _ _ Hv.out hml Hmr.out).mono ?_
    rintro e w2 ⟨v2, rfl, o2, b2⟩
    have s2 : W1.heap.size ≤ w2.heap.size := b2.size
    obtain ⟨p1, p2, p3, rfl⟩ := o2.shape
    have bb2 := b1.trans_pure b2 (Nat.le_refl _)
    replace B1 := B1.keep b2
    go_wp2_with (fail)
    refine (TransposeOf_i _ _ _ (Hv.out.keep b2)).mono ?_
    rintro e w3 ⟨v3, rfl, o3, b3⟩
    have s3 : w2.heap.size ≤ w3.heap.size := b3.size
    have bb3 := bb2.trans_pure b3 (Nat.le_refl _)
    replace B1 := B1.keep b3
    replace o2 := Own.keep (rOwn rIntV) o2 b3 (Nat.le_refl _)
    rw [Ht.out] at o3
    go_wp2_with (fail)
    refine (runsOfAll_c _ _ _ o3.grid htl Htr.out).mono ?_
    rintro e w4 ⟨v4, rfl, o4, b4⟩
    have s4 : w3.heap.size ≤ w4.heap.size := b4.size
    obtain ⟨q1, q2, q3, rfl⟩ := o4.shape
    have bb4 := bb3.trans_pure b4 (Nat.le_refl _)
    replace B1 := B1.keep b4
    replace o2 := Own.keep (rOwn rIntV) o2 b4 (by omega)
    have c0 : w4.cell? ⟨w.heap.size, 0, none⟩ = some (.slice none 0 0) := B1.cell 0
    have c1 : w4.cell? ⟨w.heap.size, 1, none⟩ = some (.slice none 0 0) := B1.cell 1
    have f0 := B1.frozen 0
    have f1 := B1.frozen 1
    clear o3
    go_wp2
    obtain ⟨W5, hW5⟩ : ∃ W, W = (w4.setCell ⟨w.heap.size, 0, none⟩ (.slice p1 p2 p3)).setCell ⟨w.heap.size, 1, none⟩ (.slice q1 q2 q3) := ⟨_, rfl⟩
    have B5 := (B1.set (j := 0) (.slice p1 p2 p3)).set (j := 1) (.slice q1 q2 q3)
    have bb5 : Below w.heap.size w W5 := by rw [hW5]; exact (bb4.setCell (by simp) _).setCell (by simp) _
    have hsame : ∀ b, W1.heap.size ≤ b → W5.heap[b]? = w4.heap[b]? := by
      intro b hb
      rw [Z1.out] at hb
      rw [hW5, Below.heap_setCell _ _ _ b (by simp; omega), Below.heap_setCell _ _ _ b (by simp; omega)]
    have z5 : W5.heap.size = w4.heap.size := by rw [hW5, size_setCell, size_setCell]
    rw [← hW5] at B5 ⊢
    clear hW5
    replace o2 := (rOwn (rOwn rIntV)).same (w' := W5) (fun b hb => hsame b hb.1) o2
    replace o4 := (rOwn (rOwn rIntV)).same (w' := W5) (fun b hb => hsame b (by have := hb.1; omega)) o4
    have d0 : W5.cell? ⟨w.heap.size, 0, none⟩ = some (.slice p1 p2 p3) := B5.cell 0
    have d1 : W5.cell? ⟨w.heap.size, 1, none⟩ = some (.slice q1 q2 q3) := B5.cell 1
    have hz1 := Z1.out
    refine bodyPost_ret (v := .tuple #[.agg #[.slice p1 p2 p3, .slice q1 q2 q3], .bool true]) (by simp [results, Try.results60, go_sem, d0, d1]) rfl ⟨_, _, rfl, ⟨w3.heap.size, by omega, by omega, ?_, ?_⟩, bb5⟩
    · rw [Hr.out]; exact (rOwn (rOwn rIntV)).mono (fun b hb => ⟨by have := hb.1; omega, by have := hb.2; omega⟩) o2
    · rw [Hc.out]; exact (rOwn (rOwn rIntV)).mono (fun b hb => ⟨hb.1, by have := hb.2; omega⟩) o4
set_option maxHeartbeats 800000 in
set_option maxRecDepth 100000 in
theorem PuzzleOf_s (v : Value) (m : List (List Int)) (w : World) (hv : Grid w v m) : Calls Try.prog 98 #[v] w (PzRes w (pzRows m) (pzCols m) (imageOk m)) := by
  obtain ⟨a, cap0, rfl, -⟩ := id hv
  have b1 := Below.pureAlloc w (.cells #[.slice none 0 0, .slice none 0 0] 28)
  have B1 := Blk.new w #[.slice none 0 0, .slice none 0 0] 28
  have Hv := Lib.hid (hv.keep b1)
  clear hv
  cases hok : imageOk m
  · have Hr := Lib.hid (show pzRows m = [] from by simp [pzRows, hok])
    have Hc := Lib.hid (show pzCols m = [] from by simp [pzCols, hok])
    have Hok := Lib.hid hok; clear hok B1
    go_enter Try.func98, Try.ntmps98
    go_wp2_with (fail)
    refine (ImageOk_s _ _ _ Hv.out).mono ?_
    rintro e w' ⟨rfl, rfl⟩
    rw [Hok.out]
    go_wp2
    have z1 : (w.alloc (.cells #[.slice none 0 0, .slice none 0 0] 28)).heap.size = w.heap.size + 1 := by simp
    refine bodyPost_ret (v := .tuple #[.agg #[.slice none 0 0, .slice none 0 0], .bool false]) (by simp [results, Try.results98, go_sem]) rfl ⟨_, _, rfl, ⟨w.heap.size, Nat.le_refl _, by rw [z1]; omega, by rw [Hr.out]; exact Own.nil _ _ _ _, by rw [Hc.out]; exact Own.nil _ _ _ _⟩, b1⟩
  · have Hr := Lib.hid (show pzRows m = m.map runsOf from by simp [pzRows, hok])
    have Hc := Lib.hid (show pzCols m = (tr m).map runsOf from by simp [pzCols, hok])
    have Ht := Lib.hid (show trOf m = tr m from by simp [trOf, hok])
    obtain ⟨r, c, hr1, hr5, hc1, hc5, hsh⟩ := imageOk_shape hok
    have hml : m.length ≤ 1048576 := by have := hsh.1; omega
    have hmr : ∀ x ∈ m, x.length ≤ 1048576 := fun x hx => by have := (hsh.2 x hx).1; omega
    have hst := hsh.tr hr1
    have htl : (tr m).length ≤ 1048576 := by have := hst.1; omega
    have htr : ∀ x ∈ tr m, x.length ≤ 1048576 := fun x hx => by have := (hst.2 x hx).1; omega
    have Hmr := Lib.hid hmr
    have Htr := Lib.hid htr
    have Hok := Lib.hid hok; clear hok hmr htr hst hsh
    go_enter Try.func98, Try.ntmps98
    go_wp2_with (fail)
    refine (ImageOk_s _ _ _ Hv.out).mono ?_
    rintro e w' ⟨rfl, rfl⟩
    rw [Hok.out]
    obtain ⟨W1, hW1⟩ : ∃ W, W = w.alloc (.cells #[.slice none 0 0, .slice none 0 0] 28) := ⟨_, rfl⟩
    have z1 : W1.heap.size = w.heap.size + 1 := by rw [hW1]; simp
    rw [← hW1] at Hv B1 b1 ⊢
    have Z1 := Lib.hid z1
    clear hW1 z1
    go_wp2_with (fail)
    refine (l14Runs_c _ _ _ Hv.out hml Hmr.out).mono ?_
    rintro e w2 ⟨v2, rfl, o2, b2⟩
    have s2 : W1.heap.size ≤ w2.heap.size := b2.size
    obtain ⟨p1, p2, p3, rfl⟩ := o2.shape
    have bb2 := b1.trans_pure b2 (Nat.le_refl _)
    replace B1 := B1.keep b2
    go_wp2_with (fail)
    refine (TransposeOf_s _ _ _ (Hv.out.keep b2)).mono ?_
    rintro e w3 ⟨v3, rfl, o3, b3⟩
    have s3 : w2.heap.size ≤ w3.heap.size := b3.size
    have bb3 := bb2.trans_pure b3 (Nat.le_refl _)
    replace B1 := B1.keep b3
    replace o2 := Own.keep (rOwn rIntV) o2 b3 (Nat.le_refl _)
    rw [Ht.out] at o3
    go_wp2_with (fail)
    refine (l14Runs_c _ _ _ o3.grid htl Htr.out).mono ?_
    rintro e w4 ⟨v4, rfl, o4, b4⟩
    have s4 : w3.heap.size ≤ w4.heap.size := b4.size
    obtain ⟨q1, q2, q3, rfl⟩ := o4.shape
    have bb4 := bb3.trans_pure b4 (Nat.le_refl _)
    replace B1 := B1.keep b4
    replace o2 := Own.keep (rOwn rIntV) o2 b4 (by omega)
    have c0 : w4.cell? ⟨w.heap.size, 0, none⟩ = some (.slice none 0 0) := B1.cell 0
    have c1 : w4.cell? ⟨w.heap.size, 1, none⟩ = some (.slice none 0 0) := B1.cell 1
    have f0 := B1.frozen 0
    have f1 := B1.frozen 1
    clear o3
    go_wp2
    obtain ⟨W5, hW5⟩ : ∃ W, W = (w4.setCell ⟨w.heap.size, 0, none⟩ (.slice p1 p2 p3)).setCell ⟨w.heap.size, 1, none⟩ (.slice q1 q2 q3) := ⟨_, rfl⟩
    have B5 := (B1.set (j := 0) (.slice p1 p2 p3)).set (j := 1) (.slice q1 q2 q3)
    have bb5 : Below w.heap.size w W5 := by rw [hW5]; exact (bb4.setCell (by simp) _).setCell (by simp) _
    have hsame : ∀ b, W1.heap.size ≤ b → W5.heap[b]? = w4.heap[b]? := by
      intro b hb
      rw [Z1.out] at hb
      rw [hW5, Below.heap_setCell _ _ _ b (by simp; omega), Below.heap_setCell _ _ _ b (by simp; omega)]
    have z5 : W5.heap.size = w4.heap.size := by rw [hW5, size_setCell, size_setCell]
    rw [← hW5] at B5 ⊢
    clear hW5
    replace o2 := (rOwn (rOwn rIntV)).same (w' := W5) (fun b hb => hsame b hb.1) o2
    replace o4 := (rOwn (rOwn rIntV)).same (w' := W5) (fun b hb => hsame b (by have := hb.1; omega)) o4
    have d0 : W5.cell? ⟨w.heap.size, 0, none⟩ = some (.slice p1 p2 p3) := B5.cell 0
    have d1 : W5.cell? ⟨w.heap.size, 1, none⟩ = some (.slice q1 q2 q3) := B5.cell 1
    have hz1 := Z1.out
    refine bodyPost_ret (v := .tuple #[.agg #[.slice p1 p2 p3, .slice q1 q2 q3], .bool true]) (by simp [results, Try.results98, go_sem, d0, d1]) rfl ⟨_, _, rfl, ⟨w3.heap.size, by omega, by omega, ?_, ?_⟩, bb5⟩
    · rw [Hr.out]; exact (rOwn (rOwn rIntV)).mono (fun b hb => ⟨by have := hb.1; omega, by have := hb.2; omega⟩) o2
    · rw [Hc.out]; exact (rOwn (rOwn rIntV)).mono (fun b hb => ⟨hb.1, by have := hb.2; omega⟩) o4
def marksPz (k : Int) (x y : List (List Int)) : List (List Int) × List (List Int) := (gmarks k x, gmarks (k + cells x) y)
set_option maxHeartbeats 800000 in
theorem markPuzzle_c (a b : Value) (x y : List (List Int)) (k : Int) (lo hi : Nat) (w : World) (h : OwnPz lo hi w a b x y) (hh : hi ≤ w.heap.size) (h0 : 0 ≤ k) (h1 : k ≤ 1024) (hx : x.length ≤ 1048576) (hcx : k + (cells x : Int) ≤ 1048576) (hy : y.length ≤ 1048576) (hcy : cells y ≤ 1048576) :
    Calls Try.prog 15 #[.agg #[a, b], .int .i64 k] w fun e w' => e = .returned (.int .i64 (k + cells x + cells y)) ∧ OwnPz lo hi w' a b (gmarks k x) (gmarks (k + cells x) y) ∧ Only (Iv lo hi) w w' := by
  obtain ⟨M, hM1, hM2, o1, o2⟩ := h
  obtain ⟨p1, p2, p3, rfl⟩ := o1.shape
  obtain ⟨q1, q2, q3, rfl⟩ := o2.shape
  have b1 := Below.pureAlloc w (.cells #[.slice p1 p2 p3, .slice q1 q2 q3] 28)
  have B1 := Blk.new w #[.slice p1 p2 p3, .slice q1 q2 q3] 28
  go_enter Try.func15, Try.ntmps15
  go_wp2_with (fail)
  obtain ⟨W1, hW1⟩ : ∃ W, W = w.alloc (.cells #[.slice p1 p2 p3, .slice q1 q2 q3] 28) := ⟨_, rfl⟩
  have z1 : W1.heap.size = w.heap.size + 1 := by rw [hW1]; simp
  rw [← hW1] at B1 b1 ⊢
  clear hW1
  replace o1 := Own.keep (rOwn rIntV) o1 b1 (by omega)
  replace o2 := Own.keep (rOwn rIntV) o2 b1 (by omega)
  refine (markIntSS_c _ _ _ _ _ o1 (fun b hb => by have := hb.2; omega) (by omega) (by omega) (by omega) (by omega)).mono ?_
  rintro e w2 ⟨rfl, m1, n1, z2⟩
  have hz2 : w2.heap.size = w.heap.size + 1 := by rw [← z2, z1]
  replace B1 := B1.only n1 (fun hb => by have := hb.2; omega)
  have Z2 := Lib.hid hz2
  clear z1 z2 hz2
  have c1 : w2.cell? ⟨w.heap.size, 1, none⟩ = some (.slice q1 q2 q3) := B1.cell 1
  replace o2 := Own.only (rOwn rIntV) o2 n1 (fun b hb => by have := hb.2; have := b1.size; omega) (fun b hb hc => by have := hb.1; have := hc.2; omega)
  go_wp2_with (fail)
  refine (markIntSS_c _ _ _ _ _ o2 (fun b hb => by have := hb.2; rw [Z2.out]; omega) (by omega) (by omega) (by omega) (by omega)).mono ?_
  rintro e w3 ⟨rfl, m2, n2, z3⟩
  have Z3 := Lib.hid z3
  clear z3
  replace m1 := Own.only (rOwn rIntV) m1 n2 (fun b hb => by have := hb.2; rw [Z2.out]; omega) (fun b hb hc => by have := hb.2; have := hc.1; omega)
  have hall : Only (Iv lo hi) w w3 := ((Only.of_pure b1 (Iv lo hi)).trans' (n1.mono fun b hb _ => .inl ⟨hb.1, by have := hb.2; omega⟩)).trans' (n2.mono fun b hb _ => .inl ⟨by have := hb.1; omega, hb.2⟩)
  go_wp2
  go_ret
  exact ⟨rfl, ⟨M, hM1, hM2, m1, m2⟩, hall⟩
end Go.Proofs.Ytekgnpdchpdfiaa

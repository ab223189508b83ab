/- Contracts: puzzles: PuzzleOk, the comparison and copies of puzzles. Contracts: PuzzleOk. Contracts: PuzzleOf. Contracts: PuzzleOf; marks of puzzles. -/
import Derived.Test.YtlmjpmdkifoekaaDoorC12
import Derived.Test.YtlmjpmdkifoekaaDoorMem
import Derived.Test.YtlmjpmdkifoekaaDoorC1
namespace Go.Proofs.YtlmjpmdkifoekaaDoor
open Go.RowKit

/-- two owned grids, one behind the other -/
def OwnPz (lo hi : Nat) (w : World) (a b : Value) (x y : List (List Int)) : Prop :=
  ∃ M, lo ≤ M ∧ M ≤ hi ∧ Own 24 (Own 3 IntV) (Iv lo M) w a x ∧ Own 24 (Own 3 IntV) (Iv M hi) w b y
theorem OwnPz.keep {lo hi : Nat} {w w' : World} {a b : Value} {x y : List (List Int)} (h : OwnPz lo hi w a b x y) (hb : Below w.heap.size w w') (hh : hi ≤ w.heap.size) : OwnPz lo hi w' a b x y := by
  obtain ⟨M, h1, h2, o1, o2⟩ := h
  exact ⟨M, h1, h2, Own.keep (rOwn rIntV) o1 hb (by omega), Own.keep (rOwn rIntV) o2 hb hh⟩
theorem OwnPz.only {lo hi : Nat} {T : Bk} {w w' : World} {a b : Value} {x y : List (List Int)} (h : OwnPz lo hi w a b x y) (ho : Only T w w') (hh : hi ≤ w.heap.size) (hd : ∀ b, lo ≤ b → b < hi → ¬ T b) : OwnPz lo hi w' a b x y := by
  obtain ⟨M, h1, h2, o1, o2⟩ := h
  exact ⟨M, h1, h2, (rOwn (rOwn rIntV)).same (ho.same (T := Iv lo M) (fun b hb => hd b hb.1 (by have := hb.2; omega)) (fun b hb => by have := hb.2; omega)) o1,
    (rOwn (rOwn rIntV)).same (ho.same (T := Iv M hi) (fun b hb => hd b (by have := hb.1; omega) hb.2) (fun b hb => by have := hb.2; omega)) o2⟩
theorem OwnPz.shape {lo hi : Nat} {w : World} {a b : Value} {x y : List (List Int)} (h : OwnPz lo hi w a b x y) : (∃ p q r, a = .slice p q r) ∧ (∃ p q r, b = .slice p q r) := by
  obtain ⟨M, h1, h2, o1, o2⟩ := h
  exact ⟨o1.shape, o2.shape⟩
theorem OwnPz.reads {lo hi : Nat} {w : World} {a b : Value} {x y : List (List Int)} (h : OwnPz lo hi w a b x y) : Grid w a x ∧ Grid w b y := by
  obtain ⟨M, h1, h2, o1, o2⟩ := h
  exact ⟨o1.grid, o2.grid⟩
theorem OwnPz.wide {lo hi lo' hi' : Nat} {w : World} {a b : Value} {x y : List (List Int)} (h : OwnPz lo hi w a b x y) (h1 : lo' ≤ lo) (h2 : hi ≤ hi') : OwnPz lo' hi' w a b x y := by
  obtain ⟨M, k1, k2, o1, o2⟩ := h
  exact ⟨M, by omega, by omega, (rOwn (rOwn rIntV)).mono (fun b hb => ⟨by have := hb.1; omega, hb.2⟩) o1, (rOwn (rOwn rIntV)).mono (fun b hb => ⟨hb.1, by have := hb.2; omega⟩) o2⟩


end Go.Proofs.YtlmjpmdkifoekaaDoor

namespace Go.Proofs.YtlmjpmdkifoekaaDoor
open Go.RowKit

set_option maxHeartbeats 400000 in
theorem PuzzleOk_i (a b : Value) (x y : List (List Int)) (w : World) (h1 : Grid w a x) (h2 : Grid w b y) (hlx : ∀ r ∈ x, r.length ≤ 1048576) (hly : ∀ r ∈ y, r.length ≤ 1048576) :
    Calls Tryd.prog 24 #[.agg #[a, b]] w fun e w' => e = .returned (.bool (puzzleOk x y)) ∧ w' = w.alloc (.cells #[a, b] 42) := by
  obtain ⟨aa, ca, rfl, -⟩ := id h1
  obtain ⟨ab, cb, rfl, -⟩ := id h2
  have hb : ∀ o, Below w.heap.size w (w.alloc o) := fun o => Below.pureAlloc w o
  have Hb := Lib.hid hb; clear hb
  cases hx : inR 1 5 x.length
  · have Hf := Lib.hid (show puzzleOk x y = false from by unfold puzzleOk; rw [hx]; rfl)
    have Hx := Lib.hid hx; clear hx
    go_enter Tryd.func24, Tryd.ntmps24
    go_wp2_with (first | (go_at_call 69; refine (within_c _ _ _ _).mono ?_; rintro e w' ⟨rfl, rfl⟩; rw [Hx.out]))
    go_ret
    exact ⟨retB Hf.out.symm, rfl⟩
  have hxb := (inR_iff.1 hx).2
  have Hx := Lib.hid hx; clear hx
  cases hy : inR 1 5 y.length
  · have Hf := Lib.hid (show puzzleOk x y = false from by unfold puzzleOk; rw [hy]; simp)
    have Hy := Lib.hid hy; clear hy
    go_enter Tryd.func24, Tryd.ntmps24
    go_wp2_with (first | (go_at_call 69; refine (within_c _ _ _ _).mono ?_; rintro e w' ⟨rfl, rfl⟩; (first | rw [Hx.out] | rw [Hy.out])))
    go_ret
    exact ⟨retB Hf.out.symm, rfl⟩
  have hyb := (inR_iff.1 hy).2
  have Hy := Lib.hid hy; clear hy
  go_enter Tryd.func24, Tryd.ntmps24
  go_wp2_with (fail)
  refine (within_c _ _ _ _).mono ?_
  rintro e w' ⟨rfl, rfl⟩
  rw [Hx.out]
  go_wp2_with (fail)
  refine (within_c _ _ _ _).mono ?_
  rintro e w' ⟨rfl, rfl⟩
  rw [Hy.out]
  go_wp2_with (fail)
  refine (runsFit_c _ _ _ _ (h1.keep (Hb.out _)) (by omega) hlx).mono ?_
  rintro e w' ⟨rfl, rfl⟩
  cases hf : x.all (fits y.length)
  · have Hf := Lib.hid (show puzzleOk x y = false from by unfold puzzleOk; rw [hf]; simp)
    go_wp2
    go_ret
    exact ⟨retB Hf.out.symm, rfl⟩
  have Hf := Lib.hid hf; clear hf
  go_wp2_with (fail)
  refine (runsFit_c _ _ _ _ (h2.keep (Hb.out _)) (by omega) hly).mono ?_
  rintro e w' ⟨rfl, rfl⟩
  have Hg := Lib.hid (show puzzleOk x y = y.all (fits x.length) from by unfold puzzleOk; rw [Hx.out, Hy.out, Hf.out]; rfl)
  go_wp2
  go_ret
  exact ⟨retB Hg.out.symm, rfl⟩
end Go.Proofs.YtlmjpmdkifoekaaDoor

namespace Go.Proofs.YtlmjpmdkifoekaaDoor
open Go.RowKit

theorem sum_le_of5 {l : List Nat} {m : Nat} (h : ∀ x ∈ l, x ≤ m) : l.sum ≤ l.length * m := by
  induction l with
  | nil => simp
  | cons a l ih =>
    have h1 := h a (by simp)
    have h2 := ih (fun x hx => h x (by simp [hx]))
    simp only [List.sum_cons, List.length_cons, Nat.succ_mul]
    omega
theorem map_take_snoc' {α β : Type} (f : α → β) {m : List α} {k : Nat} {x : α} (h : m[k]? = some x) : (m.take (k + 1)).map f = (m.take k).map f ++ [f x] := by
  rw [List.take_add_one, h]; simp

set_option maxRecDepth 100000 in
set_option maxHeartbeats 400000 in
theorem runsOfAll_c (v : Value) (m : List (List Int)) (w : World) (hv : Grid w v m) (hm : m.length ≤ 1048576) (hr : ∀ x ∈ m, x.length ≤ 1048576) : Calls Tryd.prog 62 #[v] w (New 24 (Own 3 IntV) w (m.map runsOf)) := by
  have Hv := Lib.hid hv
  obtain ⟨a, cap0, rfl, -⟩ := hv
  go_enter Tryd.func62, Tryd.ntmps62
  go_wp2
  go_loopw [3, 5, 8] (fun v _ i wr => ∃ k : Nat, k ≤ m.length ∧ i = .int .i64 k ∧ Own 24 (Own 3 IntV) (Iv w.heap.size wr.heap.size) wr v ((m.take k).map runsOf) ∧ Below w.heap.size w wr) (fun _ _ i _ => m.length - (intOf i).toNat)
  case atStart => exact ⟨0, Nat.zero_le _, rfl, Own.nil _ _ _ _, Below.refl _ _⟩
  case round =>
    obtain ⟨k, hk, rfl, hown, hbel⟩ := hrel
    obtain ⟨wo, rfl⟩ : ∃ wo : World, wo = wr := ⟨_, rfl⟩
    have hBs := hbel.size
    by_cases hlt : k < m.length
    · obtain ⟨row, hrow⟩ : ∃ row, m[k]? = some row := ⟨_, List.getElem?_eq_getElem hlt⟩
      obtain ⟨b, off, cpr, he, hb, -⟩ := Hv.out.inv_ne (by omega)
      obtain ⟨rfl, -⟩ : a = some ⟨b, off, none⟩ ∧ cap0 = cpr := by simpa using he
      obtain ⟨u, hck, hu⟩ := Sl.at Hv.out hrow
      have hu : Ints w u row := hu
      obtain ⟨br, cpr, rfl, -⟩ := id hu
      rw [← hbel.cell (p := ⟨b, off + k, none⟩) hb] at hck
      have hrl := hr row (List.mem_of_getElem? hrow)
      have Hst := Lib.hid (map_take_snoc' runsOf hrow)
      have Hu := Lib.hid (hu.keep hbel)
      have hkl : ((m.take k).map runsOf).length < 1099511627776 := by simp; omega
      have Hown := Lib.hid hown
      clear hrow hu hown he
      go_wp2_with (fail)
      refine (RunsOf_i _ _ _ Hu.out hrl).mono ?_
      rintro e w1 ⟨v1, rfl, hown1, hbel1⟩
      have hs1 : wo.heap.size ≤ w1.heap.size := hbel1.size
      obtain ⟨p1, p2, p3, rfl⟩ := hown1.shape
      go_wp2_with (first | (at_builtin; (refine wpList_appR rfl _ _ 23 rfl (rOwn rIntV) 24 Tryd.underlying23 infoInts rfl (by decide) w.heap.size wo.heap.size hBs hs1 rfl rfl (by exact Own.keep (rOwn rIntV) Hown.out hbel1 (Nat.le_refl _)) (by exact hown1) hkl ?_); intro v2 w2 hown2 hbel2 _) | fail)
      have hb2 := (hbel.trans (hbel1.mono hBs)).trans hbel2
      have Hown2 := Lib.hid hown2
      clear hown2
      go_wp2
      go_roundw
      case rel => exact ⟨k + 1, by omega, by go_num, by rw [Hst.out]; exact Hown2.out, hb2⟩
      case measure => simp [intOf]; omega
    · have Hfin := Lib.hid (show (m.take k).map runsOf = m.map runsOf from by rw [List.take_of_length_le (by omega)])
      have Hown := Lib.hid hown
      clear hown
      go_wp2
      go_ret
      exact ⟨_, rfl, by rw [← Hfin.out]; exact Hown.out, hbel⟩

def pzRows (m : List (List Int)) : List (List Int) := if imageOk m then m.map runsOf else []
def pzCols (m : List (List Int)) : List (List Int) := if imageOk m then (tr m).map runsOf else []
theorem map_runs_bd {m : List (List Int)} (h : imageOk m = true) : (m.map runsOf).length ≤ 5 ∧ cells (m.map runsOf) ≤ 25 := by
  obtain ⟨r, c, h1, h2, h3, h4, hs⟩ := imageOk_shape h
  refine ⟨by simp [hs.1, h2], ?_⟩
  unfold cells
  have h5 : ∀ x ∈ ((m.map runsOf).map List.length), x ≤ 5 := by
    intro x hx
    simp only [List.map_map, List.mem_map, Function.comp] at hx
    obtain ⟨r', hr, rfl⟩ := hx
    have := runsOf_len r'
    have := (hs.2 r' hr).1
    omega
  have := sum_le_of5 h5
  simp only [List.length_map, hs.1] at this
  omega
theorem pz_bd (m : List (List Int)) : (pzRows m).length ≤ 5 ∧ cells (pzRows m) ≤ 25 ∧ (pzCols m).length ≤ 5 ∧ cells (pzCols m) ≤ 25 := by
  unfold pzRows pzCols
  cases h : imageOk m
  · simp [cells]
  · have h1 := map_runs_bd h
    have h2 := map_runs_bd (imageOk_tr h)
    exact ⟨h1.1, h1.2, h2.1, h2.2⟩
end Go.Proofs.YtlmjpmdkifoekaaDoor

namespace Go.Proofs.YtlmjpmdkifoekaaDoor
open Go.RowKit

def PzRes (w : World) (x y : List (List Int)) (ok : Bool) (e : Ending) (w' : World) : Prop :=
  ∃ a b, e = .returned (.tuple #[.agg #[a, b], .bool ok]) ∧ OwnPz w.heap.size w'.heap.size w' a b x y ∧ Below w.heap.size w w'

set_option maxHeartbeats 800000 in
set_option maxRecDepth 100000 in
theorem PuzzleOf_i (v : Value) (m : List (List Int)) (w : World) (hv : Grid w v m) : Calls Tryd.prog 21 #[v] w (PzRes w (pzRows m) (pzCols m) (imageOk m)) := by
  obtain ⟨a, cap0, rfl, -⟩ := id hv
  have b1 := Below.pureAlloc w (.cells #[.slice none 0 0, .slice none 0 0] 42)
  have B1 := Blk.new w #[.slice none 0 0, .slice none 0 0] 42
  have Hv := Lib.hid (hv.keep b1)
  clear hv
  cases hok : imageOk m
  · have Hr := Lib.hid (show pzRows m = [] from by simp [pzRows, hok])
    have Hc := Lib.hid (show pzCols m = [] from by simp [pzCols, hok])
    have Hok := Lib.hid hok; clear hok B1
    go_enter Tryd.func21, Tryd.ntmps21
    go_wp2_with (fail)
    refine (ImageOk_i _ _ _ Hv.out).mono ?_
    rintro e w' ⟨rfl, rfl⟩
    rw [Hok.out]
    go_wp2
    have z1 : (w.alloc (.cells #[.slice none 0 0, .slice none 0 0] 42)).heap.size = w.heap.size + 1 := by simp
    refine bodyPost_ret (v := .tuple #[.agg #[.slice none 0 0, .slice none 0 0], .bool false]) (by simp [results, Tryd.results21, go_sem]) rfl ⟨_, _, rfl, ⟨w.heap.size, Nat.le_refl _, by rw [z1]; omega, by rw [Hr.out]; exact Own.nil _ _ _ _, by rw [Hc.out]; exact Own.nil _ _ _ _⟩, b1⟩
  · have Hr := Lib.hid (show pzRows m = m.map runsOf from by simp [pzRows, hok])
    have Hc := Lib.hid (show pzCols m = (tr m).map runsOf from by simp [pzCols, hok])
    have Ht := Lib.hid (show trOf m = tr m from by simp [trOf, hok])
    obtain ⟨r, c, hr1, hr5, hc1, hc5, hsh⟩ := imageOk_shape hok
    have hml : m.length ≤ 1048576 := by have := hsh.1; omega
    have hmr : ∀ x ∈ m, x.length ≤ 1048576 := fun x hx => by have := (hsh.2 x hx).1; omega
    have hst := hsh.tr hr1
    have htl : (tr m).length ≤ 1048576 := by have := hst.1; omega
    have htr : ∀ x ∈ tr m, x.length ≤ 1048576 := fun x hx => by have := (hst.2 x hx).1; omega
    have Hmr := Lib.hid hmr
    have Htr := Lib.hid htr
    have Hok := Lib.hid hok; clear hok hmr htr hst hsh
    go_enter Tryd.func21, Tryd.ntmps21
    go_wp2_with (fail)
    refine (ImageOk_i _ _ _ Hv.out).mono ?_
    rintro e w' ⟨rfl, rfl⟩
    rw [Hok.out]
    obtain ⟨W1, hW1⟩ : ∃ W, W = w.alloc (.cells #[.slice none 0 0, .slice none 0 0] 42) := ⟨_, rfl⟩
    have z1 : W1.heap.size = w.heap.size + 1 := by rw [hW1]; simp
    rw [← hW1] at Hv B1 b1 ⊢
    have Z1 := Lib.hid z1
    clear hW1 z1
    go_wp2_with (fail)
    refine (runsOfAll_c _ _ _ Hv.out hml Hmr.out).mono ?_
    rintro e w2 ⟨v2, rfl, o2, b2⟩
    have s2 : W1.heap.size ≤ w2.heap.size := b2.size
    obtain ⟨p1, p2, p3, rfl⟩ := o2.shape
    have bb2 := b1.trans_pure b2 (Nat.le_refl _)
    replace B1 := B1.keep b2
    go_wp2_with (fail)
    refine (TransposeOf_i _ _ _ (Hv.out.keep b2)).mono ?_
    rintro e w3 ⟨v3, rfl, o3, b3⟩
    have s3 : w2.heap.size ≤ w3.heap.size := b3.size
    have bb3 := bb2.trans_pure b3 (Nat.le_refl _)
    replace B1 := B1.keep b3
    replace o2 := Own.keep (rOwn rIntV) o2 b3 (Nat.le_refl _)
    rw [Ht.out] at o3
    go_wp2_with (fail)
    refine (runsOfAll_c _ _ _ o3.grid htl Htr.out).mono ?_
    rintro e w4 ⟨v4, rfl, o4, b4⟩
    have s4 : w3.heap.size ≤ w4.heap.size := b4.size
    obtain ⟨q1, q2, q3, rfl⟩ := o4.shape
    have bb4 := bb3.trans_pure b4 (Nat.le_refl _)
    replace B1 := B1.keep b4
    replace o2 := Own.keep (rOwn rIntV) o2 b4 (by omega)
    have c0 : w4.cell? ⟨w.heap.size, 0, none⟩ = some (.slice none 0 0) := B1.cell 0
    have c1 : w4.cell? ⟨w.heap.size, 1, none⟩ = some (.slice none 0 0) := B1.cell 1
    have f0 := B1.frozen 0
    have f1 := B1.frozen 1
    clear o3
    go_wp2
    obtain ⟨W5, hW5⟩ : ∃ W, W = (w4.setCell ⟨w.heap.size, 0, none⟩ (.slice p1 p2 p3)).setCell ⟨w.heap.size, 1, none⟩ (.slice q1 q2 q3) := ⟨_, rfl⟩
    have B5 := (B1.set (j := 0) (.slice p1 p2 p3)).set (j := 1) (.slice q1 q2 q3)
    have bb5 : Below w.heap.size w W5 := by rw [hW5]; exact (bb4.setCell (by simp) _).setCell (by simp) _
    have hsame : ∀ b, W1.heap.size ≤ b → W5.heap[b]? = w4.heap[b]? := by
      intro b hb
      rw [Z1.out] at hb
      rw [hW5, Below.heap_setCell _ _ _ b (by simp; omega), Below.heap_setCell _ _ _ b (by simp; omega)]
    have z5 : W5.heap.size = w4.heap.size := by rw [hW5, size_setCell, size_setCell]
    rw [← hW5] at B5 ⊢
    clear hW5
    replace o2 := (rOwn (rOwn rIntV)).same (w' := W5) (fun b hb => hsame b hb.1) o2
    replace o4 := (rOwn (rOwn rIntV)).same (w' := W5) (fun b hb => hsame b (by have := hb.1; omega)) o4
    have d0 : W5.cell? ⟨w.heap.size, 0, none⟩ = some (.slice p1 p2 p3) := B5.cell 0
    have d1 : W5.cell? ⟨w.heap.size, 1, none⟩ = some (.slice q1 q2 q3) := B5.cell 1
    have hz1 := Z1.out
    refine bodyPost_ret (v := .tuple #[.agg #[.slice p1 p2 p3, .slice q1 q2 q3], .bool true]) (by simp [results, Tryd.results21, go_sem, d0, d1]) rfl ⟨_, _, rfl, ⟨w3.heap.size, by omega, by omega, ?_, ?_⟩, bb5⟩
    · rw [Hr.out]; exact (rOwn (rOwn rIntV)).mono (fun b hb => ⟨by have := hb.1; omega, by have := hb.2; omega⟩) o2
    · rw [Hc.out]; exact (rOwn (rOwn rIntV)).mono (fun b hb => ⟨hb.1, by have := hb.2; omega⟩) o4
end Go.Proofs.YtlmjpmdkifoekaaDoor

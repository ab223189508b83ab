/- Contracts and plain laws that the claims on sessions use. No condition of their own. -/
import Derived.Test.YthmocomfjgmjoaaGreatDoorQ02
import Derived.Test.YthmocomfjgmjoaaGreatDoorQ01
import Derived.Test.YthmocomfjgmjoaaGreatDoorQ05
import Derived.Deep.RegionWith
import Derived.Deep.DeepFit
import Derived.Lib.AtoiErrMem
set_option maxHeartbeats 800000
set_option maxRecDepth 100000
namespace Go.Proofs.YthmocomfjgmjoaaGreatDoor
open Go.RowKit
def OwnPz (lo hi : Nat) (w : World) (a b : Value) (x y : List (List Int)) : Prop :=
  ∃ M, lo ≤ M ∧ M ≤ hi ∧ Own 32 (Own 3 IntV) (Iv lo M) w a x ∧ Own 32 (Own 3 IntV) (Iv M hi) w b y
theorem OwnPz.keep {lo hi : Nat} {w w' : World} {a b : Value} {x y : List (List Int)} (h : OwnPz lo hi w a b x y) (hb : Below w.heap.size w w') (hh : hi ≤ w.heap.size) : OwnPz lo hi w' a b x y := by
  obtain ⟨M, h1, h2, o1, o2⟩ := h
  exact ⟨M, h1, h2, Own.keep (rOwn rIntV) o1 hb (by omega), Own.keep (rOwn rIntV) o2 hb hh⟩
theorem OwnPz.only {lo hi : Nat} {T : Bk} {w w' : World} {a b : Value} {x y : List (List Int)} (h : OwnPz lo hi w a b x y) (ho : Only T w w') (hh : hi ≤ w.heap.size) (hd : ∀ b, lo ≤ b → b < hi → ¬ T b) : OwnPz lo hi w' a b x y := by
  obtain ⟨M, h1, h2, o1, o2⟩ := h
  exact ⟨M, h1, h2, (rOwn (rOwn rIntV)).same (ho.same (T := Iv lo M) (fun b hb => hd b hb.1 (by have := hb.2; omega)) (fun b hb => by have := hb.2; omega)) o1,
    (rOwn (rOwn rIntV)).same (ho.same (T := Iv M hi) (fun b hb => hd b (by have := hb.1; omega) hb.2) (fun b hb => by have := hb.2; omega)) o2⟩
theorem OwnPz.shape {lo hi : Nat} {w : World} {a b : Value} {x y : List (List Int)} (h : OwnPz lo hi w a b x y) : (∃ p q r, a = .slice p q r) ∧ (∃ p q r, b = .slice p q r) := by
  obtain ⟨M, h1, h2, o1, o2⟩ := h
  exact ⟨o1.shape, o2.shape⟩
theorem OwnPz.reads {lo hi : Nat} {w : World} {a b : Value} {x y : List (List Int)} (h : OwnPz lo hi w a b x y) : Grid w a x ∧ Grid w b y := by
  obtain ⟨M, h1, h2, o1, o2⟩ := h
  exact ⟨o1.grid, o2.grid⟩
theorem PuzzleOk_i (a b : Value) (x y : List (List Int)) (w : World) (h1 : Grid w a x) (h2 : Grid w b y) (hlx : ∀ r ∈ x, r.length ≤ 1048576) (hly : ∀ r ∈ y, r.length ≤ 1048576) :
    Calls Tryz.prog 176 #[.agg #[a, b]] w fun e w' => e = .returned (.bool (puzzleOk x y)) ∧ w' = w.alloc (.cells #[a, b] 85) := by
  obtain ⟨aa, ca, rfl, -⟩ := id h1
  obtain ⟨ab, cb, rfl, -⟩ := id h2
  have hb : ∀ o, Below w.heap.size w (w.alloc o) := fun o => Below.pureAlloc w o
  have Hb := Lib.hid hb; clear hb
  cases hx : inR 1 5 x.length
  · have Hf := Lib.hid (show puzzleOk x y = false from by unfold puzzleOk; rw [hx]; rfl)
    have Hx := Lib.hid hx; clear hx
    go_enter Tryz.func176, Tryz.ntmps176
    go_wp2_with (first | (go_at_call 95; refine (within_c _ _ _ _).mono ?_; rintro e w' ⟨rfl, rfl⟩; rw [Hx.out]))
    go_ret
    exact ⟨retB Hf.out.symm, rfl⟩
  have hxb := (inR_iff.1 hx).2
  have Hx := Lib.hid hx; clear hx
  cases hy : inR 1 5 y.length
  · have Hf := Lib.hid (show puzzleOk x y = false from by unfold puzzleOk; rw [hy]; simp)
    have Hy := Lib.hid hy; clear hy
    go_enter Tryz.func176, Tryz.ntmps176
    go_wp2_with (first | (go_at_call 95; refine (within_c _ _ _ _).mono ?_; rintro e w' ⟨rfl, rfl⟩; (first | rw [Hx.out] | rw [Hy.out])))
    go_ret
    exact ⟨retB Hf.out.symm, rfl⟩
  have hyb := (inR_iff.1 hy).2
  have Hy := Lib.hid hy; clear hy
  go_enter Tryz.func176, Tryz.ntmps176
  go_wp2_with (fail)
  refine (within_c _ _ _ _).mono ?_
  rintro e w' ⟨rfl, rfl⟩
  rw [Hx.out]
  go_wp2_with (fail)
  refine (within_c _ _ _ _).mono ?_
  rintro e w' ⟨rfl, rfl⟩
  rw [Hy.out]
  go_wp2_with (fail)
  refine (runsFit_c _ _ _ _ (h1.keep (Hb.out _)) (by omega) hlx).mono ?_
  rintro e w' ⟨rfl, rfl⟩
  cases hf : x.all (fits y.length)
  · have Hf := Lib.hid (show puzzleOk x y = false from by unfold puzzleOk; rw [hf]; simp)
    go_wp2
    go_ret
    exact ⟨retB Hf.out.symm, rfl⟩
  have Hf := Lib.hid hf; clear hf
  go_wp2_with (fail)
  refine (runsFit_c _ _ _ _ (h2.keep (Hb.out _)) (by omega) hly).mono ?_
  rintro e w' ⟨rfl, rfl⟩
  have Hg := Lib.hid (show puzzleOk x y = y.all (fits x.length) from by unfold puzzleOk; rw [Hx.out, Hy.out, Hf.out]; rfl)
  go_wp2
  go_ret
  exact ⟨retB Hg.out.symm, rfl⟩
theorem sum_le_of5 {l : List Nat} {m : Nat} (h : ∀ x ∈ l, x ≤ m) : l.sum ≤ l.length * m := by
  induction l with
  | nil => simp
  | cons a l ih =>
    have h1 := h a (by simp)
    have h2 := ih (fun x hx => h x (by simp [hx]))
    simp only [List.sum_cons, List.length_cons, Nat.succ_mul]
    omega
theorem map_take_snoc' {α β : Type} (f : α → β) {m : List α} {k : Nat} {x : α} (h : m[k]? = some x) : (m.take (k + 1)).map f = (m.take k).map f ++ [f x] := by
  rw [List.take_add_one, h]; simp
theorem runsOfAll_c (v : Value) (m : List (List Int)) (w : World) (hv : Grid w v m) (hm : m.length ≤ 1048576) (hr : ∀ x ∈ m, x.length ≤ 1048576) : Calls Tryz.prog 116 #[v] w (New 32 (Own 3 IntV) w (m.map runsOf)) := by
  have Hv := Lib.hid hv
  obtain ⟨a, cap0, rfl, -⟩ := hv
  go_enter Tryz.func116, Tryz.ntmps116
  go_wp2
  go_loopw [3, 5, 8] (fun v _ i wr => ∃ k : Nat, k ≤ m.length ∧ i = .int .i64 k ∧ Own 32 (Own 3 IntV) (Iv w.heap.size wr.heap.size) wr v ((m.take k).map runsOf) ∧ Below w.heap.size w wr) (fun _ _ i _ => m.length - (intOf i).toNat)
  case atStart => exact ⟨0, Nat.zero_le _, rfl, Own.nil _ _ _ _, Below.refl _ _⟩
  case round =>
    obtain ⟨k, hk, rfl, hown, hbel⟩ := hrel
    obtain ⟨wo, rfl⟩ : ∃ wo : World, wo = wr := ⟨_, rfl⟩
    have hBs := hbel.size
    by_cases hlt : k < m.length
    · obtain ⟨row, hrow⟩ : ∃ row, m[k]? = some row := ⟨_, List.getElem?_eq_getElem hlt⟩
      obtain ⟨b, off, cpr, he, hb, -⟩ := Hv.out.inv_ne (by omega)
      obtain ⟨rfl, -⟩ : a = some ⟨b, off, none⟩ ∧ cap0 = cpr := by simpa using he
      obtain ⟨u, hck, hu⟩ := Sl.at Hv.out hrow
      have hu : Ints w u row := hu
      obtain ⟨br, cpr, rfl, -⟩ := id hu
      rw [← hbel.cell (p := ⟨b, off + k, none⟩) hb] at hck
      have hrl := hr row (List.mem_of_getElem? hrow)
      have Hst := Lib.hid (map_take_snoc' runsOf hrow)
      have Hu := Lib.hid (hu.keep hbel)
      have hkl : ((m.take k).map runsOf).length < 1099511627776 := by simp; omega
      have Hown := Lib.hid hown
      clear hrow hu hown he
      go_wp2_with (fail)
      refine (RunsOf_i _ _ _ Hu.out hrl).mono ?_
      rintro e w1 ⟨v1, rfl, hown1, hbel1⟩
      have hs1 : wo.heap.size ≤ w1.heap.size := hbel1.size
      obtain ⟨p1, p2, p3, rfl⟩ := hown1.shape
      go_wp2_with (first | (at_builtin; (refine wpList_appR rfl _ _ 31 rfl (rOwn rIntV) 32 Tryz.underlying31 infoInts rfl (by decide) w.heap.size wo.heap.size hBs hs1 rfl rfl (by exact Own.keep (rOwn rIntV) Hown.out hbel1 (Nat.le_refl _)) (by exact hown1) hkl ?_); intro v2 w2 hown2 hbel2 _) | fail)
      have hb2 := (hbel.trans (hbel1.mono hBs)).trans hbel2
      have Hown2 := Lib.hid hown2
      clear hown2
      go_wp2
      go_roundw
      case rel => exact ⟨k + 1, by omega, by go_num, by rw [Hst.out]; exact Hown2.out, hb2⟩
      case measure => simp [intOf]; omega
    · have Hfin := Lib.hid (show (m.take k).map runsOf = m.map runsOf from by rw [List.take_of_length_le (by omega)])
      have Hown := Lib.hid hown
      clear hown
      go_wp2
      go_ret
      exact ⟨_, rfl, by rw [← Hfin.out]; exact Hown.out, hbel⟩
def pzRows (m : List (List Int)) : List (List Int) := if imageOk m then m.map runsOf else []
def pzCols (m : List (List Int)) : List (List Int) := if imageOk m then (tr m).map runsOf else []
theorem map_runs_bd {m : List (List Int)} (h : imageOk m = true) : (m.map runsOf).length ≤ 5 ∧ cells (m.map runsOf) ≤ 25 := by
  obtain ⟨r, c, h1, h2, h3, h4, hs⟩ := imageOk_shape h
  refine ⟨by simp [hs.1, h2], ?_⟩
  unfold cells
  have h5 : ∀ x ∈ ((m.map runsOf).map List.length), x ≤ 5 := by
    intro x hx
    simp only [List.map_map, List.mem_map, Function.comp] at hx
    obtain ⟨r', hr, rfl⟩ := hx
    have := runsOf_len r'
    have := (hs.2 r' hr).1
    omega
  have := sum_le_of5 h5
  simp only [List.length_map, hs.1] at this
  omega
theorem pz_bd (m : List (List Int)) : (pzRows m).length ≤ 5 ∧ cells (pzRows m) ≤ 25 ∧ (pzCols m).length ≤ 5 ∧ cells (pzCols m) ≤ 25 := by
  unfold pzRows pzCols
  cases h : imageOk m
  · simp [cells]
  · have h1 := map_runs_bd h
    have h2 := map_runs_bd (imageOk_tr h)
    exact ⟨h1.1, h1.2, h2.1, h2.2⟩
def PzRes (w : World) (x y : List (List Int)) (ok : Bool) (e : Ending) (w' : World) : Prop :=
  ∃ a b, e = .returned (.tuple #[.agg #[a, b], .bool ok]) ∧ OwnPz w.heap.size w'.heap.size w' a b x y ∧ Below w.heap.size w w'
theorem PuzzleOf_i (v : Value) (m : List (List Int)) (w : World) (hv : Grid w v m) : Calls Tryz.prog 54 #[v] w (PzRes w (pzRows m) (pzCols m) (imageOk m)) := by
  obtain ⟨a, cap0, rfl, -⟩ := id hv
  have b1 := Below.pureAlloc w (.cells #[.slice none 0 0, .slice none 0 0] 85)
  have B1 := Blk.new w #[.slice none 0 0, .slice none 0 0] 85
  have Hv := Lib.hid (hv.keep b1)
  clear hv
  cases hok : imageOk m
  · have Hr := Lib.hid (show pzRows m = [] from by simp [pzRows, hok])
    have Hc := Lib.hid (show pzCols m = [] from by simp [pzCols, hok])
    have Hok := Lib.hid hok; clear hok B1
    go_enter Tryz.func54, Tryz.ntmps54
    go_wp2_with (fail)
    refine (ImageOk_i _ _ _ Hv.out).mono ?_
    rintro e w' ⟨rfl, rfl⟩
    rw [Hok.out]
    go_wp2
    have z1 : (w.alloc (.cells #[.slice none 0 0, .slice none 0 0] 85)).heap.size = w.heap.size + 1 := by simp
    refine bodyPost_ret (v := .tuple #[.agg #[.slice none 0 0, .slice none 0 0], .bool false]) (by simp [results, Tryz.results54, go_sem]) rfl ⟨_, _, rfl, ⟨w.heap.size, Nat.le_refl _, by rw [z1]; omega, by rw [Hr.out]; exact Own.nil _ _ _ _, by rw [Hc.out]; exact Own.nil _ _ _ _⟩, b1⟩
  · have Hr := Lib.hid (show pzRows m = m.map runsOf from by simp [pzRows, hok])
    have Hc := Lib.hid (show pzCols m = (tr m).map runsOf from by simp [pzCols, hok])
    have Ht := Lib.hid (show trOf m = tr m from by simp [trOf, hok])
    obtain ⟨r, c, hr1, hr5, hc1, hc5, hsh⟩ := imageOk_shape hok
    have hml : m.length ≤ 1048576 := by have := hsh.1; omega
    have hmr : ∀ x ∈ m, x.length ≤ 1048576 := fun x hx => by have := (hsh.2 x hx).1; omega
    have hst := hsh.tr hr1
    have htl : (tr m).length ≤ 1048576 := by have := hst.1; omega
    have htr : ∀ x ∈ tr m, x.length ≤ 1048576 := fun x hx => by have := (hst.2 x hx).1; omega
    have Hmr := Lib.hid hmr
    have Htr := Lib.hid htr
    have Hok := Lib.hid hok; clear hok hmr htr hst hsh
    go_enter Tryz.func54, Tryz.ntmps54
    go_wp2_with (fail)
    refine (ImageOk_i _ _ _ Hv.out).mono ?_
    rintro e w' ⟨rfl, rfl⟩
    rw [Hok.out]
    obtain ⟨W1, hW1⟩ : ∃ W, W = w.alloc (.cells #[.slice none 0 0, .slice none 0 0] 85) := ⟨_, rfl⟩
    have z1 : W1.heap.size = w.heap.size + 1 := by rw [hW1]; simp
    rw [← hW1] at Hv B1 b1 ⊢
    have Z1 := Lib.hid z1
    clear hW1 z1
    go_wp2_with (fail)
    refine (runsOfAll_c _ _ _ Hv.out hml Hmr.out).mono ?_
    rintro e w2 ⟨v2, rfl, o2, b2⟩
    have s2 : W1.heap.size ≤ w2.heap.size := b2.size
    obtain ⟨p1, p2, p3, rfl⟩ := o2.shape
    have bb2 := b1.trans_pure b2 (Nat.le_refl _)
    replace B1 := B1.keep b2
    go_wp2_with (fail)
    refine (TransposeOf_i _ _ _ (Hv.out.keep b2)).mono ?_
    rintro e w3 ⟨v3, rfl, o3, b3⟩
    have s3 : w2.heap.size ≤ w3.heap.size := b3.size
    have bb3 := bb2.trans_pure b3 (Nat.le_refl _)
    replace B1 := B1.keep b3
    replace o2 := Own.keep (rOwn rIntV) o2 b3 (Nat.le_refl _)
    rw [Ht.out] at o3
    go_wp2_with (fail)
    refine (runsOfAll_c _ _ _ o3.grid htl Htr.out).mono ?_
    rintro e w4 ⟨v4, rfl, o4, b4⟩
    have s4 : w3.heap.size ≤ w4.heap.size := b4.size
    obtain ⟨q1, q2, q3, rfl⟩ := o4.shape
    have bb4 := bb3.trans_pure b4 (Nat.le_refl _)
    replace B1 := B1.keep b4
    replace o2 := Own.keep (rOwn rIntV) o2 b4 (by omega)
    have c0 : w4.cell? ⟨w.heap.size, 0, none⟩ = some (.slice none 0 0) := B1.cell 0
    have c1 : w4.cell? ⟨w.heap.size, 1, none⟩ = some (.slice none 0 0) := B1.cell 1
    have f0 := B1.frozen 0
    have f1 := B1.frozen 1
    clear o3
    go_wp2
    obtain ⟨W5, hW5⟩ : ∃ W, W = (w4.setCell ⟨w.heap.size, 0, none⟩ (.slice p1 p2 p3)).setCell ⟨w.heap.size, 1, none⟩ (.slice q1 q2 q3) := ⟨_, rfl⟩
    have B5 := (B1.set (j := 0) (.slice p1 p2 p3)).set (j := 1) (.slice q1 q2 q3)
    have bb5 : Below w.heap.size w W5 := by rw [hW5]; exact (bb4.setCell (by simp) _).setCell (by simp) _
    have hsame : ∀ b, W1.heap.size ≤ b → W5.heap[b]? = w4.heap[b]? := by
      intro b hb
      rw [Z1.out] at hb
      rw [hW5, Below.heap_setCell _ _ _ b (by simp; omega), Below.heap_setCell _ _ _ b (by simp; omega)]
    have z5 : W5.heap.size = w4.heap.size := by rw [hW5, size_setCell, size_setCell]
    rw [← hW5] at B5 ⊢
    clear hW5
    replace o2 := (rOwn (rOwn rIntV)).same (w' := W5) (fun b hb => hsame b hb.1) o2
    replace o4 := (rOwn (rOwn rIntV)).same (w' := W5) (fun b hb => hsame b (by have := hb.1; omega)) o4
    have d0 : W5.cell? ⟨w.heap.size, 0, none⟩ = some (.slice p1 p2 p3) := B5.cell 0
    have d1 : W5.cell? ⟨w.heap.size, 1, none⟩ = some (.slice q1 q2 q3) := B5.cell 1
    have hz1 := Z1.out
    refine bodyPost_ret (v := .tuple #[.agg #[.slice p1 p2 p3, .slice q1 q2 q3], .bool true]) (by simp [results, Tryz.results54, go_sem, d0, d1]) rfl ⟨_, _, rfl, ⟨w3.heap.size, by omega, by omega, ?_, ?_⟩, bb5⟩
    · rw [Hr.out]; exact (rOwn (rOwn rIntV)).mono (fun b hb => ⟨by have := hb.1; omega, by have := hb.2; omega⟩) o2
    · rw [Hc.out]; exact (rOwn (rOwn rIntV)).mono (fun b hb => ⟨hb.1, by have := hb.2; omega⟩) o4
def switchText (x y z u : Int) : ByteArray := intsText ⟨#[58]⟩ [x, y, z, u]
theorem own_lit4 (w : World) (x y z u : Int) (hx : I64 x) (hy : I64 y) (hz : I64 z) (hu : I64 u) (E : TypeId) :
    Ints (w.alloc (.cells #[.int .i64 x, .int .i64 y, .int .i64 z, .int .i64 u] E)) (.slice (some ⟨w.heap.size, 0, none⟩) 4 4) [x, y, z, u] := by
  refine ⟨some ⟨w.heap.size, 0, none⟩, 4, rfl, by simp, by simp, fun h => by simp at h, fun _ => ⟨w.heap.size, 0, rfl, by simp, fun k v hk => ?_⟩⟩
  match k, hk with
  | 0, hk => simp at hk; subst hk; exact ⟨_, by simp, rfl, hx⟩
  | 1, hk => simp at hk; subst hk; exact ⟨_, by simp, rfl, hy⟩
  | 2, hk => simp at hk; subst hk; exact ⟨_, by simp, rfl, hz⟩
  | 3, hk => simp at hk; subst hk; exact ⟨_, by simp, rfl, hu⟩
theorem FormatSwitch_i (x y z u : Int) (hx : I64 x) (hy : I64 y) (hz : I64 z) (hu : I64 u) (w : World) (ht : Tab w) : Calls Tryz.prog 97 #[.agg #[.int .i64 x, .int .i64 y, .int .i64 z, .int .i64 u]] w fun e w' => e = .returned (.string (switchText x y z u)) ∧ Below w.heap.size w w' := by
  have b1 := Below.pureAlloc w (.cells #[.int .i64 x, .int .i64 y, .int .i64 z, .int .i64 u] 65)
  have o := own_lit4 (w.alloc (.cells #[.int .i64 x, .int .i64 y, .int .i64 z, .int .i64 u] 65)) x y z u hx hy hz hu 3
  rw [show (w.alloc (.cells #[.int .i64 x, .int .i64 y, .int .i64 z, .int .i64 u] 65)).heap.size = w.heap.size + 1 from by simp] at o
  have b2 := b1.trans_pure (Below.pureAlloc _ (.cells #[.int .i64 x, .int .i64 y, .int .i64 z, .int .i64 u] 3)) (Nat.le_refl _)
  have T := ht.keep b2
  have H64 : Ints64 [x, y, z, u] := by intro n hn; simp at hn; rcases hn with rfl | rfl | rfl | rfl <;> assumption
  have hbk : bulkB ⟨#[58]⟩ ([x, y, z, u].map fmtInt) ≤ 1099511627776 := by have := ints_bulk (sep := ⟨#[58]⟩) (by decide) H64; simp only [List.length_cons, List.length_nil] at this; omega
  have Hbk := Lib.hid hbk
  have Ho := Lib.hid o
  have HT := Lib.hid T
  clear o T hbk H64
  go_enter Tryz.func97, Tryz.ntmps97
  go_wp2_with (fail)
  refine (texts_c _ _ _ Ho.out (by simp) HT.out).mono ?_
  rintro e w1 ⟨v1, rfl, o1, b3⟩
  have Hst := Lib.hid (strs_of o1)
  have bb := b2.trans_pure b3 (Nat.le_refl _)
  go_wp2_with (fail)
  refine (Join_i _ _ _ _ Hst.out Hbk.out (by simp)).mono ?_
  rintro e w2 ⟨rfl, b4⟩
  have bb2 := bb.trans_pure b4 (Nat.le_refl _)
  go_wp2
  go_ret
  exact ⟨rfl, bb2⟩
def parsed (s : ByteArray) : List (List Int) := (splitB s 47).map rowB
def parseOk (s : ByteArray) : Bool := (splitB s 47).all plainB && imageOk (parsed s)
def parseImg (s : ByteArray) : List (List Int) := if parseOk s then parsed s else []
def ParseRes (w : World) (s : ByteArray) (e : Ending) (w' : World) : Prop :=
  ∃ v', e = .returned (.tuple #[v', .bool (parseOk s)]) ∧ Own 32 (Own 3 IntV) (Iv w.heap.size w'.heap.size) w' v' (parseImg s) ∧ Below w.heap.size w w'
theorem rowB_take {s : ByteArray} {k : Nat} {b : UInt8} (h : s.data.toList[k]? = some b) : (rowB s).take (k + 1) = (rowB s).take k ++ [cellB b] := by
  unfold rowB
  rw [List.take_add_one, List.getElem?_map, h]; rfl
theorem plain_bad {s : ByteArray} {k : Nat} {b : UInt8} (h : s.data.toList[k]? = some b) (h1 : b ≠ 35) (h2 : b ≠ 46) : plainB s = false := by
  unfold plainB
  rw [List.all_eq_false]
  exact ⟨b, List.mem_of_getElem? h, by simp [h1, h2]⟩
theorem plain_step {s : ByteArray} {k : Nat} {b : UInt8} (h : s.data.toList[k]? = some b) (h1 : b = 35 ∨ b = 46) (hp : (s.data.toList.take k).all (fun b => b == 35 || b == 46) = true) : (s.data.toList.take (k + 1)).all (fun b => b == 35 || b == 46) = true := by
  rw [List.take_add_one, h, List.all_append, hp]
  rcases h1 with rfl | rfl <;> rfl
theorem map_rowB_take {ps : List ByteArray} {k : Nat} {p : ByteArray} (h : ps[k]? = some p) : (ps.take (k + 1)).map rowB = (ps.take k).map rowB ++ [rowB p] := by
  rw [List.take_add_one, h]; simp
theorem u8_eq {a b : UInt8} (h : a = b) : ((a.toNat : Int) == (b.toNat : Int)) = true := by rw [h]; simp
theorem u8_ne {a b : UInt8} (h : a ≠ b) : ((a.toNat : Int) == (b.toNat : Int)) = false := by
  rw [beq_eq_false_iff_ne]; intro e; exact h (UInt8.toNat_inj.1 (by omega))
theorem rowB_full (q : ByteArray) : (rowB q).take q.size = rowB q := List.take_of_length_le (by rw [ba_size]; exact Nat.le_of_eq (List.length_map _))
def ParseResN (w : World) (s : ByteArray) (e : Ending) (w' : World) : Prop := ParseRes w s e w' ∧ (parseOk s = false → e = .returned (.tuple #[.slice none 0 0, .bool false]))
theorem ParseImage_in (s : ByteArray) (w : World) (hs : s.size ≤ 1048576) : Calls Tryz.prog 32 #[.string s] w (ParseResN w s) := by
  go_enter Tryz.func32, Tryz.ntmps32
  go_wp2_with (fail)
  refine (SplitAny_i _ _ _ hs).mono ?_
  rintro e w1 ⟨v1, rfl, own1, bel1⟩
  have hps := splitB_len s 47
  have hsz := splitB_part_size s 47
  obtain ⟨ps, hpe⟩ : ∃ ps, ps = splitB s 47 := ⟨_, rfl⟩
  have Hpe := Lib.hid hpe
  rw [← hpe] at own1 hps hsz
  have hst : Strs w1 v1 ps := (rSl rStrV).rd (own1.sl (fun _ _ _ _ h => h) rStrV)
  have Hv := Lib.hid hst
  have hB1 := bel1.size
  have Hsz := Lib.hid hsz
  obtain ⟨a, cap0, rfl, -⟩ := hst
  clear hpe own1 hsz
  go_wp2
  go_loopw [4, 6, 7, 8, 12] (fun v _ _ _ i wr => ∃ k : Nat, k ≤ ps.length ∧ i = .int .i64 k ∧ (ps.take k).all plainB = true ∧ Own 32 (Own 3 IntV) (Iv w1.heap.size wr.heap.size) wr v ((ps.take k).map rowB) ∧ Below w1.heap.size w1 wr) (fun _ _ _ _ i _ => ps.length - (intOf i).toNat)
  case atStart => exact ⟨0, Nat.zero_le _, rfl, rfl, Own.nil _ _ _ _, Below.refl _ _⟩
  case round =>
    obtain ⟨k, hk, rfl, hall, hown, hbel1⟩ := hrel
    obtain ⟨wo, rfl⟩ : ∃ wo : World, wo = wr := ⟨_, rfl⟩
    have hbel := bel1.trans (hbel1.mono hB1)
    have hBs := hbel1.size
    have hBw := hbel.size
    have Hall := Lib.hid hall; clear hall
    by_cases hlt : k < ps.length
    · obtain ⟨q, hq⟩ : ∃ q, ps[k]? = some q := ⟨_, List.getElem?_eq_getElem hlt⟩
      obtain ⟨b, off, cpr, he, hb, -⟩ := Hv.out.inv_ne (by omega)
      obtain ⟨rfl, -⟩ : a = some ⟨b, off, none⟩ ∧ cap0 = cpr := by simpa using he
      obtain ⟨u, hck, rfl, -⟩ := Sl.at Hv.out hq
      rw [← hbel1.cell (p := ⟨b, off + k, none⟩) hb] at hck
      have hqs : q.size ≤ 1048576 := by have := Hsz.out q (List.mem_of_getElem? hq); omega
      have Hst := Lib.hid (map_rowB_take hq)
      have Has := Lib.hid (all_take_step plainB hq)
      have Hq := Lib.hid hq
      have hkl : ((ps.take k).map rowB).length < 1099511627776 := by simp; omega
      have hdk : decide ((k : Int) < (ps.length : Int)) = true := by simp; omega
      obtain ⟨p1, p2, p3, rfl⟩ := hown.shape
      have Hown := Lib.hid hown
      clear hq hown he
      go_wp2
      clear hck
      go_loopw [7, 8] (fun v i wr => ∃ j : Nat, j ≤ q.size ∧ i = .int .i64 j ∧ (q.data.toList.take j).all (fun b => b == 35 || b == 46) = true ∧ Own 3 IntV (Iv wo.heap.size wr.heap.size) wr v ((rowB q).take j) ∧ Below wo.heap.size wo wr) (fun _ i _ => q.size - (intOf i).toNat)
      case atStart => exact ⟨0, Nat.zero_le _, rfl, rfl, Own.nil _ _ _ _, Below.refl _ _⟩
      case round =>
        obtain ⟨j, hj, rfl, hpl, hown3, hbel3⟩ := hrel
        obtain ⟨wi, rfl⟩ : ∃ wi : World, wi = wr := ⟨_, rfl⟩
        have hB3 := hbel3.size
        have Hpl := Lib.hid hpl; clear hpl
        obtain ⟨r1, r2, r3, rfl⟩ := hown3.shape
        have Hown3 := Lib.hid hown3
        have hjl : ((rowB q).take j).length < 1099511627776 := by rw [List.length_take]; omega
        clear hown3
        by_cases hltj : j < q.size
        · have hat := ba_at hltj
          have Hr := Lib.hid (rowB_take hat)
          have Hat := Lib.hid hat
          clear hat
          by_cases h35 : q[j] = 35
          · have Hcell := Lib.hid (show cellB q[j] = 1 from by rw [h35]; rfl)
            have Hpn := Lib.hid (plain_step Hat.out (.inl h35) Hpl.out)
            have heq : ((q[j].toNat : Int) == 35) = true := u8_eq h35
            clear h35
            go_wp2_with (first | (at_builtin; (refine wpList_appR rfl _ _ 32 rfl rIntV 3 Tryz.underlying32 infoInt rfl (by decide) wo.heap.size wi.heap.size hB3 (Nat.le_refl _) rfl rfl (by exact Hown3.out) (by exact ⟨rfl, I64.small (by decide) (by decide)⟩) hjl ?_); intro v4 w4 hown4 hbel4 _) | fail)
            have hb4 := hbel3.trans hbel4
            have Hown4 := Lib.hid hown4
            clear hown4
            go_wp2
            go_roundw
            case rel => exact ⟨j + 1, by omega, by go_num, Hpn.out, by rw [Hr.out, Hcell.out]; exact Hown4.out, hb4⟩
            case measure => simp [intOf]; omega
          · by_cases h46 : q[j] = 46
            · have Hcell := Lib.hid (show cellB q[j] = 0 from by rw [h46]; rfl)
              have Hpn := Lib.hid (plain_step Hat.out (.inr h46) Hpl.out)
              have heq : ((q[j].toNat : Int) == 35) = false := u8_ne h35
              have heq2 : ((q[j].toNat : Int) == 46) = true := u8_eq h46
              clear h46 h35
              go_wp2_with (first | (at_builtin; (refine wpList_appR rfl _ _ 32 rfl rIntV 3 Tryz.underlying32 infoInt rfl (by decide) wo.heap.size wi.heap.size hB3 (Nat.le_refl _) rfl rfl (by exact Hown3.out) (by exact ⟨rfl, I64.small (by decide) (by decide)⟩) hjl ?_); intro v4 w4 hown4 hbel4 _) | fail)
              have hb4 := hbel3.trans hbel4
              have Hown4 := Lib.hid hown4
              clear hown4
              go_wp2
              go_roundw
              case rel => exact ⟨j + 1, by omega, by go_num, Hpn.out, by rw [Hr.out, Hcell.out]; exact Hown4.out, hb4⟩
              case measure => simp [intOf]; omega
            · have heq : ((q[j].toNat : Int) == 35) = false := u8_ne h35
              have heq2 : ((q[j].toNat : Int) == 46) = false := u8_ne h46
              have hbad : (splitB s 47).all plainB = false := by rw [← Hpe.out]; exact all_of_take _ Hq.out (plain_bad Hat.out h35 h46)
              have Hok := Lib.hid (show parseOk s = false from by unfold parseOk; rw [hbad]; rfl)
              have Him := Lib.hid (show parseImg s = [] from by unfold parseImg; rw [Hok.out]; rfl)
              clear h35 h46 hbad
              go_wp2
              have hbf := hbel.trans (hbel3.mono hBw)
              refine bodyPost_ret (v := .tuple #[.slice none 0 0, .bool false]) (by simp [results, Tryz.results32, go_sem]) rfl ⟨⟨_, by rw [Hok.out], by rw [Him.out]; exact Own.nil _ _ _ _, hbf⟩, fun _ => rfl⟩
        · obtain rfl : j = q.size := by omega
          have Hpq := Lib.hid (show plainB q = true from by have := Hpl.out; rw [List.take_of_length_le (Nat.le_of_eq (ba_size q).symm)] at this; exact this)
          have Hrq := Lib.hid (rowB_full q)
          have hbo := hbel1.trans (hbel3.mono hBs)
          go_wp2_with (first | (at_builtin; (refine wpList_appR rfl _ _ 31 rfl (rOwn rIntV) 32 Tryz.underlying31 infoInts rfl (by decide) w1.heap.size wo.heap.size hBs hB3 rfl rfl (by exact Own.keep (rOwn rIntV) Hown.out hbel3 (Nat.le_refl _)) (by exact Hown3.out) hkl ?_); intro v2 w2 hown2 hbel2 _) | fail)
          have hb2 := hbo.trans hbel2
          have Hown2 := Lib.hid hown2
          clear hown2
          go_wp2
          go_roundw
          case rel => exact ⟨k + 1, by omega, by go_num, by rw [Has.out, Hall.out, Hpq.out]; rfl, by rw [Hst.out, ← Hrq.out]; exact Hown2.out, hb2⟩
          case measure => simp [intOf]; omega
    · have Hpa := Lib.hid (show (splitB s 47).all plainB = true from by rw [← Hpe.out]; exact all_done Hall.out (by omega))
      have hfin := hown
      rw [List.take_of_length_le (by omega)] at hfin
      have hpe2 : ps.map rowB = parsed s := by rw [Hpe.out]; rfl
      rw [hpe2] at hfin
      have Hg := Lib.hid (hfin.grid)
      have Hfin := Lib.hid ((rOwn (rOwn rIntV)).mono (S' := Iv w.heap.size wo.heap.size) (fun b hb => ⟨by have := hb.1; omega, hb.2⟩) hfin)
      obtain ⟨p1, p2, p3, rfl⟩ := hown.shape
      clear hown hfin hpe2
      cases hok : imageOk (parsed s)
      · have Hok := Lib.hid hok
        have Hpo := Lib.hid (show parseOk s = false from by unfold parseOk; rw [Hok.out]; simp)
        have Him := Lib.hid (show parseImg s = [] from by unfold parseImg; rw [Hpo.out]; rfl)
        clear hok
        go_wp2_with (fail)
        refine (ImageOk_i _ _ _ Hg.out).mono ?_
        rintro e w' ⟨rfl, rfl⟩
        rw [Hok.out]
        go_wp2
        refine bodyPost_ret (v := .tuple #[.slice none 0 0, .bool false]) (by simp [results, Tryz.results32, go_sem]) rfl ⟨⟨_, by rw [Hpo.out], by rw [Him.out]; exact Own.nil _ _ _ _, hbel⟩, fun _ => rfl⟩
      · have Hok := Lib.hid hok
        have Hpo := Lib.hid (show parseOk s = true from by unfold parseOk; rw [Hok.out, Hpa.out]; rfl)
        have Him := Lib.hid (show parseImg s = parsed s from by unfold parseImg; rw [Hpo.out]; rfl)
        clear hok
        go_wp2_with (fail)
        refine (ImageOk_i _ _ _ Hg.out).mono ?_
        rintro e w' ⟨rfl, rfl⟩
        rw [Hok.out]
        go_wp2
        refine bodyPost_ret (v := .tuple #[.slice p1 p2 p3, .bool true]) (by simp [results, Tryz.results32, go_sem]) rfl ⟨⟨_, by rw [Hpo.out], by rw [Him.out]; exact Hfin.out, hbel⟩, fun hz => by rw [Hpo.out] at hz; cases hz⟩
theorem ParseImage_i (s : ByteArray) (w : World) (hs : s.size ≤ 1048576) : Calls Tryz.prog 32 #[.string s] w (ParseRes w s) := (ParseImage_in s w hs).mono fun _ _ h => h.1
theorem ba_neq' {a b : ByteArray} (h : a ≠ b) : (a.toList == b.toList) = false := by
  rw [beq_eq_false_iff_ne]; exact fun e => h (ba_ext (by rw [ByteArray.toList_eq, ByteArray.toList_eq] at e; exact e))
def negB (s : ByteArray) : Bool := s.data.toList.head? == some 45
def bodyB (s : ByteArray) : ByteArray := if negB s then s.extract 1 s.size else s
theorem num_facts {s : ByteArray} {n : Int} (h : parseI s = some n) : IsNum s n ∧ (negB s = true ↔ n < 0) ∧ decV (bodyB s).data.toList = n.natAbs ∧ (bodyB s).data.toList.all digB = true ∧ 0 < (bodyB s).size ∧ (bodyB s).size ≤ 19 := by
  have k := parseI_num h
  refine ⟨k, ?_⟩
  rcases Int.lt_or_le n 0 with h0 | h0
  · obtain ⟨l, hl, a, b, c, d⟩ := k.neg h0
    have hn : negB s = true := by unfold negB; rw [hl]; rfl
    have hb : (bodyB s).data.toList = l := by
      unfold bodyB
      rw [if_pos hn, ba_extract, hl, ba_size, hl]
      simp
    rw [ba_size, hb]
    exact ⟨⟨fun _ => h0, fun _ => hn⟩, a, b, c, d⟩
  · obtain ⟨a, b, c, d⟩ := k.pos h0
    have hn : negB s = false := by
      unfold negB
      cases hl : s.data.toList with
      | nil => rfl
      | cons x l =>
        rw [hl] at b
        rw [List.all_cons, Bool.and_eq_true] at b
        have := digB_iff.1 b.1
        rw [List.head?_cons, beq_eq_false_iff_ne]
        intro e
        injection e with e
        subst e
        simp at this
    have hb : bodyB s = s := by unfold bodyB; rw [hn]; rfl
    rw [hb]
    exact ⟨⟨fun h => absurd (hn.symm.trans h) (by decide), fun h => absurd h (by omega)⟩, a, b, c, d⟩
theorem parse_none_of {s : ByteArray} (h : ∀ n, parseI s = some n → False) : parseI s = none := by
  cases hp : parseI s with
  | none => rfl
  | some n => exact (h n hp).elim
noncomputable def parseVal (s : ByteArray) : Int := (parseI s).getD 0
noncomputable def parseYes (s : ByteArray) : Bool := (parseI s).isSome
theorem parse_no {s : ByteArray} (h : parseI s = none) : parseVal s = 0 ∧ parseYes s = false := by unfold parseVal parseYes; rw [h]; exact ⟨rfl, rfl⟩
theorem parse_yes {s : ByteArray} {n : Int} (h : parseI s = some n) : parseVal s = n ∧ parseYes s = true := by unfold parseVal parseYes; rw [h]; exact ⟨rfl, rfl⟩
def PNum (w : World) (s : ByteArray) (e : Ending) (w' : World) : Prop := e = .returned (.tuple #[.int .i64 (parseVal s), .bool (parseYes s)]) ∧ Below w.heap.size w w'
theorem atoi_I64 {l : List UInt8} {v : Int} (h : Lib.atoiAll l = .ok v) : I64 v := by
  unfold Lib.atoiAll at h
  split at h
  · cases h
  · rename_i c r
    simp only at h
    split at h
    · cases h
    · cases h
    · rename_i u hu
      split at h
      · cases h
      · split at h
        · cases h
        · rename_i h1 h2
          injection h with h
          by_cases hn : c.toNat = 45
          · simp only [hn, if_true] at h; simp [hn] at h1 h2; subst h; exact ⟨by omega, by omega⟩
          · simp only [hn, if_false] at h; simp [hn] at h1 h2; subst h; exact ⟨by omega, by omega⟩
def Errs (w : World) : Prop := (∃ te pe, w.cell? ⟨2, 0, none⟩ = some (.iface te pe)) ∧ (∃ te pe, w.cell? ⟨3, 0, none⟩ = some (.iface te pe))
theorem Errs.keep {w w' : World} (h : Errs w) (hb : Below w.heap.size w w') : Errs w' := by
  obtain ⟨⟨a, b, h1⟩, ⟨c, d, h2⟩⟩ := h
  exact ⟨⟨a, b, (hb.cell (block_lt_of_cell h1)).trans h1⟩, ⟨c, d, (hb.cell (block_lt_of_cell h2)).trans h2⟩⟩
def TabE (w : World) : Prop := Tab w ∧ Errs w
theorem TabE.keep {w w' : World} (h : TabE w) (hb : Below w.heap.size w w') : TabE w' := ⟨h.1.keep hb, h.2.keep hb⟩
theorem below_bytes {w w' : World} {e : TypeId} (h : w' = w ∨ ∃ t, w' = Lib.bytesWorld w e t) : Below w.heap.size w w' := by
  rcases h with rfl | ⟨t, rfl⟩
  · exact Below.refl _ _
  · exact Lib.bytesWorld_below _ _ _
theorem ParseInt_i (s : ByteArray) (w : World) (hs : s.size ≤ 1048576) (ht : TabE w) : Calls Tryz.prog 31 #[.string s] w (PNum w s) := by
  obtain ⟨hT, ⟨te, pe, he1⟩, ⟨te2, pe2, he2⟩⟩ := ht
  have HT := Lib.hid hT
  cases ha : Lib.atoiAll s.data.toList with
  | ok v =>
    have hI := atoi_I64 ha
    have Ha := Lib.hid ha
    clear ha he1 he2 hT
    go_enter Tryz.func31, Tryz.ntmps31
    go_wp2_with (fail)
    refine (Tryz.strconv_Atoi_ok s (by omega) v Ha.out w).mono ?_
    rintro e w1 ⟨rfl, hw⟩
    have b1 := below_bytes hw
    clear hw
    go_wp2_with (fail)
    refine (FormatInt_i v hI _ (HT.out.keep b1)).mono ?_
    rintro e w2 ⟨rfl, b2⟩
    have bb := b1.trans_pure b2 (Nat.le_refl _)
    by_cases hf : fmtInt v = s
    · obtain ⟨r1, r2⟩ := parse_yes (parseI_some (s := s) (n := v) ⟨hI.out, hf⟩)
      have Hr := Lib.hid (show PNum w s (.returned (.tuple #[.int .i64 v, .bool true])) w2 from ⟨by rw [r1, r2], bb⟩)
      clear r1 r2
      rw [hf]
      clear hf
      go_wp2
      refine bodyPost_ret (v := .tuple #[.int .i64 v, .bool true]) (by simp [results, Tryz.results31, go_sem]) rfl Hr.out
    · have hp := parse_none_of (s := s) (fun n h => by
        have h2 := parseI_atoi h
        rw [Ha.out] at h2
        injection h2 with h2
        exact hf (by rw [h2]; exact (parseI_num h).2))
      obtain ⟨r1, r2⟩ := parse_no hp
      have Hr := Lib.hid (show PNum w s (.returned (.tuple #[.int .i64 0, .bool false])) w2 from ⟨by rw [r1, r2], bb⟩)
      have hne := ba_neq' hf
      clear r1 r2 hf
      go_wp2
      refine bodyPost_ret (v := .tuple #[.int .i64 0, .bool false]) (by simp [results, Tryz.results31, go_sem]) rfl Hr.out
  | «syntax» =>
    have hp := parse_none_of (s := s) (fun n h => by have h2 := parseI_atoi h; rw [ha] at h2; cases h2)
    obtain ⟨r1, r2⟩ := parse_no hp
    have Hr := Lib.hid (fun w2 (bb : Below w.heap.size w w2) => show PNum w s (.returned (.tuple #[.int .i64 0, .bool false])) w2 from ⟨by rw [r1, r2], bb⟩)
    have Ha := Lib.hid ha
    clear ha hT r1 r2 he2
    have He := Lib.hid he1
    clear he1
    go_enter Tryz.func31, Tryz.ntmps31
    go_wp2_with (fail)
    refine (Tryz.strconv_Atoi_syntax s (by omega) Ha.out _ w He.out (.inr ⟨te, pe, rfl⟩)).mono ?_
    rintro e w1 ⟨N, rfl, -, -, b1⟩
    go_wp2
    refine bodyPost_ret (v := .tuple #[.int .i64 0, .bool false]) (by simp [results, Tryz.results31, go_sem]) rfl (Hr.out _ b1)
  | range =>
    have hp := parse_none_of (s := s) (fun n h => by have h2 := parseI_atoi h; rw [ha] at h2; cases h2)
    obtain ⟨r1, r2⟩ := parse_no hp
    have Hr := Lib.hid (fun w2 (bb : Below w.heap.size w w2) => show PNum w s (.returned (.tuple #[.int .i64 0, .bool false])) w2 from ⟨by rw [r1, r2], bb⟩)
    have Ha := Lib.hid ha
    clear ha hT r1 r2 he1
    have He := Lib.hid he2
    clear he2
    go_enter Tryz.func31, Tryz.ntmps31
    go_wp2_with (fail)
    refine (Tryz.strconv_Atoi_range s (by omega) Ha.out _ w He.out (.inr ⟨te2, pe2, rfl⟩)).mono ?_
    rintro e w1 ⟨N, rfl, -, -, b1⟩
    go_wp2
    refine bodyPost_ret (v := .tuple #[.int .i64 0, .bool false]) (by simp [results, Tryz.results31, go_sem]) rfl (Hr.out _ b1)
theorem parse_text {p : ByteArray} (h : parseYes p = true) : fmtInt (parseVal p) = p ∧ I64 (parseVal p) := by
  unfold parseYes parseVal at *
  cases hp : parseI p with
  | none => rw [hp] at h; cases h
  | some n => have k := parseI_num hp; exact ⟨k.2, k.1⟩
noncomputable def sumsParts (s : ByteArray) : List Int := (splitB s 44).map parseVal
noncomputable def sumsYes (s : ByteArray) : Bool := decide (s = ⟨#[45]⟩) || (splitB s 44).all parseYes
noncomputable def sumsVal (s : ByteArray) : List Int := if s = ⟨#[45]⟩ then [] else if (splitB s 44).all parseYes then sumsParts s else []
def SumsRes (w : World) (s : ByteArray) (e : Ending) (w' : World) : Prop :=
  ∃ v', e = .returned (.tuple #[v', .bool (sumsYes s)]) ∧ Own 3 IntV (Iv w.heap.size w'.heap.size) w' v' (sumsVal s) ∧ Below w.heap.size w w'
theorem dash_split : parseI (⟨#[45]⟩ : ByteArray) = none := by
  apply parse_none_of
  intro n h
  obtain ⟨k, k2, a, b, c, d⟩ := num_facts h
  have hn : negB ⟨#[45]⟩ = true := by decide
  have hb : bodyB ⟨#[45]⟩ = (⟨#[45]⟩ : ByteArray).extract 1 1 := by unfold bodyB; rw [hn]; rfl
  rw [hb] at c
  exact absurd c (by decide)
theorem map_take_V {ps : List ByteArray} {k : Nat} {p : ByteArray} (h : ps[k]? = some p) : (ps.take (k + 1)).map parseVal = (ps.take k).map parseVal ++ [parseVal p] := by
  rw [List.take_add_one, h]; simp
theorem all_take_stepP (f : ByteArray → Bool) {l : List ByteArray} {k : Nat} {x : ByteArray} (h : l[k]? = some x) : (l.take (k + 1)).all f = ((l.take k).all f && f x) := by
  rw [List.take_add_one, h, List.all_append]; simp
theorem ParseSums_i (s : ByteArray) (w : World) (hs : s.size ≤ 1048576) (ht : TabE w) : Calls Tryz.prog 35 #[.string s] w (SumsRes w s) := by
  by_cases hdash : s = ⟨#[45]⟩
  · subst hdash
    have Hy := Lib.hid (show sumsYes ⟨#[45]⟩ = true from by unfold sumsYes; simp)
    have Hv := Lib.hid (show sumsVal ⟨#[45]⟩ = [] from by unfold sumsVal; rw [if_pos rfl])
    go_enter Tryz.func35, Tryz.ntmps35
    go_wp2
    refine bodyPost_ret (v := .tuple #[.slice none 0 0, .bool true]) (by simp [results, Tryz.results35, go_sem]) rfl ⟨_, by rw [Hy.out], by rw [Hv.out]; exact Own.nil _ _ _ _, Below.refl _ _⟩
  have hne := ba_neq' hdash
  rw [show (⟨#[45]⟩ : ByteArray).toList = [45] from by rw [ByteArray.toList_eq]] at hne
  have hnd : decide (s = ⟨#[45]⟩) = false := by simpa using hdash
  have Hyes := Lib.hid (show sumsYes s = (splitB s 44).all parseYes from by unfold sumsYes; rw [hnd, Bool.false_or])
  have Hval := Lib.hid (show sumsVal s = if (splitB s 44).all parseYes then sumsParts s else [] from by unfold sumsVal; rw [if_neg hdash])
  have Ht := Lib.hid ht
  clear hdash hnd ht
  go_enter Tryz.func35, Tryz.ntmps35
  go_wp2_with (fail)
  refine (SplitAny_i _ _ _ hs).mono ?_
  rintro e w1 ⟨v1, rfl, own1, bel1⟩
  have hps := splitB_len s 44
  have hsz := splitB_part_size s 44
  obtain ⟨ps, hpe⟩ : ∃ ps, ps = splitB s 44 := ⟨_, rfl⟩
  have Hpe := Lib.hid hpe
  rw [← hpe] at own1 hps hsz
  have hst : Strs w1 v1 ps := (rSl rStrV).rd (own1.sl (fun _ _ _ _ h => h) rStrV)
  have Hv := Lib.hid hst
  have hB1 := bel1.size
  have Hsz := Lib.hid hsz
  obtain ⟨a, cap0, rfl, -⟩ := hst
  clear hpe own1 hsz hne
  go_wp2
  go_loopw [4, 6, 7, 8, 14] (fun v _ _ _ i wr => ∃ k : Nat, k ≤ ps.length ∧ i = .int .i64 k ∧ (ps.take k).all parseYes = true ∧ Own 3 IntV (Iv w1.heap.size wr.heap.size) wr v ((ps.take k).map parseVal) ∧ Below w1.heap.size w1 wr) (fun _ _ _ _ i _ => ps.length - (intOf i).toNat)
  case atStart => exact ⟨0, Nat.zero_le _, rfl, rfl, Own.nil _ _ _ _, Below.refl _ _⟩
  case round =>
    obtain ⟨k, hk, rfl, hall, hown, hbel1⟩ := hrel
    obtain ⟨wo, rfl⟩ : ∃ wo : World, wo = wr := ⟨_, rfl⟩
    have hbel := bel1.trans (hbel1.mono hB1)
    have hBs := hbel1.size
    have hBw := hbel.size
    have Hall := Lib.hid hall; clear hall
    by_cases hlt : k < ps.length
    · obtain ⟨q, hq⟩ : ∃ q, ps[k]? = some q := ⟨_, List.getElem?_eq_getElem hlt⟩
      obtain ⟨b, off, cpr, he, hb, -⟩ := Hv.out.inv_ne (by omega)
      obtain ⟨rfl, -⟩ : a = some ⟨b, off, none⟩ ∧ cap0 = cpr := by simpa using he
      obtain ⟨u, hck, rfl, -⟩ := Sl.at Hv.out hq
      rw [← hbel1.cell (p := ⟨b, off + k, none⟩) hb] at hck
      have hqs : q.size ≤ 1048576 := by have := Hsz.out q (List.mem_of_getElem? hq); omega
      have Hst := Lib.hid (map_take_V hq)
      have Has := Lib.hid (all_take_stepP parseYes hq)
      have Hq := Lib.hid hq
      have hkl : ((ps.take k).map parseVal).length < 1099511627776 := by simp; omega
      have hdk : decide ((k : Int) < (ps.length : Int)) = true := by simp; omega
      obtain ⟨p1, p2, p3, rfl⟩ := hown.shape
      have Hown := Lib.hid hown
      clear hq hown he
      go_wp2_with (fail)
      refine (ParseInt_i _ _ hqs (Ht.out.keep hbel)).mono ?_
      rintro e w2 ⟨rfl, b2⟩
      have hs2 := b2.size
      cases hy : parseYes q
      · have Hbad := Lib.hid (show (splitB s 44).all parseYes = false from by rw [← Hpe.out, List.all_eq_false]; exact ⟨q, List.mem_of_getElem? Hq.out, by simp [hy]⟩)
        have Hy := Lib.hid (show sumsYes s = false from by rw [Hyes.out, Hbad.out])
        have Hvv := Lib.hid (show sumsVal s = [] from by rw [Hval.out, Hbad.out]; rfl)
        have hbf := hbel.trans (b2.mono hBw)
        clear hy
        go_wp2
        refine bodyPost_ret (v := .tuple #[.slice none 0 0, .bool false]) (by simp [results, Tryz.results35, go_sem]) rfl ⟨_, by rw [Hy.out], by rw [Hvv.out]; exact Own.nil _ _ _ _, hbf⟩
      · have Hy := Lib.hid hy
        have hI := (parse_text hy).2
        have hbo := hbel1.trans (b2.mono hBs)
        clear hy
        go_wp2_with (first | (at_builtin; (refine wpList_appR rfl _ _ 32 rfl rIntV 3 Tryz.underlying32 infoInt rfl (by decide) w1.heap.size wo.heap.size hBs hs2 rfl rfl (by exact Own.keep rIntV Hown.out b2 (Nat.le_refl _)) (by exact ⟨rfl, hI⟩) hkl ?_); intro v3 w3 hown3 hbel3 _) | fail)
        have hb3 := hbo.trans hbel3
        have Hown3 := Lib.hid hown3
        clear hown3
        go_wp2
        go_roundw
        case rel => exact ⟨k + 1, by omega, by go_num, by rw [Has.out, Hall.out, Hy.out]; rfl, by rw [Hst.out]; exact Hown3.out, hb3⟩
        case measure => simp [intOf]; omega
    · have Hpa := Lib.hid (show (splitB s 44).all parseYes = true from by rw [← Hpe.out]; have h := Hall.out; rwa [List.take_of_length_le (by omega)] at h)
      have Hy := Lib.hid (show sumsYes s = true from by rw [Hyes.out, Hpa.out])
      have Hvv := Lib.hid (show sumsVal s = ps.map parseVal from by rw [Hval.out, Hpa.out, Hpe.out]; rfl)
      have hfin := hown
      rw [List.take_of_length_le (by omega)] at hfin
      obtain ⟨p1, p2, p3, rfl⟩ := hown.shape
      have Hfin := Lib.hid ((rOwn rIntV).mono (S' := Iv w.heap.size wo.heap.size) (fun b hb => ⟨by have := hb.1; omega, hb.2⟩) hfin)
      clear hown hfin
      go_wp2
      refine bodyPost_ret (v := .tuple #[.slice p1 p2 p3, .bool true]) (by simp [results, Tryz.results35, go_sem]) rfl ⟨_, by rw [Hy.out], by rw [Hvv.out]; exact Hfin.out, hbel⟩
end Go.Proofs.YthmocomfjgmjoaaGreatDoor
namespace Go.Proofs.YthmocomfjgmjoaaGreatDoor
theorem head_uniq {b : UInt8} {x y s t : List UInt8} (hx : b ∉ x) (hy : b ∉ y) (hs : s = [] ∨ ∃ s', s = b :: s') (ht : t = [] ∨ ∃ t', t = b :: t') (h : x ++ s = y ++ t) : x = y ∧ s = t := by
  induction x generalizing y with
  | nil =>
    cases y with
    | nil => exact ⟨rfl, by simpa using h⟩
    | cons c y =>
      rcases hs with rfl | ⟨s', rfl⟩
      · simp at h
      · simp at h; obtain ⟨rfl, -⟩ := h; exact absurd (List.mem_cons_self ..) hy
  | cons c x ih =>
    cases y with
    | nil =>
      rcases ht with rfl | ⟨t', rfl⟩
      · simp at h
      · simp at h; obtain ⟨rfl, -⟩ := h; exact absurd (List.mem_cons_self ..) hx
    | cons d y =>
      simp at h
      obtain ⟨rfl, h⟩ := h
      obtain ⟨h1, h2⟩ := ih (fun hm => hx (List.mem_cons_of_mem _ hm)) (fun hm => hy (List.mem_cons_of_mem _ hm)) h
      exact ⟨by rw [h1], h2⟩
theorem tail_form (b : UInt8) (r : List (List UInt8)) : Lib.joinTail [b] r = [] ∨ ∃ s', Lib.joinTail [b] r = b :: s' := by
  cases r with
  | nil => exact .inl rfl
  | cons y r => exact .inr ⟨y ++ Lib.joinTail [b] r, by simp [Lib.joinTail]⟩
theorem tail_inj (b : UInt8) : ∀ (xs ys : List (List UInt8)), (∀ x ∈ xs, b ∉ x) → (∀ y ∈ ys, b ∉ y) → Lib.joinTail [b] xs = Lib.joinTail [b] ys → xs = ys := by
  intro xs
  induction xs with
  | nil =>
    intro ys _ _ h
    cases ys with
    | nil => rfl
    | cons y r => simp [Lib.joinTail] at h
  | cons x r ih =>
    intro ys h1 h2 h
    cases ys with
    | nil => simp [Lib.joinTail] at h
    | cons y r' =>
      have e1 : Lib.joinTail [b] (x :: r) = b :: (x ++ Lib.joinTail [b] r) := by simp [Lib.joinTail]
      have e2 : Lib.joinTail [b] (y :: r') = b :: (y ++ Lib.joinTail [b] r') := by simp [Lib.joinTail]
      rw [e1, e2] at h
      injection h with _ h
      obtain ⟨h3, h4⟩ := head_uniq (h1 x (by simp)) (h2 y (by simp)) (tail_form b r) (tail_form b r') h
      rw [h3, ih r' (fun z hz => h1 z (by simp [hz])) (fun z hz => h2 z (by simp [hz])) h4]
theorem joinB_inj {b : UInt8} {xs ys : List ByteArray} (hx : xs ≠ []) (hy : ys ≠ []) (h1 : ∀ p ∈ xs, b ∉ p.data.toList) (h2 : ∀ p ∈ ys, b ∉ p.data.toList) (h : joinB ⟨#[b]⟩ xs = joinB ⟨#[b]⟩ ys) : xs = ys := by
  cases xs with
  | nil => exact absurd rfl hx
  | cons x r =>
    cases ys with
    | nil => exact absurd rfl hy
    | cons y r' =>
      have h3 := congrArg (fun z : ByteArray => z.data.toList) h
      unfold joinB at h3
      simp only [List.map_cons] at h3
      rw [Lib.join_cons, Lib.join_cons] at h3
      obtain ⟨h4, h5⟩ := head_uniq (h1 x (by simp)) (h2 y (by simp)) (tail_form b _) (tail_form b _) h3
      have h6 := tail_inj b _ _ (fun z hz => by obtain ⟨p, hp, rfl⟩ := List.mem_map.1 hz; exact h1 p (by simp [hp])) (fun z hz => by obtain ⟨p, hp, rfl⟩ := List.mem_map.1 hz; exact h2 p (by simp [hp])) h5
      have h7 : r = r' := by
        clear h h1 h2 h3 h4 h5 hx hy
        induction r generalizing r' with
        | nil => cases r' with
          | nil => rfl
          | cons a l => simp at h6
        | cons a l ih => cases r' with
          | nil => simp at h6
          | cons c l' =>
            simp only [List.map_cons, List.cons.injEq] at h6
            have h8 := ih l' h6.2
            rw [ba_ext h6.1, h8]
      rw [ba_ext h4, h7]
theorem split_join {b : UInt8} {xs : List ByteArray} (hx : xs ≠ []) (h1 : ∀ p ∈ xs, b ∉ p.data.toList) : splitB (joinB ⟨#[b]⟩ xs) b = xs := by
  apply joinB_inj (b := b)
  · intro e; have := splitB_pos (joinB ⟨#[b]⟩ xs) b; rw [e] at this; simp at this
  · exact hx
  · exact fun p hp hm => (splitB_parts _ _ p hp b hm).1 rfl
  · exact h1
  · exact splitB_join _ _
theorem fmt_no_comma (n : Int) : (44 : UInt8) ∉ (fmtInt n).data.toList := by
  intro hm
  have hm : (44 : UInt8) ∈ Go.Lib.itoa n := hm
  have hd := (decDigits_fact n.natAbs).2.1
  rw [List.all_eq_true] at hd
  rcases Int.lt_or_le n 0 with h | h
  · rw [(itoa_head n).1 h] at hm
    rcases List.mem_cons.1 hm with h2 | h2
    · exact absurd h2 (by decide)
    · exact absurd (hd _ h2) (by decide)
  · rw [(itoa_head n).2 h] at hm
    exact absurd (hd _ hm) (by decide)
theorem parse_fmt {n : Int} (h : I64 n) : parseYes (fmtInt n) = true ∧ parseVal (fmtInt n) = n := by
  have := parse_yes (parseI_some (s := fmtInt n) (n := n) ⟨h.out, rfl⟩)
  exact ⟨this.2, this.1⟩
theorem sums_format {l : List Int} (hne : l ≠ []) (h : Ints64 l) : sumsYes (sumsText l) = true ∧ sumsVal (sumsText l) = l := by
  have ht : sumsText l = joinB ⟨#[44]⟩ (l.map fmtInt) := by unfold sumsText intsText; rw [if_neg hne]
  have hsp : splitB (sumsText l) 44 = l.map fmtInt := by
    rw [ht]
    refine split_join ?_ ?_
    · intro e; exact hne (List.map_eq_nil_iff.1 e)
    · intro p hp
      obtain ⟨n, -, rfl⟩ := List.mem_map.1 hp
      exact fmt_no_comma n
  have hall : (splitB (sumsText l) 44).all parseYes = true := by
    rw [hsp, List.all_eq_true]
    intro p hp
    obtain ⟨n, hn, rfl⟩ := List.mem_map.1 hp
    exact (parse_fmt (h n hn)).1
  have hnd : sumsText l ≠ ⟨#[45]⟩ := by
    intro e
    rw [e] at hall
    have h2 : splitB (⟨#[45]⟩ : ByteArray) 44 = [⟨#[45]⟩] := by
      rw [e] at hsp
      have h3 := splitB_join (⟨#[45]⟩ : ByteArray) 44
      have h4 := splitB_len (⟨#[45]⟩ : ByteArray) 44
      have h5 : joinB ⟨#[44]⟩ [(⟨#[45]⟩ : ByteArray)] = ⟨#[45]⟩ := joinB_one _ _
      refine joinB_inj (b := 44) ?_ (by simp) ?_ ?_ (h3.trans h5.symm)
      · intro e2; have := splitB_pos (⟨#[45]⟩ : ByteArray) 44; rw [e2] at this; simp at this
      · exact fun p hp hm => (splitB_parts _ _ p hp 44 hm).1 rfl
      · intro p hp; simp at hp; subst hp; decide
    rw [h2] at hall
    simp at hall
    unfold parseYes at hall
    rw [dash_split] at hall
    cases hall
  have hv : sumsParts (sumsText l) = l := by
    unfold sumsParts
    rw [hsp, List.map_map]
    have e : ∀ n ∈ l, (parseVal ∘ fmtInt) n = id n := fun n hn => (parse_fmt (h n hn)).2
    exact (List.map_congr_left e).trans (List.map_id _)
  refine ⟨by unfold sumsYes; rw [hall]; simp, ?_⟩
  unfold sumsVal
  rw [if_neg hnd, if_pos hall, hv]
end Go.Proofs.YthmocomfjgmjoaaGreatDoor

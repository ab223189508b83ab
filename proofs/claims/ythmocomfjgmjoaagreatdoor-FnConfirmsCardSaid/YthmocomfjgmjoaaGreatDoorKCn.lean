/- Contracts: consoles copied, an image put into a console, a text or none; both sides. -/
import Derived.Test.YthmocomfjgmjoaaGreatDoorQ02
import Derived.Test.YthmocomfjgmjoaaGreatDoorQ27
set_option maxHeartbeats 2000000
set_option maxRecDepth 100000
namespace Go.Proofs.YthmocomfjgmjoaaGreatDoor
open Go.RowKit
structure ConSz (k : Con) : Prop where
  m : k.img.length ≤ 1048576
  r : ∀ x ∈ k.img, x.length ≤ 1048576
  a : k.rows.length ≤ 1048576
  b : k.cols.length ≤ 1048576
structure ConRd (w : World) (a b c : Value) (k : Con) : Prop where
  m : Grid w a k.img
  r : Ints w b k.rows
  c : Ints w c k.cols
theorem ConRd.keep {w w' : World} {a b c : Value} {k : Con} (h : ConRd w a b c k) (hb : Below w.heap.size w w') : ConRd w' a b c k := ⟨h.m.keep hb, h.r.keep hb, h.c.keep hb⟩
def OwnC (S : Bk) (w : World) (a b c : Value) (k : Con) : Prop := OwnCons S w a b c k.img k.rows k.cols
theorem OwnC.rd {S : Bk} {w : World} {a b c : Value} {k : Con} (h : OwnC S w a b c k) : ConRd w a b c k := ⟨h.reads.1, h.reads.2.1, h.reads.2.2⟩
def ConRes (w : World) (r : Con × ByteArray) (e : Ending) (w' : World) : Prop :=
  ∃ a b c, e = .returned (.tuple #[.agg #[a, b, c], .string r.2]) ∧ OwnC (Iv w.heap.size w'.heap.size) w' a b c r.1 ∧ Below w.heap.size w w'
theorem ConRd.shape {w : World} {a b c : Value} {k : Con} (h : ConRd w a b c k) : (∃ x y z, a = .slice x y z) ∧ (∃ x y z, b = .slice x y z) ∧ (∃ x y z, c = .slice x y z) := by
  obtain ⟨a1, c1, e1, -⟩ := h.m
  obtain ⟨a2, c2, e2, -⟩ := h.r
  obtain ⟨a3, c3, e3, -⟩ := h.c
  exact ⟨⟨_, _, _, e1⟩, ⟨_, _, _, e2⟩, ⟨_, _, _, e3⟩⟩
theorem OwnC.of {S : Bk} {w : World} {a b c : Value} {k : Con} {l1 h1 l2 h2 l3 h3 : Nat} (oa : Own 32 (Own 3 IntV) (Iv l1 h1) w a k.img) (ob : Own 3 IntV (Iv l2 h2) w b k.rows) (oc : Own 3 IntV (Iv l3 h3) w c k.cols)
    (s1 : ∀ x, Iv l1 h1 x → S x) (s2 : ∀ x, Iv l2 h2 x → S x) (s3 : ∀ x, Iv l3 h3 x → S x) (d12 : h1 ≤ l2 ∨ h2 ≤ l1) (d13 : h1 ≤ l3 ∨ h3 ≤ l1) (d23 : h2 ≤ l3 ∨ h3 ≤ l2) : OwnC S w a b c k :=
  ⟨_, _, _, s1, s2, s3, fun x hx hy => by have := hx.1; have := hx.2; have := hy.1; have := hy.2; omega, fun x hx hy => by have := hx.1; have := hx.2; have := hy.1; have := hy.2; omega, fun x hx hy => by have := hx.1; have := hx.2; have := hy.1; have := hy.2; omega, oa, ob, oc⟩
theorem Blk.set3 {w : World} {g : Nat} {x y z a b c : Value} {t : TypeId} (h : Blk w g #[x, y, z] t) : Blk (((w.setCell ⟨g, 0, none⟩ a).setCell ⟨g, 1, none⟩ b).setCell ⟨g, 2, none⟩ c) g #[a, b, c] t := by
  have h1 := ((h.set (j := 0) a).set (j := 1) b).set (j := 2) c
  simpa using h1
theorem set3_same (w : World) (g : Nat) (a b c : Value) (x : Nat) (hx : x ≠ g) : (((w.setCell ⟨g, 0, none⟩ a).setCell ⟨g, 1, none⟩ b).setCell ⟨g, 2, none⟩ c).heap[x]? = w.heap[x]? := by
  rw [Below.heap_setCell _ _ _ x hx, Below.heap_setCell _ _ _ x hx, Below.heap_setCell _ _ _ x hx]
theorem Below.set3 {B : Nat} {w w' : World} (h : Below B w w') {g : Nat} (hg : B ≤ g) (a b c : Value) : Below B w (((w'.setCell ⟨g, 0, none⟩ a).setCell ⟨g, 1, none⟩ b).setCell ⟨g, 2, none⟩ c) :=
  ((h.setCell (p := ⟨g, 0, none⟩) hg a).setCell (p := ⟨g, 1, none⟩) hg b).setCell (p := ⟨g, 2, none⟩) hg c
theorem size_set3 (w : World) (g : Nat) (a b c : Value) : (((w.setCell ⟨g, 0, none⟩ a).setCell ⟨g, 1, none⟩ b).setCell ⟨g, 2, none⟩ c).heap.size = w.heap.size := by rw [size_setCell, size_setCell, size_setCell]
abbrev NilC : Array Value := #[.slice none 0 0, .slice none 0 0, .slice none 0 0]
theorem copyConsole_c (a b c : Value) (k : Con) (w : World) (h : ConRd w a b c k) (hs : ConSz k) : Calls Tryz.prog 28 #[.agg #[a, b, c]] w fun e w' => ∃ a' b' c', e = .returned (.agg #[a', b', c']) ∧ OwnC (Iv w.heap.size w'.heap.size) w' a' b' c' k ∧ Below w.heap.size w w' := by
  obtain ⟨⟨a1, a2, a3, rfl⟩, ⟨b1, b2, b3, rfl⟩, ⟨d1, d2, d3, rfl⟩⟩ := h.shape
  obtain ⟨W0, hW0⟩ : ∃ W, W = (w.alloc (.cells #[.slice a1 a2 a3, .slice b1 b2 b3, .slice d1 d2 d3] 34)).alloc (.cells NilC 34) := ⟨_, rfl⟩
  have bb0 : Below w.heap.size w W0 := by rw [hW0]; exact ((Below.refl _ _).alloc (Nat.le_refl _) _).alloc (by simp) _
  have kc : Blk W0 w.heap.size #[.slice a1 a2 a3, .slice b1 b2 b3, .slice d1 d2 d3] 34 := by rw [hW0]; exact (Blk.new w _ _).keep (Below.pureAlloc _ _)
  have kr : Blk W0 (w.heap.size + 1) NilC 34 := by
    rw [hW0]
    have := Blk.new (w.alloc (.cells #[.slice a1 a2 a3, .slice b1 b2 b3, .slice d1 d2 d3] 34)) NilC 34
    simpa using this
  have z0 : W0.heap.size = w.heap.size + 2 := by rw [hW0]; simp
  have hbb := Lib.hid bb0.drew
  have hC := Lib.hid (show ConRd W0.drew (.slice a1 a2 a3) (.slice b1 b2 b3) (.slice d1 d2 d3) k from h.keep bb0.drew)
  have hK := Lib.hid (show Blk W0.drew w.heap.size #[.slice a1 a2 a3, .slice b1 b2 b3, .slice d1 d2 d3] 34 from kc)
  have hR := Lib.hid (show Blk W0.drew (w.heap.size + 1) NilC 34 from kr)
  have c0 : W0.cell? ⟨w.heap.size, 0, none⟩ = some (.slice a1 a2 a3) := hK.out.cell 0
  have c1 : W0.cell? ⟨w.heap.size, 1, none⟩ = some (.slice b1 b2 b3) := hK.out.cell 1
  have c2 : W0.cell? ⟨w.heap.size, 2, none⟩ = some (.slice d1 d2 d3) := hK.out.cell 2
  have hs1 := hs.m
  have Hs := Lib.hid hs
  have Z0 := Lib.hid z0
  clear bb0 kc kr h z0 hs hs1
  go_enter Tryz.func28, Tryz.ntmps28
  go_wp2
  rw [← hW0]
  clear hW0
  go_region_with (first
    | (go_at_call 82; (with_reducible refine (copyGrid_c _ k.img _ hC.out.m Hs.out.m Hs.out.r).mono ?_); rintro e w2 ⟨va, rfl, oa, y2⟩; obtain ⟨p1, p2, p3, rfl⟩ := oa.shape; have Ha := Lib.hid oa; have hs2 : W0.heap.size ≤ w2.heap.size := y2.size; replace hbb := Lib.hid (hbb.out.trans_pure y2 (Nat.le_refl _)); replace hC := Lib.hid (hC.out.keep y2); replace hK := Lib.hid (hK.out.keep y2); replace hR := Lib.hid (hR.out.keep y2); have c0 : w2.cell? ⟨w.heap.size, 0, none⟩ = some (.slice a1 a2 a3) := hK.out.cell 0; have c1 : w2.cell? ⟨w.heap.size, 1, none⟩ = some (.slice b1 b2 b3) := hK.out.cell 1; have c2 : w2.cell? ⟨w.heap.size, 2, none⟩ = some (.slice d1 d2 d3) := hK.out.cell 2)
    | (go_at_call 83; (with_reducible refine (copyInts_c _ k.rows _ hC.out.r Hs.out.a).mono ?_); rintro e w3 ⟨vb, rfl, ob, y3⟩; obtain ⟨q1, q2, q3, rfl⟩ := ob.shape; have Hb := Lib.hid ob; have hs3 : w2.heap.size ≤ w3.heap.size := y3.size; replace Ha := Lib.hid (Own.keep (rOwn rIntV) Ha.out y3 (Nat.le_refl _)); replace hbb := Lib.hid (hbb.out.trans_pure y3 (Nat.le_refl _)); replace hC := Lib.hid (hC.out.keep y3); replace hK := Lib.hid (hK.out.keep y3); replace hR := Lib.hid (hR.out.keep y3); have c0 : w3.cell? ⟨w.heap.size, 0, none⟩ = some (.slice a1 a2 a3) := hK.out.cell 0; have c1 : w3.cell? ⟨w.heap.size, 1, none⟩ = some (.slice b1 b2 b3) := hK.out.cell 1; have c2 : w3.cell? ⟨w.heap.size, 2, none⟩ = some (.slice d1 d2 d3) := hK.out.cell 2)
    | (go_at_call 83; (with_reducible refine (copyInts_c _ k.cols _ hC.out.c Hs.out.b).mono ?_); rintro e w4 ⟨vc, rfl, oc, y4⟩; obtain ⟨r1, r2, r3, rfl⟩ := oc.shape; have Hc := Lib.hid oc; have hs4 : w3.heap.size ≤ w4.heap.size := y4.size; replace Ha := Lib.hid (Own.keep (rOwn rIntV) Ha.out y4 (by omega)); replace Hb := Lib.hid (Own.keep rIntV Hb.out y4 (Nat.le_refl _)); replace hbb := Lib.hid (hbb.out.trans_pure y4 (Nat.le_refl _)); replace hR := Lib.hid (hR.out.keep y4); have c0 : w4.cell? ⟨w.heap.size + 1, 0, none⟩ = some (.slice none 0 0) := hR.out.cell 0; have c1 : w4.cell? ⟨w.heap.size + 1, 1, none⟩ = some (.slice none 0 0) := hR.out.cell 1; have c2 : w4.cell? ⟨w.heap.size + 1, 2, none⟩ = some (.slice none 0 0) := hR.out.cell 2; have f0 := hR.out.frozen 0; have f1 := hR.out.frozen 1; have f2 := hR.out.frozen 2))
  all_goals go_wp2
  all_goals
    have hR5 := Blk.set3 (a := .slice p1 p2 p3) (b := .slice q1 q2 q3) (c := .slice r1 r2 r3) hR.out
    have e0 := hR5.cell 0
    have e1 := hR5.cell 1
    have e2 := hR5.cell 2
    simp only [List.getElem?_toArray, List.getElem?_cons_zero, List.getElem?_cons_succ] at e0 e1 e2
    have hz := Z0.out
    have key : ∀ x, w.heap.size + 2 ≤ x → _ := fun x hx => set3_same w4 (w.heap.size + 1) (.slice p1 p2 p3) (.slice q1 q2 q3) (.slice r1 r2 r3) x (by omega)
    refine bodyPost_ret (v := .agg #[.slice p1 p2 p3, .slice q1 q2 q3, .slice r1 r2 r3]) (by simp [results, Tryz.results28, go_sem, e0, e1, e2]) rfl ⟨_, _, _, rfl, ?_, Below.set3 hbb.out (by omega) _ _ _⟩
    rw [size_set3]
    refine OwnC.of (l1 := W0.heap.size) (h1 := w2.heap.size) (l2 := w2.heap.size) (h2 := w3.heap.size) (l3 := w3.heap.size) (h3 := w4.heap.size) ?_ ?_ ?_ (fun x hx => ⟨by have := hx.1; omega, by have := hx.2; omega⟩) (fun x hx => ⟨by have := hx.1; omega, by have := hx.2; omega⟩) (fun x hx => ⟨by have := hx.1; omega, hx.2⟩) (.inl (Nat.le_refl _)) (.inl hs3) (.inl (Nat.le_refl _))
    · exact (rOwn (rOwn rIntV)).same (fun x hx => key x (by have := hx.1; omega)) Ha.out
    · exact (rOwn rIntV).same (fun x hx => key x (by have := hx.1; omega)) Hb.out
    · exact (rOwn rIntV).same (fun x hx => key x (by have := hx.1; omega)) Hc.out
end Go.Proofs.YthmocomfjgmjoaaGreatDoor

/- Memory of a search over images: the map of distances, the queue, the lists of switches. -/
import Derived.Test.YtlmjpmdkifoekaaDoorP1
namespace Go.Proofs.YtlmjpmdkifoekaaDoor
open Go.RowKit

theorem zeroIntE (w : World) : (zeroValue 3).run Tryd.prog w = .ok (.int .i64 0) w := by kernel_rfl
theorem wfNat {k : Nat} (h : k < 1073741824) : (Lit.int .i64 (k : Int)).wf = true := by
  simp [Lit.wf, IntKind.min, IntKind.max, IntKind.signed, IntKind.bits]; omega
/-- block b is a map of at most n entries that holds f -/
def FarM (w : World) (b n : Nat) (f : Nat → Option Nat) : Prop := ∃ D : DataW Unit, w.ownsMap Tryd.prog 3 (plainElem Tryd.prog 3) b n D ∧ Maps.IsMap D ∧
  ∀ k : Nat, k < 1073741824 → Maps.has D (.int .i64 k) = (f k).isSome ∧ D.atKey (.int .i64 k) (.lit (.int .i64 0)) = .lit (.int .i64 ((f k).getD 0 : Nat))
theorem FarM.made (w : World) : FarM (w.alloc (.map #[] 0)) w.heap.size 0 fun _ => none :=
  ⟨.map [], World.ownsMap_made w _ _ _, Maps.isMap_empty, fun _ _ => ⟨rfl, Maps.atKey_of_not_has rfl _⟩⟩
theorem FarM.lt {w : World} {b n : Nat} {f : Nat → Option Nat} (h : FarM w b n f) : b < w.heap.size := by
  obtain ⟨D, h1, -⟩ := h
  exact h1.lt
theorem FarM.same {w w' : World} {b n : Nat} {f : Nat → Option Nat} (h : FarM w b n f) (hb : w'.heap[b]? = w.heap[b]?) : FarM w' b n f := by
  obtain ⟨D, ⟨es, clock, h1, h2, h3, h4⟩, h5, h6⟩ := h
  exact ⟨D, ⟨es, clock, hb.trans h1, h2, h3, h4⟩, h5, h6⟩
theorem FarM.pure {w w' : World} {b n : Nat} {f : Nat → Option Nat} (h : FarM w b n f) (hb : Below w.heap.size w w') : FarM w' b n f := h.same (hb.block b h.lt)
theorem FarM.isMap {w : World} {b n : Nat} {f : Nat → Option Nat} (h : FarM w b n f) : ∃ es clock, w.heap[b]? = some (.map es clock) := by
  obtain ⟨D, ⟨es, clock, h1, -⟩, -⟩ := h
  exact ⟨es, clock, h1⟩
theorem FarM.look {w : World} {b n k : Nat} {f : Nat → Option Nat} (h : FarM w b n f) (hk : k < 1073741824) : (Instr.lookup 94 (.map (some b)) (.int .i64 (k : Int)) false).run Tryd.prog w = .ok (.int .i64 ((f k).getD 0 : Nat)) w := by
  obtain ⟨D, h1, -, h3⟩ := h
  obtain ⟨c, hrun, hat, -⟩ := h1.lookup_int (Maps.int_keyed Tryd.underlying3) Tryd.underlying94 Tryd.underlying3 (zeroIntE w) (Maps.keyOf_int_mk Tryd.underlying3 (wfNat hk))
  rw [(h3 k hk).2] at hat
  simp only [DataW.lit.injEq, Lit.int.injEq, true_and] at hat
  rw [hrun, hat]
theorem FarM.look_ok {w : World} {b n k : Nat} {f : Nat → Option Nat} (h : FarM w b n f) (hk : k < 1073741824) : (Instr.lookup 94 (.map (some b)) (.int .i64 (k : Int)) true).run Tryd.prog w = .ok (.tuple #[.int .i64 ((f k).getD 0 : Nat), .bool (f k).isSome]) w := by
  obtain ⟨D, h1, -, h3⟩ := h
  obtain ⟨v, ps, hrun, hv⟩ := h1.look_ok (Maps.int_keyed Tryd.underlying3) Tryd.underlying94 (zeroIntE w) (plainElem_int Tryd.underlying3 (by decide)) (Maps.keyOf_int_mk Tryd.underlying3 (wfNat hk))
  obtain ⟨c, rfl, hc, -⟩ := plainElem_int_inv Tryd.underlying3 hv
  rw [(h3 k hk).2] at hc
  simp only [Prod.mk.injEq, DataW.lit.injEq, Lit.int.injEq, true_and] at hc
  rw [hrun, (h3 k hk).1, hc.1]
def putF (f : Nat → Option Nat) (k v : Nat) : Nat → Option Nat := fun j => if j = k then some v else f j
theorem FarM.store {w : World} {b n k v : Nat} {f : Nat → Option Nat} (h : FarM w b n f) (hk : k < 1073741824) (hv : v < 1073741824) (hn : n < 1073741824) : ∃ w', (Instr.mapUpdate 94 (.map (some b)) (.int .i64 (k : Int)) (.int .i64 (v : Int))).run Tryd.prog w = .ok () w' ∧ FarM w' b (n + 1) (putF f k v) ∧ Only (fun x => x = b) w w' := by
  obtain ⟨D, h1, h2, h3⟩ := h
  obtain ⟨w', hrun, r1, r2⟩ := h1.update (Maps.int_keyed Tryd.underlying3) Tryd.underlying94 (Nat.lt_of_lt_of_le hn (by unfold maxLen; omega)) (Maps.keyOf_int_mk Tryd.underlying3 (wfNat hk)) (plainElem_int Tryd.underlying3 (wfNat hv))
  refine ⟨w', hrun, ⟨_, r1, h2.put _ _, fun j hj => ?_⟩, ⟨r2.os, r2.tape, r2.output, r2.size, fun x hx hn => r2.block x hx (fun e => hn (Option.some.inj e))⟩⟩
  have hkey : WideAt.IsKeyLit (.int .i64 (k : Int)) := trivial
  unfold putF
  by_cases e : j = k
  · subst e
    rw [if_pos rfl, Maps.has_put_same h2 hkey, Maps.atKey_put_same h2 hkey]
    exact ⟨rfl, rfl⟩
  · rw [if_neg e]
    have hne : (Lit.int .i64 (j : Int)) ≠ Lit.int .i64 (k : Int) := by
      intro h
      simp only [Lit.int.injEq, true_and] at h
      omega
    rw [Maps.has_put_other hne, Maps.atKey_put_other hne]
    exact h3 j hj
/-- blocks of images: old ones, and cells of rows -/
def ImgS (n0 : Nat) (w : World) : Bk := fun x => x < n0 ∨ (x < w.heap.size ∧ ∃ arr fz, w.heap[x]? = some (.cells arr 24 fz) ∨ w.heap[x]? = some (.cells arr 3 fz))
def Img (n0 : Nat) (w : World) (v : Value) (g : List (List Int)) : Prop := Sl (Sl IntV) (ImgS n0 w) w v g
theorem Img.of_grid {n0 : Nat} {w : World} {v : Value} {g : List (List Int)} (h : Grid w v g) (hn : w.heap.size ≤ n0) : Img n0 w v g := (rSl (rSl rIntV)).mono (fun _ hb => .inl (Nat.lt_of_lt_of_le hb hn)) h
theorem Img.grid {n0 : Nat} {w : World} {v : Value} {g : List (List Int)} (h : Img n0 w v g) : Grid w v g := (rSl (rSl rIntV)).rd h
theorem Img.of_own {n0 : Nat} {S : Bk} {w : World} {v : Value} {g : List (List Int)} (h : Own 24 (Own 3 IntV) S w v g) : Img n0 w v g := by
  rcases h with ⟨rfl, rfl⟩ | ⟨b, arr, rfl, hg, hh, h1, h2, h3, T, hT1, hT2, hT3⟩
  · exact ⟨none, 0, rfl, by simp, by simp, fun _ => rfl, fun h => by simp at h⟩
  · refine ⟨_, _, rfl, h1, Nat.le_trans h3 (by decide), fun h => by simp at h, fun _ => ⟨b, 0, rfl, .inr ⟨lt_of_block hh, arr, _, .inl hh⟩, fun k x hk => ?_⟩⟩
    obtain ⟨u, hu, hr⟩ := hT3 k x hk
    refine ⟨u, by rw [cell_of_row w b _ arr _ (0, 0) hh, Nat.zero_add]; exact hu, ?_⟩
    rcases hr with ⟨rfl, rfl⟩ | ⟨b2, arr2, rfl, hg2, hh2, h12, h22, h32, T2, hT12, hT22, hT32⟩
    · exact ⟨none, 0, rfl, by simp, by simp, fun _ => rfl, fun h => by simp at h⟩
    · refine ⟨_, _, rfl, h12, Nat.le_trans h32 (by decide), fun h => by simp at h, fun _ => ⟨b2, 0, rfl, .inr ⟨lt_of_block hh2, arr2, _, .inr hh2⟩, fun k2 x2 hk2 => ?_⟩⟩
      obtain ⟨u2, hu2, hr2⟩ := hT32 k2 x2 hk2
      exact ⟨u2, by rw [cell_of_row w b2 _ arr2 _ (0, 0) hh2, Nat.zero_add]; exact hu2, hr2⟩
theorem Img.only {n0 : Nat} {T : Bk} {w w' : World} {v : Value} {g : List (List Int)} (h : Img n0 w v g) (ho : Only T w w') (hT : ∀ x, T x → ¬ ImgS n0 w x) : Img n0 w' v g := by
  have hin := (rSl (rSl rIntV)).inH h
  have hsame : ∀ x, (ImgS n0 w x ∧ x < w.heap.size) → w'.heap[x]? = w.heap[x]? := fun x hx => ho.block x hx.2 (fun ht => hT x ht hx.1)
  refine (rSl (rSl rIntV)).mono (fun x hx => ?_) ((rSl (rSl rIntV)).same hsame hin)
  rcases hx.1 with h1 | ⟨h1, arr, fz, h2⟩
  · exact .inl h1
  · exact .inr ⟨Nat.lt_of_lt_of_le h1 ho.size, arr, fz, by rw [hsame x hx]; exact h2⟩
theorem Img.pure {n0 : Nat} {w w' : World} {v : Value} {g : List (List Int)} (h : Img n0 w v g) (hb : Below w.heap.size w w') : Img n0 w' v g := h.only (Only.of_pure hb fun _ => False) (fun _ hx => hx.elim)
theorem not_img {n0 x : Nat} {w : World} {arr : Array Value} {E : TypeId} {fz : Nat × Nat} (hn : n0 ≤ x) (h : w.heap[x]? = some (.cells arr E fz)) (h1 : E ≠ 24) (h2 : E ≠ 3) : ¬ ImgS n0 w x := by
  rintro (h3 | ⟨-, a2, f2, h3 | h3⟩)
  · omega
  · rw [h] at h3; simp at h3; exact h1 h3.2.1
  · rw [h] at h3; simp at h3; exact h2 h3.2.1
theorem not_img_map {n0 b n : Nat} {w : World} {f : Nat → Option Nat} (hn : n0 ≤ b) (h : FarM w b n f) : ¬ ImgS n0 w b := by
  obtain ⟨es, ck, h⟩ := h.isMap
  rintro (h3 | ⟨-, a2, f2, h3 | h3⟩)
  · omega
  · rw [h] at h3; simp at h3
  · rw [h] at h3; simp at h3
/-- a list of images: its own block of headers, and the images -/
structure ImgL (n0 : Nat) (X : Bk) (w : World) (qv : Value) (gs : List (List (List Int))) : Prop where
  q : ∃ us, Own 23 AnyV (fun x => n0 ≤ x ∧ ¬ X x ∧ x < w.heap.size) w qv us ∧ us.length = gs.length ∧ ∀ (k : Nat) (u : Value) (g : List (List Int)), us[k]? = some u → gs[k]? = some g → Img n0 w u g
theorem ImgL.shape {n0 : Nat} {X : Bk} {w : World} {qv : Value} {gs : List (List (List Int))} (h : ImgL n0 X w qv gs) : ∃ a c, qv = .slice a gs.length c := by
  obtain ⟨us, h1, h2, -⟩ := h.q
  rcases h1.inv with ⟨rfl, rfl⟩ | ⟨g, cap, rfl, -⟩
  · exact ⟨none, 0, by rw [← h2]; rfl⟩
  · exact ⟨_, cap, by rw [h2]⟩
theorem ImgL.pure {n0 : Nat} {X : Bk} {w w' : World} {qv : Value} {gs : List (List (List Int))} (h : ImgL n0 X w qv gs) (hb : Below w.heap.size w w') : ImgL n0 X w' qv gs := by
  obtain ⟨us, h1, h2, h3⟩ := h.q
  exact ⟨us, (rOwn rAnyV).mono (fun x hx => ⟨hx.1, hx.2.1, Nat.lt_of_lt_of_le hx.2.2 hb.size⟩) ((rOwn rAnyV).same (sameOn_below hb fun x hx => hx.2.2) h1), h2, fun k u g hu hg => (h3 k u g hu hg).pure hb⟩
/-- other blocks may change: those that are no image's and not the list's own -/
theorem ImgL.only {n0 : Nat} {X T : Bk} {w w' : World} {qv : Value} {gs : List (List (List Int))} (h : ImgL n0 X w qv gs) (ho : Only T w w') (hX : ∀ x, T x → X x) (hT : ∀ x, T x → ¬ ImgS n0 w x) : ImgL n0 X w' qv gs := by
  obtain ⟨us, h1, h2, h3⟩ := h.q
  exact ⟨us, (rOwn rAnyV).mono (fun x hx => ⟨hx.1, hx.2.1, Nat.lt_of_lt_of_le hx.2.2 ho.size⟩) (Own.only rAnyV h1 ho (fun x hx => hx.2.2) (fun x hx ht => hx.2.1 (hX x ht))), h2, fun k u g hu hg => (h3 k u g hu hg).only ho hT⟩
theorem ImgL.at {n0 : Nat} {X : Bk} {w : World} {qv : Value} {gs : List (List (List Int))} (h : ImgL n0 X w qv gs) {k : Nat} {g : List (List Int)} (hk : gs[k]? = some g) : ∃ b c u, qv = .slice (some ⟨b, 0, none⟩) gs.length c ∧ b < w.heap.size ∧ w.cell? ⟨b, k, none⟩ = some u ∧ Img n0 w u g := by
  obtain ⟨us, h1, h2, h3⟩ := h.q
  have hkl := (List.getElem?_eq_some_iff.1 hk).1
  rcases h1 with ⟨rfl, rfl⟩ | ⟨b, arr, rfl, hS, hh, e1, e2, e3, T, t1, t2, t3⟩
  · simp at h2; omega
  · obtain ⟨u, hu⟩ : ∃ u, us[k]? = some u := ⟨_, List.getElem?_eq_getElem (by omega)⟩
    obtain ⟨u', hu', rfl, -⟩ := t3 k u hu
    exact ⟨b, arr.size, u', by rw [h2], lt_of_block hh, by rw [cell_of_row w b _ arr _ (0, 0) hh]; exact hu', h3 k u' g hu hk⟩
theorem ImgL.grids {n0 : Nat} {X : Bk} {w : World} {qv : Value} {gs : List (List (List Int))} (h : ImgL n0 X w qv gs) : Grids w qv gs := by
  obtain ⟨us, h1, h2, h3⟩ := h.q
  exact Heads.list ⟨h2, fun k u g hu hg => (h3 k u g hu hg).grid⟩ h1
/-- the list's own block is no image's -/
theorem ImgL.own_not {n0 : Nat} {X : Bk} {w : World} {qv : Value} {gs : List (List (List Int))} (h : ImgL n0 X w qv gs) : ∀ x, qv.ownBlock = some x → n0 ≤ x ∧ ¬ X x ∧ x < w.heap.size ∧ (∃ arr, w.heap[x]? = some (.cells arr 23 (0, 0))) ∧ ¬ ImgS n0 w x := by
  intro x hx
  obtain ⟨us, h1, h2, h3⟩ := h.q
  have hS := h1.ownBlock' x hx
  rcases h1 with ⟨rfl, rfl⟩ | ⟨b, arr, rfl, -, hh, -⟩
  · simp [Value.ownBlock] at hx
  · simp [Value.ownBlock] at hx
    subst hx
    exact ⟨hS.1, hS.2.1, hS.2.2, ⟨arr, hh⟩, not_img hS.1 hh (by decide) (by decide)⟩
/-- a block of switches -/
def SwBlk (w : World) (g : Nat) (ss : List Sw) : Prop := ∃ arr fz, w.heap[g]? = some (.cells arr 62 fz) ∧ ∀ (k : Nat) (s : Sw), ss[k]? = some s → ∀ (j : Nat) (u : Value), (swC s)[j]? = some u → arr[k * 4 + j]? = some u
theorem SwBlk.same {w w' : World} {g : Nat} {ss : List Sw} (h : SwBlk w g ss) (hb : w'.heap[g]? = w.heap[g]?) : SwBlk w' g ss := by
  obtain ⟨arr, fz, h1, h2⟩ := h
  exact ⟨arr, fz, hb.trans h1, h2⟩
theorem SwBlk.lt {w : World} {g : Nat} {ss : List Sw} (h : SwBlk w g ss) : g < w.heap.size := by
  obtain ⟨arr, fz, h1, -⟩ := h
  exact lt_of_block h1
theorem SwBlk.pure {w w' : World} {g : Nat} {ss : List Sw} (h : SwBlk w g ss) (hb : Below w.heap.size w w') : SwBlk w' g ss := h.same (hb.block g h.lt)
theorem SwBlk.only {T : Bk} {w w' : World} {g : Nat} {ss : List Sw} (h : SwBlk w g ss) (ho : Only T w w') (hn : ¬ T g) : SwBlk w' g ss := h.same (ho.block g h.lt hn)
theorem SwBlk.cells {w : World} {g : Nat} {ss : List Sw} (h : SwBlk w g ss) {k : Nat} {s : Sw} (hk : ss[k]? = some s) {j : Nat} {u : Value} (hj : (swC s)[j]? = some u) : w.cell? ⟨g, k * 4 + j, none⟩ = some u := by
  obtain ⟨arr, fz, h1, h2⟩ := h
  rw [cell_of_row w g _ arr _ fz h1]
  exact h2 k s hk j u hj
theorem SwBlk.not_type {w : World} {g x : Nat} {ss : List Sw} (h : SwBlk w g ss) {arr : Array Value} {E : TypeId} {fz : Nat × Nat} (hx : w.heap[x]? = some (.cells arr E fz)) (hE : E ≠ 62) : g ≠ x := by
  rintro rfl
  obtain ⟨arr2, fz2, h1, -⟩ := h
  rw [hx] at h1
  simp at h1
  exact hE h1.2.1
theorem OwnSw.blk {B : Nat} {w : World} {v : Value} {l : List Sw} (h : OwnSw B w v l) (hne : 0 < l.length) : ∃ g cap, v = .slice (some ⟨g, 0, none⟩) l.length cap ∧ B ≤ g ∧ SwBlk w g l := by
  obtain ⟨hl, h5 | ⟨g, cap, cur, rfl, hB, hh, -, -, -, h9⟩⟩ := id h
  · omega
  · refine ⟨g, cap, rfl, hB, cur, _, hh, fun k s hk j u hj => ?_⟩
    have hj4 : j < 4 := by have := (List.getElem?_eq_some_iff.1 hj).1; simpa [swC] using this
    have hkl := (List.getElem?_eq_some_iff.1 hk).1
    have e := swCs_at hk j hj4
    rw [← h9, List.getElem?_take, if_pos (by omega), Array.getElem?_toList] at e
    rw [e, hj]
end Go.Proofs.YtlmjpmdkifoekaaDoor

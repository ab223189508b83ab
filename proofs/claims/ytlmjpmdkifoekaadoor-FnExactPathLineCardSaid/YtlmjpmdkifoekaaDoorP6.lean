/- Contract: the visit of all images that switches reach, in the reference. -/
import Derived.Test.YtlmjpmdkifoekaaDoorP5
import Derived.Test.YtlmjpmdkifoekaaDoorP3
import Derived.Deep.RegionLaw
namespace Go.Proofs.YtlmjpmdkifoekaaDoor
open Go.RowKit

theorem ownAny_same {E : TypeId} {S : Bk} {w w' : World} {v : Value} {us : List Value} (h : Own E AnyV S w v us) (hb : ∀ g, v.ownBlock = some g → w'.heap[g]? = w.heap[g]?) : Own E AnyV S w' v us := by
  rcases h with h | ⟨g, arr, rfl, hg, hh, h1, h2, h3, T, t1, t2, t3⟩
  · exact .inl h
  · exact .inr ⟨g, arr, rfl, hg, (hb g rfl).trans hh, h1, h2, h3, T, t1, t2, t3⟩
theorem ownAny_type {E : TypeId} {S : Bk} {w : World} {v : Value} {us : List Value} (h : Own E AnyV S w v us) : ∀ x, v.ownBlock = some x → S x ∧ ∃ arr, w.heap[x]? = some (.cells arr E (0, 0)) := by
  intro x hx
  rcases h with ⟨rfl, rfl⟩ | ⟨g, arr, rfl, hg, hh, -⟩
  · simp [Value.ownBlock] at hx
  · simp [Value.ownBlock] at hx
    subst hx
    exact ⟨hg, arr, hh⟩
theorem ImgL.only2 {n0 : Nat} {X T : Bk} {w w' : World} {qv : Value} {gs : List (List (List Int))} (h : ImgL n0 X w qv gs) (ho : Only T w w') (h1 : ∀ x, qv.ownBlock = some x → ¬ T x) (hT : ∀ x, T x → ¬ ImgS n0 w x) : ImgL n0 X w' qv gs := by
  obtain ⟨us, q1, q2, q3⟩ := h.q
  have hlt := fun x hx => (ownAny_type q1 x hx).1.2.2
  exact ⟨us, (rOwn rAnyV).mono (fun x hx => ⟨hx.1, hx.2.1, Nat.lt_of_lt_of_le hx.2.2 ho.size⟩) (ownAny_same q1 fun g hg => ho.block g (hlt g hg) (h1 g hg)), q2, fun k u g hu hg => (q3 k u g hu hg).only ho hT⟩
/-- a header of a list of switches -/
def SwHd (w : World) (u : Value) (l : List Sw) : Prop := ∃ b c, u = .slice (some ⟨b, 0, none⟩) l.length c ∧ SwBlk w b l
/-- a list of lists of switches: its own block of headers, and the lists -/
structure WayL (n0 : Nat) (w : World) (wv : Value) (ps : List (List Sw)) : Prop where
  q : ∃ us, Own 57 AnyV (fun x => n0 ≤ x ∧ x < w.heap.size) w wv us ∧ us.length = ps.length ∧ ∀ (k : Nat) (u : Value) (p : List Sw), us[k]? = some u → ps[k]? = some p → SwHd w u p
theorem WayL.pure {n0 : Nat} {w w' : World} {wv : Value} {ps : List (List Sw)} (h : WayL n0 w wv ps) (hb : Below w.heap.size w w') : WayL n0 w' wv ps := by
  obtain ⟨us, q1, q2, q3⟩ := h.q
  exact ⟨us, (rOwn rAnyV).mono (fun x hx => ⟨hx.1, Nat.lt_of_lt_of_le hx.2 hb.size⟩) ((rOwn rAnyV).same (sameOn_below hb fun x hx => hx.2) q1), q2, fun k u p hu hp => by
    obtain ⟨b, c, e, hB⟩ := q3 k u p hu hp
    exact ⟨b, c, e, hB.pure hb⟩⟩
theorem WayL.only {n0 : Nat} {T : Bk} {w w' : World} {wv : Value} {ps : List (List Sw)} (h : WayL n0 w wv ps) (ho : Only T w w') (hT : ∀ x, T x → ∃ arr E fz, w.heap[x]? = some (.cells arr E fz) ∧ E ≠ 57 ∧ E ≠ 62) : WayL n0 w' wv ps := by
  obtain ⟨us, q1, q2, q3⟩ := h.q
  refine ⟨us, (rOwn rAnyV).mono (fun x hx => ⟨hx.1, Nat.lt_of_lt_of_le hx.2 ho.size⟩) (ownAny_same q1 fun g hg => ?_), q2, fun k u p hu hp => ?_⟩
  · obtain ⟨⟨-, hlt⟩, arr, ha⟩ := ownAny_type q1 g hg
    refine ho.block g hlt fun ht => ?_
    obtain ⟨arr2, E, fz, h1, h2, -⟩ := hT g ht
    rw [ha] at h1
    simp at h1
    exact h2 h1.2.1.symm
  · obtain ⟨b, c, e, hB⟩ := q3 k u p hu hp
    refine ⟨b, c, e, hB.only ho fun ht => ?_⟩
    obtain ⟨arr2, E, fz, h1, -, h3⟩ := hT b ht
    exact hB.not_type h1 h3 rfl
theorem WayL.shape {n0 : Nat} {w : World} {wv : Value} {ps : List (List Sw)} (h : WayL n0 w wv ps) : ∃ a k c, wv = .slice a k c ∧ k = ps.length := by
  obtain ⟨us, h1, h2, -⟩ := h.q
  rcases h1.inv with ⟨rfl, rfl⟩ | ⟨g, cap, rfl, -⟩
  · exact ⟨none, 0, 0, rfl, h2⟩
  · exact ⟨_, _, cap, rfl, h2⟩
theorem WayL.at {n0 : Nat} {w : World} {wv : Value} {ps : List (List Sw)} (h : WayL n0 w wv ps) {k : Nat} {p : List Sw} (hk : ps[k]? = some p) : ∃ b c pb pc, wv = .slice (some ⟨b, 0, none⟩) ps.length c ∧ b < w.heap.size ∧ w.cell? ⟨b, k, none⟩ = some (.slice (some ⟨pb, 0, none⟩) p.length pc) ∧ SwBlk w pb p := by
  obtain ⟨us, h1, h2, h3⟩ := h.q
  have hkl := (List.getElem?_eq_some_iff.1 hk).1
  rcases h1 with ⟨rfl, rfl⟩ | ⟨b, arr, rfl, hS, hh, e1, e2, e3, T, t1, t2, t3⟩
  · simp at h2; omega
  · obtain ⟨u, hu⟩ : ∃ u, us[k]? = some u := ⟨_, List.getElem?_eq_getElem (by omega)⟩
    obtain ⟨u', hu', rfl, -⟩ := t3 k u hu
    obtain ⟨pb, pc, rfl, hB⟩ := h3 k u' p hu hk
    exact ⟨b, arr.size, pb, pc, by rw [h2], lt_of_block hh, by rw [cell_of_row w b _ arr _ (0, 0) hh]; exact hu', hB⟩
theorem WayL.start {n0 : Nat} {w : World} (hn : n0 ≤ w.heap.size) : WayL n0 ((w.alloc (.cells #[] 62)).alloc (.cells #[.slice (some ⟨w.heap.size, 0, none⟩) 0 0] 57)) (.slice (some ⟨w.heap.size + 1, 0, none⟩) 1 1) [[]] := by
  have k1 : Blk ((w.alloc (.cells #[] 62)).alloc (.cells #[.slice (some ⟨w.heap.size, 0, none⟩) 0 0] 57)) w.heap.size #[] 62 := (Blk.new w _ _).keep (Below.pureAlloc _ _)
  have k2 : Blk ((w.alloc (.cells #[] 62)).alloc (.cells #[.slice (some ⟨w.heap.size, 0, none⟩) 0 0] 57)) (w.heap.size + 1) #[.slice (some ⟨w.heap.size, 0, none⟩) 0 0] 57 := by
    have h := Blk.new (w.alloc (.cells #[] 62)) #[.slice (some ⟨w.heap.size, 0, none⟩) 0 0] 57
    rwa [show (w.alloc (.cells #[] 62)).heap.size = w.heap.size + 1 from by simp] at h
  refine ⟨[.slice (some ⟨w.heap.size, 0, none⟩) 0 0], .inr ⟨_, _, rfl, ⟨by omega, k2.lt⟩, k2, by simp, by simp [maxLen], by simp, fun _ _ => False, fun _ _ h => h.elim, fun _ _ _ h => h.elim, fun k x hk => ?_⟩, rfl, fun k v p hk hp => ?_⟩
  · cases k with
    | zero => simp at hk; subst hk; exact ⟨_, rfl, rfl, rfl⟩
    | succ k => simp at hk
  · cases k with
    | zero =>
      simp at hk hp; subst hk; subst hp
      exact ⟨_, 0, rfl, _, _, k1, fun k s hk => by simp at hk⟩
    | succ k => simp at hk
theorem WayL.push {n0 : Nat} {wz w' : World} {wv v' u : Value} {us : List Value} {p : List Sw} {ps : List (List Sw)} (h2 : us.length = ps.length) (h3 : ∀ (k : Nat) (u : Value) (p : List Sw), us[k]? = some u → ps[k]? = some p → SwHd wz u p) (hq : ∀ x, wv.ownBlock = some x → ∃ arr, wz.heap[x]? = some (.cells arr 57 (0, 0))) (hu : SwHd wz u p)
    {S : Bk} (hS : ∀ x, S x → n0 ≤ x ∧ x < w'.heap.size) (hown : Own 57 AnyV S w' v' (us ++ [u])) (ho : Only (fun b => wv.ownBlock = some b) wz w') : WayL n0 w' v' (ps ++ [p]) := by
  have hk : ∀ {u : Value} {p : List Sw}, SwHd wz u p → SwHd w' u p := fun ⟨b, c, e, hB⟩ => ⟨b, c, e, hB.only ho fun e2 => by
    obtain ⟨arr, ha⟩ := hq b e2
    exact hB.not_type ha (by decide) rfl⟩
  refine ⟨us ++ [u], (rOwn rAnyV).mono hS hown, by rw [List.length_append, List.length_append, h2]; rfl, fun k v x hk1 hx => ?_⟩
  by_cases hlt : k < us.length
  · rw [List.getElem?_append_left hlt] at hk1
    rw [List.getElem?_append_left (by omega)] at hx
    exact hk (h3 k v x hk1 hx)
  · have hk0 : k = us.length := by
      have := (List.getElem?_eq_some_iff.1 hk1).1
      rw [List.length_append, List.length_singleton] at this
      omega
    subst hk0
    rw [List.getElem?_append_right (Nat.le_refl _), Nat.sub_self] at hk1
    rw [List.getElem?_append_right (by omega), show us.length - ps.length = 0 from by omega] at hx
    simp at hk1 hx
    subst hk1; subst hx
    exact hk hu
/-- the append of a list of switches as a step of a region that draws -/
theorem step_appSwN {P : Program} {w : World} {ops : Array Oper} {o : Oper} {a : Act} {K : Act → World → Prop} {Q : Exit → Act → World → Prop} {Ep : Prop} (hgd : o.guard = none) (s xo : Operand) (t : TypeId)
    (ho : o.op = .call { callee := .builtin .append, args := #[s, xo], argTypes := #[t, t] })
    {z : Value} {bytes : Nat} (ht : P.underlying t = some (.slice 62)) (hinfo : (P.info? 62).map (fun i => (i.zero, i.size, i.bytes)) = some (some z, 4, bytes)) (hzs : z.cells.size = 4) (hb64 : bytes ≤ 64)
    (B : Nat) {v : Value} {l k : List Sw} {gb c : Nat} (hs : a.eval s = v) (hx : a.eval xo = .slice (some ⟨gb, 0, none⟩) k.length c) (hnew : SwBlk w gb k) (hown : OwnSw B w v l) (hlen : l.length + k.length < 1073741824) (hB : B ≤ w.heap.size)
    (h : ∀ v' w', OwnSw B w' v' (l ++ k) → Only (fun b => v.ownBlock = some b) w w' → K (a.put o.dst v') w') :
    if Region.wanted o (yielded ops a.tmps) = true then Oper.wp P o a w K Q else Ep := by
  have hw : Region.wanted o (yielded ops a.tmps) = true := by simp [Region.wanted, hgd]
  rw [if_pos hw]
  obtain ⟨i, hi, hz, hsize, hby⟩ := info_parts hinfo
  have hnews : ∀ j u, (swCs k)[j]? = some u → w.cell? ((⟨gb, 0, none⟩ : Addr).add j) = some u := by
    intro j u hj
    have e : (⟨gb, 0, none⟩ : Addr).add j = ⟨gb, j, none⟩ := by simp only [Addr.add, Nat.zero_add]; split <;> simp_all
    have hjl := (List.getElem?_eq_some_iff.1 hj).1
    rw [swCs_len] at hjl
    obtain ⟨sp, hsp⟩ : ∃ sp, k[j / 4]? = some sp := ⟨_, List.getElem?_eq_getElem (by omega)⟩
    have h4 := swCs_at hsp (j % 4) (Nat.mod_lt _ (by decide))
    rw [show j / 4 * 4 + j % 4 = j from by omega, hj] at h4
    have := hnew.cells hsp h4.symm
    rw [e]
    rwa [show j / 4 * 4 + j % 4 = j from by omega] at this
  refine wp_append_own (P := P) w s xo t ho B 62 i z 4 bytes ht hi hz hsize hby hzs (by decide) v l.length (swCs l) hs hown ⟨gb, 0, none⟩ k.length c (swCs k) hx (swCs_len k) hnews (fun u hu => ?_) (by simp [maxLen]; omega) (by
    have : (l.length + k.length) * bytes ≤ 1073741824 * 64 := Nat.mul_le_mul (by omega) hb64
    omega) hB ?_
  · obtain ⟨sp, hsp, h1⟩ := List.mem_flatMap.1 hu
    simp [swC] at h1
    rcases h1 with rfl | rfl | rfl | rfl <;> rfl
  · intro v' w' h1 h2 _
    exact h v' w' (by unfold OwnSw; rw [swCs_append, List.length_append]; exact h1) ⟨h2.os, h2.tape, h2.output, h2.size, fun b hb hn => h2.block b hb (fun e => hn e.symm)⟩
end Go.Proofs.YtlmjpmdkifoekaaDoor

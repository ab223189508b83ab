/- Slices of raw values; the states of SolvePuzzle. -/
import Derived.Test.YtekgnpdchpdfiaaS1
import Derived.Test.YtekgnpdchpdfiaaCopy
import Derived.Test.YtekgnpdchpdfiaaEqF
import Derived.Test.YtekgnpdchpdfiaaMem
namespace Go.Proofs.Ytekgnpdchpdfiaa
open Go.RowKit

def ValV : RepT Value := fun _ _ u x => u = x ∧ u.oneCell' = true
theorem rValV : Rep ValV := ⟨fun _ h => h, fun _ h => h, fun h => h, fun h => h.2⟩
/-- an append of a new box's one element, at a step of a region that draws: any regions -/
theorem step_appG {α : Type} {P : Program} {w0 : World} {ops : Array Oper} {o : Oper} {a : Act} {K : Act → World → Prop} {Q : Exit → Act → World → Prop} {Ep : Prop} (hgd : o.guard = none) (s xo : Operand) (t : TypeId)
    (ho : o.op = .call { callee := .builtin .append, args := #[s, xo], argTypes := #[t, t] }) {R : RepT α} (hR : Rep R)
    (E : TypeId) {z : Value} {bytes : Nat} (ht : P.underlying t = some (.slice E)) (hinfo : (P.info? E).map (fun i => (i.zero, i.size, i.bytes)) = some (some z, 1, bytes)) (hzs : z.cells.size = 1) (hb64 : bytes ≤ 64)
    (S T S' : Bk) {v u : Value} {xs : List α} {x : α} (hs : a.eval s = v) (hx : a.eval xo = .slice (some ⟨w0.heap.size, 0, none⟩) 1 1) (hown : Own E R S w0 v xs) (hu : R T w0 u x) (hST : ∀ b, S b → ¬ T b) (hS : ∀ b, S b → b < w0.heap.size) (hT : ∀ b, T b → b < w0.heap.size)
    (hS1 : ∀ b, S b → S' b) (hT1 : ∀ b, T b → S' b) (hN1 : ∀ b, w0.heap.size < b → S' b) (hlen : xs.length < 1099511627776)
    (h : ∀ v' w', Own E R (fun b => S' b ∧ b < w'.heap.size) w' v' (xs ++ [x]) → Only (fun b => v.ownBlock = some b) w0 w' → K (a.put o.dst v') w') :
    if Region.wanted o (yielded ops a.tmps) = true then Oper.wp P o a (w0.alloc (.cells #[u] E)) K Q else Ep := by
  have hw : Region.wanted o (yielded ops a.tmps) = true := by simp [Region.wanted, hgd]
  rw [if_pos hw]
  obtain ⟨i, hi, hz, hsize, hby⟩ := info_parts hinfo
  obtain ⟨v', w', hr, h2, h3⟩ := run_append1 (P := P) hR w0 t o.type E i z bytes ht hi hz hsize hby hzs hb64 S T S' v u xs x hown hu hST hS hT hS1 hT1 hN1 hlen
  unfold Oper.wp execOp
  simp only [ho, resolve, invoke, builtin, Sem.run_bind, Sem.run_pure, Result.andThen_ok, List.map_toArray, List.map_cons, List.map_nil, hs, hx, hr]
  exact h v' w' h2 h3
theorem Own.init {α : Type} {E : TypeId} {R : RepT α} {S : Bk} {w : World} {g n cap : Nat} {xs : List α} {x : α} (h : Own E R S w (.slice (some ⟨g, 0, none⟩) n cap) (xs ++ [x])) : n = xs.length + 1 ∧ n ≤ cap ∧ Own E R S w (.slice (some ⟨g, 0, none⟩) xs.length cap) xs := by
  rcases h with ⟨h, -⟩ | ⟨g', arr, he, hg, hh, h1, h2, h3, T, hT1, hT2, hT3⟩
  · cases h
  · simp only [Value.slice.injEq, Option.some.injEq, Addr.mk.injEq, and_true] at he
    obtain ⟨rfl, rfl, rfl⟩ := he
    rw [List.length_append, List.length_singleton] at h1 h3
    refine ⟨by simp, by rw [List.length_append, List.length_singleton]; omega, .inr ⟨g, arr, rfl, hg, hh, by omega, h2, by omega, T, hT1, hT2, fun k y hk => ?_⟩⟩
    have hkl := (List.getElem?_eq_some_iff.1 hk).1
    exact hT3 k y (by rw [List.getElem?_append_left hkl]; exact hk)
/-- the rows that the values stand for, read off blocks that are not written -/
def RowsOk (S : Bk) (w : World) (vals : List Value) (rows : List (List Int)) : Prop :=
  vals.length = rows.length ∧ ∀ (k : Nat) v x, vals[k]? = some v → rows[k]? = some x → Sl IntV (fun b => b < w.heap.size ∧ ¬ S b) w v x
theorem RowsOk.go {S S' : Bk} {w w' : World} {vals : List Value} {rows : List (List Int)} (h : RowsOk S w vals rows) (ho : Only S w w') (hS : ∀ b, S' b → S b ∨ w.heap.size ≤ b) : RowsOk S' w' vals rows := by
  refine ⟨h.1, fun k v x hv hx => ?_⟩
  refine (rSl rIntV).mono (fun b hb => ⟨Nat.lt_of_lt_of_le hb.1 ho.size, fun h' => ?_⟩) ((rSl rIntV).same (fun b hb => ho.block b hb.1 hb.2) (h.2 k v x hv hx))
  rcases hS b h' with h1 | h1
  · exact hb.2 h1
  · have := hb.1; omega
theorem RowsOk.snoc {S : Bk} {w : World} {vals : List Value} {rows : List (List Int)} {v : Value} {x : List Int} (h : RowsOk S w vals rows) (hv : Sl IntV (fun b => b < w.heap.size ∧ ¬ S b) w v x) : RowsOk S w (vals ++ [v]) (rows ++ [x]) := by
  have hl := h.1
  refine ⟨by simp [h.1], fun k v' x' h1 h2 => ?_⟩
  by_cases hk : k < vals.length
  · rw [List.getElem?_append_left hk] at h1
    rw [List.getElem?_append_left (by omega)] at h2
    exact h.2 k v' x' h1 h2
  · have hk2 : k = vals.length := by have := (List.getElem?_eq_some_iff.1 h1).1; simp at this; omega
    subst hk2
    rw [List.getElem?_append_right (Nat.le_refl _), Nat.sub_self] at h1
    rw [List.getElem?_append_right (by omega), hl, Nat.sub_self] at h2
    simp at h1 h2
    subst h1; subst h2; exact hv
theorem rows_grid {E : TypeId} {S Sm : Bk} {w : World} {vm : Value} {vals : List Value} {rows : List (List Int)} (hr : RowsOk S w vals rows) (hm : Own E ValV Sm w vm vals) : Grid w vm rows := by
  have hl := hr.1
  rcases hm with ⟨rfl, rfl⟩ | ⟨g, arr, rfl, hg, hh, h1, h2, h3, T, -, -, hT3⟩
  · have : rows = [] := List.eq_nil_of_length_eq_zero (by rw [← hl]; rfl)
    subst this
    exact ⟨none, 0, rfl, by simp, by simp, fun _ => rfl, fun h => by simp at h⟩
  · rw [hl] at h1 h3 ⊢
    refine ⟨_, _, rfl, h1, Nat.le_trans h3 (by decide), fun h => by simp at h, fun _ => ⟨g, 0, rfl, lt_of_block hh, fun k x hk => ?_⟩⟩
    have hkl := (List.getElem?_eq_some_iff.1 hk).1
    obtain ⟨v, hv⟩ : ∃ v, vals[k]? = some v := ⟨_, List.getElem?_eq_getElem (by omega)⟩
    obtain ⟨u, hu, rfl, -⟩ := hT3 k v hv
    refine ⟨u, by rw [cell_of_row w g _ arr E (0, 0) hh, Nat.zero_add]; exact hu, (rSl rIntV).mono (fun b hb => hb.1) (hr.2 k u x hv hk)⟩
/-- what SolvePuzzle writes -/
def Wr (Sm So : Bk) (Bm Bo : Nat) : Bk := fun b => Sm b ∨ So b ∨ b = Bm ∨ b = Bo
theorem wr_grow {Sm So Sm' So' : Bk} {Bm Bo n : Nat} (h1 : ∀ b, Sm' b → Sm b ∨ n ≤ b) (h2 : ∀ b, So' b → So b ∨ n ≤ b) : ∀ b, Wr Sm' So' Bm Bo b → Wr Sm So Bm Bo b ∨ n ≤ b := by
  rintro b (h | h | h | h)
  · exact (h1 b h).imp (fun h => .inl h) id
  · exact (h2 b h).imp (fun h => .inr (.inl h)) id
  · exact .inl (.inr (.inr (.inl h)))
  · exact .inl (.inr (.inr (.inr h)))
theorem infoGridsS : (Try.prog.info? 22).map (fun i => (i.zero, i.size, i.bytes)) = some (some (.slice none 0 0), 1, 24) := by kernel_rfl
structure SSt (n Bp Bm Bo Bf K : Nat) (a b F : Value) (W0 w : World) (vm : Value) (vals : List Value) (Sm : Bk) (vo : Value) (out : List (List (List Int))) (So : Bk) : Prop where
  base : Below n W0 w
  bp : Blk w Bp #[a, b] 28
  bm : Blk w Bm #[vm] 22
  bo : Blk w Bo #[vo] 36
  bf : Blk w Bf #[F] 65
  om : Own 41 ValV Sm w vm vals
  oo : Own 22 (Own 41 (Own 3 IntV)) So w vo out
  hm : ∀ b, Sm b → (K ≤ b ∧ b < w.heap.size) ∧ ¬ So b
  ho : ∀ b, So b → K ≤ b ∧ b < w.heap.size
  hK : K ≤ w.heap.size
structure SWf (n Bp Bm Bo Bf K : Nat) : Prop where
  h1 : n ≤ Bp
  h2 : Bp < Bo
  h3 : Bo < Bm
  h4 : Bm < Bf
  h5 : Bf < K
/-- the slice of rows made longer, in a new world -/
theorem SSt.push {n Bp Bm Bo Bf K : Nat} {a b F : Value} {W0 w w2 : World} {vm vm2 u : Value} {vals : List Value} {Sm So : Bk} {vo : Value} {out : List (List (List Int))} (wf : SWf n Bp Bm Bo Bf K) (h : SSt n Bp Bm Bo Bf K a b F W0 w vm vals Sm vo out So)
    (h2 : Own 41 ValV (fun b => (Sm b ∨ w.heap.size ≤ b) ∧ b < w2.heap.size) w2 vm2 (vals ++ [u])) (h3 : Only (fun b => vm.ownBlock = some b) w w2) :
    SSt n Bp Bm Bo Bf K a b F W0 (w2.setCell ⟨Bm, 0, none⟩ vm2) vm2 (vals ++ [u]) (fun b => (Sm b ∨ w.heap.size ≤ b) ∧ b < w2.heap.size) vo out So ∧ Only (Wr Sm So Bm Bo) w (w2.setCell ⟨Bm, 0, none⟩ vm2) := by
  obtain ⟨a1, a2, a3, a4, a5⟩ := wf
  have hs := h3.size
  have hK := h.hK
  have hne : ∀ g, g < K → ¬ (vm.ownBlock = some g) := fun g hg he => by have := (h.hm g (h.om.ownBlock' g he)).1.1; omega
  have kb : ∀ {g : Nat} {cs : Array Value} {t : TypeId}, Blk w g cs t → g < K → g ≠ Bm → Blk (w2.setCell ⟨Bm, 0, none⟩ vm2) g cs t := fun {g cs t} hg hl hn => Blk.set_ne (hg.only h3 (hne g hl)) hn vm2
  have hbel : Below n w w2 := h3.below (by omega) (fun b hb => by have := (h.hm b (h.om.ownBlock' b hb)).1.1; omega)
  have hcell : ∀ b, b ≠ Bm → (w2.setCell ⟨Bm, 0, none⟩ vm2).heap[b]? = w2.heap[b]? := fun b hb => Below.heap_setCell w2 _ _ b (by show b ≠ Bm; exact hb)
  refine ⟨⟨(h.base.trans hbel).setCell (by show n ≤ Bm; omega) _, kb h.bp (by omega) (by omega), ?_, kb h.bo (by omega) (by omega), kb h.bf (by omega) (by omega), ?_, ?_, fun b hb => ⟨⟨?_, by rw [size_setCell]; exact hb.2⟩, fun ho => ?_⟩, fun b hb => ⟨(h.ho b hb).1, by rw [size_setCell]; exact Nat.lt_of_lt_of_le (h.ho b hb).2 hs⟩, by rw [size_setCell]; omega⟩, ?_⟩
  · have h1 := (h.bm.only h3 (hne Bm (by omega))).set (j := 0) vm2
    simpa using h1
  · exact (rOwn rValV).same (fun b hb => hcell b (by have h6 : K ≤ b := (hb.1.elim (fun x => (h.hm b x).1.1) (fun x => by omega)); omega)) h2
  · refine (rOwn (rOwn (rOwn rIntV))).same (fun b hb => (hcell b (by have := (h.ho b hb).1; omega)).trans (h3.block b (h.ho b hb).2 fun he => (h.hm b (h.om.ownBlock' b he)).2 hb)) h.oo
  · exact hb.1.elim (fun x => (h.hm b x).1.1) (fun x => by omega)
  · rcases hb.1 with x | x
    · exact (h.hm b x).2 ho
    · have := (h.ho b ho).2; omega
  · exact (h3.mono fun b hb _ => .inl (h.om.ownBlock' b hb)).setCell (.inl (.inr (.inr (.inl rfl)))) _
/-- the slice of rows made shorter again -/
theorem SSt.pop {n Bp Bm Bo Bf K : Nat} {a b F : Value} {W0 w : World} {vm u : Value} {vals : List Value} {Sm So : Bk} {vo : Value} {out : List (List (List Int))} (wf : SWf n Bp Bm Bo Bf K) (h : SSt n Bp Bm Bo Bf K a b F W0 w vm (vals ++ [u]) Sm vo out So) :
    ∃ g cap, vm = .slice (some ⟨g, 0, none⟩) (vals.length + 1) cap ∧ vals.length + 1 ≤ cap ∧
      SSt n Bp Bm Bo Bf K a b F W0 (w.setCell ⟨Bm, 0, none⟩ (.slice (some ⟨g, 0, none⟩) vals.length cap)) (.slice (some ⟨g, 0, none⟩) vals.length cap) vals Sm vo out So ∧ Only (Wr Sm So Bm Bo) w (w.setCell ⟨Bm, 0, none⟩ (.slice (some ⟨g, 0, none⟩) vals.length cap)) := by
  obtain ⟨a1, a2, a3, a4, a5⟩ := wf
  have hK := h.hK
  have hom := h.om
  obtain ⟨g, cap, rfl, -⟩ := hom.inv_ne (by simp)
  obtain ⟨e1, e2, o2⟩ := hom.init
  have hl : (vals ++ [u]).length = vals.length + 1 := by simp
  rw [hl] at e2
  have kb : ∀ {g' : Nat} {cs : Array Value} {t : TypeId}, Blk w g' cs t → g' ≠ Bm → Blk (w.setCell ⟨Bm, 0, none⟩ (.slice (some ⟨g, 0, none⟩) vals.length cap)) g' cs t := fun {g' cs t} hg hn => Blk.set_ne hg hn _
  have hcell : ∀ b, b ≠ Bm → (w.setCell ⟨Bm, 0, none⟩ (.slice (some ⟨g, 0, none⟩) vals.length cap)).heap[b]? = w.heap[b]? := fun b hb => Below.heap_setCell w _ _ b (by show b ≠ Bm; exact hb)
  refine ⟨g, cap, by rw [hl], e2, ⟨h.base.setCell (by show n ≤ Bm; omega) _, kb h.bp (by omega), ?_, kb h.bo (by omega), kb h.bf (by omega), ?_, ?_, fun b hb => ⟨⟨(h.hm b hb).1.1, by rw [size_setCell]; exact (h.hm b hb).1.2⟩, (h.hm b hb).2⟩, fun b hb => ⟨(h.ho b hb).1, by rw [size_setCell]; exact (h.ho b hb).2⟩, by rw [size_setCell]; exact hK⟩, (Only.refl _ w).setCell (.inl (.inr (.inr (.inl rfl)))) _⟩
  · have h1 := h.bm.set (j := 0) (.slice (some ⟨g, 0, none⟩) vals.length cap)
    simpa using h1
  · exact (rOwn rValV).same (fun b hb => hcell b (by have := (h.hm b hb).1.1; omega)) o2
  · exact (rOwn (rOwn (rOwn rIntV))).same (fun b hb => hcell b (by have := (h.ho b hb).1; omega)) h.oo
/-- the list of solutions made longer -/
theorem SSt.more {n Bp Bm Bo Bf K : Nat} {a b F : Value} {W0 w w1 w2 : World} {vm vo2 : Value} {vals : List Value} {Sm So : Bk} {vo : Value} {out out2 : List (List (List Int))} (wf : SWf n Bp Bm Bo Bf K) (h : SSt n Bp Bm Bo Bf K a b F W0 w vm vals Sm vo out So) (hb1 : Below w.heap.size w w1)
    (h2 : Own 22 (Own 41 (Own 3 IntV)) (fun b => (So b ∨ w.heap.size ≤ b) ∧ b < w2.heap.size) w2 vo2 out2) (h3 : Only (fun b => vo.ownBlock = some b) w1 w2) :
    SSt n Bp Bm Bo Bf K a b F W0 (w2.setCell ⟨Bo, 0, none⟩ vo2) vm vals Sm vo2 out2 (fun b => (So b ∨ w.heap.size ≤ b) ∧ b < w2.heap.size) ∧ Only (Wr Sm So Bm Bo) w (w2.setCell ⟨Bo, 0, none⟩ vo2) := by
  obtain ⟨a1, a2, a3, a4, a5⟩ := wf
  have hs := h3.size
  have hs1 := hb1.size
  have hK := h.hK
  have hne : ∀ g, g < K → ¬ (vo.ownBlock = some g) := fun g hg he => by have := (h.ho g (h.oo.ownBlock' g he)).1; omega
  have kb : ∀ {g : Nat} {cs : Array Value} {t : TypeId}, Blk w g cs t → g < K → g ≠ Bo → Blk (w2.setCell ⟨Bo, 0, none⟩ vo2) g cs t := fun {g cs t} hg hl hn => Blk.set_ne ((hg.keep hb1).only h3 (hne g hl)) hn vo2
  have hbel : Below n w w2 := (hb1.mono (by omega)).trans (h3.below (by omega) (fun b hb => by have := (h.ho b (h.oo.ownBlock' b hb)).1; omega))
  have hcell : ∀ b, b ≠ Bo → (w2.setCell ⟨Bo, 0, none⟩ vo2).heap[b]? = w2.heap[b]? := fun b hb => Below.heap_setCell w2 _ _ b (by show b ≠ Bo; exact hb)
  refine ⟨⟨(h.base.trans hbel).setCell (by show n ≤ Bo; omega) _, kb h.bp (by omega) (by omega), kb h.bm (by omega) (by omega), ?_, kb h.bf (by omega) (by omega), ?_, ?_, fun b hb => ⟨⟨(h.hm b hb).1.1, by rw [size_setCell]; have := (h.hm b hb).1.2; omega⟩, fun ho => ?_⟩, fun b hb => ⟨?_, by rw [size_setCell]; exact hb.2⟩, by rw [size_setCell]; omega⟩, ?_⟩
  · have h1 := ((h.bo.keep hb1).only h3 (hne Bo (by omega))).set (j := 0) vo2
    simpa using h1
  · refine (rOwn rValV).same (fun b hb => (hcell b (by have := (h.hm b hb).1.1; omega)).trans ((h3.block b (by have := (h.hm b hb).1.2; omega) fun he => (h.hm b hb).2 (h.oo.ownBlock' b he)).trans (hb1.block b (h.hm b hb).1.2))) h.om
  · exact (rOwn (rOwn (rOwn rIntV))).same (fun b hb => hcell b (by have h6 : K ≤ b := (hb.1.elim (fun x => (h.ho b x).1) (fun x => by omega)); omega)) h2
  · rcases ho.1 with x | x
    · exact (h.hm b hb).2 x
    · have := (h.hm b hb).1.2; omega
  · exact hb.1.elim (fun x => (h.ho b x).1) (fun x => by omega)
  · exact ((Only.of_pure hb1 _).trans' (h3.mono fun b hb _ => .inl (.inr (.inl (h.oo.ownBlock' b hb))))).setCell (.inl (.inr (.inr (.inr rfl)))) _
end Go.Proofs.Ytekgnpdchpdfiaa

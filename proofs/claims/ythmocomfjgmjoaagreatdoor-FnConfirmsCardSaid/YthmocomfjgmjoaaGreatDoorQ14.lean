/- Contracts and plain laws that the claims on sessions use. No condition of their own. -/
import Derived.Test.YthmocomfjgmjoaaGreatDoorQ13
import Derived.Test.YthmocomfjgmjoaaGreatDoorQ07
import Derived.Test.YthmocomfjgmjoaaGreatDoorQ08
import Derived.Test.YthmocomfjgmjoaaGreatDoorQ02
import Derived.Test.YthmocomfjgmjoaaGreatDoorQ06
import Derived.Test.YthmocomfjgmjoaaGreatDoorQ01
import Derived.Laws.EntriesVeiled
import Derived.Deep.DeepCutAuto
import Derived.Deep.RegionLaw
import Derived.Test.YthmocomfjgmjoaaGreatDoorQ05
import Derived.Test.YthmocomfjgmjoaaGreatDoorQ12
set_option maxHeartbeats 4000000
set_option maxRecDepth 100000
namespace Go.Proofs.YthmocomfjgmjoaaGreatDoor
def solves (R C : List (List Int)) : Nat → List (List Int) → List (List (List Int))
  | 0, rows => if pzCols rows = C then [rows] else []
  | f + 1, rows => (linesFor (R.getD rows.length []) C.length).flatMap fun l => solves R C f (rows ++ [l])
def solvesTo (R C : List (List Int)) (f : Nat) (rows : List (List Int)) (L : List (List Int)) (k : Nat) : List (List (List Int)) := (L.take k).flatMap fun l => solves R C f (rows ++ [l])
theorem solvesTo_zero (R C : List (List Int)) (f : Nat) (rows L : List (List Int)) : solvesTo R C f rows L 0 = [] := by simp [solvesTo]
theorem solvesTo_succ {R C : List (List Int)} {f : Nat} {rows L : List (List Int)} {k : Nat} {l : List Int} (h : L[k]? = some l) : solvesTo R C f rows L (k + 1) = solvesTo R C f rows L k ++ solves R C f (rows ++ [l]) := by
  unfold solvesTo
  rw [List.take_add_one, h, List.flatMap_append]
  simp
theorem solvesTo_all {R C : List (List Int)} {f : Nat} {rows L : List (List Int)} {k : Nat} (hL : L = linesFor (R.getD rows.length []) C.length) (hk : L.length ≤ k) : solvesTo R C f rows L k = solves R C (f + 1) rows := by
  unfold solvesTo
  rw [List.take_of_length_le hk, solves, hL]
theorem lines_fact : ∀ n, n < 6 → ∀ key, key < 2 ^ n → (linesFor (runsOf (bitsLine n key)) n).length ≤ 6 := by decide +kernel
theorem lines_six {n : Nat} (h : n ≤ 5) (rs : List Int) : (linesFor rs n).length ≤ 6 := by
  cases hl : linesFor rs n with
  | nil => simp
  | cons a l =>
    have hm : a ∈ linesFor rs n := by rw [hl]; simp
    have hm2 := hm
    unfold linesFor linesTo at hm2
    obtain ⟨h1, h2⟩ := List.mem_filter.1 hm2
    obtain ⟨key, hk, rfl⟩ := List.mem_map.1 h1
    have h3 : runsOf (bitsLine n key) = rs := by simpa using h2
    have := lines_fact n (by omega) key (List.mem_range.1 hk)
    rw [h3, hl] at this
    exact this
theorem flat_len {α β : Type} (g : α → List β) (N : Nat) : ∀ (L : List α), (∀ x ∈ L, (g x).length ≤ N) → (L.flatMap g).length ≤ L.length * N
  | [], _ => by simp
  | x :: L, h => by
    rw [List.flatMap_cons, List.length_append, List.length_cons, Nat.succ_mul]
    have h1 := h x (by simp)
    have h2 := flat_len g N L (fun y hy => h y (List.mem_cons_of_mem _ hy))
    omega
theorem solves_len {R C : List (List Int)} (hc : C.length ≤ 5) : ∀ (f : Nat) (rows : List (List Int)), (solves R C f rows).length ≤ 6 ^ f := by
  intro f
  induction f with
  | zero => intro rows; unfold solves; split <;> simp
  | succ f ih =>
    intro rows
    unfold solves
    have h1 := flat_len (fun l => solves R C f (rows ++ [l])) (6 ^ f) (linesFor (R.getD rows.length []) C.length) (fun l _ => ih _)
    have h2 := Nat.mul_le_mul_right (6 ^ f) (lines_six hc (R.getD rows.length []))
    rw [Nat.pow_succ]
    omega
theorem solvesTo_len {R C : List (List Int)} (hc : C.length ≤ 5) (f : Nat) (rows L : List (List Int)) (k : Nat) : (solvesTo R C f rows L k).length ≤ k * 6 ^ f := by
  unfold solvesTo
  have h1 := flat_len (fun l => solves R C f (rows ++ [l])) (6 ^ f) (L.take k) (fun l _ => solves_len hc _ _)
  have h2 : (L.take k).length ≤ k := by rw [List.length_take]; omega
  exact Nat.le_trans h1 (Nat.mul_le_mul_right _ h2)
def BRows (c : Nat) (rows : List (List Int)) : Prop := ∀ row ∈ rows, row.length = c ∧ ∀ x ∈ row, 0 ≤ x ∧ x ≤ 1
theorem BRows.snoc {c : Nat} {rows : List (List Int)} {rs l : List Int} (h : BRows c rows) (hl : l ∈ linesFor rs c) : BRows c (rows ++ [l]) := by
  intro row hrow
  rcases List.mem_append.1 hrow with h1 | h1
  · exact h row h1
  · rw [List.mem_singleton] at h1
    subst h1
    exact linesTo_mem hl
def solutions (R C : List (List Int)) : List (List (List Int)) := if puzzleOk R C then solves R C R.length [] else []
theorem solutions_no {R C : List (List Int)} (h : puzzleOk R C = false) : solutions R C = [] := by unfold solutions; rw [h]; rfl
theorem solutions_yes {R C : List (List Int)} (h : puzzleOk R C = true) : solutions R C = solves R C R.length [] := by unfold solutions; rw [h]; rfl
end Go.Proofs.YthmocomfjgmjoaaGreatDoor
namespace Go.Proofs.YthmocomfjgmjoaaGreatDoor
open Go.RowKit
def ValV : RepT Value := fun _ _ u x => u = x ∧ u.oneCell' = true
theorem rValV : Rep ValV := ⟨fun _ h => h, fun _ h => h, fun h => h, fun h => h.2⟩
theorem step_appG {α : Type} {P : Program} {w0 : World} {ops : Array Oper} {o : Oper} {a : Act} {K : Act → World → Prop} {Q : Exit → Act → World → Prop} {Ep : Prop} (hgd : o.guard = none) (s xo : Operand) (t : TypeId)
    (ho : o.op = .call { callee := .builtin .append, args := #[s, xo], argTypes := #[t, t] }) {R : RepT α} (hR : Rep R)
    (E : TypeId) {z : Value} {bytes : Nat} (ht : P.underlying t = some (.slice E)) (hinfo : (P.info? E).map (fun i => (i.zero, i.size, i.bytes)) = some (some z, 1, bytes)) (hzs : z.cells.size = 1) (hb64 : bytes ≤ 64)
    (S T S' : Bk) {v u : Value} {xs : List α} {x : α} (hs : a.eval s = v) (hx : a.eval xo = .slice (some ⟨w0.heap.size, 0, none⟩) 1 1) (hown : Own E R S w0 v xs) (hu : R T w0 u x) (hST : ∀ b, S b → ¬ T b) (hS : ∀ b, S b → b < w0.heap.size) (hT : ∀ b, T b → b < w0.heap.size)
    (hS1 : ∀ b, S b → S' b) (hT1 : ∀ b, T b → S' b) (hN1 : ∀ b, w0.heap.size < b → S' b) (hlen : xs.length < 1099511627776)
    (h : ∀ v' w', Own E R (fun b => S' b ∧ b < w'.heap.size) w' v' (xs ++ [x]) → Only (fun b => v.ownBlock = some b) w0 w' → K (a.put o.dst v') w') :
    if Region.wanted o (yielded ops a.tmps) = true then Oper.wp P o a (w0.alloc (.cells #[u] E)) K Q else Ep := by
  have hw : Region.wanted o (yielded ops a.tmps) = true := by simp [Region.wanted, hgd]
  rw [if_pos hw]
  obtain ⟨i, hi, hz, hsize, hby⟩ := info_parts hinfo
  obtain ⟨v', w', hr, h2, h3⟩ := run_append1 (P := P) hR w0 t o.type E i z bytes ht hi hz hsize hby hzs hb64 S T S' v u xs x hown hu hST hS hT hS1 hT1 hN1 hlen
  unfold Oper.wp execOp
  simp only [ho, resolve, invoke, builtin, Sem.run_bind, Sem.run_pure, Result.andThen_ok, List.map_toArray, List.map_cons, List.map_nil, hs, hx, hr]
  exact h v' w' h2 h3
theorem Own.init {α : Type} {E : TypeId} {R : RepT α} {S : Bk} {w : World} {g n cap : Nat} {xs : List α} {x : α} (h : Own E R S w (.slice (some ⟨g, 0, none⟩) n cap) (xs ++ [x])) : n = xs.length + 1 ∧ n ≤ cap ∧ Own E R S w (.slice (some ⟨g, 0, none⟩) xs.length cap) xs := by
  rcases h with ⟨h, -⟩ | ⟨g', arr, he, hg, hh, h1, h2, h3, T, hT1, hT2, hT3⟩
  · cases h
  · simp only [Value.slice.injEq, Option.some.injEq, Addr.mk.injEq, and_true] at he
    obtain ⟨rfl, rfl, rfl⟩ := he
    rw [List.length_append, List.length_singleton] at h1 h3
    refine ⟨by simp, by rw [List.length_append, List.length_singleton]; omega, .inr ⟨g, arr, rfl, hg, hh, by omega, h2, by omega, T, hT1, hT2, fun k y hk => ?_⟩⟩
    have hkl := (List.getElem?_eq_some_iff.1 hk).1
    exact hT3 k y (by rw [List.getElem?_append_left hkl]; exact hk)
def RowsOk (S : Bk) (w : World) (vals : List Value) (rows : List (List Int)) : Prop :=
  vals.length = rows.length ∧ ∀ (k : Nat) v x, vals[k]? = some v → rows[k]? = some x → Sl IntV (fun b => b < w.heap.size ∧ ¬ S b) w v x
theorem RowsOk.go {S S' : Bk} {w w' : World} {vals : List Value} {rows : List (List Int)} (h : RowsOk S w vals rows) (ho : Only S w w') (hS : ∀ b, S' b → S b ∨ w.heap.size ≤ b) : RowsOk S' w' vals rows := by
  refine ⟨h.1, fun k v x hv hx => ?_⟩
  refine (rSl rIntV).mono (fun b hb => ⟨Nat.lt_of_lt_of_le hb.1 ho.size, fun h' => ?_⟩) ((rSl rIntV).same (fun b hb => ho.block b hb.1 hb.2) (h.2 k v x hv hx))
  rcases hS b h' with h1 | h1
  · exact hb.2 h1
  · have := hb.1; omega
theorem RowsOk.snoc {S : Bk} {w : World} {vals : List Value} {rows : List (List Int)} {v : Value} {x : List Int} (h : RowsOk S w vals rows) (hv : Sl IntV (fun b => b < w.heap.size ∧ ¬ S b) w v x) : RowsOk S w (vals ++ [v]) (rows ++ [x]) := by
  have hl := h.1
  refine ⟨by simp [h.1], fun k v' x' h1 h2 => ?_⟩
  by_cases hk : k < vals.length
  · rw [List.getElem?_append_left hk] at h1
    rw [List.getElem?_append_left (by omega)] at h2
    exact h.2 k v' x' h1 h2
  · have hk2 : k = vals.length := by have := (List.getElem?_eq_some_iff.1 h1).1; simp at this; omega
    subst hk2
    rw [List.getElem?_append_right (Nat.le_refl _), Nat.sub_self] at h1
    rw [List.getElem?_append_right (by omega), hl, Nat.sub_self] at h2
    simp at h1 h2
    subst h1; subst h2; exact hv
theorem rows_grid {E : TypeId} {S Sm : Bk} {w : World} {vm : Value} {vals : List Value} {rows : List (List Int)} (hr : RowsOk S w vals rows) (hm : Own E ValV Sm w vm vals) : Grid w vm rows := by
  have hl := hr.1
  rcases hm with ⟨rfl, rfl⟩ | ⟨g, arr, rfl, hg, hh, h1, h2, h3, T, -, -, hT3⟩
  · have : rows = [] := List.eq_nil_of_length_eq_zero (by rw [← hl]; rfl)
    subst this
    exact ⟨none, 0, rfl, by simp, by simp, fun _ => rfl, fun h => by simp at h⟩
  · rw [hl] at h1 h3 ⊢
    refine ⟨_, _, rfl, h1, Nat.le_trans h3 (by decide), fun h => by simp at h, fun _ => ⟨g, 0, rfl, lt_of_block hh, fun k x hk => ?_⟩⟩
    have hkl := (List.getElem?_eq_some_iff.1 hk).1
    obtain ⟨v, hv⟩ : ∃ v, vals[k]? = some v := ⟨_, List.getElem?_eq_getElem (by omega)⟩
    obtain ⟨u, hu, rfl, -⟩ := hT3 k v hv
    refine ⟨u, by rw [cell_of_row w g _ arr E (0, 0) hh, Nat.zero_add]; exact hu, (rSl rIntV).mono (fun b hb => hb.1) (hr.2 k u x hv hk)⟩
def Wr (Sm So : Bk) (Bm Bo : Nat) : Bk := fun b => Sm b ∨ So b ∨ b = Bm ∨ b = Bo
theorem wr_grow {Sm So Sm' So' : Bk} {Bm Bo n : Nat} (h1 : ∀ b, Sm' b → Sm b ∨ n ≤ b) (h2 : ∀ b, So' b → So b ∨ n ≤ b) : ∀ b, Wr Sm' So' Bm Bo b → Wr Sm So Bm Bo b ∨ n ≤ b := by
  rintro b (h | h | h | h)
  · exact (h1 b h).imp (fun h => .inl h) id
  · exact (h2 b h).imp (fun h => .inr (.inl h)) id
  · exact .inl (.inr (.inr (.inl h)))
  · exact .inl (.inr (.inr (.inr h)))
theorem infoGridsS : (Tryz.prog.info? 31).map (fun i => (i.zero, i.size, i.bytes)) = some (some (.slice none 0 0), 1, 24) := by kernel_rfl
structure SSt (n Bp Bm Bo Bf K : Nat) (a b F : Value) (W0 w : World) (vm : Value) (vals : List Value) (Sm : Bk) (vo : Value) (out : List (List (List Int))) (So : Bk) : Prop where
  base : Below n W0 w
  bp : Blk w Bp #[a, b] 85
  bm : Blk w Bm #[vm] 31
  bo : Blk w Bo #[vo] 77
  bf : Blk w Bf #[F] 138
  om : Own 32 ValV Sm w vm vals
  oo : Own 31 (Own 32 (Own 3 IntV)) So w vo out
  hm : ∀ b, Sm b → (K ≤ b ∧ b < w.heap.size) ∧ ¬ So b
  ho : ∀ b, So b → K ≤ b ∧ b < w.heap.size
  hK : K ≤ w.heap.size
structure SWf (n Bp Bm Bo Bf K : Nat) : Prop where
  h1 : n ≤ Bp
  h2 : Bp < Bo
  h3 : Bo < Bm
  h4 : Bm < Bf
  h5 : Bf < K
theorem SSt.push {n Bp Bm Bo Bf K : Nat} {a b F : Value} {W0 w w2 : World} {vm vm2 u : Value} {vals : List Value} {Sm So : Bk} {vo : Value} {out : List (List (List Int))} (wf : SWf n Bp Bm Bo Bf K) (h : SSt n Bp Bm Bo Bf K a b F W0 w vm vals Sm vo out So)
    (h2 : Own 32 ValV (fun b => (Sm b ∨ w.heap.size ≤ b) ∧ b < w2.heap.size) w2 vm2 (vals ++ [u])) (h3 : Only (fun b => vm.ownBlock = some b) w w2) :
    SSt n Bp Bm Bo Bf K a b F W0 (w2.setCell ⟨Bm, 0, none⟩ vm2) vm2 (vals ++ [u]) (fun b => (Sm b ∨ w.heap.size ≤ b) ∧ b < w2.heap.size) vo out So ∧ Only (Wr Sm So Bm Bo) w (w2.setCell ⟨Bm, 0, none⟩ vm2) := by
  obtain ⟨a1, a2, a3, a4, a5⟩ := wf
  have hs := h3.size
  have hK := h.hK
  have hne : ∀ g, g < K → ¬ (vm.ownBlock = some g) := fun g hg he => by have := (h.hm g (h.om.ownBlock' g he)).1.1; omega
  have kb : ∀ {g : Nat} {cs : Array Value} {t : TypeId}, Blk w g cs t → g < K → g ≠ Bm → Blk (w2.setCell ⟨Bm, 0, none⟩ vm2) g cs t := fun {g cs t} hg hl hn => Blk.set_ne (hg.only h3 (hne g hl)) hn vm2
  have hbel : Below n w w2 := h3.below (by omega) (fun b hb => by have := (h.hm b (h.om.ownBlock' b hb)).1.1; omega)
  have hcell : ∀ b, b ≠ Bm → (w2.setCell ⟨Bm, 0, none⟩ vm2).heap[b]? = w2.heap[b]? := fun b hb => Below.heap_setCell w2 _ _ b (by show b ≠ Bm; exact hb)
  refine ⟨⟨(h.base.trans hbel).setCell (by show n ≤ Bm; omega) _, kb h.bp (by omega) (by omega), ?_, kb h.bo (by omega) (by omega), kb h.bf (by omega) (by omega), ?_, ?_, fun b hb => ⟨⟨?_, by rw [size_setCell]; exact hb.2⟩, fun ho => ?_⟩, fun b hb => ⟨(h.ho b hb).1, by rw [size_setCell]; exact Nat.lt_of_lt_of_le (h.ho b hb).2 hs⟩, by rw [size_setCell]; omega⟩, ?_⟩
  · have h1 := (h.bm.only h3 (hne Bm (by omega))).set (j := 0) vm2
    simpa using h1
  · exact (rOwn rValV).same (fun b hb => hcell b (by have h6 : K ≤ b := (hb.1.elim (fun x => (h.hm b x).1.1) (fun x => by omega)); omega)) h2
  · refine (rOwn (rOwn (rOwn rIntV))).same (fun b hb => (hcell b (by have := (h.ho b hb).1; omega)).trans (h3.block b (h.ho b hb).2 fun he => (h.hm b (h.om.ownBlock' b he)).2 hb)) h.oo
  · exact hb.1.elim (fun x => (h.hm b x).1.1) (fun x => by omega)
  · rcases hb.1 with x | x
    · exact (h.hm b x).2 ho
    · have := (h.ho b ho).2; omega
  · exact (h3.mono fun b hb _ => .inl (h.om.ownBlock' b hb)).setCell (.inl (.inr (.inr (.inl rfl)))) _
theorem SSt.pop {n Bp Bm Bo Bf K : Nat} {a b F : Value} {W0 w : World} {vm u : Value} {vals : List Value} {Sm So : Bk} {vo : Value} {out : List (List (List Int))} (wf : SWf n Bp Bm Bo Bf K) (h : SSt n Bp Bm Bo Bf K a b F W0 w vm (vals ++ [u]) Sm vo out So) :
    ∃ g cap, vm = .slice (some ⟨g, 0, none⟩) (vals.length + 1) cap ∧ vals.length + 1 ≤ cap ∧
      SSt n Bp Bm Bo Bf K a b F W0 (w.setCell ⟨Bm, 0, none⟩ (.slice (some ⟨g, 0, none⟩) vals.length cap)) (.slice (some ⟨g, 0, none⟩) vals.length cap) vals Sm vo out So ∧ Only (Wr Sm So Bm Bo) w (w.setCell ⟨Bm, 0, none⟩ (.slice (some ⟨g, 0, none⟩) vals.length cap)) := by
  obtain ⟨a1, a2, a3, a4, a5⟩ := wf
  have hK := h.hK
  have hom := h.om
  obtain ⟨g, cap, rfl, -⟩ := hom.inv_ne (by simp)
  obtain ⟨e1, e2, o2⟩ := hom.init
  have hl : (vals ++ [u]).length = vals.length + 1 := by simp
  rw [hl] at e2
  have kb : ∀ {g' : Nat} {cs : Array Value} {t : TypeId}, Blk w g' cs t → g' ≠ Bm → Blk (w.setCell ⟨Bm, 0, none⟩ (.slice (some ⟨g, 0, none⟩) vals.length cap)) g' cs t := fun {g' cs t} hg hn => Blk.set_ne hg hn _
  have hcell : ∀ b, b ≠ Bm → (w.setCell ⟨Bm, 0, none⟩ (.slice (some ⟨g, 0, none⟩) vals.length cap)).heap[b]? = w.heap[b]? := fun b hb => Below.heap_setCell w _ _ b (by show b ≠ Bm; exact hb)
  refine ⟨g, cap, by rw [hl], e2, ⟨h.base.setCell (by show n ≤ Bm; omega) _, kb h.bp (by omega), ?_, kb h.bo (by omega), kb h.bf (by omega), ?_, ?_, fun b hb => ⟨⟨(h.hm b hb).1.1, by rw [size_setCell]; exact (h.hm b hb).1.2⟩, (h.hm b hb).2⟩, fun b hb => ⟨(h.ho b hb).1, by rw [size_setCell]; exact (h.ho b hb).2⟩, by rw [size_setCell]; exact hK⟩, (Only.refl _ w).setCell (.inl (.inr (.inr (.inl rfl)))) _⟩
  · have h1 := h.bm.set (j := 0) (.slice (some ⟨g, 0, none⟩) vals.length cap)
    simpa using h1
  · exact (rOwn rValV).same (fun b hb => hcell b (by have := (h.hm b hb).1.1; omega)) o2
  · exact (rOwn (rOwn (rOwn rIntV))).same (fun b hb => hcell b (by have := (h.ho b hb).1; omega)) h.oo
theorem SSt.more {n Bp Bm Bo Bf K : Nat} {a b F : Value} {W0 w w1 w2 : World} {vm vo2 : Value} {vals : List Value} {Sm So : Bk} {vo : Value} {out out2 : List (List (List Int))} (wf : SWf n Bp Bm Bo Bf K) (h : SSt n Bp Bm Bo Bf K a b F W0 w vm vals Sm vo out So) (hb1 : Below w.heap.size w w1)
    (h2 : Own 31 (Own 32 (Own 3 IntV)) (fun b => (So b ∨ w.heap.size ≤ b) ∧ b < w2.heap.size) w2 vo2 out2) (h3 : Only (fun b => vo.ownBlock = some b) w1 w2) :
    SSt n Bp Bm Bo Bf K a b F W0 (w2.setCell ⟨Bo, 0, none⟩ vo2) vm vals Sm vo2 out2 (fun b => (So b ∨ w.heap.size ≤ b) ∧ b < w2.heap.size) ∧ Only (Wr Sm So Bm Bo) w (w2.setCell ⟨Bo, 0, none⟩ vo2) := by
  obtain ⟨a1, a2, a3, a4, a5⟩ := wf
  have hs := h3.size
  have hs1 := hb1.size
  have hK := h.hK
  have hne : ∀ g, g < K → ¬ (vo.ownBlock = some g) := fun g hg he => by have := (h.ho g (h.oo.ownBlock' g he)).1; omega
  have kb : ∀ {g : Nat} {cs : Array Value} {t : TypeId}, Blk w g cs t → g < K → g ≠ Bo → Blk (w2.setCell ⟨Bo, 0, none⟩ vo2) g cs t := fun {g cs t} hg hl hn => Blk.set_ne ((hg.keep hb1).only h3 (hne g hl)) hn vo2
  have hbel : Below n w w2 := (hb1.mono (by omega)).trans (h3.below (by omega) (fun b hb => by have := (h.ho b (h.oo.ownBlock' b hb)).1; omega))
  have hcell : ∀ b, b ≠ Bo → (w2.setCell ⟨Bo, 0, none⟩ vo2).heap[b]? = w2.heap[b]? := fun b hb => Below.heap_setCell w2 _ _ b (by show b ≠ Bo; exact hb)
  refine ⟨⟨(h.base.trans hbel).setCell (by show n ≤ Bo; omega) _, kb h.bp (by omega) (by omega), kb h.bm (by omega) (by omega), ?_, kb h.bf (by omega) (by omega), ?_, ?_, fun b hb => ⟨⟨(h.hm b hb).1.1, by rw [size_setCell]; have := (h.hm b hb).1.2; omega⟩, fun ho => ?_⟩, fun b hb => ⟨?_, by rw [size_setCell]; exact hb.2⟩, by rw [size_setCell]; omega⟩, ?_⟩
  · have h1 := ((h.bo.keep hb1).only h3 (hne Bo (by omega))).set (j := 0) vo2
    simpa using h1
  · refine (rOwn rValV).same (fun b hb => (hcell b (by have := (h.hm b hb).1.1; omega)).trans ((h3.block b (by have := (h.hm b hb).1.2; omega) fun he => (h.hm b hb).2 (h.oo.ownBlock' b he)).trans (hb1.block b (h.hm b hb).1.2))) h.om
  · exact (rOwn (rOwn (rOwn rIntV))).same (fun b hb => hcell b (by have h6 : K ≤ b := (hb.1.elim (fun x => (h.ho b x).1) (fun x => by omega)); omega)) h2
  · rcases ho.1 with x | x
    · exact (h.hm b hb).2 x
    · have := (h.hm b hb).1.2; omega
  · exact hb.1.elim (fun x => (h.ho b x).1) (fun x => by omega)
  · exact ((Only.of_pure hb1 _).trans' (h3.mono fun b hb _ => .inl (.inr (.inl (h.oo.ownBlock' b hb))))).setCell (.inl (.inr (.inr (.inr rfl)))) _
theorem SSt.keep {n Bp Bm Bo Bf K : Nat} {a b F : Value} {W0 w w' : World} {vm : Value} {vals : List Value} {Sm So : Bk} {vo : Value} {out : List (List (List Int))} (wf : SWf n Bp Bm Bo Bf K) (h : SSt n Bp Bm Bo Bf K a b F W0 w vm vals Sm vo out So) (hb : Below w.heap.size w w') : SSt n Bp Bm Bo Bf K a b F W0 w' vm vals Sm vo out So := by
  obtain ⟨a1, a2, a3, a4, a5⟩ := wf
  have hs := hb.size
  have hK := h.hK
  exact ⟨h.base.trans (hb.mono (by omega)), h.bp.keep hb, h.bm.keep hb, h.bo.keep hb, h.bf.keep hb, (rOwn rValV).same (sameOn_below hb fun b hb => (h.hm b hb).1.2) h.om, (rOwn (rOwn (rOwn rIntV))).same (sameOn_below hb fun b hb => (h.ho b hb).2) h.oo,
    fun b hb => ⟨⟨(h.hm b hb).1.1, Nat.lt_of_lt_of_le (h.hm b hb).1.2 hs⟩, (h.hm b hb).2⟩, fun b hb => ⟨(h.ho b hb).1, Nat.lt_of_lt_of_le (h.ho b hb).2 hs⟩, Nat.le_trans hK hs⟩
def SPost (n Bp Bm Bo Bf K : Nat) (a b F : Value) (W0 w : World) (vals : List Value) (Sm So : Bk) (out : List (List (List Int))) (w' : World) : Prop :=
  ∃ vm' Sm' vo' So', SSt n Bp Bm Bo Bf K a b F W0 w' vm' vals Sm' vo' out So' ∧ (∀ b, Sm' b → Sm b ∨ w.heap.size ≤ b) ∧ (∀ b, So' b → So b ∨ w.heap.size ≤ b) ∧ Only (Wr Sm So Bm Bo) w w'
theorem sput_c {n Bp Bm Bo Bf K : Nat} {a b F : Value} {W0 : World} {R C : List (List Int)} (wf : SWf n Bp Bm Bo Bf K) (hF : F = .func (.func 177) #[] #[.pointer (some ⟨Bp, 0, none⟩), .pointer (some ⟨Bm, 0, none⟩), .pointer (some ⟨Bo, 0, none⟩), .pointer (some ⟨Bf, 0, none⟩)])
    (hn : W0.heap.size ≤ n) (_ : n ≤ W0.heap.size) (ha : Grid W0 a R) (hb : Grid W0 b C) (hR1 : 1 ≤ R.length) (hR5 : R.length ≤ 5) (hC1 : 1 ≤ C.length) (hC5 : C.length ≤ 5) (f : Nat) :
    ∀ (vals : List Value) (rows : List (List Int)) (vm : Value) (Sm : Bk) (vo : Value) (So : Bk) (out : List (List (List Int))) (w : World), SSt n Bp Bm Bo Bf K a b F W0 w vm vals Sm vo out So → RowsOk (Wr Sm So Bm Bo) w vals rows → BRows C.length rows → rows.length + f = R.length → out.length + 6 ^ f ≤ 1099511627775 →
      Calls Tryz.prog 177 #[.int .i64 rows.length, .pointer (some ⟨Bp, 0, none⟩), .pointer (some ⟨Bm, 0, none⟩), .pointer (some ⟨Bo, 0, none⟩), .pointer (some ⟨Bf, 0, none⟩)] w fun e w' => e = .returned (.tuple #[]) ∧ SPost n Bp Bm Bo Bf K a b F W0 w vals Sm So (out ++ solves R C f rows) w' := by
  subst hF
  have Wf := Lib.hid wf
  have Ha := Lib.hid ha
  have Hb := Lib.hid hb
  obtain ⟨aa, ca, rfl, -, hleR, -⟩ := ha
  obtain ⟨ab, cb, rfl, -, hleC, -⟩ := hb
  have hBo : Bo < K := by have := wf.h3; have := wf.h4; have := wf.h5; omega
  induction f with
  | zero =>
    intro vals rows vm Sm vo So out w hst hrok hbr hlen hout
    have Hst := Lib.hid hst
    have Hrok := Lib.hid hrok
    have hlr : rows.length ≤ R.length := by omega
    have hlr2 : R.length ≤ rows.length := by omega
    have hyb : ((rows.length : Int) == (R.length : Int)) = true := by rw [beq_iff_eq]; omega
    have c0 : w.cell? ⟨Bp, 0, none⟩ = some (.slice aa R.length ca) := hst.bp.cell 0
    have c2 : w.cell? ⟨Bm, 0, none⟩ = some vm := hst.bm.cell 0
    have HG := Lib.hid (rows_grid hrok hst.om)
    have Hbr := Lib.hid hbr
    have Hout := Lib.hid hout
    have hK := hst.hK
    clear hst hrok hbr hlen hout
    go_enter Tryz.func177, Tryz.ntmps177
    go_wp2_with (fail)
    refine (PuzzleOf_i _ rows _ HG.out).mono ?_
    rintro e w1 ⟨a1, b1, rfl, o1, hb1⟩
    obtain ⟨⟨p1, p2, p3, rfl⟩, ⟨q1, q2, q3, rfl⟩⟩ := o1.shape
    have Hb1 := Lib.hid hb1
    have Hst1 := Lib.hid (Hst.out.keep Wf.out hb1)
    have e1 : (w1.alloc (.cells #[.slice p1 p2 p3, .slice q1 q2 q3] 85)).cell? ⟨Bp, 1, none⟩ = some (.slice ab C.length cb) := (Hst1.out.bp.keep (Below.pureAlloc _ _)).cell 1
    have HGx := Lib.hid o1.reads.2
    clear o1 hb1 c0 c2
    go_wp2_with (fail)
    refine (SameImage_i_c _ _ (pzCols rows) C _ (HGx.out.keep (Below.pureAlloc _ _)) ((Hb.out.keep (Hst1.out.base.mono hn)).keep (Below.pureAlloc _ _))).mono ?_
    rintro e w2 ⟨rfl, b2⟩
    have hb2 : Below w.heap.size w w2 := (Hb1.out.trans_pure (Below.pureAlloc _ _) (Nat.le_refl _)).trans_pure b2 (Nat.le_refl _)
    have Hb2 := Lib.hid hb2
    have Hst2 := Lib.hid (Hst.out.keep Wf.out hb2)
    clear b2 hb2 e1
    by_cases hq : pzCols rows = C
    · have Hsol := Lib.hid (show solves R C 0 rows = [rows] from by unfold solves; rw [if_pos hq])
      rw [decide_eq_true hq]
      have hlenO : out.length < 1099511627776 := Nat.lt_of_le_of_lt (Nat.le_trans (Nat.le_add_right _ _) Hout.out) (by decide)
      have hml : rows.length ≤ 1048576 := by omega
      have HR := Lib.hid (show ∀ p ∈ rows, p.length ≤ 1048576 from fun p hp => by have := (Hbr.out p hp).1; omega)
      have HG2 := Lib.hid (HG.out.keep Hb2.out)
      have c2 : w2.cell? ⟨Bm, 0, none⟩ = some vm := Hst2.out.bm.cell 0
      have c5 : w2.cell? ⟨Bo, 0, none⟩ = some vo := Hst2.out.bo.cell 0
      have c6 : w2.frozen? ⟨Bo, 0, none⟩ = false := Hst2.out.bo.frozen 0
      have hBow : Bo < w2.heap.size := by have := Hst2.out.hK; omega
      have Hoo := Lib.hid Hst2.out.oo
      have hne0 : ¬ vo.ownBlock = some Bo := fun he => by have := (Hst2.out.ho Bo (Hst2.out.oo.ownBlock' Bo he)).1; omega
      have Hne0 := Lib.hid hne0
      obtain ⟨m1, m2, m3, rfl⟩ := Hst2.out.om.shape
      clear hq hne0
      go_wp2
      go_region_law (first
        | (refine step_appG (w0 := w3) (v := vo) rfl (.tmp 25) (.tmp 28) 77 rfl (rOwn (rOwn rIntV)) 31 Tryz.underlying77 infoGridsS rfl (by decide) So (Iv w2.heap.size w3.heap.size) (fun b => So b ∨ w.heap.size ≤ b) (by simp [Act.eval]) (by simp [Act.eval]) (by exact Hoo3.out) (by exact Ho3.out) (fun b h1 h2 => by have := (Hst2.out.ho b h1).2; have := h2.1; omega) (fun b h1 => by have := (Hst2.out.ho b h1).2; omega) (fun b h1 => h1.2) (fun b h1 => .inl h1) (fun b h1 => .inr (by have := h1.1; have := Hb2.out.size; omega)) (fun b h1 => .inr (by have := Hb2.out.size; omega)) hlenO ?_; intro v4 w4 o4 ho4; obtain ⟨p4, p5, p6, rfl⟩ := o4.shape; have c7 := (ho4.cell (p := ⟨Bo, 0, none⟩) hBw3 Hne0.out).trans c5'; have c8 := (ho4.frozen (p := ⟨Bo, 0, none⟩) hBw3 Hne0.out).trans c6')
        | (refine step_appG (w0 := w3.drew) (v := vo) rfl (.tmp 25) (.tmp 28) 77 rfl (rOwn (rOwn rIntV)) 31 Tryz.underlying77 infoGridsS rfl (by decide) So (Iv w2.heap.size w3.heap.size) (fun b => So b ∨ w.heap.size ≤ b) (by simp [Act.eval]) (by simp [Act.eval]) (by exact Hoo3.out) (by exact Ho3.out) (fun b h1 h2 => by have := (Hst2.out.ho b h1).2; have := h2.1; omega) (fun b h1 => Nat.lt_of_lt_of_le (Hst2.out.ho b h1).2 hs3) (fun b h1 => h1.2) (fun b h1 => .inl h1) (fun b h1 => .inr (by have := h1.1; have := Hb2.out.size; omega)) (fun b h1 => .inr (Nat.le_trans (Nat.le_trans Hb2.out.size hs3) (Nat.le_of_lt h1))) hlenO ?_; intro v4 w4 o4 ho4; obtain ⟨p4, p5, p6, rfl⟩ := o4.shape; have c7 := (ho4.cell (p := ⟨Bo, 0, none⟩) hBw3 Hne0.out).trans c5'; have c8 := (ho4.frozen (p := ⟨Bo, 0, none⟩) hBw3 Hne0.out).trans c6')
        | (go_simp; go_at_call 82; refine (copyGrid_c _ rows _ (by exact HG2.out) hml HR.out).mono ?_; rintro e w3 ⟨v3, rfl, o3, b3⟩; obtain ⟨r1, r2, r3, rfl⟩ := o3.shape;
           have b3' : Below w2.heap.size w2 w3 := ⟨b3.os, b3.tape, b3.output, b3.size, b3.block⟩;
           have hs3 := b3'.size;
           have Ho3 := Lib.hid o3;
           have Hoo3 := Lib.hid ((rOwn (rOwn (rOwn rIntV))).same (sameOn_below b3' fun b hb => (Hst2.out.ho b hb).2) Hoo.out);
           have c5' := (b3'.cell (p := ⟨Bo, 0, none⟩) hBow).trans c5; have hBw3 : Bo < w3.heap.size := Nat.lt_of_lt_of_le hBow hs3; have c5'' := ((Below.pureAlloc w3 (.cells #[Value.slice r1 r2 r3] 31)).cell (p := ⟨Bo, 0, none⟩) hBw3).trans c5';
           have c6' := (b3'.frozen (p := ⟨Bo, 0, none⟩) hBow).trans c6; clear o3 b3))
      all_goals go_wp2
      all_goals refine bodyPost_ret (v := .tuple #[]) (by simp [results, Tryz.results177, go_sem]) rfl ⟨rfl, ?_⟩
      all_goals
        rw [Hsol.out]
        have hx : Only (fun b => vo.ownBlock = some b) w3 w4 := ⟨ho4.os, ho4.tape, ho4.output, ho4.size, ho4.block⟩
        obtain ⟨s5, y5⟩ := Hst.out.more Wf.out (Hb2.out.trans_pure b3' (Nat.le_refl _)) (vo2 := .slice p4 p5 p6) (out2 := out ++ [rows]) o4 hx
        exact ⟨_, Sm, _, _, s5, fun b hb => .inl hb, fun b hb => hb.1, y5⟩
    · have Hsol := Lib.hid (show solves R C 0 rows = [] from by unfold solves; rw [if_neg hq])
      rw [decide_eq_false hq]
      clear hq
      go_wp2
      refine bodyPost_ret (v := .tuple #[]) (by simp [results, Tryz.results177, go_sem]) rfl ⟨rfl, ?_⟩
      rw [Hsol.out, List.append_nil]
      exact ⟨_, Sm, _, So, Hst2.out, fun b hb => .inl hb, fun b hb => .inl hb, Only.of_pure Hb2.out _⟩
  | succ f ih =>
    intro vals rows vm Sm vo So out w hst hrok hbr hlen hout
    have IH := Lib.hid ih
    have Hst := Lib.hid hst
    have Hrok := Lib.hid hrok
    have hlt : rows.length < R.length := by omega
    have Hlen := Lib.hid hlen
    have hyb : ((rows.length : Int) == (R.length : Int)) = false := by rw [beq_eq_false_iff_ne]; omega
    have c0 : w.cell? ⟨Bp, 0, none⟩ = some (.slice aa R.length ca) := hst.bp.cell 0
    have c1 : w.cell? ⟨Bp, 1, none⟩ = some (.slice ab C.length cb) := hst.bp.cell 1
    have Hbr := Lib.hid hbr
    have Hout := Lib.hid hout
    have hK := hst.hK
    obtain ⟨b, off, cpr, he, hbb, -⟩ := Ha.out.inv_ne (by omega)
    obtain ⟨rfl, -⟩ : aa = some ⟨b, off, none⟩ ∧ ca = cpr := by simpa using he
    obtain ⟨u, hck, hu⟩ := Sl.at Ha.out (gD_at [] hlt)
    have hbase := hst.base.mono hn
    have hu : Ints W0 u (R.getD rows.length []) := hu
    have Hu := Lib.hid (hu.keep hbase)
    rw [← hbase.cell (p := ⟨b, off + rows.length, none⟩) hbb] at hck
    obtain ⟨q1, q2, rfl, -⟩ := hu
    obtain ⟨rs, hrs⟩ : ∃ rs, rs = R.getD rows.length [] := ⟨_, rfl⟩
    rw [← hrs] at hck Hu
    have Hrs := Lib.hid hrs
    obtain ⟨L, hL⟩ : ∃ L, L = linesFor rs C.length := ⟨_, rfl⟩
    have HL := Lib.hid hL
    have hLlen : L.length ≤ 6 := by rw [hL]; exact lines_six hC5 rs
    clear ih hst hrok hlen hbr hout hbase he hrs hL
    go_enter Tryz.func177, Tryz.ntmps177
    go_upto_region 4 with (fail)
    go_cut [38, 39, 40] (fun s38 s39 s40 wx => ∃ aL cL, s38 = .slice aL L.length cL ∧ s39 = .int .i64 L.length ∧ s40 = .int .i64 0 ∧ Hid (Own 32 (Own 3 IntV) (Iv w.heap.size wx.heap.size) wx (.slice aL L.length cL) L) ∧ Hid (Below w.heap.size w wx))
    case first =>
      go_region_with (go_at_call 179; refine (LinesFor_i _ rs C.length _ (by exact Hu.out) hC1 hC5).mono ?_; rintro e w1 ⟨v1, rfl, o1, b1⟩; rw [← HL.out] at o1; obtain ⟨aL, cL, rfl, -⟩ := id o1.grid)
      all_goals go_wp2_with (fail)
      all_goals go_meet
      all_goals exact ⟨_, _, rfl, rfl, rfl, by exact o1, ⟨b1.os, b1.tape, b1.output, b1.size, b1.block⟩⟩
    case rest =>
      obtain ⟨aL, cL, rfl, rfl, rfl, HoL, HbL⟩ := hcut
      obtain ⟨wl, rfl⟩ : ∃ wl, wl = wc := ⟨_, rfl⟩
      have hsl := HbL.out.size
      have HstL := Lib.hid (Hst.out.keep Wf.out HbL.out)
      have hleL : L.length ≤ 9223372036854775807 := by omega
      clear c0 c1 hck
      go_wp2
      go_loopw [40] (fun i wr => ∃ k : Nat, k ≤ L.length ∧ i = .int .i64 k ∧ ∃ vm' Sm' vo' So', Hid (SSt n Bp Bm Bo Bf K (.slice (some ⟨b, off, none⟩) R.length ca) (.slice ab C.length cb) (.func (.func 177) #[] #[.pointer (some ⟨Bp, 0, none⟩), .pointer (some ⟨Bm, 0, none⟩), .pointer (some ⟨Bo, 0, none⟩), .pointer (some ⟨Bf, 0, none⟩)]) W0 wr vm' vals Sm' vo' (out ++ solvesTo R C f rows L k) So') ∧ Hid (∀ b, Sm' b → Sm b ∨ wl.heap.size ≤ b) ∧ Hid (∀ b, So' b → So b ∨ wl.heap.size ≤ b) ∧ Hid (Only (Wr Sm So Bm Bo) wl wr)) (fun i _ => L.length - (intOf i).toNat)
      case atStart => exact ⟨0, Nat.zero_le _, rfl, _, _, _, _, by rw [solvesTo_zero, List.append_nil]; exact HstL.out, fun b hb => .inl hb, fun b hb => .inl hb, Only.refl _ _⟩
      case round =>
        obtain ⟨k, hk, rfl, vm', Sm', vo', So', Hs, HSm, HSo, Ho⟩ := hrel
        obtain ⟨wo, rfl⟩ : ∃ wo : World, wo = wr := ⟨_, rfl⟩
        have hso := Ho.out.size
        by_cases hltk : k < L.length
        · obtain ⟨l, hl⟩ : ∃ l, L[k]? = some l := ⟨_, List.getElem?_eq_getElem hltk⟩
          obtain ⟨gL, capL, heL, -⟩ := HoL.out.inv_ne (by omega)
          simp only [Value.slice.injEq, true_and] at heL
          obtain ⟨rfl, hcc⟩ := heL
          subst hcc
          have hoLk : Own 32 (Own 3 IntV) (Iv w.heap.size wl.heap.size) wo (.slice (some ⟨gL, 0, none⟩) L.length cL) L := Own.only (rOwn rIntV) HoL.out Ho.out (fun b hb => hb.2) (fun b hb hc => by
            rcases hc with h | h | h | h
            · have := (Hst.out.hm b h).1.2; have := hb.1; omega
            · have := (Hst.out.ho b h).2; have := hb.1; omega
            · subst h; have := Wf.out.h4; have := Wf.out.h5; have := hb.1; omega
            · subst h; have := hb.1; omega)
          obtain ⟨-, -, -, -, T, uk, hcell, hr2, hT, -⟩ := hoLk.focus (rOwn rIntV) hl
          have hsl2 := hr2.sl (fun _ _ _ _ h => h) rIntV
          obtain ⟨y1, y2, y3, rfl⟩ := hr2.shape
          have Hsl2 := Lib.hid hsl2
          have HT := Lib.hid hT
          have Hl := Lib.hid hl
          have c2 : wo.cell? ⟨Bm, 0, none⟩ = some vm' := Hs.out.bm.cell 0
          have hvl : vals.length = rows.length := Hrok.out.1
          have hvl5 : vals.length < 1099511627776 := by omega
          obtain ⟨m1, m2, m3, rfl⟩ := Hs.out.om.shape
          have Hom := Lib.hid Hs.out.om
          have hBmK : Bm < K := by have := Wf.out.h4; have := Wf.out.h5; omega
          have Hneb := Lib.hid (show ¬ (Value.slice m1 m2 m3).ownBlock = some Bm from fun he => by have := (Hs.out.hm Bm (Hs.out.om.ownBlock' Bm he)).1.1; omega)
          have Hvl := Lib.hid hvl
          have hKo := Hs.out.hK
          have hBmw : Bm < wo.heap.size := by omega
          clear hoLk hr2 hT hl hsl2 hvl
          go_wp2_with (first | (at_builtin; (refine wpList_app rfl _ _ 31 rfl rValV 32 Tryz.underlying31 infoInts rfl (by decide) Sm' (fun _ => False) (fun b => Sm' b ∨ wo.heap.size ≤ b) _ _ vals (.slice y1 y2 y3) rfl rfl (by exact Hom.out) (by exact ⟨rfl, rfl⟩) (fun _ _ h => h) (fun b hb => (Hs.out.hm b hb).1.2) (fun _ h => h.elim) (fun _ h => .inl h) (fun _ h => h.elim) (fun b h => .inr (Nat.le_of_lt h)) hvl5 ?_); intro v2 w2 hown2 honly2; obtain ⟨z1, z2, z3, rfl⟩ := hown2.shape; have d1 := (honly2.cell (p := ⟨Bm, 0, none⟩) hBmw Hneb.out).trans c2; have d2 := (honly2.frozen (p := ⟨Bm, 0, none⟩) hBmw Hneb.out).trans (Hs.out.bm.frozen 0); have st3 := (Hs.out.push Wf.out hown2 honly2).1.bf.cell 0) | fail)
          obtain ⟨s3, O3⟩ := Hs.out.push Wf.out hown2 honly2
          have hs2 := honly2.size
          obtain ⟨w3, hw3⟩ : ∃ w3, w3 = w2.setCell ⟨Bm, 0, none⟩ (.slice z1 z2 z3) := ⟨_, rfl⟩
          have hz3 : w3.heap.size = w2.heap.size := by rw [hw3, size_setCell]
          rw [← hw3] at s3 O3 st3 ⊢
          have hr1 : RowsOk (Wr Sm So Bm Bo) wl vals rows := Hrok.out.go (Only.of_pure HbL.out _) (fun b hb => .inl hb)
          have hr2 : RowsOk (Wr Sm' So' Bm Bo) wo vals rows := hr1.go Ho.out (wr_grow HSm.out HSo.out)
          have hr3 : RowsOk (Wr (fun b => (Sm' b ∨ wo.heap.size ≤ b) ∧ b < w2.heap.size) So' Bm Bo) w3 vals rows := hr2.go O3 (wr_grow (fun b hb => hb.1) (fun b hb => .inl hb))
          have hr4 := hr3.snoc (v := .slice y1 y2 y3) (x := l) (by
            refine (rSl rIntV).mono ?_ ((rSl rIntV).same (fun b hb => O3.block b (by have := (HT.out b hb).1.2; omega) ?_) Hsl2.out)
            · intro b hb
              have h1 := (HT.out b hb).1.1
              have h2 := (HT.out b hb).1.2
              refine ⟨by omega, ?_⟩
              rintro (h | h | h | h)
              · rcases h.1 with h5 | h5
                · rcases HSm.out b h5 with h6 | h6
                  · have := (Hst.out.hm b h6).1.2; omega
                  · omega
                · omega
              · rcases HSo.out b h with h6 | h6
                · have := (Hst.out.ho b h6).2; omega
                · omega
              · omega
              · omega
            · have h1 := (HT.out b hb).1.1
              have h2 := (HT.out b hb).1.2
              rintro (h | h | h | h)
              · rcases HSm.out b h with h6 | h6
                · have := (Hst.out.hm b h6).1.2; omega
                · omega
              · rcases HSo.out b h with h6 | h6
                · have := (Hst.out.ho b h6).2; omega
                · omega
              · omega
              · omega)
          have hol : (out ++ solvesTo R C f rows L k).length + 6 ^ f ≤ 1099511627775 := by
            have h1 := solvesTo_len (R := R) hC5 f rows L k
            have h2 : (k + 1) * 6 ^ f ≤ 6 * 6 ^ f := Nat.mul_le_mul_right _ (by omega)
            have h3 := Hout.out
            rw [Nat.pow_succ] at h3
            rw [Nat.succ_mul] at h2
            rw [List.length_append]; omega
          have hIH := IH.out _ _ _ _ _ _ _ _ s3 hr4 (Hbr.out.snoc (rs := rs) (by rw [← HL.out]; exact List.mem_of_getElem? Hl.out)) (by rw [List.length_append, List.length_singleton]; have := Hlen.out; omega) hol
          rw [show (((rows ++ [l]).length : Nat) : Int) = (rows.length : Int) + 1 from by rw [List.length_append, List.length_singleton]; omega] at hIH
          have O3' := Lib.hid O3
          clear hr1 hr2 hr3 hr4 s3 O3 hown2 honly2 d1 d2 c2 hcell st3 hw3 hol
          refine hIH.mono ?_
          rintro e w4 ⟨rfl, vm4, Sm4, vo4, So4, st4, hSm4, hSo4, O4⟩
          obtain ⟨g, cap, rfl, hcap, st5, O5⟩ := st4.pop Wf.out
          have d3 : w4.cell? ⟨Bm, 0, none⟩ = some (.slice (some ⟨g, 0, none⟩) (vals.length + 1) cap) := st4.bm.cell 0
          have d4 := st4.bm.frozen 0
          rw [Hvl.out] at d3 hcap st5 O5
          have hw4 := O4.size
          have hSo3 : ∀ b, So4 b → So' b ∨ wo.heap.size ≤ b := fun b hb => (hSo4 b hb).imp id (fun h => by omega)
          have hSm3 : ∀ b, Sm4 b → Sm' b ∨ wo.heap.size ≤ b := fun b hb => (hSm4 b hb).elim (fun h => h.1) (fun h => .inr (by omega))
          have HSm4 := Lib.hid (show ∀ b, Sm4 b → Sm b ∨ wl.heap.size ≤ b from fun b hb => (hSm3 b hb).elim (fun h => HSm.out b h) (fun h => .inr (by omega)))
          have HSo4 := Lib.hid (show ∀ b, So4 b → So b ∨ wl.heap.size ≤ b from fun b hb => (hSo3 b hb).elim (fun h => HSo.out b h) (fun h => .inr (by omega)))
          have H5 := Lib.hid (((Ho.out.trans' (O3'.out.mono fun b hb _ => wr_grow HSm.out HSo.out b hb)).trans' (O4.mono fun b hb _ => (wr_grow (Sm := Sm') (So := So') (n := wo.heap.size) (fun b hb => hb.1) (fun b hb => .inl hb) b hb).elim (fun h => wr_grow HSm.out HSo.out b h) (fun h => .inr (by omega)))).trans' (O5.mono fun b hb _ => wr_grow HSm4.out HSo4.out b hb))
          have H6 := Lib.hid st5
          have Hst7 := Lib.hid (solvesTo_succ (R := R) (C := C) (f := f) (rows := rows) Hl.out)
          clear hIH st4 hSm4 hSo4 O4 st5 O5 hSo3 hSm3
          go_wp2
          go_roundw
          case rel =>
            exact ⟨k + 1, by omega, by go_num, _, Sm4, vo4, So4, by rw [Hst7.out, ← List.append_assoc]; exact H6.out, HSm4.out, HSo4.out, H5.out⟩
          case measure => simp [intOf]; omega
        · have Hfin := Lib.hid (show solvesTo R C f rows L k = solves R C (f + 1) rows from solvesTo_all (by rw [HL.out, Hrs.out]) (by omega))
          have hdk : decide ((k : Int) < (L.length : Int)) = false := by simp; omega
          have H5 := Lib.hid ((Only.of_pure HbL.out (Wr Sm So Bm Bo)).trans' (Ho.out.mono fun b hb _ => .inl hb))
          go_wp2
          refine bodyPost_end (results_none rfl _ _ _) rfl ⟨rfl, ?_⟩
          exact ⟨vm', Sm', vo', So', by rw [← Hfin.out]; exact Hs.out, fun b hb => (HSm.out b hb).imp id (fun h => by omega), fun b hb => (HSo.out b hb).imp id (fun h => by omega), H5.out⟩
theorem pow6_le {f : Nat} (h : f ≤ 5) : 6 ^ f ≤ 7776 := by
  have := Nat.pow_le_pow_right (n := 6) (by decide) h
  simpa using this
theorem solutions_len (R C : List (List Int)) : (solutions R C).length ≤ 7776 := by
  cases h : puzzleOk R C
  · rw [solutions_no h]; simp
  · rw [solutions_yes h]
    obtain ⟨-, h2, -, h4⟩ := puzzleOk_bd h
    exact Nat.le_trans (solves_len h4 _ _) (pow6_le h2)
theorem SolvePuzzle_i (a b : Value) (R C : List (List Int)) (w : World) (h1 : Grid w a R) (h2 : Grid w b C) (hlx : ∀ r ∈ R, r.length ≤ 1048576) (hly : ∀ r ∈ C, r.length ≤ 1048576) :
    Calls Tryz.prog 117 #[.agg #[a, b]] w fun e w' => ∃ v', e = .returned (.tuple #[v', .bool (puzzleOk R C)]) ∧ Own 31 (Own 32 (Own 3 IntV)) (Iv w.heap.size w'.heap.size) w' v' (solutions R C) ∧ Below w.heap.size w w' := by
  have Hlx := Lib.hid hlx
  have Hly := Lib.hid hly
  have H1 := Lib.hid h1
  have H2 := Lib.hid h2
  obtain ⟨aa, ca, rfl, -⟩ := id h1
  obtain ⟨ab, cb, rfl, -⟩ := id h2
  obtain ⟨W1, hW1⟩ : ∃ W1, W1 = w.alloc (.cells #[.slice aa R.length ca, .slice ab C.length cb] 85) := ⟨_, rfl⟩
  have bW1 : Below w.heap.size w W1 := by rw [hW1]; exact Below.pureAlloc _ _
  have zW1 : W1.heap.size = w.heap.size + 1 := by rw [hW1]; simp
  have kB : Blk W1 w.heap.size #[.slice aa R.length ca, .slice ab C.length cb] 85 := by rw [hW1]; exact Blk.new _ _ _
  have G1 := Lib.hid (h1.keep bW1)
  have G2 := Lib.hid (h2.keep bW1)
  have HbW1 := Lib.hid bW1
  have HkB := Lib.hid kB
  have HzW1 := Lib.hid zW1
  clear h1 h2 hlx hly bW1 zW1 kB
  cases hok : puzzleOk R C
  · have Hr := Lib.hid (solutions_no hok)
    have Hok := Lib.hid hok
    clear hok
    go_enter Tryz.func117, Tryz.ntmps117
    subst hW1
    go_wp2_with (fail)
    refine (PuzzleOk_i _ _ _ _ _ G1.out G2.out Hlx.out Hly.out).mono ?_
    rintro e w2 ⟨rfl, hw2⟩
    have b2 := HbW1.out.trans_pure (show Below _ _ w2 from by rw [hw2]; exact Below.pureAlloc _ _) (Nat.le_refl _)
    rw [Hok.out]
    clear hw2
    go_wp2
    go_ret2
    exact ⟨_, rfl, by rw [Hr.out]; exact Own.nil _ _ _ _, b2⟩
  obtain ⟨hr1, hr5, hc1, hc5⟩ := puzzleOk_bd hok
  have Hr := Lib.hid (solutions_yes hok)
  have Hok := Lib.hid hok
  clear hok
  go_enter Tryz.func117, Tryz.ntmps117
  subst hW1
  go_wp2_with (fail)
  refine (PuzzleOk_i _ _ _ _ _ G1.out G2.out Hlx.out Hly.out).mono ?_
  rintro e w2 ⟨rfl, hw2⟩
  have b2 : Below (w.alloc (.cells #[.slice aa R.length ca, .slice ab C.length cb] 85)).heap.size (w.alloc (.cells #[.slice aa R.length ca, .slice ab C.length cb] 85)) w2 := by rw [hw2]; exact Below.pureAlloc _ _
  rw [Hok.out]
  clear hw2
  have HbW2 := Lib.hid (HbW1.out.trans_pure b2 (Nat.le_refl _))
  have HkB2 := Lib.hid (HkB.out.keep b2)
  have hlow : w.heap.size < w2.heap.size := by have := b2.size; rw [HzW1.out] at this; omega
  clear b2 G1 G2 HbW1 HkB HzW1
  obtain ⟨F, hF⟩ : ∃ F : Value, F = .func (.func 177) #[] #[.pointer (some ⟨w.heap.size, 0, none⟩), .pointer (some ⟨w2.heap.size + 1, 0, none⟩), .pointer (some ⟨w2.heap.size, 0, none⟩), .pointer (some ⟨w2.heap.size + 1 + 1, 0, none⟩)] := ⟨_, rfl⟩
  obtain ⟨W6, hW6⟩ : ∃ W6, W6 = ((w2.alloc (.cells #[.slice none 0 0] 77)).alloc (.cells #[.slice none 0 0] 31)).alloc (.cells #[F] 138) := ⟨_, rfl⟩
  have b26 : Below w2.heap.size w2 W6 := by rw [hW6]; exact (((Below.refl _ _).alloc (Nat.le_refl _) _).alloc (by simp) _).alloc (by simp; omega) _
  have z6 : W6.heap.size = w2.heap.size + 3 := by rw [hW6]; simp
  have wf : SWf w.heap.size w.heap.size (w2.heap.size + 1) w2.heap.size (w2.heap.size + 1 + 1) (w2.heap.size + 3) := ⟨Nat.le_refl _, by omega, by omega, by omega, by omega⟩
  have hst : SSt w.heap.size w.heap.size (w2.heap.size + 1) w2.heap.size (w2.heap.size + 1 + 1) (w2.heap.size + 3) (.slice aa R.length ca) (.slice ab C.length cb) F w W6 (.slice none 0 0) [] (fun _ => False) (.slice none 0 0) [] (fun _ => False) := by
    refine ⟨HbW2.out.trans_pure b26 (Nat.le_refl _), HkB2.out.keep b26, ?_, ?_, ?_, Own.nil _ _ _ _, Own.nil _ _ _ _, fun _ h => h.elim, fun _ h => h.elim, by omega⟩
    · rw [hW6]
      have h1 := Blk.new (w2.alloc (.cells #[.slice none 0 0] 77)) #[.slice none 0 0] 31
      have h2 := h1.keep (Below.pureAlloc _ (.cells #[F] 138))
      simpa using h2
    · rw [hW6]
      exact (((Blk.new w2 _ _).keep (Below.pureAlloc _ _)).keep (Below.pureAlloc _ _))
    · rw [hW6]
      have := Blk.new ((w2.alloc (.cells #[.slice none 0 0] 77)).alloc (.cells #[.slice none 0 0] 31)) #[F] 138
      simpa using this
  have hp6 := pow6_le hr5
  have hput := sput_c wf hF (Nat.le_refl _) (Nat.le_refl _) H1.out H2.out hr1 hr5 hc1 hc5 R.length [] [] _ _ _ _ [] W6 hst ⟨rfl, fun k v x h _ => by simp at h⟩ (fun row hr => by cases hr) (by simp) (by simp; omega)
  have c6 : W6.cell? ⟨w2.heap.size + 1 + 1, 0, none⟩ = some F := hst.bf.cell 0
  have Hput := Lib.hid hput
  have Hb6 := Lib.hid (HbW2.out.trans_pure b26 (Nat.le_refl _))
  clear hput hst b26 wf z6
  subst hF
  subst hW6
  go_wp2_with (fail)
  refine (Hput.out).mono ?_
  rintro e w7 ⟨rfl, vm', Sm', vo', So', st7, hSm, hSo, hO⟩
  have c7 : w7.cell? ⟨w2.heap.size, 0, none⟩ = some vo' := st7.bo.cell 0
  have Hoo := Lib.hid st7.oo
  have Hho := Lib.hid st7.ho
  have Hbase := Lib.hid st7.base
  clear st7 hSm hSo hO
  go_wp2
  go_ret2
  refine ⟨vo', rfl, ?_, Hbase.out⟩
  rw [Hr.out]
  have h := Hoo.out
  rw [List.nil_append] at h
  exact (rOwn (rOwn (rOwn rIntV))).mono (fun b hb => ⟨by have := (Hho.out b hb).1; omega, (Hho.out b hb).2⟩) h
theorem map_take_G {α β : Type} (f : α → β) {l : List α} {k : Nat} {x : α} (h : l[k]? = some x) : (l.take (k + 1)).map f = (l.take k).map f ++ [f x] := by
  rw [List.take_add_one, h]; simp
theorem formatImage_size (m : List (List Int)) : (formatImage m).size ≤ 1048576 := by
  unfold formatImage
  split
  · rename_i hok
    have h2 := (imageOk_trits hok).bulk
    have h3 := joinB_size ⟨#[47]⟩ (m.map signRow)
    unfold signsOf; omega
  · simp
def imgLines (xs : List (List (List Int))) : List ByteArray := xs.map formatImage
theorem imgLines_len (xs : List (List (List Int))) : (imgLines xs).length = xs.length := List.length_map _
theorem Own.strs {E : TypeId} {S : Bk} {w : World} {v : Value} {xs : List ByteArray} (h : Own E StrV S w v xs) : Strs w v xs := (rSl rStrV).rd (h.sl (fun _ _ _ _ h => h) rStrV)
theorem ImageLines_i (v : Value) (l : List (List (List Int))) (w : World) (hv : Grids w v l) (hl : l.length ≤ 1073741824) : Calls Tryz.prog 49 #[v] w (New 9 StrV w (imgLines l)) := by
  have Hv := Lib.hid hv
  obtain ⟨a, cap0, rfl, -⟩ := hv
  go_enter Tryz.func49, Tryz.ntmps49
  go_wp2
  go_loopw [3, 5, 8] (fun v _ i wr => ∃ k : Nat, k ≤ l.length ∧ i = .int .i64 k ∧ Own 9 StrV (Iv w.heap.size wr.heap.size) wr v ((l.take k).map formatImage) ∧ Below w.heap.size w wr) (fun _ _ i _ => l.length - (intOf i).toNat)
  case atStart => exact ⟨0, Nat.zero_le _, rfl, Own.nil _ _ _ _, Below.refl _ _⟩
  case round =>
    obtain ⟨k, hk, rfl, hown, hbel⟩ := hrel
    obtain ⟨wo, rfl⟩ : ∃ wo : World, wo = wr := ⟨_, rfl⟩
    have hBs := hbel.size
    by_cases hlt : k < l.length
    · obtain ⟨x, hx⟩ : ∃ x, l[k]? = some x := ⟨_, List.getElem?_eq_getElem hlt⟩
      obtain ⟨b, off, cpr, he, hb, -⟩ := Hv.out.inv_ne (by omega)
      obtain ⟨rfl, -⟩ : a = some ⟨b, off, none⟩ ∧ cap0 = cpr := by simpa using he
      obtain ⟨u, hck, hu⟩ := Sl.at Hv.out hx
      have hu : Grid w u x := hu
      have Hu := Lib.hid (hu.keep hbel)
      rw [← hbel.cell (p := ⟨b, off + k, none⟩) hb] at hck
      have Hst := Lib.hid (map_take_G formatImage hx)
      have hkl : ((l.take k).map formatImage).length < 1099511627776 := by simp; omega
      obtain ⟨p1, p2, p3, rfl⟩ := hown.shape
      have Hown := Lib.hid hown
      clear hx hown he hu
      go_wp2_with (fail)
      refine (FormatImage_i _ x _ Hu.out).mono ?_
      rintro e w1 ⟨rfl, hb1⟩
      have hs1 : wo.heap.size ≤ w1.heap.size := hb1.size
      have hsz : (formatImage x).size ≤ 9223372036854775807 := by have := formatImage_size x; omega
      go_wp2_with (first | (at_builtin; (refine wpList_appR rfl _ _ 27 rfl rStrV 9 Tryz.underlying27 infoStr rfl (by decide) w.heap.size wo.heap.size hBs hs1 rfl rfl (by exact Own.keep rStrV Hown.out hb1 (Nat.le_refl _)) (by exact ⟨rfl, hsz⟩) hkl ?_); intro v2 w2 hown2 hbel2 _) | fail)
      have hb2 := (hbel.trans (hb1.mono hBs)).trans hbel2
      have Hown2 := Lib.hid hown2
      clear hown2
      go_wp2
      go_roundw
      case rel => exact ⟨k + 1, by omega, by go_num, by rw [Hst.out]; exact Hown2.out, hb2⟩
      case measure => simp [intOf]; omega
    · have hfin := hown
      rw [List.take_of_length_le (by omega)] at hfin
      obtain ⟨p1, p2, p3, rfl⟩ := hown.shape
      have Hfin := Lib.hid hfin
      clear hown hfin
      go_wp2
      go_ret
      exact ⟨_, rfl, Hfin.out, hbel⟩
theorem formatImage_le (m : List (List Int)) : (formatImage m).size ≤ 1000 := by
  cases hok : imageOk m
  · simp [formatImage, hok]
  · unfold formatImage
    rw [if_pos hok]
    have h5 := (imageOk_trits hok).bulk
    have h6 : (signsOf m).size ≤ bulkB ⟨#[47]⟩ (m.map signRow) := joinB_size _ _
    omega
def puzzleHead (S : List (List (List Int))) : ByteArray := match S with
  | [] => fmtInt 0 ++ ⟨#[32, 115, 111, 108, 117, 116, 105, 111, 110, 115]⟩
  | x :: l => fmtInt ((x :: l).length : Nat) ++ ⟨#[32, 115, 111, 108, 117, 116, 105, 111, 110, 115]⟩ ++ ⟨#[32]⟩ ++ formatImage x
def puzzleLineOf (R C : List (List Int)) : ByteArray :=
  if puzzleOk R C then (if isLogical R C then puzzleHead (solutions R C) ++ ⟨#[32, 108, 111, 103, 105, 99, 97, 108]⟩ else puzzleHead (solutions R C)) else ByteArray.empty
structure PzSz (A F : ByteArray) : Prop where
  a : A.size ≤ 20
  f : F.size ≤ 1000
  l1 : (A ++ ⟨#[32, 115, 111, 108, 117, 116, 105, 111, 110, 115]⟩ : ByteArray).size ≤ 30
  l2 : (⟨#[32]⟩ ++ F : ByteArray).size ≤ 1001
  l3 : (A ++ ⟨#[32, 115, 111, 108, 117, 116, 105, 111, 110, 115]⟩ ++ ⟨#[32]⟩ : ByteArray).size ≤ 31
  l4 : (A ++ ⟨#[32, 115, 111, 108, 117, 116, 105, 111, 110, 115]⟩ ++ (⟨#[32]⟩ ++ F) : ByteArray).size ≤ 1031
  l5 : (A ++ ⟨#[32, 115, 111, 108, 117, 116, 105, 111, 110, 115]⟩ ++ ⟨#[32]⟩ ++ F : ByteArray).size ≤ 1031
theorem pzSz {A F : ByteArray} (a : A.size ≤ 20) (f : F.size ≤ 1000) : PzSz A F := by
  have e1 : (⟨#[32, 115, 111, 108, 117, 116, 105, 111, 110, 115]⟩ : ByteArray).size = 10 := rfl
  have e2 : (⟨#[32]⟩ : ByteArray).size = 1 := rfl
  refine ⟨a, f, ?_, ?_, ?_, ?_, ?_⟩ <;> simp only [ba_append_size, e1, e2] <;> omega
theorem ba_assoc (a b c : ByteArray) : a ++ b ++ c = a ++ (b ++ c) := by
  apply ba_ext
  simp only [ba_list_append, List.append_assoc]
theorem PuzzleLine_i (a b : Value) (R C : List (List Int)) (w : World) (h1 : Grid w a R) (h2 : Grid w b C) (hlx : ∀ r ∈ R, r.length ≤ 1048576) (hly : ∀ r ∈ C, r.length ≤ 1048576) (ht : Tab w) :
    Calls Tryz.prog 55 #[.agg #[a, b]] w fun e w' => e = .returned (.string (puzzleLineOf R C)) ∧ Below w.heap.size w w' := by
  have Hlx := Lib.hid hlx
  have Hly := Lib.hid hly
  have H1 := Lib.hid h1
  have H2 := Lib.hid h2
  have HT := Lib.hid ht
  obtain ⟨aa, ca, rfl, -⟩ := h1
  obtain ⟨ab, cb, rfl, -⟩ := h2
  clear hlx hly ht
  have Hk := Lib.hid (Blk.new w #[.slice aa R.length ca, .slice ab C.length cb] 85)
  have Hb0 := Lib.hid (Below.pureAlloc w (.cells #[.slice aa R.length ca, .slice ab C.length cb] 85))
  go_enter Tryz.func55, Tryz.ntmps55
  go_wp2_with (fail)
  refine (SolvePuzzle_i _ _ R C _ (H1.out.keep Hb0.out) (H2.out.keep Hb0.out) Hlx.out Hly.out).mono ?_
  rintro e w1 ⟨v1, rfl, o1, b1⟩
  have Hb1 := Lib.hid (Hb0.out.trans_pure b1 (Nat.le_refl _))
  have Hk1 := Lib.hid (Hk.out.keep b1)
  cases hok : puzzleOk R C
  · have Hr := Lib.hid (show ByteArray.empty = puzzleLineOf R C from by unfold puzzleLineOf; rw [if_neg (by rw [hok]; simp)])
    obtain ⟨p1, p2, p3, rfl⟩ := o1.shape
    clear o1 hok
    go_wp2
    go_ret
    exact ⟨retS Hr.out, Hb1.out⟩
  have hlogic : ∀ z, isLogical R C = z → puzzleLineOf R C = (if z then puzzleHead (solutions R C) ++ ⟨#[32, 108, 111, 103, 105, 99, 97, 108]⟩ else puzzleHead (solutions R C)) := fun z hz => by unfold puzzleLineOf; rw [if_pos hok, hz]
  obtain ⟨z, hz⟩ : ∃ z, isLogical R C = z := ⟨_, rfl⟩
  have Hr := Lib.hid (hlogic z hz)
  have Hz := Lib.hid hz
  have k0 : w1.cell? ⟨w.heap.size, 0, none⟩ = some (.slice aa R.length ca) := Hk1.out.cell 0
  have k1 : w1.cell? ⟨w.heap.size, 1, none⟩ = some (.slice ab C.length cb) := Hk1.out.cell 1
  obtain ⟨S, hS⟩ : ∃ S, S = solutions R C := ⟨_, rfl⟩
  rw [← hS] at o1 Hr
  clear hlogic hz hok hS
  cases S with
  | nil =>
    obtain ⟨q1, q2, q3, rfl⟩ := o1.shape
    have hq := o1.grids.len
    rw [List.length_nil] at hq
    subst hq
    obtain ⟨za, zf, z1, z2, z3, z4, z5⟩ := pzSz (A := fmtInt 0) (F := ByteArray.empty) (fmt_size (by omega)) (by decide)
    have Hh := Lib.hid (show puzzleHead [] = fmtInt 0 ++ ⟨#[32, 115, 111, 108, 117, 116, 105, 111, 110, 115]⟩ from rfl)
    clear o1 k0 k1
    go_wp2_with (fail)
    refine (FormatInt_i _ (I64.small (by omega) (by omega)) _ (HT.out.keep Hb1.out)).mono ?_
    rintro e w2 ⟨rfl, b2⟩
    have Hb2 := Lib.hid (Hb1.out.trans_pure b2 (Nat.le_refl _))
    have Hk2 := Lib.hid (Hk1.out.keep b2)
    have k0 : w2.cell? ⟨w.heap.size, 0, none⟩ = some (.slice aa R.length ca) := Hk2.out.cell 0
    have k1 : w2.cell? ⟨w.heap.size, 1, none⟩ = some (.slice ab C.length cb) := Hk2.out.cell 1
    go_wp2_with (fail)
    refine (IsLogical_i _ _ R C _ (H1.out.keep Hb2.out) (H2.out.keep Hb2.out) Hlx.out Hly.out).mono ?_
    rintro e w3 ⟨rfl, b3⟩
    rw [Hz.out]
    have Hb3 := Lib.hid (Hb2.out.trans_pure b3 (Nat.le_refl _))
    clear k0 k1
    cases z
    · go_wp2
      go_ret
      exact ⟨retS (by rw [Hr.out, Hh.out]; rfl), Hb3.out⟩
    · go_wp2
      go_ret
      exact ⟨retS (by rw [Hr.out, Hh.out]; rfl), Hb3.out⟩
  | cons x l =>
    obtain ⟨g, gc, rfl, -, -, hgs, hbig⟩ := o1.inv_ne (by simp)
    have Hg := Lib.hid o1.grids
    obtain ⟨u, hck, hu⟩ := Sl.at o1.grids (k := 0) (x := x) rfl
    have Hu := Lib.hid (show Grid w1 u x from hu)
    obtain ⟨ua, uc, rfl, -⟩ := hu
    rw [Nat.add_zero] at hck
    have Hck := Lib.hid hck
    obtain ⟨n, hn⟩ : ∃ n, n = (x :: l).length := ⟨_, rfl⟩
    have Hn := Lib.hid hn
    have hn0 : 0 < n := by rw [hn]; simp
    rw [← hn] at hbig ⊢
    obtain ⟨A, hA⟩ : ∃ A, A = fmtInt (n : Int) := ⟨_, rfl⟩
    obtain ⟨F, hF⟩ : ∃ F, F = formatImage x := ⟨_, rfl⟩
    obtain ⟨za, zf, z1, z2, z3, z4, z5⟩ := pzSz (A := A) (F := F) (by rw [hA]; exact fmt_size (by omega)) (by rw [hF]; exact formatImage_le x)
    have HA := Lib.hid hA
    have HF := Lib.hid hF
    have Hh := Lib.hid (show puzzleHead (x :: l) = A ++ ⟨#[32, 115, 111, 108, 117, 116, 105, 111, 110, 115]⟩ ++ ⟨#[32]⟩ ++ F from by rw [hA, hF, hn]; rfl)
    have Key := Lib.hid (show A ++ ⟨#[32, 115, 111, 108, 117, 116, 105, 111, 110, 115]⟩ ++ (⟨#[32]⟩ ++ F) = puzzleHead (x :: l) from by rw [Hh.out, ba_assoc (A ++ _)])
    clear o1 hn hA hF k0 k1 hck
    go_wp2_with (fail)
    refine (FormatInt_i _ (I64.small (by omega) (by omega)) _ (HT.out.keep Hb1.out)).mono ?_
    rintro e w2 ⟨rfl, b2⟩
    rw [← HA.out]
    have Hb2 := Lib.hid (Hb1.out.trans_pure b2 (Nat.le_refl _))
    have Hk2 := Lib.hid (Hk1.out.keep b2)
    have hck := (b2.cell (p := ⟨g, 0, none⟩) hgs).trans Hck.out
    go_wp2_with (fail)
    refine (FormatImage_i _ x _ (Hu.out.keep b2)).mono ?_
    rintro e w3 ⟨rfl, b3⟩
    rw [← HF.out]
    have Hb3 := Lib.hid (Hb2.out.trans_pure b3 (Nat.le_refl _))
    have Hk3 := Lib.hid (Hk2.out.keep b3)
    have k0 : w3.cell? ⟨w.heap.size, 0, none⟩ = some (.slice aa R.length ca) := Hk3.out.cell 0
    have k1 : w3.cell? ⟨w.heap.size, 1, none⟩ = some (.slice ab C.length cb) := Hk3.out.cell 1
    clear hck
    go_wp2_with (fail)
    refine (IsLogical_i _ _ R C _ (H1.out.keep Hb3.out) (H2.out.keep Hb3.out) Hlx.out Hly.out).mono ?_
    rintro e w4 ⟨rfl, b4⟩
    rw [Hz.out]
    have Hb4 := Lib.hid (Hb3.out.trans_pure b4 (Nat.le_refl _))
    clear k0 k1
    cases z
    · go_wp2
      go_ret
      exact ⟨retS (by rw [Hr.out]; rw [Key.out]; rfl), Hb4.out⟩
    · go_wp2
      go_ret
      exact ⟨retS (by rw [Hr.out]; rw [Key.out]; rfl), Hb4.out⟩
end Go.Proofs.YthmocomfjgmjoaaGreatDoor

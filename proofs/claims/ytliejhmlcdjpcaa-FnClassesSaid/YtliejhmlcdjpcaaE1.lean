/- Contracts: AllImages of the program. -/
import Derived.Test.YtliejhmlcdjpcaaEnum
import Derived.Test.YtliejhmlcdjpcaaC3
import Derived.Test.YtliejhmlcdjpcaaCopy
import Derived.Test.YtliejhmlcdjpcaaBlk
import Derived.Test.YtliejhmlcdjpcaaDraw2
import Derived.Laws.EntriesVeiled
import Derived.Deep.DeepCutAuto
import Derived.Deep.RegionLaw
namespace Go.Proofs.Ytliejhmlcdjpcaa
open Go.RowKit

theorem SumsOk_i (v v2 : Value) (xs ys : List Int) (w : World) (hv : Ints w v xs) (hv2 : Ints w v2 ys) : Calls Try.prog 50 #[v, v2] w fun e w' => e = .returned (.bool (sumsOk xs ys)) ∧ w = w' := by
  obtain ⟨a, cap, rfl, hcap, hle, -, -⟩ := id hv
  obtain ⟨a2, cap2, rfl, hcap2, hle2, -, -⟩ := id hv2
  by_cases hall : (inR 1 5 xs.length && inR 1 5 ys.length && xs.all (inR 0 ys.length) && ys.all (inR 0 xs.length)) = true
  · have Hall := Lib.hid hall
    simp only [Bool.and_eq_true] at hall
    obtain ⟨⟨⟨h1, h2⟩, h3⟩, h4⟩ := hall
    have h1' := h1
    have h2' := h2
    rw [inR_iff] at h1' h2'
    have hsx := small_of_all h3 (by omega) (by omega)
    have hsy := small_of_all h4 (by omega) (by omega)
    have Hr := Lib.hid (show sumsOk xs ys = decide (sumL xs = sumL ys) from by unfold sumsOk; rw [Hall.out]; rfl)
    by_cases he : sumL xs = sumL ys
    · have Hd := Lib.hid (show sumsOk xs ys = true from by rw [Hr.out]; simpa using he)
      have hb : (sumL xs == sumL ys) = true := by simpa using he
      go_enter Try.func50, Try.ntmps50
      go_wp2_with (first | (go_at_call 67; refine (within_c _ _ _ _).mono ?_; rintro e w' ⟨rfl, rfl⟩) | (go_at_call 73; refine (allWithin_c _ _ _ _ _ (by assumption)).mono ?_; rintro e w' ⟨rfl, rfl⟩) | (go_at_call 39; ((with_reducible refine (sumOf_c _ _ _ hv hsx).mono ?_); rintro e w' ⟨rfl, rfl⟩)) | (go_at_call 39; ((with_reducible refine (sumOf_c _ _ _ hv2 hsy).mono ?_); rintro e w' ⟨rfl, rfl⟩)))
      go_ret
      exact ⟨retB Hd.out.symm, rfl⟩
    · have Hd := Lib.hid (show sumsOk xs ys = false from by rw [Hr.out]; simpa using he)
      have hb : (sumL xs == sumL ys) = false := by simpa using he
      go_enter Try.func50, Try.ntmps50
      go_wp2_with (first | (go_at_call 67; refine (within_c _ _ _ _).mono ?_; rintro e w' ⟨rfl, rfl⟩) | (go_at_call 73; refine (allWithin_c _ _ _ _ _ (by assumption)).mono ?_; rintro e w' ⟨rfl, rfl⟩) | (go_at_call 39; ((with_reducible refine (sumOf_c _ _ _ hv hsx).mono ?_); rintro e w' ⟨rfl, rfl⟩)) | (go_at_call 39; ((with_reducible refine (sumOf_c _ _ _ hv2 hsy).mono ?_); rintro e w' ⟨rfl, rfl⟩)))
      go_ret
      exact ⟨retB Hd.out.symm, rfl⟩
  · have Hd := Lib.hid (show sumsOk xs ys = false from by unfold sumsOk; rw [Bool.not_eq_true] at hall; rw [hall]; rfl)
    cases h1 : inR 1 5 xs.length
    · go_enter Try.func50, Try.ntmps50
      go_wp2_with (first | (go_at_call 67; refine (within_c _ _ _ _).mono ?_; rintro e w' ⟨rfl, rfl⟩))
      go_ret
      exact ⟨retB Hd.out.symm, rfl⟩
    cases h2 : inR 1 5 ys.length
    · go_enter Try.func50, Try.ntmps50
      go_wp2_with (first | (go_at_call 67; refine (within_c _ _ _ _).mono ?_; rintro e w' ⟨rfl, rfl⟩))
      go_ret
      exact ⟨retB Hd.out.symm, rfl⟩
    cases h3 : xs.all (inR 0 ys.length)
    · go_enter Try.func50, Try.ntmps50
      go_wp2_with (first | (go_at_call 67; refine (within_c _ _ _ _).mono ?_; rintro e w' ⟨rfl, rfl⟩) | (go_at_call 73; refine (allWithin_c _ _ _ _ _ (by assumption)).mono ?_; rintro e w' ⟨rfl, rfl⟩))
      go_ret
      exact ⟨retB Hd.out.symm, rfl⟩
    cases h4 : ys.all (inR 0 xs.length)
    · go_enter Try.func50, Try.ntmps50
      go_wp2_with (first | (go_at_call 67; refine (within_c _ _ _ _).mono ?_; rintro e w' ⟨rfl, rfl⟩) | (go_at_call 73; refine (allWithin_c _ _ _ _ _ (by assumption)).mono ?_; rintro e w' ⟨rfl, rfl⟩))
      go_ret
      exact ⟨retB Hd.out.symm, rfl⟩
    rw [h1, h2, h3, h4] at hall
    exact absurd rfl hall

/-- an append of a new box's one element, at a step of a region that draws -/
theorem step_app {α : Type} {P : Program} {w0 : World} {ops : Array Oper} {o : Oper} {a : Act} {K : Act → World → Prop} {Q : Exit → Act → World → Prop} {Ep : Prop} (hgd : o.guard = none) (s xo : Operand) (t : TypeId)
    (ho : o.op = .call { callee := .builtin .append, args := #[s, xo], argTypes := #[t, t] }) {R : RepT α} (hR : Rep R)
    (E : TypeId) {z : Value} {bytes : Nat} (ht : P.underlying t = some (.slice E)) (hinfo : (P.info? E).map (fun i => (i.zero, i.size, i.bytes)) = some (some z, 1, bytes)) (hzs : z.cells.size = 1) (hb64 : bytes ≤ 64)
    (B M : Nat) (hBM : B ≤ M) (hM : M ≤ w0.heap.size) {v u : Value} {xs : List α} {x : α} (hs : a.eval s = v) (hx : a.eval xo = .slice (some ⟨w0.heap.size, 0, none⟩) 1 1) (hown : Own E R (Iv B M) w0 v xs) (hu : R (Iv M w0.heap.size) w0 u x) (hlen : xs.length < 1099511627776)
    (h : ∀ v' w', Own E R (Iv B w'.heap.size) w' v' (xs ++ [x]) → Below B w0 w' → K (a.put o.dst v') w') :
    if Region.wanted o (yielded ops a.tmps) = true then Oper.wp P o a (w0.alloc (.cells #[u] E)) K Q else Ep := by
  have hw : Region.wanted o (yielded ops a.tmps) = true := by simp [Region.wanted, hgd]
  rw [if_pos hw]
  obtain ⟨i, hi, hz, hsize, hby⟩ := info_parts hinfo
  obtain ⟨v', w', hr, h2, h3⟩ := run_append1 (P := P) hR w0 t o.type E i z bytes ht hi hz hsize hby hzs hb64 (Iv B M) (Iv M w0.heap.size) (fun b => B ≤ b) v u xs x hown hu (fun b h1 h2 => by have := h1.2; have := h2.1; omega) (fun b h1 => Nat.lt_of_lt_of_le h1.2 hM) (fun b h1 => h1.2)
    (fun b h1 => h1.1) (fun b h1 => Nat.le_trans hBM h1.1) (fun b h1 => by omega) hlen
  unfold Oper.wp execOp
  simp only [ho, resolve, invoke, builtin, Sem.run_bind, Sem.run_pure, Result.andThen_ok, List.map_toArray, List.map_cons, List.map_nil, hs, hx, hr]
  exact h v' w' h2 (h3.below (Nat.le_trans hBM hM) fun b hb => (Own.ownBlock' hown b hb).1)

/-- the boxes and regions of AllImages, in their order -/
structure AWf (n Br Bc Bo g0 g1 Bm l0 l1 Bl Bp K : Nat) : Prop where
  h1 : n ≤ Br
  h2 : Br < Bc
  h3 : Bc < Bo
  h4 : Bo < g0
  h5 : g0 ≤ g1
  h6 : g1 ≤ Bm
  h7 : Bm < l0
  h8 : l0 ≤ l1
  h9 : l1 ≤ Bl
  h10 : Bl < Bp
  h11 : Bp < K
/-- where AllImages stands: the image m, what is left of the columns, the list made so far -/
structure ASt (n Br Bc Bo g0 g1 Bm l0 l1 Bl Bp K r c G cap L capL : Nat) (F vr vc : Value) (Q C : Nat → Nat) (W0 w : World) (left : List Int) (m : List (List Int)) (out : List (List (List Int))) : Prop where
  base : Below n W0 w
  br : Blk w Br #[vr] 25
  bc : Blk w Bc #[vc] 25
  bm : Blk w Bm #[.slice (some ⟨G, 0, none⟩) r cap] 23
  bl : Blk w Bl #[.slice (some ⟨L, 0, none⟩) c capL] 25
  bp : Blk w Bp #[F] 66
  bo : ∃ vo, Blk w Bo #[vo] 41 ∧ Own 23 (Own 25 (Own 3 IntV)) (Iv K w.heap.size) w vo out
  sh : Shape r c m
  own : Own 25 (Own 3 IntV) (Iv g0 g1) w (.slice (some ⟨G, 0, none⟩) r cap) m
  lown : Own 3 IntV (Iv l0 l1) w (.slice (some ⟨L, 0, none⟩) c capL) left
  ll : left.length = c
  rows : ∀ k, k < r → w.cell? ⟨G, k, none⟩ = some (.slice (some ⟨Q k, 0, none⟩) c (C k))
  hK : K ≤ w.heap.size
theorem ASt.setM {n Br Bc Bo g0 g1 Bm l0 l1 Bl Bp K r c G cap L capL : Nat} {F vr vc : Value} {Q C : Nat → Nat} {W0 w : World} {left : List Int} {m : List (List Int)} {out : List (List (List Int))} (wf : AWf n Br Bc Bo g0 g1 Bm l0 l1 Bl Bp K)
    (h : ASt n Br Bc Bo g0 g1 Bm l0 l1 Bl Bp K r c G cap L capL F vr vc Q C W0 w left m out) {y x : Nat} (hy : y < r) (hx : x < c) {z : Int} (hz0 : 0 ≤ z) (hz1 : z ≤ 1) :
    (∃ o, w.cell? ⟨Q y, x, none⟩ = some (.int .i64 o)) ∧ w.frozen? ⟨Q y, x, none⟩ = false ∧
    ASt n Br Bc Bo g0 g1 Bm l0 l1 Bl Bp K r c G cap L capL F vr vc Q C W0 (w.setCell ⟨Q y, x, none⟩ (.int .i64 z)) left (setC m y x z) out := by
  obtain ⟨a1, a2, a3, a4, a5, a6, a7, a8, a9, a10, a11⟩ := wf
  obtain ⟨hrow, hrl⟩ := at2_row h.sh hy
  obtain ⟨q, cq, hcell, hG, hq, hqG, hcq, hxs, hrd, hset⟩ := own_grid_cell h.own hrow (by omega)
  have hQ := h.rows y hy
  rw [hcell] at hQ
  have e := Option.some.inj hQ
  have e2 : q = Q y := by injection e with e1 e3 e4; injection e1 with e5; injection e5
  subst e2
  obtain ⟨⟨o, ho⟩, hfo⟩ := hxs x (by omega)
  obtain ⟨vo, hbo, hoo⟩ := h.bo
  have q1 := hq.1
  have q2 := hq.2
  refine ⟨⟨o, ho⟩, hfo, ⟨h.base.setCell (by show n ≤ Q y; omega) _, h.br.set_ne (by omega) _, h.bc.set_ne (by omega) _, h.bm.set_ne (by omega) _, h.bl.set_ne (by omega) _, h.bp.set_ne (by omega) _, ⟨vo, hbo.set_ne (by omega) _, ?_⟩, setC_shape h.sh hy hz0 hz1, hset w (fun _ _ => rfl) x z (by omega) (I64.small (by omega) (by omega)), ?_, h.ll, fun k hk => ?_, ?_⟩⟩
  · rw [size_setCell]
    exact (rOwn (rOwn (rOwn rIntV))).same (fun b hb => Below.heap_setCell w _ _ b (by have := hb.1; show b ≠ Q y; omega)) hoo
  · exact (rOwn rIntV).same (fun b hb => Below.heap_setCell w _ _ b (by have := hb.1; show b ≠ Q y; omega)) h.lown
  · rw [World.cell?_of_block (w := w) (a := ⟨G, k, none⟩) (Below.heap_setCell w ⟨Q y, x, none⟩ (.int .i64 z) G (by simpa using fun e => hqG e.symm))]
    exact h.rows k hk
  · rw [size_setCell]; exact h.hK
theorem ASt.setL {n Br Bc Bo g0 g1 Bm l0 l1 Bl Bp K r c G cap L capL : Nat} {F vr vc : Value} {Q C : Nat → Nat} {W0 w : World} {left : List Int} {m : List (List Int)} {out : List (List (List Int))} (wf : AWf n Br Bc Bo g0 g1 Bm l0 l1 Bl Bp K)
    (h : ASt n Br Bc Bo g0 g1 Bm l0 l1 Bl Bp K r c G cap L capL F vr vc Q C W0 w left m out) {x : Nat} (hx : x < c) {z : Int} (hz0 : -1 ≤ z) (hz1 : z ≤ 9) :
    w.cell? ⟨L, x, none⟩ = some (.int .i64 (left.getD x 0)) ∧ w.frozen? ⟨L, x, none⟩ = false ∧
    ASt n Br Bc Bo g0 g1 Bm l0 l1 Bl Bp K r c G cap L capL F vr vc Q C W0 (w.setCell ⟨L, x, none⟩ (.int .i64 z)) (left.set x z) m out := by
  obtain ⟨a1, a2, a3, a4, a5, a6, a7, a8, a9, a10, a11⟩ := wf
  have hll := h.ll
  have hat : left[x]? = some (left.getD x 0) := gD_at 0 (by omega)
  obtain ⟨hL, -⟩ := h.lown.focus rIntV hat
  obtain ⟨h1, h2, -⟩ := h.lown.ints_cell hat
  obtain ⟨vo, hbo, hoo⟩ := h.bo
  have q1 := hL.1
  have q2 := hL.2
  refine ⟨h1, h2, ⟨h.base.setCell (by show n ≤ L; omega) _, h.br.set_ne (by omega) _, h.bc.set_ne (by omega) _, h.bm.set_ne (by omega) _, h.bl.set_ne (by omega) _, h.bp.set_ne (by omega) _, ⟨vo, hbo.set_ne (by omega) _, ?_⟩, h.sh, ?_, h.lown.setInt (by omega) (I64.small (by omega) (by omega)), by rw [List.length_set]; exact hll, fun k hk => ?_, ?_⟩⟩
  · rw [size_setCell]
    exact (rOwn (rOwn (rOwn rIntV))).same (fun b hb => Below.heap_setCell w _ _ b (by have := hb.1; show b ≠ L; omega)) hoo
  · exact (rOwn (rOwn rIntV)).same (fun b hb => Below.heap_setCell w _ _ b (by have := hb.2; show b ≠ L; omega)) h.own
  · obtain ⟨hG, -⟩ := h.own.focus (rOwn rIntV) (at2_row h.sh hk).1
    rw [World.cell?_of_block (w := w) (a := ⟨G, k, none⟩) (Below.heap_setCell w ⟨L, x, none⟩ (.int .i64 z) G (by have := hG.2; show G ≠ L; omega))]
    exact h.rows k hk
  · rw [size_setCell]; exact h.hK
theorem ASt.put {n Br Bc Bo g0 g1 Bm l0 l1 Bl Bp K r c G cap L capL : Nat} {F vr vc : Value} {Q C : Nat → Nat} {W0 w w' : World} {left : List Int} {m : List (List Int)} {out out' : List (List (List Int))} (wf : AWf n Br Bc Bo g0 g1 Bm l0 l1 Bl Bp K)
    (h : ASt n Br Bc Bo g0 g1 Bm l0 l1 Bl Bp K r c G cap L capL F vr vc Q C W0 w left m out) {v' : Value} (hb : Below K w w') (ho : Own 23 (Own 25 (Own 3 IntV)) (Iv K w'.heap.size) w' v' out') :
    ASt n Br Bc Bo g0 g1 Bm l0 l1 Bl Bp K r c G cap L capL F vr vc Q C W0 (w'.setCell ⟨Bo, 0, none⟩ v') left m out' := by
  obtain ⟨a1, a2, a3, a4, a5, a6, a7, a8, a9, a10, a11⟩ := wf
  have hs := hb.size
  obtain ⟨vo, hbo, hoo⟩ := h.bo
  have kb : ∀ {g : Nat} {cs : Array Value} {t : TypeId}, Blk w g cs t → g < K → g ≠ Bo → Blk (w'.setCell ⟨Bo, 0, none⟩ v') g cs t := fun {g cs t} hg hl hn => Blk.set_ne (show Blk w' g cs t from (hb.block g hl).trans hg) hn v'
  have ko : ∀ b, b < K → b ≠ Bo → (w'.setCell ⟨Bo, 0, none⟩ v').heap[b]? = w.heap[b]? := fun b hl hn => (Below.heap_setCell w' _ _ b (by show b ≠ Bo; exact hn)).trans (hb.block b hl)
  refine ⟨?_, kb h.br (by omega) (by omega), kb h.bc (by omega) (by omega), kb h.bm (by omega) (by omega), kb h.bl (by omega) (by omega), kb h.bp (by omega) (by omega), ⟨v', ?_, ?_⟩, h.sh, ?_, ?_, h.ll, fun k hk => ?_, ?_⟩
  · exact (h.base.trans (hb.mono (by omega))).setCell (by show n ≤ Bo; omega) _
  · have h1 : Blk w' Bo #[vo] 41 := (hb.block Bo (by omega)).trans hbo
    have h2 := h1.set (j := 0) v'
    simpa using h2
  · rw [size_setCell]
    exact (rOwn (rOwn (rOwn rIntV))).same (fun b hb => Below.heap_setCell w' _ _ b (by have := hb.1; show b ≠ Bo; omega)) ho
  · exact (rOwn (rOwn rIntV)).same (fun b hb => ko b (by have := hb.2; omega) (by have := hb.1; omega)) h.own
  · exact (rOwn rIntV).same (fun b hb => ko b (by have := hb.2; omega) (by have := hb.1; omega)) h.lown
  · obtain ⟨hG, -⟩ := h.own.focus (rOwn rIntV) (at2_row h.sh hk).1
    rw [World.cell?_of_block (w := w) (a := ⟨G, k, none⟩) (ko G (by have := hG.2; omega) (by have := hG.1; omega))]
    exact h.rows k hk
  · rw [size_setCell]; have := h.hK; omega
end Go.Proofs.Ytliejhmlcdjpcaa

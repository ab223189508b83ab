/- Contracts and plain laws that the claims on sessions use. No condition of their own. -/
import Derived.Test.YthmocomfjgmjoaaGreatDoorQ03
import Derived.Test.YthmocomfjgmjoaaGreatDoorQ02
import Derived.Test.YthmocomfjgmjoaaGreatDoorQ01
import Derived.Laws.EntriesVeiled
import Derived.Deep.DeepCutAuto
import Derived.Deep.RegionLaw
set_option maxHeartbeats 4000000
set_option maxRecDepth 100000
namespace Go.Proofs.YthmocomfjgmjoaaGreatDoor
open Go.RowKit
theorem SumsOk_i (v v2 : Value) (xs ys : List Int) (w : World) (hv : Ints w v xs) (hv2 : Ints w v2 ys) : Calls Tryz.prog 89 #[v, v2] w fun e w' => e = .returned (.bool (sumsOk xs ys)) ∧ w = w' := by
  obtain ⟨a, cap, rfl, hcap, hle, -, -⟩ := id hv
  obtain ⟨a2, cap2, rfl, hcap2, hle2, -, -⟩ := id hv2
  by_cases hall : (inR 1 5 xs.length && inR 1 5 ys.length && xs.all (inR 0 ys.length) && ys.all (inR 0 xs.length)) = true
  · have Hall := Lib.hid hall
    simp only [Bool.and_eq_true] at hall
    obtain ⟨⟨⟨h1, h2⟩, h3⟩, h4⟩ := hall
    have h1' := h1
    have h2' := h2
    rw [inR_iff] at h1' h2'
    have hsx := small_of_all h3 (by omega) (by omega)
    have hsy := small_of_all h4 (by omega) (by omega)
    have Hr := Lib.hid (show sumsOk xs ys = decide (sumL xs = sumL ys) from by unfold sumsOk; rw [Hall.out]; rfl)
    by_cases he : sumL xs = sumL ys
    · have Hd := Lib.hid (show sumsOk xs ys = true from by rw [Hr.out]; simpa using he)
      have hb : (sumL xs == sumL ys) = true := by simpa using he
      go_enter Tryz.func89, Tryz.ntmps89
      go_wp2_with (first | (go_at_call 95; refine (within_c _ _ _ _).mono ?_; rintro e w' ⟨rfl, rfl⟩) | (go_at_call 157; refine (allWithin_c _ _ _ _ _ (by assumption)).mono ?_; rintro e w' ⟨rfl, rfl⟩) | (go_at_call 87; ((with_reducible refine (sumOf_c _ _ _ hv hsx).mono ?_); rintro e w' ⟨rfl, rfl⟩)) | (go_at_call 87; ((with_reducible refine (sumOf_c _ _ _ hv2 hsy).mono ?_); rintro e w' ⟨rfl, rfl⟩)))
      go_ret
      exact ⟨retB Hd.out.symm, rfl⟩
    · have Hd := Lib.hid (show sumsOk xs ys = false from by rw [Hr.out]; simpa using he)
      have hb : (sumL xs == sumL ys) = false := by simpa using he
      go_enter Tryz.func89, Tryz.ntmps89
      go_wp2_with (first | (go_at_call 95; refine (within_c _ _ _ _).mono ?_; rintro e w' ⟨rfl, rfl⟩) | (go_at_call 157; refine (allWithin_c _ _ _ _ _ (by assumption)).mono ?_; rintro e w' ⟨rfl, rfl⟩) | (go_at_call 87; ((with_reducible refine (sumOf_c _ _ _ hv hsx).mono ?_); rintro e w' ⟨rfl, rfl⟩)) | (go_at_call 87; ((with_reducible refine (sumOf_c _ _ _ hv2 hsy).mono ?_); rintro e w' ⟨rfl, rfl⟩)))
      go_ret
      exact ⟨retB Hd.out.symm, rfl⟩
  · have Hd := Lib.hid (show sumsOk xs ys = false from by unfold sumsOk; rw [Bool.not_eq_true] at hall; rw [hall]; rfl)
    cases h1 : inR 1 5 xs.length
    · go_enter Tryz.func89, Tryz.ntmps89
      go_wp2_with (first | (go_at_call 95; refine (within_c _ _ _ _).mono ?_; rintro e w' ⟨rfl, rfl⟩))
      go_ret
      exact ⟨retB Hd.out.symm, rfl⟩
    cases h2 : inR 1 5 ys.length
    · go_enter Tryz.func89, Tryz.ntmps89
      go_wp2_with (first | (go_at_call 95; refine (within_c _ _ _ _).mono ?_; rintro e w' ⟨rfl, rfl⟩))
      go_ret
      exact ⟨retB Hd.out.symm, rfl⟩
    cases h3 : xs.all (inR 0 ys.length)
    · go_enter Tryz.func89, Tryz.ntmps89
      go_wp2_with (first | (go_at_call 95; refine (within_c _ _ _ _).mono ?_; rintro e w' ⟨rfl, rfl⟩) | (go_at_call 157; refine (allWithin_c _ _ _ _ _ (by assumption)).mono ?_; rintro e w' ⟨rfl, rfl⟩))
      go_ret
      exact ⟨retB Hd.out.symm, rfl⟩
    cases h4 : ys.all (inR 0 xs.length)
    · go_enter Tryz.func89, Tryz.ntmps89
      go_wp2_with (first | (go_at_call 95; refine (within_c _ _ _ _).mono ?_; rintro e w' ⟨rfl, rfl⟩) | (go_at_call 157; refine (allWithin_c _ _ _ _ _ (by assumption)).mono ?_; rintro e w' ⟨rfl, rfl⟩))
      go_ret
      exact ⟨retB Hd.out.symm, rfl⟩
    rw [h1, h2, h3, h4] at hall
    exact absurd rfl hall
theorem step_app {α : Type} {P : Program} {w0 : World} {ops : Array Oper} {o : Oper} {a : Act} {K : Act → World → Prop} {Q : Exit → Act → World → Prop} {Ep : Prop} (hgd : o.guard = none) (s xo : Operand) (t : TypeId)
    (ho : o.op = .call { callee := .builtin .append, args := #[s, xo], argTypes := #[t, t] }) {R : RepT α} (hR : Rep R)
    (E : TypeId) {z : Value} {bytes : Nat} (ht : P.underlying t = some (.slice E)) (hinfo : (P.info? E).map (fun i => (i.zero, i.size, i.bytes)) = some (some z, 1, bytes)) (hzs : z.cells.size = 1) (hb64 : bytes ≤ 64)
    (B M : Nat) (hBM : B ≤ M) (hM : M ≤ w0.heap.size) {v u : Value} {xs : List α} {x : α} (hs : a.eval s = v) (hx : a.eval xo = .slice (some ⟨w0.heap.size, 0, none⟩) 1 1) (hown : Own E R (Iv B M) w0 v xs) (hu : R (Iv M w0.heap.size) w0 u x) (hlen : xs.length < 1099511627776)
    (h : ∀ v' w', Own E R (Iv B w'.heap.size) w' v' (xs ++ [x]) → Below B w0 w' → K (a.put o.dst v') w') :
    if Region.wanted o (yielded ops a.tmps) = true then Oper.wp P o a (w0.alloc (.cells #[u] E)) K Q else Ep := by
  have hw : Region.wanted o (yielded ops a.tmps) = true := by simp [Region.wanted, hgd]
  rw [if_pos hw]
  obtain ⟨i, hi, hz, hsize, hby⟩ := info_parts hinfo
  obtain ⟨v', w', hr, h2, h3⟩ := run_append1 (P := P) hR w0 t o.type E i z bytes ht hi hz hsize hby hzs hb64 (Iv B M) (Iv M w0.heap.size) (fun b => B ≤ b) v u xs x hown hu (fun b h1 h2 => by have := h1.2; have := h2.1; omega) (fun b h1 => Nat.lt_of_lt_of_le h1.2 hM) (fun b h1 => h1.2)
    (fun b h1 => h1.1) (fun b h1 => Nat.le_trans hBM h1.1) (fun b h1 => by omega) hlen
  unfold Oper.wp execOp
  simp only [ho, resolve, invoke, builtin, Sem.run_bind, Sem.run_pure, Result.andThen_ok, List.map_toArray, List.map_cons, List.map_nil, hs, hx, hr]
  exact h v' w' h2 (h3.below (Nat.le_trans hBM hM) fun b hb => (Own.ownBlock' hown b hb).1)
structure AWf (n Br Bc Bo g0 g1 Bm l0 l1 Bl Bp K : Nat) : Prop where
  h1 : n ≤ Br
  h2 : Br < Bc
  h3 : Bc < Bo
  h4 : Bo < g0
  h5 : g0 ≤ g1
  h6 : g1 ≤ Bm
  h7 : Bm < l0
  h8 : l0 ≤ l1
  h9 : l1 ≤ Bl
  h10 : Bl < Bp
  h11 : Bp < K
structure ASt (n Br Bc Bo g0 g1 Bm l0 l1 Bl Bp K r c G cap L capL : Nat) (F vr vc : Value) (Q C : Nat → Nat) (W0 w : World) (left : List Int) (m : List (List Int)) (out : List (List (List Int))) : Prop where
  base : Below n W0 w
  br : Blk w Br #[vr] 32
  bc : Blk w Bc #[vc] 32
  bm : Blk w Bm #[.slice (some ⟨G, 0, none⟩) r cap] 31
  bl : Blk w Bl #[.slice (some ⟨L, 0, none⟩) c capL] 32
  bp : Blk w Bp #[F] 127
  bo : ∃ vo, Blk w Bo #[vo] 77 ∧ Own 31 (Own 32 (Own 3 IntV)) (Iv K w.heap.size) w vo out
  sh : Shape r c m
  own : Own 32 (Own 3 IntV) (Iv g0 g1) w (.slice (some ⟨G, 0, none⟩) r cap) m
  lown : Own 3 IntV (Iv l0 l1) w (.slice (some ⟨L, 0, none⟩) c capL) left
  ll : left.length = c
  rows : ∀ k, k < r → w.cell? ⟨G, k, none⟩ = some (.slice (some ⟨Q k, 0, none⟩) c (C k))
  hK : K ≤ w.heap.size
theorem ASt.setM {n Br Bc Bo g0 g1 Bm l0 l1 Bl Bp K r c G cap L capL : Nat} {F vr vc : Value} {Q C : Nat → Nat} {W0 w : World} {left : List Int} {m : List (List Int)} {out : List (List (List Int))} (wf : AWf n Br Bc Bo g0 g1 Bm l0 l1 Bl Bp K)
    (h : ASt n Br Bc Bo g0 g1 Bm l0 l1 Bl Bp K r c G cap L capL F vr vc Q C W0 w left m out) {y x : Nat} (hy : y < r) (hx : x < c) {z : Int} (hz0 : 0 ≤ z) (hz1 : z ≤ 1) :
    (∃ o, w.cell? ⟨Q y, x, none⟩ = some (.int .i64 o)) ∧ w.frozen? ⟨Q y, x, none⟩ = false ∧
    ASt n Br Bc Bo g0 g1 Bm l0 l1 Bl Bp K r c G cap L capL F vr vc Q C W0 (w.setCell ⟨Q y, x, none⟩ (.int .i64 z)) left (setC m y x z) out := by
  obtain ⟨a1, a2, a3, a4, a5, a6, a7, a8, a9, a10, a11⟩ := wf
  obtain ⟨hrow, hrl⟩ := at2_row h.sh hy
  obtain ⟨q, cq, hcell, hG, hq, hqG, hcq, hxs, hrd, hset⟩ := own_grid_cell h.own hrow (by omega)
  have hQ := h.rows y hy
  rw [hcell] at hQ
  have e := Option.some.inj hQ
  have e2 : q = Q y := by injection e with e1 e3 e4; injection e1 with e5; injection e5
  subst e2
  obtain ⟨⟨o, ho⟩, hfo⟩ := hxs x (by omega)
  obtain ⟨vo, hbo, hoo⟩ := h.bo
  have q1 := hq.1
  have q2 := hq.2
  refine ⟨⟨o, ho⟩, hfo, ⟨h.base.setCell (by show n ≤ Q y; omega) _, h.br.set_ne (by omega) _, h.bc.set_ne (by omega) _, h.bm.set_ne (by omega) _, h.bl.set_ne (by omega) _, h.bp.set_ne (by omega) _, ⟨vo, hbo.set_ne (by omega) _, ?_⟩, setC_shape h.sh hy hz0 hz1, hset w (fun _ _ => rfl) x z (by omega) (I64.small (by omega) (by omega)), ?_, h.ll, fun k hk => ?_, ?_⟩⟩
  · rw [size_setCell]
    exact (rOwn (rOwn (rOwn rIntV))).same (fun b hb => Below.heap_setCell w _ _ b (by have := hb.1; show b ≠ Q y; omega)) hoo
  · exact (rOwn rIntV).same (fun b hb => Below.heap_setCell w _ _ b (by have := hb.1; show b ≠ Q y; omega)) h.lown
  · rw [World.cell?_of_block (w := w) (a := ⟨G, k, none⟩) (Below.heap_setCell w ⟨Q y, x, none⟩ (.int .i64 z) G (by simpa using fun e => hqG e.symm))]
    exact h.rows k hk
  · rw [size_setCell]; exact h.hK
theorem ASt.setL {n Br Bc Bo g0 g1 Bm l0 l1 Bl Bp K r c G cap L capL : Nat} {F vr vc : Value} {Q C : Nat → Nat} {W0 w : World} {left : List Int} {m : List (List Int)} {out : List (List (List Int))} (wf : AWf n Br Bc Bo g0 g1 Bm l0 l1 Bl Bp K)
    (h : ASt n Br Bc Bo g0 g1 Bm l0 l1 Bl Bp K r c G cap L capL F vr vc Q C W0 w left m out) {x : Nat} (hx : x < c) {z : Int} (hz0 : -1 ≤ z) (hz1 : z ≤ 9) :
    w.cell? ⟨L, x, none⟩ = some (.int .i64 (left.getD x 0)) ∧ w.frozen? ⟨L, x, none⟩ = false ∧
    ASt n Br Bc Bo g0 g1 Bm l0 l1 Bl Bp K r c G cap L capL F vr vc Q C W0 (w.setCell ⟨L, x, none⟩ (.int .i64 z)) (left.set x z) m out := by
  obtain ⟨a1, a2, a3, a4, a5, a6, a7, a8, a9, a10, a11⟩ := wf
  have hll := h.ll
  have hat : left[x]? = some (left.getD x 0) := gD_at 0 (by omega)
  obtain ⟨hL, -⟩ := h.lown.focus rIntV hat
  obtain ⟨h1, h2, -⟩ := h.lown.ints_cell hat
  obtain ⟨vo, hbo, hoo⟩ := h.bo
  have q1 := hL.1
  have q2 := hL.2
  refine ⟨h1, h2, ⟨h.base.setCell (by show n ≤ L; omega) _, h.br.set_ne (by omega) _, h.bc.set_ne (by omega) _, h.bm.set_ne (by omega) _, h.bl.set_ne (by omega) _, h.bp.set_ne (by omega) _, ⟨vo, hbo.set_ne (by omega) _, ?_⟩, h.sh, ?_, h.lown.setInt (by omega) (I64.small (by omega) (by omega)), by rw [List.length_set]; exact hll, fun k hk => ?_, ?_⟩⟩
  · rw [size_setCell]
    exact (rOwn (rOwn (rOwn rIntV))).same (fun b hb => Below.heap_setCell w _ _ b (by have := hb.1; show b ≠ L; omega)) hoo
  · exact (rOwn (rOwn rIntV)).same (fun b hb => Below.heap_setCell w _ _ b (by have := hb.2; show b ≠ L; omega)) h.own
  · obtain ⟨hG, -⟩ := h.own.focus (rOwn rIntV) (at2_row h.sh hk).1
    rw [World.cell?_of_block (w := w) (a := ⟨G, k, none⟩) (Below.heap_setCell w ⟨L, x, none⟩ (.int .i64 z) G (by have := hG.2; show G ≠ L; omega))]
    exact h.rows k hk
  · rw [size_setCell]; exact h.hK
theorem ASt.put {n Br Bc Bo g0 g1 Bm l0 l1 Bl Bp K r c G cap L capL : Nat} {F vr vc : Value} {Q C : Nat → Nat} {W0 w w' : World} {left : List Int} {m : List (List Int)} {out out' : List (List (List Int))} (wf : AWf n Br Bc Bo g0 g1 Bm l0 l1 Bl Bp K)
    (h : ASt n Br Bc Bo g0 g1 Bm l0 l1 Bl Bp K r c G cap L capL F vr vc Q C W0 w left m out) {v' : Value} (hb : Below K w w') (ho : Own 31 (Own 32 (Own 3 IntV)) (Iv K w'.heap.size) w' v' out') :
    ASt n Br Bc Bo g0 g1 Bm l0 l1 Bl Bp K r c G cap L capL F vr vc Q C W0 (w'.setCell ⟨Bo, 0, none⟩ v') left m out' := by
  obtain ⟨a1, a2, a3, a4, a5, a6, a7, a8, a9, a10, a11⟩ := wf
  have hs := hb.size
  obtain ⟨vo, hbo, hoo⟩ := h.bo
  have kb : ∀ {g : Nat} {cs : Array Value} {t : TypeId}, Blk w g cs t → g < K → g ≠ Bo → Blk (w'.setCell ⟨Bo, 0, none⟩ v') g cs t := fun {g cs t} hg hl hn => Blk.set_ne (show Blk w' g cs t from (hb.block g hl).trans hg) hn v'
  have ko : ∀ b, b < K → b ≠ Bo → (w'.setCell ⟨Bo, 0, none⟩ v').heap[b]? = w.heap[b]? := fun b hl hn => (Below.heap_setCell w' _ _ b (by show b ≠ Bo; exact hn)).trans (hb.block b hl)
  refine ⟨?_, kb h.br (by omega) (by omega), kb h.bc (by omega) (by omega), kb h.bm (by omega) (by omega), kb h.bl (by omega) (by omega), kb h.bp (by omega) (by omega), ⟨v', ?_, ?_⟩, h.sh, ?_, ?_, h.ll, fun k hk => ?_, ?_⟩
  · exact (h.base.trans (hb.mono (by omega))).setCell (by show n ≤ Bo; omega) _
  · have h1 : Blk w' Bo #[vo] 77 := (hb.block Bo (by omega)).trans hbo
    have h2 := h1.set (j := 0) v'
    simpa using h2
  · rw [size_setCell]
    exact (rOwn (rOwn (rOwn rIntV))).same (fun b hb => Below.heap_setCell w' _ _ b (by have := hb.1; show b ≠ Bo; omega)) ho
  · exact (rOwn (rOwn rIntV)).same (fun b hb => ko b (by have := hb.2; omega) (by have := hb.1; omega)) h.own
  · exact (rOwn rIntV).same (fun b hb => ko b (by have := hb.2; omega) (by have := hb.1; omega)) h.lown
  · obtain ⟨hG, -⟩ := h.own.focus (rOwn rIntV) (at2_row h.sh hk).1
    rw [World.cell?_of_block (w := w) (a := ⟨G, k, none⟩) (ko G (by have := hG.2; omega) (by have := hG.1; omega))]
    exact h.rows k hk
  · rw [size_setCell]; have := h.hK; omega
theorem below_undrewE {w w2 : World} (h : Below w.drew.heap.size w.drew w2) : Below w.heap.size w w2 := ⟨h.os, h.tape, h.output, h.size, h.block⟩
theorem infoGridsE : (Tryz.prog.info? 31).map (fun i => (i.zero, i.size, i.bytes)) = some (some (.slice none 0 0), 1, 24) := by kernel_rfl
theorem pow_two_split {a b c f : Nat} (h : a + 2 ^ (f + 1) ≤ b) (hc : c ≤ 2 ^ f) : a + c + 2 ^ f ≤ b := by rw [Nat.pow_succ] at h; omega
theorem ASt.drewN {n Br Bc Bo g0 g1 Bm l0 l1 Bl Bp K r c G cap L capL : Nat} {F vr vc : Value} {Q C : Nat → Nat} {W0 w : World} {left : List Int} {m : List (List Int)} {out : List (List (List Int))}
    (h : ASt n Br Bc Bo g0 g1 Bm l0 l1 Bl Bp K r c G cap L capL F vr vc Q C W0 w left m out) (k : Nat) : ASt n Br Bc Bo g0 g1 Bm l0 l1 Bl Bp K r c G cap L capL F vr vc Q C W0 (w.drewN k) left m out :=
  ⟨below_drewN h.base k, h.br, h.bc, h.bm, h.bl, h.bp, h.bo, h.sh, h.own, h.lown, h.ll, h.rows, h.hK⟩
theorem put_c {n Br Bc Bo g0 g1 Bm l0 l1 Bl Bp K G cap L capL : Nat} {F vr vc : Value} {Q C : Nat → Nat} {W0 : World} {xs ys : List Int} (wf : AWf n Br Bc Bo g0 g1 Bm l0 l1 Bl Bp K)
    (hF : F = .func (.func 108) #[] #[.pointer (some ⟨Bc, 0, none⟩), .pointer (some ⟨Br, 0, none⟩), .pointer (some ⟨Bo, 0, none⟩), .pointer (some ⟨Bm, 0, none⟩), .pointer (some ⟨Bl, 0, none⟩), .pointer (some ⟨Bp, 0, none⟩)])
    (hn : W0.heap.size ≤ n) (hn2 : n ≤ W0.heap.size) (hvr : Ints W0 vr xs) (hvc : Ints W0 vc ys) (hr5 : xs.length ≤ 5) (hc1 : 1 ≤ ys.length) (hc5 : ys.length ≤ 5) (hx5 : ∀ i, 0 ≤ xs.getD i 0 ∧ xs.getD i 0 ≤ 5) (f : Nat) :
    ∀ (y x : Nat) (need : Int) (left : List Int) (m : List (List Int)) (out : List (List (List Int))) (w : World), ASt n Br Bc Bo g0 g1 Bm l0 l1 Bl Bp K xs.length ys.length G cap L capL F vr vc Q C W0 w left m out → PInv xs ys xs.length ys.length y x need left m → y < xs.length → x ≤ ys.length →
      xs.length * (ys.length + 1) ≤ f + (y * (ys.length + 1) + x) → out.length + 2 ^ f ≤ 1099511627775 →
      Calls Tryz.prog 108 #[.int .i64 y, .int .i64 x, .int .i64 need, .pointer (some ⟨Bc, 0, none⟩), .pointer (some ⟨Br, 0, none⟩), .pointer (some ⟨Bo, 0, none⟩), .pointer (some ⟨Bm, 0, none⟩), .pointer (some ⟨Bl, 0, none⟩), .pointer (some ⟨Bp, 0, none⟩)] w
        fun e w' => e = .returned (.tuple #[]) ∧ ASt n Br Bc Bo g0 g1 Bm l0 l1 Bl Bp K xs.length ys.length G cap L capL F vr vc Q C W0 w' left m (out ++ pgo xs xs.length ys.length f y x need left m) := by
  subst hF
  have Wf := Lib.hid wf
  have Hvr := Lib.hid hvr
  have Hvc := Lib.hid hvc
  obtain ⟨ar, capr, rfl, -⟩ := hvr
  obtain ⟨ac, capc, rfl, -⟩ := hvc
  induction f with
  | zero =>
    intro y x need left m out w _ _ hy hx hf _
    have h1 : (y + 1) * (ys.length + 1) ≤ xs.length * (ys.length + 1) := Nat.mul_le_mul_right _ hy
    rw [Nat.succ_mul] at h1
    omega
  | succ f ih =>
    intro y x need left m out w hst hinv hy hx hf hout
    have IH := Lib.hid ih
    have Hx5 := Lib.hid hx5
    have Hst := Lib.hid hst
    have Hinv := Lib.hid hinv
    have Hf := Lib.hid hf
    have Hout := Lib.hid hout
    have hn0 := hinv.need0
    have hn00 := hn0.1
    have hn01 := hn0.2
    have c0 : w.cell? ⟨Bc, 0, none⟩ = some (.slice ac ys.length capc) := hst.bc.cell 0
    have c1 : w.cell? ⟨Br, 0, none⟩ = some (.slice ar xs.length capr) := hst.br.cell 0
    clear ih hst hinv hf hout hn0 hx5
    go_enter Tryz.func108, Tryz.ntmps108
    go_upto_if 15 with (fail)
    go_cut [0, 1, 2] (fun s0 s1 s2 wx => ∃ (y1 x1 : Nat) (n1 : Int), s0 = .int .i64 y1 ∧ s1 = .int .i64 x1 ∧ s2 = .int .i64 n1 ∧ w = wx ∧ y1 < xs.length ∧ x1 < ys.length ∧ Hid (PInv xs ys xs.length ys.length y1 x1 n1 left m) ∧ Hid (xs.length * (ys.length + 1) ≤ f + (y1 * (ys.length + 1) + (x1 + 1))) ∧ Hid (pgo xs xs.length ys.length (f + 1) y x need left m = pcell xs.length ys.length (pgo xs xs.length ys.length f) y1 x1 n1 left m))
    case first =>
      by_cases hxc : x = ys.length
      · subst hxc
        have hneed : need = 0 := by omega
        subst hneed
        by_cases hyr : y + 1 = xs.length
        · have Hp := Lib.hid (show pgo xs xs.length ys.length (f + 1) y ys.length 0 left m = [m] from by rw [pgo, if_pos rfl, if_neg (by decide), if_pos hyr])
          have hyb : ((y : Int) + 1 == (xs.length : Int)) = true := by rw [beq_iff_eq]; omega
          have hcu : (y + 1) * 1 = xs.length := by omega
          clear hcu
          have HG := Lib.hid Hst.out.own.grid
          have hlen : out.length < 1099511627776 := Nat.lt_of_le_of_lt (Nat.le_trans (Nat.le_add_right _ _) Hout.out) (by decide)
          obtain ⟨vo, hbo, hoo⟩ := Hst.out.bo
          have Hoo := Lib.hid hoo
          have Hbo := Lib.hid hbo
          have c2 : w.cell? ⟨Bm, 0, none⟩ = some (.slice (some ⟨G, 0, none⟩) xs.length cap) := Hst.out.bm.cell 0
          have c5 : w.cell? ⟨Bo, 0, none⟩ = some vo := hbo.cell 0
          have c6 : w.frozen? ⟨Bo, 0, none⟩ = false := hbo.frozen 0
          clear hoo hbo
          go_wp2
          have hml : m.length ≤ 1048576 := by have := Hst.out.sh.1; omega
          have HR := Lib.hid (show ∀ p ∈ m, p.length ≤ 1048576 from fun p hp => by have := (Hst.out.sh.2 p hp).1; omega)
          have hK := Hst.out.hK
          have hBo : Bo < K := by have h4 := Wf.out.h4; have h5 := Wf.out.h5; have h6 := Wf.out.h6; have h7 := Wf.out.h7; have h8 := Wf.out.h8; have h9 := Wf.out.h9; have h10 := Wf.out.h10; have h11 := Wf.out.h11; omega
          have hBow : Bo < w.heap.size := by omega
          go_region_law (first
            | (refine step_app (w0 := w2) (v := vo) rfl (.tmp 24) (.tmp 27) 77 rfl (rOwn (rOwn rIntV)) 31 Tryz.underlying77 infoGridsE rfl (by decide) K w.heap.size hK hs2 (by simp [Act.eval]) (by simp [Act.eval]) (by exact Hoo2.out) (by exact Ho2.out) hlen ?_; intro v3 w3 o3 b3; obtain ⟨p4, p5, p6, rfl⟩ := o3.shape; have c7 := (b3.cell (p := ⟨Bo, 0, none⟩) hBo).trans c5'; have c8 := (b3.frozen (p := ⟨Bo, 0, none⟩) hBo).trans c6')
            | (refine step_app (w0 := w2.drew) (v := vo) rfl (.tmp 24) (.tmp 27) 77 rfl (rOwn (rOwn rIntV)) 31 Tryz.underlying77 infoGridsE rfl (by decide) K w.heap.size hK hs2 (by simp [Act.eval]) (by simp [Act.eval]) (by exact Hoo2.out) (by exact Ho2.out) hlen ?_; intro v3 w3 o3 b3; obtain ⟨p4, p5, p6, rfl⟩ := o3.shape; have c7 := (b3.cell (p := ⟨Bo, 0, none⟩) hBo).trans c5'; have c8 := (b3.frozen (p := ⟨Bo, 0, none⟩) hBo).trans c6')
            | (go_simp; go_at_call 82; refine (copyGrid_c _ m _ (by exact HG.out) hml HR.out).mono ?_; rintro e w2 ⟨v2, rfl, o2, b2⟩; obtain ⟨p1, p2, p3, rfl⟩ := o2.shape;
               have b2' : Below w.heap.size w w2 := by first | exact b2 | exact below_undrewE b2 | exact below_undrewE (below_undrewE b2);
               have hs2 := b2'.size;
               have Ho2 := Lib.hid o2;
               have Hoo2 := Lib.hid (Own.keep (rOwn (rOwn rIntV)) Hoo.out b2' (Nat.le_refl _));
               have c5' := (b2'.cell (p := ⟨Bo, 0, none⟩) hBow).trans c5; have hBw2 : Bo < w2.heap.size := Nat.lt_of_lt_of_le hBow hs2; have c5'' := ((Below.pureAlloc w2 (.cells #[Value.slice p1 p2 p3] 31)).cell (p := ⟨Bo, 0, none⟩) hBw2).trans c5';
               have c6' := (b2'.frozen (p := ⟨Bo, 0, none⟩) hBow).trans c6; clear o2 b2))
          all_goals go_wp2
          all_goals exact bodyPost_ret (v := .tuple #[]) (by simp [results, Tryz.results108, go_sem]) rfl ⟨rfl, by rw [Hp.out]; exact Hst.out.put Wf.out (v' := Value.slice p4 p5 p6) ((b2'.mono hK).trans (by first | exact b3 | exact below_undrewE b3)) o3⟩
        · have hyb : ((y : Int) + 1 == (xs.length : Int)) = false := by rw [beq_eq_false_iff_ne]; omega
          have hy1 : y + 1 < xs.length := by omega
          have hnext := Hinv.out.next hy1
          have Hnext := Lib.hid hnext
          have hcx : w.cell? ⟨Br, 0, none⟩ = some (.slice ar xs.length capr) := c1
          obtain ⟨b, off, cpr, he, hb, -⟩ := Hvr.out.inv_ne (by omega)
          obtain ⟨rfl, -⟩ : ar = some ⟨b, off, none⟩ ∧ capr = cpr := by simpa using he
          have hcy := Ints.at Hvr.out (gD_at 0 hy1 : xs[y + 1]? = some (xs.getD (y + 1) 0))
          rw [← Hst.out.base.cell (p := ⟨b, off + (y + 1), none⟩) (by show b < n; omega)] at hcy
          obtain ⟨n1, hn1⟩ : ∃ n1, n1 = xs.getD (y + 1) 0 := ⟨_, rfl⟩
          rw [← hn1] at hcy
          have Hn1 := Lib.hid hn1
          clear hnext he hn1
          go_wp2
          go_meet
          case rel =>
            refine ⟨y + 1, 0, n1, by go_num, rfl, rfl, rfl, hy1, by omega, ?_, ?_, ?_⟩
            · rw [Hn1.out]; exact Hnext
            · have := Hf.out
              show xs.length * (ys.length + 1) ≤ _
              rw [Nat.succ_mul]; omega
            · rw [Hn1.out]
              show pgo xs xs.length ys.length (f + 1) y ys.length 0 left m = _
              rw [pgo, if_pos rfl, if_neg (by decide), if_neg hyr]
      · have hxb : ((x : Int) == (ys.length : Int)) = false := by rw [beq_eq_false_iff_ne]; omega
        go_wp2
        go_meet
        case rel =>
          refine ⟨y, x, need, rfl, rfl, rfl, rfl, hy, by omega, Hinv, ?_, ?_⟩
          · have := Hf.out
            show xs.length * (ys.length + 1) ≤ _
            omega
          · show pgo xs xs.length ys.length (f + 1) y x need left m = _
            rw [pgo, if_neg hxc]
    case rest =>
      obtain ⟨y1, x1, n1, rfl, rfl, rfl, rfl, hy1, hx1, Hinv1, Hf1, Hp⟩ := hcut
      clear Hinv Hf hn00 hn01
      have hn0 := Hinv1.out.need0
      have hn00 := hn0.1
      have hn01 := hn0.2
      have hll := Hst.out.ll
      obtain ⟨lx, hlx⟩ : ∃ lx, lx = left.getD x1 0 := ⟨_, rfl⟩
      have hl0 := Hinv1.out.left0 x1 hx1
      rw [← hlx, if_neg (by omega)] at hl0
      have hl00 := hl0.1
      have hl01 := hl0.2
      have Hlx := Lib.hid hlx
      obtain ⟨hcl, -⟩ := Hst.out.setL Wf.out hx1 (z := 0) (by decide) (by decide)
      rw [← hlx] at hcl
      have c3 : w.cell? ⟨Bl, 0, none⟩ = some (.slice (some ⟨L, 0, none⟩) ys.length capL) := Hst.out.bl.cell 0
      have c4 : w.cell? ⟨Bp, 0, none⟩ = some (.func (.func 108) #[] #[.pointer (some ⟨Bc, 0, none⟩), .pointer (some ⟨Br, 0, none⟩), .pointer (some ⟨Bo, 0, none⟩), .pointer (some ⟨Bm, 0, none⟩), .pointer (some ⟨Bl, 0, none⟩), .pointer (some ⟨Bp, 0, none⟩)]) := Hst.out.bp.cell 0
      clear hn0 hlx hl0 hll
      obtain ⟨A, hA⟩ : ∃ A, A = (if n1 ≤ (ys.length : Int) - x1 - 1 ∧ left.getD x1 0 ≤ (xs.length : Int) - y1 - 1 then pgo xs xs.length ys.length f y1 (x1 + 1) n1 left m else []) := ⟨_, rfl⟩
      obtain ⟨B, hB⟩ : ∃ B, B = (if 0 < n1 ∧ 0 < left.getD x1 0 then pgo xs xs.length ys.length f y1 (x1 + 1) (n1 - 1) (left.set x1 (left.getD x1 0 - 1)) (setC m y1 x1 1) else []) := ⟨_, rfl⟩
      have HP := Lib.hid (show pgo xs xs.length ys.length (f + 1) y x need left m = A ++ B from by rw [Hp.out, hA, hB]; rfl)
      have hAl : A.length ≤ 2 ^ f := by
        rw [hA]; split
        · exact pgo_len _ _ _ _ _ _ _ _ _
        · simp
      rw [← Hlx.out] at hA hB
      have HA := Lib.hid hA
      have HB := Lib.hid hB
      have HAl := Lib.hid hAl
      clear hA hB hAl Hp
      go_upto_region 6 with (fail)
      go_cut [51] (fun s51 wx => s51 = .bool (decide (n1 ≤ (ys.length : Int) - x1 - 1 ∧ lx ≤ (xs.length : Int) - y1 - 1)) ∧ ∃ k, w.drewN k = wx)
      case first =>
        by_cases h1 : n1 ≤ (ys.length : Int) - x1 - 1
        · by_cases h2 : lx ≤ (xs.length : Int) - y1 - 1
          · have Hd := Lib.hid (show decide (n1 ≤ (ys.length : Int) - x1 - 1 ∧ lx ≤ (xs.length : Int) - y1 - 1) = true from by rw [decide_eq_true_eq]; exact ⟨h1, h2⟩)
            go_quiet (fail)
            go_wp2
            go_meet
            case rel => exact ⟨by rw [Hd.out], _, rfl⟩
          · have Hd := Lib.hid (show decide (n1 ≤ (ys.length : Int) - x1 - 1 ∧ lx ≤ (xs.length : Int) - y1 - 1) = false from by rw [decide_eq_false_iff_not]; exact fun h => h2 h.2)
            go_quiet (fail)
            go_wp2
            go_meet
            case rel => exact ⟨by rw [Hd.out], _, rfl⟩
        · have Hd := Lib.hid (show decide (n1 ≤ (ys.length : Int) - x1 - 1 ∧ lx ≤ (xs.length : Int) - y1 - 1) = false from by rw [decide_eq_false_iff_not]; exact fun h => h1 h.1)
          go_quiet (fail)
          go_wp2
          go_meet
          case rel => exact ⟨by rw [Hd.out], _, rfl⟩
      case rest =>
        obtain ⟨rfl, k, rfl⟩ := hcut
        have Hstk := Lib.hid (Hst.out.drewN k)
        go_upto_if 51 with (fail)
        go_cut [] (fun wx => Hid (ASt n Br Bc Bo g0 g1 Bm l0 l1 Bl Bp K xs.length ys.length G cap L capL (.func (.func 108) #[] #[.pointer (some ⟨Bc, 0, none⟩), .pointer (some ⟨Br, 0, none⟩), .pointer (some ⟨Bo, 0, none⟩), .pointer (some ⟨Bm, 0, none⟩), .pointer (some ⟨Bl, 0, none⟩), .pointer (some ⟨Bp, 0, none⟩)]) (.slice ar xs.length capr) (.slice ac ys.length capc) Q C W0 wx left m (out ++ A)))
        case first =>
          by_cases hg : n1 ≤ (ys.length : Int) - x1 - 1 ∧ lx ≤ (xs.length : Int) - y1 - 1
          · have hd : decide (n1 ≤ (ys.length : Int) - x1 - 1 ∧ lx ≤ (xs.length : Int) - y1 - 1) = true := by rw [decide_eq_true_eq]; exact hg
            rw [hd]
            have hw := Hinv1.out.white hg.1 (by rw [← Hlx.out]; exact hg.2)
            have Hw := Lib.hid hw
            have HA2 := Lib.hid (show A = _ from by rw [HA.out, if_pos hg])
            have hout1 : out.length + 2 ^ f ≤ 1099511627775 := by have := Hout.out; rw [Nat.pow_succ] at this; omega
            clear hw hd
            go_wp2_with (fail)
            refine (IH.out y1 (x1 + 1) n1 left m out _ Hstk.out Hw.out hy1 (by omega) Hf1.out hout1).mono ?_
            rintro e w2 ⟨rfl, st2⟩
            have Hst2 := Lib.hid st2
            clear st2
            go_wp2
            go_meet
            case rel => rw [HA2.out]; exact Hst2
          · have hd : decide (n1 ≤ (ys.length : Int) - x1 - 1 ∧ lx ≤ (xs.length : Int) - y1 - 1) = false := by rw [decide_eq_false_iff_not]; exact hg
            rw [hd]
            have HA2 := Lib.hid (show A = [] from by rw [HA.out, if_neg hg])
            clear hd
            go_wp2
            go_meet
            case rel => rw [HA2.out, List.append_nil]; exact Hstk
        case rest =>
          have Hst1 := hcut
          clear hcut
          have c3' : wc.cell? ⟨Bl, 0, none⟩ = some (.slice (some ⟨L, 0, none⟩) ys.length capL) := Hst1.out.bl.cell 0
          obtain ⟨hcl', -⟩ := Hst1.out.setL Wf.out hx1 (z := 0) (by decide) (by decide)
          rw [← Hlx.out] at hcl'
          by_cases hg : 0 < n1 ∧ 0 < lx
          · have hgn := hg.1
            have hgl := hg.2
            have hb := Hinv1.out.black hy1 hx1 hg.1 (by rw [← Hlx.out]; exact hg.2)
            rw [← Hlx.out] at hb
            have Hb := Lib.hid hb
            have HB2 := Lib.hid (show B = _ from by rw [HB.out, if_pos hg])
            have hout2 : (out ++ A).length + 2 ^ f ≤ 1099511627775 := by rw [List.length_append]; exact pow_two_split Hout.out HAl.out
            have Hout2 := Lib.hid hout2
            have hcell := Hst1.out.rows y1 hy1
            have c2' : wc.cell? ⟨Bm, 0, none⟩ = some (.slice (some ⟨G, 0, none⟩) xs.length cap) := Hst1.out.bm.cell 0
            obtain ⟨⟨o, ho⟩, hfo, s1⟩ := Hst1.out.setM Wf.out hy1 hx1 (z := 1) (by decide) (by decide)
            obtain ⟨e1, e2, s2⟩ := s1.setL Wf.out hx1 (z := lx - 1) (by omega) (by omega)
            rw [← Hlx.out] at e1
            have c31 : (wc.setCell ⟨Q y1, x1, none⟩ (.int .i64 1)).cell? ⟨Bl, 0, none⟩ = some (.slice (some ⟨L, 0, none⟩) ys.length capL) := s1.bl.cell 0
            have c42 : ((wc.setCell ⟨Q y1, x1, none⟩ (.int .i64 1)).setCell ⟨L, x1, none⟩ (.int .i64 (lx - 1))).cell? ⟨Bp, 0, none⟩ = some (.func (.func 108) #[] #[.pointer (some ⟨Bc, 0, none⟩), .pointer (some ⟨Br, 0, none⟩), .pointer (some ⟨Bo, 0, none⟩), .pointer (some ⟨Bm, 0, none⟩), .pointer (some ⟨Bl, 0, none⟩), .pointer (some ⟨Bp, 0, none⟩)]) := s2.bp.cell 0
            have S2 := Lib.hid s2
            clear hb hout2 s1 s2 hg
            go_wp2_with (fail)
            refine (IH.out y1 (x1 + 1) (n1 - 1) (left.set x1 (lx - 1)) (setC m y1 x1 1) (out ++ A) _ S2.out Hb.out hy1 (by omega) Hf1.out Hout2.out).mono ?_
            rintro e w3 ⟨rfl, st3⟩
            have hll3 := st3.ll
            have c33 : w3.cell? ⟨Bl, 0, none⟩ = some (.slice (some ⟨L, 0, none⟩) ys.length capL) := st3.bl.cell 0
            obtain ⟨f1, f2, s4⟩ := st3.setL Wf.out hx1 (z := lx) (by omega) (by omega)
            have hxl : x1 < left.length := by rw [List.length_set] at hll3; omega
            rw [gD_self hxl] at f1
            have hll4 : (left.set x1 (lx - 1)).set x1 lx = left := by
              rw [List.set_set]
              apply List.ext_getElem?
              intro j
              by_cases hj : j = x1
              · subst hj; rw [List.getElem?_set_self hxl, gD_at 0 hxl, ← Hlx.out]
              · rw [List.getElem?_set_ne (by omega)]
            rw [hll4] at s4
            obtain ⟨⟨o5, ho5⟩, hf5, s5⟩ := s4.setM Wf.out hy1 hx1 (z := 0) (by decide) (by decide)
            rw [setC_back Hst1.out.sh hy1 hx1 (by decide) (by decide) (Hinv1.out.zero y1 x1 (.inr ⟨rfl, Nat.le_refl _⟩))] at s5
            have c24 : (w3.setCell ⟨L, x1, none⟩ (.int .i64 lx)).cell? ⟨Bm, 0, none⟩ = some (.slice (some ⟨G, 0, none⟩) xs.length cap) := s4.bm.cell 0
            have hcell4 := s4.rows y1 hy1
            have S5 := Lib.hid s5
            clear st3 s4 s5 hll3 hll4 hxl c31 c42 e1 e2 ho hfo hcell c2' c3' hcl'
            go_wp2
            refine bodyPost_end (results_none rfl _ _ _) rfl ⟨rfl, ?_⟩
            rw [HP.out, ← List.append_assoc, HB2.out, Hlx.out]
            have h := S5.out
            rw [Hlx.out] at h
            exact h
          · have HB2 := Lib.hid (show B = [] from by rw [HB.out, if_neg hg])
            by_cases h1 : 0 < n1
            · have h2 : ¬ 0 < lx := fun h => hg ⟨h1, h⟩
              clear hg
              go_wp2
              refine bodyPost_end (results_none rfl _ _ _) rfl ⟨rfl, ?_⟩
              rw [HP.out, HB2.out, List.append_nil]
              exact Hst1.out
            · clear hg
              go_wp2
              refine bodyPost_end (results_none rfl _ _ _) rfl ⟨rfl, ?_⟩
              rw [HP.out, HB2.out, List.append_nil]
              exact Hst1.out
def imgsOf (xs ys : List Int) : List (List (List Int)) := if sumsOk xs ys then allImgs xs ys else []
theorem AllImages_i (v v2 : Value) (xs ys : List Int) (w : World) (hv : Ints w v xs) (hv2 : Ints w v2 ys) : Calls Tryz.prog 48 #[v, v2] w fun e w' => ∃ vo, e = .returned (.tuple #[vo, .bool (sumsOk xs ys)]) ∧ Own 31 (Own 32 (Own 3 IntV)) (Iv w.heap.size w'.heap.size) w' vo (imgsOf xs ys) ∧ Below w.heap.size w w' := by
  have Hv := Lib.hid hv
  have Hv2 := Lib.hid hv2
  obtain ⟨a, cap, rfl, -⟩ := hv
  obtain ⟨a2, cap2, rfl, -⟩ := hv2
  obtain ⟨W1, hW1⟩ : ∃ W1, W1 = (w.alloc (.cells #[.slice a xs.length cap] 32)).alloc (.cells #[.slice a2 ys.length cap2] 32) := ⟨_, rfl⟩
  have bW1 : Below w.heap.size w W1 := by rw [hW1]; exact ((Below.refl _ _).alloc (Nat.le_refl _) _).alloc (by simp) _
  have zW1 : W1.heap.size = w.heap.size + 2 := by rw [hW1]; simp
  have kr : Blk W1 w.heap.size #[.slice a xs.length cap] 32 := by rw [hW1]; exact (Blk.new w _ _).keep (Below.pureAlloc _ _)
  have kc : Blk W1 (w.heap.size + 1) #[.slice a2 ys.length cap2] 32 := by
    rw [hW1]
    have := Blk.new (w.alloc (.cells #[.slice a xs.length cap] 32)) #[.slice a2 ys.length cap2] 32
    simpa using this
  have HbW1 := Lib.hid bW1
  have Hkr := Lib.hid kr
  have Hkc := Lib.hid kc
  have HzW1 := Lib.hid zW1
  clear bW1 zW1 kr kc
  cases hok : sumsOk xs ys
  · have Hok := Lib.hid hok
    have Hr := Lib.hid (show imgsOf xs ys = [] from by unfold imgsOf; rw [hok]; rfl)
    clear hok
    go_enter Tryz.func48, Tryz.ntmps48
    subst hW1
    go_wp2_with (fail)
    refine (SumsOk_i _ _ _ _ _ (Hv.out.keep HbW1.out) (Hv2.out.keep HbW1.out)).mono ?_
    rintro e w' ⟨rfl, rfl⟩
    rw [Hok.out]
    go_wp2
    go_ret2
    exact ⟨_, rfl, by rw [Hr.out]; exact Own.nil _ _ _ _, HbW1.out⟩
  · have Hr := Lib.hid (show imgsOf xs ys = allImgs xs ys from by unfold imgsOf; rw [hok]; rfl)
    obtain ⟨hr1, hr5, hc1, hc5, hx5, -, -⟩ := sumsOk_bd hok
    have hinv := pinv0 hok
    have Hinv := Lib.hid hinv
    have Hok := Lib.hid hok
    clear hok hinv
    go_enter Tryz.func48, Tryz.ntmps48
    subst hW1
    go_wp2_with (fail)
    refine (SumsOk_i _ _ _ _ _ (Hv.out.keep HbW1.out) (Hv2.out.keep HbW1.out)).mono ?_
    rintro e w' ⟨rfl, rfl⟩
    rw [Hok.out]
    go_wp2_with (fail)
    refine (newGrid_c xs.length ys.length _ (by omega) (by omega)).mono ?_
    rintro e w3 ⟨v3, rfl, o3, b3⟩
    obtain ⟨G, cap3, rfl, hG, hcapG, hGs, -⟩ := o3.inv_ne (by simp [zeros]; omega)
    have hzl : (zeros xs.length ys.length).length = xs.length := by simp [zeros]
    rw [hzl] at o3 hcapG ⊢
    have s3 := b3.size
    have Hb3 := Lib.hid b3
    have Ho3 := Lib.hid o3
    have Hs3 := Lib.hid s3
    have HG := Lib.hid hG
    clear hzl o3 b3 s3 hG
    have B3 : Below w.heap.size w w3 := (HbW1.out.alloc HbW1.out.size _).trans_pure Hb3.out (Nat.le_refl _)
    have HB3 := Lib.hid B3
    have hc3 := (B3.cell (p := ⟨w.heap.size + 1, 0, none⟩))
    have z3 : w.heap.size + 3 ≤ w3.heap.size := by have := Hs3.out; simp at this; omega
    have kc4 : (w3.alloc (.cells #[.slice (some ⟨G, 0, none⟩) xs.length cap3] 31)).cell? ⟨w.heap.size + 1, 0, none⟩ = some (.slice a2 ys.length cap2) := (((Hkc.out.keep (Below.pureAlloc _ _)).keep Hb3.out).keep (Below.pureAlloc _ _)).cell 0
    clear B3 hc3
    go_wp2_with (fail)
    refine (copyInts_c _ ys _ ((Hv2.out.keep HB3.out).keep (Below.pureAlloc _ _)) (by omega)).mono ?_
    rintro e w5 ⟨v5, rfl, o5, b5⟩
    obtain ⟨L, cap5, rfl, hL, hcapL, hLs, -⟩ := o5.inv_ne (by omega)
    have Hb5 := Lib.hid b5
    have Ho5 := Lib.hid o5
    have Hs5 := Lib.hid b5.size
    clear o5 b5
    obtain ⟨F, hF⟩ : ∃ F : Value, F = (.func (.func 108) #[] #[.pointer (some ⟨w.heap.size + 1, 0, none⟩), .pointer (some ⟨w.heap.size, 0, none⟩), .pointer (some ⟨w.heap.size + 1 + 1, 0, none⟩), .pointer (some ⟨w3.heap.size, 0, none⟩), .pointer (some ⟨w5.heap.size, 0, none⟩), .pointer (some ⟨w5.heap.size + 1, 0, none⟩)]) := ⟨_, rfl⟩
    obtain ⟨W4, hW4⟩ : ∃ W4, W4 = w3.alloc (.cells #[.slice (some ⟨G, 0, none⟩) xs.length cap3] 31) := ⟨_, rfl⟩
    obtain ⟨W6, hW6⟩ : ∃ W6, W6 = (w5.alloc (.cells #[.slice (some ⟨L, 0, none⟩) ys.length cap5] 32)).alloc (.cells #[F] 127) := ⟨_, rfl⟩
    rw [← hW4] at Hb5 Ho5 Hs5
    have z4 : W4.heap.size = w3.heap.size + 1 := by rw [hW4]; simp
    have z6 : W6.heap.size = w5.heap.size + 2 := by rw [hW6]; simp
    have z5 : W4.heap.size ≤ w5.heap.size := Hs5.out
    have b34 : Below w3.heap.size w3 W4 := by rw [hW4]; exact Below.pureAlloc _ _
    have b56 : Below w5.heap.size w5 W6 := by rw [hW6]; exact ((Below.refl _ _).alloc (Nat.le_refl _) _).alloc (by simp) _
    have b36 : Below w3.heap.size w3 W6 := (b34.trans_pure Hb5.out (Nat.le_refl _)).trans_pure b56 (Nat.le_refl _)
    have bw6 : Below w.heap.size w W6 := HB3.out.trans_pure b36 (Nat.le_refl _)
    have k3 : ∀ {g : Nat} {cs : Array Value} {t : TypeId}, Blk w3 g cs t → Blk W6 g cs t := fun h => h.keep b36
    have kbo : Blk w3 (w.heap.size + 1 + 1) #[.slice none 0 0] 77 := by
      have h0 := Blk.new ((w.alloc (.cells #[.slice a xs.length cap] 32)).alloc (.cells #[.slice a2 ys.length cap2] 32)) #[.slice none 0 0] 77
      have h1 := h0.keep Hb3.out
      rw [HzW1.out] at h1
      exact h1
    have hll : ys.length ≤ 5 := hc5
    have hst : ASt w.heap.size w.heap.size (w.heap.size + 1) (w.heap.size + 1 + 1) (w.heap.size + 3) w3.heap.size w3.heap.size (w3.heap.size + 1) w5.heap.size w5.heap.size (w5.heap.size + 1) (w5.heap.size + 2) xs.length ys.length G cap3 L cap5 F (.slice a xs.length cap) (.slice a2 ys.length cap2)
        (fun k => match w3.cell? ⟨G, k, none⟩ with | some (.slice (some p) _ _) => p.block | _ => 0) (fun k => match w3.cell? ⟨G, k, none⟩ with | some (.slice _ _ q) => q | _ => 0) w W6 ys (zeros xs.length ys.length) [] := by
      refine ⟨bw6, k3 ((Hkr.out.keep (Below.pureAlloc _ _)).keep Hb3.out), k3 ((Hkc.out.keep (Below.pureAlloc _ _)).keep Hb3.out), ?_, ?_, ?_, ⟨_, k3 kbo, Own.nil _ _ _ _⟩, shape_zeros _ _, ?_, ?_, rfl, fun k hk => ?_, by omega⟩
      · have h1 : Blk W4 w3.heap.size #[.slice (some ⟨G, 0, none⟩) xs.length cap3] 31 := by rw [hW4]; exact Blk.new _ _ _
        exact (h1.keep Hb5.out).keep b56
      · rw [hW6]; exact (Blk.new w5 _ _).keep (Below.pureAlloc _ _)
      · rw [hW6]
        have := Blk.new (w5.alloc (.cells #[.slice (some ⟨L, 0, none⟩) ys.length cap5] 32)) #[F] 127
        simpa using this
      · exact (rOwn (rOwn rIntV)).mono (fun b hb => ⟨by have := hb.1; simp at this; omega, hb.2⟩) (Own.keep (rOwn rIntV) Ho3.out b36 (Nat.le_refl _))
      · exact (rOwn rIntV).mono (fun b hb => ⟨by have := hb.1; omega, hb.2⟩) (Own.keep rIntV Ho5.out b56 (Nat.le_refl _))
      · have hrow := at2_row (shape_zeros xs.length ys.length) hk
        obtain ⟨q, cq, hcell, -⟩ := own_grid_cell Ho3.out hrow.1 (by rw [hrow.2]; omega)
        rw [hrow.2] at hcell
        rw [b36.cell (p := ⟨G, k, none⟩) hGs, hcell]
    have wf : AWf w.heap.size w.heap.size (w.heap.size + 1) (w.heap.size + 1 + 1) (w.heap.size + 3) w3.heap.size w3.heap.size (w3.heap.size + 1) w5.heap.size w5.heap.size (w5.heap.size + 1) (w5.heap.size + 2) := by
      refine ⟨?_, ?_, ?_, ?_, ?_, ?_, ?_, ?_, ?_, ?_, ?_⟩ <;> omega
    obtain ⟨Q, hQ⟩ : ∃ Q : Nat → Nat, Q = (fun k => match w3.cell? ⟨G, k, none⟩ with | some (.slice (some p) _ _) => p.block | _ => 0) := ⟨_, rfl⟩
    obtain ⟨C, hC⟩ : ∃ C : Nat → Nat, C = (fun k => match w3.cell? ⟨G, k, none⟩ with | some (.slice _ _ q) => q | _ => 0) := ⟨_, rfl⟩
    rw [← hQ, ← hC] at hst
    have hput : ∀ wx, ASt w.heap.size w.heap.size (w.heap.size + 1) (w.heap.size + 1 + 1) (w.heap.size + 3) w3.heap.size w3.heap.size (w3.heap.size + 1) w5.heap.size w5.heap.size (w5.heap.size + 1) (w5.heap.size + 2) xs.length ys.length G cap3 L cap5 F (.slice a xs.length cap) (.slice a2 ys.length cap2) Q C w wx ys (zeros xs.length ys.length) [] →
        Calls Tryz.prog 108 #[.int .i64 0, .int .i64 0, .int .i64 (xs.getD 0 0), .pointer (some ⟨w.heap.size + 1, 0, none⟩), .pointer (some ⟨w.heap.size, 0, none⟩), .pointer (some ⟨w.heap.size + 1 + 1, 0, none⟩), .pointer (some ⟨w3.heap.size, 0, none⟩), .pointer (some ⟨w5.heap.size, 0, none⟩), .pointer (some ⟨w5.heap.size + 1, 0, none⟩)] wx
          fun e w' => e = .returned (.tuple #[]) ∧ ASt w.heap.size w.heap.size (w.heap.size + 1) (w.heap.size + 1 + 1) (w.heap.size + 3) w3.heap.size w3.heap.size (w3.heap.size + 1) w5.heap.size w5.heap.size (w5.heap.size + 1) (w5.heap.size + 2) xs.length ys.length G cap3 L cap5 F (.slice a xs.length cap) (.slice a2 ys.length cap2) Q C w w' ys (zeros xs.length ys.length) (allImgs xs ys) := by
      intro wx hwx
      have hpw : xs.length * (ys.length + 1) ≤ 30 := Nat.mul_le_mul hr5 (by omega : ys.length + 1 ≤ 6)
      have hp2 : 2 ^ (xs.length * (ys.length + 1)) ≤ 2 ^ 30 := Nat.pow_le_pow_right (by decide) hpw
      exact put_c wf hF (Nat.le_refl _) (Nat.le_refl _) Hv.out Hv2.out hr5 hc1 hc5 (fun i => ⟨(hx5 i).1, by have := (hx5 i).2; omega⟩) (xs.length * (ys.length + 1)) 0 0 (xs.getD 0 0) ys (zeros xs.length ys.length) [] wx hwx Hinv.out (by omega) (by omega) (by omega) (by simp; omega)
    obtain ⟨ba, off, cpr, he, hba, -⟩ := Hv.out.inv_ne (by omega)
    obtain ⟨rfl, -⟩ : a = some ⟨ba, off, none⟩ ∧ cap = cpr := by simpa using he
    have hc0 := Ints.at Hv.out (gD_at 0 (by omega) : xs[0]? = some (xs.getD 0 0))
    rw [← bw6.cell (p := ⟨ba, off + 0, none⟩) hba] at hc0
    obtain ⟨n0, hn0⟩ : ∃ n0, n0 = xs.getD 0 0 := ⟨_, rfl⟩
    rw [← hn0, Nat.add_zero] at hc0
    rw [← hn0] at hput
    have c6r : W6.cell? ⟨w.heap.size, 0, none⟩ = some (.slice (some ⟨ba, off, none⟩) xs.length cap) := hst.br.cell 0
    have c6p : W6.cell? ⟨w5.heap.size + 1, 0, none⟩ = some F := hst.bp.cell 0
    have Hst := Lib.hid hst
    have Hput := Lib.hid hput
    have hxp : 0 < xs.length := by omega
    have hlow : w.heap.size ≤ w5.heap.size := by omega
    clear hst hput he k3 kbo b34 b56 b36 bw6 z4 z5 z6 hQ hC wf hn0 Hinv kc4 hba hcapG hcapL hL hGs hLs
    subst hF
    subst hW6
    go_wp2_with (fail)
    go_region_with (go_at_call 108; refine (Hput.out _ (by first | exact Hst.out | exact Hst.out.drewN 1 | exact Hst.out.drewN 2)).mono ?_; rintro e w7 ⟨rfl, st7⟩; obtain ⟨vo, hbo, hoo⟩ := st7.bo; have c7 := hbo.cell 0)
    all_goals have Hoo := Lib.hid hoo
    all_goals have Hbase := Lib.hid st7.base
    all_goals clear st7 hbo hoo
    all_goals go_wp2
    all_goals go_ret2
    all_goals
      refine ⟨vo, rfl, ?_, Hbase.out⟩
      rw [Hr.out]
      exact (rOwn (rOwn (rOwn rIntV))).mono (fun b hb => ⟨by have h1 := hb.1; omega, hb.2⟩) Hoo.out
end Go.Proofs.YthmocomfjgmjoaaGreatDoor

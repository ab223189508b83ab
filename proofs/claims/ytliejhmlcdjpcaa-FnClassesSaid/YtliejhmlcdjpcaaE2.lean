/- Contracts: AllImages of the program: the walk of its closure. -/
import Derived.Test.YtliejhmlcdjpcaaE1
namespace Go.Proofs.Ytliejhmlcdjpcaa
open Go.RowKit

theorem below_undrewE {w w2 : World} (h : Below w.drew.heap.size w.drew w2) : Below w.heap.size w w2 := ⟨h.os, h.tape, h.output, h.size, h.block⟩
theorem infoGridsE : (Try.prog.info? 23).map (fun i => (i.zero, i.size, i.bytes)) = some (some (.slice none 0 0), 1, 24) := by kernel_rfl
theorem pow_two_split {a b c f : Nat} (h : a + 2 ^ (f + 1) ≤ b) (hc : c ≤ 2 ^ f) : a + c + 2 ^ f ≤ b := by rw [Nat.pow_succ] at h; omega
theorem ASt.drewN {n Br Bc Bo g0 g1 Bm l0 l1 Bl Bp K r c G cap L capL : Nat} {F vr vc : Value} {Q C : Nat → Nat} {W0 w : World} {left : List Int} {m : List (List Int)} {out : List (List (List Int))}
    (h : ASt n Br Bc Bo g0 g1 Bm l0 l1 Bl Bp K r c G cap L capL F vr vc Q C W0 w left m out) (k : Nat) : ASt n Br Bc Bo g0 g1 Bm l0 l1 Bl Bp K r c G cap L capL F vr vc Q C W0 (w.drewN k) left m out :=
  ⟨below_drewN h.base k, h.br, h.bc, h.bm, h.bl, h.bp, h.bo, h.sh, h.own, h.lown, h.ll, h.rows, h.hK⟩
set_option maxRecDepth 100000 in
set_option maxHeartbeats 4000000 in
theorem put_c {n Br Bc Bo g0 g1 Bm l0 l1 Bl Bp K G cap L capL : Nat} {F vr vc : Value} {Q C : Nat → Nat} {W0 : World} {xs ys : List Int} (wf : AWf n Br Bc Bo g0 g1 Bm l0 l1 Bl Bp K)
    (hF : F = .func (.func 53) #[] #[.pointer (some ⟨Bc, 0, none⟩), .pointer (some ⟨Br, 0, none⟩), .pointer (some ⟨Bo, 0, none⟩), .pointer (some ⟨Bm, 0, none⟩), .pointer (some ⟨Bl, 0, none⟩), .pointer (some ⟨Bp, 0, none⟩)])
    (hn : W0.heap.size ≤ n) (hn2 : n ≤ W0.heap.size) (hvr : Ints W0 vr xs) (hvc : Ints W0 vc ys) (hr5 : xs.length ≤ 5) (hc1 : 1 ≤ ys.length) (hc5 : ys.length ≤ 5) (hx5 : ∀ i, 0 ≤ xs.getD i 0 ∧ xs.getD i 0 ≤ 5) (f : Nat) :
    ∀ (y x : Nat) (need : Int) (left : List Int) (m : List (List Int)) (out : List (List (List Int))) (w : World), ASt n Br Bc Bo g0 g1 Bm l0 l1 Bl Bp K xs.length ys.length G cap L capL F vr vc Q C W0 w left m out → PInv xs ys xs.length ys.length y x need left m → y < xs.length → x ≤ ys.length →
      xs.length * (ys.length + 1) ≤ f + (y * (ys.length + 1) + x) → out.length + 2 ^ f ≤ 1099511627775 →
      Calls Try.prog 53 #[.int .i64 y, .int .i64 x, .int .i64 need, .pointer (some ⟨Bc, 0, none⟩), .pointer (some ⟨Br, 0, none⟩), .pointer (some ⟨Bo, 0, none⟩), .pointer (some ⟨Bm, 0, none⟩), .pointer (some ⟨Bl, 0, none⟩), .pointer (some ⟨Bp, 0, none⟩)] w
        fun e w' => e = .returned (.tuple #[]) ∧ ASt n Br Bc Bo g0 g1 Bm l0 l1 Bl Bp K xs.length ys.length G cap L capL F vr vc Q C W0 w' left m (out ++ pgo xs xs.length ys.length f y x need left m) := by
  subst hF
  have Wf := Lib.hid wf
  have Hvr := Lib.hid hvr
  have Hvc := Lib.hid hvc
  obtain ⟨ar, capr, rfl, -⟩ := hvr
  obtain ⟨ac, capc, rfl, -⟩ := hvc
  induction f with
  | zero =>
    intro y x need left m out w _ _ hy hx hf _
    have h1 : (y + 1) * (ys.length + 1) ≤ xs.length * (ys.length + 1) := Nat.mul_le_mul_right _ hy
    rw [Nat.succ_mul] at h1
    omega
  | succ f ih =>
    intro y x need left m out w hst hinv hy hx hf hout
    have IH := Lib.hid ih
    have Hx5 := Lib.hid hx5
    have Hst := Lib.hid hst
    have Hinv := Lib.hid hinv
    have Hf := Lib.hid hf
    have Hout := Lib.hid hout
    have hn0 := hinv.need0
    have hn00 := hn0.1
    have hn01 := hn0.2
    have c0 : w.cell? ⟨Bc, 0, none⟩ = some (.slice ac ys.length capc) := hst.bc.cell 0
    have c1 : w.cell? ⟨Br, 0, none⟩ = some (.slice ar xs.length capr) := hst.br.cell 0
    clear ih hst hinv hf hout hn0 hx5
    go_enter Try.func53, Try.ntmps53
    go_upto_if 15 with (fail)
    go_cut [0, 1, 2] (fun s0 s1 s2 wx => ∃ (y1 x1 : Nat) (n1 : Int), s0 = .int .i64 y1 ∧ s1 = .int .i64 x1 ∧ s2 = .int .i64 n1 ∧ w = wx ∧ y1 < xs.length ∧ x1 < ys.length ∧ Hid (PInv xs ys xs.length ys.length y1 x1 n1 left m) ∧ Hid (xs.length * (ys.length + 1) ≤ f + (y1 * (ys.length + 1) + (x1 + 1))) ∧ Hid (pgo xs xs.length ys.length (f + 1) y x need left m = pcell xs.length ys.length (pgo xs xs.length ys.length f) y1 x1 n1 left m))
    case first =>
      by_cases hxc : x = ys.length
      · subst hxc
        have hneed : need = 0 := by omega
        subst hneed
        by_cases hyr : y + 1 = xs.length
        · have Hp := Lib.hid (show pgo xs xs.length ys.length (f + 1) y ys.length 0 left m = [m] from by rw [pgo, if_pos rfl, if_neg (by decide), if_pos hyr])
          have hyb : ((y : Int) + 1 == (xs.length : Int)) = true := by rw [beq_iff_eq]; omega
          have hcu : (y + 1) * 1 = xs.length := by omega
          clear hcu
          have HG := Lib.hid Hst.out.own.grid
          have hlen : out.length < 1099511627776 := Nat.lt_of_le_of_lt (Nat.le_trans (Nat.le_add_right _ _) Hout.out) (by decide)
          obtain ⟨vo, hbo, hoo⟩ := Hst.out.bo
          have Hoo := Lib.hid hoo
          have Hbo := Lib.hid hbo
          have c2 : w.cell? ⟨Bm, 0, none⟩ = some (.slice (some ⟨G, 0, none⟩) xs.length cap) := Hst.out.bm.cell 0
          have c5 : w.cell? ⟨Bo, 0, none⟩ = some vo := hbo.cell 0
          have c6 : w.frozen? ⟨Bo, 0, none⟩ = false := hbo.frozen 0
          clear hoo hbo
          go_wp2
          have hml : m.length ≤ 1048576 := by have := Hst.out.sh.1; omega
          have HR := Lib.hid (show ∀ p ∈ m, p.length ≤ 1048576 from fun p hp => by have := (Hst.out.sh.2 p hp).1; omega)
          have hK := Hst.out.hK
          have hBo : Bo < K := by have h4 := Wf.out.h4; have h5 := Wf.out.h5; have h6 := Wf.out.h6; have h7 := Wf.out.h7; have h8 := Wf.out.h8; have h9 := Wf.out.h9; have h10 := Wf.out.h10; have h11 := Wf.out.h11; omega
          have hBow : Bo < w.heap.size := by omega
          go_region_law (first
            | (refine step_app (w0 := w2) (v := vo) rfl (.tmp 24) (.tmp 27) 41 rfl (rOwn (rOwn rIntV)) 23 Try.underlying41 infoGridsE rfl (by decide) K w.heap.size hK hs2 (by simp [Act.eval]) (by simp [Act.eval]) (by exact Hoo2.out) (by exact Ho2.out) hlen ?_; intro v3 w3 o3 b3; obtain ⟨p4, p5, p6, rfl⟩ := o3.shape; have c7 := (b3.cell (p := ⟨Bo, 0, none⟩) hBo).trans c5'; have c8 := (b3.frozen (p := ⟨Bo, 0, none⟩) hBo).trans c6')
            | (refine step_app (w0 := w2.drew) (v := vo) rfl (.tmp 24) (.tmp 27) 41 rfl (rOwn (rOwn rIntV)) 23 Try.underlying41 infoGridsE rfl (by decide) K w.heap.size hK hs2 (by simp [Act.eval]) (by simp [Act.eval]) (by exact Hoo2.out) (by exact Ho2.out) hlen ?_; intro v3 w3 o3 b3; obtain ⟨p4, p5, p6, rfl⟩ := o3.shape; have c7 := (b3.cell (p := ⟨Bo, 0, none⟩) hBo).trans c5'; have c8 := (b3.frozen (p := ⟨Bo, 0, none⟩) hBo).trans c6')
            | (go_simp; go_at_call 38; refine (copyGrid_c _ m _ (by exact HG.out) hml HR.out).mono ?_; rintro e w2 ⟨v2, rfl, o2, b2⟩; obtain ⟨p1, p2, p3, rfl⟩ := o2.shape;
               have b2' : Below w.heap.size w w2 := by first | exact b2 | exact below_undrewE b2 | exact below_undrewE (below_undrewE b2);
               have hs2 := b2'.size;
               have Ho2 := Lib.hid o2;
               have Hoo2 := Lib.hid (Own.keep (rOwn (rOwn rIntV)) Hoo.out b2' (Nat.le_refl _));
               have c5' := (b2'.cell (p := ⟨Bo, 0, none⟩) hBow).trans c5; have hBw2 : Bo < w2.heap.size := Nat.lt_of_lt_of_le hBow hs2; have c5'' := ((Below.pureAlloc w2 (.cells #[Value.slice p1 p2 p3] 23)).cell (p := ⟨Bo, 0, none⟩) hBw2).trans c5';
               have c6' := (b2'.frozen (p := ⟨Bo, 0, none⟩) hBow).trans c6; clear o2 b2))
          all_goals go_wp2
          all_goals exact bodyPost_ret (v := .tuple #[]) (by simp [results, Try.results53, go_sem]) rfl ⟨rfl, by rw [Hp.out]; exact Hst.out.put Wf.out (v' := Value.slice p4 p5 p6) ((b2'.mono hK).trans (by first | exact b3 | exact below_undrewE b3)) o3⟩
        · have hyb : ((y : Int) + 1 == (xs.length : Int)) = false := by rw [beq_eq_false_iff_ne]; omega
          have hy1 : y + 1 < xs.length := by omega
          have hnext := Hinv.out.next hy1
          have Hnext := Lib.hid hnext
          have hcx : w.cell? ⟨Br, 0, none⟩ = some (.slice ar xs.length capr) := c1
          obtain ⟨b, off, cpr, he, hb, -⟩ := Hvr.out.inv_ne (by omega)
          obtain ⟨rfl, -⟩ : ar = some ⟨b, off, none⟩ ∧ capr = cpr := by simpa using he
          have hcy := Ints.at Hvr.out (gD_at 0 hy1 : xs[y + 1]? = some (xs.getD (y + 1) 0))
          rw [← Hst.out.base.cell (p := ⟨b, off + (y + 1), none⟩) (by show b < n; omega)] at hcy
          obtain ⟨n1, hn1⟩ : ∃ n1, n1 = xs.getD (y + 1) 0 := ⟨_, rfl⟩
          rw [← hn1] at hcy
          have Hn1 := Lib.hid hn1
          clear hnext he hn1
          go_wp2
          go_meet
          case rel =>
            refine ⟨y + 1, 0, n1, by go_num, rfl, rfl, rfl, hy1, by omega, ?_, ?_, ?_⟩
            · rw [Hn1.out]; exact Hnext
            · have := Hf.out
              show xs.length * (ys.length + 1) ≤ _
              rw [Nat.succ_mul]; omega
            · rw [Hn1.out]
              show pgo xs xs.length ys.length (f + 1) y ys.length 0 left m = _
              rw [pgo, if_pos rfl, if_neg (by decide), if_neg hyr]
      · have hxb : ((x : Int) == (ys.length : Int)) = false := by rw [beq_eq_false_iff_ne]; omega
        go_wp2
        go_meet
        case rel =>
          refine ⟨y, x, need, rfl, rfl, rfl, rfl, hy, by omega, Hinv, ?_, ?_⟩
          · have := Hf.out
            show xs.length * (ys.length + 1) ≤ _
            omega
          · show pgo xs xs.length ys.length (f + 1) y x need left m = _
            rw [pgo, if_neg hxc]
    case rest =>
      obtain ⟨y1, x1, n1, rfl, rfl, rfl, rfl, hy1, hx1, Hinv1, Hf1, Hp⟩ := hcut
      clear Hinv Hf hn00 hn01
      have hn0 := Hinv1.out.need0
      have hn00 := hn0.1
      have hn01 := hn0.2
      have hll := Hst.out.ll
      obtain ⟨lx, hlx⟩ : ∃ lx, lx = left.getD x1 0 := ⟨_, rfl⟩
      have hl0 := Hinv1.out.left0 x1 hx1
      rw [← hlx, if_neg (by omega)] at hl0
      have hl00 := hl0.1
      have hl01 := hl0.2
      have Hlx := Lib.hid hlx
      obtain ⟨hcl, -⟩ := Hst.out.setL Wf.out hx1 (z := 0) (by decide) (by decide)
      rw [← hlx] at hcl
      have c3 : w.cell? ⟨Bl, 0, none⟩ = some (.slice (some ⟨L, 0, none⟩) ys.length capL) := Hst.out.bl.cell 0
      have c4 : w.cell? ⟨Bp, 0, none⟩ = some (.func (.func 53) #[] #[.pointer (some ⟨Bc, 0, none⟩), .pointer (some ⟨Br, 0, none⟩), .pointer (some ⟨Bo, 0, none⟩), .pointer (some ⟨Bm, 0, none⟩), .pointer (some ⟨Bl, 0, none⟩), .pointer (some ⟨Bp, 0, none⟩)]) := Hst.out.bp.cell 0
      clear hn0 hlx hl0 hll
      obtain ⟨A, hA⟩ : ∃ A, A = (if n1 ≤ (ys.length : Int) - x1 - 1 ∧ left.getD x1 0 ≤ (xs.length : Int) - y1 - 1 then pgo xs xs.length ys.length f y1 (x1 + 1) n1 left m else []) := ⟨_, rfl⟩
      obtain ⟨B, hB⟩ : ∃ B, B = (if 0 < n1 ∧ 0 < left.getD x1 0 then pgo xs xs.length ys.length f y1 (x1 + 1) (n1 - 1) (left.set x1 (left.getD x1 0 - 1)) (setC m y1 x1 1) else []) := ⟨_, rfl⟩
      have HP := Lib.hid (show pgo xs xs.length ys.length (f + 1) y x need left m = A ++ B from by rw [Hp.out, hA, hB]; rfl)
      have hAl : A.length ≤ 2 ^ f := by
        rw [hA]; split
        · exact pgo_len _ _ _ _ _ _ _ _ _
        · simp
      rw [← Hlx.out] at hA hB
      have HA := Lib.hid hA
      have HB := Lib.hid hB
      have HAl := Lib.hid hAl
      clear hA hB hAl Hp
      go_upto_region 6 with (fail)
      go_cut [51] (fun s51 wx => s51 = .bool (decide (n1 ≤ (ys.length : Int) - x1 - 1 ∧ lx ≤ (xs.length : Int) - y1 - 1)) ∧ ∃ k, w.drewN k = wx)
      case first =>
        by_cases h1 : n1 ≤ (ys.length : Int) - x1 - 1
        · by_cases h2 : lx ≤ (xs.length : Int) - y1 - 1
          · have Hd := Lib.hid (show decide (n1 ≤ (ys.length : Int) - x1 - 1 ∧ lx ≤ (xs.length : Int) - y1 - 1) = true from by rw [decide_eq_true_eq]; exact ⟨h1, h2⟩)
            go_quiet (fail)
            go_wp2
            go_meet
            case rel => exact ⟨by rw [Hd.out], _, rfl⟩
          · have Hd := Lib.hid (show decide (n1 ≤ (ys.length : Int) - x1 - 1 ∧ lx ≤ (xs.length : Int) - y1 - 1) = false from by rw [decide_eq_false_iff_not]; exact fun h => h2 h.2)
            go_quiet (fail)
            go_wp2
            go_meet
            case rel => exact ⟨by rw [Hd.out], _, rfl⟩
        · have Hd := Lib.hid (show decide (n1 ≤ (ys.length : Int) - x1 - 1 ∧ lx ≤ (xs.length : Int) - y1 - 1) = false from by rw [decide_eq_false_iff_not]; exact fun h => h1 h.1)
          go_quiet (fail)
          go_wp2
          go_meet
          case rel => exact ⟨by rw [Hd.out], _, rfl⟩
      case rest =>
        obtain ⟨rfl, k, rfl⟩ := hcut
        have Hstk := Lib.hid (Hst.out.drewN k)
        go_upto_if 51 with (fail)
        go_cut [] (fun wx => Hid (ASt n Br Bc Bo g0 g1 Bm l0 l1 Bl Bp K xs.length ys.length G cap L capL (.func (.func 53) #[] #[.pointer (some ⟨Bc, 0, none⟩), .pointer (some ⟨Br, 0, none⟩), .pointer (some ⟨Bo, 0, none⟩), .pointer (some ⟨Bm, 0, none⟩), .pointer (some ⟨Bl, 0, none⟩), .pointer (some ⟨Bp, 0, none⟩)]) (.slice ar xs.length capr) (.slice ac ys.length capc) Q C W0 wx left m (out ++ A)))
        case first =>
          by_cases hg : n1 ≤ (ys.length : Int) - x1 - 1 ∧ lx ≤ (xs.length : Int) - y1 - 1
          · have hd : decide (n1 ≤ (ys.length : Int) - x1 - 1 ∧ lx ≤ (xs.length : Int) - y1 - 1) = true := by rw [decide_eq_true_eq]; exact hg
            rw [hd]
            have hw := Hinv1.out.white hg.1 (by rw [← Hlx.out]; exact hg.2)
            have Hw := Lib.hid hw
            have HA2 := Lib.hid (show A = _ from by rw [HA.out, if_pos hg])
            have hout1 : out.length + 2 ^ f ≤ 1099511627775 := by have := Hout.out; rw [Nat.pow_succ] at this; omega
            clear hw hd
            go_wp2_with (fail)
            refine (IH.out y1 (x1 + 1) n1 left m out _ Hstk.out Hw.out hy1 (by omega) Hf1.out hout1).mono ?_
            rintro e w2 ⟨rfl, st2⟩
            have Hst2 := Lib.hid st2
            clear st2
            go_wp2
            go_meet
            case rel => rw [HA2.out]; exact Hst2
          · have hd : decide (n1 ≤ (ys.length : Int) - x1 - 1 ∧ lx ≤ (xs.length : Int) - y1 - 1) = false := by rw [decide_eq_false_iff_not]; exact hg
            rw [hd]
            have HA2 := Lib.hid (show A = [] from by rw [HA.out, if_neg hg])
            clear hd
            go_wp2
            go_meet
            case rel => rw [HA2.out, List.append_nil]; exact Hstk
        case rest =>
          have Hst1 := hcut
          clear hcut
          have c3' : wc.cell? ⟨Bl, 0, none⟩ = some (.slice (some ⟨L, 0, none⟩) ys.length capL) := Hst1.out.bl.cell 0
          obtain ⟨hcl', -⟩ := Hst1.out.setL Wf.out hx1 (z := 0) (by decide) (by decide)
          rw [← Hlx.out] at hcl'
          by_cases hg : 0 < n1 ∧ 0 < lx
          · have hgn := hg.1
            have hgl := hg.2
            have hb := Hinv1.out.black hy1 hx1 hg.1 (by rw [← Hlx.out]; exact hg.2)
            rw [← Hlx.out] at hb
            have Hb := Lib.hid hb
            have HB2 := Lib.hid (show B = _ from by rw [HB.out, if_pos hg])
            have hout2 : (out ++ A).length + 2 ^ f ≤ 1099511627775 := by rw [List.length_append]; exact pow_two_split Hout.out HAl.out
            have Hout2 := Lib.hid hout2
            have hcell := Hst1.out.rows y1 hy1
            have c2' : wc.cell? ⟨Bm, 0, none⟩ = some (.slice (some ⟨G, 0, none⟩) xs.length cap) := Hst1.out.bm.cell 0
            obtain ⟨⟨o, ho⟩, hfo, s1⟩ := Hst1.out.setM Wf.out hy1 hx1 (z := 1) (by decide) (by decide)
            obtain ⟨e1, e2, s2⟩ := s1.setL Wf.out hx1 (z := lx - 1) (by omega) (by omega)
            rw [← Hlx.out] at e1
            have c31 : (wc.setCell ⟨Q y1, x1, none⟩ (.int .i64 1)).cell? ⟨Bl, 0, none⟩ = some (.slice (some ⟨L, 0, none⟩) ys.length capL) := s1.bl.cell 0
            have c42 : ((wc.setCell ⟨Q y1, x1, none⟩ (.int .i64 1)).setCell ⟨L, x1, none⟩ (.int .i64 (lx - 1))).cell? ⟨Bp, 0, none⟩ = some (.func (.func 53) #[] #[.pointer (some ⟨Bc, 0, none⟩), .pointer (some ⟨Br, 0, none⟩), .pointer (some ⟨Bo, 0, none⟩), .pointer (some ⟨Bm, 0, none⟩), .pointer (some ⟨Bl, 0, none⟩), .pointer (some ⟨Bp, 0, none⟩)]) := s2.bp.cell 0
            have S2 := Lib.hid s2
            clear hb hout2 s1 s2 hg
            go_wp2_with (fail)
            refine (IH.out y1 (x1 + 1) (n1 - 1) (left.set x1 (lx - 1)) (setC m y1 x1 1) (out ++ A) _ S2.out Hb.out hy1 (by omega) Hf1.out Hout2.out).mono ?_
            rintro e w3 ⟨rfl, st3⟩
            have hll3 := st3.ll
            have c33 : w3.cell? ⟨Bl, 0, none⟩ = some (.slice (some ⟨L, 0, none⟩) ys.length capL) := st3.bl.cell 0
            obtain ⟨f1, f2, s4⟩ := st3.setL Wf.out hx1 (z := lx) (by omega) (by omega)
            have hxl : x1 < left.length := by rw [List.length_set] at hll3; omega
            rw [gD_self hxl] at f1
            have hll4 : (left.set x1 (lx - 1)).set x1 lx = left := by
              rw [List.set_set]
              apply List.ext_getElem?
              intro j
              by_cases hj : j = x1
              · subst hj; rw [List.getElem?_set_self hxl, gD_at 0 hxl, ← Hlx.out]
              · rw [List.getElem?_set_ne (by omega)]
            rw [hll4] at s4
            obtain ⟨⟨o5, ho5⟩, hf5, s5⟩ := s4.setM Wf.out hy1 hx1 (z := 0) (by decide) (by decide)
            rw [setC_back Hst1.out.sh hy1 hx1 (by decide) (by decide) (Hinv1.out.zero y1 x1 (.inr ⟨rfl, Nat.le_refl _⟩))] at s5
            have c24 : (w3.setCell ⟨L, x1, none⟩ (.int .i64 lx)).cell? ⟨Bm, 0, none⟩ = some (.slice (some ⟨G, 0, none⟩) xs.length cap) := s4.bm.cell 0
            have hcell4 := s4.rows y1 hy1
            have S5 := Lib.hid s5
            clear st3 s4 s5 hll3 hll4 hxl c31 c42 e1 e2 ho hfo hcell c2' c3' hcl'
            go_wp2
            refine bodyPost_end (results_none rfl _ _ _) rfl ⟨rfl, ?_⟩
            rw [HP.out, ← List.append_assoc, HB2.out, Hlx.out]
            have h := S5.out
            rw [Hlx.out] at h
            exact h
          · have HB2 := Lib.hid (show B = [] from by rw [HB.out, if_neg hg])
            by_cases h1 : 0 < n1
            · have h2 : ¬ 0 < lx := fun h => hg ⟨h1, h⟩
              clear hg
              go_wp2
              refine bodyPost_end (results_none rfl _ _ _) rfl ⟨rfl, ?_⟩
              rw [HP.out, HB2.out, List.append_nil]
              exact Hst1.out
            · clear hg
              go_wp2
              refine bodyPost_end (results_none rfl _ _ _) rfl ⟨rfl, ?_⟩
              rw [HP.out, HB2.out, List.append_nil]
              exact Hst1.out
end Go.Proofs.Ytliejhmlcdjpcaa

/- Contracts: the closure of SolvePuzzle. -/
import Derived.Test.YtekgnpdchpdfiaaS2
import Derived.Laws.EntriesVeiled
import Derived.Deep.DeepCutAuto
import Derived.Deep.RegionLaw
namespace Go.Proofs.Ytekgnpdchpdfiaa
open Go.RowKit

theorem b_undrew {B : Nat} {w a w2 : World} (hos : w.os = a.os) (hh : w.heap = a.heap) (ht : w.tape = a.tape) (ho : w.output = a.output) (h : Below B a w2) : Below B w w2 := ⟨h.os.trans hos.symm, h.tape.trans ht.symm, h.output.trans ho.symm, by rw [hh]; exact h.size, fun b hb => by rw [hh]; exact h.block b hb⟩
theorem SSt.keep {n Bp Bm Bo Bf K : Nat} {a b F : Value} {W0 w w' : World} {vm : Value} {vals : List Value} {Sm So : Bk} {vo : Value} {out : List (List (List Int))} (wf : SWf n Bp Bm Bo Bf K) (h : SSt n Bp Bm Bo Bf K a b F W0 w vm vals Sm vo out So) (hb : Below w.heap.size w w') : SSt n Bp Bm Bo Bf K a b F W0 w' vm vals Sm vo out So := by
  obtain ⟨a1, a2, a3, a4, a5⟩ := wf
  have hs := hb.size
  have hK := h.hK
  exact ⟨h.base.trans (hb.mono (by omega)), h.bp.keep hb, h.bm.keep hb, h.bo.keep hb, h.bf.keep hb, (rOwn rValV).same (sameOn_below hb fun b hb => (h.hm b hb).1.2) h.om, (rOwn (rOwn (rOwn rIntV))).same (sameOn_below hb fun b hb => (h.ho b hb).2) h.oo,
    fun b hb => ⟨⟨(h.hm b hb).1.1, Nat.lt_of_lt_of_le (h.hm b hb).1.2 hs⟩, (h.hm b hb).2⟩, fun b hb => ⟨(h.ho b hb).1, Nat.lt_of_lt_of_le (h.ho b hb).2 hs⟩, Nat.le_trans hK hs⟩
def SPost (n Bp Bm Bo Bf K : Nat) (a b F : Value) (W0 w : World) (vals : List Value) (Sm So : Bk) (out : List (List (List Int))) (w' : World) : Prop :=
  ∃ vm' Sm' vo' So', SSt n Bp Bm Bo Bf K a b F W0 w' vm' vals Sm' vo' out So' ∧ (∀ b, Sm' b → Sm b ∨ w.heap.size ≤ b) ∧ (∀ b, So' b → So b ∨ w.heap.size ≤ b) ∧ Only (Wr Sm So Bm Bo) w w'
set_option maxRecDepth 100000 in
set_option maxHeartbeats 4000000 in
theorem sput_c {n Bp Bm Bo Bf K : Nat} {a b F : Value} {W0 : World} {R C : List (List Int)} (wf : SWf n Bp Bm Bo Bf K) (hF : F = .func (.func 59) #[] #[.pointer (some ⟨Bp, 0, none⟩), .pointer (some ⟨Bm, 0, none⟩), .pointer (some ⟨Bo, 0, none⟩), .pointer (some ⟨Bf, 0, none⟩)])
    (hn : W0.heap.size ≤ n) (_ : n ≤ W0.heap.size) (ha : Grid W0 a R) (hb : Grid W0 b C) (hR1 : 1 ≤ R.length) (hR5 : R.length ≤ 5) (hC1 : 1 ≤ C.length) (hC5 : C.length ≤ 5) (f : Nat) :
    ∀ (vals : List Value) (rows : List (List Int)) (vm : Value) (Sm : Bk) (vo : Value) (So : Bk) (out : List (List (List Int))) (w : World), SSt n Bp Bm Bo Bf K a b F W0 w vm vals Sm vo out So → RowsOk (Wr Sm So Bm Bo) w vals rows → BRows C.length rows → rows.length + f = R.length → out.length + 6 ^ f ≤ 1099511627775 →
      Calls Try.prog 59 #[.int .i64 rows.length, .pointer (some ⟨Bp, 0, none⟩), .pointer (some ⟨Bm, 0, none⟩), .pointer (some ⟨Bo, 0, none⟩), .pointer (some ⟨Bf, 0, none⟩)] w fun e w' => e = .returned (.tuple #[]) ∧ SPost n Bp Bm Bo Bf K a b F W0 w vals Sm So (out ++ solves R C f rows) w' := by
  subst hF
  have Wf := Lib.hid wf
  have Ha := Lib.hid ha
  have Hb := Lib.hid hb
  obtain ⟨aa, ca, rfl, -, hleR, -⟩ := ha
  obtain ⟨ab, cb, rfl, -, hleC, -⟩ := hb
  have hBo : Bo < K := by have := wf.h3; have := wf.h4; have := wf.h5; omega
  induction f with
  | zero =>
    intro vals rows vm Sm vo So out w hst hrok hbr hlen hout
    have Hst := Lib.hid hst
    have Hrok := Lib.hid hrok
    have hlr : rows.length ≤ R.length := by omega
    have hlr2 : R.length ≤ rows.length := by omega
    have hyb : ((rows.length : Int) == (R.length : Int)) = true := by rw [beq_iff_eq]; omega
    have c0 : w.cell? ⟨Bp, 0, none⟩ = some (.slice aa R.length ca) := hst.bp.cell 0
    have c2 : w.cell? ⟨Bm, 0, none⟩ = some vm := hst.bm.cell 0
    have HG := Lib.hid (rows_grid hrok hst.om)
    have Hbr := Lib.hid hbr
    have Hout := Lib.hid hout
    have hK := hst.hK
    clear hst hrok hbr hlen hout
    go_enter Try.func59, Try.ntmps59
    go_wp2_with (fail)
    refine (PuzzleOf_i _ rows _ HG.out).mono ?_
    rintro e w1 ⟨a1, b1, rfl, o1, hb1⟩
    obtain ⟨⟨p1, p2, p3, rfl⟩, ⟨q1, q2, q3, rfl⟩⟩ := o1.shape
    have Hb1 := Lib.hid hb1
    have Hst1 := Lib.hid (Hst.out.keep Wf.out hb1)
    have e1 : (w1.alloc (.cells #[.slice p1 p2 p3, .slice q1 q2 q3] 28)).cell? ⟨Bp, 1, none⟩ = some (.slice ab C.length cb) := (Hst1.out.bp.keep (Below.pureAlloc _ _)).cell 1
    have HGx := Lib.hid o1.reads.2
    clear o1 hb1 c0 c2
    go_wp2_with (fail)
    refine (SameImage_i_c _ _ (pzCols rows) C _ (HGx.out.keep (Below.pureAlloc _ _)) ((Hb.out.keep (Hst1.out.base.mono hn)).keep (Below.pureAlloc _ _))).mono ?_
    rintro e w2 ⟨rfl, b2⟩
    have hb2 : Below w.heap.size w w2 := (Hb1.out.trans_pure (Below.pureAlloc _ _) (Nat.le_refl _)).trans_pure b2 (Nat.le_refl _)
    have Hb2 := Lib.hid hb2
    have Hst2 := Lib.hid (Hst.out.keep Wf.out hb2)
    clear b2 hb2 e1
    by_cases hq : pzCols rows = C
    · have Hsol := Lib.hid (show solves R C 0 rows = [rows] from by unfold solves; rw [if_pos hq])
      rw [decide_eq_true hq]
      have hlenO : out.length < 1099511627776 := Nat.lt_of_le_of_lt (Nat.le_trans (Nat.le_add_right _ _) Hout.out) (by decide)
      have hml : rows.length ≤ 1048576 := by omega
      have HR := Lib.hid (show ∀ p ∈ rows, p.length ≤ 1048576 from fun p hp => by have := (Hbr.out p hp).1; omega)
      have HG2 := Lib.hid (HG.out.keep Hb2.out)
      have c2 : w2.cell? ⟨Bm, 0, none⟩ = some vm := Hst2.out.bm.cell 0
      have c5 : w2.cell? ⟨Bo, 0, none⟩ = some vo := Hst2.out.bo.cell 0
      have c6 : w2.frozen? ⟨Bo, 0, none⟩ = false := Hst2.out.bo.frozen 0
      have hBow : Bo < w2.heap.size := by have := Hst2.out.hK; omega
      have Hoo := Lib.hid Hst2.out.oo
      have hne0 : ¬ vo.ownBlock = some Bo := fun he => by have := (Hst2.out.ho Bo (Hst2.out.oo.ownBlock' Bo he)).1; omega
      have Hne0 := Lib.hid hne0
      obtain ⟨m1, m2, m3, rfl⟩ := Hst2.out.om.shape
      clear hq hne0
      go_wp2
      go_region_law (first
        | (refine step_appG (w0 := w3) (v := vo) rfl (.tmp 25) (.tmp 28) 36 rfl (rOwn (rOwn rIntV)) 22 Try.underlying36 infoGridsS rfl (by decide) So (Iv w2.heap.size w3.heap.size) (fun b => So b ∨ w.heap.size ≤ b) (by simp [Act.eval]) (by simp [Act.eval]) (by exact Hoo3.out) (by exact Ho3.out) (fun b h1 h2 => by have := (Hst2.out.ho b h1).2; have := h2.1; omega) (fun b h1 => by have := (Hst2.out.ho b h1).2; omega) (fun b h1 => h1.2) (fun b h1 => .inl h1) (fun b h1 => .inr (by have := h1.1; have := Hb2.out.size; omega)) (fun b h1 => .inr (by have := Hb2.out.size; omega)) hlenO ?_; intro v4 w4 o4 ho4; obtain ⟨p4, p5, p6, rfl⟩ := o4.shape; have c7 := (ho4.cell (p := ⟨Bo, 0, none⟩) hBw3 Hne0.out).trans c5'; have c8 := (ho4.frozen (p := ⟨Bo, 0, none⟩) hBw3 Hne0.out).trans c6')
        | (refine step_appG (w0 := w3.drew) (v := vo) rfl (.tmp 25) (.tmp 28) 36 rfl (rOwn (rOwn rIntV)) 22 Try.underlying36 infoGridsS rfl (by decide) So (Iv w2.heap.size w3.heap.size) (fun b => So b ∨ w.heap.size ≤ b) (by simp [Act.eval]) (by simp [Act.eval]) (by exact Hoo3.out) (by exact Ho3.out) (fun b h1 h2 => by have := (Hst2.out.ho b h1).2; have := h2.1; omega) (fun b h1 => Nat.lt_of_lt_of_le (Hst2.out.ho b h1).2 hs3) (fun b h1 => h1.2) (fun b h1 => .inl h1) (fun b h1 => .inr (by have := h1.1; have := Hb2.out.size; omega)) (fun b h1 => .inr (Nat.le_trans (Nat.le_trans Hb2.out.size hs3) (Nat.le_of_lt h1))) hlenO ?_; intro v4 w4 o4 ho4; obtain ⟨p4, p5, p6, rfl⟩ := o4.shape; have c7 := (ho4.cell (p := ⟨Bo, 0, none⟩) hBw3 Hne0.out).trans c5'; have c8 := (ho4.frozen (p := ⟨Bo, 0, none⟩) hBw3 Hne0.out).trans c6')
        | (go_simp; go_at_call 53; refine (copyGrid_c _ rows _ (by exact HG2.out) hml HR.out).mono ?_; rintro e w3 ⟨v3, rfl, o3, b3⟩; obtain ⟨r1, r2, r3, rfl⟩ := o3.shape;
           have b3' : Below w2.heap.size w2 w3 := ⟨b3.os, b3.tape, b3.output, b3.size, b3.block⟩;
           have hs3 := b3'.size;
           have Ho3 := Lib.hid o3;
           have Hoo3 := Lib.hid ((rOwn (rOwn (rOwn rIntV))).same (sameOn_below b3' fun b hb => (Hst2.out.ho b hb).2) Hoo.out);
           have c5' := (b3'.cell (p := ⟨Bo, 0, none⟩) hBow).trans c5; have hBw3 : Bo < w3.heap.size := Nat.lt_of_lt_of_le hBow hs3; have c5'' := ((Below.pureAlloc w3 (.cells #[Value.slice r1 r2 r3] 22)).cell (p := ⟨Bo, 0, none⟩) hBw3).trans c5';
           have c6' := (b3'.frozen (p := ⟨Bo, 0, none⟩) hBow).trans c6; clear o3 b3))
      all_goals go_wp2
      all_goals refine bodyPost_ret (v := .tuple #[]) (by simp [results, Try.results59, go_sem]) rfl ⟨rfl, ?_⟩
      all_goals
        rw [Hsol.out]
        have hx : Only (fun b => vo.ownBlock = some b) w3 w4 := ⟨ho4.os, ho4.tape, ho4.output, ho4.size, ho4.block⟩
        obtain ⟨s5, y5⟩ := Hst.out.more Wf.out (Hb2.out.trans_pure b3' (Nat.le_refl _)) (vo2 := .slice p4 p5 p6) (out2 := out ++ [rows]) o4 hx
        exact ⟨_, Sm, _, _, s5, fun b hb => .inl hb, fun b hb => hb.1, y5⟩
    · have Hsol := Lib.hid (show solves R C 0 rows = [] from by unfold solves; rw [if_neg hq])
      rw [decide_eq_false hq]
      clear hq
      go_wp2
      refine bodyPost_ret (v := .tuple #[]) (by simp [results, Try.results59, go_sem]) rfl ⟨rfl, ?_⟩
      rw [Hsol.out, List.append_nil]
      exact ⟨_, Sm, _, So, Hst2.out, fun b hb => .inl hb, fun b hb => .inl hb, Only.of_pure Hb2.out _⟩
  | succ f ih =>
    intro vals rows vm Sm vo So out w hst hrok hbr hlen hout
    have IH := Lib.hid ih
    have Hst := Lib.hid hst
    have Hrok := Lib.hid hrok
    have hlt : rows.length < R.length := by omega
    have Hlen := Lib.hid hlen
    have hyb : ((rows.length : Int) == (R.length : Int)) = false := by rw [beq_eq_false_iff_ne]; omega
    have c0 : w.cell? ⟨Bp, 0, none⟩ = some (.slice aa R.length ca) := hst.bp.cell 0
    have c1 : w.cell? ⟨Bp, 1, none⟩ = some (.slice ab C.length cb) := hst.bp.cell 1
    have Hbr := Lib.hid hbr
    have Hout := Lib.hid hout
    have hK := hst.hK
    obtain ⟨b, off, cpr, he, hbb, -⟩ := Ha.out.inv_ne (by omega)
    obtain ⟨rfl, -⟩ : aa = some ⟨b, off, none⟩ ∧ ca = cpr := by simpa using he
    obtain ⟨u, hck, hu⟩ := Sl.at Ha.out (gD_at [] hlt)
    have hbase := hst.base.mono hn
    have hu : Ints W0 u (R.getD rows.length []) := hu
    have Hu := Lib.hid (hu.keep hbase)
    rw [← hbase.cell (p := ⟨b, off + rows.length, none⟩) hbb] at hck
    obtain ⟨q1, q2, rfl, -⟩ := hu
    obtain ⟨rs, hrs⟩ : ∃ rs, rs = R.getD rows.length [] := ⟨_, rfl⟩
    rw [← hrs] at hck Hu
    have Hrs := Lib.hid hrs
    obtain ⟨L, hL⟩ : ∃ L, L = linesFor rs C.length := ⟨_, rfl⟩
    have HL := Lib.hid hL
    have hLlen : L.length ≤ 6 := by rw [hL]; exact lines_six hC5 rs
    clear ih hst hrok hlen hbr hout hbase he hrs hL
    go_enter Try.func59, Try.ntmps59
    go_upto_region 4 with (fail)
    go_cut [38, 39, 40] (fun s38 s39 s40 wx => ∃ aL cL, s38 = .slice aL L.length cL ∧ s39 = .int .i64 L.length ∧ s40 = .int .i64 0 ∧ Hid (Own 41 (Own 3 IntV) (Iv w.heap.size wx.heap.size) wx (.slice aL L.length cL) L) ∧ Hid (Below w.heap.size w wx))
    case first =>
      go_region_with (go_at_call 61; refine (LinesFor_i _ rs C.length _ (by exact Hu.out) hC1 hC5).mono ?_; rintro e w1 ⟨v1, rfl, o1, b1⟩; rw [← HL.out] at o1; obtain ⟨aL, cL, rfl, -⟩ := id o1.grid)
      all_goals go_wp2_with (fail)
      all_goals go_meet
      all_goals exact ⟨_, _, rfl, rfl, rfl, by exact o1, ⟨b1.os, b1.tape, b1.output, b1.size, b1.block⟩⟩
    case rest =>
      obtain ⟨aL, cL, rfl, rfl, rfl, HoL, HbL⟩ := hcut
      obtain ⟨wl, rfl⟩ : ∃ wl, wl = wc := ⟨_, rfl⟩
      have hsl := HbL.out.size
      have HstL := Lib.hid (Hst.out.keep Wf.out HbL.out)
      have hleL : L.length ≤ 9223372036854775807 := by omega
      clear c0 c1 hck
      go_wp2
      go_loopw [40] (fun i wr => ∃ k : Nat, k ≤ L.length ∧ i = .int .i64 k ∧ ∃ vm' Sm' vo' So', Hid (SSt n Bp Bm Bo Bf K (.slice (some ⟨b, off, none⟩) R.length ca) (.slice ab C.length cb) (.func (.func 59) #[] #[.pointer (some ⟨Bp, 0, none⟩), .pointer (some ⟨Bm, 0, none⟩), .pointer (some ⟨Bo, 0, none⟩), .pointer (some ⟨Bf, 0, none⟩)]) W0 wr vm' vals Sm' vo' (out ++ solvesTo R C f rows L k) So') ∧ Hid (∀ b, Sm' b → Sm b ∨ wl.heap.size ≤ b) ∧ Hid (∀ b, So' b → So b ∨ wl.heap.size ≤ b) ∧ Hid (Only (Wr Sm So Bm Bo) wl wr)) (fun i _ => L.length - (intOf i).toNat)
      case atStart => exact ⟨0, Nat.zero_le _, rfl, _, _, _, _, by rw [solvesTo_zero, List.append_nil]; exact HstL.out, fun b hb => .inl hb, fun b hb => .inl hb, Only.refl _ _⟩
      case round =>
        obtain ⟨k, hk, rfl, vm', Sm', vo', So', Hs, HSm, HSo, Ho⟩ := hrel
        obtain ⟨wo, rfl⟩ : ∃ wo : World, wo = wr := ⟨_, rfl⟩
        have hso := Ho.out.size
        by_cases hltk : k < L.length
        · obtain ⟨l, hl⟩ : ∃ l, L[k]? = some l := ⟨_, List.getElem?_eq_getElem hltk⟩
          obtain ⟨gL, capL, heL, -⟩ := HoL.out.inv_ne (by omega)
          simp only [Value.slice.injEq, true_and] at heL
          obtain ⟨rfl, hcc⟩ := heL
          subst hcc
          have hoLk : Own 41 (Own 3 IntV) (Iv w.heap.size wl.heap.size) wo (.slice (some ⟨gL, 0, none⟩) L.length cL) L := Own.only (rOwn rIntV) HoL.out Ho.out (fun b hb => hb.2) (fun b hb hc => by
            rcases hc with h | h | h | h
            · have := (Hst.out.hm b h).1.2; have := hb.1; omega
            · have := (Hst.out.ho b h).2; have := hb.1; omega
            · subst h; have := Wf.out.h4; have := Wf.out.h5; have := hb.1; omega
            · subst h; have := hb.1; omega)
          obtain ⟨-, -, -, -, T, uk, hcell, hr2, hT, -⟩ := hoLk.focus (rOwn rIntV) hl
          have hsl2 := hr2.sl (fun _ _ _ _ h => h) rIntV
          obtain ⟨y1, y2, y3, rfl⟩ := hr2.shape
          have Hsl2 := Lib.hid hsl2
          have HT := Lib.hid hT
          have Hl := Lib.hid hl
          have c2 : wo.cell? ⟨Bm, 0, none⟩ = some vm' := Hs.out.bm.cell 0
          have hvl : vals.length = rows.length := Hrok.out.1
          have hvl5 : vals.length < 1099511627776 := by omega
          obtain ⟨m1, m2, m3, rfl⟩ := Hs.out.om.shape
          have Hom := Lib.hid Hs.out.om
          have hBmK : Bm < K := by have := Wf.out.h4; have := Wf.out.h5; omega
          have Hneb := Lib.hid (show ¬ (Value.slice m1 m2 m3).ownBlock = some Bm from fun he => by have := (Hs.out.hm Bm (Hs.out.om.ownBlock' Bm he)).1.1; omega)
          have Hvl := Lib.hid hvl
          have hKo := Hs.out.hK
          have hBmw : Bm < wo.heap.size := by omega
          clear hoLk hr2 hT hl hsl2 hvl
          go_wp2_with (first | (at_builtin; (refine wpList_app rfl _ _ 22 rfl rValV 41 Try.underlying22 infoInts rfl (by decide) Sm' (fun _ => False) (fun b => Sm' b ∨ wo.heap.size ≤ b) _ _ vals (.slice y1 y2 y3) rfl rfl (by exact Hom.out) (by exact ⟨rfl, rfl⟩) (fun _ _ h => h) (fun b hb => (Hs.out.hm b hb).1.2) (fun _ h => h.elim) (fun _ h => .inl h) (fun _ h => h.elim) (fun b h => .inr (Nat.le_of_lt h)) hvl5 ?_); intro v2 w2 hown2 honly2; obtain ⟨z1, z2, z3, rfl⟩ := hown2.shape; have d1 := (honly2.cell (p := ⟨Bm, 0, none⟩) hBmw Hneb.out).trans c2; have d2 := (honly2.frozen (p := ⟨Bm, 0, none⟩) hBmw Hneb.out).trans (Hs.out.bm.frozen 0); have st3 := (Hs.out.push Wf.out hown2 honly2).1.bf.cell 0) | fail)
          obtain ⟨s3, O3⟩ := Hs.out.push Wf.out hown2 honly2
          have hs2 := honly2.size
          obtain ⟨w3, hw3⟩ : ∃ w3, w3 = w2.setCell ⟨Bm, 0, none⟩ (.slice z1 z2 z3) := ⟨_, rfl⟩
          have hz3 : w3.heap.size = w2.heap.size := by rw [hw3, size_setCell]
          rw [← hw3] at s3 O3 st3 ⊢
          have hr1 : RowsOk (Wr Sm So Bm Bo) wl vals rows := Hrok.out.go (Only.of_pure HbL.out _) (fun b hb => .inl hb)
          have hr2 : RowsOk (Wr Sm' So' Bm Bo) wo vals rows := hr1.go Ho.out (wr_grow HSm.out HSo.out)
          have hr3 : RowsOk (Wr (fun b => (Sm' b ∨ wo.heap.size ≤ b) ∧ b < w2.heap.size) So' Bm Bo) w3 vals rows := hr2.go O3 (wr_grow (fun b hb => hb.1) (fun b hb => .inl hb))
          have hr4 := hr3.snoc (v := .slice y1 y2 y3) (x := l) (by
            refine (rSl rIntV).mono ?_ ((rSl rIntV).same (fun b hb => O3.block b (by have := (HT.out b hb).1.2; omega) ?_) Hsl2.out)
            · intro b hb
              have h1 := (HT.out b hb).1.1
              have h2 := (HT.out b hb).1.2
              refine ⟨by omega, ?_⟩
              rintro (h | h | h | h)
              · rcases h.1 with h5 | h5
                · rcases HSm.out b h5 with h6 | h6
                  · have := (Hst.out.hm b h6).1.2; omega
                  · omega
                · omega
              · rcases HSo.out b h with h6 | h6
                · have := (Hst.out.ho b h6).2; omega
                · omega
              · omega
              · omega
            · have h1 := (HT.out b hb).1.1
              have h2 := (HT.out b hb).1.2
              rintro (h | h | h | h)
              · rcases HSm.out b h with h6 | h6
                · have := (Hst.out.hm b h6).1.2; omega
                · omega
              · rcases HSo.out b h with h6 | h6
                · have := (Hst.out.ho b h6).2; omega
                · omega
              · omega
              · omega)
          have hol : (out ++ solvesTo R C f rows L k).length + 6 ^ f ≤ 1099511627775 := by
            have h1 := solvesTo_len (R := R) hC5 f rows L k
            have h2 : (k + 1) * 6 ^ f ≤ 6 * 6 ^ f := Nat.mul_le_mul_right _ (by omega)
            have h3 := Hout.out
            rw [Nat.pow_succ] at h3
            rw [Nat.succ_mul] at h2
            rw [List.length_append]; omega
          have hIH := IH.out _ _ _ _ _ _ _ _ s3 hr4 (Hbr.out.snoc (rs := rs) (by rw [← HL.out]; exact List.mem_of_getElem? Hl.out)) (by rw [List.length_append, List.length_singleton]; have := Hlen.out; omega) hol
          rw [show (((rows ++ [l]).length : Nat) : Int) = (rows.length : Int) + 1 from by rw [List.length_append, List.length_singleton]; omega] at hIH
          have O3' := Lib.hid O3
          clear hr1 hr2 hr3 hr4 s3 O3 hown2 honly2 d1 d2 c2 hcell st3 hw3 hol
          refine hIH.mono ?_
          rintro e w4 ⟨rfl, vm4, Sm4, vo4, So4, st4, hSm4, hSo4, O4⟩
          obtain ⟨g, cap, rfl, hcap, st5, O5⟩ := st4.pop Wf.out
          have d3 : w4.cell? ⟨Bm, 0, none⟩ = some (.slice (some ⟨g, 0, none⟩) (vals.length + 1) cap) := st4.bm.cell 0
          have d4 := st4.bm.frozen 0
          rw [Hvl.out] at d3 hcap st5 O5
          have hw4 := O4.size
          have hSo3 : ∀ b, So4 b → So' b ∨ wo.heap.size ≤ b := fun b hb => (hSo4 b hb).imp id (fun h => by omega)
          have hSm3 : ∀ b, Sm4 b → Sm' b ∨ wo.heap.size ≤ b := fun b hb => (hSm4 b hb).elim (fun h => h.1) (fun h => .inr (by omega))
          have HSm4 := Lib.hid (show ∀ b, Sm4 b → Sm b ∨ wl.heap.size ≤ b from fun b hb => (hSm3 b hb).elim (fun h => HSm.out b h) (fun h => .inr (by omega)))
          have HSo4 := Lib.hid (show ∀ b, So4 b → So b ∨ wl.heap.size ≤ b from fun b hb => (hSo3 b hb).elim (fun h => HSo.out b h) (fun h => .inr (by omega)))
          have H5 := Lib.hid (((Ho.out.trans' (O3'.out.mono fun b hb _ => wr_grow HSm.out HSo.out b hb)).trans' (O4.mono fun b hb _ => (wr_grow (Sm := Sm') (So := So') (n := wo.heap.size) (fun b hb => hb.1) (fun b hb => .inl hb) b hb).elim (fun h => wr_grow HSm.out HSo.out b h) (fun h => .inr (by omega)))).trans' (O5.mono fun b hb _ => wr_grow HSm4.out HSo4.out b hb))
          have H6 := Lib.hid st5
          have Hst7 := Lib.hid (solvesTo_succ (R := R) (C := C) (f := f) (rows := rows) Hl.out)
          clear hIH st4 hSm4 hSo4 O4 st5 O5 hSo3 hSm3
          go_wp2
          go_roundw
          case rel =>
            exact ⟨k + 1, by omega, by go_num, _, Sm4, vo4, So4, by rw [Hst7.out, ← List.append_assoc]; exact H6.out, HSm4.out, HSo4.out, H5.out⟩
          case measure => simp [intOf]; omega
        · have Hfin := Lib.hid (show solvesTo R C f rows L k = solves R C (f + 1) rows from solvesTo_all (by rw [HL.out, Hrs.out]) (by omega))
          have hdk : decide ((k : Int) < (L.length : Int)) = false := by simp; omega
          have H5 := Lib.hid ((Only.of_pure HbL.out (Wr Sm So Bm Bo)).trans' (Ho.out.mono fun b hb _ => .inl hb))
          go_wp2
          refine bodyPost_end (results_none rfl _ _ _) rfl ⟨rfl, ?_⟩
          exact ⟨vm', Sm', vo', So', by rw [← Hfin.out]; exact Hs.out, fun b hb => (HSm.out b hb).imp id (fun h => by omega), fun b hb => (HSo.out b hb).imp id (fun h => by omega), H5.out⟩
end Go.Proofs.Ytekgnpdchpdfiaa

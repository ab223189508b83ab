/- Contracts: the reference's SolvePuzzle: what it needs. Contracts: the reference's SolvePuzzle: its recursion. Contracts: the reference's SolvePuzzle, whole; the size of the solutions. -/
import Derived.Test.YtliejhmlcdjpcaaDoorS4
import Derived.Test.YtliejhmlcdjpcaaDoorD3
import Derived.Test.YtliejhmlcdjpcaaDoorC1
import Derived.Test.YtliejhmlcdjpcaaDoorMem
import Derived.Test.YtliejhmlcdjpcaaDoorG2


namespace Go.Proofs.YtliejhmlcdjpcaaDoor
open Go.RowKit

theorem infoGridsT : (Tryd.prog.info? 23).map (fun i => (i.zero, i.size, i.bytes)) = some (some (.slice none 0 0), 1, 24) := by kernel_rfl
def RPost (S : Bk) (w : World) (out : List (List (List Int))) (e : Ending) (w' : World) : Prop :=
  ∃ v' S', e = .returned v' ∧ Own 23 (Own 24 (Own 3 IntV)) S' w' v' out ∧ (∀ b, S' b → (S b ∨ w.heap.size ≤ b) ∧ b < w'.heap.size) ∧ Only S w w'
set_option maxRecDepth 100000 in
set_option maxHeartbeats 4000000 in
theorem l14All_c {n0 : Nat} {R C : List (List Int)} (hR5 : R.length ≤ 5) (hC1 : 1 ≤ C.length) (hC5 : C.length ≤ 5) (f : Nat) :
    ∀ (a b vo vd : Value) (rows : List (List Int)) (S : Bk) (out : List (List (List Int))) (w : World), Sl (Sl IntV) (fun b => b < n0) w a R → Sl (Sl IntV) (fun b => b < n0) w b C → n0 ≤ w.heap.size → (∀ b, S b → n0 ≤ b ∧ b < w.heap.size) →
      Own 23 (Own 24 (Own 3 IntV)) S w vo out → Sl (Sl IntV) (fun b => b < w.heap.size ∧ ¬ S b) w vd rows → BRows C.length rows → rows.length + f = R.length → out.length + 6 ^ f ≤ 1099511627775 →
      Calls Tryd.prog 119 #[vo, vd, .agg #[a, b]] w (RPost S w (out ++ solves R C f rows)) := by
  induction f with
  | zero =>
    intro a b vo vd rows S out w ha hb hn0 hS ho hd hbr hlen hout
    have Ha := Lib.hid ha
    have Hb := Lib.hid hb
    have Hd := Lib.hid hd
    obtain ⟨aa, ca, rfl, -⟩ := id ha
    obtain ⟨ab, cb, rfl, -⟩ := id hb
    obtain ⟨ad, cd, rfl, -⟩ := id hd
    obtain ⟨W1, hW1⟩ : ∃ W1, W1 = w.alloc (.cells #[.slice aa R.length ca, .slice ab C.length cb] 56) := ⟨_, rfl⟩
    have bW1 : Below w.heap.size w W1 := by rw [hW1]; exact Below.pureAlloc _ _
    have kB : Blk W1 w.heap.size #[.slice aa R.length ca, .slice ab C.length cb] 56 := by rw [hW1]; exact Blk.new _ _ _
    have c0 : W1.cell? ⟨w.heap.size, 0, none⟩ = some (.slice aa R.length ca) := kB.cell 0
    have hyb : ((rows.length : Int) == (R.length : Int)) = true := by rw [beq_iff_eq]; omega
    have hlr : rows.length ≤ R.length := by omega
    have hlr2 : R.length ≤ rows.length := by omega
    have HD1 := Lib.hid (Grid.keep ((rSl (rSl rIntV)).mono (fun b hb => hb.1) hd) bW1)
    have HC0 := Lib.hid (show Grid w _ C from (rSl (rSl rIntV)).mono (S' := fun b => b < w.heap.size) (fun b hb => Nat.lt_of_lt_of_le hb hn0) hb)
    have HbW1 := Lib.hid bW1
    have HkB := Lib.hid kB
    have HS := Lib.hid hS
    have Hoo := Lib.hid ho
    have Hbr := Lib.hid hbr
    have Hout := Lib.hid hout
    obtain ⟨o1, o2, o3, rfl⟩ := ho.shape
    clear ha hb hd bW1 kB hS ho hbr hlen hout
    go_enter Tryd.func119, Tryd.ntmps119
    subst hW1
    go_wp2_with (fail)
    refine (PuzzleOf_s _ rows _ HD1.out).mono ?_
    rintro e w2 ⟨a2, b2, rfl, op, hb2⟩
    obtain ⟨⟨p1, p2, p3, rfl⟩, ⟨q1, q2, q3, rfl⟩⟩ := op.shape
    have HGx := Lib.hid op.reads.2
    have hbb := HbW1.out.trans_pure hb2 (Nat.le_refl _)
    have e1 : (w2.alloc (.cells #[.slice p1 p2 p3, .slice q1 q2 q3] 56)).cell? ⟨w.heap.size, 1, none⟩ = some (.slice ab C.length cb) := ((HkB.out.keep hb2).keep (Below.pureAlloc _ _)).cell 1
    have Hbb := Lib.hid hbb
    clear op hb2 hbb c0
    go_wp2_with (fail)
    refine (SameImage_s_c _ _ (pzCols rows) C _ (HGx.out.keep (Below.pureAlloc _ _)) ((HC0.out.keep Hbb.out).keep (Below.pureAlloc _ _))).mono ?_
    rintro e w3 ⟨rfl, b3⟩
    have Hb3 := Lib.hid ((Hbb.out.trans_pure (Below.pureAlloc _ _) (Nat.le_refl _)).trans_pure b3 (Nat.le_refl _))
    clear b3 e1
    by_cases hq : pzCols rows = C
    · have Hsol := Lib.hid (show solves R C 0 rows = [rows] from by unfold solves; rw [if_pos hq])
      rw [decide_eq_true hq]
      clear hq
      have hml : rows.length ≤ 1048576 := by omega
      have HR := Lib.hid (show ∀ p ∈ rows, p.length ≤ 1048576 from fun p hp => by have := (Hbr.out p hp).1; omega)
      have HG2 := Lib.hid (Grid.keep ((rSl (rSl rIntV)).mono (fun b hb => hb.1) Hd.out) Hb3.out)
      have hlenO : out.length < 1099511627776 := Nat.lt_of_le_of_lt (Nat.le_trans (Nat.le_add_right _ _) Hout.out) (by decide)
      go_wp2_with (fail)
      refine (l02Copy_c _ rows _ (by exact HG2.out) hml HR.out).mono ?_
      rintro e w4 ⟨v4, rfl, o4, b4⟩
      obtain ⟨r1, r2, r3, rfl⟩ := o4.shape
      have hs3 := Hb3.out.size
      have hs4 := b4.size
      have Hb4 := Lib.hid (Hb3.out.trans_pure b4 (Nat.le_refl _))
      have Ho4 := Lib.hid o4
      have Hbx := Lib.hid (Below.pureAlloc w4 (.cells #[.slice r1 r2 r3] 23))
      have Hk := Lib.hid (Blk.new w4 #[.slice r1 r2 r3] 23)
      have Hoo5 := Lib.hid ((rOwn (rOwn (rOwn rIntV))).same (sameOn_below (Hb4.out.trans_pure Hbx.out (Nat.le_refl _)) fun b hb => (HS.out b hb).2) Hoo.out)
      have Hu5 := Lib.hid ((rOwn (rOwn rIntV)).same (sameOn_below Hbx.out fun b hb => hb.2) Ho4.out)
      have hz5 : (w4.alloc (.cells #[.slice r1 r2 r3] 23)).heap.size = w4.heap.size + 1 := by simp
      have Hz5 := Lib.hid hz5
      clear o4 b4 hz5
      go_wp2_with (first | (at_builtin; refine wpList_app1g rfl _ _ 42 rfl (rOwn (rOwn rIntV)) 23 Tryd.underlying42 infoGridsT rfl (by decide) S (Iv w3.heap.size w4.heap.size) rfl rfl (by exact Hk.out.cell 0) (by exact Hoo5.out) (by exact Hu5.out) (fun b h1 h2 => by have := (HS.out b h1).2; have := h2.1; omega) (fun b h1 => by have := (HS.out b h1).2; have := Hz5.out; omega) (fun b h1 => by have := h1.2; have := Hz5.out; omega) hlenO ?_; intro v6 w6 o6 h6; obtain ⟨x1, x2, x3, rfl⟩ := o6.shape) | fail)
      have Ho6 := Lib.hid o6
      have H6 := Lib.hid h6
      clear o6 h6
      go_wp2
      go_ret
      refine ⟨_, _, rfl, by rw [Hsol.out]; exact Ho6.out, fun b hb => ?_, ?_⟩
      · refine ⟨?_, hb.2⟩
        rcases hb.1 with h | h | h
        · exact .inl h
        · exact .inr (by have := h.1; omega)
        · exact .inr (by have := Hz5.out; omega)
      · have h1 : Only S w (w4.alloc (.cells #[.slice r1 r2 r3] 23)) := Only.of_pure (Hb4.out.trans_pure Hbx.out (Nat.le_refl _)) S
        exact h1.trans' (H6.out.mono fun b hb _ => .inl (Hoo5.out.ownBlock' b hb))
    · have Hsol := Lib.hid (show solves R C 0 rows = [] from by unfold solves; rw [if_neg hq])
      rw [decide_eq_false hq]
      clear hq
      go_wp2
      go_ret
      have hs3 := Hb3.out.size
      exact ⟨_, S, rfl, by rw [Hsol.out, List.append_nil]; exact (rOwn (rOwn (rOwn rIntV))).same (sameOn_below Hb3.out fun b hb => (HS.out b hb).2) Hoo.out, fun b hb => ⟨.inl hb, Nat.lt_of_lt_of_le (HS.out b hb).2 hs3⟩, Only.of_pure Hb3.out S⟩
  | succ f ih =>
    intro a b vo vd rows S out w ha hb hn0 hS ho hd hbr hlen hout
    have IH := Lib.hid ih
    have Ha := Lib.hid ha
    have Hb := Lib.hid hb
    have Hd := Lib.hid hd
    have hlt : rows.length < R.length := by omega
    obtain ⟨ba, offa, ca, rfl, hba0, -⟩ := ha.inv_ne (by omega)
    obtain ⟨ab, cb, rfl, -⟩ := id hb
    obtain ⟨ad, cd, rfl, -⟩ := id hd
    obtain ⟨W1, hW1⟩ : ∃ W1, W1 = w.alloc (.cells #[.slice (some ⟨ba, offa, none⟩) R.length ca, .slice ab C.length cb] 56) := ⟨_, rfl⟩
    have bW1 : Below w.heap.size w W1 := by rw [hW1]; exact Below.pureAlloc _ _
    have kB : Blk W1 w.heap.size #[.slice (some ⟨ba, offa, none⟩) R.length ca, .slice ab C.length cb] 56 := by rw [hW1]; exact Blk.new _ _ _
    have zW1 : W1.heap.size = w.heap.size + 1 := by rw [hW1]; simp
    have c0 : W1.cell? ⟨w.heap.size, 0, none⟩ = some (.slice (some ⟨ba, offa, none⟩) R.length ca) := kB.cell 0
    have c1 : W1.cell? ⟨w.heap.size, 1, none⟩ = some (.slice ab C.length cb) := kB.cell 1
    have hyb : ((rows.length : Int) == (R.length : Int)) = false := by rw [beq_eq_false_iff_ne]; omega
    obtain ⟨u, hck0, hu⟩ := Sl.at ha (gD_at [] hlt)
    obtain ⟨rs, hrs⟩ : ∃ rs, rs = R.getD rows.length [] := ⟨_, rfl⟩
    rw [← hrs] at hu
    have hck := hck0
    rw [← bW1.cell (p := ⟨ba, offa + rows.length, none⟩) hba0] at hck
    have Hu := Lib.hid (Ints.keep ((rSl rIntV).mono (S' := fun b => b < w.heap.size) (fun b hb => Nat.lt_of_lt_of_le hb hn0) hu) bW1)
    obtain ⟨q1, q2, rfl, -⟩ := hu
    have Hrs := Lib.hid hrs
    obtain ⟨L, hL⟩ : ∃ L, L = linesFor rs C.length := ⟨_, rfl⟩
    have HL := Lib.hid hL
    have hLlen : L.length ≤ 6 := by rw [hL]; exact lines_six hC5 rs
    have HbW1 := Lib.hid bW1
    have HkB := Lib.hid kB
    have HzW1 := Lib.hid zW1
    have HS := Lib.hid hS
    have Hoo := Lib.hid ho
    have Hbr := Lib.hid hbr
    have Hout := Lib.hid hout
    have Hlen := Lib.hid hlen
    have Hn0 := Lib.hid hn0
    obtain ⟨o1, o2, o3, rfl⟩ := ho.shape
    clear ih ha hb hd bW1 kB hS ho hbr hlen hout zW1 hrs hL hck0 hn0
    go_enter Tryd.func119, Tryd.ntmps119
    subst hW1
    go_upto_region 6 with (fail)
    go_cut [42, 43, 44] (fun s42 s43 s44 wx => ∃ aL cL, s42 = .slice aL L.length cL ∧ s43 = .int .i64 L.length ∧ s44 = .int .i64 0 ∧ Hid (Own 24 (Own 3 IntV) (Iv (w.heap.size + 1) wx.heap.size) wx (.slice aL L.length cL) L) ∧ Hid (Below (w.heap.size + 1) (w.alloc (.cells #[.slice (some ⟨ba, offa, none⟩) R.length ca, .slice ab C.length cb] 56)) wx))
    case first =>
      go_region_with (go_at_call 152; refine (LinesFor_s _ rs C.length _ (by exact Hu.out) hC1 hC5).mono ?_; rintro e w1 ⟨v1, rfl, o1', b1⟩; rw [← HL.out] at o1'; obtain ⟨aL, cL, rfl, -⟩ := id o1'.grid)
      all_goals go_wp2_with (fail)
      all_goals go_meet
      all_goals exact ⟨_, _, rfl, rfl, rfl, (rOwn (rOwn rIntV)).mono (fun b hb => ⟨by rw [← HzW1.out]; exact hb.1, hb.2⟩) o1', ⟨b1.os, b1.tape, b1.output, b1.size, fun b hb => b1.block b (by rw [← HzW1.out] at hb; exact hb)⟩⟩
    case rest =>
      obtain ⟨aL, cL, rfl, rfl, rfl, HoL, HbL⟩ := hcut
      obtain ⟨wl, rfl⟩ : ∃ wl, wl = wc := ⟨_, rfl⟩
      have hsl := HbL.out.size
      have HbwL := Lib.hid (HbW1.out.trans (HbL.out.mono (Nat.le_succ _)))
      have HkL := Lib.hid (show Blk wl w.heap.size #[.slice (some ⟨ba, offa, none⟩) R.length ca, .slice ab C.length cb] 56 from (HbL.out.block _ (Nat.lt_succ_self _)).trans HkB.out)
      have hwl : w.heap.size + 1 ≤ wl.heap.size := by rw [HzW1.out] at hsl; exact hsl
      have hleL : L.length ≤ 9223372036854775807 := by omega
      clear c0 c1 hck
      go_wp2
      go_loopw [0, 44] (fun v i wr => ∃ k : Nat, k ≤ L.length ∧ i = .int .i64 k ∧ ∃ S', Hid (Own 23 (Own 24 (Own 3 IntV)) S' wr v (out ++ solvesTo R C f rows L k)) ∧ Hid (∀ b, S' b → (S b ∨ wl.heap.size ≤ b) ∧ b < wr.heap.size) ∧ Hid (Only S wl wr)) (fun _ i _ => L.length - (intOf i).toNat)
      case atStart => exact ⟨0, Nat.zero_le _, rfl, S, by rw [solvesTo_zero, List.append_nil]; exact (rOwn (rOwn (rOwn rIntV))).same (sameOn_below HbwL.out fun b hb => (HS.out b hb).2) Hoo.out, fun b hb => ⟨.inl hb, by have := (HS.out b hb).2; omega⟩, Only.refl _ _⟩
      case round =>
        obtain ⟨k, hk, rfl, S', Hs, HS', Ho⟩ := hrel
        obtain ⟨wo, rfl⟩ : ∃ wo : World, wo = wr := ⟨_, rfl⟩
        have hso := Ho.out.size
        obtain ⟨s1, s2, s3, rfl⟩ := Hs.out.shape
        have hnS : ¬ S w.heap.size := fun h => by have := (HS.out _ h).2; omega
        have HkO := Lib.hid (HkL.out.only Ho.out hnS)
        have c0 : wo.cell? ⟨w.heap.size, 0, none⟩ = some (.slice (some ⟨ba, offa, none⟩) R.length ca) := HkO.out.cell 0
        have c1 : wo.cell? ⟨w.heap.size, 1, none⟩ = some (.slice ab C.length cb) := HkO.out.cell 1
        by_cases hltk : k < L.length
        · obtain ⟨l, hl⟩ : ∃ l, L[k]? = some l := ⟨_, List.getElem?_eq_getElem hltk⟩
          obtain ⟨gL, capL, heL, -⟩ := HoL.out.inv_ne (by omega)
          simp only [Value.slice.injEq, true_and] at heL
          obtain ⟨rfl, hcc⟩ := heL
          subst hcc
          have hoLk : Own 24 (Own 3 IntV) (Iv (w.heap.size + 1) wl.heap.size) wo (.slice (some ⟨gL, 0, none⟩) L.length cL) L := (rOwn (rOwn rIntV)).same (fun b hb => Ho.out.block b hb.2 fun h => by have := (HS.out b h).2; have := hb.1; omega) HoL.out
          obtain ⟨-, -, -, -, T, uk, hcell, hr2, hT, -⟩ := hoLk.focus (rOwn rIntV) hl
          obtain ⟨y1, y2, y3, rfl⟩ := hr2.shape
          have Hr2 := Lib.hid hr2
          have HT := Lib.hid hT
          have Hl := Lib.hid hl
          have hml : rows.length ≤ 1048576 := by omega
          have HR := Lib.hid (show ∀ p ∈ rows, p.length ≤ 1048576 from fun p hp => by have := (Hbr.out p hp).1; omega)
          have HdO := Lib.hid (show Sl (Sl IntV) (fun b => b < w.heap.size ∧ ¬ S b) wo _ rows from (rSl (rSl rIntV)).same (fun b hb => Ho.out.block b (by have := hb.1; omega) hb.2) ((rSl (rSl rIntV)).same (sameOn_below HbwL.out fun b hb => hb.1) Hd.out))
          have HGd := Lib.hid (show ∀ W, Below wo.heap.size wo W → Grid W _ rows from fun W hW => Grid.keep ((rSl (rSl rIntV)).mono (fun b hb => Nat.lt_of_lt_of_le hb.1 (by omega)) HdO.out) hW)
          have HA := Lib.hid ((rSl (rSl rIntV)).same (sameOn_below HbwL.out fun b hb => Nat.lt_of_lt_of_le hb Hn0.out) Ha.out)
          have HB := Lib.hid ((rSl (rSl rIntV)).same (sameOn_below HbwL.out fun b hb => Nat.lt_of_lt_of_le hb Hn0.out) Hb.out)
          have Hbox := Lib.hid (Below.pureAlloc wo (.cells #[.slice y1 y2 y3] 24))
          have cx0 := (Hbox.out.cell (p := ⟨w.heap.size, 0, none⟩) HkO.out.lt).trans c0
          have cx1 := (Hbox.out.cell (p := ⟨w.heap.size, 1, none⟩) HkO.out.lt).trans c1
          have hrl5 : rows.length < 1099511627776 := by omega
          clear hoLk hr2 hT hl
          go_wp2
          have HA3 := Lib.hid (show ∀ W, Below wo.heap.size wo W → Sl (Sl IntV) (fun b => b < n0) W (.slice (some ⟨ba, offa, none⟩) R.length ca) R from fun W hW => (rSl (rSl rIntV)).same (sameOn_below hW fun b hb => Nat.lt_of_lt_of_le hb (by have := Hn0.out; omega)) ((rSl (rSl rIntV)).same (fun b hb => Ho.out.block b (Nat.lt_of_lt_of_le hb (by have := Hn0.out; omega)) (fun h => by have := (HS.out b h).1; have hb : b < n0 := hb; omega)) HA.out))
          have HB3 := Lib.hid (show ∀ W, Below wo.heap.size wo W → Sl (Sl IntV) (fun b => b < n0) W (.slice ab C.length cb) C from fun W hW => (rSl (rSl rIntV)).same (sameOn_below hW fun b hb => Nat.lt_of_lt_of_le hb (by have := Hn0.out; omega)) ((rSl (rSl rIntV)).same (fun b hb => Ho.out.block b (Nat.lt_of_lt_of_le hb (by have := Hn0.out; omega)) (fun h => by have := (HS.out b h).1; have hb : b < n0 := hb; omega)) HB.out))
          have HS3 := Lib.hid (show ∀ W : World, wo.heap.size ≤ W.heap.size → n0 ≤ W.heap.size ∧ ∀ b, S' b → n0 ≤ b ∧ b < W.heap.size from fun W hW => ⟨by have := Hn0.out; omega, fun b hb => by
            have h2 := (HS'.out b hb).2
            rcases (HS'.out b hb).1 with h | h
            · exact ⟨(HS.out b h).1, by omega⟩
            · exact ⟨by have := Hn0.out; omega, by omega⟩⟩)
          have Hs3 := Lib.hid (show ∀ W, Below wo.heap.size wo W → Own 23 (Own 24 (Own 3 IntV)) S' W (.slice s1 s2 s3) (out ++ solvesTo R C f rows L k) from fun W hW => (rOwn (rOwn (rOwn rIntV))).same (sameOn_below hW fun b hb => (HS'.out b hb).2) Hs.out)
          have Hbr3 := Lib.hid (Hbr.out.snoc (rs := rs) (l := l) (by rw [← HL.out]; exact List.mem_of_getElem? Hl.out))
          have Hlen3 := Lib.hid (show (rows ++ [l]).length + f = R.length from by rw [List.length_append, List.length_singleton]; have := Hlen.out; omega)
          have Hol := Lib.hid (show (out ++ solvesTo R C f rows L k).length + 6 ^ f ≤ 1099511627775 from by
            have h1 := solvesTo_len (R := R) hC5 f rows L k
            have h2 : (k + 1) * 6 ^ f ≤ 6 * 6 ^ f := Nat.mul_le_mul_right _ (by omega)
            have h3 := Hout.out
            rw [Nat.pow_succ] at h3
            rw [Nat.succ_mul] at h2
            rw [List.length_append]; omega)
          have HnT := Lib.hid (show ∀ b, S' b → ¬ T b from fun b h1 h2 => by
            have h3 := (HT.out b h2).1
            have h4 := h3.1
            have h5 := h3.2
            rcases (HS'.out b h1).1 with h | h
            · have := (HS.out b h).2; omega
            · omega)
          have Hst7 := Lib.hid (solvesTo_succ (R := R) (C := C) (f := f) (rows := rows) Hl.out)
          have Hkb := Lib.hid (Blk.new wo #[.slice y1 y2 y3] 24)
          go_region_law (first
            | (refine step_app1g (w := w1.alloc (.cells #[.slice y1 y2 y3] 24)) (v := .slice r1 r2 r3) (u := .slice y1 y2 y3) (x := l) (gb := w1.heap.size) (c := 1) rfl (.tmp 50) (.tmp 52) 23 rfl (rOwn rIntV) 24 Tryd.underlying23 infoIntsL rfl (by decide) (Iv wo.heap.size w1.heap.size) T (by simp [Act.eval]) (by simp [Act.eval]) (by exact (Blk.new w1 #[.slice y1 y2 y3] 24).cell 0) (by exact Ho1b.out) (by exact Hr1b.out) (fun b h1 h2 => by have := h1.1; have := (HT.out b h2).1.2; omega) (fun b h1 => Nat.lt_of_lt_of_le h1.2 Hx1.out.size) (fun b h1 => Nat.lt_of_lt_of_le (HT.out b h1).1.2 hl1b) hrl5 ?_; intro v3 w3 o3 h3; obtain ⟨z1, z2, z3, rfl⟩ := o3.shape; have hx3 : Below wo.heap.size w1 w3 := (Hx1.out.mono hB1).trans (h3.below (Nat.le_trans hB1 Hx1.out.size) (fun b hb => (Ho1.out.ownBlock' b hb).1)); have B3 := Lib.hid (HB1.out.trans hx3); have hB3 := B3.out.size; have d0 := (B3.out.cell (p := ⟨w.heap.size, 0, none⟩) HkO.out.lt).trans c0; have d1 := (B3.out.cell (p := ⟨w.heap.size, 1, none⟩) HkO.out.lt).trans c1; have HX := Lib.hid (Nat.le_trans hB1 Hx1.out.size); have H3 := Lib.hid o3; have Hd3 := Lib.hid (show Sl (Sl IntV) (fun b => b < w3.heap.size ∧ ¬ S' b) w3 (.slice z1 z2 z3) (rows ++ [l]) from (rSl (rSl rIntV)).mono (fun b hb => ⟨hb.2, fun h => (hb.1.elim (fun h1 => by have := h1.1; have := (HS'.out b h).2; omega) (fun h1 => h1.elim (fun h1 => HnT.out b h h1) (fun h1 => by have := (HS'.out b h).2; have := HX.out; omega)))⟩) (H3.out.sl (fun _ _ _ _ h => h.sl (fun _ _ _ _ h => h) rIntV) (rSl rIntV))); clear o3 h3 hx3)
            | (refine step_app1g (w := w1) (v := .slice r1 r2 r3) (u := .slice y1 y2 y3) (x := l) (gb := wo.heap.size) (c := 1) rfl (.tmp 50) (.tmp 52) 23 rfl (rOwn rIntV) 24 Tryd.underlying23 infoIntsL rfl (by decide) (Iv wo.heap.size w1.heap.size) T (by simp [Act.eval]) (by simp [Act.eval]) (by exact Hk1.out.cell 0) (by exact Ho1.out) (by exact Hr1.out) (fun b h1 h2 => by have := h1.1; have := (HT.out b h2).1.2; omega) (fun b h1 => h1.2) (fun b h1 => Nat.lt_of_lt_of_le (HT.out b h1).1.2 hl1) hrl5 ?_; intro v3 w3 o3 h3; obtain ⟨z1, z2, z3, rfl⟩ := o3.shape;
               have hx3 : Below wo.heap.size w1 w3 := h3.below hB1 (fun b hb => (Ho1.out.ownBlock' b hb).1);
               have B3 := Lib.hid (HB1.out.trans hx3); have hB3 := B3.out.size; have d0 := (B3.out.cell (p := ⟨w.heap.size, 0, none⟩) HkO.out.lt).trans c0; have d1 := (B3.out.cell (p := ⟨w.heap.size, 1, none⟩) HkO.out.lt).trans c1; have HX := Lib.hid hB1; have H3 := Lib.hid o3; have Hd3 := Lib.hid (show Sl (Sl IntV) (fun b => b < w3.heap.size ∧ ¬ S' b) w3 (.slice z1 z2 z3) (rows ++ [l]) from (rSl (rSl rIntV)).mono (fun b hb => ⟨hb.2, fun h => (hb.1.elim (fun h1 => by have := h1.1; have := (HS'.out b h).2; omega) (fun h1 => h1.elim (fun h1 => HnT.out b h h1) (fun h1 => by have := (HS'.out b h).2; have := HX.out; omega)))⟩) (H3.out.sl (fun _ _ _ _ h => h.sl (fun _ _ _ _ h => h) rIntV) (rSl rIntV))); clear o3 h3 hx3)
            | (go_simp; go_at_call 92; refine (l02Copy_c _ rows _ (HGd.out _ (by exact ⟨rfl, rfl, rfl, Nat.le_refl _, fun _ _ => rfl⟩)) hml HR.out).mono ?_; rintro e w1 ⟨v1, rfl, o1', b1⟩; obtain ⟨r1, r2, r3, rfl⟩ := o1'.shape; have HB1 := Lib.hid (show Below wo.heap.size wo w1 from ⟨b1.os, b1.tape, b1.output, b1.size, b1.block⟩); have Ho1 := Lib.hid ((rOwn (rOwn rIntV)).mono (S' := Iv wo.heap.size w1.heap.size) (fun b hb => ⟨Nat.le_trans (Nat.le_refl _) hb.1, hb.2⟩) o1'); have hB1 := HB1.out.size; have hl1 : wl.heap.size ≤ w1.heap.size := Nat.le_trans hso hB1; have Hx1 := Lib.hid (Below.pureAlloc w1 (.cells #[.slice y1 y2 y3] 24)); have hl1b := Nat.le_trans hl1 Hx1.out.size; have Hr1 := Lib.hid ((rOwn rIntV).same (sameOn_below HB1.out fun b hb => by have := (HT.out b hb).1.2; omega) Hr2.out); have Ho1b := Lib.hid ((rOwn (E := 24) (rOwn (E := 3) rIntV)).same (sameOn_below Hx1.out fun b hb => hb.2) Ho1.out); have Hr1b := Lib.hid ((rOwn rIntV).same (sameOn_below Hx1.out fun b hb => by have := (HT.out b hb).1.2; omega) Hr1.out); have d0 := (HB1.out.cell (p := ⟨w.heap.size, 0, none⟩) HkO.out.lt).trans c0; have d1 := (HB1.out.cell (p := ⟨w.heap.size, 1, none⟩) HkO.out.lt).trans c1; have dx0 := (Hx1.out.cell (p := ⟨w.heap.size, 0, none⟩) (Nat.lt_of_lt_of_le HkO.out.lt hB1)).trans d0; have dx1 := (Hx1.out.cell (p := ⟨w.heap.size, 1, none⟩) (Nat.lt_of_lt_of_le HkO.out.lt hB1)).trans d1; clear o1' b1)
            | (go_simp; go_at_call 92; refine (l02Copy_c _ rows _ (HGd.out _ (by exact ⟨Hbox.out.os, Hbox.out.tape, Hbox.out.output, Hbox.out.size, Hbox.out.block⟩)) hml HR.out).mono ?_; rintro e w1 ⟨v1, rfl, o1', b1⟩; obtain ⟨r1, r2, r3, rfl⟩ := o1'.shape; have Hk1 := Lib.hid (show Blk w1 wo.heap.size #[.slice y1 y2 y3] 24 from Hkb.out.keep ⟨b1.os, b1.tape, b1.output, b1.size, b1.block⟩); have HB1 := Lib.hid (show Below wo.heap.size wo w1 from Hbox.out.trans (Below.mono ⟨b1.os, b1.tape, b1.output, b1.size, b1.block⟩ Hbox.out.size)); have Ho1 := Lib.hid ((rOwn (rOwn rIntV)).mono (S' := Iv wo.heap.size w1.heap.size) (fun b hb => ⟨Nat.le_trans (Hbox.out.size) hb.1, hb.2⟩) o1'); have hB1 := HB1.out.size; have hl1 : wl.heap.size ≤ w1.heap.size := Nat.le_trans hso hB1; have Hx1 := Lib.hid (Below.pureAlloc w1 (.cells #[.slice y1 y2 y3] 24)); have hl1b := Nat.le_trans hl1 Hx1.out.size; have Hr1 := Lib.hid ((rOwn rIntV).same (sameOn_below HB1.out fun b hb => by have := (HT.out b hb).1.2; omega) Hr2.out); have Ho1b := Lib.hid ((rOwn (E := 24) (rOwn (E := 3) rIntV)).same (sameOn_below Hx1.out fun b hb => hb.2) Ho1.out); have Hr1b := Lib.hid ((rOwn rIntV).same (sameOn_below Hx1.out fun b hb => by have := (HT.out b hb).1.2; omega) Hr1.out); have d0 := (HB1.out.cell (p := ⟨w.heap.size, 0, none⟩) HkO.out.lt).trans c0; have d1 := (HB1.out.cell (p := ⟨w.heap.size, 1, none⟩) HkO.out.lt).trans c1; have dx0 := (Hx1.out.cell (p := ⟨w.heap.size, 0, none⟩) (Nat.lt_of_lt_of_le HkO.out.lt hB1)).trans d0; have dx1 := (Hx1.out.cell (p := ⟨w.heap.size, 1, none⟩) (Nat.lt_of_lt_of_le HkO.out.lt hB1)).trans d1; clear o1' b1)
            | (go_simp; go_at_call 119; refine (IH.out _ _ _ _ (rows ++ [l]) S' (out ++ solvesTo R C f rows L k) _ (HA3.out _ ⟨B3.out.os, B3.out.tape, B3.out.output, B3.out.size, B3.out.block⟩) (HB3.out _ ⟨B3.out.os, B3.out.tape, B3.out.output, B3.out.size, B3.out.block⟩) (HS3.out _ hB3).1 (HS3.out _ hB3).2 (Hs3.out _ ⟨B3.out.os, B3.out.tape, B3.out.output, B3.out.size, B3.out.block⟩) Hd3.out Hbr3.out Hlen3.out Hol.out).mono ?_; rintro e w4 ⟨v4, S4, rfl, o4, h4, O4⟩; obtain ⟨t1, t2, t3, rfl⟩ := o4.shape; have Ho4 := Lib.hid o4; have H4 := Lib.hid h4; have HO4 := Lib.hid (show Only S' w3 w4 from ⟨O4.os, O4.tape, O4.output, O4.size, O4.block⟩); clear o4 h4 O4))
          all_goals go_wp2
          all_goals go_roundw
          all_goals first
            | (simp [intOf]; omega)
            | exact ⟨k + 1, by omega, by go_num, S4, by rw [Hst7.out, ← List.append_assoc]; exact Ho4.out, fun b hb => ⟨(H4.out b hb).1.elim (fun h => (HS'.out b h).1) (fun h => .inr (by omega)), (H4.out b hb).2⟩, (Ho.out.trans' (Only.of_pure B3.out _)).trans' (HO4.out.mono fun b hb _ => (HS'.out b hb).1)⟩
        · have Hfin := Lib.hid (show solvesTo R C f rows L k = solves R C (f + 1) rows from solvesTo_all (by rw [HL.out, Hrs.out]) (by omega))
          have hdk : decide ((k : Int) < (L.length : Int)) = false := by simp; omega
          go_wp2
          go_ret
          refine ⟨_, S', rfl, by rw [← Hfin.out]; exact Hs.out, fun b hb => ⟨(HS'.out b hb).1.imp id (fun h => by omega), (HS'.out b hb).2⟩, (Only.of_pure HbwL.out S).trans' (Ho.out.mono fun b hb _ => .inl hb)⟩
end Go.Proofs.YtliejhmlcdjpcaaDoor

namespace Go.Proofs.YtliejhmlcdjpcaaDoor
open Go.RowKit

theorem cells_rect : ∀ (m : List (List Int)) (c : Nat), (∀ row ∈ m, row.length = c) → cells m = m.length * c := by
  intro m c
  induction m with
  | nil => intro _; simp [cells]
  | cons a m ih =>
    intro hm
    have e : cells (a :: m) = a.length + cells m := by simp [cells]
    rw [e, ih (fun row hr => hm row (List.mem_cons_of_mem _ hr)), hm a (by simp), List.length_cons, Nat.succ_mul]
    omega
theorem cells3_le {g : List (List (List Int))} {n : Nat} (h : ∀ m ∈ g, cells m ≤ n) : cells3 g ≤ g.length * n := by
  unfold cells3
  induction g with
  | nil => simp
  | cons a g ih =>
    have h1 := h a (by simp)
    have h2 := ih (fun m hm => h m (List.mem_cons_of_mem _ hm))
    rw [List.map_cons, List.sum_cons, List.length_cons, Nat.succ_mul]; omega
theorem solutions_bd (R C : List (List Int)) : (solutions R C).length ≤ 7776 ∧ cells3 (solutions R C) ≤ 194400 ∧ ∀ r ∈ solutions R C, r.length ≤ 1048576 := by
  have h1 := solutions_len R C
  have h2 : ∀ m ∈ solutions R C, m.length ≤ 5 ∧ cells m ≤ 25 := by
    intro m hm
    obtain ⟨hs, hok⟩ := solutions_shape m hm
    obtain ⟨-, a2, -, a4⟩ := puzzleOk_bd hok
    refine ⟨by rw [hs.1]; exact a2, ?_⟩
    rw [cells_rect m C.length (fun row hr => (hs.2 row hr).1), hs.1]
    exact Nat.mul_le_mul a2 a4
  refine ⟨h1, ?_, fun r hr => by have := (h2 r hr).1; omega⟩
  have h3 := cells3_le (n := 25) fun m hm => (h2 m hm).2
  omega
set_option maxRecDepth 100000 in
set_option maxHeartbeats 2000000 in
theorem SolvePuzzle_s (a b : Value) (R C : List (List Int)) (w : World) (h1 : Grid w a R) (h2 : Grid w b C) :
    Calls Tryd.prog 83 #[.agg #[a, b]] w fun e w' => ∃ v', e = .returned (.tuple #[v', .bool (puzzleOk R C)]) ∧ Own 23 (Own 24 (Own 3 IntV)) (Iv w.heap.size w'.heap.size) w' v' (solutions R C) ∧ Below w.heap.size w w' := by
  have H1 := Lib.hid h1
  have H2 := Lib.hid h2
  obtain ⟨aa, ca, rfl, -⟩ := id h1
  obtain ⟨ab, cb, rfl, -⟩ := id h2
  obtain ⟨W1, hW1⟩ : ∃ W1, W1 = w.alloc (.cells #[.slice aa R.length ca, .slice ab C.length cb] 56) := ⟨_, rfl⟩
  have bW1 : Below w.heap.size w W1 := by rw [hW1]; exact Below.pureAlloc _ _
  have zW1 : W1.heap.size = w.heap.size + 1 := by rw [hW1]; simp
  have kB : Blk W1 w.heap.size #[.slice aa R.length ca, .slice ab C.length cb] 56 := by rw [hW1]; exact Blk.new _ _ _
  have c0 : W1.cell? ⟨w.heap.size, 0, none⟩ = some (.slice aa R.length ca) := kB.cell 0
  have c1 : W1.cell? ⟨w.heap.size, 1, none⟩ = some (.slice ab C.length cb) := kB.cell 1
  have G1 := Lib.hid (h1.keep bW1)
  have G2 := Lib.hid (h2.keep bW1)
  have HbW1 := Lib.hid bW1
  have HkB := Lib.hid kB
  have HzW1 := Lib.hid zW1
  clear h1 h2 bW1 zW1 kB
  cases hok : puzzleOk R C
  · have Hr := Lib.hid (solutions_no hok)
    have Hok := Lib.hid hok
    clear hok
    go_enter Tryd.func83, Tryd.ntmps83
    subst hW1
    go_wp2_with (fail)
    refine (PuzzleOk_s _ _ _ _ _ G1.out G2.out).mono ?_
    rintro e w2 ⟨rfl, hw2⟩
    have b2 := HbW1.out.trans_pure (show Below _ _ w2 from by rw [hw2]; exact Below.pureAlloc _ _) (Nat.le_refl _)
    rw [Hok.out]
    clear hw2 c0 c1
    go_wp2
    go_ret2
    exact ⟨_, rfl, by rw [Hr.out]; exact Own.nil _ _ _ _, b2⟩
  obtain ⟨hr1, hr5, hc1, hc5⟩ := puzzleOk_bd hok
  have Hr := Lib.hid (solutions_yes hok)
  have Hok := Lib.hid hok
  clear hok
  go_enter Tryd.func83, Tryd.ntmps83
  subst hW1
  go_wp2_with (fail)
  refine (PuzzleOk_s _ _ _ _ _ G1.out G2.out).mono ?_
  rintro e w2 ⟨rfl, hw2⟩
  have b2 : Below (w.alloc (.cells #[.slice aa R.length ca, .slice ab C.length cb] 56)).heap.size (w.alloc (.cells #[.slice aa R.length ca, .slice ab C.length cb] 56)) w2 := by rw [hw2]; exact Below.pureAlloc _ _
  rw [Hok.out]
  clear hw2 c0 c1
  have HbW2 := Lib.hid (HbW1.out.trans_pure b2 (Nat.le_refl _))
  have HkB2 := Lib.hid (HkB.out.keep b2)
  have d0 : w2.cell? ⟨w.heap.size, 0, none⟩ = some (.slice aa R.length ca) := HkB2.out.cell 0
  have d1 : w2.cell? ⟨w.heap.size, 1, none⟩ = some (.slice ab C.length cb) := HkB2.out.cell 1
  have hlow : w.heap.size ≤ w2.heap.size := HbW2.out.size
  have hp6 := pow6_le hr5
  have Hcall := Lib.hid (l14All_c (n0 := w.heap.size) hr5 hc1 hc5 R.length (.slice aa R.length ca) (.slice ab C.length cb) (.slice none 0 0) (.slice none 0 0) [] (fun _ => False) [] w2
    ((rSl (rSl rIntV)).same (sameOn_below HbW2.out fun _ h => h) H1.out) ((rSl (rSl rIntV)).same (sameOn_below HbW2.out fun _ h => h) H2.out) hlow (fun _ h => h.elim) (Own.nil _ _ _ _)
    ⟨none, 0, rfl, by simp, by simp, fun _ => rfl, fun h => by simp at h⟩ (fun row hr => by cases hr) (by simp) (by simp; omega))
  clear b2 hp6
  go_wp2_with (fail)
  refine (Hcall.out).mono ?_
  rintro e w3 ⟨v3, S3, rfl, o3, h3, O3⟩
  obtain ⟨t1, t2, t3, rfl⟩ := o3.shape
  have Ho3 := Lib.hid o3
  have Hh3 := Lib.hid h3
  have HO3 := Lib.hid O3
  clear o3 h3 O3 d0 d1
  go_wp2
  go_ret2
  refine ⟨_, rfl, ?_, HbW2.out.trans_pure (HO3.out.below (Nat.le_refl _) fun _ h => h.elim) (Nat.le_refl _)⟩
  rw [Hr.out]
  have h := Ho3.out
  rw [List.nil_append] at h
  exact (rOwn (rOwn (rOwn rIntV))).mono (fun b hb => ⟨by have := (Hh3.out b hb).1; simp at this; omega, (Hh3.out b hb).2⟩) h
end Go.Proofs.YtliejhmlcdjpcaaDoor

/- Contract: the visit of all images that switches reach, in the reference. -/
import Derived.Test.YtlmjpmdkifoekaaDoorP6
namespace Go.Proofs.YtlmjpmdkifoekaaDoor
open Go.RowKit

theorem infoWay : (Tryd.prog.info? 57).map (fun i => (i.zero, i.size, i.bytes)) = some (some (.slice none 0 0), 1, 24) := by kernel_rfl
theorem ownSw_lit {W : World} {g B : Nat} (h : Blk W g #[] 62) (hB : B ≤ g) : OwnSw B W (.slice (some ⟨g, 0, none⟩) 0 0) [] := ⟨by simp [swCs], .inr ⟨g, 0, #[], rfl, hB, h, Nat.le_refl _, by simp [maxLen], by simp, by simp [swCs]⟩⟩
theorem SwBlk.box {W : World} {g : Nat} {sp : Sw} (h : Blk W g (swC sp).toArray 62) : SwBlk W g [sp] := ⟨_, _, h, fun k s hk j u hj => by
  cases k with
  | zero => simp at hk; subst hk; simpa using hj
  | succ k => simp at hk⟩
/-- the memory of the visit -/
structure VSt (w wr : World) (lv wv : Value) (acc : List Node) : Prop where
  l : ImgL w.heap.size (fun _ => False) wr lv (acc.map Prod.fst)
  y : WayL w.heap.size wr wv (acc.map Prod.snd)
  bel : Below w.heap.size w wr
theorem VSt.pure {w wr w' : World} {lv wv : Value} {acc : List Node} (h : VSt w wr lv wv acc) (hb : Below wr.heap.size wr w') : VSt w w' lv wv acc := ⟨h.l.pure hb, h.y.pure hb, h.bel.trans_pure hb (Nat.le_refl _)⟩
set_option maxRecDepth 100000 in
set_option maxHeartbeats 6400000 in
theorem l06Visit_c (v : Value) (m : List (List Int)) (r c : Nat) (w : World) (hv : Grid w v m) (hs : Shape r c m) (hr1 : 1 ≤ r) (hr4 : r ≤ 4) (hc1 : 1 ≤ c) (hc4 : c ≤ 4) :
    Calls Tryd.prog 108 #[v] w fun e w' => ∃ (lv wv : Value) (acc : List Node) (j : Nat), e = .returned (.tuple #[lv, wv]) ∧ BInv r c m j acc ∧ acc.length ≤ j ∧ acc.length ≤ 33554432 ∧ VSt w w' lv wv acc := by
  have hr5 : r ≤ 5 := by omega
  have hc5 : c ≤ 5 := by omega
  obtain ⟨NB, hok⟩ := srch_ok hs hs hr1 hr4 hc1 hc4 rfl rfl
  have Hok := Lib.hid hok
  have hnb := hok.nb
  have Hv := Lib.hid hv
  obtain ⟨a, cap, rfl, -⟩ := hv
  clear hok
  go_enter Tryd.func108, Tryd.ntmps108
  go_wp2_with (fail)
  refine (l02Copy_c _ m _ Hv.out (by rw [hs.1]; omega) (fun x hx => by rw [(hs.2 x hx).1]; omega)).mono ?_
  rintro e w1 ⟨v1, rfl, o1, b1⟩
  have HI1 := Lib.hid (show Img w.heap.size w1 v1 m from Img.of_own o1)
  obtain ⟨a1, a2, a3, rfl⟩ := o1.shape
  have hs1 := b1.size
  have hb1 := Below.pureAlloc w1 (.cells #[.slice a1 a2 a3] 23)
  obtain ⟨w2, hw2⟩ : ∃ w2, w2 = w1.alloc (.cells #[.slice a1 a2 a3] 23) := ⟨_, rfl⟩
  have hw2s : w2.heap.size = w1.heap.size + 1 := by rw [hw2]; simp
  have HL2 := Lib.hid (show ImgL w.heap.size (fun _ => False) w2 (.slice (some ⟨w1.heap.size, 0, none⟩) 1 1) [m] from by rw [hw2]; exact ImgL.start HI1.out rfl hs1 (fun _ _ h => h))
  rw [← hw2] at hb1
  have Hb2 := Lib.hid (b1.trans_pure hb1 (Nat.le_refl _))
  have Hw2 := Lib.hid hw2
  have Hb3 := Lib.hid (show Below w2.heap.size w2 ((w2.alloc (.cells #[] 62)).alloc (.cells #[.slice (some ⟨w2.heap.size, 0, none⟩) 0 0] 57)) from (Below.pureAlloc _ _).trans_pure (Below.pureAlloc _ _) (Nat.le_refl _))
  have Hst0 := Lib.hid (show VSt w ((w2.alloc (.cells #[] 62)).alloc (.cells #[.slice (some ⟨w2.heap.size, 0, none⟩) 0 0] 57)) (.slice (some ⟨w1.heap.size, 0, none⟩) 1 1) (.slice (some ⟨w2.heap.size + 1, 0, none⟩) 1 1) [(m, [])] from ⟨HL2.out.pure Hb3.out, WayL.start Hb2.out.size, Hb2.out.trans_pure Hb3.out (Nat.le_refl _)⟩)
  have Hbi0 := Lib.hid (binv_start r c m)
  have Hw2s := Lib.hid hw2s
  clear o1 hw2 hb1 hw2s
  go_wp2
  rw [← Hw2.out]
  go_loopw [4, 5, 6, 8, 9] (fun lv wv iv _ _ wr => ∃ (j : Nat) (acc : List Node), j ≤ NB ∧ iv = .int .i64 j ∧ Hid (BInv r c m j acc) ∧ Hid (VSt w wr lv wv acc)) (fun _ _ iv _ _ _ => NB + 1 - (intOf iv).toNat)
  case atStart => exact ⟨0, [(m, [])], Nat.zero_le _, rfl, Hbi0, by rw [Hw2s.out] at Hst0; exact Hst0⟩
  case round =>
    clear Hbi0 Hst0
    obtain ⟨j, acc, hj, rfl, Hbi, Hst⟩ := hrel
    obtain ⟨wo, rfl⟩ : ∃ wo : World, wo = wr := ⟨_, rfl⟩
    obtain ⟨la, lc, rfl⟩ := Hst.out.l.shape
    obtain ⟨ya, yk, yc, rfl, hyk⟩ := Hst.out.y.shape
    rw [List.length_map] at hyk
    obtain ⟨L, hL⟩ : ∃ L, L = (acc.map Prod.fst).length := ⟨_, rfl⟩
    rw [← hL] at Hst ⊢
    rw [List.length_map] at hL
    have hLn : L ≤ NB := by rw [hL]; exact Hok.out.boundI _ _ Hbi.out
    have HL := Lib.hid hL
    have hyL : yk = L := by omega
    subst hyL
    clear hL hyk
    by_cases hlt : j < yk
    · obtain ⟨e0, he0⟩ : ∃ e0, acc[j]? = some e0 := ⟨_, List.getElem?_eq_getElem (by rw [← HL.out]; exact hlt)⟩
      have hsh0 := acc_shape hs Hbi.out.path e0 (List.mem_of_getElem? he0)
      have hgs0 : (acc.map Prod.fst)[j]? = some e0.1 := by rw [List.getElem?_map, he0]; rfl
      obtain ⟨qb, qc', u, he, hqb, hcu, hiu⟩ := Hst.out.l.at hgs0
      obtain ⟨rfl, -⟩ : la = some ⟨qb, 0, none⟩ ∧ lc = qc' := by
        simp only [Value.slice.injEq] at he
        exact ⟨he.1, he.2.2⟩
      have Hiu := Lib.hid hiu
      obtain ⟨ua, uc, rfl, -⟩ := hiu.grid
      have Hmid := Lib.hid (Hbi.out.mid he0)
      have hjN : j + 1 ≤ NB := by omega
      have Hmem := Lib.hid (show ∀ s ∈ switchesOf r c e0.1, SwOk r c e0.1 s from fun s hs => switchesOf_mem.1 hs)
      have hssl := switchesOf_len4 hr4 hc4 e0.1
      have Hsrt := Lib.hid (switchesOf_sorted hr5 hc5 e0.1)
      obtain ⟨ss, hss⟩ : ∃ ss, ss = switchesOf r c e0.1 := ⟨_, rfl⟩
      rw [← hss] at Hmem hssl Hsrt
      have Hss := Lib.hid hss
      clear he he0 hiu hgs0 hss
      go_wp2_with (fail)
      refine (SwitchesOf_s _ e0.1 r c _ Hiu.out.grid hsh0 hr1 hr5 hc1 hc5).mono ?_
      rintro e wS ⟨vs, rfl, oS, bS⟩
      rw [← Hss.out] at oS
      have HSw := Lib.hid (show 0 < ss.length → ∃ g cap, vs = .slice (some ⟨g, 0, none⟩) ss.length cap ∧ wo.heap.size ≤ g ∧ SwBlk wS g ss from fun h => oS.blk h)
      obtain ⟨sa, sc, rfl⟩ := oS.shape
      obtain ⟨N, hN⟩ : ∃ N, N = ss.length := ⟨_, rfl⟩
      rw [← hN] at hssl HSw ⊢
      have HN := Lib.hid hN
      have HstS := Lib.hid (Hst.out.pure bS)
      clear hN oS
      go_wp2
      clear hcu
      go_loopw [4, 5, 8, 9, 27] (fun lv wv _ _ i wr => ∃ (k : Nat) (acc : List Node), k ≤ N ∧ i = .int .i64 k ∧ Hid (BMid r c m j e0 (ss.take k) acc) ∧ Hid (VSt w wr lv wv acc) ∧ Hid (∀ g, SwBlk wS g ss → SwBlk wr g ss)) (fun _ _ _ _ i _ => N - (intOf i).toNat)
      case atStart => exact ⟨0, acc, Nat.zero_le _, rfl, Hmid, HstS, Lib.hid fun _ h => h⟩
      case round =>
        clear Hmid HstS Hst Hbi HL hlt Hiu
        obtain ⟨k, acc, hk, rfl, Hmid, Hst, Hkeep⟩ := hrel
        obtain ⟨wi, rfl⟩ : ∃ wi : World, wi = wr := ⟨_, rfl⟩
        obtain ⟨la, lc, rfl⟩ := Hst.out.l.shape
        obtain ⟨ya, yk, yc, rfl, hyk⟩ := Hst.out.y.shape
        rw [List.length_map] at hyk
        obtain ⟨L, hL⟩ : ∃ L, L = (acc.map Prod.fst).length := ⟨_, rfl⟩
        rw [← hL] at Hst ⊢
        have HL2 := Lib.hid hL
        rw [List.length_map] at hL
        have hLn : L ≤ NB := by rw [hL]; exact Hok.out.boundM _ _ _ _ Hmid.out
        have HL := Lib.hid hL
        have hyL : yk = L := by omega
        subst hyL
        clear hL hyk
        by_cases hltk : k < N
        · obtain ⟨sp, hsp⟩ : ∃ sp, ss[k]? = some sp := ⟨_, List.getElem?_eq_getElem (by rw [← HN.out]; exact hltk)⟩
          have hsok := Hmem.out sp (List.mem_of_getElem? hsp)
          obtain ⟨g, cap, he, hg1, hblk⟩ := HSw.out (by omega)
          obtain ⟨rfl, -⟩ : sa = some ⟨g, 0, none⟩ ∧ sc = cap := by
            simp only [Value.slice.injEq] at he
            exact ⟨he.1, he.2.2⟩
          have hblk := Hkeep.out g hblk
          have hgl := hblk.lt
          have c0 := hblk.cells hsp (j := 0) (u := .int .i64 sp.1) rfl
          have c1 := hblk.cells hsp (j := 1) (u := .int .i64 sp.2.1) rfl
          have c2 := hblk.cells hsp (j := 2) (u := .int .i64 sp.2.2.1) rfl
          have c3 := hblk.cells hsp (j := 3) (u := .int .i64 sp.2.2.2) rfl
          rw [Nat.add_zero] at c0
          have hgs0 : (acc.map Prod.fst)[j]? = some e0.1 := by rw [List.getElem?_map, Hmid.out.at0]; rfl
          have hjL : j < yk := by
            have := (List.getElem?_eq_some_iff.1 hgs0).1
            rw [List.length_map] at this
            rw [HL.out]; exact this
          obtain ⟨qb, qc', u, he2, hqb, hcu, hiu⟩ := Hst.out.l.at hgs0
          obtain ⟨rfl, -⟩ : la = some ⟨qb, 0, none⟩ ∧ lc = qc' := by
            simp only [Value.slice.injEq] at he2
            exact ⟨he2.1, he2.2.2⟩
          have Hiu := Lib.hid hiu
          obtain ⟨ua, uc, rfl, -⟩ := hiu.grid
          have HU := Lib.hid (show ∀ w', Below wi.heap.size wi w' → Grid w' _ e0.1 from fun w' hb => (Hiu.out.pure hb).grid)
          have Hbox := Lib.hid (Below.pureAlloc wi (.cells (swC sp).toArray 62))
          have Hbk := Lib.hid (Blk.new wi (swC sp).toArray 62)
          have hshx := applyS_shape hsh0 hsok
          have Hsok := Lib.hid hsok
          have Hsp := Lib.hid hsp
          clear he he2 hiu hblk hgs0 hsok hsp
          go_wp2
          go_region_with (go_at_call 84; refine (l06Apply_c _ e0.1 r c sp _ (HU.out _ (by exact ⟨Hbox.out.os, Hbox.out.tape, Hbox.out.output, Hbox.out.size, Hbox.out.block⟩)) hsh0 hr1 hr5 hc1 hc5 Hsok.out).mono ?_; rintro e u1 ⟨x1, rfl, q1, d1⟩)
          all_goals
            have hd : Below wi.heap.size wi u1 := Hbox.out.trans_pure (by exact ⟨d1.os, d1.tape, d1.output, d1.size, d1.block⟩) (Nat.le_refl _)
            have Hst1 := Lib.hid (Hst.out.pure hd)
            have HX := Lib.hid (show Img w.heap.size u1 x1 (applyS e0.1 sp) from Img.of_own q1)
            obtain ⟨xa, xn, xc, rfl⟩ := q1.shape
            have Hkeep1 := Lib.hid (show ∀ g, SwBlk wS g ss → SwBlk u1 g ss from fun g h2 => (Hkeep.out g h2).pure hd)
            have hacc := acc_shape hs Hmid.out.path
            have Hstep := Lib.hid (show BMid r c m j e0 (ss.take (k + 1)) (proc1 e0 acc sp) from by
              rw [List.take_add_one, Hsp.out]
              refine Hmid.out.step Hsok.out fun s1 hs1 => ?_
              obtain ⟨i, hi, e⟩ := List.getElem_of_mem hs1
              rw [List.getElem_take] at e
              rw [List.length_take] at hi
              obtain ⟨hk1, hk2⟩ := List.getElem?_eq_some_iff.1 Hsp.out
              have := List.pairwise_iff_getElem.1 Hsrt.out i k (by omega) hk1 (by omega)
              rw [e, hk2] at this
              exact this)
            have Hbk1 := Lib.hid (Hbk.out.keep (by exact ⟨d1.os, d1.tape, d1.output, d1.size, d1.block⟩))
            have hgl1 : wi.heap.size < u1.heap.size := Hbk1.out.lt
            have hu1 := hd.size
            clear q1 d1 hd c0 c1 c2 c3
            go_wp2_with (fail)
            refine (l06Find_c _ _ (acc.map Prod.fst) (applyS e0.1 sp) _ (by rw [← HL2.out] at *; exact Hst1.out.l.grids) HX.out.grid).mono ?_
            rintro e u2 ⟨z, rfl, hz, b2⟩
            have Hst2 := Lib.hid (Hst1.out.pure b2)
            have HX2 := Lib.hid (HX.out.pure b2)
            have Hkeep2 := Lib.hid (show ∀ g, SwBlk wS g ss → SwBlk u2 g ss from fun g h2 => (Hkeep1.out g h2).pure b2)
            rcases hz with ⟨hz1, hz2⟩ | ⟨kz, hz1, hz2⟩
            · have hzd : decide (z < 0) = true := by rw [decide_eq_true_eq]; omega
              have hzd2 : z < 0 := by omega
              have Hnew := Lib.hid (show BMid r c m j e0 (ss.take (k + 1)) (acc ++ [(applyS e0.1 sp, e0.2 ++ [sp])]) from by
                have h := Hstep.out
                unfold proc1 at h
                rwa [if_neg (by
                  intro h1
                  obtain ⟨x, hx1, hx2⟩ := List.any_eq_true.1 h1
                  rw [decide_eq_true_eq] at hx2
                  exact hz2 x.1 (List.mem_map_of_mem hx1) hx2)] at h)
              have Hbk2 := Lib.hid (Hbk1.out.keep b2)
              clear hz1 hz2
              obtain ⟨us, hq1, hq2, hq3⟩ := Hst2.out.l.q
              have Hq1 := Lib.hid hq1
              have hus : us.length < 1099511627776 := by rw [hq2, ← HL2.out]; omega
              have hwu := Hst2.out.bel.size
              have HB2 := Lib.hid Hst2.out.bel
              have Hown := Lib.hid Hst2.out.l.own_not
              clear hq1
              go_wp2_with (first | (at_builtin; (refine wpList_app (w0 := u2) rfl _ _ 45 rfl rAnyV 23 Tryd.underlying45 infoGridP rfl (by decide) (fun x => w.heap.size ≤ x ∧ ¬ False ∧ x < u2.heap.size) (fun _ => False) (fun x => w.heap.size ≤ x ∧ ¬ False) _ (.slice xa xn xc) us (.slice xa xn xc) rfl rfl (by exact Hq1.out) (by exact ⟨rfl, rfl⟩) (fun _ _ h => h) (fun _ h => h.2.2) (fun _ h => h.elim) (fun _ h => ⟨h.1, h.2.1⟩) (fun _ h => h.elim) (fun x hx => ⟨by omega, id⟩) hus ?_); intro v7 w7 o7 ho7) | fail)
              have HL7 := Lib.hid (show ImgL w.heap.size (fun _ => False) w7 v7 (acc.map Prod.fst ++ [applyS e0.1 sp]) from ImgL.push hq2 hq3 (fun x hx => (Hown.out x hx).2.2.2.2) HX2.out o7 ho7)
              have HY7 := Lib.hid (show WayL w.heap.size w7 _ (acc.map Prod.snd) from Hst2.out.y.only ho7 (fun x hx => by
                obtain ⟨arr, ha⟩ := (Hown.out x hx).2.2.2.1
                exact ⟨arr, _, _, ha, by decide, by decide⟩))
              have HB7 := Lib.hid (show Below w.heap.size w w7 from HB2.out.trans (ho7.below HB2.out.size fun x hx => (Hown.out x hx).1))
              have Hbk7 := Lib.hid (show Blk w7 wi.heap.size (swC sp).toArray 62 from Hbk2.out.only ho7 (fun hx => by
                obtain ⟨arr, ha⟩ := (Hown.out _ hx).2.2.2.1
                rw [show u2.heap[wi.heap.size]? = some (.cells (swC sp).toArray 62 (0, 0)) from Hbk2.out] at ha
                simp at ha))
              have Hkeep7 := Lib.hid (show ∀ g, SwBlk wS g ss → SwBlk w7 g ss from fun g h2 => (Hkeep2.out g h2).only ho7 (fun e => by
                obtain ⟨arr, ha⟩ := (Hown.out g e).2.2.2.1
                exact (Hkeep2.out g h2).not_type ha (by decide) rfl))
              have hps : (acc.map Prod.snd)[j]? = some e0.2 := by rw [List.getElem?_map, Hmid.out.at0]; rfl
              obtain ⟨wb, wc', pb, pc, hwe, hwb, hwc, hpb⟩ := HY7.out.at hps
              obtain ⟨rfl, -⟩ : ya = some ⟨wb, 0, none⟩ ∧ yc = wc' := by
                simp only [Value.slice.injEq] at hwe
                exact ⟨hwe.1, hwe.2.2⟩
              have Hpb := Lib.hid hpb
              have hpl := Hmid.out.len j e0 Hmid.out.at0
              have k0 : w7.cell? ⟨wi.heap.size, 0, none⟩ = some (.int .i64 sp.1) := Hbk7.out.cell 0
              have k1 : w7.cell? ⟨wi.heap.size, 1, none⟩ = some (.int .i64 sp.2.1) := Hbk7.out.cell 1
              have k2 : w7.cell? ⟨wi.heap.size, 2, none⟩ = some (.int .i64 sp.2.2.1) := Hbk7.out.cell 2
              have k3 : w7.cell? ⟨wi.heap.size, 3, none⟩ = some (.int .i64 sp.2.2.2) := Hbk7.out.cell 3
              have hbx7 := Hbk7.out.lt
              clear hwe hpb hps
              have hlp : ([] : List Sw).length + e0.2.length < 1073741824 := by rw [List.length_nil]; omega
              have hlp2 : e0.2.length + [sp].length < 1073741824 := by rw [List.length_singleton]; omega
              have Hpb1 := Lib.hid (show SwBlk (w7.alloc (.cells #[] 62)).drew pb e0.2 from (show SwBlk (w7.alloc (.cells #[] 62)) pb e0.2 from Hpb.out.pure (Below.pureAlloc w7 (.cells #[] 62))))
              have Hlit1 := Lib.hid (ownSw_lit (Blk.new w7 #[] 62) (Nat.le_refl w7.heap.size))
              have Hpa1 := Lib.hid (Below.pureAlloc w7 (.cells #[] 62))
              have Hpa2 := Lib.hid (show Below w7.heap.size w7 ((w7.alloc (.cells #[] 62)).alloc (.cells (swC sp).toArray 62)) from (Below.pureAlloc _ _).trans_pure (Below.pureAlloc _ _) (Nat.le_refl _))
              have Hpb2 := Lib.hid (Hpb.out.pure Hpa2.out)
              have Hlit2 := Lib.hid (Hlit1.out.keep (Below.pureAlloc _ (.cells (swC sp).toArray 62)))
              have Hbb2 := Lib.hid (show Blk ((w7.alloc (.cells #[] 62)).alloc (.cells (swC sp).toArray 62)) (w7.heap.size + 1) (swC sp).toArray 62 from by
                have h := Blk.new (w7.alloc (.cells #[] 62)) (swC sp).toArray 62
                rwa [show (w7.alloc (.cells #[] 62)).heap.size = w7.heap.size + 1 from by simp] at h)
              have Hpa3 := Lib.hid (show Below w7.heap.size w7 ((w7.alloc (.cells (swC sp).toArray 62)).alloc (.cells #[] 62)) from (Below.pureAlloc _ _).trans_pure (Below.pureAlloc _ _) (Nat.le_refl _))
              have Hpb3 := Lib.hid (Hpb.out.pure Hpa3.out)
              have Hlit3 := Lib.hid (show OwnSw w7.heap.size ((w7.alloc (.cells (swC sp).toArray 62)).alloc (.cells #[] 62)) (.slice (some ⟨w7.heap.size + 1, 0, none⟩) 0 0) [] from ownSw_lit (by
                have h := Blk.new (w7.alloc (.cells (swC sp).toArray 62)) #[] 62
                rwa [show (w7.alloc (.cells (swC sp).toArray 62)).heap.size = w7.heap.size + 1 from by simp] at h) (by omega))
              have Hbb3 := Lib.hid (show Blk ((w7.alloc (.cells (swC sp).toArray 62)).alloc (.cells #[] 62)) w7.heap.size (swC sp).toArray 62 from (Blk.new w7 (swC sp).toArray 62).keep (Below.pureAlloc _ _))
              obtain ⟨uw, hw1, hw2, hw3⟩ := HY7.out.q
              have Hw1 := Lib.hid hw1
              have Hw3 := Lib.hid hw3
              have huw : uw.length < 1099511627776 := by rw [hw2, List.length_map, ← HL.out]; omega
              have Huw := Lib.hid hw2
              have Hwt := Lib.hid (fun x hx => ownAny_type Hw1.out x hx)
              have hw70 := HB7.out.size
              clear hw1 hw3
              go_region_law (first
                | (refine step_appSwN (v := .slice (some ⟨w7.heap.size, 0, none⟩) 0 0) (l := []) (k := e0.2) (gb := pb) (c := pc) rfl (.tmp 46) (.tmp 50) 57 rfl Tryd.underlying57 infoSw rfl (by decide) w7.heap.size (by simp [Act.eval]) (by simp [Act.eval]) (by with_reducible exact Hpb1.out) (by exact Hlit1.out) hlp (by exact Hpa1.out.size) ?_; intro v8 w8 o8 h8; rw [List.nil_append] at o8; have Ho8 := Lib.hid o8; have Hd8 := Lib.hid (show Below w7.heap.size w7 w8 from Hpa1.out.trans ((show Only _ (w7.alloc (.cells #[] 62)) w8 from ⟨h8.os, h8.tape, h8.output, h8.size, h8.block⟩).below Hpa1.out.size fun b hb => by simp [Value.ownBlock] at hb; omega)); obtain ⟨z1, z2, rfl⟩ := o8.shape; have k80 := (Hd8.out.cell (p := ⟨wi.heap.size, 0, none⟩) hbx7).trans k0; have k81 := (Hd8.out.cell (p := ⟨wi.heap.size, 1, none⟩) hbx7).trans k1; have k82 := (Hd8.out.cell (p := ⟨wi.heap.size, 2, none⟩) hbx7).trans k2; have k83 := (Hd8.out.cell (p := ⟨wi.heap.size, 3, none⟩) hbx7).trans k3; have Hbx8 := Lib.hid (SwBlk.box (Blk.new w8 (swC sp).toArray 62)); have Hpa8 := Lib.hid (Below.pureAlloc w8 (.cells (swC sp).toArray 62)); have Ho8b := Lib.hid (Ho8.out.keep Hpa8.out); have hz8 := Nat.le_trans Hd8.out.size Hpa8.out.size; clear o8 h8)
                | (refine step_appSwN (v := .slice (some ⟨w7.heap.size, 0, none⟩) 0 0) (l := []) (k := e0.2) (gb := pb) (c := pc) rfl (.tmp 46) (.tmp 50) 57 rfl Tryd.underlying57 infoSw rfl (by decide) w7.heap.size (by simp [Act.eval]) (by simp [Act.eval]) (by exact Hpb2.out) (by exact Hlit2.out) hlp (by exact Hpa2.out.size) ?_; intro v8 w8 o8 h8; rw [List.nil_append] at o8; have Ho8 := Lib.hid o8; have Hd8 := Lib.hid (show Below w7.heap.size w7 w8 from Hpa2.out.trans ((show Only _ ((w7.alloc (.cells #[] 62)).alloc (.cells (swC sp).toArray 62)) w8 from ⟨h8.os, h8.tape, h8.output, h8.size, h8.block⟩).below Hpa2.out.size fun b hb => by simp [Value.ownBlock] at hb; omega)); obtain ⟨z1, z2, rfl⟩ := o8.shape; have Hbx82 := Lib.hid ((SwBlk.box Hbb2.out).only (show Only _ ((w7.alloc (.cells #[] 62)).alloc (.cells (swC sp).toArray 62)) w8 from ⟨h8.os, h8.tape, h8.output, h8.size, h8.block⟩) (fun e => by simp [Value.ownBlock] at e)); have hz82 := Hd8.out.size; clear o8 h8)
                | (refine step_appSwN (v := .slice (some ⟨w7.heap.size + 1, 0, none⟩) 0 0) (l := []) (k := e0.2) (gb := pb) (c := pc) rfl (.tmp 46) (.tmp 50) 57 rfl Tryd.underlying57 infoSw rfl (by decide) w7.heap.size (by simp [Act.eval]) (by simp [Act.eval]) (by with_reducible exact Hpb1.out) (by exact Hlit1.out) hlp (by exact Hpa1.out.size) ?_; intro v8 w8 o8 h8; rw [List.nil_append] at o8; have Ho8 := Lib.hid o8; have Hd8 := Lib.hid (show Below w7.heap.size w7 w8 from Hpa1.out.trans ((show Only _ (w7.alloc (.cells #[] 62)) w8 from ⟨h8.os, h8.tape, h8.output, h8.size, h8.block⟩).below Hpa1.out.size fun b hb => by simp [Value.ownBlock] at hb; omega)); obtain ⟨z1, z2, rfl⟩ := o8.shape; have k80 := (Hd8.out.cell (p := ⟨wi.heap.size, 0, none⟩) hbx7).trans k0; have k81 := (Hd8.out.cell (p := ⟨wi.heap.size, 1, none⟩) hbx7).trans k1; have k82 := (Hd8.out.cell (p := ⟨wi.heap.size, 2, none⟩) hbx7).trans k2; have k83 := (Hd8.out.cell (p := ⟨wi.heap.size, 3, none⟩) hbx7).trans k3; have Hbx8 := Lib.hid (SwBlk.box (Blk.new w8 (swC sp).toArray 62)); have Hpa8 := Lib.hid (Below.pureAlloc w8 (.cells (swC sp).toArray 62)); have Ho8b := Lib.hid (Ho8.out.keep Hpa8.out); have hz8 := Nat.le_trans Hd8.out.size Hpa8.out.size; clear o8 h8)
                | (refine step_appSwN (v := .slice (some ⟨w7.heap.size + 1, 0, none⟩) 0 0) (l := []) (k := e0.2) (gb := pb) (c := pc) rfl (.tmp 46) (.tmp 50) 57 rfl Tryd.underlying57 infoSw rfl (by decide) w7.heap.size (by simp [Act.eval]) (by simp [Act.eval]) (by exact Hpb3.out) (by exact Hlit3.out) hlp (by exact Hpa3.out.size) ?_; intro v8 w8 o8 h8; rw [List.nil_append] at o8; have Ho8 := Lib.hid o8; have Hd8 := Lib.hid (show Below w7.heap.size w7 w8 from Hpa3.out.trans ((show Only _ ((w7.alloc (.cells (swC sp).toArray 62)).alloc (.cells #[] 62)) w8 from ⟨h8.os, h8.tape, h8.output, h8.size, h8.block⟩).below Hpa3.out.size fun b hb => by simp [Value.ownBlock] at hb; omega)); obtain ⟨z1, z2, rfl⟩ := o8.shape; have Hbx82 := Lib.hid ((SwBlk.box Hbb3.out).only (show Only _ ((w7.alloc (.cells (swC sp).toArray 62)).alloc (.cells #[] 62)) w8 from ⟨h8.os, h8.tape, h8.output, h8.size, h8.block⟩) (fun e => by simp [Value.ownBlock] at e)); have hz82 := Hd8.out.size; clear o8 h8)
                | (refine step_appSwN (v := .slice z1 e0.2.length z2) (l := e0.2) (k := [sp]) (gb := w7.heap.size + 1) (c := 1) rfl (.tmp 51) (.tmp 53) 57 rfl Tryd.underlying57 infoSw rfl (by decide) w7.heap.size (by simp [Act.eval]) (by simp [Act.eval]) (by exact Hbx82.out) (by exact Ho8.out) hlp2 (by exact hz82) ?_; intro v9 w9 o9 h9; have Ho9 := Lib.hid o9; have Hd9 := Lib.hid (show Below w7.heap.size w7 w9 from Hd8.out.trans (h9.below hz82 fun b hb => (Ho8.out.lt b hb).1)); obtain ⟨y1, y2, rfl⟩ := o9.shape; have Hpa9 := Lib.hid (Below.pureAlloc w9 (.cells #[.slice y1 (e0.2.length + 1) y2] 57)); have Hd10 := Lib.hid (Hd9.out.trans_pure Hpa9.out (Nat.le_refl _)); have Hw9 := Lib.hid ((rOwn rAnyV).same (sameOn_below Hd10.out fun b hb => hb.2) Hw1.out); have hz10 := Hd10.out.size; clear o9 h9)
                | (refine step_appSwN (v := .slice z1 e0.2.length z2) (l := e0.2) (k := [sp]) (gb := w7.heap.size) (c := 1) rfl (.tmp 51) (.tmp 53) 57 rfl Tryd.underlying57 infoSw rfl (by decide) w7.heap.size (by simp [Act.eval]) (by simp [Act.eval]) (by exact Hbx82.out) (by exact Ho8.out) hlp2 (by exact hz82) ?_; intro v9 w9 o9 h9; have Ho9 := Lib.hid o9; have Hd9 := Lib.hid (show Below w7.heap.size w7 w9 from Hd8.out.trans (h9.below hz82 fun b hb => (Ho8.out.lt b hb).1)); obtain ⟨y1, y2, rfl⟩ := o9.shape; have Hpa9 := Lib.hid (Below.pureAlloc w9 (.cells #[.slice y1 (e0.2.length + 1) y2] 57)); have Hd10 := Lib.hid (Hd9.out.trans_pure Hpa9.out (Nat.le_refl _)); have Hw9 := Lib.hid ((rOwn rAnyV).same (sameOn_below Hd10.out fun b hb => hb.2) Hw1.out); have hz10 := Hd10.out.size; clear o9 h9)
                | (refine step_appSwN (v := .slice z1 e0.2.length z2) (l := e0.2) (k := [sp]) (gb := w8.heap.size) (c := 1) rfl (.tmp 51) (.tmp 53) 57 rfl Tryd.underlying57 infoSw rfl (by decide) w7.heap.size (by simp [Act.eval]) (by simp [Act.eval]) (by exact Hbx8.out) (by exact Ho8b.out) hlp2 (by exact hz8) ?_; intro v9 w9 o9 h9; have Ho9 := Lib.hid o9; have Hd9 := Lib.hid (show Below w7.heap.size w7 w9 from (Hd8.out.trans_pure Hpa8.out (Nat.le_refl _)).trans ((show Only _ (w8.alloc (.cells (swC sp).toArray 62)) w9 from ⟨h9.os, h9.tape, h9.output, h9.size, h9.block⟩).below hz8 fun b hb => (Ho8b.out.lt b hb).1)); obtain ⟨y1, y2, rfl⟩ := o9.shape; have Hpa9 := Lib.hid (Below.pureAlloc w9 (.cells #[.slice y1 (e0.2.length + 1) y2] 57)); have Hd10 := Lib.hid (Hd9.out.trans_pure Hpa9.out (Nat.le_refl _)); have Hw9 := Lib.hid ((rOwn rAnyV).same (sameOn_below Hd10.out fun b hb => hb.2) Hw1.out); have hz10 := Hd10.out.size; clear o9 h9)
                | (refine step_app1g (w := w9.alloc (.cells #[.slice y1 (e0.2.length + 1) y2] 57)) (v := .slice (some ⟨wb, 0, none⟩) yk yc) (u := .slice y1 (e0.2.length + 1) y2) (x := .slice y1 (e0.2.length + 1) y2) (gb := w9.heap.size) (c := 1) rfl (.tmp 45) (.tmp 55) 106 rfl rAnyV 57 Tryd.underlying106 infoWay rfl (by decide) (fun x => w.heap.size ≤ x ∧ x < w7.heap.size) (fun _ => False) (by simp [Act.eval]) (by simp [Act.eval]) (by exact (Blk.new w9 #[.slice y1 (e0.2.length + 1) y2] 57).cell 0) (by exact Hw9.out) (by exact ⟨rfl, rfl⟩) (fun _ _ h => h) (fun b h1 => Nat.lt_of_lt_of_le h1.2 hz10) (fun _ h => h.elim) huw ?_; intro v10 w10 o10 h10))
              all_goals
                have hd10s := Hd10.out.size
                have HSW := Lib.hid (show SwHd (w9.alloc (.cells #[.slice y1 (e0.2.length + 1) y2] 57)) (.slice y1 (e0.2.length + 1) y2) (e0.2 ++ [sp]) from by
                  obtain ⟨gq, cq, heq, -, hB⟩ := Ho9.out.blk (by simp)
                  have hl9 : (e0.2 ++ [sp]).length = e0.2.length + 1 := by simp
                  rw [hl9] at heq
                  exact ⟨gq, cq, by rw [hl9]; exact heq, hB.pure Hpa9.out⟩)
                have HW10 := Lib.hid (show WayL w.heap.size w10 v10 (acc.map Prod.snd ++ [e0.2 ++ [sp]]) from WayL.push Huw.out (fun k u p hu hp => by
                  obtain ⟨b, c, e, hB⟩ := Hw3.out k u p hu hp
                  exact ⟨b, c, e, hB.pure Hd10.out⟩) (fun x hx => by
                  obtain ⟨⟨-, hlt⟩, arr, ha⟩ := Hwt.out x hx
                  exact ⟨arr, (Hd10.out.block x hlt).trans ha⟩) HSW.out (fun x hx => ⟨hx.1.elim (fun h => h.1) (fun h => h.elim (fun h => h.elim) (fun h => by omega)), hx.2⟩) o10 h10)
                have hway : ∀ x, Value.ownBlock (.slice (some ⟨wb, 0, none⟩) yk yc) = some x → w.heap.size ≤ x ∧ ∃ arr, (w9.alloc (.cells #[.slice y1 (e0.2.length + 1) y2] 57)).heap[x]? = some (.cells arr 57 (0, 0)) := fun x hx => by
                  obtain ⟨⟨h1, hlt⟩, arr, ha⟩ := Hwt.out x hx
                  exact ⟨h1, arr, (Hd10.out.block x hlt).trans ha⟩
                have HL10 := Lib.hid (show ImgL w.heap.size (fun _ => False) w10 v7 (acc.map Prod.fst ++ [applyS e0.1 sp]) from (HL7.out.pure Hd10.out).only2 h10 (fun x hx e => by
                  obtain ⟨-, -, -, ⟨arr, ha⟩, -⟩ := (HL7.out.pure Hd10.out).own_not x hx
                  obtain ⟨-, arr2, ha2⟩ := hway x e
                  rw [ha] at ha2
                  simp at ha2) (fun x e => by
                  obtain ⟨h1, arr2, ha2⟩ := hway x e
                  exact not_img h1 ha2 (by decide) (by decide)))
                have hsz10 := HB7.out.size
                have Hst10 := Lib.hid (show VSt w w10 v7 v10 (acc ++ [(applyS e0.1 sp, e0.2 ++ [sp])]) from ⟨by rw [List.map_append]; exact HL10.out, by rw [List.map_append]; exact HW10.out, (HB7.out.trans_pure Hd10.out (Nat.le_refl _)).trans (h10.below (Nat.le_trans hsz10 hd10s) fun x e => (hway x e).1)⟩)
                have Hkeep10 := Lib.hid (show ∀ g, SwBlk wS g ss → SwBlk w10 g ss from fun g h2 => ((Hkeep7.out g h2).pure Hd10.out).only h10 (fun e => by
                  obtain ⟨-, arr2, ha2⟩ := hway g e
                  exact ((Hkeep7.out g h2).pure Hd10.out).not_type ha2 (by decide) rfl))
                clear hway o10 h10 k0 k1 k2 k3 hwc hcu
                go_wp2
                go_roundw
                case rel => exact ⟨k + 1, _, by omega, by go_num, Hnew, Hst10, Hkeep10⟩
                case measure => simp [intOf]; omega
            · have hzd : decide (z < 0) = false := by rw [decide_eq_false_iff_not]; omega
              have hzd2 : ¬ z < 0 := by omega
              have Hp := Lib.hid (show BMid r c m j e0 (ss.take (k + 1)) acc from by
                have h := Hstep.out
                unfold proc1 at h
                rwa [if_pos (List.any_eq_true.2 (by
                  obtain ⟨x, hx1, hx2⟩ := List.mem_map.1 (List.mem_of_getElem? hz2)
                  exact ⟨x, hx1, by rw [decide_eq_true_eq]; exact hx2⟩))] at h)
              clear hz1 hz2
              go_wp2
              go_roundw
              case rel => exact ⟨k + 1, acc, by omega, by go_num, Hp, Hst2, Hkeep2⟩
              case measure => simp [intOf]; omega
        · obtain rfl : k = N := by omega
          have Hbi2 := Lib.hid (show BInv r c m (j + 1) acc from by
            have h := Hmid.out
            rw [List.take_of_length_le (by rw [← HN.out]; exact Nat.le_refl _), Hss.out] at h
            exact h.last)
          go_wp2
          go_roundw
          case rel => exact ⟨j + 1, acc, hjN, by go_num, Hbi2, Hst⟩
          case measure => simp [intOf]; omega
    · have hend : acc.length ≤ j := by rw [← HL.out]; omega
      have hac : acc.length ≤ 33554432 := by rw [← HL.out]; omega
      have Hend := Lib.hid (And.intro hend hac)
      clear hend hac
      go_wp2
      refine bodyPost_ret (v := .tuple #[.slice la yk lc, .slice ya yk yc]) (by simp [results, Tryd.results108, go_sem]) rfl ?_
      exact ⟨_, _, acc, j, rfl, Hbi.out, Hend.out.1, Hend.out.2, Hst.out⟩
end Go.Proofs.YtlmjpmdkifoekaaDoor

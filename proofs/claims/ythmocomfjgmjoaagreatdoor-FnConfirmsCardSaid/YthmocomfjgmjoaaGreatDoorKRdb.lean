/- RunLine of the program: reveal, puzzle. -/
import Derived.Test.YthmocomfjgmjoaaGreatDoorKRa
import Derived.Test.YthmocomfjgmjoaaGreatDoorQ27
set_option maxHeartbeats 4000000
set_option maxRecDepth 100000
namespace Go.Proofs.YthmocomfjgmjoaaGreatDoor
open Go.RowKit
theorem RunLine_reveal (a b c : Value) (k : Con) (w : World) (h : ConRd w a b c k) (hs : ConSz k) (ht : TabE w) : Calls Tryz.prog 13 #[.agg #[a, b, c], .string wReveal] w (ConRes w (k, sumsText ((greedyR k.img).getD []))) := by
  obtain ⟨⟨a1, a2, a3, rfl⟩, ⟨b1, b2, b3, rfl⟩, ⟨d1, d2, d3, rfl⟩⟩ := h.shape
  have hk0 := Blk.keep (Blk.new w #[.slice a1 a2 a3, .slice b1 b2 b3, .slice d1 d2 d3] 34) (Below.pureAlloc _ (.cells NilC 34))
  have hb0 : Below w.heap.size w ((w.alloc (.cells #[.slice a1 a2 a3, .slice b1 b2 b3, .slice d1 d2 d3] 34)).alloc (.cells NilC 34)) := ((Below.refl _ _).alloc (Nat.le_refl _) _).alloc (by simp) _
  have HC := Lib.hid (h.keep hb0)
  have Hh := Lib.hid h
  have Hs := Lib.hid hs
  have Ht := Lib.hid ht
  have c0 := hk0.cell 0
  have c1 := hk0.cell 1
  have c2 := hk0.cell 2
  simp only [List.getElem?_toArray, List.getElem?_cons_zero, List.getElem?_cons_succ] at c0 c1 c2
  clear h hs hb0 hk0 ht
  have Hsp := Lib.hid wReveal_split
  unfold wReveal at Hsp ⊢
  go_enter Tryz.func13, Tryz.ntmps13
  go_wp2_with (fail)
  refine (copyConsole_c _ _ _ k _ HC.out Hs.out).mono ?_
  rintro e w1 ⟨va, vb, vc, rfl, ho, y1⟩
  obtain ⟨⟨p1, p2, p3, rfl⟩, ⟨q1, q2, q3, rfl⟩, ⟨r1, r2, r3, rfl⟩⟩ := ho.rd.shape
  have St := Lib.hid (RlSt.start rfl Hh.out y1 ho)
  clear ho y1 c0 c1 c2
  go_wp2_with (fail)
  refine (SplitAny_i _ 32 _ (by decide)).mono ?_
  rintro e w2 ⟨vw, rfl, ow, y2⟩
  rw [Hsp.out] at ow
  obtain ⟨gw, cw, rfl, hgw, hcw, -, -⟩ := ow.inv_ne (by decide)
  have hS := Lib.hid (St.out.keep y2)
  have Hw := Lib.hid ow.strs
  have w0 := Strs.at0 Hw.out (k := 0) rfl
  have hcw1 : 1 ≤ cw := hcw
  clear ow y2 St
  obtain ⟨P, hP⟩ : ∃ P, (if cw = 1 then (some ⟨gw, 0, none⟩ : Option Addr) else some ⟨gw, 1, none⟩) = P := ⟨_, rfl⟩
  obtain ⟨c0, c1, c2⟩ := hS.out.kc.c3
  obtain ⟨o0, o1, o2⟩ := hS.out.ko.c3
  obtain ⟨x0, x1, x2, f0, f1, f2⟩ := hS.out.kr.x3
  have hT := Lib.hid (Ht.out.keep hS.out.base)
  go_wp2
  refine wp_loop_rounds 1 ?_
  rw [rounds_succ]
  go_wp2_with (fail)
  refine (GreedyReveal_i2 _ k.img _ hS.out.rd.m).mono ?_
  have hlen := greedyR_len k.img
  obtain ⟨L, hL⟩ : ∃ L, (greedyR k.img).getD [] = L := ⟨_, rfl⟩
  rw [hL] at hlen ⊢
  rintro e w3 ⟨vl, rfl, ol, y3⟩
  replace hS := Lib.hid (hS.out.keep y3)
  replace hT := Lib.hid (show TabE w3.drew from (hT.out.keep y3).keep (Below.refl _ _).drew)
  have Hr := Lib.hid hL
  have Hl := Lib.hid (show Ints w3.drew vl L from ol.ints)
  obtain ⟨l1, l2, l3, rfl⟩ := ol.shape
  clear c0 c1 c2 o0 o1 o2 x0 x1 x2 f0 f1 f2 hL ol
  obtain ⟨o0, o1, o2⟩ := hS.out.ko.c3
  obtain ⟨x0, x1, x2, f0, f1, f2⟩ := hS.out.kr.x3
  replace hS := Lib.hid hS.out.drew
  go_wp2
  go_region_with (go_at_call 43; refine (FormatSums_i _ L _ Hl.out (by omega) hT.out.1).mono ?_; rintro e w4 ⟨rfl, y4⟩; replace hS := Lib.hid (hS.out.keep y4); obtain ⟨o0, o1, o2⟩ := hS.out.ko.c3; obtain ⟨x0, x1, x2, f0, f1, f2⟩ := hS.out.kr.x3)
  all_goals go_wp2
  all_goals
    obtain ⟨⟨e0, e1, e2⟩, hfin⟩ := (hS.out.done).fin
    exact bodyPost_ret (v := .tuple #[.agg #[.slice p1 p2 p3, .slice q1 q2 q3, .slice r1 r2 r3], .string (sumsText L)]) (by simp [results, Tryz.results13, go_sem, e0, e1, e2]) rfl (by rw [Hr.out]; exact hfin _)
theorem RunLine_puzzle (a b c : Value) (k : Con) (w : World) (h : ConRd w a b c k) (hs : ConSz k) (ht : TabE w) : Calls Tryz.prog 13 #[.agg #[a, b, c], .string wPuzzle] w (ConRes w (k, orNoneB (puzzleLineOf (pzRows k.img) (pzCols k.img)))) := by
  obtain ⟨⟨a1, a2, a3, rfl⟩, ⟨b1, b2, b3, rfl⟩, ⟨d1, d2, d3, rfl⟩⟩ := h.shape
  have hk0 := Blk.keep (Blk.new w #[.slice a1 a2 a3, .slice b1 b2 b3, .slice d1 d2 d3] 34) (Below.pureAlloc _ (.cells NilC 34))
  have hb0 : Below w.heap.size w ((w.alloc (.cells #[.slice a1 a2 a3, .slice b1 b2 b3, .slice d1 d2 d3] 34)).alloc (.cells NilC 34)) := ((Below.refl _ _).alloc (Nat.le_refl _) _).alloc (by simp) _
  have HC := Lib.hid (h.keep hb0)
  have Hh := Lib.hid h
  have Hs := Lib.hid hs
  have Ht := Lib.hid ht
  have c0 := hk0.cell 0
  have c1 := hk0.cell 1
  have c2 := hk0.cell 2
  simp only [List.getElem?_toArray, List.getElem?_cons_zero, List.getElem?_cons_succ] at c0 c1 c2
  clear h hs hb0 hk0 ht
  have Hsp := Lib.hid wPuzzle_split
  unfold wPuzzle at Hsp ⊢
  go_enter Tryz.func13, Tryz.ntmps13
  go_wp2_with (fail)
  refine (copyConsole_c _ _ _ k _ HC.out Hs.out).mono ?_
  rintro e w1 ⟨va, vb, vc, rfl, ho, y1⟩
  obtain ⟨⟨p1, p2, p3, rfl⟩, ⟨q1, q2, q3, rfl⟩, ⟨r1, r2, r3, rfl⟩⟩ := ho.rd.shape
  have St := Lib.hid (RlSt.start rfl Hh.out y1 ho)
  clear ho y1 c0 c1 c2
  go_wp2_with (fail)
  refine (SplitAny_i _ 32 _ (by decide)).mono ?_
  rintro e w2 ⟨vw, rfl, ow, y2⟩
  rw [Hsp.out] at ow
  obtain ⟨gw, cw, rfl, hgw, hcw, -, -⟩ := ow.inv_ne (by decide)
  have hS := Lib.hid (St.out.keep y2)
  have Hw := Lib.hid ow.strs
  have w0 := Strs.at0 Hw.out (k := 0) rfl
  have hcw1 : 1 ≤ cw := hcw
  clear ow y2 St
  obtain ⟨P, hP⟩ : ∃ P, (if cw = 1 then (some ⟨gw, 0, none⟩ : Option Addr) else some ⟨gw, 1, none⟩) = P := ⟨_, rfl⟩
  obtain ⟨c0, c1, c2⟩ := hS.out.kc.c3
  obtain ⟨o0, o1, o2⟩ := hS.out.ko.c3
  obtain ⟨x0, x1, x2, f0, f1, f2⟩ := hS.out.kr.x3
  have hT := Lib.hid (Ht.out.keep hS.out.base)
  go_wp2
  refine wp_loop_rounds 1 ?_
  rw [rounds_succ]
  go_wp2_with (fail)
  refine (PuzzleOf_i _ k.img _ hS.out.rd.m).mono ?_
  obtain ⟨hn1, hn2⟩ := pz_lens k.img
  obtain ⟨A, hA⟩ : ∃ A, pzRows k.img = A := ⟨_, rfl⟩
  obtain ⟨B, hB⟩ : ∃ B, pzCols k.img = B := ⟨_, rfl⟩
  rw [hA, hB]
  rw [hA] at hn1
  rw [hB] at hn2
  rintro e w3 ⟨va, vb, rfl, ⟨M, hM1, hM2, oa, ob⟩, y3⟩
  obtain ⟨l1, l2, l3, rfl⟩ := oa.shape
  obtain ⟨n1, n2, n3, rfl⟩ := ob.shape
  have y4 := Below.pureAlloc w3 (.cells #[.slice l1 l2 l3, .slice n1 n2 n3] 85)
  have kp := Blk.new w3 #[.slice l1 l2 l3, .slice n1 n2 n3] 85
  replace hS := Lib.hid ((hS.out.keep y3).keep y4)
  replace hT := Lib.hid (((hT.out.keep y3).keep y4).keep (Below.refl _ _).drew)
  have Ha := Lib.hid (((oa.grid).keep y4).keep (Below.refl _ _).drew)
  have Hb := Lib.hid (((ob.grid).keep y4).keep (Below.refl _ _).drew)
  have Hr1 := Lib.hid hA
  have hTb := Lib.hid hT.out.1
  have Hr2 := Lib.hid hB
  have Hn1 := Lib.hid hn1
  have Hn2 := Lib.hid hn2
  clear c0 c1 c2 o0 o1 o2 x0 x1 x2 f0 f1 f2 hA hB oa ob hM1 hM2 hn1 hn2
  obtain ⟨o0, o1, o2⟩ := hS.out.ko.c3
  obtain ⟨x0, x1, x2, f0, f1, f2⟩ := hS.out.kr.x3
  replace hS := Lib.hid hS.out.drew
  have u0 : (w3.alloc (.cells #[.slice l1 l2 l3, .slice n1 n2 n3] 85)).cell? ⟨w3.heap.size, 0, none⟩ = some (.slice l1 l2 l3) := kp.cell 0
  have u1 : (w3.alloc (.cells #[.slice l1 l2 l3, .slice n1 n2 n3] 85)).cell? ⟨w3.heap.size, 1, none⟩ = some (.slice n1 n2 n3) := kp.cell 1
  go_wp2
  go_region_with (first
    | (go_at_call 55; (with_reducible refine (PuzzleLine_i _ _ A B _ Ha.out Hb.out Hn1.out Hn2.out hTb.out).mono ?_); rintro e w4 ⟨rfl, y4⟩; replace hS := Lib.hid (hS.out.keep y4); obtain ⟨o0, o1, o2⟩ := hS.out.ko.c3; obtain ⟨x0, x1, x2, f0, f1, f2⟩ := hS.out.kr.x3)
    | (go_at_call 44; refine (orNone_c _ _).mono ?_; rintro e w' ⟨rfl, rfl⟩))
  all_goals go_wp2
  all_goals
    obtain ⟨⟨e0, e1, e2⟩, hfin⟩ := (hS.out.done).fin
    exact bodyPost_ret (v := .tuple #[.agg #[.slice p1 p2 p3, .slice q1 q2 q3, .slice r1 r2 r3], .string (orNoneB (puzzleLineOf A B))]) (by simp [results, Tryz.results13, go_sem, e0, e1, e2]) rfl (by rw [Hr1.out, Hr2.out]; exact hfin _)
end Go.Proofs.YthmocomfjgmjoaaGreatDoor

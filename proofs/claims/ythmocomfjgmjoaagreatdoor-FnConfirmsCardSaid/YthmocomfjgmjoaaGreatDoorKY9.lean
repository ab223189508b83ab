/- RunLine of the program: one word that is no command. -/
import Derived.Test.YthmocomfjgmjoaaGreatDoorKRe
set_option maxHeartbeats 4000000
set_option maxRecDepth 100000
namespace Go.Proofs.YthmocomfjgmjoaaGreatDoor
open Go.RowKit
theorem wImage_split : splitB wImage 32 = [wImage] := by decide +kernel
theorem wSums_split : splitB wSums 32 = [wSums] := by decide +kernel
theorem wSwitch_split : splitB wSwitch 32 = [wSwitch] := by decide +kernel
theorem wFlip_split : splitB wFlip 32 = [wFlip] := by decide +kernel
theorem wPath_split : splitB wPath 32 = [wPath] := by decide +kernel
theorem wNear_split : splitB wNear 32 = [wNear] := by decide +kernel
theorem wLine_split : splitB wLine 32 = [wLine] := by decide +kernel
theorem RunLine_u (a b c : Value) (k : Con) (s : ByteArray) (w : World) (h : ConRd w a b c k) (hs : ConSz k) (ht : TabE w) (hsz : s.size ≤ 1048576) (hsaid : isSaid s = false) (hsp : splitB s 32 = [s]) (hz : NotNine s) (hw0 : (s.toList == [105, 109, 97, 103, 101]) = false) (hw1 : (s.toList == [115, 117, 109, 115]) = false) (hw2 : (s.toList == [115, 119, 105, 116, 99, 104]) = false) (hw3 : (s.toList == [102, 108, 105, 112]) = false) (hw4 : (s.toList == [112, 97, 116, 104]) = false) (hw5 : (s.toList == [110, 101, 97, 114]) = false) (hw6 : (s.toList == [108, 105, 110, 101]) = false) : Calls Tryz.prog 13 #[.agg #[a, b, c], .string s] w (ConRes w (k, unkB)) := by
  obtain ⟨⟨a1, a2, a3, rfl⟩, ⟨b1, b2, b3, rfl⟩, ⟨d1, d2, d3, rfl⟩⟩ := h.shape
  have hk0 := Blk.keep (Blk.new w #[.slice a1 a2 a3, .slice b1 b2 b3, .slice d1 d2 d3] 34) (Below.pureAlloc _ (.cells NilC 34))
  have hb0 : Below w.heap.size w ((w.alloc (.cells #[.slice a1 a2 a3, .slice b1 b2 b3, .slice d1 d2 d3] 34)).alloc (.cells NilC 34)) := ((Below.refl _ _).alloc (Nat.le_refl _) _).alloc (by simp) _
  have HC := Lib.hid (h.keep hb0)
  have Hh := Lib.hid h
  have Hs := Lib.hid hs
  have Ht := Lib.hid ht
  have c0 := hk0.cell 0
  have c1 := hk0.cell 1
  have c2 := hk0.cell 2
  simp only [List.getElem?_toArray, List.getElem?_cons_zero, List.getElem?_cons_succ] at c0 c1 c2
  clear h hs hb0 hk0 ht
  obtain ⟨hz0, hz1, hz2, hz3, hz4, hz5, hz6, hz7, hz8⟩ := hz
  obtain ⟨hs0, h35, hne⟩ := line_facts hsaid
  have Hsp := Lib.hid hsp
  clear hsaid hsp
  go_enter Tryz.func13, Tryz.ntmps13
  go_wp2_with (fail)
  refine (copyConsole_c _ _ _ k _ HC.out Hs.out).mono ?_
  rintro e w1 ⟨va, vb, vc, rfl, ho, y1⟩
  obtain ⟨⟨p1, p2, p3, rfl⟩, ⟨q1, q2, q3, rfl⟩, ⟨r1, r2, r3, rfl⟩⟩ := ho.rd.shape
  have St := Lib.hid (RlSt.start rfl Hh.out y1 ho)
  clear ho y1 c0 c1 c2
  go_wp2_with (fail)
  refine (SplitAny_i _ 32 _ hsz).mono ?_
  rintro e w2 ⟨vw, rfl, ow, y2⟩
  rw [Hsp.out] at ow
  obtain ⟨gw, cw, rfl, hgw, hcw, -, -⟩ := ow.inv_ne (by simp)
  have hS := Lib.hid (St.out.keep y2)
  have Hw := Lib.hid ow.strs
  have w0 := Strs.at0 Hw.out (k := 0) rfl
  have hcw1 : 1 ≤ cw := hcw
  clear ow y2 St
  obtain ⟨P, hP⟩ : ∃ P, (if cw = 1 then (some ⟨gw, 0, none⟩ : Option Addr) else some ⟨gw, 1, none⟩) = P := ⟨_, rfl⟩
  obtain ⟨c0, c1, c2⟩ := hS.out.kc.c3
  obtain ⟨o0, o1, o2⟩ := hS.out.ko.c3
  obtain ⟨x0, x1, x2, f0, f1, f2⟩ := hS.out.kr.x3
  have hT := Lib.hid (Ht.out.keep hS.out.base)
  go_wp2
  refine wp_loop_rounds 1 ?_
  rw [rounds_succ]
  go_wp2
  obtain ⟨⟨e0, e1, e2⟩, hfin⟩ := (hS.out.done).fin
  exact bodyPost_ret (v := .tuple #[.agg #[.slice p1 p2 p3, .slice q1 q2 q3, .slice r1 r2 r3], .string unkB]) (by simp [results, Tryz.results13, go_sem, e0, e1, e2, unkB]) rfl (hfin _)
theorem RunLine_uImage (a b c : Value) (k : Con) (w : World) (h : ConRd w a b c k) (hs : ConSz k) (ht : TabE w) : Calls Tryz.prog 13 #[.agg #[a, b, c], .string wImage] w (ConRes w (k, unkB)) := by
  obtain ⟨⟨a1, a2, a3, rfl⟩, ⟨b1, b2, b3, rfl⟩, ⟨d1, d2, d3, rfl⟩⟩ := h.shape
  have hk0 := Blk.keep (Blk.new w #[.slice a1 a2 a3, .slice b1 b2 b3, .slice d1 d2 d3] 34) (Below.pureAlloc _ (.cells NilC 34))
  have hb0 : Below w.heap.size w ((w.alloc (.cells #[.slice a1 a2 a3, .slice b1 b2 b3, .slice d1 d2 d3] 34)).alloc (.cells NilC 34)) := ((Below.refl _ _).alloc (Nat.le_refl _) _).alloc (by simp) _
  have HC := Lib.hid (h.keep hb0)
  have Hh := Lib.hid h
  have Hs := Lib.hid hs
  have Ht := Lib.hid ht
  have c0 := hk0.cell 0
  have c1 := hk0.cell 1
  have c2 := hk0.cell 2
  simp only [List.getElem?_toArray, List.getElem?_cons_zero, List.getElem?_cons_succ] at c0 c1 c2
  clear h hs hb0 hk0 ht
  have Hsp := Lib.hid wImage_split
  unfold wImage at Hsp ⊢
  go_enter Tryz.func13, Tryz.ntmps13
  go_wp2_with (fail)
  refine (copyConsole_c _ _ _ k _ HC.out Hs.out).mono ?_
  rintro e w1 ⟨va, vb, vc, rfl, ho, y1⟩
  obtain ⟨⟨p1, p2, p3, rfl⟩, ⟨q1, q2, q3, rfl⟩, ⟨r1, r2, r3, rfl⟩⟩ := ho.rd.shape
  have St := Lib.hid (RlSt.start rfl Hh.out y1 ho)
  clear ho y1 c0 c1 c2
  go_wp2_with (fail)
  refine (SplitAny_i _ 32 _ (by decide)).mono ?_
  rintro e w2 ⟨vw, rfl, ow, y2⟩
  rw [Hsp.out] at ow
  obtain ⟨gw, cw, rfl, hgw, hcw, -, -⟩ := ow.inv_ne (by decide)
  have hS := Lib.hid (St.out.keep y2)
  have Hw := Lib.hid ow.strs
  have w0 := Strs.at0 Hw.out (k := 0) rfl
  have hcw1 : 1 ≤ cw := hcw
  clear ow y2 St
  obtain ⟨P, hP⟩ : ∃ P, (if cw = 1 then (some ⟨gw, 0, none⟩ : Option Addr) else some ⟨gw, 1, none⟩) = P := ⟨_, rfl⟩
  obtain ⟨c0, c1, c2⟩ := hS.out.kc.c3
  obtain ⟨o0, o1, o2⟩ := hS.out.ko.c3
  obtain ⟨x0, x1, x2, f0, f1, f2⟩ := hS.out.kr.x3
  have hT := Lib.hid (Ht.out.keep hS.out.base)
  go_wp2
  refine wp_loop_rounds 1 ?_
  rw [rounds_succ]
  go_wp2
  obtain ⟨⟨e0, e1, e2⟩, hfin⟩ := (hS.out.done).fin
  exact bodyPost_ret (v := .tuple #[.agg #[.slice p1 p2 p3, .slice q1 q2 q3, .slice r1 r2 r3], .string unkB]) (by simp [results, Tryz.results13, go_sem, e0, e1, e2, unkB]) rfl (hfin _)
theorem RunLine_uSums (a b c : Value) (k : Con) (w : World) (h : ConRd w a b c k) (hs : ConSz k) (ht : TabE w) : Calls Tryz.prog 13 #[.agg #[a, b, c], .string wSums] w (ConRes w (k, unkB)) := by
  obtain ⟨⟨a1, a2, a3, rfl⟩, ⟨b1, b2, b3, rfl⟩, ⟨d1, d2, d3, rfl⟩⟩ := h.shape
  have hk0 := Blk.keep (Blk.new w #[.slice a1 a2 a3, .slice b1 b2 b3, .slice d1 d2 d3] 34) (Below.pureAlloc _ (.cells NilC 34))
  have hb0 : Below w.heap.size w ((w.alloc (.cells #[.slice a1 a2 a3, .slice b1 b2 b3, .slice d1 d2 d3] 34)).alloc (.cells NilC 34)) := ((Below.refl _ _).alloc (Nat.le_refl _) _).alloc (by simp) _
  have HC := Lib.hid (h.keep hb0)
  have Hh := Lib.hid h
  have Hs := Lib.hid hs
  have Ht := Lib.hid ht
  have c0 := hk0.cell 0
  have c1 := hk0.cell 1
  have c2 := hk0.cell 2
  simp only [List.getElem?_toArray, List.getElem?_cons_zero, List.getElem?_cons_succ] at c0 c1 c2
  clear h hs hb0 hk0 ht
  have Hsp := Lib.hid wSums_split
  unfold wSums at Hsp ⊢
  go_enter Tryz.func13, Tryz.ntmps13
  go_wp2_with (fail)
  refine (copyConsole_c _ _ _ k _ HC.out Hs.out).mono ?_
  rintro e w1 ⟨va, vb, vc, rfl, ho, y1⟩
  obtain ⟨⟨p1, p2, p3, rfl⟩, ⟨q1, q2, q3, rfl⟩, ⟨r1, r2, r3, rfl⟩⟩ := ho.rd.shape
  have St := Lib.hid (RlSt.start rfl Hh.out y1 ho)
  clear ho y1 c0 c1 c2
  go_wp2_with (fail)
  refine (SplitAny_i _ 32 _ (by decide)).mono ?_
  rintro e w2 ⟨vw, rfl, ow, y2⟩
  rw [Hsp.out] at ow
  obtain ⟨gw, cw, rfl, hgw, hcw, -, -⟩ := ow.inv_ne (by decide)
  have hS := Lib.hid (St.out.keep y2)
  have Hw := Lib.hid ow.strs
  have w0 := Strs.at0 Hw.out (k := 0) rfl
  have hcw1 : 1 ≤ cw := hcw
  clear ow y2 St
  obtain ⟨P, hP⟩ : ∃ P, (if cw = 1 then (some ⟨gw, 0, none⟩ : Option Addr) else some ⟨gw, 1, none⟩) = P := ⟨_, rfl⟩
  obtain ⟨c0, c1, c2⟩ := hS.out.kc.c3
  obtain ⟨o0, o1, o2⟩ := hS.out.ko.c3
  obtain ⟨x0, x1, x2, f0, f1, f2⟩ := hS.out.kr.x3
  have hT := Lib.hid (Ht.out.keep hS.out.base)
  go_wp2
  refine wp_loop_rounds 1 ?_
  rw [rounds_succ]
  go_wp2
  obtain ⟨⟨e0, e1, e2⟩, hfin⟩ := (hS.out.done).fin
  exact bodyPost_ret (v := .tuple #[.agg #[.slice p1 p2 p3, .slice q1 q2 q3, .slice r1 r2 r3], .string unkB]) (by simp [results, Tryz.results13, go_sem, e0, e1, e2, unkB]) rfl (hfin _)
theorem RunLine_uSwitch (a b c : Value) (k : Con) (w : World) (h : ConRd w a b c k) (hs : ConSz k) (ht : TabE w) : Calls Tryz.prog 13 #[.agg #[a, b, c], .string wSwitch] w (ConRes w (k, unkB)) := by
  obtain ⟨⟨a1, a2, a3, rfl⟩, ⟨b1, b2, b3, rfl⟩, ⟨d1, d2, d3, rfl⟩⟩ := h.shape
  have hk0 := Blk.keep (Blk.new w #[.slice a1 a2 a3, .slice b1 b2 b3, .slice d1 d2 d3] 34) (Below.pureAlloc _ (.cells NilC 34))
  have hb0 : Below w.heap.size w ((w.alloc (.cells #[.slice a1 a2 a3, .slice b1 b2 b3, .slice d1 d2 d3] 34)).alloc (.cells NilC 34)) := ((Below.refl _ _).alloc (Nat.le_refl _) _).alloc (by simp) _
  have HC := Lib.hid (h.keep hb0)
  have Hh := Lib.hid h
  have Hs := Lib.hid hs
  have Ht := Lib.hid ht
  have c0 := hk0.cell 0
  have c1 := hk0.cell 1
  have c2 := hk0.cell 2
  simp only [List.getElem?_toArray, List.getElem?_cons_zero, List.getElem?_cons_succ] at c0 c1 c2
  clear h hs hb0 hk0 ht
  have Hsp := Lib.hid wSwitch_split
  unfold wSwitch at Hsp ⊢
  go_enter Tryz.func13, Tryz.ntmps13
  go_wp2_with (fail)
  refine (copyConsole_c _ _ _ k _ HC.out Hs.out).mono ?_
  rintro e w1 ⟨va, vb, vc, rfl, ho, y1⟩
  obtain ⟨⟨p1, p2, p3, rfl⟩, ⟨q1, q2, q3, rfl⟩, ⟨r1, r2, r3, rfl⟩⟩ := ho.rd.shape
  have St := Lib.hid (RlSt.start rfl Hh.out y1 ho)
  clear ho y1 c0 c1 c2
  go_wp2_with (fail)
  refine (SplitAny_i _ 32 _ (by decide)).mono ?_
  rintro e w2 ⟨vw, rfl, ow, y2⟩
  rw [Hsp.out] at ow
  obtain ⟨gw, cw, rfl, hgw, hcw, -, -⟩ := ow.inv_ne (by decide)
  have hS := Lib.hid (St.out.keep y2)
  have Hw := Lib.hid ow.strs
  have w0 := Strs.at0 Hw.out (k := 0) rfl
  have hcw1 : 1 ≤ cw := hcw
  clear ow y2 St
  obtain ⟨P, hP⟩ : ∃ P, (if cw = 1 then (some ⟨gw, 0, none⟩ : Option Addr) else some ⟨gw, 1, none⟩) = P := ⟨_, rfl⟩
  obtain ⟨c0, c1, c2⟩ := hS.out.kc.c3
  obtain ⟨o0, o1, o2⟩ := hS.out.ko.c3
  obtain ⟨x0, x1, x2, f0, f1, f2⟩ := hS.out.kr.x3
  have hT := Lib.hid (Ht.out.keep hS.out.base)
  go_wp2
  refine wp_loop_rounds 1 ?_
  rw [rounds_succ]
  go_wp2
  obtain ⟨⟨e0, e1, e2⟩, hfin⟩ := (hS.out.done).fin
  exact bodyPost_ret (v := .tuple #[.agg #[.slice p1 p2 p3, .slice q1 q2 q3, .slice r1 r2 r3], .string unkB]) (by simp [results, Tryz.results13, go_sem, e0, e1, e2, unkB]) rfl (hfin _)
theorem RunLine_uFlip (a b c : Value) (k : Con) (w : World) (h : ConRd w a b c k) (hs : ConSz k) (ht : TabE w) : Calls Tryz.prog 13 #[.agg #[a, b, c], .string wFlip] w (ConRes w (k, unkB)) := by
  obtain ⟨⟨a1, a2, a3, rfl⟩, ⟨b1, b2, b3, rfl⟩, ⟨d1, d2, d3, rfl⟩⟩ := h.shape
  have hk0 := Blk.keep (Blk.new w #[.slice a1 a2 a3, .slice b1 b2 b3, .slice d1 d2 d3] 34) (Below.pureAlloc _ (.cells NilC 34))
  have hb0 : Below w.heap.size w ((w.alloc (.cells #[.slice a1 a2 a3, .slice b1 b2 b3, .slice d1 d2 d3] 34)).alloc (.cells NilC 34)) := ((Below.refl _ _).alloc (Nat.le_refl _) _).alloc (by simp) _
  have HC := Lib.hid (h.keep hb0)
  have Hh := Lib.hid h
  have Hs := Lib.hid hs
  have Ht := Lib.hid ht
  have c0 := hk0.cell 0
  have c1 := hk0.cell 1
  have c2 := hk0.cell 2
  simp only [List.getElem?_toArray, List.getElem?_cons_zero, List.getElem?_cons_succ] at c0 c1 c2
  clear h hs hb0 hk0 ht
  have Hsp := Lib.hid wFlip_split
  unfold wFlip at Hsp ⊢
  go_enter Tryz.func13, Tryz.ntmps13
  go_wp2_with (fail)
  refine (copyConsole_c _ _ _ k _ HC.out Hs.out).mono ?_
  rintro e w1 ⟨va, vb, vc, rfl, ho, y1⟩
  obtain ⟨⟨p1, p2, p3, rfl⟩, ⟨q1, q2, q3, rfl⟩, ⟨r1, r2, r3, rfl⟩⟩ := ho.rd.shape
  have St := Lib.hid (RlSt.start rfl Hh.out y1 ho)
  clear ho y1 c0 c1 c2
  go_wp2_with (fail)
  refine (SplitAny_i _ 32 _ (by decide)).mono ?_
  rintro e w2 ⟨vw, rfl, ow, y2⟩
  rw [Hsp.out] at ow
  obtain ⟨gw, cw, rfl, hgw, hcw, -, -⟩ := ow.inv_ne (by decide)
  have hS := Lib.hid (St.out.keep y2)
  have Hw := Lib.hid ow.strs
  have w0 := Strs.at0 Hw.out (k := 0) rfl
  have hcw1 : 1 ≤ cw := hcw
  clear ow y2 St
  obtain ⟨P, hP⟩ : ∃ P, (if cw = 1 then (some ⟨gw, 0, none⟩ : Option Addr) else some ⟨gw, 1, none⟩) = P := ⟨_, rfl⟩
  obtain ⟨c0, c1, c2⟩ := hS.out.kc.c3
  obtain ⟨o0, o1, o2⟩ := hS.out.ko.c3
  obtain ⟨x0, x1, x2, f0, f1, f2⟩ := hS.out.kr.x3
  have hT := Lib.hid (Ht.out.keep hS.out.base)
  go_wp2
  refine wp_loop_rounds 1 ?_
  rw [rounds_succ]
  go_wp2
  obtain ⟨⟨e0, e1, e2⟩, hfin⟩ := (hS.out.done).fin
  exact bodyPost_ret (v := .tuple #[.agg #[.slice p1 p2 p3, .slice q1 q2 q3, .slice r1 r2 r3], .string unkB]) (by simp [results, Tryz.results13, go_sem, e0, e1, e2, unkB]) rfl (hfin _)
theorem RunLine_uPath (a b c : Value) (k : Con) (w : World) (h : ConRd w a b c k) (hs : ConSz k) (ht : TabE w) : Calls Tryz.prog 13 #[.agg #[a, b, c], .string wPath] w (ConRes w (k, unkB)) := by
  obtain ⟨⟨a1, a2, a3, rfl⟩, ⟨b1, b2, b3, rfl⟩, ⟨d1, d2, d3, rfl⟩⟩ := h.shape
  have hk0 := Blk.keep (Blk.new w #[.slice a1 a2 a3, .slice b1 b2 b3, .slice d1 d2 d3] 34) (Below.pureAlloc _ (.cells NilC 34))
  have hb0 : Below w.heap.size w ((w.alloc (.cells #[.slice a1 a2 a3, .slice b1 b2 b3, .slice d1 d2 d3] 34)).alloc (.cells NilC 34)) := ((Below.refl _ _).alloc (Nat.le_refl _) _).alloc (by simp) _
  have HC := Lib.hid (h.keep hb0)
  have Hh := Lib.hid h
  have Hs := Lib.hid hs
  have Ht := Lib.hid ht
  have c0 := hk0.cell 0
  have c1 := hk0.cell 1
  have c2 := hk0.cell 2
  simp only [List.getElem?_toArray, List.getElem?_cons_zero, List.getElem?_cons_succ] at c0 c1 c2
  clear h hs hb0 hk0 ht
  have Hsp := Lib.hid wPath_split
  unfold wPath at Hsp ⊢
  go_enter Tryz.func13, Tryz.ntmps13
  go_wp2_with (fail)
  refine (copyConsole_c _ _ _ k _ HC.out Hs.out).mono ?_
  rintro e w1 ⟨va, vb, vc, rfl, ho, y1⟩
  obtain ⟨⟨p1, p2, p3, rfl⟩, ⟨q1, q2, q3, rfl⟩, ⟨r1, r2, r3, rfl⟩⟩ := ho.rd.shape
  have St := Lib.hid (RlSt.start rfl Hh.out y1 ho)
  clear ho y1 c0 c1 c2
  go_wp2_with (fail)
  refine (SplitAny_i _ 32 _ (by decide)).mono ?_
  rintro e w2 ⟨vw, rfl, ow, y2⟩
  rw [Hsp.out] at ow
  obtain ⟨gw, cw, rfl, hgw, hcw, -, -⟩ := ow.inv_ne (by decide)
  have hS := Lib.hid (St.out.keep y2)
  have Hw := Lib.hid ow.strs
  have w0 := Strs.at0 Hw.out (k := 0) rfl
  have hcw1 : 1 ≤ cw := hcw
  clear ow y2 St
  obtain ⟨P, hP⟩ : ∃ P, (if cw = 1 then (some ⟨gw, 0, none⟩ : Option Addr) else some ⟨gw, 1, none⟩) = P := ⟨_, rfl⟩
  obtain ⟨c0, c1, c2⟩ := hS.out.kc.c3
  obtain ⟨o0, o1, o2⟩ := hS.out.ko.c3
  obtain ⟨x0, x1, x2, f0, f1, f2⟩ := hS.out.kr.x3
  have hT := Lib.hid (Ht.out.keep hS.out.base)
  go_wp2
  refine wp_loop_rounds 1 ?_
  rw [rounds_succ]
  go_wp2
  obtain ⟨⟨e0, e1, e2⟩, hfin⟩ := (hS.out.done).fin
  exact bodyPost_ret (v := .tuple #[.agg #[.slice p1 p2 p3, .slice q1 q2 q3, .slice r1 r2 r3], .string unkB]) (by simp [results, Tryz.results13, go_sem, e0, e1, e2, unkB]) rfl (hfin _)
theorem RunLine_uNear (a b c : Value) (k : Con) (w : World) (h : ConRd w a b c k) (hs : ConSz k) (ht : TabE w) : Calls Tryz.prog 13 #[.agg #[a, b, c], .string wNear] w (ConRes w (k, unkB)) := by
  obtain ⟨⟨a1, a2, a3, rfl⟩, ⟨b1, b2, b3, rfl⟩, ⟨d1, d2, d3, rfl⟩⟩ := h.shape
  have hk0 := Blk.keep (Blk.new w #[.slice a1 a2 a3, .slice b1 b2 b3, .slice d1 d2 d3] 34) (Below.pureAlloc _ (.cells NilC 34))
  have hb0 : Below w.heap.size w ((w.alloc (.cells #[.slice a1 a2 a3, .slice b1 b2 b3, .slice d1 d2 d3] 34)).alloc (.cells NilC 34)) := ((Below.refl _ _).alloc (Nat.le_refl _) _).alloc (by simp) _
  have HC := Lib.hid (h.keep hb0)
  have Hh := Lib.hid h
  have Hs := Lib.hid hs
  have Ht := Lib.hid ht
  have c0 := hk0.cell 0
  have c1 := hk0.cell 1
  have c2 := hk0.cell 2
  simp only [List.getElem?_toArray, List.getElem?_cons_zero, List.getElem?_cons_succ] at c0 c1 c2
  clear h hs hb0 hk0 ht
  have Hsp := Lib.hid wNear_split
  unfold wNear at Hsp ⊢
  go_enter Tryz.func13, Tryz.ntmps13
  go_wp2_with (fail)
  refine (copyConsole_c _ _ _ k _ HC.out Hs.out).mono ?_
  rintro e w1 ⟨va, vb, vc, rfl, ho, y1⟩
  obtain ⟨⟨p1, p2, p3, rfl⟩, ⟨q1, q2, q3, rfl⟩, ⟨r1, r2, r3, rfl⟩⟩ := ho.rd.shape
  have St := Lib.hid (RlSt.start rfl Hh.out y1 ho)
  clear ho y1 c0 c1 c2
  go_wp2_with (fail)
  refine (SplitAny_i _ 32 _ (by decide)).mono ?_
  rintro e w2 ⟨vw, rfl, ow, y2⟩
  rw [Hsp.out] at ow
  obtain ⟨gw, cw, rfl, hgw, hcw, -, -⟩ := ow.inv_ne (by decide)
  have hS := Lib.hid (St.out.keep y2)
  have Hw := Lib.hid ow.strs
  have w0 := Strs.at0 Hw.out (k := 0) rfl
  have hcw1 : 1 ≤ cw := hcw
  clear ow y2 St
  obtain ⟨P, hP⟩ : ∃ P, (if cw = 1 then (some ⟨gw, 0, none⟩ : Option Addr) else some ⟨gw, 1, none⟩) = P := ⟨_, rfl⟩
  obtain ⟨c0, c1, c2⟩ := hS.out.kc.c3
  obtain ⟨o0, o1, o2⟩ := hS.out.ko.c3
  obtain ⟨x0, x1, x2, f0, f1, f2⟩ := hS.out.kr.x3
  have hT := Lib.hid (Ht.out.keep hS.out.base)
  go_wp2
  refine wp_loop_rounds 1 ?_
  rw [rounds_succ]
  go_wp2
  obtain ⟨⟨e0, e1, e2⟩, hfin⟩ := (hS.out.done).fin
  exact bodyPost_ret (v := .tuple #[.agg #[.slice p1 p2 p3, .slice q1 q2 q3, .slice r1 r2 r3], .string unkB]) (by simp [results, Tryz.results13, go_sem, e0, e1, e2, unkB]) rfl (hfin _)
theorem RunLine_uLine (a b c : Value) (k : Con) (w : World) (h : ConRd w a b c k) (hs : ConSz k) (ht : TabE w) : Calls Tryz.prog 13 #[.agg #[a, b, c], .string wLine] w (ConRes w (k, unkB)) := by
  obtain ⟨⟨a1, a2, a3, rfl⟩, ⟨b1, b2, b3, rfl⟩, ⟨d1, d2, d3, rfl⟩⟩ := h.shape
  have hk0 := Blk.keep (Blk.new w #[.slice a1 a2 a3, .slice b1 b2 b3, .slice d1 d2 d3] 34) (Below.pureAlloc _ (.cells NilC 34))
  have hb0 : Below w.heap.size w ((w.alloc (.cells #[.slice a1 a2 a3, .slice b1 b2 b3, .slice d1 d2 d3] 34)).alloc (.cells NilC 34)) := ((Below.refl _ _).alloc (Nat.le_refl _) _).alloc (by simp) _
  have HC := Lib.hid (h.keep hb0)
  have Hh := Lib.hid h
  have Hs := Lib.hid hs
  have Ht := Lib.hid ht
  have c0 := hk0.cell 0
  have c1 := hk0.cell 1
  have c2 := hk0.cell 2
  simp only [List.getElem?_toArray, List.getElem?_cons_zero, List.getElem?_cons_succ] at c0 c1 c2
  clear h hs hb0 hk0 ht
  have Hsp := Lib.hid wLine_split
  unfold wLine at Hsp ⊢
  go_enter Tryz.func13, Tryz.ntmps13
  go_wp2_with (fail)
  refine (copyConsole_c _ _ _ k _ HC.out Hs.out).mono ?_
  rintro e w1 ⟨va, vb, vc, rfl, ho, y1⟩
  obtain ⟨⟨p1, p2, p3, rfl⟩, ⟨q1, q2, q3, rfl⟩, ⟨r1, r2, r3, rfl⟩⟩ := ho.rd.shape
  have St := Lib.hid (RlSt.start rfl Hh.out y1 ho)
  clear ho y1 c0 c1 c2
  go_wp2_with (fail)
  refine (SplitAny_i _ 32 _ (by decide)).mono ?_
  rintro e w2 ⟨vw, rfl, ow, y2⟩
  rw [Hsp.out] at ow
  obtain ⟨gw, cw, rfl, hgw, hcw, -, -⟩ := ow.inv_ne (by decide)
  have hS := Lib.hid (St.out.keep y2)
  have Hw := Lib.hid ow.strs
  have w0 := Strs.at0 Hw.out (k := 0) rfl
  have hcw1 : 1 ≤ cw := hcw
  clear ow y2 St
  obtain ⟨P, hP⟩ : ∃ P, (if cw = 1 then (some ⟨gw, 0, none⟩ : Option Addr) else some ⟨gw, 1, none⟩) = P := ⟨_, rfl⟩
  obtain ⟨c0, c1, c2⟩ := hS.out.kc.c3
  obtain ⟨o0, o1, o2⟩ := hS.out.ko.c3
  obtain ⟨x0, x1, x2, f0, f1, f2⟩ := hS.out.kr.x3
  have hT := Lib.hid (Ht.out.keep hS.out.base)
  go_wp2
  refine wp_loop_rounds 1 ?_
  rw [rounds_succ]
  go_wp2
  obtain ⟨⟨e0, e1, e2⟩, hfin⟩ := (hS.out.done).fin
  exact bodyPost_ret (v := .tuple #[.agg #[.slice p1 p2 p3, .slice q1 q2 q3, .slice r1 r2 r3], .string unkB]) (by simp [results, Tryz.results13, go_sem, e0, e1, e2, unkB]) rfl (hfin _)
end Go.Proofs.YthmocomfjgmjoaaGreatDoor

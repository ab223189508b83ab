/- RunLine of the program: show, build, least. -/
import Derived.Test.YthmocomfjgmjoaaGreatDoorKRa
import Derived.Test.YthmocomfjgmjoaaGreatDoorQ27
set_option maxHeartbeats 4000000
set_option maxRecDepth 100000
namespace Go.Proofs.YthmocomfjgmjoaaGreatDoor
open Go.RowKit
theorem RunLine_show (a b c : Value) (k : Con) (w : World) (h : ConRd w a b c k) (hs : ConSz k) (ht : TabE w) : Calls Tryz.prog 13 #[.agg #[a, b, c], .string wShow] w (ConRes w (k, orNoneB (imageLineG k.img))) := by
  obtain ⟨⟨a1, a2, a3, rfl⟩, ⟨b1, b2, b3, rfl⟩, ⟨d1, d2, d3, rfl⟩⟩ := h.shape
  have hk0 := Blk.keep (Blk.new w #[.slice a1 a2 a3, .slice b1 b2 b3, .slice d1 d2 d3] 34) (Below.pureAlloc _ (.cells NilC 34))
  have hb0 : Below w.heap.size w ((w.alloc (.cells #[.slice a1 a2 a3, .slice b1 b2 b3, .slice d1 d2 d3] 34)).alloc (.cells NilC 34)) := ((Below.refl _ _).alloc (Nat.le_refl _) _).alloc (by simp) _
  have HC := Lib.hid (h.keep hb0)
  have Hh := Lib.hid h
  have Hs := Lib.hid hs
  have Ht := Lib.hid ht
  have c0 := hk0.cell 0
  have c1 := hk0.cell 1
  have c2 := hk0.cell 2
  simp only [List.getElem?_toArray, List.getElem?_cons_zero, List.getElem?_cons_succ] at c0 c1 c2
  clear h hs hb0 hk0 ht
  have Hsp := Lib.hid wShow_split
  unfold wShow at Hsp ⊢
  go_enter Tryz.func13, Tryz.ntmps13
  go_wp2_with (fail)
  refine (copyConsole_c _ _ _ k _ HC.out Hs.out).mono ?_
  rintro e w1 ⟨va, vb, vc, rfl, ho, y1⟩
  obtain ⟨⟨p1, p2, p3, rfl⟩, ⟨q1, q2, q3, rfl⟩, ⟨r1, r2, r3, rfl⟩⟩ := ho.rd.shape
  have St := Lib.hid (RlSt.start rfl Hh.out y1 ho)
  clear ho y1 c0 c1 c2
  go_wp2_with (fail)
  refine (SplitAny_i _ 32 _ (by decide)).mono ?_
  rintro e w2 ⟨vw, rfl, ow, y2⟩
  rw [Hsp.out] at ow
  obtain ⟨gw, cw, rfl, hgw, hcw, -, -⟩ := ow.inv_ne (by decide)
  have hS := Lib.hid (St.out.keep y2)
  have Hw := Lib.hid ow.strs
  have w0 := Strs.at0 Hw.out (k := 0) rfl
  have hcw1 : 1 ≤ cw := hcw
  clear ow y2 St
  obtain ⟨P, hP⟩ : ∃ P, (if cw = 1 then (some ⟨gw, 0, none⟩ : Option Addr) else some ⟨gw, 1, none⟩) = P := ⟨_, rfl⟩
  obtain ⟨c0, c1, c2⟩ := hS.out.kc.c3
  obtain ⟨o0, o1, o2⟩ := hS.out.ko.c3
  obtain ⟨x0, x1, x2, f0, f1, f2⟩ := hS.out.kr.x3
  replace hS := Lib.hid hS.out.drew
  have hT := Lib.hid (Ht.out.keep hS.out.base)
  go_wp2
  refine wp_loop_rounds 1 ?_
  rw [rounds_succ]
  go_wp2
  go_region_with (first
    | (go_at_call 45; refine (ImageLine_ig _ k.img _ hS.out.rd.m hT.out.1).mono ?_; rintro e w3 ⟨rfl, y3⟩; replace hS := Lib.hid (hS.out.keep y3); obtain ⟨o0, o1, o2⟩ := hS.out.ko.c3; obtain ⟨x0, x1, x2, f0, f1, f2⟩ := hS.out.kr.x3)
    | (go_at_call 44; refine (orNone_c _ _).mono ?_; rintro e w' ⟨rfl, rfl⟩))
  all_goals go_wp2
  all_goals
    obtain ⟨⟨e0, e1, e2⟩, hfin⟩ := (hS.out.done).fin
    exact bodyPost_ret (v := .tuple #[.agg #[.slice p1 p2 p3, .slice q1 q2 q3, .slice r1 r2 r3], .string (orNoneB (imageLineG k.img))]) (by simp [results, Tryz.results13, go_sem, e0, e1, e2]) rfl (hfin _)
theorem RunLine_build (a b c : Value) (k : Con) (w : World) (h : ConRd w a b c k) (hs : ConSz k) (ht : TabE w) : Calls Tryz.prog 13 #[.agg #[a, b, c], .string wBuild] w (ConRes w (putR k (buildG k.rows k.cols))) := by
  obtain ⟨⟨a1, a2, a3, rfl⟩, ⟨b1, b2, b3, rfl⟩, ⟨d1, d2, d3, rfl⟩⟩ := h.shape
  have hk0 := Blk.keep (Blk.new w #[.slice a1 a2 a3, .slice b1 b2 b3, .slice d1 d2 d3] 34) (Below.pureAlloc _ (.cells NilC 34))
  have hb0 : Below w.heap.size w ((w.alloc (.cells #[.slice a1 a2 a3, .slice b1 b2 b3, .slice d1 d2 d3] 34)).alloc (.cells NilC 34)) := ((Below.refl _ _).alloc (Nat.le_refl _) _).alloc (by simp) _
  have HC := Lib.hid (h.keep hb0)
  have Hh := Lib.hid h
  have Hs := Lib.hid hs
  have Ht := Lib.hid ht
  have c0 := hk0.cell 0
  have c1 := hk0.cell 1
  have c2 := hk0.cell 2
  simp only [List.getElem?_toArray, List.getElem?_cons_zero, List.getElem?_cons_succ] at c0 c1 c2
  clear h hs hb0 hk0 ht
  have Hsp := Lib.hid wBuild_split
  unfold wBuild at Hsp ⊢
  go_enter Tryz.func13, Tryz.ntmps13
  go_wp2_with (fail)
  refine (copyConsole_c _ _ _ k _ HC.out Hs.out).mono ?_
  rintro e w1 ⟨va, vb, vc, rfl, ho, y1⟩
  obtain ⟨⟨p1, p2, p3, rfl⟩, ⟨q1, q2, q3, rfl⟩, ⟨r1, r2, r3, rfl⟩⟩ := ho.rd.shape
  have St := Lib.hid (RlSt.start rfl Hh.out y1 ho)
  clear ho y1 c0 c1 c2
  go_wp2_with (fail)
  refine (SplitAny_i _ 32 _ (by decide)).mono ?_
  rintro e w2 ⟨vw, rfl, ow, y2⟩
  rw [Hsp.out] at ow
  obtain ⟨gw, cw, rfl, hgw, hcw, -, -⟩ := ow.inv_ne (by decide)
  have hS := Lib.hid (St.out.keep y2)
  have Hw := Lib.hid ow.strs
  have w0 := Strs.at0 Hw.out (k := 0) rfl
  have hcw1 : 1 ≤ cw := hcw
  clear ow y2 St
  obtain ⟨P, hP⟩ : ∃ P, (if cw = 1 then (some ⟨gw, 0, none⟩ : Option Addr) else some ⟨gw, 1, none⟩) = P := ⟨_, rfl⟩
  obtain ⟨c0, c1, c2⟩ := hS.out.kc.c3
  obtain ⟨o0, o1, o2⟩ := hS.out.ko.c3
  obtain ⟨x0, x1, x2, f0, f1, f2⟩ := hS.out.kr.x3
  have hT := Lib.hid (Ht.out.keep hS.out.base)
  go_wp2
  refine wp_loop_rounds 1 ?_
  rw [rounds_succ]
  go_wp2_with (fail)
  refine (BuildImage_i _ _ k.rows k.cols _ hS.out.rd.r hS.out.rd.c).mono ?_
  obtain ⟨o, ho⟩ : ∃ o, buildG k.rows k.cols = o := ⟨_, rfl⟩
  rw [ho]
  rintro e w3 ⟨mv, rfl, om, y3⟩
  obtain ⟨m1, m2, m3, rfl⟩ := om.shape
  have hs3 : w2.heap.size ≤ w3.heap.size := y3.size
  have hs2 : w1.heap.size < w2.heap.size := hS.out.ko.lt
  replace hS := Lib.hid (hS.out.keep y3)
  clear c0 c1 c2 o0 o1 o2 x0 x1 x2 f0 f1 f2
  cases o with
  | none =>
    have Hr := Lib.hid (show putR k (buildG k.rows k.cols) = (k, noneB) from by rw [ho]; rfl)
    clear om ho
    go_wp2_with (fail)
    refine (put_no w1.heap.size _ _ _ _ _ _ _ _ _ _ _ _ _ hS.out.ko).mono ?_
    rintro e w4 ⟨rfl, y4⟩
    replace hS := Lib.hid (hS.out.keep y4)
    obtain ⟨x0, x1, x2, f0, f1, f2⟩ := hS.out.kr.x3
    go_wp2
    obtain ⟨⟨e0, e1, e2⟩, hfin⟩ := (hS.out.done).fin
    exact bodyPost_ret (v := .tuple #[.agg #[.slice p1 p2 p3, .slice q1 q2 q3, .slice r1 r2 r3], .string noneB]) (by simp [results, Tryz.results13, go_sem, e0, e1, e2, noneB]) rfl (by rw [Hr.out]; exact hfin _)
  | some m =>
    have Hr := Lib.hid (show putR k (buildG k.rows k.cols) = (⟨m, k.rows, k.cols⟩, formatImage m) from by rw [ho]; rfl)
    have Om := Lib.hid (show Own 32 (Own 3 IntV) (Iv w2.heap.size w3.heap.size) w3 (.slice m1 m2 m3) m from om)
    clear om ho
    go_wp2_with (fail)
    refine (put_yes w1.heap.size w2.heap.size w3.heap.size _ _ _ _ _ _ _ _ _ _ _ _ m _ hS.out.ko Om.out (Nat.le_refl _) (.inl (by omega))).mono ?_
    rintro e w4 ⟨rfl, on⟩
    have hE := Lib.hid (hS.out.put Om.out hs2 (Nat.le_refl _) on)
    obtain ⟨x0, x1, x2, f0, f1, f2⟩ := hE.out.kr.x3
    go_wp2
    obtain ⟨⟨e0, e1, e2⟩, hfin⟩ := (hE.out).fin
    exact bodyPost_ret (v := .tuple #[.agg #[.slice m1 m2 m3, .slice q1 q2 q3, .slice r1 r2 r3], .string (formatImage m)]) (by simp [results, Tryz.results13, go_sem, e0, e1, e2]) rfl (by rw [Hr.out]; exact hfin _)
theorem RunLine_least (a b c : Value) (k : Con) (w : World) (h : ConRd w a b c k) (hs : ConSz k) (ht : TabE w) : Calls Tryz.prog 13 #[.agg #[a, b, c], .string wLeast] w (ConRes w (putR k (leastG k.rows k.cols))) := by
  obtain ⟨⟨a1, a2, a3, rfl⟩, ⟨b1, b2, b3, rfl⟩, ⟨d1, d2, d3, rfl⟩⟩ := h.shape
  have hk0 := Blk.keep (Blk.new w #[.slice a1 a2 a3, .slice b1 b2 b3, .slice d1 d2 d3] 34) (Below.pureAlloc _ (.cells NilC 34))
  have hb0 : Below w.heap.size w ((w.alloc (.cells #[.slice a1 a2 a3, .slice b1 b2 b3, .slice d1 d2 d3] 34)).alloc (.cells NilC 34)) := ((Below.refl _ _).alloc (Nat.le_refl _) _).alloc (by simp) _
  have HC := Lib.hid (h.keep hb0)
  have Hh := Lib.hid h
  have Hs := Lib.hid hs
  have Ht := Lib.hid ht
  have c0 := hk0.cell 0
  have c1 := hk0.cell 1
  have c2 := hk0.cell 2
  simp only [List.getElem?_toArray, List.getElem?_cons_zero, List.getElem?_cons_succ] at c0 c1 c2
  clear h hs hb0 hk0 ht
  have Hsp := Lib.hid wLeast_split
  unfold wLeast at Hsp ⊢
  go_enter Tryz.func13, Tryz.ntmps13
  go_wp2_with (fail)
  refine (copyConsole_c _ _ _ k _ HC.out Hs.out).mono ?_
  rintro e w1 ⟨va, vb, vc, rfl, ho, y1⟩
  obtain ⟨⟨p1, p2, p3, rfl⟩, ⟨q1, q2, q3, rfl⟩, ⟨r1, r2, r3, rfl⟩⟩ := ho.rd.shape
  have St := Lib.hid (RlSt.start rfl Hh.out y1 ho)
  clear ho y1 c0 c1 c2
  go_wp2_with (fail)
  refine (SplitAny_i _ 32 _ (by decide)).mono ?_
  rintro e w2 ⟨vw, rfl, ow, y2⟩
  rw [Hsp.out] at ow
  obtain ⟨gw, cw, rfl, hgw, hcw, -, -⟩ := ow.inv_ne (by decide)
  have hS := Lib.hid (St.out.keep y2)
  have Hw := Lib.hid ow.strs
  have w0 := Strs.at0 Hw.out (k := 0) rfl
  have hcw1 : 1 ≤ cw := hcw
  clear ow y2 St
  obtain ⟨P, hP⟩ : ∃ P, (if cw = 1 then (some ⟨gw, 0, none⟩ : Option Addr) else some ⟨gw, 1, none⟩) = P := ⟨_, rfl⟩
  obtain ⟨c0, c1, c2⟩ := hS.out.kc.c3
  obtain ⟨o0, o1, o2⟩ := hS.out.ko.c3
  obtain ⟨x0, x1, x2, f0, f1, f2⟩ := hS.out.kr.x3
  have hT := Lib.hid (Ht.out.keep hS.out.base)
  go_wp2
  refine wp_loop_rounds 1 ?_
  rw [rounds_succ]
  go_wp2_with (fail)
  refine (LeastImage_i _ _ k.rows k.cols _ hS.out.rd.r hS.out.rd.c).mono ?_
  obtain ⟨o, ho⟩ : ∃ o, leastG k.rows k.cols = o := ⟨_, rfl⟩
  rw [ho]
  rintro e w3 ⟨mv, rfl, om, y3⟩
  obtain ⟨m1, m2, m3, rfl⟩ := om.shape
  have hs3 : w2.heap.size ≤ w3.heap.size := y3.size
  have hs2 : w1.heap.size < w2.heap.size := hS.out.ko.lt
  replace hS := Lib.hid (hS.out.keep y3)
  clear c0 c1 c2 o0 o1 o2 x0 x1 x2 f0 f1 f2
  cases o with
  | none =>
    have Hr := Lib.hid (show putR k (leastG k.rows k.cols) = (k, noneB) from by rw [ho]; rfl)
    clear om ho
    go_wp2_with (fail)
    refine (put_no w1.heap.size _ _ _ _ _ _ _ _ _ _ _ _ _ hS.out.ko).mono ?_
    rintro e w4 ⟨rfl, y4⟩
    replace hS := Lib.hid (hS.out.keep y4)
    obtain ⟨x0, x1, x2, f0, f1, f2⟩ := hS.out.kr.x3
    go_wp2
    obtain ⟨⟨e0, e1, e2⟩, hfin⟩ := (hS.out.done).fin
    exact bodyPost_ret (v := .tuple #[.agg #[.slice p1 p2 p3, .slice q1 q2 q3, .slice r1 r2 r3], .string noneB]) (by simp [results, Tryz.results13, go_sem, e0, e1, e2, noneB]) rfl (by rw [Hr.out]; exact hfin _)
  | some m =>
    have Hr := Lib.hid (show putR k (leastG k.rows k.cols) = (⟨m, k.rows, k.cols⟩, formatImage m) from by rw [ho]; rfl)
    have Om := Lib.hid (show Own 32 (Own 3 IntV) (Iv w2.heap.size w3.heap.size) w3 (.slice m1 m2 m3) m from om)
    clear om ho
    go_wp2_with (fail)
    refine (put_yes w1.heap.size w2.heap.size w3.heap.size _ _ _ _ _ _ _ _ _ _ _ _ m _ hS.out.ko Om.out (Nat.le_refl _) (.inl (by omega))).mono ?_
    rintro e w4 ⟨rfl, on⟩
    have hE := Lib.hid (hS.out.put Om.out hs2 (Nat.le_refl _) on)
    obtain ⟨x0, x1, x2, f0, f1, f2⟩ := hE.out.kr.x3
    go_wp2
    obtain ⟨⟨e0, e1, e2⟩, hfin⟩ := (hE.out).fin
    exact bodyPost_ret (v := .tuple #[.agg #[.slice m1 m2 m3, .slice q1 q2 q3, .slice r1 r2 r3], .string (formatImage m)]) (by simp [results, Tryz.results13, go_sem, e0, e1, e2]) rfl (by rw [Hr.out]; exact hfin _)
end Go.Proofs.YthmocomfjgmjoaaGreatDoor

/- RunLine of the program: repair. -/
import Derived.Test.YthmocomfjgmjoaaGreatDoorKRa
import Derived.Test.YthmocomfjgmjoaaGreatDoorQ27
set_option maxHeartbeats 4000000
set_option maxRecDepth 100000
namespace Go.Proofs.YthmocomfjgmjoaaGreatDoor
open Go.RowKit
theorem RunLine_repair (a b c : Value) (k : Con) (w : World) (h : ConRd w a b c k) (hs : ConSz k) (ht : TabE w) : Calls Tryz.prog 13 #[.agg #[a, b, c], .string wRepair] w (ConRes w (k, repText k.rows k.cols)) := by
  obtain ⟨⟨a1, a2, a3, rfl⟩, ⟨b1, b2, b3, rfl⟩, ⟨d1, d2, d3, rfl⟩⟩ := h.shape
  have hk0 := Blk.keep (Blk.new w #[.slice a1 a2 a3, .slice b1 b2 b3, .slice d1 d2 d3] 34) (Below.pureAlloc _ (.cells NilC 34))
  have hb0 : Below w.heap.size w ((w.alloc (.cells #[.slice a1 a2 a3, .slice b1 b2 b3, .slice d1 d2 d3] 34)).alloc (.cells NilC 34)) := ((Below.refl _ _).alloc (Nat.le_refl _) _).alloc (by simp) _
  have HC := Lib.hid (h.keep hb0)
  have Hh := Lib.hid h
  have Hs := Lib.hid hs
  have Ht := Lib.hid ht
  have c0 := hk0.cell 0
  have c1 := hk0.cell 1
  have c2 := hk0.cell 2
  simp only [List.getElem?_toArray, List.getElem?_cons_zero, List.getElem?_cons_succ] at c0 c1 c2
  clear h hs hb0 hk0 ht
  have Hsp := Lib.hid wRepair_split
  unfold wRepair at Hsp ⊢
  go_enter Tryz.func13, Tryz.ntmps13
  go_wp2_with (fail)
  refine (copyConsole_c _ _ _ k _ HC.out Hs.out).mono ?_
  rintro e w1 ⟨va, vb, vc, rfl, ho, y1⟩
  obtain ⟨⟨p1, p2, p3, rfl⟩, ⟨q1, q2, q3, rfl⟩, ⟨r1, r2, r3, rfl⟩⟩ := ho.rd.shape
  have St := Lib.hid (RlSt.start rfl Hh.out y1 ho)
  clear ho y1 c0 c1 c2
  go_wp2_with (fail)
  refine (SplitAny_i _ 32 _ (by decide)).mono ?_
  rintro e w2 ⟨vw, rfl, ow, y2⟩
  rw [Hsp.out] at ow
  obtain ⟨gw, cw, rfl, hgw, hcw, -, -⟩ := ow.inv_ne (by decide)
  have hS := Lib.hid (St.out.keep y2)
  have Hw := Lib.hid ow.strs
  have w0 := Strs.at0 Hw.out (k := 0) rfl
  have hcw1 : 1 ≤ cw := hcw
  clear ow y2 St
  obtain ⟨P, hP⟩ : ∃ P, (if cw = 1 then (some ⟨gw, 0, none⟩ : Option Addr) else some ⟨gw, 1, none⟩) = P := ⟨_, rfl⟩
  obtain ⟨c0, c1, c2⟩ := hS.out.kc.c3
  obtain ⟨o0, o1, o2⟩ := hS.out.ko.c3
  obtain ⟨x0, x1, x2, f0, f1, f2⟩ := hS.out.kr.x3
  have hT := Lib.hid (Ht.out.keep hS.out.base)
  go_wp2
  refine wp_loop_rounds 1 ?_
  rw [rounds_succ]
  go_wp2_with (fail)
  refine (RepairSums_i _ _ k.rows k.cols _ hS.out.rd.r hS.out.rd.c).mono ?_
  have hl1 := repRows_len k.rows k.cols
  have hl2 := repCols_len k.rows k.cols
  obtain ⟨A, hA⟩ : ∃ A, repRows k.rows k.cols = A := ⟨_, rfl⟩
  obtain ⟨B, hB⟩ : ∃ B, repCols k.rows k.cols = B := ⟨_, rfl⟩
  obtain ⟨z, hz⟩ : ∃ z, (closest k.rows k.cols).isSome = z := ⟨_, rfl⟩
  rw [hA, hB, hz]
  rw [hA] at hl1
  rw [hB] at hl2
  rintro e w3 ⟨va, vb, M, hM1, hM2, rfl, oa, ob, y3⟩
  have Hr := Lib.hid (show repText k.rows k.cols = if z = true then sumsText A ++ ⟨#[32]⟩ ++ sumsText B else noneB from by unfold repText; rw [hA, hB, hz])
  have sz := repSz (ints_64 oa.ints) (ints_64 ob.ints) hl1 hl2
  replace hS := Lib.hid (hS.out.keep y3)
  replace hT := Lib.hid (show TabE w3.drew from (hT.out.keep y3).keep (Below.refl _ _).drew)
  have Ha := Lib.hid (show Ints w3.drew va A from oa.ints)
  have Hb := Lib.hid (show Ints w3.drew vb B from ob.ints)
  obtain ⟨l1, l2, l3, rfl⟩ := oa.shape
  obtain ⟨n1, n2, n3, rfl⟩ := ob.shape
  clear c0 c1 c2 o0 o1 o2 x0 x1 x2 f0 f1 f2 hA hB oa ob hz hM1 hM2
  obtain ⟨o0, o1, o2⟩ := hS.out.ko.c3
  obtain ⟨x0, x1, x2, f0, f1, f2⟩ := hS.out.kr.x3
  cases z
  · have Hr0 := Lib.hid (show repText k.rows k.cols = noneB from Hr.out)
    clear Hr
    go_wp2
    obtain ⟨⟨e0, e1, e2⟩, hfin⟩ := (hS.out.done).fin
    exact bodyPost_ret (v := .tuple #[.agg #[.slice p1 p2 p3, .slice q1 q2 q3, .slice r1 r2 r3], .string noneB]) (by simp [results, Tryz.results13, go_sem, e0, e1, e2, noneB]) rfl (by rw [Hr0.out]; exact hfin _)
  · have Hr0 := Lib.hid (show repText k.rows k.cols = sumsText A ++ ⟨#[32]⟩ ++ sumsText B from Hr.out)
    clear Hr
    obtain ⟨sa, sb, sc⟩ := sz
    replace hS := Lib.hid hS.out.drew
    have hTb := Lib.hid hT.out.1
    go_wp2
    go_region_with (first
      | (go_at_call 43; (with_reducible refine (FormatSums_i _ A _ Ha.out (by omega) hTb.out).mono ?_); rintro e w4 ⟨rfl, y4⟩; replace hS := Lib.hid (hS.out.keep y4); have hTc := Lib.hid (hTb.out.keep y4); replace Hb := Lib.hid (Hb.out.keep y4); obtain ⟨o0, o1, o2⟩ := hS.out.ko.c3; obtain ⟨x0, x1, x2, f0, f1, f2⟩ := hS.out.kr.x3)
      | (go_at_call 43; (with_reducible refine (FormatSums_i _ B _ Hb.out (by omega) hTc.out).mono ?_); rintro e w5 ⟨rfl, y5⟩; replace hS := Lib.hid (hS.out.keep y5); obtain ⟨o0, o1, o2⟩ := hS.out.ko.c3; obtain ⟨x0, x1, x2, f0, f1, f2⟩ := hS.out.kr.x3))
    all_goals go_wp2
    all_goals
      obtain ⟨⟨e0, e1, e2⟩, hfin⟩ := (hS.out.done).fin
      exact bodyPost_ret (v := .tuple #[.agg #[.slice p1 p2 p3, .slice q1 q2 q3, .slice r1 r2 r3], .string (sumsText A ++ ⟨#[32]⟩ ++ sumsText B)]) (by simp [results, Tryz.results13, go_sem, e0, e1, e2]) rfl (by rw [Hr0.out]; exact hfin _)
end Go.Proofs.YthmocomfjgmjoaaGreatDoor

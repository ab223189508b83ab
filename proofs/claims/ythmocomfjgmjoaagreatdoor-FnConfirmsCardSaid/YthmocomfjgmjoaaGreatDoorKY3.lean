/- RunLine of the program: flip, line. -/
import Derived.Test.YthmocomfjgmjoaaGreatDoorKRe
import Derived.Deep.RegionHeld3
set_option maxHeartbeats 4000000
set_option maxRecDepth 100000
namespace Go.Proofs.YthmocomfjgmjoaaGreatDoor
open Go.RowKit
theorem RunLine_flip (a b c : Value) (k : Con) (s : ByteArray) (al : List ByteArray) (n0 n1 : Int) (w : World) (h : ConRd w a b c k) (hs : ConSz k) (ht : TabE w) (hsz : s.size ≤ 1048576) (hsaid : isSaid s = false) (hsp : splitB s 32 = ⟨#[102, 108, 105, 112]⟩ :: al) (hn : al.length = 2) (hnum : numsOf al = [n0, n1]) : Calls Tryz.prog 13 #[.agg #[a, b, c], .string s] w (ConRes w (putR k (flipG k.img n0 n1))) := by
  obtain ⟨⟨a1, a2, a3, rfl⟩, ⟨b1, b2, b3, rfl⟩, ⟨d1, d2, d3, rfl⟩⟩ := h.shape
  have hk0 := Blk.keep (Blk.new w #[.slice a1 a2 a3, .slice b1 b2 b3, .slice d1 d2 d3] 34) (Below.pureAlloc _ (.cells NilC 34))
  have hb0 : Below w.heap.size w ((w.alloc (.cells #[.slice a1 a2 a3, .slice b1 b2 b3, .slice d1 d2 d3] 34)).alloc (.cells NilC 34)) := ((Below.refl _ _).alloc (Nat.le_refl _) _).alloc (by simp) _
  have HC := Lib.hid (h.keep hb0)
  have Hh := Lib.hid h
  have Hs := Lib.hid hs
  have Ht := Lib.hid ht
  have c0 := hk0.cell 0
  have c1 := hk0.cell 1
  have c2 := hk0.cell 2
  simp only [List.getElem?_toArray, List.getElem?_cons_zero, List.getElem?_cons_succ] at c0 c1 c2
  clear h hs hb0 hk0 ht
  obtain ⟨hs0, h35, hne⟩ := line_facts hsaid
  have Hps := Lib.hid (args_size hsp hsz)
  have Hsp := Lib.hid hsp
  have hal := args_len hsp hsz
  rw [hn] at hal
  have Hn := Lib.hid hn
  have Hnum := Lib.hid hnum
  clear hnum
  clear hsaid hsp hn
  go_enter Tryz.func13, Tryz.ntmps13
  go_wp2_with (fail)
  refine (copyConsole_c _ _ _ k _ HC.out Hs.out).mono ?_
  rintro e w1 ⟨va, vb, vc, rfl, ho, y1⟩
  obtain ⟨⟨p1, p2, p3, rfl⟩, ⟨q1, q2, q3, rfl⟩, ⟨r1, r2, r3, rfl⟩⟩ := ho.rd.shape
  have St := Lib.hid (RlSt.start rfl Hh.out y1 ho)
  clear ho y1 c0 c1 c2
  go_wp2_with (fail)
  refine (SplitAny_i _ 32 _ hsz).mono ?_
  rintro e w2 ⟨vw, rfl, ow, y2⟩
  rw [Hsp.out] at ow
  obtain ⟨gw, cw, rfl, hgw, hcw, -, -⟩ := ow.inv_ne (by simp)
  have hS := Lib.hid (St.out.keep y2)
  have Hw := Lib.hid ow.strs
  have w0 := Strs.at0 Hw.out (k := 0) rfl
  have hgl : gw < w2.heap.size := hgw.2
  have hSz : w1.heap.size < w2.heap.size := hS.out.ko.lt
  have hBo : w.heap.size + 2 ≤ w1.heap.size := by have := hS.out.hlo; have := hS.out.hlb; omega
  rw [List.length_cons, Hn.out] at hcw
  rw [List.length_cons, Hn.out]
  clear ow y2 St
  have hP : (if cw = 1 then (some ⟨gw, 0, none⟩ : Option Addr) else some ⟨gw, 1, none⟩) = some ⟨gw, 1, none⟩ := if_neg (by omega)
  have hT := Lib.hid (Ht.out.keep hS.out.base)
  go_wp2
  go_loopw [10, 12, 13, 14, 52] (fun v _ _ _ i wr => ∃ j : Nat, j ≤ 2 ∧ i = .int .i64 j ∧ Own 3 IntV (Iv w2.heap.size wr.heap.size) wr v (numsOf (al.take j)) ∧ Below w2.heap.size w2 wr) (fun _ _ _ _ i _ => 2 - (intOf i).toNat)
  case atStart => exact ⟨0, Nat.zero_le _, rfl, Own.nil _ _ _ _, Below.refl _ _⟩
  case round =>
    obtain ⟨j, hj, rfl, hown, hbel⟩ := hrel
    obtain ⟨wo, rfl⟩ : ∃ wo : World, wo = wr := ⟨_, rfl⟩
    have hBs := hbel.size
    by_cases hlt : j < 2
    · obtain ⟨q, hq⟩ : ∃ q, al[j]? = some q := ⟨_, List.getElem?_eq_getElem (by rw [Hn.out]; exact hlt)⟩
      have hck := Strs.at1 Hw.out hq
      rw [← hbel.cell (p := ⟨gw, 1 + j, none⟩) hgl] at hck
      have hqs := Hps.out q (List.mem_of_getElem? hq)
      have Hst := Lib.hid (numsOf_step hq)
      have hkl : (numsOf (al.take j)).length < 1099511627776 := by
        have h1 := numsOf_len (al.take j)
        have h2 := List.length_take_le j al
        omega
      obtain ⟨m1, m2, m3, rfl⟩ := hown.shape
      have Hown := Lib.hid hown
      clear hq hown
      go_wp2_with (fail)
      refine (ParseInt_i _ _ hqs (hT.out.keep hbel)).mono ?_
      rintro e w3 ⟨rfl, b3⟩
      have hs3 := b3.size
      cases hy : parseYes q
      · have Hy := Lib.hid hy
        have hb3 := hbel.trans (b3.mono hBs)
        have Hk := Lib.hid (Own.keep rIntV Hown.out b3 (Nat.le_refl _))
        clear hy
        go_wp2
        go_roundw
        case rel => exact ⟨j + 1, by omega, by go_num, by rw [Hst.out, Hy.out]; exact (rOwn rIntV).mono (fun b hb => ⟨hb.1, by have := hb.2; omega⟩) Hk.out, hb3⟩
        case measure => simp [intOf]; omega
      · have Hy := Lib.hid hy
        have hI := (parse_text hy).2
        have hbo := hbel.trans (b3.mono hBs)
        clear hy
        go_wp2_with (first | (at_builtin; (refine wpList_appR rfl _ _ 32 rfl rIntV 3 Tryz.underlying32 infoInt rfl (by decide) w2.heap.size wo.heap.size hBs hs3 rfl rfl (by exact Own.keep rIntV Hown.out b3 (Nat.le_refl _)) (by exact ⟨rfl, hI⟩) hkl ?_); intro v4 w4 hown4 hbel4 _) | fail)
        have hb4 := hbo.trans hbel4
        have Hown4 := Lib.hid hown4
        clear hown4
        go_wp2
        go_roundw
        case rel => exact ⟨j + 1, by omega, by go_num, by rw [Hst.out, Hy.out]; exact Hown4.out, hb4⟩
        case measure => simp [intOf]; omega
    · have hj' : al.length ≤ j := by rw [Hn.out]; omega
      rw [List.take_of_length_le hj'] at hown
      have hTw := Lib.hid (hT.out.keep hbel)
      replace hS := Lib.hid (hS.out.keep hbel)
      replace w0 := (hbel.cell (p := ⟨gw, 0, none⟩) hgl).trans w0
      obtain ⟨c0, c1, c2⟩ := hS.out.kc.c3
      obtain ⟨o0, o1, o2⟩ := hS.out.ko.c3
      obtain ⟨x0, x1, x2, f0, f1, f2⟩ := hS.out.kr.x3
      rw [Hnum.out] at hown
      obtain ⟨gm, cm, hv, hgm, hcm, -, -⟩ := hown.inv_ne (by simp)
      replace hv : _ = Value.slice (some ⟨gm, 0, none⟩) 2 cm := hv
      subst hv
      replace hcm : 2 ≤ cm := hcm
      have hIn := hown.ints
      have i0 : wo.cell? ⟨gm, 0, none⟩ = some (.int .i64 n0) := Ints.at0 hIn (k := 0) rfl
      have i1 : wo.cell? ⟨gm, 1, none⟩ = some (.int .i64 n1) := Ints.at0 hIn (k := 1) rfl
      have hgw' := hgm.1
      have hne1 : (⟨gm, 0, none⟩ : Addr).block ≠ w.heap.size + 1 := by show gm ≠ w.heap.size + 1; omega
      have hgb : ¬ gm = w1.heap.size := by omega
      have HOn := Lib.hid hown
      clear hown hIn
      have hdw : w1.heap.size < wo.drew.heap.size := by show w1.heap.size < wo.heap.size; omega
      have hcr := celG_range k.img n0 n1
      obtain ⟨C, hC⟩ : ∃ C, celG k.img n0 n1 = C := ⟨_, rfl⟩
      have Hf := Lib.hid (show flipG k.img n0 n1 = putG k.img n0 n1 (1 - C) from by unfold flipG; rw [hC])
      have HC := Lib.hid hC
      rw [hC] at hcr
      have Hwr := Lib.hid (show IntKind.i64.wrap (1 - C) = 1 - C from by rw [IntKind.wrap_i64]; omega)
      clear hC
      have Hgm := Lib.hid (show Grid wo.drew _ k.img from hS.out.drew.rd.m)
      have hC := Lib.hid hS.out.kc
      have hne0 : (⟨w.heap.size, 0, none⟩ : Addr).block ≠ w.heap.size + 1 := by show w.heap.size ≠ w.heap.size + 1; omega
      have hne2 : ¬ w.heap.size = w1.heap.size := by omega
      go_wp2_with (fail)
      go_region_held3 (fun w' => w'.cell? ⟨w.heap.size, 0, none⟩ = some (.slice a1 a2 a3) ∧ w'.cell? ⟨gm, 0, none⟩ = some (.int .i64 n0) ∧ w'.cell? ⟨gm, 1, none⟩ = some (.int .i64 n1)) (first | exact ⟨c0, i0, i1⟩ | exact ⟨(set3_cell _ _ _ _ _ hne0).trans c0, (set3_cell _ _ _ _ _ hne1).trans i0, (set3_cell _ _ _ _ _ hne1).trans i1⟩) (first
        | (go_at_call 39; refine (CellAt_i _ k.img n0 n1 _ Hgm.out).mono ?_; rw [HC.out]; rintro e w4 ⟨rfl, rfl⟩)
        | (go_at_call 38; (try rw [Hwr.out]); (with_reducible refine (PutCell_i _ k.img n0 n1 (1 - C) _ Hgm.out).mono ?_); rintro e w4 ⟨mv, rfl, om, y4⟩; obtain ⟨l1, l2, l3, rfl⟩ := om.shape; have Om := Lib.hid om; clear om; replace hS := Lib.hid (hS.out.drew.keep y4); replace hC := Lib.hid hS.out.kc; replace HOn := Lib.hid (Own.keep rIntV HOn.out ((Below.refl wo.heap.size wo).drew.trans_pure y4 (Nat.le_refl _)) (Nat.le_refl _)); have hs4 : wo.heap.size ≤ w4.heap.size := y4.size; have c0 : w4.cell? ⟨w.heap.size, 0, none⟩ = some (.slice a1 a2 a3) := hC.out.cell 0; have i0 : w4.cell? ⟨gm, 0, none⟩ = some (.int .i64 n0) := Ints.at0 HOn.out.ints (k := 0) rfl; have i1 : w4.cell? ⟨gm, 1, none⟩ = some (.int .i64 n1) := Ints.at0 HOn.out.ints (k := 1) rfl)
        | (go_at_call 29; refine (put_any hS.out Om.out hdw (Nat.le_refl _)).mono ?_; rintro e w5 ⟨z1, z2, z3, rfl, hE, on⟩; replace hC := Lib.hid (hC.out.only on hne2); replace HOn := Lib.hid (Own.only rIntV HOn.out on (fun b hb => by have := hb.2; omega) (fun b hb e => by have := hb.1; have : b = w1.heap.size := e; omega)); have HE := Lib.hid hE; clear hE; have c0 : w5.cell? ⟨w.heap.size, 0, none⟩ = some (.slice a1 a2 a3) := hC.out.cell 0; have i0 : w5.cell? ⟨gm, 0, none⟩ = some (.int .i64 n0) := Ints.at0 HOn.out.ints (k := 0) rfl; have i1 : w5.cell? ⟨gm, 1, none⟩ = some (.int .i64 n1) := Ints.at0 HOn.out.ints (k := 1) rfl; obtain ⟨x0, x1, x2, f0, f1, f2⟩ := HE.out.kr.x3))
      go_wp2
      obtain ⟨⟨e0, e1, e2⟩, hfin⟩ := (HE.out).fin
      exact bodyPost_ret (v := .tuple #[.agg #[.slice z1 z2 z3, .slice q1 q2 q3, .slice r1 r2 r3], .string (putR k (putG k.img n0 n1 (1 - C))).2]) (by simp [results, Tryz.results13, go_sem, e0, e1, e2]) rfl (by rw [Hf.out]; exact hfin _)
theorem RunLine_line0 (a b c : Value) (k : Con) (s : ByteArray) (al : List ByteArray) (n0 n1 : Int) (w : World) (h : ConRd w a b c k) (hs : ConSz k) (ht : TabE w) (hsz : s.size ≤ 1048576) (hsaid : isSaid s = false) (hsp : splitB s 32 = ⟨#[108, 105, 110, 101]⟩ :: al) (hn : al.length = 2) (hnum : numsOf al = [n0, n1]) (hls : lineSums k.img n0 n1 = []) : Calls Tryz.prog 13 #[.agg #[a, b, c], .string s] w (ConRes w (k, noneB)) := by
  obtain ⟨⟨a1, a2, a3, rfl⟩, ⟨b1, b2, b3, rfl⟩, ⟨d1, d2, d3, rfl⟩⟩ := h.shape
  have hk0 := Blk.keep (Blk.new w #[.slice a1 a2 a3, .slice b1 b2 b3, .slice d1 d2 d3] 34) (Below.pureAlloc _ (.cells NilC 34))
  have hb0 : Below w.heap.size w ((w.alloc (.cells #[.slice a1 a2 a3, .slice b1 b2 b3, .slice d1 d2 d3] 34)).alloc (.cells NilC 34)) := ((Below.refl _ _).alloc (Nat.le_refl _) _).alloc (by simp) _
  have HC := Lib.hid (h.keep hb0)
  have Hh := Lib.hid h
  have Hs := Lib.hid hs
  have Ht := Lib.hid ht
  have c0 := hk0.cell 0
  have c1 := hk0.cell 1
  have c2 := hk0.cell 2
  simp only [List.getElem?_toArray, List.getElem?_cons_zero, List.getElem?_cons_succ] at c0 c1 c2
  clear h hs hb0 hk0 ht
  obtain ⟨hs0, h35, hne⟩ := line_facts hsaid
  have Hps := Lib.hid (args_size hsp hsz)
  have Hsp := Lib.hid hsp
  have hal := args_len hsp hsz
  rw [hn] at hal
  have Hn := Lib.hid hn
  have Hnum := Lib.hid hnum
  clear hnum
  have Hls := Lib.hid hls
  clear hls
  clear hsaid hsp hn
  go_enter Tryz.func13, Tryz.ntmps13
  go_wp2_with (fail)
  refine (copyConsole_c _ _ _ k _ HC.out Hs.out).mono ?_
  rintro e w1 ⟨va, vb, vc, rfl, ho, y1⟩
  obtain ⟨⟨p1, p2, p3, rfl⟩, ⟨q1, q2, q3, rfl⟩, ⟨r1, r2, r3, rfl⟩⟩ := ho.rd.shape
  have St := Lib.hid (RlSt.start rfl Hh.out y1 ho)
  clear ho y1 c0 c1 c2
  go_wp2_with (fail)
  refine (SplitAny_i _ 32 _ hsz).mono ?_
  rintro e w2 ⟨vw, rfl, ow, y2⟩
  rw [Hsp.out] at ow
  obtain ⟨gw, cw, rfl, hgw, hcw, -, -⟩ := ow.inv_ne (by simp)
  have hS := Lib.hid (St.out.keep y2)
  have Hw := Lib.hid ow.strs
  have w0 := Strs.at0 Hw.out (k := 0) rfl
  have hgl : gw < w2.heap.size := hgw.2
  have hSz : w1.heap.size < w2.heap.size := hS.out.ko.lt
  have hBo : w.heap.size + 2 ≤ w1.heap.size := by have := hS.out.hlo; have := hS.out.hlb; omega
  rw [List.length_cons, Hn.out] at hcw
  rw [List.length_cons, Hn.out]
  clear ow y2 St
  have hP : (if cw = 1 then (some ⟨gw, 0, none⟩ : Option Addr) else some ⟨gw, 1, none⟩) = some ⟨gw, 1, none⟩ := if_neg (by omega)
  have hT := Lib.hid (Ht.out.keep hS.out.base)
  go_wp2
  go_loopw [10, 12, 13, 14, 52] (fun v _ _ _ i wr => ∃ j : Nat, j ≤ 2 ∧ i = .int .i64 j ∧ Own 3 IntV (Iv w2.heap.size wr.heap.size) wr v (numsOf (al.take j)) ∧ Below w2.heap.size w2 wr) (fun _ _ _ _ i _ => 2 - (intOf i).toNat)
  case atStart => exact ⟨0, Nat.zero_le _, rfl, Own.nil _ _ _ _, Below.refl _ _⟩
  case round =>
    obtain ⟨j, hj, rfl, hown, hbel⟩ := hrel
    obtain ⟨wo, rfl⟩ : ∃ wo : World, wo = wr := ⟨_, rfl⟩
    have hBs := hbel.size
    by_cases hlt : j < 2
    · obtain ⟨q, hq⟩ : ∃ q, al[j]? = some q := ⟨_, List.getElem?_eq_getElem (by rw [Hn.out]; exact hlt)⟩
      have hck := Strs.at1 Hw.out hq
      rw [← hbel.cell (p := ⟨gw, 1 + j, none⟩) hgl] at hck
      have hqs := Hps.out q (List.mem_of_getElem? hq)
      have Hst := Lib.hid (numsOf_step hq)
      have hkl : (numsOf (al.take j)).length < 1099511627776 := by
        have h1 := numsOf_len (al.take j)
        have h2 := List.length_take_le j al
        omega
      obtain ⟨m1, m2, m3, rfl⟩ := hown.shape
      have Hown := Lib.hid hown
      clear hq hown
      go_wp2_with (fail)
      refine (ParseInt_i _ _ hqs (hT.out.keep hbel)).mono ?_
      rintro e w3 ⟨rfl, b3⟩
      have hs3 := b3.size
      cases hy : parseYes q
      · have Hy := Lib.hid hy
        have hb3 := hbel.trans (b3.mono hBs)
        have Hk := Lib.hid (Own.keep rIntV Hown.out b3 (Nat.le_refl _))
        clear hy
        go_wp2
        go_roundw
        case rel => exact ⟨j + 1, by omega, by go_num, by rw [Hst.out, Hy.out]; exact (rOwn rIntV).mono (fun b hb => ⟨hb.1, by have := hb.2; omega⟩) Hk.out, hb3⟩
        case measure => simp [intOf]; omega
      · have Hy := Lib.hid hy
        have hI := (parse_text hy).2
        have hbo := hbel.trans (b3.mono hBs)
        clear hy
        go_wp2_with (first | (at_builtin; (refine wpList_appR rfl _ _ 32 rfl rIntV 3 Tryz.underlying32 infoInt rfl (by decide) w2.heap.size wo.heap.size hBs hs3 rfl rfl (by exact Own.keep rIntV Hown.out b3 (Nat.le_refl _)) (by exact ⟨rfl, hI⟩) hkl ?_); intro v4 w4 hown4 hbel4 _) | fail)
        have hb4 := hbo.trans hbel4
        have Hown4 := Lib.hid hown4
        clear hown4
        go_wp2
        go_roundw
        case rel => exact ⟨j + 1, by omega, by go_num, by rw [Hst.out, Hy.out]; exact Hown4.out, hb4⟩
        case measure => simp [intOf]; omega
    · have hj' : al.length ≤ j := by rw [Hn.out]; omega
      rw [List.take_of_length_le hj'] at hown
      have hTw := Lib.hid (hT.out.keep hbel)
      replace hS := Lib.hid (hS.out.keep hbel)
      replace w0 := (hbel.cell (p := ⟨gw, 0, none⟩) hgl).trans w0
      obtain ⟨c0, c1, c2⟩ := hS.out.kc.c3
      obtain ⟨o0, o1, o2⟩ := hS.out.ko.c3
      obtain ⟨x0, x1, x2, f0, f1, f2⟩ := hS.out.kr.x3
      rw [Hnum.out] at hown
      obtain ⟨gm, cm, hv, hgm, hcm, -, -⟩ := hown.inv_ne (by simp)
      replace hv : _ = Value.slice (some ⟨gm, 0, none⟩) 2 cm := hv
      subst hv
      replace hcm : 2 ≤ cm := hcm
      have hIn := hown.ints
      have i0 : wo.cell? ⟨gm, 0, none⟩ = some (.int .i64 n0) := Ints.at0 hIn (k := 0) rfl
      have i1 : wo.cell? ⟨gm, 1, none⟩ = some (.int .i64 n1) := Ints.at0 hIn (k := 1) rfl
      have hgw' := hgm.1
      have hne1 : (⟨gm, 0, none⟩ : Addr).block ≠ w.heap.size + 1 := by show gm ≠ w.heap.size + 1; omega
      have hgb : ¬ gm = w1.heap.size := by omega
      have HOn := Lib.hid hown
      clear hown hIn
      have hdw : w1.heap.size < wo.drew.heap.size := by show w1.heap.size < wo.heap.size; omega
      have hC := Lib.hid hS.out.kc
      have hne0 : (⟨w.heap.size, 0, none⟩ : Addr).block ≠ w.heap.size + 1 := by show w.heap.size ≠ w.heap.size + 1; omega
      have hne2 : ¬ w.heap.size = w1.heap.size := by omega
      go_wp2_with (fail)
      go_region_held3 (fun w' => w'.cell? ⟨w.heap.size, 0, none⟩ = some (.slice a1 a2 a3) ∧ w'.cell? ⟨gm, 0, none⟩ = some (.int .i64 n0) ∧ w'.cell? ⟨gm, 1, none⟩ = some (.int .i64 n1)) (first | exact ⟨c0, i0, i1⟩ | exact ⟨(set3_cell _ _ _ _ _ hne0).trans c0, (set3_cell _ _ _ _ _ hne1).trans i0, (set3_cell _ _ _ _ _ hne1).trans i1⟩) (first
        | (go_at_call 42; refine (LineSums_i _ k.img n0 n1 _ hS.out.drew.rd.m).mono ?_; rw [Hls.out]; rintro e w4 hLs; obtain ⟨rfl, y4⟩ := hLs.nil; clear hLs; replace hS := Lib.hid (hS.out.drew.keep y4); replace hC := Lib.hid hS.out.kc; replace HOn := Lib.hid (Own.keep rIntV HOn.out ((Below.refl wo.heap.size wo).drew.trans_pure y4 (Nat.le_refl _)) (Nat.le_refl _)); have c0 : w4.cell? ⟨w.heap.size, 0, none⟩ = some (.slice a1 a2 a3) := hC.out.cell 0; have i0 : w4.cell? ⟨gm, 0, none⟩ = some (.int .i64 n0) := Ints.at0 HOn.out.ints (k := 0) rfl; have i1 : w4.cell? ⟨gm, 1, none⟩ = some (.int .i64 n1) := Ints.at0 HOn.out.ints (k := 1) rfl))
      obtain ⟨o0, o1, o2⟩ := hS.out.ko.c3
      obtain ⟨x0, x1, x2, f0, f1, f2⟩ := hS.out.kr.x3
      have hnil : Sem.run Tryz.prog (binOp BinOp.eql 32 (.slice none 0 0) (.slice none 0 0)) w4 = .ok (.bool true) w4 := by kernel_rfl
      go_wp2
      obtain ⟨⟨e0, e1, e2⟩, hfin⟩ := (hS.out.done).fin
      exact bodyPost_ret (v := .tuple #[.agg #[.slice p1 p2 p3, .slice q1 q2 q3, .slice r1 r2 r3], .string noneB]) (by simp [results, Tryz.results13, go_sem, e0, e1, e2, noneB]) rfl (hfin _)
theorem RunLine_line1 (a b c : Value) (k : Con) (s : ByteArray) (al : List ByteArray) (n0 n1 : Int) (w : World) (h : ConRd w a b c k) (hs : ConSz k) (ht : TabE w) (hsz : s.size ≤ 1048576) (hsaid : isSaid s = false) (hsp : splitB s 32 = ⟨#[108, 105, 110, 101]⟩ :: al) (hn : al.length = 2) (hnum : numsOf al = [n0, n1]) (hls : lineSums k.img n0 n1 ≠ []) : Calls Tryz.prog 13 #[.agg #[a, b, c], .string s] w (ConRes w (k, sumsText (lineSums k.img n0 n1))) := by
  obtain ⟨⟨a1, a2, a3, rfl⟩, ⟨b1, b2, b3, rfl⟩, ⟨d1, d2, d3, rfl⟩⟩ := h.shape
  have hk0 := Blk.keep (Blk.new w #[.slice a1 a2 a3, .slice b1 b2 b3, .slice d1 d2 d3] 34) (Below.pureAlloc _ (.cells NilC 34))
  have hb0 : Below w.heap.size w ((w.alloc (.cells #[.slice a1 a2 a3, .slice b1 b2 b3, .slice d1 d2 d3] 34)).alloc (.cells NilC 34)) := ((Below.refl _ _).alloc (Nat.le_refl _) _).alloc (by simp) _
  have HC := Lib.hid (h.keep hb0)
  have Hh := Lib.hid h
  have Hs := Lib.hid hs
  have Ht := Lib.hid ht
  have c0 := hk0.cell 0
  have c1 := hk0.cell 1
  have c2 := hk0.cell 2
  simp only [List.getElem?_toArray, List.getElem?_cons_zero, List.getElem?_cons_succ] at c0 c1 c2
  clear h hs hb0 hk0 ht
  obtain ⟨hs0, h35, hne⟩ := line_facts hsaid
  have Hps := Lib.hid (args_size hsp hsz)
  have Hsp := Lib.hid hsp
  have hal := args_len hsp hsz
  rw [hn] at hal
  have Hn := Lib.hid hn
  have Hnum := Lib.hid hnum
  clear hnum
  have Hls := Lib.hid hls
  have hll := lineSums_len k.img n0 n1
  clear hls
  clear hsaid hsp hn
  go_enter Tryz.func13, Tryz.ntmps13
  go_wp2_with (fail)
  refine (copyConsole_c _ _ _ k _ HC.out Hs.out).mono ?_
  rintro e w1 ⟨va, vb, vc, rfl, ho, y1⟩
  obtain ⟨⟨p1, p2, p3, rfl⟩, ⟨q1, q2, q3, rfl⟩, ⟨r1, r2, r3, rfl⟩⟩ := ho.rd.shape
  have St := Lib.hid (RlSt.start rfl Hh.out y1 ho)
  clear ho y1 c0 c1 c2
  go_wp2_with (fail)
  refine (SplitAny_i _ 32 _ hsz).mono ?_
  rintro e w2 ⟨vw, rfl, ow, y2⟩
  rw [Hsp.out] at ow
  obtain ⟨gw, cw, rfl, hgw, hcw, -, -⟩ := ow.inv_ne (by simp)
  have hS := Lib.hid (St.out.keep y2)
  have Hw := Lib.hid ow.strs
  have w0 := Strs.at0 Hw.out (k := 0) rfl
  have hgl : gw < w2.heap.size := hgw.2
  have hSz : w1.heap.size < w2.heap.size := hS.out.ko.lt
  have hBo : w.heap.size + 2 ≤ w1.heap.size := by have := hS.out.hlo; have := hS.out.hlb; omega
  rw [List.length_cons, Hn.out] at hcw
  rw [List.length_cons, Hn.out]
  clear ow y2 St
  have hP : (if cw = 1 then (some ⟨gw, 0, none⟩ : Option Addr) else some ⟨gw, 1, none⟩) = some ⟨gw, 1, none⟩ := if_neg (by omega)
  have hT := Lib.hid (Ht.out.keep hS.out.base)
  go_wp2
  go_loopw [10, 12, 13, 14, 52] (fun v _ _ _ i wr => ∃ j : Nat, j ≤ 2 ∧ i = .int .i64 j ∧ Own 3 IntV (Iv w2.heap.size wr.heap.size) wr v (numsOf (al.take j)) ∧ Below w2.heap.size w2 wr) (fun _ _ _ _ i _ => 2 - (intOf i).toNat)
  case atStart => exact ⟨0, Nat.zero_le _, rfl, Own.nil _ _ _ _, Below.refl _ _⟩
  case round =>
    obtain ⟨j, hj, rfl, hown, hbel⟩ := hrel
    obtain ⟨wo, rfl⟩ : ∃ wo : World, wo = wr := ⟨_, rfl⟩
    have hBs := hbel.size
    by_cases hlt : j < 2
    · obtain ⟨q, hq⟩ : ∃ q, al[j]? = some q := ⟨_, List.getElem?_eq_getElem (by rw [Hn.out]; exact hlt)⟩
      have hck := Strs.at1 Hw.out hq
      rw [← hbel.cell (p := ⟨gw, 1 + j, none⟩) hgl] at hck
      have hqs := Hps.out q (List.mem_of_getElem? hq)
      have Hst := Lib.hid (numsOf_step hq)
      have hkl : (numsOf (al.take j)).length < 1099511627776 := by
        have h1 := numsOf_len (al.take j)
        have h2 := List.length_take_le j al
        omega
      obtain ⟨m1, m2, m3, rfl⟩ := hown.shape
      have Hown := Lib.hid hown
      clear hq hown
      go_wp2_with (fail)
      refine (ParseInt_i _ _ hqs (hT.out.keep hbel)).mono ?_
      rintro e w3 ⟨rfl, b3⟩
      have hs3 := b3.size
      cases hy : parseYes q
      · have Hy := Lib.hid hy
        have hb3 := hbel.trans (b3.mono hBs)
        have Hk := Lib.hid (Own.keep rIntV Hown.out b3 (Nat.le_refl _))
        clear hy
        go_wp2
        go_roundw
        case rel => exact ⟨j + 1, by omega, by go_num, by rw [Hst.out, Hy.out]; exact (rOwn rIntV).mono (fun b hb => ⟨hb.1, by have := hb.2; omega⟩) Hk.out, hb3⟩
        case measure => simp [intOf]; omega
      · have Hy := Lib.hid hy
        have hI := (parse_text hy).2
        have hbo := hbel.trans (b3.mono hBs)
        clear hy
        go_wp2_with (first | (at_builtin; (refine wpList_appR rfl _ _ 32 rfl rIntV 3 Tryz.underlying32 infoInt rfl (by decide) w2.heap.size wo.heap.size hBs hs3 rfl rfl (by exact Own.keep rIntV Hown.out b3 (Nat.le_refl _)) (by exact ⟨rfl, hI⟩) hkl ?_); intro v4 w4 hown4 hbel4 _) | fail)
        have hb4 := hbo.trans hbel4
        have Hown4 := Lib.hid hown4
        clear hown4
        go_wp2
        go_roundw
        case rel => exact ⟨j + 1, by omega, by go_num, by rw [Hst.out, Hy.out]; exact Hown4.out, hb4⟩
        case measure => simp [intOf]; omega
    · have hj' : al.length ≤ j := by rw [Hn.out]; omega
      rw [List.take_of_length_le hj'] at hown
      have hTw := Lib.hid (hT.out.keep hbel)
      replace hS := Lib.hid (hS.out.keep hbel)
      replace w0 := (hbel.cell (p := ⟨gw, 0, none⟩) hgl).trans w0
      obtain ⟨c0, c1, c2⟩ := hS.out.kc.c3
      obtain ⟨o0, o1, o2⟩ := hS.out.ko.c3
      obtain ⟨x0, x1, x2, f0, f1, f2⟩ := hS.out.kr.x3
      rw [Hnum.out] at hown
      obtain ⟨gm, cm, hv, hgm, hcm, -, -⟩ := hown.inv_ne (by simp)
      replace hv : _ = Value.slice (some ⟨gm, 0, none⟩) 2 cm := hv
      subst hv
      replace hcm : 2 ≤ cm := hcm
      have hIn := hown.ints
      have i0 : wo.cell? ⟨gm, 0, none⟩ = some (.int .i64 n0) := Ints.at0 hIn (k := 0) rfl
      have i1 : wo.cell? ⟨gm, 1, none⟩ = some (.int .i64 n1) := Ints.at0 hIn (k := 1) rfl
      have hgw' := hgm.1
      have hne1 : (⟨gm, 0, none⟩ : Addr).block ≠ w.heap.size + 1 := by show gm ≠ w.heap.size + 1; omega
      have hgb : ¬ gm = w1.heap.size := by omega
      have HOn := Lib.hid hown
      clear hown hIn
      have hdw : w1.heap.size < wo.drew.heap.size := by show w1.heap.size < wo.heap.size; omega
      have hTb := Lib.hid ((hTw.out.keep (Below.refl _ _).drew).1)
      have hC := Lib.hid hS.out.kc
      have hne0 : (⟨w.heap.size, 0, none⟩ : Addr).block ≠ w.heap.size + 1 := by show w.heap.size ≠ w.heap.size + 1; omega
      have hne2 : ¬ w.heap.size = w1.heap.size := by omega
      go_wp2_with (fail)
      go_region_held3 (fun w' => w'.cell? ⟨w.heap.size, 0, none⟩ = some (.slice a1 a2 a3) ∧ w'.cell? ⟨gm, 0, none⟩ = some (.int .i64 n0) ∧ w'.cell? ⟨gm, 1, none⟩ = some (.int .i64 n1)) (first | exact ⟨c0, i0, i1⟩ | exact ⟨(set3_cell _ _ _ _ _ hne0).trans c0, (set3_cell _ _ _ _ _ hne1).trans i0, (set3_cell _ _ _ _ _ hne1).trans i1⟩) (first
        | (go_at_call 42; refine (LineSums_i _ k.img n0 n1 _ hS.out.drew.rd.m).mono ?_; rintro e w4 hLs; obtain ⟨gl, cl, rfl, oi, y4⟩ := hLs.cons Hls.out; have Oi := Lib.hid (oi.keep (Below.refl _ _).drew); clear hLs oi; replace hTb := Lib.hid ((hTb.out.keep y4).keep (Below.refl _ _).drew); replace hS := Lib.hid (hS.out.drew.keep y4); replace hC := Lib.hid hS.out.kc; replace HOn := Lib.hid (Own.keep rIntV HOn.out ((Below.refl wo.heap.size wo).drew.trans_pure y4 (Nat.le_refl _)) (Nat.le_refl _)); have c0 : w4.cell? ⟨w.heap.size, 0, none⟩ = some (.slice a1 a2 a3) := hC.out.cell 0; have i0 : w4.cell? ⟨gm, 0, none⟩ = some (.int .i64 n0) := Ints.at0 HOn.out.ints (k := 0) rfl; have i1 : w4.cell? ⟨gm, 1, none⟩ = some (.int .i64 n1) := Ints.at0 HOn.out.ints (k := 1) rfl))
      obtain ⟨o0, o1, o2⟩ := hS.out.ko.c3
      obtain ⟨x0, x1, x2, f0, f1, f2⟩ := hS.out.kr.x3
      replace hS := Lib.hid hS.out.drew
      have hnn : Sem.run Tryz.prog (binOp BinOp.eql 32 (.slice (some ⟨gl, 0, none⟩) (lineSums k.img n0 n1).length cl) (.slice none 0 0)) w4 = .ok (.bool false) w4 := by kernel_rfl
      go_wp2
      go_region_with (go_at_call 43; refine (FormatSums_i _ (lineSums k.img n0 n1) _ Oi.out (by omega) hTb.out).mono ?_; rintro e w5 ⟨rfl, y5⟩; replace hS := Lib.hid (hS.out.keep y5); obtain ⟨o0, o1, o2⟩ := hS.out.ko.c3; obtain ⟨x0, x1, x2, f0, f1, f2⟩ := hS.out.kr.x3)
      all_goals go_wp2
      all_goals
        obtain ⟨⟨e0, e1, e2⟩, hfin⟩ := (hS.out.done).fin
        exact bodyPost_ret (v := .tuple #[.agg #[.slice p1 p2 p3, .slice q1 q2 q3, .slice r1 r2 r3], .string (sumsText (lineSums k.img n0 n1))]) (by simp [results, Tryz.results13, go_sem, e0, e1, e2]) rfl (hfin _)
end Go.Proofs.YthmocomfjgmjoaaGreatDoor

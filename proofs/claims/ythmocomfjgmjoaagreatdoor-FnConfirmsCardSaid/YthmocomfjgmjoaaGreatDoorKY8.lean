/- RunLine of the program: sums without its texts. -/
import Derived.Test.YthmocomfjgmjoaaGreatDoorKRe
set_option maxHeartbeats 4000000
set_option maxRecDepth 100000
namespace Go.Proofs.YthmocomfjgmjoaaGreatDoor
open Go.RowKit
theorem RunLine_us1 (a b c : Value) (k : Con) (s : ByteArray) (al : List ByteArray) (t : ByteArray) (w : World) (h : ConRd w a b c k) (hs : ConSz k) (ht : TabE w) (hsz : s.size ≤ 1048576) (hsaid : isSaid s = false) (hsp : splitB s 32 = ⟨#[115, 117, 109, 115]⟩ :: al) (hn : al.length = 1) (hz : NotNine s) (hx : al[0]? = some t) : Calls Tryz.prog 13 #[.agg #[a, b, c], .string s] w (ConRes w (k, unkB)) := by
  obtain ⟨⟨a1, a2, a3, rfl⟩, ⟨b1, b2, b3, rfl⟩, ⟨d1, d2, d3, rfl⟩⟩ := h.shape
  have hk0 := Blk.keep (Blk.new w #[.slice a1 a2 a3, .slice b1 b2 b3, .slice d1 d2 d3] 34) (Below.pureAlloc _ (.cells NilC 34))
  have hb0 : Below w.heap.size w ((w.alloc (.cells #[.slice a1 a2 a3, .slice b1 b2 b3, .slice d1 d2 d3] 34)).alloc (.cells NilC 34)) := ((Below.refl _ _).alloc (Nat.le_refl _) _).alloc (by simp) _
  have HC := Lib.hid (h.keep hb0)
  have Hh := Lib.hid h
  have Hs := Lib.hid hs
  have Ht := Lib.hid ht
  have c0 := hk0.cell 0
  have c1 := hk0.cell 1
  have c2 := hk0.cell 2
  simp only [List.getElem?_toArray, List.getElem?_cons_zero, List.getElem?_cons_succ] at c0 c1 c2
  clear h hs hb0 hk0 ht
  obtain ⟨hs0, h35, hne⟩ := line_facts hsaid
  have Hps := Lib.hid (args_size hsp hsz)
  have Hsp := Lib.hid hsp
  have hal := args_len hsp hsz
  rw [hn] at hal
  have Hn := Lib.hid hn
  obtain ⟨hz0, hz1, hz2, hz3, hz4, hz5, hz6, hz7, hz8⟩ := hz
  have htz := Hps.out t (List.mem_of_getElem? hx)
  have Hx := Lib.hid hx
  clear hx
  clear hsaid hsp hn
  go_enter Tryz.func13, Tryz.ntmps13
  go_wp2_with (fail)
  refine (copyConsole_c _ _ _ k _ HC.out Hs.out).mono ?_
  rintro e w1 ⟨va, vb, vc, rfl, ho, y1⟩
  obtain ⟨⟨p1, p2, p3, rfl⟩, ⟨q1, q2, q3, rfl⟩, ⟨r1, r2, r3, rfl⟩⟩ := ho.rd.shape
  have St := Lib.hid (RlSt.start rfl Hh.out y1 ho)
  clear ho y1 c0 c1 c2
  go_wp2_with (fail)
  refine (SplitAny_i _ 32 _ hsz).mono ?_
  rintro e w2 ⟨vw, rfl, ow, y2⟩
  rw [Hsp.out] at ow
  obtain ⟨gw, cw, rfl, hgw, hcw, -, -⟩ := ow.inv_ne (by simp)
  have hS := Lib.hid (St.out.keep y2)
  have Hw := Lib.hid ow.strs
  have w0 := Strs.at0 Hw.out (k := 0) rfl
  have hgl : gw < w2.heap.size := hgw.2
  have hSz : w1.heap.size < w2.heap.size := hS.out.ko.lt
  have hBo : w.heap.size + 2 ≤ w1.heap.size := by have := hS.out.hlo; have := hS.out.hlb; omega
  rw [List.length_cons, Hn.out] at hcw
  rw [List.length_cons, Hn.out]
  clear ow y2 St
  have hP : (if cw = 1 then (some ⟨gw, 0, none⟩ : Option Addr) else some ⟨gw, 1, none⟩) = some ⟨gw, 1, none⟩ := if_neg (by omega)
  have hT := Lib.hid (Ht.out.keep hS.out.base)
  go_wp2
  go_loopw [10, 12, 13, 14, 52] (fun v _ _ _ i wr => ∃ j : Nat, j ≤ 1 ∧ i = .int .i64 j ∧ Own 3 IntV (Iv w2.heap.size wr.heap.size) wr v (numsOf (al.take j)) ∧ Below w2.heap.size w2 wr) (fun _ _ _ _ i _ => 1 - (intOf i).toNat)
  case atStart => exact ⟨0, Nat.zero_le _, rfl, Own.nil _ _ _ _, Below.refl _ _⟩
  case round =>
    obtain ⟨j, hj, rfl, hown, hbel⟩ := hrel
    obtain ⟨wo, rfl⟩ : ∃ wo : World, wo = wr := ⟨_, rfl⟩
    have hBs := hbel.size
    by_cases hlt : j < 1
    · obtain ⟨q, hq⟩ : ∃ q, al[j]? = some q := ⟨_, List.getElem?_eq_getElem (by rw [Hn.out]; exact hlt)⟩
      have hck := Strs.at1 Hw.out hq
      rw [← hbel.cell (p := ⟨gw, 1 + j, none⟩) hgl] at hck
      have hqs := Hps.out q (List.mem_of_getElem? hq)
      have Hst := Lib.hid (numsOf_step hq)
      have hkl : (numsOf (al.take j)).length < 1099511627776 := by
        have h1 := numsOf_len (al.take j)
        have h2 := List.length_take_le j al
        omega
      obtain ⟨m1, m2, m3, rfl⟩ := hown.shape
      have Hown := Lib.hid hown
      clear hq hown
      go_wp2_with (fail)
      refine (ParseInt_i _ _ hqs (hT.out.keep hbel)).mono ?_
      rintro e w3 ⟨rfl, b3⟩
      have hs3 := b3.size
      cases hy : parseYes q
      · have Hy := Lib.hid hy
        have hb3 := hbel.trans (b3.mono hBs)
        have Hk := Lib.hid (Own.keep rIntV Hown.out b3 (Nat.le_refl _))
        clear hy
        go_wp2
        go_roundw
        case rel => exact ⟨j + 1, by omega, by go_num, by rw [Hst.out, Hy.out]; exact (rOwn rIntV).mono (fun b hb => ⟨hb.1, by have := hb.2; omega⟩) Hk.out, hb3⟩
        case measure => simp [intOf]; omega
      · have Hy := Lib.hid hy
        have hI := (parse_text hy).2
        have hbo := hbel.trans (b3.mono hBs)
        clear hy
        go_wp2_with (first | (at_builtin; (refine wpList_appR rfl _ _ 32 rfl rIntV 3 Tryz.underlying32 infoInt rfl (by decide) w2.heap.size wo.heap.size hBs hs3 rfl rfl (by exact Own.keep rIntV Hown.out b3 (Nat.le_refl _)) (by exact ⟨rfl, hI⟩) hkl ?_); intro v4 w4 hown4 hbel4 _) | fail)
        have hb4 := hbo.trans hbel4
        have Hown4 := Lib.hid hown4
        clear hown4
        go_wp2
        go_roundw
        case rel => exact ⟨j + 1, by omega, by go_num, by rw [Hst.out, Hy.out]; exact Hown4.out, hb4⟩
        case measure => simp [intOf]; omega
    · have hj' : al.length ≤ j := by rw [Hn.out]; omega
      rw [List.take_of_length_le hj'] at hown
      have hTw := Lib.hid (hT.out.keep hbel)
      replace hS := Lib.hid (hS.out.keep hbel)
      replace w0 := (hbel.cell (p := ⟨gw, 0, none⟩) hgl).trans w0
      obtain ⟨c0, c1, c2⟩ := hS.out.kc.c3
      obtain ⟨o0, o1, o2⟩ := hS.out.ko.c3
      obtain ⟨x0, x1, x2, f0, f1, f2⟩ := hS.out.kr.x3
      obtain ⟨m1, m2, m3, rfl⟩ := hown.shape
      have hm2 : m2 = (numsOf al).length := hown.ints.len
      have w0a : wo.cell? ⟨gw, 1, none⟩ = some (.string t) := (hbel.cell (p := ⟨gw, 1 + 0, none⟩) hgl).trans (Strs.at1 Hw.out Hx.out)
      clear hown
      go_wp2_with (fail)
      refine (ParseImage_in t _ htz).mono ?_
      rintro e w3 ⟨⟨vi, rfl, oi, y3⟩, hnil⟩
      obtain ⟨l1, l2, l3, rfl⟩ := oi.shape
      clear oi hnil
      replace hS := Lib.hid (hS.out.keep y3)
      replace w0 := (y3.cell (p := ⟨gw, 0, none⟩) (by show gw < wo.heap.size; omega)).trans w0
      clear c0 c1 c2 o0 o1 o2 x0 x1 x2 f0 f1 f2
      obtain ⟨c0, c1, c2⟩ := hS.out.kc.c3
      obtain ⟨o0, o1, o2⟩ := hS.out.ko.c3
      obtain ⟨x0, x1, x2, f0, f1, f2⟩ := hS.out.kr.x3
      go_wp2
      obtain ⟨⟨e0, e1, e2⟩, hfin⟩ := (hS.out.done).fin
      exact bodyPost_ret (v := .tuple #[.agg #[.slice p1 p2 p3, .slice q1 q2 q3, .slice r1 r2 r3], .string unkB]) (by simp [results, Tryz.results13, go_sem, e0, e1, e2, unkB]) rfl (hfin _)
theorem RunLine_usn (a b c : Value) (k : Con) (s : ByteArray) (al : List ByteArray) (n : Nat) (w : World) (h : ConRd w a b c k) (hs : ConSz k) (ht : TabE w) (hsz : s.size ≤ 1048576) (hsaid : isSaid s = false) (hsp : splitB s 32 = ⟨#[115, 117, 109, 115]⟩ :: al) (hn : al.length = n) (hz : NotNine s) (hn1 : 1 ≤ n) (hq1 : ((n : Int) == 1) = false) (hq2 : ((n : Int) == 2) = false) : Calls Tryz.prog 13 #[.agg #[a, b, c], .string s] w (ConRes w (k, unkB)) := by
  obtain ⟨⟨a1, a2, a3, rfl⟩, ⟨b1, b2, b3, rfl⟩, ⟨d1, d2, d3, rfl⟩⟩ := h.shape
  have hk0 := Blk.keep (Blk.new w #[.slice a1 a2 a3, .slice b1 b2 b3, .slice d1 d2 d3] 34) (Below.pureAlloc _ (.cells NilC 34))
  have hb0 : Below w.heap.size w ((w.alloc (.cells #[.slice a1 a2 a3, .slice b1 b2 b3, .slice d1 d2 d3] 34)).alloc (.cells NilC 34)) := ((Below.refl _ _).alloc (Nat.le_refl _) _).alloc (by simp) _
  have HC := Lib.hid (h.keep hb0)
  have Hh := Lib.hid h
  have Hs := Lib.hid hs
  have Ht := Lib.hid ht
  have c0 := hk0.cell 0
  have c1 := hk0.cell 1
  have c2 := hk0.cell 2
  simp only [List.getElem?_toArray, List.getElem?_cons_zero, List.getElem?_cons_succ] at c0 c1 c2
  clear h hs hb0 hk0 ht
  obtain ⟨hs0, h35, hne⟩ := line_facts hsaid
  have Hps := Lib.hid (args_size hsp hsz)
  have Hsp := Lib.hid hsp
  have hal := args_len hsp hsz
  rw [hn] at hal
  have Hn := Lib.hid hn
  obtain ⟨hz0, hz1, hz2, hz3, hz4, hz5, hz6, hz7, hz8⟩ := hz
  clear hsaid hsp hn
  go_enter Tryz.func13, Tryz.ntmps13
  go_wp2_with (fail)
  refine (copyConsole_c _ _ _ k _ HC.out Hs.out).mono ?_
  rintro e w1 ⟨va, vb, vc, rfl, ho, y1⟩
  obtain ⟨⟨p1, p2, p3, rfl⟩, ⟨q1, q2, q3, rfl⟩, ⟨r1, r2, r3, rfl⟩⟩ := ho.rd.shape
  have St := Lib.hid (RlSt.start rfl Hh.out y1 ho)
  clear ho y1 c0 c1 c2
  go_wp2_with (fail)
  refine (SplitAny_i _ 32 _ hsz).mono ?_
  rintro e w2 ⟨vw, rfl, ow, y2⟩
  rw [Hsp.out] at ow
  obtain ⟨gw, cw, rfl, hgw, hcw, -, -⟩ := ow.inv_ne (by simp)
  have hS := Lib.hid (St.out.keep y2)
  have Hw := Lib.hid ow.strs
  have w0 := Strs.at0 Hw.out (k := 0) rfl
  have hgl : gw < w2.heap.size := hgw.2
  have hSz : w1.heap.size < w2.heap.size := hS.out.ko.lt
  have hBo : w.heap.size + 2 ≤ w1.heap.size := by have := hS.out.hlo; have := hS.out.hlb; omega
  rw [List.length_cons, Hn.out] at hcw
  rw [List.length_cons, Hn.out]
  clear ow y2 St
  have hP : (if cw = 1 then (some ⟨gw, 0, none⟩ : Option Addr) else some ⟨gw, 1, none⟩) = some ⟨gw, 1, none⟩ := if_neg (by omega)
  have hT := Lib.hid (Ht.out.keep hS.out.base)
  go_wp2
  go_loopw [10, 12, 13, 14, 52] (fun v _ _ _ i wr => ∃ j : Nat, j ≤ n ∧ i = .int .i64 j ∧ Own 3 IntV (Iv w2.heap.size wr.heap.size) wr v (numsOf (al.take j)) ∧ Below w2.heap.size w2 wr) (fun _ _ _ _ i _ => n - (intOf i).toNat)
  case atStart => exact ⟨0, Nat.zero_le _, rfl, Own.nil _ _ _ _, Below.refl _ _⟩
  case round =>
    obtain ⟨j, hj, rfl, hown, hbel⟩ := hrel
    obtain ⟨wo, rfl⟩ : ∃ wo : World, wo = wr := ⟨_, rfl⟩
    have hBs := hbel.size
    by_cases hlt : j < n
    · obtain ⟨q, hq⟩ : ∃ q, al[j]? = some q := ⟨_, List.getElem?_eq_getElem (by rw [Hn.out]; exact hlt)⟩
      have hck := Strs.at1 Hw.out hq
      rw [← hbel.cell (p := ⟨gw, 1 + j, none⟩) hgl] at hck
      have hqs := Hps.out q (List.mem_of_getElem? hq)
      have Hst := Lib.hid (numsOf_step hq)
      have hkl : (numsOf (al.take j)).length < 1099511627776 := by
        have h1 := numsOf_len (al.take j)
        have h2 := List.length_take_le j al
        omega
      obtain ⟨m1, m2, m3, rfl⟩ := hown.shape
      have Hown := Lib.hid hown
      clear hq hown
      go_wp2_with (fail)
      refine (ParseInt_i _ _ hqs (hT.out.keep hbel)).mono ?_
      rintro e w3 ⟨rfl, b3⟩
      have hs3 := b3.size
      cases hy : parseYes q
      · have Hy := Lib.hid hy
        have hb3 := hbel.trans (b3.mono hBs)
        have Hk := Lib.hid (Own.keep rIntV Hown.out b3 (Nat.le_refl _))
        clear hy
        go_wp2
        go_roundw
        case rel => exact ⟨j + 1, by omega, by go_num, by rw [Hst.out, Hy.out]; exact (rOwn rIntV).mono (fun b hb => ⟨hb.1, by have := hb.2; omega⟩) Hk.out, hb3⟩
        case measure => simp [intOf]; omega
      · have Hy := Lib.hid hy
        have hI := (parse_text hy).2
        have hbo := hbel.trans (b3.mono hBs)
        clear hy
        go_wp2_with (first | (at_builtin; (refine wpList_appR rfl _ _ 32 rfl rIntV 3 Tryz.underlying32 infoInt rfl (by decide) w2.heap.size wo.heap.size hBs hs3 rfl rfl (by exact Own.keep rIntV Hown.out b3 (Nat.le_refl _)) (by exact ⟨rfl, hI⟩) hkl ?_); intro v4 w4 hown4 hbel4 _) | fail)
        have hb4 := hbo.trans hbel4
        have Hown4 := Lib.hid hown4
        clear hown4
        go_wp2
        go_roundw
        case rel => exact ⟨j + 1, by omega, by go_num, by rw [Hst.out, Hy.out]; exact Hown4.out, hb4⟩
        case measure => simp [intOf]; omega
    · have hj' : al.length ≤ j := by rw [Hn.out]; omega
      rw [List.take_of_length_le hj'] at hown
      have hTw := Lib.hid (hT.out.keep hbel)
      replace hS := Lib.hid (hS.out.keep hbel)
      replace w0 := (hbel.cell (p := ⟨gw, 0, none⟩) hgl).trans w0
      obtain ⟨c0, c1, c2⟩ := hS.out.kc.c3
      obtain ⟨o0, o1, o2⟩ := hS.out.ko.c3
      obtain ⟨x0, x1, x2, f0, f1, f2⟩ := hS.out.kr.x3
      obtain ⟨m1, m2, m3, rfl⟩ := hown.shape
      have hm2 : m2 = (numsOf al).length := hown.ints.len
      clear hown
      go_wp2
      obtain ⟨⟨e0, e1, e2⟩, hfin⟩ := (hS.out.done).fin
      exact bodyPost_ret (v := .tuple #[.agg #[.slice p1 p2 p3, .slice q1 q2 q3, .slice r1 r2 r3], .string unkB]) (by simp [results, Tryz.results13, go_sem, e0, e1, e2, unkB]) rfl (hfin _)
theorem RunLine_us2 (a b c : Value) (k : Con) (s : ByteArray) (al : List ByteArray) (ta tb : ByteArray) (w : World) (h : ConRd w a b c k) (hs : ConSz k) (ht : TabE w) (hsz : s.size ≤ 1048576) (hsaid : isSaid s = false) (hsp : splitB s 32 = ⟨#[115, 117, 109, 115]⟩ :: al) (hn : al.length = 2) (hx : al[0]? = some ta) (hy : al[1]? = some tb) (hz : NotNine s) (h1 : sumsYes ta = false) : Calls Tryz.prog 13 #[.agg #[a, b, c], .string s] w (ConRes w (k, unkB)) := by
  obtain ⟨⟨a1, a2, a3, rfl⟩, ⟨b1, b2, b3, rfl⟩, ⟨d1, d2, d3, rfl⟩⟩ := h.shape
  have hk0 := Blk.keep (Blk.new w #[.slice a1 a2 a3, .slice b1 b2 b3, .slice d1 d2 d3] 34) (Below.pureAlloc _ (.cells NilC 34))
  have hb0 : Below w.heap.size w ((w.alloc (.cells #[.slice a1 a2 a3, .slice b1 b2 b3, .slice d1 d2 d3] 34)).alloc (.cells NilC 34)) := ((Below.refl _ _).alloc (Nat.le_refl _) _).alloc (by simp) _
  have HC := Lib.hid (h.keep hb0)
  have Hh := Lib.hid h
  have Hs := Lib.hid hs
  have Ht := Lib.hid ht
  have c0 := hk0.cell 0
  have c1 := hk0.cell 1
  have c2 := hk0.cell 2
  simp only [List.getElem?_toArray, List.getElem?_cons_zero, List.getElem?_cons_succ] at c0 c1 c2
  clear h hs hb0 hk0 ht
  obtain ⟨hs0, h35, hne⟩ := line_facts hsaid
  have Hps := Lib.hid (args_size hsp hsz)
  have Hsp := Lib.hid hsp
  have hal := args_len hsp hsz
  rw [hn] at hal
  have Hn := Lib.hid hn
  obtain ⟨hz0, hz1, hz2, hz3, hz4, hz5, hz6, hz7, hz8⟩ := hz
  have hta := Hps.out ta (List.mem_of_getElem? hx)
  have htb := Hps.out tb (List.mem_of_getElem? hy)
  have Hx := Lib.hid hx
  have Hx2 := Lib.hid hy
  clear hx hy
  have H1 := Lib.hid h1
  clear h1
  clear hsaid hsp hn
  go_enter Tryz.func13, Tryz.ntmps13
  go_wp2_with (fail)
  refine (copyConsole_c _ _ _ k _ HC.out Hs.out).mono ?_
  rintro e w1 ⟨va, vb, vc, rfl, ho, y1⟩
  obtain ⟨⟨p1, p2, p3, rfl⟩, ⟨q1, q2, q3, rfl⟩, ⟨r1, r2, r3, rfl⟩⟩ := ho.rd.shape
  have St := Lib.hid (RlSt.start rfl Hh.out y1 ho)
  clear ho y1 c0 c1 c2
  go_wp2_with (fail)
  refine (SplitAny_i _ 32 _ hsz).mono ?_
  rintro e w2 ⟨vw, rfl, ow, y2⟩
  rw [Hsp.out] at ow
  obtain ⟨gw, cw, rfl, hgw, hcw, -, -⟩ := ow.inv_ne (by simp)
  have hS := Lib.hid (St.out.keep y2)
  have Hw := Lib.hid ow.strs
  have w0 := Strs.at0 Hw.out (k := 0) rfl
  have hgl : gw < w2.heap.size := hgw.2
  have hSz : w1.heap.size < w2.heap.size := hS.out.ko.lt
  have hBo : w.heap.size + 2 ≤ w1.heap.size := by have := hS.out.hlo; have := hS.out.hlb; omega
  rw [List.length_cons, Hn.out] at hcw
  rw [List.length_cons, Hn.out]
  clear ow y2 St
  have hP : (if cw = 1 then (some ⟨gw, 0, none⟩ : Option Addr) else some ⟨gw, 1, none⟩) = some ⟨gw, 1, none⟩ := if_neg (by omega)
  have hT := Lib.hid (Ht.out.keep hS.out.base)
  go_wp2
  go_loopw [10, 12, 13, 14, 52] (fun v _ _ _ i wr => ∃ j : Nat, j ≤ 2 ∧ i = .int .i64 j ∧ Own 3 IntV (Iv w2.heap.size wr.heap.size) wr v (numsOf (al.take j)) ∧ Below w2.heap.size w2 wr) (fun _ _ _ _ i _ => 2 - (intOf i).toNat)
  case atStart => exact ⟨0, Nat.zero_le _, rfl, Own.nil _ _ _ _, Below.refl _ _⟩
  case round =>
    obtain ⟨j, hj, rfl, hown, hbel⟩ := hrel
    obtain ⟨wo, rfl⟩ : ∃ wo : World, wo = wr := ⟨_, rfl⟩
    have hBs := hbel.size
    by_cases hlt : j < 2
    · obtain ⟨q, hq⟩ : ∃ q, al[j]? = some q := ⟨_, List.getElem?_eq_getElem (by rw [Hn.out]; exact hlt)⟩
      have hck := Strs.at1 Hw.out hq
      rw [← hbel.cell (p := ⟨gw, 1 + j, none⟩) hgl] at hck
      have hqs := Hps.out q (List.mem_of_getElem? hq)
      have Hst := Lib.hid (numsOf_step hq)
      have hkl : (numsOf (al.take j)).length < 1099511627776 := by
        have h1 := numsOf_len (al.take j)
        have h2 := List.length_take_le j al
        omega
      obtain ⟨m1, m2, m3, rfl⟩ := hown.shape
      have Hown := Lib.hid hown
      clear hq hown
      go_wp2_with (fail)
      refine (ParseInt_i _ _ hqs (hT.out.keep hbel)).mono ?_
      rintro e w3 ⟨rfl, b3⟩
      have hs3 := b3.size
      cases hy : parseYes q
      · have Hy := Lib.hid hy
        have hb3 := hbel.trans (b3.mono hBs)
        have Hk := Lib.hid (Own.keep rIntV Hown.out b3 (Nat.le_refl _))
        clear hy
        go_wp2
        go_roundw
        case rel => exact ⟨j + 1, by omega, by go_num, by rw [Hst.out, Hy.out]; exact (rOwn rIntV).mono (fun b hb => ⟨hb.1, by have := hb.2; omega⟩) Hk.out, hb3⟩
        case measure => simp [intOf]; omega
      · have Hy := Lib.hid hy
        have hI := (parse_text hy).2
        have hbo := hbel.trans (b3.mono hBs)
        clear hy
        go_wp2_with (first | (at_builtin; (refine wpList_appR rfl _ _ 32 rfl rIntV 3 Tryz.underlying32 infoInt rfl (by decide) w2.heap.size wo.heap.size hBs hs3 rfl rfl (by exact Own.keep rIntV Hown.out b3 (Nat.le_refl _)) (by exact ⟨rfl, hI⟩) hkl ?_); intro v4 w4 hown4 hbel4 _) | fail)
        have hb4 := hbo.trans hbel4
        have Hown4 := Lib.hid hown4
        clear hown4
        go_wp2
        go_roundw
        case rel => exact ⟨j + 1, by omega, by go_num, by rw [Hst.out, Hy.out]; exact Hown4.out, hb4⟩
        case measure => simp [intOf]; omega
    · have hj' : al.length ≤ j := by rw [Hn.out]; omega
      rw [List.take_of_length_le hj'] at hown
      have hTw := Lib.hid (hT.out.keep hbel)
      replace hS := Lib.hid (hS.out.keep hbel)
      replace w0 := (hbel.cell (p := ⟨gw, 0, none⟩) hgl).trans w0
      obtain ⟨c0, c1, c2⟩ := hS.out.kc.c3
      obtain ⟨o0, o1, o2⟩ := hS.out.ko.c3
      obtain ⟨x0, x1, x2, f0, f1, f2⟩ := hS.out.kr.x3
      obtain ⟨m1, m2, m3, rfl⟩ := hown.shape
      have w0a : wo.cell? ⟨gw, 1, none⟩ = some (.string ta) := (hbel.cell (p := ⟨gw, 1 + 0, none⟩) hgl).trans (Strs.at1 Hw.out Hx.out)
      have w1a : wo.cell? ⟨gw, 2, none⟩ = some (.string tb) := (hbel.cell (p := ⟨gw, 1 + 1, none⟩) hgl).trans (Strs.at1 Hw.out Hx2.out)
      clear hown
      go_wp2_with (fail)
      refine (ParseSums_i ta _ hta hTw.out).mono ?_
      rw [show SumsRes wo ta = fun e w' => ∃ v', e = .returned (.tuple #[v', .bool false]) ∧ Own 3 IntV (Iv wo.heap.size w'.heap.size) w' v' (sumsVal ta) ∧ Below wo.heap.size wo w' from by funext e w'; unfold SumsRes; rw [H1.out]]
      rintro e w3 ⟨vr, rfl, orr, y3⟩
      obtain ⟨l1, l2, l3, rfl⟩ := orr.shape
      have hs3 : wo.heap.size ≤ w3.heap.size := y3.size
      replace hS := Lib.hid (hS.out.keep y3)
      have hTx := Lib.hid (hTw.out.keep y3)
      replace w1a := (y3.cell (p := ⟨gw, 2, none⟩) (by show gw < wo.heap.size; omega)).trans w1a
      replace w0 := (y3.cell (p := ⟨gw, 0, none⟩) (by show gw < wo.heap.size; omega)).trans w0
      clear orr c0 c1 c2 o0 o1 o2 x0 x1 x2 f0 f1 f2
      go_wp2_with (fail)
      refine (ParseSums_i tb _ htb hTx.out).mono ?_
      rintro e w5 ⟨vc, rfl, occ, y5⟩
      obtain ⟨n1, n2, n3, rfl⟩ := occ.shape
      replace hS := Lib.hid (hS.out.keep y5)
      replace w0 := (y5.cell (p := ⟨gw, 0, none⟩) (by show gw < w3.heap.size; omega)).trans w0
      clear occ
      obtain ⟨c0, c1, c2⟩ := hS.out.kc.c3
      obtain ⟨o0, o1, o2⟩ := hS.out.ko.c3
      obtain ⟨x0, x1, x2, f0, f1, f2⟩ := hS.out.kr.x3
      go_wp2
      obtain ⟨⟨e0, e1, e2⟩, hfin⟩ := (hS.out.done).fin
      exact bodyPost_ret (v := .tuple #[.agg #[.slice p1 p2 p3, .slice q1 q2 q3, .slice r1 r2 r3], .string unkB]) (by simp [results, Tryz.results13, go_sem, e0, e1, e2, unkB]) rfl (hfin _)
theorem RunLine_us3 (a b c : Value) (k : Con) (s : ByteArray) (al : List ByteArray) (ta tb : ByteArray) (w : World) (h : ConRd w a b c k) (hs : ConSz k) (ht : TabE w) (hsz : s.size ≤ 1048576) (hsaid : isSaid s = false) (hsp : splitB s 32 = ⟨#[115, 117, 109, 115]⟩ :: al) (hn : al.length = 2) (hx : al[0]? = some ta) (hy : al[1]? = some tb) (hz : NotNine s) (h1 : sumsYes ta = true) (h2 : sumsYes tb = false) : Calls Tryz.prog 13 #[.agg #[a, b, c], .string s] w (ConRes w (k, unkB)) := by
  obtain ⟨⟨a1, a2, a3, rfl⟩, ⟨b1, b2, b3, rfl⟩, ⟨d1, d2, d3, rfl⟩⟩ := h.shape
  have hk0 := Blk.keep (Blk.new w #[.slice a1 a2 a3, .slice b1 b2 b3, .slice d1 d2 d3] 34) (Below.pureAlloc _ (.cells NilC 34))
  have hb0 : Below w.heap.size w ((w.alloc (.cells #[.slice a1 a2 a3, .slice b1 b2 b3, .slice d1 d2 d3] 34)).alloc (.cells NilC 34)) := ((Below.refl _ _).alloc (Nat.le_refl _) _).alloc (by simp) _
  have HC := Lib.hid (h.keep hb0)
  have Hh := Lib.hid h
  have Hs := Lib.hid hs
  have Ht := Lib.hid ht
  have c0 := hk0.cell 0
  have c1 := hk0.cell 1
  have c2 := hk0.cell 2
  simp only [List.getElem?_toArray, List.getElem?_cons_zero, List.getElem?_cons_succ] at c0 c1 c2
  clear h hs hb0 hk0 ht
  obtain ⟨hs0, h35, hne⟩ := line_facts hsaid
  have Hps := Lib.hid (args_size hsp hsz)
  have Hsp := Lib.hid hsp
  have hal := args_len hsp hsz
  rw [hn] at hal
  have Hn := Lib.hid hn
  obtain ⟨hz0, hz1, hz2, hz3, hz4, hz5, hz6, hz7, hz8⟩ := hz
  have hta := Hps.out ta (List.mem_of_getElem? hx)
  have htb := Hps.out tb (List.mem_of_getElem? hy)
  have Hx := Lib.hid hx
  have Hx2 := Lib.hid hy
  clear hx hy
  have H1 := Lib.hid h1
  clear h1
  have H2 := Lib.hid h2
  clear h2
  clear hsaid hsp hn
  go_enter Tryz.func13, Tryz.ntmps13
  go_wp2_with (fail)
  refine (copyConsole_c _ _ _ k _ HC.out Hs.out).mono ?_
  rintro e w1 ⟨va, vb, vc, rfl, ho, y1⟩
  obtain ⟨⟨p1, p2, p3, rfl⟩, ⟨q1, q2, q3, rfl⟩, ⟨r1, r2, r3, rfl⟩⟩ := ho.rd.shape
  have St := Lib.hid (RlSt.start rfl Hh.out y1 ho)
  clear ho y1 c0 c1 c2
  go_wp2_with (fail)
  refine (SplitAny_i _ 32 _ hsz).mono ?_
  rintro e w2 ⟨vw, rfl, ow, y2⟩
  rw [Hsp.out] at ow
  obtain ⟨gw, cw, rfl, hgw, hcw, -, -⟩ := ow.inv_ne (by simp)
  have hS := Lib.hid (St.out.keep y2)
  have Hw := Lib.hid ow.strs
  have w0 := Strs.at0 Hw.out (k := 0) rfl
  have hgl : gw < w2.heap.size := hgw.2
  have hSz : w1.heap.size < w2.heap.size := hS.out.ko.lt
  have hBo : w.heap.size + 2 ≤ w1.heap.size := by have := hS.out.hlo; have := hS.out.hlb; omega
  rw [List.length_cons, Hn.out] at hcw
  rw [List.length_cons, Hn.out]
  clear ow y2 St
  have hP : (if cw = 1 then (some ⟨gw, 0, none⟩ : Option Addr) else some ⟨gw, 1, none⟩) = some ⟨gw, 1, none⟩ := if_neg (by omega)
  have hT := Lib.hid (Ht.out.keep hS.out.base)
  go_wp2
  go_loopw [10, 12, 13, 14, 52] (fun v _ _ _ i wr => ∃ j : Nat, j ≤ 2 ∧ i = .int .i64 j ∧ Own 3 IntV (Iv w2.heap.size wr.heap.size) wr v (numsOf (al.take j)) ∧ Below w2.heap.size w2 wr) (fun _ _ _ _ i _ => 2 - (intOf i).toNat)
  case atStart => exact ⟨0, Nat.zero_le _, rfl, Own.nil _ _ _ _, Below.refl _ _⟩
  case round =>
    obtain ⟨j, hj, rfl, hown, hbel⟩ := hrel
    obtain ⟨wo, rfl⟩ : ∃ wo : World, wo = wr := ⟨_, rfl⟩
    have hBs := hbel.size
    by_cases hlt : j < 2
    · obtain ⟨q, hq⟩ : ∃ q, al[j]? = some q := ⟨_, List.getElem?_eq_getElem (by rw [Hn.out]; exact hlt)⟩
      have hck := Strs.at1 Hw.out hq
      rw [← hbel.cell (p := ⟨gw, 1 + j, none⟩) hgl] at hck
      have hqs := Hps.out q (List.mem_of_getElem? hq)
      have Hst := Lib.hid (numsOf_step hq)
      have hkl : (numsOf (al.take j)).length < 1099511627776 := by
        have h1 := numsOf_len (al.take j)
        have h2 := List.length_take_le j al
        omega
      obtain ⟨m1, m2, m3, rfl⟩ := hown.shape
      have Hown := Lib.hid hown
      clear hq hown
      go_wp2_with (fail)
      refine (ParseInt_i _ _ hqs (hT.out.keep hbel)).mono ?_
      rintro e w3 ⟨rfl, b3⟩
      have hs3 := b3.size
      cases hy : parseYes q
      · have Hy := Lib.hid hy
        have hb3 := hbel.trans (b3.mono hBs)
        have Hk := Lib.hid (Own.keep rIntV Hown.out b3 (Nat.le_refl _))
        clear hy
        go_wp2
        go_roundw
        case rel => exact ⟨j + 1, by omega, by go_num, by rw [Hst.out, Hy.out]; exact (rOwn rIntV).mono (fun b hb => ⟨hb.1, by have := hb.2; omega⟩) Hk.out, hb3⟩
        case measure => simp [intOf]; omega
      · have Hy := Lib.hid hy
        have hI := (parse_text hy).2
        have hbo := hbel.trans (b3.mono hBs)
        clear hy
        go_wp2_with (first | (at_builtin; (refine wpList_appR rfl _ _ 32 rfl rIntV 3 Tryz.underlying32 infoInt rfl (by decide) w2.heap.size wo.heap.size hBs hs3 rfl rfl (by exact Own.keep rIntV Hown.out b3 (Nat.le_refl _)) (by exact ⟨rfl, hI⟩) hkl ?_); intro v4 w4 hown4 hbel4 _) | fail)
        have hb4 := hbo.trans hbel4
        have Hown4 := Lib.hid hown4
        clear hown4
        go_wp2
        go_roundw
        case rel => exact ⟨j + 1, by omega, by go_num, by rw [Hst.out, Hy.out]; exact Hown4.out, hb4⟩
        case measure => simp [intOf]; omega
    · have hj' : al.length ≤ j := by rw [Hn.out]; omega
      rw [List.take_of_length_le hj'] at hown
      have hTw := Lib.hid (hT.out.keep hbel)
      replace hS := Lib.hid (hS.out.keep hbel)
      replace w0 := (hbel.cell (p := ⟨gw, 0, none⟩) hgl).trans w0
      obtain ⟨c0, c1, c2⟩ := hS.out.kc.c3
      obtain ⟨o0, o1, o2⟩ := hS.out.ko.c3
      obtain ⟨x0, x1, x2, f0, f1, f2⟩ := hS.out.kr.x3
      obtain ⟨m1, m2, m3, rfl⟩ := hown.shape
      have w0a : wo.cell? ⟨gw, 1, none⟩ = some (.string ta) := (hbel.cell (p := ⟨gw, 1 + 0, none⟩) hgl).trans (Strs.at1 Hw.out Hx.out)
      have w1a : wo.cell? ⟨gw, 2, none⟩ = some (.string tb) := (hbel.cell (p := ⟨gw, 1 + 1, none⟩) hgl).trans (Strs.at1 Hw.out Hx2.out)
      clear hown
      go_wp2_with (fail)
      refine (ParseSums_i ta _ hta hTw.out).mono ?_
      rw [show SumsRes wo ta = fun e w' => ∃ v', e = .returned (.tuple #[v', .bool true]) ∧ Own 3 IntV (Iv wo.heap.size w'.heap.size) w' v' (sumsVal ta) ∧ Below wo.heap.size wo w' from by funext e w'; unfold SumsRes; rw [H1.out]]
      rintro e w3 ⟨vr, rfl, orr, y3⟩
      obtain ⟨l1, l2, l3, rfl⟩ := orr.shape
      have hs3 : wo.heap.size ≤ w3.heap.size := y3.size
      replace hS := Lib.hid (hS.out.keep y3)
      have hTx := Lib.hid (hTw.out.keep y3)
      replace w1a := (y3.cell (p := ⟨gw, 2, none⟩) (by show gw < wo.heap.size; omega)).trans w1a
      replace w0 := (y3.cell (p := ⟨gw, 0, none⟩) (by show gw < wo.heap.size; omega)).trans w0
      clear orr c0 c1 c2 o0 o1 o2 x0 x1 x2 f0 f1 f2
      go_wp2_with (fail)
      refine (ParseSums_i tb _ htb hTx.out).mono ?_
      rw [show SumsRes w3 tb = fun e w' => ∃ v', e = .returned (.tuple #[v', .bool false]) ∧ Own 3 IntV (Iv w3.heap.size w'.heap.size) w' v' (sumsVal tb) ∧ Below w3.heap.size w3 w' from by funext e w'; unfold SumsRes; rw [H2.out]]
      rintro e w5 ⟨vc, rfl, occ, y5⟩
      obtain ⟨n1, n2, n3, rfl⟩ := occ.shape
      replace hS := Lib.hid (hS.out.keep y5)
      replace w0 := (y5.cell (p := ⟨gw, 0, none⟩) (by show gw < w3.heap.size; omega)).trans w0
      clear occ
      obtain ⟨c0, c1, c2⟩ := hS.out.kc.c3
      obtain ⟨o0, o1, o2⟩ := hS.out.ko.c3
      obtain ⟨x0, x1, x2, f0, f1, f2⟩ := hS.out.kr.x3
      go_wp2
      obtain ⟨⟨e0, e1, e2⟩, hfin⟩ := (hS.out.done).fin
      exact bodyPost_ret (v := .tuple #[.agg #[.slice p1 p2 p3, .slice q1 q2 q3, .slice r1 r2 r3], .string unkB]) (by simp [results, Tryz.results13, go_sem, e0, e1, e2, unkB]) rfl (hfin _)
end Go.Proofs.YthmocomfjgmjoaaGreatDoor

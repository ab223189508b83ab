/- RunLine of the program: image, path, near. -/
import Derived.Test.YthmocomfjgmjoaaGreatDoorKRe
set_option maxHeartbeats 4000000
set_option maxRecDepth 100000
namespace Go.Proofs.YthmocomfjgmjoaaGreatDoor
open Go.RowKit
theorem RunLine_image (a b c : Value) (k : Con) (s : ByteArray) (al : List ByteArray) (t : ByteArray) (w : World) (h : ConRd w a b c k) (hs : ConSz k) (ht : TabE w) (hsz : s.size ≤ 1048576) (hsaid : isSaid s = false) (hsp : splitB s 32 = ⟨#[105, 109, 97, 103, 101]⟩ :: al) (hn : al.length = 1) (hx : al[0]? = some t) (hok : parseOk t = true) : Calls Tryz.prog 13 #[.agg #[a, b, c], .string s] w (ConRes w (⟨parsed t, rowSumsOf (parsed t), colSumsOf (parsed t)⟩, okB)) := by
  obtain ⟨⟨a1, a2, a3, rfl⟩, ⟨b1, b2, b3, rfl⟩, ⟨d1, d2, d3, rfl⟩⟩ := h.shape
  have hk0 := Blk.keep (Blk.new w #[.slice a1 a2 a3, .slice b1 b2 b3, .slice d1 d2 d3] 34) (Below.pureAlloc _ (.cells NilC 34))
  have hb0 : Below w.heap.size w ((w.alloc (.cells #[.slice a1 a2 a3, .slice b1 b2 b3, .slice d1 d2 d3] 34)).alloc (.cells NilC 34)) := ((Below.refl _ _).alloc (Nat.le_refl _) _).alloc (by simp) _
  have HC := Lib.hid (h.keep hb0)
  have Hh := Lib.hid h
  have Hs := Lib.hid hs
  have Ht := Lib.hid ht
  have c0 := hk0.cell 0
  have c1 := hk0.cell 1
  have c2 := hk0.cell 2
  simp only [List.getElem?_toArray, List.getElem?_cons_zero, List.getElem?_cons_succ] at c0 c1 c2
  clear h hs hb0 hk0 ht
  obtain ⟨hs0, h35, hne⟩ := line_facts hsaid
  have Hps := Lib.hid (args_size hsp hsz)
  have Hsp := Lib.hid hsp
  have hal := args_len hsp hsz
  rw [hn] at hal
  have Hn := Lib.hid hn
  have htz := Hps.out t (List.mem_of_getElem? hx)
  have Hx := Lib.hid hx
  have Hok := Lib.hid hok
  have Hpi := Lib.hid (show parseImg t = parsed t from by unfold parseImg; rw [if_pos hok])
  obtain ⟨ir, ic, hr1, hr5, hc1, hc5, hsh⟩ := imageOk_shape (show imageOk (parsed t) = true from by unfold parseOk at hok; rw [Bool.and_eq_true] at hok; exact hok.2)
  have Hsh := Lib.hid hsh
  have hil : 0 < (parsed t).length := by rw [hsh.1]; omega
  clear hx hok hsh
  clear hsaid hsp hn
  go_enter Tryz.func13, Tryz.ntmps13
  go_wp2_with (fail)
  refine (copyConsole_c _ _ _ k _ HC.out Hs.out).mono ?_
  rintro e w1 ⟨va, vb, vc, rfl, ho, y1⟩
  obtain ⟨⟨p1, p2, p3, rfl⟩, ⟨q1, q2, q3, rfl⟩, ⟨r1, r2, r3, rfl⟩⟩ := ho.rd.shape
  have St := Lib.hid (RlSt.start rfl Hh.out y1 ho)
  clear ho y1 c0 c1 c2
  go_wp2_with (fail)
  refine (SplitAny_i _ 32 _ hsz).mono ?_
  rintro e w2 ⟨vw, rfl, ow, y2⟩
  rw [Hsp.out] at ow
  obtain ⟨gw, cw, rfl, hgw, hcw, -, -⟩ := ow.inv_ne (by simp)
  have hS := Lib.hid (St.out.keep y2)
  have Hw := Lib.hid ow.strs
  have w0 := Strs.at0 Hw.out (k := 0) rfl
  have hgl : gw < w2.heap.size := hgw.2
  have hSz : w1.heap.size < w2.heap.size := hS.out.ko.lt
  have hBo : w.heap.size + 2 ≤ w1.heap.size := by have := hS.out.hlo; have := hS.out.hlb; omega
  rw [List.length_cons, Hn.out] at hcw
  rw [List.length_cons, Hn.out]
  clear ow y2 St
  have hP : (if cw = 1 then (some ⟨gw, 0, none⟩ : Option Addr) else some ⟨gw, 1, none⟩) = some ⟨gw, 1, none⟩ := if_neg (by omega)
  have hT := Lib.hid (Ht.out.keep hS.out.base)
  go_wp2
  go_loopw [10, 12, 13, 14, 52] (fun v _ _ _ i wr => ∃ j : Nat, j ≤ 1 ∧ i = .int .i64 j ∧ Own 3 IntV (Iv w2.heap.size wr.heap.size) wr v (numsOf (al.take j)) ∧ Below w2.heap.size w2 wr) (fun _ _ _ _ i _ => 1 - (intOf i).toNat)
  case atStart => exact ⟨0, Nat.zero_le _, rfl, Own.nil _ _ _ _, Below.refl _ _⟩
  case round =>
    obtain ⟨j, hj, rfl, hown, hbel⟩ := hrel
    obtain ⟨wo, rfl⟩ : ∃ wo : World, wo = wr := ⟨_, rfl⟩
    have hBs := hbel.size
    by_cases hlt : j < 1
    · obtain ⟨q, hq⟩ : ∃ q, al[j]? = some q := ⟨_, List.getElem?_eq_getElem (by rw [Hn.out]; exact hlt)⟩
      have hck := Strs.at1 Hw.out hq
      rw [← hbel.cell (p := ⟨gw, 1 + j, none⟩) hgl] at hck
      have hqs := Hps.out q (List.mem_of_getElem? hq)
      have Hst := Lib.hid (numsOf_step hq)
      have hkl : (numsOf (al.take j)).length < 1099511627776 := by
        have h1 := numsOf_len (al.take j)
        have h2 := List.length_take_le j al
        omega
      obtain ⟨m1, m2, m3, rfl⟩ := hown.shape
      have Hown := Lib.hid hown
      clear hq hown
      go_wp2_with (fail)
      refine (ParseInt_i _ _ hqs (hT.out.keep hbel)).mono ?_
      rintro e w3 ⟨rfl, b3⟩
      have hs3 := b3.size
      cases hy : parseYes q
      · have Hy := Lib.hid hy
        have hb3 := hbel.trans (b3.mono hBs)
        have Hk := Lib.hid (Own.keep rIntV Hown.out b3 (Nat.le_refl _))
        clear hy
        go_wp2
        go_roundw
        case rel => exact ⟨j + 1, by omega, by go_num, by rw [Hst.out, Hy.out]; exact (rOwn rIntV).mono (fun b hb => ⟨hb.1, by have := hb.2; omega⟩) Hk.out, hb3⟩
        case measure => simp [intOf]; omega
      · have Hy := Lib.hid hy
        have hI := (parse_text hy).2
        have hbo := hbel.trans (b3.mono hBs)
        clear hy
        go_wp2_with (first | (at_builtin; (refine wpList_appR rfl _ _ 32 rfl rIntV 3 Tryz.underlying32 infoInt rfl (by decide) w2.heap.size wo.heap.size hBs hs3 rfl rfl (by exact Own.keep rIntV Hown.out b3 (Nat.le_refl _)) (by exact ⟨rfl, hI⟩) hkl ?_); intro v4 w4 hown4 hbel4 _) | fail)
        have hb4 := hbo.trans hbel4
        have Hown4 := Lib.hid hown4
        clear hown4
        go_wp2
        go_roundw
        case rel => exact ⟨j + 1, by omega, by go_num, by rw [Hst.out, Hy.out]; exact Hown4.out, hb4⟩
        case measure => simp [intOf]; omega
    · have hj' : al.length ≤ j := by rw [Hn.out]; omega
      rw [List.take_of_length_le hj'] at hown
      have hTw := Lib.hid (hT.out.keep hbel)
      replace hS := Lib.hid (hS.out.keep hbel)
      replace w0 := (hbel.cell (p := ⟨gw, 0, none⟩) hgl).trans w0
      obtain ⟨c0, c1, c2⟩ := hS.out.kc.c3
      obtain ⟨o0, o1, o2⟩ := hS.out.ko.c3
      obtain ⟨x0, x1, x2, f0, f1, f2⟩ := hS.out.kr.x3
      obtain ⟨m1, m2, m3, rfl⟩ := hown.shape
      have w0a : wo.cell? ⟨gw, 1, none⟩ = some (.string t) := (hbel.cell (p := ⟨gw, 1 + 0, none⟩) hgl).trans (Strs.at1 Hw.out Hx.out)
      clear hown
      go_wp2_with (fail)
      refine (ParseImage_i t _ htz).mono ?_
      rw [show ParseRes wo t = fun e w' => ∃ v', e = .returned (.tuple #[v', .bool true]) ∧ Own 32 (Own 3 IntV) (Iv wo.heap.size w'.heap.size) w' v' (parsed t) ∧ Below wo.heap.size wo w' from by funext e w'; unfold ParseRes; rw [Hok.out, Hpi.out]]
      rintro e w3 ⟨vi, rfl, oi, y3⟩
      obtain ⟨gi, ci, rfl, -, -, -, -⟩ := oi.inv_ne hil
      have Hi := Lib.hid oi
      replace hS := Lib.hid (hS.out.keep y3)
      have hTx := Lib.hid (hTw.out.keep y3)
      have hs3 : wo.heap.size ≤ w3.heap.size := y3.size
      replace w0 := (y3.cell (p := ⟨gw, 0, none⟩) (by show gw < wo.heap.size; omega)).trans w0
      clear oi c0 c1 c2 o0 o1 o2 x0 x1 x2 f0 f1 f2
      obtain ⟨c0, c1, c2⟩ := hS.out.kc.c3
      obtain ⟨o0, o1, o2⟩ := hS.out.ko.c3
      obtain ⟨x0, x1, x2, f0, f1, f2⟩ := hS.out.kr.x3
      go_wp2_with (fail)
      refine (RowSums_i _ (parsed t) _ Hi.out.grid).mono ?_
      rintro e w4 ⟨vr, rfl, orr, y4⟩
      obtain ⟨l1, l2, l3, rfl⟩ := orr.shape
      have Hr := Lib.hid orr
      have hs4 : w3.heap.size ≤ w4.heap.size := y4.size
      replace hS := Lib.hid (hS.out.keep y4)
      replace Hi := Lib.hid (Own.keep (rOwn rIntV) Hi.out y4 (Nat.le_refl _))
      clear orr c0 c1 c2 o0 o1 o2 x0 x1 x2 f0 f1 f2
      obtain ⟨c0, c1, c2⟩ := hS.out.kc.c3
      obtain ⟨o0, o1, o2⟩ := hS.out.ko.c3
      obtain ⟨x0, x1, x2, f0, f1, f2⟩ := hS.out.kr.x3
      go_wp2_with (fail)
      refine (ColSums_i _ (parsed t) _ Hi.out.grid).mono ?_
      rintro e w5 ⟨vc, rfl, occ, y5⟩
      obtain ⟨n1, n2, n3, rfl⟩ := occ.shape
      have Hc := Lib.hid occ
      have hs5 : w4.heap.size ≤ w5.heap.size := y5.size
      replace hS := Lib.hid (hS.out.keep y5)
      replace Hi := Lib.hid (Own.keep (rOwn rIntV) Hi.out y5 hs4)
      replace Hr := Lib.hid (Own.keep rIntV Hr.out y5 (Nat.le_refl _))
      clear occ c0 c1 c2 o0 o1 o2 x0 x1 x2 f0 f1 f2
      obtain ⟨o0, o1, o2⟩ := hS.out.ko.c3
      have g0 := hS.out.ko.frozen 0
      have g1 := hS.out.ko.frozen 1
      have g2 := hS.out.ko.frozen 2
      obtain ⟨W6, hW6⟩ : ∃ W, W = (((w5.setCell ⟨w1.heap.size, 1, none⟩ (.slice l1 l2 l3)).setCell ⟨w1.heap.size, 2, none⟩ (.slice n1 n2 n3)).setCell ⟨w1.heap.size, 0, none⟩ (.slice (some ⟨gi, 0, none⟩) (parsed t).length ci)) := ⟨_, rfl⟩
      have on : Only (fun x => x = w1.heap.size) w5 W6 := by
        rw [hW6]
        exact ((setCell_only w5 w1.heap.size 1 _).setCell (p := ⟨w1.heap.size, 2, none⟩) (.inl rfl) _).setCell (p := ⟨w1.heap.size, 0, none⟩) (.inl rfl) _
      have hE := Lib.hid (hS.out.put3 Hi.out Hr.out Hc.out (by omega) (by omega) (Nat.le_refl _) (Nat.le_refl _) (Nat.le_refl _) (by omega) (by omega) (by omega) (by omega) on)
      obtain ⟨x0, x1, x2, f0, f1, f2⟩ := hE.out.kr.x3
      rw [hW6] at x0 x1 x2 f0 f1 f2
      go_wp2
      rw [← hW6]
      clear x0 x1 x2 f0 f1 f2 on
      obtain ⟨⟨e0, e1, e2⟩, hfin⟩ := (hE.out).fin
      exact bodyPost_ret (v := .tuple #[.agg #[.slice (some ⟨gi, 0, none⟩) (parsed t).length ci, .slice l1 l2 l3, .slice n1 n2 n3], .string okB]) (by simp [results, Tryz.results13, go_sem, e0, e1, e2, okB]) rfl (hfin _)
theorem RunLine_path (a b c : Value) (k : Con) (s : ByteArray) (al : List ByteArray) (t : ByteArray) (w : World) (h : ConRd w a b c k) (hs : ConSz k) (ht : TabE w) (hsz : s.size ≤ 1048576) (hsaid : isSaid s = false) (hsp : splitB s 32 = ⟨#[112, 97, 116, 104]⟩ :: al) (hn : al.length = 1) (hx : al[0]? = some t) (hok : parseOk t = true) : Calls Tryz.prog 13 #[.agg #[a, b, c], .string s] w (ConRes w (k, plText k.img (parsed t))) := by
  obtain ⟨⟨a1, a2, a3, rfl⟩, ⟨b1, b2, b3, rfl⟩, ⟨d1, d2, d3, rfl⟩⟩ := h.shape
  have hk0 := Blk.keep (Blk.new w #[.slice a1 a2 a3, .slice b1 b2 b3, .slice d1 d2 d3] 34) (Below.pureAlloc _ (.cells NilC 34))
  have hb0 : Below w.heap.size w ((w.alloc (.cells #[.slice a1 a2 a3, .slice b1 b2 b3, .slice d1 d2 d3] 34)).alloc (.cells NilC 34)) := ((Below.refl _ _).alloc (Nat.le_refl _) _).alloc (by simp) _
  have HC := Lib.hid (h.keep hb0)
  have Hh := Lib.hid h
  have Hs := Lib.hid hs
  have Ht := Lib.hid ht
  have c0 := hk0.cell 0
  have c1 := hk0.cell 1
  have c2 := hk0.cell 2
  simp only [List.getElem?_toArray, List.getElem?_cons_zero, List.getElem?_cons_succ] at c0 c1 c2
  clear h hs hb0 hk0 ht
  obtain ⟨hs0, h35, hne⟩ := line_facts hsaid
  have Hps := Lib.hid (args_size hsp hsz)
  have Hsp := Lib.hid hsp
  have hal := args_len hsp hsz
  rw [hn] at hal
  have Hn := Lib.hid hn
  have htz := Hps.out t (List.mem_of_getElem? hx)
  have Hx := Lib.hid hx
  have Hok := Lib.hid hok
  have Hpi := Lib.hid (show parseImg t = parsed t from by unfold parseImg; rw [if_pos hok])
  obtain ⟨ir, ic, hr1, hr5, hc1, hc5, hsh⟩ := imageOk_shape (show imageOk (parsed t) = true from by unfold parseOk at hok; rw [Bool.and_eq_true] at hok; exact hok.2)
  have Hsh := Lib.hid hsh
  have hil : 0 < (parsed t).length := by rw [hsh.1]; omega
  clear hx hok hsh
  clear hsaid hsp hn
  go_enter Tryz.func13, Tryz.ntmps13
  go_wp2_with (fail)
  refine (copyConsole_c _ _ _ k _ HC.out Hs.out).mono ?_
  rintro e w1 ⟨va, vb, vc, rfl, ho, y1⟩
  obtain ⟨⟨p1, p2, p3, rfl⟩, ⟨q1, q2, q3, rfl⟩, ⟨r1, r2, r3, rfl⟩⟩ := ho.rd.shape
  have St := Lib.hid (RlSt.start rfl Hh.out y1 ho)
  clear ho y1 c0 c1 c2
  go_wp2_with (fail)
  refine (SplitAny_i _ 32 _ hsz).mono ?_
  rintro e w2 ⟨vw, rfl, ow, y2⟩
  rw [Hsp.out] at ow
  obtain ⟨gw, cw, rfl, hgw, hcw, -, -⟩ := ow.inv_ne (by simp)
  have hS := Lib.hid (St.out.keep y2)
  have Hw := Lib.hid ow.strs
  have w0 := Strs.at0 Hw.out (k := 0) rfl
  have hgl : gw < w2.heap.size := hgw.2
  have hSz : w1.heap.size < w2.heap.size := hS.out.ko.lt
  have hBo : w.heap.size + 2 ≤ w1.heap.size := by have := hS.out.hlo; have := hS.out.hlb; omega
  rw [List.length_cons, Hn.out] at hcw
  rw [List.length_cons, Hn.out]
  clear ow y2 St
  have hP : (if cw = 1 then (some ⟨gw, 0, none⟩ : Option Addr) else some ⟨gw, 1, none⟩) = some ⟨gw, 1, none⟩ := if_neg (by omega)
  have hT := Lib.hid (Ht.out.keep hS.out.base)
  go_wp2
  go_loopw [10, 12, 13, 14, 52] (fun v _ _ _ i wr => ∃ j : Nat, j ≤ 1 ∧ i = .int .i64 j ∧ Own 3 IntV (Iv w2.heap.size wr.heap.size) wr v (numsOf (al.take j)) ∧ Below w2.heap.size w2 wr) (fun _ _ _ _ i _ => 1 - (intOf i).toNat)
  case atStart => exact ⟨0, Nat.zero_le _, rfl, Own.nil _ _ _ _, Below.refl _ _⟩
  case round =>
    obtain ⟨j, hj, rfl, hown, hbel⟩ := hrel
    obtain ⟨wo, rfl⟩ : ∃ wo : World, wo = wr := ⟨_, rfl⟩
    have hBs := hbel.size
    by_cases hlt : j < 1
    · obtain ⟨q, hq⟩ : ∃ q, al[j]? = some q := ⟨_, List.getElem?_eq_getElem (by rw [Hn.out]; exact hlt)⟩
      have hck := Strs.at1 Hw.out hq
      rw [← hbel.cell (p := ⟨gw, 1 + j, none⟩) hgl] at hck
      have hqs := Hps.out q (List.mem_of_getElem? hq)
      have Hst := Lib.hid (numsOf_step hq)
      have hkl : (numsOf (al.take j)).length < 1099511627776 := by
        have h1 := numsOf_len (al.take j)
        have h2 := List.length_take_le j al
        omega
      obtain ⟨m1, m2, m3, rfl⟩ := hown.shape
      have Hown := Lib.hid hown
      clear hq hown
      go_wp2_with (fail)
      refine (ParseInt_i _ _ hqs (hT.out.keep hbel)).mono ?_
      rintro e w3 ⟨rfl, b3⟩
      have hs3 := b3.size
      cases hy : parseYes q
      · have Hy := Lib.hid hy
        have hb3 := hbel.trans (b3.mono hBs)
        have Hk := Lib.hid (Own.keep rIntV Hown.out b3 (Nat.le_refl _))
        clear hy
        go_wp2
        go_roundw
        case rel => exact ⟨j + 1, by omega, by go_num, by rw [Hst.out, Hy.out]; exact (rOwn rIntV).mono (fun b hb => ⟨hb.1, by have := hb.2; omega⟩) Hk.out, hb3⟩
        case measure => simp [intOf]; omega
      · have Hy := Lib.hid hy
        have hI := (parse_text hy).2
        have hbo := hbel.trans (b3.mono hBs)
        clear hy
        go_wp2_with (first | (at_builtin; (refine wpList_appR rfl _ _ 32 rfl rIntV 3 Tryz.underlying32 infoInt rfl (by decide) w2.heap.size wo.heap.size hBs hs3 rfl rfl (by exact Own.keep rIntV Hown.out b3 (Nat.le_refl _)) (by exact ⟨rfl, hI⟩) hkl ?_); intro v4 w4 hown4 hbel4 _) | fail)
        have hb4 := hbo.trans hbel4
        have Hown4 := Lib.hid hown4
        clear hown4
        go_wp2
        go_roundw
        case rel => exact ⟨j + 1, by omega, by go_num, by rw [Hst.out, Hy.out]; exact Hown4.out, hb4⟩
        case measure => simp [intOf]; omega
    · have hj' : al.length ≤ j := by rw [Hn.out]; omega
      rw [List.take_of_length_le hj'] at hown
      have hTw := Lib.hid (hT.out.keep hbel)
      replace hS := Lib.hid (hS.out.keep hbel)
      replace w0 := (hbel.cell (p := ⟨gw, 0, none⟩) hgl).trans w0
      obtain ⟨c0, c1, c2⟩ := hS.out.kc.c3
      obtain ⟨o0, o1, o2⟩ := hS.out.ko.c3
      obtain ⟨x0, x1, x2, f0, f1, f2⟩ := hS.out.kr.x3
      obtain ⟨m1, m2, m3, rfl⟩ := hown.shape
      have w0a : wo.cell? ⟨gw, 1, none⟩ = some (.string t) := (hbel.cell (p := ⟨gw, 1 + 0, none⟩) hgl).trans (Strs.at1 Hw.out Hx.out)
      clear hown
      go_wp2_with (fail)
      refine (ParseImage_i t _ htz).mono ?_
      rw [show ParseRes wo t = fun e w' => ∃ v', e = .returned (.tuple #[v', .bool true]) ∧ Own 32 (Own 3 IntV) (Iv wo.heap.size w'.heap.size) w' v' (parsed t) ∧ Below wo.heap.size wo w' from by funext e w'; unfold ParseRes; rw [Hok.out, Hpi.out]]
      rintro e w3 ⟨vi, rfl, oi, y3⟩
      obtain ⟨gi, ci, rfl, -, -, -, -⟩ := oi.inv_ne hil
      have Hi := Lib.hid oi
      replace hS := Lib.hid (hS.out.keep y3)
      have hTx := Lib.hid (hTw.out.keep y3)
      have hs3 : wo.heap.size ≤ w3.heap.size := y3.size
      replace w0 := (y3.cell (p := ⟨gw, 0, none⟩) (by show gw < wo.heap.size; omega)).trans w0
      clear oi c0 c1 c2 o0 o1 o2 x0 x1 x2 f0 f1 f2
      obtain ⟨c0, c1, c2⟩ := hS.out.kc.c3
      obtain ⟨o0, o1, o2⟩ := hS.out.ko.c3
      obtain ⟨x0, x1, x2, f0, f1, f2⟩ := hS.out.kr.x3
      have hTb := Lib.hid ((hTx.out.keep (Below.refl _ _).drew).1)
      have Hg := Lib.hid (Hi.out.grid.keep (Below.refl _ _).drew)
      replace hS := Lib.hid hS.out.drew
      clear Hi
      go_wp2
      go_region_with (go_at_call 40; (with_reducible refine (PathLine_ig _ _ k.img (parsed t) _ hS.out.rd.m Hg.out hTb.out).mono ?_); rintro e w4 ⟨T, rfl, hT1, y4⟩; replace hS := Lib.hid (hS.out.keep y4); have HT1 := Lib.hid (plText_eq hT1); clear hT1; obtain ⟨o0, o1, o2⟩ := hS.out.ko.c3; obtain ⟨x0, x1, x2, f0, f1, f2⟩ := hS.out.kr.x3)
      all_goals go_wp2
      all_goals
        obtain ⟨⟨e0, e1, e2⟩, hfin⟩ := (hS.out.done).fin
        exact bodyPost_ret (v := .tuple #[.agg #[.slice p1 p2 p3, .slice q1 q2 q3, .slice r1 r2 r3], .string T]) (by simp [results, Tryz.results13, go_sem, e0, e1, e2]) rfl (by rw [HT1.out]; exact hfin _)
theorem RunLine_near (a b c : Value) (k : Con) (s : ByteArray) (al : List ByteArray) (t : ByteArray) (w : World) (h : ConRd w a b c k) (hs : ConSz k) (ht : TabE w) (hsz : s.size ≤ 1048576) (hsaid : isSaid s = false) (hsp : splitB s 32 = ⟨#[110, 101, 97, 114]⟩ :: al) (hn : al.length = 1) (hx : al[0]? = some t) (hok : parseOk t = true) : Calls Tryz.prog 13 #[.agg #[a, b, c], .string s] w (ConRes w (nearR k (parsed t))) := by
  obtain ⟨⟨a1, a2, a3, rfl⟩, ⟨b1, b2, b3, rfl⟩, ⟨d1, d2, d3, rfl⟩⟩ := h.shape
  have hk0 := Blk.keep (Blk.new w #[.slice a1 a2 a3, .slice b1 b2 b3, .slice d1 d2 d3] 34) (Below.pureAlloc _ (.cells NilC 34))
  have hb0 : Below w.heap.size w ((w.alloc (.cells #[.slice a1 a2 a3, .slice b1 b2 b3, .slice d1 d2 d3] 34)).alloc (.cells NilC 34)) := ((Below.refl _ _).alloc (Nat.le_refl _) _).alloc (by simp) _
  have HC := Lib.hid (h.keep hb0)
  have Hh := Lib.hid h
  have Hs := Lib.hid hs
  have Ht := Lib.hid ht
  have c0 := hk0.cell 0
  have c1 := hk0.cell 1
  have c2 := hk0.cell 2
  simp only [List.getElem?_toArray, List.getElem?_cons_zero, List.getElem?_cons_succ] at c0 c1 c2
  clear h hs hb0 hk0 ht
  obtain ⟨hs0, h35, hne⟩ := line_facts hsaid
  have Hps := Lib.hid (args_size hsp hsz)
  have Hsp := Lib.hid hsp
  have hal := args_len hsp hsz
  rw [hn] at hal
  have Hn := Lib.hid hn
  have htz := Hps.out t (List.mem_of_getElem? hx)
  have Hx := Lib.hid hx
  have Hok := Lib.hid hok
  have Hpi := Lib.hid (show parseImg t = parsed t from by unfold parseImg; rw [if_pos hok])
  obtain ⟨ir, ic, hr1, hr5, hc1, hc5, hsh⟩ := imageOk_shape (show imageOk (parsed t) = true from by unfold parseOk at hok; rw [Bool.and_eq_true] at hok; exact hok.2)
  have Hsh := Lib.hid hsh
  have hil : 0 < (parsed t).length := by rw [hsh.1]; omega
  clear hx hok hsh
  clear hsaid hsp hn
  go_enter Tryz.func13, Tryz.ntmps13
  go_wp2_with (fail)
  refine (copyConsole_c _ _ _ k _ HC.out Hs.out).mono ?_
  rintro e w1 ⟨va, vb, vc, rfl, ho, y1⟩
  obtain ⟨⟨p1, p2, p3, rfl⟩, ⟨q1, q2, q3, rfl⟩, ⟨r1, r2, r3, rfl⟩⟩ := ho.rd.shape
  have St := Lib.hid (RlSt.start rfl Hh.out y1 ho)
  clear ho y1 c0 c1 c2
  go_wp2_with (fail)
  refine (SplitAny_i _ 32 _ hsz).mono ?_
  rintro e w2 ⟨vw, rfl, ow, y2⟩
  rw [Hsp.out] at ow
  obtain ⟨gw, cw, rfl, hgw, hcw, -, -⟩ := ow.inv_ne (by simp)
  have hS := Lib.hid (St.out.keep y2)
  have Hw := Lib.hid ow.strs
  have w0 := Strs.at0 Hw.out (k := 0) rfl
  have hgl : gw < w2.heap.size := hgw.2
  have hSz : w1.heap.size < w2.heap.size := hS.out.ko.lt
  have hBo : w.heap.size + 2 ≤ w1.heap.size := by have := hS.out.hlo; have := hS.out.hlb; omega
  rw [List.length_cons, Hn.out] at hcw
  rw [List.length_cons, Hn.out]
  clear ow y2 St
  have hP : (if cw = 1 then (some ⟨gw, 0, none⟩ : Option Addr) else some ⟨gw, 1, none⟩) = some ⟨gw, 1, none⟩ := if_neg (by omega)
  have hT := Lib.hid (Ht.out.keep hS.out.base)
  go_wp2
  go_loopw [10, 12, 13, 14, 52] (fun v _ _ _ i wr => ∃ j : Nat, j ≤ 1 ∧ i = .int .i64 j ∧ Own 3 IntV (Iv w2.heap.size wr.heap.size) wr v (numsOf (al.take j)) ∧ Below w2.heap.size w2 wr) (fun _ _ _ _ i _ => 1 - (intOf i).toNat)
  case atStart => exact ⟨0, Nat.zero_le _, rfl, Own.nil _ _ _ _, Below.refl _ _⟩
  case round =>
    obtain ⟨j, hj, rfl, hown, hbel⟩ := hrel
    obtain ⟨wo, rfl⟩ : ∃ wo : World, wo = wr := ⟨_, rfl⟩
    have hBs := hbel.size
    by_cases hlt : j < 1
    · obtain ⟨q, hq⟩ : ∃ q, al[j]? = some q := ⟨_, List.getElem?_eq_getElem (by rw [Hn.out]; exact hlt)⟩
      have hck := Strs.at1 Hw.out hq
      rw [← hbel.cell (p := ⟨gw, 1 + j, none⟩) hgl] at hck
      have hqs := Hps.out q (List.mem_of_getElem? hq)
      have Hst := Lib.hid (numsOf_step hq)
      have hkl : (numsOf (al.take j)).length < 1099511627776 := by
        have h1 := numsOf_len (al.take j)
        have h2 := List.length_take_le j al
        omega
      obtain ⟨m1, m2, m3, rfl⟩ := hown.shape
      have Hown := Lib.hid hown
      clear hq hown
      go_wp2_with (fail)
      refine (ParseInt_i _ _ hqs (hT.out.keep hbel)).mono ?_
      rintro e w3 ⟨rfl, b3⟩
      have hs3 := b3.size
      cases hy : parseYes q
      · have Hy := Lib.hid hy
        have hb3 := hbel.trans (b3.mono hBs)
        have Hk := Lib.hid (Own.keep rIntV Hown.out b3 (Nat.le_refl _))
        clear hy
        go_wp2
        go_roundw
        case rel => exact ⟨j + 1, by omega, by go_num, by rw [Hst.out, Hy.out]; exact (rOwn rIntV).mono (fun b hb => ⟨hb.1, by have := hb.2; omega⟩) Hk.out, hb3⟩
        case measure => simp [intOf]; omega
      · have Hy := Lib.hid hy
        have hI := (parse_text hy).2
        have hbo := hbel.trans (b3.mono hBs)
        clear hy
        go_wp2_with (first | (at_builtin; (refine wpList_appR rfl _ _ 32 rfl rIntV 3 Tryz.underlying32 infoInt rfl (by decide) w2.heap.size wo.heap.size hBs hs3 rfl rfl (by exact Own.keep rIntV Hown.out b3 (Nat.le_refl _)) (by exact ⟨rfl, hI⟩) hkl ?_); intro v4 w4 hown4 hbel4 _) | fail)
        have hb4 := hbo.trans hbel4
        have Hown4 := Lib.hid hown4
        clear hown4
        go_wp2
        go_roundw
        case rel => exact ⟨j + 1, by omega, by go_num, by rw [Hst.out, Hy.out]; exact Hown4.out, hb4⟩
        case measure => simp [intOf]; omega
    · have hj' : al.length ≤ j := by rw [Hn.out]; omega
      rw [List.take_of_length_le hj'] at hown
      have hTw := Lib.hid (hT.out.keep hbel)
      replace hS := Lib.hid (hS.out.keep hbel)
      replace w0 := (hbel.cell (p := ⟨gw, 0, none⟩) hgl).trans w0
      obtain ⟨c0, c1, c2⟩ := hS.out.kc.c3
      obtain ⟨o0, o1, o2⟩ := hS.out.ko.c3
      obtain ⟨x0, x1, x2, f0, f1, f2⟩ := hS.out.kr.x3
      obtain ⟨m1, m2, m3, rfl⟩ := hown.shape
      have w0a : wo.cell? ⟨gw, 1, none⟩ = some (.string t) := (hbel.cell (p := ⟨gw, 1 + 0, none⟩) hgl).trans (Strs.at1 Hw.out Hx.out)
      clear hown
      go_wp2_with (fail)
      refine (ParseImage_i t _ htz).mono ?_
      rw [show ParseRes wo t = fun e w' => ∃ v', e = .returned (.tuple #[v', .bool true]) ∧ Own 32 (Own 3 IntV) (Iv wo.heap.size w'.heap.size) w' v' (parsed t) ∧ Below wo.heap.size wo w' from by funext e w'; unfold ParseRes; rw [Hok.out, Hpi.out]]
      rintro e w3 ⟨vi, rfl, oi, y3⟩
      obtain ⟨gi, ci, rfl, -, -, -, -⟩ := oi.inv_ne hil
      have Hi := Lib.hid oi
      replace hS := Lib.hid (hS.out.keep y3)
      have hTx := Lib.hid (hTw.out.keep y3)
      have hs3 : wo.heap.size ≤ w3.heap.size := y3.size
      replace w0 := (y3.cell (p := ⟨gw, 0, none⟩) (by show gw < wo.heap.size; omega)).trans w0
      clear oi c0 c1 c2 o0 o1 o2 x0 x1 x2 f0 f1 f2
      obtain ⟨c0, c1, c2⟩ := hS.out.kc.c3
      obtain ⟨o0, o1, o2⟩ := hS.out.ko.c3
      obtain ⟨x0, x1, x2, f0, f1, f2⟩ := hS.out.kr.x3
      go_wp2_with (fail)
      refine (NearestImage_i _ _ _ k.rows k.cols (parsed t) ir ic _ hS.out.rd.r hS.out.rd.c Hi.out.grid Hsh.out hr1 hr5 hc1 hc5).mono ?_
      rintro e w4 ⟨vm, nn, rfl, om, hnn, y4⟩
      obtain ⟨o, ho⟩ : ∃ o, nearG k.rows k.cols (parsed t) = o := ⟨_, rfl⟩
      have Hr0 := Lib.hid (nearR_of k (parsed t) ho)
      have hq64 : ∀ x, o = some x → I64 (distG k.rows.length k.cols.length x (parsed t)) := fun x hx => near_64 (by rw [ho, hx])
      rw [ho] at om hnn
      rw [ho]
      obtain ⟨l1, l2, l3, rfl⟩ := om.shape
      replace hS := Lib.hid (hS.out.keep y4)
      have hTy := Lib.hid (hTx.out.keep y4)
      clear ho Hi c0 c1 c2 o0 o1 o2 x0 x1 x2 f0 f1 f2
      cases o with
      | none =>
        clear om hnn hq64
        have Hr := Lib.hid (show nearR k (parsed t) = (k, noneB) from Hr0.out)
        clear Hr0
        obtain ⟨o0, o1, o2⟩ := hS.out.ko.c3
        obtain ⟨x0, x1, x2, f0, f1, f2⟩ := hS.out.kr.x3
        go_wp2
        obtain ⟨⟨e0, e1, e2⟩, hfin⟩ := (hS.out.done).fin
        exact bodyPost_ret (v := .tuple #[.agg #[.slice p1 p2 p3, .slice q1 q2 q3, .slice r1 r2 r3], .string noneB]) (by simp [results, Tryz.results13, go_sem, e0, e1, e2, noneB]) rfl (by rw [Hr.out]; exact hfin _)
      | some x =>
        obtain rfl := hnn x rfl
        have hDi := hq64 x rfl
        clear hq64
        have Hr := Lib.hid (show nearR k (parsed t) = (k, formatImage x ++ ⟨#[32]⟩ ++ fmtInt (distG k.rows.length k.cols.length x (parsed t))) from Hr0.out)
        clear Hr0
        obtain ⟨D, hD⟩ : ∃ D, distG k.rows.length k.cols.length x (parsed t) = D := ⟨_, rfl⟩
        rw [hD] at Hr hDi
        rw [hD]
        have HG := Lib.hid (show Grid w4.drew (.slice l1 l2 l3) x from om.grid.keep (Below.refl _ _).drew)
        have hTb := Lib.hid ((hTy.out.keep (Below.refl _ _).drew).1)
        obtain ⟨sa, sb, sc⟩ := nearSz x hDi
        clear om hnn hD
        obtain ⟨o0, o1, o2⟩ := hS.out.ko.c3
        obtain ⟨x0, x1, x2, f0, f1, f2⟩ := hS.out.kr.x3
        replace hS := Lib.hid hS.out.drew
        go_wp2
        go_region_with (first
          | (go_at_call 30; (with_reducible refine (FormatImage_i _ x _ HG.out).mono ?_); rintro e w5 ⟨rfl, y5⟩; replace hS := Lib.hid (hS.out.keep y5); replace hTb := Lib.hid (hTb.out.keep y5); obtain ⟨o0, o1, o2⟩ := hS.out.ko.c3; obtain ⟨x0, x1, x2, f0, f1, f2⟩ := hS.out.kr.x3)
          | (go_at_call 8; (with_reducible refine (FormatInt_i D hDi _ hTb.out).mono ?_); rintro e w6 ⟨rfl, y6⟩; replace hS := Lib.hid (hS.out.keep y6); obtain ⟨o0, o1, o2⟩ := hS.out.ko.c3; obtain ⟨x0, x1, x2, f0, f1, f2⟩ := hS.out.kr.x3))
        all_goals go_wp2
        all_goals
          obtain ⟨⟨e0, e1, e2⟩, hfin⟩ := (hS.out.done).fin
          exact bodyPost_ret (v := .tuple #[.agg #[.slice p1 p2 p3, .slice q1 q2 q3, .slice r1 r2 r3], .string (formatImage x ++ ⟨#[32]⟩ ++ fmtInt D)]) (by simp [results, Tryz.results13, go_sem, e0, e1, e2]) rfl (by rw [Hr.out]; exact hfin _)
end Go.Proofs.YthmocomfjgmjoaaGreatDoor

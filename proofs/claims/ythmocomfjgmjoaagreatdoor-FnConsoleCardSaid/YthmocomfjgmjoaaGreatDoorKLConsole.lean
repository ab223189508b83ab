/- FnConsole: the walk of the law. -/
import Derived.Test.YthmocomfjgmjoaaGreatDoorKZr
import Derived.Test.YthmocomfjgmjoaaGreatDoorKDl
set_option maxHeartbeats 4000000
set_option maxRecDepth 100000
namespace Go.Proofs.YthmocomfjgmjoaaGreatDoor
open Go.RowKit
theorem first_said {s : ByteArray} (h : s ∈ strsF4) : (rlOf con0 s).2 ≠ ByteArray.empty := by
  have key : ∀ (s t : ByteArray), isSaid s = false → splitB s 32 = [wImage, t] → parseOk t = true → (rlOf con0 s).2 ≠ ByteArray.empty := by
    intro s t h1 h2 h3
    rw [rlOf_rest h1 h2 (by simp), restR_img (by decide +kernel), if_pos h3]
    unfold imageR
    rw [if_pos rfl]
    show okB ≠ ByteArray.empty
    decide +kernel
  unfold strsF4 at h
  simp only [List.mem_cons, List.not_mem_nil, or_false] at h
  rcases h with rfl | rfl | rfl | rfl
  · exact key _ ⟨#[35, 46, 47, 46, 35]⟩ (by rfl) (by decide +kernel) (by decide +kernel)
  · exact key _ ⟨#[35, 35, 46, 47, 46, 35, 35, 47, 35, 46, 46]⟩ (by rfl) (by decide +kernel) (by decide +kernel)
  · exact key _ ⟨#[46, 35, 46, 47, 35, 35, 35, 47, 46, 35, 46]⟩ (by rfl) (by decide +kernel) (by decide +kernel)
  · exact key _ ⟨#[35, 46, 35, 47, 46, 35, 46]⟩ (by rfl) (by decide +kernel) (by decide +kernel)
theorem FnConsole_w {v : Value} {bs : List Int} {w : World} (hv : Bytes w v bs) (ht : TabE w) :
    Calls Tryz.prog 4 #[v] w fun e w' => e = .returned (.bool true) ∧ Below w.heap.size w w' := by
  obtain ⟨a, cap, rfl, -, -, -, -⟩ := id hv
  rcases Nat.lt_or_ge 1048576 bs.length with h1 | h1
  · go_enter Tryz.func4, Tryz.ntmps4
    go_wp2
    go_ret
    exact ⟨rfl, Below.refl _ _⟩
  have hd0 : decide ((1048576 : Int) < (bs.length : Int)) = false := by simp; omega
  have Ht := Lib.hid ht
  clear ht
  go_enter Tryz.func4, Tryz.ntmps4
  go_wp2_with (fail)
  refine (MakeLines_c _ bs w hv).mono ?_
  rintro e w1 ⟨vl, s0, rest, rfl, hs0, hl8, hnice, ol, y1⟩
  obtain ⟨ls, hls⟩ : ∃ ls, s0 :: rest = ls := ⟨_, rfl⟩
  have hnc : ∀ t ∈ ls, NiceLine t := by rw [← hls]; intro t ht; rcases List.mem_cons.1 ht with rfl | ht; exact niceF4 _ hs0; exact hnice t ht
  have h40 : ls.length ≤ 40 := by rw [← hls, List.length_cons]; omega
  have hpos : 1 ≤ ls.length := by rw [← hls, List.length_cons]; omega
  have HP := Lib.hid (show 0 < (sessTo ls).2.size from by rw [← hls]; exact sess_pos (first_said hs0))
  rw [hls] at ol
  have HS := Lib.hid (show ∀ x ∈ ls, x.size ≤ 1048576 from fun x hx => by have := (hnc x hx).1; omega)
  have HN := Lib.hid (show ∀ x ∈ ls, (10 : UInt8) ∉ x.data.toList from fun x hx => (hnc x hx).2)
  have HB := Lib.hid (show bulkB ⟨#[10]⟩ ls ≤ 1048576 from by
    have h := bulkB_le ⟨#[10]⟩ (xs := ls) (m := 100) (fun x hx => (hnc x hx).1)
    have e : (⟨#[10]⟩ : ByteArray).size = 1 := rfl
    rw [e] at h; omega)
  have HL := Lib.hid ol.strs
  obtain ⟨a0, cap0, rfl, -⟩ := id ol.strs
  clear ol hnice hnc hls hs0 hv hl8
  go_wp2_with (fail)
  refine (NewConsole_impl.NewConsole _).mono ?_
  rintro e w2 ⟨va, vb, vc, rfl, o2, y2⟩
  replace o2 : OwnC (Iv w1.heap.size w2.heap.size) w2 va vb vc con0 := o2
  obtain ⟨⟨p1, p2, p3, rfl⟩, ⟨q1, q2, q3, rfl⟩, ⟨r1, r2, r3, rfl⟩⟩ := o2.rd.shape
  have HY := Lib.hid (y1.trans_pure y2 (Nat.le_refl _))
  have HY2 := Lib.hid y2
  clear y1 y2
  have Hat0 := Lib.hid (SesAt.start ls o2)
  have Hb0 := Lib.hid (Below.pureAlloc w2 (.cells #[.slice p1 p2 p3, .slice q1 q2 q3, .slice r1 r2 r3] 34))
  clear o2
  go_wp2
  go_loopw [5, 7, 8, 9, 20] (fun o _ _ _ i wr => ∃ (j : Nat) (O : ByteArray) (a b c : Value) (k : Con), j ≤ ls.length ∧ i = .int .i64 j ∧ o = .string O ∧ Hid (SesAt ls w2.heap.size wr a b c j O k) ∧ Hid (Below w2.heap.size w2 wr)) (fun _ _ _ _ i _ => ls.length - (intOf i).toNat)
  case atStart => exact ⟨0, ByteArray.empty, _, _, _, con0, Nat.zero_le _, rfl, rfl, Hat0, Hb0⟩
  case round =>
    clear Hat0 Hb0
    obtain ⟨j, O, a, b, c, k, hj, rfl, rfl, hat, hbel⟩ := hrel
    obtain ⟨wo, rfl⟩ : ∃ wo : World, wo = wr := ⟨_, rfl⟩
    obtain ⟨⟨a1, a2, a3, rfl⟩, ⟨b1, b2, b3, rfl⟩, ⟨d1, d2, d3, rfl⟩⟩ := hat.out.st.own.rd.shape
    by_cases hlt : j < ls.length
    · obtain ⟨s, hq⟩ : ∃ s, ls[j]? = some s := ⟨_, List.getElem?_eq_getElem hlt⟩
      obtain ⟨gl, off, cc, he, hgl, hcc⟩ := HL.out.inv_ne (by omega)
      obtain ⟨rfl, rfl⟩ : a0 = some ⟨gl, off, none⟩ ∧ cap0 = cc := by simpa using he
      obtain ⟨u, hck, rfl, -⟩ := Sl.at HL.out hq
      have hgl2 : gl < w2.heap.size := by have := HY2.out.size; omega
      rw [← HY2.out.cell (p := ⟨gl, off + j, none⟩) hgl, ← hbel.out.cell (p := ⟨gl, off + j, none⟩) hgl2] at hck
      have hss := HS.out s (List.mem_of_getElem? hq)
      have hjl := hat.out.so
      have hj40 : j < 40 := by omega
      obtain ⟨k', T, hrl⟩ : ∃ k' T, rlOf k s = (k', T) := ⟨_, _, rfl⟩
      have hrk := rl_ok hat.out.sk hss
      rw [hrl] at hrk
      have hsz := sesSz (O := O) (T := T) (by omega) hrk.2
      have Hq := Lib.hid hq
      have Hrl := Lib.hid hrl
      have Hrk := Lib.hid hrk
      have Hss := Lib.hid hss
      obtain ⟨k0, k1, k2⟩ := hat.out.st.blk.c3
      clear hq hrl hrk hss he
      go_wp2_with (fail)
      refine (RunLine_i _ _ _ k s _ hat.out.st.own.rd hat.out.sk.sz (Ht.out.keep (HY.out.trans_pure hbel.out (Nat.le_refl _))) Hss.out).mono ?_
      rw [Hrl.out]
      rintro e w5 ⟨a', b', c', rfl, o5, y5⟩
      obtain ⟨⟨u1, u2, u3, rfl⟩, ⟨v1, v2, v3, rfl⟩, ⟨z1, z2, z3, rfl⟩⟩ := o5.rd.shape
      have Hst := Lib.hid (hat.out.st.next y5 o5)
      have Hbn := Lib.hid (hat.out.st.below (B := w2.heap.size) (a' := .slice u1 u2 u3) (b' := .slice v1 v2 v3) (c' := .slice z1 z2 z3) (Nat.le_refl _) hbel.out y5)
      have kbl := (hat.out.st.blk.keep y5)
      obtain ⟨k0, k1, k2⟩ := kbl.c3
      have hne5 : w2.heap.size < w5.heap.size := kbl.lt
      have h0w := kbl.frozen 0
      have h1w := kbl.frozen 1
      have h2w := kbl.frozen 2
      obtain ⟨zo, zt, ztn, zotn, zot, zotn2⟩ := hsz
      clear o5 kbl
      by_cases hT : T = ByteArray.empty
      · have Hn := Lib.hid (sess_none Hq.out hat.out.at_ Hrl.out hT)
        subst hT
        go_wp2
        go_roundw
        case rel => exact ⟨j + 1, O, _, _, _, k', by omega, by go_num, rfl, Lib.hid ⟨Hst.out, Hn.out, Hrk.out.1, by omega⟩, Hbn⟩
        case measure => simp [intOf]; omega
      · have Hn := Lib.hid (sess_some Hq.out hat.out.at_ Hrl.out hT)
        have hTe := ba_empty_isEmpty hT
        have zs : (O ++ T ++ ⟨#[10]⟩ : ByteArray).size ≤ 4398046511104 * (j + 1 : Nat) := by
          have e : (⟨#[10]⟩ : ByteArray).size = 1 := rfl
          simp only [ba_append_size, e]; omega
        have Zs := Lib.hid zs
        clear hT zs
        go_wp2
        go_roundw
        case rel => exact ⟨j + 1, O ++ T ++ ⟨#[10]⟩, _, _, _, k', by omega, by go_num, rfl, Lib.hid ⟨Hst.out, Hn.out, Hrk.out.1, Zs.out⟩, Hbn⟩
        case measure => simp [intOf]; omega
    · have hjl : j = ls.length := by omega
      have Hat := Lib.hid (show sessTo ls = (k, O) from by have h := hat.out.at_; rwa [hjl, List.take_length] at h)
      have HO := Lib.hid (show O.size ≤ 175921860444160 from by have := hat.out.so; omega)
      have hOne : O.toList.isEmpty = false := ba_empty_isEmpty (by intro e; have := HP.out; rw [Hat.out, e] at this; simp at this)
      have hbw := HY.out.trans_pure hbel.out (Nat.le_refl _)
      obtain ⟨e1, e2, e3⟩ := sessOf_join (ls := ls) (by intro e; rw [e] at hpos; simp at hpos) h40 HN.out
      obtain ⟨r, hr⟩ : ∃ r, sessOf (joinB ⟨#[10]⟩ ls) = r := ⟨_, rfl⟩
      rw [hr, Hat.out] at e1
      rw [hr] at e2 e3
      obtain ⟨r1', r2'⟩ := r
      replace e1 : r1' = O := e1
      subst e1
      replace e2 : (ls.length : Int) - 1 ≤ r2' := e2
      replace e3 : r2' ≤ (ls.length : Int) := e3
      have Hr := Lib.hid hr
      have Hsz := Lib.hid (show (joinB ⟨#[10]⟩ ls).size ≤ 1048576 from Nat.le_trans (joinB_size _ _) HB.out)
      have HLw := Lib.hid ((HL.out.keep (rSl rStrV) HY2.out).keep (rSl rStrV) hbel.out)
      have g1 : decide ((ls.length : Int) - 1 ≤ r2') = true := by simp; omega
      have g2 : decide (r2' ≤ (ls.length : Int)) = true := by simp; omega
      have gb := HB.out
      clear hr hd0
      go_wp2_with (first
        | (go_at_call 14; refine (Join_i _ ls _ _ HLw.out (by omega) (by omega)).mono ?_; rintro e w6 ⟨rfl, y6⟩)
        | (go_at_call 9; refine (RunSession_i _ _ (Ht.out.keep (hbw.trans_pure y6 (Nat.le_refl _))) Hsz.out).mono ?_; rw [Hr.out]; rintro e w7 ⟨rfl, y7⟩)
        | fail)
      go_wp2
      go_ret
      exact ⟨rfl, (hbw.trans_pure y6 (Nat.le_refl _)).trans_pure y7 (Nat.le_refl _)⟩
end Go.Proofs.YthmocomfjgmjoaaGreatDoor

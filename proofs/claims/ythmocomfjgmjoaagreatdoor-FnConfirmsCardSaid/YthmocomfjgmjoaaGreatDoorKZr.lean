/- Contract: RunSession of the program. -/
import Derived.Test.YthmocomfjgmjoaaGreatDoorKZ1
import Derived.Test.YthmocomfjgmjoaaGreatDoorQ28
set_option maxHeartbeats 4000000
set_option maxRecDepth 100000
namespace Go.Proofs.YthmocomfjgmjoaaGreatDoor
open Go.RowKit
theorem RunSession_i (s : ByteArray) (w : World) (ht : TabE w) (hs : s.size ≤ 1048576) : Calls Tryz.prog 9 #[.string s] w fun e w' => e = .returned (.tuple #[.string (sessOf s).1, .int .i64 (sessOf s).2]) ∧ Below w.heap.size w w' := by
  have hps := linesB_part s
  obtain ⟨r, hr⟩ : ∃ r, sessOf s = r := ⟨_, rfl⟩
  rw [hr]
  have Hr := Lib.hid hr
  have Ht := Lib.hid ht
  clear hr ht
  go_enter Tryz.func9, Tryz.ntmps9
  go_wp2_with (fail)
  refine (SplitLines_i s _ hs).mono ?_
  rintro e w1 ⟨vl, rfl, ol, y1⟩
  obtain ⟨ls, hls⟩ : ∃ ls, linesB s = ls := ⟨_, rfl⟩
  rw [hls] at hps ol
  have HS := Lib.hid (show ∀ x ∈ ls, x.size ≤ 1048576 from fun x hx => Nat.le_trans (hps x hx) hs)
  have hll : ls.length ≤ 1048577 := by have := linesB_len s; rw [hls] at this; omega
  clear hps
  have HL := Lib.hid ol
  obtain ⟨a0, cap0, rfl, -⟩ := id ol
  clear ol
  by_cases h40' : 40 < ls.length
  · have h40 : ¬ ls.length ≤ 40 := by omega
    have Hf := Lib.hid (show r = (ByteArray.empty, -1) from by rw [← Hr.out]; unfold sessOf; rw [hls, if_neg h40])
    have hd : decide ((40 : Int) < (ls.length : Int)) = true := by simp; omega
    clear hls
    go_wp2
    refine bodyPost_ret (v := .tuple #[.string ByteArray.empty, .int .i64 (-1)]) (by simp [results, Tryz.results9, go_sem]; rfl) rfl ⟨?_, y1⟩
    rw [Hf.out]
  have h40 : ls.length ≤ 40 := by omega
  have Hf := Lib.hid (show r = ((sessTo ls).2, (ls.length : Int)) from by rw [← Hr.out]; unfold sessOf; rw [hls, if_pos h40])
  have hd : decide ((40 : Int) < (ls.length : Int)) = false := by simp; omega
  clear hls
  go_wp2_with (fail)
  refine (NewConsole_impl.NewConsole _).mono ?_
  rintro e w2 ⟨va, vb, vc, rfl, o2, y2⟩
  replace o2 : OwnC (Iv w1.heap.size w2.heap.size) w2 va vb vc con0 := o2
  obtain ⟨⟨p1, p2, p3, rfl⟩, ⟨q1, q2, q3, rfl⟩, ⟨r1, r2, r3, rfl⟩⟩ := o2.rd.shape
  have HY := Lib.hid (y1.trans_pure y2 (Nat.le_refl _))
  have HY2 := Lib.hid y2
  clear y1 y2
  have Hat0 := Lib.hid (SesAt.start ls o2)
  have Hb0 := Lib.hid (Below.pureAlloc w2 (.cells #[.slice p1 p2 p3, .slice q1 q2 q3, .slice r1 r2 r3] 34))
  clear o2
  go_wp2
  go_loopw [6, 8, 9, 10, 19] (fun o _ _ _ i wr => ∃ (j : Nat) (O : ByteArray) (a b c : Value) (k : Con), j ≤ ls.length ∧ i = .int .i64 j ∧ o = .string O ∧ Hid (SesAt ls w2.heap.size wr a b c j O k) ∧ Hid (Below w2.heap.size w2 wr)) (fun _ _ _ _ i _ => ls.length - (intOf i).toNat)
  case atStart => exact ⟨0, ByteArray.empty, _, _, _, con0, Nat.zero_le _, rfl, rfl, Hat0, Hb0⟩
  case round =>
    clear Hat0 Hb0
    obtain ⟨j, O, a, b, c, k, hj, rfl, rfl, hat, hbel⟩ := hrel
    obtain ⟨wo, rfl⟩ : ∃ wo : World, wo = wr := ⟨_, rfl⟩
    obtain ⟨⟨a1, a2, a3, rfl⟩, ⟨b1, b2, b3, rfl⟩, ⟨d1, d2, d3, rfl⟩⟩ := hat.out.st.own.rd.shape
    by_cases hlt : j < ls.length
    · obtain ⟨s, hq⟩ : ∃ s, ls[j]? = some s := ⟨_, List.getElem?_eq_getElem hlt⟩
      obtain ⟨gl, off, cc, he, hgl, hcc⟩ := HL.out.inv_ne (by omega)
      obtain ⟨rfl, rfl⟩ : a0 = some ⟨gl, off, none⟩ ∧ cap0 = cc := by simpa using he
      obtain ⟨u, hck, rfl, -⟩ := Sl.at HL.out hq
      have hgl2 : gl < w2.heap.size := by have := HY2.out.size; omega
      rw [← HY2.out.cell (p := ⟨gl, off + j, none⟩) hgl, ← hbel.out.cell (p := ⟨gl, off + j, none⟩) hgl2] at hck
      have hss := HS.out s (List.mem_of_getElem? hq)
      have hjl := hat.out.so
      have hj40 : j < 40 := by omega
      obtain ⟨k', T, hrl⟩ : ∃ k' T, rlOf k s = (k', T) := ⟨_, _, rfl⟩
      have hrk := rl_ok hat.out.sk hss
      rw [hrl] at hrk
      have hsz := sesSz (O := O) (T := T) (by omega) hrk.2
      have Hq := Lib.hid hq
      have Hrl := Lib.hid hrl
      have Hrk := Lib.hid hrk
      have Hss := Lib.hid hss
      obtain ⟨k0, k1, k2⟩ := hat.out.st.blk.c3
      clear hq hrl hrk hss he
      go_wp2_with (fail)
      refine (RunLine_i _ _ _ k s _ hat.out.st.own.rd hat.out.sk.sz (Ht.out.keep (HY.out.trans_pure hbel.out (Nat.le_refl _))) Hss.out).mono ?_
      rw [Hrl.out]
      rintro e w5 ⟨a', b', c', rfl, o5, y5⟩
      obtain ⟨⟨u1, u2, u3, rfl⟩, ⟨v1, v2, v3, rfl⟩, ⟨z1, z2, z3, rfl⟩⟩ := o5.rd.shape
      have Hst := Lib.hid (hat.out.st.next y5 o5)
      have Hbn := Lib.hid (hat.out.st.below (B := w2.heap.size) (a' := .slice u1 u2 u3) (b' := .slice v1 v2 v3) (c' := .slice z1 z2 z3) (Nat.le_refl _) hbel.out y5)
      have kbl := (hat.out.st.blk.keep y5)
      obtain ⟨k0, k1, k2⟩ := kbl.c3
      have hne5 : w2.heap.size < w5.heap.size := kbl.lt
      have h0w := kbl.frozen 0
      have h1w := kbl.frozen 1
      have h2w := kbl.frozen 2
      obtain ⟨zo, zt, ztn, zotn, zot, zotn2⟩ := hsz
      clear o5 kbl
      by_cases hT : T = ByteArray.empty
      · have Hn := Lib.hid (sess_none Hq.out hat.out.at_ Hrl.out hT)
        subst hT
        go_wp2
        go_roundw
        case rel => exact ⟨j + 1, O, _, _, _, k', by omega, by go_num, rfl, Lib.hid ⟨Hst.out, Hn.out, Hrk.out.1, by omega⟩, Hbn⟩
        case measure => simp [intOf]; omega
      · have Hn := Lib.hid (sess_some Hq.out hat.out.at_ Hrl.out hT)
        have hTe := ba_empty_isEmpty hT
        have zs : (O ++ T ++ ⟨#[10]⟩ : ByteArray).size ≤ 4398046511104 * (j + 1 : Nat) := by
          have e : (⟨#[10]⟩ : ByteArray).size = 1 := rfl
          simp only [ba_append_size, e]; omega
        have Zs := Lib.hid zs
        clear hT zs
        go_wp2
        go_roundw
        case rel => exact ⟨j + 1, O ++ T ++ ⟨#[10]⟩, _, _, _, k', by omega, by go_num, by rw [ba_assoc], Lib.hid ⟨Hst.out, Hn.out, Hrk.out.1, Zs.out⟩, Hbn⟩
        case measure => simp [intOf]; omega
    · have hjl : j = ls.length := by omega
      have Hat := Lib.hid (show sessTo ls = (k, O) from by have h := hat.out.at_; rwa [hjl, List.take_length] at h)
      have HO := Lib.hid (show O.size ≤ 175921860444160 from by have := hat.out.so; omega)
      go_wp2
      refine bodyPost_ret (v := .tuple #[.string O, .int .i64 ls.length]) (by simp [results, Tryz.results9, go_sem]) rfl ⟨?_, HY.out.trans_pure hbel.out (Nat.le_refl _)⟩
      rw [Hf.out, Hat.out]
end Go.Proofs.YthmocomfjgmjoaaGreatDoor

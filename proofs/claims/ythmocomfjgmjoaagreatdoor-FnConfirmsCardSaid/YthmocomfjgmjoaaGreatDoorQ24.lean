/- Contracts and plain laws that the claims on sessions use. No condition of their own. -/
import Derived.Test.YthmocomfjgmjoaaGreatDoorQ05
import Derived.Test.YthmocomfjgmjoaaGreatDoorQ03
import Derived.Test.YthmocomfjgmjoaaGreatDoorQ14
import Derived.Test.YthmocomfjgmjoaaGreatDoorQ17
set_option maxHeartbeats 2000000
set_option maxRecDepth 100000
namespace Go.Proofs.YthmocomfjgmjoaaGreatDoor
open Go.RowKit
theorem Sl.prefix {α : Type} {R : RepT α} {S : Bk} {w : World} {a : Option Addr} {n cap : Nat} {l : List α} (h : Sl R S w (.slice a n cap) l) {k : Nat} (hk : k ≤ l.length) : Sl R S w (.slice a k cap) (l.take k) := by
  obtain ⟨a', cap', he, h1, h2, h3, h4⟩ := h
  injection he with e1 e2 e3
  subst e1 e2 e3
  have hl : (l.take k).length = k := by rw [List.length_take]; omega
  refine ⟨a, cap, by rw [hl], by omega, by omega, h3, fun h0 => ?_⟩
  obtain ⟨b, off, rfl, hb, hc⟩ := h4 (by omega)
  refine ⟨b, off, rfl, hb, fun j x hj => ?_⟩
  rw [List.getElem?_take] at hj
  split at hj
  · exact hc j x hj
  · exact absurd hj (by simp)
def linesB (s : ByteArray) : List ByteArray :=
  if (splitB s 10).getD ((splitB s 10).length - 1) ⟨#[]⟩ = ⟨#[]⟩ then (splitB s 10).take ((splitB s 10).length - 1) else splitB s 10
theorem linesB_len (s : ByteArray) : (linesB s).length ≤ s.size + 1 := by
  have := splitB_len s 10
  unfold linesB
  split
  · rw [List.length_take]; omega
  · exact this
theorem linesB_part (s : ByteArray) : ∀ p ∈ linesB s, p.size ≤ s.size := by
  intro p hp
  unfold linesB at hp
  split at hp
  · exact splitB_part_size s 10 p (List.mem_of_mem_take hp)
  · exact splitB_part_size s 10 p hp
def IsStrs (w : World) (xs : List ByteArray) : Ending → World → Prop := fun e w' => ∃ v, e = .returned v ∧ Strs w' v xs ∧ Below w.heap.size w w'
theorem SplitLines_i (s : ByteArray) (w : World) (hs : s.size ≤ 1048576) : Calls Tryz.prog 10 #[.string s] w (IsStrs w (linesB s)) := by
  have hpos := splitB_pos s 10
  have hlen := splitB_len s 10
  go_enter Tryz.func10, Tryz.ntmps10
  go_wp2_with (fail)
  refine (SplitAny_i s 10 _ hs).mono ?_
  rintro e w2 ⟨v2, rfl, o2, b2⟩
  obtain ⟨xs, hxs⟩ : ∃ xs, xs = splitB s 10 := ⟨_, rfl⟩
  rw [← hxs] at o2 hpos hlen
  have hL : linesB s = if xs.getD (xs.length - 1) ⟨#[]⟩ = ⟨#[]⟩ then xs.take (xs.length - 1) else xs := by rw [hxs]; rfl
  have HL := Lib.hid hL
  have hst : Strs w2 v2 xs := o2.strs
  obtain ⟨a, cap, rfl, -⟩ := id hst
  obtain ⟨b, off, cpr, he, hb, hcap⟩ := hst.inv_ne hpos
  obtain ⟨rfl, rfl⟩ : a = some ⟨b, off, none⟩ ∧ cap = cpr := by simpa using he
  have hcap2 : xs.length - 1 ≤ cap := by omega
  obtain ⟨u, hu, hr⟩ := Sl.at hst (gD_at (⟨#[]⟩ : ByteArray) (by omega : xs.length - 1 < xs.length))
  obtain ⟨rfl, -⟩ := hr
  obtain ⟨last, hlast⟩ : ∃ last, last = xs.getD (xs.length - 1) ⟨#[]⟩ := ⟨_, rfl⟩
  rw [← hlast] at hu HL
  have Hst := Lib.hid hst
  have Hb2 := Lib.hid b2
  have e1 : ((xs.length : Int) - 1).toNat = xs.length - 1 := by omega
  clear hst b2 o2 hL hlast he hxs
  by_cases hem : last = ⟨#[]⟩
  · have Hr := Lib.hid (show linesB s = xs.take (xs.length - 1) from by rw [HL.out, if_pos hem])
    subst hem
    go_wp2
    go_ret
    exact ⟨_, rfl, by rw [Hr.out]; exact Sl.prefix Hst.out (by omega), Hb2.out⟩
  · have Hr := Lib.hid (show linesB s = xs from by rw [HL.out, if_neg hem])
    have hne : last.toList.isEmpty = false := by
      rw [ByteArray.toList_eq]
      cases h : last.data.toList with
      | nil => exact absurd (ba_ext (by rw [h])) hem
      | cons a l => rfl
    clear hem
    go_wp2
    go_ret
    exact ⟨_, rfl, by rw [Hr.out]; exact Hst.out, Hb2.out⟩
def NearRes (w : World) (xs ys : List Int) (p : List (List Int)) (e : Ending) (w' : World) : Prop :=
  ∃ v n, e = .returned (.tuple #[v, .int .i64 n, .bool (nearG xs ys p).isSome]) ∧ Own 32 (Own 3 IntV) (Iv w.heap.size w'.heap.size) w' v ((nearG xs ys p).getD []) ∧ (∀ x, nearG xs ys p = some x → n = distG xs.length ys.length x p) ∧ Below w.heap.size w w'
theorem nearRes_none {w w' : World} {xs ys : List Int} {p : List (List Int)} (h : nearG xs ys p = none) (hb : Below w.heap.size w w') : NearRes w xs ys p (.returned (.tuple #[.slice none 0 0, .int .i64 0, .bool false])) w' :=
  ⟨.slice none 0 0, 0, by rw [h]; rfl, by rw [h]; exact Own.nil _ _ _ _, (fun x hx => by rw [h] at hx; cases hx), hb⟩
theorem imgs_fit {xs ys : List Int} {m : List (List Int)} (h : m ∈ imgsOf xs ys) : sumsOk xs ys = true ∧ Shape xs.length ys.length m := by
  cases hok : sumsOk xs ys
  · rw [imgsOf_no hok] at h; cases h
  · rw [imgsOf_ok hok] at h
    exact ⟨rfl, ((allImgs_mem hok m).1 h).1⟩
theorem NearestImage_i (v v2 v3 : Value) (xs ys : List Int) (p : List (List Int)) (r c : Nat) (w : World) (hv : Ints w v xs) (hv2 : Ints w v2 ys) (hv3 : Grid w v3 p) (hs : Shape r c p) (hr1 : 1 ≤ r) (hr5 : r ≤ 5) (hc1 : 1 ≤ c) (hc5 : c ≤ 5) :
    Calls Tryz.prog 41 #[v, v2, v3] w (NearRes w xs ys p) := by
  have Hv3 := Lib.hid hv3
  have hbig := imgsOf_len xs ys
  obtain ⟨a3, cap3, rfl, -⟩ := hv3
  obtain ⟨L, hL⟩ : ∃ L, L = imgsOf xs ys := ⟨_, rfl⟩
  rw [← hL] at hbig
  have HL := Lib.hid hL
  go_enter Tryz.func41, Tryz.ntmps41
  go_wp2_with (fail)
  refine (AllImages_i _ _ _ _ _ hv hv2).mono ?_
  rintro e w1 ⟨vo, rfl, o1, b1⟩
  rw [← hL] at o1
  cases hk0 : L[0]? with
  | none =>
    have hLn : L = [] := by
      cases L with
      | nil => rfl
      | cons a t => simp at hk0
    have Hn := Lib.hid (show nearG xs ys p = none from by
      unfold nearG
      rw [← hL, hLn]
      split <;> rfl)
    subst hLn
    clear hk0 hL
    rcases o1.inv with ⟨rfl, -⟩ | ⟨g, cap, rfl, -⟩
    · go_wp2
      exact bodyPost_ret (v := .tuple #[.slice none 0 0, .int .i64 0, .bool false]) (by simp [results, Tryz.results41, go_sem]) rfl (nearRes_none Hn.out b1)
    · go_wp2
      exact bodyPost_ret (v := .tuple #[.slice none 0 0, .int .i64 0, .bool false]) (by simp [results, Tryz.results41, go_sem]) rfl (nearRes_none Hn.out b1)
  | some m0 =>
    have hpos : 0 < L.length := (List.getElem?_eq_some_iff.1 hk0).1
    have Hfit := Lib.hid (show ∀ m ∈ L, sumsOk xs ys = true ∧ Shape xs.length ys.length m from fun m hm => imgs_fit (hL ▸ hm))
    obtain ⟨hok, hs0⟩ := Hfit.out m0 (List.mem_of_getElem? hk0)
    obtain ⟨hx1, hx5, hy1, hy5, -⟩ := sumsOk_bd hok
    have hsz : sameSz m0 p = (decide (xs.length = r) && decide (ys.length = c)) := by
      unfold sameSz
      rw [hs0.ok hx1 hx5 hy1 hy5, hs.ok hr1 hr5 hc1 hc5, (shape_head hs0 hx1).1, (shape_head hs0 hx1).2, (shape_head hs hr1).1, (shape_head hs hr1).2]
      rfl
    have hpd := shape_head hs hr1
    have hne : ((L.length : Int) == 0) = false := by rw [beq_eq_false_iff_ne]; omega
    obtain ⟨gl, capl, u0, rfl, hgl, hu0, hru0⟩ := o1.elem (rOwn (rOwn rIntV)) hk0
    have Hu0 := Lib.hid (Own.grid hru0)
    obtain ⟨t1, t2, t3, rfl⟩ := Own.shape hru0
    have Ho1 := Lib.hid o1
    have Hk0 := Lib.hid hk0
    have Hb1 := Lib.hid b1
    by_cases hfit : xs.length = r ∧ ys.length = c
    · have Hsz := Lib.hid (show sameSz m0 p = true from by rw [hsz]; simp [hfit.1, hfit.2])
      obtain ⟨F, hF⟩ : ∃ F, F = nearGo (fun m => distG xs.length ys.length m p) L m0 := ⟨_, rfl⟩
      have HnF := Lib.hid (show nearG xs ys p = some F from by
        unfold nearG
        rw [if_pos ⟨by rw [hpd.1, hfit.1], by rw [hpd.2, hfit.2]⟩, ← hL, hF]
        cases L with
        | nil => simp at hk0
        | cons a t =>
          obtain rfl : a = m0 := by simpa using hk0
          rw [nearGo_first]; rfl)
      have Hxr := Lib.hid hfit.1
      have Hyc := Lib.hid hfit.2
      have HF0 : Hid (nearGo (fun m => distG xs.length ys.length m p) (L.drop 0) m0 = F) := Lib.hid (by rw [List.drop_zero, hF])
      obtain ⟨N, hN⟩ : ∃ N, N = L.length := ⟨_, rfl⟩
      rw [← hN] at hpos hne hbig ⊢
      have HN := Lib.hid hN
      have Hu00 := Lib.hid hu0
      clear hsz hpd o1 hk0 b1 hfit hF hN hL hs0 hok hru0
      go_wp2_with (fail)
      refine (sameSize_i _ _ m0 p _ Hu0.out (Hv3.out.keep Hb1.out)).mono ?_
      rintro e w2 ⟨rfl, b2⟩
      rw [Hsz.out]
      have hu2 := (b2.cell (p := ⟨gl, 0, none⟩) hgl).trans hu0
      have Hb2 := Lib.hid b2
      clear b2 hu0
      go_wp2
      clear hu2
      go_loopw [11, 13, 36] (fun bv _ i wr => ∃ (k ib : Nat) (b : List (List Int)), k ≤ N ∧ i = .int .i64 k ∧ Hid (L[ib]? = some b ∧ w1.cell? ⟨gl, ib, none⟩ = some bv) ∧ Hid (nearGo (fun m => distG xs.length ys.length m p) (L.drop k) b = F) ∧ Hid (Below w1.heap.size w1 wr)) (fun _ _ i _ => N - (intOf i).toNat)
      case atStart => exact ⟨0, 0, m0, Nat.zero_le _, rfl, Lib.hid ⟨Hk0.out, Hu00.out⟩, HF0, Hb2⟩
      case round =>
        clear Hb2
        obtain ⟨k, ib, b, hk, rfl, Hib, HFk, Hb⟩ := hrel
        obtain ⟨gl', capl', ub, heb, -, hub, hrub⟩ := Ho1.out.elem (rOwn (rOwn rIntV)) Hib.out.1
        obtain rfl : gl = gl' := by injection heb with h1; injection h1 with h1; injection h1
        obtain rfl : u11 = ub := Option.some.inj (Hib.out.2.symm.trans hub)
        have Hub := Lib.hid (Own.grid hrub)
        have Hrub := Lib.hid hrub
        obtain ⟨s1, s2, s3, rfl⟩ := Own.shape hrub
        have hbs := (Hfit.out b (List.mem_of_getElem? Hib.out.1)).2
        rw [Hxr.out, Hyc.out] at hbs
        clear hub hrub heb
        by_cases hlt : k < N
        · obtain ⟨m, hm⟩ : ∃ m, L[k]? = some m := ⟨_, List.getElem?_eq_getElem (by rw [← HN.out]; exact hlt)⟩
          have hms := (Hfit.out m (List.mem_of_getElem? hm)).2
          rw [Hxr.out, Hyc.out] at hms
          obtain ⟨gl', capl', um, hem, -, hum, hrum⟩ := Ho1.out.elem (rOwn (rOwn rIntV)) hm
          obtain rfl : gl = gl' := by injection hem with h1; injection h1 with h1; injection h1
          have Hum := Lib.hid (Own.grid hrum)
          obtain ⟨q1, q2, q3, rfl⟩ := Own.shape hrum
          have Hm2 := Lib.hid (show L[k]? = some m ∧ w1.cell? ⟨gl, k, none⟩ = some (.slice q1 q2 q3) from ⟨hm, hum⟩)
          have hum' := (Hb.out.cell (p := ⟨gl, k, none⟩) hgl).trans hum
          have Hst := Lib.hid (nearGo_step (d := fun m => distG xs.length ys.length m p) (b := b) hm)
          obtain ⟨D1, hD1⟩ : ∃ D, D = distG r c m p := ⟨_, rfl⟩
          obtain ⟨D2, hD2⟩ : ∃ D, D = distG r c b p := ⟨_, rfl⟩
          have HD1 := Lib.hid hD1
          have HD2 := Lib.hid hD2
          have Hcmp := Lib.hid (show (distG xs.length ys.length m p < distG xs.length ys.length b p) ↔ D1 < D2 from by rw [Hxr.out, Hyc.out, hD1, hD2])
          clear hm hem hum hrum hD1 hD2
          go_wp2_with (fail)
          refine (DistanceOf_i _ _ m p r c _ (Hum.out.keep Hb.out) (Hv3.out.keep (Hb1.out.trans_pure Hb.out (Nat.le_refl _))) hms hs hr1 hr5 hc1 hc5).mono ?_
          rintro e w3 ⟨rfl, b3⟩
          rw [← HD1.out]
          have Hb3 := Lib.hid (Hb.out.trans_pure b3 (Nat.le_refl _))
          clear b3 hum'
          go_wp2_with (fail)
          refine (DistanceOf_i _ _ b p r c _ (Hub.out.keep Hb3.out) (Hv3.out.keep (Hb1.out.trans_pure Hb3.out (Nat.le_refl _))) hbs hs hr1 hr5 hc1 hc5).mono ?_
          rintro e w4 ⟨rfl, b4⟩
          rw [← HD2.out]
          have Hb4 := Lib.hid (Hb3.out.trans_pure b4 (Nat.le_refl _))
          clear b4
          by_cases hd : D1 < D2
          · have hdd : decide (D1 < D2) = true := by simpa using hd
            have HF2 := Lib.hid (show nearGo (fun m => distG xs.length ys.length m p) (L.drop (k + 1)) m = F from by
              have h := HFk.out
              rw [Hst.out, if_pos (Hcmp.out.2 hd)] at h; exact h)
            clear hd
            go_wp2
            go_roundw
            case rel => exact ⟨k + 1, k, m, by omega, by go_num, Hm2, HF2, Hb4⟩
            case measure => simp [intOf]; omega
          · have hdd : decide (D1 < D2) = false := by simpa using hd
            have HF2 := Lib.hid (show nearGo (fun m => distG xs.length ys.length m p) (L.drop (k + 1)) b = F from by
              have h := HFk.out
              rw [Hst.out, if_neg (fun h => hd (Hcmp.out.1 h))] at h; exact h)
            clear hd
            go_wp2
            go_roundw
            case rel => exact ⟨k + 1, ib, b, by omega, by go_num, Hib, HF2, Hb4⟩
            case measure => simp [intOf]; omega
        · have hbF : b = F := by
            have h := HFk.out
            rw [List.drop_of_length_le (by rw [← HN.out]; omega)] at h
            exact h
          have HbF := Lib.hid hbF
          clear hbF
          go_wp2_with (fail)
          refine (DistanceOf_i _ _ b p r c _ (Hub.out.keep Hb.out) (Hv3.out.keep (Hb1.out.trans_pure Hb.out (Nat.le_refl _))) hbs hs hr1 hr5 hc1 hc5).mono ?_
          rintro e w3 ⟨rfl, b3⟩
          obtain ⟨D2, hD2⟩ : ∃ D, D = distG r c b p := ⟨_, rfl⟩
          rw [← hD2]
          have HD2 := Lib.hid hD2
          have Hb3 := Lib.hid (Hb.out.trans_pure b3 (Nat.le_refl _))
          clear b3 hD2
          go_wp2
          refine bodyPost_ret (v := .tuple #[.slice s1 s2 s3, .int .i64 D2, .bool true]) (by simp [results, Tryz.results41, go_sem]) rfl ⟨_, _, by rw [HnF.out]; rfl, ?_, ?_, Hb1.out.trans_pure Hb3.out (Nat.le_refl _)⟩
          · rw [HnF.out]
            show Own _ _ _ _ _ F
            rw [← HbF.out]
            exact (rOwn (rOwn rIntV)).mono (fun x hx => ⟨hx.1, Nat.lt_of_lt_of_le hx.2 Hb3.out.size⟩) (Own.keep (rOwn rIntV) Hrub.out Hb3.out (Nat.le_refl _))
          · intro x hx
            rw [HnF.out] at hx
            rw [← Option.some.inj hx, ← HbF.out, HD2.out, Hxr.out, Hyc.out]
    · have Hsz := Lib.hid (show sameSz m0 p = false from by
        rw [hsz, Bool.and_eq_false_iff, decide_eq_false_iff_not, decide_eq_false_iff_not]
        by_cases h1 : xs.length = r
        · exact .inr fun h => hfit ⟨h1, h⟩
        · exact .inl h1)
      have Hn := Lib.hid (show nearG xs ys p = none from by
        unfold nearG
        rw [if_neg (fun h => hfit ⟨by rw [← h.1, hpd.1], by rw [← h.2, hpd.2]⟩)])
      clear hsz hpd o1 hk0 b1 hfit hL hs0 hok hru0
      go_wp2_with (fail)
      refine (sameSize_i _ _ m0 p _ Hu0.out (Hv3.out.keep Hb1.out)).mono ?_
      rintro e w2 ⟨rfl, b2⟩
      rw [Hsz.out]
      have Hb2 := Lib.hid (Hb1.out.trans_pure b2 (Nat.le_refl _))
      clear b2
      go_wp2
      exact bodyPost_ret (v := .tuple #[.slice none 0 0, .int .i64 0, .bool false]) (by simp [results, Tryz.results41, go_sem]) rfl (nearRes_none Hn.out Hb2.out)
end Go.Proofs.YthmocomfjgmjoaaGreatDoor

/- Contracts: PathTo and PathLine of the program and of the reference, at any arguments. -/
import Derived.Test.YtlmjpmdkifoekaaDoorP7
import Derived.Test.YtlmjpmdkifoekaaDoorP4
namespace Go.Proofs.YtlmjpmdkifoekaaDoor
open Go.RowKit

def pathOk (m t : List (List Int)) : Bool := sameSumsB m t && (decide (m.length ≤ 4) && decide ((m.headD []).length ≤ 4))
/-- what PathLine says -/
def PLTxt (m t : List (List Int)) (T : ByteArray) : Prop := (pathOk m t = true → ∃ W, Least m.length (m.headD []).length m t W ∧ T = pathTxt W W.length) ∧ (pathOk m t = false → T = ⟨#[110, 111, 110, 101]⟩)
theorem PLTxt.eq {m t : List (List Int)} {T U : ByteArray} (h : PLTxt m t T) (h2 : PLTxt m t U) : T = U := by
  cases e : pathOk m t
  · rw [h.2 e, h2.2 e]
  · obtain ⟨W, a1, a2⟩ := h.1 e
    obtain ⟨V, b1, b2⟩ := h2.1 e
    rw [a2, b2, a1.eq b1]
structure PathArgs (m t : List (List Int)) (r c : Nat) : Prop where
  hs : Shape r c m
  hs2 : Shape r c t
  hr1 : 1 ≤ r
  hr5 : r ≤ 5
  hc1 : 1 ≤ c
  hc5 : c ≤ 5
  e1 : rowSumsOf m = rowSumsOf t
  e2 : colSumsOf m = colSumsOf t
  l1 : m.length = r
  l2 : (m.headD []).length = c
theorem path_args {m t : List (List Int)} (h : sameSumsB m t = true) : ∃ r c, PathArgs m t r c := by
  unfold sameSumsB at h
  simp only [Bool.and_eq_true, decide_eq_true_eq] at h
  obtain ⟨h1, h2, h3⟩ := h
  obtain ⟨r, c, a1, a2, a3, a4, a5, a6⟩ := sameSz_shape h1
  obtain ⟨b1, b2⟩ := shape_head a5 a1
  exact ⟨r, c, a5, a6, a1, a2, a3, a4, h2, h3, b1, b2⟩
theorem pathOk_args {m t : List (List Int)} (h : pathOk m t = true) : sameSumsB m t = true ∧ ∃ r c, PathArgs m t r c ∧ r ≤ 4 ∧ c ≤ 4 := by
  unfold pathOk at h
  simp only [Bool.and_eq_true, decide_eq_true_eq] at h
  obtain ⟨h1, h2, h3⟩ := h
  obtain ⟨r, c, ha⟩ := path_args h1
  exact ⟨h1, r, c, ha, by rw [← ha.l1]; exact h2, by rw [← ha.l2]; exact h3⟩
set_option maxHeartbeats 1000000 in
theorem PathTo_ino (v v2 : Value) (m t : List (List Int)) (w : World) (hv : Grid w v m) (hv2 : Grid w v2 t) (hno : pathOk m t = false) : Calls Tryd.prog 38 #[v, v2] w fun e w' => e = .returned (.tuple #[.slice none 0 0, .bool false]) ∧ Below w.heap.size w w' := by
  have Hv := Lib.hid hv
  have Hv2 := Lib.hid hv2
  cases hsb : sameSumsB m t
  · obtain ⟨a, cap, rfl, -⟩ := hv
    obtain ⟨a2, cap2, rfl, -⟩ := hv2
    have Hsb := Lib.hid hsb
    clear hsb hno
    go_enter Tryd.func38, Tryd.ntmps38
    go_wp2_with (fail)
    refine (SameSums_i _ _ m t _ Hv.out Hv2.out).mono ?_
    rintro e w1 ⟨rfl, b1⟩
    rw [Hsb.out]
    go_wp2
    refine bodyPost_ret (v := .tuple #[.slice none 0 0, .bool false]) (by simp [results, Tryd.results38, go_sem]) rfl ?_
    exact ⟨rfl, b1⟩
  obtain ⟨r, c, ha⟩ := path_args hsb
  have hrc : ¬ (r ≤ 4 ∧ c ≤ 4) := by
    intro h
    unfold pathOk at hno
    rw [hsb, ha.l1, ha.l2, decide_eq_true h.1, decide_eq_true h.2] at hno
    cases hno
  obtain ⟨b, off, cp, rfl, hb, hm⟩ := hv.rowsT ha.hs.trectM ha.hr1 ha.hc1
  obtain ⟨b0, o0, c0, hc0, -⟩ := hm 0 ha.hr1
  obtain ⟨a2, cap2, rfl, -⟩ := hv2
  have Hsb := Lib.hid hsb
  have Hc0 := Lib.hid hc0
  clear hsb hno hm hc0
  have hr1 := ha.hr1
  have hc1 := ha.hc1
  by_cases hr : r ≤ 4
  · have h1 : decide ((4 : Int) < (r : Int)) = false := by rw [decide_eq_false_iff_not]; omega
    have h1' : ¬ (4 : Int) < (r : Int) := by omega
    have h2 : decide ((4 : Int) < (c : Int)) = true := by rw [decide_eq_true_eq]; omega
    have h2' : (4 : Int) < (c : Int) := by omega
    go_enter Tryd.func38, Tryd.ntmps38
    go_wp2_with (fail)
    refine (SameSums_i _ _ m t _ Hv.out Hv2.out).mono ?_
    rintro e w1 ⟨rfl, b1⟩
    rw [Hsb.out]
    have hc0 := Hc0.out w1 b1
    rw [Nat.add_zero] at hc0
    go_wp2
    refine bodyPost_ret (v := .tuple #[.slice none 0 0, .bool false]) (by simp [results, Tryd.results38, go_sem]) rfl ?_
    exact ⟨rfl, b1⟩
  · have h1 : decide ((4 : Int) < (r : Int)) = true := by rw [decide_eq_true_eq]; omega
    have h1' : (4 : Int) < (r : Int) := by omega
    go_enter Tryd.func38, Tryd.ntmps38
    go_wp2_with (fail)
    refine (SameSums_i _ _ m t _ Hv.out Hv2.out).mono ?_
    rintro e w1 ⟨rfl, b1⟩
    rw [Hsb.out]
    go_wp2
    refine bodyPost_ret (v := .tuple #[.slice none 0 0, .bool false]) (by simp [results, Tryd.results38, go_sem]) rfl ?_
    exact ⟨rfl, b1⟩
set_option maxHeartbeats 1000000 in
theorem PathTo_sno (v v2 : Value) (m t : List (List Int)) (w : World) (hv : Grid w v m) (hv2 : Grid w v2 t) (hno : pathOk m t = false) : Calls Tryd.prog 73 #[v, v2] w fun e w' => e = .returned (.tuple #[.slice none 0 0, .bool false]) ∧ Below w.heap.size w w' := by
  have Hv := Lib.hid hv
  have Hv2 := Lib.hid hv2
  obtain ⟨a, cap, rfl, -⟩ := hv
  obtain ⟨a2, cap2, rfl, -⟩ := hv2
  cases hsb : sameSumsB m t
  · have Hsb := Lib.hid hsb
    clear hsb hno
    go_enter Tryd.func73, Tryd.ntmps73
    go_wp2_with (fail)
    refine (SameSums_s _ _ m t _ Hv.out Hv2.out).mono ?_
    rintro e w1 ⟨rfl, b1⟩
    rw [Hsb.out]
    go_wp2
    refine bodyPost_ret (v := .tuple #[.slice none 0 0, .bool false]) (by simp [results, Tryd.results73, go_sem]) rfl ?_
    exact ⟨rfl, b1⟩
  obtain ⟨r, c, ha⟩ := path_args hsb
  have Hrc := Lib.hid (show (decide (r ≤ 4) && decide (c ≤ 4)) = false from by
    unfold pathOk at hno
    rw [hsb, ha.l1, ha.l2, Bool.true_and] at hno
    exact hno)
  have Hsb := Lib.hid hsb
  clear hsb hno
  go_enter Tryd.func73, Tryd.ntmps73
  go_wp2_with (fail)
  refine (SameSums_s _ _ m t _ Hv.out Hv2.out).mono ?_
  rintro e w1 ⟨rfl, b1⟩
  rw [Hsb.out]
  go_wp2_with (fail)
  refine (l06Small_c _ m r c _ (Hv.out.keep b1) ha.hs ha.hr1 ha.hc1).mono ?_
  rintro e w' ⟨rfl, rfl⟩
  rw [Hrc.out]
  go_wp2
  refine bodyPost_ret (v := .tuple #[.slice none 0 0, .bool false]) (by simp [results, Tryd.results73, go_sem]) rfl ?_
  exact ⟨rfl, b1⟩
set_option maxHeartbeats 1000000 in
theorem PathTo_syes (v v2 : Value) (m t : List (List Int)) (r c : Nat) (w : World) (hv : Grid w v m) (hv2 : Grid w v2 t) (hsb : sameSumsB m t = true) (ha : PathArgs m t r c) (hr4 : r ≤ 4) (hc4 : c ≤ 4) : Calls Tryd.prog 73 #[v, v2] w fun e w' => ∃ v' W, e = .returned (.tuple #[v', .bool true]) ∧ Least r c m t W ∧ W.length ≤ 33554432 ∧ SwHd w' v' W ∧ Below w.heap.size w w' := by
  have Hv := Lib.hid hv
  have Hv2 := Lib.hid hv2
  obtain ⟨a, cap, rfl, -⟩ := hv
  obtain ⟨a2, cap2, rfl, -⟩ := hv2
  obtain ⟨hs, hs2, hr1, hr5, hc1, hc5, e1, e2, -, -⟩ := ha
  have Hrc := Lib.hid (show (decide (r ≤ 4) && decide (c ≤ 4)) = true from by rw [decide_eq_true hr4, decide_eq_true hc4]; rfl)
  obtain ⟨NB, hok⟩ := srch_ok hs2 hs hr1 hr4 hc1 hc4 e1.symm e2.symm
  have Hok := Lib.hid hok
  have Hsb := Lib.hid hsb
  clear hsb hok e1 e2
  go_enter Tryd.func73, Tryd.ntmps73
  go_wp2_with (fail)
  refine (SameSums_s _ _ m t _ Hv.out Hv2.out).mono ?_
  rintro e w1 ⟨rfl, b1⟩
  rw [Hsb.out]
  go_wp2_with (fail)
  refine (l06Small_c _ m r c _ (Hv.out.keep b1) hs hr1 hc1).mono ?_
  rintro e w' ⟨rfl, rfl⟩
  rw [Hrc.out]
  go_wp2_with (fail)
  refine (l06Visit_c _ m r c _ (Hv.out.keep b1) hs hr1 hr4 hc1 hc4).mono ?_
  rintro e w2 ⟨lv, wv, acc, j, rfl, hbi, hend, hal, hst⟩
  have b12 := b1.trans_pure hst.bel (Nat.le_refl _)
  obtain ⟨en, hen1, hen2⟩ := hbi.found hend Hok.out.sumt Hok.out.sums
  have Hbi := Lib.hid hbi
  have Hend := Lib.hid hend
  have HL := Lib.hid hst.l.grids
  have HY := Lib.hid hst.y
  have Hen := Lib.hid (show t ∈ acc.map Prod.fst from by rw [← hen2]; exact List.mem_map_of_mem hen1)
  obtain ⟨l1, l2, rfl⟩ := hst.l.shape
  obtain ⟨y1, y2, y3, rfl, hy2⟩ := hst.y.shape
  have Hy2 := Lib.hid hy2
  obtain ⟨L, hL⟩ : ∃ L, L = (acc.map Prod.fst).length := ⟨_, rfl⟩
  rw [← hL] at HL ⊢
  clear hst hbi hend hen1 hen2 hy2 hL
  go_wp2_with (fail)
  refine (l06Find_c _ _ (acc.map Prod.fst) t _ HL.out (Hv2.out.keep b12)).mono ?_
  rintro e w3 ⟨z, rfl, hz, b3⟩
  rcases hz with ⟨-, hz2⟩ | ⟨k, rfl, hz2⟩
  · exact absurd rfl (hz2 t Hen.out)
  rw [List.getElem?_map] at hz2
  obtain ⟨nd, hnd, hnt⟩ := Option.map_eq_some_iff.1 hz2
  have hps : (acc.map Prod.snd)[k]? = some nd.2 := by rw [List.getElem?_map, hnd]; rfl
  obtain ⟨wb, wc, pb, pc, he, hwb, hwc, hpb⟩ := (HY.out.pure b3).at hps
  obtain ⟨rfl, -⟩ : y1 = some ⟨wb, 0, none⟩ ∧ y3 = wc := by
    simp only [Value.slice.injEq] at he
    exact ⟨he.1, he.2.2⟩
  have hky : k < y2 := by
    rw [Hy2.out]
    exact (List.getElem?_eq_some_iff.1 hps).1
  have Hpb := Lib.hid hpb
  have Hle := Lib.hid (show Least r c m t nd.2 from by
    have h := Hbi.out.least Hend.out (List.mem_of_getElem? hnd)
    rwa [hnt] at h)
  have hlen : nd.2.length ≤ 33554432 := by
    have h1 := Hbi.out.len k nd hnd
    have h2 := (List.getElem?_eq_some_iff.1 hnd).1
    omega
  have bbf := b12.trans_pure b3 (Nat.le_refl _)
  clear hz2 he hpb hps
  go_wp2
  refine bodyPost_ret (v := .tuple #[.slice (some ⟨pb, 0, none⟩) nd.2.length pc, .bool true]) (by simp [results, Tryd.results73, go_sem]) rfl ?_
  exact ⟨_, nd.2, rfl, Hle.out, hlen, ⟨pb, pc, rfl, Hpb.out⟩, bbf⟩
set_option maxHeartbeats 1000000 in
theorem PathLine_ig (v v2 : Value) (m t : List (List Int)) (w : World) (hv : Grid w v m) (hv2 : Grid w v2 t) (ht : Tab w) : Calls Tryd.prog 32 #[v, v2] w fun e w' => ∃ T, e = .returned (.string T) ∧ PLTxt m t T ∧ Below w.heap.size w w' := by
  cases hp : pathOk m t
  · have Hp := Lib.hid hp
    have Hv := Lib.hid hv
    have Hv2 := Lib.hid hv2
    obtain ⟨a, cap, rfl, -⟩ := hv
    obtain ⟨a2, cap2, rfl, -⟩ := hv2
    clear hp
    go_enter Tryd.func32, Tryd.ntmps32
    go_wp2_with (fail)
    refine (PathTo_ino _ _ m t _ Hv.out Hv2.out Hp.out).mono ?_
    rintro e w1 ⟨rfl, b1⟩
    go_wp2
    go_ret
    exact ⟨_, rfl, ⟨fun h => (by rw [Hp.out] at h; cases h), fun _ => rfl⟩, b1⟩
  · obtain ⟨-, r, c, ha, hr4, hc4⟩ := pathOk_args hp
    refine (PathLine_t v v2 m t r c w hv hv2 ha.hs ha.hs2 ha.hr1 hr4 ha.hc1 hc4 ha.e1 ha.e2 ht).mono ?_
    rintro e w1 ⟨W, hW, rfl, b1⟩
    refine ⟨_, rfl, ⟨fun _ => ⟨W, by rw [ha.l1, ha.l2]; exact hW, rfl⟩, fun h => (by rw [hp] at h; cases h)⟩, b1⟩
set_option maxRecDepth 100000 in
set_option maxHeartbeats 2000000 in
theorem PathLine_sg (v v2 : Value) (m t : List (List Int)) (w : World) (hv : Grid w v m) (hv2 : Grid w v2 t) : Calls Tryd.prog 30 #[v, v2] w fun e w' => ∃ T, e = .returned (.string T) ∧ PLTxt m t T ∧ Below w.heap.size w w' := by
  cases hp : pathOk m t
  · have Hp := Lib.hid hp
    have Hv := Lib.hid hv
    have Hv2 := Lib.hid hv2
    obtain ⟨a, cap, rfl, -⟩ := hv
    obtain ⟨a2, cap2, rfl, -⟩ := hv2
    clear hp
    go_enter Tryd.func30, Tryd.ntmps30
    go_wp2_with (fail)
    refine (PathTo_sno _ _ m t _ Hv.out Hv2.out Hp.out).mono ?_
    rintro e w1 ⟨rfl, b1⟩
    go_wp2
    go_ret
    exact ⟨_, rfl, ⟨fun h => (by rw [Hp.out] at h; cases h), fun _ => rfl⟩, b1⟩
  obtain ⟨hsb, r, c, ha, hr4, hc4⟩ := pathOk_args hp
  have Hp := Lib.hid hp
  have Hv := Lib.hid hv
  have Hv2 := Lib.hid hv2
  have Hsb := Lib.hid hsb
  obtain ⟨a, cap, rfl, -⟩ := hv
  obtain ⟨a2, cap2, rfl, -⟩ := hv2
  have Ha := Lib.hid ha
  have hr5 := ha.hr5
  have hc5 := ha.hc5
  clear hp hsb ha
  go_enter Tryd.func30, Tryd.ntmps30
  go_wp2_with (fail)
  refine (PathTo_syes _ _ m t r c _ Hv.out Hv2.out Hsb.out Ha.out hr4 hc4).mono ?_
  rintro e w1 ⟨v1, W, rfl, hW, hWl, ⟨g, wc, rfl, hB⟩, b1⟩
  have HW := Lib.hid hW
  have hsm := path_small hr5 hc5 hW.1
  have Hsm := Lib.hid hsm
  have Hsz := Lib.hid (pathTxt_size hWl hsm)
  have Hz0 := Lib.hid (pathTxt_zero W)
  have Hstep := Lib.hid (fun k s => pathTxt_succ (W := W) (k := k) (s := s))
  have hz0 := fmt_size (n := (W.length : Int)) (by omega)
  have HB := Lib.hid hB
  obtain ⟨NW, hNW⟩ : ∃ NW, NW = W.length := ⟨_, rfl⟩
  rw [← hNW] at hWl hz0 Hz0 ⊢
  have HNW := Lib.hid hNW
  clear hW hsm hNW hB
  go_wp2_with (fail)
  refine (FormatInt_s _ (I64.small (by omega) (by omega)) _).mono ?_
  rintro e w2 ⟨rfl, b2⟩
  have b12 := b1.trans_pure b2 (Nat.le_refl _)
  have HB2 := Lib.hid (HB.out.pure b2)
  have hgl := HB2.out.lt
  obtain ⟨F0, hF0⟩ : ∃ F0, F0 = fmtInt (NW : Int) := ⟨_, rfl⟩
  rw [← hF0] at Hz0 hz0 ⊢
  clear hF0
  go_wp2
  go_loopw [7, 9, 24] (fun s _ i wr => ∃ k : Nat, k ≤ NW ∧ i = .int .i64 k ∧ s = .string (pathTxt W k) ∧ Hid (Below w2.heap.size w2 wr)) (fun _ _ i _ => NW - (intOf i).toNat)
  case atStart => exact ⟨0, Nat.zero_le _, rfl, by rw [Hz0.out], Lib.hid (Below.refl _ _)⟩
  case round =>
    obtain ⟨k, hk, rfl, rfl, Hb⟩ := hrel
    obtain ⟨wi, rfl⟩ : ∃ wi : World, wi = wr := ⟨_, rfl⟩
    by_cases hlt : k < NW
    · obtain ⟨sp, hsp⟩ : ∃ sp, W[k]? = some sp := ⟨_, List.getElem?_eq_getElem (by rw [← HNW.out]; exact hlt)⟩
      have hblk := HB2.out.pure Hb.out
      have c0 := hblk.cells hsp (j := 0) (u := .int .i64 sp.1) rfl
      have c1 := hblk.cells hsp (j := 1) (u := .int .i64 sp.2.1) rfl
      have c2 := hblk.cells hsp (j := 2) (u := .int .i64 sp.2.2.1) rfl
      have c3 := hblk.cells hsp (j := 3) (u := .int .i64 sp.2.2.2) rfl
      rw [Nat.add_zero] at c0
      have hsm := Hsm.out sp (List.mem_of_getElem? hsp)
      have hsz := Hsz.out k
      have hz := swTxt_size hsm
      have Hst := Lib.hid (Hstep.out k sp hsp)
      have Hbx := Lib.hid (Below.pureAlloc wi (.cells (swC sp).toArray 62))
      obtain ⟨h1, h2, h3, h4⟩ := hsm
      obtain ⟨P, hP⟩ : ∃ P, P = pathTxt W k := ⟨_, rfl⟩
      rw [← hP] at hsz Hst ⊢
      have hsw : switchText sp.1 sp.2.1 sp.2.2.1 sp.2.2.2 = swTxt sp := rfl
      have Hsw := Lib.hid hsw
      have hz2 : (P ++ ⟨#[32]⟩ : ByteArray).size ≤ 41 + 100 * k := by
        have e2 : (⟨#[32]⟩ : ByteArray).size = 1 := rfl
        rw [ba_append_size, e2]; omega
      clear hsp hP hsw hblk
      go_wp2_with (fail)
      refine (FormatSwitch_s sp.1 sp.2.1 sp.2.2.1 sp.2.2.2 (I64.small (by omega) (by omega)) (I64.small (by omega) (by omega)) (I64.small (by omega) (by omega)) (I64.small (by omega) (by omega)) _).mono ?_
      rintro e w3 ⟨rfl, b3⟩
      rw [Hsw.out]
      obtain ⟨S, hS⟩ : ∃ S, S = swTxt sp := ⟨_, rfl⟩
      rw [← hS] at hz Hst ⊢
      have Hst2 := Lib.hid (show pathTxt W (k + 1) = P ++ ⟨#[32]⟩ ++ S from by rw [Hst.out, ba_assoc3])
      have Hb3 := Lib.hid (Hb.out.trans_pure (Hbx.out.trans_pure b3 (Nat.le_refl _)) (Nat.le_refl _))
      clear hS c0 c1 c2 c3
      go_wp2
      go_roundw
      case rel => exact ⟨k + 1, by omega, by go_num, by rw [Hst2.out], Hb3⟩
      case measure => simp [intOf]; omega
    · obtain rfl : k = NW := by omega
      have bbf := b12.trans_pure Hb.out (Nat.le_refl _)
      go_wp2
      go_ret
      exact ⟨_, rfl, ⟨fun _ => ⟨W, by rw [Ha.out.l1, Ha.out.l2]; exact HW.out, by rw [← HNW.out]⟩, fun h => (by rw [Hp.out] at h; cases h)⟩, bbf⟩
end Go.Proofs.YtlmjpmdkifoekaaDoor

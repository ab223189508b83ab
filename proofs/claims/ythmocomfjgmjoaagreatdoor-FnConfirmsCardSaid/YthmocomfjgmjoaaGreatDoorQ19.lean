/- Contracts and plain laws that the claims on sessions use. No condition of their own. -/
import Derived.Test.YthmocomfjgmjoaaGreatDoorQ18
import Derived.Test.YthmocomfjgmjoaaGreatDoorQ07
import Derived.Test.YthmocomfjgmjoaaGreatDoorQ05
import Derived.Test.YthmocomfjgmjoaaGreatDoorQ17
set_option maxHeartbeats 2000000
set_option maxRecDepth 100000
namespace Go.Proofs.YthmocomfjgmjoaaGreatDoor
open Go.RowKit
def swTxt (s : Sw) : ByteArray := switchText s.1 s.2.1 s.2.2.1 s.2.2.2
def pathTxt (W : List Sw) (k : Nat) : ByteArray := (W.take k).foldl (fun acc s => acc ++ (⟨#[32]⟩ ++ swTxt s)) (fmtInt (W.length : Int) ++ ⟨#[32, 115, 119, 105, 116, 99, 104, 101, 115]⟩)
theorem pathTxt_zero (W : List Sw) : pathTxt W 0 = fmtInt (W.length : Int) ++ ⟨#[32, 115, 119, 105, 116, 99, 104, 101, 115]⟩ := rfl
theorem pathTxt_succ {W : List Sw} {k : Nat} {s : Sw} (h : W[k]? = some s) : pathTxt W (k + 1) = pathTxt W k ++ (⟨#[32]⟩ ++ swTxt s) := by
  unfold pathTxt
  rw [List.take_add_one, h, List.foldl_append]; rfl
def SwSmall (s : Sw) : Prop := s.1 ≤ 100 ∧ s.2.1 ≤ 100 ∧ s.2.2.1 ≤ 100 ∧ s.2.2.2 ≤ 100
theorem path_small {r c : Nat} (hr : r ≤ 5) (hc : c ≤ 5) : ∀ {p : List Sw} {g h : List (List Int)}, IsPath r c g p h → ∀ s ∈ p, SwSmall s
  | [], _, _, _, s, hs => by simp at hs
  | x :: p, g, h, hp, s, hs => by
    obtain ⟨h1, h2⟩ := hp
    rcases List.mem_cons.1 hs with rfl | hs
    · obtain ⟨a1, a2, a3, a4, -⟩ := h1
      unfold Sw.y1 Sw.y2 at a1
      unfold Sw.y2 at a2
      unfold Sw.x1 Sw.x2 at a3
      unfold Sw.x2 at a4
      exact ⟨by omega, by omega, by omega, by omega⟩
    · exact path_small hr hc h2 s hs
theorem swTxt_size {s : Sw} (h : SwSmall s) : (swTxt s).size ≤ 84 := by
  obtain ⟨h1, h2, h3, h4⟩ := h
  have hI : ∀ n : Nat, n ≤ 100 → I64 (n : Int) := fun n hn => I64.small (by omega) (by omega)
  unfold swTxt switchText
  have := intsText_size (sep := ⟨#[58]⟩) (l := [(s.1 : Int), s.2.1, s.2.2.1, s.2.2.2]) (by decide) (fun x hx => by
    simp only [List.mem_cons, List.not_mem_nil, or_false] at hx
    rcases hx with rfl | rfl | rfl | rfl
    · exact hI _ h1
    · exact hI _ h2
    · exact hI _ h3
    · exact hI _ h4)
  simpa using this
theorem pathTxt_size {W : List Sw} (hl : W.length ≤ 33554432) (hs : ∀ s ∈ W, SwSmall s) : ∀ k, (pathTxt W k).size ≤ 40 + 100 * k
  | 0 => by
    have e1 : (⟨#[32, 115, 119, 105, 116, 99, 104, 101, 115]⟩ : ByteArray).size = 9 := rfl
    have := fmt_size (n := (W.length : Int)) (by omega)
    rw [pathTxt_zero, ba_append_size, e1]; omega
  | k + 1 => by
    have ih := pathTxt_size hl hs k
    cases e : W[k]? with
    | none =>
      have : pathTxt W (k + 1) = pathTxt W k := by unfold pathTxt; rw [List.take_add_one, e]; simp
      rw [this]; omega
    | some s =>
      have e2 : (⟨#[32]⟩ : ByteArray).size = 1 := rfl
      have := swTxt_size (hs s (List.mem_of_getElem? e))
      rw [pathTxt_succ e, ba_append_size, ba_append_size, e2]; omega
theorem PathLine_t (v v2 : Value) (m t : List (List Int)) (r c : Nat) (w : World) (hv : Grid w v m) (hv2 : Grid w v2 t) (hs : Shape r c m) (hs2 : Shape r c t) (hr1 : 1 ≤ r) (hr4 : r ≤ 4) (hc1 : 1 ≤ c) (hc4 : c ≤ 4) (e1 : rowSumsOf m = rowSumsOf t) (e2 : colSumsOf m = colSumsOf t) (ht : Tab w) :
    Calls Tryz.prog 40 #[v, v2] w fun e w' => ∃ W, Least r c m t W ∧ e = .returned (.string (pathTxt W W.length)) ∧ Below w.heap.size w w' := by
  have Hv := Lib.hid hv
  have Hv2 := Lib.hid hv2
  have HT := Lib.hid ht
  have E1 := Lib.hid e1
  have E2 := Lib.hid e2
  obtain ⟨a, cap, rfl, -⟩ := hv
  obtain ⟨a2, cap2, rfl, -⟩ := hv2
  clear e1 e2 ht
  go_enter Tryz.func40, Tryz.ntmps40
  go_wp2_with (fail)
  refine (PathTo_t _ _ m t r c _ Hv.out Hv2.out hs hs2 hr1 hr4 hc1 hc4 E1.out E2.out).mono ?_
  rintro e w1 ⟨v1, W, rfl, hW, hWl, oW, b1⟩
  have HW := Lib.hid hW
  have hsm := path_small (by omega) (by omega) hW.1
  have Hsm := Lib.hid hsm
  have Hsz := Lib.hid (pathTxt_size hWl hsm)
  have Hz0 := Lib.hid (pathTxt_zero W)
  have Hstep := Lib.hid (fun k s => pathTxt_succ (W := W) (k := k) (s := s))
  have hz0 := fmt_size (n := (W.length : Int)) (by omega)
  have Hown := Lib.hid oW
  obtain ⟨wa, wc, rfl⟩ := oW.shape
  obtain ⟨NW, hNW⟩ : ∃ NW, NW = W.length := ⟨_, rfl⟩
  have HT1 := Lib.hid (HT.out.keep b1)
  rw [← hNW] at hWl hz0 Hz0 Hown ⊢
  have HNW := Lib.hid hNW
  clear hW hsm hNW oW
  go_wp2_with (fail)
  refine (FormatInt_i _ (I64.small (by omega) (by omega)) _ HT1.out).mono ?_
  rintro e w2 ⟨rfl, b2⟩
  have b12 := b1.trans_pure b2 (Nat.le_refl _)
  have Hown2 := Lib.hid (Hown.out.keep b2)
  have HT2 := Lib.hid (HT1.out.keep b2)
  obtain ⟨F0, hF0⟩ : ∃ F0, F0 = fmtInt (NW : Int) := ⟨_, rfl⟩
  rw [← hF0] at Hz0 hz0 ⊢
  clear hF0
  go_wp2
  go_loopw [7, 9, 24] (fun s _ i wr => ∃ k : Nat, k ≤ NW ∧ i = .int .i64 k ∧ s = .string (pathTxt W k) ∧ Hid (Below w2.heap.size w2 wr)) (fun _ _ i _ => NW - (intOf i).toNat)
  case atStart => exact ⟨0, Nat.zero_le _, rfl, by rw [Hz0.out], Lib.hid (Below.refl _ _)⟩
  case round =>
    obtain ⟨k, hk, rfl, rfl, Hb⟩ := hrel
    obtain ⟨wi, rfl⟩ : ∃ wi : World, wi = wr := ⟨_, rfl⟩
    by_cases hlt : k < NW
    · obtain ⟨sp, hsp⟩ : ∃ sp, W[k]? = some sp := ⟨_, List.getElem?_eq_getElem (by rw [← HNW.out]; exact hlt)⟩
      obtain ⟨g, cp, he, -, hgl, -, hcells⟩ := Hown2.out.at (by rw [← HNW.out]; omega)
      obtain ⟨rfl, -⟩ : wa = some ⟨g, 0, none⟩ ∧ wc = cp := by
        simp only [Value.slice.injEq] at he
        exact ⟨he.1, he.2.2⟩
      have c0 := (Hb.out.cell (p := ⟨g, k * 4 + 0, none⟩) hgl).trans (hcells k sp hsp 0 (.int .i64 sp.1) rfl)
      have c1 := (Hb.out.cell (p := ⟨g, k * 4 + 1, none⟩) hgl).trans (hcells k sp hsp 1 (.int .i64 sp.2.1) rfl)
      have c2 := (Hb.out.cell (p := ⟨g, k * 4 + 2, none⟩) hgl).trans (hcells k sp hsp 2 (.int .i64 sp.2.2.1) rfl)
      have c3 := (Hb.out.cell (p := ⟨g, k * 4 + 3, none⟩) hgl).trans (hcells k sp hsp 3 (.int .i64 sp.2.2.2) rfl)
      rw [Nat.add_zero] at c0
      have hsm := Hsm.out sp (List.mem_of_getElem? hsp)
      have hsz := Hsz.out k
      have hz := swTxt_size hsm
      have Hst := Lib.hid (Hstep.out k sp hsp)
      have Hbx := Lib.hid (Below.pureAlloc wi (.cells (swC sp).toArray 65))
      have HTx := Lib.hid ((HT2.out.keep Hb.out).keep Hbx.out)
      obtain ⟨h1, h2, h3, h4⟩ := hsm
      obtain ⟨P, hP⟩ : ∃ P, P = pathTxt W k := ⟨_, rfl⟩
      rw [← hP] at hsz Hst ⊢
      have hsw : switchText sp.1 sp.2.1 sp.2.2.1 sp.2.2.2 = swTxt sp := rfl
      have Hsw := Lib.hid hsw
      have hz2 : (⟨#[32]⟩ ++ swTxt sp : ByteArray).size ≤ 85 := by
        have e2 : (⟨#[32]⟩ : ByteArray).size = 1 := rfl
        rw [ba_append_size, e2]; omega
      clear he hcells hsp hP hsw
      go_wp2_with (fail)
      refine (FormatSwitch_i sp.1 sp.2.1 sp.2.2.1 sp.2.2.2 (I64.small (by omega) (by omega)) (I64.small (by omega) (by omega)) (I64.small (by omega) (by omega)) (I64.small (by omega) (by omega)) _ HTx.out).mono ?_
      rintro e w3 ⟨rfl, b3⟩
      rw [Hsw.out]
      obtain ⟨S, hS⟩ : ∃ S, S = swTxt sp := ⟨_, rfl⟩
      rw [← hS] at hz hz2 Hst ⊢
      have Hb3 := Lib.hid (Hb.out.trans_pure (Hbx.out.trans_pure b3 (Nat.le_refl _)) (Nat.le_refl _))
      clear hS c0 c1 c2 c3
      go_wp2
      go_roundw
      case rel => exact ⟨k + 1, by omega, by go_num, by rw [Hst.out], Hb3⟩
      case measure => simp [intOf]; omega
    · obtain rfl : k = NW := by omega
      have bbf := b12.trans_pure Hb.out (Nat.le_refl _)
      go_wp2
      go_ret
      exact ⟨W, HW.out, by rw [← HNW.out]; rfl, bbf⟩
def pathOk (m t : List (List Int)) : Bool := sameSumsB m t && (decide (m.length ≤ 4) && decide ((m.headD []).length ≤ 4))
def PLTxt (m t : List (List Int)) (T : ByteArray) : Prop := (pathOk m t = true → ∃ W, Least m.length (m.headD []).length m t W ∧ T = pathTxt W W.length) ∧ (pathOk m t = false → T = ⟨#[110, 111, 110, 101]⟩)
theorem PLTxt.eq {m t : List (List Int)} {T U : ByteArray} (h : PLTxt m t T) (h2 : PLTxt m t U) : T = U := by
  cases e : pathOk m t
  · rw [h.2 e, h2.2 e]
  · obtain ⟨W, a1, a2⟩ := h.1 e
    obtain ⟨V, b1, b2⟩ := h2.1 e
    rw [a2, b2, a1.eq b1]
structure PathArgs (m t : List (List Int)) (r c : Nat) : Prop where
  hs : Shape r c m
  hs2 : Shape r c t
  hr1 : 1 ≤ r
  hr5 : r ≤ 5
  hc1 : 1 ≤ c
  hc5 : c ≤ 5
  e1 : rowSumsOf m = rowSumsOf t
  e2 : colSumsOf m = colSumsOf t
  l1 : m.length = r
  l2 : (m.headD []).length = c
theorem path_args {m t : List (List Int)} (h : sameSumsB m t = true) : ∃ r c, PathArgs m t r c := by
  unfold sameSumsB at h
  simp only [Bool.and_eq_true, decide_eq_true_eq] at h
  obtain ⟨h1, h2, h3⟩ := h
  obtain ⟨r, c, a1, a2, a3, a4, a5, a6⟩ := sameSz_shape h1
  obtain ⟨b1, b2⟩ := shape_head a5 a1
  exact ⟨r, c, a5, a6, a1, a2, a3, a4, h2, h3, b1, b2⟩
theorem pathOk_args {m t : List (List Int)} (h : pathOk m t = true) : sameSumsB m t = true ∧ ∃ r c, PathArgs m t r c ∧ r ≤ 4 ∧ c ≤ 4 := by
  unfold pathOk at h
  simp only [Bool.and_eq_true, decide_eq_true_eq] at h
  obtain ⟨h1, h2, h3⟩ := h
  obtain ⟨r, c, ha⟩ := path_args h1
  exact ⟨h1, r, c, ha, by rw [← ha.l1]; exact h2, by rw [← ha.l2]; exact h3⟩
theorem PathTo_ino (v v2 : Value) (m t : List (List Int)) (w : World) (hv : Grid w v m) (hv2 : Grid w v2 t) (hno : pathOk m t = false) : Calls Tryz.prog 96 #[v, v2] w fun e w' => e = .returned (.tuple #[.slice none 0 0, .bool false]) ∧ Below w.heap.size w w' := by
  have Hv := Lib.hid hv
  have Hv2 := Lib.hid hv2
  cases hsb : sameSumsB m t
  · obtain ⟨a, cap, rfl, -⟩ := hv
    obtain ⟨a2, cap2, rfl, -⟩ := hv2
    have Hsb := Lib.hid hsb
    clear hsb hno
    go_enter Tryz.func96, Tryz.ntmps96
    go_wp2_with (fail)
    refine (SameSums_i _ _ m t _ Hv.out Hv2.out).mono ?_
    rintro e w1 ⟨rfl, b1⟩
    rw [Hsb.out]
    go_wp2
    refine bodyPost_ret (v := .tuple #[.slice none 0 0, .bool false]) (by simp [results, Tryz.results96, go_sem]) rfl ?_
    exact ⟨rfl, b1⟩
  obtain ⟨r, c, ha⟩ := path_args hsb
  have hrc : ¬ (r ≤ 4 ∧ c ≤ 4) := by
    intro h
    unfold pathOk at hno
    rw [hsb, ha.l1, ha.l2, decide_eq_true h.1, decide_eq_true h.2] at hno
    cases hno
  obtain ⟨b, off, cp, rfl, hb, hm⟩ := hv.rowsT ha.hs.trectM ha.hr1 ha.hc1
  obtain ⟨b0, o0, c0, hc0, -⟩ := hm 0 ha.hr1
  obtain ⟨a2, cap2, rfl, -⟩ := hv2
  have Hsb := Lib.hid hsb
  have Hc0 := Lib.hid hc0
  clear hsb hno hm hc0
  have hr1 := ha.hr1
  have hc1 := ha.hc1
  by_cases hr : r ≤ 4
  · have h1 : decide ((4 : Int) < (r : Int)) = false := by rw [decide_eq_false_iff_not]; omega
    have h1' : ¬ (4 : Int) < (r : Int) := by omega
    have h2 : decide ((4 : Int) < (c : Int)) = true := by rw [decide_eq_true_eq]; omega
    have h2' : (4 : Int) < (c : Int) := by omega
    go_enter Tryz.func96, Tryz.ntmps96
    go_wp2_with (fail)
    refine (SameSums_i _ _ m t _ Hv.out Hv2.out).mono ?_
    rintro e w1 ⟨rfl, b1⟩
    rw [Hsb.out]
    have hc0 := Hc0.out w1 b1
    rw [Nat.add_zero] at hc0
    go_wp2
    refine bodyPost_ret (v := .tuple #[.slice none 0 0, .bool false]) (by simp [results, Tryz.results96, go_sem]) rfl ?_
    exact ⟨rfl, b1⟩
  · have h1 : decide ((4 : Int) < (r : Int)) = true := by rw [decide_eq_true_eq]; omega
    have h1' : (4 : Int) < (r : Int) := by omega
    go_enter Tryz.func96, Tryz.ntmps96
    go_wp2_with (fail)
    refine (SameSums_i _ _ m t _ Hv.out Hv2.out).mono ?_
    rintro e w1 ⟨rfl, b1⟩
    rw [Hsb.out]
    go_wp2
    refine bodyPost_ret (v := .tuple #[.slice none 0 0, .bool false]) (by simp [results, Tryz.results96, go_sem]) rfl ?_
    exact ⟨rfl, b1⟩
theorem PathLine_ig (v v2 : Value) (m t : List (List Int)) (w : World) (hv : Grid w v m) (hv2 : Grid w v2 t) (ht : Tab w) : Calls Tryz.prog 40 #[v, v2] w fun e w' => ∃ T, e = .returned (.string T) ∧ PLTxt m t T ∧ Below w.heap.size w w' := by
  cases hp : pathOk m t
  · have Hp := Lib.hid hp
    have Hv := Lib.hid hv
    have Hv2 := Lib.hid hv2
    obtain ⟨a, cap, rfl, -⟩ := hv
    obtain ⟨a2, cap2, rfl, -⟩ := hv2
    clear hp
    go_enter Tryz.func40, Tryz.ntmps40
    go_wp2_with (fail)
    refine (PathTo_ino _ _ m t _ Hv.out Hv2.out Hp.out).mono ?_
    rintro e w1 ⟨rfl, b1⟩
    go_wp2
    go_ret
    exact ⟨_, rfl, ⟨fun h => (by rw [Hp.out] at h; cases h), fun _ => rfl⟩, b1⟩
  · obtain ⟨-, r, c, ha, hr4, hc4⟩ := pathOk_args hp
    refine (PathLine_t v v2 m t r c w hv hv2 ha.hs ha.hs2 ha.hr1 hr4 ha.hc1 hc4 ha.e1 ha.e2 ht).mono ?_
    rintro e w1 ⟨W, hW, rfl, b1⟩
    refine ⟨_, rfl, ⟨fun _ => ⟨W, by rw [ha.l1, ha.l2]; exact hW, rfl⟩, fun h => (by rw [hp] at h; cases h)⟩, b1⟩
end Go.Proofs.YthmocomfjgmjoaaGreatDoor

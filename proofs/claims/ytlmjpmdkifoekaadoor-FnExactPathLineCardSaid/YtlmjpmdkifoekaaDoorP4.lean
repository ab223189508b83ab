/- Contract: PathLine of the program, at images with the same sums. -/
import Derived.Test.YtlmjpmdkifoekaaDoorP3
import Derived.Test.YtlmjpmdkifoekaaDoorF5
import Derived.Test.YtlmjpmdkifoekaaDoorF4
namespace Go.Proofs.YtlmjpmdkifoekaaDoor
open Go.RowKit

def swTxt (s : Sw) : ByteArray := switchText s.1 s.2.1 s.2.2.1 s.2.2.2
def pathTxt (W : List Sw) (k : Nat) : ByteArray := (W.take k).foldl (fun acc s => acc ++ (⟨#[32]⟩ ++ swTxt s)) (fmtInt (W.length : Int) ++ ⟨#[32, 115, 119, 105, 116, 99, 104, 101, 115]⟩)
theorem pathTxt_zero (W : List Sw) : pathTxt W 0 = fmtInt (W.length : Int) ++ ⟨#[32, 115, 119, 105, 116, 99, 104, 101, 115]⟩ := rfl
theorem pathTxt_succ {W : List Sw} {k : Nat} {s : Sw} (h : W[k]? = some s) : pathTxt W (k + 1) = pathTxt W k ++ (⟨#[32]⟩ ++ swTxt s) := by
  unfold pathTxt
  rw [List.take_add_one, h, List.foldl_append]; rfl
def SwSmall (s : Sw) : Prop := s.1 ≤ 100 ∧ s.2.1 ≤ 100 ∧ s.2.2.1 ≤ 100 ∧ s.2.2.2 ≤ 100
theorem path_small {r c : Nat} (hr : r ≤ 5) (hc : c ≤ 5) : ∀ {p : List Sw} {g h : List (List Int)}, IsPath r c g p h → ∀ s ∈ p, SwSmall s
  | [], _, _, _, s, hs => by simp at hs
  | x :: p, g, h, hp, s, hs => by
    obtain ⟨h1, h2⟩ := hp
    rcases List.mem_cons.1 hs with rfl | hs
    · obtain ⟨a1, a2, a3, a4, -⟩ := h1
      unfold Sw.y1 Sw.y2 at a1
      unfold Sw.y2 at a2
      unfold Sw.x1 Sw.x2 at a3
      unfold Sw.x2 at a4
      exact ⟨by omega, by omega, by omega, by omega⟩
    · exact path_small hr hc h2 s hs
theorem swTxt_size {s : Sw} (h : SwSmall s) : (swTxt s).size ≤ 84 := by
  obtain ⟨h1, h2, h3, h4⟩ := h
  have hI : ∀ n : Nat, n ≤ 100 → I64 (n : Int) := fun n hn => I64.small (by omega) (by omega)
  unfold swTxt switchText
  have := intsText_size (sep := ⟨#[58]⟩) (l := [(s.1 : Int), s.2.1, s.2.2.1, s.2.2.2]) (by decide) (fun x hx => by
    simp only [List.mem_cons, List.not_mem_nil, or_false] at hx
    rcases hx with rfl | rfl | rfl | rfl
    · exact hI _ h1
    · exact hI _ h2
    · exact hI _ h3
    · exact hI _ h4)
  simpa using this
theorem pathTxt_size {W : List Sw} (hl : W.length ≤ 33554432) (hs : ∀ s ∈ W, SwSmall s) : ∀ k, (pathTxt W k).size ≤ 40 + 100 * k
  | 0 => by
    have e1 : (⟨#[32, 115, 119, 105, 116, 99, 104, 101, 115]⟩ : ByteArray).size = 9 := rfl
    have := fmt_size (n := (W.length : Int)) (by omega)
    rw [pathTxt_zero, ba_append_size, e1]; omega
  | k + 1 => by
    have ih := pathTxt_size hl hs k
    cases e : W[k]? with
    | none =>
      have : pathTxt W (k + 1) = pathTxt W k := by unfold pathTxt; rw [List.take_add_one, e]; simp
      rw [this]; omega
    | some s =>
      have e2 : (⟨#[32]⟩ : ByteArray).size = 1 := rfl
      have := swTxt_size (hs s (List.mem_of_getElem? e))
      rw [pathTxt_succ e, ba_append_size, ba_append_size, e2]; omega
theorem ba_assoc3 (a b c : ByteArray) : a ++ (b ++ c) = a ++ b ++ c := by
  apply ba_ext
  simp only [ba_list_append, List.append_assoc]
set_option maxRecDepth 100000 in
set_option maxHeartbeats 2000000 in
theorem PathLine_t (v v2 : Value) (m t : List (List Int)) (r c : Nat) (w : World) (hv : Grid w v m) (hv2 : Grid w v2 t) (hs : Shape r c m) (hs2 : Shape r c t) (hr1 : 1 ≤ r) (hr4 : r ≤ 4) (hc1 : 1 ≤ c) (hc4 : c ≤ 4) (e1 : rowSumsOf m = rowSumsOf t) (e2 : colSumsOf m = colSumsOf t) (ht : Tab w) :
    Calls Tryd.prog 32 #[v, v2] w fun e w' => ∃ W, Least r c m t W ∧ e = .returned (.string (pathTxt W W.length)) ∧ Below w.heap.size w w' := by
  have Hv := Lib.hid hv
  have Hv2 := Lib.hid hv2
  have HT := Lib.hid ht
  have E1 := Lib.hid e1
  have E2 := Lib.hid e2
  obtain ⟨a, cap, rfl, -⟩ := hv
  obtain ⟨a2, cap2, rfl, -⟩ := hv2
  clear e1 e2 ht
  go_enter Tryd.func32, Tryd.ntmps32
  go_wp2_with (fail)
  refine (PathTo_t _ _ m t r c _ Hv.out Hv2.out hs hs2 hr1 hr4 hc1 hc4 E1.out E2.out).mono ?_
  rintro e w1 ⟨v1, W, rfl, hW, hWl, oW, b1⟩
  have HW := Lib.hid hW
  have hsm := path_small (by omega) (by omega) hW.1
  have Hsm := Lib.hid hsm
  have Hsz := Lib.hid (pathTxt_size hWl hsm)
  have Hz0 := Lib.hid (pathTxt_zero W)
  have Hstep := Lib.hid (fun k s => pathTxt_succ (W := W) (k := k) (s := s))
  have hz0 := fmt_size (n := (W.length : Int)) (by omega)
  have Hown := Lib.hid oW
  obtain ⟨wa, wc, rfl⟩ := oW.shape
  obtain ⟨NW, hNW⟩ : ∃ NW, NW = W.length := ⟨_, rfl⟩
  have HT1 := Lib.hid (HT.out.keep b1)
  rw [← hNW] at hWl hz0 Hz0 Hown ⊢
  have HNW := Lib.hid hNW
  clear hW hsm hNW oW
  go_wp2_with (fail)
  refine (FormatInt_i _ (I64.small (by omega) (by omega)) _ HT1.out).mono ?_
  rintro e w2 ⟨rfl, b2⟩
  have b12 := b1.trans_pure b2 (Nat.le_refl _)
  have Hown2 := Lib.hid (Hown.out.keep b2)
  have HT2 := Lib.hid (HT1.out.keep b2)
  obtain ⟨F0, hF0⟩ : ∃ F0, F0 = fmtInt (NW : Int) := ⟨_, rfl⟩
  rw [← hF0] at Hz0 hz0 ⊢
  clear hF0
  go_wp2
  go_loopw [7, 9, 24] (fun s _ i wr => ∃ k : Nat, k ≤ NW ∧ i = .int .i64 k ∧ s = .string (pathTxt W k) ∧ Hid (Below w2.heap.size w2 wr)) (fun _ _ i _ => NW - (intOf i).toNat)
  case atStart => exact ⟨0, Nat.zero_le _, rfl, by rw [Hz0.out], Lib.hid (Below.refl _ _)⟩
  case round =>
    obtain ⟨k, hk, rfl, rfl, Hb⟩ := hrel
    obtain ⟨wi, rfl⟩ : ∃ wi : World, wi = wr := ⟨_, rfl⟩
    by_cases hlt : k < NW
    · obtain ⟨sp, hsp⟩ : ∃ sp, W[k]? = some sp := ⟨_, List.getElem?_eq_getElem (by rw [← HNW.out]; exact hlt)⟩
      obtain ⟨g, cp, he, -, hgl, -, hcells⟩ := Hown2.out.at (by rw [← HNW.out]; omega)
      obtain ⟨rfl, -⟩ : wa = some ⟨g, 0, none⟩ ∧ wc = cp := by
        simp only [Value.slice.injEq] at he
        exact ⟨he.1, he.2.2⟩
      have c0 := (Hb.out.cell (p := ⟨g, k * 4 + 0, none⟩) hgl).trans (hcells k sp hsp 0 (.int .i64 sp.1) rfl)
      have c1 := (Hb.out.cell (p := ⟨g, k * 4 + 1, none⟩) hgl).trans (hcells k sp hsp 1 (.int .i64 sp.2.1) rfl)
      have c2 := (Hb.out.cell (p := ⟨g, k * 4 + 2, none⟩) hgl).trans (hcells k sp hsp 2 (.int .i64 sp.2.2.1) rfl)
      have c3 := (Hb.out.cell (p := ⟨g, k * 4 + 3, none⟩) hgl).trans (hcells k sp hsp 3 (.int .i64 sp.2.2.2) rfl)
      rw [Nat.add_zero] at c0
      have hsm := Hsm.out sp (List.mem_of_getElem? hsp)
      have hsz := Hsz.out k
      have hz := swTxt_size hsm
      have Hst := Lib.hid (Hstep.out k sp hsp)
      have Hbx := Lib.hid (Below.pureAlloc wi (.cells (swC sp).toArray 62))
      have HTx := Lib.hid ((HT2.out.keep Hb.out).keep Hbx.out)
      obtain ⟨h1, h2, h3, h4⟩ := hsm
      obtain ⟨P, hP⟩ : ∃ P, P = pathTxt W k := ⟨_, rfl⟩
      rw [← hP] at hsz Hst ⊢
      have hsw : switchText sp.1 sp.2.1 sp.2.2.1 sp.2.2.2 = swTxt sp := rfl
      have Hsw := Lib.hid hsw
      have hz2 : (⟨#[32]⟩ ++ swTxt sp : ByteArray).size ≤ 85 := by
        have e2 : (⟨#[32]⟩ : ByteArray).size = 1 := rfl
        rw [ba_append_size, e2]; omega
      clear he hcells hsp hP hsw
      go_wp2_with (fail)
      refine (FormatSwitch_i sp.1 sp.2.1 sp.2.2.1 sp.2.2.2 (I64.small (by omega) (by omega)) (I64.small (by omega) (by omega)) (I64.small (by omega) (by omega)) (I64.small (by omega) (by omega)) _ HTx.out).mono ?_
      rintro e w3 ⟨rfl, b3⟩
      rw [Hsw.out]
      obtain ⟨S, hS⟩ : ∃ S, S = swTxt sp := ⟨_, rfl⟩
      rw [← hS] at hz hz2 Hst ⊢
      have Hb3 := Lib.hid (Hb.out.trans_pure (Hbx.out.trans_pure b3 (Nat.le_refl _)) (Nat.le_refl _))
      clear hS c0 c1 c2 c3
      go_wp2
      go_roundw
      case rel => exact ⟨k + 1, by omega, by go_num, by rw [Hst.out], Hb3⟩
      case measure => simp [intOf]; omega
    · obtain rfl : k = NW := by omega
      have bbf := b12.trans_pure Hb.out (Nat.le_refl _)
      go_wp2
      go_ret
      exact ⟨W, HW.out, by rw [← HNW.out]; rfl, bbf⟩
end Go.Proofs.YtlmjpmdkifoekaaDoor

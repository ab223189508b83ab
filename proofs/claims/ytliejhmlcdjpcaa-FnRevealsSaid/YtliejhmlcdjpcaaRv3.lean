/- Contracts: GreedyReveal of the program. -/
import Derived.Test.YtliejhmlcdjpcaaRv2
import Derived.Test.YtliejhmlcdjpcaaOwr
namespace Go.Proofs.Ytliejhmlcdjpcaa
open Go.RowKit

def lenOf : Value → Nat
  | .slice _ n _ => n
  | _ => 0
theorem sortU_ins {N : Nat} {n : Int} {cells : List Int} (hr : Rising N (insS n cells)) : sortU (cells ++ [n]) = insS n cells := by
  have hp : (sortU (cells ++ [n])).Perm (insS n cells) := (sortU_perm _).trans (insS_perm n cells).symm
  have hne : (sortU (cells ++ [n])).Pairwise (fun a b => a ≠ b) := (hp.pairwise_iff (fun h => Ne.symm h)).2 (hr.1.imp fun h => by omega)
  exact rising_eq hp ((List.Pairwise.and (sortU_sorted _) hne).imp fun h => by omega) hr.1
theorem rising_le {N : Nat} {l : List Int} (h : Rising N l) : l.length ≤ N := by have := rising_len (ris_zero.2 h) (Nat.zero_le _); omega
def greedyOf (r c : Nat) (m : List (List Int)) : List Int := greedy c (r * c) (allImgs (rowSumsOf m) (colSumsOf m)) m (allImgs (rowSumsOf m) (colSumsOf m)).length []
def greedyR (m : List (List Int)) : Option (List Int) := if imageOk m then some (greedyOf m.length (m.headD []).length m) else none
theorem greedyR_ok {r c : Nat} {m : List (List Int)} (h : Shape r c m) (h1 : 1 ≤ r) (h2 : r ≤ 5) (h3 : 1 ≤ c) (h4 : c ≤ 5) : greedyR m = some (greedyOf r c m) := by
  unfold greedyR
  rw [if_pos (h.ok h1 h2 h3 h4), h.1, h.head h1]
theorem rising_nil (N : Nat) : Rising N [] := ⟨List.Pairwise.nil, fun x hx => by cases hx⟩
theorem greedyOf_spec {r c : Nat} {m : List (List Int)} (h : Shape r c m) (h1 : 1 ≤ r) (h2 : r ≤ 5) (h3 : 1 ≤ c) (h4 : c ≤ 5) : Rising (r * c) (greedyOf r c m) ∧ cntA c (allImgs (rowSumsOf m) (colSumsOf m)) m (greedyOf r c m) = 1 := by
  have hI := imgsOk h h1 h2 h3 h4
  exact greedy_enough h1 h3 hI.nd hI.shape hI.self _ [] (rising_nil _) (by
    have : cntA c (allImgs (rowSumsOf m) (colSumsOf m)) m [] ≤ (allImgs (rowSumsOf m) (colSumsOf m)).length := List.length_filter_le _ _
    omega)
theorem greedyR_len (m : List (List Int)) : ((greedyR m).getD []).length ≤ 25 := by
  cases hok : imageOk m
  · simp [greedyR, hok]
  · obtain ⟨r, c, hr1, hr5, hc1, hc5, hsh⟩ := imageOk_shape hok
    rw [greedyR_ok hsh hr1 hr5 hc1 hc5]
    have := rising_le (greedyOf_spec hsh hr1 hr5 hc1 hc5).1
    have : r * c ≤ 25 := Nat.mul_le_mul hr5 hc5
    simp only [Option.getD_some]
    omega
/-- the state of the greedy loop -/
structure GSt (n r c : Nat) (m : List (List Int)) (L : List (List (List Int))) (W : List Int) (w wr : World) (ov : Value) (cells : List Int) (f : Nat) : Prop where
  own : Own 3 IntV (Iv n wr.heap.size) wr ov cells
  ris : Rising (r * c) cells
  cnt : cntA c L m cells ≤ f + 1
  eq : W = greedy c (r * c) L m f cells
  bel : Below n w wr
set_option maxRecDepth 100000 in
set_option maxHeartbeats 2000000 in
theorem GreedyReveal_i (v : Value) (m : List (List Int)) (r c : Nat) (w : World) (hv : Grid w v m) (hs : Shape r c m) (hr1 : 1 ≤ r) (hr5 : r ≤ 5) (hc1 : 1 ≤ c) (hc5 : c ≤ 5) : Calls Try.prog 9 #[v] w fun e w' => ∃ v', e = .returned (.tuple #[v', .bool true]) ∧ Own 3 IntV (Iv w.heap.size w'.heap.size) w' v' (greedyOf r c m) ∧ Below w.heap.size w w' := by
  have hI := imgsOk hs hr1 hr5 hc1 hc5
  obtain ⟨W, hW⟩ : ∃ W, W = greedyOf r c m := ⟨_, rfl⟩
  obtain ⟨L, hL⟩ : ∃ L, L = allImgs (rowSumsOf m) (colSumsOf m) := ⟨_, rfl⟩
  have hW2 : W = greedy c (r * c) L m L.length [] := by rw [hW, hL]; rfl
  have hcn : cntA c L m [] ≤ L.length := List.length_filter_le _ _
  rw [← hL] at hI
  rw [← hW]
  have HI := Lib.hid hI
  have hN25 : r * c ≤ 25 := Nat.mul_le_mul hr5 hc5
  have Hok := Lib.hid (hs.ok hr1 hr5 hc1 hc5)
  have Hv := Lib.hid hv
  have HL := Lib.hid hL
  obtain ⟨a, cap, rfl, -⟩ := hv
  have St0 := Lib.hid (show GSt w.heap.size r c m L W w w (.slice none 0 0) [] L.length from ⟨Own.nil _ _ _ _, rising_nil _, by omega, hW2, Below.refl _ _⟩)
  clear hI hW hL hW2 hcn
  go_enter Try.func9, Try.ntmps9
  go_wp2_with (fail)
  refine (ImageOk_i _ _ _ Hv.out).mono ?_
  rintro e w' ⟨rfl, rfl⟩
  rw [Hok.out]
  go_wp2
  go_loopw [4] (fun ov wr => ∃ (cells : List Int) (f : Nat), Hid (GSt w.heap.size r c m L W w wr ov cells f)) (fun ov _ => 26 - lenOf ov)
  case atStart => exact ⟨[], L.length, St0⟩
  case round =>
    clear St0
    obtain ⟨cells, f, St⟩ := hrel
    obtain ⟨N, hN⟩ : ∃ N, N = cntA c L m cells := ⟨_, rfl⟩
    have HN := Lib.hid hN
    have hpos : 1 ≤ N := by rw [hN]; exact cntA_pos HI.out.self cells
    have hNf : N ≤ f + 1 := by rw [hN]; exact St.out.cnt
    have hcl := rising_le St.out.ris
    have Hci := Lib.hid St.out.own.ints
    obtain ⟨p1, p2, p3, rfl⟩ := St.out.own.shape
    obtain rfl : p2 = cells.length := Ints.len St.out.own.ints
    clear hN
    go_wp2_with (fail)
    refine (IsEnough_i _ _ m cells r c _ (Hv.out.keep St.out.bel) Hci.out hs hr1 hr5 hc1 hc5 St.out.ris).mono ?_
    rintro e w1 ⟨rfl, b1⟩
    rw [← HL.out, ← HN.out]
    have sz1 := b1.size
    have hnw := St.out.bel.size
    by_cases h1 : N = 1
    · rw [decide_eq_true h1]
      have Hfin := Lib.hid (show W = cells from by rw [St.out.eq, greedy_done (by rw [← HN.out]; omega)])
      have Hown := Lib.hid (Own.grow rIntV St.out.own (Nat.le_refl _) b1)
      have bbf := St.out.bel.trans_pure b1 (Nat.le_refl _)
      clear h1
      go_wp2
      refine bodyPost_ret (v := .tuple #[.slice p1 cells.length p3, .bool true]) (by simp [results, Try.results9, go_sem]) rfl ?_
      exact ⟨_, rfl, by rw [Hfin.out]; exact Hown.out, bbf⟩
    · rw [decide_eq_false h1]
      have hns := next_spec hr1 hc1 HI.out.nd HI.out.shape HI.out.self St.out.ris (by rw [← HN.out]; omega)
      have Hnx := Lib.hid (show nextOr r c L m cells = (nextCell c (r * c) L m cells : Nat) from by unfold nextOr; rw [if_neg (by rw [← HN.out]; exact h1)])
      obtain ⟨f', rfl⟩ : ∃ f', f = f' + 1 := ⟨f - 1, by omega⟩
      have Heq := Lib.hid (show W = greedy c (r * c) L m f' (insS (nextCell c (r * c) L m cells) cells) from by rw [St.out.eq, greedy_step (by rw [← HN.out]; omega)])
      obtain ⟨X, hX⟩ : ∃ X, X = nextCell c (r * c) L m cells := ⟨_, rfl⟩
      rw [← hX] at hns Hnx Heq
      have hXb := hns.1
      have Hri := Lib.hid hns.2.2.2.1
      have Hcn := Lib.hid (show cntA c L m (insS X cells) ≤ f' + 1 from by have := hns.2.2.2.2; rw [← HN.out] at this; omega)
      clear hX hns h1
      have Hci1 := Lib.hid (Hci.out.keep b1)
      have Hb1 := Lib.hid (St.out.bel.trans_pure b1 (Nat.le_refl _))
      have Hown1 := Lib.hid (Own.grow rIntV St.out.own (Nat.le_refl _) b1)
      go_wp2_with (fail)
      refine (RevealNext_i _ _ m cells r c _ (Hv.out.keep Hb1.out) Hci1.out hs hr1 hr5 hc1 hc5 St.out.ris).mono ?_
      rintro e w2 ⟨rfl, b2⟩
      rw [← HL.out, Hnx.out]
      have hXI : I64 (X : Int) := I64.small (by omega) (by omega)
      have sz2 := b2.size
      have Hown2 := Lib.hid (Own.grow rIntV Hown1.out (Nat.le_refl _) b2)
      have Hb2 := Lib.hid (Hb1.out.trans_pure b2 (Nat.le_refl _))
      have hcl2 : cells.length < 1099511627776 := by omega
      clear Hown1 Hci Hci1
      go_wp2_with (first | (at_builtin; (refine wpList_appR (w0 := w2) (u := .int .i64 X) rfl _ _ 25 rfl rIntV 3 Try.underlying25 infoInt rfl (by decide) w.heap.size w2.heap.size Hb2.out.size (Nat.le_refl _) rfl rfl (by exact Hown2.out) (by exact ⟨rfl, hXI⟩) hcl2 ?_); intro v3 w3 o3 b3 _; obtain ⟨q3, hq3⟩ : ∃ q3, q3 = cells ++ [(X : Int)] := ⟨_, rfl⟩; rw [← hq3] at o3; obtain ⟨g3, c3, rfl, hg3, -, hg3s, -⟩ := o3.inv_ne (by rw [hq3]; simp); have Hq3 := Lib.hid hq3; have hl3 : q3.length = cells.length + 1 := (by rw [hq3]; simp); have Hl3 := Lib.hid hl3; clear hq3 hl3; have Ho3 := Lib.hid o3; have Hb3 := Lib.hid b3; clear o3 b3) | fail)
      have HI3 := Lib.hid (show ∀ x ∈ q3, I64 x from fun x hx => by
        rw [Hq3.out] at hx
        have := Hri.out.2 x ((insS_perm (X : Int) cells).mem_iff.2 hx)
        exact I64.small (by omega) (by omega))
      have hl3 : q3.length < 4611686018427387904 := by rw [Hl3.out]; omega
      refine (Sort_c g3 c3 q3 _ w3 Ho3.out HI3.out hl3).mono ?_
      rintro e w4 ⟨rfl, o4, h4⟩
      rw [show sortU q3 = insS X cells from by rw [Hq3.out, sortU_ins Hri.out]] at o4
      have hz4 := h4.size
      have hb4 : Below w.heap.size w3 w4 := h4.below (Nat.le_trans (Nat.le_trans hnw (Nat.le_trans sz1 sz2)) Hb3.out.size) fun b hb => by have hb : b = g3 := hb; rw [hb]; exact hg3.1
      have St4 := Lib.hid (show GSt w.heap.size r c m L W w w4 (.slice (some ⟨g3, 0, none⟩) q3.length c3) (insS X cells) f' from ⟨(rOwn rIntV).mono (fun b hb => ⟨hb.1.1, Nat.lt_of_lt_of_le hb.2 hz4⟩) o4, Hri.out, Hcn.out, Heq.out, (Hb2.out.trans Hb3.out).trans hb4⟩)
      clear o4
      go_wp2
      go_roundw
      case rel => exact ⟨_, f', St4⟩
      case measure => have := Hl3.out; simp [lenOf]; omega
theorem GreedyReveal_i2 (v : Value) (m : List (List Int)) (w : World) (hv : Grid w v m) : Calls Try.prog 9 #[v] w fun e w' => ∃ v', e = .returned (.tuple #[v', .bool (greedyR m).isSome]) ∧ Own 3 IntV (Iv w.heap.size w'.heap.size) w' v' ((greedyR m).getD []) ∧ Below w.heap.size w w' := by
  cases hok : imageOk m
  · have Hr := Lib.hid (show greedyR m = none from by simp [greedyR, hok])
    have Hok := Lib.hid hok; clear hok
    obtain ⟨a, cap, rfl, -⟩ := id hv
    go_enter Try.func9, Try.ntmps9
    go_wp2_with (fail)
    refine (ImageOk_i _ _ _ hv).mono ?_
    rintro e w' ⟨rfl, rfl⟩
    rw [Hok.out]
    go_wp2
    refine bodyPost_ret (v := .tuple #[.slice none 0 0, .bool false]) (by simp [results, Try.results9, go_sem]) rfl ?_
    exact ⟨_, by rw [Hr.out]; rfl, by rw [Hr.out]; exact Own.nil _ _ _ _, Below.refl _ _⟩
  · obtain ⟨r, c, hr1, hr5, hc1, hc5, hsh⟩ := imageOk_shape hok
    rw [greedyR_ok hsh hr1 hr5 hc1 hc5]
    exact GreedyReveal_i v m r c w hv hsh hr1 hr5 hc1 hc5
end Go.Proofs.Ytliejhmlcdjpcaa

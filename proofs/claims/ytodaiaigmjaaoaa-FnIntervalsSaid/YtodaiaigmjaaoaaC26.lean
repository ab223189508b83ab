/- Contracts: IntervalOf, IsHConvex, IsVConvex. -/
import Derived.Test.YtodaiaigmjaaoaaInterLaw
set_option linter.unusedSimpArgs false
namespace Go.Proofs.Ytodaiaigmjaaoaa
open Go.RowKit

theorem sub_ints {w : World} {b off n c : Nat} {l : List Int} (h : Ints w (.slice (some ⟨b, off, none⟩) n c) l) {i k : Nat} (hik : i + k ≤ l.length) (cap : Nat) (hc : k ≤ cap) (hb : b < w.heap.size) : Ints w (.slice (some ⟨b, off + i, none⟩) k cap) ((l.drop i).take k) := by
  have hl : ((l.drop i).take k).length = k := by simp; omega
  refine ⟨some ⟨b, off + i, none⟩, cap, by rw [hl], by rw [hl]; exact hc, by rw [hl]; obtain ⟨a', cap', he, h1, h2, -⟩ := h; omega, fun h => by simp at h, fun _ => ⟨b, off + i, rfl, hb, fun j x hx => ?_⟩⟩
  have hj := (List.getElem?_eq_some_iff.1 hx).1
  rw [hl] at hj
  rw [List.getElem?_take, if_pos hj, List.getElem?_drop] at hx
  obtain ⟨u, hu, hr⟩ := Sl.at h hx
  exact ⟨u, by rw [Nat.add_assoc]; exact hu, hr⟩

def interRes (row : List Int) : Value := .tuple #[.int .i64 (if interOk row then firstOf row else 0), .int .i64 (if interOk row then sumL row else 0), .bool (interOk row)]
set_option maxHeartbeats 400000 in
theorem IntervalOf_c (v : Value) (row : List Int) (w : World) (hv : Ints w v row) (h1 : 1 ≤ row.length) (h5 : row.length ≤ 5) (hb : ∀ x ∈ row, 0 ≤ x ∧ x ≤ 1) :
    Calls Try.prog 43 #[v] w fun e w' => e = .returned (interRes row) ∧ w = w' := by
  have hf := row_facts h5 hb
  unfold rowFacts at hf
  simp only [Bool.and_eq_true, decide_eq_true_eq] at hf
  obtain ⟨⟨⟨⟨⟨⟨hf0, hf1⟩, hf2⟩, -⟩, -⟩, -⟩, hf6⟩ := hf
  have hf6' : firstOf row < row.length := by simp at hf6; rcases hf6 with h | h
                                             · subst h; simp at h1
                                             · exact h
  have hall : row.all (inR 0 1) = true := by rw [List.all_eq_true]; exact fun x hx => inR_t (hb x hx).1 (hb x hx).2
  have hsm : Small row := ⟨by omega, fun x hx => by have := hb x hx; omega⟩
  have Hv := Lib.hid hv
  obtain ⟨b, off, cap, rfl, hbl, -⟩ := hv.inv_ne (by omega)
  have hcap : row.length ≤ cap := by obtain ⟨a', cap', he, h1, -⟩ := hv; simp at he; omega
  obtain ⟨F, hF⟩ := Int.eq_ofNat_of_zero_le hf0
  obtain ⟨N, hN⟩ := Int.eq_ofNat_of_zero_le hf2
  rw [hF, hN] at hf1
  rw [hF] at hf6'
  have hFc : F < cap := by omega
  have hFN : F + N ≤ row.length := by omega
  have hspan : spanOf row = (row.drop F).take N := by unfold spanOf; rw [hF, hN]; rfl
  have hsub := sub_ints hv (i := F) (k := N) hFN (cap - F) (by omega) hbl
  rw [← hspan] at hsub
  have hsmS : Small (spanOf row) := by
    rw [hspan]
    exact ⟨by simp; omega, fun x hx => by have := hb x (List.mem_of_mem_drop (List.mem_of_mem_take hx)); omega⟩
  have hmx : max 0 (idx 1 row) = (F : Int) := hF
  have Hsub := Lib.hid hsub
  have HsmS := Lib.hid hsmS
  have Hall := Lib.hid hall
  have Hsm := Lib.hid hsm
  have HN := Lib.hid hN
  have HF := Lib.hid hF
  have hI : Hid (interOk row = decide (sumL (spanOf row) = sumL row)) := Lib.hid (by unfold interOk; rw [hall]; rfl)
  clear hv hb hall hsm hN hF hspan hsub hsmS hf0 hf1 hf2
  go_enter Try.func43, Try.ntmps43
  go_wp2_with (fail)
  refine (allWithin_c _ _ _ _ _ Hv.out).mono ?_
  rintro e w' ⟨rfl, rfl⟩
  rw [Hall.out]
  go_wp2_with (fail)
  refine (sumOf_c _ _ _ Hv.out Hsm.out).mono ?_
  rintro e w' ⟨rfl, rfl⟩
  rw [HN.out]
  go_wp2_with (fail)
  refine (Index_c _ _ _ _ Hv.out).mono ?_
  rintro e w' ⟨rfl, rfl⟩
  clear hf6 hf6'
  have hfin : Calls Try.prog 64 #[.slice (some ⟨b, off + F, none⟩) N (cap - F)] w fun e w' => e = .returned (.int .i64 (sumL (spanOf row))) ∧ w = w' := sumOf_c _ _ _ Hsub.out HsmS.out
  have Hfin := Lib.hid hfin
  clear hfin
  generalize idx 1 row = i at hmx ⊢
  rcases Nat.eq_zero_or_pos F with h0 | h0
  · subst h0
    have hi0 : i ≤ 0 := by omega
    rw [Nat.add_zero, Nat.sub_zero] at Hfin
    rcases Int.lt_or_le i 0 with hi | hi
    · go_wp2_with (fail)
      refine Hfin.out.mono ?_
      rintro e w' ⟨rfl, rfl⟩
      by_cases he : sumL (spanOf row) = (N : Int)
      · have Hr := Lib.hid (show interOk row = true from by rw [hI.out, HN.out]; simpa using he)
        rw [he]
        go_wp2
        refine bodyPost_ret (v := .tuple #[.int .i64 0, .int .i64 N, .bool true]) (by simp [results, Try.results43, go_sem]) rfl ⟨by unfold interRes; rw [Hr.out]; simp [HF.out, HN.out], rfl⟩
      · have Hr := Lib.hid (show interOk row = false from by rw [hI.out, HN.out]; simpa using he)
        have hne : (sumL (spanOf row) == (N : Int)) = false := by simpa using he
        go_wp2
        refine bodyPost_ret (v := .tuple #[.int .i64 0, .int .i64 0, .bool false]) (by simp [results, Try.results43, go_sem]) rfl ⟨by unfold interRes; rw [Hr.out]; simp [HF.out, HN.out], rfl⟩
    · obtain rfl : i = 0 := by omega
      go_wp2_with (fail)
      refine Hfin.out.mono ?_
      rintro e w' ⟨rfl, rfl⟩
      by_cases he : sumL (spanOf row) = (N : Int)
      · have Hr := Lib.hid (show interOk row = true from by rw [hI.out, HN.out]; simpa using he)
        rw [he]
        go_wp2
        refine bodyPost_ret (v := .tuple #[.int .i64 0, .int .i64 N, .bool true]) (by simp [results, Try.results43, go_sem]) rfl ⟨by unfold interRes; rw [Hr.out]; simp [HF.out, HN.out], rfl⟩
      · have Hr := Lib.hid (show interOk row = false from by rw [hI.out, HN.out]; simpa using he)
        have hne : (sumL (spanOf row) == (N : Int)) = false := by simpa using he
        go_wp2
        refine bodyPost_ret (v := .tuple #[.int .i64 0, .int .i64 0, .bool false]) (by simp [results, Try.results43, go_sem]) rfl ⟨by unfold interRes; rw [Hr.out]; simp [HF.out, HN.out], rfl⟩
  · obtain rfl : i = (F : Int) := by omega
    have hmx' : max (0 : Int) (F : Int) = (F : Int) := hmx
    go_wp2_with (fail)
    refine Hfin.out.mono ?_
    rintro e w' ⟨rfl, rfl⟩
    by_cases he : sumL (spanOf row) = (N : Int)
    · have Hr := Lib.hid (show interOk row = true from by rw [hI.out, HN.out]; simpa using he)
      rw [he]
      go_wp2
      refine bodyPost_ret (v := .tuple #[.int .i64 F, .int .i64 N, .bool true]) (by simp [results, Try.results43, go_sem]) rfl ⟨by unfold interRes; rw [Hr.out]; simp [HF.out, HN.out], rfl⟩
    · have Hr := Lib.hid (show interOk row = false from by rw [hI.out, HN.out]; simpa using he)
      have hne : (sumL (spanOf row) == (N : Int)) = false := by simpa using he
      go_wp2
      refine bodyPost_ret (v := .tuple #[.int .i64 0, .int .i64 0, .bool false]) (by simp [results, Try.results43, go_sem]) rfl ⟨by unfold interRes; rw [Hr.out]; simp [HF.out, HN.out], rfl⟩
end Go.Proofs.Ytodaiaigmjaaoaa

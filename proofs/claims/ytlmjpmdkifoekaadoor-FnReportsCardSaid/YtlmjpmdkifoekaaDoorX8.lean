/- Contracts: SortedDown, WorstColumns, Exists of the program. -/
import Derived.Test.YtlmjpmdkifoekaaDoorX3
import Derived.Test.YtlmjpmdkifoekaaDoorC1
import Derived.Test.YtlmjpmdkifoekaaDoorE3
import Derived.Test.YtlmjpmdkifoekaaDoorOwr
import Derived.Test.YtlmjpmdkifoekaaDoorShelfG
import Derived.Lib.RowBridge
import Derived.Lib.SortBridge
namespace Go.Proofs.YtlmjpmdkifoekaaDoor
open Go.RowKit

open Go.Shelf Go.Lib Go.Sort in
def cfD (x y : Int) : Int := Lib.compareInt y x
open Go.Shelf Go.Lib Go.Sort in
theorem ltD (x y : Int) : ltOf cfD x y = decide (y < x) := by
  unfold ltOf cfD Lib.compareInt
  by_cases h1 : y < x
  · simp [h1]
  · by_cases h2 : x < y <;> simp [h1, h2]
open Go.Shelf Go.Lib Go.Sort in
theorem swoD : SWO (ltOf cfD) where
  irrefl x := by rw [ltD]; simp
  trans x y z h1 h2 := by rw [ltD] at *; simp at *; omega
  ntrans x y z h1 h2 := by rw [ltD] at *; simp at *; omega
open Go.Shelf Go.Lib Go.Sort in
theorem totD (x y : Int) (h1 : ltOf cfD x y = false) (h2 : ltOf cfD y x = false) : x = y := by rw [ltD] at *; simp at *; omega
open Go.Shelf Go.Lib Go.Sort in
theorem geD : (fun x y : Int => !ltOf cfD y x) = fun x y => decide (y ≤ x) := by
  funext x y
  rw [ltD]
  by_cases h : y ≤ x
  · have h' : ¬ x < y := by omega
    simp [h, h']
  · have h' : x < y := by omega
    simp [h, h']
open Go.Shelf Go.Lib Go.Sort in
set_option maxHeartbeats 1000000 in
theorem closureD (x y : Int) (W : World) : Calls Tryd.prog 143 #[.int .i64 x, .int .i64 y] W fun e w' => e = .returned (.int .i64 (cfD x y)) ∧ ∃ q, w' = W.drewN q := by
  have hcon := AnyG.cmp_Compare_int Tryd.cmpL y x W
  change Calls Tryd.prog 144 _ _ _ at hcon
  unfold cfD
  generalize Lib.compareInt y x = r at hcon ⊢
  go_enter Tryd.func143, Tryd.ntmps143
  go_wp2_with (go_at_call 144; refine hcon.mono ?_; rintro e w' ⟨rfl, rfl⟩)
  go_ret
  exact ⟨rfl, 0, rfl⟩
open Go.Shelf Go.Lib Go.Sort in
theorem cmpReadsD (blk off size : Nat) (w : World) : CmpReads Tryd.prog 143 #[] (Value.int .i64) cfD blk off size w := fun _ _ _ _ x y => closureD x y _
theorem merge_sortD (xs : List Int) : xs.mergeSort (fun x y => decide (y ≤ x)) = sortD xs := by
  refine sortD_eq (List.mergeSort_perm _ _) ?_
  have h := List.pairwise_mergeSort (le := fun x y : Int => decide (y ≤ x)) (fun a b c h1 h2 => by simp at *; omega) (fun a b => by simp; omega) xs
  exact h.imp fun h => by simpa using h
open Go.Shelf Go.Lib Go.Sort in
set_option maxHeartbeats 1000000 in
theorem SortFunc_c (g cap : Nat) (xs : List Int) (S : Bk) (w : World) (hown : Own 3 IntV S w (.slice (some ⟨g, 0, none⟩) xs.length cap) xs) (hI : ∀ x ∈ xs, I64 x) (h12 : xs.length < 4611686018427387904) :
    Calls Tryd.prog 142 #[.slice (some ⟨g, 0, none⟩) xs.length cap, .func (.func 143) #[] #[]] w fun e w' => e = .returned (.tuple #[]) ∧ Own 3 IntV (fun b => S b ∧ b < w.heap.size) w' (.slice (some ⟨g, 0, none⟩) xs.length cap) (sortD xs) ∧ Only (fun b => b = g) w w' := by
  have eg : ∀ args w, (callFunc 143 args).run Tryd.prog w = .ok (.enter 143 args) w := enters_of Tryd.func143 (by kernel_rfl) rfl
  have hg : g < w.heap.size := by
    rcases hown with ⟨h, -⟩ | ⟨g', arr, he, -, hh, -⟩
    · cases h
    · simp only [Value.slice.injEq, Option.some.injEq, Addr.mk.injEq, and_true] at he
      obtain ⟨rfl, -⟩ := he
      exact lt_of_block hh
  have hH : Holds (Value.int .i64) w g 0 xs.toArray := by
    intro j hj
    have hj' : j < xs.length := by simpa using hj
    obtain ⟨h1, h2, -⟩ := hown.ints_cell (List.getElem?_eq_getElem hj')
    rw [Nat.zero_add]
    refine ⟨?_, h2⟩
    rw [h1, getElem!_pos _ j hj]; simp
  have hS := Any.slices_SortFunc_total Tryd.sortL (Value.int .i64) (fun _ => rfl) cfD swoD 143 #[] g 0 cap xs.toArray w eg (cmpReadsD g 0 xs.toArray.size w).lays hH hg (by simpa using h12) totD
  rw [geD] at hS
  change Calls Tryd.prog 142 _ _ _ at hS
  have e1 : xs.toArray.size = xs.length := by simp
  rw [e1] at hS
  refine hS.mono ?_
  rintro e w' ⟨rfl, q, os, rfl⟩
  refine ⟨rfl, ?_⟩
  have e2 : xs.toArray.toList.mergeSort (fun x y => decide (y ≤ x)) = sortD xs := merge_sortD xs
  have h1 := Own.setInts (sortD xs) xs 0 (w.drewN q) (show Own 3 IntV S (w.drewN q) _ xs from hown) (by rw [sortD_len]; omega) (fun z hz => hI z ((sortD_perm xs).mem_iff.1 hz))
  rw [owr_all (by rw [sortD_len])] at h1
  have e3 : sortWorld (Value.int .i64) w g 0 q (sortD xs).toArray os = grow ((w.drewN q).setCells g 0 ((sortD xs).map (Value.int .i64))) os := Lib.sorted_world _ w g 0 q _ _ os hH (by rw [sortD_len]; simp)
  rw [e2, e3]
  have hz : ((w.drewN q).setCells g 0 ((sortD xs).map (Value.int .i64))).heap.size = w.heap.size := size_setCells _ _ _ _
  have h2 := (rOwn rIntV).inH h1
  rw [hz] at h2
  refine ⟨(rOwn rIntV).same (fun b hb => heap_grow_old _ _ (by rw [hz]; exact hb.2)) h2, ?_⟩
  have h3 := onlySetCells (S := fun b => b = g) (a := w) rfl ((sortD xs).map (Value.int .i64)) 0 (w.drewN q) ((Only.refl _ w).drewN q)
  exact ⟨h3.os, h3.tape, h3.output, by rw [size_grow, hz]; omega, fun b hb hn => (heap_grow_old _ _ (by rw [hz]; exact hb)).trans (h3.block b hb hn)⟩
set_option maxHeartbeats 1000000 in
theorem SortedDown_i (v : Value) (xs : List Int) (w : World) (hv : Ints w v xs) (h1 : 1 ≤ xs.length) (hl : xs.length ≤ 1048576) : Calls Tryd.prog 125 #[v] w (New 3 IntV w (sortD xs)) := by
  have Hv := Lib.hid hv
  have hI : ∀ x ∈ xs, I64 x := by
    intro x hx
    obtain ⟨k, hk⟩ := List.getElem?_of_mem hx
    obtain ⟨a, cap, rfl, -, -, -, hc⟩ := hv
    obtain ⟨b, off, -, -, hcc⟩ := hc h1
    obtain ⟨u, -, -, h⟩ := hcc k x hk
    exact h
  have HI := Lib.hid hI
  obtain ⟨a, cap, rfl, -⟩ := hv
  clear hI
  go_enter Tryd.func125, Tryd.ntmps125
  go_wp2_with (fail)
  refine (copyInts_c _ xs _ Hv.out hl).mono ?_
  rintro e w1 ⟨v1, rfl, o1, b1⟩
  obtain ⟨g, c1, rfl, -, -, -, -⟩ := o1.inv_ne h1
  have Ho1 := Lib.hid o1
  clear o1
  go_wp2_with (fail)
  refine (SortFunc_c g c1 xs _ w1 Ho1.out HI.out (by omega)).mono ?_
  rintro e w2 ⟨rfl, o2, h2⟩
  have Ho2 := Lib.hid o2
  have hs2 := h2.size
  have hb2 : Below w.heap.size w w2 := b1.trans (h2.below b1.size (fun b hb => by have hb : b = g := hb; rw [hb]; exact (Ho1.out.ownBlock' g rfl).1))
  clear o2
  go_wp2
  go_ret
  exact ⟨_, rfl, (rOwn rIntV).mono (fun b hb => ⟨hb.1.1, Nat.lt_of_lt_of_le hb.2 hs2⟩) Ho2.out, hb2⟩
set_option maxHeartbeats 2000000 in
set_option maxRecDepth 100000 in
theorem WorstColumns_i (v v2 : Value) (xs ys : List Int) (w : World) (hv : Ints w v xs) (hv2 : Ints w v2 ys) : Calls Tryd.prog 93 #[v, v2] w fun e w' => e = .returned (.int .i64 (worst xs ys)) ∧ Below w.heap.size w w' := by
  have Hv := Lib.hid hv
  have Hv2 := Lib.hid hv2
  obtain ⟨a, cap, rfl, -⟩ := hv
  obtain ⟨a2, cap2, rfl, -⟩ := hv2
  cases hok : sumsOk xs ys
  · have Hok := Lib.hid hok
    have Hr := Lib.hid (show worst xs ys = 0 from by unfold worst; rw [hok]; rfl)
    clear hok
    go_enter Tryd.func93, Tryd.ntmps93
    go_wp2_with (fail)
    refine (SumsOk_i _ _ _ _ _ Hv.out Hv2.out).mono ?_
    rintro e w' ⟨rfl, rfl⟩
    rw [Hok.out]
    go_wp2
    go_ret
    exact ⟨retI (by rw [Hr.out]; rfl), Below.refl _ _⟩
  have Hr := Lib.hid (show worst xs ys = worstK xs ys from by unfold worst; rw [hok]; rfl)
  obtain ⟨x1, x5, y1, y5, -, -, -⟩ := sumsOk_bd hok
  obtain ⟨ax, ay⟩ := sumsOk_all hok
  have Hax := Lib.hid ax
  have Hsy := Lib.hid (show ∀ k, Small ((sortD ys).take k) from fun k => sortD_small ay (by omega) y5)
  have Hsx := Lib.hid (show ∀ k, Small ((conjOf xs ys.length).take k) from fun k => conj_small x5 y5)
  have Hm := Lib.hid (show ∀ k, k ≤ ys.length → sumL ((conjOf xs ys.length).take k) = mostL xs k from fun k hk => conj_sum hok hk)
  have Hok := Lib.hid hok
  clear hok ax ay
  go_enter Tryd.func93, Tryd.ntmps93
  go_wp2_with (fail)
  refine (SumsOk_i _ _ _ _ _ Hv.out Hv2.out).mono ?_
  rintro e w' ⟨rfl, rfl⟩
  rw [Hok.out]
  go_wp2_with (fail)
  refine (ConjugateOf_i _ xs ys.length _ Hv.out y1 y5 x5 Hax.out).mono ?_
  rintro e w1 ⟨v1, rfl, o1, b1⟩
  obtain ⟨g, c1, rfl, -, hc1, -, -⟩ := o1.inv_ne (by rw [conjOf_len]; omega)
  rw [conjOf_len] at hc1 ⊢
  have ho1 := o1.ints
  rw [conjOf_len] at ho1
  have Ho1 := Lib.hid ho1
  clear o1 ho1
  go_wp2_with (fail)
  refine (SortedDown_i _ ys _ (Hv2.out.keep b1) y1 (by omega)).mono ?_
  rintro e w2 ⟨v2, rfl, o2, b2⟩
  obtain ⟨g2, c2, rfl, -, hc2, -, -⟩ := o2.inv_ne (by rw [sortD_len]; omega)
  rw [sortD_len] at hc2 ⊢
  have ho2 := o2.ints
  rw [sortD_len] at ho2
  have Ho2 := Lib.hid ho2
  have Ho1' := Lib.hid (Ints.keep Ho1.out b2)
  have hbb := b1.trans_pure b2 (Nat.le_refl _)
  clear o2 ho2
  go_wp2
  go_loopw [7] (fun i wr => ∃ k : Nat, 1 ≤ k ∧ k ≤ ys.length + 1 ∧ i = .int .i64 k ∧ Hid (∀ i, 1 ≤ i → i < k → ¬ tooMuch xs ys i) ∧ Below w2.heap.size w2 wr) (fun i _ => (ys.length + 1 - intOf i).toNat)
  case atStart => exact ⟨1, Nat.le_refl _, by omega, rfl, (by intro i h1 h2; omega), Below.refl _ _⟩
  case round =>
    obtain ⟨k, hk1, hk, rfl, Hno, hbel⟩ := hrel
    by_cases hle : k ≤ ys.length
    · have hd : decide ((k : Int) ≤ (ys.length : Int)) = true := by rw [decide_eq_true_eq]; omega
      have hkc1 : k ≤ c1 := by omega
      have hkc2 : k ≤ c2 := by omega
      obtain ⟨z1, hz1⟩ : ∃ z, z = sumL ((sortD ys).take k) := ⟨_, rfl⟩
      obtain ⟨z2, hz2⟩ : ∃ z, z = sumL ((conjOf xs ys.length).take k) := ⟨_, rfl⟩
      have Hq1 := Lib.hid (show ∀ m, Calls Tryd.prog 56 #[.slice (some ⟨g2, 0, none⟩) k c2] (wr.drewN m) fun e w'' => e = .returned (.int .i64 z1) ∧ w'' = wr.drewN m from fun m => (sumOf_c _ _ _ (Ints.pre (Ints.keep Ho2.out (below_drewN hbel m)) (by rw [sortD_len]; exact hle)) (Hsy.out k)).mono fun e w'' ⟨he, hw⟩ => ⟨by rw [he, hz1], hw.symm⟩)
      have Hq2 := Lib.hid (show ∀ m, Calls Tryd.prog 56 #[.slice (some ⟨g, 0, none⟩) k c1] (wr.drewN m) fun e w'' => e = .returned (.int .i64 z2) ∧ w'' = wr.drewN m from fun m => (sumOf_c _ _ _ (Ints.pre (Ints.keep Ho1'.out (below_drewN hbel m)) (by rw [conjOf_len]; exact hle)) (Hsx.out k)).mono fun e w'' ⟨he, hw⟩ => ⟨by rw [he, hz2], hw.symm⟩)
      have hmz := Hm.out k hle
      rw [← hz2] at hmz
      by_cases hlt : z2 < z1
      · have hd2 : decide (z1 > z2) = true := decide_eq_true hlt
        have hd3 : decide (z2 < z1) = true := decide_eq_true hlt
        have Hw := Lib.hid (worstK_first hk1 hle (by unfold tooMuch; omega) Hno.out)
        clear hz1 hz2 hmz hlt
        go_wp2
        go_quiet ((first | (go_at_call 56; with_reducible exact Calls.quiet_of_same (Hq1.out _)) | (go_at_call 56; with_reducible exact Calls.quiet_of_same (Hq2.out _))))
        go_wp2
        go_ret
        exact ⟨retI (by rw [Hr.out, Hw.out]), below_drewN (hbb.trans_pure hbel (Nat.le_refl _)) _⟩
      · have hd2 : decide (z1 > z2) = false := decide_eq_false hlt
        have hd3 : decide (z2 < z1) = false := decide_eq_false hlt
        have Hno2 := Lib.hid (show ∀ i, 1 ≤ i → i < k + 1 → ¬ tooMuch xs ys i from by
          intro i h1 h2
          by_cases e : i = k
          · rw [e]; unfold tooMuch; omega
          · exact Hno.out i h1 (by omega))
        clear hz1 hz2 hmz hlt
        go_wp2
        go_quiet ((first | (go_at_call 56; with_reducible exact Calls.quiet_of_same (Hq1.out _)) | (go_at_call 56; with_reducible exact Calls.quiet_of_same (Hq2.out _))))
        go_wp2
        go_roundw
        case rel => exact ⟨k + 1, by omega, by omega, by go_num, Hno2, below_drewN hbel _⟩
        case measure => simp [intOf]; omega
    · have hd : decide ((k : Int) ≤ (ys.length : Int)) = false := by rw [decide_eq_false_iff_not]; omega
      have Hw := Lib.hid (show worstK xs ys = 0 from worstK_zero.2 fun i h1 h2 => Hno.out i h1 (by omega))
      go_wp2
      go_ret
      exact ⟨retI (by rw [Hr.out, Hw.out]; rfl), hbb.trans_pure hbel (Nat.le_refl _)⟩
set_option maxHeartbeats 1000000 in
theorem Exists_i (v v2 : Value) (xs ys : List Int) (w : World) (hv : Ints w v xs) (hv2 : Ints w v2 ys) : Calls Tryd.prog 92 #[v, v2] w fun e w' => e = .returned (.bool (existsB xs ys)) ∧ Below w.heap.size w w' := by
  have Hv := Lib.hid hv
  have Hv2 := Lib.hid hv2
  obtain ⟨a, cap, rfl, -⟩ := hv
  obtain ⟨a2, cap2, rfl, -⟩ := hv2
  cases hok : sumsOk xs ys
  · have Hr := Lib.hid (show existsB xs ys = false from by unfold existsB; rw [hok]; rfl)
    have Hok := Lib.hid hok
    clear hok
    go_enter Tryd.func92, Tryd.ntmps92
    go_wp2_with (first | (go_at_call 53; refine (SumsOk_i _ _ _ _ _ Hv.out Hv2.out).mono ?_; rintro e w' ⟨rfl, rfl⟩; rw [Hok.out]))
    go_ret
    exact ⟨retB (by rw [Hr.out]), Below.refl _ _⟩
  · have Hr := Lib.hid (show existsB xs ys = decide (worst xs ys = 0) from by unfold existsB; rw [hok]; rfl)
    have hwl := worst_le xs ys
    obtain ⟨x1, x5, y1, y5, -, -, -⟩ := sumsOk_bd hok
    obtain ⟨z, hz⟩ : ∃ z, z = worst xs ys := ⟨_, rfl⟩
    rw [← hz] at hwl
    have Hz := Lib.hid hz
    have Hok := Lib.hid hok
    clear hok hz
    by_cases h0 : z = 0
    · have hb : ((z : Int) == 0) = true := by rw [beq_iff_eq]; omega
      go_enter Tryd.func92, Tryd.ntmps92
      go_wp2_with (first | (go_at_call 53; refine (SumsOk_i _ _ _ _ _ Hv.out Hv2.out).mono ?_; rintro e w' ⟨rfl, rfl⟩; rw [Hok.out]) | (go_at_call 93; refine (WorstColumns_i _ _ _ _ _ Hv.out Hv2.out).mono ?_; rintro e w2 ⟨rfl, b2⟩; rw [← Hz.out]))
      go_ret
      exact ⟨retB (by rw [Hr.out, ← Hz.out, h0]; rfl), b2⟩
    · have hb : ((z : Int) == 0) = false := by rw [beq_eq_false_iff_ne]; omega
      go_enter Tryd.func92, Tryd.ntmps92
      go_wp2_with (first | (go_at_call 53; refine (SumsOk_i _ _ _ _ _ Hv.out Hv2.out).mono ?_; rintro e w' ⟨rfl, rfl⟩; rw [Hok.out]) | (go_at_call 93; refine (WorstColumns_i _ _ _ _ _ Hv.out Hv2.out).mono ?_; rintro e w2 ⟨rfl, b2⟩; rw [← Hz.out]))
      go_ret
      exact ⟨retB (by rw [Hr.out, ← Hz.out, decide_eq_false h0]), b2⟩
end Go.Proofs.YtlmjpmdkifoekaaDoor

/- Contracts and plain laws that the claims on sessions use. No condition of their own. -/
import Derived.Test.YthmocomfjgmjoaaGreatDoorQ03
import Derived.Test.YthmocomfjgmjoaaGreatDoorQ02
import Derived.Test.YthmocomfjgmjoaaGreatDoorQ01
import Derived.RegionTactic
import Derived.BigRegion
import Derived.Laws.EntriesVeiled
import Derived.Deep.DeepCutAuto
import Derived.Test.YthmocomfjgmjoaaGreatDoorQ08
import Derived.Test.YthmocomfjgmjoaaGreatDoorQ00
import Derived.Lib.RowBridge
import Derived.Lib.SortBridge
set_option maxHeartbeats 2000000
set_option maxRecDepth 100000
namespace Go.Proofs.YthmocomfjgmjoaaGreatDoor
open Go.RowKit
def conjTo (xs : List Int) (n k j : Nat) : List Int := (List.range n).map fun i : Nat => (((xs.take k).filter fun x => decide ((i : Int) < x)).length : Int) + if i < j then 1 else 0
theorem conjTo_zero (xs : List Int) (n k : Nat) : conjTo xs n k 0 = conjOf (xs.take k) n := by
  unfold conjTo conjOf
  exact List.map_congr_left fun i _ => by simp
theorem conjTo_start (xs : List Int) (n : Nat) : conjTo xs n 0 0 = List.replicate n 0 := by
  unfold conjTo
  simp [List.map_const']
theorem conjTo_len (xs : List Int) (n k j : Nat) : (conjTo xs n k j).length = n := by simp [conjTo]
theorem conjTo_next {xs : List Int} {n k : Nat} {x : Int} (hx : xs[k]? = some x) (h0 : 0 ≤ x) : conjTo xs n k x.toNat = conjTo xs n (k + 1) 0 := by
  unfold conjTo
  refine List.map_congr_left fun i _ => ?_
  rw [List.take_add_one, hx, List.filter_append, List.length_append]
  simp only [Option.toList_some, List.filter_cons, List.filter_nil]
  by_cases h : (i : Int) < x
  · rw [if_pos (by omega)]; simp [h]
  · rw [if_neg (by omega)]; simp [h]
theorem conjTo_at {xs : List Int} {n k j i : Nat} (hi : i < n) : ∃ z : Int, (conjTo xs n k j)[i]? = some z ∧ 0 ≤ z ∧ z ≤ xs.length + 1 := by
  unfold conjTo
  rw [List.getElem?_map, List.getElem?_range hi]
  refine ⟨_, rfl, ?_, ?_⟩
  · show (0 : Int) ≤ _ + _
    split <;> omega
  · have h1 := List.length_filter_le (fun x => decide ((i : Int) < x)) (xs.take k)
    have h2 : (xs.take k).length ≤ xs.length := by rw [List.length_take]; omega
    show (_ + _ : Int) ≤ _
    split <;> omega
theorem conjTo_set {xs : List Int} {n k j : Nat} {z : Int} (hz : (conjTo xs n k j)[j]? = some z) : (conjTo xs n k j).set j (z + 1) = conjTo xs n k (j + 1) := by
  have hj := (List.getElem?_eq_some_iff.1 hz).1
  rw [conjTo_len] at hj
  apply List.ext_getElem?
  intro i
  rw [List.getElem?_set]
  by_cases hi : j = i
  · subst hi
    rw [if_pos rfl, if_pos (by rw [conjTo_len]; exact hj)]
    unfold conjTo at hz ⊢
    rw [List.getElem?_map, List.getElem?_range hj] at hz ⊢
    simp only [Option.map_some, Option.some.injEq] at hz ⊢
    rw [if_neg (by omega)] at hz
    rw [if_pos (by omega)]; omega
  · rw [if_neg hi]
    unfold conjTo
    rw [List.getElem?_map, List.getElem?_map]
    cases hr : (List.range n)[i]? with
    | none => rfl
    | some i' =>
      have : i' = i := by
        have h1 := (List.getElem?_eq_some_iff.1 hr).1
        rw [List.length_range] at h1
        rw [List.getElem?_range h1] at hr
        exact (Option.some.inj hr).symm
      subst this
      simp only [Option.map_some, Option.some.injEq]
      have : (i' < j) ↔ (i' < j + 1) := by omega
      simp only [this]
theorem all_at {xs : List Int} {lo hi : Int} (h : xs.all (inR lo hi) = true) {k : Nat} {x : Int} (hx : xs[k]? = some x) : lo ≤ x ∧ x ≤ hi := by
  have := List.all_eq_true.1 h x (List.mem_of_getElem? hx)
  rwa [inR_iff] at this
theorem ConjugateOf_i (v : Value) (xs : List Int) (n : Nat) (w : World) (hv : Ints w v xs) (h1 : 1 ≤ n) (h5 : n ≤ 5) (hl : xs.length ≤ 5) (hall : xs.all (inR 0 n) = true) : Calls Tryz.prog 158 #[v, .int .i64 n] w (New 3 IntV w (conjOf xs n)) := by
  have Hv := Lib.hid hv
  have Hall := Lib.hid hall
  have Hr := Lib.hid (show inR 1 5 (n : Int) = true from inR_t (by omega) (by omega))
  obtain ⟨a, cap0, rfl, -, hle, -, hc⟩ := hv
  clear hall
  go_enter Tryz.func158, Tryz.ntmps158
  go_wp2_with (first | (go_at_call 95; refine (within_c _ _ _ _).mono ?_; rintro e w' ⟨rfl, rfl⟩; rw [Hr.out]) | (go_at_call 157; refine (allWithin_c _ xs 0 n _ Hv.out).mono ?_; rintro e w' ⟨rfl, rfl⟩; rw [Hall.out]) | (at_make; refine wpList_mk _ rfl _ _ 32 rfl 3 Tryz.underlying32 infoInt rfl (by decide) (R := IntV) 0 ⟨rfl, I64.small (by decide) (by decide)⟩ rIntV n rfl rfl (by omega) ?_; intro w1 hown1 hbel1 hsz1; have Hsz1 := Lib.hid hsz1; clear hsz1))
  have hown1 := hown1.point rIntV (Nat.le_refl w.heap.size) (show w.heap.size < w1.heap.size by rw [Hsz1.out]; omega)
  obtain ⟨g, cap, hg0, hg, hcap, hgs, -⟩ := hown1.inv_ne (by simp; omega)
  rw [List.length_replicate] at hg0 hcap
  obtain ⟨rfl, rfl⟩ : w.heap.size = g ∧ n = cap := by simpa using hg0
  have Hown := Lib.hid (show Own 3 IntV (Iv w.heap.size w1.heap.size) w1 (.slice (some ⟨w.heap.size, 0, none⟩) n n) (conjTo xs n 0 0) from by rw [conjTo_start]; exact hown1)
  clear hown1
  go_wp2
  go_loopw [27] (fun i wr => ∃ k : Nat, k ≤ xs.length ∧ i = .int .i64 k ∧ Hid (Own 3 IntV (Iv w.heap.size w1.heap.size) wr (.slice (some ⟨w.heap.size, 0, none⟩) n n) (conjTo xs n k 0)) ∧ Below w.heap.size w wr ∧ wr.heap.size = w1.heap.size) (fun i _ => xs.length - (intOf i).toNat)
  case atStart => exact ⟨0, Nat.zero_le _, rfl, Hown, hbel1, rfl⟩
  case round =>
    clear Hown hbel1
    obtain ⟨k, hk, rfl, Hown, hbel, hsz⟩ := hrel
    have Hsz := Lib.hid hsz
    clear hsz
    by_cases hlt : k < xs.length
    · obtain ⟨b, off, rfl, hb, hcc⟩ := hc (by omega)
      obtain ⟨x, hx⟩ : ∃ x, xs[k]? = some x := ⟨_, List.getElem?_eq_getElem hlt⟩
      obtain ⟨u, hck, rfl, -⟩ := hcc k x hx
      rw [← hbel.cell (p := ⟨b, off + k, none⟩) hb] at hck
      obtain ⟨hx0, hxn⟩ := all_at Hall.out hx
      have Hnext := Lib.hid (conjTo_next (n := n) hx hx0)
      clear hcc hx hc
      go_wp2
      go_loopw [8] (fun j wi => ∃ j' : Nat, (j' : Int) ≤ x ∧ j = .int .i64 j' ∧ Hid (Own 3 IntV (Iv w.heap.size w1.heap.size) wi (.slice (some ⟨w.heap.size, 0, none⟩) n n) (conjTo xs n k j')) ∧ Below w.heap.size w wi ∧ wi.heap.size = w1.heap.size) (fun j _ => (x - intOf j).toNat)
      case atStart => exact ⟨0, hx0, rfl, Hown, hbel, Hsz.out⟩
      case round =>
        clear Hown hbel Hsz hck
        obtain ⟨j, hj, rfl, Hown, hbel, hsz⟩ := hrel
        have Hsz := Lib.hid hsz
        clear hsz
        by_cases hltj : (j : Int) < x
        · have hjn : j < n := by omega
          obtain ⟨z, hz, hz0, hz1⟩ := conjTo_at (xs := xs) (k := k) (j := j) hjn
          obtain ⟨hcj, hfj, -⟩ := Hown.out.ints_cell hz
          have Hset := Lib.hid (show Own 3 IntV (Iv w.heap.size w1.heap.size) (wr.setCell ⟨w.heap.size, j, none⟩ (.int .i64 (z + 1))) (.slice (some ⟨w.heap.size, 0, none⟩) n n) (conjTo xs n k (j + 1)) from by
            have h := Hown.out.setInt (k := j) (by rw [conjTo_len]; exact hjn) (c := z + 1) (I64.small (by omega) (by omega))
            rwa [conjTo_set hz] at h)
          have hgB := hg.1
          clear hz Hown
          go_wp2
          go_roundw
          case rel => exact ⟨j + 1, by omega, by go_num, Hset, hbel.setCell hgB _, by rw [size_setCell]; exact Hsz.out⟩
          case measure => simp [intOf]; omega
        · have e : x.toNat = j := by omega
          have He := Lib.hid (show conjTo xs n (k + 1) 0 = conjTo xs n k j from by rw [← Hnext.out, e])
          clear e
          go_wp2
          go_roundw
          case rel => exact ⟨k + 1, by omega, by go_num, by rw [He.out]; exact Hown, hbel, Hsz.out⟩
          case measure => simp [intOf]; omega
    · have e : k = xs.length := by omega
      have He := Lib.hid (show conjTo xs n k 0 = conjOf xs n from by rw [conjTo_zero, e, List.take_length])
      clear e
      go_wp2
      go_ret
      exact ⟨_, rfl, by rw [← He.out, Hsz.out]; exact Hown.out, hbel⟩
theorem Sl.pre {α : Type} {R : RepT α} {S : Bk} {w : World} {a : Option Addr} {n c : Nat} {xs : List α} (h : Sl R S w (.slice a n c) xs) {k : Nat} (hk : k ≤ xs.length) : Sl R S w (.slice a k c) (xs.take k) := by
  obtain ⟨a', cap', he, h1, h2, h3, h4⟩ := h
  simp only [Value.slice.injEq] at he
  obtain ⟨rfl, rfl, rfl⟩ := he
  have hl : (xs.take k).length = k := by rw [List.length_take]; omega
  refine ⟨a, c, by rw [hl], by omega, by omega, h3, fun h0 => ?_⟩
  obtain ⟨b, off, rfl, hb, hc⟩ := h4 (by omega)
  refine ⟨b, off, rfl, hb, fun j x hj => hc j x ?_⟩
  rw [List.getElem?_take] at hj
  split at hj
  · exact hj
  · cases hj
theorem Ints.pre {w : World} {a : Option Addr} {n c : Nat} {xs : List Int} (h : Ints w (.slice a n c) xs) {k : Nat} (hk : k ≤ xs.length) : Ints w (.slice a k c) (xs.take k) := Sl.pre h hk
theorem conjOf_len (xs : List Int) (n : Nat) : (conjOf xs n).length = n := by simp [conjOf]
theorem conjOf_bd {xs : List Int} {n : Nat} : ∀ x ∈ conjOf xs n, 0 ≤ x ∧ x ≤ xs.length := by
  intro x hx
  unfold conjOf at hx
  obtain ⟨i, -, rfl⟩ := List.mem_map.1 hx
  have := List.length_filter_le (fun x => decide ((i : Int) < x)) xs
  omega
theorem conj_small {xs : List Int} {n k : Nat} (h : xs.length ≤ 5) (hn : n ≤ 5) : Small ((conjOf xs n).take k) := by
  refine ⟨by rw [List.length_take, conjOf_len]; omega, fun x hx => ?_⟩
  have := conjOf_bd x (List.mem_of_mem_take hx)
  omega
theorem sortD_small {ys : List Int} {k : Nat} {m : Int} (h : ys.all (inR 0 m) = true) (hm : m ≤ 5) (hl : ys.length ≤ 5) : Small ((sortD ys).take k) := by
  refine ⟨by rw [List.length_take, sortD_len]; omega, fun x hx => ?_⟩
  have h1 : x ∈ ys := (sortD_perm ys).mem_iff.1 (List.mem_of_mem_take hx)
  have := List.all_eq_true.1 h x h1
  rw [inR_iff] at this
  omega
theorem sumsOk_all {xs ys : List Int} (h : sumsOk xs ys = true) : xs.all (inR 0 ys.length) = true ∧ ys.all (inR 0 xs.length) = true := by
  unfold sumsOk at h
  simp only [Bool.and_eq_true] at h
  exact ⟨h.1.1.2, h.1.2⟩
theorem conj_sum {xs ys : List Int} (h : sumsOk xs ys = true) {k : Nat} (hk : k ≤ ys.length) : sumL ((conjOf xs ys.length).take k) = mostL xs k :=
  conj_take (fun x hx => by have := List.all_eq_true.1 (sumsOk_all h).1 x hx; rw [inR_iff] at this; exact this.1) hk
theorem worstK_first {xs ys : List Int} {k : Nat} (h1 : 1 ≤ k) (h2 : k ≤ ys.length) (h : tooMuch xs ys k) (hb : ∀ i, 1 ≤ i → i < k → ¬ tooMuch xs ys i) : worstK xs ys = k := by
  unfold worstK
  have e : (List.range ys.length).find? (fun i => decide (tooMuch xs ys (i + 1))) = some (k - 1) := by
    rw [List.find?_range_eq_some]
    refine ⟨by rw [show k - 1 + 1 = k by omega]; exact decide_eq_true h, List.mem_range.2 (by omega), fun j hj => ?_⟩
    have := hb (j + 1) (by omega) (by omega)
    simp [this]
  rw [e]
  dsimp only
  omega
theorem worst_le (xs ys : List Int) : worst xs ys ≤ ys.length := by
  unfold worst
  split
  · by_cases h : worstK xs ys = 0
    · omega
    · exact (worstK_pos h).2.1
  · omega
theorem Sl.tail {α : Type} {R : RepT α} {S : Bk} {w : World} {b off n c : Nat} {x : α} {xs : List α} (h : Sl R S w (.slice (some ⟨b, off, none⟩) n c) (x :: xs)) : Sl R S w (.slice (if c = 1 then some ⟨b, off, none⟩ else some ⟨b, off + 1, none⟩) xs.length (c - 1)) xs := by
  obtain ⟨a', cap', he, h1, h2, h3, h4⟩ := h
  simp only [Value.slice.injEq] at he
  obtain ⟨rfl, hn, rfl⟩ := he
  rw [List.length_cons] at h1 h2
  refine ⟨_, _, rfl, by omega, by omega, (fun h => by split at h <;> cases h), fun h0 => ?_⟩
  rw [if_neg (by omega)]
  obtain ⟨b', off', he, hb, hc⟩ := h4 (by rw [List.length_cons]; omega)
  simp only [Option.some.injEq, Addr.mk.injEq, and_true] at he
  obtain ⟨rfl, rfl⟩ := he
  refine ⟨b, off + 1, rfl, hb, fun k y hk => ?_⟩
  obtain ⟨u, hu, hr⟩ := hc (k + 1) y (by simpa using hk)
  exact ⟨u, by rw [show off + 1 + k = off + (k + 1) by omega]; exact hu, hr⟩
theorem imgs_len {xs ys : List Int} (h : sumsOk xs ys = true) : (allImgs xs ys).length ≤ 1073741824 := by
  obtain ⟨-, h2, -, h4, -⟩ := sumsOk_bd h
  refine Nat.le_trans (allImgs_len xs ys) ?_
  have h5 : xs.length * (ys.length + 1) ≤ 5 * 6 := Nat.mul_le_mul h2 (by omega)
  exact Nat.le_trans (Nat.pow_le_pow_right (by decide) h5) (by decide)
theorem imgsOf_ok {xs ys : List Int} (h : sumsOk xs ys = true) : imgsOf xs ys = allImgs xs ys := by unfold imgsOf; rw [h]; rfl
theorem imgsOf_no {xs ys : List Int} (h : sumsOk xs ys = false) : imgsOf xs ys = [] := by unfold imgsOf; rw [h]; rfl
theorem imgsOf_none {xs ys : List Int} (h : existsB xs ys = false) : imgsOf xs ys = [] := by
  cases hok : sumsOk xs ys
  · exact imgsOf_no hok
  · rw [imgsOf_ok hok]
    apply Classical.byContradiction
    intro hne
    rw [(existsB_imgs hok).2 hne] at h
    cases h
theorem imgsOf_some {xs ys : List Int} (h : existsB xs ys = true) : imgsOf xs ys ≠ [] := by
  have hok := existsB_ok h
  rw [imgsOf_ok hok]
  exact (existsB_imgs hok).1 h
theorem imgsOf_len (xs ys : List Int) : (imgsOf xs ys).length ≤ 1073741824 := by
  cases hok : sumsOk xs ys
  · rw [imgsOf_no hok]; simp
  · rw [imgsOf_ok hok]; exact imgs_len hok
theorem sumsOk_5 {xs ys : List Int} (h : sumsOk xs ys = true) : (∀ x ∈ xs, 0 ≤ x ∧ x ≤ 5) ∧ ∀ y ∈ ys, 0 ≤ y ∧ y ≤ 5 := by
  obtain ⟨a, b⟩ := sumsOk_all h
  obtain ⟨-, h2, -, h4, -⟩ := sumsOk_bd h
  constructor
  · intro x hx
    have := List.all_eq_true.1 a x hx
    rw [inR_iff] at this; omega
  · intro x hx
    have := List.all_eq_true.1 b x hx
    rw [inR_iff] at this; omega
def owr : List Int → Nat → List Int → List Int
  | xs, _, [] => xs
  | xs, o, z :: zs => owr (xs.set o z) (o + 1) zs
theorem owr_get : ∀ (zs xs : List Int) (o i : Nat), o + zs.length ≤ xs.length → (owr xs o zs)[i]? = if o ≤ i ∧ i < o + zs.length then zs[i - o]? else xs[i]?
  | [], xs, o, i, _ => by rw [owr, if_neg (by rw [List.length_nil]; omega)]
  | z :: zs, xs, o, i, h => by
    rw [List.length_cons] at h
    rw [owr, owr_get zs (xs.set o z) (o + 1) i (by rw [List.length_set]; omega), List.length_cons]
    by_cases h1 : o + 1 ≤ i ∧ i < o + 1 + zs.length
    · rw [if_pos h1, if_pos (by omega), show i - o = (i - (o + 1)) + 1 by omega]; rfl
    · rw [if_neg h1]
      by_cases h2 : i = o
      · subst h2
        rw [if_pos (by omega), Nat.sub_self, List.getElem?_set_self (by omega)]; rfl
      · rw [if_neg (by omega), List.getElem?_set_ne (by omega)]
theorem owr_all {xs zs : List Int} (h : zs.length = xs.length) : owr xs 0 zs = zs := by
  apply List.ext_getElem?
  intro i
  rw [owr_get zs xs 0 i (by omega)]
  by_cases h1 : i < zs.length
  · rw [if_pos (by omega), Nat.sub_zero]
  · rw [if_neg (by omega), List.getElem?_eq_none (by omega), List.getElem?_eq_none (by omega)]
theorem Own.setInts {E : TypeId} {S : Bk} {g n cap : Nat} : ∀ (zs xs : List Int) (o : Nat) (w : World), Own E IntV S w (.slice (some ⟨g, 0, none⟩) n cap) xs → o + zs.length ≤ xs.length → (∀ z ∈ zs, I64 z) → Own E IntV S (w.setCells g o (zs.map (Value.int .i64))) (.slice (some ⟨g, 0, none⟩) n cap) (owr xs o zs)
  | [], xs, o, w, h, _, _ => h
  | z :: zs, xs, o, w, h, hl, hI => by
    rw [List.length_cons] at hl
    exact Own.setInts zs (xs.set o z) (o + 1) (w.setCell ⟨g, o, none⟩ (.int .i64 z)) (h.setInt (by omega) (hI z (by simp))) (by rw [List.length_set]; omega) (fun y hy => hI y (List.mem_cons_of_mem _ hy))
theorem onlySetCells {S : Bk} {g : Nat} {a : World} (hg : S g) : ∀ (zs : List Value) (o : Nat) (w : World), Only S a w → Only S a (w.setCells g o zs)
  | [], _, _, h => h
  | z :: zs, o, w, h => onlySetCells hg zs (o + 1) (w.setCell ⟨g, o, none⟩ z) (h.setCell (.inl hg) z)
theorem size_setCells (g : Nat) : ∀ (zs : List Value) (o : Nat) (w : World), (w.setCells g o zs).heap.size = w.heap.size
  | [], _, _ => rfl
  | z :: zs, o, w => (size_setCells g zs (o + 1) (w.setCell ⟨g, o, none⟩ z)).trans (size_setCell _ _ _)
def sortU (xs : List Int) : List Int := xs.mergeSort (fun x y => decide (x ≤ y))
theorem sortU_perm (xs : List Int) : (sortU xs).Perm xs := List.mergeSort_perm _ _
theorem sortU_len (xs : List Int) : (sortU xs).length = xs.length := (sortU_perm xs).length_eq
theorem sortU_sorted (xs : List Int) : (sortU xs).Pairwise (fun a b => a ≤ b) := by
  have h := List.pairwise_mergeSort (le := fun x y : Int => decide (x ≤ y)) (fun a b c h1 h2 => by simp at *; omega) (fun a b => by simp; omega) xs
  exact h.imp fun h => by simpa using h
open Go.Shelf Go.Lib Go.Sort in
theorem Sort_c (g cap : Nat) (xs : List Int) (S : Bk) (w : World) (hown : Own 3 IntV S w (.slice (some ⟨g, 0, none⟩) xs.length cap) xs) (hI : ∀ x ∈ xs, I64 x) (h12 : xs.length < 4611686018427387904) :
    Calls Tryz.prog 114 #[.slice (some ⟨g, 0, none⟩) xs.length cap] w fun e w' => e = .returned (.tuple #[]) ∧ Own 3 IntV (fun b => S b ∧ b < w.heap.size) w' (.slice (some ⟨g, 0, none⟩) xs.length cap) (sortU xs) ∧ Only (fun b => b = g) w w' := by
  have hg : g < w.heap.size := by
    rcases hown with ⟨h, -⟩ | ⟨g', arr, he, -, hh, -⟩
    · cases h
    · simp only [Value.slice.injEq, Option.some.injEq, Addr.mk.injEq, and_true] at he
      obtain ⟨rfl, -⟩ := he
      exact lt_of_block hh
  have hH : Holds (Value.int .i64) w g 0 xs.toArray := by
    intro j hj
    have hj' : j < xs.length := by simpa using hj
    obtain ⟨h1, h2, -⟩ := hown.ints_cell (List.getElem?_eq_getElem hj')
    rw [Nat.zero_add]
    refine ⟨?_, h2⟩
    rw [h1, getElem!_pos _ j hj]; simp
  have hS := Tryz.slices_Sort_int g 0 cap xs w hH hg h12
  refine hS.mono ?_
  rintro e w' ⟨rfl, q, os, rfl⟩
  refine ⟨rfl, ?_⟩
  have e2 : xs.mergeSort (fun x y => decide (x ≤ y)) = sortU xs := rfl
  have h1 := Own.setInts (sortU xs) xs 0 (w.drewN q) (show Own 3 IntV S (w.drewN q) _ xs from hown) (by rw [sortU_len]; omega) (fun z hz => hI z ((sortU_perm xs).mem_iff.1 hz))
  rw [owr_all (by rw [sortU_len])] at h1
  have e3 := Lib.sorted_world (Value.int .i64) w g 0 q xs.toArray (sortU xs) os hH (by rw [sortU_len]; simp)
  rw [e2, e3]
  have hz : ((w.drewN q).setCells g 0 ((sortU xs).map (Value.int .i64))).heap.size = w.heap.size := size_setCells _ _ _ _
  have h2 := (rOwn rIntV).inH h1
  rw [hz] at h2
  refine ⟨(rOwn rIntV).same (fun b hb => heap_grow_old _ _ (by rw [hz]; exact hb.2)) h2, ?_⟩
  have h3 := onlySetCells (S := fun b => b = g) (a := w) rfl ((sortU xs).map (Value.int .i64)) 0 (w.drewN q) ((Only.refl _ w).drewN q)
  exact ⟨h3.os, h3.tape, h3.output, by rw [size_grow, hz]; omega, fun b hb hn => (heap_grow_old _ _ (by rw [hz]; exact hb)).trans (h3.block b hb hn)⟩
open Go.Shelf Go.Lib Go.Sort in
def cfD (x y : Int) : Int := Lib.compareInt y x
open Go.Shelf Go.Lib Go.Sort in
theorem ltD (x y : Int) : ltOf cfD x y = decide (y < x) := by
  unfold ltOf cfD Lib.compareInt
  by_cases h1 : y < x
  · simp [h1]
  · by_cases h2 : x < y <;> simp [h1, h2]
open Go.Shelf Go.Lib Go.Sort in
theorem swoD : SWO (ltOf cfD) where
  irrefl x := by rw [ltD]; simp
  trans x y z h1 h2 := by rw [ltD] at *; simp at *; omega
  ntrans x y z h1 h2 := by rw [ltD] at *; simp at *; omega
open Go.Shelf Go.Lib Go.Sort in
theorem totD (x y : Int) (h1 : ltOf cfD x y = false) (h2 : ltOf cfD y x = false) : x = y := by rw [ltD] at *; simp at *; omega
open Go.Shelf Go.Lib Go.Sort in
theorem geD : (fun x y : Int => !ltOf cfD y x) = fun x y => decide (y ≤ x) := by
  funext x y
  rw [ltD]
  by_cases h : y ≤ x
  · have h' : ¬ x < y := by omega
    simp [h, h']
  · have h' : x < y := by omega
    simp [h, h']
open Go.Shelf Go.Lib Go.Sort in
theorem closureD (x y : Int) (W : World) : Calls Tryz.prog 225 #[.int .i64 x, .int .i64 y] W fun e w' => e = .returned (.int .i64 (cfD x y)) ∧ ∃ q, w' = W.drewN q := by
  have hcon := AnyG.cmp_Compare_int Tryz.cmpL y x W
  change Calls Tryz.prog 226 _ _ _ at hcon
  unfold cfD
  generalize Lib.compareInt y x = r at hcon ⊢
  go_enter Tryz.func225, Tryz.ntmps225
  go_wp2_with (go_at_call 226; refine hcon.mono ?_; rintro e w' ⟨rfl, rfl⟩)
  go_ret
  exact ⟨rfl, 0, rfl⟩
open Go.Shelf Go.Lib Go.Sort in
theorem cmpReadsD (blk off size : Nat) (w : World) : CmpReads Tryz.prog 225 #[] (Value.int .i64) cfD blk off size w := fun _ _ _ _ x y => closureD x y _
theorem merge_sortD (xs : List Int) : xs.mergeSort (fun x y => decide (y ≤ x)) = sortD xs := by
  refine sortD_eq (List.mergeSort_perm _ _) ?_
  have h := List.pairwise_mergeSort (le := fun x y : Int => decide (y ≤ x)) (fun a b c h1 h2 => by simp at *; omega) (fun a b => by simp; omega) xs
  exact h.imp fun h => by simpa using h
open Go.Shelf Go.Lib Go.Sort in
theorem SortFunc_c (g cap : Nat) (xs : List Int) (S : Bk) (w : World) (hown : Own 3 IntV S w (.slice (some ⟨g, 0, none⟩) xs.length cap) xs) (hI : ∀ x ∈ xs, I64 x) (h12 : xs.length < 4611686018427387904) :
    Calls Tryz.prog 224 #[.slice (some ⟨g, 0, none⟩) xs.length cap, .func (.func 225) #[] #[]] w fun e w' => e = .returned (.tuple #[]) ∧ Own 3 IntV (fun b => S b ∧ b < w.heap.size) w' (.slice (some ⟨g, 0, none⟩) xs.length cap) (sortD xs) ∧ Only (fun b => b = g) w w' := by
  have eg : ∀ args w, (callFunc 225 args).run Tryz.prog w = .ok (.enter 225 args) w := enters_of Tryz.func225 (by kernel_rfl) rfl
  have hg : g < w.heap.size := by
    rcases hown with ⟨h, -⟩ | ⟨g', arr, he, -, hh, -⟩
    · cases h
    · simp only [Value.slice.injEq, Option.some.injEq, Addr.mk.injEq, and_true] at he
      obtain ⟨rfl, -⟩ := he
      exact lt_of_block hh
  have hH : Holds (Value.int .i64) w g 0 xs.toArray := by
    intro j hj
    have hj' : j < xs.length := by simpa using hj
    obtain ⟨h1, h2, -⟩ := hown.ints_cell (List.getElem?_eq_getElem hj')
    rw [Nat.zero_add]
    refine ⟨?_, h2⟩
    rw [h1, getElem!_pos _ j hj]; simp
  have hS := Any.slices_SortFunc_total Tryz.sortL (Value.int .i64) (fun _ => rfl) cfD swoD 225 #[] g 0 cap xs.toArray w eg (cmpReadsD g 0 xs.toArray.size w).lays hH hg (by simpa using h12) totD
  rw [geD] at hS
  change Calls Tryz.prog 224 _ _ _ at hS
  have e1 : xs.toArray.size = xs.length := by simp
  rw [e1] at hS
  refine hS.mono ?_
  rintro e w' ⟨rfl, q, os, rfl⟩
  refine ⟨rfl, ?_⟩
  have e2 : xs.toArray.toList.mergeSort (fun x y => decide (y ≤ x)) = sortD xs := merge_sortD xs
  have h1 := Own.setInts (sortD xs) xs 0 (w.drewN q) (show Own 3 IntV S (w.drewN q) _ xs from hown) (by rw [sortD_len]; omega) (fun z hz => hI z ((sortD_perm xs).mem_iff.1 hz))
  rw [owr_all (by rw [sortD_len])] at h1
  have e3 : sortWorld (Value.int .i64) w g 0 q (sortD xs).toArray os = grow ((w.drewN q).setCells g 0 ((sortD xs).map (Value.int .i64))) os := Lib.sorted_world _ w g 0 q _ _ os hH (by rw [sortD_len]; simp)
  rw [e2, e3]
  have hz : ((w.drewN q).setCells g 0 ((sortD xs).map (Value.int .i64))).heap.size = w.heap.size := size_setCells _ _ _ _
  have h2 := (rOwn rIntV).inH h1
  rw [hz] at h2
  refine ⟨(rOwn rIntV).same (fun b hb => heap_grow_old _ _ (by rw [hz]; exact hb.2)) h2, ?_⟩
  have h3 := onlySetCells (S := fun b => b = g) (a := w) rfl ((sortD xs).map (Value.int .i64)) 0 (w.drewN q) ((Only.refl _ w).drewN q)
  exact ⟨h3.os, h3.tape, h3.output, by rw [size_grow, hz]; omega, fun b hb hn => (heap_grow_old _ _ (by rw [hz]; exact hb)).trans (h3.block b hb hn)⟩
theorem SortedDown_i (v : Value) (xs : List Int) (w : World) (hv : Ints w v xs) (h1 : 1 ≤ xs.length) (hl : xs.length ≤ 1048576) : Calls Tryz.prog 159 #[v] w (New 3 IntV w (sortD xs)) := by
  have Hv := Lib.hid hv
  have hI : ∀ x ∈ xs, I64 x := by
    intro x hx
    obtain ⟨k, hk⟩ := List.getElem?_of_mem hx
    obtain ⟨a, cap, rfl, -, -, -, hc⟩ := hv
    obtain ⟨b, off, -, -, hcc⟩ := hc h1
    obtain ⟨u, -, -, h⟩ := hcc k x hk
    exact h
  have HI := Lib.hid hI
  obtain ⟨a, cap, rfl, -⟩ := hv
  clear hI
  go_enter Tryz.func159, Tryz.ntmps159
  go_wp2_with (fail)
  refine (copyInts_c _ xs _ Hv.out hl).mono ?_
  rintro e w1 ⟨v1, rfl, o1, b1⟩
  obtain ⟨g, c1, rfl, -, -, -, -⟩ := o1.inv_ne h1
  have Ho1 := Lib.hid o1
  clear o1
  go_wp2_with (fail)
  refine (SortFunc_c g c1 xs _ w1 Ho1.out HI.out (by omega)).mono ?_
  rintro e w2 ⟨rfl, o2, h2⟩
  have Ho2 := Lib.hid o2
  have hs2 := h2.size
  have hb2 : Below w.heap.size w w2 := b1.trans (h2.below b1.size (fun b hb => by have hb : b = g := hb; rw [hb]; exact (Ho1.out.ownBlock' g rfl).1))
  clear o2
  go_wp2
  go_ret
  exact ⟨_, rfl, (rOwn rIntV).mono (fun b hb => ⟨hb.1.1, Nat.lt_of_lt_of_le hb.2 hs2⟩) Ho2.out, hb2⟩
theorem WorstColumns_i (v v2 : Value) (xs ys : List Int) (w : World) (hv : Ints w v xs) (hv2 : Ints w v2 ys) : Calls Tryz.prog 91 #[v, v2] w fun e w' => e = .returned (.int .i64 (worst xs ys)) ∧ Below w.heap.size w w' := by
  have Hv := Lib.hid hv
  have Hv2 := Lib.hid hv2
  obtain ⟨a, cap, rfl, -⟩ := hv
  obtain ⟨a2, cap2, rfl, -⟩ := hv2
  cases hok : sumsOk xs ys
  · have Hok := Lib.hid hok
    have Hr := Lib.hid (show worst xs ys = 0 from by unfold worst; rw [hok]; rfl)
    clear hok
    go_enter Tryz.func91, Tryz.ntmps91
    go_wp2_with (fail)
    refine (SumsOk_i _ _ _ _ _ Hv.out Hv2.out).mono ?_
    rintro e w' ⟨rfl, rfl⟩
    rw [Hok.out]
    go_wp2
    go_ret
    exact ⟨retI (by rw [Hr.out]; rfl), Below.refl _ _⟩
  have Hr := Lib.hid (show worst xs ys = worstK xs ys from by unfold worst; rw [hok]; rfl)
  obtain ⟨x1, x5, y1, y5, -, -, -⟩ := sumsOk_bd hok
  obtain ⟨ax, ay⟩ := sumsOk_all hok
  have Hax := Lib.hid ax
  have Hsy := Lib.hid (show ∀ k, Small ((sortD ys).take k) from fun k => sortD_small ay (by omega) y5)
  have Hsx := Lib.hid (show ∀ k, Small ((conjOf xs ys.length).take k) from fun k => conj_small x5 y5)
  have Hm := Lib.hid (show ∀ k, k ≤ ys.length → sumL ((conjOf xs ys.length).take k) = mostL xs k from fun k hk => conj_sum hok hk)
  have Hok := Lib.hid hok
  clear hok ax ay
  go_enter Tryz.func91, Tryz.ntmps91
  go_wp2_with (fail)
  refine (SumsOk_i _ _ _ _ _ Hv.out Hv2.out).mono ?_
  rintro e w' ⟨rfl, rfl⟩
  rw [Hok.out]
  go_wp2_with (fail)
  refine (ConjugateOf_i _ xs ys.length _ Hv.out y1 y5 x5 Hax.out).mono ?_
  rintro e w1 ⟨v1, rfl, o1, b1⟩
  obtain ⟨g, c1, rfl, -, hc1, -, -⟩ := o1.inv_ne (by rw [conjOf_len]; omega)
  rw [conjOf_len] at hc1 ⊢
  have ho1 := o1.ints
  rw [conjOf_len] at ho1
  have Ho1 := Lib.hid ho1
  clear o1 ho1
  go_wp2_with (fail)
  refine (SortedDown_i _ ys _ (Hv2.out.keep b1) y1 (by omega)).mono ?_
  rintro e w2 ⟨v2, rfl, o2, b2⟩
  obtain ⟨g2, c2, rfl, -, hc2, -, -⟩ := o2.inv_ne (by rw [sortD_len]; omega)
  rw [sortD_len] at hc2 ⊢
  have ho2 := o2.ints
  rw [sortD_len] at ho2
  have Ho2 := Lib.hid ho2
  have Ho1' := Lib.hid (Ints.keep Ho1.out b2)
  have hbb := b1.trans_pure b2 (Nat.le_refl _)
  clear o2 ho2
  go_wp2
  go_loopw [7] (fun i wr => ∃ k : Nat, 1 ≤ k ∧ k ≤ ys.length + 1 ∧ i = .int .i64 k ∧ Hid (∀ i, 1 ≤ i → i < k → ¬ tooMuch xs ys i) ∧ Below w2.heap.size w2 wr) (fun i _ => (ys.length + 1 - intOf i).toNat)
  case atStart => exact ⟨1, Nat.le_refl _, by omega, rfl, (by intro i h1 h2; omega), Below.refl _ _⟩
  case round =>
    obtain ⟨k, hk1, hk, rfl, Hno, hbel⟩ := hrel
    by_cases hle : k ≤ ys.length
    · have hd : decide ((k : Int) ≤ (ys.length : Int)) = true := by rw [decide_eq_true_eq]; omega
      have hkc1 : k ≤ c1 := by omega
      have hkc2 : k ≤ c2 := by omega
      obtain ⟨z1, hz1⟩ : ∃ z, z = sumL ((sortD ys).take k) := ⟨_, rfl⟩
      obtain ⟨z2, hz2⟩ : ∃ z, z = sumL ((conjOf xs ys.length).take k) := ⟨_, rfl⟩
      have Hq1 := Lib.hid (show ∀ m, Calls Tryz.prog 87 #[.slice (some ⟨g2, 0, none⟩) k c2] (wr.drewN m) fun e w'' => e = .returned (.int .i64 z1) ∧ w'' = wr.drewN m from fun m => (sumOf_c _ _ _ (Ints.pre (Ints.keep Ho2.out (below_drewN hbel m)) (by rw [sortD_len]; exact hle)) (Hsy.out k)).mono fun e w'' ⟨he, hw⟩ => ⟨by rw [he, hz1], hw.symm⟩)
      have Hq2 := Lib.hid (show ∀ m, Calls Tryz.prog 87 #[.slice (some ⟨g, 0, none⟩) k c1] (wr.drewN m) fun e w'' => e = .returned (.int .i64 z2) ∧ w'' = wr.drewN m from fun m => (sumOf_c _ _ _ (Ints.pre (Ints.keep Ho1'.out (below_drewN hbel m)) (by rw [conjOf_len]; exact hle)) (Hsx.out k)).mono fun e w'' ⟨he, hw⟩ => ⟨by rw [he, hz2], hw.symm⟩)
      have hmz := Hm.out k hle
      rw [← hz2] at hmz
      by_cases hlt : z2 < z1
      · have hd2 : decide (z1 > z2) = true := decide_eq_true hlt
        have hd3 : decide (z2 < z1) = true := decide_eq_true hlt
        have Hw := Lib.hid (worstK_first hk1 hle (by unfold tooMuch; omega) Hno.out)
        clear hz1 hz2 hmz hlt
        go_wp2
        go_quiet ((first | (go_at_call 87; with_reducible exact Calls.quiet_of_same (Hq1.out _)) | (go_at_call 87; with_reducible exact Calls.quiet_of_same (Hq2.out _))))
        go_wp2
        go_ret
        exact ⟨retI (by rw [Hr.out, Hw.out]), below_drewN (hbb.trans_pure hbel (Nat.le_refl _)) _⟩
      · have hd2 : decide (z1 > z2) = false := decide_eq_false hlt
        have hd3 : decide (z2 < z1) = false := decide_eq_false hlt
        have Hno2 := Lib.hid (show ∀ i, 1 ≤ i → i < k + 1 → ¬ tooMuch xs ys i from by
          intro i h1 h2
          by_cases e : i = k
          · rw [e]; unfold tooMuch; omega
          · exact Hno.out i h1 (by omega))
        clear hz1 hz2 hmz hlt
        go_wp2
        go_quiet ((first | (go_at_call 87; with_reducible exact Calls.quiet_of_same (Hq1.out _)) | (go_at_call 87; with_reducible exact Calls.quiet_of_same (Hq2.out _))))
        go_wp2
        go_roundw
        case rel => exact ⟨k + 1, by omega, by omega, by go_num, Hno2, below_drewN hbel _⟩
        case measure => simp [intOf]; omega
    · have hd : decide ((k : Int) ≤ (ys.length : Int)) = false := by rw [decide_eq_false_iff_not]; omega
      have Hw := Lib.hid (show worstK xs ys = 0 from worstK_zero.2 fun i h1 h2 => Hno.out i h1 (by omega))
      go_wp2
      go_ret
      exact ⟨retI (by rw [Hr.out, Hw.out]; rfl), hbb.trans_pure hbel (Nat.le_refl _)⟩
theorem Exists_i (v v2 : Value) (xs ys : List Int) (w : World) (hv : Ints w v xs) (hv2 : Ints w v2 ys) : Calls Tryz.prog 90 #[v, v2] w fun e w' => e = .returned (.bool (existsB xs ys)) ∧ Below w.heap.size w w' := by
  have Hv := Lib.hid hv
  have Hv2 := Lib.hid hv2
  obtain ⟨a, cap, rfl, -⟩ := hv
  obtain ⟨a2, cap2, rfl, -⟩ := hv2
  cases hok : sumsOk xs ys
  · have Hr := Lib.hid (show existsB xs ys = false from by unfold existsB; rw [hok]; rfl)
    have Hok := Lib.hid hok
    clear hok
    go_enter Tryz.func90, Tryz.ntmps90
    go_wp2_with (first | (go_at_call 89; refine (SumsOk_i _ _ _ _ _ Hv.out Hv2.out).mono ?_; rintro e w' ⟨rfl, rfl⟩; rw [Hok.out]))
    go_ret
    exact ⟨retB (by rw [Hr.out]), Below.refl _ _⟩
  · have Hr := Lib.hid (show existsB xs ys = decide (worst xs ys = 0) from by unfold existsB; rw [hok]; rfl)
    have hwl := worst_le xs ys
    obtain ⟨x1, x5, y1, y5, -, -, -⟩ := sumsOk_bd hok
    obtain ⟨z, hz⟩ : ∃ z, z = worst xs ys := ⟨_, rfl⟩
    rw [← hz] at hwl
    have Hz := Lib.hid hz
    have Hok := Lib.hid hok
    clear hok hz
    by_cases h0 : z = 0
    · have hb : ((z : Int) == 0) = true := by rw [beq_iff_eq]; omega
      go_enter Tryz.func90, Tryz.ntmps90
      go_wp2_with (first | (go_at_call 89; refine (SumsOk_i _ _ _ _ _ Hv.out Hv2.out).mono ?_; rintro e w' ⟨rfl, rfl⟩; rw [Hok.out]) | (go_at_call 91; refine (WorstColumns_i _ _ _ _ _ Hv.out Hv2.out).mono ?_; rintro e w2 ⟨rfl, b2⟩; rw [← Hz.out]))
      go_ret
      exact ⟨retB (by rw [Hr.out, ← Hz.out, h0]; rfl), b2⟩
    · have hb : ((z : Int) == 0) = false := by rw [beq_eq_false_iff_ne]; omega
      go_enter Tryz.func90, Tryz.ntmps90
      go_wp2_with (first | (go_at_call 89; refine (SumsOk_i _ _ _ _ _ Hv.out Hv2.out).mono ?_; rintro e w' ⟨rfl, rfl⟩; rw [Hok.out]) | (go_at_call 91; refine (WorstColumns_i _ _ _ _ _ Hv.out Hv2.out).mono ?_; rintro e w2 ⟨rfl, b2⟩; rw [← Hz.out]))
      go_ret
      exact ⟨retB (by rw [Hr.out, ← Hz.out, decide_eq_false h0]), b2⟩
end Go.Proofs.YthmocomfjgmjoaaGreatDoor

/- Contracts: ConjugateOf. Contracts: the reference's SortedDown. Contracts: the reference's SumsOk, WorstColumns, Exists. -/
import Derived.Test.YtlmjpmdkifoekaaDoorAll2
import Derived.Test.YtlmjpmdkifoekaaDoorC1
import Derived.Test.YtlmjpmdkifoekaaDoorMem
import Derived.RegionTactic
import Derived.BigRegion
import Derived.Test.YtlmjpmdkifoekaaDoorC12
namespace Go.Proofs.YtlmjpmdkifoekaaDoor
open Go.RowKit

/-- the conjugate of the first k numbers, and the first j of its numbers one greater -/
def conjTo (xs : List Int) (n k j : Nat) : List Int := (List.range n).map fun i : Nat => (((xs.take k).filter fun x => decide ((i : Int) < x)).length : Int) + if i < j then 1 else 0
theorem conjTo_zero (xs : List Int) (n k : Nat) : conjTo xs n k 0 = conjOf (xs.take k) n := by
  unfold conjTo conjOf
  exact List.map_congr_left fun i _ => by simp
theorem conjTo_start (xs : List Int) (n : Nat) : conjTo xs n 0 0 = List.replicate n 0 := by
  unfold conjTo
  simp [List.map_const']
theorem conjTo_len (xs : List Int) (n k j : Nat) : (conjTo xs n k j).length = n := by simp [conjTo]
theorem conjTo_next {xs : List Int} {n k : Nat} {x : Int} (hx : xs[k]? = some x) (h0 : 0 ≤ x) : conjTo xs n k x.toNat = conjTo xs n (k + 1) 0 := by
  unfold conjTo
  refine List.map_congr_left fun i _ => ?_
  rw [List.take_add_one, hx, List.filter_append, List.length_append]
  simp only [Option.toList_some, List.filter_cons, List.filter_nil]
  by_cases h : (i : Int) < x
  · rw [if_pos (by omega)]; simp [h]
  · rw [if_neg (by omega)]; simp [h]
theorem conjTo_at {xs : List Int} {n k j i : Nat} (hi : i < n) : ∃ z : Int, (conjTo xs n k j)[i]? = some z ∧ 0 ≤ z ∧ z ≤ xs.length + 1 := by
  unfold conjTo
  rw [List.getElem?_map, List.getElem?_range hi]
  refine ⟨_, rfl, ?_, ?_⟩
  · show (0 : Int) ≤ _ + _
    split <;> omega
  · have h1 := List.length_filter_le (fun x => decide ((i : Int) < x)) (xs.take k)
    have h2 : (xs.take k).length ≤ xs.length := by rw [List.length_take]; omega
    show (_ + _ : Int) ≤ _
    split <;> omega
theorem conjTo_set {xs : List Int} {n k j : Nat} {z : Int} (hz : (conjTo xs n k j)[j]? = some z) : (conjTo xs n k j).set j (z + 1) = conjTo xs n k (j + 1) := by
  have hj := (List.getElem?_eq_some_iff.1 hz).1
  rw [conjTo_len] at hj
  apply List.ext_getElem?
  intro i
  rw [List.getElem?_set]
  by_cases hi : j = i
  · subst hi
    rw [if_pos rfl, if_pos (by rw [conjTo_len]; exact hj)]
    unfold conjTo at hz ⊢
    rw [List.getElem?_map, List.getElem?_range hj] at hz ⊢
    simp only [Option.map_some, Option.some.injEq] at hz ⊢
    rw [if_neg (by omega)] at hz
    rw [if_pos (by omega)]; omega
  · rw [if_neg hi]
    unfold conjTo
    rw [List.getElem?_map, List.getElem?_map]
    cases hr : (List.range n)[i]? with
    | none => rfl
    | some i' =>
      have : i' = i := by
        have h1 := (List.getElem?_eq_some_iff.1 hr).1
        rw [List.length_range] at h1
        rw [List.getElem?_range h1] at hr
        exact (Option.some.inj hr).symm
      subst this
      simp only [Option.map_some, Option.some.injEq]
      have : (i' < j) ↔ (i' < j + 1) := by omega
      simp only [this]
theorem all_at {xs : List Int} {lo hi : Int} (h : xs.all (inR lo hi) = true) {k : Nat} {x : Int} (hx : xs[k]? = some x) : lo ≤ x ∧ x ≤ hi := by
  have := List.all_eq_true.1 h x (List.mem_of_getElem? hx)
  rwa [inR_iff] at this
set_option maxHeartbeats 1000000 in
theorem ConjugateOf_i (v : Value) (xs : List Int) (n : Nat) (w : World) (hv : Ints w v xs) (h1 : 1 ≤ n) (h5 : n ≤ 5) (hl : xs.length ≤ 5) (hall : xs.all (inR 0 n) = true) : Calls Tryd.prog 124 #[v, .int .i64 n] w (New 3 IntV w (conjOf xs n)) := by
  have Hv := Lib.hid hv
  have Hall := Lib.hid hall
  have Hr := Lib.hid (show inR 1 5 (n : Int) = true from inR_t (by omega) (by omega))
  obtain ⟨a, cap0, rfl, -, hle, -, hc⟩ := hv
  clear hall
  go_enter Tryd.func124, Tryd.ntmps124
  go_wp2_with (first | (go_at_call 69; refine (within_c _ _ _ _).mono ?_; rintro e w' ⟨rfl, rfl⟩; rw [Hr.out]) | (go_at_call 98; refine (allWithin_c _ xs 0 n _ Hv.out).mono ?_; rintro e w' ⟨rfl, rfl⟩; rw [Hall.out]) | (at_make; refine wpList_mk _ rfl _ _ 24 rfl 3 Tryd.underlying24 infoInt rfl (by decide) (R := IntV) 0 ⟨rfl, I64.small (by decide) (by decide)⟩ rIntV n rfl rfl (by omega) ?_; intro w1 hown1 hbel1 hsz1; have Hsz1 := Lib.hid hsz1; clear hsz1))
  have hown1 := hown1.point rIntV (Nat.le_refl w.heap.size) (show w.heap.size < w1.heap.size by rw [Hsz1.out]; omega)
  obtain ⟨g, cap, hg0, hg, hcap, hgs, -⟩ := hown1.inv_ne (by simp; omega)
  rw [List.length_replicate] at hg0 hcap
  obtain ⟨rfl, rfl⟩ : w.heap.size = g ∧ n = cap := by simpa using hg0
  have Hown := Lib.hid (show Own 3 IntV (Iv w.heap.size w1.heap.size) w1 (.slice (some ⟨w.heap.size, 0, none⟩) n n) (conjTo xs n 0 0) from by rw [conjTo_start]; exact hown1)
  clear hown1
  go_wp2
  go_loopw [27] (fun i wr => ∃ k : Nat, k ≤ xs.length ∧ i = .int .i64 k ∧ Hid (Own 3 IntV (Iv w.heap.size w1.heap.size) wr (.slice (some ⟨w.heap.size, 0, none⟩) n n) (conjTo xs n k 0)) ∧ Below w.heap.size w wr ∧ wr.heap.size = w1.heap.size) (fun i _ => xs.length - (intOf i).toNat)
  case atStart => exact ⟨0, Nat.zero_le _, rfl, Hown, hbel1, rfl⟩
  case round =>
    clear Hown hbel1
    obtain ⟨k, hk, rfl, Hown, hbel, hsz⟩ := hrel
    have Hsz := Lib.hid hsz
    clear hsz
    by_cases hlt : k < xs.length
    · obtain ⟨b, off, rfl, hb, hcc⟩ := hc (by omega)
      obtain ⟨x, hx⟩ : ∃ x, xs[k]? = some x := ⟨_, List.getElem?_eq_getElem hlt⟩
      obtain ⟨u, hck, rfl, -⟩ := hcc k x hx
      rw [← hbel.cell (p := ⟨b, off + k, none⟩) hb] at hck
      obtain ⟨hx0, hxn⟩ := all_at Hall.out hx
      have Hnext := Lib.hid (conjTo_next (n := n) hx hx0)
      clear hcc hx hc
      go_wp2
      go_loopw [8] (fun j wi => ∃ j' : Nat, (j' : Int) ≤ x ∧ j = .int .i64 j' ∧ Hid (Own 3 IntV (Iv w.heap.size w1.heap.size) wi (.slice (some ⟨w.heap.size, 0, none⟩) n n) (conjTo xs n k j')) ∧ Below w.heap.size w wi ∧ wi.heap.size = w1.heap.size) (fun j _ => (x - intOf j).toNat)
      case atStart => exact ⟨0, hx0, rfl, Hown, hbel, Hsz.out⟩
      case round =>
        clear Hown hbel Hsz hck
        obtain ⟨j, hj, rfl, Hown, hbel, hsz⟩ := hrel
        have Hsz := Lib.hid hsz
        clear hsz
        by_cases hltj : (j : Int) < x
        · have hjn : j < n := by omega
          obtain ⟨z, hz, hz0, hz1⟩ := conjTo_at (xs := xs) (k := k) (j := j) hjn
          obtain ⟨hcj, hfj, -⟩ := Hown.out.ints_cell hz
          have Hset := Lib.hid (show Own 3 IntV (Iv w.heap.size w1.heap.size) (wr.setCell ⟨w.heap.size, j, none⟩ (.int .i64 (z + 1))) (.slice (some ⟨w.heap.size, 0, none⟩) n n) (conjTo xs n k (j + 1)) from by
            have h := Hown.out.setInt (k := j) (by rw [conjTo_len]; exact hjn) (c := z + 1) (I64.small (by omega) (by omega))
            rwa [conjTo_set hz] at h)
          have hgB := hg.1
          clear hz Hown
          go_wp2
          go_roundw
          case rel => exact ⟨j + 1, by omega, by go_num, Hset, hbel.setCell hgB _, by rw [size_setCell]; exact Hsz.out⟩
          case measure => simp [intOf]; omega
        · have e : x.toNat = j := by omega
          have He := Lib.hid (show conjTo xs n (k + 1) 0 = conjTo xs n k j from by rw [← Hnext.out, e])
          clear e
          go_wp2
          go_roundw
          case rel => exact ⟨k + 1, by omega, by go_num, by rw [He.out]; exact Hown, hbel, Hsz.out⟩
          case measure => simp [intOf]; omega
    · have e : k = xs.length := by omega
      have He := Lib.hid (show conjTo xs n k 0 = conjOf xs n from by rw [conjTo_zero, e, List.take_length])
      clear e
      go_wp2
      go_ret
      exact ⟨_, rfl, by rw [← He.out, Hsz.out]; exact Hown.out, hbel⟩
set_option maxHeartbeats 1000000 in
theorem ConjugateOf_s (v : Value) (xs : List Int) (n : Nat) (w : World) (hv : Ints w v xs) (h1 : 1 ≤ n) (h5 : n ≤ 5) (hl : xs.length ≤ 5) (hall : xs.all (inR 0 n) = true) : Calls Tryd.prog 174 #[v, .int .i64 n] w (New 3 IntV w (conjOf xs n)) := by
  have Hv := Lib.hid hv
  have Hall := Lib.hid hall
  have Hr := Lib.hid (show inR 1 5 (n : Int) = true from inR_t (by omega) (by omega))
  obtain ⟨a, cap0, rfl, -, hle, -, hc⟩ := hv
  clear hall
  go_enter Tryd.func174, Tryd.ntmps174
  go_wp2_with (first | (go_at_call 127; refine (l01In_c _ _ _ _).mono ?_; rintro e w' ⟨rfl, rfl⟩; rw [Hr.out]) | (at_make; refine wpList_mk _ rfl _ _ 24 rfl 3 Tryd.underlying24 infoInt rfl (by decide) (R := IntV) 0 ⟨rfl, I64.small (by decide) (by decide)⟩ rIntV n rfl rfl (by omega) ?_; intro w1 hown1 hbel1 hsz1; have Hsz1 := Lib.hid hsz1; clear hsz1))
  have hown1 := hown1.point rIntV (Nat.le_refl w.heap.size) (show w.heap.size < w1.heap.size by rw [Hsz1.out]; omega)
  obtain ⟨g, cap, hg0, hg, hcap, hgs, -⟩ := hown1.inv_ne (by simp; omega)
  rw [List.length_replicate] at hg0 hcap
  obtain ⟨rfl, rfl⟩ : w.heap.size = g ∧ n = cap := by simpa using hg0
  have Hown := Lib.hid (show Own 3 IntV (Iv w.heap.size w1.heap.size) w1 (.slice (some ⟨w.heap.size, 0, none⟩) n n) (conjTo xs n 0 0) from by rw [conjTo_start]; exact hown1)
  clear hown1
  go_wp2
  go_loopw [21] (fun i wr => ∃ k : Nat, k ≤ xs.length ∧ i = .int .i64 k ∧ Hid (Own 3 IntV (Iv w.heap.size w1.heap.size) wr (.slice (some ⟨w.heap.size, 0, none⟩) n n) (conjTo xs n k 0)) ∧ Below w.heap.size w wr ∧ wr.heap.size = w1.heap.size) (fun i _ => xs.length - (intOf i).toNat)
  case atStart => exact ⟨0, Nat.zero_le _, rfl, Hown, hbel1, rfl⟩
  case round =>
    clear Hown hbel1
    obtain ⟨k, hk, rfl, Hown, hbel, hsz⟩ := hrel
    have Hsz := Lib.hid hsz
    clear hsz
    by_cases hlt : k < xs.length
    · obtain ⟨b, off, rfl, hb, hcc⟩ := hc (by omega)
      obtain ⟨x, hx⟩ : ∃ x, xs[k]? = some x := ⟨_, List.getElem?_eq_getElem hlt⟩
      obtain ⟨u, hck, rfl, -⟩ := hcc k x hx
      rw [← hbel.cell (p := ⟨b, off + k, none⟩) hb] at hck
      obtain ⟨hx0, hxn⟩ := all_at Hall.out hx
      have Hnext := Lib.hid (conjTo_next (n := n) hx hx0)
      have Hrx := Lib.hid (show inR 0 (n : Int) x = true from inR_t hx0 hxn)
      clear hcc hx hc
      go_wp2_with (fail)
      refine (l01In_c _ _ _ _).mono ?_
      rintro e w' ⟨rfl, rfl⟩
      rw [Hrx.out]
      go_wp2
      go_loopw [8] (fun j wi => ∃ j' : Nat, (j' : Int) ≤ x ∧ j = .int .i64 j' ∧ Hid (Own 3 IntV (Iv w.heap.size w1.heap.size) wi (.slice (some ⟨w.heap.size, 0, none⟩) n n) (conjTo xs n k j')) ∧ Below w.heap.size w wi ∧ wi.heap.size = w1.heap.size) (fun j _ => (x - intOf j).toNat)
      case atStart => exact ⟨0, hx0, rfl, Hown, hbel, Hsz.out⟩
      case round =>
        clear Hown hbel Hsz hck
        obtain ⟨j, hj, rfl, Hown, hbel, hsz⟩ := hrel
        have Hsz := Lib.hid hsz
        clear hsz
        by_cases hltj : (j : Int) < x
        · have hjn : j < n := by omega
          obtain ⟨z, hz, hz0, hz1⟩ := conjTo_at (xs := xs) (k := k) (j := j) hjn
          obtain ⟨hcj, hfj, -⟩ := Hown.out.ints_cell hz
          have Hset := Lib.hid (show Own 3 IntV (Iv w.heap.size w1.heap.size) (wr.setCell ⟨w.heap.size, j, none⟩ (.int .i64 (z + 1))) (.slice (some ⟨w.heap.size, 0, none⟩) n n) (conjTo xs n k (j + 1)) from by
            have h := Hown.out.setInt (k := j) (by rw [conjTo_len]; exact hjn) (c := z + 1) (I64.small (by omega) (by omega))
            rwa [conjTo_set hz] at h)
          have hgB := hg.1
          clear hz Hown
          go_wp2
          go_roundw
          case rel => exact ⟨j + 1, by omega, by go_num, Hset, hbel.setCell hgB _, by rw [size_setCell]; exact Hsz.out⟩
          case measure => simp [intOf]; omega
        · have e : x.toNat = j := by omega
          have He := Lib.hid (show conjTo xs n (k + 1) 0 = conjTo xs n k j from by rw [← Hnext.out, e])
          clear e
          go_wp2
          go_roundw
          case rel => exact ⟨k + 1, by omega, by go_num, by rw [He.out]; exact Hown, hbel, Hsz.out⟩
          case measure => simp [intOf]; omega
    · have e : k = xs.length := by omega
      have He := Lib.hid (show conjTo xs n k 0 = conjOf xs n from by rw [conjTo_zero, e, List.take_length])
      clear e
      go_wp2
      go_ret
      exact ⟨_, rfl, by rw [← He.out, Hsz.out]; exact Hown.out, hbel⟩
end Go.Proofs.YtlmjpmdkifoekaaDoor

namespace Go.Proofs.YtlmjpmdkifoekaaDoor
open Go.RowKit

def insAt (S : List Int) (p : Nat) (x : Int) : List Int := S.take p ++ x :: S.drop p
theorem insAt_len (S : List Int) (p : Nat) (x : Int) : (insAt S p x).length = S.length + 1 := by
  unfold insAt
  rw [List.length_append, List.length_cons, List.length_take, List.length_drop]; omega
theorem insAt_end (S : List Int) (x : Int) : insAt S S.length x = S ++ [x] := by simp [insAt]
theorem insAt_at {S : List Int} {p : Nat} (hp : p ≤ S.length) (x : Int) : (insAt S p x)[p]? = some x := by
  unfold insAt
  rw [List.getElem?_append_right (by rw [List.length_take]; omega), List.length_take, Nat.min_eq_left hp, Nat.sub_self]; rfl
theorem insAt_before {S : List Int} {p : Nat} {y : Int} (hy : S[p]? = some y) (x : Int) : (insAt S (p + 1) x)[p]? = some y := by
  unfold insAt
  have hp := (List.getElem?_eq_some_iff.1 hy).1
  rw [List.getElem?_append_left (by rw [List.length_take]; omega), List.getElem?_take, if_pos (by omega)]; exact hy
theorem insAt_swap : ∀ {S : List Int} {p : Nat} {y : Int}, S[p]? = some y → ∀ x, ((insAt S (p + 1) x).set (p + 1) y).set p x = insAt S p x
  | [], p, y, h, x => by simp at h
  | a :: S, 0, y, h, x => by
    simp at h
    subst h
    simp [insAt]
  | a :: S, p + 1, y, h, x => by
    have := insAt_swap (S := S) (p := p) (y := y) (by simpa using h) x
    simp only [insAt, List.take_succ_cons, List.drop_succ_cons, List.cons_append, List.set_cons_succ] at this ⊢
    rw [this]
theorem insAt_insD : ∀ {S : List Int} {p : Nat} {x : Int}, (∀ y ∈ S.take p, x ≤ y) → (∀ y ∈ S.drop p, y < x) → insAt S p x = insD x S
  | [], p, x, _, _ => by simp [insAt, insD]
  | a :: S, 0, x, _, h => by
    have := h a (by simp)
    simp only [insAt, List.take_zero, List.drop_zero, List.nil_append, insD]
    rw [if_neg (by omega)]
  | a :: S, p + 1, x, h1, h2 => by
    have ha := h1 a (by simp)
    have := insAt_insD (S := S) (p := p) (x := x) (fun y hy => h1 y (by simp [hy])) (fun y hy => h2 y (by simpa using hy))
    simp only [insAt, List.take_succ_cons, List.drop_succ_cons, List.cons_append, insD] at this ⊢
    rw [if_pos ha, this]
theorem sortD_snoc {xs : List Int} {k : Nat} {x : Int} (h : xs[k]? = some x) : sortD (xs.take (k + 1)) = insD x (sortD (xs.take k)) := by
  unfold sortD
  rw [List.take_add_one, h, List.foldl_append]; rfl
theorem insAt_done {S : List Int} (hd : desc S) {p : Nat} {x y : Int} (hy : S[p]? = some y) (hxy : x ≤ y) (h2 : ∀ y ∈ S.drop (p + 1), y < x) : insAt S (p + 1) x = insD x S := by
  refine insAt_insD (fun z hz => ?_) h2
  obtain ⟨i, hi, rfl⟩ := List.getElem_of_mem hz
  rw [List.length_take] at hi
  rw [List.getElem_take]
  obtain ⟨hp, rfl⟩ := List.getElem?_eq_some_iff.1 hy
  unfold desc at hd
  rw [List.pairwise_iff_getElem] at hd
  by_cases hip : i = p
  · subst hip; exact hxy
  · exact Int.le_trans hxy (hd i p (by omega) hp (by omega))
theorem drop_more {S : List Int} {p : Nat} {x y : Int} (hy : S[p]? = some y) (hxy : y < x) (h2 : ∀ y ∈ S.drop (p + 1), y < x) : ∀ y ∈ S.drop p, y < x := by
  intro z hz
  rw [List.drop_eq_getElem_cons (List.getElem?_eq_some_iff.1 hy).1] at hz
  rcases List.mem_cons.1 hz with e | hz
  · obtain ⟨hp, rfl⟩ := List.getElem?_eq_some_iff.1 hy
    rw [e]; exact hxy
  · exact h2 z hz
set_option maxRecDepth 100000 in
set_option maxHeartbeats 2000000 in
theorem SortedDown_s (v : Value) (xs : List Int) (w : World) (hv : Ints w v xs) (hl : xs.length ≤ 1048576) : Calls Tryd.prog 175 #[v] w (New 3 IntV w (sortD xs)) := by
  obtain ⟨a, cap0, rfl, -, hle, -, hc⟩ := hv
  go_enter Tryd.func175, Tryd.ntmps175
  go_wp2
  go_loopw [3, 11] (fun v i wr => ∃ k : Nat, k ≤ xs.length ∧ i = .int .i64 k ∧ Own 3 IntV (Iv w.heap.size wr.heap.size) wr v (sortD (xs.take k)) ∧ Below w.heap.size w wr) (fun _ i _ => xs.length - (intOf i).toNat)
  case atStart => exact ⟨0, Nat.zero_le _, rfl, own_lit0 _ _ _ rIntV, Below.pureAlloc _ _⟩
  case round =>
    obtain ⟨k, hk, rfl, hown, hbel⟩ := hrel
    obtain ⟨wo, rfl⟩ : ∃ wo : World, wo = wr := ⟨_, rfl⟩
    have hBs := hbel.size
    by_cases hlt : k < xs.length
    · obtain ⟨b, off, rfl, hb, hcc⟩ := hc (by omega)
      obtain ⟨x, hx⟩ : ∃ x, xs[k]? = some x := ⟨_, List.getElem?_eq_getElem hlt⟩
      obtain ⟨u, hck, rfl, hI⟩ := hcc k x hx
      rw [← hbel.cell (p := ⟨b, off + k, none⟩) hb] at hck
      obtain ⟨S, hS⟩ : ∃ S, S = sortD (xs.take k) := ⟨_, rfl⟩
      have hSl : S.length = k := by rw [hS, sortD_len, List.length_take]; omega
      have Hsn := Lib.hid (show sortD (xs.take (k + 1)) = insD x S from by rw [hS]; exact sortD_snoc hx)
      have Hd := Lib.hid (show desc S from by rw [hS]; exact sortD_desc _)
      rw [← hS] at hown
      have hkl : S.length < 1099511627776 := by omega
      obtain ⟨p1, p2, p3, rfl⟩ := hown.shape
      have Hown := Lib.hid hown
      have HSl := Lib.hid hSl
      clear hcc hx hc hown hS hSl
      go_wp2_with (first | (at_builtin; (refine wpList_appR rfl _ _ 24 rfl rIntV 3 Tryd.underlying24 infoInt rfl (by decide) w.heap.size wo.heap.size hBs (Nat.le_refl _) rfl rfl (by exact Hown.out) (by exact ⟨rfl, hI⟩) hkl ?_); intro v2 w2 hown2 hbel2 _; obtain ⟨g, cap, rfl, hg, hcap, hgs, -⟩ := hown2.inv_ne (by simp)) | fail)
      rw [show (S ++ [x]).length = k + 1 from by rw [List.length_append, HSl.out]; rfl] at hown2 hcap
      rw [HSl.out]
      have Hown2 := Lib.hid (show Own 3 IntV (Iv w.heap.size w2.heap.size) w2 (.slice (some ⟨g, 0, none⟩) (k + 1) cap) (insAt S k x) from by have h := insAt_end S x; rw [HSl.out] at h; rw [h]; exact hown2)
      have hbel2' := hbel.trans hbel2
      clear hown2 hbel hbel2
      go_wp2
      go_loopw [6] (fun pv wi => ∃ p : Nat, p ≤ k ∧ pv = .int .i64 p ∧ Hid (Own 3 IntV (Iv w.heap.size w2.heap.size) wi (.slice (some ⟨g, 0, none⟩) (k + 1) cap) (insAt S p x)) ∧ Hid (∀ y ∈ S.drop p, y < x) ∧ Below w.heap.size w wi ∧ wi.heap.size = w2.heap.size) (fun pv _ => (intOf pv).toNat)
      case atStart => exact ⟨k, Nat.le_refl _, by go_num, Hown2, (by intro y hy; rw [List.drop_eq_nil_of_le (by rw [HSl.out]; exact Nat.le_refl _)] at hy; cases hy), hbel2', rfl⟩
      case round =>
        clear Hown2 hbel2' hck
        obtain ⟨p, hp, rfl, Hown, Hgt, hbel, hsz⟩ := hrel
        have Hsz := Lib.hid hsz
        clear hsz
        cases p with
        | zero =>
          have Hfin := Lib.hid (show insAt S 0 x = insD x S from insAt_insD (by simp) (by simpa using Hgt.out))
          have HO := Lib.hid (show Own 3 IntV (Iv w.heap.size wr.heap.size) wr (.slice (some ⟨g, 0, none⟩) (k + 1) cap) (insD x S) from by rw [Hsz.out, ← Hfin.out]; exact Hown.out)
          go_wp2
          go_quiet (fail)
          go_wp2
          go_roundw
          case rel => exact ⟨k + 1, by omega, by go_num, by rw [Hsn.out]; exact HO.out, below_drewN hbel _⟩
          case measure => simp [intOf]; omega
        | succ p =>
          have hps : p < S.length := by rw [HSl.out]; omega
          obtain ⟨y, hy⟩ : ∃ y, S[p]? = some y := ⟨_, List.getElem?_eq_getElem hps⟩
          obtain ⟨c1, f1, I1⟩ := Hown.out.ints_cell (insAt_at (p := p + 1) (by omega) x)
          obtain ⟨c2, f2, I2⟩ := Hown.out.ints_cell (insAt_before hy x)
          have hIx := hI
          by_cases hxy : y < x
          · have hd1 : decide (y < x) = true := decide_eq_true hxy
            have Hmore := Lib.hid (drop_more hy hxy Hgt.out)
            have hset1 := Hown.out.setInt (k := p + 1) (by rw [insAt_len, HSl.out]; omega) I2
            have hset2 := hset1.setInt (k := p) (by rw [List.length_set, insAt_len, HSl.out]; omega) I1
            rw [insAt_swap hy] at hset2
            have Hset := Lib.hid hset2
            have c3 : (wr.setCell ⟨g, p + 1, none⟩ (.int .i64 y)).cell? ⟨g, p, none⟩ = some (.int .i64 y) := (hset1.ints_cell (by rw [List.getElem?_set_ne (by omega)]; exact insAt_before hy x)).1
            have f3 : (wr.setCell ⟨g, p + 1, none⟩ (.int .i64 y)).frozen? ⟨g, p, none⟩ = false := (hset1.ints_cell (by rw [List.getElem?_set_ne (by omega)]; exact insAt_before hy x)).2.1
            have hgB := hg.1
            have hz : ((p : Int) + 1) - 1 = (p : Int) := by omega
            clear hy hps hset1 hset2 Hown Hgt hxy
            go_wp2
            go_quiet (fail)
            go_wp2
            go_roundw
            case rel => exact ⟨p, by omega, by go_num, by exact Hset.out, Hmore, ((below_drewN hbel _).setCell (show w.heap.size ≤ (⟨g, p + 1, none⟩ : Addr).block from hgB) _).setCell (show w.heap.size ≤ (⟨g, p, none⟩ : Addr).block from hgB) _, by rw [size_setCell, size_setCell]; exact Hsz.out⟩
            case measure => simp [intOf]
          · have hd1 : decide (y < x) = false := decide_eq_false hxy
            have Hfin := Lib.hid (insAt_done Hd.out hy (by omega) Hgt.out)
            have HO := Lib.hid (show Own 3 IntV (Iv w.heap.size wr.heap.size) wr (.slice (some ⟨g, 0, none⟩) (k + 1) cap) (insD x S) from by rw [Hsz.out, ← Hfin.out]; exact Hown.out)
            clear hy hps hxy
            go_wp2
            go_quiet (fail)
            go_wp2
            go_roundw
            case rel => exact ⟨k + 1, by omega, by go_num, by rw [Hsn.out]; exact HO.out, below_drewN hbel _⟩
            case measure => simp [intOf]; omega
    · have e : k = xs.length := by omega
      have He := Lib.hid (show sortD (xs.take k) = sortD xs from by rw [e, List.take_length])
      have Hown := Lib.hid hown
      clear e hown
      go_wp2
      go_ret
      exact ⟨_, rfl, by rw [← He.out]; exact Hown.out, hbel⟩
end Go.Proofs.YtlmjpmdkifoekaaDoor

namespace Go.Proofs.YtlmjpmdkifoekaaDoor
open Go.RowKit

theorem Sl.pre {α : Type} {R : RepT α} {S : Bk} {w : World} {a : Option Addr} {n c : Nat} {xs : List α} (h : Sl R S w (.slice a n c) xs) {k : Nat} (hk : k ≤ xs.length) : Sl R S w (.slice a k c) (xs.take k) := by
  obtain ⟨a', cap', he, h1, h2, h3, h4⟩ := h
  simp only [Value.slice.injEq] at he
  obtain ⟨rfl, rfl, rfl⟩ := he
  have hl : (xs.take k).length = k := by rw [List.length_take]; omega
  refine ⟨a, c, by rw [hl], by omega, by omega, h3, fun h0 => ?_⟩
  obtain ⟨b, off, rfl, hb, hc⟩ := h4 (by omega)
  refine ⟨b, off, rfl, hb, fun j x hj => hc j x ?_⟩
  rw [List.getElem?_take] at hj
  split at hj
  · exact hj
  · cases hj
theorem Ints.pre {w : World} {a : Option Addr} {n c : Nat} {xs : List Int} (h : Ints w (.slice a n c) xs) {k : Nat} (hk : k ≤ xs.length) : Ints w (.slice a k c) (xs.take k) := Sl.pre h hk
theorem conjOf_len (xs : List Int) (n : Nat) : (conjOf xs n).length = n := by simp [conjOf]
theorem conjOf_bd {xs : List Int} {n : Nat} : ∀ x ∈ conjOf xs n, 0 ≤ x ∧ x ≤ xs.length := by
  intro x hx
  unfold conjOf at hx
  obtain ⟨i, -, rfl⟩ := List.mem_map.1 hx
  have := List.length_filter_le (fun x => decide ((i : Int) < x)) xs
  omega
theorem conj_small {xs : List Int} {n k : Nat} (h : xs.length ≤ 5) (hn : n ≤ 5) : Small ((conjOf xs n).take k) := by
  refine ⟨by rw [List.length_take, conjOf_len]; omega, fun x hx => ?_⟩
  have := conjOf_bd x (List.mem_of_mem_take hx)
  omega
theorem sortD_small {ys : List Int} {k : Nat} {m : Int} (h : ys.all (inR 0 m) = true) (hm : m ≤ 5) (hl : ys.length ≤ 5) : Small ((sortD ys).take k) := by
  refine ⟨by rw [List.length_take, sortD_len]; omega, fun x hx => ?_⟩
  have h1 : x ∈ ys := (sortD_perm ys).mem_iff.1 (List.mem_of_mem_take hx)
  have := List.all_eq_true.1 h x h1
  rw [inR_iff] at this
  omega
theorem sumsOk_all {xs ys : List Int} (h : sumsOk xs ys = true) : xs.all (inR 0 ys.length) = true ∧ ys.all (inR 0 xs.length) = true := by
  unfold sumsOk at h
  simp only [Bool.and_eq_true] at h
  exact ⟨h.1.1.2, h.1.2⟩
theorem conj_sum {xs ys : List Int} (h : sumsOk xs ys = true) {k : Nat} (hk : k ≤ ys.length) : sumL ((conjOf xs ys.length).take k) = mostL xs k :=
  conj_take (fun x hx => by have := List.all_eq_true.1 (sumsOk_all h).1 x hx; rw [inR_iff] at this; exact this.1) hk
theorem worstK_first {xs ys : List Int} {k : Nat} (h1 : 1 ≤ k) (h2 : k ≤ ys.length) (h : tooMuch xs ys k) (hb : ∀ i, 1 ≤ i → i < k → ¬ tooMuch xs ys i) : worstK xs ys = k := by
  unfold worstK
  have e : (List.range ys.length).find? (fun i => decide (tooMuch xs ys (i + 1))) = some (k - 1) := by
    rw [List.find?_range_eq_some]
    refine ⟨by rw [show k - 1 + 1 = k by omega]; exact decide_eq_true h, List.mem_range.2 (by omega), fun j hj => ?_⟩
    have := hb (j + 1) (by omega) (by omega)
    simp [this]
  rw [e]
  dsimp only
  omega
theorem worst_le (xs ys : List Int) : worst xs ys ≤ ys.length := by
  unfold worst
  split
  · by_cases h : worstK xs ys = 0
    · omega
    · exact (worstK_pos h).2.1
  · omega
theorem small_sum {xs : List Int} (h : Small xs) (hl : xs.length ≤ 5) : -5242880 ≤ sumL xs ∧ sumL xs ≤ 5242880 := by
  have := sumL_small h xs.length (Nat.le_refl _)
  rw [List.take_length] at this
  omega
set_option maxHeartbeats 1000000 in
set_option maxRecDepth 100000 in
theorem SumsOk_s (v v2 : Value) (xs ys : List Int) (w : World) (hv : Ints w v xs) (hv2 : Ints w v2 ys) : Calls Tryd.prog 111 #[v, v2] w fun e w' => e = .returned (.bool (sumsOk xs ys)) ∧ w = w' := by
  have Hv := Lib.hid hv
  have Hv2 := Lib.hid hv2
  obtain ⟨a, cap, rfl, -, hle, -, hc⟩ := hv
  obtain ⟨a2, cap2, rfl, -, hle2, -, hc2⟩ := hv2
  cases hs : (inR 1 5 xs.length && inR 1 5 ys.length)
  · have Hf := Lib.hid (show sumsOk xs ys = false from by unfold sumsOk; rw [hs]; rfl)
    have Hs := Lib.hid hs; clear hs
    go_enter Tryd.func111, Tryd.ntmps111
    go_wp2_with (fail)
    refine (l03Size_c _ _ _).mono ?_
    rintro e w' ⟨rfl, rfl⟩
    rw [Hs.out]
    go_wp2
    go_ret
    exact ⟨retB Hf.out.symm, rfl⟩
  have hs' := hs
  rw [Bool.and_eq_true, inR_iff, inR_iff] at hs'
  obtain ⟨⟨h1, h2⟩, h3, h4⟩ := hs'
  have Hs := Lib.hid hs; clear hs
  go_enter Tryd.func111, Tryd.ntmps111
  go_wp2_with (fail)
  refine (l03Size_c _ _ _).mono ?_
  rintro e w' ⟨rfl, rfl⟩
  rw [Hs.out]
  go_wp2
  go_loopw [17] (fun i wr => ∃ k : Nat, k ≤ xs.length ∧ i = .int .i64 k ∧ Hid (∀ x ∈ xs.take k, inR 0 (ys.length : Int) x = true) ∧ w = wr) (fun i _ => xs.length - (intOf i).toNat)
  case atStart => exact ⟨0, Nat.zero_le _, rfl, (by intro x hx; simp at hx), rfl⟩
  case round =>
    obtain ⟨k, hk, rfl, Hall, rfl⟩ := hrel
    by_cases hlt : k < xs.length
    · obtain ⟨b, off, rfl, hb, hcc⟩ := hc (by omega)
      obtain ⟨x, hx⟩ : ∃ x, xs[k]? = some x := ⟨_, List.getElem?_eq_getElem hlt⟩
      obtain ⟨u, hck, rfl, -⟩ := hcc k x hx
      have Hx := Lib.hid hx
      clear hcc hx hc
      cases hin : inR 0 (ys.length : Int) x
      · have Hin := Lib.hid hin
        have Hf := Lib.hid (show sumsOk xs ys = false from by
          cases hh : sumsOk xs ys
          · rfl
          · have := List.all_eq_true.1 (sumsOk_all hh).1 x (List.mem_of_getElem? Hx.out)
            rw [hin] at this; cases this)
        clear hin
        go_wp2_with (fail)
        refine (l01In_c _ _ _ _).mono ?_
        rintro e w' ⟨rfl, rfl⟩
        rw [Hin.out]
        go_wp2
        go_ret
        exact ⟨retB Hf.out.symm, rfl⟩
      · have Hin := Lib.hid hin
        clear hin
        have Hall2 := Lib.hid (show ∀ z ∈ xs.take (k + 1), inR 0 (ys.length : Int) z = true from by
          intro z hz
          rw [List.take_add_one, Hx.out] at hz
          rcases List.mem_append.1 hz with h | h
          · exact Hall.out z h
          · simp at h; rw [h]; exact Hin.out)
        go_wp2_with (fail)
        refine (l01In_c _ _ _ _).mono ?_
        rintro e w' ⟨rfl, rfl⟩
        rw [Hin.out]
        go_wp2
        go_roundw
        case rel => exact ⟨k + 1, by omega, by go_num, Hall2, by first | rfl | trivial⟩
        case measure => simp [intOf]; omega
    · have Hax := Lib.hid (show xs.all (inR 0 (ys.length : Int)) = true from by
        rw [List.all_eq_true]
        have h := Hall.out
        rw [List.take_of_length_le (by omega)] at h
        exact h)
      clear Hall
      go_wp2
      go_loopw [29] (fun i wr => ∃ k : Nat, k ≤ ys.length ∧ i = .int .i64 k ∧ Hid (∀ x ∈ ys.take k, inR 0 (xs.length : Int) x = true) ∧ w = wr) (fun i _ => ys.length - (intOf i).toNat)
      case atStart => exact ⟨0, Nat.zero_le _, rfl, (by intro x hx; simp at hx), rfl⟩
      case round =>
        obtain ⟨k, hk, rfl, Hall, rfl⟩ := hrel
        by_cases hlt : k < ys.length
        · obtain ⟨b, off, rfl, hb, hcc⟩ := hc2 (by omega)
          obtain ⟨x, hx⟩ : ∃ x, ys[k]? = some x := ⟨_, List.getElem?_eq_getElem hlt⟩
          obtain ⟨u, hck, rfl, -⟩ := hcc k x hx
          have Hx := Lib.hid hx
          clear hcc hx hc2
          cases hin : inR 0 (xs.length : Int) x
          · have Hin := Lib.hid hin
            have Hf := Lib.hid (show sumsOk xs ys = false from by
              cases hh : sumsOk xs ys
              · rfl
              · have := List.all_eq_true.1 (sumsOk_all hh).2 x (List.mem_of_getElem? Hx.out)
                rw [hin] at this; cases this)
            clear hin
            go_wp2_with (fail)
            refine (l01In_c _ _ _ _).mono ?_
            rintro e w' ⟨rfl, rfl⟩
            rw [Hin.out]
            go_wp2
            go_ret
            exact ⟨retB Hf.out.symm, rfl⟩
          · have Hin := Lib.hid hin
            clear hin
            have Hall2 := Lib.hid (show ∀ z ∈ ys.take (k + 1), inR 0 (xs.length : Int) z = true from by
              intro z hz
              rw [List.take_add_one, Hx.out] at hz
              rcases List.mem_append.1 hz with h | h
              · exact Hall.out z h
              · simp at h; rw [h]; exact Hin.out)
            go_wp2_with (fail)
            refine (l01In_c _ _ _ _).mono ?_
            rintro e w' ⟨rfl, rfl⟩
            rw [Hin.out]
            go_wp2
            go_roundw
            case rel => exact ⟨k + 1, by omega, by go_num, Hall2, by first | rfl | trivial⟩
            case measure => simp [intOf]; omega
        · have hay : ys.all (inR 0 (xs.length : Int)) = true := by
            rw [List.all_eq_true]
            have h := Hall.out
            rw [List.take_of_length_le (by omega)] at h
            exact h
          have hsx := small_of_all Hax.out (by omega) (by omega)
          have hsy := small_of_all hay (by omega) (by omega)
          have Hr := Lib.hid (show sumsOk xs ys = decide (sumL xs = sumL ys) from by unfold sumsOk; rw [Hs.out, Hax.out, hay]; rfl)
          have HV := Lib.hid (show Ints w (.slice a xs.length cap) xs from Hv.out)
          have HV2 := Lib.hid (show Ints w (.slice a2 ys.length cap2) ys from Hv2.out)
          clear hay Hall
          go_wp2_with (fail)
          refine (l03Total_c _ _ _ HV.out hsx).mono ?_
          rintro e w' ⟨rfl, rfl⟩
          go_wp2_with (fail)
          refine (l03Total_c _ _ _ HV2.out hsy).mono ?_
          rintro e w' ⟨rfl, rfl⟩
          go_wp2
          go_ret
          exact ⟨retB (by rw [Hr.out, Bool.eq_iff_iff]; simp), rfl⟩
set_option maxHeartbeats 1000000 in
set_option maxRecDepth 100000 in
theorem l04Gap_c (v v2 : Value) (xs ys : List Int) (k : Nat) (w : World) (hv : Ints w v xs) (hv2 : Ints w v2 ys) (hok : sumsOk xs ys = true) (h1 : 1 ≤ k) (hk : k ≤ ys.length) : Calls Tryd.prog 157 #[v, v2, .int .i64 k] w fun e w' => e = .returned (.int .i64 (mostL xs k - sumL ((sortD ys).take k))) ∧ Below w.heap.size w w' := by
  obtain ⟨x1, x5, y1, y5, -, -, -⟩ := sumsOk_bd hok
  obtain ⟨ax, ay⟩ := sumsOk_all hok
  have Hv := Lib.hid hv
  have Hv2 := Lib.hid hv2
  have Hm := Lib.hid (conj_sum hok hk)
  have hsx := conj_small (k := k) x5 y5
  have hsy := sortD_small (k := k) ay (by omega) y5
  have Hsx := Lib.hid hsx
  have Hsy := Lib.hid hsy
  have Hax := Lib.hid ax
  obtain ⟨a, cap, rfl, -⟩ := hv
  obtain ⟨a2, cap2, rfl, -⟩ := hv2
  clear hok ax ay hsx hsy
  go_enter Tryd.func157, Tryd.ntmps157
  go_wp2_with (fail)
  refine (ConjugateOf_s _ xs ys.length _ Hv.out y1 y5 x5 Hax.out).mono ?_
  rintro e w1 ⟨v1, rfl, o1, b1⟩
  obtain ⟨g, c1, rfl, -, hc1, -, -⟩ := o1.inv_ne (by rw [conjOf_len]; omega)
  rw [conjOf_len] at hc1 ⊢
  have ho1 := o1.ints
  rw [conjOf_len] at ho1
  have Ho1 := Lib.hid (ho1.pre (k := k) (by rw [conjOf_len]; exact hk))
  have hkc : k ≤ c1 := by omega
  clear o1 ho1
  go_wp2_with (fail)
  refine (l03Total_c _ _ _ Ho1.out Hsx.out).mono ?_
  rintro e w' ⟨rfl, rfl⟩
  rw [Hm.out]
  go_wp2_with (fail)
  refine (SortedDown_s _ ys _ (Hv2.out.keep b1) (by omega)).mono ?_
  rintro e w2 ⟨v2, rfl, o2, b2⟩
  obtain ⟨g2, c2, rfl, -, hc2, -, -⟩ := o2.inv_ne (by rw [sortD_len]; omega)
  rw [sortD_len] at hc2 ⊢
  have ho2 := o2.ints
  rw [sortD_len] at ho2
  have Ho2 := Lib.hid (ho2.pre (k := k) (by rw [sortD_len]; exact hk))
  have hkc2 : k ≤ c2 := by omega
  clear o2 ho2
  go_wp2_with (fail)
  refine (l03Total_c _ _ _ Ho2.out Hsy.out).mono ?_
  rintro e w' ⟨rfl, rfl⟩
  have bb := b1.trans_pure b2 (Nat.le_refl _)
  have B1 := small_sum Hsx.out (by rw [List.length_take, conjOf_len]; omega)
  have B2 := small_sum Hsy.out (by rw [List.length_take, sortD_len]; omega)
  rw [Hm.out] at B1
  go_wp2
  go_ret
  exact ⟨retI (by go_num), bb⟩
set_option maxHeartbeats 1000000 in
set_option maxRecDepth 100000 in
theorem WorstColumns_s (v v2 : Value) (xs ys : List Int) (w : World) (hv : Ints w v xs) (hv2 : Ints w v2 ys) : Calls Tryd.prog 145 #[v, v2] w fun e w' => e = .returned (.int .i64 (worst xs ys)) ∧ Below w.heap.size w w' := by
  have Hv := Lib.hid hv
  have Hv2 := Lib.hid hv2
  obtain ⟨a, cap, rfl, -⟩ := hv
  obtain ⟨a2, cap2, rfl, -⟩ := hv2
  cases hok : sumsOk xs ys
  · have Hok := Lib.hid hok
    have Hr := Lib.hid (show worst xs ys = 0 from by unfold worst; rw [hok]; rfl)
    clear hok
    go_enter Tryd.func145, Tryd.ntmps145
    go_wp2_with (fail)
    refine (SumsOk_s _ _ _ _ _ Hv.out Hv2.out).mono ?_
    rintro e w' ⟨rfl, rfl⟩
    rw [Hok.out]
    go_wp2
    go_ret
    exact ⟨retI (by rw [Hr.out]; rfl), Below.refl _ _⟩
  have Hr := Lib.hid (show worst xs ys = worstK xs ys from by unfold worst; rw [hok]; rfl)
  obtain ⟨x1, x5, y1, y5, -, -, -⟩ := sumsOk_bd hok
  have Hok := Lib.hid hok
  clear hok
  go_enter Tryd.func145, Tryd.ntmps145
  go_wp2_with (fail)
  refine (SumsOk_s _ _ _ _ _ Hv.out Hv2.out).mono ?_
  rintro e w' ⟨rfl, rfl⟩
  rw [Hok.out]
  go_wp2
  go_loopw [5] (fun i wr => ∃ k : Nat, 1 ≤ k ∧ k ≤ ys.length + 1 ∧ i = .int .i64 k ∧ Hid (∀ i, 1 ≤ i → i < k → ¬ tooMuch xs ys i) ∧ Below w.heap.size w wr) (fun i _ => (ys.length + 1 - intOf i).toNat)
  case atStart => exact ⟨1, Nat.le_refl _, by omega, rfl, (by intro i h1 h2; omega), Below.refl _ _⟩
  case round =>
    obtain ⟨k, hk1, hk, rfl, Hno, hbel⟩ := hrel
    by_cases hle : k ≤ ys.length
    · have hd : decide ((k : Int) ≤ (ys.length : Int)) = true := by rw [decide_eq_true_eq]; omega
      go_wp2_with (fail)
      refine (l04Gap_c _ _ xs ys k _ (Hv.out.keep hbel) (Hv2.out.keep hbel) Hok.out hk1 hle).mono ?_
      rintro e w2 ⟨rfl, b2⟩
      have hb2 := hbel.trans_pure b2 (Nat.le_refl _)
      obtain ⟨z, hz⟩ : ∃ z, z = mostL xs k - sumL ((sortD ys).take k) := ⟨_, rfl⟩
      rw [← hz]
      by_cases hlt : z < 0
      · have Hw := Lib.hid (worstK_first hk1 hle (by unfold tooMuch; omega) Hno.out)
        clear hz
        go_wp2
        go_ret
        exact ⟨retI (by rw [Hr.out, Hw.out]), hb2⟩
      · have Hno2 := Lib.hid (show ∀ i, 1 ≤ i → i < k + 1 → ¬ tooMuch xs ys i from by
          intro i h1 h2
          by_cases e : i = k
          · rw [e]; unfold tooMuch; omega
          · exact Hno.out i h1 (by omega))
        clear hz
        go_wp2
        go_roundw
        case rel => exact ⟨k + 1, by omega, by omega, by go_num, Hno2, hb2⟩
        case measure => simp [intOf]; omega
    · have hd : decide ((k : Int) ≤ (ys.length : Int)) = false := by rw [decide_eq_false_iff_not]; omega
      have Hw := Lib.hid (show worstK xs ys = 0 from worstK_zero.2 fun i h1 h2 => Hno.out i h1 (by omega))
      go_wp2
      go_ret
      exact ⟨retI (by rw [Hr.out, Hw.out]; rfl), hbel⟩
set_option maxHeartbeats 1000000 in
theorem Exists_s (v v2 : Value) (xs ys : List Int) (w : World) (hv : Ints w v xs) (hv2 : Ints w v2 ys) : Calls Tryd.prog 133 #[v, v2] w fun e w' => e = .returned (.bool (existsB xs ys)) ∧ Below w.heap.size w w' := by
  have Hv := Lib.hid hv
  have Hv2 := Lib.hid hv2
  obtain ⟨a, cap, rfl, -⟩ := hv
  obtain ⟨a2, cap2, rfl, -⟩ := hv2
  cases hok : sumsOk xs ys
  · have Hr := Lib.hid (show existsB xs ys = false from by unfold existsB; rw [hok]; rfl)
    have Hok := Lib.hid hok
    clear hok
    go_enter Tryd.func133, Tryd.ntmps133
    go_wp2_with (first | (go_at_call 111; refine (SumsOk_s _ _ _ _ _ Hv.out Hv2.out).mono ?_; rintro e w' ⟨rfl, rfl⟩; rw [Hok.out]))
    go_ret
    exact ⟨retB (by rw [Hr.out]), Below.refl _ _⟩
  · have Hr := Lib.hid (show existsB xs ys = decide (worst xs ys = 0) from by unfold existsB; rw [hok]; rfl)
    have hwl := worst_le xs ys
    obtain ⟨x1, x5, y1, y5, -, -, -⟩ := sumsOk_bd hok
    obtain ⟨z, hz⟩ : ∃ z, z = worst xs ys := ⟨_, rfl⟩
    rw [← hz] at hwl
    have Hz := Lib.hid hz
    have Hok := Lib.hid hok
    clear hok hz
    by_cases h0 : z = 0
    · have hb : ((z : Int) == 0) = true := by rw [beq_iff_eq]; omega
      go_enter Tryd.func133, Tryd.ntmps133
      go_wp2_with (first | (go_at_call 111; refine (SumsOk_s _ _ _ _ _ Hv.out Hv2.out).mono ?_; rintro e w' ⟨rfl, rfl⟩; rw [Hok.out]) | (go_at_call 145; refine (WorstColumns_s _ _ _ _ _ Hv.out Hv2.out).mono ?_; rintro e w2 ⟨rfl, b2⟩; rw [← Hz.out]))
      go_ret
      exact ⟨retB (by rw [Hr.out, ← Hz.out, h0]; rfl), b2⟩
    · have hb : ((z : Int) == 0) = false := by rw [beq_eq_false_iff_ne]; omega
      go_enter Tryd.func133, Tryd.ntmps133
      go_wp2_with (first | (go_at_call 111; refine (SumsOk_s _ _ _ _ _ Hv.out Hv2.out).mono ?_; rintro e w' ⟨rfl, rfl⟩; rw [Hok.out]) | (go_at_call 145; refine (WorstColumns_s _ _ _ _ _ Hv.out Hv2.out).mono ?_; rintro e w2 ⟨rfl, b2⟩; rw [← Hz.out]))
      go_ret
      exact ⟨retB (by rw [Hr.out, ← Hz.out, decide_eq_false h0]), b2⟩
end Go.Proofs.YtlmjpmdkifoekaaDoor

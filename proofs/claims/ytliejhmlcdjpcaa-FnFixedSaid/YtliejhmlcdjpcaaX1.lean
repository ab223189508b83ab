/- Contracts: ConjugateOf. -/
import Derived.Test.YtliejhmlcdjpcaaGR
import Derived.Test.YtliejhmlcdjpcaaC3
import Derived.Test.YtliejhmlcdjpcaaMem2
namespace Go.Proofs.Ytliejhmlcdjpcaa
open Go.RowKit

/-- the conjugate of the first k numbers, and the first j of its numbers one greater -/
def conjTo (xs : List Int) (n k j : Nat) : List Int := (List.range n).map fun i : Nat => (((xs.take k).filter fun x => decide ((i : Int) < x)).length : Int) + if i < j then 1 else 0
theorem conjTo_zero (xs : List Int) (n k : Nat) : conjTo xs n k 0 = conjOf (xs.take k) n := by
  unfold conjTo conjOf
  exact List.map_congr_left fun i _ => by simp
theorem conjTo_start (xs : List Int) (n : Nat) : conjTo xs n 0 0 = List.replicate n 0 := by
  unfold conjTo
  simp [List.map_const']
theorem conjTo_len (xs : List Int) (n k j : Nat) : (conjTo xs n k j).length = n := by simp [conjTo]
theorem conjTo_next {xs : List Int} {n k : Nat} {x : Int} (hx : xs[k]? = some x) (h0 : 0 ≤ x) : conjTo xs n k x.toNat = conjTo xs n (k + 1) 0 := by
  unfold conjTo
  refine List.map_congr_left fun i _ => ?_
  rw [List.take_add_one, hx, List.filter_append, List.length_append]
  simp only [Option.toList_some, List.filter_cons, List.filter_nil]
  by_cases h : (i : Int) < x
  · rw [if_pos (by omega)]; simp [h]
  · rw [if_neg (by omega)]; simp [h]
theorem conjTo_at {xs : List Int} {n k j i : Nat} (hi : i < n) : ∃ z : Int, (conjTo xs n k j)[i]? = some z ∧ 0 ≤ z ∧ z ≤ xs.length + 1 := by
  unfold conjTo
  rw [List.getElem?_map, List.getElem?_range hi]
  refine ⟨_, rfl, ?_, ?_⟩
  · show (0 : Int) ≤ _ + _
    split <;> omega
  · have h1 := List.length_filter_le (fun x => decide ((i : Int) < x)) (xs.take k)
    have h2 : (xs.take k).length ≤ xs.length := by rw [List.length_take]; omega
    show (_ + _ : Int) ≤ _
    split <;> omega
theorem conjTo_set {xs : List Int} {n k j : Nat} {z : Int} (hz : (conjTo xs n k j)[j]? = some z) : (conjTo xs n k j).set j (z + 1) = conjTo xs n k (j + 1) := by
  have hj := (List.getElem?_eq_some_iff.1 hz).1
  rw [conjTo_len] at hj
  apply List.ext_getElem?
  intro i
  rw [List.getElem?_set]
  by_cases hi : j = i
  · subst hi
    rw [if_pos rfl, if_pos (by rw [conjTo_len]; exact hj)]
    unfold conjTo at hz ⊢
    rw [List.getElem?_map, List.getElem?_range hj] at hz ⊢
    simp only [Option.map_some, Option.some.injEq] at hz ⊢
    rw [if_neg (by omega)] at hz
    rw [if_pos (by omega)]; omega
  · rw [if_neg hi]
    unfold conjTo
    rw [List.getElem?_map, List.getElem?_map]
    cases hr : (List.range n)[i]? with
    | none => rfl
    | some i' =>
      have : i' = i := by
        have h1 := (List.getElem?_eq_some_iff.1 hr).1
        rw [List.length_range] at h1
        rw [List.getElem?_range h1] at hr
        exact (Option.some.inj hr).symm
      subst this
      simp only [Option.map_some, Option.some.injEq]
      have : (i' < j) ↔ (i' < j + 1) := by omega
      simp only [this]
theorem all_at {xs : List Int} {lo hi : Int} (h : xs.all (inR lo hi) = true) {k : Nat} {x : Int} (hx : xs[k]? = some x) : lo ≤ x ∧ x ≤ hi := by
  have := List.all_eq_true.1 h x (List.mem_of_getElem? hx)
  rwa [inR_iff] at this
set_option maxHeartbeats 1000000 in
theorem ConjugateOf_s (v : Value) (xs : List Int) (n : Nat) (w : World) (hv : Ints w v xs) (h1 : 1 ≤ n) (h5 : n ≤ 5) (hl : xs.length ≤ 5) (hall : xs.all (inR 0 n) = true) : Calls Try.prog 107 #[v, .int .i64 n] w (New 3 IntV w (conjOf xs n)) := by
  have Hv := Lib.hid hv
  have Hall := Lib.hid hall
  have Hr := Lib.hid (show inR 1 5 (n : Int) = true from inR_t (by omega) (by omega))
  obtain ⟨a, cap0, rfl, -, hle, -, hc⟩ := hv
  clear hall
  go_enter Try.func107, Try.ntmps107
  go_wp2_with (first | (go_at_call 92; refine (l01In_c _ _ _ _).mono ?_; rintro e w' ⟨rfl, rfl⟩; rw [Hr.out]) | (at_make; refine wpList_mk _ rfl _ _ 25 rfl 3 Try.underlying25 infoInt rfl (by decide) (R := IntV) 0 ⟨rfl, I64.small (by decide) (by decide)⟩ rIntV n rfl rfl (by omega) ?_; intro w1 hown1 hbel1 hsz1; have Hsz1 := Lib.hid hsz1; clear hsz1))
  have hown1 := hown1.point rIntV (Nat.le_refl w.heap.size) (show w.heap.size < w1.heap.size by rw [Hsz1.out]; omega)
  obtain ⟨g, cap, hg0, hg, hcap, hgs, -⟩ := hown1.inv_ne (by simp; omega)
  rw [List.length_replicate] at hg0 hcap
  obtain ⟨rfl, rfl⟩ : w.heap.size = g ∧ n = cap := by simpa using hg0
  have Hown := Lib.hid (show Own 3 IntV (Iv w.heap.size w1.heap.size) w1 (.slice (some ⟨w.heap.size, 0, none⟩) n n) (conjTo xs n 0 0) from by rw [conjTo_start]; exact hown1)
  clear hown1
  go_wp2
  go_loopw [21] (fun i wr => ∃ k : Nat, k ≤ xs.length ∧ i = .int .i64 k ∧ Hid (Own 3 IntV (Iv w.heap.size w1.heap.size) wr (.slice (some ⟨w.heap.size, 0, none⟩) n n) (conjTo xs n k 0)) ∧ Below w.heap.size w wr ∧ wr.heap.size = w1.heap.size) (fun i _ => xs.length - (intOf i).toNat)
  case atStart => exact ⟨0, Nat.zero_le _, rfl, Hown, hbel1, rfl⟩
  case round =>
    clear Hown hbel1
    obtain ⟨k, hk, rfl, Hown, hbel, hsz⟩ := hrel
    have Hsz := Lib.hid hsz
    clear hsz
    by_cases hlt : k < xs.length
    · obtain ⟨b, off, rfl, hb, hcc⟩ := hc (by omega)
      obtain ⟨x, hx⟩ : ∃ x, xs[k]? = some x := ⟨_, List.getElem?_eq_getElem hlt⟩
      obtain ⟨u, hck, rfl, -⟩ := hcc k x hx
      rw [← hbel.cell (p := ⟨b, off + k, none⟩) hb] at hck
      obtain ⟨hx0, hxn⟩ := all_at Hall.out hx
      have Hnext := Lib.hid (conjTo_next (n := n) hx hx0)
      have Hrx := Lib.hid (show inR 0 (n : Int) x = true from inR_t hx0 hxn)
      clear hcc hx hc
      go_wp2_with (fail)
      refine (l01In_c _ _ _ _).mono ?_
      rintro e w' ⟨rfl, rfl⟩
      rw [Hrx.out]
      go_wp2
      go_loopw [8] (fun j wi => ∃ j' : Nat, (j' : Int) ≤ x ∧ j = .int .i64 j' ∧ Hid (Own 3 IntV (Iv w.heap.size w1.heap.size) wi (.slice (some ⟨w.heap.size, 0, none⟩) n n) (conjTo xs n k j')) ∧ Below w.heap.size w wi ∧ wi.heap.size = w1.heap.size) (fun j _ => (x - intOf j).toNat)
      case atStart => exact ⟨0, hx0, rfl, Hown, hbel, Hsz.out⟩
      case round =>
        clear Hown hbel Hsz hck
        obtain ⟨j, hj, rfl, Hown, hbel, hsz⟩ := hrel
        have Hsz := Lib.hid hsz
        clear hsz
        by_cases hltj : (j : Int) < x
        · have hjn : j < n := by omega
          obtain ⟨z, hz, hz0, hz1⟩ := conjTo_at (xs := xs) (k := k) (j := j) hjn
          obtain ⟨hcj, hfj, -⟩ := Hown.out.ints_cell hz
          have Hset := Lib.hid (show Own 3 IntV (Iv w.heap.size w1.heap.size) (wr.setCell ⟨w.heap.size, j, none⟩ (.int .i64 (z + 1))) (.slice (some ⟨w.heap.size, 0, none⟩) n n) (conjTo xs n k (j + 1)) from by
            have h := Hown.out.setInt (k := j) (by rw [conjTo_len]; exact hjn) (c := z + 1) (I64.small (by omega) (by omega))
            rwa [conjTo_set hz] at h)
          have hgB := hg.1
          clear hz Hown
          go_wp2
          go_roundw
          case rel => exact ⟨j + 1, by omega, by go_num, Hset, hbel.setCell hgB _, by rw [size_setCell]; exact Hsz.out⟩
          case measure => simp [intOf]; omega
        · have e : x.toNat = j := by omega
          have He := Lib.hid (show conjTo xs n (k + 1) 0 = conjTo xs n k j from by rw [← Hnext.out, e])
          clear e
          go_wp2
          go_roundw
          case rel => exact ⟨k + 1, by omega, by go_num, by rw [He.out]; exact Hown, hbel, Hsz.out⟩
          case measure => simp [intOf]; omega
    · have e : k = xs.length := by omega
      have He := Lib.hid (show conjTo xs n k 0 = conjOf xs n from by rw [conjTo_zero, e, List.take_length])
      clear e
      go_wp2
      go_ret
      exact ⟨_, rfl, by rw [← He.out, Hsz.out]; exact Hown.out, hbel⟩
end Go.Proofs.Ytliejhmlcdjpcaa

/- Contracts: sizes and copies of slices of slices. -/
import Derived.Test.YtekgnpdchpdfiaaC4
namespace Go.Proofs.Ytekgnpdchpdfiaa
open Go.RowKit

theorem set_copy' {α : Type} {xs : List α} {z : α} {k : Nat} {x : α} (h : xs[k]? = some x) : (xs.take k ++ List.replicate (xs.length - k) z).set k x = xs.take (k + 1) ++ List.replicate (xs.length - (k + 1)) z := by
  obtain ⟨hk, hx⟩ := List.getElem?_eq_some_iff.1 h
  obtain ⟨d, hd⟩ : ∃ d, xs.length - k = d + 1 := ⟨xs.length - k - 1, by omega⟩
  rw [hd, show xs.length - (k + 1) = d from by omega, List.set_append_right _ _ (by simp; omega), List.length_take, Nat.min_eq_left (Nat.le_of_lt hk), Nat.sub_self, List.replicate_succ, List.set_cons_zero, List.take_succ_eq_append_getElem hk, hx]
  simp

/-- what is left of a size -/
def leftOf (n : Nat) (left : Int) : Int := if (n : Int) ≤ left then left - n else -1
theorem szIntS_c (v : Value) (xs : List Int) (left : Int) (w : World) (hv : Ints w v xs) (h0 : 0 ≤ left) (h1 : left ≤ 1048576) : Calls Try.prog 62 #[v, .int .i64 left] w fun e w' => e = .returned (.int .i64 (leftOf xs.length left)) ∧ w = w' := by
  obtain ⟨a, cap, rfl, hcap, hle, -, hc⟩ := hv
  by_cases h : (xs.length : Int) ≤ left
  · have hr := Lib.hid (show leftOf xs.length left = left - xs.length from by simp [leftOf, h])
    go_enter Try.func62, Try.ntmps62
    go_wp2
    go_ret
    exact ⟨retI hr.out.symm, rfl⟩
  · have hr := Lib.hid (show leftOf xs.length left = -1 from by simp [leftOf, h])
    go_enter Try.func62, Try.ntmps62
    go_wp2
    go_ret
    exact ⟨retI hr.out.symm, rfl⟩
/-- how large a grid is -/
def bulk (g : List (List Int)) : Nat := g.length + cells g
theorem szIntSS_c (v : Value) (xs : List (List Int)) (left : Int) (w : World) (hv : Grid w v xs) (h0 : 0 ≤ left) (h1 : left ≤ 1048576) : Calls Try.prog 25 #[v, .int .i64 left] w fun e w' => e = .returned (.int .i64 (leftOf (bulk xs) left)) ∧ w = w' := by
  obtain ⟨a, cap, rfl, hcap, hle, -, hc⟩ := hv
  by_cases h : (xs.length : Int) ≤ left
  · go_enter Try.func25, Try.ntmps25
    go_wp2
    go_loop [1, 5] (fun m i => ∃ k : Nat, k ≤ xs.length ∧ i = .int .i64 k ∧ (xs.length : Int) + cells (xs.take k) ≤ left ∧ m = .int .i64 (left - xs.length - cells (xs.take k))) (fun _ i => xs.length - (intOf i).toNat)
    case atStart => exact ⟨0, Nat.zero_le _, rfl, by simpa [cells] using h, by simp [cells]⟩
    case round =>
      obtain ⟨k, hk, rfl, hle2, rfl⟩ := hrel
      have hcl := cells_take_le xs k
      by_cases hlt : k < xs.length
      · obtain ⟨r, hr⟩ : ∃ r, xs[k]? = some r := ⟨_, List.getElem?_eq_getElem hlt⟩
        obtain ⟨b, off, rfl, -, hc'⟩ := hc (by omega)
        obtain ⟨u, hck, hu⟩ := hc' k _ hr
        have hu : Ints w u r := hu
        have hct := cells_take hr
        have hcl2 := cells_take_le xs (k + 1)
        have Hct := Lib.hid hct
        by_cases hfit : (r.length : Int) ≤ left - xs.length - cells (xs.take k)
        · have hcall := szIntS_c u r (left - xs.length - cells (xs.take k)) w hu (by omega) (by omega)
          rw [show leftOf r.length (left - xs.length - cells (xs.take k)) = left - xs.length - cells (xs.take k) - r.length from by simp [leftOf, hfit]] at hcall
          have Hcall := Lib.hid hcall
          have hpos : 0 ≤ left - (xs.length : Int) - cells (xs.take k) - r.length := by omega
          clear hc hc' hr hct hu hcall
          go_wp2_with (fail)
          refine Hcall.out.mono ?_
          rintro e w' ⟨rfl, rfl⟩
          go_wp2
          go_round
          case rel => exact ⟨k + 1, by omega, by go_num, by rw [Hct.out]; omega, by rw [Hct.out]; congr 1; omega⟩
          case measure => simp [intOf]; omega
        · have hcall := szIntS_c u r (left - xs.length - cells (xs.take k)) w hu (by omega) (by omega)
          rw [show leftOf r.length (left - xs.length - cells (xs.take k)) = -1 from by simp [leftOf, hfit]] at hcall
          have Hcall := Lib.hid hcall
          have hbig : leftOf (bulk xs) left = -1 := by unfold leftOf bulk; rw [if_neg (by omega)]
          have Hbig := Lib.hid hbig
          clear hc hc' hr hct hu hcall hbig
          go_wp2_with (fail)
          refine Hcall.out.mono ?_
          rintro e w' ⟨rfl, rfl⟩
          go_wp2
          go_ret
          exact ⟨retI Hbig.out.symm, rfl⟩
      · obtain rfl : k = xs.length := by omega
        rw [List.take_length] at hle2 ⊢
        have hr := Lib.hid (show leftOf (bulk xs) left = left - xs.length - cells xs from by unfold leftOf bulk; rw [if_pos (by omega)]; omega)
        go_wp2
        go_ret
        exact ⟨retI hr.out.symm, rfl⟩
  · have hr := Lib.hid (show leftOf (bulk xs) left = -1 from by unfold leftOf bulk; rw [if_neg (by omega)])
    go_enter Try.func25, Try.ntmps25
    go_wp2
    go_ret
    exact ⟨retI hr.out.symm, rfl⟩
set_option maxHeartbeats 400000 in
theorem toIntSS_c (v : Value) (xs : List (List Int)) (w : World) (hv : Grid w v xs) (hlen : xs.length ≤ 1048576) (hcl : cells xs ≤ 1048576) : Calls Try.prog 27 #[v] w (New 41 (Own 3 IntV) w xs) := by
  obtain ⟨a, cap, rfl, hcap, -, -, hc⟩ := hv
  go_enter Try.func27, Try.ntmps27
  go_wp2_with (first | (at_make; refine wpList_mk _ rfl _ _ 22 rfl 41 Try.underlying22 infoInts rfl (by decide) (R := Own 3 IntV) [] (Own.nil _ _ _ _) (rOwn rIntV) xs.length rfl rfl (by omega) ?_; intro w1 hown hbel hsz))
  have Hown : Own 41 (Own 3 IntV) (Iv w.heap.size w1.heap.size) w1 (.slice (some ⟨w.heap.size, 0, none⟩) xs.length xs.length) (xs.take 0 ++ List.replicate (xs.length - 0) []) := by simpa using hown.point (rOwn rIntV) (Nat.le_refl _) (by omega)
  clear hown hsz
  go_loopw [4] (fun i wr => ∃ k : Nat, k ≤ xs.length ∧ i = .int .i64 k ∧ Own 41 (Own 3 IntV) (Iv w.heap.size wr.heap.size) wr (.slice (some ⟨w.heap.size, 0, none⟩) xs.length xs.length) (xs.take k ++ List.replicate (xs.length - k) []) ∧ Below w.heap.size w wr) (fun i _ => xs.length - (intOf i).toNat)
  case atStart => exact ⟨0, Nat.zero_le _, rfl, Hown, hbel⟩
  case round =>
    clear Hown hbel
    obtain ⟨k, hk, rfl, hown, hbel⟩ := hrel
    have hBs := hbel.size
    by_cases hlt : k < xs.length
    · obtain ⟨b, off, rfl, hb, hc'⟩ := hc (by omega)
      obtain ⟨x, hx⟩ : ∃ x, xs[k]? = some x := ⟨_, List.getElem?_eq_getElem hlt⟩
      obtain ⟨u, hck, hu⟩ := hc' k x hx
      have hu : Ints w u x := hu
      have hur := hu.keep hbel
      have hct := cells_take hx
      have hcl2 := cells_take_le xs (k + 1)
      have hxl : x.length ≤ 1048576 := by omega
      have hl : (xs.take k ++ List.replicate (xs.length - k) ([] : List Int)).length = xs.length := by simp; omega
      rw [← hbel.cell (p := ⟨b, off + k, none⟩) hb] at hck
      have Hx := Lib.hid hx
      have Hl := Lib.hid hl
      have Hown := Lib.hid hown
      clear hx hc hc' hl hown hu hct
      go_wp2_with (fail)
      refine (toIntS_c _ _ _ hur (by omega)).mono ?_
      rintro e w2 ⟨v2, rfl, hown2, hbel2⟩
      have hs2 := hbel2.size
      obtain ⟨p1, p2, p3, rfl⟩ := hown2.shape
      have hown' := Own.keep (rOwn rIntV) Hown.out hbel2 (Nat.le_refl _)
      obtain ⟨y, hy⟩ : ∃ y, (xs.take k ++ List.replicate (xs.length - k) ([] : List Int))[k]? = some y := ⟨_, List.getElem?_eq_getElem (by rw [Hl.out]; exact hlt)⟩
      obtain ⟨hg, -, -, hf, T, u0, hcell0, -, -, hupd, -⟩ := hown'.focus (rOwn rIntV) hy
      have hnew := hupd _ _ (Iv wr.heap.size w2.heap.size) (Iv w.heap.size w2.heap.size) hown2 (fun b hb => ⟨⟨by have := hb.1; omega, hb.2⟩, by have := hb.1; have := hg.2; omega⟩) (fun b h1 h2 => by have := h1.1; have := h2.2; omega) (fun b h1 => ⟨h1.1, by have := h1.2; omega⟩)
      rw [set_copy' Hx.out] at hnew
      have Hnew := Lib.hid hnew
      have hbelw := hbel.trans_pure hbel2 (Nat.le_refl _)
      clear hown' hy hupd hnew hown2 Hown hg
      go_wp2
      go_roundw
      case rel => exact ⟨k + 1, by omega, by go_num, by rw [size_setCell]; exact Hnew.out, hbelw.setCell (Nat.le_refl _) _⟩
      case measure => simp [intOf]; omega
    · have Hown := Lib.hid hown
      clear hown
      go_wp2
      go_ret
      refine ⟨_, rfl, ?_, hbel⟩
      have h1 := Hown.out
      obtain rfl : k = xs.length := by omega
      simpa using h1
end Go.Proofs.Ytekgnpdchpdfiaa

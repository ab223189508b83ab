/- Contracts of the functions that draw images. -/
import Derived.Test.YtliejhmlcdjpcaaDraw
import Derived.Test.YtliejhmlcdjpcaaImg
import Derived.Deep.RegionWith
namespace Go.Proofs.Ytliejhmlcdjpcaa
open Go.RowKit

/-- the cell (y, x) of an owned grid of integers: where it lies, and what a store there makes of the grid -/
theorem own_grid_cell {E E' : TypeId} {S : Bk} {w : World} {g n cap : Nat} {m : List (List Int)} (h : Own E (Own E' IntV) S w (.slice (some ⟨g, 0, none⟩) n cap) m) {y : Nat} {row : List Int} (hy : m[y]? = some row) (hne : 0 < row.length) :
    ∃ q cq, w.cell? ⟨g, y, none⟩ = some (.slice (some ⟨q, 0, none⟩) row.length cq) ∧ S g ∧ S q ∧ q ≠ g ∧ row.length ≤ cq ∧ (∀ x, x < row.length → (∃ o, w.cell? ⟨q, x, none⟩ = some (.int .i64 o)) ∧ w.frozen? ⟨q, x, none⟩ = false) ∧
      (∀ x o, row[x]? = some o → w.cell? ⟨q, x, none⟩ = some (.int .i64 o)) ∧
      ∀ (w' : World), SameOn S w w' → ∀ (x : Nat) (n' : Int), x < row.length → I64 n' → Own E (Own E' IntV) S (w'.setCell ⟨q, x, none⟩ (.int .i64 n')) (.slice (some ⟨g, 0, none⟩) n cap) (m.set y (row.set x n')) := by
  obtain ⟨hSg, -, -, -, T, u, hu, hr, hT, -, hback⟩ := h.focus (rOwn rIntV) hy
  obtain ⟨q, cq, rfl, hq, hcq, hqs, -⟩ := hr.inv_ne hne
  refine ⟨q, cq, hu, hSg, (hT q hq).1, (hT q hq).2, hcq, fun x hx => ?_, fun x o ho => (hr.ints_cell ho).1, fun w' hs x n' hx hn' => ?_⟩
  · obtain ⟨o, h1, h2⟩ := hr.ints_at hx
    exact ⟨⟨o, h1⟩, h2⟩
  · exact hback _ _ (fun b hb hnb => (Below.heap_setCell w' _ _ b (fun e => by subst e; exact hnb hq)).trans (hs b hb)) (((rOwn rIntV).same (fun b hb => hs b (hT b hb).1) hr).setInt hx hn')

set_option maxHeartbeats 1000000 in
theorem l02Draw_c (B g : Nat) (n : Int) (w : World) (h : Cur B w g) (h1 : 1 ≤ n) (h2 : n ≤ 5) : Calls Try.prog 29 #[.pointer (some ⟨g, 0, none⟩), .int .i64 n] w fun e w' => ∃ (v : Value) (m : List (List Int)) (r c : Nat), e = .returned v ∧ (1 ≤ r ∧ (r : Int) ≤ n) ∧ (1 ≤ c ∧ (c : Int) ≤ n) ∧ Shape r c m ∧ Own 25 (Own 3 IntV) (Iv w.heap.size w'.heap.size) w' v m ∧ Cur B w' g ∧ Only (fun b => b = g) w w' := by
  have hgl := h.lt
  have hBg := h.1
  go_enter Try.func29, Try.ntmps29
  go_wp2_with (fail)
  refine (l01Below_c B g n _ h (by omega) (by omega)).mono ?_
  rintro e w1 ⟨r', ⟨hr0, hr1⟩, rfl, hcur1, ho1, hz1⟩
  have Hz1 := Lib.hid hz1; clear hz1
  go_wp2_with (fail)
  refine (l01Below_c B g n _ hcur1 (by omega) (by omega)).mono ?_
  rintro e w2 ⟨c', ⟨hc0, hc1⟩, rfl, hcur2, ho2, hz2⟩
  have Hz2 := Lib.hid hz2; clear hz2
  obtain ⟨r, rfl⟩ := Int.eq_ofNat_of_zero_le hr0
  obtain ⟨c, rfl⟩ := Int.eq_ofNat_of_zero_le hc0
  go_wp2_with (fail)
  rw [show (1 : Int) + (r : Int) = ((r + 1 : Nat) : Int) from by omega, show (1 : Int) + (c : Int) = ((c + 1 : Nat) : Int) from by omega]
  refine (l02Empty_c (r + 1) (c + 1) _ (by omega) (by omega)).mono ?_
  rintro e w3 ⟨v3, rfl, hown3, hbel3⟩
  have s3 := hbel3.size
  have hcur3 := hcur2.keep hbel3
  have ho3 : Only (fun b => b = g) w w3 := ((ho1.trans' (ho2.mono fun b hb _ => .inl hb))).trans' ((Only.of_pure hbel3 (fun b => b = g)).mono fun b hb _ => .inl hb)
  obtain ⟨G, cap, rfl, hG, hcap, hGs, -⟩ := hown3.inv_ne (by simp [zeros])
  have hlen3 : (zeros (r + 1) (c + 1)).length = r + 1 := by simp [zeros]
  rw [hlen3] at hcap hown3 ⊢
  have Hown3 := Lib.hid hown3
  clear hown3 hlen3
  have hw23 : w.heap.size = w2.heap.size := by rw [Hz1.out, Hz2.out]
  have hG1 := hG.1
  have hG2 := hG.2
  have Hw23 := Lib.hid hw23
  clear hw23
  go_wp2
  go_loopw [6, 7, 19] (fun _ _ i wr => ∃ (k : Nat) (m : List (List Int)), k ≤ r + 1 ∧ i = .int .i64 k ∧ Shape (r + 1) (c + 1) m ∧ Own 25 (Own 3 IntV) (Iv w2.heap.size w3.heap.size) wr (.slice (some ⟨G, 0, none⟩) (r + 1) cap) m ∧ Cur B wr g ∧ Only (fun b => b = g) w wr ∧ w3.heap.size = wr.heap.size) (fun _ _ i _ => r + 1 - (intOf i).toNat)
  case atStart => exact ⟨0, _, Nat.zero_le _, rfl, shape_zeros _ _, Hown3.out, hcur3, ho3, rfl⟩
  case round =>
    clear Hown3 hcur3 ho3
    obtain ⟨k, m, hk, rfl, hsh, hown, hcur, ho, hz⟩ := hrel
    by_cases hlt : k < r + 1
    · obtain ⟨row, hrow, hrl, -⟩ := hsh.row hlt
      have hS : ∀ b, Iv w2.heap.size w3.heap.size b → b < wr.heap.size := fun b hb => by have := hb.2; omega
      obtain ⟨q, cq, hcell, -, hq, hqg, hcq, -⟩ := own_grid_cell hown hrow (by omega)
      rw [hrl] at hcell hcq
      have Hz := Lib.hid hz
      have Hown := Lib.hid hown
      have Hrow := Lib.hid hrow
      have Hrl := Lib.hid hrl
      have HS := Lib.hid hS
      clear hz hown hrow hrl hS
      have hdec : decide ((k : Int) < (r : Int) + 1) = true := by simp; omega
      go_wp2
      obtain ⟨wo, hwo⟩ : ∃ wo : World, wo = wr := ⟨_, rfl⟩
      clear hcell
      go_loopw [7, 27] (fun _ i wr => ∃ (j : Nat) (m : List (List Int)), j ≤ c + 1 ∧ i = .int .i64 j ∧ Shape (r + 1) (c + 1) m ∧ Own 25 (Own 3 IntV) (Iv w2.heap.size w3.heap.size) wr (.slice (some ⟨G, 0, none⟩) (r + 1) cap) m ∧ Cur B wr g ∧ Only (fun b => b = g) w wr ∧ w3.heap.size = wr.heap.size) (fun _ i _ => c + 1 - (intOf i).toNat)
      case atStart => exact ⟨0, m, Nat.zero_le _, rfl, hsh, Hown.out, hcur, ho, Hz.out⟩
      case round =>
        clear hsh Hown hcur ho Hz Hrow Hrl HS hwo m
        obtain ⟨j, m, hj, rfl, hsh, hown, hcur, ho, hz⟩ := hrel
        by_cases hlt2 : j < c + 1
        · obtain ⟨row, hrow, hrl, -⟩ := hsh.row hlt
          obtain ⟨q, cq, hcell, hG', hq, hqg, hcq, hx, -, hset⟩ := own_grid_cell hown hrow (by omega)
          obtain ⟨⟨o, hco⟩, hfo⟩ := hx j (by omega)
          rw [hrl] at hcell hcq
          have hqB := hq.1
          have hqs := hq.2
          have Hz := Lib.hid hz
          have Hown := Lib.hid hown
          have Hrow := Lib.hid hrow
          have Hrl := Lib.hid hrl
          have Hset := Lib.hid hset
          clear hz hown hrow hrl hx hset
          have hqg2 : q ≠ g := by rintro rfl; have := hq.1; rw [← Hw23.out] at this; omega
          have hGg2 : G ≠ g := by rintro rfl; have := hG.1; rw [← Hw23.out] at this; omega
          have hGl : G < wr.heap.size := by have := hG.2; have := Hz.out; omega
          have hql : q < wr.heap.size := by have := hq.2; have := Hz.out; omega
          go_wp2
          go_region_with (go_at_call 47; refine (l01Below_c B g 2 _ (by exact hcur) (by decide) (by decide)).mono ?_; rintro e w5 ⟨n5, ⟨hn50, hn51⟩, rfl, hcur5, ho5, hz5⟩; have hc5 := (ho5.cell (p := ⟨G, k, none⟩) hGl hGg2).trans hcell; have hq5 := (ho5.cell (p := ⟨q, j, none⟩) hql hqg2).trans hco; have hf5 := (ho5.frozen (p := ⟨q, j, none⟩) hql hqg2).trans hfo; have Hz5 := Lib.hid hz5; clear hz5)
          all_goals
            have hall : Only (fun b => b = g) w w5 := (show Only (fun b => b = g) w wr.drew from ho.drew).trans' (Only.mono ho5 fun b hb _ => .inl hb)
            have hown5 := Hset.out w5 (ho5.same (T := Iv w2.heap.size w3.heap.size) (fun b hb e => by subst e; have := hb.1; rw [← Hw23.out] at this; omega) (fun b hb => by have := hb.2; have := Hz.out; show b < wr.heap.size; omega)) j n5 (by rw [Hrl.out]; exact hlt2) (I64.small (by omega) (by omega))
            have Hown5 := Lib.hid hown5
            clear hown5
            go_wp2
            go_roundw
            case rel => exact ⟨j + 1, _, by omega, by go_num, hsh.set Hrow.out hn50 (by omega), Hown5.out, hcur5.only (S := fun b => b = q) ((Only.refl (fun b => b = q) _).setCell (p := ⟨q, j, none⟩) (.inl rfl) _) (fun e => hqg2 e.symm) (fun b hb => by subst hb; rw [← Hw23.out] at hqB; omega), hall.setCell (p := ⟨q, j, none⟩) (.inr (by rw [Hw23.out]; exact hqB)) _, by rw [size_setCell, ← Hz5.out, Hz.out]; rfl⟩
            case measure => simp [intOf]; omega
        · have Hown := Lib.hid hown
          have Hz := Lib.hid hz
          clear hown hz
          go_wp2
          go_roundw
          case rel => exact ⟨k + 1, m, by omega, by go_num, hsh, Hown.out, hcur, ho, Hz.out⟩
          case measure => simp [intOf]; omega
    · have Hown := Lib.hid hown
      have Hz := Lib.hid hz
      clear hown hz
      go_wp2
      go_ret
      refine ⟨_, m, r + 1, c + 1, rfl, ⟨by omega, by omega⟩, ⟨by omega, by omega⟩, hsh, ?_, hcur, ho⟩
      exact (rOwn (rOwn rIntV)).mono (fun b hb => ⟨by rw [Hw23.out]; exact hb.1, by rw [← Hz.out]; exact hb.2⟩) Hown.out

/-- an image of some size up to n -/
theorem MakeImage_c (v : Value) (bs : List Int) (k n : Nat) (w : World) (hv : Bytes w v bs) (hk : k ≤ 1048576) (h1 : 1 ≤ n) (h2 : n ≤ 5) : Calls Try.prog 7 #[v, .int .i64 k, .int .i64 n] w fun e w' => ∃ (v' : Value) (m : List (List Int)) (r c : Nat), e = .returned v' ∧ (1 ≤ r ∧ r ≤ n) ∧ (1 ≤ c ∧ c ≤ n) ∧ Shape r c m ∧ Own 25 (Own 3 IntV) (Iv w.heap.size w'.heap.size) w' v' m ∧ Below w.heap.size w w' := by
  go_enter Try.func7, Try.ntmps7
  go_wp2_with (fail)
  refine (l18New_c v bs k _ hv hk).mono ?_
  rintro e w1 ⟨g, rfl, rfl, hcur, hbel, hsz⟩
  have s1 := hbel.size
  have hg1 := hcur.lt
  have Hsz := Lib.hid hsz; clear hsz
  go_wp2_with (fail)
  all_goals
    refine (l02Draw_c w.heap.size w.heap.size _ _ (by exact hcur) (by omega) (by omega)).mono ?_
    rintro e w2 ⟨v2, m, r, c, rfl, ⟨hr0, hr1⟩, ⟨hc0, hc1⟩, hsh, hown, hcur2, ho⟩
    have Hown := Lib.hid hown; clear hown
    go_wp2
    go_ret
    exact ⟨_, m, r, c, rfl, ⟨by omega, by omega⟩, ⟨by omega, by omega⟩, hsh, (rOwn (rOwn rIntV)).mono (fun b hb => ⟨Nat.le_trans s1 hb.1, hb.2⟩) Hown.out, hbel.trans (ho.below s1 fun b hb => by subst hb; exact Nat.le_refl _)⟩
end Go.Proofs.Ytliejhmlcdjpcaa

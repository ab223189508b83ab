/- Contracts: MakeSized, MakeWrong. -/
import Derived.Test.YtekgnpdchpdfiaaDraw2
import Derived.Test.YtekgnpdchpdfiaaX3
namespace Go.Proofs.Ytekgnpdchpdfiaa
open Go.RowKit

theorem l02Empty_z (r c : Nat) (R C : Int) (w : World) (hR : R = r) (hC : C = c) (hr : r ≤ 1048576) (hc : c ≤ 1048576) : Calls Try.prog 47 #[.int .i64 R, .int .i64 C] w (New 41 (Own 3 IntV) w (zeros r c)) := by
  subst hR hC
  exact l02Empty_c r c w hr hc
set_option maxHeartbeats 1000000 in
theorem MakeSized_c (v : Value) (bs : List Int) (n r c : Nat) (w : World) (hv : Bytes w v bs) (hn : n ≤ 1048576) (hr1 : 1 ≤ r) (hr5 : r ≤ 5) (hc1 : 1 ≤ c) (hc5 : c ≤ 5) : Calls Try.prog 42 #[v, .int .i64 n, .int .i64 r, .int .i64 c] w fun e w' => ∃ (v' : Value) (m : List (List Int)), e = .returned v' ∧ Shape r c m ∧ Own 41 (Own 3 IntV) (Iv w.heap.size w'.heap.size) w' v' m ∧ Below w.heap.size w w' := by
  go_enter Try.func42, Try.ntmps42
  go_wp2_with (fail)
  refine (l18New_c v bs n _ hv hn).mono ?_
  rintro e w1 ⟨g, rfl, rfl, hcur, hbel, hsz⟩
  have Hsz := Lib.hid hsz
  clear hsz
  go_wp2_with (fail)
  all_goals
    refine (l02Empty_z r c _ _ _ (by omega) (by omega) (by omega) (by omega)).mono ?_
    rintro e w3 ⟨v3, rfl, hown3, hbel3⟩
    have s3 := hbel3.size
    have hcur3 := hcur.keep hbel3
    have ho3 : Below w.heap.size w w3 := hbel.trans (hbel3.mono (by rw [Hsz.out]; omega))
    obtain ⟨G, cap, rfl, hG, hcap, hGs, -⟩ := hown3.inv_ne (by simp [zeros]; omega)
    have hlen3 : (zeros r c).length = r := by simp [zeros]
    rw [hlen3] at hcap hown3 ⊢
    have Hown3 := Lib.hid hown3
    clear hown3 hlen3
    have hG1 := hG.1
    have hG2 := hG.2
    have hgw : w.heap.size < w1.heap.size := by rw [Hsz.out]; omega
    go_wp2
    go_loopw [11, 12, 25] (fun _ _ i wr => ∃ (k : Nat) (m : List (List Int)), k ≤ r ∧ i = .int .i64 k ∧ Shape r c m ∧ Own 41 (Own 3 IntV) (Iv w1.heap.size w3.heap.size) wr (.slice (some ⟨G, 0, none⟩) r cap) m ∧ Cur w.heap.size wr w.heap.size ∧ Below w.heap.size w wr ∧ w3.heap.size = wr.heap.size) (fun _ _ i _ => r - (intOf i).toNat)
    case atStart => exact ⟨0, _, Nat.zero_le _, rfl, shape_zeros _ _, Hown3.out, hcur3, ho3, rfl⟩
    case round =>
      clear Hown3 hcur3 ho3
      obtain ⟨k, m, hk, rfl, hsh, hown, hcur, ho, hz⟩ := hrel
      by_cases hlt : k < r
      · obtain ⟨row, hrow, hrl, -⟩ := hsh.row hlt
        obtain ⟨q, cq, hcell, -, hq, hqg, hcq, -⟩ := own_grid_cell hown hrow (by omega)
        rw [hrl] at hcell hcq
        have Hz := Lib.hid hz
        have Hown := Lib.hid hown
        clear hz hown hrow hrl
        go_wp2
        clear hcell
        go_loopw [12, 33] (fun _ i wr => ∃ (j : Nat) (m : List (List Int)), j ≤ c ∧ i = .int .i64 j ∧ Shape r c m ∧ Own 41 (Own 3 IntV) (Iv w1.heap.size w3.heap.size) wr (.slice (some ⟨G, 0, none⟩) r cap) m ∧ Cur w.heap.size wr w.heap.size ∧ Below w.heap.size w wr ∧ w3.heap.size = wr.heap.size) (fun _ i _ => c - (intOf i).toNat)
        case atStart => exact ⟨0, m, Nat.zero_le _, rfl, hsh, Hown.out, hcur, ho, Hz.out⟩
        case round =>
          clear hsh Hown hcur ho Hz m
          obtain ⟨j, m, hj, rfl, hsh, hown, hcur, ho, hz⟩ := hrel
          by_cases hlt2 : j < c
          · obtain ⟨row, hrow, hrl, -⟩ := hsh.row hlt
            obtain ⟨q, cq, hcell, hG', hq, hqg, hcq, hx, -, hset⟩ := own_grid_cell hown hrow (by omega)
            obtain ⟨⟨o, hco⟩, hfo⟩ := hx j (by omega)
            rw [hrl] at hcell hcq
            have hqB := hq.1
            have hqs := hq.2
            have Hz := Lib.hid hz
            have Hrow := Lib.hid hrow
            have Hrl := Lib.hid hrl
            have Hset := Lib.hid hset
            clear hz hown hrow hrl hx hset
            have hqg2 : q ≠ w.heap.size := by omega
            have hGg2 : G ≠ w.heap.size := by omega
            have hGl : G < wr.heap.size := by have := hG.2; have := Hz.out; omega
            have hql : q < wr.heap.size := by have := hq.2; have := Hz.out; omega
            go_wp2
            go_region_with (go_at_call 73; refine (l01Below_c w.heap.size w.heap.size 2 _ (by exact hcur) (by decide) (by decide)).mono ?_; rintro e w5 ⟨n5, ⟨hn50, hn51⟩, rfl, hcur5, ho5, hz5⟩; have hc5 := (ho5.cell (p := ⟨G, k, none⟩) hGl hGg2).trans hcell; have hq5 := (ho5.cell (p := ⟨q, j, none⟩) hql hqg2).trans hco; have hf5 := (ho5.frozen (p := ⟨q, j, none⟩) hql hqg2).trans hfo; have Hz5 := Lib.hid hz5; clear hz5)
            all_goals
              have hall : Below w.heap.size w w5 := (show Below w.heap.size w wr.drew from ⟨ho.os, ho.tape, ho.output, ho.size, ho.block⟩).trans (Only.below ho5 (by have := ho.size; exact this) fun b hb => by have hb : b = w.heap.size := hb; omega)
              have hown5 := Hset.out w5 (ho5.same (T := Iv w1.heap.size w3.heap.size) (fun b hb e => by subst e; have := hb.1; omega) (fun b hb => by have := hb.2; have := Hz.out; show b < wr.heap.size; omega)) j n5 (by rw [Hrl.out]; exact hlt2) (I64.small (by omega) (by omega))
              have Hown5 := Lib.hid hown5
              clear hown5
              go_wp2
              go_roundw
              case rel => exact ⟨j + 1, _, by omega, by go_num, hsh.set Hrow.out hn50 (by omega), Hown5.out, hcur5.only (S := fun b => b = q) ((Only.refl (fun b => b = q) _).setCell (p := ⟨q, j, none⟩) (.inl rfl) _) (fun e => hqg2 e.symm) (fun b hb => by subst hb; omega), hall.setCell (show w.heap.size ≤ (⟨q, j, none⟩ : Addr).block by show w.heap.size ≤ q; omega) _, by rw [size_setCell, ← Hz5.out, Hz.out]; rfl⟩
              case measure => simp [intOf]; omega
          · have Hown := Lib.hid hown
            have Hz := Lib.hid hz
            clear hown hz
            go_wp2
            go_roundw
            case rel => exact ⟨k + 1, m, by omega, by go_num, hsh, Hown.out, hcur, ho, Hz.out⟩
            case measure => simp [intOf]; omega
      · have Hown := Lib.hid hown
        have Hz := Lib.hid hz
        clear hown hz
        go_wp2
        go_ret
        refine ⟨_, m, rfl, hsh, ?_, ho⟩
        exact (rOwn (rOwn rIntV)).mono (fun b hb => ⟨by have := hb.1; omega, by rw [← Hz.out]; exact hb.2⟩) Hown.out
end Go.Proofs.Ytekgnpdchpdfiaa

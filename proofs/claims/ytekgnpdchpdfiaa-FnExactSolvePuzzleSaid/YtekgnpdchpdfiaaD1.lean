/- Contracts: the reference's deduction: turning a grid, solving all its lines once. -/
import Derived.Test.YtekgnpdchpdfiaaDed
import Derived.Test.YtekgnpdchpdfiaaC10
namespace Go.Proofs.Ytekgnpdchpdfiaa
open Go.RowKit

set_option maxHeartbeats 1000000 in
theorem l14Turn_c (v : Value) (m : List (List Int)) (r c : Nat) (w : World) (hv : Grid w v m) (hsh : TRect r c m) (hr1 : 1 ≤ r) (hr5 : r ≤ 5) (hc1 : 1 ≤ c) (hc5 : c ≤ 5) : Calls Try.prog 49 #[v] w (New 41 (Own 3 IntV) w (tr m)) := by
  have Hv := Lib.hid hv
  obtain ⟨a, cap0, rfl, hcap, hle, -, hc⟩ := hv
  have hml : m.length = r := hsh.1
  have Hml := Lib.hid hml
  have Hhead := Lib.hid (hsh.head hr1)
  obtain ⟨hrow0, hrl0, -⟩ := hsh.row (y := 0) (by omega)
  obtain ⟨row0, hrow00⟩ : ∃ row0, row0 = m.getD 0 [] := ⟨_, rfl⟩
  rw [← hrow00] at hrow0 hrl0
  obtain ⟨b, off, rfl, hb, hc'⟩ := hc (by omega)
  obtain ⟨u0, hck0, hu0⟩ := hc' 0 row0 hrow0
  obtain ⟨a0, cp0, rfl, -⟩ := hu0
  rw [hrl0, Nat.add_zero] at hck0
  rw [hml] at hcap hle ⊢
  have Hv := Hv
  rw [hml] at Hv
  clear hc hc' hrow0 hrl0 hml hrow00
  go_enter Try.func49, Try.ntmps49
  go_wp2_with (fail)
  refine (l02Empty_c c r _ (by omega) (by omega)).mono ?_
  rintro e w1 ⟨v1, rfl, hown, hbel⟩
  have hs1 := hbel.size
  obtain ⟨G, cap, rfl, hG, hcapG, hGs, -⟩ := hown.inv_ne (by simp [zeros]; omega)
  have hzl : (zeros c r).length = c := by simp [zeros]
  rw [hzl] at hcapG hown ⊢
  rw [← trTo_zero m r c] at hown
  have Hown := Lib.hid hown
  clear hown hzl
  go_wp2
  go_loopw [4, 5, 6, 7, 17] (fun _ _ _ _ i wr => ∃ k : Nat, k ≤ r ∧ i = .int .i64 k ∧ Own 41 (Own 3 IntV) (Iv w.heap.size w1.heap.size) wr (.slice (some ⟨G, 0, none⟩) c cap) (trTo m r c k 0) ∧ Below w.heap.size w wr ∧ w1.heap.size ≤ wr.heap.size) (fun _ _ _ _ i _ => r - (intOf i).toNat)
  case atStart => exact ⟨0, Nat.zero_le _, rfl, Hown.out, hbel, Nat.le_refl _⟩
  case round =>
    clear Hown hbel
    obtain ⟨k, hk, rfl, hown, hbel, hsz⟩ := hrel
    by_cases hlt : k < r
    · obtain ⟨hrow, hrl, hrb⟩ := hsh.row hlt
      obtain ⟨row, hrow00⟩ : ∃ row, row = m.getD k [] := ⟨_, rfl⟩
      rw [← hrow00] at hrow hrl hrb
      obtain ⟨u, hck, hu⟩ := Sl.at Hv.out hrow
      have hu : Ints w u row := hu
      obtain ⟨br, offr, cpr, rfl, hbr, hat⟩ := hu.inv_ne (by omega)
      rw [← hbel.cell (p := ⟨b, off + k, none⟩) hb] at hck
      rw [hrl] at hck hu
      have Hown := Lib.hid hown
      have Hrow := Lib.hid hrow
      have Hrl := Lib.hid hrl
      have Hu := Lib.hid hu
      clear hown hrow hrl hu hrow00
      have hdec : decide ((k : Int) < (r : Int)) = true := by simp; omega
      go_wp2
      obtain ⟨wo, hwo⟩ : ∃ wo : World, wo = wr := ⟨_, rfl⟩
      clear hck
      go_loopw [6, 7, 24] (fun _ _ i wr => ∃ j : Nat, j ≤ c ∧ i = .int .i64 j ∧ Own 41 (Own 3 IntV) (Iv w.heap.size w1.heap.size) wr (.slice (some ⟨G, 0, none⟩) c cap) (trTo m r c k j) ∧ Below w.heap.size w wr ∧ w1.heap.size ≤ wr.heap.size) (fun _ _ i _ => c - (intOf i).toNat)
      case atStart => exact ⟨0, Nat.zero_le _, rfl, Hown.out, hbel, hsz⟩
      case round =>
        clear Hown hbel hsz hwo
        obtain ⟨j, hj, rfl, hown, hbel, hsz⟩ := hrel
        by_cases hltj : j < c
        · obtain ⟨z, hz⟩ : ∃ z, row[j]? = some z := ⟨_, List.getElem?_eq_getElem (by rw [Hrl.out]; exact hltj)⟩
          have hzb := hrb z (List.mem_of_getElem? hz)
          have hcz := Ints.at Hu.out hz
          rw [← hbel.cell (p := ⟨br, offr + j, none⟩) hbr] at hcz
          have hq := trTo_row (m := m) (r := r) (c := c) (y := k) hltj
          obtain ⟨q, cq, hcell, -, hSq, hqG, hcq, hx, -, hset⟩ := own_grid_cell hown hq (by simp; omega)
          have hql : ((List.range r).map fun i => if i < k ∨ (i = k ∧ j < j) then (m.getD i []).getD j 0 else 0).length = r := by simp
          rw [hql] at hcell hcq hx
          obtain ⟨⟨o, hco⟩, hfo⟩ := hx k hlt
          have hnew := hset wr (fun _ _ => rfl) k z (by rw [hql]; exact hlt) (I64.small (by omega) (by omega))
          rw [trTo_set hltj hlt Hrow.out hz hq] at hnew
          have Hnew := Lib.hid hnew
          have hqs := hSq.1
          clear hown hz hq hx hset hql hnew
          go_wp2
          go_roundw
          case rel => exact ⟨j + 1, by omega, by go_num, Hnew.out, hbel.setCell hqs _, by rw [size_setCell]; exact hsz⟩
          case measure => simp [intOf]; omega
        · obtain rfl : j = c := by omega
          rw [trTo_next] at hown
          have Hown := Lib.hid hown
          clear hown
          go_wp2
          go_roundw
          case rel => exact ⟨k + 1, by omega, by go_num, Hown.out, hbel, hsz⟩
          case measure => simp [intOf]; omega
    · have Hown := Lib.hid hown
      clear hown
      go_wp2
      go_ret
      obtain rfl : k = r := by omega
      refine ⟨_, rfl, ?_, hbel⟩
      rw [← trTo_all m k c Hml.out Hhead.out]
      exact (rOwn (rOwn rIntV)).mono (fun b hb => ⟨hb.1, Nat.lt_of_lt_of_le hb.2 hsz⟩) Hown.out
set_option maxRecDepth 100000 in
set_option maxHeartbeats 1600000 in
theorem l14Pass_c (v v2 : Value) (R m : List (List Int)) (w : World) (hv : Grid w v R) (hv2 : Grid w v2 m) (hl : m.length ≤ R.length) (h5 : m.length ≤ 5) : Calls Try.prog 48 #[v, v2] w fun e w' => ∃ v', e = .returned (.tuple #[v', .bool (passOk R m)]) ∧ Own 41 (Own 3 IntV) (Iv w.heap.size w'.heap.size) w' v' (passD R m) ∧ Below w.heap.size w w' := by
  have Hv := Lib.hid hv
  have Hv2 := Lib.hid hv2
  obtain ⟨a, cap, rfl, -, hle, -⟩ := hv
  obtain ⟨a2, cap2, rfl, -, hle2, -⟩ := hv2
  go_enter Try.func48, Try.ntmps48
  go_wp2
  go_loopw [6, 14] (fun v i wr => ∃ k : Nat, k ≤ m.length ∧ i = .int .i64 k ∧ Hid (∀ y, y < k → (sl R m y).isSome = true) ∧ Own 41 (Own 3 IntV) (Iv w.heap.size wr.heap.size) wr v (passTo R m k) ∧ Below w.heap.size w wr) (fun _ i _ => m.length - (intOf i).toNat)
  case atStart => exact ⟨0, Nat.zero_le _, rfl, fun y hy => by omega, own_lit0 _ _ _ (rOwn rIntV), Below.pureAlloc _ _⟩
  case round =>
    obtain ⟨k, hk, rfl, Hall, hown, hbel⟩ := hrel
    obtain ⟨wo, rfl⟩ : ∃ wo : World, wo = wr := ⟨_, rfl⟩
    have hBs := hbel.size
    by_cases hlt : k < m.length
    · have hltR : k < R.length := by omega
      obtain ⟨b, off, cpr, he, hb, -⟩ := Hv.out.inv_ne (by omega)
      obtain ⟨rfl, -⟩ : a = some ⟨b, off, none⟩ ∧ cap = cpr := by simpa using he
      obtain ⟨b2, off2, cpr2, he2, hb2, -⟩ := Hv2.out.inv_ne (by omega)
      obtain ⟨rfl, -⟩ : a2 = some ⟨b2, off2, none⟩ ∧ cap2 = cpr2 := by simpa using he2
      obtain ⟨u, hck, hu⟩ := Sl.at Hv.out (gD_at [] hltR)
      obtain ⟨u2, hck2, hu2⟩ := Sl.at Hv2.out (gD_at [] hlt)
      have hu : Ints w u (R.getD k []) := hu
      have hu2 : Ints w u2 (m.getD k []) := hu2
      rw [← hbel.cell (p := ⟨b, off + k, none⟩) hb] at hck
      rw [← hbel.cell (p := ⟨b2, off2 + k, none⟩) hb2] at hck2
      have Hu := Lib.hid (hu.keep hbel)
      have Hu2 := Lib.hid (hu2.keep hbel)
      obtain ⟨p1, p2, rfl, -⟩ := hu
      obtain ⟨q1, q2, rfl, -⟩ := hu2
      obtain ⟨x1, hx1⟩ : ∃ x, x = R.getD k [] := ⟨_, rfl⟩
      obtain ⟨x2, hx2⟩ : ∃ x, x = m.getD k [] := ⟨_, rfl⟩
      have Hsl := Lib.hid (show sl R m k = solveLine x1 x2 from by rw [hx1, hx2]; rfl)
      rw [← hx1] at hck Hu
      rw [← hx2] at hck2 Hu2
      have hkl : (passTo R m k).length < 1099511627776 := by rw [passTo_len]; omega
      have Hst := Lib.hid (passTo_succ R m k)
      have Hown := Lib.hid hown
      clear hown he he2 hx1 hx2
      go_wp2_with (fail)
      refine (SolveLine_s2 _ _ _ _ _ Hu.out Hu2.out).mono ?_
      rintro e w1 ⟨v1, rfl, o1, b1⟩
      have hs1 : wo.heap.size ≤ w1.heap.size := b1.size
      obtain ⟨r1, r2, r3, rfl⟩ := o1.shape
      have Ho1 := Lib.hid o1
      clear o1
      cases hsol : (solveLine x1 x2).isSome
      · have Hf := Lib.hid (show passOk R m = false from by
          rw [← Bool.not_eq_true]
          intro h
          unfold passOk at h
          have := List.all_eq_true.1 h k (List.mem_range.2 hlt)
          rw [Hsl.out, hsol] at this
          cases this)
        have hb1 := hbel.trans_pure b1 (Nat.le_refl _)
        clear hsol
        go_wp2
        rw [Hf.out]
        go_ret2
        exact ⟨_, rfl, by rw [passD_no Hf.out]; exact Own.nil _ _ _ _, hb1⟩
      · have Hsol := Lib.hid hsol
        clear hsol
        go_wp2_with (first | (at_builtin; (refine wpList_appR rfl _ _ 22 rfl (rOwn rIntV) 41 Try.underlying22 infoInts rfl (by decide) w.heap.size wo.heap.size hBs hs1 rfl rfl (by exact Own.keep (rOwn rIntV) Hown.out b1 (Nat.le_refl _)) (by exact Ho1.out) hkl ?_); intro v2 w2 hown2 hbel2 _) | fail)
        have hb2 := (hbel.trans (b1.mono hBs)).trans hbel2
        have Hown2 := Lib.hid hown2
        clear hown2
        go_wp2
        go_roundw
        case rel =>
          refine ⟨k + 1, by omega, by go_num, fun y hy => ?_, by rw [Hst.out, Hsl.out]; exact Hown2.out, hb2⟩
          by_cases hyk : y < k
          · exact Hall.out y hyk
          · obtain rfl : y = k := by omega
            rw [Hsl.out]; exact Hsol.out
        case measure => simp [intOf]; omega
    · have hkm : k = m.length := by omega
      have Hf := Lib.hid (show passOk R m = true from by
        unfold passOk
        rw [List.all_eq_true]
        intro y hy
        exact Hall.out y (by rw [hkm]; exact List.mem_range.1 hy))
      have Hv := Lib.hid (show passTo R m k = passV R m from by rw [hkm]; rfl)
      have Hown := Lib.hid hown
      clear hown hkm
      go_wp2
      rw [Hf.out]
      go_ret2
      exact ⟨_, rfl, by rw [passD_yes Hf.out, ← Hv.out]; exact Hown.out, hbel⟩
end Go.Proofs.Ytekgnpdchpdfiaa

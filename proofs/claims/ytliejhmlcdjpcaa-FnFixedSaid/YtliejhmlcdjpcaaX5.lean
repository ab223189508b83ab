/- Contracts: what a row leaves of the columns. -/
import Derived.Test.YtliejhmlcdjpcaaX4
namespace Go.Proofs.Ytliejhmlcdjpcaa
open Go.RowKit

theorem leftOver_next {cols row : List Int} {k : Nat} {c x : Int} (hc : cols[k]? = some c) (hx : row[k]? = some x) : (leftOver cols row)[k]? = some (c - x) := by
  unfold leftOver
  rw [List.getElem?_zipWith, hc, hx]
theorem rowFits_no {cols row : List Int} (hl : row.length = cols.length) {k : Nat} {c x : Int} (hc : cols[k]? = some c) (hx : row[k]? = some x) (h : c < x) : rowFits cols row = false := by
  rw [Bool.eq_false_iff]
  intro hf
  have hk := (List.getElem?_eq_some_iff.1 hc).1
  have := (rowFits_iff hl).1 hf k hk
  rw [gD_some (leftOver_next hc hx)] at this
  omega
theorem rowFits_yes {cols row : List Int} (hl : row.length = cols.length) (h : ∀ j, j < cols.length → 0 ≤ (leftOver cols row).getD j 0) : rowFits cols row = true := (rowFits_iff hl).2 h
def leftRes (cols row : List Int) : List Int := if rowFits cols row then leftOver cols row else []
set_option maxRecDepth 100000 in
set_option maxHeartbeats 2000000 in
theorem l05Left_c (v v2 : Value) (cols row : List Int) (w : World) (hv : Ints w v cols) (hv2 : Ints w v2 row) (hl : row.length = cols.length) (h5 : cols.length ≤ 5) (hc5 : ∀ x ∈ cols, 0 ≤ x ∧ x ≤ 5) (hr1 : ∀ x ∈ row, 0 ≤ x ∧ x ≤ 1) :
    Calls Try.prog 90 #[v, v2] w fun e w' => ∃ v', e = .returned (.tuple #[v', .bool (rowFits cols row)]) ∧ Own 3 IntV (Iv w.heap.size w'.heap.size) w' v' (leftRes cols row) ∧ Below w.heap.size w w' := by
  obtain ⟨a, cap, rfl, -, hle, -, hc⟩ := hv
  obtain ⟨a2, cap2, rfl, -, hle2, -, hc2⟩ := hv2
  have Hl := Lib.hid hl
  have Hc5 := Lib.hid hc5
  have Hr1 := Lib.hid hr1
  clear hl hc5 hr1
  go_enter Try.func90, Try.ntmps90
  go_wp2
  go_loopw [6, 12] (fun v i wr => ∃ k : Nat, k ≤ cols.length ∧ i = .int .i64 k ∧ Hid (Own 3 IntV (Iv w.heap.size wr.heap.size) wr v ((leftOver cols row).take k)) ∧ Hid (∀ j, j < k → 0 ≤ (leftOver cols row).getD j 0) ∧ Below w.heap.size w wr) (fun _ i _ => cols.length - (intOf i).toNat)
  case atStart => exact ⟨0, Nat.zero_le _, rfl, by rw [List.take_zero]; exact own_lit0 _ _ _ rIntV, (by intro j hj; omega), Below.pureAlloc _ _⟩
  case round =>
    obtain ⟨k, hk, rfl, Hown, Hpos, hbel⟩ := hrel
    have hBs := hbel.size
    by_cases hlt : k < cols.length
    · obtain ⟨b, off, rfl, hb, hcc⟩ := hc (by omega)
      obtain ⟨b2, off2, rfl, hb2, hcc2⟩ := hc2 (by rw [Hl.out]; omega)
      obtain ⟨c, hcx⟩ : ∃ c, cols[k]? = some c := ⟨_, List.getElem?_eq_getElem hlt⟩
      obtain ⟨x, hx⟩ : ∃ x, row[k]? = some x := ⟨_, List.getElem?_eq_getElem (by rw [Hl.out]; exact hlt)⟩
      obtain ⟨u, hck, rfl, -⟩ := hcc k c hcx
      obtain ⟨u2, hck2, rfl, -⟩ := hcc2 k x hx
      rw [← hbel.cell (p := ⟨b, off + k, none⟩) hb] at hck
      rw [← hbel.cell (p := ⟨b2, off2 + k, none⟩) hb2] at hck2
      have hrl : (k : Int) < (row.length : Int) := by have := Hl.out; omega
      have hrl2 : k < row.length := by have := Hl.out; omega
      obtain ⟨hc0, hc9⟩ := Hc5.out c (List.mem_of_getElem? hcx)
      obtain ⟨hx0, hx9⟩ := Hr1.out x (List.mem_of_getElem? hx)
      by_cases hcl : c < x
      · have hd : decide (c < x) = true := decide_eq_true hcl
        have Hf := Lib.hid (rowFits_no Hl.out hcx hx hcl)
        have He := Lib.hid (show leftRes cols row = [] from by unfold leftRes; rw [Hf.out]; rfl)
        clear hcx hx hcc hcc2 hc hc2 hcl
        go_wp2
        go_ret2
        exact ⟨_, by rw [Hf.out]; rfl, by rw [He.out]; exact Own.nil _ _ _ _, hbel⟩
      · have hd : decide (c < x) = false := decide_eq_false hcl
        have Hn := Lib.hid (leftOver_next hcx hx)
        have hkl : ((leftOver cols row).take k).length < 1099511627776 := by rw [List.length_take]; omega
        have Hst := Lib.hid (show (leftOver cols row).take (k + 1) = (leftOver cols row).take k ++ [c - x] from by rw [List.take_add_one, Hn.out]; rfl)
        have Hpos2 := Lib.hid (show ∀ j, j < k + 1 → 0 ≤ (leftOver cols row).getD j 0 from by
          intro j hj
          by_cases e : j = k
          · rw [e, gD_some Hn.out]; omega
          · exact Hpos.out j (by omega))
        have hI : I64 (c - x) := I64.small (by omega) (by omega)
        clear hcx hx hcc hcc2 hc hc2 hcl Hpos
        go_wp2_with (first | (at_builtin; (refine wpList_appR rfl _ _ 25 rfl rIntV 3 Try.underlying25 infoInt rfl (by decide) w.heap.size wr.heap.size hBs (Nat.le_refl _) rfl rfl (by exact Hown.out) (by exact ⟨rfl, hI⟩) hkl ?_); intro v2 w2 hown2 hbel2 _) | fail)
        have hb3 := hbel.trans hbel2
        have Hown2 := Lib.hid hown2
        clear hown2 Hown
        go_wp2
        go_roundw
        case rel => exact ⟨k + 1, by omega, by go_num, by rw [Hst.out]; exact Hown2.out, Hpos2, hb3⟩
        case measure => simp [intOf]; omega
    · have Hf := Lib.hid (rowFits_yes Hl.out fun j hj => Hpos.out j (by omega))
      have He := Lib.hid (show (leftOver cols row).take k = leftRes cols row from by unfold leftRes; rw [Hf.out, if_pos rfl, List.take_of_length_le (by rw [leftOver_len Hl.out]; omega)])
      go_wp2
      go_ret2
      exact ⟨_, by rw [Hf.out]; rfl, by rw [← He.out]; exact Hown.out, hbel⟩
end Go.Proofs.Ytliejhmlcdjpcaa

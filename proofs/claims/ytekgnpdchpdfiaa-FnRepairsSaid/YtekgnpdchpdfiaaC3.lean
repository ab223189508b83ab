/- Contracts: RunsOf, ParityOf. -/
import Derived.Test.YtekgnpdchpdfiaaC2
import Derived.Test.YtekgnpdchpdfiaaRuns
namespace Go.Proofs.Ytekgnpdchpdfiaa
open Go.RowKit

set_option maxHeartbeats 400000 in
theorem RunsOf_i (v : Value) (xs : List Int) (w : World) (hv : Ints w v xs) (hlen : xs.length ≤ 1048576) : Calls Try.prog 102 #[v] w (New 3 IntV w (runsOf xs)) := by
  obtain ⟨a, cap, rfl, hcap, -, -, hc⟩ := hv
  go_enter Try.func102, Try.ntmps102
  go_wp2
  go_loopw [3, 8] (fun v i wr => ∃ k : Nat, k ≤ xs.length ∧ i = .int .i64 k ∧ Own 3 IntV (Iv w.heap.size wr.heap.size) wr v (runsFin (runsSt (xs.take k))) ∧ Below w.heap.size w wr) (fun _ i _ => xs.length - (intOf i).toNat)
  case atStart => exact ⟨0, Nat.zero_le _, rfl, Own.nil _ _ _ _, Below.refl _ _⟩
  case round =>
    obtain ⟨k, hk, rfl, hown, hbel⟩ := hrel
    have hBs := hbel.size
    by_cases hlt : k < xs.length
    · obtain ⟨b, off, rfl, hb, hc'⟩ := hc (by omega)
      obtain ⟨x, hx⟩ : ∃ x, xs[k]? = some x := ⟨_, List.getElem?_eq_getElem hlt⟩
      obtain ⟨u, hck, rfl, hI⟩ := hc' k x hx
      rw [← hbel.cell (p := ⟨b, off + k, none⟩) hb] at hck
      have hst := runsSt_take hx
      have hpos := runsSt_pos hk
      have hln := runsSt_len k hk
      by_cases hx1 : x = 1
      · subst hx1
        by_cases hp : 0 < (runsSt (xs.take k)).2
        · obtain ⟨hk0, hprev⟩ := hpos.1 hp
          obtain ⟨u2, hcp, rfl, -⟩ := hc' (k - 1) 1 hprev
          rw [← hbel.cell (p := ⟨b, off + (k - 1), none⟩) hb] at hcp
          obtain ⟨o, ho⟩ : ∃ o, o = (runsSt (xs.take k)).1 := ⟨_, rfl⟩
          obtain ⟨n, hn⟩ : ∃ n, n = (runsSt (xs.take k)).2 := ⟨_, rfl⟩
          simp only [if_true, ← ho, ← hn] at hst
          rw [← hn] at hp
          simp only [runsFin, ← ho, ← hn, if_pos hp] at hown
          rw [← ho, ← hn] at hln
          obtain ⟨g, cp, rfl, hg, hcp2, -, -⟩ := hown.inv_ne (by simp)
          obtain ⟨hcell, hfree, -⟩ := hown.ints_cell (k := o.length) (x := (n : Int)) (by simp)
          have hset := hown.setInt (k := o.length) (c := (n : Int) + 1) (by simp) (I64.small (by omega) (by omega))
          rw [List.set_append_right _ _ (Nat.le_refl _), Nat.sub_self, List.set_cons_zero] at hset
          simp only [List.length_append, List.length_cons, List.length_nil, Nat.zero_add] at hset hcp2 ⊢
          have Hset := Lib.hid hset
          have Hst := Lib.hid hst
          have hge := hg.1
          clear hc hc' hx hprev hpos ho hn hown hset hst
          go_wp2
          go_roundw
          case rel => exact ⟨k + 1, by omega, by go_num, by rw [Hst.out, size_setCell]; exact Hset.out, hbel.setCell hge _⟩
          case measure => simp [intOf]; omega
        · have hn0 : (runsSt (xs.take k)).2 = 0 := by omega
          have hfin : runsFin (runsSt (xs.take k)) = (runsSt (xs.take k)).1 := by simp [runsFin, hn0]
          rw [hfin] at hown
          rw [if_pos rfl, hn0] at hst
          have Hst := Lib.hid hst
          have Hown := Lib.hid hown
          have hln' : (runsSt (xs.take k)).1.length < 1099511627776 := by omega
          have hprev : k ≤ 0 ∨ (0 < k ∧ ∃ y, ¬ y = 1 ∧ wr.cell? ⟨b, off + (k - 1), none⟩ = some (.int .i64 y)) := by
            by_cases hk0 : k = 0
            · exact .inl (by omega)
            · refine .inr ⟨by omega, ?_⟩
              have h1 : xs[k - 1]? = some xs[k - 1] := List.getElem?_eq_getElem (by omega)
              obtain ⟨u2, hcp, rfl, -⟩ := hc' (k - 1) _ h1
              refine ⟨xs[k - 1], fun h => hp (hpos.2 ⟨by omega, by rw [h1, h]⟩), ?_⟩
              rw [hbel.cell (p := ⟨b, off + (k - 1), none⟩) hb, hcp]
          clear hc hc' hx hpos hown hst hn0 hfin hp hln
          rcases hprev with hk0 | ⟨hk0, y, hy, hcp⟩
          all_goals
            go_wp2_with (first | (at_builtin; (refine wpList_appR rfl _ _ 41 rfl rIntV 3 Try.underlying41 infoInt rfl (by decide) w.heap.size wr.heap.size hBs (Nat.le_refl _) rfl rfl (by exact Hown.out) ⟨rfl, I64.small (by decide) (by decide)⟩ hln' ?_); intro v' w' hown' hbel' _))
            have hb2 := hbel.trans hbel'
            have Hown' := Lib.hid hown'
            clear hown' hbel'
            go_wp2
            go_roundw
            case rel => exact ⟨k + 1, by omega, by go_num, by rw [Hst.out]; exact Hown'.out, hb2⟩
            case measure => simp [intOf]; omega
      · have Hst := Lib.hid hst
        have Hown := Lib.hid hown
        clear hc hc' hx hpos hst hown
        go_wp2
        go_roundw
        case rel => exact ⟨k + 1, by omega, by go_num, by rw [Hst.out, if_neg hx1]; exact Hown.out, hbel⟩
        case measure => simp [intOf]; omega
    · have Hown := Lib.hid hown
      clear hown
      go_wp2
      go_ret
      refine ⟨_, rfl, ?_, hbel⟩
      have h1 := Hown.out
      rw [List.take_of_length_le (by omega)] at h1
      exact h1
set_option maxHeartbeats 400000 in
theorem RunsOf_s (v : Value) (xs : List Int) (w : World) (hv : Ints w v xs) (hlen : xs.length ≤ 1048576) : Calls Try.prog 121 #[v] w (New 3 IntV w (runsOf xs)) := by
  obtain ⟨a, cap, rfl, hcap, -, -, hc⟩ := hv
  go_enter Try.func121, Try.ntmps121
  go_wp2
  go_loopw [3, 4, 10] (fun v n i wr => ∃ k : Nat, k ≤ xs.length ∧ i = .int .i64 k ∧ n = .int .i64 (runsSt (xs.take k)).2 ∧ Own 3 IntV (Iv w.heap.size wr.heap.size) wr v (runsSt (xs.take k)).1 ∧ Below w.heap.size w wr) (fun _ _ i _ => xs.length - (intOf i).toNat)
  case atStart => exact ⟨0, Nat.zero_le _, rfl, rfl, own_lit0 _ _ _ rIntV, Below.pureAlloc _ _⟩
  case round =>
    obtain ⟨k, hk, rfl, rfl, hown, hbel⟩ := hrel
    have hBs := hbel.size
    have hln := runsSt_len k hk
    by_cases hlt : k < xs.length
    · obtain ⟨b, off, rfl, hb, hc'⟩ := hc (by omega)
      obtain ⟨x, hx⟩ : ∃ x, xs[k]? = some x := ⟨_, List.getElem?_eq_getElem hlt⟩
      obtain ⟨u, hck, rfl, hI⟩ := hc' k x hx
      rw [← hbel.cell (p := ⟨b, off + k, none⟩) hb] at hck
      have hst := runsSt_take hx
      clear hc hc' hx
      by_cases hx1 : x = 1
      · subst hx1
        rw [if_pos rfl] at hst
        have Hst := Lib.hid hst
        have Hown := Lib.hid hown
        clear hst hown
        go_wp2
        go_roundw
        case rel => exact ⟨k + 1, by omega, by go_num, by rw [Hst.out]; rfl, by rw [Hst.out]; exact Hown.out, hbel⟩
        case measure => simp [intOf]; omega
      · rw [if_neg hx1] at hst
        have Hst := Lib.hid hst
        have Hown := Lib.hid hown
        clear hst hown
        by_cases hp : 0 < (runsSt (xs.take k)).2
        · have hln' : (runsSt (xs.take k)).1.length < 1099511627776 := by omega
          have Hfin := Lib.hid (show runsFin (runsSt (xs.take k)) = (runsSt (xs.take k)).1 ++ [((runsSt (xs.take k)).2 : Int)] from by simp [runsFin, hp])
          go_wp2_with (first | (at_builtin; refine wpList_appR rfl _ _ 41 rfl rIntV 3 Try.underlying41 infoInt rfl (by decide) w.heap.size wr.heap.size hBs (Nat.le_refl _) rfl rfl (by exact Hown.out) ⟨rfl, I64.small (by omega) (by omega)⟩ hln' ?_; intro v' w' hown' hbel' _))
          have hb2 := hbel.trans hbel'
          have Hown' := Lib.hid hown'
          clear hown' hbel'
          go_wp2
          go_roundw
          case rel => exact ⟨k + 1, by omega, by go_num, by rw [Hst.out]; rfl, by rw [Hst.out, Hfin.out]; exact Hown'.out, hb2⟩
          case measure => simp [intOf]; omega
        · have Hfin := Lib.hid (show runsFin (runsSt (xs.take k)) = (runsSt (xs.take k)).1 from by simp [runsFin, hp])
          go_wp2
          go_roundw
          case rel => exact ⟨k + 1, by omega, by go_num, by rw [Hst.out]; rfl, by rw [Hst.out, Hfin.out]; exact Hown.out, hbel⟩
          case measure => simp [intOf]; omega
    · have Hown := Lib.hid hown
      clear hown
      have Hrun := Lib.hid (show runsOf xs = runsFin (runsSt (xs.take k)) from by rw [List.take_of_length_le (by omega)]; rfl)
      by_cases hp : 0 < (runsSt (xs.take k)).2
      · have hln' : (runsSt (xs.take k)).1.length < 1099511627776 := by omega
        go_wp2_with (first | (at_builtin; refine wpList_appR rfl _ _ 41 rfl rIntV 3 Try.underlying41 infoInt rfl (by decide) w.heap.size wr.heap.size hBs (Nat.le_refl _) rfl rfl (by exact Hown.out) ⟨rfl, I64.small (by omega) (by omega)⟩ hln' ?_; intro v' w' hown' hbel' _))
        have Hown' := Lib.hid hown'
        have hb2 := hbel.trans hbel'
        clear hown' hbel'
        go_wp2
        go_ret
        refine ⟨_, rfl, ?_, hb2⟩
        rw [Hrun.out]
        have h1 := Hown'.out
        simpa [runsFin, hp] using h1
      · go_wp2
        go_ret
        refine ⟨_, rfl, ?_, hbel⟩
        rw [Hrun.out]
        have h1 := Hown.out
        simpa [runsFin, hp] using h1
theorem sumL_nonneg {xs : List Int} {m : Int} (h : xs.all (inR 0 m) = true) : 0 ≤ sumL xs := by
  have aux : ∀ k, k ≤ xs.length → 0 ≤ sumL (xs.take k) := by
    intro k
    induction k with
    | zero => intro _; simp [sumL]
    | succ k ih =>
      intro hk
      have hx : xs[k]? = some xs[k] := List.getElem?_eq_getElem (by omega)
      rw [sumL_take hx]
      have h1 := ih (by omega)
      have h2 := List.all_eq_true.1 h _ (List.mem_of_getElem? hx)
      rw [inR_iff] at h2
      omega
  have := aux xs.length (Nat.le_refl _)
  rwa [List.take_length] at this
theorem small_of_all {xs : List Int} {m : Int} (h : xs.all (inR 0 m) = true) (hm : m ≤ 1048576) (hl : xs.length ≤ 1048576) : Small xs := by
  refine ⟨hl, fun x hx => ?_⟩
  have h2 := List.all_eq_true.1 h _ hx
  rw [inR_iff] at h2
  omega
def parityOf (rows cols : List Int) : Int := if sumsFit rows cols then (sumL rows + sumL cols) % 2 else -1
theorem ParityOf_i (v v2 : Value) (xs ys : List Int) (w : World) (hv : Ints w v xs) (hv2 : Ints w v2 ys) : Calls Try.prog 43 #[v, v2] w fun e w' => e = .returned (.int .i64 (parityOf xs ys)) ∧ w = w' := by
  cases hs : sumsFit xs ys
  · go_enter Try.func43, Try.ntmps43
    go_wp2_with (first | (go_at_call 35; refine (SumsFit_i _ _ _ _ _ hv hv2).mono ?_; rintro e w' ⟨rfl, rfl⟩))
    go_ret
    exact ⟨retI (by simp [parityOf, hs]), rfl⟩
  · obtain ⟨⟨⟨h1, h2⟩, h3⟩, h4⟩ : ((inR 1 4 xs.length = true ∧ inR 1 4 ys.length = true) ∧ xs.all (inR 0 ys.length) = true) ∧ ys.all (inR 0 xs.length) = true := by simpa only [sumsFit, Bool.and_eq_true] using hs
    rw [inR_iff] at h1 h2
    have hsx := small_of_all h3 (by omega) (by omega)
    have hsy := small_of_all h4 (by omega) (by omega)
    have hx0 := sumL_nonneg h3
    have hy0 := sumL_nonneg h4
    have hx1 := (sumL_small hsx xs.length (Nat.le_refl _)).2
    have hy1 := (sumL_small hsy ys.length (Nat.le_refl _)).2
    rw [List.take_length] at hx1 hy1
    have hpar := Lib.hid (show parityOf xs ys = (sumL xs + sumL ys) % 2 from by simp [parityOf, hs])
    clear h3 h4
    go_enter Try.func43, Try.ntmps43
    go_wp2_with (first | (go_at_call 35; refine (SumsFit_i _ _ _ _ _ hv hv2).mono ?_; rintro e w' ⟨rfl, rfl⟩) | (go_at_call 79; ((with_reducible refine (sumOf_c _ _ _ hv hsx).mono ?_); rintro e w' ⟨rfl, rfl⟩)) | (go_at_call 79; ((with_reducible refine (sumOf_c _ _ _ hv2 hsy).mono ?_); rintro e w' ⟨rfl, rfl⟩)))
    go_ret
    exact ⟨retI hpar.out.symm, rfl⟩
end Go.Proofs.Ytekgnpdchpdfiaa

/- Contracts and plain laws that the claims on sessions use. No condition of their own. -/
import Derived.Test.YthmocomfjgmjoaaGreatDoorQ02
import Derived.Lib.SliceRun
import Derived.Test.YthmocomfjgmjoaaGreatDoorQ01
import Derived.RegionTactic
import Derived.BigRegion
import Derived.Laws.EntriesVeiled
set_option maxHeartbeats 1600000
namespace Go.Proofs.YthmocomfjgmjoaaGreatDoor
open Go.RowKit
theorem Equal_q (v v2 : Value) (xs ys : List Int) (w : World) (hv : Ints w v xs) (hv2 : Ints w v2 ys) : Calls Tryz.prog 227 #[v, v2] w fun e w' => e = .returned (.bool (decide (xs = ys))) ∧ ∃ n, w' = w.drewN n := by
  obtain ⟨a, cap, rfl, hcap, hle, -, hc⟩ := hv
  obtain ⟨a2, cap2, rfl, hcap2, hle2, -, hc2⟩ := hv2
  by_cases hl : xs.length = ys.length
  · have hl1 : xs.length ≤ ys.length := by omega
    have hl2 : ys.length ≤ xs.length := by omega
    have Hl := Lib.hid hl; clear hl
    go_enter Tryz.func227, Tryz.ntmps227
    go_wp2
    go_loopw [5, 13] (fun _ i wr => ∃ k : Nat, k ≤ xs.length ∧ i = .int .i64 k ∧ xs.take k = ys.take k ∧ ∃ n, wr = w.drewN n) (fun _ i _ => xs.length - (intOf i).toNat)
    case atStart => exact ⟨0, Nat.zero_le _, rfl, rfl, 0, rfl⟩
    case round =>
      obtain ⟨k, hk, rfl, heq, n, rfl⟩ := hrel
      have Heq := Lib.hid heq; clear heq
      by_cases hlt : k < xs.length
      · obtain ⟨b, off, rfl, hb, hc'⟩ := hc (by omega)
        obtain ⟨x, hx⟩ : ∃ x, xs[k]? = some x := ⟨_, List.getElem?_eq_getElem hlt⟩
        obtain ⟨u, hck, rfl, -⟩ := hc' k x hx
        obtain ⟨b2, off2, rfl, hb2, hc2'⟩ := hc2 (by omega)
        obtain ⟨y, hy⟩ : ∃ y, ys[k]? = some y := ⟨_, List.getElem?_eq_getElem (by omega)⟩
        obtain ⟨u2, hck2, rfl, -⟩ := hc2' k y hy
        have hlt2 : k < ys.length := by omega
        have Hx := Lib.hid hx
        have Hy := Lib.hid hy
        clear hx hc hc' hy hc2 hc2'
        by_cases hxy : x = y
        · subst hxy
          go_wp2
          go_quiet (fail)
          go_wp2
          go_roundw
          case rel => exact ⟨k + 1, by omega, by go_num, take_step_eq Heq.out Hx.out Hy.out, _, rfl⟩
          case measure => simp [intOf]; omega
        · have hne : (x == y) = false := by simpa using hxy
          have Hxy := Lib.hid hxy; clear hxy
          go_wp2
          go_quiet (fail)
          go_wp2
          go_ret
          exact ⟨retB (Eq.symm (by simp; intro h; have h1 := Hx.out; rw [h, Hy.out] at h1; exact Hxy.out (Option.some.inj h1).symm)), quiet2 _ _ _⟩
      · go_wp2
        go_ret
        exact ⟨retB (Eq.symm (by have h := Heq.out; have hl := Hl.out; rw [List.take_of_length_le (by omega), List.take_of_length_le (by omega)] at h; simp [h])), n, rfl⟩
  · have hne : decide (xs = ys) = false := by simp; intro h; exact hl (by rw [h])
    rw [hne]; clear hne
    have hl' : ((xs.length : Int) == (ys.length : Int)) = false := by simp; omega
    go_enter Tryz.func227, Tryz.ntmps227
    go_wp2
    go_ret
    exact ⟨rfl, 0, rfl⟩
theorem pow_wrap {n : Nat} (h : n ≤ 5) : wrap64 ((2 : Int) ^ n) = ((2 ^ n : Nat) : Int) := by
  exact match n, h with
  | 0, _ => by unfold wrap64; decide
  | 1, _ => by unfold wrap64; decide
  | 2, _ => by unfold wrap64; decide
  | 3, _ => by unfold wrap64; decide
  | 4, _ => by unfold wrap64; decide
  | 5, _ => by unfold wrap64; decide
theorem bit_at (k m : Nat) : bits .and .i64 ((k : Int) / 2 ^ m) 1 = ((k / 2 ^ m % 2 : Nat) : Int) := by
  rw [i64_and1]; push_cast; rfl
theorem pow_le32 {n : Nat} (h : n ≤ 5) : 2 ^ n ≤ 32 := Nat.pow_le_pow_right (n := 2) (by decide) h
theorem LinesFor_i (v : Value) (rs : List Int) (n : Nat) (w : World) (hv : Ints w v rs) (h1 : 1 ≤ n) (h2 : n ≤ 5) : Calls Tryz.prog 179 #[v, .int .i64 n] w (New 32 (Own 3 IntV) w (linesFor rs n)) := by
  have hin : inR 1 5 n = true := inR_t (by omega) (by omega)
  obtain ⟨N, hN⟩ : ∃ N : Nat, N = 2 ^ n := ⟨_, rfl⟩
  have hN32 : N ≤ 32 := by rw [hN]; exact pow_le32 h2
  have hpow : wrap64 ((2 : Int) ^ n) = (N : Int) := by rw [hN]; exact pow_wrap h2
  have HN := Lib.hid hN; clear hN
  go_enter Tryz.func179, Tryz.ntmps179
  go_wp2_with (first | (go_at_call 95; refine (within_c _ _ _ _).mono ?_; rintro e w' ⟨rfl, rfl⟩))
  have Hin := Lib.hid hin; clear hin
  go_loopw [5, 6, 7, 8] (fun v i _ _ wr => ∃ k : Nat, k ≤ N ∧ i = .int .i64 k ∧ Own 32 (Own 3 IntV) (Iv w.heap.size wr.heap.size) wr v (linesTo n rs k) ∧ Below w.heap.size w wr) (fun _ i _ _ _ => N - (intOf i).toNat)
  case atStart => exact ⟨0, Nat.zero_le _, rfl, Own.nil _ _ _ _, Below.refl _ _⟩
  case round =>
    obtain ⟨k, hk, rfl, hown, hbel⟩ := hrel
    obtain ⟨wo, rfl⟩ : ∃ wo : World, wo = wr := ⟨_, rfl⟩
    have hBs := hbel.size
    have Hown := Lib.hid hown; clear hown
    by_cases hlt : k < N
    · go_wp2_with (first | (at_make; refine wpList_mk _ rfl _ _ 32 rfl 3 Tryz.underlying32 infoInt rfl (by decide) (R := IntV) 0 ⟨rfl, I64.small (by decide) (by decide)⟩ rIntV n rfl rfl (by omega) ?_; intro w1 hown1 hbel1 hsz1; have Hsz1 := Lib.hid hsz1; clear hsz1))
      have hown1' : Own 3 IntV (fun b => b = wo.heap.size) w1 (.slice (some ⟨wo.heap.size, 0, none⟩) n n) ((bitsLine n k).take 0 ++ List.replicate (n - 0) 0) := by simpa using hown1
      have Hown1 := Lib.hid hown1'
      clear hown1 hown1'
      go_loopw [8, 22] (fun _ i wr => ∃ j : Nat, j ≤ n ∧ i = .int .i64 j ∧ Own 3 IntV (fun b => b = wo.heap.size) wr (.slice (some ⟨wo.heap.size, 0, none⟩) n n) ((bitsLine n k).take j ++ List.replicate (n - j) 0) ∧ Below wo.heap.size wo wr ∧ wr.heap.size = w1.heap.size) (fun _ i _ => n - (intOf i).toNat)
      case atStart => exact ⟨0, Nat.zero_le _, rfl, Hown1.out, hbel1, rfl⟩
      case round =>
        clear Hown1 hbel1
        obtain ⟨j, hj, rfl, hown2, hbel2, hsz2⟩ := hrel
        have Hsz2 := Lib.hid hsz2; clear hsz2
        by_cases hlt2 : j < n
        · have hl : ((bitsLine n k).take j ++ List.replicate (n - j) 0).length = n := by simp [bitsLine_len]; omega
          obtain ⟨y, hcd, hfd⟩ := hown2.ints_at (k := j) (by rw [hl]; exact hlt2)
          have Hown2 := Lib.hid hown2
          have Hl := Lib.hid hl
          clear hown2 hl
          go_wp2
          go_roundw
          case rel =>
            refine ⟨j + 1, by omega, by go_num, ?_, hbel2.setCell (Nat.le_refl _) _, by rw [size_setCell, Hsz2.out]⟩
            rw [bit_at, ← bits_set hlt2]
            exact Hown2.out.setInt (by rw [Hl.out]; exact hlt2) (I64.small (by omega) (by omega))
          case measure => simp [intOf]; omega
        · have hlen := bitsLine_len n k
          have hll : (bitsLine n k).length ≤ 5 := by omega
          obtain rfl : j = n := by omega
          have hown3 : Own 3 IntV (fun b => b = wo.heap.size) wr (.slice (some ⟨wo.heap.size, 0, none⟩) j j) (bitsLine j k) := by
            rw [List.take_of_length_le (by omega), Nat.sub_self] at hown2
            simpa using hown2
          have hln := runsOf_len (bitsLine j k)
          have hqr : Ints wr (.slice (some ⟨wo.heap.size, 0, none⟩) j j) (bitsLine j k) := hown3.ints
          have hb3 := hbel.trans (hbel2.mono hBs)
          have Hown3 := Lib.hid hown3
          clear hown2 hown3 hlen
          have Hln := Lib.hid (linesTo_len j rs k)
          have Hls := Lib.hid (linesTo_succ j rs k)
          have hsz := Hsz2.out
          have hsz1 := Hsz1.out
          have hBr : wo.heap.size ≤ wr.heap.size := hbel2.size
          go_wp2_with (fail)
          refine (RunsOf_i _ _ _ hqr (by omega)).mono ?_
          rintro e w5 ⟨v5, rfl, hown5, hbel5⟩
          have s5 := hbel5.size
          have hb5 := hb3.trans_pure hbel5 (Nat.le_refl _)
          go_wp2_with (fail)
          refine (Equal_q _ _ _ _ _ hown5.ints (hv.keep hb5)).mono ?_
          rintro e w' ⟨rfl, n6, rfl⟩
          have hbw : Below wo.heap.size wo (w5.drewN n6) := (below_drewN (hbel2.trans_pure hbel5 (Nat.le_refl _)) n6)
          have hall := below_drewN hb5 n6
          have hlnk : (linesTo j rs k).length < 1099511627776 := by have := Hln.out; omega
          have hline : Own 3 IntV (Iv wo.heap.size (w5.drewN n6).heap.size) (w5.drewN n6) (.slice (some ⟨wo.heap.size, 0, none⟩) j j) (bitsLine j k) :=
            ((rOwn rIntV).same (below_drewN hbel5 n6 |> fun h => sameOn_below h (fun b hb => by have hb : b = wo.heap.size := hb; omega)) Hown3.out).point rIntV (Nat.le_refl _) (by show wo.heap.size < w5.heap.size; omega)
          have hs6 : wo.heap.size ≤ (w5.drewN n6).heap.size := by show wo.heap.size ≤ w5.heap.size; omega
          have Hline := Lib.hid hline
          clear hline hsz hsz1
          by_cases he : runsOf (bitsLine j k) = rs
          · have hd : decide (runsOf (bitsLine j k) = rs) = true := by simp [he]
            have He := Lib.hid he
            clear he
            go_wp2_with (first | (at_builtin; refine wpList_appR rfl _ _ 31 rfl (rOwn rIntV) 32 Tryz.underlying31 infoInts rfl (by decide) w.heap.size wo.heap.size hBs hs6 rfl rfl (by exact Own.keep (rOwn rIntV) Hown.out hbw (Nat.le_refl _)) (by exact Hline.out) hlnk ?_; intro v7 w7 hown7 hbel7 _))
            have hb7 := hall.trans hbel7
            have Hown7 := Lib.hid hown7
            clear hown7
            go_wp2
            go_roundw
            case rel => exact ⟨k + 1, by omega, by go_num, by rw [Hls.out, if_pos He.out]; exact Hown7.out, hb7⟩
            case measure => simp [intOf]; omega
          · have hd : decide (runsOf (bitsLine j k) = rs) = false := by simp [he]
            have He := Lib.hid he
            clear he
            go_wp2
            go_roundw
            case rel => exact ⟨k + 1, by omega, by go_num, by rw [Hls.out, if_neg He.out]; exact Own.grow (rOwn rIntV) Hown.out (Nat.le_refl _) hbw, hall⟩
            case measure => simp [intOf]; omega
    · go_wp2
      go_ret
      obtain rfl : k = N := by omega
      refine ⟨_, rfl, ?_, hbel⟩
      have h := Hown.out
      rw [HN.out] at h
      exact h
def SolveRes (w : World) (r : Option (List Int)) (e : Ending) (w' : World) : Prop :=
  Below w.heap.size w w' ∧ match r with
  | none => e = .returned (.tuple #[.slice none 0 0, .bool false])
  | some o => ∃ v', e = .returned (.tuple #[v', .bool true]) ∧ Own 3 IntV (Iv w.heap.size w'.heap.size) w' v' o
theorem Own.set_self {α : Type} {E : TypeId} {R : RepT α} {S : Bk} {w : World} {v : Value} {xs : List α} {k : Nat} {x : α} (h : Own E R S w v xs) (hk : xs[k]? = some x) : Own E R S w v (xs.set k x) := by
  obtain ⟨h1, h2⟩ := List.getElem?_eq_some_iff.1 hk
  have : xs.set k x = xs := by rw [← h2]; exact List.set_getElem_self h1
  rwa [this]
def SolveAt (S : Bk) (L : List (List Int)) (g cap : Nat) (wr : World) (v6 : Value) (acc : Option (List Int)) (k : Nat) : Prop :=
  match acc with
  | none => v6 = .slice none 0 0 ∧ Own 32 (Own 3 IntV) S wr (.slice (some ⟨g, 0, none⟩) L.length cap) L
  | some o => ∃ k0, k0 < k ∧ Own 32 (Own 3 IntV) S wr (.slice (some ⟨g, 0, none⟩) L.length cap) (L.set k0 o) ∧ wr.cell? ⟨g, k0, none⟩ = some v6
theorem SolveLine_i (v v2 : Value) (rs st : List Int) (w : World) (hv : Ints w v rs) (hv2 : Ints w v2 st) : Calls Tryz.prog 249 #[v, v2] w (SolveRes w (solveLine rs st)) := by
  obtain ⟨a2, cap2, rfl, hcap2, hle2, -, hc2⟩ := id hv2
  cases hok : stateOk st
  · have Hr := Lib.hid (show solveLine rs st = none from by simp [solveLine, hok])
    have hok' := hok
    unfold stateOk at hok'
    cases hin : inR 1 5 st.length
    · go_enter Tryz.func249, Tryz.ntmps249
      go_wp2_with (first | (go_at_call 95; refine (within_c _ _ _ _).mono ?_; rintro e w' ⟨rfl, rfl⟩))
      go_ret2
      rw [Hr.out]
      exact ⟨Below.refl _ _, rfl⟩
    · have hal : st.all (inR (-1) 1) = false := by simpa [hin] using hok'
      go_enter Tryz.func249, Tryz.ntmps249
      go_wp2_with (first | (go_at_call 95; refine (within_c _ _ _ _).mono ?_; rintro e w' ⟨rfl, rfl⟩) | (go_at_call 157; refine (allWithin_c _ _ _ _ _ hv2).mono ?_; rintro e w' ⟨rfl, rfl⟩))
      go_ret2
      rw [Hr.out]
      exact ⟨Below.refl _ _, rfl⟩
  have Hr := Lib.hid (show solveLine rs st = solveTo (linesFor rs st.length) st (linesFor rs st.length).length from by simp [solveLine, hok])
  have hok' := hok
  unfold stateOk at hok'
  rw [Bool.and_eq_true] at hok'
  obtain ⟨hin, hal⟩ := hok'
  have hb := inR_iff.1 hin
  have hn1 : 1 ≤ st.length := by omega
  have hn2 : st.length ≤ 5 := by omega
  clear hb hok
  obtain ⟨L, hL⟩ : ∃ L, L = linesFor rs st.length := ⟨_, rfl⟩
  rw [← hL] at Hr
  have hmem : ∀ l ∈ L, l.length = st.length ∧ ∀ x ∈ l, 0 ≤ x ∧ x ≤ 1 := fun l hl => linesTo_mem (by rw [hL] at hl; exact hl)
  have hLl : L.length ≤ 32 := by rw [hL]; exact Nat.le_trans (linesTo_len _ _ _) (pow_le32 hn2)
  have hcall := LinesFor_i v rs st.length w hv hn1 hn2
  rw [← hL] at hcall
  have Hwf := Lib.hid (fun k hk o ho => solveTo_wf (n := st.length) (rs := rs) (st := st) k hk o ho)
  rw [← hL] at Hwf
  have Hmem := Lib.hid hmem
  have Hcall := Lib.hid hcall
  clear hL hmem hcall
  have heqn := fun (w : World) (a : Option Addr) (n c n' c' : Nat) => Lib.run_eql_slice_nil (P := Tryz.prog) w 32 3 a n c n' c' Tryz.underlying32
  have hneq := fun (w : World) (a : Option Addr) (n c n' c' : Nat) => run_neq_slice_nil_any (P := Tryz.prog) w 32 3 a n c n' c' Tryz.underlying32
  go_enter Tryz.func249, Tryz.ntmps249
  go_wp2_with (first | (go_at_call 95; refine (within_c _ _ _ _).mono ?_; rintro e w' ⟨rfl, rfl⟩) | (go_at_call 157; refine (allWithin_c _ _ _ _ _ hv2).mono ?_; rintro e w' ⟨rfl, rfl⟩))
  refine Hcall.out.mono ?_
  rintro e w1 ⟨v1, rfl, hown, hbel⟩
  have Hin := Lib.hid hin
  have Hal := Lib.hid hal
  have hB1 := hbel.size
  clear hin hal
  rcases hown.inv with ⟨rfl, hLnil⟩ | ⟨g, cap, rfl, hg, hcap, hgs, -⟩
  · have hr0 : solveLine rs st = none := by rw [Hr.out, hLnil]; rfl
    have Hr0 := Lib.hid hr0
    clear hLnil hr0 hown
    go_wp2
    refine wp_loop_rounds 1 ?_
    rw [rounds_succ]
    go_wp2
    go_ret2
    rw [Hr0.out]
    exact ⟨hbel, rfl⟩
  have hS : ∀ b, Iv w.heap.size w1.heap.size b → b < w1.heap.size := fun b hb => hb.2
  have Hown := Lib.hid hown
  have HS := Lib.hid hS
  clear hown hS
  go_wp2
  go_loopw [6, 8, 9, 10, 11, 12, 13, 28] (fun v6 _ _ _ _ _ _ i wr => ∃ k : Nat, k ≤ L.length ∧ i = .int .i64 k ∧ SolveAt (Iv w.heap.size w1.heap.size) L g cap wr v6 (solveTo L st k) k ∧ Below w.heap.size w wr ∧ wr.heap.size = w1.heap.size) (fun _ _ _ _ _ _ _ i _ => L.length - (intOf i).toNat)
  case atStart => exact ⟨0, Nat.zero_le _, rfl, ⟨rfl, Hown.out⟩, hbel, rfl⟩
  case round =>
    clear Hown hbel
    obtain ⟨k, hk, rfl, hat, hbel, hsz⟩ := hrel
    have Hsz := Lib.hid hsz; clear hsz
    by_cases hlt : k < L.length
    · obtain ⟨line, hline⟩ : ∃ l, L[k]? = some l := ⟨_, List.getElem?_eq_getElem hlt⟩
      obtain ⟨hll, hlb⟩ := Hmem.out line (List.mem_of_getElem? hline)
      obtain ⟨Lc, hown, hLc, hLcl⟩ : ∃ Lc, Own 32 (Own 3 IntV) (Iv w.heap.size w1.heap.size) wr (.slice (some ⟨g, 0, none⟩) L.length cap) Lc ∧ Lc[k]? = some line ∧ Lc.length = L.length := by
        unfold SolveAt at hat
        cases hacc : solveTo L st k with
        | none => rw [hacc] at hat; exact ⟨L, hat.2, hline, rfl⟩
        | some o =>
          rw [hacc] at hat
          obtain ⟨k0, hk0, ho, _⟩ := hat
          exact ⟨_, ho, by rw [List.getElem?_set_ne (by omega)]; exact hline, by simp⟩
      obtain ⟨q, cq, hcell, -, hq, hqg, hcq, -, hqc, -⟩ := own_grid_cell hown hLc (by omega)
      rw [hll] at hcell hcq
      obtain ⟨b, off, rfl, hb, hc'⟩ := hc2 (by omega)
      have hbr : ∀ j x, st[j]? = some x → wr.cell? ⟨b, off + j, none⟩ = some (.int .i64 x) := fun j x hx => by
        obtain ⟨u, hu, rfl, -⟩ := hc' j x hx
        rw [hbel.cell (p := ⟨b, off + j, none⟩) hb, hu]
      have Hbr := Lib.hid hbr
      have Hqc := Lib.hid hqc
      have Hline := Lib.hid hline
      have Hll := Lib.hid hll
      have Hat := Lib.hid hat
      have Hown := Lib.hid hown
      have HLc := Lib.hid hLc
      have hdec : decide ((k : Int) < (L.length : Int)) = true := by simp; omega
      clear hc2 hc' hbr hqc hline hll hat hown hLc hLcl hlb
      go_wp2
      go_loop [9, 10, 11, 34] (fun a _ _ i => ∃ j : Nat, j ≤ st.length ∧ i = .int .i64 j ∧ a = .bool (agreesTo st line j)) (fun _ _ _ i => st.length - (intOf i).toNat)
      case atStart => exact ⟨0, Nat.zero_le _, rfl, rfl⟩
      case round =>
        obtain ⟨j, hj, rfl, rfl⟩ := hrel
        by_cases hlt2 : j < st.length
        · obtain ⟨x, hx⟩ : ∃ x, st[j]? = some x := ⟨_, List.getElem?_eq_getElem hlt2⟩
          obtain ⟨c, hc⟩ : ∃ c, line[j]? = some c := ⟨_, List.getElem?_eq_getElem (by rw [Hll.out]; exact hlt2)⟩
          have hcx := Hbr.out j x hx
          have hcc := Hqc.out j c hc
          have Hs := Lib.hid (agreesTo_succ st line j)
          have He := Lib.hid (agreeAt_eq hx hc)
          have hgx : st[j]?.getD 0 = x := by rw [hx]; rfl
          clear hx hc hgx
          cases hag : agreesTo st line j
          · have Hag := Lib.hid hag
            go_wp2
            go_round
            case rel => exact ⟨j + 1, by omega, by go_num, by rw [Hs.out, Hag.out]; rfl⟩
            case measure => simp [intOf]; omega
          · have Hag := Lib.hid hag
            by_cases hx0 : x < 0
            · go_wp2
              go_round
              case rel => exact ⟨j + 1, by omega, by go_num, by rw [Hs.out, Hag.out, He.out]; simp [hx0]⟩
              case measure => simp [intOf]; omega
            · have hd : decide (x < 0) = false := by simp; omega
              have Hd := Lib.hid hd
              go_wp2
              go_round
              case rel => exact ⟨j + 1, by omega, by go_num, by rw [Hs.out, Hag.out, He.out, Hd.out]; simp⟩
              case measure => simp [intOf]; omega
        · have hjn : j = line.length := by have := Hll.out; omega
          have Hjn := Lib.hid hjn
          clear hjn
          have Hsol := Lib.hid (solveTo_succ (st := st) Hline.out)
          cases hag : agreesTo st line j
          · have Hag := Lib.hid (show solveTo L st (k + 1) = solveTo L st k from by rw [Hsol.out]; simp [solveStep, agrees, ← Hjn.out, hag])
            go_wp2
            go_roundw
            case rel =>
              refine ⟨k + 1, by omega, by go_num, ?_, hbel, Hsz.out⟩
              rw [Hag.out]
              have h := Hat.out
              unfold SolveAt at h ⊢
              split
              · rename_i e; rw [e] at h; exact h
              · rename_i o e; rw [e] at h
                obtain ⟨k0, h1, h2⟩ := h
                exact ⟨k0, by omega, h2⟩
            case measure => simp [intOf]; omega
          · have hstep : solveTo L st (k + 1) = some (match solveTo L st k with | none => line | some o => mergeL o line) := by
              rw [Hsol.out]; unfold solveStep agrees; rw [← Hjn.out, hag]; rfl
            clear hag
            cases hacc : solveTo L st k with
            | none =>
              have hat := Hat.out
              rw [hacc] at hstep hat
              obtain ⟨rfl, hownL⟩ := hat
              have Hstep := Lib.hid hstep
              have HownL := Lib.hid hownL
              clear hstep hownL hacc
              go_wp2
              go_loop [12, 13, 63] (fun _ _ i => ∃ j : Nat, j ≤ st.length ∧ i = .int .i64 j) (fun _ _ i => st.length - (intOf i).toNat)
              case atStart => exact ⟨0, Nat.zero_le _, rfl⟩
              case round =>
                obtain ⟨i, hi, rfl⟩ := hrel
                by_cases hlt3 : i < st.length
                · obtain ⟨c, hc⟩ : ∃ c, line[i]? = some c := ⟨_, List.getElem?_eq_getElem (by rw [Hll.out]; exact hlt3)⟩
                  have hcc := Hqc.out i c hc
                  clear hc
                  go_wp2
                  go_round
                  case rel => exact ⟨i + 1, by omega, by go_num⟩
                  case measure => simp [intOf]; omega
                · go_wp2
                  go_roundw
                  case rel =>
                    refine ⟨k + 1, by omega, by go_num, ?_, hbel, Hsz.out⟩
                    rw [Hstep.out]
                    exact ⟨k, Nat.lt_succ_self k, HownL.out.set_self Hline.out, hcell⟩
                  case measure => simp [intOf]; omega
            | some o =>
              have hat := Hat.out
              rw [hacc] at hstep hat
              obtain ⟨k0, hk0, hownL, hcell0⟩ := hat
              obtain ⟨hol, -⟩ := Hwf.out _ (by omega) o hacc
              have hk0' : (L.set k0 o)[k0]? = some o := by rw [List.getElem?_set_self (by omega)]
              obtain ⟨q0, cq0, hc0, -⟩ := own_grid_cell hownL hk0' (by omega)
              rw [hol] at hc0
              obtain rfl : u6 = .slice (some ⟨q0, 0, none⟩) st.length cq0 := by rw [hcell0] at hc0; exact Option.some.inj hc0
              obtain ⟨wo, rfl⟩ : ∃ wo : World, wo = wr := ⟨_, rfl⟩
              have hown0 : Own 32 (Own 3 IntV) (Iv w.heap.size w1.heap.size) wo (.slice (some ⟨g, 0, none⟩) L.length cap) (L.set k0 (mergeTo o line 0)) := by rw [mergeTo_zero]; exact hownL
              have hoo : o.length = line.length := by rw [hol, Hll.out]
              have Hstep := Lib.hid hstep
              have Hown0 := Lib.hid hown0
              have Hol := Lib.hid hol
              have Hoo := Lib.hid hoo
              have Hc0 := Lib.hid hc0
              have Hcell := Lib.hid hcell
              clear hstep hownL hown0 hacc hk0' hol hoo hc0 hcell0 hcell
              go_wp2
              go_loopw [12, 13, 63] (fun _ _ i wr => ∃ j : Nat, j ≤ st.length ∧ i = .int .i64 j ∧ Own 32 (Own 3 IntV) (Iv w.heap.size w1.heap.size) wr (.slice (some ⟨g, 0, none⟩) L.length cap) (L.set k0 (mergeTo o line j)) ∧ wr.cell? ⟨g, k0, none⟩ = some (.slice (some ⟨q0, 0, none⟩) st.length cq0) ∧ wr.cell? ⟨g, k, none⟩ = some (.slice (some ⟨q, 0, none⟩) st.length cq) ∧ Below w.heap.size w wr ∧ wr.heap.size = w1.heap.size) (fun _ _ i _ => st.length - (intOf i).toNat)
              case atStart => exact ⟨0, Nat.zero_le _, rfl, Hown0.out, Hc0.out, Hcell.out, hbel, Hsz.out⟩
              case round =>
                clear Hown0 Hc0 Hcell hbel Hsz
                obtain ⟨i, hi, rfl, hownM, hc0, hck, hbel, hsz⟩ := hrel
                have Hsz := Lib.hid hsz
                clear hsz
                by_cases hlt3 : i < st.length
                · obtain ⟨c, hc⟩ : ∃ c, line[i]? = some c := ⟨_, List.getElem?_eq_getElem (by rw [Hll.out]; exact hlt3)⟩
                  obtain ⟨a, ha⟩ : ∃ a, o[i]? = some a := ⟨_, List.getElem?_eq_getElem (by rw [Hol.out]; exact hlt3)⟩
                  have hml := mergeTo_len Hoo.out i
                  have hma := mergeTo_at Hoo.out ha
                  have hk0' : (L.set k0 (mergeTo o line i))[k0]? = some (mergeTo o line i) := by rw [List.getElem?_set_self (by omega)]
                  have hkk : (L.set k0 (mergeTo o line i))[k]? = some line := by rw [List.getElem?_set_ne (by omega)]; exact Hline.out
                  obtain ⟨q0', cq0', hc0', hgS, hq0S, hq0g, hcq0, hfree, hval, hset⟩ := own_grid_cell hownM hk0' (by rw [hml, Hol.out]; omega)
                  rw [hml, Hol.out] at hc0' hcq0 hfree
                  obtain ⟨rfl, rfl⟩ : q0 = q0' ∧ cq0 = cq0' := by rw [hc0] at hc0'; simpa using hc0'
                  obtain ⟨q', cq', hck', -, hqS', hqg', -, -, hval', -⟩ := own_grid_cell hownM hkk (by rw [Hll.out]; omega)
                  rw [Hll.out] at hck'
                  obtain ⟨rfl, rfl⟩ : q = q' ∧ cq = cq' := by rw [hck] at hck'; simpa using hck'
                  have hca := hval i a hma
                  have hcc := hval' i c hc
                  obtain ⟨-, hfa⟩ := hfree i hlt3
                  have hwB : w.heap.size ≤ q0 := hq0S.1
                  by_cases hac : a = c
                  · subst hac
                    have Hsame := Lib.hid (mergeTo_same Hoo.out ha hc)
                    have HownM := Lib.hid hownM
                    clear hc ha hma hk0' hkk hc0' hck' hval hval' hset hfree hownM hml
                    go_wp2
                    go_roundw
                    case rel => exact ⟨i + 1, by omega, by go_num, by rw [Hsame.out]; exact HownM.out, hc0, hck, hbel, Hsz.out⟩
                    case measure => simp [intOf]; omega
                  · have hne : (a == c) = false := by simpa using hac
                    have hsucc := mergeTo_succ Hoo.out ha hc
                    rw [show mergeAt a c = -1 from by simp [mergeAt, hac]] at hsucc
                    have hnew := hset wr (fun _ _ => rfl) i (-1) (by rw [hml, Hol.out]; exact hlt3) (I64.small (by decide) (by decide))
                    rw [List.set_set, ← hsucc] at hnew
                    have Hnew := Lib.hid hnew
                    have hc0n : (wr.setCell ⟨q0, i, none⟩ (.int .i64 (-1))).cell? ⟨g, k0, none⟩ = some (.slice (some ⟨q0, 0, none⟩) st.length cq0) := by
                      rw [World.cell?_of_block (w := wr) (Below.heap_setCell wr _ _ g (fun e => hq0g e.symm))]; exact hc0
                    have hckn : (wr.setCell ⟨q0, i, none⟩ (.int .i64 (-1))).cell? ⟨g, k, none⟩ = some (.slice (some ⟨q, 0, none⟩) st.length cq) := by
                      rw [World.cell?_of_block (w := wr) (Below.heap_setCell wr _ _ g (fun e => hq0g e.symm))]; exact hck
                    have Hc0n := Lib.hid hc0n
                    have Hckn := Lib.hid hckn
                    have Hac := Lib.hid hac
                    clear hc ha hma hk0' hkk hc0' hck' hval hval' hset hfree hownM hml hsucc hnew hc0n hckn hac
                    go_wp2
                    go_roundw
                    case rel => exact ⟨i + 1, by omega, by go_num, Hnew.out, Hc0n.out, Hckn.out, hbel.setCell hwB _, by rw [size_setCell, Hsz.out]⟩
                    case measure => simp [intOf]; omega
                · have hin' : i = line.length := by have := Hll.out; omega
                  have HownM := Lib.hid (show Own 32 (Own 3 IntV) (Iv w.heap.size w1.heap.size) wr (.slice (some ⟨g, 0, none⟩) L.length cap) (L.set k0 (mergeL o line)) from by rw [← mergeTo_all Hoo.out, ← hin']; exact hownM)
                  have Hc0 := Lib.hid hc0
                  clear hownM hin' hc0 hck
                  go_wp2
                  go_roundw
                  case rel =>
                    refine ⟨k + 1, by omega, by go_num, ?_, hbel, Hsz.out⟩
                    rw [Hstep.out]
                    exact ⟨k0, by omega, HownM.out, Hc0.out⟩
                  case measure => simp [intOf]; omega
    · have hkL : k = L.length := by omega
      subst hkL
      cases hacc : solveTo L st L.length with
      | none =>
        rw [hacc] at hat
        obtain ⟨rfl, -⟩ := hat
        have Hacc := Lib.hid hacc
        clear hacc
        go_wp2
        go_ret2
        rw [Hr.out, Hacc.out]
        exact ⟨hbel, rfl⟩
      | some o =>
        rw [hacc] at hat
        obtain ⟨k0, hk0, hown, hcell⟩ := hat
        have hk0' : (L.set k0 o)[k0]? = some o := by rw [List.getElem?_set_self hk0]
        obtain ⟨ho1, ho2⟩ := Hwf.out _ (Nat.le_refl _) o hacc
        obtain ⟨-, -, -, -, T, u, hu, hr, hT, -⟩ := hown.focus (rOwn rIntV) hk0'
        obtain rfl : u = u6 := by rw [hcell] at hu; exact (Option.some.inj hu).symm
        obtain ⟨q, cq, rfl, -⟩ := hr.inv_ne (by omega)
        have Hacc := Lib.hid hacc
        have Hr' := Lib.hid hr
        have HT := Lib.hid hT
        clear hacc hown hcell hk0' hr hT hu ho1 ho2
        go_wp2
        go_ret2
        rw [Hr.out, Hacc.out]
        exact ⟨hbel, _, rfl, (rOwn rIntV).mono (fun b hb => by rw [Hsz.out]; exact (HT.out b hb).1) Hr'.out⟩
theorem Shape.cell {r c : Nat} {m : List (List Int)} (h : Shape r c m) {y : Nat} (hy : y < r) : ∃ row, m[y]? = some row ∧ row.length = c := by
  obtain ⟨row, h1, h2, _⟩ := h.row hy
  exact ⟨row, h1, h2⟩
theorem solveRes2 {w w' : World} {r : Option (List Int)} {e : Ending} (h : SolveRes w r e w') : ∃ v', e = .returned (.tuple #[v', .bool r.isSome]) ∧ Own 3 IntV (Iv w.heap.size w'.heap.size) w' v' (r.getD []) ∧ Below w.heap.size w w' := by
  obtain ⟨h1, h2⟩ := h
  cases r with
  | none => exact ⟨_, h2, Own.nil _ _ _ _, h1⟩
  | some o => obtain ⟨v', e, ho⟩ := h2; exact ⟨v', e, ho, h1⟩
theorem SolveLine_i2 (v v2 : Value) (rs st : List Int) (w : World) (hv : Ints w v rs) (hv2 : Ints w v2 st) : Calls Tryz.prog 249 #[v, v2] w fun e w' => ∃ v', e = .returned (.tuple #[v', .bool (solveLine rs st).isSome]) ∧ Own 3 IntV (Iv w.heap.size w'.heap.size) w' v' ((solveLine rs st).getD []) ∧ Below w.heap.size w w' :=
  (SolveLine_i v v2 rs st w hv hv2).mono fun _ _ h => solveRes2 h
theorem same1_q (v v2 : Value) (xs ys : List Int) (w : World) (hv : Ints w v xs) (hv2 : Ints w v2 ys) : Calls Tryz.prog 248 #[v, v2] w fun e w' => e = .returned (.bool (decide (xs = ys))) ∧ ∃ n, w' = w.drewN n := by
  go_enter Tryz.func248, Tryz.ntmps248
  go_wp2_with (fail)
  refine (Equal_q _ _ xs ys _ hv hv2).mono ?_
  rintro e w' ⟨rfl, m, rfl⟩
  go_wp2
  go_ret
  exact ⟨rfl, m, rfl⟩
theorem EqualFunc_q (v v2 : Value) (xs ys : List (List Int)) (w : World) (hv : Grid w v xs) (hv2 : Grid w v2 ys) : Calls Tryz.prog 247 #[v, v2, .func (.func 248) #[] #[]] w fun e w' => e = .returned (.bool (decide (xs = ys))) ∧ ∃ n, w' = w.drewN n := by
  have Hv := Lib.hid hv
  have Hv2 := Lib.hid hv2
  obtain ⟨a, cap, rfl, hcap, hle, -, -⟩ := hv
  obtain ⟨a2, cap2, rfl, hcap2, hle2, -, -⟩ := hv2
  by_cases hl : xs.length = ys.length
  · have hl1 : xs.length ≤ ys.length := by omega
    have hl2 : ys.length ≤ xs.length := by omega
    have Hl := Lib.hid hl; clear hl
    have hbe : ((xs.length : Int) != (ys.length : Int)) = false := by rw [bne_eq_false_iff_eq]; omega
    have hbe2 : ((xs.length : Int) == (ys.length : Int)) = true := by rw [beq_iff_eq]; omega
    go_enter Tryz.func247, Tryz.ntmps247
    go_wp2
    go_loopw [7, 8, 9, 17] (fun _ _ _ i wr => ∃ k n : Nat, k ≤ xs.length ∧ i = .int .i64 k ∧ xs.take k = ys.take k ∧ wr = w.drewN n) (fun _ _ _ i _ => xs.length - (intOf i).toNat)
    case atStart => exact ⟨0, 0, Nat.zero_le _, rfl, rfl, rfl⟩
    case round =>
      obtain ⟨k, n, hk, rfl, heq, rfl⟩ := hrel
      have Heq := Lib.hid heq; clear heq
      by_cases hlt : k < xs.length
      · obtain ⟨x, hx⟩ : ∃ x, xs[k]? = some x := ⟨_, List.getElem?_eq_getElem hlt⟩
        obtain ⟨y, hy⟩ : ∃ y, ys[k]? = some y := ⟨_, List.getElem?_eq_getElem (by omega)⟩
        obtain ⟨b, off, c1, he, hb, -⟩ := Hv.out.inv_ne (by omega)
        obtain ⟨rfl, -⟩ : a = some ⟨b, off, none⟩ ∧ cap = c1 := by simpa using he
        obtain ⟨b2, off2, c2, he2, hb2, -⟩ := Hv2.out.inv_ne (by omega)
        obtain ⟨rfl, -⟩ : a2 = some ⟨b2, off2, none⟩ ∧ cap2 = c2 := by simpa using he2
        obtain ⟨u, hck, hu⟩ := Sl.at Hv.out hx
        obtain ⟨u2, hck2, hu2⟩ := Sl.at Hv2.out hy
        have hu : Ints w u x := hu
        have hu2 : Ints w u2 y := hu2
        obtain ⟨p1, p2, rfl, -⟩ := id hu
        obtain ⟨q1, q2, rfl, -⟩ := id hu2
        have Hu := Lib.hid (hu.keep (below_drewN (Below.refl _ _) n))
        have Hu2 := Lib.hid (hu2.keep (below_drewN (Below.refl _ _) n))
        have Hx := Lib.hid hx
        have Hy := Lib.hid hy
        clear hx hy he he2 hu hu2
        by_cases hxy : x = y
        · subst hxy
          go_wp2_with (fail)
          refine (same1_q _ _ x x _ Hu.out Hu2.out).mono ?_
          rintro e w' ⟨rfl, m, rfl⟩
          rw [decide_eq_true (rfl : x = x)]
          go_wp2
          go_roundw
          case rel => exact ⟨k + 1, n + m, by omega, by go_num, take_step_eq Heq.out Hx.out Hy.out, by first | rfl | exact World.drewN_drewN _ _ _⟩
          case measure => simp [intOf]; omega
        · have Hd := Lib.hid (show decide (x = y) = false from by simpa using hxy)
          have Hne := Lib.hid hxy
          clear hxy
          go_wp2_with (fail)
          refine (same1_q _ _ x y _ Hu.out Hu2.out).mono ?_
          rintro e w' ⟨rfl, m, rfl⟩
          rw [Hd.out]
          go_wp2
          go_ret
          exact ⟨retB (Eq.symm (by simp; intro h; have h1 := Hx.out; rw [h, Hy.out] at h1; exact Hne.out (Option.some.inj h1).symm)), n + m, rfl⟩
      · have hdk : decide ((k : Int) < (xs.length : Int)) = false := by simp; omega
        go_wp2
        go_ret
        exact ⟨retB (Eq.symm (by have h := Heq.out; have hl := Hl.out; rw [List.take_of_length_le (by omega), List.take_of_length_le (by omega)] at h; simp [h])), n, rfl⟩
  · have hne : decide (xs = ys) = false := by simp; intro h; exact hl (by rw [h])
    rw [hne]; clear hne
    have hl' : ((xs.length : Int) == (ys.length : Int)) = false := by simp; omega
    go_enter Tryz.func247, Tryz.ntmps247
    go_wp2
    go_ret
    exact ⟨rfl, 0, rfl⟩
theorem SameImage_i_q (v v2 : Value) (xs ys : List (List Int)) (w : World) (hv : Grid w v xs) (hv2 : Grid w v2 ys) : Calls Tryz.prog 178 #[v, v2] w fun e w' => e = .returned (.bool (decide (xs = ys))) ∧ ∃ n, w' = w.drewN n := by
  go_enter Tryz.func178, Tryz.ntmps178
  go_wp2_with (fail)
  refine (EqualFunc_q _ _ xs ys _ hv hv2).mono ?_
  rintro e w' ⟨rfl, m, rfl⟩
  go_wp2
  go_ret
  exact ⟨rfl, m, rfl⟩
theorem SameImage_i_c (v v2 : Value) (xs ys : List (List Int)) (w : World) (hv : Grid w v xs) (hv2 : Grid w v2 ys) : Calls Tryz.prog 178 #[v, v2] w fun e w' => e = .returned (.bool (decide (xs = ys))) ∧ Below w.heap.size w w' :=
  (SameImage_i_q v v2 xs ys w hv hv2).mono fun _ _ ⟨he, n, hn⟩ => ⟨he, by subst hn; exact below_drewN (Below.refl _ _) n⟩
end Go.Proofs.YthmocomfjgmjoaaGreatDoor
namespace Go.Proofs.YthmocomfjgmjoaaGreatDoor
def keyOfLine (l : List Int) : Nat := l.foldl (fun a x => 2 * a + x.toNat) 0
theorem key_snoc (l : List Int) (x : Int) : keyOfLine (l ++ [x]) = 2 * keyOfLine l + x.toNat := by simp [keyOfLine]
theorem bitsLine_succ (n key : Nat) : bitsLine (n + 1) key = bitsLine n (key / 2) ++ [((key % 2 : Nat) : Int)] := by
  unfold bitsLine
  rw [List.range_succ, List.map_append]
  congr 1
  · apply List.map_congr_left
    intro x hx
    have hx : x < n := by simpa using hx
    have e : n + 1 - 1 - x = (n - 1 - x) + 1 := by omega
    rw [e, Nat.pow_succ, Nat.mul_comm, ← Nat.div_div_eq_div_mul]
  · simp
theorem snoc_ind {P : List Int → Prop} (h0 : P []) (h1 : ∀ l x, P l → P (l ++ [x])) (l : List Int) : P l := by
  have : ∀ n (l : List Int), l.length = n → P l := by
    intro n
    induction n with
    | zero => intro l hl; rw [List.eq_nil_of_length_eq_zero hl]; exact h0
    | succ n ih =>
      intro l hl
      rcases List.eq_nil_or_concat l with rfl | ⟨q, x, rfl⟩
      · simp at hl
      · rw [List.concat_eq_append] at hl ⊢
        exact h1 q x (ih q (by simpa using hl))
  exact this _ l rfl
theorem line_key (l : List Int) : (∀ x ∈ l, 0 ≤ x ∧ x ≤ 1) → keyOfLine l < 2 ^ l.length ∧ bitsLine l.length (keyOfLine l) = l := by
  refine snoc_ind (P := fun l => (∀ x ∈ l, 0 ≤ x ∧ x ≤ 1) → keyOfLine l < 2 ^ l.length ∧ bitsLine l.length (keyOfLine l) = l) ?_ ?_ l
  · intro _; simp [keyOfLine, bitsLine]
  · intro l x ih h
    obtain ⟨i1, i2⟩ := ih (fun y hy => h y (by simp [hy]))
    have hx := h x (by simp)
    rw [key_snoc, List.length_append, List.length_singleton, Nat.pow_succ, bitsLine_succ]
    have e1 : (2 * keyOfLine l + x.toNat) / 2 = keyOfLine l := by omega
    have e2 : (((2 * keyOfLine l + x.toNat) % 2 : Nat) : Int) = x := by omega
    rw [e1, e2, i2]
    exact ⟨by omega, rfl⟩
end Go.Proofs.YthmocomfjgmjoaaGreatDoor

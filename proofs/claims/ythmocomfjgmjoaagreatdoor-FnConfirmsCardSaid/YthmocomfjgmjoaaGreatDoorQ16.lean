/- Contracts and plain laws that the claims on sessions use. No condition of their own. -/
import Derived.Test.YthmocomfjgmjoaaGreatDoorQ09
import Derived.Test.YthmocomfjgmjoaaGreatDoorQ15
import Derived.Test.YthmocomfjgmjoaaGreatDoorQ03
import Derived.Test.YthmocomfjgmjoaaGreatDoorQ10
import Derived.Test.YthmocomfjgmjoaaGreatDoorQ02
set_option maxHeartbeats 4000000
set_option maxRecDepth 100000
namespace Go.Proofs.YthmocomfjgmjoaaGreatDoor
open Go.RowKit
def buildG (rows cols : List Int) : Option (List (List Int)) := if existsB rows cols = true then some (bld rows cols) else none
def asI (l : List Nat) : List Int := l.map fun n : Nat => (n : Int)
theorem asI_at {l : List Nat} {k p : Nat} (h : l[k]? = some p) : (asI l)[k]? = some (p : Int) := by unfold asI; rw [List.getElem?_map, h]; rfl
theorem asI_set (l : List Nat) (k p : Nat) : (asI l).set k (p : Int) = asI (l.set k p) := by unfold asI; rw [List.map_set]
theorem asI_len (l : List Nat) : (asI l).length = l.length := List.length_map _
theorem cmpB_c (a b : Nat) (Bl : Nat) (lv : Value) (left : List Int) (w : World) (hbl : Blk w Bl #[lv] 32) (hl : Ints w lv left) (ha : a < left.length) (hb : b < left.length) (hbd : ∀ x ∈ left, -10 ≤ x ∧ x ≤ 10) :
    Calls Tryz.prog 107 #[.int .i64 a, .int .i64 b, .pointer (some ⟨Bl, 0, none⟩)] w fun e w' => e = .returned (.int .i64 (left.getD b 0 - left.getD a 0)) ∧ ∃ n, w' = w.drewN n := by
  have c0 : w.cell? ⟨Bl, 0, none⟩ = some lv := hbl.cell 0
  have h1 := hbd _ (List.mem_of_getElem? (gD_at 0 ha : left[a]? = some (left.getD a 0)))
  have h2 := hbd _ (List.mem_of_getElem? (gD_at 0 hb : left[b]? = some (left.getD b 0)))
  obtain ⟨bb, off, cp, rfl, hbb, -⟩ := hl.inv_ne (by omega)
  have c1 := Ints.at hl (gD_at 0 ha : left[a]? = some (left.getD a 0))
  have c2 := Ints.at hl (gD_at 0 hb : left[b]? = some (left.getD b 0))
  obtain ⟨za, hza⟩ : ∃ z, z = left.getD a 0 := ⟨_, rfl⟩
  obtain ⟨zb, hzb⟩ : ∃ z, z = left.getD b 0 := ⟨_, rfl⟩
  rw [← hza] at h1 c1 ⊢
  rw [← hzb] at h2 c2 ⊢
  have h11 := h1.1
  have h12 := h1.2
  have h21 := h2.1
  have h22 := h2.2
  clear hza hzb hl hbl hbd h1 h2
  go_enter Tryz.func107, Tryz.ntmps107
  go_wp2
  go_quiet (fail)
  go_wp2
  go_ret
  exact ⟨rfl, _, rfl⟩
theorem insSort_c (D capD c Bl : Nat) (lv : Value) (left : List Int) (S T : Bk) (w : World) (hc : 1 ≤ c) (hc5 : c ≤ 5) (hll : left.length = c) (hbd : ∀ x ∈ left, -10 ≤ x ∧ x ≤ 10)
    (ho : Own 3 IntV S w (.slice (some ⟨D, 0, none⟩) c capD) (asI (List.range c))) (hbl : Blk w Bl #[lv] 32) (hDl : D ≠ Bl) (hl : Own 3 IntV T w lv left) (hT : ∀ b, T b → b < w.heap.size ∧ b ≠ D) (hS : ∀ b, S b → b < w.heap.size) :
    Calls Tryz.prog 229 #[.slice (some ⟨D, 0, none⟩) c capD, .int .i64 0, .int .i64 c, .func (.func 107) #[] #[.pointer (some ⟨Bl, 0, none⟩)]] w
      fun e w' => e = .returned (.tuple #[]) ∧ Own 3 IntV S w' (.slice (some ⟨D, 0, none⟩) c capD) (asI (ordOf left c)) ∧ Only (fun b => b = D) w w' := by
  have Ho := Lib.hid ho
  have Hl := Lib.hid hl
  have HT := Lib.hid hT
  have Hbl := Lib.hid hbl
  have Hbd := Lib.hid hbd
  have Hll := Lib.hid hll
  have HS := Lib.hid hS
  have Hcmp : Hid (∀ (a b : Nat) (wr : World), Only (fun b => b = D) w wr → a < c → b < c → ∀ n, Calls Tryz.prog 107 #[.int .i64 a, .int .i64 b, .pointer (some ⟨Bl, 0, none⟩)] (wr.drewN n) fun e w' => e = .returned (.int .i64 (left.getD b 0 - left.getD a 0)) ∧ ∃ m, w' = (wr.drewN n).drewN m) := Lib.hid (by
    intro a b wr hwr ha hb n
    exact cmpB_c a b Bl lv left (wr.drewN n) (Hbl.out.only (hwr.drewN n) (fun e => hDl e.symm)) ((hl.only rIntV (hwr.drewN n) (fun b hb => (hT b hb).1) (fun b hb => (hT b hb).2)).ints) (by omega) (by omega) hbd)
  clear ho hl hT hbl hbd hll hS
  go_enter Tryz.func229, Tryz.ntmps229
  go_wp2
  go_loopw [8, 9] (fun i _ wr => ∃ (k : Nat) (P : List Nat), 1 ≤ k ∧ k ≤ c ∧ i = .int .i64 k ∧ Hid (Ord left k P) ∧ Hid (Own 3 IntV S wr (.slice (some ⟨D, 0, none⟩) c capD) (asI (P ++ restL k c))) ∧ Hid (Only (fun b => b = D) w wr)) (fun i _ _ => c - (intOf i).toNat)
  case atStart =>
    refine ⟨1, [0], Nat.le_refl _, hc, rfl, Lib.hid ⟨by simp, by simp⟩, Lib.hid ?_, Lib.hid (Only.refl _ _)⟩
    have e : [0] ++ restL 1 c = List.range c := by rw [← restL_zero, restL_cons (i := 0) (c := c) (by omega)]; rfl
    rw [e]
    exact Ho.out
  case round =>
    clear Ho
    obtain ⟨k, P, hk1, hkc, rfl, HP, Hown, Honly⟩ := hrel
    by_cases hlt : k < c
    · go_wp2
      go_loopw [9] (fun j wr => ∃ q : Nat, q ≤ k ∧ j = .int .i64 q ∧ Hid (∀ x ∈ P.drop q, left.getD x 0 < left.getD k 0) ∧ Hid (Own 3 IntV S wr (.slice (some ⟨D, 0, none⟩) c capD) (asI (insJ P q k ++ restL (k + 1) c))) ∧ Hid (Only (fun b => b = D) w wr)) (fun j _ => (intOf j).toNat)
      case atStart =>
        refine ⟨k, Nat.le_refl _, rfl, Lib.hid ?_, Lib.hid ?_, Honly⟩
        · rw [List.drop_of_length_le (by rw [HP.out.length]; exact Nat.le_refl _)]
          intro x hx
          exact absurd hx (by simp)
        · have e : insJ P k k ++ restL (k + 1) c = P ++ restL k c := by
            unfold insJ
            rw [restL_cons hlt, List.drop_of_length_le (by rw [HP.out.length]; exact Nat.le_refl _), List.take_of_length_le (by rw [HP.out.length]; exact Nat.le_refl _)]
            simp
          rw [e]
          exact Hown.out
      case round =>
        clear Hown Honly
        obtain ⟨q, hq, rfl, Hdr, Hown, Honly⟩ := hrel
        have hPl : P.length = k := HP.out.length
        have HPl := Lib.hid hPl
        by_cases hq0 : q = 0
        · subst hq0
          have Hnew := Lib.hid (insJ_ord HP.out Hdr.out (.inl rfl))
          clear hPl
          go_wp2
          go_quiet (fail)
          go_wp2
          go_roundw
          case rel => exact ⟨k + 1, insJ P 0 k, by omega, by omega, by go_num, Hnew, Hown, Lib.hid (Honly.out.drewN _)⟩
          case measure => simp [intOf]; omega
        · obtain ⟨q0, hq01, hq02⟩ : ∃ q0, q ≤ q0 + 1 ∧ q0 + 1 ≤ q := ⟨q - 1, by omega, by omega⟩
          have Hqe := Lib.hid (show q = q0 + 1 from by omega)
          have hp : P[q0]? = some P[q0] := List.getElem?_eq_getElem (by omega)
          obtain ⟨p, hpe⟩ : ∃ p, p = P[q0]'(by omega) := ⟨_, rfl⟩
          rw [← hpe] at hp
          have hpc : p < k := HP.out.lt hp
          have Hp := Lib.hid hp
          have hj1 : (insJ P q k ++ restL (k + 1) c)[q]? = some k := by
            rw [List.getElem?_append_left (by rw [insJ_len (by omega)]; omega)]
            exact insJ_at (by omega)
          have hj0 : (insJ P q k ++ restL (k + 1) c)[q0]? = some p := by
            rw [List.getElem?_append_left (by rw [insJ_len (by omega)]; omega), Hqe.out]
            exact insJ_prev hp
          have hlen : (asI (insJ P q k ++ restL (k + 1) c)).length = c := by rw [asI_len, List.length_append, insJ_len (by omega), restL_len]; omega
          obtain ⟨c1, f1, -⟩ := Hown.out.ints_cell (asI_at hj1)
          obtain ⟨c0, f0, -⟩ := Hown.out.ints_cell (asI_at hj0)
          have Hcall := Lib.hid (Hcmp.out k p wr Honly.out hlt (by omega))
          obtain ⟨d, hd⟩ : ∃ d, d = left.getD p 0 - left.getD k 0 := ⟨_, rfl⟩
          rw [← hd] at Hcall
          have hqc : q < c := by omega
          have hqp : 0 < q := by omega
          have hdq : decide ((0 : Int) < (q : Int)) = true := by simp; omega
          have e1 : ((q : Int) - 1).toNat = q0 := by omega
          by_cases hneg : d < 0
          · have hdn : decide (d < 0) = true := by simpa using hneg
            have Hnd := Lib.hid (show ∀ x ∈ P.drop q0, left.getD x 0 < left.getD k 0 from by
              obtain ⟨-, -, h3⟩ := split_at Hp.out
              rw [h3]
              intro x hx
              rw [List.mem_cons] at hx
              rcases hx with rfl | hx
              · omega
              · rw [← Hqe.out] at hx; exact Hdr.out x hx)
            have s1 := Hown.out.setInt (k := q) (by omega) (c := (p : Int)) (I64.small (by omega) (by omega))
            have s2 := s1.setInt (k := q0) (by rw [List.length_set]; omega) (c := (k : Int)) (I64.small (by omega) (by omega))
            rw [asI_set, asI_set, Hqe.out, insJ_swap Hp.out] at s2
            obtain ⟨y01, c01, f01⟩ := s1.ints_at (k := q0) (by rw [List.length_set]; omega)
            have S2 := Lib.hid s2
            have HO2 := Lib.hid ((Honly.out.setCell (p := ⟨D, q, none⟩) (.inl rfl) (.int .i64 p)).setCell (p := ⟨D, q0, none⟩) (.inl rfl) (.int .i64 k))
            clear s1 s2 hp hpe hj1 hj0 hlen hPl hd Hown
            go_wp2
            go_quiet ((go_at_call 107; with_reducible exact Calls.quiet_of (Hcall.out _)))
            go_wp2
            go_region
            all_goals go_wp2
            all_goals go_roundw
            all_goals first
              | (case measure => simp [intOf]; omega)
              | (case rel => exact ⟨q0, by omega, by first | rfl | (congr 1; omega), Hnd, Lib.hid (by first | exact S2.out | (have h := S2.out; rw [← Hqe.out] at h; exact h)), Lib.hid ⟨HO2.out.os, HO2.out.tape, HO2.out.output, HO2.out.size, HO2.out.block⟩⟩)
          · have hdn : decide (d < 0) = false := by simpa using hneg
            have Hnew := Lib.hid (insJ_ord HP.out Hdr.out (.inr ⟨p, by rw [Hqe.out]; simpa using Hp.out, by omega⟩))
            clear hp hpe hj1 hj0 hlen hPl hd
            go_wp2
            go_quiet ((go_at_call 107; with_reducible exact Calls.quiet_of (Hcall.out _)))
            go_wp2
            go_roundw
            case rel => exact ⟨k + 1, insJ P q k, by omega, by omega, by go_num, Hnew, Hown, Lib.hid (Honly.out.drewN _)⟩
            case measure => simp [intOf]; omega
    · obtain rfl : k = c := by omega
      have e : P = ordOf left k := HP.out.eq (ordOf_ord left k)
      have Hfin := Lib.hid (show Own 3 IntV S wr (.slice (some ⟨D, 0, none⟩) k capD) (asI (ordOf left k)) from by
        have h := Hown.out
        rw [restL_done, List.append_nil, e] at h
        exact h)
      clear e
      go_wp2
      exact bodyPost_end (results_none rfl _ _ _) rfl ⟨rfl, Hfin.out, Honly.out⟩
theorem stable_c (D capD c Bl : Nat) (lv : Value) (left : List Int) (S T : Bk) (w : World) (hc : 1 ≤ c) (hc5 : c ≤ 5) (hll : left.length = c) (hbd : ∀ x ∈ left, -10 ≤ x ∧ x ≤ 10)
    (ho : Own 3 IntV S w (.slice (some ⟨D, 0, none⟩) c capD) (asI (List.range c))) (hbl : Blk w Bl #[lv] 32) (hDl : D ≠ Bl) (hl : Own 3 IntV T w lv left) (hT : ∀ b, T b → b < w.heap.size ∧ b ≠ D) (hS : ∀ b, S b → b < w.heap.size) :
    Calls Tryz.prog 165 #[.slice (some ⟨D, 0, none⟩) c capD, .int .i64 c, .func (.func 107) #[] #[.pointer (some ⟨Bl, 0, none⟩)]] w
      fun e w' => e = .returned (.tuple #[]) ∧ Own 3 IntV S w' (.slice (some ⟨D, 0, none⟩) c capD) (asI (ordOf left c)) ∧ Only (fun b => b = D) w w' := by
  have Hcall := Lib.hid (insSort_c D capD c Bl lv left S T w hc hc5 hll hbd ho hbl hDl hl hT hS)
  clear ho hbl hl hT hS hbd hll
  go_enter Tryz.func165, Tryz.ntmps165
  go_wp2
  refine wp_loop_rounds 1 ?_
  rw [rounds_succ]
  go_wp2_with (fail)
  refine Hcall.out.mono ?_
  rintro e w2 ⟨rfl, o2, n2⟩
  have Ho2 := Lib.hid o2
  have Hn2 := Lib.hid n2
  clear o2 n2
  go_wp2
  refine wp_loop_rounds 1 ?_
  rw [rounds_succ]
  go_wp2
  exact bodyPost_end (results_none rfl _ _ _) rfl ⟨rfl, Ho2.out, Hn2.out⟩
theorem SortStable_c (D capD c Bl : Nat) (lv : Value) (left : List Int) (S T : Bk) (w : World) (hc : 1 ≤ c) (hc5 : c ≤ 5) (hll : left.length = c) (hbd : ∀ x ∈ left, -10 ≤ x ∧ x ≤ 10)
    (ho : Own 3 IntV S w (.slice (some ⟨D, 0, none⟩) c capD) (asI (List.range c))) (hbl : Blk w Bl #[lv] 32) (hDl : D ≠ Bl) (hl : Own 3 IntV T w lv left) (hT : ∀ b, T b → b < w.heap.size ∧ b ≠ D) (hS : ∀ b, S b → b < w.heap.size) :
    Calls Tryz.prog 106 #[.slice (some ⟨D, 0, none⟩) c capD, .func (.func 107) #[] #[.pointer (some ⟨Bl, 0, none⟩)]] w
      fun e w' => e = .returned (.tuple #[]) ∧ Own 3 IntV S w' (.slice (some ⟨D, 0, none⟩) c capD) (asI (ordOf left c)) ∧ Only (fun b => b = D) w w' := by
  have Hcall := Lib.hid (stable_c D capD c Bl lv left S T w hc hc5 hll hbd ho hbl hDl hl hT hS)
  clear ho hbl hl hT hS hbd hll
  go_enter Tryz.func106, Tryz.ntmps106
  go_wp2_with (fail)
  refine Hcall.out.mono ?_
  rintro e w2 ⟨rfl, o2, n2⟩
  have Ho2 := Lib.hid o2
  have Hn2 := Lib.hid n2
  clear o2 n2
  go_wp2
  exact bodyPost_end (results_none rfl _ _ _) rfl ⟨rfl, Ho2.out, Hn2.out⟩
def zrow (c : Nat) : List Int := List.replicate c 0
def outKI (rows cols : List Int) (r c k : Nat) (row : List Int) : List (List Int) := (bld rows cols).take k ++ row :: zeros (r - (k + 1)) c
theorem outKI_set {rows cols : List Int} {r c k x : Nat} {row : List Int} {z : Int} (hk : k ≤ rows.length) : setC (outKI rows cols r c k row) k x z = outKI rows cols r c k (row.set x z) := by
  have hl : ((bld rows cols).take k).length = k := by rw [List.length_take, bld_len]; omega
  unfold setC outKI
  have e1 : ((bld rows cols).take k ++ row :: zeros (r - (k + 1)) c).getD k [] = row := by
    rw [List.getD_eq_getElem?_getD, List.getElem?_append_right (by omega), hl, Nat.sub_self]; rfl
  rw [e1]
  have := set_mid ((bld rows cols).take k) row (row.set x z) (zeros (r - (k + 1)) c)
  rw [hl] at this
  exact this
theorem outKI_zero {rows cols : List Int} {r c k : Nat} (hk : k < r) : outKI rows cols r c k (zrow c) = (bld rows cols).take k ++ zeros (r - k) c := by
  unfold outKI zeros zrow
  rw [show r - k = (r - (k + 1)) + 1 from by omega, List.replicate_succ]
theorem outKI_next {rows cols : List Int} {r c k : Nat} {n : Int} (h : rows[k]? = some n) : outKI rows cols r c k (fillRow (lowK rows cols k) n.toNat) = (bld rows cols).take (k + 1) ++ zeros (r - (k + 1)) c := by
  unfold outKI
  rw [List.take_add_one, bld_at h]
  simp
structure BSt (n a b d r c G cap L capL D capD Bl : Nat) (Q C : Nat → Nat) (W0 w : World) (m : List (List Int)) (left od : List Int) : Prop where
  p : PSt n a b r c G cap Q C W0 w m
  bl : Blk w Bl #[.slice (some ⟨L, 0, none⟩) c capL] 32
  lown : Own 3 IntV (Iv b d) w (.slice (some ⟨L, 0, none⟩) c capL) left
  ll : left.length = c
  dn : Own 3 IntV (fun x => x = D) w (.slice (some ⟨D, 0, none⟩) c capD) od
  dl : od.length = c
  hD : D < w.heap.size
theorem BSt.setG {n a b d r c G cap L capL D capD Bl : Nat} {Q C : Nat → Nat} {W0 w : World} {m : List (List Int)} {left od : List Int} (hn : n ≤ a) (hbd : b ≤ d) (h1 : d ≤ Bl) (h2 : d ≤ D)
    (h : BSt n a b d r c G cap L capL D capD Bl Q C W0 w m left od) {y x : Nat} (hy : y < r) (hx : x < c) {z : Int} (hz0 : 0 ≤ z) (hz1 : z ≤ 1) :
    w.cell? ⟨Q y, x, none⟩ = some (.int .i64 (at2 m y x)) ∧ w.frozen? ⟨Q y, x, none⟩ = false ∧ BSt n a b d r c G cap L capL D capD Bl Q C W0 (w.setCell ⟨Q y, x, none⟩ (.int .i64 z)) (setC m y x z) left od := by
  obtain ⟨a1, a2, ⟨a3, a4⟩, a5⟩ := h.p.set hn hy hx hz0 hz1
  refine ⟨a1, a2, ⟨a5, h.bl.set_ne (by omega) _, ?_, h.ll, ?_, h.dl, by rw [size_setCell]; exact h.hD⟩⟩
  · exact (rOwn rIntV).same (fun x hx => Below.heap_setCell w _ _ x (by have := hx.1; show x ≠ Q y; omega)) h.lown
  · exact (rOwn rIntV).same (fun x hx => Below.heap_setCell w _ _ x (by have : x = D := hx; show x ≠ Q y; omega)) h.dn
theorem PSt.other {n g0 g1 r c G cap : Nat} {Q C : Nat → Nat} {W0 w w' : World} {m : List (List Int)} (h : PSt n g0 g1 r c G cap Q C W0 w m) {B : Nat} (hng : n ≤ g1) (hn : n ≤ B) (hB : g1 ≤ B ∨ B < g0) (ho : Only (fun b => b = B) w w') : PSt n g0 g1 r c G cap Q C W0 w' m := by
  have hs := ho.size
  have hg := h.hg
  refine ⟨h.base.trans (ho.below (by omega) (fun b hb => by
    have : b = B := hb
    omega)), h.sh, ?_, fun k hk => ?_, by omega⟩
  · exact (rOwn (rOwn rIntV)).same (ho.same (fun b hb e => by have h1 := hb.1; have h2 := hb.2; have : b = B := e; omega) (fun b hb => by have := hb.2; omega)) h.own
  · obtain ⟨hG, -⟩ := h.own.focus (rOwn rIntV) (at2_row h.sh hk).1
    have h1 := hG.1
    have h2 := hG.2
    rw [ho.cell (p := ⟨G, k, none⟩) (by show G < _; omega) (fun e => by have : G = B := e; omega)]
    exact h.rows k hk
theorem setCell_only (w : World) (B k : Nat) (u : Value) : Only (fun b => b = B) w (w.setCell ⟨B, k, none⟩ u) := Only.setCell (S := fun b => b = B) (Only.refl _ w) (p := ⟨B, k, none⟩) (.inl rfl) u
theorem BSt.setL {n a b d r c G cap L capL D capD Bl : Nat} {Q C : Nat → Nat} {W0 w : World} {m : List (List Int)} {left od : List Int} (hn : n ≤ a) (hab : a ≤ b) (h1 : d ≤ Bl) (h2 : d ≤ D)
    (h : BSt n a b d r c G cap L capL D capD Bl Q C W0 w m left od) {x : Nat} (hx : x < c) {z : Int} (hz : I64 z) :
    w.cell? ⟨L, x, none⟩ = some (.int .i64 (left.getD x 0)) ∧ w.frozen? ⟨L, x, none⟩ = false ∧ BSt n a b d r c G cap L capL D capD Bl Q C W0 (w.setCell ⟨L, x, none⟩ (.int .i64 z)) m (left.set x z) od := by
  have hll := h.ll
  have hat : left[x]? = some (left.getD x 0) := gD_at 0 (by omega)
  obtain ⟨hL, -⟩ := h.lown.focus rIntV hat
  obtain ⟨e1, e2, -⟩ := h.lown.ints_cell hat
  have q1 := hL.1
  have q2 := hL.2
  refine ⟨e1, e2, ⟨h.p.other (by omega) (by omega) (.inl (by omega)) (setCell_only w L x _), h.bl.set_ne (by omega) _, h.lown.setInt (by omega) hz, by rw [List.length_set]; exact hll, ?_, h.dl, by rw [size_setCell]; exact h.hD⟩⟩
  exact (rOwn rIntV).same (fun y hy => Below.heap_setCell w _ _ y (by have : y = D := hy; show y ≠ L; omega)) h.dn
theorem BSt.sortD {n a b d r c G cap L capL D capD Bl : Nat} {Q C : Nat → Nat} {W0 w w' : World} {m : List (List Int)} {left od od' : List Int} (hn : n ≤ a) (hab : a ≤ b) (hbd : b ≤ d) (h2 : d ≤ D) (hne : D ≠ Bl)
    (h : BSt n a b d r c G cap L capL D capD Bl Q C W0 w m left od) (ho : Only (fun b => b = D) w w') (hd : Own 3 IntV (fun x => x = D) w' (.slice (some ⟨D, 0, none⟩) c capD) od') (hl : od'.length = c) :
    BSt n a b d r c G cap L capL D capD Bl Q C W0 w' m left od' := by
  have hD := h.hD
  have hs := ho.size
  refine ⟨h.p.other (by omega) (by omega) (.inl (by omega)) ho, h.bl.only ho (fun e => hne e.symm), ?_, h.ll, hd, hl, by omega⟩
  exact (rOwn rIntV).same (ho.same (fun y hy e => by have := hy.2; have : y = D := e; omega) (fun y hy => by have := hy.2; omega)) h.lown
theorem existsB_sz {xs ys : List Int} (h : existsB xs ys = true) : 1 ≤ xs.length ∧ xs.length ≤ 5 ∧ 1 ≤ ys.length ∧ ys.length ≤ 5 ∧ (∀ i, 0 ≤ xs.getD i 0 ∧ xs.getD i 0 ≤ ys.length) ∧ (∀ x ∈ ys, 0 ≤ x ∧ x ≤ 5) := by
  have hok := existsB_ok h
  obtain ⟨h1, h2, h3, h4, h5, h6, -⟩ := sumsOk_bd hok
  refine ⟨h1, h2, h3, h4, h5, fun x hx => ?_⟩
  obtain ⟨i, hi⟩ := List.getElem?_of_mem hx
  have h7 := h6 i
  rw [gD_some hi] at h7
  omega
theorem BuildImage_i (v v2 : Value) (rows cols : List Int) (w : World) (hv : Ints w v rows) (hv2 : Ints w v2 cols) : Calls Tryz.prog 46 #[v, v2] w (ImgRes w (buildG rows cols)) := by
  have Hv := Lib.hid hv
  have Hv2 := Lib.hid hv2
  obtain ⟨a1, cap1, rfl, -⟩ := hv
  obtain ⟨a2, cap2, rfl, -⟩ := hv2
  cases hex : existsB rows cols
  · have Hr := Lib.hid (show buildG rows cols = none from by unfold buildG; rw [hex]; rfl)
    have Hex := Lib.hid hex
    clear hex
    go_enter Tryz.func46, Tryz.ntmps46
    go_wp2_with (fail)
    refine (Exists_i _ _ _ _ _ Hv.out Hv2.out).mono ?_
    rintro e w2 ⟨rfl, b2⟩
    rw [Hex.out]
    go_wp2
    go_ret2
    exact ⟨_, by rw [Hr.out]; rfl, by rw [Hr.out]; exact Own.nil _ _ _ _, b2⟩
  obtain ⟨hr1, hr5, hc1, hc5, hrb, hcb⟩ := existsB_sz hex
  have Hr := Lib.hid (show buildG rows cols = some (bld rows cols) from by unfold buildG; rw [hex]; rfl)
  have Hex := Lib.hid hex
  have Hrb := Lib.hid hrb
  have Hcb := Lib.hid hcb
  clear hex hrb hcb
  obtain ⟨r, hr⟩ : ∃ r, r = rows.length := ⟨_, rfl⟩
  obtain ⟨c, hc⟩ : ∃ c, c = cols.length := ⟨_, rfl⟩
  rw [← hr] at hr1 hr5 Hv
  rw [← hc] at hc1 hc5 Hv2 Hrb
  rw [← hr, ← hc]
  have HR := Lib.hid hr
  have HC := Lib.hid hc
  clear hr hc
  go_enter Tryz.func46, Tryz.ntmps46
  go_wp2_with (fail)
  refine (Exists_i _ _ _ _ _ Hv.out Hv2.out).mono ?_
  rintro e w1 ⟨rfl, b1⟩
  rw [Hex.out]
  go_wp2_with (fail)
  refine (newGrid_c r c _ (by omega) (by omega)).mono ?_
  rintro e w2 ⟨v3, rfl, o2, b2⟩
  obtain ⟨G, cap3, rfl, hG, hcapG, hGs, -⟩ := o2.inv_ne (by simp [zeros]; omega)
  have hzl : (zeros r c).length = r := by simp [zeros]
  rw [hzl] at o2 hcapG ⊢
  have Ho2 := Lib.hid o2
  have Hb2 := Lib.hid (b1.trans_pure b2 (Nat.le_refl _))
  have hs2 := b2.size
  have hs1 := b1.size
  have hG1 := hG.1
  have hG2 := hG.2
  clear o2 b1 b2 hzl hG
  go_wp2_with (fail)
  refine (copyInts_c _ cols _ (Hv2.out.keep Hb2.out) (by rw [← HC.out]; omega)).mono ?_
  rintro e w3 ⟨v4, rfl, o3, b3⟩
  obtain ⟨L, capL, rfl, hL, hcapL, hLs, -⟩ := o3.inv_ne (by rw [← HC.out]; omega)
  rw [← HC.out] at o3 hcapL ⊢
  have Hb3 := Lib.hid b3
  have hs3 := b3.size
  have Ho3 := Lib.hid o3
  have hL1 := hL.1
  have hL2 := hL.2
  clear o3 b3 hL
  obtain ⟨W4, hW4⟩ : ∃ W4, W4 = w3.alloc (.cells #[.slice (some ⟨L, 0, none⟩) c capL] 32) := ⟨_, rfl⟩
  have b34 : Below w3.heap.size w3 W4 := by rw [hW4]; exact Below.pureAlloc _ _
  have z4 : W4.heap.size = w3.heap.size + 1 := by rw [hW4]; simp
  have kl : Blk W4 w3.heap.size #[.slice (some ⟨L, 0, none⟩) c capL] 32 := by rw [hW4]; exact Blk.new w3 _ _
  have Hb34 := Lib.hid b34
  have Hz4 := Lib.hid z4
  have Hkl := Lib.hid kl
  have hz4a : w3.heap.size < W4.heap.size := by omega
  clear b34 z4 kl
  have HW4 := Lib.hid hW4
  clear hW4
  go_wp2_with (first | (at_make; rw [← HW4.out]; refine wpList_mk _ rfl _ _ 32 rfl 3 Tryz.underlying32 infoInt rfl (by decide) (R := IntV) 0 ⟨rfl, I64.small (by decide) (by decide)⟩ rIntV c rfl rfl (by omega) ?_; intro w5 hown5 hbel5 hsz5; have Hsz5 := Lib.hid hsz5; have Ho5 := Lib.hid hown5; have Hb5 := Lib.hid hbel5; clear hsz5 hown5 hbel5) | fail)
  have bw5 : Below w.heap.size w w5 := ((Hb2.out.trans_pure Hb3.out (Nat.le_refl _)).trans_pure Hb34.out (Nat.le_refl _)).trans_pure Hb5.out (Nat.le_refl _)
  have b25 : Below w2.heap.size w2 w5 := (Hb3.out.trans_pure Hb34.out (Nat.le_refl _)).trans_pure Hb5.out (Nat.le_refl _)
  have b35 : Below w3.heap.size w3 w5 := Hb34.out.trans_pure Hb5.out (Nat.le_refl _)
  obtain ⟨DN, hDN⟩ : ∃ DN, DN = W4.heap.size := ⟨_, rfl⟩
  have hD5 : DN < w5.heap.size := by have := Hsz5.out; omega
  obtain ⟨Q, C, hp⟩ := PSt.make (n := w.heap.size) (g0 := w1.heap.size) (g1 := w2.heap.size) bw5 (shape_zeros r c) hc1 (Own.keep (rOwn rIntV) Ho2.out b25 (Nat.le_refl _)) b25.size
  have Hst : Hid (BSt w.heap.size w1.heap.size w2.heap.size w3.heap.size r c G cap3 L capL DN c w3.heap.size Q C w w5 ((bld rows cols).take 0 ++ zeros (r - 0) c) (lowK rows cols 0) (List.replicate c 0)) := Lib.hid (by
    refine ⟨by rw [List.take_zero, List.nil_append, Nat.sub_zero]; exact hp, Hkl.out.keep Hb5.out, ?_, by rw [lowK_len]; exact HC.out.symm, ?_, by simp, hD5⟩
    · have : lowK rows cols 0 = cols := by cases rows <;> rfl
      rw [this]
      exact Own.keep rIntV Ho3.out b35 (Nat.le_refl _)
    · rw [hDN]; exact Ho5.out)
  have hDg : w3.heap.size < DN := by omega
  rw [← hDN]
  clear hp bw5 b25 b35 Ho2 Ho3 Ho5 hDN hD5
  obtain ⟨n0, hn0⟩ : ∃ n0, n0 = w.heap.size := ⟨_, rfl⟩
  obtain ⟨g0, hg0⟩ : ∃ g0, g0 = w1.heap.size := ⟨_, rfl⟩
  obtain ⟨g1, hg1⟩ : ∃ g1, g1 = w2.heap.size := ⟨_, rfl⟩
  obtain ⟨g2, hg2⟩ : ∃ g2, g2 = w3.heap.size := ⟨_, rfl⟩
  have hN0 := Lib.hid hn0
  rw [← hn0, ← hg0, ← hg1, ← hg2] at Hst
  rw [← hg2]
  rw [← hg2] at hDg
  have k1 : n0 ≤ g0 := by omega
  have k2 : g0 ≤ g1 := by omega
  have k3 : g1 ≤ g2 := by omega
  clear hn0 hg0 hg1 hg2 hs1 hs2 hs3 hG1 hG2 hL1 hL2 hGs hLs hz4a
  go_loopw [9, 10, 11, 13, 30] (fun _ _ _ _ i wr => ∃ (k : Nat) (od : List Int), k ≤ r ∧ i = .int .i64 k ∧ Hid (BSt n0 g0 g1 g2 r c G cap3 L capL DN c g2 Q C w wr ((bld rows cols).take k ++ zeros (r - k) c) (lowK rows cols k) od)) (fun _ _ _ _ i _ => r - (intOf i).toNat)
  case atStart => exact ⟨0, _, Nat.zero_le _, rfl, Hst⟩
  case round =>
    clear Hst
    obtain ⟨k, od, hk, rfl, Hst⟩ := hrel
    by_cases hlt : k < r
    · have hrow : rows[k]? = some (rows.getD k 0) := gD_at 0 (by rw [← HR.out]; exact hlt)
      have hnb := Hrb.out k
      obtain ⟨ba, off, cpr, he, hba, -⟩ := Hv.out.inv_ne (by rw [← HR.out]; omega)
      rw [← HR.out] at he
      obtain ⟨rfl, -⟩ : a1 = some ⟨ba, off, none⟩ ∧ cap1 = cpr := by simpa using he
      have hcn := Ints.at Hv.out hrow
      rw [← Hst.out.p.base.cell (p := ⟨ba, off + k, none⟩) (by show ba < n0; rw [hN0.out]; exact hba)] at hcn
      obtain ⟨N, hN⟩ : ∃ N : Nat, rows.getD k 0 = N := ⟨(rows.getD k 0).toNat, by omega⟩
      rw [hN] at hcn hnb hrow
      have hNc : N ≤ c := by omega
      have Hrow := Lib.hid hrow
      obtain ⟨left0, hleft0⟩ : ∃ l, l = lowK rows cols k := ⟨_, rfl⟩
      have Hlb : Hid (∀ x ∈ left0, -(k : Int) ≤ x ∧ x ≤ 5) := Lib.hid (by
        rw [hleft0]
        intro x hx
        have := lowK_bd rows cols k (a := 0) (b := 5) Hcb.out x hx
        omega)
      rw [← hleft0] at Hst
      have Hleft0 := Lib.hid hleft0
      have Hz := Lib.hid (outKI_zero (rows := rows) (cols := cols) (r := r) (c := c) hlt)
      have hdk : decide ((k : Int) < (r : Int)) = true := by simp; omega
      clear hleft0 hrow hN he hnb
      go_wp2
      clear hcn
      go_loopw [11, 37] (fun _ i wr => ∃ (j : Nat) (od : List Int), j ≤ c ∧ i = .int .i64 j ∧ Hid (∀ t, t < j → od[t]? = some (t : Int)) ∧ Hid (BSt n0 g0 g1 g2 r c G cap3 L capL DN c g2 Q C w wr ((bld rows cols).take k ++ zeros (r - k) c) left0 od)) (fun _ i _ => c - (intOf i).toNat)
      case atStart => exact ⟨0, od, Nat.zero_le _, rfl, Lib.hid (fun t h => absurd h (by omega)), Hst⟩
      case round =>
        clear Hst
        obtain ⟨j, od, hj, rfl, Hod, Hst⟩ := hrel
        by_cases hltj : j < c
        · have hdl := Hst.out.dl
          obtain ⟨y0, e1, e2⟩ := Hst.out.dn.ints_at (k := j) (by omega)
          have dn2 := Hst.out.dn.setInt (k := j) (by omega) (c := (j : Int)) (I64.small (by omega) (by omega))
          have Hst2 := Lib.hid (Hst.out.sortD k1 k2 k3 (by omega) (by omega) (setCell_only wr DN j (.int .i64 j)) dn2 (by rw [List.length_set]; exact hdl))
          have Hod2 := Lib.hid (show ∀ t, t < j + 1 → (od.set j (j : Int))[t]? = some (t : Int) from by
            intro t ht
            by_cases e : t = j
            · subst e; rw [List.getElem?_set_self (by omega)]
            · rw [List.getElem?_set_ne (by omega)]; exact Hod.out t (by omega))
          clear dn2 hdl
          go_wp2
          go_roundw
          case rel => exact ⟨j + 1, _, by omega, by go_num, Hod2, Hst2⟩
          case measure => simp [intOf]; omega
        · obtain rfl : j = c := by omega
          have hode : od = asI (List.range j) := by
            apply List.ext_getElem?
            intro t
            rcases Nat.lt_or_ge t j with h | h
            · rw [Hod.out t h]
              exact (asI_at (by rw [List.getElem?_range h])).symm
            · rw [List.getElem?_eq_none (by rw [Hst.out.dl]; exact h), List.getElem?_eq_none (by rw [asI_len, List.length_range]; exact h)]
          rw [hode] at Hst
          clear hode Hod
          have Hsort := Lib.hid (SortStable_c DN j j g2 (.slice (some ⟨L, 0, none⟩) j capL) left0 (fun x => x = DN) (Iv g1 g2) wr hc1 hc5 Hst.out.ll (fun x hx => by have := Hlb.out x hx; omega) Hst.out.dn Hst.out.bl (by omega) Hst.out.lown (fun b hb => ⟨by have := hb.2; have := Hst.out.bl.lt; omega, by have := hb.2; omega⟩) (fun b hb => by have : b = DN := hb; have := Hst.out.hD; omega))
          obtain ⟨P, hP⟩ : ∃ P, P = ordOf left0 j := ⟨_, rfl⟩
          rw [← hP] at Hsort
          have HPo : Hid (Ord left0 j P) := Lib.hid (by rw [hP]; exact ordOf_ord _ _)
          have HP := Lib.hid hP
          clear hP
          go_wp2_with (fail)
          refine Hsort.out.mono ?_
          rintro e w7 ⟨rfl, o7, n7⟩
          have Hst3 := Lib.hid (Hst.out.sortD k1 k2 k3 (by omega) (by omega) n7 o7 (by rw [asI_len]; exact HPo.out.length))
          have Hst4 : Hid (BSt n0 g0 g1 g2 r j G cap3 L capL DN j g2 Q C w w7 (outKI rows cols r j k (mkr j (P.take 0))) (lower left0 (mkr j (P.take 0))) (asI P)) := Lib.hid (by
            have h := Hst3.out
            rw [← Hz.out] at h
            have e1 : mkr j (P.take 0) = zrow j := by rw [List.take_zero, mkr_nil]; rfl
            have e2 : lower left0 (mkr j (P.take 0)) = left0 := by
              have := lower_nil left0
              rw [Hst.out.ll] at this
              rw [List.take_zero]; exact this
            rw [e2, e1]; exact h)
          have Hll := Lib.hid Hst.out.ll
          clear o7 n7 Hst3 Hsort Hst Hz
          go_wp2
          go_loopw [13, 52] (fun _ i wr => ∃ (t : Nat), t ≤ N ∧ i = .int .i64 t ∧ Hid (BSt n0 g0 g1 g2 r j G cap3 L capL DN j g2 Q C w wr (outKI rows cols r j k (mkr j (P.take t))) (lower left0 (mkr j (P.take t))) (asI P))) (fun _ i _ => N - (intOf i).toNat)
          case atStart => exact ⟨0, Nat.zero_le _, rfl, Hst4⟩
          case round =>
            clear Hst4
            obtain ⟨t, ht, rfl, Hst⟩ := hrel
            by_cases hltt : t < N
            · have htp : t < P.length := by rw [HPo.out.length]; omega
              have hpt : P[t]? = some P[t] := List.getElem?_eq_getElem htp
              obtain ⟨p, hpe⟩ : ∃ p, p = P[t] := ⟨_, rfl⟩
              rw [← hpe] at hpt
              have hpc : p < j := HPo.out.lt hpt
              have hnot : p ∉ P.take t := by
                intro hm
                obtain ⟨q, hq, e⟩ := List.mem_take_iff_getElem.mp hm
                have := List.pairwise_iff_getElem.mp HPo.out.nodup q t (by omega) htp (by omega)
                rw [e, ← hpe] at this
                exact this rfl
              obtain ⟨e1, e2, -⟩ := Hst.out.dn.ints_cell (asI_at hpt)
              have hrowG := Hst.out.p.rows k hlt
              obtain ⟨e3, e4, st1⟩ := Hst.out.setG k1 k3 (by omega) (by omega) hlt hpc (z := 1) (by decide) (by decide)
              have e5 := st1.bl.cell 0
              simp only [List.getElem?_toArray, List.getElem?_cons_zero] at e5
              obtain ⟨u, hu⟩ : ∃ u, u = (lower left0 (mkr j (P.take t))).getD p 0 := ⟨_, rfl⟩
              have hub : -10 ≤ u ∧ u ≤ 10 := by
                have hl := lower_bd (w := left0) (row := mkr j (P.take t)) (a := -(k : Int)) (b := 5) Hlb.out (fun i => mkr_bit _ _ i)
                have hm : (lower left0 (mkr j (P.take t)))[p]? = some u := by rw [hu]; exact gD_at 0 (by rw [lower_len, Hll.out]; exact hpc)
                have := hl u (List.mem_of_getElem? hm)
                omega
              have hu1 := hub.1
              have hu2 := hub.2
              obtain ⟨e6, e7, st2⟩ := st1.setL k1 k2 (by omega) (by omega) hpc (z := u - 1) (I64.small (by omega) (by omega))
              rw [← hu] at e6
              have Hst2 : Hid (BSt n0 g0 g1 g2 r j G cap3 L capL DN j g2 Q C w ((wr.setCell ⟨Q k, p, none⟩ (.int .i64 1)).setCell ⟨L, p, none⟩ (.int .i64 (u - 1))) (outKI rows cols r j k (mkr j (P.take (t + 1)))) (lower left0 (mkr j (P.take (t + 1)))) (asI P)) := Lib.hid (by
                have h := st2
                rw [outKI_set (by rw [← HR.out]; omega), mkr_add _ hpc] at h
                have e : (lower left0 (mkr j (P.take t))).set p (u - 1) = lower left0 (mkr j (P.take t ++ [p])) := by
                  have h2 := lower_add (w := left0) (b := p) (s := P.take t) (by rw [Hll.out]; exact hpc) hnot
                  rw [Hll.out] at h2
                  rw [hu]; exact h2
                rw [e] at h
                rw [take_snoc hpt]
                exact h)
              clear hpt hpe hnot st1 st2 hu hub htp
              go_wp2
              go_roundw
              case rel => exact ⟨t + 1, by omega, by go_num, Hst2⟩
              case measure => simp [intOf]; omega
            · obtain rfl : t = N := by omega
              have Hst2 : Hid (BSt n0 g0 g1 g2 r j G cap3 L capL DN j g2 Q C w wr ((bld rows cols).take (k + 1) ++ zeros (r - (k + 1)) j) (lowK rows cols (k + 1)) (asI P)) := Lib.hid (by
                have h := Hst.out
                have ef : mkr j (P.take t) = fillRow (lowK rows cols k) ((t : Nat) : Int).toNat := by
                  unfold fillRow
                  rw [← Hleft0.out, Hll.out, Int.toNat_natCast, HP.out]
                rw [ef, outKI_next Hrow.out] at h
                rw [lowK_step Hrow.out, ← Hleft0.out]
                rw [← Hleft0.out] at h
                exact h)
              go_wp2
              go_roundw
              case rel => exact ⟨k + 1, _, by omega, by go_num, Hst2⟩
              case measure => simp [intOf]; omega
    · obtain rfl : k = r := by omega
      have Hfin := Lib.hid (show (bld rows cols).take k ++ zeros (k - k) c = bld rows cols from by
        rw [Nat.sub_self, List.take_of_length_le (by rw [bld_len, ← HR.out]; exact Nat.le_refl _)]
        simp [zeros])
      have Ho := Lib.hid Hst.out.p.own
      have Hb := Lib.hid Hst.out.p.base
      have hgs := Hst.out.p.hg
      go_wp2
      go_ret2
      refine ⟨_, by rw [Hr.out]; rfl, ?_, by rw [← hN0.out]; exact Hb.out⟩
      rw [Hr.out]
      show Own _ _ _ _ _ (bld rows cols)
      rw [← Hfin.out]
      exact (rOwn (rOwn rIntV)).mono (fun b hb => ⟨by have := hb.1; have := hN0.out; omega, by have := hb.2; omega⟩) Ho.out
end Go.Proofs.YthmocomfjgmjoaaGreatDoor

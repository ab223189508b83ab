/- Contracts and plain laws that the claims on sessions use. No condition of their own. -/
import Derived.Test.YthmocomfjgmjoaaGreatDoorQ02
import Derived.Test.YthmocomfjgmjoaaGreatDoorQ06
import Derived.Test.YthmocomfjgmjoaaGreatDoorQ09
import Derived.Test.YthmocomfjgmjoaaGreatDoorQ03
import Derived.Test.YthmocomfjgmjoaaGreatDoorQ08
import Derived.Test.YthmocomfjgmjoaaGreatDoorQ10
set_option maxHeartbeats 2000000
set_option maxRecDepth 100000
namespace Go.Proofs.YthmocomfjgmjoaaGreatDoor
open Go.RowKit
def idxFrom (v : Int) : List Int → Nat → Int
  | [], _ => -1
  | a :: l, k => if v = a then (k : Int) else idxFrom v l (k + 1)
def idx (v : Int) (l : List Int) : Int := idxFrom v l 0
theorem idxFrom_step {v : Int} {l : List Int} {k : Nat} {x : Int} (h : l[k]? = some x) : idxFrom v (l.drop k) k = if v = x then (k : Int) else idxFrom v (l.drop (k + 1)) (k + 1) := by
  obtain ⟨h1, rfl⟩ := List.getElem?_eq_some_iff.1 h
  rw [List.drop_eq_getElem_cons h1]
  rfl
def firstOf (row : List Int) : Int := max 0 (idx 1 row)
def spanOf (row : List Int) : List Int := (row.drop (firstOf row).toNat).take (sumL row).toNat
def interOk (row : List Int) : Bool := row.all (inR 0 1) && decide (sumL (spanOf row) = sumL row)
theorem Index_c (v : Value) (xs : List Int) (n : Int) (w : World) (hv : Ints w v xs) : Calls Tryz.prog 288 #[v, .int .i64 n] w fun e w' => e = .returned (.int .i64 (idx n xs)) ∧ w = w' := by
  have Hv := Lib.hid hv
  obtain ⟨a, cap, rfl, -, hle, -⟩ := hv
  go_enter Tryz.func288, Tryz.ntmps288
  go_wp2
  go_loop [5, 8] (fun _ i => ∃ k : Nat, k ≤ xs.length ∧ i = .int .i64 k ∧ idxFrom n (xs.drop k) k = idx n xs) (fun _ i => xs.length - (intOf i).toNat)
  case atStart => exact ⟨0, Nat.zero_le _, rfl, rfl⟩
  case round =>
    obtain ⟨k, hk, rfl, hi⟩ := hrel
    have Hi := Lib.hid hi
    clear hi
    by_cases hlt : k < xs.length
    · obtain ⟨x, hx⟩ : ∃ x, xs[k]? = some x := ⟨_, List.getElem?_eq_getElem hlt⟩
      obtain ⟨b, off, cpr, he, hb, -⟩ := Hv.out.inv_ne (by omega)
      obtain ⟨rfl, -⟩ : a = some ⟨b, off, none⟩ ∧ cap = cpr := by simpa using he
      have hcx := Ints.at Hv.out hx
      have Hst := Lib.hid (idxFrom_step (v := n) hx)
      clear hx he
      by_cases hnx : n = x
      · subst hnx
        have Hr := Lib.hid (show idx n xs = k from by rw [← Hi.out, Hst.out, if_pos rfl])
        go_wp2
        go_ret
        exact ⟨retI Hr.out.symm, rfl⟩
      · have hne : (n == x) = false := by simpa using hnx
        have Hr := Lib.hid (show idxFrom n (xs.drop (k + 1)) (k + 1) = idx n xs from by rw [← Hi.out, Hst.out, if_neg hnx])
        go_wp2
        go_round
        case rel => exact ⟨k + 1, by omega, by go_num, Hr.out⟩
        case measure => simp [intOf]; omega
    · have Hr := Lib.hid (show idx n xs = -1 from by rw [← Hi.out, List.drop_of_length_le (by omega)]; rfl)
      go_wp2
      go_ret
      exact ⟨retI Hr.out.symm, rfl⟩
end Go.Proofs.YthmocomfjgmjoaaGreatDoor
namespace Go.Proofs.YthmocomfjgmjoaaGreatDoor
def rowFacts (row : List Int) : Bool :=
  decide (0 ≤ firstOf row) && decide (firstOf row + sumL row ≤ row.length) && decide (0 ≤ sumL row) && (interOk row == decide ((runsOf row).length ≤ 1)) &&
    (!interOk row || decide (sumL row = sumL (runsOf row))) && (!interOk row || decide (sumL row ≤ 0) || (decide (firstOf row < row.length) && decide (row.getD (firstOf row).toNat 0 = 1))) &&
    (decide (row.length = 0) || decide (firstOf row < row.length))
theorem all_rows : ((List.range 6).all fun n => (List.range (2 ^ n)).all fun key => rowFacts (bitsLine n key)) = true := by decide +kernel
theorem row_facts {row : List Int} (hl : row.length ≤ 5) (hb : ∀ x ∈ row, 0 ≤ x ∧ x ≤ 1) : rowFacts row = true := by
  obtain ⟨h1, h2⟩ := line_key row hb
  have h := all_rows
  rw [List.all_eq_true] at h
  have h3 := h row.length (List.mem_range.2 (by omega))
  rw [List.all_eq_true] at h3
  have h4 := h3 (keyOfLine row) (List.mem_range.2 h1)
  rwa [h2] at h4
end Go.Proofs.YthmocomfjgmjoaaGreatDoor
namespace Go.Proofs.YthmocomfjgmjoaaGreatDoor
set_option linter.unusedSimpArgs false
open Go.RowKit
theorem sub_ints {w : World} {b off n c : Nat} {l : List Int} (h : Ints w (.slice (some ⟨b, off, none⟩) n c) l) {i k : Nat} (hik : i + k ≤ l.length) (cap : Nat) (hc : k ≤ cap) (hb : b < w.heap.size) : Ints w (.slice (some ⟨b, off + i, none⟩) k cap) ((l.drop i).take k) := by
  have hl : ((l.drop i).take k).length = k := by simp; omega
  refine ⟨some ⟨b, off + i, none⟩, cap, by rw [hl], by rw [hl]; exact hc, by rw [hl]; obtain ⟨a', cap', he, h1, h2, -⟩ := h; omega, fun h => by simp at h, fun _ => ⟨b, off + i, rfl, hb, fun j x hx => ?_⟩⟩
  have hj := (List.getElem?_eq_some_iff.1 hx).1
  rw [hl] at hj
  rw [List.getElem?_take, if_pos hj, List.getElem?_drop] at hx
  obtain ⟨u, hu, hr⟩ := Sl.at h hx
  exact ⟨u, by rw [Nat.add_assoc]; exact hu, hr⟩
def interRes (row : List Int) : Value := .tuple #[.int .i64 (if interOk row then firstOf row else 0), .int .i64 (if interOk row then sumL row else 0), .bool (interOk row)]
theorem IntervalOf_c (v : Value) (row : List Int) (w : World) (hv : Ints w v row) (h1 : 1 ≤ row.length) (h5 : row.length ≤ 5) (hb : ∀ x ∈ row, 0 ≤ x ∧ x ≤ 1) :
    Calls Tryz.prog 231 #[v] w fun e w' => e = .returned (interRes row) ∧ w = w' := by
  have hf := row_facts h5 hb
  unfold rowFacts at hf
  simp only [Bool.and_eq_true, decide_eq_true_eq] at hf
  obtain ⟨⟨⟨⟨⟨⟨hf0, hf1⟩, hf2⟩, -⟩, -⟩, -⟩, hf6⟩ := hf
  have hf6' : firstOf row < row.length := by simp at hf6; rcases hf6 with h | h
                                             · subst h; simp at h1
                                             · exact h
  have hall : row.all (inR 0 1) = true := by rw [List.all_eq_true]; exact fun x hx => inR_t (hb x hx).1 (hb x hx).2
  have hsm : Small row := ⟨by omega, fun x hx => by have := hb x hx; omega⟩
  have Hv := Lib.hid hv
  obtain ⟨b, off, cap, rfl, hbl, -⟩ := hv.inv_ne (by omega)
  have hcap : row.length ≤ cap := by obtain ⟨a', cap', he, h1, -⟩ := hv; simp at he; omega
  obtain ⟨F, hF⟩ := Int.eq_ofNat_of_zero_le hf0
  obtain ⟨N, hN⟩ := Int.eq_ofNat_of_zero_le hf2
  rw [hF, hN] at hf1
  rw [hF] at hf6'
  have hFc : F < cap := by omega
  have hFN : F + N ≤ row.length := by omega
  have hspan : spanOf row = (row.drop F).take N := by unfold spanOf; rw [hF, hN]; rfl
  have hsub := sub_ints hv (i := F) (k := N) hFN (cap - F) (by omega) hbl
  rw [← hspan] at hsub
  have hsmS : Small (spanOf row) := by
    rw [hspan]
    exact ⟨by simp; omega, fun x hx => by have := hb x (List.mem_of_mem_drop (List.mem_of_mem_take hx)); omega⟩
  have hmx : max 0 (idx 1 row) = (F : Int) := hF
  have Hsub := Lib.hid hsub
  have HsmS := Lib.hid hsmS
  have Hall := Lib.hid hall
  have Hsm := Lib.hid hsm
  have HN := Lib.hid hN
  have HF := Lib.hid hF
  have hI : Hid (interOk row = decide (sumL (spanOf row) = sumL row)) := Lib.hid (by unfold interOk; rw [hall]; rfl)
  clear hv hb hall hsm hN hF hspan hsub hsmS hf0 hf1 hf2
  go_enter Tryz.func231, Tryz.ntmps231
  go_wp2_with (fail)
  refine (allWithin_c _ _ _ _ _ Hv.out).mono ?_
  rintro e w' ⟨rfl, rfl⟩
  rw [Hall.out]
  go_wp2_with (fail)
  refine (sumOf_c _ _ _ Hv.out Hsm.out).mono ?_
  rintro e w' ⟨rfl, rfl⟩
  rw [HN.out]
  go_wp2_with (fail)
  refine (Index_c _ _ _ _ Hv.out).mono ?_
  rintro e w' ⟨rfl, rfl⟩
  clear hf6 hf6'
  have hfin : Calls Tryz.prog 87 #[.slice (some ⟨b, off + F, none⟩) N (cap - F)] w fun e w' => e = .returned (.int .i64 (sumL (spanOf row))) ∧ w = w' := sumOf_c _ _ _ Hsub.out HsmS.out
  have Hfin := Lib.hid hfin
  clear hfin
  generalize idx 1 row = i at hmx ⊢
  rcases Nat.eq_zero_or_pos F with h0 | h0
  · subst h0
    have hi0 : i ≤ 0 := by omega
    rw [Nat.add_zero, Nat.sub_zero] at Hfin
    rcases Int.lt_or_le i 0 with hi | hi
    · go_wp2_with (fail)
      refine Hfin.out.mono ?_
      rintro e w' ⟨rfl, rfl⟩
      by_cases he : sumL (spanOf row) = (N : Int)
      · have Hr := Lib.hid (show interOk row = true from by rw [hI.out, HN.out]; simpa using he)
        rw [he]
        go_wp2
        refine bodyPost_ret (v := .tuple #[.int .i64 0, .int .i64 N, .bool true]) (by simp [results, Tryz.results231, go_sem]) rfl ⟨by unfold interRes; rw [Hr.out]; simp [HF.out, HN.out], rfl⟩
      · have Hr := Lib.hid (show interOk row = false from by rw [hI.out, HN.out]; simpa using he)
        have hne : (sumL (spanOf row) == (N : Int)) = false := by simpa using he
        go_wp2
        refine bodyPost_ret (v := .tuple #[.int .i64 0, .int .i64 0, .bool false]) (by simp [results, Tryz.results231, go_sem]) rfl ⟨by unfold interRes; rw [Hr.out]; simp [HF.out, HN.out], rfl⟩
    · obtain rfl : i = 0 := by omega
      go_wp2_with (fail)
      refine Hfin.out.mono ?_
      rintro e w' ⟨rfl, rfl⟩
      by_cases he : sumL (spanOf row) = (N : Int)
      · have Hr := Lib.hid (show interOk row = true from by rw [hI.out, HN.out]; simpa using he)
        rw [he]
        go_wp2
        refine bodyPost_ret (v := .tuple #[.int .i64 0, .int .i64 N, .bool true]) (by simp [results, Tryz.results231, go_sem]) rfl ⟨by unfold interRes; rw [Hr.out]; simp [HF.out, HN.out], rfl⟩
      · have Hr := Lib.hid (show interOk row = false from by rw [hI.out, HN.out]; simpa using he)
        have hne : (sumL (spanOf row) == (N : Int)) = false := by simpa using he
        go_wp2
        refine bodyPost_ret (v := .tuple #[.int .i64 0, .int .i64 0, .bool false]) (by simp [results, Tryz.results231, go_sem]) rfl ⟨by unfold interRes; rw [Hr.out]; simp [HF.out, HN.out], rfl⟩
  · obtain rfl : i = (F : Int) := by omega
    have hmx' : max (0 : Int) (F : Int) = (F : Int) := hmx
    go_wp2_with (fail)
    refine Hfin.out.mono ?_
    rintro e w' ⟨rfl, rfl⟩
    by_cases he : sumL (spanOf row) = (N : Int)
    · have Hr := Lib.hid (show interOk row = true from by rw [hI.out, HN.out]; simpa using he)
      rw [he]
      go_wp2
      refine bodyPost_ret (v := .tuple #[.int .i64 F, .int .i64 N, .bool true]) (by simp [results, Tryz.results231, go_sem]) rfl ⟨by unfold interRes; rw [Hr.out]; simp [HF.out, HN.out], rfl⟩
    · have Hr := Lib.hid (show interOk row = false from by rw [hI.out, HN.out]; simpa using he)
      have hne : (sumL (spanOf row) == (N : Int)) = false := by simpa using he
      go_wp2
      refine bodyPost_ret (v := .tuple #[.int .i64 0, .int .i64 0, .bool false]) (by simp [results, Tryz.results231, go_sem]) rfl ⟨by unfold interRes; rw [Hr.out]; simp [HF.out, HN.out], rfl⟩
def hConvex (m : List (List Int)) : Bool := imageOk m && m.all interOk
theorem IsHConvex_c (v : Value) (m : List (List Int)) (w : World) (hv : Grid w v m) : Calls Tryz.prog 166 #[v] w fun e w' => e = .returned (.bool (hConvex m)) ∧ w = w' := by
  have Hv := Lib.hid hv
  obtain ⟨a, cap0, rfl, hcap, hle, -, -⟩ := hv
  cases hok : imageOk m
  · have Hr := Lib.hid (show hConvex m = false from by simp [hConvex, hok])
    have Hok := Lib.hid hok; clear hok
    go_enter Tryz.func166, Tryz.ntmps166
    go_wp2_with (fail)
    refine (ImageOk_i _ _ _ Hv.out).mono ?_
    rintro e w' ⟨rfl, rfl⟩
    rw [Hok.out]
    go_wp2
    go_ret
    exact ⟨retB Hr.out.symm, rfl⟩
  obtain ⟨r, c, hr1, hr5, hc1, hc5, hsh⟩ := imageOk_shape hok
  have hml1 : 1 ≤ m.length := by have := hsh.1; omega
  have Hok := Lib.hid hok; clear hok
  go_enter Tryz.func166, Tryz.ntmps166
  go_wp2_with (fail)
  refine (ImageOk_i _ _ _ Hv.out).mono ?_
  rintro e w' ⟨rfl, rfl⟩
  rw [Hok.out]
  go_wp2
  go_loop [4, 5, 6, 7, 13] (fun _ _ _ _ i => ∃ k : Nat, k ≤ m.length ∧ i = .int .i64 k ∧ (m.take k).all interOk = true) (fun _ _ _ _ i => m.length - (intOf i).toNat)
  case atStart => exact ⟨0, Nat.zero_le _, rfl, rfl⟩
  case round =>
    obtain ⟨k, hk, rfl, hall⟩ := hrel
    have Hall := Lib.hid hall; clear hall
    by_cases hlt : k < m.length
    · obtain ⟨row, hrow⟩ : ∃ row, m[k]? = some row := ⟨_, List.getElem?_eq_getElem hlt⟩
      obtain ⟨b, off, cpr, he, hb, -⟩ := Hv.out.inv_ne (by omega)
      obtain ⟨rfl, -⟩ : a = some ⟨b, off, none⟩ ∧ cap0 = cpr := by simpa using he
      obtain ⟨u, hck, hu⟩ := Sl.at Hv.out hrow
      have hu : Ints w u row := hu
      obtain ⟨br, cpr, rfl, -⟩ := id hu
      obtain ⟨hrl, hrb⟩ := hsh.2 row (List.mem_of_getElem? hrow)
      have hrl1 : 1 ≤ row.length := by omega
      have hrl5 : row.length ≤ 5 := by omega
      have Has := Lib.hid (all_take_step interOk hrow)
      have Hrow := Lib.hid hrow
      have Hu := Lib.hid hu
      have Hrb := Lib.hid hrb
      clear hrow he hu hrb hrl
      cases hi : interOk row
      · have Hi := Lib.hid hi; clear hi
        have Hf := Lib.hid (show hConvex m = false from by unfold hConvex; rw [all_of_take _ Hrow.out Hi.out]; simp)
        have hres : interRes row = .tuple #[.int .i64 0, .int .i64 0, .bool false] := by unfold interRes; rw [Hi.out]; rfl
        have Hres := Lib.hid hres; clear hres
        go_wp2_with (fail)
        refine (IntervalOf_c _ _ _ Hu.out hrl1 hrl5 Hrb.out).mono ?_
        rintro e w' ⟨rfl, rfl⟩
        rw [Hres.out]
        go_wp2
        go_ret
        exact ⟨retB Hf.out.symm, rfl⟩
      · have Hi := Lib.hid hi; clear hi
        have hres : interRes row = .tuple #[.int .i64 (firstOf row), .int .i64 (sumL row), .bool true] := by unfold interRes; rw [Hi.out]; rfl
        have Hres := Lib.hid hres; clear hres
        go_wp2_with (fail)
        refine (IntervalOf_c _ _ _ Hu.out hrl1 hrl5 Hrb.out).mono ?_
        rintro e w' ⟨rfl, rfl⟩
        rw [Hres.out]
        go_wp2
        go_round
        case rel => exact ⟨k + 1, by omega, by go_num, by rw [Has.out, Hall.out, Hi.out]; rfl⟩
        case measure => simp [intOf]; omega
    · have Hf := Lib.hid (show hConvex m = true from by unfold hConvex; rw [Hok.out, all_done Hall.out (by omega)]; rfl)
      go_wp2
      go_ret
      exact ⟨retB Hf.out.symm, rfl⟩
theorem IsVConvex_c (v : Value) (m : List (List Int)) (w : World) (hv : Grid w v m) : Calls Tryz.prog 167 #[v] w fun e w' => e = .returned (.bool (hConvex (trOf m))) ∧ Below w.heap.size w w' := by
  go_enter Tryz.func167, Tryz.ntmps167
  go_wp2_with (fail)
  refine (TransposeOf_i _ _ _ hv).mono ?_
  rintro e w1 ⟨v1, rfl, ho, hbel⟩
  go_wp2_with (fail)
  refine (IsHConvex_c _ _ _ ho.grid).mono ?_
  rintro e w2 ⟨rfl, rfl⟩
  go_wp2
  go_ret
  exact ⟨rfl, hbel⟩
end Go.Proofs.YthmocomfjgmjoaaGreatDoor
namespace Go.Proofs.YthmocomfjgmjoaaGreatDoor
open Go.RowKit
theorem isB_cell {m : List (List Int)} {r c : Nat} (hs : Shape r c m) (hr : 1 ≤ r) (h : imageOk m = true) (y x : Int) : isB r c m y x = (celG m y x == 1) := by
  rw [celG_shape hs hr h]
  unfold cellOf isB
  cases hb : inB r c y x
  · have : ¬ (0 ≤ y ∧ y < r ∧ 0 ≤ x ∧ x < c) := by rw [← inB_iff, hb]; simp
    simp only [Bool.false_eq_true, if_false]
    rw [show ((-1 : Int) == 1) = false from rfl, Bool.eq_false_iff]
    intro h1
    simp only [Bool.and_eq_true, decide_eq_true_eq] at h1
    exact this ⟨h1.1.1.1.1, h1.1.1.1.2, h1.1.1.2, h1.1.2⟩
  · rw [inB_iff] at hb
    simp only [if_true]
    rw [decide_eq_true hb.1, decide_eq_true hb.2.1, decide_eq_true hb.2.2.1, decide_eq_true hb.2.2.2]
    show decide (at2 m y.toNat x.toNat = 1) = _
    rw [show (m.getD y.toNat []).getD x.toNat 0 = at2 m y.toNat x.toNat from rfl]
    rfl
structure PSt (n g0 g1 r c G cap : Nat) (Q C : Nat → Nat) (W0 w : World) (m : List (List Int)) : Prop where
  base : Below n W0 w
  sh : Shape r c m
  own : Own 32 (Own 3 IntV) (Iv g0 g1) w (.slice (some ⟨G, 0, none⟩) r cap) m
  rows : ∀ k, k < r → w.cell? ⟨G, k, none⟩ = some (.slice (some ⟨Q k, 0, none⟩) c (C k))
  hg : g1 ≤ w.heap.size
theorem PSt.set {n g0 g1 r c G cap : Nat} {Q C : Nat → Nat} {W0 w : World} {m : List (List Int)} (hn : n ≤ g0) (h : PSt n g0 g1 r c G cap Q C W0 w m) {y x : Nat} (hy : y < r) (hx : x < c) {z : Int} (hz0 : 0 ≤ z) (hz1 : z ≤ 1) :
    w.cell? ⟨Q y, x, none⟩ = some (.int .i64 (at2 m y x)) ∧ w.frozen? ⟨Q y, x, none⟩ = false ∧ (g0 ≤ Q y ∧ Q y < g1) ∧
    PSt n g0 g1 r c G cap Q C W0 (w.setCell ⟨Q y, x, none⟩ (.int .i64 z)) (setC m y x z) := by
  obtain ⟨hrow, hrl⟩ := at2_row h.sh hy
  obtain ⟨q, cq, hcell, hG, hq, hqG, hcq, hxs, hrd, hset⟩ := own_grid_cell h.own hrow (by omega)
  have hQ := h.rows y hy
  rw [hcell] at hQ
  have e := Option.some.inj hQ
  have e2 : q = Q y := by injection e with e1 e3 e4; injection e1 with e5; injection e5
  subst e2
  have hco := hrd x (at2 m y x) (gD_at 0 (by omega))
  have hfo := (hxs x (by omega)).2
  have q1 := hq.1
  have q2 := hq.2
  refine ⟨hco, hfo, ⟨q1, q2⟩, ⟨h.base.setCell (by show n ≤ Q y; omega) _, setC_shape h.sh hy hz0 hz1, hset w (fun _ _ => rfl) x z (by omega) (I64.small (by omega) (by omega)), fun k hk => ?_, by rw [size_setCell]; exact h.hg⟩⟩
  rw [World.cell?_of_block (w := w) (a := ⟨G, k, none⟩) (Below.heap_setCell w ⟨Q y, x, none⟩ (.int .i64 z) G (by simpa using fun e => hqG e.symm))]
  exact h.rows k hk
theorem PSt.cell {n g0 g1 r c G cap : Nat} {Q C : Nat → Nat} {W0 w : World} {m : List (List Int)} (h : PSt n g0 g1 r c G cap Q C W0 w m) {y x : Nat} (hy : y < r) (hx : x < c) : w.cell? ⟨Q y, x, none⟩ = some (.int .i64 (at2 m y x)) := by
  obtain ⟨hrow, hrl⟩ := at2_row h.sh hy
  obtain ⟨q, cq, hcell, hG, hq, hqG, hcq, hxs, hrd, hset⟩ := own_grid_cell h.own hrow (by omega)
  have hQ := h.rows y hy
  rw [hcell] at hQ
  have e := Option.some.inj hQ
  have e2 : q = Q y := by injection e with e1 e3 e4; injection e1 with e5; injection e5
  subst e2
  exact hrd x (at2 m y x) (gD_at 0 (by omega))
theorem PSt.make {g0 g1 r c G cap : Nat} {W0 w : World} {m : List (List Int)} {n : Nat} (hb : Below n W0 w) (hs : Shape r c m) (hc1 : 1 ≤ c) (ho : Own 32 (Own 3 IntV) (Iv g0 g1) w (.slice (some ⟨G, 0, none⟩) r cap) m) (hg : g1 ≤ w.heap.size) :
    ∃ Q C : Nat → Nat, PSt n g0 g1 r c G cap Q C W0 w m := by
  refine ⟨fun k => match w.cell? ⟨G, k, none⟩ with | some (.slice (some p) _ _) => p.block | _ => 0, fun k => match w.cell? ⟨G, k, none⟩ with | some (.slice _ _ q) => q | _ => 0, ⟨hb, hs, ho, fun k hk => ?_, hg⟩⟩
  have hrow := at2_row hs hk
  obtain ⟨q, cq, hcell, -⟩ := own_grid_cell ho hrow.1 (by rw [hrow.2]; omega)
  rw [hrow.2] at hcell
  rw [hcell]
structure WSt (n Bl Bw g0 g1 r c G cap : Nat) (F : Value) (Q C : Nat → Nat) (W0 w : World) (m : List (List Int)) : Prop where
  p : PSt n g0 g1 r c G cap Q C W0 w m
  bl : Blk w Bl #[.slice (some ⟨G, 0, none⟩) r cap] 31
  bw : Blk w Bw #[F] 182
theorem WSt.set {n Bl Bw g0 g1 r c G cap : Nat} {F : Value} {Q C : Nat → Nat} {W0 w : World} {m : List (List Int)} (hn : n ≤ g0) (h2 : g1 ≤ Bl) (h3 : g1 ≤ Bw) (h : WSt n Bl Bw g0 g1 r c G cap F Q C W0 w m) {y x : Nat} (hy : y < r) (hx : x < c) {z : Int} (hz0 : 0 ≤ z) (hz1 : z ≤ 1) :
    w.cell? ⟨Q y, x, none⟩ = some (.int .i64 (at2 m y x)) ∧ w.frozen? ⟨Q y, x, none⟩ = false ∧ WSt n Bl Bw g0 g1 r c G cap F Q C W0 (w.setCell ⟨Q y, x, none⟩ (.int .i64 z)) (setC m y x z) := by
  obtain ⟨a1, a2, ⟨a3, a4⟩, a5⟩ := h.p.set hn hy hx hz0 hz1
  exact ⟨a1, a2, ⟨a5, h.bl.set_ne (by omega) _, h.bw.set_ne (by omega) _⟩⟩
theorem wipe_c {n Bl Bw g0 g1 r c G cap : Nat} {F : Value} {Q C : Nat → Nat} {W0 : World} (h1 : n ≤ g0) (h2 : g1 ≤ Bl) (h3 : g1 ≤ Bw)
    (hF : F = .func (.func 232) #[] #[.pointer (some ⟨Bl, 0, none⟩), .pointer (some ⟨Bw, 0, none⟩)]) (hr1 : 1 ≤ r) (hr5 : r ≤ 5) (hc1 : 1 ≤ c) (hc5 : c ≤ 5) (N : Nat) :
    ∀ (y x : Int) (m : List (List Int)) (w : World), WSt n Bl Bw g0 g1 r c G cap F Q C W0 w m → blk m < N → -1 ≤ y → y ≤ 5 → -1 ≤ x → x ≤ 5 →
      Calls Tryz.prog 232 #[.int .i64 y, .int .i64 x, .pointer (some ⟨Bl, 0, none⟩), .pointer (some ⟨Bw, 0, none⟩)] w fun e w' => e = .returned (.tuple #[]) ∧ WSt n Bl Bw g0 g1 r c G cap F Q C W0 w' (wipeF r c N m y x) := by
  subst hF
  induction N with
  | zero => intro y x m w _ hb; omega
  | succ N ih =>
    intro y x m w hst hb hy0 hy1 hx0 hx1
    have IH := Lib.hid ih
    have Hst := Lib.hid hst
    have cl : w.cell? ⟨Bl, 0, none⟩ = some (.slice (some ⟨G, 0, none⟩) r cap) := hst.bl.cell 0
    have HG := Lib.hid hst.p.own.grid
    have Hsh := Lib.hid hst.p.sh
    have hB2 := isB_cell hst.p.sh hr1 (hst.p.sh.ok hr1 hr5 hc1 hc5) y x
    have Hb := Lib.hid hb
    obtain ⟨z, hz⟩ : ∃ z, z = celG m y x := ⟨_, rfl⟩
    rw [← hz] at hB2
    have Hz := Lib.hid hz
    clear ih hst hz hb
    cases hB : isB r c m y x
    · have Hr := Lib.hid (show wipeF r c (N + 1) m y x = m from wipeF_off (by rw [hB]; simp) _)
      have hne : (z != 1) = true := by rw [hB] at hB2; simp [bne, ← hB2]
      clear hB hB2
      go_enter Tryz.func232, Tryz.ntmps232
      go_wp2_with (fail)
      refine (CellAt_i _ _ _ _ _ HG.out).mono ?_
      rintro e w' ⟨rfl, rfl⟩
      rw [← Hz.out]
      go_wp2
      exact bodyPost_ret (v := .tuple #[]) (by simp [results, Tryz.results232, go_sem]) rfl ⟨rfl, by rw [Hr.out]; exact Hst.out⟩
    · have hne : (z != 1) = false := by rw [hB] at hB2; simp [bne, ← hB2]
      have Hr := Lib.hid (wipeF_on hB N)
      obtain ⟨b1, b2, b3, b4, -⟩ := isB_bd hB
      have hbs := blk_set Hsh.out hB
      obtain ⟨Y, rfl⟩ : ∃ Y : Nat, y = Y := ⟨y.toNat, by omega⟩
      obtain ⟨X, rfl⟩ : ∃ X : Nat, x = X := ⟨x.toNat, by omega⟩
      rw [Int.toNat_natCast] at b2 b4
      rw [Int.toNat_natCast, Int.toNat_natCast] at hbs
      have hcell := Hst.out.p.rows Y b2
      obtain ⟨ho, hfo, st1⟩ := Hst.out.set h1 h2 h3 b2 b4 (z := 0) (by decide) (by decide)
      have c1 := st1.bw.cell 0
      simp only [List.getElem?_toArray, List.getElem?_cons_zero] at c1
      have Hk1 : Hid (blk (setC m Y X 0) < N) := Lib.hid (by have := Hb.out; omega)
      have St1 := Lib.hid st1
      have Hr2 := Hr
      rw [Int.toNat_natCast, Int.toNat_natCast] at Hr2
      clear hB hB2 hbs st1 b1 b3 Hr
      go_enter Tryz.func232, Tryz.ntmps232
      go_wp2_with (fail)
      refine (CellAt_i _ _ _ _ _ HG.out).mono ?_
      rintro e w' ⟨rfl, rfl⟩
      rw [← Hz.out]
      go_wp2_with (fail)
      refine (IH.out ((Y : Int) - 1) X _ _ St1.out Hk1.out (by omega) (by omega) (by omega) (by omega)).mono ?_
      rintro e w2 ⟨rfl, st2⟩
      have c2 := st2.bw.cell 0
      simp only [List.getElem?_toArray, List.getElem?_cons_zero] at c2
      have Hk2 := Lib.hid (Nat.lt_of_le_of_lt (wipeF_shape N ((Y : Int) - 1) X St1.out.p.sh).2 Hk1.out)
      have St2 := Lib.hid st2
      clear st2 c1 ho hfo hcell cl
      go_wp2_with (fail)
      refine (IH.out ((Y : Int) + 1) X _ _ St2.out Hk2.out (by omega) (by omega) (by omega) (by omega)).mono ?_
      rintro e w3 ⟨rfl, st3⟩
      have c3 := st3.bw.cell 0
      simp only [List.getElem?_toArray, List.getElem?_cons_zero] at c3
      have Hk3 := Lib.hid (Nat.lt_of_le_of_lt (wipeF_shape N ((Y : Int) + 1) X St2.out.p.sh).2 Hk2.out)
      have St3 := Lib.hid st3
      clear st3 c2
      go_wp2_with (fail)
      refine (IH.out Y ((X : Int) - 1) _ _ St3.out Hk3.out (by omega) (by omega) (by omega) (by omega)).mono ?_
      rintro e w4 ⟨rfl, st4⟩
      have c4 := st4.bw.cell 0
      simp only [List.getElem?_toArray, List.getElem?_cons_zero] at c4
      have Hk4 := Lib.hid (Nat.lt_of_le_of_lt (wipeF_shape N Y ((X : Int) - 1) St3.out.p.sh).2 Hk3.out)
      have St4 := Lib.hid st4
      clear st4 c3
      go_wp2_with (fail)
      refine (IH.out Y ((X : Int) + 1) _ _ St4.out Hk4.out (by omega) (by omega) (by omega) (by omega)).mono ?_
      rintro e w5 ⟨rfl, st5⟩
      have St5 := Lib.hid st5
      clear st5 c4
      go_wp2
      exact bodyPost_end (results_none rfl _ _ _) rfl ⟨rfl, by rw [Hr2.out]; exact St5.out⟩
theorem CountPieces_i (v : Value) (m : List (List Int)) (w : World) (hv : Grid w v m) : Calls Tryz.prog 168 #[v] w fun e w' => e = .returned (.int .i64 (pieces m)) ∧ Below w.heap.size w w' := by
  have Hv := Lib.hid hv
  obtain ⟨a, cap0, rfl, -⟩ := id hv
  cases hok : imageOk m
  · have Hr := Lib.hid (show pieces m = -1 from by unfold pieces; rw [hok]; rfl)
    have Hok := Lib.hid hok
    clear hok hv
    go_enter Tryz.func168, Tryz.ntmps168
    go_wp2_with (fail)
    refine (ImageOk_i _ _ _ Hv.out).mono ?_
    rintro e w' ⟨rfl, rfl⟩
    rw [Hok.out]
    go_wp2
    go_ret
    exact ⟨retI Hr.out.symm, Below.refl _ _⟩
  obtain ⟨r, c, hr1, hr5, hc1, hc5, hs⟩ := imageOk_shape hok
  have HP := Lib.hid (show pieces m = (cntAll r c r (m, 0)).2 from by obtain ⟨e1, e2⟩ := shape_dims hs hr1; unfold pieces; rw [if_pos hok, e1, e2])
  have Hok := Lib.hid hok
  have Hml := Lib.hid (show m.length ≤ 1048576 from by have := hs.1; omega)
  have HR := Lib.hid (show ∀ p ∈ m, p.length ≤ 1048576 from fun p hp => by have := (hs.2 p hp).1; omega)
  clear hok hv
  go_enter Tryz.func168, Tryz.ntmps168
  go_wp2_with (fail)
  refine (ImageOk_i _ _ _ Hv.out).mono ?_
  rintro e w' ⟨rfl, rfl⟩
  rw [Hok.out]
  go_wp2_with (fail)
  refine (copyGrid_c _ m _ Hv.out Hml.out HR.out).mono ?_
  rintro e w2 ⟨v2, rfl, o2, b2⟩
  have hml := hs.1
  obtain ⟨G, cap, rfl, hG, hcap, hGl, -⟩ := o2.inv_ne (by omega)
  rw [hml] at o2 hcap ⊢
  have hsz2 := b2.size
  obtain ⟨F, hF⟩ : ∃ F : Value, F = .func (.func 232) #[] #[.pointer (some ⟨w2.heap.size, 0, none⟩), .pointer (some ⟨w2.heap.size + 1, 0, none⟩)] := ⟨_, rfl⟩
  obtain ⟨W6, hW6⟩ : ∃ W6, W6 = (w2.alloc (.cells #[.slice (some ⟨G, 0, none⟩) r cap] 31)).alloc (.cells #[F] 182) := ⟨_, rfl⟩
  have b26 : Below w2.heap.size w2 W6 := by rw [hW6]; exact ((Below.refl _ _).alloc (Nat.le_refl _) _).alloc (by simp) _
  have z6 : W6.heap.size = w2.heap.size + 2 := by rw [hW6]; simp
  have kl : Blk W6 w2.heap.size #[.slice (some ⟨G, 0, none⟩) r cap] 31 := by rw [hW6]; exact (Blk.new w2 _ _).keep (Below.pureAlloc _ _)
  have kw : Blk W6 (w2.heap.size + 1) #[F] 182 := by
    rw [hW6]
    have := Blk.new (w2.alloc (.cells #[.slice (some ⟨G, 0, none⟩) r cap] 31)) #[F] 182
    simpa using this
  obtain ⟨Q, C, hp⟩ := PSt.make (n := w.heap.size) (g0 := w.heap.size) (g1 := w2.heap.size) (b2.trans_pure b26 (Nat.le_refl _)) hs hc1 (Own.keep (rOwn rIntV) o2 b26 (Nat.le_refl _)) (by omega)
  have Hst : Hid (WSt w.heap.size w2.heap.size (w2.heap.size + 1) w.heap.size w2.heap.size r c G cap F Q C w W6 m) := Lib.hid ⟨hp, kl, kw⟩
  have Hwipe := Lib.hid (wipe_c (W0 := w) (n := w.heap.size) (Bl := w2.heap.size) (Bw := w2.heap.size + 1) (g0 := w.heap.size) (g1 := w2.heap.size) (G := G) (cap := cap) (Q := Q) (C := C) (Nat.le_refl _) (Nat.le_refl _) (by omega) hF hr1 hr5 hc1 hc5 (r * c + 1))
  clear o2 b2 b26 z6 kl kw hp hml hG hcap hGl
  subst hF
  subst hW6
  go_wp2
  go_loopw [5, 6, 7, 8, 9, 18] (fun n _ _ _ _ i wr => ∃ (k cnt : Nat) (g : List (List Int)), k ≤ r ∧ i = .int .i64 k ∧ n = .int .i64 cnt ∧ cnt ≤ 5 * k ∧ Hid ((cntAll r c (r - k) (g, (cnt : Int))).2 = pieces m) ∧ Hid (WSt w.heap.size w2.heap.size (w2.heap.size + 1) w.heap.size w2.heap.size r c G cap (.func (.func 232) #[] #[.pointer (some ⟨w2.heap.size, 0, none⟩), .pointer (some ⟨w2.heap.size + 1, 0, none⟩)]) Q C w wr g)) (fun _ _ _ _ _ i _ => r - (intOf i).toNat)
  case atStart => exact ⟨0, 0, m, Nat.zero_le _, rfl, rfl, Nat.le_refl _, Lib.hid (by rw [HP.out, Nat.sub_zero]; rfl), Hst⟩
  case round =>
    clear Hst
    obtain ⟨k, cnt, g, hk, rfl, rfl, hcnt, Hc, Hst⟩ := hrel
    by_cases hlt : k < r
    · have hrow := Hst.out.p.rows k hlt
      have hdk : decide ((k : Int) < (r : Int)) = true := by simp; omega
      have Hc2 := Lib.hid (show (cntAll r c (r - (k + 1)) (cntRow r c k c (g, (cnt : Int)))).2 = pieces m from by rw [← cntAll_step hlt]; exact Hc.out)
      go_wp2
      clear hrow
      go_loopw [5, 8, 9, 25] (fun n _ _ j wr => ∃ (x cnt2 : Nat) (g2 : List (List Int)), x ≤ c ∧ j = .int .i64 x ∧ n = .int .i64 cnt2 ∧ cnt2 ≤ 5 * k + x ∧ Hid ((cntAll r c (r - (k + 1)) (cntRow r c k (c - x) (g2, (cnt2 : Int)))).2 = pieces m) ∧ Hid (WSt w.heap.size w2.heap.size (w2.heap.size + 1) w.heap.size w2.heap.size r c G cap (.func (.func 232) #[] #[.pointer (some ⟨w2.heap.size, 0, none⟩), .pointer (some ⟨w2.heap.size + 1, 0, none⟩)]) Q C w wr g2)) (fun _ _ _ j _ => c - (intOf j).toNat)
      case atStart => exact ⟨0, cnt, g, Nat.zero_le _, rfl, rfl, by omega, Lib.hid (by rw [Nat.sub_zero]; exact Hc2.out), Hst⟩
      case round =>
        clear Hst Hc Hc2
        obtain ⟨x, cnt2, g2, hx, rfl, rfl, hcnt2, Hc, Hst⟩ := hrel
        by_cases hlt2 : x < c
        · have hrow := Hst.out.p.rows k hlt
          have hcell := Hst.out.p.cell hlt hlt2
          have Hstep := Lib.hid (cntRow_step (r := r) (y := k) hlt2 (g2, (cnt2 : Int)))
          obtain ⟨z, hz⟩ : ∃ z, z = at2 g2 k x := ⟨_, rfl⟩
          rw [← hz] at hcell
          have Hz := Lib.hid hz
          clear hz
          by_cases hz1 : z = 1
          · subst hz1
            have Hc3 := Lib.hid (show (cntAll r c (r - (k + 1)) (cntRow r c k (c - (x + 1)) (wipeF r c (r * c + 1) g2 k x, ((cnt2 + 1 : Nat) : Int)))).2 = pieces m from by
              have h := Hc.out
              rw [Hstep.out, if_pos Hz.out.symm] at h
              exact h)
            have Hbk := Lib.hid (Nat.lt_succ_of_le (blk_le Hst.out.p.sh))
            have c4 : wr.cell? ⟨w2.heap.size + 1, 0, none⟩ = some (.func (.func 232) #[] #[.pointer (some ⟨w2.heap.size, 0, none⟩), .pointer (some ⟨w2.heap.size + 1, 0, none⟩)]) := Hst.out.bw.cell 0
            clear Hstep
            go_wp2_with (fail)
            refine (Hwipe.out (k : Int) (x : Int) g2 _ Hst.out Hbk.out (by omega) (by omega) (by omega) (by omega)).mono ?_
            rintro e w5 ⟨rfl, st5⟩
            have Hst5 := Lib.hid st5
            clear st5
            go_wp2
            go_roundw
            case rel => exact ⟨x + 1, cnt2 + 1, _, by omega, by go_num, by go_num, by omega, Hc3, Hst5⟩
            case measure => simp [intOf]; omega
          · have hne : (z == 1) = false := by rw [beq_eq_false_iff_ne]; exact hz1
            have Hc3 := Lib.hid (show (cntAll r c (r - (k + 1)) (cntRow r c k (c - (x + 1)) (g2, (cnt2 : Int)))).2 = pieces m from by
              have h := Hc.out
              rw [Hstep.out, if_neg (by rw [← Hz.out]; exact hz1)] at h
              exact h)
            clear Hstep hz1
            go_wp2
            go_roundw
            case rel => exact ⟨x + 1, cnt2, g2, by omega, by go_num, rfl, by omega, Hc3, Hst⟩
            case measure => simp [intOf]; omega
        · obtain rfl : x = c := by omega
          have Hc3 := Lib.hid (show (cntAll r x (r - (k + 1)) (g2, (cnt2 : Int))).2 = pieces m from by
            have h := Hc.out
            rw [Nat.sub_self] at h
            exact h)
          go_wp2
          go_roundw
          case rel => exact ⟨k + 1, cnt2, g2, by omega, by go_num, rfl, by omega, Hc3, Hst⟩
          case measure => simp [intOf]; omega
    · obtain rfl : k = r := by omega
      have Hfin := Lib.hid (show (cnt : Int) = pieces m from by
        have h := Hc.out
        rw [Nat.sub_self] at h
        exact h)
      have Hb := Lib.hid Hst.out.p.base
      go_wp2
      go_ret
      exact ⟨retI Hfin.out, Hb.out⟩
def isConv (m : List (List Int)) : Bool := hConvex m && hConvex (trOf m)
theorem IsConvex_i (v : Value) (m : List (List Int)) (w : World) (hv : Grid w v m) : Calls Tryz.prog 110 #[v] w fun e w' => e = .returned (.bool (isConv m)) ∧ Below w.heap.size w w' := by
  have Hv := Lib.hid hv
  obtain ⟨a, cap0, rfl, -⟩ := hv
  cases h : hConvex m
  · have Hr := Lib.hid (show isConv m = false from by unfold isConv; rw [h]; rfl)
    have H := Lib.hid h
    clear h
    go_enter Tryz.func110, Tryz.ntmps110
    go_wp2_with (fail)
    refine (IsHConvex_c _ _ _ Hv.out).mono ?_
    rintro e w' ⟨rfl, rfl⟩
    rw [H.out]
    go_wp2
    go_ret
    exact ⟨retB Hr.out.symm, Below.refl _ _⟩
  · have Hr := Lib.hid (show isConv m = hConvex (trOf m) from by unfold isConv; rw [h]; rfl)
    have H := Lib.hid h
    clear h
    go_enter Tryz.func110, Tryz.ntmps110
    go_wp2_with (fail)
    refine (IsHConvex_c _ _ _ Hv.out).mono ?_
    rintro e w' ⟨rfl, rfl⟩
    rw [H.out]
    go_wp2_with (fail)
    refine (IsVConvex_c _ _ _ Hv.out).mono ?_
    rintro e w2 ⟨rfl, b2⟩
    go_wp2
    go_ret
    exact ⟨retB Hr.out.symm, b2⟩
theorem IsPolyomino_i (v : Value) (m : List (List Int)) (w : World) (hv : Grid w v m) : Calls Tryz.prog 111 #[v] w fun e w' => e = .returned (.bool (pieces m == 1)) ∧ Below w.heap.size w w' := by
  have Hv := Lib.hid hv
  obtain ⟨a, cap0, rfl, -⟩ := hv
  obtain ⟨z, hz⟩ : ∃ z, z = pieces m := ⟨_, rfl⟩
  have Hz := Lib.hid hz
  rw [← hz]
  clear hz
  go_enter Tryz.func111, Tryz.ntmps111
  go_wp2_with (fail)
  refine (CountPieces_i _ _ _ Hv.out).mono ?_
  rintro e w2 ⟨rfl, b2⟩
  rw [← Hz.out]
  go_wp2
  go_ret
  exact ⟨rfl, b2⟩
def convG (rows cols : List Int) : List (List (List Int)) := (imgsOf rows cols).filter fun m => isConv m && (pieces m == 1)
theorem infoGridV : (Tryz.prog.info? 31).map (fun i => (i.zero, i.size, i.bytes)) = some (some (.slice none 0 0), 1, 24) := by kernel_rfl
def convP (m : List (List Int)) : Bool := isConv m && (pieces m == 1)
theorem convG_def (rows cols : List Int) : convG rows cols = (imgsOf rows cols).filter convP := rfl
theorem filter_takeV {α : Type} (p : α → Bool) {l : List α} {k : Nat} {x : α} (h : l[k]? = some x) : (l.take (k + 1)).filter p = (l.take k).filter p ++ (if p x then [x] else []) := by
  rw [List.take_add_one, h, List.filter_append]
  cases hp : p x <;> simp [hp]
def ConvRes (w : World) (xs ys : List Int) (e : Ending) (w' : World) : Prop := ∃ v', e = .returned (.tuple #[v', .bool (sumsOk xs ys)]) ∧ Grids w' v' (convG xs ys) ∧ Below w.heap.size w w'
theorem grids_nil (w : World) : Grids w (.slice none 0 0) [] := ⟨none, 0, rfl, by simp, by simp, fun _ => rfl, fun h => by simp at h⟩
theorem ConvexImages_i (vx vy : Value) (xs ys : List Int) (w : World) (hx : Ints w vx xs) (hy : Ints w vy ys) : Calls Tryz.prog 51 #[vx, vy] w (ConvRes w xs ys) := by
  have hbig := imgsOf_len xs ys
  obtain ⟨L, hL⟩ : ∃ L, L = imgsOf xs ys := ⟨_, rfl⟩
  have Hfin := Lib.hid (show L.filter convP = convG xs ys from by rw [hL, convG_def])
  rw [← hL] at hbig
  have HL := Lib.hid hL
  have Hx := Lib.hid hx
  have Hy := Lib.hid hy
  obtain ⟨ax, cx, rfl, -⟩ := hx
  obtain ⟨ay, cy, rfl, -⟩ := hy
  clear hL
  go_enter Tryz.func51, Tryz.ntmps51
  go_wp2_with (fail)
  refine (AllImages_i _ _ _ _ _ Hx.out Hy.out).mono ?_
  rintro e w1 ⟨v1, rfl, o1, b1⟩
  rw [← HL.out] at o1
  obtain ⟨p1, p2, p3, rfl⟩ := o1.shape
  have hp2 := Sl.len o1.grids
  subst hp2
  have Hg := Lib.hid o1.grids
  cases hok : sumsOk xs ys
  · have Hok := Lib.hid hok
    have Hr := Lib.hid (show convG xs ys = [] from by rw [convG_def, imgsOf_no hok]; rfl)
    clear o1 hok
    go_wp2
    go_ret2
    exact ⟨_, by rw [Hok.out]; rfl, by rw [Hr.out]; exact grids_nil _, b1⟩
  have Hok := Lib.hid hok
  obtain ⟨N, hN⟩ : ∃ N, N = L.length := ⟨_, rfl⟩
  rw [← hN] at Hg hbig ⊢
  have HN := Lib.hid hN
  clear o1 hN hok
  go_wp2
  go_loopw [8, 10, 21] (fun out _ i wr => ∃ (k : Nat) (us : List Value), k ≤ N ∧ i = .int .i64 k ∧ Hid (Own 31 AnyV (Iv w1.heap.size wr.heap.size) wr out us) ∧ Hid (Heads (Sl (Sl IntV)) w1 us ((L.take k).filter convP)) ∧ Hid (Below w1.heap.size w1 wr)) (fun _ _ i _ => N - (intOf i).toNat)
  case atStart => exact ⟨0, [], Nat.zero_le _, rfl, by first | exact Lib.hid (Own.nil _ _ _ _) | exact Lib.hid (own_lit0 _ _ _ rAnyV), Heads.nil _ _, by first | exact Lib.hid (Below.refl _ _) | exact Lib.hid (Below.pureAlloc _ _)⟩
  case round =>
    obtain ⟨k, us, hk, rfl, Ho, Hh, Hb⟩ := hrel
    by_cases hlt : k < N
    · obtain ⟨x, hx⟩ : ∃ x, L[k]? = some x := ⟨_, List.getElem?_eq_getElem (by rw [← HN.out]; exact hlt)⟩
      obtain ⟨gl, go, gc, he, hgl, -⟩ := Hg.out.inv_ne (by rw [← HN.out]; omega)
      obtain ⟨rfl, -⟩ : p1 = some ⟨gl, go, none⟩ ∧ p3 = gc := by
        simp only [Value.slice.injEq] at he
        exact ⟨he.1, he.2.2⟩
      obtain ⟨u, hck, hu⟩ := Sl.at Hg.out hx
      have Hu := Lib.hid (show Grid w1 u x from hu)
      obtain ⟨ua, uc, rfl, -⟩ := hu
      have hck' := (Hb.out.cell (p := ⟨gl, go + k, none⟩) hgl).trans hck
      have Htk := Lib.hid (filter_takeV convP hx)
      have hlen := Hh.out.1
      have hlen2 : ((L.take k).filter convP).length ≤ k := Nat.le_trans (List.length_filter_le _ _) (by rw [List.length_take]; omega)
      have hus : us.length < 1099511627776 := by omega
      obtain ⟨wo, rfl⟩ : ∃ wo : World, wo = wr := ⟨_, rfl⟩
      obtain ⟨q1, q2, q3, rfl⟩ := Ho.out.shape
      clear hx hck he hlen hlen2
      cases hc1 : isConv x
      · have Hc1 := Lib.hid hc1
        have Ht2 := Lib.hid (show (L.take (k + 1)).filter convP = (L.take k).filter convP from by rw [Htk.out]; simp [convP, hc1])
        clear hc1
        go_wp2_with (fail)
        refine (IsConvex_i _ _ _ (Hu.out.keep Hb.out)).mono ?_
        rintro e w2 ⟨rfl, b2⟩
        rw [Hc1.out]
        have Ho2 := Lib.hid (Own.grow rAnyV Ho.out (Nat.le_refl _) b2)
        have Hb2 := Lib.hid (Hb.out.trans_pure b2 (Nat.le_refl _))
        clear b2
        go_wp2
        go_roundw
        case rel => exact ⟨k + 1, us, by omega, by go_num, Ho2, Lib.hid (by rw [Ht2.out]; exact Hh.out), Hb2⟩
        case measure => simp [intOf]; omega
      · have Hc1 := Lib.hid hc1
        cases hc2 : (pieces x == 1)
        · have Hc2 := Lib.hid hc2
          have Ht2 := Lib.hid (show (L.take (k + 1)).filter convP = (L.take k).filter convP from by rw [Htk.out]; simp [convP, hc1, hc2])
          clear hc1 hc2
          go_wp2_with (fail)
          refine (IsConvex_i _ _ _ (Hu.out.keep Hb.out)).mono ?_
          rintro e w2 ⟨rfl, b2⟩
          rw [Hc1.out]
          go_wp2_with (fail)
          refine (IsPolyomino_i _ _ _ ((Hu.out.keep Hb.out).keep b2)).mono ?_
          rintro e w3 ⟨rfl, b3⟩
          rw [Hc2.out]
          have b23 := b2.trans_pure b3 (Nat.le_refl _)
          have Ho2 := Lib.hid (Own.grow rAnyV Ho.out (Nat.le_refl _) b23)
          have Hb2 := Lib.hid (Hb.out.trans_pure b23 (Nat.le_refl _))
          clear b2 b3 b23
          go_wp2
          go_roundw
          case rel => exact ⟨k + 1, us, by omega, by go_num, Ho2, Lib.hid (by rw [Ht2.out]; exact Hh.out), Hb2⟩
          case measure => simp [intOf]; omega
        · have Hc2 := Lib.hid hc2
          have Ht2 := Lib.hid (show (L.take (k + 1)).filter convP = (L.take k).filter convP ++ [x] from by rw [Htk.out]; simp [convP, hc1, hc2])
          clear hc1 hc2
          go_wp2_with (fail)
          refine (IsConvex_i _ _ _ (Hu.out.keep Hb.out)).mono ?_
          rintro e w2 ⟨rfl, b2⟩
          rw [Hc1.out]
          go_wp2_with (fail)
          refine (IsPolyomino_i _ _ _ ((Hu.out.keep Hb.out).keep b2)).mono ?_
          rintro e w3 ⟨rfl, b3⟩
          rw [Hc2.out]
          have b23 := b2.trans_pure b3 (Nat.le_refl _)
          have Ho2 := Lib.hid (Own.grow rAnyV Ho.out (Nat.le_refl _) b23)
          have Hb2 := Lib.hid (Hb.out.trans_pure b23 (Nat.le_refl _))
          have hw4 := Hb2.out.size
          clear b2 b3 b23
          go_wp2_with (first | (at_builtin; (refine wpList_appR rfl _ _ 77 rfl rAnyV 31 Tryz.underlying77 infoGridV rfl (by decide) w1.heap.size w3.heap.size hw4 (Nat.le_refl _) rfl rfl (by exact Ho2.out) (by exact ⟨rfl, rfl⟩) hus ?_); intro v2 w2 hown2 hbel2 _) | fail)
          have Hb3 := Lib.hid (Hb2.out.trans hbel2)
          have Hh3 := Lib.hid (Hh.out.snoc (x := x) Hu.out)
          exact ⟨⟨k + 1, _, by omega, by go_num, Lib.hid hown2, Lib.hid (by rw [Ht2.out]; exact Hh3.out), Hb3⟩, by simp [intOf]; omega⟩
    · obtain rfl : k = N := by omega
      rw [List.take_of_length_le (by rw [← HN.out]; exact Nat.le_refl _)] at Hh
      obtain ⟨q1, q2, q3, rfl⟩ := Ho.out.shape
      have Hfin2 := Lib.hid ((Hh.out.keep (rSl (rSl rIntV)) Hb.out).list Ho.out)
      have bbf := b1.trans_pure Hb.out (Nat.le_refl _)
      go_wp2
      go_ret2
      exact ⟨_, by rw [Hok.out]; rfl, by rw [← Hfin.out]; exact Hfin2.out, bbf⟩
end Go.Proofs.YthmocomfjgmjoaaGreatDoor

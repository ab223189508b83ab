/- Contracts and plain laws that the claims on sessions use. No condition of their own. -/
import Derived.Test.YthmocomfjgmjoaaGreatDoorQ02
import Derived.Test.YthmocomfjgmjoaaGreatDoorQ04
import Derived.RegionTactic
import Derived.BigRegion
import Derived.Test.YthmocomfjgmjoaaGreatDoorQ06
set_option maxHeartbeats 1600000
set_option maxRecDepth 100000
namespace Go.Proofs.YthmocomfjgmjoaaGreatDoor
open Go.RowKit
theorem magnitude_c (n : Int) (w : World) (h1 : -1048576 ≤ n) (h2 : n ≤ 1048576) : Calls Tryz.prog 245 #[.int .i64 n] w fun e w' => e = .returned (.int .i64 (mag n)) ∧ w = w' := by
  go_enter Tryz.func245, Tryz.ntmps245
  by_cases hn : n < 0
  · have H := Lib.hid (show mag n = -n from by unfold mag; rw [if_pos hn])
    go_wp2
    go_ret
    exact ⟨retI (by rw [H.out]), rfl⟩
  · have H := Lib.hid (show mag n = n from by unfold mag; rw [if_neg hn])
    go_wp2
    go_ret
    exact ⟨retI (by rw [H.out]), rfl⟩
theorem ChangeOf_ib (v1 v2 v3 : Value) (rows cols : List Int) (m : List (List Int)) (w : World) (h1 : Ints w v1 rows) (h2 : Ints w v2 cols) (h3 : Grid w v3 m) (hbad : changeOk rows cols m = false) :
    Calls Tryz.prog 174 #[v1, v2, v3] w fun e w' => e = .returned (.int .i64 (changeOf rows cols m)) ∧ Below w.heap.size w w' := by
  have H1 := Lib.hid h1
  have H2 := Lib.hid h2
  have H3 := Lib.hid h3
  obtain ⟨a1, c1, rfl, -⟩ := id h1
  obtain ⟨a2, c2, rfl, -⟩ := id h2
  obtain ⟨a3, c3, rfl, -⟩ := id h3
  clear h1 h2 h3
  cases hsf : sumsFit rows cols
  · have Hr := Lib.hid (show changeOf rows cols m = -1 from by simp [changeOf, changeOk, hsf])
    have Hsf := Lib.hid hsf; clear hsf
    go_enter Tryz.func174, Tryz.ntmps174
    go_wp2_with (fail)
    refine (SumsFit_i _ _ _ _ _ H1.out H2.out).mono ?_
    rintro e w' ⟨rfl, rfl⟩
    rw [Hsf.out]
    go_wp2
    go_ret
    exact ⟨retI Hr.out.symm, Below.refl _ _⟩
  cases him : imageOk m
  · have Hr := Lib.hid (show changeOf rows cols m = -1 from by simp [changeOf, changeOk, him])
    have Hsf := Lib.hid hsf; clear hsf
    have Him := Lib.hid him; clear him
    go_enter Tryz.func174, Tryz.ntmps174
    go_wp2_with (fail)
    refine (SumsFit_i _ _ _ _ _ H1.out H2.out).mono ?_
    rintro e w' ⟨rfl, rfl⟩
    rw [Hsf.out]
    go_wp2_with (fail)
    refine (ImageOk_i _ _ _ H3.out).mono ?_
    rintro e w' ⟨rfl, rfl⟩
    rw [Him.out]
    go_wp2
    go_ret
    exact ⟨retI Hr.out.symm, Below.refl _ _⟩
  obtain ⟨r, c, hr1, hr5, hc1, hc5, hsh⟩ := imageOk_shape him
  have hml := hsh.1
  obtain ⟨row0, hrow0, hrl0, -⟩ := hsh.row (y := 0) (by omega)
  obtain ⟨b, off, cpr, he, hb, -⟩ := H3.out.inv_ne (by omega)
  obtain ⟨rfl, -⟩ : a3 = some ⟨b, off, none⟩ ∧ c3 = cpr := by simpa using he
  obtain ⟨u0, hck0, hu0⟩ := Sl.at H3.out hrow0
  obtain ⟨a0, cp0, rfl, -⟩ := hu0
  rw [hrl0, Nat.add_zero] at hck0
  have hhead := hsh.head hr1
  rw [hml] at H3 ⊢
  have Hsf := Lib.hid hsf
  have Him := Lib.hid him
  rcases (Decidable.em (r = rows.length)).symm with hlr | hlr
  · have Hr := Lib.hid (show changeOf rows cols m = -1 from by simp [changeOf, changeOk, hml, hlr])
    have hne : ((r : Int) == (rows.length : Int)) = false := by rw [beq_eq_false_iff_ne]; omega
    clear hsf him hrow0 he hml hrl0 hhead
    go_enter Tryz.func174, Tryz.ntmps174
    go_wp2_with (fail)
    refine (SumsFit_i _ _ _ _ _ H1.out H2.out).mono ?_
    rintro e w' ⟨rfl, rfl⟩
    rw [Hsf.out]
    go_wp2_with (fail)
    refine (ImageOk_i _ _ _ H3.out).mono ?_
    rintro e w' ⟨rfl, rfl⟩
    rw [Him.out]
    go_wp2
    go_ret
    exact ⟨retI Hr.out.symm, Below.refl _ _⟩
  subst hlr
  rcases (Decidable.em (c = cols.length)).symm with hlc | hlc
  · have Hr := Lib.hid (show changeOf rows cols m = -1 from by unfold changeOf changeOk; rw [hhead]; simp [hlc])
    have hne : ((c : Int) == (cols.length : Int)) = false := by rw [beq_eq_false_iff_ne]; omega
    clear hsf him hrow0 he hml hrl0 hhead
    go_enter Tryz.func174, Tryz.ntmps174
    go_wp2_with (fail)
    refine (SumsFit_i _ _ _ _ _ H1.out H2.out).mono ?_
    rintro e w' ⟨rfl, rfl⟩
    rw [Hsf.out]
    go_wp2_with (fail)
    refine (ImageOk_i _ _ _ H3.out).mono ?_
    rintro e w' ⟨rfl, rfl⟩
    rw [Him.out]
    go_wp2
    go_ret
    exact ⟨retI Hr.out.symm, Below.refl _ _⟩
  subst hlc
  exact absurd hbad (by unfold changeOk; rw [hsf, him, hml, hhead]; simp)
theorem ChangeOf_ig (v1 v2 v3 : Value) (rows cols : List Int) (m : List (List Int)) (w : World) (h1 : Ints w v1 rows) (h2 : Ints w v2 cols) (h3 : Grid w v3 m) (hok : changeOk rows cols m = true) :
    Calls Tryz.prog 174 #[v1, v2, v3] w fun e w' => e = .returned (.int .i64 (changeOf rows cols m)) ∧ Below w.heap.size w w' := by
  have H1 := Lib.hid h1
  have H2 := Lib.hid h2
  have H3 := Lib.hid h3
  obtain ⟨a1, c1, rfl, -⟩ := id h1
  obtain ⟨a2, c2, rfl, -⟩ := id h2
  obtain ⟨a3, c3, rfl, -⟩ := id h3
  clear h1 h2 h3
  obtain ⟨r, c, HA⟩ := changeOk_at hok
  obtain ⟨hr1, hr4, hc1, hc4, hrl', hcl', hsh, hrb, hcb⟩ := HA
  subst hrl' hcl'
  have hok' := hok
  unfold changeOk at hok'
  simp only [Bool.and_eq_true, decide_eq_true_eq] at hok'
  obtain ⟨⟨⟨hsf, him⟩, hml⟩, hhead⟩ := hok'
  have hr5 : rows.length ≤ 5 := by omega
  have hc5 : cols.length ≤ 5 := by omega
  obtain ⟨row0, hrow0, hrl0, -⟩ := hsh.row (y := 0) (by omega)
  obtain ⟨b, off, cpr, he, hb, -⟩ := H3.out.inv_ne (by omega)
  obtain ⟨rfl, -⟩ : a3 = some ⟨b, off, none⟩ ∧ c3 = cpr := by simpa using he
  obtain ⟨u0, hck0, hu0⟩ := Sl.at H3.out hrow0
  obtain ⟨a0, cp0, rfl, -⟩ := hu0
  rw [hrl0, Nat.add_zero] at hck0
  rw [hml] at H3 ⊢
  have Hsf := Lib.hid hsf
  have Him := Lib.hid him
  have Hr := Lib.hid (show changeOf rows cols m = gap rows (rowSumsOf m) + gap cols (colSumsOf m) from by unfold changeOf; rw [if_pos hok])
  have hrw := rowSumsOf_wf hsh hr1 hr5 hc1 hc5
  have hcw := colSumsOf_wf hsh hr1 hr5 hc1 hc5
  have hg1 := fun k => gapTo_bd hrb hrw.2 k
  have hg2 := fun k => gapTo_bd hcb hcw.2 k
  have hrl : (rowSumsOf m).length = rows.length := hrw.1
  have hcl : (colSumsOf m).length = cols.length := hcw.1
  have Hrl := Lib.hid hrl
  have Hcl := Lib.hid hcl
  have Hg1 := Lib.hid hg1
  have Hg2 := Lib.hid hg2
  have Hrw := Lib.hid hrw.2
  have Hcw := Lib.hid hcw.2
  have Hrb := Lib.hid hrb
  have Hcb := Lib.hid hcb
  clear hsf him hrow0 he hml hrl0 hhead hok hrw hcw hg1 hg2 hrl hcl hrb hcb
  go_enter Tryz.func174, Tryz.ntmps174
  go_wp2_with (fail)
  refine (SumsFit_i _ _ _ _ _ H1.out H2.out).mono ?_
  rintro e w' ⟨rfl, rfl⟩
  rw [Hsf.out]
  go_wp2_with (fail)
  refine (ImageOk_i _ _ _ H3.out).mono ?_
  rintro e w' ⟨rfl, rfl⟩
  rw [Him.out]
  go_wp2_with (fail)
  refine (RowSums_i _ _ _ H3.out).mono ?_
  rintro e w1 ⟨s1, rfl, o1, b1⟩
  have K1 := Lib.hid o1.ints
  obtain ⟨p1, n1, q1, rfl⟩ := o1.shape
  obtain rfl := Ints.len K1.out
  rw [Hrl.out] at K1 ⊢
  clear o1
  go_wp2
  go_loop [7, 8, 9, 40] (fun s _ _ i => ∃ k : Nat, k ≤ rows.length ∧ i = .int .i64 k ∧ s = .int .i64 (gapTo rows (rowSumsOf m) k)) (fun _ _ _ i => rows.length - (intOf i).toNat)
  case atStart => exact ⟨0, Nat.zero_le _, rfl, rfl⟩
  case round =>
    obtain ⟨k, hk, rfl, rfl⟩ := hrel
    have hg0 := (Hg1.out k).1
    have hg1 := (Hg1.out k).2
    by_cases hlt : k < rows.length
    · obtain ⟨x, hx⟩ : ∃ x, rows[k]? = some x := ⟨_, List.getElem?_eq_getElem hlt⟩
      obtain ⟨y, hy⟩ : ∃ y, (rowSumsOf m)[k]? = some y := ⟨_, List.getElem?_eq_getElem (by rw [Hrl.out]; exact hlt)⟩
      obtain ⟨bx, offx, cpx, hex, hbx, -⟩ := H1.out.inv_ne (by omega)
      obtain ⟨rfl, -⟩ : a1 = some ⟨bx, offx, none⟩ ∧ c1 = cpx := by simpa using hex
      obtain ⟨by', offy, cpy, hey, hby, -⟩ := K1.out.inv_ne (by rw [Hrl.out]; omega)
      obtain ⟨rfl, -⟩ : p1 = some ⟨by', offy, none⟩ ∧ q1 = cpy := by simp at hey; exact ⟨hey.1, hey.2.2⟩
      have hcx := Ints.at H1.out hx
      have hcy := Ints.at K1.out hy
      rw [← b1.cell (p := ⟨bx, offx + k, none⟩) hbx] at hcx
      have hxb := Hrb.out x (List.mem_of_getElem? hx)
      have hyb := Hrw.out y (List.mem_of_getElem? hy)
      have hx0 := hxb.1
      have hx5 := hxb.2
      have hy0 := hyb.1
      have hy5 := hyb.2
      have Hst := Lib.hid (gapTo_succ hx hy)
      have hm0 := mag_nn (y - x)
      have hm5 : mag (y - x) ≤ 5 := by unfold mag; split <;> omega
      have Hms := Lib.hid (mag_sub x y)
      clear hx hy hex hey hxb hyb
      go_wp2_with (first | (go_at_call 245; refine (magnitude_c _ _ (by omega) (by omega)).mono ?_; rintro e w' ⟨rfl, rfl⟩))
      go_round
      case rel => exact ⟨k + 1, by omega, by go_num, by rw [Hst.out, Hms.out]⟩
      case measure => simp [intOf]; omega
    · obtain rfl : k = rows.length := by omega
      have hdk : decide ((rows.length : Int) < (rows.length : Int)) = false := by simp
      go_wp2_with (fail)
      refine (ColSums_i _ _ _ (H3.out.keep b1)).mono ?_
      rintro e w2 ⟨s2, rfl, o2, b2⟩
      have bb2 := b1.trans_pure b2 (Nat.le_refl _)
      have K2 := Lib.hid o2.ints
      obtain ⟨p2, n2, q2, rfl⟩ := o2.shape
      obtain rfl := Ints.len K2.out
      rw [Hcl.out] at K2 ⊢
      clear o2
      go_wp2
      go_loop [7, 10, 11, 58] (fun s _ _ i => ∃ j : Nat, j ≤ cols.length ∧ i = .int .i64 j ∧ s = .int .i64 (gapTo rows (rowSumsOf m) rows.length + gapTo cols (colSumsOf m) j)) (fun _ _ _ i => cols.length - (intOf i).toNat)
      case atStart => exact ⟨0, Nat.zero_le _, rfl, by simp [gapTo]⟩
      case round =>
        obtain ⟨j, hj, rfl, rfl⟩ := hrel
        have hh0 := (Hg2.out j).1
        have hh1 := (Hg2.out j).2
        by_cases hltj : j < cols.length
        · obtain ⟨x, hx⟩ : ∃ x, cols[j]? = some x := ⟨_, List.getElem?_eq_getElem hltj⟩
          obtain ⟨y, hy⟩ : ∃ y, (colSumsOf m)[j]? = some y := ⟨_, List.getElem?_eq_getElem (by rw [Hcl.out]; exact hltj)⟩
          obtain ⟨bx, offx, cpx, hex, hbx, -⟩ := H2.out.inv_ne (by omega)
          obtain ⟨rfl, -⟩ : a2 = some ⟨bx, offx, none⟩ ∧ c2 = cpx := by simpa using hex
          obtain ⟨by', offy, cpy, hey, hby, -⟩ := K2.out.inv_ne (by rw [Hcl.out]; omega)
          obtain ⟨rfl, -⟩ : p2 = some ⟨by', offy, none⟩ ∧ q2 = cpy := by simp at hey; exact ⟨hey.1, hey.2.2⟩
          have hcx := Ints.at H2.out hx
          have hcy := Ints.at K2.out hy
          rw [← bb2.cell (p := ⟨bx, offx + j, none⟩) hbx] at hcx
          have hxb := Hcb.out x (List.mem_of_getElem? hx)
          have hyb := Hcw.out y (List.mem_of_getElem? hy)
          have hx0 := hxb.1
          have hx5 := hxb.2
          have hy0 := hyb.1
          have hy5 := hyb.2
          have Hst := Lib.hid (gapTo_succ hx hy)
          have hm0 := mag_nn (y - x)
          have hm5 : mag (y - x) ≤ 5 := by unfold mag; split <;> omega
          have Hms := Lib.hid (mag_sub x y)
          clear hx hy hex hey hxb hyb
          go_wp2_with (first | (go_at_call 245; refine (magnitude_c _ _ (by omega) (by omega)).mono ?_; rintro e w' ⟨rfl, rfl⟩))
          go_round
          case rel => exact ⟨j + 1, by omega, by go_num, by rw [Hst.out, Hms.out]; congr 1; omega⟩
          case measure => simp [intOf]; omega
        · obtain rfl : j = cols.length := by omega
          go_wp2
          go_ret
          exact ⟨retI (by rw [Hr.out]; rfl), bb2⟩
theorem ChangeOf_i (v1 v2 v3 : Value) (rows cols : List Int) (m : List (List Int)) (w : World) (h1 : Ints w v1 rows) (h2 : Ints w v2 cols) (h3 : Grid w v3 m) :
    Calls Tryz.prog 174 #[v1, v2, v3] w fun e w' => e = .returned (.int .i64 (changeOf rows cols m)) ∧ Below w.heap.size w w' := by
  cases h : changeOk rows cols m
  · exact ChangeOf_ib _ _ _ _ _ _ _ h1 h2 h3 h
  · exact ChangeOf_ig _ _ _ _ _ _ _ h1 h2 h3 h
theorem meas {P k : Nat} (h : k < P) : P - (intOf (.int .i64 ((k : Int) + 1))).toNat < P - (intOf (.int .i64 (k : Int))).toNat := by simp [intOf]; omega
theorem pow_wrap' {n : Nat} (h : n ≤ 40) : wrap64 ((2 : Int) ^ n) = ((2 ^ n : Nat) : Int) := by
  have h1 : 2 ^ n ≤ 2 ^ 40 := Nat.pow_le_pow_right (n := 2) (by decide) h
  have h2 : ((2 ^ n : Nat) : Int) = (2 : Int) ^ n := by simp
  rw [← h2]
  obtain ⟨m, hm⟩ : ∃ m : Nat, m = 2 ^ n := ⟨_, rfl⟩
  rw [← hm] at h1 ⊢
  unfold wrap64
  omega
theorem closeTo_succ_none {rows cols : List Int} {k : Nat} (h : closeTo rows cols k = none) : closeTo rows cols (k + 1) = some (k, changeOf rows cols (imgOf rows.length cols.length k)) := by simp only [closeTo, h]
theorem closeTo_succ_lt {rows cols : List Int} {k b : Nat} {l : Int} (h : closeTo rows cols k = some (b, l)) (hl : changeOf rows cols (imgOf rows.length cols.length k) < l) : closeTo rows cols (k + 1) = some (k, changeOf rows cols (imgOf rows.length cols.length k)) := by simp only [closeTo, h]; rw [if_pos hl]
theorem closeTo_succ_ge {rows cols : List Int} {k b : Nat} {l : Int} (h : closeTo rows cols k = some (b, l)) (hl : ¬ changeOf rows cols (imgOf rows.length cols.length k) < l) : closeTo rows cols (k + 1) = some (b, l) := by simp only [closeTo, h]; rw [if_neg hl]
theorem imgOf_len (r c key : Nat) : (imgOf r c key).length = r := by simp [imgOf, imgFrom]
def CloseRes (w : World) (rows cols : List Int) (x : Option (Nat × Int)) (e : Ending) (w' : World) : Prop :=
  ∃ v', e = .returned (.tuple #[v', .int .i64 (closeNum x), .bool x.isSome]) ∧ Own 32 (Own 3 IntV) (Iv w.heap.size w'.heap.size) w' v' (closeImg rows cols x) ∧ Below w.heap.size w w'
theorem ClosestImage_ib (v1 v2 : Value) (rows cols : List Int) (w : World) (h1 : Ints w v1 rows) (h2 : Ints w v2 cols) (hbad : closeOk rows cols = false) :
    Calls Tryz.prog 115 #[v1, v2] w (CloseRes w rows cols (closest rows cols)) := by
  have hcl : closest rows cols = none := by unfold closest; rw [hbad]; rfl
  rw [hcl]
  have H1 := Lib.hid h1
  have H2 := Lib.hid h2
  obtain ⟨a1, c1, rfl, -⟩ := id h1
  obtain ⟨a2, c2, rfl, -⟩ := id h2
  clear h1 h2 hcl
  cases hsf : sumsFit rows cols
  · have Hsf := Lib.hid hsf; clear hsf hbad
    go_enter Tryz.func115, Tryz.ntmps115
    go_wp2_with (fail)
    refine (SumsFit_i _ _ _ _ _ H1.out H2.out).mono ?_
    rintro e w' ⟨rfl, rfl⟩
    rw [Hsf.out]
    go_wp2
    refine bodyPost_ret (v := .tuple #[.slice none 0 0, .int .i64 0, .bool false]) (by simp [results, Tryz.results115, go_sem]) rfl ⟨_, rfl, Own.nil _ _ _ _, Below.refl _ _⟩
  · have hgt : 12 < rows.length * cols.length := by
      unfold closeOk at hbad; rw [hsf] at hbad; simpa using hbad
    obtain ⟨k1, k2, k3, k4, -, -⟩ := sumsFit_iff hsf
    obtain ⟨N, hN⟩ : ∃ N, N = rows.length * cols.length := ⟨_, rfl⟩
    have hN16 : N ≤ 16 := by rw [hN]; exact Nat.mul_le_mul k2 k4
    rw [← hN] at hgt
    have hmul : (rows.length : Int) * (cols.length : Int) = (N : Int) := by rw [hN]; simp
    have Hsf := Lib.hid hsf; clear hsf hbad hN
    go_enter Tryz.func115, Tryz.ntmps115
    go_wp2_with (fail)
    refine (SumsFit_i _ _ _ _ _ H1.out H2.out).mono ?_
    rintro e w' ⟨rfl, rfl⟩
    rw [Hsf.out]
    go_wp2
    refine bodyPost_ret (v := .tuple #[.slice none 0 0, .int .i64 0, .bool false]) (by simp [results, Tryz.results115, go_sem]) rfl ⟨_, rfl, Own.nil _ _ _ _, Below.refl _ _⟩
theorem ClosestImage_ig (v1 v2 : Value) (rows cols : List Int) (w : World) (h1 : Ints w v1 rows) (h2 : Ints w v2 cols) (hok : closeOk rows cols = true) :
    Calls Tryz.prog 115 #[v1, v2] w (CloseRes w rows cols (closest rows cols)) := by
  have hcl : closest rows cols = closeTo rows cols (2 ^ (rows.length * cols.length)) := by unfold closest; rw [if_pos hok]
  have heqn := fun (w : World) (a : Option Addr) (n c n' c' : Nat) => Lib.run_eql_slice_nil (P := Tryz.prog) w 31 32 a n c n' c' Tryz.underlying31
  unfold closeOk at hok
  rw [Bool.and_eq_true, decide_eq_true_eq] at hok
  obtain ⟨hsf, hle⟩ := hok
  obtain ⟨k1, k2, k3, k4, -, -⟩ := sumsFit_iff hsf
  have H1 := Lib.hid h1
  have H2 := Lib.hid h2
  obtain ⟨a1, c1, rfl, -⟩ := id h1
  obtain ⟨a2, c2, rfl, -⟩ := id h2
  clear h1 h2
  obtain ⟨N, hN⟩ : ∃ N, N = rows.length * cols.length := ⟨_, rfl⟩
  rw [← hN] at hle hcl
  have hN1 : 1 ≤ N := by rw [hN]; exact Nat.mul_le_mul k1 k3
  have hmul : (rows.length : Int) * (cols.length : Int) = (N : Int) := by rw [hN]; simp
  have hpow0 := pow_wrap' (n := N) (by omega)
  obtain ⟨P, hP⟩ : ∃ P : Nat, P = 2 ^ N := ⟨_, rfl⟩
  have hP4 : P ≤ 4096 := by rw [hP]; exact Nat.pow_le_pow_right (n := 2) (by decide) hle
  have hP1 : 1 ≤ P := by rw [hP]; exact Nat.two_pow_pos N
  rw [← hP] at hcl hpow0
  have hpow : wrap64 ((2 : Int) ^ N) = (P : Int) := hpow0
  have Hsf := Lib.hid hsf
  have HN := Lib.hid hN
  have Hcl := Lib.hid hcl
  clear hsf hN hP hpow0 hcl
  go_enter Tryz.func115, Tryz.ntmps115
  go_wp2_with (fail)
  refine (SumsFit_i _ _ _ _ _ H1.out H2.out).mono ?_
  rintro e w' ⟨rfl, rfl⟩
  rw [Hsf.out]
  go_wp2
  go_loopw [8, 9, 10, 11, 12, 13] (fun best least key _ _ _ wr => ∃ k : Nat, k ≤ P ∧ key = .int .i64 k ∧ Below w.heap.size w wr ∧ ((k = 0 ∧ best = .slice none 0 0 ∧ least = .int .i64 0) ∨ ∃ (b : Nat) (l : Int), closeTo rows cols k = some (b, l) ∧ least = .int .i64 l ∧ (0 ≤ l ∧ l ≤ 40) ∧ Own 32 (Own 3 IntV) (Iv w.heap.size wr.heap.size) wr best (imgOf rows.length cols.length b))) (fun _ _ key _ _ _ _ => P - (intOf key).toNat)
  case atStart => exact ⟨0, Nat.zero_le _, rfl, Below.refl _ _, .inl ⟨rfl, rfl, rfl⟩⟩
  case round =>
    obtain ⟨k, hk, rfl, hbel, hst⟩ := hrel
    obtain ⟨wo, rfl⟩ : ∃ wo : World, wo = wr := ⟨_, rfl⟩
    have Hst := Lib.hid hst
    clear hst
    by_cases hlt : k < P
    · go_wp2_with (fail)
      refine (newGrid_c rows.length cols.length _ (by omega) (by omega)).mono ?_
      rintro e w1 ⟨v1, rfl, hown, hbel1⟩
      clear hpow hmul
      have hs1 := hbel1.size
      obtain ⟨G, cap, rfl, hG, hcapG, hGs, -⟩ := hown.inv_ne (by simp [zeros]; omega)
      have hzl : (zeros rows.length cols.length).length = rows.length := by simp [zeros]
      rw [hzl] at hcapG hown ⊢
      rw [← imgTo_zero rows.length cols.length k] at hown
      have Hown := Lib.hid hown
      clear hown hzl
      go_wp2
      go_loopw [12] (fun nn wr => ∃ n : Nat, n ≤ N ∧ nn = .int .i64 n ∧ Own 32 (Own 3 IntV) (Iv wo.heap.size w1.heap.size) wr (.slice (some ⟨G, 0, none⟩) rows.length cap) (imgTo rows.length cols.length k n) ∧ Below wo.heap.size wo wr ∧ w1.heap.size ≤ wr.heap.size) (fun nn _ => N - (intOf nn).toNat)
      case atStart => exact ⟨0, Nat.zero_le _, rfl, Hown.out, hbel1, Nat.le_refl _⟩
      case round =>
        clear Hown hbel1
        obtain ⟨n, hn, rfl, hown, hbel2, hsz⟩ := hrel
        by_cases hltn : n < N
        · have hnN : n < rows.length * cols.length := by rw [← HN.out]; exact hltn
          have hky : n / cols.length < rows.length := by rw [Nat.div_lt_iff_lt_mul (by omega)]; exact hnN
          have hkx : n % cols.length < cols.length := Nat.mod_lt _ (by omega)
          have hq := imgTo_row (c := cols.length) (key := k) (n := n) hky
          obtain ⟨q, cq, hcell, -, hSq, hqG, hcq, hx, -, hset⟩ := own_grid_cell hown hq (by simp; omega)
          have hql : ((List.range cols.length).map fun x => if n / cols.length * cols.length + x < n then bitCell (rows.length * cols.length) k (n / cols.length * cols.length + x) else 0).length = cols.length := by simp
          rw [hql] at hcell hcq hx
          obtain ⟨⟨o, hco⟩, hfo⟩ := hx (n % cols.length) hkx
          have hnew := hset wr (fun _ _ => rfl) (n % cols.length) (bitCell (rows.length * cols.length) k n) (by rw [hql]; exact hkx) (I64.small (by have := (bitCell_bd (rows.length * cols.length) k n).1; omega) (by have := (bitCell_bd (rows.length * cols.length) k n).2; omega))
          rw [imgTo_step (by omega) hnN hq] at hnew
          have Hnew := Lib.hid hnew
          have hqs := hSq.1
          have hi1 : (0 : Int) ≤ (n : Int) / (cols.length : Int) := Int.ediv_nonneg (by omega) (by omega)
          have hi2 : (n : Int) / (cols.length : Int) < (rows.length : Int) := by rw [← Int.natCast_ediv]; omega
          have hi3 : (0 : Int) ≤ (n : Int) % (cols.length : Int) := Int.emod_nonneg _ (by omega)
          have hi4 : (n : Int) % (cols.length : Int) < (cols.length : Int) := Int.emod_lt_of_pos _ (by omega)
          clear hown hq hx hset hql hnew
          go_wp2
          go_region
          all_goals
            go_wp2
            go_roundw
            case rel =>
              refine ⟨n + 1, by omega, by go_num, ?_, (hbel2.setCell hqs _).drew, by show w1.heap.size ≤ (wr.setCell _ _).heap.size; rw [size_setCell]; exact hsz⟩
              rw [bit_at, HN.out]
              exact Hnew.out
            case measure => simp [intOf]; omega
        · obtain rfl : n = N := by omega
          have hown' : Own 32 (Own 3 IntV) (Iv wo.heap.size wr.heap.size) wr (.slice (some ⟨G, 0, none⟩) rows.length cap) (imgOf rows.length cols.length k) := by
            rw [← imgTo_all, ← HN.out]
            exact (rOwn (rOwn rIntV)).mono (fun b hb => ⟨hb.1, Nat.lt_of_lt_of_le hb.2 hsz⟩) hown
          have Hown := Lib.hid hown'
          have hbw := hbel.trans (hbel2.mono hbel.size)
          have hsw : wo.heap.size ≤ wr.heap.size := hbel2.size
          have hws : w.heap.size ≤ wo.heap.size := hbel.size
          clear hown hown'
          go_wp2_with (fail)
          refine (ChangeOf_i _ _ _ _ _ _ _ (H1.out.keep hbw) (H2.out.keep hbw) Hown.out.grid).mono ?_
          rintro e w3 ⟨rfl, hbel3⟩
          have hs3 : wr.heap.size ≤ w3.heap.size := hbel3.size
          have hbw3 := hbw.trans_pure hbel3 (Nat.le_refl _)
          have hbo3 := hbel2.trans_pure hbel3 (Nat.le_refl _)
          have hown3 : Own 32 (Own 3 IntV) (Iv w.heap.size w3.heap.size) w3 (.slice (some ⟨G, 0, none⟩) rows.length cap) (imgOf rows.length cols.length k) :=
            (rOwn (rOwn rIntV)).mono (fun b hb => ⟨by have := hb.1; omega, by have := hb.2; omega⟩) (Own.keep (rOwn rIntV) Hown.out hbel3 (Nat.le_refl _))
          have Hown3 := Lib.hid hown3
          clear hown3 Hown
          have hch := changeOf_bd (changeOk_img Hsf.out k)
          obtain ⟨ch, hchE⟩ : ∃ ch, ch = changeOf rows cols (imgOf rows.length cols.length k) := ⟨_, rfl⟩
          rw [← hchE] at hch ⊢
          obtain ⟨hch0, hch40⟩ := hch
          have HchE := Lib.hid hchE
          clear hchE
          rcases Hst.out with ⟨rfl, rfl, rfl⟩ | ⟨b, l, hcb, rfl, ⟨hl0, hl40⟩, ho⟩
          · have Hnext := Lib.hid (closeTo_succ_none (rows := rows) (cols := cols) (k := 0) rfl)
            go_wp2
            go_roundw
            case rel => exact ⟨1, by omega, by go_num, hbw3, .inr ⟨0, ch, by rw [HchE.out]; exact Hnext.out, rfl, ⟨hch0, hch40⟩, Hown3.out⟩⟩
            case measure => exact meas (k := 0) hP1
          · obtain ⟨gb, cb, rfl, -⟩ := ho.inv_ne (by rw [imgOf_len]; exact k1)
            have Ho := Lib.hid ho
            have Hcb := Lib.hid hcb
            clear ho hcb
            by_cases hlt3 : ch < l
            · have Hnext := Lib.hid (closeTo_succ_lt Hcb.out (by rw [← HchE.out]; exact hlt3))
              go_wp2
              go_roundw
              case rel => exact ⟨k + 1, by omega, by go_num, hbw3, .inr ⟨k, ch, by rw [HchE.out]; exact Hnext.out, rfl, ⟨hch0, hch40⟩, Hown3.out⟩⟩
              case measure => exact meas hlt
            · have Hnext := Lib.hid (closeTo_succ_ge Hcb.out (by rw [← HchE.out]; exact hlt3))
              go_wp2
              go_roundw
              case rel => exact ⟨k + 1, by omega, by go_num, hbw3, .inr ⟨b, l, Hnext.out, rfl, ⟨hl0, hl40⟩, Own.grow (rOwn rIntV) Ho.out (Nat.le_refl _) hbo3⟩⟩
              case measure => exact meas hlt
    · obtain rfl : k = P := by omega
      rcases Hst.out with ⟨h0, -, -⟩ | ⟨b, l, hcb, rfl, ⟨hl0, hl40⟩, ho⟩
      · omega
      obtain ⟨gb, cb, rfl, -⟩ := ho.inv_ne (by rw [imgOf_len]; exact k1)
      have Hb := Lib.hid (Hcl.out.trans hcb)
      have Ho := Lib.hid ho
      clear ho hcb
      go_wp2
      refine bodyPost_ret (v := .tuple #[.slice (some ⟨gb, 0, none⟩) (imgOf rows.length cols.length b).length cb, .int .i64 l, .bool true]) (by simp [results, Tryz.results115, go_sem]) rfl ⟨_, by rw [Hb.out]; rfl, by rw [Hb.out]; exact Ho.out, hbel⟩
theorem ClosestImage_i (v1 v2 : Value) (rows cols : List Int) (w : World) (h1 : Ints w v1 rows) (h2 : Ints w v2 cols) :
    Calls Tryz.prog 115 #[v1, v2] w (CloseRes w rows cols (closest rows cols)) := by
  cases h : closeOk rows cols
  · exact ClosestImage_ib _ _ _ _ _ h1 h2 h
  · exact ClosestImage_ig _ _ _ _ _ h1 h2 h
theorem colSumsOf_len (m : List (List Int)) : (colSumsOf m).length ≤ 5 := rowSumsOf_len _
def repRows (rows cols : List Int) : List Int := rowSumsOf (closeImg rows cols (closest rows cols))
def repCols (rows cols : List Int) : List Int := colSumsOf (closeImg rows cols (closest rows cols))
theorem repRows_len (rows cols : List Int) : (repRows rows cols).length ≤ 5 := rowSumsOf_len _
theorem repCols_len (rows cols : List Int) : (repCols rows cols).length ≤ 5 := colSumsOf_len _
theorem RepairSums_i (v1 v2 : Value) (rows cols : List Int) (w : World) (h1 : Ints w v1 rows) (h2 : Ints w v2 cols) :
    Calls Tryz.prog 53 #[v1, v2] w fun e w' => ∃ (v1' v2' : Value) (M : Nat), w.heap.size ≤ M ∧ M ≤ w'.heap.size ∧ e = .returned (.tuple #[v1', v2', .bool (closest rows cols).isSome]) ∧ Own 3 IntV (Iv w.heap.size M) w' v1' (repRows rows cols) ∧ Own 3 IntV (Iv M w'.heap.size) w' v2' (repCols rows cols) ∧ Below w.heap.size w w' := by
  go_enter Tryz.func53, Tryz.ntmps53
  go_wp2_with (fail)
  refine (ClosestImage_i _ _ _ _ _ h1 h2).mono ?_
  rintro e w1 ⟨v1, rfl, ho, hbel⟩
  have hs1 := hbel.size
  cases hc : (closest rows cols).isSome
  · have hnone : closest rows cols = none := by cases h : closest rows cols with | none => rfl | some p => rw [h] at hc; simp at hc
    have Hl := Lib.hid (show repRows rows cols = [] from by unfold repRows; rw [hnone]; rfl)
    have Hl2 := Lib.hid (show repCols rows cols = [] from by unfold repCols; rw [hnone]; rfl)
    clear hnone ho
    go_wp2
    refine bodyPost_ret (v := .tuple #[.slice none 0 0, .slice none 0 0, .bool false]) (by simp [results, Tryz.results53, go_sem]) rfl ⟨_, _, w1.heap.size, hs1, Nat.le_refl _, by rw [hc], by rw [Hl.out]; exact Own.nil _ _ _ _, by rw [Hl2.out]; exact Own.nil _ _ _ _, hbel⟩
  · have Ho := Lib.hid ho
    clear ho
    go_wp2_with (fail)
    refine (RowSums_i _ _ _ Ho.out.grid).mono ?_
    rintro e w2 ⟨v2, rfl, o2, b2⟩
    have hs2 : w1.heap.size ≤ w2.heap.size := b2.size
    have Hg := Lib.hid (Ho.out.grid.keep b2)
    have bb2 := hbel.trans_pure b2 (Nat.le_refl _)
    have Ho2 := Lib.hid o2
    clear o2
    obtain ⟨p1, p2, p3, rfl⟩ := Ho2.out.shape
    go_wp2_with (fail)
    refine (ColSums_i _ _ _ Hg.out).mono ?_
    rintro e w3 ⟨v3, rfl, o3, b3⟩
    have hs3 : w2.heap.size ≤ w3.heap.size := b3.size
    have bb3 := bb2.trans_pure b3 (Nat.le_refl _)
    have Ho3 := Lib.hid o3
    clear o3
    obtain ⟨q1, q2, q3, rfl⟩ := Ho3.out.shape
    go_wp2
    refine bodyPost_ret (v := .tuple #[.slice p1 p2 p3, .slice q1 q2 q3, .bool true]) (by simp [results, Tryz.results53, go_sem]) rfl ⟨_, _, w2.heap.size, by omega, hs3, by rw [hc], ?_, Ho3.out, bb3⟩
    exact (rOwn rIntV).mono (fun b hb => ⟨by have := hb.1; omega, hb.2⟩) (Own.keep rIntV Ho2.out b3 (Nat.le_refl _))
end Go.Proofs.YthmocomfjgmjoaaGreatDoor

/- Contracts: ChangeOf. -/
import Derived.Test.YtekgnpdchpdfiaaC13
import Derived.Test.YtekgnpdchpdfiaaClose
import Derived.RegionTactic
import Derived.BigRegion
namespace Go.Proofs.Ytekgnpdchpdfiaa
open Go.RowKit

theorem max_mag (x : Int) : max x (-x) = mag x := by unfold mag; split <;> omega
theorem max_mag2 (x y : Int) : max (x - y) (y - x) = mag (x - y) := by unfold mag; split <;> omega

theorem magnitude_c (n : Int) (w : World) (h1 : -1048576 ≤ n) (h2 : n ≤ 1048576) : Calls Try.prog 76 #[.int .i64 n] w fun e w' => e = .returned (.int .i64 (mag n)) ∧ w = w' := by
  go_enter Try.func76, Try.ntmps76
  by_cases hn : n < 0
  · have H := Lib.hid (show mag n = -n from by unfold mag; rw [if_pos hn])
    go_wp2
    go_ret
    exact ⟨retI (by rw [H.out]), rfl⟩
  · have H := Lib.hid (show mag n = n from by unfold mag; rw [if_neg hn])
    go_wp2
    go_ret
    exact ⟨retI (by rw [H.out]), rfl⟩

set_option maxHeartbeats 800000 in
set_option maxRecDepth 100000 in
theorem ChangeOf_ib (v1 v2 v3 : Value) (rows cols : List Int) (m : List (List Int)) (w : World) (h1 : Ints w v1 rows) (h2 : Ints w v2 cols) (h3 : Grid w v3 m) (hbad : changeOk rows cols m = false) :
    Calls Try.prog 37 #[v1, v2, v3] w fun e w' => e = .returned (.int .i64 (changeOf rows cols m)) ∧ Below w.heap.size w w' := by
  have H1 := Lib.hid h1
  have H2 := Lib.hid h2
  have H3 := Lib.hid h3
  obtain ⟨a1, c1, rfl, -⟩ := id h1
  obtain ⟨a2, c2, rfl, -⟩ := id h2
  obtain ⟨a3, c3, rfl, -⟩ := id h3
  clear h1 h2 h3
  cases hsf : sumsFit rows cols
  · have Hr := Lib.hid (show changeOf rows cols m = -1 from by simp [changeOf, changeOk, hsf])
    have Hsf := Lib.hid hsf; clear hsf
    go_enter Try.func37, Try.ntmps37
    go_wp2_with (fail)
    refine (SumsFit_i _ _ _ _ _ H1.out H2.out).mono ?_
    rintro e w' ⟨rfl, rfl⟩
    rw [Hsf.out]
    go_wp2
    go_ret
    exact ⟨retI Hr.out.symm, Below.refl _ _⟩
  cases him : imageOk m
  · have Hr := Lib.hid (show changeOf rows cols m = -1 from by simp [changeOf, changeOk, him])
    have Hsf := Lib.hid hsf; clear hsf
    have Him := Lib.hid him; clear him
    go_enter Try.func37, Try.ntmps37
    go_wp2_with (fail)
    refine (SumsFit_i _ _ _ _ _ H1.out H2.out).mono ?_
    rintro e w' ⟨rfl, rfl⟩
    rw [Hsf.out]
    go_wp2_with (fail)
    refine (ImageOk_i _ _ _ H3.out).mono ?_
    rintro e w' ⟨rfl, rfl⟩
    rw [Him.out]
    go_wp2
    go_ret
    exact ⟨retI Hr.out.symm, Below.refl _ _⟩
  obtain ⟨r, c, hr1, hr5, hc1, hc5, hsh⟩ := imageOk_shape him
  have hml := hsh.1
  obtain ⟨row0, hrow0, hrl0, -⟩ := hsh.row (y := 0) (by omega)
  obtain ⟨b, off, cpr, he, hb, -⟩ := H3.out.inv_ne (by omega)
  obtain ⟨rfl, -⟩ : a3 = some ⟨b, off, none⟩ ∧ c3 = cpr := by simpa using he
  obtain ⟨u0, hck0, hu0⟩ := Sl.at H3.out hrow0
  obtain ⟨a0, cp0, rfl, -⟩ := hu0
  rw [hrl0, Nat.add_zero] at hck0
  have hhead := hsh.head hr1
  rw [hml] at H3 ⊢
  have Hsf := Lib.hid hsf
  have Him := Lib.hid him
  rcases (Decidable.em (r = rows.length)).symm with hlr | hlr
  · have Hr := Lib.hid (show changeOf rows cols m = -1 from by simp [changeOf, changeOk, hml, hlr])
    have hne : ((r : Int) == (rows.length : Int)) = false := by rw [beq_eq_false_iff_ne]; omega
    clear hsf him hrow0 he hml hrl0 hhead
    go_enter Try.func37, Try.ntmps37
    go_wp2_with (fail)
    refine (SumsFit_i _ _ _ _ _ H1.out H2.out).mono ?_
    rintro e w' ⟨rfl, rfl⟩
    rw [Hsf.out]
    go_wp2_with (fail)
    refine (ImageOk_i _ _ _ H3.out).mono ?_
    rintro e w' ⟨rfl, rfl⟩
    rw [Him.out]
    go_wp2
    go_ret
    exact ⟨retI Hr.out.symm, Below.refl _ _⟩
  subst hlr
  rcases (Decidable.em (c = cols.length)).symm with hlc | hlc
  · have Hr := Lib.hid (show changeOf rows cols m = -1 from by unfold changeOf changeOk; rw [hhead]; simp [hlc])
    have hne : ((c : Int) == (cols.length : Int)) = false := by rw [beq_eq_false_iff_ne]; omega
    clear hsf him hrow0 he hml hrl0 hhead
    go_enter Try.func37, Try.ntmps37
    go_wp2_with (fail)
    refine (SumsFit_i _ _ _ _ _ H1.out H2.out).mono ?_
    rintro e w' ⟨rfl, rfl⟩
    rw [Hsf.out]
    go_wp2_with (fail)
    refine (ImageOk_i _ _ _ H3.out).mono ?_
    rintro e w' ⟨rfl, rfl⟩
    rw [Him.out]
    go_wp2
    go_ret
    exact ⟨retI Hr.out.symm, Below.refl _ _⟩
  subst hlc
  exact absurd hbad (by unfold changeOk; rw [hsf, him, hml, hhead]; simp)
set_option maxHeartbeats 1600000 in
set_option maxRecDepth 100000 in
theorem ChangeOf_ig (v1 v2 v3 : Value) (rows cols : List Int) (m : List (List Int)) (w : World) (h1 : Ints w v1 rows) (h2 : Ints w v2 cols) (h3 : Grid w v3 m) (hok : changeOk rows cols m = true) :
    Calls Try.prog 37 #[v1, v2, v3] w fun e w' => e = .returned (.int .i64 (changeOf rows cols m)) ∧ Below w.heap.size w w' := by
  have H1 := Lib.hid h1
  have H2 := Lib.hid h2
  have H3 := Lib.hid h3
  obtain ⟨a1, c1, rfl, -⟩ := id h1
  obtain ⟨a2, c2, rfl, -⟩ := id h2
  obtain ⟨a3, c3, rfl, -⟩ := id h3
  clear h1 h2 h3
  obtain ⟨r, c, HA⟩ := changeOk_at hok
  obtain ⟨hr1, hr4, hc1, hc4, hrl', hcl', hsh, hrb, hcb⟩ := HA
  subst hrl' hcl'
  have hok' := hok
  unfold changeOk at hok'
  simp only [Bool.and_eq_true, decide_eq_true_eq] at hok'
  obtain ⟨⟨⟨hsf, him⟩, hml⟩, hhead⟩ := hok'
  have hr5 : rows.length ≤ 5 := by omega
  have hc5 : cols.length ≤ 5 := by omega
  obtain ⟨row0, hrow0, hrl0, -⟩ := hsh.row (y := 0) (by omega)
  obtain ⟨b, off, cpr, he, hb, -⟩ := H3.out.inv_ne (by omega)
  obtain ⟨rfl, -⟩ : a3 = some ⟨b, off, none⟩ ∧ c3 = cpr := by simpa using he
  obtain ⟨u0, hck0, hu0⟩ := Sl.at H3.out hrow0
  obtain ⟨a0, cp0, rfl, -⟩ := hu0
  rw [hrl0, Nat.add_zero] at hck0
  rw [hml] at H3 ⊢
  have Hsf := Lib.hid hsf
  have Him := Lib.hid him
  have Hr := Lib.hid (show changeOf rows cols m = gap rows (rowSumsOf m) + gap cols (colSumsOf m) from by unfold changeOf; rw [if_pos hok])
  have hrw := rowSumsOf_wf hsh hr1 hr5 hc1 hc5
  have hcw := colSumsOf_wf hsh hr1 hr5 hc1 hc5
  have hg1 := fun k => gapTo_bd hrb hrw.2 k
  have hg2 := fun k => gapTo_bd hcb hcw.2 k
  have hrl : (rowSumsOf m).length = rows.length := hrw.1
  have hcl : (colSumsOf m).length = cols.length := hcw.1
  have Hrl := Lib.hid hrl
  have Hcl := Lib.hid hcl
  have Hg1 := Lib.hid hg1
  have Hg2 := Lib.hid hg2
  have Hrw := Lib.hid hrw.2
  have Hcw := Lib.hid hcw.2
  have Hrb := Lib.hid hrb
  have Hcb := Lib.hid hcb
  clear hsf him hrow0 he hml hrl0 hhead hok hrw hcw hg1 hg2 hrl hcl hrb hcb
  go_enter Try.func37, Try.ntmps37
  go_wp2_with (fail)
  refine (SumsFit_i _ _ _ _ _ H1.out H2.out).mono ?_
  rintro e w' ⟨rfl, rfl⟩
  rw [Hsf.out]
  go_wp2_with (fail)
  refine (ImageOk_i _ _ _ H3.out).mono ?_
  rintro e w' ⟨rfl, rfl⟩
  rw [Him.out]
  go_wp2_with (fail)
  refine (RowSums_i _ _ _ H3.out).mono ?_
  rintro e w1 ⟨s1, rfl, o1, b1⟩
  have K1 := Lib.hid o1.ints
  obtain ⟨p1, n1, q1, rfl⟩ := o1.shape
  obtain rfl := Ints.len K1.out
  rw [Hrl.out] at K1 ⊢
  clear o1
  go_wp2
  go_loop [7, 8, 9, 40] (fun s _ _ i => ∃ k : Nat, k ≤ rows.length ∧ i = .int .i64 k ∧ s = .int .i64 (gapTo rows (rowSumsOf m) k)) (fun _ _ _ i => rows.length - (intOf i).toNat)
  case atStart => exact ⟨0, Nat.zero_le _, rfl, rfl⟩
  case round =>
    obtain ⟨k, hk, rfl, rfl⟩ := hrel
    have hg0 := (Hg1.out k).1
    have hg1 := (Hg1.out k).2
    by_cases hlt : k < rows.length
    · obtain ⟨x, hx⟩ : ∃ x, rows[k]? = some x := ⟨_, List.getElem?_eq_getElem hlt⟩
      obtain ⟨y, hy⟩ : ∃ y, (rowSumsOf m)[k]? = some y := ⟨_, List.getElem?_eq_getElem (by rw [Hrl.out]; exact hlt)⟩
      obtain ⟨bx, offx, cpx, hex, hbx, -⟩ := H1.out.inv_ne (by omega)
      obtain ⟨rfl, -⟩ : a1 = some ⟨bx, offx, none⟩ ∧ c1 = cpx := by simpa using hex
      obtain ⟨by', offy, cpy, hey, hby, -⟩ := K1.out.inv_ne (by rw [Hrl.out]; omega)
      obtain ⟨rfl, -⟩ : p1 = some ⟨by', offy, none⟩ ∧ q1 = cpy := by simp at hey; exact ⟨hey.1, hey.2.2⟩
      have hcx := Ints.at H1.out hx
      have hcy := Ints.at K1.out hy
      rw [← b1.cell (p := ⟨bx, offx + k, none⟩) hbx] at hcx
      have hxb := Hrb.out x (List.mem_of_getElem? hx)
      have hyb := Hrw.out y (List.mem_of_getElem? hy)
      have hx0 := hxb.1
      have hx5 := hxb.2
      have hy0 := hyb.1
      have hy5 := hyb.2
      have Hst := Lib.hid (gapTo_succ hx hy)
      have hm0 := mag_nn (y - x)
      have hm5 : mag (y - x) ≤ 5 := by unfold mag; split <;> omega
      have Hms := Lib.hid (mag_sub x y)
      clear hx hy hex hey hxb hyb
      go_wp2_with (first | (go_at_call 76; refine (magnitude_c _ _ (by omega) (by omega)).mono ?_; rintro e w' ⟨rfl, rfl⟩))
      go_round
      case rel => exact ⟨k + 1, by omega, by go_num, by rw [Hst.out, Hms.out]⟩
      case measure => simp [intOf]; omega
    · obtain rfl : k = rows.length := by omega
      have hdk : decide ((rows.length : Int) < (rows.length : Int)) = false := by simp
      go_wp2_with (fail)
      refine (ColSums_i _ _ _ (H3.out.keep b1)).mono ?_
      rintro e w2 ⟨s2, rfl, o2, b2⟩
      have bb2 := b1.trans_pure b2 (Nat.le_refl _)
      have K2 := Lib.hid o2.ints
      obtain ⟨p2, n2, q2, rfl⟩ := o2.shape
      obtain rfl := Ints.len K2.out
      rw [Hcl.out] at K2 ⊢
      clear o2
      go_wp2
      go_loop [7, 10, 11, 58] (fun s _ _ i => ∃ j : Nat, j ≤ cols.length ∧ i = .int .i64 j ∧ s = .int .i64 (gapTo rows (rowSumsOf m) rows.length + gapTo cols (colSumsOf m) j)) (fun _ _ _ i => cols.length - (intOf i).toNat)
      case atStart => exact ⟨0, Nat.zero_le _, rfl, by simp [gapTo]⟩
      case round =>
        obtain ⟨j, hj, rfl, rfl⟩ := hrel
        have hh0 := (Hg2.out j).1
        have hh1 := (Hg2.out j).2
        by_cases hltj : j < cols.length
        · obtain ⟨x, hx⟩ : ∃ x, cols[j]? = some x := ⟨_, List.getElem?_eq_getElem hltj⟩
          obtain ⟨y, hy⟩ : ∃ y, (colSumsOf m)[j]? = some y := ⟨_, List.getElem?_eq_getElem (by rw [Hcl.out]; exact hltj)⟩
          obtain ⟨bx, offx, cpx, hex, hbx, -⟩ := H2.out.inv_ne (by omega)
          obtain ⟨rfl, -⟩ : a2 = some ⟨bx, offx, none⟩ ∧ c2 = cpx := by simpa using hex
          obtain ⟨by', offy, cpy, hey, hby, -⟩ := K2.out.inv_ne (by rw [Hcl.out]; omega)
          obtain ⟨rfl, -⟩ : p2 = some ⟨by', offy, none⟩ ∧ q2 = cpy := by simp at hey; exact ⟨hey.1, hey.2.2⟩
          have hcx := Ints.at H2.out hx
          have hcy := Ints.at K2.out hy
          rw [← bb2.cell (p := ⟨bx, offx + j, none⟩) hbx] at hcx
          have hxb := Hcb.out x (List.mem_of_getElem? hx)
          have hyb := Hcw.out y (List.mem_of_getElem? hy)
          have hx0 := hxb.1
          have hx5 := hxb.2
          have hy0 := hyb.1
          have hy5 := hyb.2
          have Hst := Lib.hid (gapTo_succ hx hy)
          have hm0 := mag_nn (y - x)
          have hm5 : mag (y - x) ≤ 5 := by unfold mag; split <;> omega
          have Hms := Lib.hid (mag_sub x y)
          clear hx hy hex hey hxb hyb
          go_wp2_with (first | (go_at_call 76; refine (magnitude_c _ _ (by omega) (by omega)).mono ?_; rintro e w' ⟨rfl, rfl⟩))
          go_round
          case rel => exact ⟨j + 1, by omega, by go_num, by rw [Hst.out, Hms.out]; congr 1; omega⟩
          case measure => simp [intOf]; omega
        · obtain rfl : j = cols.length := by omega
          go_wp2
          go_ret
          exact ⟨retI (by rw [Hr.out]; rfl), bb2⟩
theorem ChangeOf_i (v1 v2 v3 : Value) (rows cols : List Int) (m : List (List Int)) (w : World) (h1 : Ints w v1 rows) (h2 : Ints w v2 cols) (h3 : Grid w v3 m) :
    Calls Try.prog 37 #[v1, v2, v3] w fun e w' => e = .returned (.int .i64 (changeOf rows cols m)) ∧ Below w.heap.size w w' := by
  cases h : changeOk rows cols m
  · exact ChangeOf_ib _ _ _ _ _ _ _ h1 h2 h3 h
  · exact ChangeOf_ig _ _ _ _ _ _ _ h1 h2 h3 h
end Go.Proofs.Ytekgnpdchpdfiaa

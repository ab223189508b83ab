/- Contracts: a switch fits an image. -/
import Derived.Test.YtliejhmlcdjpcaaC28
import Derived.Test.YtliejhmlcdjpcaaRyser
import Derived.Test.YtliejhmlcdjpcaaBlk
namespace Go.Proofs.Ytliejhmlcdjpcaa
open Go.RowKit

theorem l02In_c (v : Value) (m : List (List Int)) (r c : Nat) (y x : Int) (w : World) (hv : Grid w v m) (hs : Shape r c m) (hr1 : 1 ≤ r) (hr5 : r ≤ 5) (hc1 : 1 ≤ c) (hc5 : c ≤ 5) : Calls Try.prog 93 #[v, .int .i64 y, .int .i64 x] w fun e w' => e = .returned (.bool (inB r c y x)) ∧ w = w' := by
  have Hv := Lib.hid hv
  have Hok := Lib.hid (hs.ok hr1 hr5 hc1 hc5)
  have hml := hs.1
  obtain ⟨row0, hrow0, hrl0, -⟩ := hs.row (y := 0) (by omega)
  obtain ⟨a, cap0, rfl, -⟩ := hv
  obtain ⟨b, off, cpr, he, hb, -⟩ := Hv.out.inv_ne (by omega)
  obtain ⟨rfl, -⟩ : a = some ⟨b, off, none⟩ ∧ cap0 = cpr := by simpa using he
  obtain ⟨u0, hck0, hu0⟩ := Sl.at Hv.out hrow0
  obtain ⟨a0, cp0, rfl, -⟩ := hu0
  rw [hrl0, Nat.add_zero] at hck0
  rw [hml] at Hv ⊢
  clear hrow0 hrl0 he hml
  cases h1 : inR 0 ((r : Int) - 1) y
  · have Hr := Lib.hid (show inB r c y x = false from by simp [inB, h1])
    have H1 := Lib.hid h1; clear h1
    go_enter Try.func93, Try.ntmps93
    go_wp2_with (fail)
    refine (ImageOk_s _ _ _ Hv.out).mono ?_
    rintro e w' ⟨rfl, rfl⟩
    rw [Hok.out]
    go_wp2_with (fail)
    refine (l01In_c _ _ _ _).mono ?_
    rintro e w' ⟨rfl, rfl⟩
    rw [H1.out]
    go_wp2
    go_ret
    exact ⟨retB Hr.out.symm, rfl⟩
  · have Hr := Lib.hid (show inR 0 ((c : Int) - 1) x = inB r c y x from by simp [inB, h1])
    have H1 := Lib.hid h1; clear h1
    go_enter Try.func93, Try.ntmps93
    go_wp2_with (fail)
    refine (ImageOk_s _ _ _ Hv.out).mono ?_
    rintro e w' ⟨rfl, rfl⟩
    rw [Hok.out]
    go_wp2_with (fail)
    refine (l01In_c _ _ _ _).mono ?_
    rintro e w' ⟨rfl, rfl⟩
    rw [H1.out]
    go_wp2_with (fail)
    refine (l01In_c _ _ _ _).mono ?_
    rintro e w' ⟨rfl, rfl⟩
    go_wp2
    go_ret
    exact ⟨retB Hr.out, rfl⟩

/-- the cells of an image -/
theorem Grid.cells {w : World} {v : Value} {m : List (List Int)} {r c : Nat} (h : Grid w v m) (hs : Shape r c m) (hr : 1 ≤ r) (hc : 1 ≤ c) : ∃ b off cp, v = .slice (some ⟨b, off, none⟩) r cp ∧ b < w.heap.size ∧
    ∀ y, y < r → ∃ br offr cpr, w.cell? ⟨b, off + y, none⟩ = some (.slice (some ⟨br, offr, none⟩) c cpr) ∧ br < w.heap.size ∧ ∀ x, x < c → w.cell? ⟨br, offr + x, none⟩ = some (.int .i64 (at2 m y x)) := by
  have hml := hs.1
  obtain ⟨b, off, cp, rfl, hb, -⟩ := h.inv_ne (by omega)
  refine ⟨b, off, cp, by rw [hml], hb, fun y hy => ?_⟩
  obtain ⟨row, hrow, hrl, hrb⟩ := hs.row hy
  obtain ⟨u, hck, hu⟩ := Sl.at h hrow
  have hu : Ints w u row := hu
  obtain ⟨br, offr, cpr, rfl, hbr, -⟩ := hu.inv_ne (by omega)
  refine ⟨br, offr, cpr, by rw [hck, hrl], hbr, fun x hx => ?_⟩
  obtain ⟨z, hz⟩ : ∃ z, row[x]? = some z := ⟨_, List.getElem?_eq_getElem (by omega)⟩
  rw [Ints.at hu hz]
  have : at2 m y x = z := by
    unfold at2
    rw [List.getD_eq_getElem?_getD, List.getD_eq_getElem?_getD, hrow]
    simp [hz]
  rw [this]

/-- the switch fits the image: any numbers -/
def swOkB (r c : Nat) (m : List (List Int)) (y1 y2 x1 x2 : Int) : Bool := inB r c y1 x1 && (inB r c y2 x2 && decide (SwOk r c m (y1.toNat, y2.toNat, x1.toNat, x2.toNat)))
theorem inB_iff {r c : Nat} {y x : Int} : inB r c y x = true ↔ 0 ≤ y ∧ y < r ∧ 0 ≤ x ∧ x < c := by
  unfold inB
  rw [Bool.and_eq_true, inR_iff, inR_iff]
  omega
theorem swOkB_nat {r c : Nat} {m : List (List Int)} {s : Sw} : swOkB r c m s.y1 s.y2 s.x1 s.x2 = decide (SwOk r c m s) := by
  unfold swOkB
  by_cases h : SwOk r c m s
  · have h' := h
    obtain ⟨h1, h2, h3, h4, -⟩ := h'
    rw [inB_iff.2 (by omega), inB_iff.2 (by omega)]
    simp
  · simp [h]
abbrev SwV (y1 y2 x1 x2 : Int) : Value := .agg #[.int .i64 y1, .int .i64 y2, .int .i64 x1, .int .i64 x2]

set_option maxHeartbeats 1000000 in
theorem SwitchOk_i (v : Value) (m : List (List Int)) (r c : Nat) (y1 y2 x1 x2 : Int) (w : World) (hv : Grid w v m) (hs : Shape r c m) (hr1 : 1 ≤ r) (hr5 : r ≤ 5) (hc1 : 1 ≤ c) (hc5 : c ≤ 5) : Calls Try.prog 66 #[v, SwV y1 y2 x1 x2] w fun e w' => e = .returned (.bool (swOkB r c m y1 y2 x1 x2)) ∧ Below w.heap.size w w' := by
  obtain ⟨b, off, cp, rfl, hb, hcl⟩ := hv.cells hs hr1 hc1
  have Hv := Lib.hid hv
  have hbel := Below.pureAlloc w (.cells #[.int .i64 y1, .int .i64 y2, .int .i64 x1, .int .i64 x2] 64)
  have Hv1 := Lib.hid (hv.keep hbel)
  cases h1 : inB r c y1 x1
  · have Hr := Lib.hid (show swOkB r c m y1 y2 x1 x2 = false from by simp [swOkB, h1])
    have H1 := Lib.hid h1; clear h1 hcl
    go_enter Try.func66, Try.ntmps66
    go_wp2_with (fail)
    refine (hasCell_c _ _ _ _ _ _ _ Hv1.out hs hr1 hr5 hc1 hc5).mono ?_
    rintro e w' ⟨rfl, rfl⟩
    rw [H1.out]
    go_wp2
    go_ret
    exact ⟨retB Hr.out.symm, hbel⟩
  cases h2 : inB r c y2 x2
  · have Hr := Lib.hid (show swOkB r c m y1 y2 x1 x2 = false from by simp [swOkB, h2])
    have H1 := Lib.hid h1; clear h1 hcl
    have H2 := Lib.hid h2; clear h2
    go_enter Try.func66, Try.ntmps66
    go_wp2_with (fail)
    refine (hasCell_c _ _ _ _ _ _ _ Hv1.out hs hr1 hr5 hc1 hc5).mono ?_
    rintro e w' ⟨rfl, rfl⟩
    rw [H1.out]
    go_wp2_with (fail)
    refine (hasCell_c _ _ _ _ _ _ _ Hv1.out hs hr1 hr5 hc1 hc5).mono ?_
    rintro e w' ⟨rfl, rfl⟩
    rw [H2.out]
    go_wp2
    go_ret
    exact ⟨retB Hr.out.symm, hbel⟩
  have h1' := inB_iff.1 h1
  have h2' := inB_iff.1 h2
  obtain ⟨Y1, rfl⟩ : ∃ n : Nat, y1 = n := ⟨y1.toNat, by omega⟩
  obtain ⟨X1, rfl⟩ : ∃ n : Nat, x1 = n := ⟨x1.toNat, by omega⟩
  obtain ⟨Y2, rfl⟩ : ∃ n : Nat, y2 = n := ⟨y2.toNat, by omega⟩
  obtain ⟨X2, rfl⟩ : ∃ n : Nat, x2 = n := ⟨x2.toNat, by omega⟩
  have Hr := Lib.hid (show swOkB r c m Y1 Y2 X1 X2 = decide (SwOk r c m (Y1, Y2, X1, X2)) from by simp [swOkB, h1, h2])
  have H1 := Lib.hid h1; clear h1
  have H2 := Lib.hid h2; clear h2
  obtain ⟨b1, o1, c1, hr1c, hb1, hx1⟩ := hcl Y1 (by omega)
  obtain ⟨b2, o2, c2, hr2c, hb2, hx2⟩ := hcl Y2 (by omega)
  obtain ⟨e11, e12, e21, e22⟩ : w.cell? ⟨b1, o1 + X1, none⟩ = some (.int .i64 (at2 m Y1 X1)) ∧ w.cell? ⟨b1, o1 + X2, none⟩ = some (.int .i64 (at2 m Y1 X2)) ∧ w.cell? ⟨b2, o2 + X1, none⟩ = some (.int .i64 (at2 m Y2 X1)) ∧ w.cell? ⟨b2, o2 + X2, none⟩ = some (.int .i64 (at2 m Y2 X2)) := ⟨hx1 _ (by omega), hx1 _ (by omega), hx2 _ (by omega), hx2 _ (by omega)⟩
  have hYr1 : Y1 < r := by omega
  have hYr2 : Y2 < r := by omega
  have hXc1 : X1 < c := by omega
  have hXc2 : X2 < c := by omega
  clear hcl hx1 hx2 h1' h2'
  have Hw := Lib.hid hbel
  by_cases hy : Y1 < Y2
  · by_cases hx : X1 < X2
    · have hd1 : decide ((Y2 : Int) ≤ Y1) = false := by simp; omega
      have hd2 : decide ((X2 : Int) ≤ X1) = false := by simp; omega
      have Hr2 := Lib.hid (show decide (SwOk r c m (Y1, Y2, X1, X2)) = decide (at2 m Y1 X1 = at2 m Y2 X2 ∧ at2 m Y1 X2 = at2 m Y2 X1 ∧ at2 m Y1 X1 ≠ at2 m Y1 X2) from by simp [SwOk, Sw.y1, Sw.y2, Sw.x1, Sw.x2, hy, hx, hYr2, hXc2])
      obtain ⟨p, hp⟩ : ∃ p, at2 m Y1 X1 = p := ⟨_, rfl⟩
      obtain ⟨q, hq⟩ : ∃ q, at2 m Y1 X2 = q := ⟨_, rfl⟩
      obtain ⟨s, hs'⟩ : ∃ s, at2 m Y2 X1 = s := ⟨_, rfl⟩
      obtain ⟨t, ht⟩ : ∃ t, at2 m Y2 X2 = t := ⟨_, rfl⟩
      rw [hp] at e11 Hr2
      rw [hq] at e12 Hr2
      rw [hs'] at e21 Hr2
      rw [ht] at e22 Hr2
      clear hp hq hs' ht
      by_cases h1 : p = t
      rotate_left
      · have hb1' : (p == t) = false := by simpa using h1
        have Hr3 := Lib.hid (show false = swOkB r c m Y1 Y2 X1 X2 from by rw [Hr.out, Hr2.out]; simp [h1])
        clear h1
        go_enter Try.func66, Try.ntmps66
        go_wp2_with (fail)
        refine (hasCell_c _ _ _ _ _ _ _ Hv1.out hs hr1 hr5 hc1 hc5).mono ?_
        rintro e w' ⟨rfl, rfl⟩
        rw [H1.out]
        go_wp2_with (fail)
        refine (hasCell_c _ _ _ _ _ _ _ Hv1.out hs hr1 hr5 hc1 hc5).mono ?_
        rintro e w' ⟨rfl, rfl⟩
        rw [H2.out]
        go_wp2
        all_goals try (exfalso; omega)
        go_quiet (fail)
        go_wp2
        go_ret
        exact ⟨retB Hr3.out, below_drewN hbel _⟩
      subst h1
      by_cases h2 : q = s
      rotate_left
      · have hb2' : (q == s) = false := by simpa using h2
        have Hr3 := Lib.hid (show false = swOkB r c m Y1 Y2 X1 X2 from by rw [Hr.out, Hr2.out]; simp [h2])
        clear h2
        go_enter Try.func66, Try.ntmps66
        go_wp2_with (fail)
        refine (hasCell_c _ _ _ _ _ _ _ Hv1.out hs hr1 hr5 hc1 hc5).mono ?_
        rintro e w' ⟨rfl, rfl⟩
        rw [H1.out]
        go_wp2_with (fail)
        refine (hasCell_c _ _ _ _ _ _ _ Hv1.out hs hr1 hr5 hc1 hc5).mono ?_
        rintro e w' ⟨rfl, rfl⟩
        rw [H2.out]
        go_wp2
        all_goals try (exfalso; omega)
        go_quiet (fail)
        go_wp2
        go_ret
        exact ⟨retB Hr3.out, below_drewN hbel _⟩
      subst h2
      by_cases h3 : p = q
      · subst h3
        have Hr3 := Lib.hid (show false = swOkB r c m Y1 Y2 X1 X2 from by rw [Hr.out, Hr2.out]; simp)
        go_enter Try.func66, Try.ntmps66
        go_wp2_with (fail)
        refine (hasCell_c _ _ _ _ _ _ _ Hv1.out hs hr1 hr5 hc1 hc5).mono ?_
        rintro e w' ⟨rfl, rfl⟩
        rw [H1.out]
        go_wp2_with (fail)
        refine (hasCell_c _ _ _ _ _ _ _ Hv1.out hs hr1 hr5 hc1 hc5).mono ?_
        rintro e w' ⟨rfl, rfl⟩
        rw [H2.out]
        go_wp2
        all_goals try (exfalso; omega)
        go_quiet (fail)
        go_wp2
        go_ret
        exact ⟨retB Hr3.out, below_drewN hbel _⟩
      · have hb3' : (p == q) = false := by simpa using h3
        have Hr3 := Lib.hid (show (p != q) = swOkB r c m Y1 Y2 X1 X2 from by rw [Hr.out, Hr2.out]; simp [h3])
        clear h3
        go_enter Try.func66, Try.ntmps66
        go_wp2_with (fail)
        refine (hasCell_c _ _ _ _ _ _ _ Hv1.out hs hr1 hr5 hc1 hc5).mono ?_
        rintro e w' ⟨rfl, rfl⟩
        rw [H1.out]
        go_wp2_with (fail)
        refine (hasCell_c _ _ _ _ _ _ _ Hv1.out hs hr1 hr5 hc1 hc5).mono ?_
        rintro e w' ⟨rfl, rfl⟩
        rw [H2.out]
        go_wp2
        all_goals try (exfalso; omega)
        go_quiet (fail)
        go_wp2
        go_ret
        exact ⟨retB Hr3.out, below_drewN hbel _⟩
    · have hd1 : decide (Y2 ≤ Y1) = false := by simp; omega
      have hd2 : decide (X2 ≤ X1) = true := by simp; omega
      have Hr3 := Lib.hid (show false = swOkB r c m Y1 Y2 X1 X2 from by rw [Hr.out]; simp [SwOk, Sw.x1, Sw.x2, hx])
      go_enter Try.func66, Try.ntmps66
      go_wp2_with (fail)
      refine (hasCell_c _ _ _ _ _ _ _ Hv1.out hs hr1 hr5 hc1 hc5).mono ?_
      rintro e w' ⟨rfl, rfl⟩
      rw [H1.out]
      go_wp2_with (fail)
      refine (hasCell_c _ _ _ _ _ _ _ Hv1.out hs hr1 hr5 hc1 hc5).mono ?_
      rintro e w' ⟨rfl, rfl⟩
      rw [H2.out]
      go_wp2
      go_ret
      exact ⟨retB Hr3.out, hbel⟩
  · have hd1 : decide (Y2 ≤ Y1) = true := by simp; omega
    have Hr3 := Lib.hid (show false = swOkB r c m Y1 Y2 X1 X2 from by rw [Hr.out]; simp [SwOk, Sw.y1, Sw.y2, hy])
    go_enter Try.func66, Try.ntmps66
    go_wp2_with (fail)
    refine (hasCell_c _ _ _ _ _ _ _ Hv1.out hs hr1 hr5 hc1 hc5).mono ?_
    rintro e w' ⟨rfl, rfl⟩
    rw [H1.out]
    go_wp2_with (fail)
    refine (hasCell_c _ _ _ _ _ _ _ Hv1.out hs hr1 hr5 hc1 hc5).mono ?_
    rintro e w' ⟨rfl, rfl⟩
    rw [H2.out]
    go_wp2
    go_ret
    exact ⟨retB Hr3.out, hbel⟩
set_option maxHeartbeats 1000000 in
theorem SwitchOk_s (v : Value) (m : List (List Int)) (r c : Nat) (y1 y2 x1 x2 : Int) (w : World) (hv : Grid w v m) (hs : Shape r c m) (hr1 : 1 ≤ r) (hr5 : r ≤ 5) (hc1 : 1 ≤ c) (hc5 : c ≤ 5) : Calls Try.prog 72 #[v, SwV y1 y2 x1 x2] w fun e w' => e = .returned (.bool (swOkB r c m y1 y2 x1 x2)) ∧ Below w.heap.size w w' := by
  obtain ⟨b, off, cp, rfl, hb, hcl⟩ := hv.cells hs hr1 hc1
  have Hv := Lib.hid hv
  have hbel := Below.pureAlloc w (.cells #[.int .i64 y1, .int .i64 y2, .int .i64 x1, .int .i64 x2] 64)
  have Hv1 := Lib.hid (hv.keep hbel)
  cases h1 : inB r c y1 x1
  · have Hr := Lib.hid (show swOkB r c m y1 y2 x1 x2 = false from by simp [swOkB, h1])
    have H1 := Lib.hid h1; clear h1 hcl
    go_enter Try.func72, Try.ntmps72
    go_wp2_with (fail)
    refine (l02In_c _ _ _ _ _ _ _ Hv1.out hs hr1 hr5 hc1 hc5).mono ?_
    rintro e w' ⟨rfl, rfl⟩
    rw [H1.out]
    go_wp2
    go_ret
    exact ⟨retB Hr.out.symm, hbel⟩
  cases h2 : inB r c y2 x2
  · have Hr := Lib.hid (show swOkB r c m y1 y2 x1 x2 = false from by simp [swOkB, h2])
    have H1 := Lib.hid h1; clear h1 hcl
    have H2 := Lib.hid h2; clear h2
    go_enter Try.func72, Try.ntmps72
    go_wp2_with (fail)
    refine (l02In_c _ _ _ _ _ _ _ Hv1.out hs hr1 hr5 hc1 hc5).mono ?_
    rintro e w' ⟨rfl, rfl⟩
    rw [H1.out]
    go_wp2_with (fail)
    refine (l02In_c _ _ _ _ _ _ _ Hv1.out hs hr1 hr5 hc1 hc5).mono ?_
    rintro e w' ⟨rfl, rfl⟩
    rw [H2.out]
    go_wp2
    go_ret
    exact ⟨retB Hr.out.symm, hbel⟩
  have h1' := inB_iff.1 h1
  have h2' := inB_iff.1 h2
  obtain ⟨Y1, rfl⟩ : ∃ n : Nat, y1 = n := ⟨y1.toNat, by omega⟩
  obtain ⟨X1, rfl⟩ : ∃ n : Nat, x1 = n := ⟨x1.toNat, by omega⟩
  obtain ⟨Y2, rfl⟩ : ∃ n : Nat, y2 = n := ⟨y2.toNat, by omega⟩
  obtain ⟨X2, rfl⟩ : ∃ n : Nat, x2 = n := ⟨x2.toNat, by omega⟩
  have Hr := Lib.hid (show swOkB r c m Y1 Y2 X1 X2 = decide (SwOk r c m (Y1, Y2, X1, X2)) from by simp [swOkB, h1, h2])
  have H1 := Lib.hid h1; clear h1
  have H2 := Lib.hid h2; clear h2
  obtain ⟨b1, o1, c1, hr1c, hb1, hx1⟩ := hcl Y1 (by omega)
  obtain ⟨b2, o2, c2, hr2c, hb2, hx2⟩ := hcl Y2 (by omega)
  obtain ⟨e11, e12, e21, e22⟩ : w.cell? ⟨b1, o1 + X1, none⟩ = some (.int .i64 (at2 m Y1 X1)) ∧ w.cell? ⟨b1, o1 + X2, none⟩ = some (.int .i64 (at2 m Y1 X2)) ∧ w.cell? ⟨b2, o2 + X1, none⟩ = some (.int .i64 (at2 m Y2 X1)) ∧ w.cell? ⟨b2, o2 + X2, none⟩ = some (.int .i64 (at2 m Y2 X2)) := ⟨hx1 _ (by omega), hx1 _ (by omega), hx2 _ (by omega), hx2 _ (by omega)⟩
  have hYr1 : Y1 < r := by omega
  have hYr2 : Y2 < r := by omega
  have hXc1 : X1 < c := by omega
  have hXc2 : X2 < c := by omega
  clear hcl hx1 hx2 h1' h2'
  have Hw := Lib.hid hbel
  by_cases hy : Y1 < Y2
  · by_cases hx : X1 < X2
    · have hd1 : decide ((Y2 : Int) ≤ Y1) = false := by simp; omega
      have hd2 : decide ((X2 : Int) ≤ X1) = false := by simp; omega
      have hbp := at2_bits hs Y1 X1
      have hbq := at2_bits hs Y1 X2
      have hbs := at2_bits hs Y2 X1
      have Hr2 := Lib.hid (show decide (SwOk r c m (Y1, Y2, X1, X2)) = decide (at2 m Y2 X2 = at2 m Y1 X1 ∧ at2 m Y1 X2 = 1 - at2 m Y1 X1 ∧ at2 m Y2 X1 = 1 - at2 m Y1 X1) from by
        simp only [SwOk, Sw.y1, Sw.y2, Sw.x1, Sw.x2, hy, hx, hYr2, hXc2, true_and]
        exact decide_eq_decide.2 ⟨fun h => by omega, fun h => by omega⟩)
      obtain ⟨p, hp⟩ : ∃ p, at2 m Y1 X1 = p := ⟨_, rfl⟩
      obtain ⟨q, hq⟩ : ∃ q, at2 m Y1 X2 = q := ⟨_, rfl⟩
      obtain ⟨s, hs'⟩ : ∃ s, at2 m Y2 X1 = s := ⟨_, rfl⟩
      obtain ⟨t, ht⟩ : ∃ t, at2 m Y2 X2 = t := ⟨_, rfl⟩
      rw [hp] at e11 Hr2 hbp
      rw [hq] at e12 Hr2
      rw [hs'] at e21 Hr2
      rw [ht] at e22 Hr2
      clear hp hq hs' ht hbq hbs
      by_cases h1 : t = p
      rotate_left
      · have hb1' : (t == p) = false := by simpa using h1
        have Hr3 := Lib.hid (show false = swOkB r c m Y1 Y2 X1 X2 from by rw [Hr.out, Hr2.out]; simp [h1])
        clear h1
        go_enter Try.func72, Try.ntmps72
        go_wp2_with (fail)
        refine (l02In_c _ _ _ _ _ _ _ Hv1.out hs hr1 hr5 hc1 hc5).mono ?_
        rintro e w' ⟨rfl, rfl⟩
        rw [H1.out]
        go_wp2_with (fail)
        refine (l02In_c _ _ _ _ _ _ _ Hv1.out hs hr1 hr5 hc1 hc5).mono ?_
        rintro e w' ⟨rfl, rfl⟩
        rw [H2.out]
        go_wp2
        all_goals try (exfalso; omega)
        go_quiet (fail)
        go_wp2
        all_goals try (exfalso; omega)
        go_quiet (fail)
        go_wp2
        go_ret
        exact ⟨retB Hr3.out, below_drewN (below_drewN hbel _) _⟩
      subst h1
      by_cases h2 : q = 1 - t
      rotate_left
      · have hb2' : (q == 1 - t) = false := by simpa using h2
        have Hr3 := Lib.hid (show false = swOkB r c m Y1 Y2 X1 X2 from by rw [Hr.out, Hr2.out]; simp [h2])
        clear h2
        go_enter Try.func72, Try.ntmps72
        go_wp2_with (fail)
        refine (l02In_c _ _ _ _ _ _ _ Hv1.out hs hr1 hr5 hc1 hc5).mono ?_
        rintro e w' ⟨rfl, rfl⟩
        rw [H1.out]
        go_wp2_with (fail)
        refine (l02In_c _ _ _ _ _ _ _ Hv1.out hs hr1 hr5 hc1 hc5).mono ?_
        rintro e w' ⟨rfl, rfl⟩
        rw [H2.out]
        go_wp2
        all_goals try (exfalso; omega)
        go_quiet (fail)
        go_wp2
        all_goals try (exfalso; omega)
        go_quiet (fail)
        go_wp2
        go_ret
        exact ⟨retB Hr3.out, below_drewN (below_drewN hbel _) _⟩
      have hb2' : (q == 1 - t) = true := by simpa using h2
      by_cases h3 : s = 1 - t
      · have hb3' : (s == 1 - t) = true := by simpa using h3
        have Hr3 := Lib.hid (show true = swOkB r c m Y1 Y2 X1 X2 from by rw [Hr.out, Hr2.out]; simp [h2, h3])
        clear h2 h3
        go_enter Try.func72, Try.ntmps72
        go_wp2_with (fail)
        refine (l02In_c _ _ _ _ _ _ _ Hv1.out hs hr1 hr5 hc1 hc5).mono ?_
        rintro e w' ⟨rfl, rfl⟩
        rw [H1.out]
        go_wp2_with (fail)
        refine (l02In_c _ _ _ _ _ _ _ Hv1.out hs hr1 hr5 hc1 hc5).mono ?_
        rintro e w' ⟨rfl, rfl⟩
        rw [H2.out]
        go_wp2
        all_goals try (exfalso; omega)
        go_quiet (fail)
        go_wp2
        all_goals try (exfalso; omega)
        go_quiet (fail)
        go_wp2
        go_ret
        exact ⟨retB Hr3.out, below_drewN (below_drewN hbel _) _⟩
      · have hb3' : (s == 1 - t) = false := by simpa using h3
        have Hr3 := Lib.hid (show false = swOkB r c m Y1 Y2 X1 X2 from by rw [Hr.out, Hr2.out]; simp [h3])
        clear h2 h3
        go_enter Try.func72, Try.ntmps72
        go_wp2_with (fail)
        refine (l02In_c _ _ _ _ _ _ _ Hv1.out hs hr1 hr5 hc1 hc5).mono ?_
        rintro e w' ⟨rfl, rfl⟩
        rw [H1.out]
        go_wp2_with (fail)
        refine (l02In_c _ _ _ _ _ _ _ Hv1.out hs hr1 hr5 hc1 hc5).mono ?_
        rintro e w' ⟨rfl, rfl⟩
        rw [H2.out]
        go_wp2
        all_goals try (exfalso; omega)
        go_quiet (fail)
        go_wp2
        all_goals try (exfalso; omega)
        go_quiet (fail)
        go_wp2
        go_ret
        exact ⟨retB Hr3.out, below_drewN (below_drewN hbel _) _⟩
    · have hd1 : decide (Y2 ≤ Y1) = false := by simp; omega
      have hd2 : decide (X2 ≤ X1) = true := by simp; omega
      have Hr3 := Lib.hid (show false = swOkB r c m Y1 Y2 X1 X2 from by rw [Hr.out]; simp [SwOk, Sw.x1, Sw.x2, hx])
      go_enter Try.func72, Try.ntmps72
      go_wp2_with (fail)
      refine (l02In_c _ _ _ _ _ _ _ Hv1.out hs hr1 hr5 hc1 hc5).mono ?_
      rintro e w' ⟨rfl, rfl⟩
      rw [H1.out]
      go_wp2_with (fail)
      refine (l02In_c _ _ _ _ _ _ _ Hv1.out hs hr1 hr5 hc1 hc5).mono ?_
      rintro e w' ⟨rfl, rfl⟩
      rw [H2.out]
      go_wp2
      go_ret
      exact ⟨retB Hr3.out, hbel⟩
  · have hd1 : decide (Y2 ≤ Y1) = true := by simp; omega
    have Hr3 := Lib.hid (show false = swOkB r c m Y1 Y2 X1 X2 from by rw [Hr.out]; simp [SwOk, Sw.y1, Sw.y2, hy])
    go_enter Try.func72, Try.ntmps72
    go_wp2_with (fail)
    refine (l02In_c _ _ _ _ _ _ _ Hv1.out hs hr1 hr5 hc1 hc5).mono ?_
    rintro e w' ⟨rfl, rfl⟩
    rw [H1.out]
    go_wp2_with (fail)
    refine (l02In_c _ _ _ _ _ _ _ Hv1.out hs hr1 hr5 hc1 hc5).mono ?_
    rintro e w' ⟨rfl, rfl⟩
    rw [H2.out]
    go_wp2
    go_ret
    exact ⟨retB Hr3.out, hbel⟩
end Go.Proofs.Ytliejhmlcdjpcaa

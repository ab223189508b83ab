/- Contracts: the reference's ChangeOf. -/
import Derived.Test.YtadbiefcpjcinaaC17
namespace Go.Proofs.Ytadbiefcpjcinaa
open Go.RowKit

set_option maxHeartbeats 800000 in
set_option maxRecDepth 100000 in
theorem ChangeOf_sb (v1 v2 v3 : Value) (rows cols : List Int) (m : List (List Int)) (w : World) (h1 : Ints w v1 rows) (h2 : Ints w v2 cols) (h3 : Grid w v3 m) (hbad : changeOk rows cols m = false) :
    Calls Try.prog 63 #[v1, v2, v3] w fun e w' => e = .returned (.int .i64 (changeOf rows cols m)) ∧ Below w.heap.size w w' := by
  have H1 := Lib.hid h1
  have H2 := Lib.hid h2
  have H3 := Lib.hid h3
  obtain ⟨a1, c1, rfl, -⟩ := id h1
  obtain ⟨a2, c2, rfl, -⟩ := id h2
  obtain ⟨a3, c3, rfl, -⟩ := id h3
  clear h1 h2 h3
  cases hsf : sumsFit rows cols
  · have Hr := Lib.hid (show changeOf rows cols m = -1 from by simp [changeOf, changeOk, hsf])
    have Hsf := Lib.hid hsf; clear hsf
    go_enter Try.func63, Try.ntmps63
    go_wp2_with (fail)
    refine (SumsFit_s _ _ _ _ _ H1.out H2.out).mono ?_
    rintro e w' ⟨rfl, rfl⟩
    rw [Hsf.out]
    go_wp2
    go_ret
    exact ⟨retI Hr.out.symm, Below.refl _ _⟩
  cases him : imageOk m
  · have Hr := Lib.hid (show changeOf rows cols m = -1 from by simp [changeOf, changeOk, him])
    have Hsf := Lib.hid hsf; clear hsf
    have Him := Lib.hid him; clear him
    go_enter Try.func63, Try.ntmps63
    go_wp2_with (fail)
    refine (SumsFit_s _ _ _ _ _ H1.out H2.out).mono ?_
    rintro e w' ⟨rfl, rfl⟩
    rw [Hsf.out]
    go_wp2_with (fail)
    refine (ImageOk_s _ _ _ H3.out).mono ?_
    rintro e w' ⟨rfl, rfl⟩
    rw [Him.out]
    go_wp2
    go_ret
    exact ⟨retI Hr.out.symm, Below.refl _ _⟩
  obtain ⟨r, c, hr1, hr5, hc1, hc5, hsh⟩ := imageOk_shape him
  have hml := hsh.1
  obtain ⟨row0, hrow0, hrl0, -⟩ := hsh.row (y := 0) (by omega)
  obtain ⟨b, off, cpr, he, hb, -⟩ := H3.out.inv_ne (by omega)
  obtain ⟨rfl, -⟩ : a3 = some ⟨b, off, none⟩ ∧ c3 = cpr := by simpa using he
  obtain ⟨u0, hck0, hu0⟩ := Sl.at H3.out hrow0
  obtain ⟨a0, cp0, rfl, -⟩ := hu0
  rw [hrl0, Nat.add_zero] at hck0
  have hhead := hsh.head hr1
  rw [hml] at H3 ⊢
  have Hsf := Lib.hid hsf
  have Him := Lib.hid him
  rcases (Decidable.em (r = rows.length)).symm with hlr | hlr
  · have Hr := Lib.hid (show changeOf rows cols m = -1 from by simp [changeOf, changeOk, hml, hlr])
    have hne : ((r : Int) == (rows.length : Int)) = false := by rw [beq_eq_false_iff_ne]; omega
    clear hsf him hrow0 he hml hrl0 hhead
    go_enter Try.func63, Try.ntmps63
    go_wp2_with (fail)
    refine (SumsFit_s _ _ _ _ _ H1.out H2.out).mono ?_
    rintro e w' ⟨rfl, rfl⟩
    rw [Hsf.out]
    go_wp2_with (fail)
    refine (ImageOk_s _ _ _ H3.out).mono ?_
    rintro e w' ⟨rfl, rfl⟩
    rw [Him.out]
    go_wp2
    go_ret
    exact ⟨retI Hr.out.symm, Below.refl _ _⟩
  subst hlr
  rcases (Decidable.em (c = cols.length)).symm with hlc | hlc
  · have Hr := Lib.hid (show changeOf rows cols m = -1 from by unfold changeOf changeOk; rw [hhead]; simp [hlc])
    have hne : ((c : Int) == (cols.length : Int)) = false := by rw [beq_eq_false_iff_ne]; omega
    clear hsf him hrow0 he hml hrl0 hhead
    go_enter Try.func63, Try.ntmps63
    go_wp2_with (fail)
    refine (SumsFit_s _ _ _ _ _ H1.out H2.out).mono ?_
    rintro e w' ⟨rfl, rfl⟩
    rw [Hsf.out]
    go_wp2_with (fail)
    refine (ImageOk_s _ _ _ H3.out).mono ?_
    rintro e w' ⟨rfl, rfl⟩
    rw [Him.out]
    go_wp2
    go_ret
    exact ⟨retI Hr.out.symm, Below.refl _ _⟩
  subst hlc
  exact absurd hbad (by unfold changeOk; rw [hsf, him, hml, hhead]; simp)
set_option maxHeartbeats 1600000 in
set_option maxRecDepth 100000 in
theorem ChangeOf_sg (v1 v2 v3 : Value) (rows cols : List Int) (m : List (List Int)) (w : World) (h1 : Ints w v1 rows) (h2 : Ints w v2 cols) (h3 : Grid w v3 m) (hok : changeOk rows cols m = true) :
    Calls Try.prog 63 #[v1, v2, v3] w fun e w' => e = .returned (.int .i64 (changeOf rows cols m)) ∧ Below w.heap.size w w' := by
  have H1 := Lib.hid h1
  have H2 := Lib.hid h2
  have H3 := Lib.hid h3
  obtain ⟨a1, c1, rfl, -⟩ := id h1
  obtain ⟨a2, c2, rfl, -⟩ := id h2
  obtain ⟨a3, c3, rfl, -⟩ := id h3
  clear h1 h2 h3
  obtain ⟨r, c, HA⟩ := changeOk_at hok
  obtain ⟨hr1, hr4, hc1, hc4, hrl', hcl', hsh, hrb, hcb⟩ := HA
  subst hrl' hcl'
  have hok' := hok
  unfold changeOk at hok'
  simp only [Bool.and_eq_true, decide_eq_true_eq] at hok'
  obtain ⟨⟨⟨hsf, him⟩, hml⟩, hhead⟩ := hok'
  have hr5 : rows.length ≤ 5 := by omega
  have hc5 : cols.length ≤ 5 := by omega
  obtain ⟨row0, hrow0, hrl0, -⟩ := hsh.row (y := 0) (by omega)
  obtain ⟨b, off, cpr, he, hb, -⟩ := H3.out.inv_ne (by omega)
  obtain ⟨rfl, -⟩ : a3 = some ⟨b, off, none⟩ ∧ c3 = cpr := by simpa using he
  obtain ⟨u0, hck0, hu0⟩ := Sl.at H3.out hrow0
  obtain ⟨a0, cp0, rfl, -⟩ := hu0
  rw [hrl0, Nat.add_zero] at hck0
  rw [hml] at H3 ⊢
  have Hsf := Lib.hid hsf
  have Him := Lib.hid him
  have Hr := Lib.hid (show changeOf rows cols m = gap rows (rowSumsOf m) + gap cols (colSumsOf m) from by unfold changeOf; rw [if_pos hok])
  have hrw := rowSumsOf_wf hsh hr1 hr5 hc1 hc5
  have hcw := colSumsOf_wf hsh hr1 hr5 hc1 hc5
  have hg1 := fun k => gapTo_bd hrb hrw.2 k
  have hg2 := fun k => gapTo_bd hcb hcw.2 k
  have hrl : (rowSumsOf m).length = rows.length := hrw.1
  have hcl : (colSumsOf m).length = cols.length := hcw.1
  have Hrl := Lib.hid hrl
  have Hcl := Lib.hid hcl
  have Hg1 := Lib.hid hg1
  have Hg2 := Lib.hid hg2
  have Hrw := Lib.hid hrw.2
  have Hcw := Lib.hid hcw.2
  have Hrb := Lib.hid hrb
  have Hcb := Lib.hid hcb
  clear hsf him hrow0 he hml hrl0 hhead hok hrw hcw hg1 hg2 hrl hcl hrb hcb
  go_enter Try.func63, Try.ntmps63
  go_wp2_with (fail)
  refine (SumsFit_s _ _ _ _ _ H1.out H2.out).mono ?_
  rintro e w' ⟨rfl, rfl⟩
  rw [Hsf.out]
  go_wp2_with (fail)
  refine (ImageOk_s _ _ _ H3.out).mono ?_
  rintro e w' ⟨rfl, rfl⟩
  rw [Him.out]
  go_wp2_with (fail)
  refine (RowSums_s _ _ _ H3.out).mono ?_
  rintro e w1 ⟨s1, rfl, o1, b1⟩
  go_wp2_with (fail)
  refine (l13Gap_c _ _ _ _ _ (H1.out.keep b1) o1.ints Hrl.out.symm hr5 Hrb.out Hrw.out).mono ?_
  rintro e w2 ⟨rfl, b2⟩
  have bb2 := b1.trans_pure b2 (Nat.le_refl _)
  go_wp2_with (fail)
  refine (ColSums_s _ _ _ (H3.out.keep bb2)).mono ?_
  rintro e w3 ⟨s3, rfl, o3, b3⟩
  have bb3 := bb2.trans_pure b3 (Nat.le_refl _)
  go_wp2_with (fail)
  refine (l13Gap_c _ _ _ _ _ (H2.out.keep bb3) o3.ints Hcl.out.symm hc5 Hcb.out Hcw.out).mono ?_
  rintro e w4 ⟨rfl, b4⟩
  have bb4 := bb3.trans_pure b4 (Nat.le_refl _)
  have g1 := (Hg1.out rows.length).1
  have g2 := (Hg1.out rows.length).2
  have g3 := (Hg2.out cols.length).1
  have g4 := (Hg2.out cols.length).2
  have G1 : 0 ≤ gap rows (rowSumsOf m) := g1
  have G2 : gap rows (rowSumsOf m) ≤ 5 * (rows.length : Int) := g2
  have G3 : 0 ≤ gap cols (colSumsOf m) := g3
  have G4 : gap cols (colSumsOf m) ≤ 5 * (cols.length : Int) := g4
  clear g1 g2 g3 g4
  go_wp2
  go_ret
  exact ⟨retI Hr.out.symm, bb4⟩
theorem ChangeOf_s (v1 v2 v3 : Value) (rows cols : List Int) (m : List (List Int)) (w : World) (h1 : Ints w v1 rows) (h2 : Ints w v2 cols) (h3 : Grid w v3 m) :
    Calls Try.prog 63 #[v1, v2, v3] w fun e w' => e = .returned (.int .i64 (changeOf rows cols m)) ∧ Below w.heap.size w w' := by
  cases h : changeOk rows cols m
  · exact ChangeOf_sb _ _ _ _ _ _ _ h1 h2 h3 h
  · exact ChangeOf_sg _ _ _ _ _ _ _ h1 h2 h3 h
end Go.Proofs.Ytadbiefcpjcinaa

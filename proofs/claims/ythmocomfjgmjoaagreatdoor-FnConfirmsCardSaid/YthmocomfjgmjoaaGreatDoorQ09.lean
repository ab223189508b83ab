/- Contracts and plain laws that the claims on sessions use. No condition of their own. -/
import Derived.Test.YthmocomfjgmjoaaGreatDoorQ02
import Derived.Test.YthmocomfjgmjoaaGreatDoorQ03
import Derived.Test.YthmocomfjgmjoaaGreatDoorQ01
import Derived.Laws.OwnMore
import Derived.Test.YthmocomfjgmjoaaGreatDoorQ04
set_option maxHeartbeats 2000000
set_option maxRecDepth 100000
namespace Go.Proofs.YthmocomfjgmjoaaGreatDoor
open Go.RowKit
def inB (r c : Nat) (y x : Int) : Bool := inR 0 ((r : Int) - 1) y && inR 0 ((c : Int) - 1) x
def cellOf (m : List (List Int)) (r c : Nat) (y x : Int) : Int := if inB r c y x then (m.getD y.toNat []).getD x.toNat 0 else -1
theorem hasCell_c (v : Value) (m : List (List Int)) (r c : Nat) (y x : Int) (w : World) (hv : Grid w v m) (hs : Shape r c m) (hr1 : 1 ≤ r) (hr5 : r ≤ 5) (hc1 : 1 ≤ c) (hc5 : c ≤ 5) : Calls Tryz.prog 94 #[v, .int .i64 y, .int .i64 x] w fun e w' => e = .returned (.bool (inB r c y x)) ∧ w = w' := by
  have Hv := Lib.hid hv
  have Hok := Lib.hid (hs.ok hr1 hr5 hc1 hc5)
  have hml := hs.1
  obtain ⟨row0, hrow0, hrl0, -⟩ := hs.row (y := 0) (by omega)
  obtain ⟨a, cap0, rfl, -⟩ := hv
  obtain ⟨b, off, cpr, he, hb, -⟩ := Hv.out.inv_ne (by omega)
  obtain ⟨rfl, -⟩ : a = some ⟨b, off, none⟩ ∧ cap0 = cpr := by simpa using he
  obtain ⟨u0, hck0, hu0⟩ := Sl.at Hv.out hrow0
  obtain ⟨a0, cp0, rfl, -⟩ := hu0
  rw [hrl0, Nat.add_zero] at hck0
  rw [hml] at Hv ⊢
  clear hrow0 hrl0 he hml
  cases h1 : inR 0 ((r : Int) - 1) y
  · have Hr := Lib.hid (show inB r c y x = false from by simp [inB, h1])
    have H1 := Lib.hid h1; clear h1
    go_enter Tryz.func94, Tryz.ntmps94
    go_wp2_with (fail)
    refine (ImageOk_i _ _ _ Hv.out).mono ?_
    rintro e w' ⟨rfl, rfl⟩
    rw [Hok.out]
    go_wp2_with (fail)
    refine (within_c _ _ _ _).mono ?_
    rintro e w' ⟨rfl, rfl⟩
    rw [H1.out]
    go_wp2
    go_ret
    exact ⟨retB Hr.out.symm, rfl⟩
  · have Hr := Lib.hid (show inR 0 ((c : Int) - 1) x = inB r c y x from by simp [inB, h1])
    have H1 := Lib.hid h1; clear h1
    go_enter Tryz.func94, Tryz.ntmps94
    go_wp2_with (fail)
    refine (ImageOk_i _ _ _ Hv.out).mono ?_
    rintro e w' ⟨rfl, rfl⟩
    rw [Hok.out]
    go_wp2_with (fail)
    refine (within_c _ _ _ _).mono ?_
    rintro e w' ⟨rfl, rfl⟩
    rw [H1.out]
    go_wp2_with (fail)
    refine (within_c _ _ _ _).mono ?_
    rintro e w' ⟨rfl, rfl⟩
    go_wp2
    go_ret
    exact ⟨retB Hr.out, rfl⟩
theorem l02In_c (v : Value) (m : List (List Int)) (r c : Nat) (y x : Int) (w : World) (hv : Grid w v m) (hs : Shape r c m) (hr1 : 1 ≤ r) (hr5 : r ≤ 5) (hc1 : 1 ≤ c) (hc5 : c ≤ 5) : Calls Tryz.prog 210 #[v, .int .i64 y, .int .i64 x] w fun e w' => e = .returned (.bool (inB r c y x)) ∧ w = w' := by
  have Hv := Lib.hid hv
  have Hok := Lib.hid (hs.ok hr1 hr5 hc1 hc5)
  have hml := hs.1
  obtain ⟨row0, hrow0, hrl0, -⟩ := hs.row (y := 0) (by omega)
  obtain ⟨a, cap0, rfl, -⟩ := hv
  obtain ⟨b, off, cpr, he, hb, -⟩ := Hv.out.inv_ne (by omega)
  obtain ⟨rfl, -⟩ : a = some ⟨b, off, none⟩ ∧ cap0 = cpr := by simpa using he
  obtain ⟨u0, hck0, hu0⟩ := Sl.at Hv.out hrow0
  obtain ⟨a0, cp0, rfl, -⟩ := hu0
  rw [hrl0, Nat.add_zero] at hck0
  rw [hml] at Hv ⊢
  clear hrow0 hrl0 he hml
  cases h1 : inR 0 ((r : Int) - 1) y
  · have Hr := Lib.hid (show inB r c y x = false from by simp [inB, h1])
    have H1 := Lib.hid h1; clear h1
    go_enter Tryz.func210, Tryz.ntmps210
    go_wp2_with (fail)
    refine (ImageOk_s _ _ _ Hv.out).mono ?_
    rintro e w' ⟨rfl, rfl⟩
    rw [Hok.out]
    go_wp2_with (fail)
    refine (l01In_c _ _ _ _).mono ?_
    rintro e w' ⟨rfl, rfl⟩
    rw [H1.out]
    go_wp2
    go_ret
    exact ⟨retB Hr.out.symm, rfl⟩
  · have Hr := Lib.hid (show inR 0 ((c : Int) - 1) x = inB r c y x from by simp [inB, h1])
    have H1 := Lib.hid h1; clear h1
    go_enter Tryz.func210, Tryz.ntmps210
    go_wp2_with (fail)
    refine (ImageOk_s _ _ _ Hv.out).mono ?_
    rintro e w' ⟨rfl, rfl⟩
    rw [Hok.out]
    go_wp2_with (fail)
    refine (l01In_c _ _ _ _).mono ?_
    rintro e w' ⟨rfl, rfl⟩
    rw [H1.out]
    go_wp2_with (fail)
    refine (l01In_c _ _ _ _).mono ?_
    rintro e w' ⟨rfl, rfl⟩
    go_wp2
    go_ret
    exact ⟨retB Hr.out, rfl⟩
theorem Grid.cells {w : World} {v : Value} {m : List (List Int)} {r c : Nat} (h : Grid w v m) (hs : Shape r c m) (hr : 1 ≤ r) (hc : 1 ≤ c) : ∃ b off cp, v = .slice (some ⟨b, off, none⟩) r cp ∧ b < w.heap.size ∧
    ∀ y, y < r → ∃ br offr cpr, w.cell? ⟨b, off + y, none⟩ = some (.slice (some ⟨br, offr, none⟩) c cpr) ∧ br < w.heap.size ∧ ∀ x, x < c → w.cell? ⟨br, offr + x, none⟩ = some (.int .i64 (at2 m y x)) := by
  have hml := hs.1
  obtain ⟨b, off, cp, rfl, hb, -⟩ := h.inv_ne (by omega)
  refine ⟨b, off, cp, by rw [hml], hb, fun y hy => ?_⟩
  obtain ⟨row, hrow, hrl, hrb⟩ := hs.row hy
  obtain ⟨u, hck, hu⟩ := Sl.at h hrow
  have hu : Ints w u row := hu
  obtain ⟨br, offr, cpr, rfl, hbr, -⟩ := hu.inv_ne (by omega)
  refine ⟨br, offr, cpr, by rw [hck, hrl], hbr, fun x hx => ?_⟩
  obtain ⟨z, hz⟩ : ∃ z, row[x]? = some z := ⟨_, List.getElem?_eq_getElem (by omega)⟩
  rw [Ints.at hu hz]
  have : at2 m y x = z := by
    unfold at2
    rw [List.getD_eq_getElem?_getD, List.getD_eq_getElem?_getD, hrow]
    simp [hz]
  rw [this]
def swOkB (r c : Nat) (m : List (List Int)) (y1 y2 x1 x2 : Int) : Bool := inB r c y1 x1 && (inB r c y2 x2 && decide (SwOk r c m (y1.toNat, y2.toNat, x1.toNat, x2.toNat)))
theorem inB_iff {r c : Nat} {y x : Int} : inB r c y x = true ↔ 0 ≤ y ∧ y < r ∧ 0 ≤ x ∧ x < c := by
  unfold inB
  rw [Bool.and_eq_true, inR_iff, inR_iff]
  omega
theorem swOkB_nat {r c : Nat} {m : List (List Int)} {s : Sw} : swOkB r c m s.y1 s.y2 s.x1 s.x2 = decide (SwOk r c m s) := by
  unfold swOkB
  by_cases h : SwOk r c m s
  · have h' := h
    obtain ⟨h1, h2, h3, h4, -⟩ := h'
    rw [inB_iff.2 (by omega), inB_iff.2 (by omega)]
    simp
  · simp [h]
abbrev SwV (y1 y2 x1 x2 : Int) : Value := .agg #[.int .i64 y1, .int .i64 y2, .int .i64 x1, .int .i64 x2]
theorem SwitchOk_i (v : Value) (m : List (List Int)) (r c : Nat) (y1 y2 x1 x2 : Int) (w : World) (hv : Grid w v m) (hs : Shape r c m) (hr1 : 1 ≤ r) (hr5 : r ≤ 5) (hc1 : 1 ≤ c) (hc5 : c ≤ 5) : Calls Tryz.prog 93 #[v, SwV y1 y2 x1 x2] w fun e w' => e = .returned (.bool (swOkB r c m y1 y2 x1 x2)) ∧ Below w.heap.size w w' := by
  obtain ⟨b, off, cp, rfl, hb, hcl⟩ := hv.cells hs hr1 hc1
  have Hv := Lib.hid hv
  have hbel := Below.pureAlloc w (.cells #[.int .i64 y1, .int .i64 y2, .int .i64 x1, .int .i64 x2] 65)
  have Hv1 := Lib.hid (hv.keep hbel)
  cases h1 : inB r c y1 x1
  · have Hr := Lib.hid (show swOkB r c m y1 y2 x1 x2 = false from by simp [swOkB, h1])
    have H1 := Lib.hid h1; clear h1 hcl
    go_enter Tryz.func93, Tryz.ntmps93
    go_wp2_with (fail)
    refine (hasCell_c _ _ _ _ _ _ _ Hv1.out hs hr1 hr5 hc1 hc5).mono ?_
    rintro e w' ⟨rfl, rfl⟩
    rw [H1.out]
    go_wp2
    go_ret
    exact ⟨retB Hr.out.symm, hbel⟩
  cases h2 : inB r c y2 x2
  · have Hr := Lib.hid (show swOkB r c m y1 y2 x1 x2 = false from by simp [swOkB, h2])
    have H1 := Lib.hid h1; clear h1 hcl
    have H2 := Lib.hid h2; clear h2
    go_enter Tryz.func93, Tryz.ntmps93
    go_wp2_with (fail)
    refine (hasCell_c _ _ _ _ _ _ _ Hv1.out hs hr1 hr5 hc1 hc5).mono ?_
    rintro e w' ⟨rfl, rfl⟩
    rw [H1.out]
    go_wp2_with (fail)
    refine (hasCell_c _ _ _ _ _ _ _ Hv1.out hs hr1 hr5 hc1 hc5).mono ?_
    rintro e w' ⟨rfl, rfl⟩
    rw [H2.out]
    go_wp2
    go_ret
    exact ⟨retB Hr.out.symm, hbel⟩
  have h1' := inB_iff.1 h1
  have h2' := inB_iff.1 h2
  obtain ⟨Y1, rfl⟩ : ∃ n : Nat, y1 = n := ⟨y1.toNat, by omega⟩
  obtain ⟨X1, rfl⟩ : ∃ n : Nat, x1 = n := ⟨x1.toNat, by omega⟩
  obtain ⟨Y2, rfl⟩ : ∃ n : Nat, y2 = n := ⟨y2.toNat, by omega⟩
  obtain ⟨X2, rfl⟩ : ∃ n : Nat, x2 = n := ⟨x2.toNat, by omega⟩
  have Hr := Lib.hid (show swOkB r c m Y1 Y2 X1 X2 = decide (SwOk r c m (Y1, Y2, X1, X2)) from by simp [swOkB, h1, h2])
  have H1 := Lib.hid h1; clear h1
  have H2 := Lib.hid h2; clear h2
  obtain ⟨b1, o1, c1, hr1c, hb1, hx1⟩ := hcl Y1 (by omega)
  obtain ⟨b2, o2, c2, hr2c, hb2, hx2⟩ := hcl Y2 (by omega)
  obtain ⟨e11, e12, e21, e22⟩ : w.cell? ⟨b1, o1 + X1, none⟩ = some (.int .i64 (at2 m Y1 X1)) ∧ w.cell? ⟨b1, o1 + X2, none⟩ = some (.int .i64 (at2 m Y1 X2)) ∧ w.cell? ⟨b2, o2 + X1, none⟩ = some (.int .i64 (at2 m Y2 X1)) ∧ w.cell? ⟨b2, o2 + X2, none⟩ = some (.int .i64 (at2 m Y2 X2)) := ⟨hx1 _ (by omega), hx1 _ (by omega), hx2 _ (by omega), hx2 _ (by omega)⟩
  have hYr1 : Y1 < r := by omega
  have hYr2 : Y2 < r := by omega
  have hXc1 : X1 < c := by omega
  have hXc2 : X2 < c := by omega
  clear hcl hx1 hx2 h1' h2'
  have Hw := Lib.hid hbel
  by_cases hy : Y1 < Y2
  · by_cases hx : X1 < X2
    · have hd1 : decide ((Y2 : Int) ≤ Y1) = false := by simp; omega
      have hd2 : decide ((X2 : Int) ≤ X1) = false := by simp; omega
      have Hr2 := Lib.hid (show decide (SwOk r c m (Y1, Y2, X1, X2)) = decide (at2 m Y1 X1 = at2 m Y2 X2 ∧ at2 m Y1 X2 = at2 m Y2 X1 ∧ at2 m Y1 X1 ≠ at2 m Y1 X2) from by simp [SwOk, Sw.y1, Sw.y2, Sw.x1, Sw.x2, hy, hx, hYr2, hXc2])
      obtain ⟨p, hp⟩ : ∃ p, at2 m Y1 X1 = p := ⟨_, rfl⟩
      obtain ⟨q, hq⟩ : ∃ q, at2 m Y1 X2 = q := ⟨_, rfl⟩
      obtain ⟨s, hs'⟩ : ∃ s, at2 m Y2 X1 = s := ⟨_, rfl⟩
      obtain ⟨t, ht⟩ : ∃ t, at2 m Y2 X2 = t := ⟨_, rfl⟩
      rw [hp] at e11 Hr2
      rw [hq] at e12 Hr2
      rw [hs'] at e21 Hr2
      rw [ht] at e22 Hr2
      clear hp hq hs' ht
      by_cases h1 : p = t
      rotate_left
      · have hb1' : (p == t) = false := by simpa using h1
        have Hr3 := Lib.hid (show false = swOkB r c m Y1 Y2 X1 X2 from by rw [Hr.out, Hr2.out]; simp [h1])
        clear h1
        go_enter Tryz.func93, Tryz.ntmps93
        go_wp2_with (fail)
        refine (hasCell_c _ _ _ _ _ _ _ Hv1.out hs hr1 hr5 hc1 hc5).mono ?_
        rintro e w' ⟨rfl, rfl⟩
        rw [H1.out]
        go_wp2_with (fail)
        refine (hasCell_c _ _ _ _ _ _ _ Hv1.out hs hr1 hr5 hc1 hc5).mono ?_
        rintro e w' ⟨rfl, rfl⟩
        rw [H2.out]
        go_wp2
        all_goals try (exfalso; omega)
        go_quiet (fail)
        go_wp2
        go_ret
        exact ⟨retB Hr3.out, below_drewN hbel _⟩
      subst h1
      by_cases h2 : q = s
      rotate_left
      · have hb2' : (q == s) = false := by simpa using h2
        have Hr3 := Lib.hid (show false = swOkB r c m Y1 Y2 X1 X2 from by rw [Hr.out, Hr2.out]; simp [h2])
        clear h2
        go_enter Tryz.func93, Tryz.ntmps93
        go_wp2_with (fail)
        refine (hasCell_c _ _ _ _ _ _ _ Hv1.out hs hr1 hr5 hc1 hc5).mono ?_
        rintro e w' ⟨rfl, rfl⟩
        rw [H1.out]
        go_wp2_with (fail)
        refine (hasCell_c _ _ _ _ _ _ _ Hv1.out hs hr1 hr5 hc1 hc5).mono ?_
        rintro e w' ⟨rfl, rfl⟩
        rw [H2.out]
        go_wp2
        all_goals try (exfalso; omega)
        go_quiet (fail)
        go_wp2
        go_ret
        exact ⟨retB Hr3.out, below_drewN hbel _⟩
      subst h2
      by_cases h3 : p = q
      · subst h3
        have Hr3 := Lib.hid (show false = swOkB r c m Y1 Y2 X1 X2 from by rw [Hr.out, Hr2.out]; simp)
        go_enter Tryz.func93, Tryz.ntmps93
        go_wp2_with (fail)
        refine (hasCell_c _ _ _ _ _ _ _ Hv1.out hs hr1 hr5 hc1 hc5).mono ?_
        rintro e w' ⟨rfl, rfl⟩
        rw [H1.out]
        go_wp2_with (fail)
        refine (hasCell_c _ _ _ _ _ _ _ Hv1.out hs hr1 hr5 hc1 hc5).mono ?_
        rintro e w' ⟨rfl, rfl⟩
        rw [H2.out]
        go_wp2
        all_goals try (exfalso; omega)
        go_quiet (fail)
        go_wp2
        go_ret
        exact ⟨retB Hr3.out, below_drewN hbel _⟩
      · have hb3' : (p == q) = false := by simpa using h3
        have Hr3 := Lib.hid (show (p != q) = swOkB r c m Y1 Y2 X1 X2 from by rw [Hr.out, Hr2.out]; simp [h3])
        clear h3
        go_enter Tryz.func93, Tryz.ntmps93
        go_wp2_with (fail)
        refine (hasCell_c _ _ _ _ _ _ _ Hv1.out hs hr1 hr5 hc1 hc5).mono ?_
        rintro e w' ⟨rfl, rfl⟩
        rw [H1.out]
        go_wp2_with (fail)
        refine (hasCell_c _ _ _ _ _ _ _ Hv1.out hs hr1 hr5 hc1 hc5).mono ?_
        rintro e w' ⟨rfl, rfl⟩
        rw [H2.out]
        go_wp2
        all_goals try (exfalso; omega)
        go_quiet (fail)
        go_wp2
        go_ret
        exact ⟨retB Hr3.out, below_drewN hbel _⟩
    · have hd1 : decide (Y2 ≤ Y1) = false := by simp; omega
      have hd2 : decide (X2 ≤ X1) = true := by simp; omega
      have Hr3 := Lib.hid (show false = swOkB r c m Y1 Y2 X1 X2 from by rw [Hr.out]; simp [SwOk, Sw.x1, Sw.x2, hx])
      go_enter Tryz.func93, Tryz.ntmps93
      go_wp2_with (fail)
      refine (hasCell_c _ _ _ _ _ _ _ Hv1.out hs hr1 hr5 hc1 hc5).mono ?_
      rintro e w' ⟨rfl, rfl⟩
      rw [H1.out]
      go_wp2_with (fail)
      refine (hasCell_c _ _ _ _ _ _ _ Hv1.out hs hr1 hr5 hc1 hc5).mono ?_
      rintro e w' ⟨rfl, rfl⟩
      rw [H2.out]
      go_wp2
      go_ret
      exact ⟨retB Hr3.out, hbel⟩
  · have hd1 : decide (Y2 ≤ Y1) = true := by simp; omega
    have Hr3 := Lib.hid (show false = swOkB r c m Y1 Y2 X1 X2 from by rw [Hr.out]; simp [SwOk, Sw.y1, Sw.y2, hy])
    go_enter Tryz.func93, Tryz.ntmps93
    go_wp2_with (fail)
    refine (hasCell_c _ _ _ _ _ _ _ Hv1.out hs hr1 hr5 hc1 hc5).mono ?_
    rintro e w' ⟨rfl, rfl⟩
    rw [H1.out]
    go_wp2_with (fail)
    refine (hasCell_c _ _ _ _ _ _ _ Hv1.out hs hr1 hr5 hc1 hc5).mono ?_
    rintro e w' ⟨rfl, rfl⟩
    rw [H2.out]
    go_wp2
    go_ret
    exact ⟨retB Hr3.out, hbel⟩
def swC (s : Sw) : List Value := [.int .i64 s.1, .int .i64 s.2.1, .int .i64 s.2.2.1, .int .i64 s.2.2.2]
def swCs (l : List Sw) : List Value := l.flatMap swC
theorem swCs_append (l k : List Sw) : swCs (l ++ k) = swCs l ++ swCs k := by unfold swCs; exact List.flatMap_append
theorem swCs_at : ∀ {l : List Sw} {k : Nat} {s : Sw}, l[k]? = some s → ∀ j, j < 4 → (swCs l)[k * 4 + j]? = (swC s)[j]?
  | [], k, s, h, _, _ => by simp at h
  | t :: l, 0, s, h, j, hj => by
    simp at h; subst h
    unfold swCs
    rw [List.flatMap_cons, List.getElem?_append_left (by simp [swC]; omega)]; simp
  | t :: l, k + 1, s, h, j, hj => by
    have h' : l[k]? = some s := by simpa using h
    have := swCs_at h' j hj
    unfold swCs at this ⊢
    rw [List.flatMap_cons, List.getElem?_append_right (by simp [swC]; omega), ← this]
    congr 1
    simp [swC]; omega
def OwnSw (B : Nat) (w : World) (v : Value) (l : List Sw) : Prop := w.ownsRow B 65 4 v l.length (swCs l)
theorem OwnSw.lt {B : Nat} {w : World} {v : Value} {l : List Sw} (h : OwnSw B w v l) : ∀ g, v.ownBlock = some g → B ≤ g ∧ g < w.heap.size := World.ownsRow.lt h
theorem OwnSw.nil (B : Nat) (w : World) : OwnSw B w (.slice none 0 0) [] := World.ownsRow_nil _ _ _ _
theorem OwnSw.same {B : Nat} {w w' : World} {v : Value} {l : List Sw} (h : OwnSw B w v l) (hs : ∀ b, B ≤ b → b < w.heap.size → w'.heap[b]? = w.heap[b]?) : OwnSw B w' v l := by
  have hlt := h.lt
  refine ⟨h.1, ?_⟩
  rcases h.2 with h1 | ⟨g, cap, cur, rfl, h1, h2, h3⟩
  · exact .inl h1
  · exact .inr ⟨g, cap, cur, rfl, h1, (hs g h1 (hlt g rfl).2).trans h2, h3⟩
theorem OwnSw.low {B B' : Nat} {w : World} {v : Value} {l : List Sw} (h : OwnSw B w v l) (hb : B' ≤ B) : OwnSw B' w v l := by
  refine ⟨h.1, ?_⟩
  rcases h.2 with h1 | ⟨g, cap, cur, rfl, h1, h2, h3⟩
  · exact .inl h1
  · exact .inr ⟨g, cap, cur, rfl, Nat.le_trans hb h1, h2, h3⟩
theorem OwnSw.keep {B : Nat} {w w' : World} {v : Value} {l : List Sw} (h : OwnSw B w v l) (hb : Below w.heap.size w w') : OwnSw B w' v l := h.same fun b _ h2 => hb.block b h2
theorem OwnSw.only {B : Nat} {T : Bk} {w w' : World} {v : Value} {l : List Sw} (h : OwnSw B w v l) (ho : Only T w w') (hd : ∀ b, B ≤ b → b < w.heap.size → ¬ T b) : OwnSw B w' v l := h.same fun b h1 h2 => ho.block b h2 (hd b h1 h2)
theorem OwnSw.shape {B : Nat} {w : World} {v : Value} {l : List Sw} (h : OwnSw B w v l) : ∃ a cap, v = .slice a l.length cap := by
  rcases h.2 with ⟨rfl, h1⟩ | ⟨g, cap, cur, rfl, -⟩
  · exact ⟨none, 0, by rw [h1]⟩
  · exact ⟨_, _, rfl⟩
theorem OwnSw.at {B : Nat} {w : World} {v : Value} {l : List Sw} (h : OwnSw B w v l) (hne : 0 < l.length) : ∃ g cap, v = .slice (some ⟨g, 0, none⟩) l.length cap ∧ B ≤ g ∧ g < w.heap.size ∧ l.length ≤ cap ∧ ∀ k s, l[k]? = some s → ∀ j u, (swC s)[j]? = some u → w.cell? ⟨g, k * 4 + j, none⟩ = some u := by
  have hlt := h.lt
  have h1 := h
  rcases h.2 with ⟨_, h0⟩ | ⟨g, cap, cur, rfl, hb, hh, h2, -⟩
  · omega
  · refine ⟨g, cap, rfl, hb, (hlt g rfl).2, h2, fun k s hk j u hj => ?_⟩
    have hj4 : j < 4 := by have := (List.getElem?_eq_some_iff.1 hj).1; simpa [swC] using this
    have hkl := (List.getElem?_eq_some_iff.1 hk).1
    rw [World.ownsRow.cellAt h1 _ (by omega), swCs_at hk j hj4, hj]
theorem wpList_appSw {P : Program} {w : World} {ops : Array Oper} {rest : List Oper} {o : Oper} {a : Act} {Q : Exit → Act → World → Prop} (hgd : o.guard = none) (s xo : Operand) (t : TypeId)
    (ho : o.op = .call { callee := .builtin .append, args := #[s, xo], argTypes := #[t, t] })
    {z : Value} {bytes : Nat} (ht : P.underlying t = some (.slice 65)) (hinfo : (P.info? 65).map (fun i => (i.zero, i.size, i.bytes)) = some (some z, 4, bytes)) (hzs : z.cells.size = 4) (hb64 : bytes ≤ 64)
    (B : Nat) {v : Value} {l : List Sw} (x : Sw) {gb c : Nat} (hs : a.eval s = v) (hx : a.eval xo = .slice (some ⟨gb, 0, none⟩) 1 c) (hnew : w.heap[gb]? = some (.cells (swC x).toArray 65 (0, 0))) (hown : OwnSw B w v l) (hlen : l.length < 1073741824) (hB : B ≤ w.heap.size)
    (h : ∀ v' w', OwnSw B w' v' (l ++ [x]) → Only (fun b => v.ownBlock = some b) w w' → wpList P ops Q rest (a.put o.dst v') w') :
    wpList P ops Q (o :: rest) a w := by
  obtain ⟨i, hi, hz, hsize, hby⟩ := info_parts hinfo
  have hnews : ∀ j u, (swC x)[j]? = some u → w.cell? ((⟨gb, 0, none⟩ : Addr).add j) = some u := by
    intro j u hj
    have : (⟨gb, 0, none⟩ : Addr).add j = ⟨gb, j, none⟩ := by simp only [Addr.add, Nat.zero_add]; split <;> simp_all
    rw [this, cell_of_row w gb j _ _ (0, 0) hnew]
    simpa using hj
  refine wpList_append_own (P := P) w hgd s xo t ho B 65 i z 4 bytes ht hi hz hsize hby hzs (by decide) v l.length (swCs l) hs hown ⟨gb, 0, none⟩ 1 c (swC x) hx rfl hnews (by intro u hu; simp [swC] at hu; rcases hu with rfl | rfl | rfl | rfl <;> rfl)
    (by simp [maxLen]; omega) (by have : (l.length + 1) * bytes ≤ 1073741824 * 64 := Nat.mul_le_mul (by omega) hb64
                                  omega) hB ?_
  intro v' w' h1 h2 _
  exact h v' w' (by unfold OwnSw; rw [swCs_append]; simpa [swCs] using h1) ⟨h2.os, h2.tape, h2.output, h2.size, fun b hb hn => h2.block b hb (fun e => hn e.symm)⟩
theorem infoSw : (Tryz.prog.info? 65).map (fun i => (i.zero, i.size, i.bytes)) = some (some (.agg #[.int .i64 0, .int .i64 0, .int .i64 0, .int .i64 0]), 4, 32) := by kernel_rfl
structure SwSt (n : Nat) (w wr : World) (out : Value) (l : List Sw) (N : Nat) : Prop where
  own : OwnSw n wr out l
  bel : Below n w wr
  len : l.length ≤ N
theorem SwSt.le {n N N' : Nat} {w wr : World} {out : Value} {l : List Sw} (h : SwSt n w wr out l N) (hn : N ≤ N') : SwSt n w wr out l N' := ⟨h.own, h.bel, Nat.le_trans h.len hn⟩
theorem SwSt.keep {n N : Nat} {w wr wr' : World} {out : Value} {l : List Sw} (h : SwSt n w wr out l N) (hb : Below wr.heap.size wr wr') (hn : n ≤ w.heap.size) : SwSt n w wr' out l N := ⟨h.own.keep hb, h.bel.trans_pure hb hn, h.len⟩
theorem SwitchesOf_i (v : Value) (m : List (List Int)) (r c : Nat) (w : World) (hv : Grid w v m) (hs : Shape r c m) (hr1 : 1 ≤ r) (hr5 : r ≤ 5) (hc1 : 1 ≤ c) (hc5 : c ≤ 5) : Calls Tryz.prog 162 #[v] w fun e w' => ∃ v', e = .returned v' ∧ OwnSw w.heap.size w' v' (switchesOf r c m) ∧ Below w.heap.size w w' := by
  obtain ⟨b, off, cp, rfl, hb, hcl⟩ := hv.cells hs hr1 hc1
  have Hv := Lib.hid hv
  have Hok := Lib.hid (hs.ok hr1 hr5 hc1 hc5)
  obtain ⟨b0, o0, c0, hc0, hb0, -⟩ := hcl 0 (by omega)
  rw [Nat.add_zero] at hc0
  clear hcl
  have St := Lib.hid (SwSt.mk (n := w.heap.size) (N := 0) (OwnSw.nil w.heap.size w) (Below.refl _ _) (Nat.le_refl _))
  go_enter Tryz.func162, Tryz.ntmps162
  go_wp2_with (fail)
  refine (ImageOk_i _ _ _ Hv.out).mono ?_
  rintro e w' ⟨rfl, rfl⟩
  rw [Hok.out]
  go_wp2
  go_loopw [3, 4, 5, 6, 7, 8, 14] (fun out _ _ _ _ _ i wr => ∃ a : Nat, a ≤ r ∧ i = .int .i64 a ∧ Hid (SwSt w.heap.size w wr out (sw1 r c m a) (125 * a))) (fun _ _ _ _ _ _ i _ => r - (intOf i).toNat)
  case atStart => exact ⟨0, Nat.zero_le _, rfl, St⟩
  case round =>
    clear St
    obtain ⟨a, ha, rfl, St⟩ := hrel
    by_cases hlt : a < r
    · go_wp2
      go_loopw [3, 5, 6, 7, 8] (fun out i _ _ _ wr => ∃ b : Nat, b ≤ r ∧ a + 1 ≤ b ∧ i = .int .i64 b ∧ Hid (SwSt w.heap.size w wr out (sw1 r c m a ++ sw2 r c m a b) (125 * a + 25 * b))) (fun _ i _ _ _ _ => r - (intOf i).toNat)
      case atStart => exact ⟨a + 1, hlt, Nat.le_refl _, by go_num, Lib.hid (by rw [sw2_zero, List.append_nil]; exact St.out.le (by omega))⟩
      case round =>
        clear St
        obtain ⟨b', hb', hab, rfl, St⟩ := hrel
        by_cases hlt2 : b' < r
        · have h0 := (St.out.bel.cell (p := ⟨b, off, none⟩) hb).trans hc0
          go_wp2
          clear h0
          go_loopw [3, 6, 7, 8, 29] (fun out _ _ _ i wr => ∃ x : Nat, x ≤ c ∧ i = .int .i64 x ∧ Hid (SwSt w.heap.size w wr out (sw1 r c m a ++ sw2 r c m a b' ++ sw3 r c m a b' x) (125 * a + 25 * b' + 5 * x))) (fun _ _ _ _ i _ => c - (intOf i).toNat)
          case atStart => exact ⟨0, Nat.zero_le _, rfl, Lib.hid (by rw [sw3_zero, List.append_nil]; exact St.out.le (by omega))⟩
          case round =>
            clear St
            obtain ⟨x, hx, rfl, St⟩ := hrel
            by_cases hlt3 : x < c
            · go_wp2
              go_loopw [3, 7, 8] (fun out i _ wr => ∃ y : Nat, y ≤ c ∧ x + 1 ≤ y ∧ i = .int .i64 y ∧ Hid (SwSt w.heap.size w wr out (sw1 r c m a ++ sw2 r c m a b' ++ sw3 r c m a b' x ++ sw4 r c m a b' x y) (125 * a + 25 * b' + 5 * x + y))) (fun _ i _ _ => c - (intOf i).toNat)
              case atStart => exact ⟨x + 1, hlt3, Nat.le_refl _, by go_num, Lib.hid (by rw [sw4_zero, List.append_nil]; exact St.out.le (by omega))⟩
              case round =>
                clear St
                obtain ⟨y, hy, hxy, rfl, St⟩ := hrel
                have h0 := (St.out.bel.cell (p := ⟨b, off, none⟩) hb).trans hc0
                by_cases hlt4 : y < c
                · have hbs := St.out.bel.size
                  have Hk := Lib.hid (Blk.new wr (swC (a, b', x, y)).toArray 65)
                  have Hbel1 := Lib.hid (Below.pureAlloc wr (.cells (swC (a, b', x, y)).toArray 65))
                  go_wp2_with (fail)
                  refine (SwitchOk_i _ m r c a b' x y _ ((Hv.out.keep St.out.bel).keep Hbel1.out) hs hr1 hr5 hc1 hc5).mono ?_
                  rintro e w2 ⟨rfl, hb2⟩
                  have hb12 : Below wr.heap.size wr w2 := Hbel1.out.trans_pure hb2 (Nat.le_refl _)
                  have Hk2 := Lib.hid (Hk.out.keep hb2)
                  have St2 := Lib.hid (St.out.keep hb12 (Nat.le_refl _))
                  have k0 : w2.cell? ⟨wr.heap.size, 0, none⟩ = some (.int .i64 a) := Hk2.out.cell 0
                  have k1 : w2.cell? ⟨wr.heap.size, 1, none⟩ = some (.int .i64 b') := Hk2.out.cell 1
                  have k2 : w2.cell? ⟨wr.heap.size, 2, none⟩ = some (.int .i64 x) := Hk2.out.cell 2
                  have k3 : w2.cell? ⟨wr.heap.size, 3, none⟩ = some (.int .i64 y) := Hk2.out.cell 3
                  have hsw : swOkB r c m a b' x y = decide (SwOk r c m (a, b', x, y)) := swOkB_nat (s := (a, b', x, y))
                  rw [hsw]
                  clear hsw Hk Hk2
                  by_cases hok : SwOk r c m (a, b', x, y)
                  · rw [decide_eq_true hok]
                    have Hst := Lib.hid (show sw4 r c m a b' x (y + 1) = sw4 r c m a b' x y ++ [(a, b', x, y)] from by rw [sw4_succ, if_pos hok])
                    clear hok
                    have Hbel3 := Lib.hid (Below.pureAlloc w2 (.cells (swC (a, b', x, y)).toArray 65))
                    have Hk3 := Lib.hid (Blk.new w2 (swC (a, b', x, y)).toArray 65)
                    have St3 := Lib.hid (St2.out.keep Hbel3.out (Nat.le_refl _))
                    obtain ⟨l, hl⟩ : ∃ l, l = sw1 r c m a ++ sw2 r c m a b' ++ sw3 r c m a b' x ++ sw4 r c m a b' x y := ⟨_, rfl⟩
                    rw [← hl] at St3
                    have Hl := Lib.hid hl
                    clear hl St2
                    obtain ⟨ao, co, rfl⟩ := St3.out.own.shape
                    have hlen := Nat.lt_of_le_of_lt St3.out.len (show _ < 1073741824 from by omega)
                    have hsz3 := St3.out.bel.size
                    go_wp2_with (at_builtin; (refine wpList_appSw (w := w2.alloc (.cells (swC (a, b', x, y)).toArray 65)) (v := .slice ao l.length co) (l := l) (gb := w2.heap.size) (c := 1) rfl _ _ 116 rfl Tryz.underlying116 infoSw rfl (by decide) w.heap.size (a, b', x, y) rfl rfl (by exact Hk3.out) (by exact St3.out.own) hlen (by exact hsz3) ?_); intro v4 w4 o4 b4)
                    have St4 := Lib.hid (SwSt.mk (w := w) o4 (St3.out.bel.trans (b4.below hsz3 fun g hg => (St3.out.own.lt g hg).1)) (by rw [List.length_append]; exact Nat.succ_le_succ St3.out.len))
                    refine ⟨⟨y + 1, by omega, by omega, by go_num, Lib.hid ?_⟩, by simp [intOf]; omega⟩
                    rw [Hst.out, ← List.append_assoc, ← Hl.out]
                    exact St4.out
                  · rw [decide_eq_false hok]
                    have Hst := Lib.hid (show sw4 r c m a b' x (y + 1) = sw4 r c m a b' x y from by rw [sw4_succ, if_neg hok, List.append_nil])
                    clear hok
                    go_wp2
                    go_roundw
                    case rel => exact ⟨y + 1, by omega, by omega, by go_num, Lib.hid (by rw [Hst.out]; exact St2.out.le (by omega))⟩
                    case measure => simp [intOf]; omega
                · go_wp2
                  go_roundw
                  case rel => exact ⟨x + 1, by omega, by go_num, Lib.hid (by rw [sw3_succ, ← List.append_assoc]; obtain rfl : y = c := (by omega); exact St.out.le (by omega))⟩
                  case measure => simp [intOf]; omega
            · go_wp2
              go_roundw
              case rel => exact ⟨b' + 1, by omega, by omega, by go_num, Lib.hid (by rw [sw2_succ, ← List.append_assoc]; obtain rfl : x = c := (by omega); exact St.out.le (by omega))⟩
              case measure => simp [intOf]; omega
        · go_wp2
          go_roundw
          case rel => exact ⟨a + 1, by omega, by go_num, Lib.hid (by rw [sw1_succ]; obtain rfl : b' = r := (by omega); exact St.out.le (by omega))⟩
          case measure => simp [intOf]; omega
    · obtain ⟨ao, co, rfl⟩ := St.out.own.shape
      go_wp2
      go_ret
      obtain rfl : a = r := by omega
      exact ⟨_, rfl, by rw [← sw1_all]; exact St.out.own, St.out.bel⟩
def hasG (m : List (List Int)) (y x : Int) : Bool := imageOk m && inB m.length (m.headD []).length y x
def celG (m : List (List Int)) (y x : Int) : Int := if hasG m y x then at2 m y.toNat x.toNat else -1
theorem shape_dims {m : List (List Int)} {r c : Nat} (hs : Shape r c m) (hr : 1 ≤ r) : m.length = r ∧ (m.headD []).length = c := by
  refine ⟨hs.1, ?_⟩
  cases m with
  | nil => exact absurd hs.1 (by simp; omega)
  | cons row l => exact (hs.2 row List.mem_cons_self).1
theorem hasG_no {m : List (List Int)} (h : imageOk m = false) (y x : Int) : hasG m y x = false := by rw [hasG, h]; rfl
theorem hasG_shape {m : List (List Int)} {r c : Nat} (hs : Shape r c m) (hr : 1 ≤ r) (h : imageOk m = true) (y x : Int) : hasG m y x = inB r c y x := by
  obtain ⟨e1, e2⟩ := shape_dims hs hr
  rw [hasG, h, e1, e2]; rfl
theorem celG_shape {m : List (List Int)} {r c : Nat} (hs : Shape r c m) (hr : 1 ≤ r) (h : imageOk m = true) (y x : Int) : celG m y x = cellOf m r c y x := by
  rw [celG, hasG_shape hs hr h]; rfl
theorem has_i (v : Value) (m : List (List Int)) (y x : Int) (w : World) (hv : Grid w v m) : Calls Tryz.prog 94 #[v, .int .i64 y, .int .i64 x] w fun e w' => e = .returned (.bool (hasG m y x)) ∧ w = w' := by
  cases h : imageOk m
  · have Hr := Lib.hid (hasG_no h y x)
    have Hok := Lib.hid h
    have Hv := Lib.hid hv
    obtain ⟨a, cap0, rfl, -⟩ := hv
    clear h
    go_enter Tryz.func94, Tryz.ntmps94
    go_wp2_with (fail)
    refine (ImageOk_i _ _ _ Hv.out).mono ?_
    rintro e w' ⟨rfl, rfl⟩
    rw [Hok.out]
    go_wp2
    go_ret
    exact ⟨retB Hr.out.symm, rfl⟩
  · obtain ⟨r, c, hr1, hr5, hc1, hc5, hs⟩ := imageOk_shape h
    rw [hasG_shape hs hr1 h]
    first
      | exact hasCell_c v m r c y x w hv hs hr1 hr5 hc1 hc5
      | exact l02In_c v m r c y x w hv hs hr1 hr5 hc1 hc5
theorem CellAt_i (v : Value) (m : List (List Int)) (y x : Int) (w : World) (hv : Grid w v m) : Calls Tryz.prog 39 #[v, .int .i64 y, .int .i64 x] w fun e w' => e = .returned (.int .i64 (celG m y x)) ∧ w = w' := by
  have Hv := Lib.hid hv
  obtain ⟨a, cap0, rfl, -⟩ := id hv
  cases h1 : hasG m y x
  · have Hr := Lib.hid (show celG m y x = -1 from by simp [celG, h1])
    have H1 := Lib.hid h1; clear h1
    go_enter Tryz.func39, Tryz.ntmps39
    go_wp2_with (fail)
    refine (has_i _ _ _ _ _ Hv.out).mono ?_
    rintro e w' ⟨rfl, rfl⟩
    rw [H1.out]
    go_wp2
    go_ret
    exact ⟨retI Hr.out.symm, rfl⟩
  · have hok : imageOk m = true := by unfold hasG at h1; rw [Bool.and_eq_true] at h1; exact h1.1
    obtain ⟨r, c, hr1, hr5, hc1, hc5, hs⟩ := imageOk_shape hok
    have h2 := h1
    rw [hasG_shape hs hr1 hok] at h2
    unfold inB at h2
    rw [Bool.and_eq_true, inR_iff, inR_iff] at h2
    obtain ⟨⟨y0, y1⟩, x0, x1⟩ := h2
    obtain ⟨yn, rfl⟩ : ∃ n : Nat, y = n := ⟨y.toNat, by omega⟩
    obtain ⟨xn, rfl⟩ : ∃ n : Nat, x = n := ⟨x.toNat, by omega⟩
    have hml := hs.1
    obtain ⟨row, hrow, hrl, hrb⟩ := hs.row (y := yn) (by omega)
    obtain ⟨b, off, cpr, he, hb, -⟩ := Hv.out.inv_ne (by omega)
    obtain ⟨rfl, -⟩ : a = some ⟨b, off, none⟩ ∧ cap0 = cpr := by simpa using he
    obtain ⟨u, hck, hu⟩ := Sl.at Hv.out hrow
    have hu : Ints w u row := hu
    obtain ⟨br, offr, cpr2, rfl, hbr, hat⟩ := hu.inv_ne (by omega)
    obtain ⟨z, hz⟩ : ∃ z, row[xn]? = some z := ⟨_, List.getElem?_eq_getElem (by omega)⟩
    have hcz := Ints.at hu hz
    have Hr := Lib.hid (show celG m yn xn = z from by
      unfold celG
      rw [if_pos h1, Int.toNat_natCast, Int.toNat_natCast]
      unfold at2
      rw [gD_some hrow, gD_some hz])
    have H1 := Lib.hid h1
    rw [hml] at Hv ⊢
    have hyr : yn < r := by omega
    have hxr : xn < row.length := by omega
    clear h1 hrow hz hu hat hrl hml he hok
    go_enter Tryz.func39, Tryz.ntmps39
    go_wp2_with (fail)
    refine (has_i _ _ _ _ _ Hv.out).mono ?_
    rintro e w' ⟨rfl, rfl⟩
    rw [H1.out]
    go_wp2
    go_ret
    exact ⟨retI Hr.out.symm, rfl⟩
def ImgRes (w : World) (o : Option (List (List Int))) : Ending → World → Prop := fun e w' => ∃ v, e = .returned (.tuple #[v, .bool o.isSome]) ∧ Own 32 (Own 3 IntV) (Iv w.heap.size w'.heap.size) w' v (o.getD []) ∧ Below w.heap.size w w'
def putG (m : List (List Int)) (y x cell : Int) : Option (List (List Int)) := if hasG m y x = true ∧ inR 0 1 cell = true then some (setC m y.toNat x.toNat cell) else none
theorem PutCell_i (v : Value) (m : List (List Int)) (y x cell : Int) (w : World) (hv : Grid w v m) : Calls Tryz.prog 38 #[v, .int .i64 y, .int .i64 x, .int .i64 cell] w (ImgRes w (putG m y x cell)) := by
  have Hv := Lib.hid hv
  obtain ⟨a, cap0, rfl, -⟩ := id hv
  cases h1 : hasG m y x
  · have Hr := Lib.hid (show putG m y x cell = none from by simp [putG, h1])
    have H1 := Lib.hid h1; clear h1
    go_enter Tryz.func38, Tryz.ntmps38
    go_wp2_with (fail)
    refine (has_i _ _ _ _ _ Hv.out).mono ?_
    rintro e w' ⟨rfl, rfl⟩
    rw [H1.out]
    go_wp2
    go_ret2
    exact ⟨_, by rw [Hr.out]; rfl, by rw [Hr.out]; exact Own.nil _ _ _ _, Below.refl _ _⟩
  · cases h3 : inR 0 1 cell
    · have Hr := Lib.hid (show putG m y x cell = none from by simp [putG, h3])
      have H1 := Lib.hid h1
      have H3 := Lib.hid h3
      clear h1 h3
      go_enter Tryz.func38, Tryz.ntmps38
      go_wp2_with (fail)
      refine (has_i _ _ _ _ _ Hv.out).mono ?_
      rintro e w' ⟨rfl, rfl⟩
      rw [H1.out]
      go_wp2_with (fail)
      refine (within_c _ _ _ _).mono ?_
      rintro e w' ⟨rfl, rfl⟩
      rw [H3.out]
      go_wp2
      go_ret2
      exact ⟨_, by rw [Hr.out]; rfl, by rw [Hr.out]; exact Own.nil _ _ _ _, Below.refl _ _⟩
    · have hok : imageOk m = true := by unfold hasG at h1; rw [Bool.and_eq_true] at h1; exact h1.1
      obtain ⟨r, c, hr1, hr5, hc1, hc5, hs⟩ := imageOk_shape hok
      have h2 := h1
      rw [hasG_shape hs hr1 hok] at h2
      unfold inB at h2
      rw [Bool.and_eq_true, inR_iff, inR_iff] at h2
      obtain ⟨⟨y0, y1⟩, x0, x1⟩ := h2
      obtain ⟨yn, rfl⟩ : ∃ n : Nat, y = n := ⟨y.toNat, by omega⟩
      obtain ⟨xn, rfl⟩ : ∃ n : Nat, x = n := ⟨x.toNat, by omega⟩
      have Hr := Lib.hid (show putG m yn xn cell = some (setC m yn xn cell) from by simp [putG, h1, h3])
      have hcell := (inR_iff ..).mp h3
      have H1 := Lib.hid h1
      have H3 := Lib.hid h3
      have Hml := Lib.hid (show m.length ≤ 1048576 from by have := hs.1; omega)
      have HR := Lib.hid (show ∀ p ∈ m, p.length ≤ 1048576 from fun p hp => by have := (hs.2 p hp).1; omega)
      clear h1 h3 hok
      go_enter Tryz.func38, Tryz.ntmps38
      go_wp2_with (fail)
      refine (has_i _ _ _ _ _ Hv.out).mono ?_
      rintro e w' ⟨rfl, rfl⟩
      rw [H1.out]
      go_wp2_with (fail)
      refine (within_c _ _ _ _).mono ?_
      rintro e w' ⟨rfl, rfl⟩
      rw [H3.out]
      go_wp2_with (fail)
      refine (copyGrid_c _ m _ Hv.out Hml.out HR.out).mono ?_
      rintro e w2 ⟨v2, rfl, o2, b2⟩
      have hml := hs.1
      obtain ⟨G, cap, rfl, hG, hcap, hGl, -⟩ := o2.inv_ne (by omega)
      obtain ⟨hrow, hrl⟩ := at2_row hs (y := yn) (by omega)
      obtain ⟨q, cq, hck, -, hq, -, hcq, hxs, -, hset⟩ := own_grid_cell o2 hrow (by omega)
      obtain ⟨⟨o, ho⟩, hfo⟩ := hxs xn (by omega)
      have o3 := hset w2 (fun _ _ => rfl) xn cell (by omega) ⟨by omega, by omega⟩
      have b3 := b2.setCell (p := ⟨q, xn, none⟩) hq.1 (.int .i64 cell)
      rw [hrl] at hck hcq
      rw [hml] at o3 hcap ⊢
      have Ho3 := Lib.hid o3
      have Hb3 := Lib.hid b3
      clear o2 o3 b2 b3 hset hrow hxs
      go_wp2
      go_ret2
      refine ⟨_, by rw [Hr.out]; rfl, ?_, Hb3.out⟩
      rw [Hr.out, size_setCell]
      exact Ho3.out
end Go.Proofs.YthmocomfjgmjoaaGreatDoor

/- Contracts: IsLogical. -/
import Derived.Test.YtekgnpdchpdfiaaD3
import Derived.Test.YtekgnpdchpdfiaaD5
namespace Go.Proofs.Ytekgnpdchpdfiaa
open Go.RowKit

def isLogical (R C : List (List Int)) : Bool := match deduce R C with | none => false | some m => imageOk m
theorem deduce_rect {R C m : List (List Int)} (h : deduce R C = some m) : TRect R.length C.length m ∧ 1 ≤ R.length ∧ R.length ≤ 5 ∧ 1 ≤ C.length ∧ C.length ≤ 5 := by
  cases hok : puzzleOk R C
  · rw [deduce_no hok] at h; cases h
  · rw [deduce_yes hok] at h
    obtain ⟨h1, h2, h3, h4⟩ := puzzleOk_bd hok
    exact ⟨dloop_rect h1 h3 _ _ _ (openGrid_rect _ _) h, h1, h2, h3, h4⟩
theorem rect_image {m : List (List Int)} {r c : Nat} (h : TRect r c m) (h1 : 1 ≤ r) (h2 : r ≤ 5) (h3 : 1 ≤ c) (h4 : c ≤ 5) : imageOk m = m.all fun row => !row.any fun x => x == -1 := by
  cases hb : m.all fun row => !row.any fun x => x == -1
  · rw [← Bool.not_eq_true] at hb ⊢
    intro hok
    apply hb
    obtain ⟨r', c', -, -, -, -, hs⟩ := imageOk_shape hok
    rw [List.all_eq_true]
    intro row hrow
    rw [Bool.not_eq_true', ← Bool.not_eq_true]
    intro ha
    obtain ⟨x, hx, he⟩ := List.any_eq_true.1 ha
    rw [beq_iff_eq] at he
    have := (hs.2 row hrow).2 x hx
    omega
  · refine Shape.ok (r := r) (c := c) ⟨h.1, fun row hrow => ?_⟩ h1 h2 h3 h4
    obtain ⟨e1, e2⟩ := h.2 row hrow
    refine ⟨e1, fun x hx => ?_⟩
    have h5 := List.all_eq_true.1 hb row hrow
    have h6 : x ≠ -1 := by
      intro he
      rw [Bool.not_eq_true', ← Bool.not_eq_true] at h5
      exact h5 (List.any_eq_true.2 ⟨x, hx, by rw [he]; rfl⟩)
    have := e2 x hx
    omega
set_option maxRecDepth 100000 in
set_option maxHeartbeats 1600000 in
theorem IsLogical_i (a b : Value) (R C : List (List Int)) (w : World) (h1 : Grid w a R) (h2 : Grid w b C) (hlx : ∀ r ∈ R, r.length ≤ 1048576) (hly : ∀ r ∈ C, r.length ≤ 1048576) :
    Calls Try.prog 19 #[.agg #[a, b]] w fun e w' => e = .returned (.bool (isLogical R C)) ∧ Below w.heap.size w w' := by
  have Hlx := Lib.hid hlx
  have Hly := Lib.hid hly
  obtain ⟨aa, ca, rfl, -⟩ := id h1
  obtain ⟨ab, cb, rfl, -⟩ := id h2
  obtain ⟨W1, hW1⟩ : ∃ W1, W1 = w.alloc (.cells #[.slice aa R.length ca, .slice ab C.length cb] 28) := ⟨_, rfl⟩
  have bW1 : Below w.heap.size w W1 := by rw [hW1]; exact Below.pureAlloc _ _
  have G1 := Lib.hid (h1.keep bW1)
  have G2 := Lib.hid (h2.keep bW1)
  have HbW1 := Lib.hid bW1
  clear h1 h2 hlx hly bW1
  go_enter Try.func19, Try.ntmps19
  subst hW1
  go_wp2_with (fail)
  refine (Deduce_i _ _ R C _ G1.out G2.out Hlx.out Hly.out).mono ?_
  rintro e w2 ⟨v2, rfl, o2, b2⟩
  obtain ⟨p1, p2, p3, rfl⟩ := o2.shape
  have Hb2 := Lib.hid (HbW1.out.trans_pure b2 (Nat.le_refl _))
  have Hg2 := Lib.hid o2.grid
  clear o2 b2
  cases hd : deduce R C with
  | none =>
    have Hr := Lib.hid (show isLogical R C = false from by unfold isLogical; rw [hd])
    clear hd
    go_wp2
    go_ret
    exact ⟨retB Hr.out.symm, Hb2.out⟩
  | some m =>
    have Hr := Lib.hid (show isLogical R C = imageOk m from by unfold isLogical; rw [hd])
    have hg := Hg2.out
    rw [hd] at hg
    have Hg := Lib.hid (show Grid w2 (.slice p1 p2 p3) m from hg)
    clear hd hg
    go_wp2_with (fail)
    refine (ImageOk_i _ _ _ Hg.out).mono ?_
    rintro e w' ⟨rfl, rfl⟩
    go_wp2
    go_ret
    exact ⟨retB Hr.out.symm, Hb2.out⟩
theorem l08Has_c (v : Value) (xs : List Int) (n : Int) (w : World) (hv : Ints w v xs) : Calls Try.prog 56 #[v, .int .i64 n] w fun e w' => e = .returned (.bool (xs.any fun x => x == n)) ∧ w = w' := by
  have Hv := Lib.hid hv
  obtain ⟨a, cap, rfl, -, hle, -⟩ := hv
  go_enter Try.func56, Try.ntmps56
  go_wp2
  go_loop [9] (fun i => ∃ k : Nat, k ≤ xs.length ∧ i = .int .i64 k ∧ Hid (∀ j, j < k → (xs.getD j 0 == n) = false)) (fun i => xs.length - (intOf i).toNat)
  case atStart => exact ⟨0, Nat.zero_le _, rfl, fun j hj => by omega⟩
  case round =>
    obtain ⟨k, hk, rfl, Hall⟩ := hrel
    by_cases hlt : k < xs.length
    · obtain ⟨b, off, cpr, he, hb, -⟩ := Hv.out.inv_ne (by omega)
      obtain ⟨rfl, -⟩ : a = some ⟨b, off, none⟩ ∧ cap = cpr := by simpa using he
      have hcx := Ints.at Hv.out (gD_at 0 hlt)
      obtain ⟨x, hx⟩ : ∃ x, x = xs.getD k 0 := ⟨_, rfl⟩
      rw [← hx] at hcx
      have Hx := Lib.hid hx
      clear he hx
      cases hc : (x == n)
      · have Hc := Lib.hid hc
        go_wp2
        go_round
        case rel =>
          refine ⟨k + 1, by omega, by go_num, fun j hj => ?_⟩
          by_cases hjk : j < k
          · exact Hall.out j hjk
          · obtain rfl : j = k := by omega
            rw [← Hx.out]; exact Hc.out
        case measure => simp [intOf]; omega
      · have Hr := Lib.hid (show (xs.any fun x => x == n) = true from List.any_eq_true.2 ⟨x, by rw [Hx.out]; exact List.mem_of_getElem? (gD_at 0 hlt), hc⟩)
        go_wp2
        go_ret
        exact ⟨retB Hr.out.symm, rfl⟩
    · have Hr := Lib.hid (show (xs.any fun x => x == n) = false from by
        rw [← Bool.not_eq_true]
        intro h
        obtain ⟨x, hx, he⟩ := List.any_eq_true.1 h
        obtain ⟨j, hj⟩ := List.getElem?_of_mem hx
        have hjl := (List.getElem?_eq_some_iff.1 hj).1
        have := Hall.out j (by omega)
        rw [gD_some hj, he] at this
        cases this)
      go_wp2
      go_ret
      exact ⟨retB Hr.out.symm, rfl⟩
set_option maxRecDepth 100000 in
set_option maxHeartbeats 1600000 in
theorem IsLogical_s (a b : Value) (R C : List (List Int)) (w : World) (h1 : Grid w a R) (h2 : Grid w b C) :
    Calls Try.prog 18 #[.agg #[a, b]] w fun e w' => e = .returned (.bool (isLogical R C)) ∧ Below w.heap.size w w' := by
  obtain ⟨aa, ca, rfl, -⟩ := id h1
  obtain ⟨ab, cb, rfl, -⟩ := id h2
  obtain ⟨W1, hW1⟩ : ∃ W1, W1 = w.alloc (.cells #[.slice aa R.length ca, .slice ab C.length cb] 28) := ⟨_, rfl⟩
  have bW1 : Below w.heap.size w W1 := by rw [hW1]; exact Below.pureAlloc _ _
  have G1 := Lib.hid (h1.keep bW1)
  have G2 := Lib.hid (h2.keep bW1)
  have HbW1 := Lib.hid bW1
  clear h1 h2 bW1
  go_enter Try.func18, Try.ntmps18
  subst hW1
  go_wp2_with (fail)
  refine (Deduce_s _ _ R C _ G1.out G2.out).mono ?_
  rintro e w2 ⟨v2, rfl, o2, b2⟩
  have Hb2 := Lib.hid (HbW1.out.trans_pure b2 (Nat.le_refl _))
  have Hg2 := Lib.hid o2.grid
  obtain ⟨p1, p2, p3, hsh⟩ := o2.shape
  clear b2 o2
  cases hd : deduce R C with
  | none =>
    have Hr := Lib.hid (show isLogical R C = false from by unfold isLogical; rw [hd])
    subst hsh
    clear hd
    go_wp2
    go_ret
    exact ⟨retB Hr.out.symm, Hb2.out⟩
  | some m =>
    obtain ⟨hT, e1, e2, e3, e4⟩ := deduce_rect hd
    have Hr := Lib.hid (show isLogical R C = m.all fun row => !row.any fun x => x == -1 from by unfold isLogical; rw [hd]; exact rect_image hT e1 e2 e3 e4)
    have hg := Hg2.out
    rw [hd] at hg
    have Hg := Lib.hid (show Grid w2 v2 m from hg)
    obtain ⟨am, cm, rfl, -, hlem, -⟩ := id Hg.out
    clear hd hg hsh Hg2 hT
    go_wp2
    go_loop [16] (fun i => ∃ k : Nat, k ≤ m.length ∧ i = .int .i64 k ∧ Hid (∀ j, j < k → ((m.getD j []).any fun x => x == -1) = false)) (fun i => m.length - (intOf i).toNat)
    case atStart => exact ⟨0, Nat.zero_le _, rfl, fun j hj => by omega⟩
    case round =>
      obtain ⟨k, hk, rfl, Hall⟩ := hrel
      by_cases hlt : k < m.length
      · obtain ⟨b, off, cpr, he, hb, -⟩ := Hg.out.inv_ne (by omega)
        obtain ⟨rfl, -⟩ : am = some ⟨b, off, none⟩ ∧ cm = cpr := by simpa using he
        obtain ⟨u, hck, hu⟩ := Sl.at Hg.out (gD_at [] hlt)
        have hu : Ints w2 u (m.getD k []) := hu
        obtain ⟨row, hrow⟩ : ∃ row, row = m.getD k [] := ⟨_, rfl⟩
        rw [← hrow] at hu
        obtain ⟨q1, q2, rfl, -⟩ := id hu
        have Hu := Lib.hid hu
        have Hrow := Lib.hid hrow
        clear he hu hrow
        go_wp2_with (fail)
        refine (l08Has_c _ _ _ _ Hu.out).mono ?_
        rintro e w' ⟨rfl, rfl⟩
        cases hc : row.any fun x => x == -1
        · have Hc := Lib.hid hc
          go_wp2
          go_round
          case rel =>
            refine ⟨k + 1, by omega, by go_num, fun j hj => ?_⟩
            by_cases hjk : j < k
            · exact Hall.out j hjk
            · obtain rfl : j = k := by omega
              rw [← Hrow.out]; exact Hc.out
          case measure => simp [intOf]; omega
        · have Hr2 := Lib.hid (show isLogical R C = false from by
            rw [Hr.out, ← Bool.not_eq_true]
            intro h
            have := List.all_eq_true.1 h _ (List.mem_of_getElem? (gD_at [] hlt))
            rw [← Hrow.out, hc] at this
            cases this)
          go_wp2
          go_ret
          exact ⟨retB Hr2.out.symm, Hb2.out⟩
      · have Hr2 := Lib.hid (show isLogical R C = true from by
          rw [Hr.out, List.all_eq_true]
          intro row hrow
          obtain ⟨j, hj⟩ := List.getElem?_of_mem hrow
          have hjl := (List.getElem?_eq_some_iff.1 hj).1
          have := Hall.out j (by omega)
          rw [gD_some hj] at this
          rw [this]; rfl)
        go_wp2
        go_ret
        exact ⟨retB Hr2.out.symm, Hb2.out⟩
end Go.Proofs.Ytekgnpdchpdfiaa

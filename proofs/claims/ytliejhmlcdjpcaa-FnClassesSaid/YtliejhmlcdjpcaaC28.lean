/- Contracts: cells of images; counting black cells. -/
import Derived.Test.YtliejhmlcdjpcaaCopy
import Derived.Test.YtliejhmlcdjpcaaC12
import Derived.Test.YtliejhmlcdjpcaaC13
namespace Go.Proofs.Ytliejhmlcdjpcaa
open Go.RowKit

def inB (r c : Nat) (y x : Int) : Bool := inR 0 ((r : Int) - 1) y && inR 0 ((c : Int) - 1) x
/-- the cell of an image, or -1 -/
def cellOf (m : List (List Int)) (r c : Nat) (y x : Int) : Int := if inB r c y x then (m.getD y.toNat []).getD x.toNat 0 else -1
theorem hasCell_c (v : Value) (m : List (List Int)) (r c : Nat) (y x : Int) (w : World) (hv : Grid w v m) (hs : Shape r c m) (hr1 : 1 ≤ r) (hr5 : r ≤ 5) (hc1 : 1 ≤ c) (hc5 : c ≤ 5) : Calls Try.prog 41 #[v, .int .i64 y, .int .i64 x] w fun e w' => e = .returned (.bool (inB r c y x)) ∧ w = w' := by
  have Hv := Lib.hid hv
  have Hok := Lib.hid (hs.ok hr1 hr5 hc1 hc5)
  have hml := hs.1
  obtain ⟨row0, hrow0, hrl0, -⟩ := hs.row (y := 0) (by omega)
  obtain ⟨a, cap0, rfl, -⟩ := hv
  obtain ⟨b, off, cpr, he, hb, -⟩ := Hv.out.inv_ne (by omega)
  obtain ⟨rfl, -⟩ : a = some ⟨b, off, none⟩ ∧ cap0 = cpr := by simpa using he
  obtain ⟨u0, hck0, hu0⟩ := Sl.at Hv.out hrow0
  obtain ⟨a0, cp0, rfl, -⟩ := hu0
  rw [hrl0, Nat.add_zero] at hck0
  rw [hml] at Hv ⊢
  clear hrow0 hrl0 he hml
  cases h1 : inR 0 ((r : Int) - 1) y
  · have Hr := Lib.hid (show inB r c y x = false from by simp [inB, h1])
    have H1 := Lib.hid h1; clear h1
    go_enter Try.func41, Try.ntmps41
    go_wp2_with (fail)
    refine (ImageOk_i _ _ _ Hv.out).mono ?_
    rintro e w' ⟨rfl, rfl⟩
    rw [Hok.out]
    go_wp2_with (fail)
    refine (within_c _ _ _ _).mono ?_
    rintro e w' ⟨rfl, rfl⟩
    rw [H1.out]
    go_wp2
    go_ret
    exact ⟨retB Hr.out.symm, rfl⟩
  · have Hr := Lib.hid (show inR 0 ((c : Int) - 1) x = inB r c y x from by simp [inB, h1])
    have H1 := Lib.hid h1; clear h1
    go_enter Try.func41, Try.ntmps41
    go_wp2_with (fail)
    refine (ImageOk_i _ _ _ Hv.out).mono ?_
    rintro e w' ⟨rfl, rfl⟩
    rw [Hok.out]
    go_wp2_with (fail)
    refine (within_c _ _ _ _).mono ?_
    rintro e w' ⟨rfl, rfl⟩
    rw [H1.out]
    go_wp2_with (fail)
    refine (within_c _ _ _ _).mono ?_
    rintro e w' ⟨rfl, rfl⟩
    go_wp2
    go_ret
    exact ⟨retB Hr.out, rfl⟩
/-- the black cells -/
def ones (m : List (List Int)) : Int := sumL (m.map sumL)
theorem sumL_append1 (l : List Int) (x : Int) : sumL (l ++ [x]) = sumL l + x := by simp [sumL, List.foldl_append]
theorem ones_take {m : List (List Int)} {k : Nat} {row : List Int} (h : m[k]? = some row) : ones (m.take (k + 1)) = ones (m.take k) + sumL row := by
  unfold ones
  rw [List.take_add_one, h]
  simp only [Option.toList_some, List.map_append, List.map_cons, List.map_nil]
  exact sumL_append1 _ _
theorem ones_bd {m : List (List Int)} {r c : Nat} (hs : Shape r c m) : ∀ k, 0 ≤ ones (m.take k) ∧ ones (m.take k) ≤ ((k * c : Nat) : Int) := by
  intro k
  induction k with
  | zero => simp [ones, sumL]
  | succ k ih =>
    cases h : m[k]? with
    | none =>
      have : m.take (k + 1) = m.take k := by rw [List.take_add_one, h]; simp
      rw [this, Nat.succ_mul]
      omega
    | some row =>
      have h1 := hs.sum_bd' (List.mem_of_getElem? h)
      have h2 := (hs.2 row (List.mem_of_getElem? h)).1
      rw [ones_take h, Nat.succ_mul]
      rw [h2] at h1
      omega
end Go.Proofs.Ytliejhmlcdjpcaa

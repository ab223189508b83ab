/- Contracts: the images that agree (program): rising, agreeing, CountAgreeing, IsEnough, RevealNext. -/
import Derived.Test.YtlmjpmdkifoekaaDoorE3
import Derived.Test.YtlmjpmdkifoekaaDoorPath
import Derived.Test.YtlmjpmdkifoekaaDoorSw3
import Derived.Test.YtlmjpmdkifoekaaDoorMem
import Derived.Test.YtlmjpmdkifoekaaDoorKeyL
namespace Go.Proofs.YtlmjpmdkifoekaaDoor
open Go.RowKit

theorem rising_t (v : Value) (l : List Int) (n : Int) (N : Nat) (w : World) (hv : Ints w v l) (hn : n = (N : Int)) (hN : N ≤ 1048576) (hl : Rising N l) : Calls Tryd.prog 59 #[v, .int .i64 n] w fun e w' => e = .returned (.bool true) ∧ w = w' := by
  subst hn
  obtain ⟨a, cap0, rfl, -⟩ := id hv
  have Hv := Lib.hid hv
  have Hl := Lib.hid hl
  have hll : l.length ≤ 1048576 := by have := rising_len (ris_zero.2 hl) (Nat.zero_le _); omega
  clear hv hl
  go_enter Tryd.func59, Tryd.ntmps59
  go_wp2
  go_loopw [5, 6, 9] (fun _ _ i wr => ∃ k : Nat, k ≤ l.length ∧ i = .int .i64 k ∧ w = wr) (fun _ _ i _ => l.length - (intOf i).toNat)
  case atStart => exact ⟨0, Nat.zero_le _, rfl, rfl⟩
  case round =>
    obtain ⟨k, hk, rfl, rfl⟩ := hrel
    by_cases hlt : k < l.length
    · obtain ⟨b, off, cpr, he, hb, -⟩ := Hv.out.inv_ne (by omega)
      obtain ⟨rfl, -⟩ : a = some ⟨b, off, none⟩ ∧ cap0 = cpr := by simpa using he
      obtain ⟨x, hx⟩ : ∃ x, l[k]? = some x := ⟨_, List.getElem?_eq_getElem hlt⟩
      have hcx := Ints.at Hv.out hx
      have hbd := Hl.out.2 x (List.mem_of_getElem? hx)
      have Hr := Lib.hid (show inR 0 ((N : Int) - 1) x = true from inR_t (by omega) (by omega))
      by_cases hk0 : 0 < k
      · obtain ⟨K, hK⟩ : ∃ K : Nat, (k : Int) - 1 = (K : Int) := ⟨k - 1, by omega⟩
        obtain ⟨y, hy⟩ : ∃ y, l[K]? = some y := ⟨_, List.getElem?_eq_getElem (by omega)⟩
        have hcy := Ints.at Hv.out hy
        have hyx : y < x := by
          obtain ⟨i1, e1⟩ := List.getElem?_eq_some_iff.1 hy
          obtain ⟨i2, e2⟩ := List.getElem?_eq_some_iff.1 hx
          rw [← e1, ← e2]
          exact List.pairwise_iff_getElem.1 Hl.out.1 _ _ i1 i2 (by omega)
        have hd : decide (y ≥ x) = false := decide_eq_false (by omega)
        have hd2 : decide (x ≤ y) = false := decide_eq_false (by omega)
        have hd3 : decide ((0 : Int) < (k : Int)) = true := by simp; omega
        clear hx hy he
        go_wp2_with (fail)
        refine (within_c _ _ _ _).mono ?_
        rintro e w' ⟨rfl, rfl⟩
        rw [Hr.out]
        go_wp2
        go_roundw
        case rel => exact ⟨k + 1, by omega, by go_num, trivial⟩
        case measure => simp [intOf]; omega
      · obtain rfl : k = 0 := by omega
        rw [Nat.add_zero] at hcx
        clear hx he
        go_wp2_with (fail)
        refine (within_c _ _ _ _).mono ?_
        rintro e w' ⟨rfl, rfl⟩
        rw [Hr.out]
        go_wp2
        go_roundw
        case rel => exact ⟨0 + 1, by omega, by go_num, trivial⟩
        case measure => simp [intOf]; omega
    · go_wp2
      go_ret
      exact ⟨rfl, rfl⟩
/-- what is known of the images with the sums of an image -/
structure ImgsOk (r c : Nat) (m : List (List Int)) (L : List (List (List Int))) : Prop where
  eq : L = allImgs (rowSumsOf m) (colSumsOf m)
  ok : sumsOk (rowSumsOf m) (colSumsOf m) = true
  mem : ∀ q, q ∈ L ↔ Sums (rowSumsOf m) (colSumsOf m) r c q
  self : m ∈ L
  nd : L.Pairwise (fun a b => a ≠ b)
  shape : ∀ g ∈ L, Shape r c g
  big : L.length ≤ 1073741824
theorem imgsOk {r c : Nat} {m : List (List Int)} (hs : Shape r c m) (hr1 : 1 ≤ r) (hr5 : r ≤ 5) (hc1 : 1 ≤ c) (hc5 : c ≤ 5) : ImgsOk r c m (allImgs (rowSumsOf m) (colSumsOf m)) := by
  have hS := sums_of_image hs hr1 hr5 hc1 hc5
  have hrl := (rowSumsOf_wf hs hr1 hr5 hc1 hc5).1
  have hcl := (colSumsOf_wf hs hr1 hr5 hc1 hc5).1
  have hok : sumsOk (rowSumsOf m) (colSumsOf m) = true := sumsOk_of (by omega) (by omega) (by omega) (by omega) (by rw [hrl, hcl]; exact hS)
  have hmem : ∀ q, q ∈ allImgs (rowSumsOf m) (colSumsOf m) ↔ Sums (rowSumsOf m) (colSumsOf m) r c q := fun q => by rw [allImgs_mem hok, hrl, hcl]
  have hlen := allImgs_len (rowSumsOf m) (colSumsOf m)
  refine ⟨rfl, hok, hmem, (hmem m).2 hS, allImgs_nodup hok, fun g hg => ((hmem g).1 hg).1, Nat.le_trans hlen ?_⟩
  rw [hrl, hcl]
  exact Nat.le_trans (Nat.pow_le_pow_right (by decide) (Nat.mul_le_mul hr5 (Nat.succ_le_succ hc5))) (by decide)
theorem agreeing_take {c : Nat} {L : List (List (List Int))} {m : List (List Int)} {cells : List Int} {k : Nat} {x : List (List Int)} (h : L[k]? = some x) : agreeing c (L.take (k + 1)) m cells = agreeing c (L.take k) m cells ++ if agreesB c m x cells then [x] else [] := by
  unfold agreeing
  rw [List.take_add_one, h, Option.toList_some, List.filter_append]
  cases hb : agreesB c m x cells <;> simp [hb]
theorem agreesB_take {c : Nat} {m x : List (List Int)} {cells : List Int} {j n : Nat} (h : cells[j]? = some (n : Int)) : agreesB c m x (cells.take (j + 1)) = (agreesB c m x (cells.take j) && decide (at2 x (n / c) (n % c) = at2 m (n / c) (n % c))) := by
  rw [List.take_add_one, h, Option.toList_some, agreesB_snoc]
  unfold cellN
  rw [Int.toNat_natCast]
end Go.Proofs.YtlmjpmdkifoekaaDoor

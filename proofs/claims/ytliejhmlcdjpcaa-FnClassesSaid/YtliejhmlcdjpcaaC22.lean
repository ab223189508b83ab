/- Contracts: less. -/
import Derived.Test.YtliejhmlcdjpcaaC9
import Derived.Test.YtliejhmlcdjpcaaRunsLaw
namespace Go.Proofs.Ytliejhmlcdjpcaa
open Go.RowKit

set_option maxHeartbeats 400000 in
theorem less_c (v v2 : Value) (xs ys : List Int) (w : World) (hv : Ints w v xs) (hv2 : Ints w v2 ys) : Calls Try.prog 57 #[v, v2] w fun e w' => e = .returned (.bool (lessL xs ys)) ∧ w = w' := by
  have Hv := Lib.hid hv
  have Hv2 := Lib.hid hv2
  obtain ⟨a, cap, rfl, -, hle, -⟩ := hv
  obtain ⟨a2, cap2, rfl, -, hle2, -⟩ := hv2
  go_enter Try.func57, Try.ntmps57
  go_wp2
  go_loop [5, 6, 9] (fun _ _ i => ∃ k : Nat, k ≤ xs.length ∧ i = .int .i64 k ∧ (lessL (xs.drop k) (ys.drop k) = lessL xs ys)) (fun _ _ i => xs.length - (intOf i).toNat)
  case atStart => exact ⟨0, Nat.zero_le _, rfl, rfl⟩
  case round =>
    obtain ⟨k, hk, rfl, hls⟩ := hrel
    have Hls := Lib.hid hls
    clear hls
    by_cases hlt : k < xs.length
    · obtain ⟨x, hx⟩ : ∃ x, xs[k]? = some x := ⟨_, List.getElem?_eq_getElem hlt⟩
      obtain ⟨b, off, cpr, he, hb, -⟩ := Hv.out.inv_ne (by omega)
      obtain ⟨rfl, -⟩ : a = some ⟨b, off, none⟩ ∧ cap = cpr := by simpa using he
      have hcx := Ints.at Hv.out hx
      by_cases hlt2 : k < ys.length
      · obtain ⟨y, hy⟩ : ∃ y, ys[k]? = some y := ⟨_, List.getElem?_eq_getElem hlt2⟩
        obtain ⟨b2, off2, cpr2, he2, hb2, -⟩ := Hv2.out.inv_ne (by omega)
        obtain ⟨rfl, -⟩ : a2 = some ⟨b2, off2, none⟩ ∧ cap2 = cpr2 := by simpa using he2
        have hcy := Ints.at Hv2.out hy
        have Hst := Lib.hid (lessL_step hx hy)
        clear hx hy he he2
        by_cases hxy : x = y
        · subst hxy
          go_wp2
          go_round
          case rel => exact ⟨k + 1, by omega, by go_num, by rw [← Hls.out, Hst.out]; simp⟩
          case measure => simp [intOf]; omega
        · have hne : (x == y) = false := by simpa using hxy
          have Hr := Lib.hid (show lessL xs ys = decide (x < y) from by rw [← Hls.out, Hst.out, if_pos hxy])
          go_wp2
          go_ret
          exact ⟨retB Hr.out.symm, rfl⟩
      · have Hr := Lib.hid (show lessL (xs.drop (k + 1)) (ys.drop (k + 1)) = lessL xs ys from by rw [← Hls.out, lessL_end (.inr (by omega)), lessL_end (.inr (by omega))])
        clear hx he
        go_wp2
        go_round
        case rel => exact ⟨k + 1, by omega, by go_num, Hr.out⟩
        case measure => simp [intOf]; omega
    · have Hr := Lib.hid (show lessL xs ys = false from by rw [← Hls.out, lessL_end (.inl (by omega))])
      go_wp2
      go_ret
      exact ⟨retB Hr.out.symm, rfl⟩
end Go.Proofs.Ytliejhmlcdjpcaa

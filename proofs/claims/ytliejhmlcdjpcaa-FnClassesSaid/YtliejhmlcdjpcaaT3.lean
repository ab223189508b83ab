/- Contracts: texts: FormatImage, ParseImage. -/
import Derived.Test.YtliejhmlcdjpcaaT2
namespace Go.Proofs.Ytliejhmlcdjpcaa
open Go.RowKit

def formatImage (m : List (List Int)) : ByteArray := if imageOk m then signsOf m else ByteArray.empty
theorem FormatImage_i (v : Value) (m : List (List Int)) (w : World) (hv : Grid w v m) : Calls Try.prog 58 #[v] w fun e w' => e = .returned (.string (formatImage m)) ∧ Below w.heap.size w w' := by
  cases hok : imageOk m
  · have Hr := Lib.hid (show formatImage m = ByteArray.empty from by simp [formatImage, hok])
    have Hok := Lib.hid hok; clear hok
    go_enter Try.func58, Try.ntmps58
    go_wp2_with (fail)
    refine (ImageOk_i _ _ _ hv).mono ?_
    rintro e w' ⟨rfl, rfl⟩
    rw [Hok.out]
    go_wp2
    go_ret
    exact ⟨retS Hr.out.symm, Below.refl _ _⟩
  · have Hr := Lib.hid (show formatImage m = signsOf m from by simp [formatImage, hok])
    have ht := imageOk_trits hok
    have Hok := Lib.hid hok; clear hok
    go_enter Try.func58, Try.ntmps58
    go_wp2_with (fail)
    refine (ImageOk_i _ _ _ hv).mono ?_
    rintro e w' ⟨rfl, rfl⟩
    rw [Hok.out]
    go_wp2_with (fail)
    refine (signs_c _ _ _ hv ht).mono ?_
    rintro e w' ⟨rfl, hb⟩
    go_wp2
    go_ret
    exact ⟨retS Hr.out.symm, hb⟩
theorem sgn01 {c : Int} (h0 : 0 ≤ c) (h1 : c ≤ 1) : (c = 1 → sgn c = ⟨#[35]⟩) ∧ (c ≠ 1 → sgn c = ⟨#[46]⟩) := by
  refine ⟨fun h => by subst h; rfl, fun h => ?_⟩
  have : c = 0 := by omega
  subst this; rfl
end Go.Proofs.Ytliejhmlcdjpcaa

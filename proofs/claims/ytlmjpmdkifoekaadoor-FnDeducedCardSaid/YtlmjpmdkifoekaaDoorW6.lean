/- Contracts: PuzzleLine of both. -/
import Derived.Test.YtlmjpmdkifoekaaDoorS7
import Derived.Test.YtlmjpmdkifoekaaDoorD6
import Derived.Test.YtlmjpmdkifoekaaDoorF4
import Derived.Test.YtlmjpmdkifoekaaDoorT3
namespace Go.Proofs.YtlmjpmdkifoekaaDoor
open Go.RowKit

theorem formatImage_le (m : List (List Int)) : (formatImage m).size ≤ 1000 := by
  cases hok : imageOk m
  · simp [formatImage, hok]
  · unfold formatImage
    rw [if_pos hok]
    have h5 := (imageOk_trits hok).bulk
    have h6 : (signsOf m).size ≤ bulkB ⟨#[47]⟩ (m.map signRow) := joinB_size _ _
    omega
def puzzleHead (S : List (List (List Int))) : ByteArray := match S with
  | [] => fmtInt 0 ++ ⟨#[32, 115, 111, 108, 117, 116, 105, 111, 110, 115]⟩
  | x :: l => fmtInt ((x :: l).length : Nat) ++ ⟨#[32, 115, 111, 108, 117, 116, 105, 111, 110, 115]⟩ ++ ⟨#[32]⟩ ++ formatImage x
def puzzleLineOf (R C : List (List Int)) : ByteArray :=
  if puzzleOk R C then (if isLogical R C then puzzleHead (solutions R C) ++ ⟨#[32, 108, 111, 103, 105, 99, 97, 108]⟩ else puzzleHead (solutions R C)) else ByteArray.empty
structure PzSz (A F : ByteArray) : Prop where
  a : A.size ≤ 20
  f : F.size ≤ 1000
  l1 : (A ++ ⟨#[32, 115, 111, 108, 117, 116, 105, 111, 110, 115]⟩ : ByteArray).size ≤ 30
  l2 : (⟨#[32]⟩ ++ F : ByteArray).size ≤ 1001
  l3 : (A ++ ⟨#[32, 115, 111, 108, 117, 116, 105, 111, 110, 115]⟩ ++ ⟨#[32]⟩ : ByteArray).size ≤ 31
  l4 : (A ++ ⟨#[32, 115, 111, 108, 117, 116, 105, 111, 110, 115]⟩ ++ (⟨#[32]⟩ ++ F) : ByteArray).size ≤ 1031
  l5 : (A ++ ⟨#[32, 115, 111, 108, 117, 116, 105, 111, 110, 115]⟩ ++ ⟨#[32]⟩ ++ F : ByteArray).size ≤ 1031
theorem pzSz {A F : ByteArray} (a : A.size ≤ 20) (f : F.size ≤ 1000) : PzSz A F := by
  have e1 : (⟨#[32, 115, 111, 108, 117, 116, 105, 111, 110, 115]⟩ : ByteArray).size = 10 := rfl
  have e2 : (⟨#[32]⟩ : ByteArray).size = 1 := rfl
  refine ⟨a, f, ?_, ?_, ?_, ?_, ?_⟩ <;> simp only [ba_append_size, e1, e2] <;> omega
theorem ba_assoc (a b c : ByteArray) : a ++ b ++ c = a ++ (b ++ c) := by
  apply ba_ext
  simp only [ba_list_append, List.append_assoc]
set_option maxRecDepth 100000 in
set_option maxHeartbeats 2000000 in
theorem PuzzleLine_i (a b : Value) (R C : List (List Int)) (w : World) (h1 : Grid w a R) (h2 : Grid w b C) (hlx : ∀ r ∈ R, r.length ≤ 1048576) (hly : ∀ r ∈ C, r.length ≤ 1048576) (ht : Tab w) :
    Calls Tryd.prog 28 #[.agg #[a, b]] w fun e w' => e = .returned (.string (puzzleLineOf R C)) ∧ Below w.heap.size w w' := by
  have Hlx := Lib.hid hlx
  have Hly := Lib.hid hly
  have H1 := Lib.hid h1
  have H2 := Lib.hid h2
  have HT := Lib.hid ht
  obtain ⟨aa, ca, rfl, -⟩ := h1
  obtain ⟨ab, cb, rfl, -⟩ := h2
  clear hlx hly ht
  have Hk := Lib.hid (Blk.new w #[.slice aa R.length ca, .slice ab C.length cb] 42)
  have Hb0 := Lib.hid (Below.pureAlloc w (.cells #[.slice aa R.length ca, .slice ab C.length cb] 42))
  go_enter Tryd.func28, Tryd.ntmps28
  go_wp2_with (fail)
  refine (SolvePuzzle_i _ _ R C _ (H1.out.keep Hb0.out) (H2.out.keep Hb0.out) Hlx.out Hly.out).mono ?_
  rintro e w1 ⟨v1, rfl, o1, b1⟩
  have Hb1 := Lib.hid (Hb0.out.trans_pure b1 (Nat.le_refl _))
  have Hk1 := Lib.hid (Hk.out.keep b1)
  cases hok : puzzleOk R C
  · have Hr := Lib.hid (show ByteArray.empty = puzzleLineOf R C from by unfold puzzleLineOf; rw [if_neg (by rw [hok]; simp)])
    obtain ⟨p1, p2, p3, rfl⟩ := o1.shape
    clear o1 hok
    go_wp2
    go_ret
    exact ⟨retS Hr.out, Hb1.out⟩
  have hlogic : ∀ z, isLogical R C = z → puzzleLineOf R C = (if z then puzzleHead (solutions R C) ++ ⟨#[32, 108, 111, 103, 105, 99, 97, 108]⟩ else puzzleHead (solutions R C)) := fun z hz => by unfold puzzleLineOf; rw [if_pos hok, hz]
  obtain ⟨z, hz⟩ : ∃ z, isLogical R C = z := ⟨_, rfl⟩
  have Hr := Lib.hid (hlogic z hz)
  have Hz := Lib.hid hz
  have k0 : w1.cell? ⟨w.heap.size, 0, none⟩ = some (.slice aa R.length ca) := Hk1.out.cell 0
  have k1 : w1.cell? ⟨w.heap.size, 1, none⟩ = some (.slice ab C.length cb) := Hk1.out.cell 1
  obtain ⟨S, hS⟩ : ∃ S, S = solutions R C := ⟨_, rfl⟩
  rw [← hS] at o1 Hr
  clear hlogic hz hok hS
  cases S with
  | nil =>
    obtain ⟨q1, q2, q3, rfl⟩ := o1.shape
    have hq := o1.grids.len
    rw [List.length_nil] at hq
    subst hq
    obtain ⟨za, zf, z1, z2, z3, z4, z5⟩ := pzSz (A := fmtInt 0) (F := ByteArray.empty) (fmt_size (by omega)) (by decide)
    have Hh := Lib.hid (show puzzleHead [] = fmtInt 0 ++ ⟨#[32, 115, 111, 108, 117, 116, 105, 111, 110, 115]⟩ from rfl)
    clear o1 k0 k1
    go_wp2_with (fail)
    refine (FormatInt_i _ (I64.small (by omega) (by omega)) _ (HT.out.keep Hb1.out)).mono ?_
    rintro e w2 ⟨rfl, b2⟩
    have Hb2 := Lib.hid (Hb1.out.trans_pure b2 (Nat.le_refl _))
    have Hk2 := Lib.hid (Hk1.out.keep b2)
    have k0 : w2.cell? ⟨w.heap.size, 0, none⟩ = some (.slice aa R.length ca) := Hk2.out.cell 0
    have k1 : w2.cell? ⟨w.heap.size, 1, none⟩ = some (.slice ab C.length cb) := Hk2.out.cell 1
    go_wp2_with (fail)
    refine (IsLogical_i _ _ R C _ (H1.out.keep Hb2.out) (H2.out.keep Hb2.out) Hlx.out Hly.out).mono ?_
    rintro e w3 ⟨rfl, b3⟩
    rw [Hz.out]
    have Hb3 := Lib.hid (Hb2.out.trans_pure b3 (Nat.le_refl _))
    clear k0 k1
    cases z
    · go_wp2
      go_ret
      exact ⟨retS (by rw [Hr.out, Hh.out]; rfl), Hb3.out⟩
    · go_wp2
      go_ret
      exact ⟨retS (by rw [Hr.out, Hh.out]; rfl), Hb3.out⟩
  | cons x l =>
    obtain ⟨g, gc, rfl, -, -, hgs, hbig⟩ := o1.inv_ne (by simp)
    have Hg := Lib.hid o1.grids
    obtain ⟨u, hck, hu⟩ := Sl.at o1.grids (k := 0) (x := x) rfl
    have Hu := Lib.hid (show Grid w1 u x from hu)
    obtain ⟨ua, uc, rfl, -⟩ := hu
    rw [Nat.add_zero] at hck
    have Hck := Lib.hid hck
    obtain ⟨n, hn⟩ : ∃ n, n = (x :: l).length := ⟨_, rfl⟩
    have Hn := Lib.hid hn
    have hn0 : 0 < n := by rw [hn]; simp
    rw [← hn] at hbig ⊢
    obtain ⟨A, hA⟩ : ∃ A, A = fmtInt (n : Int) := ⟨_, rfl⟩
    obtain ⟨F, hF⟩ : ∃ F, F = formatImage x := ⟨_, rfl⟩
    obtain ⟨za, zf, z1, z2, z3, z4, z5⟩ := pzSz (A := A) (F := F) (by rw [hA]; exact fmt_size (by omega)) (by rw [hF]; exact formatImage_le x)
    have HA := Lib.hid hA
    have HF := Lib.hid hF
    have Hh := Lib.hid (show puzzleHead (x :: l) = A ++ ⟨#[32, 115, 111, 108, 117, 116, 105, 111, 110, 115]⟩ ++ ⟨#[32]⟩ ++ F from by rw [hA, hF, hn]; rfl)
    have Key := Lib.hid (show A ++ ⟨#[32, 115, 111, 108, 117, 116, 105, 111, 110, 115]⟩ ++ (⟨#[32]⟩ ++ F) = puzzleHead (x :: l) from by rw [Hh.out, ba_assoc (A ++ _)])
    clear o1 hn hA hF k0 k1 hck
    go_wp2_with (fail)
    refine (FormatInt_i _ (I64.small (by omega) (by omega)) _ (HT.out.keep Hb1.out)).mono ?_
    rintro e w2 ⟨rfl, b2⟩
    rw [← HA.out]
    have Hb2 := Lib.hid (Hb1.out.trans_pure b2 (Nat.le_refl _))
    have Hk2 := Lib.hid (Hk1.out.keep b2)
    have hck := (b2.cell (p := ⟨g, 0, none⟩) hgs).trans Hck.out
    go_wp2_with (fail)
    refine (FormatImage_i _ x _ (Hu.out.keep b2)).mono ?_
    rintro e w3 ⟨rfl, b3⟩
    rw [← HF.out]
    have Hb3 := Lib.hid (Hb2.out.trans_pure b3 (Nat.le_refl _))
    have Hk3 := Lib.hid (Hk2.out.keep b3)
    have k0 : w3.cell? ⟨w.heap.size, 0, none⟩ = some (.slice aa R.length ca) := Hk3.out.cell 0
    have k1 : w3.cell? ⟨w.heap.size, 1, none⟩ = some (.slice ab C.length cb) := Hk3.out.cell 1
    clear hck
    go_wp2_with (fail)
    refine (IsLogical_i _ _ R C _ (H1.out.keep Hb3.out) (H2.out.keep Hb3.out) Hlx.out Hly.out).mono ?_
    rintro e w4 ⟨rfl, b4⟩
    rw [Hz.out]
    have Hb4 := Lib.hid (Hb3.out.trans_pure b4 (Nat.le_refl _))
    clear k0 k1
    cases z
    · go_wp2
      go_ret
      exact ⟨retS (by rw [Hr.out]; rw [Key.out]; rfl), Hb4.out⟩
    · go_wp2
      go_ret
      exact ⟨retS (by rw [Hr.out]; rw [Key.out]; rfl), Hb4.out⟩
end Go.Proofs.YtlmjpmdkifoekaaDoor

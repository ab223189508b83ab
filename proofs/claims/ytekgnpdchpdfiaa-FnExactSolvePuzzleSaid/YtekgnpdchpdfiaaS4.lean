/- Contracts: SolvePuzzle of the program, whole. -/
import Derived.Test.YtekgnpdchpdfiaaS3
namespace Go.Proofs.Ytekgnpdchpdfiaa
open Go.RowKit

theorem pow6_le {f : Nat} (h : f ≤ 5) : 6 ^ f ≤ 7776 := by
  have := Nat.pow_le_pow_right (n := 6) (by decide) h
  simpa using this
theorem solutions_len (R C : List (List Int)) : (solutions R C).length ≤ 7776 := by
  cases h : puzzleOk R C
  · rw [solutions_no h]; simp
  · rw [solutions_yes h]
    obtain ⟨-, h2, -, h4⟩ := puzzleOk_bd h
    exact Nat.le_trans (solves_len h4 _ _) (pow6_le h2)
theorem solutions_shape {R C : List (List Int)} : ∀ m ∈ solutions R C, Shape R.length C.length m ∧ puzzleOk R C = true := by
  intro m hm
  cases h : puzzleOk R C
  · rw [solutions_no h] at hm; cases hm
  · rw [solutions_yes h] at hm
    have := solves_shape R.length [] (fun row hr => by cases hr) m hm
    simp at this
    exact ⟨this, rfl⟩
set_option maxRecDepth 100000 in
set_option maxHeartbeats 4000000 in
theorem SolvePuzzle_i (a b : Value) (R C : List (List Int)) (w : World) (h1 : Grid w a R) (h2 : Grid w b C) (hlx : ∀ r ∈ R, r.length ≤ 1048576) (hly : ∀ r ∈ C, r.length ≤ 1048576) :
    Calls Try.prog 21 #[.agg #[a, b]] w fun e w' => ∃ v', e = .returned (.tuple #[v', .bool (puzzleOk R C)]) ∧ Own 22 (Own 41 (Own 3 IntV)) (Iv w.heap.size w'.heap.size) w' v' (solutions R C) ∧ Below w.heap.size w w' := by
  have Hlx := Lib.hid hlx
  have Hly := Lib.hid hly
  have H1 := Lib.hid h1
  have H2 := Lib.hid h2
  obtain ⟨aa, ca, rfl, -⟩ := id h1
  obtain ⟨ab, cb, rfl, -⟩ := id h2
  obtain ⟨W1, hW1⟩ : ∃ W1, W1 = w.alloc (.cells #[.slice aa R.length ca, .slice ab C.length cb] 28) := ⟨_, rfl⟩
  have bW1 : Below w.heap.size w W1 := by rw [hW1]; exact Below.pureAlloc _ _
  have zW1 : W1.heap.size = w.heap.size + 1 := by rw [hW1]; simp
  have kB : Blk W1 w.heap.size #[.slice aa R.length ca, .slice ab C.length cb] 28 := by rw [hW1]; exact Blk.new _ _ _
  have G1 := Lib.hid (h1.keep bW1)
  have G2 := Lib.hid (h2.keep bW1)
  have HbW1 := Lib.hid bW1
  have HkB := Lib.hid kB
  have HzW1 := Lib.hid zW1
  clear h1 h2 hlx hly bW1 zW1 kB
  cases hok : puzzleOk R C
  · have Hr := Lib.hid (solutions_no hok)
    have Hok := Lib.hid hok
    clear hok
    go_enter Try.func21, Try.ntmps21
    subst hW1
    go_wp2_with (fail)
    refine (PuzzleOk_i _ _ _ _ _ G1.out G2.out Hlx.out Hly.out).mono ?_
    rintro e w2 ⟨rfl, hw2⟩
    have b2 := HbW1.out.trans_pure (show Below _ _ w2 from by rw [hw2]; exact Below.pureAlloc _ _) (Nat.le_refl _)
    rw [Hok.out]
    clear hw2
    go_wp2
    go_ret2
    exact ⟨_, rfl, by rw [Hr.out]; exact Own.nil _ _ _ _, b2⟩
  obtain ⟨hr1, hr5, hc1, hc5⟩ := puzzleOk_bd hok
  have Hr := Lib.hid (solutions_yes hok)
  have Hok := Lib.hid hok
  clear hok
  go_enter Try.func21, Try.ntmps21
  subst hW1
  go_wp2_with (fail)
  refine (PuzzleOk_i _ _ _ _ _ G1.out G2.out Hlx.out Hly.out).mono ?_
  rintro e w2 ⟨rfl, hw2⟩
  have b2 : Below (w.alloc (.cells #[.slice aa R.length ca, .slice ab C.length cb] 28)).heap.size (w.alloc (.cells #[.slice aa R.length ca, .slice ab C.length cb] 28)) w2 := by rw [hw2]; exact Below.pureAlloc _ _
  rw [Hok.out]
  clear hw2
  have HbW2 := Lib.hid (HbW1.out.trans_pure b2 (Nat.le_refl _))
  have HkB2 := Lib.hid (HkB.out.keep b2)
  have hlow : w.heap.size < w2.heap.size := by have := b2.size; rw [HzW1.out] at this; omega
  clear b2 G1 G2 HbW1 HkB HzW1
  obtain ⟨F, hF⟩ : ∃ F : Value, F = .func (.func 59) #[] #[.pointer (some ⟨w.heap.size, 0, none⟩), .pointer (some ⟨w2.heap.size + 1, 0, none⟩), .pointer (some ⟨w2.heap.size, 0, none⟩), .pointer (some ⟨w2.heap.size + 1 + 1, 0, none⟩)] := ⟨_, rfl⟩
  obtain ⟨W6, hW6⟩ : ∃ W6, W6 = ((w2.alloc (.cells #[.slice none 0 0] 36)).alloc (.cells #[.slice none 0 0] 22)).alloc (.cells #[F] 65) := ⟨_, rfl⟩
  have b26 : Below w2.heap.size w2 W6 := by rw [hW6]; exact (((Below.refl _ _).alloc (Nat.le_refl _) _).alloc (by simp) _).alloc (by simp; omega) _
  have z6 : W6.heap.size = w2.heap.size + 3 := by rw [hW6]; simp
  have wf : SWf w.heap.size w.heap.size (w2.heap.size + 1) w2.heap.size (w2.heap.size + 1 + 1) (w2.heap.size + 3) := ⟨Nat.le_refl _, by omega, by omega, by omega, by omega⟩
  have hst : SSt w.heap.size w.heap.size (w2.heap.size + 1) w2.heap.size (w2.heap.size + 1 + 1) (w2.heap.size + 3) (.slice aa R.length ca) (.slice ab C.length cb) F w W6 (.slice none 0 0) [] (fun _ => False) (.slice none 0 0) [] (fun _ => False) := by
    refine ⟨HbW2.out.trans_pure b26 (Nat.le_refl _), HkB2.out.keep b26, ?_, ?_, ?_, Own.nil _ _ _ _, Own.nil _ _ _ _, fun _ h => h.elim, fun _ h => h.elim, by omega⟩
    · rw [hW6]
      have h1 := Blk.new (w2.alloc (.cells #[.slice none 0 0] 36)) #[.slice none 0 0] 22
      have h2 := h1.keep (Below.pureAlloc _ (.cells #[F] 65))
      simpa using h2
    · rw [hW6]
      exact (((Blk.new w2 _ _).keep (Below.pureAlloc _ _)).keep (Below.pureAlloc _ _))
    · rw [hW6]
      have := Blk.new ((w2.alloc (.cells #[.slice none 0 0] 36)).alloc (.cells #[.slice none 0 0] 22)) #[F] 65
      simpa using this
  have hp6 := pow6_le hr5
  have hput := sput_c wf hF (Nat.le_refl _) (Nat.le_refl _) H1.out H2.out hr1 hr5 hc1 hc5 R.length [] [] _ _ _ _ [] W6 hst ⟨rfl, fun k v x h _ => by simp at h⟩ (fun row hr => by cases hr) (by simp) (by simp; omega)
  have c6 : W6.cell? ⟨w2.heap.size + 1 + 1, 0, none⟩ = some F := hst.bf.cell 0
  have Hput := Lib.hid hput
  have Hb6 := Lib.hid (HbW2.out.trans_pure b26 (Nat.le_refl _))
  clear hput hst b26 wf z6
  subst hF
  subst hW6
  go_wp2_with (fail)
  refine (Hput.out).mono ?_
  rintro e w7 ⟨rfl, vm', Sm', vo', So', st7, hSm, hSo, hO⟩
  have c7 : w7.cell? ⟨w2.heap.size, 0, none⟩ = some vo' := st7.bo.cell 0
  have Hoo := Lib.hid st7.oo
  have Hho := Lib.hid st7.ho
  have Hbase := Lib.hid st7.base
  clear st7 hSm hSo hO
  go_wp2
  go_ret2
  refine ⟨vo', rfl, ?_, Hbase.out⟩
  rw [Hr.out]
  have h := Hoo.out
  rw [List.nil_append] at h
  exact (rOwn (rOwn (rOwn rIntV))).mono (fun b hb => ⟨by have := (Hho.out b hb).1; omega, (Hho.out b hb).2⟩) h
end Go.Proofs.Ytekgnpdchpdfiaa

/- Contracts: the reference's SolvePuzzle, whole; the size of the solutions. -/
import Derived.Test.YtekgnpdchpdfiaaS6
import Derived.Test.YtekgnpdchpdfiaaG1
namespace Go.Proofs.Ytekgnpdchpdfiaa
open Go.RowKit

theorem cells_rect : ∀ (m : List (List Int)) (c : Nat), (∀ row ∈ m, row.length = c) → cells m = m.length * c := by
  intro m c
  induction m with
  | nil => intro _; simp [cells]
  | cons a m ih =>
    intro hm
    have e : cells (a :: m) = a.length + cells m := by simp [cells]
    rw [e, ih (fun row hr => hm row (List.mem_cons_of_mem _ hr)), hm a (by simp), List.length_cons, Nat.succ_mul]
    omega
theorem cells3_le {g : List (List (List Int))} {n : Nat} (h : ∀ m ∈ g, cells m ≤ n) : cells3 g ≤ g.length * n := by
  unfold cells3
  induction g with
  | nil => simp
  | cons a g ih =>
    have h1 := h a (by simp)
    have h2 := ih (fun m hm => h m (List.mem_cons_of_mem _ hm))
    rw [List.map_cons, List.sum_cons, List.length_cons, Nat.succ_mul]; omega
theorem solutions_bd (R C : List (List Int)) : (solutions R C).length ≤ 7776 ∧ cells3 (solutions R C) ≤ 194400 ∧ ∀ r ∈ solutions R C, r.length ≤ 1048576 := by
  have h1 := solutions_len R C
  have h2 : ∀ m ∈ solutions R C, m.length ≤ 5 ∧ cells m ≤ 25 := by
    intro m hm
    obtain ⟨hs, hok⟩ := solutions_shape m hm
    obtain ⟨-, a2, -, a4⟩ := puzzleOk_bd hok
    refine ⟨by rw [hs.1]; exact a2, ?_⟩
    rw [cells_rect m C.length (fun row hr => (hs.2 row hr).1), hs.1]
    exact Nat.mul_le_mul a2 a4
  refine ⟨h1, ?_, fun r hr => by have := (h2 r hr).1; omega⟩
  have h3 := cells3_le (n := 25) fun m hm => (h2 m hm).2
  omega
set_option maxRecDepth 100000 in
set_option maxHeartbeats 2000000 in
theorem SolvePuzzle_s (a b : Value) (R C : List (List Int)) (w : World) (h1 : Grid w a R) (h2 : Grid w b C) :
    Calls Try.prog 20 #[.agg #[a, b]] w fun e w' => ∃ v', e = .returned (.tuple #[v', .bool (puzzleOk R C)]) ∧ Own 22 (Own 41 (Own 3 IntV)) (Iv w.heap.size w'.heap.size) w' v' (solutions R C) ∧ Below w.heap.size w w' := by
  have H1 := Lib.hid h1
  have H2 := Lib.hid h2
  obtain ⟨aa, ca, rfl, -⟩ := id h1
  obtain ⟨ab, cb, rfl, -⟩ := id h2
  obtain ⟨W1, hW1⟩ : ∃ W1, W1 = w.alloc (.cells #[.slice aa R.length ca, .slice ab C.length cb] 28) := ⟨_, rfl⟩
  have bW1 : Below w.heap.size w W1 := by rw [hW1]; exact Below.pureAlloc _ _
  have zW1 : W1.heap.size = w.heap.size + 1 := by rw [hW1]; simp
  have kB : Blk W1 w.heap.size #[.slice aa R.length ca, .slice ab C.length cb] 28 := by rw [hW1]; exact Blk.new _ _ _
  have c0 : W1.cell? ⟨w.heap.size, 0, none⟩ = some (.slice aa R.length ca) := kB.cell 0
  have c1 : W1.cell? ⟨w.heap.size, 1, none⟩ = some (.slice ab C.length cb) := kB.cell 1
  have G1 := Lib.hid (h1.keep bW1)
  have G2 := Lib.hid (h2.keep bW1)
  have HbW1 := Lib.hid bW1
  have HkB := Lib.hid kB
  have HzW1 := Lib.hid zW1
  clear h1 h2 bW1 zW1 kB
  cases hok : puzzleOk R C
  · have Hr := Lib.hid (solutions_no hok)
    have Hok := Lib.hid hok
    clear hok
    go_enter Try.func20, Try.ntmps20
    subst hW1
    go_wp2_with (fail)
    refine (PuzzleOk_s _ _ _ _ _ G1.out G2.out).mono ?_
    rintro e w2 ⟨rfl, hw2⟩
    have b2 := HbW1.out.trans_pure (show Below _ _ w2 from by rw [hw2]; exact Below.pureAlloc _ _) (Nat.le_refl _)
    rw [Hok.out]
    clear hw2 c0 c1
    go_wp2
    go_ret2
    exact ⟨_, rfl, by rw [Hr.out]; exact Own.nil _ _ _ _, b2⟩
  obtain ⟨hr1, hr5, hc1, hc5⟩ := puzzleOk_bd hok
  have Hr := Lib.hid (solutions_yes hok)
  have Hok := Lib.hid hok
  clear hok
  go_enter Try.func20, Try.ntmps20
  subst hW1
  go_wp2_with (fail)
  refine (PuzzleOk_s _ _ _ _ _ G1.out G2.out).mono ?_
  rintro e w2 ⟨rfl, hw2⟩
  have b2 : Below (w.alloc (.cells #[.slice aa R.length ca, .slice ab C.length cb] 28)).heap.size (w.alloc (.cells #[.slice aa R.length ca, .slice ab C.length cb] 28)) w2 := by rw [hw2]; exact Below.pureAlloc _ _
  rw [Hok.out]
  clear hw2 c0 c1
  have HbW2 := Lib.hid (HbW1.out.trans_pure b2 (Nat.le_refl _))
  have HkB2 := Lib.hid (HkB.out.keep b2)
  have d0 : w2.cell? ⟨w.heap.size, 0, none⟩ = some (.slice aa R.length ca) := HkB2.out.cell 0
  have d1 : w2.cell? ⟨w.heap.size, 1, none⟩ = some (.slice ab C.length cb) := HkB2.out.cell 1
  have hlow : w.heap.size ≤ w2.heap.size := HbW2.out.size
  have hp6 := pow6_le hr5
  have Hcall := Lib.hid (l14All_c (n0 := w.heap.size) hr5 hc1 hc5 R.length (.slice aa R.length ca) (.slice ab C.length cb) (.slice none 0 0) (.slice none 0 0) [] (fun _ => False) [] w2
    ((rSl (rSl rIntV)).same (sameOn_below HbW2.out fun _ h => h) H1.out) ((rSl (rSl rIntV)).same (sameOn_below HbW2.out fun _ h => h) H2.out) hlow (fun _ h => h.elim) (Own.nil _ _ _ _)
    ⟨none, 0, rfl, by simp, by simp, fun _ => rfl, fun h => by simp at h⟩ (fun row hr => by cases hr) (by simp) (by simp; omega))
  clear b2 hp6
  go_wp2_with (fail)
  refine (Hcall.out).mono ?_
  rintro e w3 ⟨v3, S3, rfl, o3, h3, O3⟩
  obtain ⟨t1, t2, t3, rfl⟩ := o3.shape
  have Ho3 := Lib.hid o3
  have Hh3 := Lib.hid h3
  have HO3 := Lib.hid O3
  clear o3 h3 O3 d0 d1
  go_wp2
  go_ret2
  refine ⟨_, rfl, ?_, HbW2.out.trans_pure (HO3.out.below (Nat.le_refl _) fun _ h => h.elim) (Nat.le_refl _)⟩
  rw [Hr.out]
  have h := Ho3.out
  rw [List.nil_append] at h
  exact (rOwn (rOwn (rOwn rIntV))).mono (fun b hb => ⟨by have := (Hh3.out b hb).1; simp at this; omega, (Hh3.out b hb).2⟩) h
end Go.Proofs.Ytekgnpdchpdfiaa

/- The search in breadth for lists of switches: it finds the least one. Plain. The least list of switches from one image to another: it is what the search finds, and what a descent by the distances finds. Plain. The list of switches, as the loops build it. Plain. When a cell is the same in all images with the same sums: no cycle through it. Plain. Revealed cells: which are enough, the next one, the least list. Plain. Sets of cells as numbers (plain): members, the least list that meets all sets. -/
import Derived.Test.YtlmjpmdkifoekaaDoorAll2
namespace Go.Proofs.YtlmjpmdkifoekaaDoor

/-! ### the order of lists of switches -/
def Sw.code (s : Sw) : Nat := s.y1 * 512 + s.y2 * 64 + s.x1 * 8 + s.x2
def lexLt : List Sw → List Sw → Prop
  | s :: p, t :: q => Sw.code s < Sw.code t ∨ (s = t ∧ lexLt p q)
  | _, _ => False
def slt (p q : List Sw) : Prop := p.length < q.length ∨ (p.length = q.length ∧ lexLt p q)
def sle (p q : List Sw) : Prop := p = q ∨ slt p q
theorem lexLt_irrefl : ∀ p, ¬ lexLt p p
  | [], h => h
  | s :: p, h => h.elim (fun h => by omega) fun h => lexLt_irrefl p h.2
theorem lexLt_trans : ∀ {p q r}, lexLt p q → lexLt q r → lexLt p r
  | [], _, _, h, _ => h.elim
  | _ :: _, [], _, h, _ => h.elim
  | _ :: _, _ :: _, [], _, h => h.elim
  | s :: p, t :: q, u :: r, h1, h2 => by
    rcases h1 with h1 | ⟨rfl, h1⟩
    · rcases h2 with h2 | ⟨rfl, -⟩
      · exact .inl (by omega)
      · exact .inl h1
    · rcases h2 with h2 | ⟨rfl, h2⟩
      · exact .inl h2
      · exact .inr ⟨rfl, lexLt_trans h1 h2⟩
theorem slt_irrefl (p : List Sw) : ¬ slt p p := fun h => h.elim (fun h => by omega) fun h => lexLt_irrefl p h.2
theorem slt_trans {p q r : List Sw} (h1 : slt p q) (h2 : slt q r) : slt p r := by
  rcases h1 with h1 | ⟨e1, h1⟩ <;> rcases h2 with h2 | ⟨e2, h2⟩
  · exact .inl (by omega)
  · exact .inl (by omega)
  · exact .inl (by omega)
  · exact .inr ⟨by omega, lexLt_trans h1 h2⟩
theorem sle_trans {p q r : List Sw} (h1 : sle p q) (h2 : sle q r) : sle p r := by
  rcases h1 with rfl | h1
  · exact h2
  · rcases h2 with rfl | h2
    · exact .inr h1
    · exact .inr (slt_trans h1 h2)
theorem sle_antisymm {p q : List Sw} (h1 : sle p q) (h2 : sle q p) : p = q := by
  rcases h1 with h1 | h1
  · exact h1
  · rcases h2 with h2 | h2
    · exact h2.symm
    · exact (slt_irrefl p (slt_trans h1 h2)).elim
theorem lexLt_snoc : ∀ {p q : List Sw} (s t : Sw), lexLt p q → lexLt (p ++ [s]) (q ++ [t])
  | [], _, _, _, h => h.elim
  | _ :: _, [], _, _, h => h.elim
  | _ :: _, _ :: _, s, t, h => h.elim (fun h => .inl h) fun h => .inr ⟨h.1, lexLt_snoc s t h.2⟩
theorem slt_snoc {p q : List Sw} (s t : Sw) (h : slt p q) : slt (p ++ [s]) (q ++ [t]) := by
  rcases h with h | ⟨e, h⟩
  · exact .inl (by simp; omega)
  · exact .inr ⟨by simp [e], lexLt_snoc s t h⟩
theorem lexLt_last (p : List Sw) (s t : Sw) (h : Sw.code s < Sw.code t) : lexLt (p ++ [s]) (p ++ [t]) := by
  induction p with
  | nil =>
    rw [List.nil_append, List.nil_append, lexLt]
    exact Or.inl h
  | cons a p ih =>
    rw [List.cons_append, List.cons_append, lexLt]
    exact Or.inr ⟨rfl, ih⟩
theorem slt_last (p : List Sw) {s t : Sw} (h : Sw.code s < Sw.code t) : slt (p ++ [s]) (p ++ [t]) := .inr ⟨by simp, lexLt_last p s t h⟩
theorem sle_snoc {p q : List Sw} (s : Sw) (h : sle p q) : sle (p ++ [s]) (q ++ [s]) := by
  rcases h with rfl | h
  · exact .inl rfl
  · exact .inr (slt_snoc s s h)
theorem slt_nil (p : List Sw) (s : Sw) : slt [] (p ++ [s]) := .inl (by simp)

/-! ### paths -/
def IsPath (r c : Nat) : List (List Int) → List Sw → List (List Int) → Prop
  | g, [], h => g = h
  | g, s :: p, h => SwOk r c g s ∧ IsPath r c (applyS g s) p h
theorem isPath_snoc {r c : Nat} : ∀ {p : List Sw} {g h : List (List Int)} {s : Sw}, IsPath r c g (p ++ [s]) h ↔ ∃ x, IsPath r c g p x ∧ SwOk r c x s ∧ applyS x s = h
  | [], g, h, s => by
    simp only [List.nil_append, IsPath]
    exact ⟨fun ⟨a, b⟩ => ⟨g, rfl, a, b⟩, fun ⟨x, e, a, b⟩ => by subst e; exact ⟨a, b⟩⟩
  | t :: p, g, h, s => by
    simp only [List.cons_append, IsPath]
    constructor
    · rintro ⟨a, b⟩
      obtain ⟨x, h1, h2⟩ := isPath_snoc.1 b
      exact ⟨x, ⟨a, h1⟩, h2⟩
    · rintro ⟨x, ⟨a, h1⟩, h2⟩
      exact ⟨a, isPath_snoc.2 ⟨x, h1, h2⟩⟩
theorem IsPath.shape {r c : Nat} : ∀ {p : List Sw} {g h : List (List Int)}, IsPath r c g p h → Shape r c g → Shape r c h
  | [], _, _, h, hs => by cases h; exact hs
  | _ :: _, _, _, h, hs => h.2.shape (applyS_shape hs h.1)
theorem IsPath.sums {xs ys : List Int} {r c : Nat} : ∀ {p : List Sw} {g h : List (List Int)}, IsPath r c g p h → Sums xs ys r c g → Sums xs ys r c h
  | [], _, _, h, hs => by cases h; exact hs
  | _ :: _, _, _, h, hs => h.2.sums (applyS_sums hs h.1)
theorem IsPath.rev {r c : Nat} : ∀ {p : List Sw} {g h : List (List Int)}, IsPath r c g p h → Shape r c g → IsPath r c h p.reverse g
  | [], _, _, h, _ => h.symm
  | s :: p, g, h, hp, hs => by
    have h1 := hp.2.rev (applyS_shape hs hp.1)
    rw [List.reverse_cons]
    exact isPath_snoc.2 ⟨_, h1, applyS_ok hs hp.1, applyS_twice hs hp.1⟩
theorem Join.path {r c : Nat} {g h : List (List Int)} (hj : Join r c g h) : ∃ p, IsPath r c g p h := by
  induction hj with
  | refl => exact ⟨[], rfl⟩
  | @step b s _ hs ih =>
    obtain ⟨p, hp⟩ := ih
    exact ⟨p ++ [s], isPath_snoc.2 ⟨_, hp, hs, rfl⟩⟩

/-! ### all switches of an image, in order -/
def allSw (r c : Nat) : List Sw := (List.range r).flatMap fun a => (List.range r).flatMap fun b => if a < b then (List.range c).flatMap fun x => (List.range c).flatMap fun y => if x < y then [(a, b, x, y)] else [] else []
def switchesOf (r c : Nat) (g : List (List Int)) : List Sw := (allSw r c).filter fun s => decide (SwOk r c g s)
theorem allSw_mem {r c : Nat} {s : Sw} : s ∈ allSw r c ↔ s.y1 < s.y2 ∧ s.y2 < r ∧ s.x1 < s.x2 ∧ s.x2 < c := by
  obtain ⟨a, b, x, y⟩ := s
  show _ ↔ a < b ∧ b < r ∧ x < y ∧ y < c
  unfold allSw
  simp only [List.mem_flatMap, List.mem_range]
  constructor
  · rintro ⟨a', ha, b', hb, h⟩
    split at h
    · rename_i hab
      simp only [List.mem_flatMap, List.mem_range] at h
      obtain ⟨x', hx, y', hy, h⟩ := h
      split at h
      · rename_i hxy
        simp only [List.mem_singleton, Prod.mk.injEq] at h
        obtain ⟨rfl, rfl, rfl, rfl⟩ := h
        exact ⟨hab, hb, hxy, hy⟩
      · cases h
    · cases h
  · rintro ⟨h1, h2, h3, h4⟩
    refine ⟨a, by omega, b, h2, ?_⟩
    rw [if_pos h1]
    simp only [List.mem_flatMap, List.mem_range]
    refine ⟨x, by omega, y, h4, ?_⟩
    rw [if_pos h3]; simp
theorem switchesOf_mem {r c : Nat} {g : List (List Int)} {s : Sw} : s ∈ switchesOf r c g ↔ SwOk r c g s := by
  unfold switchesOf
  rw [List.mem_filter, allSw_mem, decide_eq_true_eq]
  exact ⟨fun h => h.2, fun h => ⟨⟨h.1, h.2.1, h.2.2.1, h.2.2.2.1⟩, h⟩⟩
theorem allSw_sorted : ∀ r, r < 6 → ∀ c, c < 6 → (allSw r c).Pairwise (fun s t => Sw.code s < Sw.code t) := by decide +kernel
theorem switchesOf_sorted {r c : Nat} (hr : r ≤ 5) (hc : c ≤ 5) (g : List (List Int)) : (switchesOf r c g).Pairwise (fun s t => Sw.code s < Sw.code t) := (allSw_sorted r (by omega) c (by omega)).filter _

/-! ### the search -/
abbrev Node := List (List Int) × List Sw
def proc1 (e : Node) (acc : List Node) (s : Sw) : List Node := if acc.any (fun x => decide (x.1 = applyS e.1 s)) then acc else acc ++ [(applyS e.1 s, e.2 ++ [s])]
def procAll (e : Node) (acc : List Node) (ss : List Sw) : List Node := ss.foldl (proc1 e) acc
structure BInv (r c : Nat) (m : List (List Int)) (j : Nat) (acc : List Node) : Prop where
  zero : acc[0]? = some (m, [])
  sorted : acc.Pairwise (fun a b => slt a.2 b.2)
  path : ∀ e ∈ acc, IsPath r c m e.2 e.1
  nodup : acc.Pairwise (fun a b => a.1 ≠ b.1)
  done : ∀ i (e : Node), i < j → acc[i]? = some e → ∀ s, SwOk r c e.1 s → ∃ e' ∈ acc, e'.1 = applyS e.1 s ∧ sle e'.2 (e.2 ++ [s])
  next : ∀ e : Node, acc[j]? = some e → ∀ x ∈ acc, ∀ s, slt x.2 (e.2 ++ [s])
  len : ∀ i (e : Node), acc[i]? = some e → e.2.length ≤ i
theorem binv_start (r c : Nat) (m : List (List Int)) : BInv r c m 0 [(m, [])] :=
  ⟨rfl, List.pairwise_singleton _ _, by simp [IsPath], List.pairwise_singleton _ _, fun i e h => by omega, fun e he x hx s => by simp at hx; subst hx; exact slt_nil _ s, fun i e h => by
    cases i with
    | zero => simp at h; subst h; simp
    | succ i => simp at h⟩
/-- in the middle of the switches of the node j: those of ss1 are done -/
structure BMid (r c : Nat) (m : List (List Int)) (j : Nat) (e0 : Node) (ss1 : List Sw) (acc : List Node) : Prop where
  zero : acc[0]? = some (m, [])
  at0 : acc[j]? = some e0
  sorted : acc.Pairwise (fun a b => slt a.2 b.2)
  path : ∀ e ∈ acc, IsPath r c m e.2 e.1
  nodup : acc.Pairwise (fun a b => a.1 ≠ b.1)
  done : ∀ i (e : Node), i < j → acc[i]? = some e → ∀ s, SwOk r c e.1 s → ∃ e' ∈ acc, e'.1 = applyS e.1 s ∧ sle e'.2 (e.2 ++ [s])
  doneJ : ∀ s ∈ ss1, ∃ e' ∈ acc, e'.1 = applyS e0.1 s ∧ sle e'.2 (e0.2 ++ [s])
  below : ∀ x ∈ acc, (∀ s, slt x.2 (e0.2 ++ [s])) ∨ ∃ s1 ∈ ss1, x.2 = e0.2 ++ [s1]
  len : ∀ i (e : Node), acc[i]? = some e → e.2.length ≤ i
theorem BInv.mid {r c : Nat} {m : List (List Int)} {j : Nat} {acc : List Node} (h : BInv r c m j acc) {e0 : Node} (he : acc[j]? = some e0) : BMid r c m j e0 [] acc :=
  ⟨h.zero, he, h.sorted, h.path, h.nodup, h.done, (fun s hs => by cases hs), fun x hx => .inl (h.next e0 he x hx), h.len⟩
theorem BMid.step {r c : Nat} {m : List (List Int)} {j : Nat} {e0 : Node} {ss1 : List Sw} {acc : List Node} (h : BMid r c m j e0 ss1 acc) {s : Sw} (hs : SwOk r c e0.1 s) (hlt : ∀ s1 ∈ ss1, Sw.code s1 < Sw.code s) : BMid r c m j e0 (ss1 ++ [s]) (proc1 e0 acc s) := by
  have hj := (List.getElem?_eq_some_iff.1 h.at0).1
  have hbel : ∀ x ∈ acc, slt x.2 (e0.2 ++ [s]) := fun x hx => by
    rcases h.below x hx with h1 | ⟨s1, h1, h2⟩
    · exact h1 s
    · rw [h2]; exact slt_last _ (hlt s1 h1)
  unfold proc1
  cases hany : acc.any (fun x => decide (x.1 = applyS e0.1 s))
  · rw [if_neg (by simp)]
    have hnew : ∀ x ∈ acc, x.1 ≠ applyS e0.1 s := fun x hx e => by
      rw [Bool.eq_false_iff] at hany
      exact hany (List.any_eq_true.2 ⟨x, hx, by simpa using e⟩)
    refine ⟨?_, ?_, ?_, ?_, ?_, ?_, ?_, ?_, ?_⟩
    · rw [List.getElem?_append_left (by omega)]; exact h.zero
    · rw [List.getElem?_append_left hj]; exact h.at0
    · rw [List.pairwise_append]
      exact ⟨h.sorted, List.pairwise_singleton _ _, fun a ha b hb => by simp at hb; subst hb; exact hbel a ha⟩
    · intro e he
      rcases List.mem_append.1 he with he | he
      · exact h.path e he
      · rw [List.mem_singleton] at he
        subst he
        exact isPath_snoc.2 ⟨e0.1, h.path e0 (List.mem_of_getElem? h.at0), hs, rfl⟩
    · rw [List.pairwise_append]
      exact ⟨h.nodup, List.pairwise_singleton _ _, fun a ha b hb => by simp at hb; subst hb; exact hnew a ha⟩
    · intro i e hi he t ht
      rw [List.getElem?_append_left (by omega)] at he
      obtain ⟨e', h1, h2⟩ := h.done i e hi he t ht
      exact ⟨e', List.mem_append_left _ h1, h2⟩
    · intro t ht
      rcases List.mem_append.1 ht with ht | ht
      · obtain ⟨e', h1, h2⟩ := h.doneJ t ht
        exact ⟨e', List.mem_append_left _ h1, h2⟩
      · rw [List.mem_singleton] at ht
        subst ht
        exact ⟨_, List.mem_append_right _ (List.mem_singleton.2 rfl), rfl, .inl rfl⟩
    · intro x hx
      rcases List.mem_append.1 hx with hx | hx
      · exact (h.below x hx).imp id fun ⟨s1, h1, h2⟩ => ⟨s1, List.mem_append_left _ h1, h2⟩
      · rw [List.mem_singleton] at hx
        subst hx
        exact .inr ⟨s, List.mem_append_right _ (List.mem_singleton.2 rfl), rfl⟩
    · intro i e he
      by_cases hi : i < acc.length
      · rw [List.getElem?_append_left hi] at he; exact h.len i e he
      · have hil := (List.getElem?_eq_some_iff.1 he).1
        rw [List.length_append, List.length_singleton] at hil
        have hi2 : i = acc.length := by omega
        subst hi2
        rw [List.getElem?_append_right (Nat.le_refl _), Nat.sub_self] at he
        simp at he
        subst he
        have := h.len j e0 h.at0
        simp
        omega
  · rw [if_pos rfl]
    obtain ⟨x, hx, hxe⟩ := List.any_eq_true.1 hany
    refine ⟨h.zero, h.at0, h.sorted, h.path, h.nodup, h.done, fun t ht => ?_, fun y hy => (h.below y hy).imp id fun ⟨s1, h1, h2⟩ => ⟨s1, List.mem_append_left _ h1, h2⟩, h.len⟩
    rcases List.mem_append.1 ht with ht | ht
    · exact h.doneJ t ht
    · rw [List.mem_singleton] at ht
      subst ht
      exact ⟨x, hx, by simpa using hxe, .inr (hbel x hx)⟩
theorem BMid.last {r c : Nat} {m : List (List Int)} {j : Nat} {e0 : Node} {acc : List Node} (h : BMid r c m j e0 (switchesOf r c e0.1) acc) : BInv r c m (j + 1) acc := by
  refine ⟨h.zero, h.sorted, h.path, h.nodup, fun i e hi he s hs => ?_, fun e he x hx s => ?_, h.len⟩
  · by_cases hij : i = j
    · subst hij
      rw [h.at0] at he
      obtain rfl := Option.some.inj he
      exact h.doneJ s (switchesOf_mem.2 hs)
    · exact h.done i e (by omega) he s hs
  · have hlt : slt e0.2 e.2 := by
      have hs := h.sorted
      rw [List.pairwise_iff_getElem] at hs
      obtain ⟨h1, e1⟩ := List.getElem?_eq_some_iff.1 h.at0
      obtain ⟨h2, e2⟩ := List.getElem?_eq_some_iff.1 he
      have := hs j (j + 1) h1 h2 (by omega)
      rwa [e1, e2] at this
    rcases h.below x hx with h1 | ⟨s1, -, h2⟩
    · exact slt_trans (h1 s) (slt_snoc s s hlt)
    · rw [h2]; exact slt_snoc s1 s hlt
/-- a search that has come to its end -/
theorem BInv.min {r c : Nat} {m : List (List Int)} {j : Nat} {acc : List Node} (h : BInv r c m j acc) (hj : acc.length ≤ j) : ∀ (n : Nat) (q : List Sw) (y : List (List Int)), q.length = n → IsPath r c m q y → ∃ e ∈ acc, e.1 = y ∧ sle e.2 q := by
  intro n
  induction n with
  | zero =>
    intro q y hq hp
    have : q = [] := List.eq_nil_of_length_eq_zero hq
    subst this
    exact ⟨(m, []), List.mem_of_getElem? h.zero, hp, .inl rfl⟩
  | succ n ih =>
    intro q y hq hp
    have hne : q ≠ [] := by intro e; rw [e] at hq; simp at hq
    have e := List.dropLast_concat_getLast hne
    rw [← e] at hp
    obtain ⟨x, h1, h2, h3⟩ := isPath_snoc.1 hp
    obtain ⟨e1, m1, m2, m3⟩ := ih q.dropLast x (by rw [List.length_dropLast]; omega) h1
    obtain ⟨i, hi⟩ := List.getElem?_of_mem m1
    have hil := (List.getElem?_eq_some_iff.1 hi).1
    rw [← m2] at h2 h3
    obtain ⟨e', k1, k2, k3⟩ := h.done i e1 (by omega) hi _ h2
    refine ⟨e', k1, k2.trans h3, ?_⟩
    rw [← e]
    exact sle_trans k3 (sle_snoc _ m3)
end Go.Proofs.YtlmjpmdkifoekaaDoor

namespace Go.Proofs.YtlmjpmdkifoekaaDoor

/-- the least list of switches from g to t -/
def Least (r c : Nat) (g t : List (List Int)) (W : List Sw) : Prop := IsPath r c g W t ∧ ∀ q, IsPath r c g q t → sle W q
theorem Least.eq {r c : Nat} {g t : List (List Int)} {W V : List Sw} (h1 : Least r c g t W) (h2 : Least r c g t V) : W = V := sle_antisymm (h1.2 V h2.1) (h2.2 W h1.1)
theorem sle_len {p q : List Sw} (h : sle p q) : p.length ≤ q.length := by
  rcases h with rfl | h | ⟨h, -⟩
  · exact Nat.le_refl _
  · omega
  · omega
/-- at the end of a search the first entry of an image bears the least list -/
theorem BInv.least {r c : Nat} {m : List (List Int)} {j : Nat} {acc : List Node} (h : BInv r c m j acc) (hj : acc.length ≤ j) {e : Node} (he : e ∈ acc) : Least r c m e.1 e.2 := by
  refine ⟨h.path e he, fun q hq => ?_⟩
  obtain ⟨e', h1, h2, h3⟩ := h.min hj _ q e.1 rfl hq
  have : e' = e := by
    have hn := h.nodup
    rw [List.pairwise_iff_getElem] at hn
    obtain ⟨i, hi, rfl⟩ := List.getElem_of_mem he
    obtain ⟨k, hk, rfl⟩ := List.getElem_of_mem h1
    by_cases e : i = k
    · subst e; rfl
    · rcases Nat.lt_or_gt_of_ne e with h | h
      · exact absurd h2.symm (hn i k hi hk h)
      · exact absurd h2 (hn k i hk hi h)
  rw [← this]; exact h3
/-- how far an image is -/
def Far (r c : Nat) (t g : List (List Int)) (n : Nat) : Prop := (∃ p, IsPath r c t p g ∧ p.length = n) ∧ ∀ q, IsPath r c t q g → n ≤ q.length
theorem Far.eq {r c : Nat} {t g : List (List Int)} {n k : Nat} (h1 : Far r c t g n) (h2 : Far r c t g k) : n = k := by
  obtain ⟨p, hp, rfl⟩ := h1.1
  obtain ⟨q, hq, rfl⟩ := h2.1
  have := h1.2 q hq
  have := h2.2 p hp
  omega
theorem Least.far {r c : Nat} {t g : List (List Int)} {W : List Sw} (h : Least r c t g W) : Far r c t g W.length := ⟨⟨W, h.1, rfl⟩, fun q hq => sle_len (h.2 q hq)⟩
theorem far_step {r c : Nat} {t g : List (List Int)} {n k : Nat} {s : Sw} (hg : Shape r c g) (h1 : Far r c t g n) (hs : SwOk r c g s) (h2 : Far r c t (applyS g s) k) : n ≤ k + 1 ∧ k ≤ n + 1 := by
  obtain ⟨p, hp, rfl⟩ := h1.1
  obtain ⟨q, hq, rfl⟩ := h2.1
  have a := h2.2 (p ++ [s]) (isPath_snoc.2 ⟨g, hp, hs, rfl⟩)
  have b := h1.2 (q ++ [s]) (isPath_snoc.2 ⟨_, hq, applyS_ok hg hs, applyS_twice hg hs⟩)
  simp at a b
  omega
theorem far_zero {r c : Nat} {t g : List (List Int)} (h : Far r c t g 0) : t = g := by
  obtain ⟨p, hp, hl⟩ := h.1
  have : p = [] := List.eq_nil_of_length_eq_zero hl
  subst this
  exact hp
theorem far_self (r c : Nat) (t : List (List Int)) : Far r c t t 0 := ⟨⟨[], rfl, rfl⟩, fun _ _ => Nat.zero_le _⟩
/-- an image that is not the target: a switch leads nearer -/
theorem far_down {r c : Nat} {t g : List (List Int)} {n : Nat} (ht : Shape r c t) (h : Far r c t g (n + 1)) : ∃ s, SwOk r c g s ∧ ∃ p, IsPath r c t p (applyS g s) ∧ p.length = n := by
  obtain ⟨p, hp, hl⟩ := h.1
  have hne : p ≠ [] := by intro e; rw [e] at hl; simp at hl
  have e := List.dropLast_concat_getLast hne
  rw [← e] at hp
  obtain ⟨x, h1, h2, h3⟩ := isPath_snoc.1 hp
  have hx := h1.shape ht
  refine ⟨p.getLast hne, ?_, p.dropLast, ?_, by rw [List.length_dropLast]; omega⟩
  · rw [← h3]; exact applyS_ok hx h2
  · rw [← h3, applyS_twice hx h2]; exact h1
theorem code_inj {r c : Nat} (hr : r ≤ 5) (hc : c ≤ 5) {g : List (List Int)} {s t : Sw} (hs : SwOk r c g s) (ht : SwOk r c g t) (h : Sw.code s = Sw.code t) : s = t := by
  obtain ⟨a, b, x, y⟩ := s
  obtain ⟨a', b', x', y'⟩ := t
  obtain ⟨h1, h2, h3, h4, -⟩ := hs
  obtain ⟨k1, k2, k3, k4, -⟩ := ht
  unfold Sw.code at h
  simp only [Sw.y1, Sw.y2, Sw.x1, Sw.x2] at *
  have e1 : a = a' := by omega
  have e2 : b = b' := by omega
  have e3 : x = x' := by omega
  have e4 : y = y' := by omega
  rw [e1, e2, e3, e4]
/-- a descent: at each image the first switch that leads nearer -/
inductive Down (r c : Nat) (t : List (List Int)) : List (List Int) → List Sw → Prop
  | done : Down r c t t []
  | step {g : List (List Int)} {n : Nat} {s : Sw} {p : List Sw} : Far r c t g (n + 1) → SwOk r c g s → Far r c t (applyS g s) n → (∀ s', SwOk r c g s' → Sw.code s' < Sw.code s → ∀ k, Far r c t (applyS g s') k → n + 1 ≤ k) → Down r c t (applyS g s) p → Down r c t g (s :: p)
theorem Down.far {r c : Nat} {t g : List (List Int)} {p : List Sw} (h : Down r c t g p) : Far r c t g p.length := by
  induction h with
  | done => exact far_self r c t
  | step h1 _ h2 _ _ ih =>
    have := h2.eq ih
    rw [List.length_cons, ← this]; exact h1
theorem Down.path {r c : Nat} {t g : List (List Int)} {p : List Sw} (h : Down r c t g p) : IsPath r c g p t := by
  induction h with
  | done => exact rfl
  | step _ hs _ _ _ ih => exact ⟨hs, ih⟩
theorem Down.least {r c : Nat} (hr : r ≤ 5) (hc : c ≤ 5) {t g : List (List Int)} {p : List Sw} (hg : Shape r c g) (_ : Shape r c t) (hconn : ∀ h, Shape r c h → (∃ q, IsPath r c h q t) → ∃ k, Far r c t h k) (h : Down r c t g p) : Least r c g t p := by
  refine ⟨h.path, ?_⟩
  induction h with
  | done =>
    intro q hq
    cases q with
    | nil => exact .inl rfl
    | cons s q => exact .inr (.inl (by simp))
  | @step g n s p h1 hs h2 hmin hd ih =>
    intro q hq
    have hl : n + 1 ≤ q.length := by
      have := h1.2 q.reverse (hq.rev hg)
      simpa using this
    have hpl : (s :: p).length = n + 1 := by
      have := (Down.step h1 hs h2 hmin hd).far.eq h1
      exact this
    by_cases hq1 : q.length = n + 1
    · cases q with
      | nil => simp at hq1
      | cons s' q =>
        have hq2 : q.length = n := by simpa using hq1
        have hg' := applyS_shape hg hq.1
        obtain ⟨k, hk⟩ := hconn _ hg' ⟨q, hq.2⟩
        have hkn : k ≤ n := by
          have := hk.2 q.reverse (hq.2.rev hg')
          simp at this; omega
        have hcode : ¬ Sw.code s' < Sw.code s := fun hlt => by
          have := hmin s' hq.1 hlt k hk; omega
        by_cases he : Sw.code s' = Sw.code s
        · have es := code_inj hr hc hq.1 hs he
          subst es
          rcases ih (applyS_shape hg hs) q hq.2 with e | e | ⟨e1, e2⟩
          · rw [e]; exact .inl rfl
          · exact .inr (.inl (by simpa using e))
          · exact .inr (.inr ⟨by simp [e1], .inr ⟨rfl, e2⟩⟩)
        · exact .inr (.inr ⟨by rw [hpl, hq1], .inl (by omega)⟩)
    · exact .inr (.inl (by rw [hpl]; omega))
/-- the nodes of a search are images with the same sums, each once: there are no more than the images -/
theorem BInv.bound {xs ys : List Int} {m : List (List Int)} {j : Nat} {acc : List Node} (hok : sumsOk xs ys = true) (hm : Sums xs ys xs.length ys.length m) (h : BInv xs.length ys.length m j acc) : acc.length ≤ (allImgs xs ys).length :=
  nodup_len (fun e : Node => e.1) acc (allImgs xs ys) h.nodup fun e he => (allImgs_mem hok e.1).2 ((h.path e he).sums hm)
theorem BMid.bound {xs ys : List Int} {m : List (List Int)} {j : Nat} {e0 : Node} {ss : List Sw} {acc : List Node} (hok : sumsOk xs ys = true) (hm : Sums xs ys xs.length ys.length m) (h : BMid xs.length ys.length m j e0 ss acc) : acc.length ≤ (allImgs xs ys).length :=
  nodup_len (fun e : Node => e.1) acc (allImgs xs ys) h.nodup fun e he => (allImgs_mem hok e.1).2 ((h.path e he).sums hm)
/-- every image with the same sums is found -/
theorem BInv.found {xs ys : List Int} {r c : Nat} {m g : List (List Int)} {j : Nat} {acc : List Node} (h : BInv r c m j acc) (hj : acc.length ≤ j) (hm : Sums xs ys r c m) (hg : Sums xs ys r c g) : ∃ e ∈ acc, e.1 = g := by
  obtain ⟨p, hp⟩ := (ryser_join hm hg).path
  obtain ⟨e, h1, h2, -⟩ := h.min hj _ p g rfl hp
  exact ⟨e, h1, h2⟩
end Go.Proofs.YtlmjpmdkifoekaaDoor

namespace Go.Proofs.YtlmjpmdkifoekaaDoor

def sw4 (r c : Nat) (m : List (List Int)) (a b x y : Nat) : List Sw := ((List.range y).map fun y' => ((a, b, x, y') : Sw)).filter fun s => decide (SwOk r c m s)
def sw3 (r c : Nat) (m : List (List Int)) (a b x : Nat) : List Sw := (List.range x).flatMap fun x' => sw4 r c m a b x' c
def sw2 (r c : Nat) (m : List (List Int)) (a b : Nat) : List Sw := (List.range b).flatMap fun b' => sw3 r c m a b' c
def sw1 (r c : Nat) (m : List (List Int)) (a : Nat) : List Sw := (List.range a).flatMap fun a' => sw2 r c m a' r
theorem sw4_succ {r c : Nat} {m : List (List Int)} {a b x y : Nat} : sw4 r c m a b x (y + 1) = sw4 r c m a b x y ++ (if SwOk r c m (a, b, x, y) then [(a, b, x, y)] else []) := by
  unfold sw4
  rw [List.range_succ, List.map_append, List.filter_append]
  by_cases h : SwOk r c m (a, b, x, y) <;> simp [h]
theorem sw4_zero {r c : Nat} {m : List (List Int)} {a b x : Nat} : sw4 r c m a b x (x + 1) = [] := by
  unfold sw4
  rw [List.filter_eq_nil_iff]
  intro s hs
  obtain ⟨y, hy, rfl⟩ := List.mem_map.1 hs
  rw [List.mem_range] at hy
  rw [decide_eq_true_eq]
  intro h
  have h3 : x < y := h.2.2.1
  omega
theorem sw3_zero {r c : Nat} {m : List (List Int)} {a b : Nat} : sw3 r c m a b 0 = [] := rfl
theorem sw3_succ {r c : Nat} {m : List (List Int)} {a b x : Nat} : sw3 r c m a b (x + 1) = sw3 r c m a b x ++ sw4 r c m a b x c := by
  unfold sw3
  rw [List.range_succ, List.flatMap_append]; simp
theorem sw3_bad {r c : Nat} {m : List (List Int)} {a b : Nat} (h : b ≤ a) (x : Nat) : sw3 r c m a b x = [] := by
  unfold sw3
  rw [List.flatMap_eq_nil_iff]
  intro x' _
  unfold sw4
  rw [List.filter_eq_nil_iff]
  intro s hs
  obtain ⟨y, hy, rfl⟩ := List.mem_map.1 hs
  rw [decide_eq_true_eq]
  intro hk
  have h1 : a < b := hk.1
  omega
theorem sw2_zero {r c : Nat} {m : List (List Int)} {a : Nat} : sw2 r c m a (a + 1) = [] := by
  unfold sw2
  rw [List.flatMap_eq_nil_iff]
  intro b hb
  rw [List.mem_range] at hb
  exact sw3_bad (by omega) _
theorem sw2_succ {r c : Nat} {m : List (List Int)} {a b : Nat} : sw2 r c m a (b + 1) = sw2 r c m a b ++ sw3 r c m a b c := by
  unfold sw2
  rw [List.range_succ, List.flatMap_append]; simp
theorem sw1_zero {r c : Nat} {m : List (List Int)} : sw1 r c m 0 = [] := rfl
theorem sw1_succ {r c : Nat} {m : List (List Int)} {a : Nat} : sw1 r c m (a + 1) = sw1 r c m a ++ sw2 r c m a r := by
  unfold sw1
  rw [List.range_succ, List.flatMap_append]; simp
theorem filter_flat {α β : Type} (p : β → Bool) (f : α → List β) : ∀ l : List α, (l.flatMap f).filter p = l.flatMap fun x => (f x).filter p
  | [] => rfl
  | a :: l => by rw [List.flatMap_cons, List.flatMap_cons, List.filter_append, filter_flat p f l]
theorem flat_congr {α β : Type} {f g : α → List β} : ∀ {l : List α}, (∀ x ∈ l, f x = g x) → l.flatMap f = l.flatMap g
  | [], _ => rfl
  | a :: l, h => by rw [List.flatMap_cons, List.flatMap_cons, h a (by simp), flat_congr fun x hx => h x (by simp [hx])]
theorem sw1_all (r c : Nat) (m : List (List Int)) : sw1 r c m r = switchesOf r c m := by
  unfold switchesOf allSw sw1
  rw [filter_flat]
  refine flat_congr fun a _ => ?_
  unfold sw2
  rw [filter_flat]
  refine flat_congr fun b _ => ?_
  by_cases hab : a < b
  · rw [if_pos hab, filter_flat]
    unfold sw3
    refine flat_congr fun x _ => ?_
    unfold sw4
    rw [filter_flat]
    induction List.range c with
    | nil => rfl
    | cons y l ih =>
      rw [List.map_cons, List.flatMap_cons, List.filter_cons, ih]
      by_cases hxy : x < y
      · rw [if_pos hxy]
        by_cases h : SwOk r c m (a, b, x, y) <;> simp [h]
      · rw [if_neg hxy]
        have h : ¬ SwOk r c m (a, b, x, y) := fun h => hxy h.2.2.1
        simp [h]
  · rw [if_neg hab, sw3_bad (by omega)]
    rfl
end Go.Proofs.YtlmjpmdkifoekaaDoor

namespace Go.Proofs.YtlmjpmdkifoekaaDoor

theorem need_eq {r c : Nat} {R C : Nat → Int} {l u x : Nat → Nat → Int} (hR : ∀ i, i < r → rs c (fun j => x i j) = R i) (hC : ∀ j, j < c → rs r (fun i => x i j) = C j) (A B : Nat → Bool) :
    need r c R C l u A B = rs r (fun i => rs c (fun j => gc (A i) (B j) (l i j) (u i j) + (if A i then x i j else 0) - (if B j then x i j else 0))) := by
  unfold need
  have e1 : rs r (fun i => if A i then R i else 0) = rs r (fun i => rs c (fun j => if A i then x i j else 0)) := rs_congr fun i hi => by
    cases A i
    · simp [rs_zero]
    · simp [hR i hi]
  have e2 : rs c (fun j => if B j then C j else 0) = rs r (fun i => rs c (fun j => if B j then x i j else 0)) := by
    rw [rs_comm]
    exact rs_congr fun j hj => by
      cases B j
      · simp [rs_zero]
      · simp [hC j hj]
  rw [e1, e2]
  have e3 : rs r (fun i => rs c (fun j => gc (A i) (B j) (l i j) (u i j) + (if A i then x i j else 0) - (if B j then x i j else 0))) =
      rs r (fun i => rs c (fun j => gc (A i) (B j) (l i j) (u i j)) + rs c (fun j => if A i then x i j else 0) - rs c (fun j => if B j then x i j else 0)) := rs_congr fun i _ => by
    rw [rs_sub, rs_add]
  rw [e3, rs_sub, rs_add]
  omega
theorem rs_nonpos_zero {n : Nat} {f : Nat → Int} (h : ∀ i, i < n → f i ≤ 0) (hz : 0 ≤ rs n f) : ∀ i, i < n → f i = 0 := by
  intro i hi
  have h1 := rs_le1 hi (f := fun i => 0 - f i) (fun k hk => by have := h k hk; omega)
  rw [rs_sub, rs_zero] at h1
  have := h i hi
  omega
/-- an edge: from a row to the columns of its black cells, from a column to the rows of its white cells -/
def Edge (r : Nat) (g : List (List Int)) (v w : Nat) : Prop := (v < r ∧ r ≤ w ∧ at2 g v (w - r) = 1) ∨ (r ≤ v ∧ w < r ∧ at2 g w (v - r) = 0)
instance (r : Nat) (g : List (List Int)) (v w : Nat) : Decidable (Edge r g v w) := by unfold Edge; infer_instance
inductive Reach (r c : Nat) (g : List (List Int)) (a : Nat) : Nat → Prop
  | refl : Reach r c g a a
  | step {v w : Nat} : Reach r c g a v → Edge r g v w → w < r + c → Reach r c g a w
theorem Reach.lt {r c a v : Nat} {g : List (List Int)} (h : Reach r c g a v) (ha : a < r + c) : v < r + c := by
  cases h with
  | refl => exact ha
  | step _ _ hw => exact hw
/-- what is closed under edges holds what is reached -/
theorem Reach.closed {r c a v : Nat} {g : List (List Int)} {S : Nat → Prop} (ha : S a) (hal : a < r + c) (hS : ∀ v w, v < r + c → w < r + c → S v → Edge r g v w → S w) (h : Reach r c g a v) : S v := by
  induction h with
  | refl => exact ha
  | step h1 he hw ih => exact hS _ _ (h1.lt hal) hw ih he
theorem tight {xs ys : List Int} {r c : Nat} {g : List (List Int)} (hg : Sums xs ys r c g) {A B : Nat → Bool} (hz : 0 ≤ need r c (fn1 xs) (fn1 ys) (fun _ _ => 0) (fun _ _ => 1) A B) :
    ∀ i j, i < r → j < c → (A i = true → B j = false → at2 g i j = 1) ∧ (A i = false → B j = true → at2 g i j = 0) := by
  obtain ⟨gs, gr, gcl⟩ := sums_iff.1 hg
  rw [need_eq (x := fun i j => at2 g i j) gr gcl] at hz
  have key : ∀ i j, gc (A i) (B j) 0 1 + (if A i then at2 g i j else 0) - (if B j then at2 g i j else 0) ≤ 0 := by
    intro i j
    have := at2_bits gs i j
    cases A i <;> cases B j <;> simp [gc] <;> omega
  have h1 := rs_nonpos_zero (fun i _ => by
    have := rs_le (n := c) (g := fun _ => 0) fun j _ => key i j
    rwa [rs_zero] at this) hz
  intro i j hi hj
  have h2 := rs_nonpos_zero (fun j _ => key i j) (by rw [h1 i hi]; exact Int.le_refl _) j hj
  refine ⟨fun ha hb => ?_, fun ha hb => ?_⟩
  · rw [ha, hb] at h2; simp [gc] at h2; omega
  · rw [ha, hb] at h2; simp [gc] at h2; omega
theorem need_setU {r c i0 j0 : Nat} (hi : i0 < r) (hj : j0 < c) (R C : Nat → Int) (l u : Nat → Nat → Int) (v : Int) (A B : Nat → Bool) :
    need r c R C l (setF u i0 j0 v) A B = need r c R C l u A B + if A i0 && !B j0 then u i0 j0 - v else 0 := by
  unfold need
  have h1 := rs_bit hi (f := fun i => rs c (fun j => gc (A i) (B j) (l i j) (setF u i0 j0 v i j))) (g := fun i => rs c (fun j => gc (A i) (B j) (l i j) (u i j))) (fun k _ hne => rs_congr fun j _ => by simp only [setF]; rw [if_neg (fun e => hne e.1)])
  have h2 := rs_bit hj (f := fun j => gc (A i0) (B j) (l i0 j) (setF u i0 j0 v i0 j)) (g := fun j => gc (A i0) (B j) (l i0 j) (u i0 j)) (fun k _ hne => by simp only [setF]; rw [if_neg (fun e => hne e.2)])
  rw [h1, h2]
  simp only [setF, and_self, if_true]
  cases A i0 <;> cases B j0 <;> simp [gc] <;> omega
theorem need_setL {r c i0 j0 : Nat} (hi : i0 < r) (hj : j0 < c) (R C : Nat → Int) (l u : Nat → Nat → Int) (v : Int) (A B : Nat → Bool) :
    need r c R C (setF l i0 j0 v) u A B = need r c R C l u A B + if B j0 && !A i0 then v - l i0 j0 else 0 := by
  unfold need
  have h1 := rs_bit hi (f := fun i => rs c (fun j => gc (A i) (B j) (setF l i0 j0 v i j) (u i j))) (g := fun i => rs c (fun j => gc (A i) (B j) (l i j) (u i j))) (fun k _ hne => rs_congr fun j _ => by simp only [setF]; rw [if_neg (fun e => hne e.1)])
  have h2 := rs_bit hj (f := fun j => gc (A i0) (B j) (setF l i0 j0 v i0 j) (u i0 j)) (g := fun j => gc (A i0) (B j) (l i0 j) (u i0 j)) (fun k _ hne => by simp only [setF]; rw [if_neg (fun e => hne e.2)])
  rw [h1, h2]
  simp only [setF, and_self, if_true]
  cases A i0 <;> cases B j0 <;> simp [gc] <;> omega
open Classical in
/-- a black cell can be white in another image exactly if its row is reached from its column -/
theorem free_black {xs ys : List Int} {g : List (List Int)} (hs : sumL xs = sumL ys) (hg : Sums xs ys xs.length ys.length g) {y x : Nat} (hy : y < xs.length) (hx : x < ys.length) (_ : at2 g y x = 1) :
    (∃ h, Sums xs ys xs.length ys.length h ∧ at2 h y x = 0) ↔ Reach xs.length ys.length g (xs.length + x) y := by
  obtain ⟨gs, gr, gcl⟩ := sums_iff.1 hg
  constructor
  · rintro ⟨h, hh, h0⟩
    apply Classical.byContradiction
    intro hn
    have hbits := at2_bits hh.1
    have h2 := flowImg_no hh (l := fun _ _ => 0) (u := setF (fun _ _ => 1) y x 0) (fun i j _ _ => by
      simp only [setF]
      split
      · rename_i e; rw [e.1, e.2, h0]; decide
      · exact hbits i j) (fun i => !(decide (Reach xs.length ys.length g (xs.length + x) i))) (fun j => !(decide (Reach xs.length ys.length g (xs.length + x) (xs.length + j))))
    rw [need_setU hy hx] at h2
    have h3 : 0 ≤ need xs.length ys.length (fn1 xs) (fn1 ys) (fun _ _ => 0) (fun _ _ => 1) (fun i => !(decide (Reach xs.length ys.length g (xs.length + x) i))) (fun j => !(decide (Reach xs.length ys.length g (xs.length + x) (xs.length + j)))) := by
      rw [need_eq (x := fun i j => at2 g i j) gr gcl]
      refine rs_nonneg fun i hi => rs_nonneg fun j hj => ?_
      have b := at2_bits gs i j
      by_cases hi2 : Reach xs.length ys.length g (xs.length + x) i
      · by_cases hj2 : Reach xs.length ys.length g (xs.length + x) (xs.length + j)
        · simp [hi2, hj2, gc]
        · have hz : at2 g i j = 0 := by
            apply Classical.byContradiction
            intro hne
            exact hj2 (hi2.step (.inl ⟨hi, Nat.le_add_right _ _, by rw [Nat.add_sub_cancel_left]; omega⟩) (by omega))
          simp [hi2, hj2, gc, hz]
      · by_cases hj2 : Reach xs.length ys.length g (xs.length + x) (xs.length + j)
        · have ho : at2 g i j = 1 := by
            apply Classical.byContradiction
            intro hne
            exact hi2 (hj2.step (.inr ⟨Nat.le_add_right _ _, hi, by rw [Nat.add_sub_cancel_left]; omega⟩) (by omega))
          simp [hi2, hj2, gc, ho]
        · simp [hi2, hj2, gc]
    rw [show (!(decide (Reach xs.length ys.length g (xs.length + x) y)) && !!(decide (Reach xs.length ys.length g (xs.length + x) (xs.length + x)))) = true from by simp [hn, Reach.refl]] at h2
    simp only [if_true] at h2
    omega
  · intro hre
    rcases flowImg hs (l := fun _ _ => 0) (u := setF (fun _ _ => 1) y x 0) (fun i j _ _ => by simp only [setF]; split <;> omega) with ⟨h, hh, hb⟩ | ⟨A, B, hn⟩
    · refine ⟨h, hh, ?_⟩
      have := hb y x hy hx
      simp only [setF, and_self, if_true] at this
      omega
    · exfalso
      rw [need_setU hy hx] at hn
      have h2 := flowImg_no hg (l := fun _ _ => 0) (u := fun _ _ => 1) (fun i j _ _ => at2_bits gs i j) A B
      cases hA : A y
      · rw [hA] at hn; simp at hn; omega
      have hB : B x = false := by
        cases hB : B x
        · rfl
        · exfalso; rw [hA, hB] at hn; simp at hn; omega
      rw [hA, hB] at hn
      simp only [Bool.not_false, Bool.and_self, if_true] at hn
      have ht := tight hg (A := A) (B := B) (by omega)
      have hc := hre.closed (S := fun v => (v < xs.length → A v = false) ∧ (xs.length ≤ v → B (v - xs.length) = false)) ⟨fun h => by omega, fun _ => by rw [Nat.add_sub_cancel_left]; exact hB⟩ (by omega) (fun v w hv hw hS he => by
        rcases he with ⟨e1, e2, e3⟩ | ⟨e1, e2, e3⟩
        · refine ⟨fun h => by omega, fun _ => ?_⟩
          cases hb : B (w - xs.length)
          · rfl
          · have := (ht v (w - xs.length) e1 (by omega)).2 (hS.1 e1) hb
            omega
        · refine ⟨fun _ => ?_, fun h => by omega⟩
          cases ha : A w
          · rfl
          · have := (ht w (v - xs.length) e2 (by omega)).1 ha (hS.2 e1)
            omega)
      rw [hc.1 hy] at hA
      cases hA
open Classical in
/-- a white cell can be black in another image exactly if its column is reached from its row -/
theorem free_white {xs ys : List Int} {g : List (List Int)} (hs : sumL xs = sumL ys) (hg : Sums xs ys xs.length ys.length g) {y x : Nat} (hy : y < xs.length) (hx : x < ys.length) (_ : at2 g y x = 0) :
    (∃ h, Sums xs ys xs.length ys.length h ∧ at2 h y x = 1) ↔ Reach xs.length ys.length g y (xs.length + x) := by
  obtain ⟨gs, gr, gcl⟩ := sums_iff.1 hg
  constructor
  · rintro ⟨h, hh, h0⟩
    apply Classical.byContradiction
    intro hn
    have hbits := at2_bits hh.1
    have h2 := flowImg_no hh (l := setF (fun _ _ => 0) y x 1) (u := fun _ _ => 1) (fun i j _ _ => by
      simp only [setF]
      split
      · rename_i e; rw [e.1, e.2, h0]; decide
      · exact hbits i j) (fun i => !(decide (Reach xs.length ys.length g y i))) (fun j => !(decide (Reach xs.length ys.length g y (xs.length + j))))
    rw [need_setL hy hx] at h2
    have h3 : 0 ≤ need xs.length ys.length (fn1 xs) (fn1 ys) (fun _ _ => 0) (fun _ _ => 1) (fun i => !(decide (Reach xs.length ys.length g y i))) (fun j => !(decide (Reach xs.length ys.length g y (xs.length + j)))) := by
      rw [need_eq (x := fun i j => at2 g i j) gr gcl]
      refine rs_nonneg fun i hi => rs_nonneg fun j hj => ?_
      have b := at2_bits gs i j
      by_cases hi2 : Reach xs.length ys.length g y i
      · by_cases hj2 : Reach xs.length ys.length g y (xs.length + j)
        · simp [hi2, hj2, gc]
        · have hz : at2 g i j = 0 := by
            apply Classical.byContradiction
            intro hne
            exact hj2 (hi2.step (.inl ⟨hi, Nat.le_add_right _ _, by rw [Nat.add_sub_cancel_left]; omega⟩) (by omega))
          simp [hi2, hj2, gc, hz]
      · by_cases hj2 : Reach xs.length ys.length g y (xs.length + j)
        · have ho : at2 g i j = 1 := by
            apply Classical.byContradiction
            intro hne
            exact hi2 (hj2.step (.inr ⟨Nat.le_add_right _ _, hi, by rw [Nat.add_sub_cancel_left]; omega⟩) (by omega))
          simp [hi2, hj2, gc, ho]
        · simp [hi2, hj2, gc]
    rw [show (!(decide (Reach xs.length ys.length g y (xs.length + x))) && !!(decide (Reach xs.length ys.length g y y))) = true from by simp [hn, Reach.refl]] at h2
    simp only [if_true] at h2
    omega
  · intro hre
    rcases flowImg hs (l := setF (fun _ _ => 0) y x 1) (u := fun _ _ => 1) (fun i j _ _ => by simp only [setF]; split <;> omega) with ⟨h, hh, hb⟩ | ⟨A, B, hn⟩
    · refine ⟨h, hh, ?_⟩
      have := hb y x hy hx
      simp only [setF, and_self, if_true] at this
      omega
    · exfalso
      rw [need_setL hy hx] at hn
      have h2 := flowImg_no hg (l := fun _ _ => 0) (u := fun _ _ => 1) (fun i j _ _ => at2_bits gs i j) A B
      cases hB : B x
      · rw [hB] at hn; simp at hn; omega
      have hA : A y = false := by
        cases hA : A y
        · rfl
        · exfalso; rw [hA, hB] at hn; simp at hn; omega
      rw [hA, hB] at hn
      simp only [Bool.not_false, Bool.and_self, if_true] at hn
      have ht := tight hg (A := A) (B := B) (by omega)
      have hc := hre.closed (S := fun v => (v < xs.length → A v = false) ∧ (xs.length ≤ v → B (v - xs.length) = false)) ⟨fun _ => hA, fun h => by omega⟩ (by omega) (fun v w hv hw hS he => by
        rcases he with ⟨e1, e2, e3⟩ | ⟨e1, e2, e3⟩
        · refine ⟨fun h => by omega, fun _ => ?_⟩
          cases hb : B (w - xs.length)
          · rfl
          · have := (ht v (w - xs.length) e1 (by omega)).2 (hS.1 e1) hb
            omega
        · refine ⟨fun _ => ?_, fun h => by omega⟩
          cases ha : A w
          · rfl
          · have := (ht w (v - xs.length) e2 (by omega)).1 ha (hS.2 e1)
            omega)
      have := hc.2 (Nat.le_add_right _ _)
      rw [Nat.add_sub_cancel_left, hB] at this
      cases this
end Go.Proofs.YtlmjpmdkifoekaaDoor

namespace Go.Proofs.YtlmjpmdkifoekaaDoor

def cellN (c : Nat) (n : Int) (g : List (List Int)) : Int := at2 g (n.toNat / c) (n.toNat % c)
def agreesB (c : Nat) (m h : List (List Int)) (cells : List Int) : Bool := cells.all fun n => decide (cellN c n h = cellN c n m)
def agreeing (c : Nat) (L : List (List (List Int))) (m : List (List Int)) (cells : List Int) : List (List (List Int)) := L.filter fun h => agreesB c m h cells
def cntA (c : Nat) (L : List (List (List Int))) (m : List (List Int)) (cells : List Int) : Nat := (agreeing c L m cells).length
def Rising (N : Nat) (l : List Int) : Prop := l.Pairwise (fun a b => a < b) ∧ ∀ x ∈ l, 0 ≤ x ∧ x < N
theorem agreesB_snoc (c : Nat) (m h : List (List Int)) (cells : List Int) (n : Int) : agreesB c m h (cells ++ [n]) = (agreesB c m h cells && decide (cellN c n h = cellN c n m)) := by
  simp [agreesB]
theorem agreesB_self (c : Nat) (m : List (List Int)) (cells : List Int) : agreesB c m m cells = true := by
  unfold agreesB
  rw [List.all_eq_true]
  intro n _
  simp
theorem agreesB_mem {c : Nat} {m h : List (List Int)} {a b : List Int} (hab : ∀ x, x ∈ a ↔ x ∈ b) : agreesB c m h a = agreesB c m h b := by
  unfold agreesB
  rw [Bool.eq_iff_iff, List.all_eq_true, List.all_eq_true]
  exact ⟨fun h x hx => h x ((hab x).2 hx), fun h x hx => h x ((hab x).1 hx)⟩
theorem cntA_mem {c : Nat} {L : List (List (List Int))} {m : List (List Int)} {a b : List Int} (hab : ∀ x, x ∈ a ↔ x ∈ b) : cntA c L m a = cntA c L m b := by
  unfold cntA agreeing
  rw [show (fun h => agreesB c m h a) = fun h => agreesB c m h b from funext fun h => agreesB_mem hab]
theorem cntA_pos {c : Nat} {L : List (List (List Int))} {m : List (List Int)} (hm : m ∈ L) (cells : List Int) : 1 ≤ cntA c L m cells := by
  have : m ∈ agreeing c L m cells := List.mem_filter.2 ⟨hm, agreesB_self c m cells⟩
  exact List.length_pos_of_mem this
theorem cntA_snoc_le (c : Nat) (L : List (List (List Int))) (m : List (List Int)) (cells : List Int) (n : Int) : cntA c L m (cells ++ [n]) ≤ cntA c L m cells := by
  have e : agreeing c L m (cells ++ [n]) = (agreeing c L m cells).filter fun h => decide (cellN c n h = cellN c n m) := by
    unfold agreeing
    rw [List.filter_filter]
    congr 1
    funext h
    rw [agreesB_snoc, Bool.and_comm]
  unfold cntA
  rw [e]
  exact List.length_filter_le _ _
theorem agreeing_snoc (c : Nat) (L : List (List (List Int))) (m : List (List Int)) (cells : List Int) (n : Int) : agreeing c L m (cells ++ [n]) = (agreeing c L m cells).filter fun h => decide (cellN c n h = cellN c n m) := by
  unfold agreeing
  rw [List.filter_filter]
  congr 1
  funext h
  rw [agreesB_snoc, Bool.and_comm]
theorem filter_lt {α : Type} (p : α → Bool) {l : List α} {x : α} (hx : x ∈ l) (hp : p x = false) : (l.filter p).length < l.length := by
  apply Classical.byContradiction
  intro hn
  have h1 := List.length_filter_le p l
  have h2 : (l.filter p).length = l.length := by omega
  have h3 := List.length_filter_eq_length_iff.1 h2 x hx
  rw [hp] at h3
  cases h3
theorem cell_diff {r c : Nat} (hc : 1 ≤ c) {g h : List (List Int)} (hg : Shape r c g) (hh : Shape r c h) (hne : g ≠ h) : ∃ n : Nat, n < r * c ∧ cellN c n g ≠ cellN c n h := by
  apply Classical.byContradiction
  intro hn
  apply hne
  refine hg.ext hh fun i j hi hj => ?_
  show at2 g i j = at2 h i j
  apply Classical.byContradiction
  intro hd
  have hlt : i * c + j < r * c := by
    have : (i + 1) * c ≤ r * c := Nat.mul_le_mul_right c hi
    rw [Nat.succ_mul] at this; omega
  refine hn ⟨i * c + j, hlt, ?_⟩
  unfold cellN
  rw [Int.toNat_natCast, show (i * c + j) / c = i from by rw [Nat.mul_comm, Nat.mul_add_div (by omega), Nat.div_eq_of_lt hj, Nat.add_zero], show (i * c + j) % c = j from by rw [Nat.mul_comm, Nat.mul_add_mod, Nat.mod_eq_of_lt hj]]
  exact hd
/-- more than one image agrees: a further cell tells them apart -/
theorem cell_more {r c : Nat} (hc : 1 ≤ c) {L : List (List (List Int))} {m : List (List Int)} (hnd : L.Pairwise (fun a b => a ≠ b)) (hL : ∀ g ∈ L, Shape r c g) (hm : m ∈ L) {cells : List Int} (h : 1 < cntA c L m cells) : ∃ n : Nat, n < r * c ∧ cntA c L m (cells ++ [(n : Int)]) < cntA c L m cells := by
  have hex : ∃ g ∈ agreeing c L m cells, g ≠ m := by
    apply Classical.byContradiction
    intro hn
    have hnd2 : (agreeing c L m cells).Pairwise (fun a b => a ≠ b) := hnd.filter _
    have hall : ∀ g ∈ agreeing c L m cells, g = m := fun g hg => Classical.byContradiction fun hne => hn ⟨g, hg, hne⟩
    unfold cntA at h
    rw [List.pairwise_iff_getElem] at hnd2
    exact hnd2 0 1 (by omega) h (by omega) ((hall _ (List.getElem_mem _)).trans (hall _ (List.getElem_mem _)).symm)
  obtain ⟨g, hg, hne⟩ := hex
  have hgL := (List.mem_filter.1 hg).1
  obtain ⟨n, hn, hd⟩ := cell_diff hc (hL g hgL) (hL m hm) hne
  refine ⟨n, hn, ?_⟩
  unfold cntA
  rw [agreeing_snoc]
  exact filter_lt _ hg (by simpa using hd)
theorem cntA_in {c : Nat} {L : List (List (List Int))} {m : List (List Int)} {cells : List Int} {n : Int} (hn : n ∈ cells) : cntA c L m (cells ++ [n]) = cntA c L m cells :=
  cntA_mem fun x => by
    rw [List.mem_append, List.mem_singleton]
    exact ⟨fun h => h.elim id fun e => by rw [e]; exact hn, .inl⟩

/-- the first place of the least value -/
def argmin (f : Nat → Nat) : Nat → Nat
  | 0 => 0
  | n + 1 => if n = 0 then 0 else if f n < f (argmin f n) then n else argmin f n
theorem argmin_spec (f : Nat → Nat) : ∀ n, 1 ≤ n → argmin f n < n ∧ ∀ k, k < n → f (argmin f n) ≤ f k := by
  intro n
  induction n with
  | zero => intro h; omega
  | succ n ih =>
    intro _
    rw [argmin]
    by_cases h0 : n = 0
    · rw [if_pos h0]
      exact ⟨by omega, fun k hk => by rw [show k = 0 by omega]; exact Nat.le_refl _⟩
    · rw [if_neg h0]
      obtain ⟨h1, h2⟩ := ih (by omega)
      split
      · exact ⟨by omega, fun k hk => by
          by_cases e : k = n
          · rw [e]; exact Nat.le_refl _
          · have := h2 k (by omega); omega⟩
      · exact ⟨by omega, fun k hk => by
          by_cases e : k = n
          · rw [e]; omega
          · exact h2 k (by omega)⟩
theorem argmin_one (f : Nat → Nat) : argmin f 1 = 0 := by rw [argmin, if_pos rfl]
theorem argmin_step {f : Nat → Nat} {n : Nat} (h : 1 ≤ n) : argmin f (n + 1) = if f n < f (argmin f n) then n else argmin f n := by rw [argmin, if_neg (by omega)]

/-- a number put into a rising list -/
def insS (n : Int) : List Int → List Int
  | [] => [n]
  | x :: l => if n < x then n :: x :: l else x :: insS n l
theorem insS_perm (n : Int) : ∀ l : List Int, (insS n l).Perm (l ++ [n])
  | [] => List.Perm.refl _
  | x :: l => by
    unfold insS
    split
    · exact List.perm_append_comm (l₁ := [n]) (l₂ := x :: l)
    · exact List.Perm.cons x (insS_perm n l)
theorem insS_rising {N : Nat} {n : Int} {l : List Int} (h : Rising N l) (hn : n ∉ l) (h0 : 0 ≤ n) (h1 : n < N) : Rising N (insS n l) := by
  refine ⟨?_, fun x hx => ?_⟩
  · have hp := h.1
    clear h
    induction l with
    | nil => exact List.pairwise_singleton _ _
    | cons a l ih =>
      rw [List.pairwise_cons] at hp
      unfold insS
      split
      · rename_i hlt
        rw [List.pairwise_cons, List.pairwise_cons]
        refine ⟨fun b hb => ?_, hp⟩
        rcases List.mem_cons.1 hb with rfl | hb
        · exact hlt
        · have := hp.1 b hb; omega
      · rename_i hge
        rw [List.pairwise_cons]
        refine ⟨fun b hb => ?_, ih (fun e => hn (List.mem_cons_of_mem _ e)) hp.2⟩
        rcases List.mem_append.1 ((insS_perm n l).mem_iff.1 hb) with hb | hb
        · exact hp.1 b hb
        · rw [List.mem_singleton] at hb
          have : n ≠ a := fun e => hn (by rw [e]; simp)
          omega
  · rcases List.mem_append.1 ((insS_perm n l).mem_iff.1 hx) with hb | hb
    · exact h.2 x hb
    · rw [List.mem_singleton] at hb; omega
theorem rising_eq {a b : List Int} (hp : a.Perm b) (h1 : a.Pairwise (fun x y => x < y)) (h2 : b.Pairwise (fun x y => x < y)) : a = b :=
  sorted_eq (fun x h => by omega) (fun x y h k => by omega) h1 h2 fun _ => hp.mem_iff
def nextCell (c N : Nat) (L : List (List (List Int))) (m : List (List Int)) (cells : List Int) : Nat := argmin (fun k => cntA c L m (cells ++ [(k : Int)])) N
def greedy (c N : Nat) (L : List (List (List Int))) (m : List (List Int)) : Nat → List Int → List Int
  | 0, out => out
  | f + 1, out => if cntA c L m out ≤ 1 then out else greedy c N L m f (insS (nextCell c N L m out) out)
theorem greedy_done {c N : Nat} {L : List (List (List Int))} {m : List (List Int)} {out : List Int} (h : cntA c L m out ≤ 1) (f : Nat) : greedy c N L m f out = out := by
  cases f with
  | zero => rfl
  | succ f => rw [greedy, if_pos h]
theorem greedy_step {c N : Nat} {L : List (List (List Int))} {m : List (List Int)} {out : List Int} (h : ¬ cntA c L m out ≤ 1) (f : Nat) : greedy c N L m (f + 1) out = greedy c N L m f (insS (nextCell c N L m out) out) := by
  rw [greedy, if_neg h]
/-- the next cell of a list that is not enough -/
theorem next_spec {r c : Nat} (hr : 1 ≤ r) (hc : 1 ≤ c) {L : List (List (List Int))} {m : List (List Int)} (hnd : L.Pairwise (fun a b => a ≠ b)) (hL : ∀ g ∈ L, Shape r c g) (hm : m ∈ L) {cells : List Int} (hris : Rising (r * c) cells) (h : ¬ cntA c L m cells ≤ 1) :
    nextCell c (r * c) L m cells < r * c ∧ ((nextCell c (r * c) L m cells : Nat) : Int) ∉ cells ∧ cntA c L m (cells ++ [((nextCell c (r * c) L m cells : Nat) : Int)]) < cntA c L m cells ∧ Rising (r * c) (insS (nextCell c (r * c) L m cells) cells) ∧
    cntA c L m (insS (nextCell c (r * c) L m cells) cells) < cntA c L m cells := by
  have hN : 1 ≤ r * c := Nat.mul_pos hr hc
  obtain ⟨h1, h2⟩ := argmin_spec (fun k => cntA c L m (cells ++ [(k : Int)])) (r * c) hN
  obtain ⟨n, hn, hlt⟩ := cell_more hc hnd hL hm (by omega : 1 < cntA c L m cells)
  have h3 := h2 n hn
  have h4 : cntA c L m (cells ++ [((nextCell c (r * c) L m cells : Nat) : Int)]) < cntA c L m cells := Nat.lt_of_le_of_lt h3 hlt
  have h5 : ((nextCell c (r * c) L m cells : Nat) : Int) ∉ cells := fun e => by rw [cntA_in e] at h4; omega
  refine ⟨h1, h5, h4, insS_rising hris h5 (by omega) (by have : nextCell c (r * c) L m cells < r * c := h1
                                                         omega), ?_⟩
  rw [cntA_mem (b := cells ++ [((nextCell c (r * c) L m cells : Nat) : Int)]) fun x => (insS_perm _ cells).mem_iff]
  exact h4
theorem greedy_enough {r c : Nat} (hr : 1 ≤ r) (hc : 1 ≤ c) {L : List (List (List Int))} {m : List (List Int)} (hnd : L.Pairwise (fun a b => a ≠ b)) (hL : ∀ g ∈ L, Shape r c g) (hm : m ∈ L) : ∀ (f : Nat) (cells : List Int), Rising (r * c) cells → cntA c L m cells ≤ f + 1 →
    Rising (r * c) (greedy c (r * c) L m f cells) ∧ cntA c L m (greedy c (r * c) L m f cells) = 1 := by
  intro f
  induction f with
  | zero =>
    intro cells hris hcnt
    exact ⟨hris, by have := cntA_pos (c := c) hm cells; show cntA c L m cells = 1; omega⟩
  | succ f ih =>
    intro cells hris hcnt
    by_cases h : cntA c L m cells ≤ 1
    · rw [greedy_done h]
      exact ⟨hris, by have := cntA_pos (c := c) hm cells; omega⟩
    · rw [greedy_step h]
      obtain ⟨-, -, -, h4, h5⟩ := next_spec hr hc hnd hL hm hris h
      exact ih _ h4 (by omega)

/-! ### the least list that is enough -/
def lexI : List Int → List Int → Prop
  | a :: p, b :: q => a < b ∨ (a = b ∧ lexI p q)
  | _, _ => False
def revLe (p q : List Int) : Prop := p.length < q.length ∨ (p.length = q.length ∧ (p = q ∨ lexI p q))
theorem lexI_asymm : ∀ {p q : List Int}, lexI p q → lexI q p → False
  | [], _, h, _ => h
  | _ :: _, [], h, _ => h
  | a :: p, b :: q, h1, h2 => by
    rcases h1 with h1 | ⟨rfl, h1⟩
    · rcases h2 with h2 | ⟨e, -⟩ <;> omega
    · rcases h2 with h2 | ⟨-, h2⟩
      · omega
      · exact lexI_asymm h1 h2
theorem revLe_antisymm {p q : List Int} (h1 : revLe p q) (h2 : revLe q p) : p = q := by
  rcases h1 with h1 | ⟨e1, h1⟩
  · rcases h2 with h2 | ⟨e2, -⟩ <;> omega
  · rcases h1 with h1 | h1
    · exact h1
    · rcases h2 with h2 | ⟨-, h2⟩
      · omega
      · rcases h2 with h2 | h2
        · exact h2.symm
        · exact (lexI_asymm h1 h2).elim
/-- W is the least list of numbers below N for which f holds -/
def LeastRev (f : List Int → Bool) (N : Nat) (W : List Int) : Prop := (Rising N W ∧ f W = true) ∧ ∀ q, Rising N q → f q = true → revLe W q
theorem LeastRev.eq {f : List Int → Bool} {N : Nat} {W V : List Int} (h1 : LeastRev f N W) (h2 : LeastRev f N V) : W = V := revLe_antisymm (h1.2 V h2.1.1 h2.1.2) (h2.2 W h1.1.1 h1.1.2)
/-- the search for the least completion: size numbers more, from first on -/
def searchR (f : List Int → Bool) (N : Nat) : Nat → List Int → Nat → Option (List Int)
  | 0, cells, _ => if f cells then some cells else none
  | size + 1, cells, first => (List.range (N - first)).findSome? fun k => searchR f N size (cells ++ [((first + k : Nat) : Int)]) (first + k + 1)
/-- a rising list of numbers from first on -/
def RisFrom (N first : Nat) (l : List Int) : Prop := l.Pairwise (fun a b => a < b) ∧ ∀ x ∈ l, (first : Int) ≤ x ∧ x < N
theorem findSome_spec {β : Type} {n : Nat} {g : Nat → Option β} : (∀ b, (List.range n).findSome? g = some b → ∃ k, k < n ∧ g k = some b ∧ ∀ j, j < k → g j = none) ∧ ((List.range n).findSome? g = none → ∀ k, k < n → g k = none) := by
  induction n with
  | zero => exact ⟨fun b h => by simp at h, fun _ k hk => by omega⟩
  | succ n ih =>
    rw [List.range_succ, List.findSome?_append]
    constructor
    · intro b h
      cases hf : (List.range n).findSome? g with
      | some b' =>
        rw [hf] at h
        simp at h
        subst h
        obtain ⟨k, h1, h2, h3⟩ := ih.1 _ hf
        exact ⟨k, by omega, h2, h3⟩
      | none =>
        rw [hf] at h
        simp at h
        exact ⟨n, by omega, h, fun j hj => ih.2 hf j hj⟩
    · intro h k hk
      cases hf : (List.range n).findSome? g with
      | some b' => rw [hf] at h; simp at h
      | none =>
        rw [hf] at h
        simp at h
        by_cases e : k = n
        · rw [e]; exact h
        · exact ih.2 hf k (by omega)
theorem RisFrom.cons {N first : Nat} {a : Int} {l : List Int} (h : RisFrom N first (a :: l)) : ∃ k, first + k < N ∧ a = ((first + k : Nat) : Int) ∧ RisFrom N (first + k + 1) l := by
  have ha := h.2 a (by simp)
  refine ⟨a.toNat - first, by omega, by omega, ?_⟩
  have hp := h.1
  rw [List.pairwise_cons] at hp
  refine ⟨hp.2, fun x hx => ⟨?_, (h.2 x (List.mem_cons_of_mem _ hx)).2⟩⟩
  have := hp.1 x hx
  omega
theorem searchR_spec (f : List Int → Bool) (N : Nat) : ∀ (size : Nat) (cells : List Int) (first : Nat),
    (∀ W, searchR f N size cells first = some W → ∃ T, W = cells ++ T ∧ RisFrom N first T ∧ T.length = size ∧ f W = true ∧ ∀ T', RisFrom N first T' → T'.length = size → f (cells ++ T') = true → T = T' ∨ lexI T T') ∧
    (searchR f N size cells first = none → ∀ T, RisFrom N first T → T.length = size → f (cells ++ T) = false) := by
  intro size
  induction size with
  | zero =>
    intro cells first
    unfold searchR
    refine ⟨fun W h => ?_, fun h T _ hT => ?_⟩
    · split at h
      · rename_i hf
        obtain rfl := Option.some.inj h
        refine ⟨[], by simp, ⟨List.Pairwise.nil, by simp⟩, rfl, hf, fun T' _ hl _ => .inl (List.eq_nil_of_length_eq_zero hl).symm⟩
      · cases h
    · have : T = [] := List.eq_nil_of_length_eq_zero hT
      subst this
      rw [List.append_nil]
      split at h
      · cases h
      · rename_i hf; simpa using hf
  | succ size ih =>
    intro cells first
    rw [searchR]
    refine ⟨fun W h => ?_, fun h T hT hl => ?_⟩
    · obtain ⟨k, hk, hs, hnone⟩ := findSome_spec.1 W h
      obtain ⟨T, rfl, hr, hl, hf, hmin⟩ := (ih _ _).1 W hs
      refine ⟨((first + k : Nat) : Int) :: T, by simp, ⟨?_, fun x hx => ?_⟩, by simp [hl], hf, fun T' hT' hl' hf' => ?_⟩
      · rw [List.pairwise_cons]
        exact ⟨fun x hx => by have := (hr.2 x hx).1; omega, hr.1⟩
      · rcases List.mem_cons.1 hx with rfl | hx
        · exact ⟨by omega, by omega⟩
        · have := hr.2 x hx; exact ⟨by omega, this.2⟩
      · cases T' with
        | nil => simp at hl'
        | cons a T' =>
          obtain ⟨k', h1, rfl, h3⟩ := hT'.cons
          have hl2 : T'.length = size := by simpa using hl'
          have hf2 : f ((cells ++ [((first + k' : Nat) : Int)]) ++ T') = true := by simpa using hf'
          have hge : ¬ k' < k := fun hlt => by
            have := (ih _ _).2 (hnone k' hlt) T' h3 hl2
            rw [hf2] at this; cases this
          by_cases e : k' = k
          · subst e
            rcases hmin T' h3 hl2 hf2 with e | e
            · exact .inl (by rw [e])
            · exact .inr (.inr ⟨rfl, e⟩)
          · exact .inr (.inl (by omega))
    · cases T with
      | nil => simp at hl
      | cons a T =>
        obtain ⟨k, h1, rfl, h3⟩ := hT.cons
        have := (ih _ _).2 (findSome_spec.2 h k (by omega)) T h3 (by simpa using hl)
        simpa using this
theorem ris_zero {N : Nat} {l : List Int} : RisFrom N 0 l ↔ Rising N l := by unfold RisFrom Rising; simp
def leastR (f : List Int → Bool) (N : Nat) : Option (List Int) := (List.range (N + 1)).findSome? fun size => searchR f N size [] 0
theorem rising_len {N : Nat} : ∀ {l : List Int} {first : Nat}, RisFrom N first l → first ≤ N → l.length + first ≤ N
  | [], first, _, h => by simpa using h
  | a :: l, first, h, _ => by
    obtain ⟨k, h1, -, h3⟩ := h.cons
    have := rising_len h3 (by omega)
    rw [List.length_cons]; omega
theorem leastR_spec {f : List Int → Bool} {N : Nat} (hex : ∃ l, Rising N l ∧ f l = true) : ∃ W, leastR f N = some W ∧ LeastRev f N W := by
  cases h : leastR f N with
  | none =>
    obtain ⟨l, hl, hf⟩ := hex
    have hlen := rising_len (ris_zero.2 hl) (Nat.zero_le _)
    have := (searchR_spec f N l.length [] 0).2 (findSome_spec.2 h l.length (by omega)) l (ris_zero.2 hl) rfl
    rw [List.nil_append, hf] at this
    cases this
  | some W =>
    refine ⟨W, rfl, ?_⟩
    obtain ⟨size, hs, hfound, hnone⟩ := findSome_spec.1 W h
    obtain ⟨T, rfl, hr, hl, hf, hmin⟩ := (searchR_spec f N size [] 0).1 W hfound
    refine ⟨⟨ris_zero.1 hr, hf⟩, fun q hq hfq => ?_⟩
    have hge : ¬ q.length < size := fun hlt => by
      have := (searchR_spec f N q.length [] 0).2 (hnone q.length hlt) q (ris_zero.2 hq) rfl
      rw [List.nil_append, hfq] at this
      cases this
    by_cases e : q.length = size
    · exact .inr ⟨by omega, hmin q (ris_zero.2 hq) e (by rw [List.nil_append]; exact hfq)⟩
    · exact .inl (by omega)
end Go.Proofs.YtlmjpmdkifoekaaDoor

namespace Go.Proofs.YtlmjpmdkifoekaaDoor

def membN (K s : Nat) : List Nat := (List.range K).filter fun i => s.testBit i
def membL (K s : Nat) : List Int := (membN K s).map fun i : Nat => (i : Int)
theorem membN_mem {K s i : Nat} : i ∈ membN K s ↔ i < K ∧ s.testBit i = true := by simp [membN]
theorem membL_mem {K s : Nat} {x : Int} : x ∈ membL K s ↔ ∃ i : Nat, x = i ∧ i < K ∧ s.testBit i = true := by
  unfold membL
  rw [List.mem_map]
  constructor
  · rintro ⟨i, hi, rfl⟩; exact ⟨i, rfl, membN_mem.1 hi⟩
  · rintro ⟨i, rfl, hi⟩; exact ⟨i, membN_mem.2 hi, rfl⟩
theorem membN_len (K s : Nat) : (membN K s).length ≤ K := by
  have := List.length_filter_le (fun i => s.testBit i) (List.range K)
  rw [List.length_range] at this
  exact this
theorem membL_len (K s : Nat) : (membL K s).length ≤ K := by unfold membL; rw [List.length_map]; exact membN_len K s
theorem membN_succ (K s : Nat) : membN (K + 1) s = membN K s ++ if s.testBit K then [K] else [] := by
  unfold membN
  rw [List.range_succ, List.filter_append]
  cases h : s.testBit K <;> simp [h]
theorem membL_succ (K s : Nat) : membL (K + 1) s = membL K s ++ if s.testBit K then [(K : Int)] else [] := by
  unfold membL
  rw [membN_succ, List.map_append]
  cases h : s.testBit K <;> simp
theorem testBit_div (s i : Nat) : s.testBit i = decide (s / 2 ^ i % 2 = 1) := by
  rw [Nat.testBit_eq_decide_div_mod_eq]
theorem membN_big {s i : Nat} (h : s < 2 ^ i) : ∀ K, i ≤ K → membN K s = membN i s := by
  intro K hK
  induction K with
  | zero => obtain rfl : i = 0 := by omega
            rfl
  | succ K ih =>
    by_cases e : i = K + 1
    · rw [e]
    · rw [membN_succ, ih (by omega)]
      have : s.testBit K = false := Nat.testBit_lt_two_pow (Nat.lt_of_lt_of_le h (Nat.pow_le_pow_right (by decide) (by omega)))
      rw [this]; simp
theorem membL_big {s i K : Nat} (h : s < 2 ^ i) (hK : i ≤ K) : membL K s = membL i s := by unfold membL; rw [membN_big h K hK]
theorem range_lt (K : Nat) : (List.range K).Pairwise (fun a b => a < b) := List.pairwise_lt_range
theorem membL_rising (K s : Nat) : Rising K (membL K s) := by
  refine ⟨?_, fun x hx => ?_⟩
  · unfold membL
    rw [List.pairwise_map]
    exact ((range_lt K).filter _).imp fun h => by omega
  · obtain ⟨i, rfl, hi, -⟩ := membL_mem.1 hx
    omega
/-- the number of a set given by a test -/
def bitSet (f : Nat → Bool) : Nat → Nat
  | 0 => 0
  | p + 1 => bitSet f p ||| (if f p then 2 ^ p else 0)
theorem bitSet_bit (f : Nat → Bool) : ∀ n i, (bitSet f n).testBit i = (decide (i < n) && f i) := by
  intro n
  induction n with
  | zero => intro i; simp [bitSet]
  | succ n ih =>
    intro i
    rw [bitSet, Nat.testBit_or, ih]
    by_cases hf : f n = true
    · rw [if_pos hf, Nat.testBit_two_pow]
      by_cases e : n = i
      · subst e; simp [hf]
      · have : decide (i < n + 1) = decide (i < n) := by
          by_cases h : i < n
          · rw [decide_eq_true h, decide_eq_true (by omega)]
          · rw [decide_eq_false h, decide_eq_false (by omega)]
        rw [this, decide_eq_false e, Bool.or_false]
    · rw [if_neg hf, Nat.zero_testBit, Bool.or_false]
      by_cases e : n = i
      · subst e; simp [hf]
      · have : decide (i < n + 1) = decide (i < n) := by
          by_cases h : i < n
          · rw [decide_eq_true h, decide_eq_true (by omega)]
          · rw [decide_eq_false h, decide_eq_false (by omega)]
        rw [this]
theorem bitSet_lt (f : Nat → Bool) (n : Nat) : bitSet f n < 2 ^ n := by
  apply Nat.lt_pow_two_of_testBit
  intro i hi
  rw [bitSet_bit, decide_eq_false (by omega)]; rfl
theorem bitSet_zero {f : Nat → Bool} {n : Nat} : bitSet f n = 0 ↔ ∀ i, i < n → f i = false := by
  constructor
  · intro h i hi
    have := bitSet_bit f n i
    rw [h, Nat.zero_testBit, decide_eq_true hi] at this
    simpa using this.symm
  · intro h
    apply Nat.eq_of_testBit_eq
    intro i
    rw [bitSet_bit, Nat.zero_testBit]
    by_cases hi : i < n
    · rw [h i hi, Bool.and_false]
    · rw [decide_eq_false hi, Bool.false_and]
theorem and_zero {a b : Nat} : a &&& b = 0 ↔ ∀ i, a.testBit i = true → b.testBit i = false := by
  constructor
  · intro h i hi
    have := congrArg (fun x => x.testBit i) h
    simp only [Nat.testBit_and, Nat.zero_testBit, hi, Bool.true_and] at this
    exact this
  · intro h
    apply Nat.eq_of_testBit_eq
    intro i
    rw [Nat.testBit_and, Nat.zero_testBit]
    cases ha : a.testBit i
    · rfl
    · rw [h i ha]; rfl
/-- the cells in which an image differs -/
def diffSet (c : Nat) (m g : List (List Int)) (p : Nat) : Nat := bitSet (fun n => decide (cellN c n g ≠ cellN c n m)) p
def diffs (c N : Nat) (m : List (List Int)) (L : List (List (List Int))) : List Nat := (L.map fun g => diffSet c m g N).filter fun s => decide (s ≠ 0)
def meetsAll (D : List Nat) (s : Nat) : Bool := D.all fun d => decide (d &&& s ≠ 0)
theorem meets_enough {r c : Nat} (hc : 1 ≤ c) {L : List (List (List Int))} {m : List (List Int)} (hnd : L.Pairwise (fun a b => a ≠ b)) (hL : ∀ g ∈ L, Shape r c g) (hm : m ∈ L) (s : Nat) :
    meetsAll (diffs c (r * c) m L) s = decide (cntA c L m (membL (r * c) s) = 1) := by
  have hself := agreesB_self c m (membL (r * c) s)
  have key : cntA c L m (membL (r * c) s) = 1 ↔ ∀ g ∈ L, agreesB c m g (membL (r * c) s) = true → g = m := by
    unfold cntA agreeing
    constructor
    · intro h g hg hag
      apply Classical.byContradiction
      intro hne
      have h1 : ∀ x ∈ [g, m], x ∈ L.filter fun h => agreesB c m h (membL (r * c) s) := by
        intro x hx
        rw [List.mem_filter]
        rcases List.mem_cons.1 hx with rfl | hx
        · exact ⟨hg, hag⟩
        · rw [List.mem_singleton] at hx; subst hx; exact ⟨hm, hself⟩
      have := nodup_len (fun x : List (List Int) => x) [g, m] _ (by simp [hne]) h1
      simp at this
      omega
    · intro h
      have h1 := nodup_len (fun x : List (List Int) => x) (L.filter fun h => agreesB c m h (membL (r * c) s)) [m] (hnd.filter _) fun g hg => by
        rw [List.mem_filter] at hg
        rw [h g hg.1 hg.2]; simp
      have h2 : 0 < (L.filter fun h => agreesB c m h (membL (r * c) s)).length := List.length_pos_of_mem (List.mem_filter.2 ⟨hm, hself⟩)
      rw [List.length_singleton] at h1
      omega
  have hin : ∀ g, (diffSet c m g (r * c) &&& s ≠ 0) ↔ agreesB c m g (membL (r * c) s) = false := by
    intro g
    rw [Ne, and_zero]
    unfold agreesB
    rw [List.all_eq_false]
    constructor
    · intro h
      apply Classical.byContradiction
      intro hn
      apply h
      intro i hi
      unfold diffSet at hi
      rw [bitSet_bit, Bool.and_eq_true, decide_eq_true_eq, decide_eq_true_eq] at hi
      cases hs : s.testBit i
      · rfl
      · exact absurd ⟨(i : Int), membL_mem.2 ⟨i, rfl, hi.1, hs⟩, by simpa using hi.2⟩ hn
    · rintro ⟨x, hx, hne⟩ h
      obtain ⟨i, rfl, hi, hs⟩ := membL_mem.1 hx
      have := h i (by unfold diffSet; rw [bitSet_bit, decide_eq_true hi]; simpa using hne)
      rw [hs] at this; cases this
  have hzero : ∀ g ∈ L, diffSet c m g (r * c) = 0 ↔ g = m := by
    intro g hg
    unfold diffSet
    rw [bitSet_zero]
    constructor
    · intro h
      apply Classical.byContradiction
      intro hne
      obtain ⟨n, hn, hd⟩ := cell_diff hc (hL g hg) (hL m hm) hne
      have := h n hn
      simp at this
      exact hd this
    · rintro rfl i _; simp
  rw [Bool.eq_iff_iff, decide_eq_true_eq, key]
  unfold meetsAll diffs
  rw [List.all_eq_true]
  constructor
  · intro h g hg hag
    apply Classical.byContradiction
    intro hne
    have h1 := h (diffSet c m g (r * c)) (List.mem_filter.2 ⟨List.mem_map.2 ⟨g, hg, rfl⟩, by simpa using fun e => hne ((hzero g hg).1 e)⟩)
    rw [decide_eq_true_eq, hin, hag] at h1
    cases h1
  · intro h d hd
    rw [List.mem_filter, List.mem_map] at hd
    obtain ⟨⟨g, hg, rfl⟩, hd⟩ := hd
    rw [decide_eq_true_eq] at hd ⊢
    rw [hin]
    cases hag : agreesB c m g (membL (r * c) s)
    · rfl
    · exact absurd ((hzero g hg).2 (h g hg hag)) hd
/-- every rising list is the members of a set -/
theorem rising_memb {N : Nat} {q : List Int} (h : Rising N q) : ∃ s, s < 2 ^ N ∧ membL N s = q := by
  refine ⟨bitSet (fun i => decide ((i : Int) ∈ q)) N, bitSet_lt _ _, ?_⟩
  refine sorted_eq (fun x h => by omega) (fun x y h k => by omega) (membL_rising N _).1 h.1 fun x => ?_
  rw [membL_mem]
  constructor
  · rintro ⟨i, rfl, hi, hb⟩
    rw [bitSet_bit, Bool.and_eq_true, decide_eq_true_eq, decide_eq_true_eq] at hb
    exact hb.2
  · intro hx
    have := h.2 x hx
    refine ⟨x.toNat, by omega, by omega, ?_⟩
    rw [bitSet_bit, decide_eq_true (by omega : x.toNat < N)]
    simp only [Bool.true_and, decide_eq_true_eq]
    rw [show ((x.toNat : Nat) : Int) = x by omega]; exact hx
instance lexIDec : (p q : List Int) → Decidable (lexI p q)
  | [], _ => isFalse fun h => h
  | _ :: _, [] => isFalse fun h => h
  | a :: p, b :: q => by
    have := lexIDec p q
    unfold lexI; infer_instance
def revLtB (l b : List Int) : Bool := decide (l.length < b.length) || (decide (l.length = b.length) && decide (lexI l b))
theorem lexI_total : ∀ {p q : List Int}, p.length = q.length → p = q ∨ lexI p q ∨ lexI q p
  | [], [], _ => .inl rfl
  | [], _ :: _, h => by simp at h
  | _ :: _, [], h => by simp at h
  | a :: p, b :: q, h => by
    rcases lexI_total (p := p) (q := q) (by simpa using h) with e | e | e
    · by_cases hab : a = b
      · exact .inl (by rw [hab, e])
      · by_cases hlt : a < b
        · exact .inr (.inl (.inl hlt))
        · exact .inr (.inr (.inl (by omega)))
    · by_cases hab : a = b
      · exact .inr (.inl (.inr ⟨hab, e⟩))
      · by_cases hlt : a < b
        · exact .inr (.inl (.inl hlt))
        · exact .inr (.inr (.inl (by omega)))
    · by_cases hab : a = b
      · exact .inr (.inr (.inr ⟨hab.symm, e⟩))
      · by_cases hlt : a < b
        · exact .inr (.inl (.inl hlt))
        · exact .inr (.inr (.inl (by omega)))
theorem lexI_trans : ∀ {p q s : List Int}, lexI p q → lexI q s → lexI p s
  | [], _, _, h, _ => h.elim
  | _ :: _, [], _, h, _ => h.elim
  | _ :: _, _ :: _, [], _, h => h.elim
  | a :: p, b :: q, d :: s, h1, h2 => by
    rcases h1 with h1 | ⟨rfl, h1⟩
    · rcases h2 with h2 | ⟨rfl, h2⟩
      · exact .inl (by omega)
      · exact .inl h1
    · rcases h2 with h2 | ⟨rfl, h2⟩
      · exact .inl h2
      · exact .inr ⟨rfl, lexI_trans h1 h2⟩
theorem revLe_refl (p : List Int) : revLe p p := .inr ⟨rfl, .inl rfl⟩
theorem revLe_trans {p q s : List Int} (h1 : revLe p q) (h2 : revLe q s) : revLe p s := by
  rcases h1 with h1 | ⟨e1, h1⟩
  · rcases h2 with h2 | ⟨e2, -⟩ <;> exact .inl (by omega)
  · rcases h2 with h2 | ⟨e2, h2⟩
    · exact .inl (by omega)
    · refine .inr ⟨by omega, ?_⟩
      rcases h1 with rfl | h1
      · exact h2
      · rcases h2 with rfl | h2
        · exact .inr h1
        · exact .inr (lexI_trans h1 h2)
theorem revLtB_le {l b : List Int} (h : revLtB l b = true) : revLe l b := by
  unfold revLtB at h
  rw [Bool.or_eq_true, Bool.and_eq_true, decide_eq_true_eq, decide_eq_true_eq, decide_eq_true_eq] at h
  rcases h with h | ⟨h1, h2⟩
  · exact .inl h
  · exact .inr ⟨h1, .inr h2⟩
theorem revLtB_ge {l b : List Int} (h : revLtB l b = false) : revLe b l := by
  unfold revLtB at h
  rw [Bool.or_eq_false_iff, Bool.and_eq_false_iff, decide_eq_false_iff_not, decide_eq_false_iff_not, decide_eq_false_iff_not] at h
  obtain ⟨h1, h2⟩ := h
  by_cases e : l.length = b.length
  · rcases h2 with h2 | h2
    · exact absurd e h2
    · rcases lexI_total e with e' | e' | e'
      · exact .inr ⟨e.symm, .inl e'.symm⟩
      · exact absurd e' h2
      · exact .inr ⟨e.symm, .inr e'⟩
  · exact .inl (by omega)
/-- the best list among the sets below s -/
def bestR (f : List Int → Bool) (N : Nat) : Nat → Option (List Int)
  | 0 => none
  | s + 1 => if f (membL N s) then (match bestR f N s with | none => some (membL N s) | some b => if revLtB (membL N s) b then some (membL N s) else some b) else bestR f N s
theorem bestR_spec (f : List Int → Bool) (N : Nat) : ∀ n, (bestR f N n = none ∧ ∀ s, s < n → f (membL N s) = false) ∨ ∃ W, bestR f N n = some W ∧ (Rising N W ∧ f W = true) ∧ ∀ s, s < n → f (membL N s) = true → revLe W (membL N s) := by
  intro n
  induction n with
  | zero => exact .inl ⟨rfl, fun s hs => by omega⟩
  | succ n ih =>
    rw [bestR]
    by_cases hf : f (membL N n) = true
    · rw [if_pos hf]
      right
      rcases ih with ⟨h1, h2⟩ | ⟨W, h1, h2, h3⟩
      · rw [h1]
        refine ⟨_, rfl, ⟨membL_rising N n, hf⟩, fun s hs hfs => ?_⟩
        by_cases e : s = n
        · rw [e]; exact revLe_refl _
        · rw [h2 s (by omega)] at hfs; cases hfs
      · rw [h1]
        dsimp only
        cases hb : revLtB (membL N n) W
        · rw [if_neg (by simp)]
          refine ⟨W, rfl, h2, fun s hs hfs => ?_⟩
          by_cases e : s = n
          · rw [e]; exact revLtB_ge hb
          · exact h3 s (by omega) hfs
        · rw [if_pos rfl]
          refine ⟨_, rfl, ⟨membL_rising N n, hf⟩, fun s hs hfs => ?_⟩
          by_cases e : s = n
          · rw [e]; exact revLe_refl _
          · exact revLe_trans (revLtB_le hb) (h3 s (by omega) hfs)
    · rw [if_neg hf]
      rw [Bool.not_eq_true] at hf
      rcases ih with ⟨h1, h2⟩ | ⟨W, h1, h2, h3⟩
      · refine .inl ⟨h1, fun s hs => ?_⟩
        by_cases e : s = n
        · rw [e]; exact hf
        · exact h2 s (by omega)
      · refine .inr ⟨W, h1, h2, fun s hs hfs => ?_⟩
        by_cases e : s = n
        · rw [e, hf] at hfs; cases hfs
        · exact h3 s (by omega) hfs
theorem bestR_least {f : List Int → Bool} {N : Nat} {W : List Int} (h : bestR f N (2 ^ N) = some W) : LeastRev f N W := by
  rcases bestR_spec f N (2 ^ N) with ⟨h1, -⟩ | ⟨V, h1, h2, h3⟩
  · rw [h1] at h; cases h
  · rw [h1] at h
    obtain rfl := Option.some.inj h
    refine ⟨h2, fun q hq hfq => ?_⟩
    obtain ⟨s, hs, rfl⟩ := rising_memb hq
    exact h3 s hs hfq
end Go.Proofs.YtlmjpmdkifoekaaDoor

/- Contracts and plain laws that the claims on sessions use. No condition of their own. -/
import Derived.Test.YthmocomfjgmjoaaGreatDoorQ03
import Derived.Test.YthmocomfjgmjoaaGreatDoorQ02
namespace Go.Proofs.YthmocomfjgmjoaaGreatDoor
def Sw.code (s : Sw) : Nat := s.y1 * 512 + s.y2 * 64 + s.x1 * 8 + s.x2
def lexLt : List Sw → List Sw → Prop
  | s :: p, t :: q => Sw.code s < Sw.code t ∨ (s = t ∧ lexLt p q)
  | _, _ => False
def slt (p q : List Sw) : Prop := p.length < q.length ∨ (p.length = q.length ∧ lexLt p q)
def sle (p q : List Sw) : Prop := p = q ∨ slt p q
theorem lexLt_irrefl : ∀ p, ¬ lexLt p p
  | [], h => h
  | s :: p, h => h.elim (fun h => by omega) fun h => lexLt_irrefl p h.2
theorem lexLt_trans : ∀ {p q r}, lexLt p q → lexLt q r → lexLt p r
  | [], _, _, h, _ => h.elim
  | _ :: _, [], _, h, _ => h.elim
  | _ :: _, _ :: _, [], _, h => h.elim
  | s :: p, t :: q, u :: r, h1, h2 => by
    rcases h1 with h1 | ⟨rfl, h1⟩
    · rcases h2 with h2 | ⟨rfl, -⟩
      · exact .inl (by omega)
      · exact .inl h1
    · rcases h2 with h2 | ⟨rfl, h2⟩
      · exact .inl h2
      · exact .inr ⟨rfl, lexLt_trans h1 h2⟩
theorem slt_irrefl (p : List Sw) : ¬ slt p p := fun h => h.elim (fun h => by omega) fun h => lexLt_irrefl p h.2
theorem slt_trans {p q r : List Sw} (h1 : slt p q) (h2 : slt q r) : slt p r := by
  rcases h1 with h1 | ⟨e1, h1⟩ <;> rcases h2 with h2 | ⟨e2, h2⟩
  · exact .inl (by omega)
  · exact .inl (by omega)
  · exact .inl (by omega)
  · exact .inr ⟨by omega, lexLt_trans h1 h2⟩
theorem sle_trans {p q r : List Sw} (h1 : sle p q) (h2 : sle q r) : sle p r := by
  rcases h1 with rfl | h1
  · exact h2
  · rcases h2 with rfl | h2
    · exact .inr h1
    · exact .inr (slt_trans h1 h2)
theorem sle_antisymm {p q : List Sw} (h1 : sle p q) (h2 : sle q p) : p = q := by
  rcases h1 with h1 | h1
  · exact h1
  · rcases h2 with h2 | h2
    · exact h2.symm
    · exact (slt_irrefl p (slt_trans h1 h2)).elim
theorem lexLt_snoc : ∀ {p q : List Sw} (s t : Sw), lexLt p q → lexLt (p ++ [s]) (q ++ [t])
  | [], _, _, _, h => h.elim
  | _ :: _, [], _, _, h => h.elim
  | _ :: _, _ :: _, s, t, h => h.elim (fun h => .inl h) fun h => .inr ⟨h.1, lexLt_snoc s t h.2⟩
theorem slt_snoc {p q : List Sw} (s t : Sw) (h : slt p q) : slt (p ++ [s]) (q ++ [t]) := by
  rcases h with h | ⟨e, h⟩
  · exact .inl (by simp; omega)
  · exact .inr ⟨by simp [e], lexLt_snoc s t h⟩
theorem lexLt_last (p : List Sw) (s t : Sw) (h : Sw.code s < Sw.code t) : lexLt (p ++ [s]) (p ++ [t]) := by
  induction p with
  | nil =>
    rw [List.nil_append, List.nil_append, lexLt]
    exact Or.inl h
  | cons a p ih =>
    rw [List.cons_append, List.cons_append, lexLt]
    exact Or.inr ⟨rfl, ih⟩
theorem slt_last (p : List Sw) {s t : Sw} (h : Sw.code s < Sw.code t) : slt (p ++ [s]) (p ++ [t]) := .inr ⟨by simp, lexLt_last p s t h⟩
theorem sle_snoc {p q : List Sw} (s : Sw) (h : sle p q) : sle (p ++ [s]) (q ++ [s]) := by
  rcases h with rfl | h
  · exact .inl rfl
  · exact .inr (slt_snoc s s h)
theorem slt_nil (p : List Sw) (s : Sw) : slt [] (p ++ [s]) := .inl (by simp)
def IsPath (r c : Nat) : List (List Int) → List Sw → List (List Int) → Prop
  | g, [], h => g = h
  | g, s :: p, h => SwOk r c g s ∧ IsPath r c (applyS g s) p h
theorem isPath_snoc {r c : Nat} : ∀ {p : List Sw} {g h : List (List Int)} {s : Sw}, IsPath r c g (p ++ [s]) h ↔ ∃ x, IsPath r c g p x ∧ SwOk r c x s ∧ applyS x s = h
  | [], g, h, s => by
    simp only [List.nil_append, IsPath]
    exact ⟨fun ⟨a, b⟩ => ⟨g, rfl, a, b⟩, fun ⟨x, e, a, b⟩ => by subst e; exact ⟨a, b⟩⟩
  | t :: p, g, h, s => by
    simp only [List.cons_append, IsPath]
    constructor
    · rintro ⟨a, b⟩
      obtain ⟨x, h1, h2⟩ := isPath_snoc.1 b
      exact ⟨x, ⟨a, h1⟩, h2⟩
    · rintro ⟨x, ⟨a, h1⟩, h2⟩
      exact ⟨a, isPath_snoc.2 ⟨x, h1, h2⟩⟩
theorem IsPath.shape {r c : Nat} : ∀ {p : List Sw} {g h : List (List Int)}, IsPath r c g p h → Shape r c g → Shape r c h
  | [], _, _, h, hs => by cases h; exact hs
  | _ :: _, _, _, h, hs => h.2.shape (applyS_shape hs h.1)
theorem IsPath.sums {xs ys : List Int} {r c : Nat} : ∀ {p : List Sw} {g h : List (List Int)}, IsPath r c g p h → Sums xs ys r c g → Sums xs ys r c h
  | [], _, _, h, hs => by cases h; exact hs
  | _ :: _, _, _, h, hs => h.2.sums (applyS_sums hs h.1)
theorem IsPath.rev {r c : Nat} : ∀ {p : List Sw} {g h : List (List Int)}, IsPath r c g p h → Shape r c g → IsPath r c h p.reverse g
  | [], _, _, h, _ => h.symm
  | s :: p, g, h, hp, hs => by
    have h1 := hp.2.rev (applyS_shape hs hp.1)
    rw [List.reverse_cons]
    exact isPath_snoc.2 ⟨_, h1, applyS_ok hs hp.1, applyS_twice hs hp.1⟩
theorem Join.path {r c : Nat} {g h : List (List Int)} (hj : Join r c g h) : ∃ p, IsPath r c g p h := by
  induction hj with
  | refl => exact ⟨[], rfl⟩
  | @step b s _ hs ih =>
    obtain ⟨p, hp⟩ := ih
    exact ⟨p ++ [s], isPath_snoc.2 ⟨_, hp, hs, rfl⟩⟩
def allSw (r c : Nat) : List Sw := (List.range r).flatMap fun a => (List.range r).flatMap fun b => if a < b then (List.range c).flatMap fun x => (List.range c).flatMap fun y => if x < y then [(a, b, x, y)] else [] else []
def switchesOf (r c : Nat) (g : List (List Int)) : List Sw := (allSw r c).filter fun s => decide (SwOk r c g s)
theorem allSw_mem {r c : Nat} {s : Sw} : s ∈ allSw r c ↔ s.y1 < s.y2 ∧ s.y2 < r ∧ s.x1 < s.x2 ∧ s.x2 < c := by
  obtain ⟨a, b, x, y⟩ := s
  show _ ↔ a < b ∧ b < r ∧ x < y ∧ y < c
  unfold allSw
  simp only [List.mem_flatMap, List.mem_range]
  constructor
  · rintro ⟨a', ha, b', hb, h⟩
    split at h
    · rename_i hab
      simp only [List.mem_flatMap, List.mem_range] at h
      obtain ⟨x', hx, y', hy, h⟩ := h
      split at h
      · rename_i hxy
        simp only [List.mem_singleton, Prod.mk.injEq] at h
        obtain ⟨rfl, rfl, rfl, rfl⟩ := h
        exact ⟨hab, hb, hxy, hy⟩
      · cases h
    · cases h
  · rintro ⟨h1, h2, h3, h4⟩
    refine ⟨a, by omega, b, h2, ?_⟩
    rw [if_pos h1]
    simp only [List.mem_flatMap, List.mem_range]
    refine ⟨x, by omega, y, h4, ?_⟩
    rw [if_pos h3]; simp
theorem switchesOf_mem {r c : Nat} {g : List (List Int)} {s : Sw} : s ∈ switchesOf r c g ↔ SwOk r c g s := by
  unfold switchesOf
  rw [List.mem_filter, allSw_mem, decide_eq_true_eq]
  exact ⟨fun h => h.2, fun h => ⟨⟨h.1, h.2.1, h.2.2.1, h.2.2.2.1⟩, h⟩⟩
theorem allSw_sorted : ∀ r, r < 6 → ∀ c, c < 6 → (allSw r c).Pairwise (fun s t => Sw.code s < Sw.code t) := by decide +kernel
theorem switchesOf_sorted {r c : Nat} (hr : r ≤ 5) (hc : c ≤ 5) (g : List (List Int)) : (switchesOf r c g).Pairwise (fun s t => Sw.code s < Sw.code t) := (allSw_sorted r (by omega) c (by omega)).filter _
abbrev Node := List (List Int) × List Sw
def proc1 (e : Node) (acc : List Node) (s : Sw) : List Node := if acc.any (fun x => decide (x.1 = applyS e.1 s)) then acc else acc ++ [(applyS e.1 s, e.2 ++ [s])]
structure BInv (r c : Nat) (m : List (List Int)) (j : Nat) (acc : List Node) : Prop where
  zero : acc[0]? = some (m, [])
  sorted : acc.Pairwise (fun a b => slt a.2 b.2)
  path : ∀ e ∈ acc, IsPath r c m e.2 e.1
  nodup : acc.Pairwise (fun a b => a.1 ≠ b.1)
  done : ∀ i (e : Node), i < j → acc[i]? = some e → ∀ s, SwOk r c e.1 s → ∃ e' ∈ acc, e'.1 = applyS e.1 s ∧ sle e'.2 (e.2 ++ [s])
  next : ∀ e : Node, acc[j]? = some e → ∀ x ∈ acc, ∀ s, slt x.2 (e.2 ++ [s])
  len : ∀ i (e : Node), acc[i]? = some e → e.2.length ≤ i
theorem binv_start (r c : Nat) (m : List (List Int)) : BInv r c m 0 [(m, [])] :=
  ⟨rfl, List.pairwise_singleton _ _, by simp [IsPath], List.pairwise_singleton _ _, fun i e h => by omega, fun e he x hx s => by simp at hx; subst hx; exact slt_nil _ s, fun i e h => by
    cases i with
    | zero => simp at h; subst h; simp
    | succ i => simp at h⟩
structure BMid (r c : Nat) (m : List (List Int)) (j : Nat) (e0 : Node) (ss1 : List Sw) (acc : List Node) : Prop where
  zero : acc[0]? = some (m, [])
  at0 : acc[j]? = some e0
  sorted : acc.Pairwise (fun a b => slt a.2 b.2)
  path : ∀ e ∈ acc, IsPath r c m e.2 e.1
  nodup : acc.Pairwise (fun a b => a.1 ≠ b.1)
  done : ∀ i (e : Node), i < j → acc[i]? = some e → ∀ s, SwOk r c e.1 s → ∃ e' ∈ acc, e'.1 = applyS e.1 s ∧ sle e'.2 (e.2 ++ [s])
  doneJ : ∀ s ∈ ss1, ∃ e' ∈ acc, e'.1 = applyS e0.1 s ∧ sle e'.2 (e0.2 ++ [s])
  below : ∀ x ∈ acc, (∀ s, slt x.2 (e0.2 ++ [s])) ∨ ∃ s1 ∈ ss1, x.2 = e0.2 ++ [s1]
  len : ∀ i (e : Node), acc[i]? = some e → e.2.length ≤ i
theorem BInv.mid {r c : Nat} {m : List (List Int)} {j : Nat} {acc : List Node} (h : BInv r c m j acc) {e0 : Node} (he : acc[j]? = some e0) : BMid r c m j e0 [] acc :=
  ⟨h.zero, he, h.sorted, h.path, h.nodup, h.done, (fun s hs => by cases hs), fun x hx => .inl (h.next e0 he x hx), h.len⟩
theorem BMid.step {r c : Nat} {m : List (List Int)} {j : Nat} {e0 : Node} {ss1 : List Sw} {acc : List Node} (h : BMid r c m j e0 ss1 acc) {s : Sw} (hs : SwOk r c e0.1 s) (hlt : ∀ s1 ∈ ss1, Sw.code s1 < Sw.code s) : BMid r c m j e0 (ss1 ++ [s]) (proc1 e0 acc s) := by
  have hj := (List.getElem?_eq_some_iff.1 h.at0).1
  have hbel : ∀ x ∈ acc, slt x.2 (e0.2 ++ [s]) := fun x hx => by
    rcases h.below x hx with h1 | ⟨s1, h1, h2⟩
    · exact h1 s
    · rw [h2]; exact slt_last _ (hlt s1 h1)
  unfold proc1
  cases hany : acc.any (fun x => decide (x.1 = applyS e0.1 s))
  · rw [if_neg (by simp)]
    have hnew : ∀ x ∈ acc, x.1 ≠ applyS e0.1 s := fun x hx e => by
      rw [Bool.eq_false_iff] at hany
      exact hany (List.any_eq_true.2 ⟨x, hx, by simpa using e⟩)
    refine ⟨?_, ?_, ?_, ?_, ?_, ?_, ?_, ?_, ?_⟩
    · rw [List.getElem?_append_left (by omega)]; exact h.zero
    · rw [List.getElem?_append_left hj]; exact h.at0
    · rw [List.pairwise_append]
      exact ⟨h.sorted, List.pairwise_singleton _ _, fun a ha b hb => by simp at hb; subst hb; exact hbel a ha⟩
    · intro e he
      rcases List.mem_append.1 he with he | he
      · exact h.path e he
      · rw [List.mem_singleton] at he
        subst he
        exact isPath_snoc.2 ⟨e0.1, h.path e0 (List.mem_of_getElem? h.at0), hs, rfl⟩
    · rw [List.pairwise_append]
      exact ⟨h.nodup, List.pairwise_singleton _ _, fun a ha b hb => by simp at hb; subst hb; exact hnew a ha⟩
    · intro i e hi he t ht
      rw [List.getElem?_append_left (by omega)] at he
      obtain ⟨e', h1, h2⟩ := h.done i e hi he t ht
      exact ⟨e', List.mem_append_left _ h1, h2⟩
    · intro t ht
      rcases List.mem_append.1 ht with ht | ht
      · obtain ⟨e', h1, h2⟩ := h.doneJ t ht
        exact ⟨e', List.mem_append_left _ h1, h2⟩
      · rw [List.mem_singleton] at ht
        subst ht
        exact ⟨_, List.mem_append_right _ (List.mem_singleton.2 rfl), rfl, .inl rfl⟩
    · intro x hx
      rcases List.mem_append.1 hx with hx | hx
      · exact (h.below x hx).imp id fun ⟨s1, h1, h2⟩ => ⟨s1, List.mem_append_left _ h1, h2⟩
      · rw [List.mem_singleton] at hx
        subst hx
        exact .inr ⟨s, List.mem_append_right _ (List.mem_singleton.2 rfl), rfl⟩
    · intro i e he
      by_cases hi : i < acc.length
      · rw [List.getElem?_append_left hi] at he; exact h.len i e he
      · have hil := (List.getElem?_eq_some_iff.1 he).1
        rw [List.length_append, List.length_singleton] at hil
        have hi2 : i = acc.length := by omega
        subst hi2
        rw [List.getElem?_append_right (Nat.le_refl _), Nat.sub_self] at he
        simp at he
        subst he
        have := h.len j e0 h.at0
        simp
        omega
  · rw [if_pos rfl]
    obtain ⟨x, hx, hxe⟩ := List.any_eq_true.1 hany
    refine ⟨h.zero, h.at0, h.sorted, h.path, h.nodup, h.done, fun t ht => ?_, fun y hy => (h.below y hy).imp id fun ⟨s1, h1, h2⟩ => ⟨s1, List.mem_append_left _ h1, h2⟩, h.len⟩
    rcases List.mem_append.1 ht with ht | ht
    · exact h.doneJ t ht
    · rw [List.mem_singleton] at ht
      subst ht
      exact ⟨x, hx, by simpa using hxe, .inr (hbel x hx)⟩
theorem BMid.last {r c : Nat} {m : List (List Int)} {j : Nat} {e0 : Node} {acc : List Node} (h : BMid r c m j e0 (switchesOf r c e0.1) acc) : BInv r c m (j + 1) acc := by
  refine ⟨h.zero, h.sorted, h.path, h.nodup, fun i e hi he s hs => ?_, fun e he x hx s => ?_, h.len⟩
  · by_cases hij : i = j
    · subst hij
      rw [h.at0] at he
      obtain rfl := Option.some.inj he
      exact h.doneJ s (switchesOf_mem.2 hs)
    · exact h.done i e (by omega) he s hs
  · have hlt : slt e0.2 e.2 := by
      have hs := h.sorted
      rw [List.pairwise_iff_getElem] at hs
      obtain ⟨h1, e1⟩ := List.getElem?_eq_some_iff.1 h.at0
      obtain ⟨h2, e2⟩ := List.getElem?_eq_some_iff.1 he
      have := hs j (j + 1) h1 h2 (by omega)
      rwa [e1, e2] at this
    rcases h.below x hx with h1 | ⟨s1, -, h2⟩
    · exact slt_trans (h1 s) (slt_snoc s s hlt)
    · rw [h2]; exact slt_snoc s1 s hlt
theorem BInv.min {r c : Nat} {m : List (List Int)} {j : Nat} {acc : List Node} (h : BInv r c m j acc) (hj : acc.length ≤ j) : ∀ (n : Nat) (q : List Sw) (y : List (List Int)), q.length = n → IsPath r c m q y → ∃ e ∈ acc, e.1 = y ∧ sle e.2 q := by
  intro n
  induction n with
  | zero =>
    intro q y hq hp
    have : q = [] := List.eq_nil_of_length_eq_zero hq
    subst this
    exact ⟨(m, []), List.mem_of_getElem? h.zero, hp, .inl rfl⟩
  | succ n ih =>
    intro q y hq hp
    have hne : q ≠ [] := by intro e; rw [e] at hq; simp at hq
    have e := List.dropLast_concat_getLast hne
    rw [← e] at hp
    obtain ⟨x, h1, h2, h3⟩ := isPath_snoc.1 hp
    obtain ⟨e1, m1, m2, m3⟩ := ih q.dropLast x (by rw [List.length_dropLast]; omega) h1
    obtain ⟨i, hi⟩ := List.getElem?_of_mem m1
    have hil := (List.getElem?_eq_some_iff.1 hi).1
    rw [← m2] at h2 h3
    obtain ⟨e', k1, k2, k3⟩ := h.done i e1 (by omega) hi _ h2
    refine ⟨e', k1, k2.trans h3, ?_⟩
    rw [← e]
    exact sle_trans k3 (sle_snoc _ m3)
def Least (r c : Nat) (g t : List (List Int)) (W : List Sw) : Prop := IsPath r c g W t ∧ ∀ q, IsPath r c g q t → sle W q
theorem Least.eq {r c : Nat} {g t : List (List Int)} {W V : List Sw} (h1 : Least r c g t W) (h2 : Least r c g t V) : W = V := sle_antisymm (h1.2 V h2.1) (h2.2 W h1.1)
theorem sle_len {p q : List Sw} (h : sle p q) : p.length ≤ q.length := by
  rcases h with rfl | h | ⟨h, -⟩
  · exact Nat.le_refl _
  · omega
  · omega
theorem BInv.least {r c : Nat} {m : List (List Int)} {j : Nat} {acc : List Node} (h : BInv r c m j acc) (hj : acc.length ≤ j) {e : Node} (he : e ∈ acc) : Least r c m e.1 e.2 := by
  refine ⟨h.path e he, fun q hq => ?_⟩
  obtain ⟨e', h1, h2, h3⟩ := h.min hj _ q e.1 rfl hq
  have : e' = e := by
    have hn := h.nodup
    rw [List.pairwise_iff_getElem] at hn
    obtain ⟨i, hi, rfl⟩ := List.getElem_of_mem he
    obtain ⟨k, hk, rfl⟩ := List.getElem_of_mem h1
    by_cases e : i = k
    · subst e; rfl
    · rcases Nat.lt_or_gt_of_ne e with h | h
      · exact absurd h2.symm (hn i k hi hk h)
      · exact absurd h2 (hn k i hk hi h)
  rw [← this]; exact h3
def Far (r c : Nat) (t g : List (List Int)) (n : Nat) : Prop := (∃ p, IsPath r c t p g ∧ p.length = n) ∧ ∀ q, IsPath r c t q g → n ≤ q.length
theorem Far.eq {r c : Nat} {t g : List (List Int)} {n k : Nat} (h1 : Far r c t g n) (h2 : Far r c t g k) : n = k := by
  obtain ⟨p, hp, rfl⟩ := h1.1
  obtain ⟨q, hq, rfl⟩ := h2.1
  have := h1.2 q hq
  have := h2.2 p hp
  omega
theorem Least.far {r c : Nat} {t g : List (List Int)} {W : List Sw} (h : Least r c t g W) : Far r c t g W.length := ⟨⟨W, h.1, rfl⟩, fun q hq => sle_len (h.2 q hq)⟩
theorem far_step {r c : Nat} {t g : List (List Int)} {n k : Nat} {s : Sw} (hg : Shape r c g) (h1 : Far r c t g n) (hs : SwOk r c g s) (h2 : Far r c t (applyS g s) k) : n ≤ k + 1 ∧ k ≤ n + 1 := by
  obtain ⟨p, hp, rfl⟩ := h1.1
  obtain ⟨q, hq, rfl⟩ := h2.1
  have a := h2.2 (p ++ [s]) (isPath_snoc.2 ⟨g, hp, hs, rfl⟩)
  have b := h1.2 (q ++ [s]) (isPath_snoc.2 ⟨_, hq, applyS_ok hg hs, applyS_twice hg hs⟩)
  simp at a b
  omega
theorem far_zero {r c : Nat} {t g : List (List Int)} (h : Far r c t g 0) : t = g := by
  obtain ⟨p, hp, hl⟩ := h.1
  have : p = [] := List.eq_nil_of_length_eq_zero hl
  subst this
  exact hp
theorem far_self (r c : Nat) (t : List (List Int)) : Far r c t t 0 := ⟨⟨[], rfl, rfl⟩, fun _ _ => Nat.zero_le _⟩
theorem far_down {r c : Nat} {t g : List (List Int)} {n : Nat} (ht : Shape r c t) (h : Far r c t g (n + 1)) : ∃ s, SwOk r c g s ∧ ∃ p, IsPath r c t p (applyS g s) ∧ p.length = n := by
  obtain ⟨p, hp, hl⟩ := h.1
  have hne : p ≠ [] := by intro e; rw [e] at hl; simp at hl
  have e := List.dropLast_concat_getLast hne
  rw [← e] at hp
  obtain ⟨x, h1, h2, h3⟩ := isPath_snoc.1 hp
  have hx := h1.shape ht
  refine ⟨p.getLast hne, ?_, p.dropLast, ?_, by rw [List.length_dropLast]; omega⟩
  · rw [← h3]; exact applyS_ok hx h2
  · rw [← h3, applyS_twice hx h2]; exact h1
theorem code_inj {r c : Nat} (hr : r ≤ 5) (hc : c ≤ 5) {g : List (List Int)} {s t : Sw} (hs : SwOk r c g s) (ht : SwOk r c g t) (h : Sw.code s = Sw.code t) : s = t := by
  obtain ⟨a, b, x, y⟩ := s
  obtain ⟨a', b', x', y'⟩ := t
  obtain ⟨h1, h2, h3, h4, -⟩ := hs
  obtain ⟨k1, k2, k3, k4, -⟩ := ht
  unfold Sw.code at h
  simp only [Sw.y1, Sw.y2, Sw.x1, Sw.x2] at *
  have e1 : a = a' := by omega
  have e2 : b = b' := by omega
  have e3 : x = x' := by omega
  have e4 : y = y' := by omega
  rw [e1, e2, e3, e4]
inductive Down (r c : Nat) (t : List (List Int)) : List (List Int) → List Sw → Prop
  | done : Down r c t t []
  | step {g : List (List Int)} {n : Nat} {s : Sw} {p : List Sw} : Far r c t g (n + 1) → SwOk r c g s → Far r c t (applyS g s) n → (∀ s', SwOk r c g s' → Sw.code s' < Sw.code s → ∀ k, Far r c t (applyS g s') k → n + 1 ≤ k) → Down r c t (applyS g s) p → Down r c t g (s :: p)
theorem Down.far {r c : Nat} {t g : List (List Int)} {p : List Sw} (h : Down r c t g p) : Far r c t g p.length := by
  induction h with
  | done => exact far_self r c t
  | step h1 _ h2 _ _ ih =>
    have := h2.eq ih
    rw [List.length_cons, ← this]; exact h1
theorem Down.path {r c : Nat} {t g : List (List Int)} {p : List Sw} (h : Down r c t g p) : IsPath r c g p t := by
  induction h with
  | done => exact rfl
  | step _ hs _ _ _ ih => exact ⟨hs, ih⟩
theorem Down.least {r c : Nat} (hr : r ≤ 5) (hc : c ≤ 5) {t g : List (List Int)} {p : List Sw} (hg : Shape r c g) (_ : Shape r c t) (hconn : ∀ h, Shape r c h → (∃ q, IsPath r c h q t) → ∃ k, Far r c t h k) (h : Down r c t g p) : Least r c g t p := by
  refine ⟨h.path, ?_⟩
  induction h with
  | done =>
    intro q hq
    cases q with
    | nil => exact .inl rfl
    | cons s q => exact .inr (.inl (by simp))
  | @step g n s p h1 hs h2 hmin hd ih =>
    intro q hq
    have hl : n + 1 ≤ q.length := by
      have := h1.2 q.reverse (hq.rev hg)
      simpa using this
    have hpl : (s :: p).length = n + 1 := by
      have := (Down.step h1 hs h2 hmin hd).far.eq h1
      exact this
    by_cases hq1 : q.length = n + 1
    · cases q with
      | nil => simp at hq1
      | cons s' q =>
        have hq2 : q.length = n := by simpa using hq1
        have hg' := applyS_shape hg hq.1
        obtain ⟨k, hk⟩ := hconn _ hg' ⟨q, hq.2⟩
        have hkn : k ≤ n := by
          have := hk.2 q.reverse (hq.2.rev hg')
          simp at this; omega
        have hcode : ¬ Sw.code s' < Sw.code s := fun hlt => by
          have := hmin s' hq.1 hlt k hk; omega
        by_cases he : Sw.code s' = Sw.code s
        · have es := code_inj hr hc hq.1 hs he
          subst es
          rcases ih (applyS_shape hg hs) q hq.2 with e | e | ⟨e1, e2⟩
          · rw [e]; exact .inl rfl
          · exact .inr (.inl (by simpa using e))
          · exact .inr (.inr ⟨by simp [e1], .inr ⟨rfl, e2⟩⟩)
        · exact .inr (.inr ⟨by rw [hpl, hq1], .inl (by omega)⟩)
    · exact .inr (.inl (by rw [hpl]; omega))
theorem BInv.bound {xs ys : List Int} {m : List (List Int)} {j : Nat} {acc : List Node} (hok : sumsOk xs ys = true) (hm : Sums xs ys xs.length ys.length m) (h : BInv xs.length ys.length m j acc) : acc.length ≤ (allImgs xs ys).length :=
  nodup_len (fun e : Node => e.1) acc (allImgs xs ys) h.nodup fun e he => (allImgs_mem hok e.1).2 ((h.path e he).sums hm)
theorem BMid.bound {xs ys : List Int} {m : List (List Int)} {j : Nat} {e0 : Node} {ss : List Sw} {acc : List Node} (hok : sumsOk xs ys = true) (hm : Sums xs ys xs.length ys.length m) (h : BMid xs.length ys.length m j e0 ss acc) : acc.length ≤ (allImgs xs ys).length :=
  nodup_len (fun e : Node => e.1) acc (allImgs xs ys) h.nodup fun e he => (allImgs_mem hok e.1).2 ((h.path e he).sums hm)
theorem BInv.found {xs ys : List Int} {r c : Nat} {m g : List (List Int)} {j : Nat} {acc : List Node} (h : BInv r c m j acc) (hj : acc.length ≤ j) (hm : Sums xs ys r c m) (hg : Sums xs ys r c g) : ∃ e ∈ acc, e.1 = g := by
  obtain ⟨p, hp⟩ := (ryser_join hm hg).path
  obtain ⟨e, h1, h2, -⟩ := h.min hj _ p g rfl hp
  exact ⟨e, h1, h2⟩
def sw4 (r c : Nat) (m : List (List Int)) (a b x y : Nat) : List Sw := ((List.range y).map fun y' => ((a, b, x, y') : Sw)).filter fun s => decide (SwOk r c m s)
def sw3 (r c : Nat) (m : List (List Int)) (a b x : Nat) : List Sw := (List.range x).flatMap fun x' => sw4 r c m a b x' c
def sw2 (r c : Nat) (m : List (List Int)) (a b : Nat) : List Sw := (List.range b).flatMap fun b' => sw3 r c m a b' c
def sw1 (r c : Nat) (m : List (List Int)) (a : Nat) : List Sw := (List.range a).flatMap fun a' => sw2 r c m a' r
theorem sw4_succ {r c : Nat} {m : List (List Int)} {a b x y : Nat} : sw4 r c m a b x (y + 1) = sw4 r c m a b x y ++ (if SwOk r c m (a, b, x, y) then [(a, b, x, y)] else []) := by
  unfold sw4
  rw [List.range_succ, List.map_append, List.filter_append]
  by_cases h : SwOk r c m (a, b, x, y) <;> simp [h]
theorem sw4_zero {r c : Nat} {m : List (List Int)} {a b x : Nat} : sw4 r c m a b x (x + 1) = [] := by
  unfold sw4
  rw [List.filter_eq_nil_iff]
  intro s hs
  obtain ⟨y, hy, rfl⟩ := List.mem_map.1 hs
  rw [List.mem_range] at hy
  rw [decide_eq_true_eq]
  intro h
  have h3 : x < y := h.2.2.1
  omega
theorem sw3_zero {r c : Nat} {m : List (List Int)} {a b : Nat} : sw3 r c m a b 0 = [] := rfl
theorem sw3_succ {r c : Nat} {m : List (List Int)} {a b x : Nat} : sw3 r c m a b (x + 1) = sw3 r c m a b x ++ sw4 r c m a b x c := by
  unfold sw3
  rw [List.range_succ, List.flatMap_append]; simp
theorem sw3_bad {r c : Nat} {m : List (List Int)} {a b : Nat} (h : b ≤ a) (x : Nat) : sw3 r c m a b x = [] := by
  unfold sw3
  rw [List.flatMap_eq_nil_iff]
  intro x' _
  unfold sw4
  rw [List.filter_eq_nil_iff]
  intro s hs
  obtain ⟨y, hy, rfl⟩ := List.mem_map.1 hs
  rw [decide_eq_true_eq]
  intro hk
  have h1 : a < b := hk.1
  omega
theorem sw2_zero {r c : Nat} {m : List (List Int)} {a : Nat} : sw2 r c m a (a + 1) = [] := by
  unfold sw2
  rw [List.flatMap_eq_nil_iff]
  intro b hb
  rw [List.mem_range] at hb
  exact sw3_bad (by omega) _
theorem sw2_succ {r c : Nat} {m : List (List Int)} {a b : Nat} : sw2 r c m a (b + 1) = sw2 r c m a b ++ sw3 r c m a b c := by
  unfold sw2
  rw [List.range_succ, List.flatMap_append]; simp
theorem sw1_succ {r c : Nat} {m : List (List Int)} {a : Nat} : sw1 r c m (a + 1) = sw1 r c m a ++ sw2 r c m a r := by
  unfold sw1
  rw [List.range_succ, List.flatMap_append]; simp
theorem filter_flat {α β : Type} (p : β → Bool) (f : α → List β) : ∀ l : List α, (l.flatMap f).filter p = l.flatMap fun x => (f x).filter p
  | [] => rfl
  | a :: l => by rw [List.flatMap_cons, List.flatMap_cons, List.filter_append, filter_flat p f l]
theorem flat_congr {α β : Type} {f g : α → List β} : ∀ {l : List α}, (∀ x ∈ l, f x = g x) → l.flatMap f = l.flatMap g
  | [], _ => rfl
  | a :: l, h => by rw [List.flatMap_cons, List.flatMap_cons, h a (by simp), flat_congr fun x hx => h x (by simp [hx])]
theorem sw1_all (r c : Nat) (m : List (List Int)) : sw1 r c m r = switchesOf r c m := by
  unfold switchesOf allSw sw1
  rw [filter_flat]
  refine flat_congr fun a _ => ?_
  unfold sw2
  rw [filter_flat]
  refine flat_congr fun b _ => ?_
  by_cases hab : a < b
  · rw [if_pos hab, filter_flat]
    unfold sw3
    refine flat_congr fun x _ => ?_
    unfold sw4
    rw [filter_flat]
    induction List.range c with
    | nil => rfl
    | cons y l ih =>
      rw [List.map_cons, List.flatMap_cons, List.filter_cons, ih]
      by_cases hxy : x < y
      · rw [if_pos hxy]
        by_cases h : SwOk r c m (a, b, x, y) <;> simp [h]
      · rw [if_neg hxy]
        have h : ¬ SwOk r c m (a, b, x, y) := fun h => hxy h.2.2.1
        simp [h]
  · rw [if_neg hab, sw3_bad (by omega)]
    rfl
def Edge (r : Nat) (g : List (List Int)) (v w : Nat) : Prop := (v < r ∧ r ≤ w ∧ at2 g v (w - r) = 1) ∨ (r ≤ v ∧ w < r ∧ at2 g w (v - r) = 0)
instance (r : Nat) (g : List (List Int)) (v w : Nat) : Decidable (Edge r g v w) := by unfold Edge; infer_instance
inductive Reach (r c : Nat) (g : List (List Int)) (a : Nat) : Nat → Prop
  | refl : Reach r c g a a
  | step {v w : Nat} : Reach r c g a v → Edge r g v w → w < r + c → Reach r c g a w
theorem Reach.lt {r c a v : Nat} {g : List (List Int)} (h : Reach r c g a v) (ha : a < r + c) : v < r + c := by
  cases h with
  | refl => exact ha
  | step _ _ hw => exact hw
theorem Reach.closed {r c a v : Nat} {g : List (List Int)} {S : Nat → Prop} (ha : S a) (hal : a < r + c) (hS : ∀ v w, v < r + c → w < r + c → S v → Edge r g v w → S w) (h : Reach r c g a v) : S v := by
  induction h with
  | refl => exact ha
  | step h1 he hw ih => exact hS _ _ (h1.lt hal) hw ih he
def cellN (c : Nat) (n : Int) (g : List (List Int)) : Int := at2 g (n.toNat / c) (n.toNat % c)
def agreesB (c : Nat) (m h : List (List Int)) (cells : List Int) : Bool := cells.all fun n => decide (cellN c n h = cellN c n m)
def agreeing (c : Nat) (L : List (List (List Int))) (m : List (List Int)) (cells : List Int) : List (List (List Int)) := L.filter fun h => agreesB c m h cells
def cntA (c : Nat) (L : List (List (List Int))) (m : List (List Int)) (cells : List Int) : Nat := (agreeing c L m cells).length
def Rising (N : Nat) (l : List Int) : Prop := l.Pairwise (fun a b => a < b) ∧ ∀ x ∈ l, 0 ≤ x ∧ x < N
theorem agreesB_snoc (c : Nat) (m h : List (List Int)) (cells : List Int) (n : Int) : agreesB c m h (cells ++ [n]) = (agreesB c m h cells && decide (cellN c n h = cellN c n m)) := by
  simp [agreesB]
theorem agreesB_self (c : Nat) (m : List (List Int)) (cells : List Int) : agreesB c m m cells = true := by
  unfold agreesB
  rw [List.all_eq_true]
  intro n _
  simp
theorem agreesB_mem {c : Nat} {m h : List (List Int)} {a b : List Int} (hab : ∀ x, x ∈ a ↔ x ∈ b) : agreesB c m h a = agreesB c m h b := by
  unfold agreesB
  rw [Bool.eq_iff_iff, List.all_eq_true, List.all_eq_true]
  exact ⟨fun h x hx => h x ((hab x).2 hx), fun h x hx => h x ((hab x).1 hx)⟩
theorem cntA_mem {c : Nat} {L : List (List (List Int))} {m : List (List Int)} {a b : List Int} (hab : ∀ x, x ∈ a ↔ x ∈ b) : cntA c L m a = cntA c L m b := by
  unfold cntA agreeing
  rw [show (fun h => agreesB c m h a) = fun h => agreesB c m h b from funext fun h => agreesB_mem hab]
theorem cntA_pos {c : Nat} {L : List (List (List Int))} {m : List (List Int)} (hm : m ∈ L) (cells : List Int) : 1 ≤ cntA c L m cells := by
  have : m ∈ agreeing c L m cells := List.mem_filter.2 ⟨hm, agreesB_self c m cells⟩
  exact List.length_pos_of_mem this
theorem agreeing_snoc (c : Nat) (L : List (List (List Int))) (m : List (List Int)) (cells : List Int) (n : Int) : agreeing c L m (cells ++ [n]) = (agreeing c L m cells).filter fun h => decide (cellN c n h = cellN c n m) := by
  unfold agreeing
  rw [List.filter_filter]
  congr 1
  funext h
  rw [agreesB_snoc, Bool.and_comm]
theorem filter_lt {α : Type} (p : α → Bool) {l : List α} {x : α} (hx : x ∈ l) (hp : p x = false) : (l.filter p).length < l.length := by
  apply Classical.byContradiction
  intro hn
  have h1 := List.length_filter_le p l
  have h2 : (l.filter p).length = l.length := by omega
  have h3 := List.length_filter_eq_length_iff.1 h2 x hx
  rw [hp] at h3
  cases h3
theorem cell_diff {r c : Nat} (hc : 1 ≤ c) {g h : List (List Int)} (hg : Shape r c g) (hh : Shape r c h) (hne : g ≠ h) : ∃ n : Nat, n < r * c ∧ cellN c n g ≠ cellN c n h := by
  apply Classical.byContradiction
  intro hn
  apply hne
  refine hg.ext hh fun i j hi hj => ?_
  show at2 g i j = at2 h i j
  apply Classical.byContradiction
  intro hd
  have hlt : i * c + j < r * c := by
    have : (i + 1) * c ≤ r * c := Nat.mul_le_mul_right c hi
    rw [Nat.succ_mul] at this; omega
  refine hn ⟨i * c + j, hlt, ?_⟩
  unfold cellN
  rw [Int.toNat_natCast, show (i * c + j) / c = i from by rw [Nat.mul_comm, Nat.mul_add_div (by omega), Nat.div_eq_of_lt hj, Nat.add_zero], show (i * c + j) % c = j from by rw [Nat.mul_comm, Nat.mul_add_mod, Nat.mod_eq_of_lt hj]]
  exact hd
theorem cell_more {r c : Nat} (hc : 1 ≤ c) {L : List (List (List Int))} {m : List (List Int)} (hnd : L.Pairwise (fun a b => a ≠ b)) (hL : ∀ g ∈ L, Shape r c g) (hm : m ∈ L) {cells : List Int} (h : 1 < cntA c L m cells) : ∃ n : Nat, n < r * c ∧ cntA c L m (cells ++ [(n : Int)]) < cntA c L m cells := by
  have hex : ∃ g ∈ agreeing c L m cells, g ≠ m := by
    apply Classical.byContradiction
    intro hn
    have hnd2 : (agreeing c L m cells).Pairwise (fun a b => a ≠ b) := hnd.filter _
    have hall : ∀ g ∈ agreeing c L m cells, g = m := fun g hg => Classical.byContradiction fun hne => hn ⟨g, hg, hne⟩
    unfold cntA at h
    rw [List.pairwise_iff_getElem] at hnd2
    exact hnd2 0 1 (by omega) h (by omega) ((hall _ (List.getElem_mem _)).trans (hall _ (List.getElem_mem _)).symm)
  obtain ⟨g, hg, hne⟩ := hex
  have hgL := (List.mem_filter.1 hg).1
  obtain ⟨n, hn, hd⟩ := cell_diff hc (hL g hgL) (hL m hm) hne
  refine ⟨n, hn, ?_⟩
  unfold cntA
  rw [agreeing_snoc]
  exact filter_lt _ hg (by simpa using hd)
theorem cntA_in {c : Nat} {L : List (List (List Int))} {m : List (List Int)} {cells : List Int} {n : Int} (hn : n ∈ cells) : cntA c L m (cells ++ [n]) = cntA c L m cells :=
  cntA_mem fun x => by
    rw [List.mem_append, List.mem_singleton]
    exact ⟨fun h => h.elim id fun e => by rw [e]; exact hn, .inl⟩
def argmin (f : Nat → Nat) : Nat → Nat
  | 0 => 0
  | n + 1 => if n = 0 then 0 else if f n < f (argmin f n) then n else argmin f n
theorem argmin_spec (f : Nat → Nat) : ∀ n, 1 ≤ n → argmin f n < n ∧ ∀ k, k < n → f (argmin f n) ≤ f k := by
  intro n
  induction n with
  | zero => intro h; omega
  | succ n ih =>
    intro _
    rw [argmin]
    by_cases h0 : n = 0
    · rw [if_pos h0]
      exact ⟨by omega, fun k hk => by rw [show k = 0 by omega]; exact Nat.le_refl _⟩
    · rw [if_neg h0]
      obtain ⟨h1, h2⟩ := ih (by omega)
      split
      · exact ⟨by omega, fun k hk => by
          by_cases e : k = n
          · rw [e]; exact Nat.le_refl _
          · have := h2 k (by omega); omega⟩
      · exact ⟨by omega, fun k hk => by
          by_cases e : k = n
          · rw [e]; omega
          · exact h2 k (by omega)⟩
theorem argmin_one (f : Nat → Nat) : argmin f 1 = 0 := by rw [argmin, if_pos rfl]
theorem argmin_step {f : Nat → Nat} {n : Nat} (h : 1 ≤ n) : argmin f (n + 1) = if f n < f (argmin f n) then n else argmin f n := by rw [argmin, if_neg (by omega)]
def insS (n : Int) : List Int → List Int
  | [] => [n]
  | x :: l => if n < x then n :: x :: l else x :: insS n l
theorem insS_perm (n : Int) : ∀ l : List Int, (insS n l).Perm (l ++ [n])
  | [] => List.Perm.refl _
  | x :: l => by
    unfold insS
    split
    · exact List.perm_append_comm (l₁ := [n]) (l₂ := x :: l)
    · exact List.Perm.cons x (insS_perm n l)
theorem insS_rising {N : Nat} {n : Int} {l : List Int} (h : Rising N l) (hn : n ∉ l) (h0 : 0 ≤ n) (h1 : n < N) : Rising N (insS n l) := by
  refine ⟨?_, fun x hx => ?_⟩
  · have hp := h.1
    clear h
    induction l with
    | nil => exact List.pairwise_singleton _ _
    | cons a l ih =>
      rw [List.pairwise_cons] at hp
      unfold insS
      split
      · rename_i hlt
        rw [List.pairwise_cons, List.pairwise_cons]
        refine ⟨fun b hb => ?_, hp⟩
        rcases List.mem_cons.1 hb with rfl | hb
        · exact hlt
        · have := hp.1 b hb; omega
      · rename_i hge
        rw [List.pairwise_cons]
        refine ⟨fun b hb => ?_, ih (fun e => hn (List.mem_cons_of_mem _ e)) hp.2⟩
        rcases List.mem_append.1 ((insS_perm n l).mem_iff.1 hb) with hb | hb
        · exact hp.1 b hb
        · rw [List.mem_singleton] at hb
          have : n ≠ a := fun e => hn (by rw [e]; simp)
          omega
  · rcases List.mem_append.1 ((insS_perm n l).mem_iff.1 hx) with hb | hb
    · exact h.2 x hb
    · rw [List.mem_singleton] at hb; omega
theorem rising_eq {a b : List Int} (hp : a.Perm b) (h1 : a.Pairwise (fun x y => x < y)) (h2 : b.Pairwise (fun x y => x < y)) : a = b :=
  sorted_eq (fun x h => by omega) (fun x y h k => by omega) h1 h2 fun _ => hp.mem_iff
def nextCell (c N : Nat) (L : List (List (List Int))) (m : List (List Int)) (cells : List Int) : Nat := argmin (fun k => cntA c L m (cells ++ [(k : Int)])) N
def greedy (c N : Nat) (L : List (List (List Int))) (m : List (List Int)) : Nat → List Int → List Int
  | 0, out => out
  | f + 1, out => if cntA c L m out ≤ 1 then out else greedy c N L m f (insS (nextCell c N L m out) out)
theorem greedy_done {c N : Nat} {L : List (List (List Int))} {m : List (List Int)} {out : List Int} (h : cntA c L m out ≤ 1) (f : Nat) : greedy c N L m f out = out := by
  cases f with
  | zero => rfl
  | succ f => rw [greedy, if_pos h]
theorem greedy_step {c N : Nat} {L : List (List (List Int))} {m : List (List Int)} {out : List Int} (h : ¬ cntA c L m out ≤ 1) (f : Nat) : greedy c N L m (f + 1) out = greedy c N L m f (insS (nextCell c N L m out) out) := by
  rw [greedy, if_neg h]
theorem next_spec {r c : Nat} (hr : 1 ≤ r) (hc : 1 ≤ c) {L : List (List (List Int))} {m : List (List Int)} (hnd : L.Pairwise (fun a b => a ≠ b)) (hL : ∀ g ∈ L, Shape r c g) (hm : m ∈ L) {cells : List Int} (hris : Rising (r * c) cells) (h : ¬ cntA c L m cells ≤ 1) :
    nextCell c (r * c) L m cells < r * c ∧ ((nextCell c (r * c) L m cells : Nat) : Int) ∉ cells ∧ cntA c L m (cells ++ [((nextCell c (r * c) L m cells : Nat) : Int)]) < cntA c L m cells ∧ Rising (r * c) (insS (nextCell c (r * c) L m cells) cells) ∧
    cntA c L m (insS (nextCell c (r * c) L m cells) cells) < cntA c L m cells := by
  have hN : 1 ≤ r * c := Nat.mul_pos hr hc
  obtain ⟨h1, h2⟩ := argmin_spec (fun k => cntA c L m (cells ++ [(k : Int)])) (r * c) hN
  obtain ⟨n, hn, hlt⟩ := cell_more hc hnd hL hm (by omega : 1 < cntA c L m cells)
  have h3 := h2 n hn
  have h4 : cntA c L m (cells ++ [((nextCell c (r * c) L m cells : Nat) : Int)]) < cntA c L m cells := Nat.lt_of_le_of_lt h3 hlt
  have h5 : ((nextCell c (r * c) L m cells : Nat) : Int) ∉ cells := fun e => by rw [cntA_in e] at h4; omega
  refine ⟨h1, h5, h4, insS_rising hris h5 (by omega) (by have : nextCell c (r * c) L m cells < r * c := h1
                                                         omega), ?_⟩
  rw [cntA_mem (b := cells ++ [((nextCell c (r * c) L m cells : Nat) : Int)]) fun x => (insS_perm _ cells).mem_iff]
  exact h4
theorem greedy_enough {r c : Nat} (hr : 1 ≤ r) (hc : 1 ≤ c) {L : List (List (List Int))} {m : List (List Int)} (hnd : L.Pairwise (fun a b => a ≠ b)) (hL : ∀ g ∈ L, Shape r c g) (hm : m ∈ L) : ∀ (f : Nat) (cells : List Int), Rising (r * c) cells → cntA c L m cells ≤ f + 1 →
    Rising (r * c) (greedy c (r * c) L m f cells) ∧ cntA c L m (greedy c (r * c) L m f cells) = 1 := by
  intro f
  induction f with
  | zero =>
    intro cells hris hcnt
    exact ⟨hris, by have := cntA_pos (c := c) hm cells; show cntA c L m cells = 1; omega⟩
  | succ f ih =>
    intro cells hris hcnt
    by_cases h : cntA c L m cells ≤ 1
    · rw [greedy_done h]
      exact ⟨hris, by have := cntA_pos (c := c) hm cells; omega⟩
    · rw [greedy_step h]
      obtain ⟨-, -, -, h4, h5⟩ := next_spec hr hc hnd hL hm hris h
      exact ih _ h4 (by omega)
def lexI : List Int → List Int → Prop
  | a :: p, b :: q => a < b ∨ (a = b ∧ lexI p q)
  | _, _ => False
def revLe (p q : List Int) : Prop := p.length < q.length ∨ (p.length = q.length ∧ (p = q ∨ lexI p q))
theorem lexI_asymm : ∀ {p q : List Int}, lexI p q → lexI q p → False
  | [], _, h, _ => h
  | _ :: _, [], h, _ => h
  | a :: p, b :: q, h1, h2 => by
    rcases h1 with h1 | ⟨rfl, h1⟩
    · rcases h2 with h2 | ⟨e, -⟩ <;> omega
    · rcases h2 with h2 | ⟨-, h2⟩
      · omega
      · exact lexI_asymm h1 h2
theorem revLe_antisymm {p q : List Int} (h1 : revLe p q) (h2 : revLe q p) : p = q := by
  rcases h1 with h1 | ⟨e1, h1⟩
  · rcases h2 with h2 | ⟨e2, -⟩ <;> omega
  · rcases h1 with h1 | h1
    · exact h1
    · rcases h2 with h2 | ⟨-, h2⟩
      · omega
      · rcases h2 with h2 | h2
        · exact h2.symm
        · exact (lexI_asymm h1 h2).elim
def LeastRev (f : List Int → Bool) (N : Nat) (W : List Int) : Prop := (Rising N W ∧ f W = true) ∧ ∀ q, Rising N q → f q = true → revLe W q
theorem LeastRev.eq {f : List Int → Bool} {N : Nat} {W V : List Int} (h1 : LeastRev f N W) (h2 : LeastRev f N V) : W = V := revLe_antisymm (h1.2 V h2.1.1 h2.1.2) (h2.2 W h1.1.1 h1.1.2)
def RisFrom (N first : Nat) (l : List Int) : Prop := l.Pairwise (fun a b => a < b) ∧ ∀ x ∈ l, (first : Int) ≤ x ∧ x < N
theorem RisFrom.cons {N first : Nat} {a : Int} {l : List Int} (h : RisFrom N first (a :: l)) : ∃ k, first + k < N ∧ a = ((first + k : Nat) : Int) ∧ RisFrom N (first + k + 1) l := by
  have ha := h.2 a (by simp)
  refine ⟨a.toNat - first, by omega, by omega, ?_⟩
  have hp := h.1
  rw [List.pairwise_cons] at hp
  refine ⟨hp.2, fun x hx => ⟨?_, (h.2 x (List.mem_cons_of_mem _ hx)).2⟩⟩
  have := hp.1 x hx
  omega
theorem ris_zero {N : Nat} {l : List Int} : RisFrom N 0 l ↔ Rising N l := by unfold RisFrom Rising; simp
theorem rising_len {N : Nat} : ∀ {l : List Int} {first : Nat}, RisFrom N first l → first ≤ N → l.length + first ≤ N
  | [], first, _, h => by simpa using h
  | a :: l, first, h, _ => by
    obtain ⟨k, h1, -, h3⟩ := h.cons
    have := rising_len h3 (by omega)
    rw [List.length_cons]; omega
instance lexIDec : (p q : List Int) → Decidable (lexI p q)
  | [], _ => isFalse fun h => h
  | _ :: _, [] => isFalse fun h => h
  | a :: p, b :: q => by
    have := lexIDec p q
    unfold lexI; infer_instance
def mag (x : Int) : Int := if x < 0 then -x else x
theorem mag_nn (x : Int) : 0 ≤ mag x := by unfold mag; split <;> omega
theorem mag_sub (x y : Int) : mag (x - y) = mag (y - x) := by unfold mag; split <;> split <;> omega
def gapTo (a b : List Int) : Nat → Int
  | 0 => 0
  | k + 1 => gapTo a b k + mag (a.getD k 0 - b.getD k 0)
def gap (a b : List Int) : Int := gapTo a b a.length
theorem gapTo_succ {a b : List Int} {k : Nat} {x y : Int} (hx : a[k]? = some x) (hy : b[k]? = some y) : gapTo a b (k + 1) = gapTo a b k + mag (x - y) := by
  simp only [gapTo, List.getD, hx, hy, Option.getD_some]
theorem gapTo_bd {a b : List Int} (ha : ∀ x ∈ a, 0 ≤ x ∧ x ≤ 5) (hb : ∀ x ∈ b, 0 ≤ x ∧ x ≤ 5) : ∀ k, 0 ≤ gapTo a b k ∧ gapTo a b k ≤ 5 * k := by
  intro k
  induction k with
  | zero => simp [gapTo]
  | succ k ih =>
    have h1 : 0 ≤ a.getD k 0 ∧ a.getD k 0 ≤ 5 := by
      simp only [List.getD]
      cases h : a[k]? with
      | none => simp
      | some x => simpa using ha x (List.mem_of_getElem? h)
    have h2 : 0 ≤ b.getD k 0 ∧ b.getD k 0 ≤ 5 := by
      simp only [List.getD]
      cases h : b[k]? with
      | none => simp
      | some x => simpa using hb x (List.mem_of_getElem? h)
    simp only [gapTo]
    have h3 : 0 ≤ mag (a.getD k 0 - b.getD k 0) ∧ mag (a.getD k 0 - b.getD k 0) ≤ 5 := by unfold mag; split <;> omega
    omega
def changeOk (rows cols : List Int) (m : List (List Int)) : Bool := sumsFit rows cols && imageOk m && decide (m.length = rows.length) && decide ((m.headD []).length = cols.length)
def changeOf (rows cols : List Int) (m : List (List Int)) : Int := if changeOk rows cols m then gap rows (rowSumsOf m) + gap cols (colSumsOf m) else -1
theorem rowSums_bd {r c : Nat} {m : List (List Int)} (h : Shape r c m) (hc : c ≤ 5) : ∀ x ∈ m.map sumL, 0 ≤ x ∧ x ≤ 5 := by
  intro x hx
  obtain ⟨row, hr, rfl⟩ := List.mem_map.1 hx
  have h1 := h.sum_bd' hr
  have := (h.2 row hr).1
  omega
theorem rowSumsOf_ok {r c : Nat} {m : List (List Int)} (h : Shape r c m) (h1 : 1 ≤ r) (h2 : r ≤ 5) (h3 : 1 ≤ c) (h4 : c ≤ 5) : rowSumsOf m = m.map sumL := by unfold rowSumsOf; rw [if_pos (h.ok h1 h2 h3 h4)]
theorem trOf_ok {r c : Nat} {m : List (List Int)} (h : Shape r c m) (h1 : 1 ≤ r) (h2 : r ≤ 5) (h3 : 1 ≤ c) (h4 : c ≤ 5) : trOf m = tr m := by unfold trOf; rw [if_pos (h.ok h1 h2 h3 h4)]
theorem colSumsOf_ok {r c : Nat} {m : List (List Int)} (h : Shape r c m) (h1 : 1 ≤ r) (h2 : r ≤ 5) (h3 : 1 ≤ c) (h4 : c ≤ 5) : colSumsOf m = (tr m).map sumL := by
  unfold colSumsOf
  rw [trOf_ok h h1 h2 h3 h4, rowSumsOf_ok (h.tr h1) h3 h4 h1 h2]
theorem rowSumsOf_wf {r c : Nat} {m : List (List Int)} (h : Shape r c m) (h1 : 1 ≤ r) (h2 : r ≤ 5) (h3 : 1 ≤ c) (h4 : c ≤ 5) : (rowSumsOf m).length = r ∧ ∀ x ∈ rowSumsOf m, 0 ≤ x ∧ x ≤ 5 := by
  rw [rowSumsOf_ok h h1 h2 h3 h4]
  exact ⟨by simp [h.1], rowSums_bd h h4⟩
theorem colSumsOf_wf {r c : Nat} {m : List (List Int)} (h : Shape r c m) (h1 : 1 ≤ r) (h2 : r ≤ 5) (h3 : 1 ≤ c) (h4 : c ≤ 5) : (colSumsOf m).length = c ∧ ∀ x ∈ colSumsOf m, 0 ≤ x ∧ x ≤ 5 := by
  rw [colSumsOf_ok h h1 h2 h3 h4]
  exact ⟨by simp [(h.tr h1).1], rowSums_bd (h.tr h1) h2⟩
structure ChangeAt (rows cols : List Int) (m : List (List Int)) (r c : Nat) : Prop where
  r1 : 1 ≤ r
  r4 : r ≤ 4
  c1 : 1 ≤ c
  c4 : c ≤ 4
  rl : rows.length = r
  cl : cols.length = c
  sh : Shape r c m
  rb : ∀ x ∈ rows, 0 ≤ x ∧ x ≤ 5
  cb : ∀ x ∈ cols, 0 ≤ x ∧ x ≤ 5
theorem sumsFit_iff {rows cols : List Int} (h : sumsFit rows cols = true) : 1 ≤ rows.length ∧ rows.length ≤ 4 ∧ 1 ≤ cols.length ∧ cols.length ≤ 4 ∧ (∀ x ∈ rows, 0 ≤ x ∧ x ≤ cols.length) ∧ (∀ x ∈ cols, 0 ≤ x ∧ x ≤ rows.length) := by
  unfold sumsFit at h
  simp only [Bool.and_eq_true, inR_iff, List.all_eq_true] at h
  obtain ⟨⟨⟨h1, h2⟩, h3⟩, h4⟩ := h
  exact ⟨by omega, by omega, by omega, by omega, h3, h4⟩
theorem changeOk_at {rows cols : List Int} {m : List (List Int)} (h : changeOk rows cols m = true) : ∃ r c, ChangeAt rows cols m r c := by
  unfold changeOk at h
  simp only [Bool.and_eq_true, decide_eq_true_eq] at h
  obtain ⟨⟨⟨h1, h2⟩, h3⟩, h4⟩ := h
  obtain ⟨r, c, a1, a2, a3, a4, hs⟩ := imageOk_shape h2
  obtain ⟨k1, k2, k3, k4, k5, k6⟩ := sumsFit_iff h1
  have e1 := hs.1
  have e2 := hs.head a1
  exact ⟨r, c, a1, by omega, a3, by omega, by omega, by omega, hs, fun x hx => by have := k5 x hx; omega, fun x hx => by have := k6 x hx; omega⟩
theorem changeOf_bd {rows cols : List Int} {m : List (List Int)} (h : changeOk rows cols m = true) : 0 ≤ changeOf rows cols m ∧ changeOf rows cols m ≤ 40 := by
  obtain ⟨r, c, H⟩ := changeOk_at h
  obtain ⟨h1, h2, h3, h4, h5, h6, hs, hrb, hcb⟩ := H
  unfold changeOf
  rw [if_pos h]
  have a1 := gapTo_bd hrb (rowSumsOf_wf hs h1 (by omega) h3 (by omega)).2 rows.length
  have a2 := gapTo_bd hcb (colSumsOf_wf hs h1 (by omega) h3 (by omega)).2 cols.length
  unfold gap
  omega
def imgTo (r c key n : Nat) : List (List Int) := (List.range r).map fun y => (List.range c).map fun x => if y * c + x < n then bitCell (r * c) key (y * c + x) else 0
theorem imgTo_zero (r c key : Nat) : imgTo r c key 0 = zeros r c := by
  simp [imgTo, zeros, List.map_const']
theorem imgTo_all (r c key : Nat) : imgTo r c key (r * c) = imgOf r c key := by
  unfold imgTo imgOf imgFrom
  apply List.map_congr_left
  intro y hy
  apply List.map_congr_left
  intro x hx
  rw [List.mem_range] at hx hy
  have h1 : y * c + x < r * c := by
    have : (y + 1) * c ≤ r * c := Nat.mul_le_mul_right _ hy
    rw [Nat.succ_mul] at this
    omega
  rw [if_pos h1, if_pos (Nat.zero_le _)]
theorem imgTo_row {r c key n y : Nat} (hy : y < r) : (imgTo r c key n)[y]? = some ((List.range c).map fun x => if y * c + x < n then bitCell (r * c) key (y * c + x) else 0) := by simp [imgTo, hy]
theorem imgTo_step {r c key n : Nat} (hc : 0 < c) (hn : n < r * c) {row : List Int} (hrow : (imgTo r c key n)[n / c]? = some row) : (imgTo r c key n).set (n / c) (row.set (n % c) (bitCell (r * c) key n)) = imgTo r c key (n + 1) := by
  have hy : n / c < r := by rw [Nat.div_lt_iff_lt_mul hc]; exact hn
  have hx : n % c < c := Nat.mod_lt _ hc
  rw [imgTo_row hy] at hrow
  obtain rfl := Option.some.inj hrow
  apply grid_ext (r := r) (c := c) (by simp [imgTo]) (by simp [imgTo])
  intro y hyr
  have hq := imgTo_row (c := c) (key := key) (n := n + 1) hyr
  by_cases hyn : y = n / c
  · refine ⟨_, _, by rw [hyn, List.getElem?_set_self (by simp [imgTo]; exact hy)], hq, by simp, by simp, fun x hxc => ?_⟩
    rw [List.getElem?_set]
    by_cases hxn : n % c = x
    · rw [if_pos hxn, if_pos (by simpa using hx)]
      have e : y * c + x = n := (div_mod_eq hxc).2 ⟨hyn.symm, hxn⟩
      simp [hxc, e]
    · rw [if_neg hxn]
      have e : y * c + x ≠ n := fun h => hxn ((div_mod_eq hxc).1 h).2
      simp only [List.getElem?_map, List.getElem?_range hxc, Option.map_some, ← hyn]
      by_cases h1 : y * c + x < n
      · rw [if_pos h1, if_pos (by omega)]
      · rw [if_neg h1, if_neg (by omega)]
  · refine ⟨_, _, by rw [List.getElem?_set_ne (fun e => hyn e.symm)]; exact imgTo_row hyr, hq, by simp, by simp, fun x hxc => ?_⟩
    have e : y * c + x ≠ n := fun h => hyn ((div_mod_eq hxc).1 h).1.symm
    simp only [List.getElem?_map, List.getElem?_range hxc, Option.map_some]
    by_cases h1 : y * c + x < n
    · rw [if_pos h1, if_pos (by omega)]
    · rw [if_neg h1, if_neg (by omega)]
theorem imgOf_shape (r c key : Nat) : Shape r c (imgOf r c key) := imgFrom_shape _ _ _ _
def closeTo (rows cols : List Int) : Nat → Option (Nat × Int)
  | 0 => none
  | k + 1 => match closeTo rows cols k with
    | none => some (k, changeOf rows cols (imgOf rows.length cols.length k))
    | some (b, l) => if changeOf rows cols (imgOf rows.length cols.length k) < l then some (k, changeOf rows cols (imgOf rows.length cols.length k)) else some (b, l)
def closeOk (rows cols : List Int) : Bool := sumsFit rows cols && decide (rows.length * cols.length ≤ 12)
def closest (rows cols : List Int) : Option (Nat × Int) := if closeOk rows cols then closeTo rows cols (2 ^ (rows.length * cols.length)) else none
theorem changeOk_img {rows cols : List Int} (h : sumsFit rows cols = true) (k : Nat) : changeOk rows cols (imgOf rows.length cols.length k) = true := by
  obtain ⟨k1, k2, k3, k4, k5, k6⟩ := sumsFit_iff h
  have hs := imgOf_shape rows.length cols.length k
  unfold changeOk
  rw [h, hs.ok k1 (by omega) k3 (by omega), hs.1, hs.head k1]
  simp
def closeImg (rows cols : List Int) (x : Option (Nat × Int)) : List (List Int) := match x with | none => [] | some (b, _) => imgOf rows.length cols.length b
def closeNum (x : Option (Nat × Int)) : Int := match x with | none => 0 | some (_, l) => l
def keyC : List Nat → Nat
  | [] => 0
  | b :: l => b * 2 ^ l.length + keyC l
theorem keyC_foldl (l : List Nat) : ∀ k, l.foldl (fun k b => 2 * k + b) k = k * 2 ^ l.length + keyC l := by
  induction l with
  | nil => intro k; simp [keyC]
  | cons b l ih =>
    intro k
    rw [List.foldl_cons, ih, keyC, List.length_cons, Nat.pow_succ, Nat.add_mul]
    rw [Nat.mul_comm 2 k, Nat.mul_assoc, Nat.mul_comm 2 (2 ^ l.length)]
    omega
theorem keyC_lt : ∀ {l : List Nat}, (∀ b ∈ l, b ≤ 1) → keyC l < 2 ^ l.length
  | [], _ => by simp [keyC]
  | b :: l, h => by
    have h1 := h b (by simp)
    have h2 := keyC_lt (l := l) (fun x hx => h x (List.mem_cons_of_mem _ hx))
    rw [keyC, List.length_cons, Nat.pow_succ]
    have : b * 2 ^ l.length ≤ 1 * 2 ^ l.length := Nat.mul_le_mul_right _ h1
    omega
theorem keyC_bit : ∀ {l : List Nat}, (∀ b ∈ l, b ≤ 1) → ∀ {i b : Nat}, l[i]? = some b → keyC l / 2 ^ (l.length - 1 - i) % 2 = b
  | [], _, i, b, h => by simp at h
  | a :: l, h, 0, b, hb => by
    simp at hb
    subst hb
    have h1 := h a (by simp)
    have h2 := keyC_lt (l := l) (fun x hx => h x (List.mem_cons_of_mem _ hx))
    rw [keyC, List.length_cons, Nat.sub_zero, Nat.add_sub_cancel, Nat.mul_comm a, Nat.mul_add_div (Nat.two_pow_pos _), Nat.div_eq_of_lt h2]
    omega
  | a :: l, h, i + 1, b, hb => by
    have hb' : l[i]? = some b := by simpa using hb
    have hi := (List.getElem?_eq_some_iff.1 hb').1
    have ih := keyC_bit (l := l) (fun x hx => h x (List.mem_cons_of_mem _ hx)) hb'
    rw [keyC, List.length_cons]
    obtain ⟨m, hm⟩ : ∃ m, m = l.length - 1 - i := ⟨_, rfl⟩
    rw [show l.length + 1 - 1 - (i + 1) = m by omega]
    rw [← hm] at ih
    obtain ⟨d, hd⟩ : ∃ d, l.length = m + 1 + d := ⟨i, by omega⟩
    have e : a * 2 ^ l.length = 2 ^ m * (2 * (a * 2 ^ d)) := by
      rw [hd, Nat.pow_add, Nat.pow_succ]
      rw [Nat.mul_comm a, Nat.mul_assoc, Nat.mul_assoc, Nat.mul_comm (2 ^ d) a]
    rw [e, Nat.mul_add_div (Nat.two_pow_pos _), Nat.mul_add_mod]
    exact ih
def cellsN (r c : Nat) (g : List (List Int)) : List Nat := (List.range (r * c)).map fun n => (at2 g (n / c) (n % c)).toNat
def keyOfImg (r c : Nat) (g : List (List Int)) : Nat := keyC (cellsN r c g)
theorem cellsN_len (r c : Nat) (g : List (List Int)) : (cellsN r c g).length = r * c := by simp [cellsN]
theorem cellsN_bit {r c : Nat} {g : List (List Int)} (h : Shape r c g) : ∀ b ∈ cellsN r c g, b ≤ 1 := by
  intro b hb
  obtain ⟨n, -, rfl⟩ := List.mem_map.1 hb
  have := at2_bits h (n / c) (n % c)
  omega
theorem keyOfImg_lt {r c : Nat} {g : List (List Int)} (h : Shape r c g) : keyOfImg r c g < 2 ^ (r * c) := by
  have := keyC_lt (cellsN_bit h)
  rwa [cellsN_len] at this
theorem keyOfImg_bit {r c : Nat} {g : List (List Int)} (h : Shape r c g) {n : Nat} (hn : n < r * c) : bitCell (r * c) (keyOfImg r c g) n = at2 g (n / c) (n % c) := by
  have h1 := keyC_bit (cellsN_bit h) (i := n) (b := (at2 g (n / c) (n % c)).toNat) (by unfold cellsN; rw [List.getElem?_map, List.getElem?_range hn]; rfl)
  rw [cellsN_len] at h1
  unfold bitCell keyOfImg
  rw [h1]
  have := at2_bits h (n / c) (n % c)
  omega
theorem imgOf_key {r c : Nat} (hc : 1 ≤ c) {g : List (List Int)} (h : Shape r c g) : imgOf r c (keyOfImg r c g) = g := by
  refine (imgOf_shape r c _).ext h fun i j hi hj => ?_
  show at2 _ i j = at2 g i j
  have hlt : i * c + j < r * c := by
    have : (i + 1) * c ≤ r * c := Nat.mul_le_mul_right c hi
    rw [Nat.succ_mul] at this; omega
  have e1 : (i * c + j) / c = i := by rw [Nat.mul_comm, Nat.mul_add_div (by omega), Nat.div_eq_of_lt hj, Nat.add_zero]
  have e2 : (i * c + j) % c = j := by rw [Nat.mul_comm, Nat.mul_add_mod, Nat.mod_eq_of_lt hj]
  have hb := keyOfImg_bit h hlt
  rw [e1, e2] at hb
  rw [← hb]
  unfold at2 imgOf imgFrom
  rw [gD_some (l := (List.range r).map _) (x := (List.range c).map fun x => if 0 ≤ i * c + x then bitCell (r * c) (keyOfImg r c g) (i * c + x) else 0) (by rw [List.getElem?_map, List.getElem?_range hi]; rfl)]
  rw [gD_some (x := bitCell (r * c) (keyOfImg r c g) (i * c + j))]
  rw [List.getElem?_map, List.getElem?_range hj]; simp
theorem keyOfImg_inj {r c : Nat} (hc : 1 ≤ c) {g h : List (List Int)} (hg : Shape r c g) (hh : Shape r c h) (e : keyOfImg r c g = keyOfImg r c h) : g = h := by
  rw [← imgOf_key hc hg, e, imgOf_key hc hh]
theorem sums_of_image {r c : Nat} {g : List (List Int)} (h : Shape r c g) (h1 : 1 ≤ r) (h2 : r ≤ 5) (h3 : 1 ≤ c) (h4 : c ≤ 5) : Sums (rowSumsOf g) (colSumsOf g) r c g := by
  refine ⟨h, fun i hi => ?_, fun j hj => ?_⟩
  · rw [rowSumsOf_ok h h1 h2 h3 h4]
    obtain ⟨e, -⟩ := at2_row h hi
    rw [gD_some (x := sumL (g.getD i []))]
    rw [List.getElem?_map, e]; rfl
  · rw [colSumsOf_ok h h1 h2 h3 h4]
    have ht := h.tr h1
    obtain ⟨e, -⟩ := at2_row ht hj
    rw [gD_some (x := sumL ((tr g).getD j []))]
    · rw [row_rs ht hj, col_rs h]
      exact rs_congr fun i hi => (at2_tr h h1 hj hi).symm
    · rw [List.getElem?_map, e]; rfl
structure QInv (r c : Nat) (g : List (List Int)) (a : Nat) (q : List Nat) (k w0 : Nat) : Prop where
  nd : q.Pairwise (fun x y => x ≠ y)
  lt : ∀ v ∈ q, v < r + c
  start : a ∈ q
  re : ∀ v ∈ q, Reach r c g a v
  done : ∀ i v w, i < k → q[i]? = some v → w < r + c → Edge r g v w → w ∈ q
  mid : ∀ v w, q[k]? = some v → w < w0 → Edge r g v w → w ∈ q
def seenOf (n : Nat) (q : List Nat) : List Bool := (List.range n).map fun w => decide (w ∈ q)
def intsN (q : List Nat) : List Int := q.map fun v : Nat => (v : Int)
theorem intsN_snoc (q : List Nat) (w : Nat) : intsN (q ++ [w]) = intsN q ++ [(w : Int)] := by simp [intsN]
theorem seenOf_len (n : Nat) (q : List Nat) : (seenOf n q).length = n := by simp [seenOf]
theorem seenOf_at {n w : Nat} (q : List Nat) (h : w < n) : (seenOf n q)[w]? = some (decide (w ∈ q)) := by simp [seenOf, h]
theorem seenOf_set (n : Nat) (q : List Nat) (w : Nat) : (seenOf n q).set w true = seenOf n (q ++ [w]) := by
  apply List.ext_getElem?
  intro i
  rw [List.getElem?_set, seenOf_len]
  by_cases hi : i < n
  · rw [seenOf_at _ hi, seenOf_at _ hi]
    by_cases hw : w = i
    · subst hw; rw [if_pos rfl, if_pos hi]; simp
    · rw [if_neg hw]
      congr 1
      have : (i ∈ q) = (i ∈ q ++ [w]) := by
        simp only [List.mem_append, List.mem_singleton, eq_iff_iff]
        exact ⟨.inl, fun h => h.elim id fun e => absurd e.symm hw⟩
      simp only [this]
  · by_cases hw : w = i
    · rw [if_pos hw, if_neg (by omega), List.getElem?_eq_none (by rw [seenOf_len]; omega)]
    · rw [if_neg hw, List.getElem?_eq_none (by rw [seenOf_len]; omega), List.getElem?_eq_none (by rw [seenOf_len]; omega)]
theorem QInv.add {r c a k v w : Nat} {g : List (List Int)} {q : List Nat} (h : QInv r c g a q k w) (hv : q[k]? = some v) (hw : w < r + c) (he : Edge r g v w) (hn : w ∉ q) : QInv r c g a (q ++ [w]) k (w + 1) where
  nd := by
    rw [List.pairwise_append]
    refine ⟨h.nd, List.pairwise_singleton _ _, fun x hx y hy => ?_⟩
    rw [List.mem_singleton] at hy
    subst hy
    exact fun e => hn (e ▸ hx)
  lt := fun x hx => by
    rcases List.mem_append.1 hx with hx | hx
    · exact h.lt x hx
    · rw [List.mem_singleton] at hx; omega
  start := List.mem_append_left _ h.start
  re := fun x hx => by
    rcases List.mem_append.1 hx with hx | hx
    · exact h.re x hx
    · rw [List.mem_singleton] at hx
      subst hx
      exact (h.re v (List.mem_of_getElem? hv)).step he hw
  done := fun i x y hi hx hy hxy => by
    have hkl := (List.getElem?_eq_some_iff.1 hv).1
    rw [List.getElem?_append_left (by omega)] at hx
    exact List.mem_append_left _ (h.done i x y hi hx hy hxy)
  mid := fun x y hx hy hxy => by
    have hkl := (List.getElem?_eq_some_iff.1 hv).1
    rw [List.getElem?_append_left hkl] at hx
    by_cases e : y = w
    · rw [e]; simp
    · exact List.mem_append_left _ (h.mid x y hx (by omega) hxy)
theorem QInv.next {r c a k w : Nat} {g : List (List Int)} {q : List Nat} (h : QInv r c g a q k w) (hw : r + c ≤ w) : QInv r c g a q (k + 1) 0 :=
  ⟨h.nd, h.lt, h.start, h.re, fun i v y hi hv hy hxy => by
    by_cases e : i = k
    · subst e; exact h.mid v y hv (by omega) hxy
    · exact h.done i v y (by omega) hv hy hxy, fun v y _ hy => by omega⟩
theorem QInv.len {r c a k w : Nat} {g : List (List Int)} {q : List Nat} (h : QInv r c g a q k w) : q.length ≤ r + c := by
  have := nodup_len (fun v : Nat => v) q (List.range (r + c)) h.nd fun v hv => List.mem_range.2 (h.lt v hv)
  rwa [List.length_range] at this
theorem QInv.all {r c a k w : Nat} {g : List (List Int)} {q : List Nat} (h : QInv r c g a q k w) (hk : q.length ≤ k) (ha : a < r + c) : ∀ v, v ∈ q ↔ Reach r c g a v := fun v =>
  ⟨h.re v, fun hr => hr.closed (S := fun v => v ∈ q) h.start ha fun x y _ hy hx he => by
    obtain ⟨i, hi⟩ := List.getElem?_of_mem hx
    exact h.done i x y (by have := (List.getElem?_eq_some_iff.1 hi).1; omega) hi hy he⟩
end Go.Proofs.YthmocomfjgmjoaaGreatDoor

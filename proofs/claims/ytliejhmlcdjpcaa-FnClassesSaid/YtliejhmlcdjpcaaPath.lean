/- The search in breadth for lists of switches: it finds the least one. Plain. -/
import Derived.Test.YtliejhmlcdjpcaaAll2
namespace Go.Proofs.Ytliejhmlcdjpcaa

/-! ### the order of lists of switches -/
def Sw.code (s : Sw) : Nat := s.y1 * 512 + s.y2 * 64 + s.x1 * 8 + s.x2
def lexLt : List Sw → List Sw → Prop
  | s :: p, t :: q => Sw.code s < Sw.code t ∨ (s = t ∧ lexLt p q)
  | _, _ => False
def slt (p q : List Sw) : Prop := p.length < q.length ∨ (p.length = q.length ∧ lexLt p q)
def sle (p q : List Sw) : Prop := p = q ∨ slt p q
theorem lexLt_irrefl : ∀ p, ¬ lexLt p p
  | [], h => h
  | s :: p, h => h.elim (fun h => by omega) fun h => lexLt_irrefl p h.2
theorem lexLt_trans : ∀ {p q r}, lexLt p q → lexLt q r → lexLt p r
  | [], _, _, h, _ => h.elim
  | _ :: _, [], _, h, _ => h.elim
  | _ :: _, _ :: _, [], _, h => h.elim
  | s :: p, t :: q, u :: r, h1, h2 => by
    rcases h1 with h1 | ⟨rfl, h1⟩
    · rcases h2 with h2 | ⟨rfl, -⟩
      · exact .inl (by omega)
      · exact .inl h1
    · rcases h2 with h2 | ⟨rfl, h2⟩
      · exact .inl h2
      · exact .inr ⟨rfl, lexLt_trans h1 h2⟩
theorem slt_irrefl (p : List Sw) : ¬ slt p p := fun h => h.elim (fun h => by omega) fun h => lexLt_irrefl p h.2
theorem slt_trans {p q r : List Sw} (h1 : slt p q) (h2 : slt q r) : slt p r := by
  rcases h1 with h1 | ⟨e1, h1⟩ <;> rcases h2 with h2 | ⟨e2, h2⟩
  · exact .inl (by omega)
  · exact .inl (by omega)
  · exact .inl (by omega)
  · exact .inr ⟨by omega, lexLt_trans h1 h2⟩
theorem sle_trans {p q r : List Sw} (h1 : sle p q) (h2 : sle q r) : sle p r := by
  rcases h1 with rfl | h1
  · exact h2
  · rcases h2 with rfl | h2
    · exact .inr h1
    · exact .inr (slt_trans h1 h2)
theorem sle_antisymm {p q : List Sw} (h1 : sle p q) (h2 : sle q p) : p = q := by
  rcases h1 with h1 | h1
  · exact h1
  · rcases h2 with h2 | h2
    · exact h2.symm
    · exact (slt_irrefl p (slt_trans h1 h2)).elim
theorem lexLt_snoc : ∀ {p q : List Sw} (s t : Sw), lexLt p q → lexLt (p ++ [s]) (q ++ [t])
  | [], _, _, _, h => h.elim
  | _ :: _, [], _, _, h => h.elim
  | _ :: _, _ :: _, s, t, h => h.elim (fun h => .inl h) fun h => .inr ⟨h.1, lexLt_snoc s t h.2⟩
theorem slt_snoc {p q : List Sw} (s t : Sw) (h : slt p q) : slt (p ++ [s]) (q ++ [t]) := by
  rcases h with h | ⟨e, h⟩
  · exact .inl (by simp; omega)
  · exact .inr ⟨by simp [e], lexLt_snoc s t h⟩
theorem lexLt_last (p : List Sw) (s t : Sw) (h : Sw.code s < Sw.code t) : lexLt (p ++ [s]) (p ++ [t]) := by
  induction p with
  | nil =>
    rw [List.nil_append, List.nil_append, lexLt]
    exact Or.inl h
  | cons a p ih =>
    rw [List.cons_append, List.cons_append, lexLt]
    exact Or.inr ⟨rfl, ih⟩
theorem slt_last (p : List Sw) {s t : Sw} (h : Sw.code s < Sw.code t) : slt (p ++ [s]) (p ++ [t]) := .inr ⟨by simp, lexLt_last p s t h⟩
theorem sle_snoc {p q : List Sw} (s : Sw) (h : sle p q) : sle (p ++ [s]) (q ++ [s]) := by
  rcases h with rfl | h
  · exact .inl rfl
  · exact .inr (slt_snoc s s h)
theorem slt_nil (p : List Sw) (s : Sw) : slt [] (p ++ [s]) := .inl (by simp)

/-! ### paths -/
def IsPath (r c : Nat) : List (List Int) → List Sw → List (List Int) → Prop
  | g, [], h => g = h
  | g, s :: p, h => SwOk r c g s ∧ IsPath r c (applyS g s) p h
theorem isPath_snoc {r c : Nat} : ∀ {p : List Sw} {g h : List (List Int)} {s : Sw}, IsPath r c g (p ++ [s]) h ↔ ∃ x, IsPath r c g p x ∧ SwOk r c x s ∧ applyS x s = h
  | [], g, h, s => by
    simp only [List.nil_append, IsPath]
    exact ⟨fun ⟨a, b⟩ => ⟨g, rfl, a, b⟩, fun ⟨x, e, a, b⟩ => by subst e; exact ⟨a, b⟩⟩
  | t :: p, g, h, s => by
    simp only [List.cons_append, IsPath]
    constructor
    · rintro ⟨a, b⟩
      obtain ⟨x, h1, h2⟩ := isPath_snoc.1 b
      exact ⟨x, ⟨a, h1⟩, h2⟩
    · rintro ⟨x, ⟨a, h1⟩, h2⟩
      exact ⟨a, isPath_snoc.2 ⟨x, h1, h2⟩⟩
theorem IsPath.shape {r c : Nat} : ∀ {p : List Sw} {g h : List (List Int)}, IsPath r c g p h → Shape r c g → Shape r c h
  | [], _, _, h, hs => by cases h; exact hs
  | _ :: _, _, _, h, hs => h.2.shape (applyS_shape hs h.1)
theorem IsPath.sums {xs ys : List Int} {r c : Nat} : ∀ {p : List Sw} {g h : List (List Int)}, IsPath r c g p h → Sums xs ys r c g → Sums xs ys r c h
  | [], _, _, h, hs => by cases h; exact hs
  | _ :: _, _, _, h, hs => h.2.sums (applyS_sums hs h.1)
theorem IsPath.rev {r c : Nat} : ∀ {p : List Sw} {g h : List (List Int)}, IsPath r c g p h → Shape r c g → IsPath r c h p.reverse g
  | [], _, _, h, _ => h.symm
  | s :: p, g, h, hp, hs => by
    have h1 := hp.2.rev (applyS_shape hs hp.1)
    rw [List.reverse_cons]
    exact isPath_snoc.2 ⟨_, h1, applyS_ok hs hp.1, applyS_twice hs hp.1⟩
theorem Join.path {r c : Nat} {g h : List (List Int)} (hj : Join r c g h) : ∃ p, IsPath r c g p h := by
  induction hj with
  | refl => exact ⟨[], rfl⟩
  | @step b s _ hs ih =>
    obtain ⟨p, hp⟩ := ih
    exact ⟨p ++ [s], isPath_snoc.2 ⟨_, hp, hs, rfl⟩⟩

/-! ### all switches of an image, in order -/
def allSw (r c : Nat) : List Sw := (List.range r).flatMap fun a => (List.range r).flatMap fun b => if a < b then (List.range c).flatMap fun x => (List.range c).flatMap fun y => if x < y then [(a, b, x, y)] else [] else []
def switchesOf (r c : Nat) (g : List (List Int)) : List Sw := (allSw r c).filter fun s => decide (SwOk r c g s)
theorem allSw_mem {r c : Nat} {s : Sw} : s ∈ allSw r c ↔ s.y1 < s.y2 ∧ s.y2 < r ∧ s.x1 < s.x2 ∧ s.x2 < c := by
  obtain ⟨a, b, x, y⟩ := s
  show _ ↔ a < b ∧ b < r ∧ x < y ∧ y < c
  unfold allSw
  simp only [List.mem_flatMap, List.mem_range]
  constructor
  · rintro ⟨a', ha, b', hb, h⟩
    split at h
    · rename_i hab
      simp only [List.mem_flatMap, List.mem_range] at h
      obtain ⟨x', hx, y', hy, h⟩ := h
      split at h
      · rename_i hxy
        simp only [List.mem_singleton, Prod.mk.injEq] at h
        obtain ⟨rfl, rfl, rfl, rfl⟩ := h
        exact ⟨hab, hb, hxy, hy⟩
      · cases h
    · cases h
  · rintro ⟨h1, h2, h3, h4⟩
    refine ⟨a, by omega, b, h2, ?_⟩
    rw [if_pos h1]
    simp only [List.mem_flatMap, List.mem_range]
    refine ⟨x, by omega, y, h4, ?_⟩
    rw [if_pos h3]; simp
theorem switchesOf_mem {r c : Nat} {g : List (List Int)} {s : Sw} : s ∈ switchesOf r c g ↔ SwOk r c g s := by
  unfold switchesOf
  rw [List.mem_filter, allSw_mem, decide_eq_true_eq]
  exact ⟨fun h => h.2, fun h => ⟨⟨h.1, h.2.1, h.2.2.1, h.2.2.2.1⟩, h⟩⟩
theorem allSw_sorted : ∀ r, r < 6 → ∀ c, c < 6 → (allSw r c).Pairwise (fun s t => Sw.code s < Sw.code t) := by decide +kernel
theorem switchesOf_sorted {r c : Nat} (hr : r ≤ 5) (hc : c ≤ 5) (g : List (List Int)) : (switchesOf r c g).Pairwise (fun s t => Sw.code s < Sw.code t) := (allSw_sorted r (by omega) c (by omega)).filter _

/-! ### the search -/
abbrev Node := List (List Int) × List Sw
def proc1 (e : Node) (acc : List Node) (s : Sw) : List Node := if acc.any (fun x => decide (x.1 = applyS e.1 s)) then acc else acc ++ [(applyS e.1 s, e.2 ++ [s])]
def procAll (e : Node) (acc : List Node) (ss : List Sw) : List Node := ss.foldl (proc1 e) acc
structure BInv (r c : Nat) (m : List (List Int)) (j : Nat) (acc : List Node) : Prop where
  zero : acc[0]? = some (m, [])
  sorted : acc.Pairwise (fun a b => slt a.2 b.2)
  path : ∀ e ∈ acc, IsPath r c m e.2 e.1
  nodup : acc.Pairwise (fun a b => a.1 ≠ b.1)
  done : ∀ i (e : Node), i < j → acc[i]? = some e → ∀ s, SwOk r c e.1 s → ∃ e' ∈ acc, e'.1 = applyS e.1 s ∧ sle e'.2 (e.2 ++ [s])
  next : ∀ e : Node, acc[j]? = some e → ∀ x ∈ acc, ∀ s, slt x.2 (e.2 ++ [s])
  len : ∀ i (e : Node), acc[i]? = some e → e.2.length ≤ i
theorem binv_start (r c : Nat) (m : List (List Int)) : BInv r c m 0 [(m, [])] :=
  ⟨rfl, List.pairwise_singleton _ _, by simp [IsPath], List.pairwise_singleton _ _, fun i e h => by omega, fun e he x hx s => by simp at hx; subst hx; exact slt_nil _ s, fun i e h => by
    cases i with
    | zero => simp at h; subst h; simp
    | succ i => simp at h⟩
/-- in the middle of the switches of the node j: those of ss1 are done -/
structure BMid (r c : Nat) (m : List (List Int)) (j : Nat) (e0 : Node) (ss1 : List Sw) (acc : List Node) : Prop where
  zero : acc[0]? = some (m, [])
  at0 : acc[j]? = some e0
  sorted : acc.Pairwise (fun a b => slt a.2 b.2)
  path : ∀ e ∈ acc, IsPath r c m e.2 e.1
  nodup : acc.Pairwise (fun a b => a.1 ≠ b.1)
  done : ∀ i (e : Node), i < j → acc[i]? = some e → ∀ s, SwOk r c e.1 s → ∃ e' ∈ acc, e'.1 = applyS e.1 s ∧ sle e'.2 (e.2 ++ [s])
  doneJ : ∀ s ∈ ss1, ∃ e' ∈ acc, e'.1 = applyS e0.1 s ∧ sle e'.2 (e0.2 ++ [s])
  below : ∀ x ∈ acc, (∀ s, slt x.2 (e0.2 ++ [s])) ∨ ∃ s1 ∈ ss1, x.2 = e0.2 ++ [s1]
  len : ∀ i (e : Node), acc[i]? = some e → e.2.length ≤ i
theorem BInv.mid {r c : Nat} {m : List (List Int)} {j : Nat} {acc : List Node} (h : BInv r c m j acc) {e0 : Node} (he : acc[j]? = some e0) : BMid r c m j e0 [] acc :=
  ⟨h.zero, he, h.sorted, h.path, h.nodup, h.done, (fun s hs => by cases hs), fun x hx => .inl (h.next e0 he x hx), h.len⟩
theorem BMid.step {r c : Nat} {m : List (List Int)} {j : Nat} {e0 : Node} {ss1 : List Sw} {acc : List Node} (h : BMid r c m j e0 ss1 acc) {s : Sw} (hs : SwOk r c e0.1 s) (hlt : ∀ s1 ∈ ss1, Sw.code s1 < Sw.code s) : BMid r c m j e0 (ss1 ++ [s]) (proc1 e0 acc s) := by
  have hj := (List.getElem?_eq_some_iff.1 h.at0).1
  have hbel : ∀ x ∈ acc, slt x.2 (e0.2 ++ [s]) := fun x hx => by
    rcases h.below x hx with h1 | ⟨s1, h1, h2⟩
    · exact h1 s
    · rw [h2]; exact slt_last _ (hlt s1 h1)
  unfold proc1
  cases hany : acc.any (fun x => decide (x.1 = applyS e0.1 s))
  · rw [if_neg (by simp)]
    have hnew : ∀ x ∈ acc, x.1 ≠ applyS e0.1 s := fun x hx e => by
      rw [Bool.eq_false_iff] at hany
      exact hany (List.any_eq_true.2 ⟨x, hx, by simpa using e⟩)
    refine ⟨?_, ?_, ?_, ?_, ?_, ?_, ?_, ?_, ?_⟩
    · rw [List.getElem?_append_left (by omega)]; exact h.zero
    · rw [List.getElem?_append_left hj]; exact h.at0
    · rw [List.pairwise_append]
      exact ⟨h.sorted, List.pairwise_singleton _ _, fun a ha b hb => by simp at hb; subst hb; exact hbel a ha⟩
    · intro e he
      rcases List.mem_append.1 he with he | he
      · exact h.path e he
      · rw [List.mem_singleton] at he
        subst he
        exact isPath_snoc.2 ⟨e0.1, h.path e0 (List.mem_of_getElem? h.at0), hs, rfl⟩
    · rw [List.pairwise_append]
      exact ⟨h.nodup, List.pairwise_singleton _ _, fun a ha b hb => by simp at hb; subst hb; exact hnew a ha⟩
    · intro i e hi he t ht
      rw [List.getElem?_append_left (by omega)] at he
      obtain ⟨e', h1, h2⟩ := h.done i e hi he t ht
      exact ⟨e', List.mem_append_left _ h1, h2⟩
    · intro t ht
      rcases List.mem_append.1 ht with ht | ht
      · obtain ⟨e', h1, h2⟩ := h.doneJ t ht
        exact ⟨e', List.mem_append_left _ h1, h2⟩
      · rw [List.mem_singleton] at ht
        subst ht
        exact ⟨_, List.mem_append_right _ (List.mem_singleton.2 rfl), rfl, .inl rfl⟩
    · intro x hx
      rcases List.mem_append.1 hx with hx | hx
      · exact (h.below x hx).imp id fun ⟨s1, h1, h2⟩ => ⟨s1, List.mem_append_left _ h1, h2⟩
      · rw [List.mem_singleton] at hx
        subst hx
        exact .inr ⟨s, List.mem_append_right _ (List.mem_singleton.2 rfl), rfl⟩
    · intro i e he
      by_cases hi : i < acc.length
      · rw [List.getElem?_append_left hi] at he; exact h.len i e he
      · have hil := (List.getElem?_eq_some_iff.1 he).1
        rw [List.length_append, List.length_singleton] at hil
        have hi2 : i = acc.length := by omega
        subst hi2
        rw [List.getElem?_append_right (Nat.le_refl _), Nat.sub_self] at he
        simp at he
        subst he
        have := h.len j e0 h.at0
        simp
        omega
  · rw [if_pos rfl]
    obtain ⟨x, hx, hxe⟩ := List.any_eq_true.1 hany
    refine ⟨h.zero, h.at0, h.sorted, h.path, h.nodup, h.done, fun t ht => ?_, fun y hy => (h.below y hy).imp id fun ⟨s1, h1, h2⟩ => ⟨s1, List.mem_append_left _ h1, h2⟩, h.len⟩
    rcases List.mem_append.1 ht with ht | ht
    · exact h.doneJ t ht
    · rw [List.mem_singleton] at ht
      subst ht
      exact ⟨x, hx, by simpa using hxe, .inr (hbel x hx)⟩
theorem BMid.last {r c : Nat} {m : List (List Int)} {j : Nat} {e0 : Node} {acc : List Node} (h : BMid r c m j e0 (switchesOf r c e0.1) acc) : BInv r c m (j + 1) acc := by
  refine ⟨h.zero, h.sorted, h.path, h.nodup, fun i e hi he s hs => ?_, fun e he x hx s => ?_, h.len⟩
  · by_cases hij : i = j
    · subst hij
      rw [h.at0] at he
      obtain rfl := Option.some.inj he
      exact h.doneJ s (switchesOf_mem.2 hs)
    · exact h.done i e (by omega) he s hs
  · have hlt : slt e0.2 e.2 := by
      have hs := h.sorted
      rw [List.pairwise_iff_getElem] at hs
      obtain ⟨h1, e1⟩ := List.getElem?_eq_some_iff.1 h.at0
      obtain ⟨h2, e2⟩ := List.getElem?_eq_some_iff.1 he
      have := hs j (j + 1) h1 h2 (by omega)
      rwa [e1, e2] at this
    rcases h.below x hx with h1 | ⟨s1, -, h2⟩
    · exact slt_trans (h1 s) (slt_snoc s s hlt)
    · rw [h2]; exact slt_snoc s1 s hlt
/-- a search that has come to its end -/
theorem BInv.min {r c : Nat} {m : List (List Int)} {j : Nat} {acc : List Node} (h : BInv r c m j acc) (hj : acc.length ≤ j) : ∀ (n : Nat) (q : List Sw) (y : List (List Int)), q.length = n → IsPath r c m q y → ∃ e ∈ acc, e.1 = y ∧ sle e.2 q := by
  intro n
  induction n with
  | zero =>
    intro q y hq hp
    have : q = [] := List.eq_nil_of_length_eq_zero hq
    subst this
    exact ⟨(m, []), List.mem_of_getElem? h.zero, hp, .inl rfl⟩
  | succ n ih =>
    intro q y hq hp
    have hne : q ≠ [] := by intro e; rw [e] at hq; simp at hq
    have e := List.dropLast_concat_getLast hne
    rw [← e] at hp
    obtain ⟨x, h1, h2, h3⟩ := isPath_snoc.1 hp
    obtain ⟨e1, m1, m2, m3⟩ := ih q.dropLast x (by rw [List.length_dropLast]; omega) h1
    obtain ⟨i, hi⟩ := List.getElem?_of_mem m1
    have hil := (List.getElem?_eq_some_iff.1 hi).1
    rw [← m2] at h2 h3
    obtain ⟨e', k1, k2, k3⟩ := h.done i e1 (by omega) hi _ h2
    refine ⟨e', k1, k2.trans h3, ?_⟩
    rw [← e]
    exact sle_trans k3 (sle_snoc _ m3)
end Go.Proofs.Ytliejhmlcdjpcaa

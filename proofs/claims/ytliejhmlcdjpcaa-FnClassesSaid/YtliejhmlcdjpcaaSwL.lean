/- The list of switches, as the loops build it. Plain. -/
import Derived.Test.YtliejhmlcdjpcaaPath
namespace Go.Proofs.Ytliejhmlcdjpcaa

def sw4 (r c : Nat) (m : List (List Int)) (a b x y : Nat) : List Sw := ((List.range y).map fun y' => ((a, b, x, y') : Sw)).filter fun s => decide (SwOk r c m s)
def sw3 (r c : Nat) (m : List (List Int)) (a b x : Nat) : List Sw := (List.range x).flatMap fun x' => sw4 r c m a b x' c
def sw2 (r c : Nat) (m : List (List Int)) (a b : Nat) : List Sw := (List.range b).flatMap fun b' => sw3 r c m a b' c
def sw1 (r c : Nat) (m : List (List Int)) (a : Nat) : List Sw := (List.range a).flatMap fun a' => sw2 r c m a' r
theorem sw4_succ {r c : Nat} {m : List (List Int)} {a b x y : Nat} : sw4 r c m a b x (y + 1) = sw4 r c m a b x y ++ (if SwOk r c m (a, b, x, y) then [(a, b, x, y)] else []) := by
  unfold sw4
  rw [List.range_succ, List.map_append, List.filter_append]
  by_cases h : SwOk r c m (a, b, x, y) <;> simp [h]
theorem sw4_zero {r c : Nat} {m : List (List Int)} {a b x : Nat} : sw4 r c m a b x (x + 1) = [] := by
  unfold sw4
  rw [List.filter_eq_nil_iff]
  intro s hs
  obtain ⟨y, hy, rfl⟩ := List.mem_map.1 hs
  rw [List.mem_range] at hy
  rw [decide_eq_true_eq]
  intro h
  have h3 : x < y := h.2.2.1
  omega
theorem sw3_zero {r c : Nat} {m : List (List Int)} {a b : Nat} : sw3 r c m a b 0 = [] := rfl
theorem sw3_succ {r c : Nat} {m : List (List Int)} {a b x : Nat} : sw3 r c m a b (x + 1) = sw3 r c m a b x ++ sw4 r c m a b x c := by
  unfold sw3
  rw [List.range_succ, List.flatMap_append]; simp
theorem sw3_bad {r c : Nat} {m : List (List Int)} {a b : Nat} (h : b ≤ a) (x : Nat) : sw3 r c m a b x = [] := by
  unfold sw3
  rw [List.flatMap_eq_nil_iff]
  intro x' _
  unfold sw4
  rw [List.filter_eq_nil_iff]
  intro s hs
  obtain ⟨y, hy, rfl⟩ := List.mem_map.1 hs
  rw [decide_eq_true_eq]
  intro hk
  have h1 : a < b := hk.1
  omega
theorem sw2_zero {r c : Nat} {m : List (List Int)} {a : Nat} : sw2 r c m a (a + 1) = [] := by
  unfold sw2
  rw [List.flatMap_eq_nil_iff]
  intro b hb
  rw [List.mem_range] at hb
  exact sw3_bad (by omega) _
theorem sw2_succ {r c : Nat} {m : List (List Int)} {a b : Nat} : sw2 r c m a (b + 1) = sw2 r c m a b ++ sw3 r c m a b c := by
  unfold sw2
  rw [List.range_succ, List.flatMap_append]; simp
theorem sw1_zero {r c : Nat} {m : List (List Int)} : sw1 r c m 0 = [] := rfl
theorem sw1_succ {r c : Nat} {m : List (List Int)} {a : Nat} : sw1 r c m (a + 1) = sw1 r c m a ++ sw2 r c m a r := by
  unfold sw1
  rw [List.range_succ, List.flatMap_append]; simp
theorem filter_flat {α β : Type} (p : β → Bool) (f : α → List β) : ∀ l : List α, (l.flatMap f).filter p = l.flatMap fun x => (f x).filter p
  | [] => rfl
  | a :: l => by rw [List.flatMap_cons, List.flatMap_cons, List.filter_append, filter_flat p f l]
theorem flat_congr {α β : Type} {f g : α → List β} : ∀ {l : List α}, (∀ x ∈ l, f x = g x) → l.flatMap f = l.flatMap g
  | [], _ => rfl
  | a :: l, h => by rw [List.flatMap_cons, List.flatMap_cons, h a (by simp), flat_congr fun x hx => h x (by simp [hx])]
theorem sw1_all (r c : Nat) (m : List (List Int)) : sw1 r c m r = switchesOf r c m := by
  unfold switchesOf allSw sw1
  rw [filter_flat]
  refine flat_congr fun a _ => ?_
  unfold sw2
  rw [filter_flat]
  refine flat_congr fun b _ => ?_
  by_cases hab : a < b
  · rw [if_pos hab, filter_flat]
    unfold sw3
    refine flat_congr fun x _ => ?_
    unfold sw4
    rw [filter_flat]
    induction List.range c with
    | nil => rfl
    | cons y l ih =>
      rw [List.map_cons, List.flatMap_cons, List.filter_cons, ih]
      by_cases hxy : x < y
      · rw [if_pos hxy]
        by_cases h : SwOk r c m (a, b, x, y) <;> simp [h]
      · rw [if_neg hxy]
        have h : ¬ SwOk r c m (a, b, x, y) := fun h => hxy h.2.2.1
        simp [h]
  · rw [if_neg hab, sw3_bad (by omega)]
    rfl
end Go.Proofs.Ytliejhmlcdjpcaa

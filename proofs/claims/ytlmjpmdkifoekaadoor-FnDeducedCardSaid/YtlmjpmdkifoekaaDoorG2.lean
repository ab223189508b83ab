/- Contracts: slices of grids: equal, marked, held, copied, measured. Contracts: slices of texts: equal, marked, held; ImageLines. -/
import Derived.Test.YtlmjpmdkifoekaaDoorC12
import Derived.Test.YtlmjpmdkifoekaaDoorT1
import Derived.Test.YtlmjpmdkifoekaaDoorT3
namespace Go.Proofs.YtlmjpmdkifoekaaDoor
open Go.RowKit

theorem infoGrids : (Tryd.prog.info? 23).map (fun i => (i.zero, i.size, i.bytes)) = some (some (.slice none 0 0), 1, 24) := by kernel_rfl

def cells3 (g : List (List (List Int))) : Nat := (g.map cells).sum
def gmarks3 : Int → List (List (List Int)) → List (List (List Int))
  | _, [] => []
  | k, r :: g => gmarks k r :: gmarks3 (k + cells r) g
theorem gmarks3_len (g : List (List (List Int))) : ∀ k, (gmarks3 k g).length = g.length := by
  induction g with
  | nil => intro k; rfl
  | cons r g ih => intro k; simp [gmarks3, ih]
theorem cells3_take {g : List (List (List Int))} {k : Nat} {r : List (List Int)} (h : g[k]? = some r) : cells3 (g.take (k + 1)) = cells3 (g.take k) + cells r := by
  obtain ⟨hk, hx⟩ := List.getElem?_eq_some_iff.1 h
  rw [List.take_succ_eq_append_getElem hk, hx]; simp [cells3]
theorem cells3_take_le (g : List (List (List Int))) (k : Nat) : cells3 (g.take k) ≤ cells3 g := by
  have : cells3 g = cells3 (g.take k) + cells3 (g.drop k) := by
    have h : cells3 (g.take k ++ g.drop k) = cells3 (g.take k) + cells3 (g.drop k) := by unfold cells3; rw [List.map_append, List.sum_append]
    rwa [List.take_append_drop] at h
  omega
theorem gmarks3_at {g : List (List (List Int))} : ∀ {k : Int} {j : Nat} {r : List (List Int)}, g[j]? = some r → (gmarks3 k g)[j]? = some (gmarks (k + cells3 (g.take j)) r) := by
  induction g with
  | nil => intro k j r h; simp at h
  | cons a g ih =>
    intro k j r h
    cases j with
    | zero => simp at h; subst h; simp [gmarks3, cells3]
    | succ j =>
      simp at h
      simp only [gmarks3, List.getElem?_cons_succ]
      rw [ih h]
      congr 2
      simp [cells3]
      omega

def bk3 (g : List (List (List Int))) : Nat := (g.map bulk).sum
def bulk3 (g : List (List (List Int))) : Nat := g.length + bk3 g
theorem bk3_take {g : List (List (List Int))} {k : Nat} {r : List (List Int)} (h : g[k]? = some r) : bk3 (g.take (k + 1)) = bk3 (g.take k) + bulk r := by
  obtain ⟨hk, hx⟩ := List.getElem?_eq_some_iff.1 h
  unfold bk3
  rw [List.take_succ_eq_append_getElem hk, hx]; simp
theorem bk3_take_le (g : List (List (List Int))) (k : Nat) : bk3 (g.take k) ≤ bk3 g := by
  unfold bk3
  have : (g.map bulk).sum = ((g.take k).map bulk).sum + ((g.drop k).map bulk).sum := by
    rw [← List.sum_append, ← List.map_append, List.take_append_drop]
  omega
theorem bulk3_bd {g : List (List (List Int))} {n : Nat} (h : bulk3 g ≤ n) : g.length ≤ n ∧ cells3 g ≤ n ∧ ∀ r ∈ g, r.length ≤ n ∧ cells r ≤ n := by
  unfold bulk3 at h
  have key : cells3 g ≤ bk3 g ∧ ∀ r ∈ g, bulk r ≤ bk3 g := by
    clear h
    induction g with
    | nil => simp [cells3]
    | cons a g ih =>
      have e1 : cells3 (a :: g) = cells a + cells3 g := by simp [cells3]
      have e2 : bk3 (a :: g) = bulk a + bk3 g := by simp [bk3]
      have e3 : bulk a = a.length + cells a := rfl
      refine ⟨by omega, fun r hr => ?_⟩
      rcases List.mem_cons.1 hr with rfl | hr
      · omega
      · have := ih.2 r hr; omega
  refine ⟨by omega, by omega, fun r hr => ?_⟩
  have := key.2 r hr
  unfold bulk at this
  omega
end Go.Proofs.YtlmjpmdkifoekaaDoor

namespace Go.Proofs.YtlmjpmdkifoekaaDoor
open Go.RowKit

theorem map_take_G {α β : Type} (f : α → β) {l : List α} {k : Nat} {x : α} (h : l[k]? = some x) : (l.take (k + 1)).map f = (l.take k).map f ++ [f x] := by
  rw [List.take_add_one, h]; simp
theorem formatImage_size (m : List (List Int)) : (formatImage m).size ≤ 1048576 := by
  unfold formatImage
  split
  · rename_i hok
    have h2 := (imageOk_trits hok).bulk
    have h3 := joinB_size ⟨#[47]⟩ (m.map signRow)
    unfold signsOf; omega
  · simp
def imgLines (xs : List (List (List Int))) : List ByteArray := xs.map formatImage
theorem imgLines_len (xs : List (List (List Int))) : (imgLines xs).length = xs.length := List.length_map _
theorem Own.strs {E : TypeId} {S : Bk} {w : World} {v : Value} {xs : List ByteArray} (h : Own E StrV S w v xs) : Strs w v xs := (rSl rStrV).rd (h.sl (fun _ _ _ _ h => h) rStrV)
theorem bulk3_bd1 {g : List (List (List Int))} {n : Nat} (h : bulk3 g ≤ n) (hn : 1 ≤ n) : 1 + (cells3 g : Int) ≤ n := by
  obtain ⟨-, h2, -⟩ := bulk3_bd h
  cases g with
  | nil => simp [cells3]; omega
  | cons a g =>
    have e1 : bulk3 (a :: g) = (a :: g).length + bk3 (a :: g) := rfl
    have h3 : cells3 (a :: g) ≤ bk3 (a :: g) := by
      have := (bulk3_bd (g := a :: g) (n := bulk3 (a :: g)) (Nat.le_refl _))
      clear h h2 e1
      have key : ∀ g : List (List (List Int)), cells3 g ≤ bk3 g := by
        intro g
        induction g with
        | nil => simp [cells3, bk3]
        | cons a g ih =>
          have e1 : cells3 (a :: g) = cells a + cells3 g := by simp [cells3]
          have e2 : bk3 (a :: g) = bulk a + bk3 g := by simp [bk3]
          have e3 : bulk a = a.length + cells a := rfl
          omega
      exact key _
    rw [List.length_cons] at e1
    omega
end Go.Proofs.YtlmjpmdkifoekaaDoor

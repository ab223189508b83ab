/- Contracts: cells of images; counting black cells. Contracts: a switch fits an image. Lists of switches in memory. Contracts: SwitchesOf. -/
import Derived.Test.YtekgnpdchpdfiaaC1
import Derived.Test.YtekgnpdchpdfiaaC12
import Derived.Test.YtekgnpdchpdfiaaAll2
import Derived.Test.YtekgnpdchpdfiaaMem
import Derived.Laws.OwnMore
import Derived.Test.YtekgnpdchpdfiaaPath
namespace Go.Proofs.Ytekgnpdchpdfiaa
open Go.RowKit

def inB (r c : Nat) (y x : Int) : Bool := inR 0 ((r : Int) - 1) y && inR 0 ((c : Int) - 1) x
/-- the cell of an image, or -1 -/
def cellOf (m : List (List Int)) (r c : Nat) (y x : Int) : Int := if inB r c y x then (m.getD y.toNat []).getD x.toNat 0 else -1
/-- the black cells -/
def ones (m : List (List Int)) : Int := sumL (m.map sumL)
theorem sumL_append1 (l : List Int) (x : Int) : sumL (l ++ [x]) = sumL l + x := by simp [sumL, List.foldl_append]
theorem ones_take {m : List (List Int)} {k : Nat} {row : List Int} (h : m[k]? = some row) : ones (m.take (k + 1)) = ones (m.take k) + sumL row := by
  unfold ones
  rw [List.take_add_one, h]
  simp only [Option.toList_some, List.map_append, List.map_cons, List.map_nil]
  exact sumL_append1 _ _
theorem ones_bd {m : List (List Int)} {r c : Nat} (hs : Shape r c m) : ∀ k, 0 ≤ ones (m.take k) ∧ ones (m.take k) ≤ ((k * c : Nat) : Int) := by
  intro k
  induction k with
  | zero => simp [ones, sumL]
  | succ k ih =>
    cases h : m[k]? with
    | none =>
      have : m.take (k + 1) = m.take k := by rw [List.take_add_one, h]; simp
      rw [this, Nat.succ_mul]
      omega
    | some row =>
      have h1 := hs.sum_bd' (List.mem_of_getElem? h)
      have h2 := (hs.2 row (List.mem_of_getElem? h)).1
      rw [ones_take h, Nat.succ_mul]
      rw [h2] at h1
      omega
end Go.Proofs.Ytekgnpdchpdfiaa

namespace Go.Proofs.Ytekgnpdchpdfiaa
open Go.RowKit


/-- the cells of an image -/
theorem Grid.cells {w : World} {v : Value} {m : List (List Int)} {r c : Nat} (h : Grid w v m) (hs : Shape r c m) (hr : 1 ≤ r) (hc : 1 ≤ c) : ∃ b off cp, v = .slice (some ⟨b, off, none⟩) r cp ∧ b < w.heap.size ∧
    ∀ y, y < r → ∃ br offr cpr, w.cell? ⟨b, off + y, none⟩ = some (.slice (some ⟨br, offr, none⟩) c cpr) ∧ br < w.heap.size ∧ ∀ x, x < c → w.cell? ⟨br, offr + x, none⟩ = some (.int .i64 (at2 m y x)) := by
  have hml := hs.1
  obtain ⟨b, off, cp, rfl, hb, -⟩ := h.inv_ne (by omega)
  refine ⟨b, off, cp, by rw [hml], hb, fun y hy => ?_⟩
  obtain ⟨row, hrow, hrl, hrb⟩ := hs.row hy
  obtain ⟨u, hck, hu⟩ := Sl.at h hrow
  have hu : Ints w u row := hu
  obtain ⟨br, offr, cpr, rfl, hbr, -⟩ := hu.inv_ne (by omega)
  refine ⟨br, offr, cpr, by rw [hck, hrl], hbr, fun x hx => ?_⟩
  obtain ⟨z, hz⟩ : ∃ z, row[x]? = some z := ⟨_, List.getElem?_eq_getElem (by omega)⟩
  rw [Ints.at hu hz]
  have : at2 m y x = z := by
    unfold at2
    rw [List.getD_eq_getElem?_getD, List.getD_eq_getElem?_getD, hrow]
    simp [hz]
  rw [this]

/-- the switch fits the image: any numbers -/
def swOkB (r c : Nat) (m : List (List Int)) (y1 y2 x1 x2 : Int) : Bool := inB r c y1 x1 && (inB r c y2 x2 && decide (SwOk r c m (y1.toNat, y2.toNat, x1.toNat, x2.toNat)))
theorem inB_iff {r c : Nat} {y x : Int} : inB r c y x = true ↔ 0 ≤ y ∧ y < r ∧ 0 ≤ x ∧ x < c := by
  unfold inB
  rw [Bool.and_eq_true, inR_iff, inR_iff]
  omega
theorem swOkB_nat {r c : Nat} {m : List (List Int)} {s : Sw} : swOkB r c m s.y1 s.y2 s.x1 s.x2 = decide (SwOk r c m s) := by
  unfold swOkB
  by_cases h : SwOk r c m s
  · have h' := h
    obtain ⟨h1, h2, h3, h4, -⟩ := h'
    rw [inB_iff.2 (by omega), inB_iff.2 (by omega)]
    simp
  · simp [h]
abbrev SwV (y1 y2 x1 x2 : Int) : Value := .agg #[.int .i64 y1, .int .i64 y2, .int .i64 x1, .int .i64 x2]

end Go.Proofs.Ytekgnpdchpdfiaa

namespace Go.Proofs.Ytekgnpdchpdfiaa
open Go.RowKit

def swC (s : Sw) : List Value := [.int .i64 s.1, .int .i64 s.2.1, .int .i64 s.2.2.1, .int .i64 s.2.2.2]
def swCs (l : List Sw) : List Value := l.flatMap swC
theorem swCs_len : ∀ l, (swCs l).length = l.length * 4
  | [] => rfl
  | s :: l => by
    have := swCs_len l
    unfold swCs at this ⊢
    rw [List.flatMap_cons, List.length_append, this, List.length_cons]
    simp [swC]; omega
theorem swCs_append (l k : List Sw) : swCs (l ++ k) = swCs l ++ swCs k := by unfold swCs; exact List.flatMap_append
theorem swCs_at : ∀ {l : List Sw} {k : Nat} {s : Sw}, l[k]? = some s → ∀ j, j < 4 → (swCs l)[k * 4 + j]? = (swC s)[j]?
  | [], k, s, h, _, _ => by simp at h
  | t :: l, 0, s, h, j, hj => by
    simp at h; subst h
    unfold swCs
    rw [List.flatMap_cons, List.getElem?_append_left (by simp [swC]; omega)]; simp
  | t :: l, k + 1, s, h, j, hj => by
    have h' : l[k]? = some s := by simpa using h
    have := swCs_at h' j hj
    unfold swCs at this ⊢
    rw [List.flatMap_cons, List.getElem?_append_right (by simp [swC]; omega), ← this]
    congr 1
    simp [swC]; omega

end Go.Proofs.Ytekgnpdchpdfiaa

namespace Go.Proofs.Ytekgnpdchpdfiaa
open Go.RowKit


end Go.Proofs.Ytekgnpdchpdfiaa

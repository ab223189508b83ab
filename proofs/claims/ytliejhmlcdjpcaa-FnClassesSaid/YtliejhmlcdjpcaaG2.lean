/- Contracts: slices of texts: equal, marked, held; ImageLines. -/
import Derived.Test.YtliejhmlcdjpcaaG1
import Derived.Test.YtliejhmlcdjpcaaF1
import Derived.Test.YtliejhmlcdjpcaaT3
namespace Go.Proofs.Ytliejhmlcdjpcaa
open Go.RowKit

theorem map_take_G {α β : Type} (f : α → β) {l : List α} {k : Nat} {x : α} (h : l[k]? = some x) : (l.take (k + 1)).map f = (l.take k).map f ++ [f x] := by
  rw [List.take_add_one, h]; simp
theorem formatImage_size (m : List (List Int)) : (formatImage m).size ≤ 1048576 := by
  unfold formatImage
  split
  · rename_i hok
    have h2 := (imageOk_trits hok).bulk
    have h3 := joinB_size ⟨#[47]⟩ (m.map signRow)
    unfold signsOf; omega
  · simp
def imgLines (xs : List (List (List Int))) : List ByteArray := xs.map formatImage
theorem imgLines_len (xs : List (List (List Int))) : (imgLines xs).length = xs.length := List.length_map _
theorem Own.strs {E : TypeId} {S : Bk} {w : World} {v : Value} {xs : List ByteArray} (h : Own E StrV S w v xs) : Strs w v xs := (rSl rStrV).rd (h.sl (fun _ _ _ _ h => h) rStrV)
theorem bulk3_bd1 {g : List (List (List Int))} {n : Nat} (h : bulk3 g ≤ n) (hn : 1 ≤ n) : 1 + (cells3 g : Int) ≤ n := by
  obtain ⟨-, h2, -⟩ := bulk3_bd h
  cases g with
  | nil => simp [cells3]; omega
  | cons a g =>
    have e1 : bulk3 (a :: g) = (a :: g).length + bk3 (a :: g) := rfl
    have h3 : cells3 (a :: g) ≤ bk3 (a :: g) := by
      have := (bulk3_bd (g := a :: g) (n := bulk3 (a :: g)) (Nat.le_refl _))
      clear h h2 e1
      have key : ∀ g : List (List (List Int)), cells3 g ≤ bk3 g := by
        intro g
        induction g with
        | nil => simp [cells3, bk3]
        | cons a g ih =>
          have e1 : cells3 (a :: g) = cells a + cells3 g := by simp [cells3]
          have e2 : bk3 (a :: g) = bulk a + bk3 g := by simp [bk3]
          have e3 : bulk a = a.length + cells a := rfl
          omega
      exact key _
    rw [List.length_cons] at e1
    omega
set_option maxRecDepth 100000 in
set_option maxHeartbeats 800000 in
theorem ImageLines_i (v : Value) (l : List (List (List Int))) (w : World) (hv : Grids w v l) (hl : l.length ≤ 2097152) : Calls Try.prog 28 #[v] w (New 9 StrV w (imgLines l)) := by
  have Hv := Lib.hid hv
  obtain ⟨a, cap0, rfl, -⟩ := hv
  go_enter Try.func28, Try.ntmps28
  go_wp2
  go_loopw [3, 5, 8] (fun v _ i wr => ∃ k : Nat, k ≤ l.length ∧ i = .int .i64 k ∧ Own 9 StrV (Iv w.heap.size wr.heap.size) wr v ((l.take k).map formatImage) ∧ Below w.heap.size w wr) (fun _ _ i _ => l.length - (intOf i).toNat)
  case atStart => exact ⟨0, Nat.zero_le _, rfl, Own.nil _ _ _ _, Below.refl _ _⟩
  case round =>
    obtain ⟨k, hk, rfl, hown, hbel⟩ := hrel
    obtain ⟨wo, rfl⟩ : ∃ wo : World, wo = wr := ⟨_, rfl⟩
    have hBs := hbel.size
    by_cases hlt : k < l.length
    · obtain ⟨x, hx⟩ : ∃ x, l[k]? = some x := ⟨_, List.getElem?_eq_getElem hlt⟩
      obtain ⟨b, off, cpr, he, hb, -⟩ := Hv.out.inv_ne (by omega)
      obtain ⟨rfl, -⟩ : a = some ⟨b, off, none⟩ ∧ cap0 = cpr := by simpa using he
      obtain ⟨u, hck, hu⟩ := Sl.at Hv.out hx
      have hu : Grid w u x := hu
      have Hu := Lib.hid (hu.keep hbel)
      rw [← hbel.cell (p := ⟨b, off + k, none⟩) hb] at hck
      have Hst := Lib.hid (map_take_G formatImage hx)
      have hkl : ((l.take k).map formatImage).length < 1099511627776 := by simp; omega
      obtain ⟨p1, p2, p3, rfl⟩ := hown.shape
      have Hown := Lib.hid hown
      clear hx hown he hu
      go_wp2_with (fail)
      refine (FormatImage_i _ x _ Hu.out).mono ?_
      rintro e w1 ⟨rfl, hb1⟩
      have hs1 : wo.heap.size ≤ w1.heap.size := hb1.size
      have hsz : (formatImage x).size ≤ 9223372036854775807 := by have := formatImage_size x; omega
      go_wp2_with (first | (at_builtin; (refine wpList_appR rfl _ _ 46 rfl rStrV 9 Try.underlying46 infoStr rfl (by decide) w.heap.size wo.heap.size hBs hs1 rfl rfl (by exact Own.keep rStrV Hown.out hb1 (Nat.le_refl _)) (by exact ⟨rfl, hsz⟩) hkl ?_); intro v2 w2 hown2 hbel2 _) | fail)
      have hb2 := (hbel.trans (hb1.mono hBs)).trans hbel2
      have Hown2 := Lib.hid hown2
      clear hown2
      go_wp2
      go_roundw
      case rel => exact ⟨k + 1, by omega, by go_num, by rw [Hst.out]; exact Hown2.out, hb2⟩
      case measure => simp [intOf]; omega
    · have hfin := hown
      rw [List.take_of_length_le (by omega)] at hfin
      obtain ⟨p1, p2, p3, rfl⟩ := hown.shape
      have Hfin := Lib.hid hfin
      clear hown hfin
      go_wp2
      go_ret
      exact ⟨_, rfl, Hfin.out, hbel⟩
end Go.Proofs.Ytliejhmlcdjpcaa

/- Contracts and plain laws that the claims on sessions use. No condition of their own. -/
import Derived.Test.YthmocomfjgmjoaaGreatDoorQ02
import Derived.Test.YthmocomfjgmjoaaGreatDoorQ03
import Derived.Test.YthmocomfjgmjoaaGreatDoorQ06
import Derived.Test.YthmocomfjgmjoaaGreatDoorQ07
import Derived.Deep.DeepCutAuto
import Derived.Deep.LoopGhost
import Derived.Deep.DeepFit
import Derived.Deep.RegionWith
import Derived.Test.YthmocomfjgmjoaaGreatDoorQ04
import Derived.Test.YthmocomfjgmjoaaGreatDoorQ08
namespace Go.Proofs.YthmocomfjgmjoaaGreatDoor
def TRect (r c : Nat) (m : List (List Int)) : Prop := m.length = r ∧ ∀ row ∈ m, row.length = c ∧ ∀ x ∈ row, -1 ≤ x ∧ x ≤ 1
theorem TRect.row {r c y : Nat} {m : List (List Int)} (h : TRect r c m) (hy : y < r) : m[y]? = some (m.getD y []) ∧ (m.getD y []).length = c ∧ ∀ x ∈ m.getD y [], -1 ≤ x ∧ x ≤ 1 := by
  have hl : y < m.length := by rw [h.1]; exact hy
  have e := gD_at [] hl
  obtain ⟨h1, h2⟩ := h.2 _ (List.mem_of_getElem? e)
  exact ⟨e, h1, h2⟩
theorem TRect.ext {r c : Nat} {a b : List (List Int)} (ha : TRect r c a) (hb : TRect r c b) (h : ∀ y x, y < r → x < c → at2 a y x = at2 b y x) : a = b := by
  apply List.ext_getElem?
  intro y
  by_cases hy : y < r
  · obtain ⟨h1, h2, -⟩ := ha.row hy
    obtain ⟨h3, h4, -⟩ := hb.row hy
    rw [h1, h3]
    congr 1
    apply List.ext_getElem?
    intro x
    by_cases hx : x < c
    · have := h y x hy hx
      unfold at2 at this
      rw [gD_at 0 (by omega), gD_at 0 (by omega), this]
    · rw [List.getElem?_eq_none (by omega), List.getElem?_eq_none (by omega)]
  · rw [List.getElem?_eq_none (by rw [ha.1]; omega), List.getElem?_eq_none (by rw [hb.1]; omega)]
theorem TRect.head {r c : Nat} {m : List (List Int)} (h : TRect r c m) (h1 : 1 ≤ r) : (m.headD []).length = c := by
  cases m with
  | nil => have := h.1; simp at this; omega
  | cons a m => exact (h.2 a (by simp)).1
theorem tr_at2 {m : List (List Int)} {r c : Nat} (h : TRect r c m) (h1 : 1 ≤ r) {i j : Nat} (hi : i < r) (hj : j < c) : at2 (tr m) j i = at2 m i j := by
  have e : (tr m)[j]? = some ((List.range r).map fun i => at2 m i j) := by
    unfold tr
    rw [h.head h1, h.1]
    simp [hj, at2]
  unfold at2 at e ⊢
  rw [gD_some e]
  exact gD_some (by simp [hi])
theorem TRect.tr {r c : Nat} {m : List (List Int)} (h : TRect r c m) (h1 : 1 ≤ r) : TRect c r (tr m) := by
  unfold Go.Proofs.YthmocomfjgmjoaaGreatDoor.tr
  rw [h.head h1, h.1]
  refine ⟨by simp, fun row hrow => ?_⟩
  obtain ⟨j, hj, rfl⟩ := List.mem_map.1 hrow
  refine ⟨by simp, fun x hx => ?_⟩
  obtain ⟨i, hi, rfl⟩ := List.mem_map.1 hx
  obtain ⟨e, hl, hb⟩ := h.row (List.mem_range.1 hi)
  by_cases hjc : j < (m.getD i []).length
  · exact hb _ (List.mem_of_getElem? (gD_at 0 hjc))
  · rw [gD_none (by omega)]; decide
def sl (R : List (List Int)) (m : List (List Int)) (y : Nat) : Option (List Int) := solveLine (R.getD y []) (m.getD y [])
def passOk (R m : List (List Int)) : Bool := (List.range m.length).all fun y => (sl R m y).isSome
def passTo (R m : List (List Int)) (k : Nat) : List (List Int) := (List.range k).map fun y => (sl R m y).getD []
def passV (R m : List (List Int)) : List (List Int) := passTo R m m.length
def dstep (R C m : List (List Int)) : Option (List (List Int)) :=
  if passOk R m then (if passOk C (tr (passV R m)) then some (tr (passV C (tr (passV R m)))) else none) else none
def dloop (R C : List (List Int)) : Nat → List (List Int) → Option (List (List Int))
  | 0, m => match dstep R C m with | none => none | some n => if n = m then some m else none
  | f + 1, m => match dstep R C m with | none => none | some n => if n = m then some m else dloop R C f n
def openGrid (r c : Nat) : List (List Int) := List.replicate r (List.replicate c (-1))
def deduce (R C : List (List Int)) : Option (List (List Int)) := if puzzleOk R C then dloop R C (R.length * C.length) (openGrid R.length C.length) else none
theorem solve_ref {rs st o : List Int} (h : solveLine rs st = some o) : o.length = st.length ∧ (∀ x ∈ o, -1 ≤ x ∧ x ≤ 1) ∧ ∀ i, i < st.length → st.getD i 0 ≠ -1 → o.getD i 0 = st.getD i 0 := by
  unfold solveLine at h
  split at h
  · rename_i hok
    obtain ⟨h1, h2⟩ := solveTo_wf (n := st.length) (rs := rs) (st := st) _ (Nat.le_refl _) o h
    refine ⟨h1, h2, fun i hi hne => ?_⟩
    have hst : -1 ≤ st.getD i 0 := by
      unfold stateOk at hok
      rw [Bool.and_eq_true] at hok
      have := List.all_eq_true.1 hok.2 (st.getD i 0) (List.mem_of_getElem? (gD_at 0 hi))
      rw [inR_iff] at this
      exact this.1
    have key : ∀ k, k ≤ (linesFor rs st.length).length → ∀ o, solveTo (linesFor rs st.length) st k = some o → o.getD i 0 = st.getD i 0 := by
      intro k
      induction k with
      | zero => intro _ o h; simp [solveTo] at h
      | succ k ih =>
        intro hk o h
        have hline : (linesFor rs st.length)[k]? = some (linesFor rs st.length)[k] := List.getElem?_eq_getElem (by omega)
        rw [solveTo_succ hline] at h
        obtain ⟨line, hl⟩ : ∃ line, line = (linesFor rs st.length)[k] := ⟨_, rfl⟩
        rw [← hl] at h hline
        have hll : line.length = st.length := by
          have hm := List.mem_of_getElem? hline
          unfold linesFor linesTo at hm
          have := (List.mem_filter.1 hm).1
          obtain ⟨key, -, rfl⟩ := List.mem_map.1 this
          exact bitsLine_len _ _
        unfold solveStep at h
        split at h
        · rename_i ha
          have hag : agreeAt st line i = true := by
            unfold agrees agreesTo at ha
            exact List.all_eq_true.1 ha i (List.mem_range.2 (by omega))
          rw [agreeAt_eq (gD_at 0 hi) (gD_at 0 (by omega : i < line.length))] at hag
          have hli : line.getD i 0 = st.getD i 0 := by
            simp only [Bool.or_eq_true, decide_eq_true_eq, beq_iff_eq] at hag
            omega
          cases hs : solveTo (linesFor rs st.length) st k with
          | none => rw [hs] at h; simp at h; rw [← h]; exact hli
          | some o' =>
            rw [hs] at h
            simp at h
            have hih := ih (by omega) o' hs
            have ho' := (solveTo_wf (n := st.length) (rs := rs) (st := st) k (by omega) o' hs).1
            rw [← h]
            have e : (mergeL o' line)[i]? = some (mergeAt (o'.getD i 0) (line.getD i 0)) := by
              unfold mergeL
              rw [List.getElem?_zipWith, gD_at 0 (by omega : i < o'.length), gD_at 0 (by omega : i < line.length)]
            rw [gD_some e, hih, hli]
            simp [mergeAt]
        · exact ih (by omega) o h
    exact key _ (Nat.le_refl _) o h
  · cases h
theorem passTo_at {R m : List (List Int)} {k y : Nat} (hy : y < k) : (passTo R m k)[y]? = some ((sl R m y).getD []) := by
  unfold passTo; simp [hy]
theorem passTo_succ (R m : List (List Int)) (k : Nat) : passTo R m (k + 1) = passTo R m k ++ [(sl R m k).getD []] := by
  unfold passTo; rw [List.range_succ, List.map_append]; rfl
theorem passTo_len (R m : List (List Int)) (k : Nat) : (passTo R m k).length = k := by simp [passTo]
theorem pass_ref {R m : List (List Int)} {r c : Nat} (hm : TRect r c m) (h : passOk R m = true) : TRect r c (passV R m) ∧ ∀ i j, i < r → j < c → at2 m i j ≠ -1 → at2 (passV R m) i j = at2 m i j := by
  have hs : ∀ y, y < r → ∃ o, sl R m y = some o ∧ o.length = c ∧ (∀ x ∈ o, -1 ≤ x ∧ x ≤ 1) ∧ ∀ i, i < c → (m.getD y []).getD i 0 ≠ -1 → o.getD i 0 = (m.getD y []).getD i 0 := by
    intro y hy
    unfold passOk at h
    have := List.all_eq_true.1 h y (List.mem_range.2 (by rw [hm.1]; exact hy))
    obtain ⟨o, ho⟩ := Option.isSome_iff_exists.1 this
    obtain ⟨h1, h2, h3⟩ := solve_ref ho
    obtain ⟨-, hl, -⟩ := hm.row hy
    rw [hl] at h1 h3
    exact ⟨o, ho, h1, h2, h3⟩
  constructor
  · refine ⟨by unfold passV; rw [passTo_len, hm.1], fun row hrow => ?_⟩
    unfold passV passTo at hrow
    obtain ⟨y, hy, rfl⟩ := List.mem_map.1 hrow
    obtain ⟨o, ho, h1, h2, -⟩ := hs y (by have := List.mem_range.1 hy; rw [hm.1] at this; exact this)
    rw [ho]
    exact ⟨h1, h2⟩
  · intro i j hi hj hne
    obtain ⟨o, ho, h1, h2, h3⟩ := hs i hi
    unfold at2 at hne ⊢
    have e : (passV R m)[i]? = some o := by
      unfold passV
      rw [passTo_at (by rw [hm.1]; exact hi), ho]; rfl
    rw [gD_some e]
    exact h3 j hj hne
theorem dstep_ref {R C m n : List (List Int)} {r c : Nat} (h1 : 1 ≤ r) (h2 : 1 ≤ c) (hm : TRect r c m) (h : dstep R C m = some n) : TRect r c n ∧ ∀ i j, i < r → j < c → at2 m i j ≠ -1 → at2 n i j = at2 m i j := by
  unfold dstep at h
  split at h
  · rename_i ho1
    split at h
    · rename_i ho2
      injection h with h
      subst h
      obtain ⟨a1, a2⟩ := pass_ref hm ho1
      have b1 := a1.tr h1
      obtain ⟨c1, c2⟩ := pass_ref b1 ho2
      refine ⟨c1.tr h2, fun i j hi hj hne => ?_⟩
      have e1 := a2 i j hi hj hne
      have e2 := tr_at2 a1 h1 hi hj
      rw [tr_at2 c1 h2 hj hi, c2 j i hj hi (by rw [e2, e1]; exact hne), e2, e1]
    · cases h
  · cases h
def unkR (l : List Int) : Nat := (l.filter fun x => x == -1).length
def unk (m : List (List Int)) : Nat := (m.map unkR).sum
theorem unkR_ref : ∀ (o st : List Int), o.length = st.length → (∀ i, i < st.length → st.getD i 0 ≠ -1 → o.getD i 0 = st.getD i 0) → unkR o ≤ unkR st ∧ (unkR o = unkR st → o = st)
  | [], [], _, _ => ⟨Nat.le_refl _, fun _ => rfl⟩
  | [], _ :: _, h, _ => by simp at h
  | _ :: _, [], h, _ => by simp at h
  | a :: o, b :: st, h, hr => by
    have ih := unkR_ref o st (by simpa using h) (fun i hi hne => by have := hr (i + 1) (by simpa using hi) (by simpa using hne); simpa using this)
    have h0 := hr 0 (by simp)
    simp at h0
    have ea : unkR (a :: o) = (if a = -1 then 1 else 0) + unkR o := by unfold unkR; by_cases ha : a = -1 <;> simp [ha]; omega
    have eb : unkR (b :: st) = (if b = -1 then 1 else 0) + unkR st := by unfold unkR; by_cases hb : b = -1 <;> simp [hb]; omega
    rw [ea, eb]
    by_cases hb : b = -1
    · rw [if_pos hb]
      refine ⟨by split <;> omega, fun he => ?_⟩
      by_cases ha : a = -1
      · rw [if_pos ha] at he
        rw [ha, hb, ih.2 (by omega)]
      · rw [if_neg ha] at he; omega
    · have hab := h0 hb
      subst hab
      refine ⟨by omega, fun he => ?_⟩
      rw [ih.2 (by omega)]
theorem unk_ref : ∀ (n m : List (List Int)), n.length = m.length → (∀ y, y < m.length → (n.getD y []).length = (m.getD y []).length ∧ ∀ i, i < (m.getD y []).length → (m.getD y []).getD i 0 ≠ -1 → (n.getD y []).getD i 0 = (m.getD y []).getD i 0) → unk n ≤ unk m ∧ (unk n = unk m → n = m)
  | [], [], _, _ => ⟨Nat.le_refl _, fun _ => rfl⟩
  | [], _ :: _, h, _ => by simp at h
  | _ :: _, [], h, _ => by simp at h
  | a :: n, b :: m, h, hr => by
    have ih := unk_ref n m (by simpa using h) (fun y hy => by have := hr (y + 1) (by simpa using hy); simpa using this)
    have h0 := hr 0 (by simp)
    simp at h0
    have hrow := unkR_ref a b h0.1 (fun i hi hne => by have := h0.2 i hi; simp at this hne; simpa using this hne)
    have ea : unk (a :: n) = unkR a + unk n := by simp [unk]
    have eb : unk (b :: m) = unkR b + unk m := by simp [unk]
    rw [ea, eb]
    exact ⟨by omega, fun he => by rw [hrow.2 (by omega), ih.2 (by omega)]⟩
theorem dstep_less {R C m n : List (List Int)} {r c : Nat} (h1 : 1 ≤ r) (h2 : 1 ≤ c) (hm : TRect r c m) (h : dstep R C m = some n) (hne : n ≠ m) : unk n < unk m := by
  obtain ⟨hn, href⟩ := dstep_ref h1 h2 hm h
  have := unk_ref n m (by rw [hn.1, hm.1]) (fun y hy => by
    rw [hm.1] at hy
    obtain ⟨-, e1, -⟩ := hn.row hy
    obtain ⟨-, e2, -⟩ := hm.row hy
    exact ⟨by rw [e1, e2], fun i hi => href y i hy (by omega)⟩)
  rcases Nat.lt_or_ge (unk n) (unk m) with h3 | h3
  · exact h3
  · exact absurd (this.2 (by omega)) hne
theorem openGrid_rect (r c : Nat) : TRect r c (openGrid r c) := by
  refine ⟨by simp [openGrid], fun row hrow => ?_⟩
  have := List.eq_of_mem_replicate hrow
  subst this
  exact ⟨by simp, fun x hx => by have := List.eq_of_mem_replicate hx; omega⟩
theorem unk_open (r c : Nat) : unk (openGrid r c) = r * c := by
  have e : unkR (List.replicate c (-1)) = c := by unfold unkR; simp
  unfold unk openGrid
  rw [List.map_replicate, e]
  simp
end Go.Proofs.YthmocomfjgmjoaaGreatDoor
namespace Go.Proofs.YthmocomfjgmjoaaGreatDoor
open Go.RowKit
theorem setT_row {m : List (List Int)} {y x : Nat} {v : Int} (hy : y < m.length) (i : Nat) : (setC m y x v).getD i [] = if i = y then (m.getD y []).set x v else m.getD i [] := by
  unfold setC
  by_cases hi : i = y
  · subst hi; rw [if_pos rfl, gD_self hy]
  · rw [if_neg hi, gD_ne (by omega)]
theorem at2_setT {m : List (List Int)} {r c y x : Nat} (h : TRect r c m) (hy : y < r) (hx : x < c) (v : Int) (i j : Nat) : at2 (setC m y x v) i j = if i = y ∧ j = x then v else at2 m i j := by
  unfold at2
  rw [setT_row (by rw [h.1]; exact hy)]
  obtain ⟨-, hl, -⟩ := h.row hy
  by_cases hi : i = y
  · subst hi
    rw [if_pos rfl]
    by_cases hj : j = x
    · subst hj; rw [if_pos ⟨rfl, rfl⟩, gD_self (by omega)]
    · rw [if_neg (fun h => hj h.2), gD_ne (by omega)]
  · rw [if_neg hi, if_neg (fun h => hi h.1)]
theorem TRect.setC {m : List (List Int)} {r c y x : Nat} (h : TRect r c m) (hy : y < r) {v : Int} (h0 : -1 ≤ v) (h1 : v ≤ 1) : TRect r c (setC m y x v) := by
  obtain ⟨-, hl, hb⟩ := h.row hy
  refine ⟨by unfold Go.Proofs.YthmocomfjgmjoaaGreatDoor.setC; rw [List.length_set]; exact h.1, fun row hrow => ?_⟩
  unfold Go.Proofs.YthmocomfjgmjoaaGreatDoor.setC at hrow
  rcases List.mem_or_eq_of_mem_set hrow with h2 | h2
  · exact h.2 row h2
  · subst h2
    refine ⟨by rw [List.length_set]; exact hl, fun z hz => ?_⟩
    rcases List.mem_or_eq_of_mem_set hz with h3 | h3
    · exact hb z h3
    · subst h3; exact ⟨h0, h1⟩
def Filled (r c y x : Nat) (g : List (List Int)) : Prop := TRect r c g ∧ ∀ i j, i < r → j < c → at2 g i j = if i < y ∨ (i = y ∧ j < x) then -1 else 0
theorem filled_zeros (r c : Nat) : Filled r c 0 0 (zeros r c) := by
  refine ⟨⟨by simp [zeros], fun row hrow => ?_⟩, fun i j _ _ => by rw [at2_zeros, if_neg (by omega)]⟩
  have := List.eq_of_mem_replicate hrow
  subst this
  exact ⟨by simp, fun x hx => by have := List.eq_of_mem_replicate hx; omega⟩
theorem Filled.step {r c y x : Nat} {g : List (List Int)} (h : Filled r c y x g) (hy : y < r) (hx : x < c) : Filled r c y (x + 1) (g.set y ((g.getD y []).set x (-1))) := by
  refine ⟨h.1.setC hy (by decide) (by decide), fun i j hi hj => ?_⟩
  have := at2_setT h.1 hy hx (-1) i j
  unfold setC at this
  rw [this, h.2 i j hi hj]
  by_cases he : i = y ∧ j = x
  · rw [if_pos he, if_pos (by omega)]
  · rw [if_neg he]
    by_cases h1 : i < y ∨ (i = y ∧ j < x)
    · rw [if_pos h1, if_pos (by omega)]
    · rw [if_neg h1, if_neg (by omega)]
theorem Filled.next {r c y : Nat} {g : List (List Int)} (h : Filled r c y c g) : Filled r c (y + 1) 0 g := by
  refine ⟨h.1, fun i j hi hj => ?_⟩
  rw [h.2 i j hi hj]
  by_cases h1 : i < y ∨ (i = y ∧ j < c)
  · rw [if_pos h1, if_pos (by omega)]
  · rw [if_neg h1, if_neg (by omega)]
theorem Filled.done {r c : Nat} {g : List (List Int)} (h : Filled r c r 0 g) : g = openGrid r c := by
  refine h.1.ext (openGrid_rect r c) fun i j hi hj => ?_
  rw [h.2 i j hi hj, if_pos (.inl hi)]
  unfold at2 openGrid
  rw [gD_some (l := List.replicate r _) (x := List.replicate c (-1)) (by rw [List.getElem?_replicate, if_pos hi])]
  exact (gD_some (by rw [List.getElem?_replicate, if_pos hj])).symm
theorem dloop_step {R C m n : List (List Int)} {r c k : Nat} (h1 : 1 ≤ r) (h2 : 1 ≤ c) (hm : TRect r c m) (hk : unk m ≤ k) (hs : dstep R C m = some n) (hne : n ≠ m) : ∃ k', k' < k ∧ unk n ≤ k' ∧ dloop R C k m = dloop R C k' n ∧ TRect r c n := by
  have hl := dstep_less h1 h2 hm hs hne
  cases k with
  | zero => omega
  | succ k =>
    refine ⟨k, Nat.lt_succ_self _, by omega, ?_, (dstep_ref h1 h2 hm hs).1⟩
    rw [dloop, hs]
    simp only
    rw [if_neg hne]
theorem dloop_stop {R C m : List (List Int)} {k : Nat} (hs : dstep R C m = some m) : dloop R C k m = some m := by
  cases k <;> (rw [dloop, hs]; simp)
theorem dloop_none {R C m : List (List Int)} {k : Nat} (hs : dstep R C m = none) : dloop R C k m = none := by
  cases k <;> rw [dloop, hs]
theorem dstep_no1 {R C m : List (List Int)} (h : passOk R m = false) : dstep R C m = none := by unfold dstep; rw [h]; rfl
theorem dstep_no2 {R C m : List (List Int)} (h : passOk R m = true) (h2 : passOk C (tr (passV R m)) = false) : dstep R C m = none := by unfold dstep; rw [h, h2]; rfl
theorem dstep_yes {R C m : List (List Int)} (h : passOk R m = true) (h2 : passOk C (tr (passV R m)) = true) : dstep R C m = some (tr (passV C (tr (passV R m)))) := by unfold dstep; rw [h, h2]; rfl
theorem deduce_no {R C : List (List Int)} (h : puzzleOk R C = false) : deduce R C = none := by unfold deduce; rw [h]; rfl
theorem deduce_yes {R C : List (List Int)} (h : puzzleOk R C = true) : deduce R C = dloop R C (R.length * C.length) (openGrid R.length C.length) := by unfold deduce; rw [h]; rfl
theorem puzzleOk_bd {R C : List (List Int)} (h : puzzleOk R C = true) : 1 ≤ R.length ∧ R.length ≤ 5 ∧ 1 ≤ C.length ∧ C.length ≤ 5 := by
  unfold puzzleOk at h
  simp only [Bool.and_eq_true, inR_iff] at h
  omega
theorem TRect.bd {r c : Nat} {g : List (List Int)} (h : TRect r c g) {y x : Nat} (hy : y < r) (hx : x < c) : -1 ≤ at2 g y x ∧ at2 g y x ≤ 1 := by
  obtain ⟨-, h2, h3⟩ := h.row hy
  exact h3 _ (List.mem_of_getElem? (gD_at 0 (l := g.getD y []) (i := x) (by omega)))
theorem Shape.trectM {r c : Nat} {g : List (List Int)} (h : Shape r c g) : TRect r c g := ⟨h.1, fun row hr => ⟨(h.2 row hr).1, fun x hx => by have := (h.2 row hr).2 x hx; omega⟩⟩
def RowsAt (w : World) (b off r c : Nat) (m : List (List Int)) : Prop := ∀ y, y < r → ∃ br offr cpr, (∀ w', Below w.heap.size w w' → w'.cell? ⟨b, off + y, none⟩ = some (.slice (some ⟨br, offr, none⟩) c cpr)) ∧ ∀ x, x < c → ∀ w', Below w.heap.size w w' → w'.cell? ⟨br, offr + x, none⟩ = some (.int .i64 (at2 m y x))
theorem Grid.rowsT {w : World} {v : Value} {m : List (List Int)} {r c : Nat} (h : Grid w v m) (hs : TRect r c m) (hr : 1 ≤ r) (hc : 1 ≤ c) : ∃ b off cp, v = .slice (some ⟨b, off, none⟩) r cp ∧ b < w.heap.size ∧ RowsAt w b off r c m := by
  have hml := hs.1
  obtain ⟨b, off, cp, rfl, hb, -⟩ := h.inv_ne (by omega)
  refine ⟨b, off, cp, by rw [hml], hb, fun y hy => ?_⟩
  obtain ⟨hrow, hrl, -⟩ := hs.row hy
  obtain ⟨u, hck, hu⟩ := Sl.at h hrow
  have hu : Ints w u (m.getD y []) := hu
  obtain ⟨br, offr, cpr, rfl, hbr, -⟩ := hu.inv_ne (by omega)
  refine ⟨br, offr, cpr, fun w' hw => by rw [hw.cell (p := ⟨b, off + y, none⟩) hb, hck, hrl], fun x hx w' hw => ?_⟩
  obtain ⟨z, hz⟩ : ∃ z, (m.getD y [])[x]? = some z := ⟨_, List.getElem?_eq_getElem (by omega)⟩
  rw [hw.cell (p := ⟨br, offr + x, none⟩) hbr, Ints.at hu hz]
  unfold at2
  rw [List.getD_eq_getElem?_getD (l := m.getD y []), hz]; rfl
theorem RowsAt.keep {w w2 : World} {b off r c : Nat} {m : List (List Int)} (h : RowsAt w b off r c m) (hb : Below w.heap.size w w2) : RowsAt w2 b off r c m := fun y hy => by
  obtain ⟨br, offr, cpr, h1, h2⟩ := h y hy
  exact ⟨br, offr, cpr, fun w' hw => h1 w' (hb.trans_pure hw (Nat.le_refl _)), fun x hx w' hw => h2 x hx w' (hb.trans_pure hw (Nat.le_refl _))⟩
end Go.Proofs.YthmocomfjgmjoaaGreatDoor

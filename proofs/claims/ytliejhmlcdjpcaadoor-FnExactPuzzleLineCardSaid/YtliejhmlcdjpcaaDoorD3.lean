/- Deduction: plain. Contracts: the reference's deduction: turning a grid, solving all its lines once. Contracts: the reference's Deduce. Contracts: the reference's Deduce: the walk. -/
import Derived.Test.YtliejhmlcdjpcaaDoorDraw2
import Derived.Test.YtliejhmlcdjpcaaDoorAll2
import Derived.Test.YtliejhmlcdjpcaaDoorC12
import Derived.Test.YtliejhmlcdjpcaaDoorC9
import Derived.Test.YtliejhmlcdjpcaaDoorC24
import Derived.Deep.DeepCutAuto
import Derived.Deep.LoopGhost
import Derived.Deep.DeepFit
import Derived.Deep.RegionWith
namespace Go.Proofs.YtliejhmlcdjpcaaDoor

/-- r rows of c cells: white, black or open -/
def TRect (r c : Nat) (m : List (List Int)) : Prop := m.length = r ∧ ∀ row ∈ m, row.length = c ∧ ∀ x ∈ row, -1 ≤ x ∧ x ≤ 1
theorem TRect.row {r c y : Nat} {m : List (List Int)} (h : TRect r c m) (hy : y < r) : m[y]? = some (m.getD y []) ∧ (m.getD y []).length = c ∧ ∀ x ∈ m.getD y [], -1 ≤ x ∧ x ≤ 1 := by
  have hl : y < m.length := by rw [h.1]; exact hy
  have e := gD_at [] hl
  obtain ⟨h1, h2⟩ := h.2 _ (List.mem_of_getElem? e)
  exact ⟨e, h1, h2⟩
theorem TRect.ext {r c : Nat} {a b : List (List Int)} (ha : TRect r c a) (hb : TRect r c b) (h : ∀ y x, y < r → x < c → at2 a y x = at2 b y x) : a = b := by
  apply List.ext_getElem?
  intro y
  by_cases hy : y < r
  · obtain ⟨h1, h2, -⟩ := ha.row hy
    obtain ⟨h3, h4, -⟩ := hb.row hy
    rw [h1, h3]
    congr 1
    apply List.ext_getElem?
    intro x
    by_cases hx : x < c
    · have := h y x hy hx
      unfold at2 at this
      rw [gD_at 0 (by omega), gD_at 0 (by omega), this]
    · rw [List.getElem?_eq_none (by omega), List.getElem?_eq_none (by omega)]
  · rw [List.getElem?_eq_none (by rw [ha.1]; omega), List.getElem?_eq_none (by rw [hb.1]; omega)]
theorem TRect.head {r c : Nat} {m : List (List Int)} (h : TRect r c m) (h1 : 1 ≤ r) : (m.headD []).length = c := by
  cases m with
  | nil => have := h.1; simp at this; omega
  | cons a m => exact (h.2 a (by simp)).1
theorem tr_at2 {m : List (List Int)} {r c : Nat} (h : TRect r c m) (h1 : 1 ≤ r) {i j : Nat} (hi : i < r) (hj : j < c) : at2 (tr m) j i = at2 m i j := by
  have e : (tr m)[j]? = some ((List.range r).map fun i => at2 m i j) := by
    unfold tr
    rw [h.head h1, h.1]
    simp [hj, at2]
  unfold at2 at e ⊢
  rw [gD_some e]
  exact gD_some (by simp [hi])
theorem TRect.tr {r c : Nat} {m : List (List Int)} (h : TRect r c m) (h1 : 1 ≤ r) : TRect c r (tr m) := by
  unfold Go.Proofs.YtliejhmlcdjpcaaDoor.tr
  rw [h.head h1, h.1]
  refine ⟨by simp, fun row hrow => ?_⟩
  obtain ⟨j, hj, rfl⟩ := List.mem_map.1 hrow
  refine ⟨by simp, fun x hx => ?_⟩
  obtain ⟨i, hi, rfl⟩ := List.mem_map.1 hx
  obtain ⟨e, hl, hb⟩ := h.row (List.mem_range.1 hi)
  by_cases hjc : j < (m.getD i []).length
  · exact hb _ (List.mem_of_getElem? (gD_at 0 hjc))
  · rw [gD_none (by omega)]; decide

def sl (R : List (List Int)) (m : List (List Int)) (y : Nat) : Option (List Int) := solveLine (R.getD y []) (m.getD y [])
def passOk (R m : List (List Int)) : Bool := (List.range m.length).all fun y => (sl R m y).isSome
def passTo (R m : List (List Int)) (k : Nat) : List (List Int) := (List.range k).map fun y => (sl R m y).getD []
def passV (R m : List (List Int)) : List (List Int) := passTo R m m.length
def passD (R m : List (List Int)) : List (List Int) := if passOk R m then passV R m else []
theorem passD_no {R m : List (List Int)} (h : passOk R m = false) : passD R m = [] := by unfold passD; rw [h]; rfl
theorem passD_yes {R m : List (List Int)} (h : passOk R m = true) : passD R m = passV R m := by unfold passD; rw [h]; rfl
def dstep (R C m : List (List Int)) : Option (List (List Int)) :=
  if passOk R m then (if passOk C (tr (passV R m)) then some (tr (passV C (tr (passV R m)))) else none) else none
def dloop (R C : List (List Int)) : Nat → List (List Int) → Option (List (List Int))
  | 0, m => match dstep R C m with | none => none | some n => if n = m then some m else none
  | f + 1, m => match dstep R C m with | none => none | some n => if n = m then some m else dloop R C f n
def openGrid (r c : Nat) : List (List Int) := List.replicate r (List.replicate c (-1))
def deduce (R C : List (List Int)) : Option (List (List Int)) := if puzzleOk R C then dloop R C (R.length * C.length) (openGrid R.length C.length) else none

theorem solve_ref {rs st o : List Int} (h : solveLine rs st = some o) : o.length = st.length ∧ (∀ x ∈ o, -1 ≤ x ∧ x ≤ 1) ∧ ∀ i, i < st.length → st.getD i 0 ≠ -1 → o.getD i 0 = st.getD i 0 := by
  unfold solveLine at h
  split at h
  · rename_i hok
    obtain ⟨h1, h2⟩ := solveTo_wf (n := st.length) (rs := rs) (st := st) _ (Nat.le_refl _) o h
    refine ⟨h1, h2, fun i hi hne => ?_⟩
    have hst : -1 ≤ st.getD i 0 := by
      unfold stateOk at hok
      rw [Bool.and_eq_true] at hok
      have := List.all_eq_true.1 hok.2 (st.getD i 0) (List.mem_of_getElem? (gD_at 0 hi))
      rw [inR_iff] at this
      exact this.1
    have key : ∀ k, k ≤ (linesFor rs st.length).length → ∀ o, solveTo (linesFor rs st.length) st k = some o → o.getD i 0 = st.getD i 0 := by
      intro k
      induction k with
      | zero => intro _ o h; simp [solveTo] at h
      | succ k ih =>
        intro hk o h
        have hline : (linesFor rs st.length)[k]? = some (linesFor rs st.length)[k] := List.getElem?_eq_getElem (by omega)
        rw [solveTo_succ hline] at h
        obtain ⟨line, hl⟩ : ∃ line, line = (linesFor rs st.length)[k] := ⟨_, rfl⟩
        rw [← hl] at h hline
        have hll : line.length = st.length := by
          have hm := List.mem_of_getElem? hline
          unfold linesFor linesTo at hm
          have := (List.mem_filter.1 hm).1
          obtain ⟨key, -, rfl⟩ := List.mem_map.1 this
          exact bitsLine_len _ _
        unfold solveStep at h
        split at h
        · rename_i ha
          have hag : agreeAt st line i = true := by
            unfold agrees agreesTo at ha
            exact List.all_eq_true.1 ha i (List.mem_range.2 (by omega))
          rw [agreeAt_eq (gD_at 0 hi) (gD_at 0 (by omega : i < line.length))] at hag
          have hli : line.getD i 0 = st.getD i 0 := by
            simp only [Bool.or_eq_true, decide_eq_true_eq, beq_iff_eq] at hag
            omega
          cases hs : solveTo (linesFor rs st.length) st k with
          | none => rw [hs] at h; simp at h; rw [← h]; exact hli
          | some o' =>
            rw [hs] at h
            simp at h
            have hih := ih (by omega) o' hs
            have ho' := (solveTo_wf (n := st.length) (rs := rs) (st := st) k (by omega) o' hs).1
            rw [← h]
            have e : (mergeL o' line)[i]? = some (mergeAt (o'.getD i 0) (line.getD i 0)) := by
              unfold mergeL
              rw [List.getElem?_zipWith, gD_at 0 (by omega : i < o'.length), gD_at 0 (by omega : i < line.length)]
            rw [gD_some e, hih, hli]
            simp [mergeAt]
        · exact ih (by omega) o h
    exact key _ (Nat.le_refl _) o h
  · cases h

theorem passTo_at {R m : List (List Int)} {k y : Nat} (hy : y < k) : (passTo R m k)[y]? = some ((sl R m y).getD []) := by
  unfold passTo; simp [hy]
theorem passTo_succ (R m : List (List Int)) (k : Nat) : passTo R m (k + 1) = passTo R m k ++ [(sl R m k).getD []] := by
  unfold passTo; rw [List.range_succ, List.map_append]; rfl
theorem passTo_len (R m : List (List Int)) (k : Nat) : (passTo R m k).length = k := by simp [passTo]
theorem pass_ref {R m : List (List Int)} {r c : Nat} (hm : TRect r c m) (h : passOk R m = true) : TRect r c (passV R m) ∧ ∀ i j, i < r → j < c → at2 m i j ≠ -1 → at2 (passV R m) i j = at2 m i j := by
  have hs : ∀ y, y < r → ∃ o, sl R m y = some o ∧ o.length = c ∧ (∀ x ∈ o, -1 ≤ x ∧ x ≤ 1) ∧ ∀ i, i < c → (m.getD y []).getD i 0 ≠ -1 → o.getD i 0 = (m.getD y []).getD i 0 := by
    intro y hy
    unfold passOk at h
    have := List.all_eq_true.1 h y (List.mem_range.2 (by rw [hm.1]; exact hy))
    obtain ⟨o, ho⟩ := Option.isSome_iff_exists.1 this
    obtain ⟨h1, h2, h3⟩ := solve_ref ho
    obtain ⟨-, hl, -⟩ := hm.row hy
    rw [hl] at h1 h3
    exact ⟨o, ho, h1, h2, h3⟩
  constructor
  · refine ⟨by unfold passV; rw [passTo_len, hm.1], fun row hrow => ?_⟩
    unfold passV passTo at hrow
    obtain ⟨y, hy, rfl⟩ := List.mem_map.1 hrow
    obtain ⟨o, ho, h1, h2, -⟩ := hs y (by have := List.mem_range.1 hy; rw [hm.1] at this; exact this)
    rw [ho]
    exact ⟨h1, h2⟩
  · intro i j hi hj hne
    obtain ⟨o, ho, h1, h2, h3⟩ := hs i hi
    unfold at2 at hne ⊢
    have e : (passV R m)[i]? = some o := by
      unfold passV
      rw [passTo_at (by rw [hm.1]; exact hi), ho]; rfl
    rw [gD_some e]
    exact h3 j hj hne
theorem dstep_ref {R C m n : List (List Int)} {r c : Nat} (h1 : 1 ≤ r) (h2 : 1 ≤ c) (hm : TRect r c m) (h : dstep R C m = some n) : TRect r c n ∧ ∀ i j, i < r → j < c → at2 m i j ≠ -1 → at2 n i j = at2 m i j := by
  unfold dstep at h
  split at h
  · rename_i ho1
    split at h
    · rename_i ho2
      injection h with h
      subst h
      obtain ⟨a1, a2⟩ := pass_ref hm ho1
      have b1 := a1.tr h1
      obtain ⟨c1, c2⟩ := pass_ref b1 ho2
      refine ⟨c1.tr h2, fun i j hi hj hne => ?_⟩
      have e1 := a2 i j hi hj hne
      have e2 := tr_at2 a1 h1 hi hj
      rw [tr_at2 c1 h2 hj hi, c2 j i hj hi (by rw [e2, e1]; exact hne), e2, e1]
    · cases h
  · cases h
def unkR (l : List Int) : Nat := (l.filter fun x => x == -1).length
def unk (m : List (List Int)) : Nat := (m.map unkR).sum
theorem unkR_ref : ∀ (o st : List Int), o.length = st.length → (∀ i, i < st.length → st.getD i 0 ≠ -1 → o.getD i 0 = st.getD i 0) → unkR o ≤ unkR st ∧ (unkR o = unkR st → o = st)
  | [], [], _, _ => ⟨Nat.le_refl _, fun _ => rfl⟩
  | [], _ :: _, h, _ => by simp at h
  | _ :: _, [], h, _ => by simp at h
  | a :: o, b :: st, h, hr => by
    have ih := unkR_ref o st (by simpa using h) (fun i hi hne => by have := hr (i + 1) (by simpa using hi) (by simpa using hne); simpa using this)
    have h0 := hr 0 (by simp)
    simp at h0
    have ea : unkR (a :: o) = (if a = -1 then 1 else 0) + unkR o := by unfold unkR; by_cases ha : a = -1 <;> simp [ha]; omega
    have eb : unkR (b :: st) = (if b = -1 then 1 else 0) + unkR st := by unfold unkR; by_cases hb : b = -1 <;> simp [hb]; omega
    rw [ea, eb]
    by_cases hb : b = -1
    · rw [if_pos hb]
      refine ⟨by split <;> omega, fun he => ?_⟩
      by_cases ha : a = -1
      · rw [if_pos ha] at he
        rw [ha, hb, ih.2 (by omega)]
      · rw [if_neg ha] at he; omega
    · have hab := h0 hb
      subst hab
      refine ⟨by omega, fun he => ?_⟩
      rw [ih.2 (by omega)]
theorem unk_ref : ∀ (n m : List (List Int)), n.length = m.length → (∀ y, y < m.length → (n.getD y []).length = (m.getD y []).length ∧ ∀ i, i < (m.getD y []).length → (m.getD y []).getD i 0 ≠ -1 → (n.getD y []).getD i 0 = (m.getD y []).getD i 0) → unk n ≤ unk m ∧ (unk n = unk m → n = m)
  | [], [], _, _ => ⟨Nat.le_refl _, fun _ => rfl⟩
  | [], _ :: _, h, _ => by simp at h
  | _ :: _, [], h, _ => by simp at h
  | a :: n, b :: m, h, hr => by
    have ih := unk_ref n m (by simpa using h) (fun y hy => by have := hr (y + 1) (by simpa using hy); simpa using this)
    have h0 := hr 0 (by simp)
    simp at h0
    have hrow := unkR_ref a b h0.1 (fun i hi hne => by have := h0.2 i hi; simp at this hne; simpa using this hne)
    have ea : unk (a :: n) = unkR a + unk n := by simp [unk]
    have eb : unk (b :: m) = unkR b + unk m := by simp [unk]
    rw [ea, eb]
    exact ⟨by omega, fun he => by rw [hrow.2 (by omega), ih.2 (by omega)]⟩
theorem dstep_less {R C m n : List (List Int)} {r c : Nat} (h1 : 1 ≤ r) (h2 : 1 ≤ c) (hm : TRect r c m) (h : dstep R C m = some n) (hne : n ≠ m) : unk n < unk m := by
  obtain ⟨hn, href⟩ := dstep_ref h1 h2 hm h
  have := unk_ref n m (by rw [hn.1, hm.1]) (fun y hy => by
    rw [hm.1] at hy
    obtain ⟨-, e1, -⟩ := hn.row hy
    obtain ⟨-, e2, -⟩ := hm.row hy
    exact ⟨by rw [e1, e2], fun i hi => href y i hy (by omega)⟩)
  rcases Nat.lt_or_ge (unk n) (unk m) with h3 | h3
  · exact h3
  · exact absurd (this.2 (by omega)) hne
theorem openGrid_rect (r c : Nat) : TRect r c (openGrid r c) := by
  refine ⟨by simp [openGrid], fun row hrow => ?_⟩
  have := List.eq_of_mem_replicate hrow
  subst this
  exact ⟨by simp, fun x hx => by have := List.eq_of_mem_replicate hx; omega⟩
theorem unk_open (r c : Nat) : unk (openGrid r c) = r * c := by
  have e : unkR (List.replicate c (-1)) = c := by unfold unkR; simp
  unfold unk openGrid
  rw [List.map_replicate, e]
  simp
theorem dloop_rect {R C : List (List Int)} {r c : Nat} (h1 : 1 ≤ r) (h2 : 1 ≤ c) : ∀ (f : Nat) (m d : List (List Int)), TRect r c m → dloop R C f m = some d → TRect r c d := by
  intro f
  induction f with
  | zero =>
    intro m d hm h
    unfold dloop at h
    split at h
    · cases h
    · split at h
      · injection h with h; subst h; exact hm
      · cases h
  | succ f ih =>
    intro m d hm h
    unfold dloop at h
    split at h
    · cases h
    · rename_i n hn
      split at h
      · injection h with h; subst h; exact hm
      · exact ih n d (dstep_ref h1 h2 hm hn).1 h
end Go.Proofs.YtliejhmlcdjpcaaDoor

namespace Go.Proofs.YtliejhmlcdjpcaaDoor
open Go.RowKit

set_option maxHeartbeats 1000000 in
theorem l14Turn_c (v : Value) (m : List (List Int)) (r c : Nat) (w : World) (hv : Grid w v m) (hsh : TRect r c m) (hr1 : 1 ≤ r) (hr5 : r ≤ 5) (hc1 : 1 ≤ c) (hc5 : c ≤ 5) : Calls Tryd.prog 154 #[v] w (New 24 (Own 3 IntV) w (tr m)) := by
  have Hv := Lib.hid hv
  obtain ⟨a, cap0, rfl, hcap, hle, -, hc⟩ := hv
  have hml : m.length = r := hsh.1
  have Hml := Lib.hid hml
  have Hhead := Lib.hid (hsh.head hr1)
  obtain ⟨hrow0, hrl0, -⟩ := hsh.row (y := 0) (by omega)
  obtain ⟨row0, hrow00⟩ : ∃ row0, row0 = m.getD 0 [] := ⟨_, rfl⟩
  rw [← hrow00] at hrow0 hrl0
  obtain ⟨b, off, rfl, hb, hc'⟩ := hc (by omega)
  obtain ⟨u0, hck0, hu0⟩ := hc' 0 row0 hrow0
  obtain ⟨a0, cp0, rfl, -⟩ := hu0
  rw [hrl0, Nat.add_zero] at hck0
  rw [hml] at hcap hle ⊢
  have Hv := Hv
  rw [hml] at Hv
  clear hc hc' hrow0 hrl0 hml hrow00
  go_enter Tryd.func154, Tryd.ntmps154
  go_wp2_with (fail)
  refine (l02Empty_c c r _ (by omega) (by omega)).mono ?_
  rintro e w1 ⟨v1, rfl, hown, hbel⟩
  have hs1 := hbel.size
  obtain ⟨G, cap, rfl, hG, hcapG, hGs, -⟩ := hown.inv_ne (by simp [zeros]; omega)
  have hzl : (zeros c r).length = c := by simp [zeros]
  rw [hzl] at hcapG hown ⊢
  rw [← trTo_zero m r c] at hown
  have Hown := Lib.hid hown
  clear hown hzl
  go_wp2
  go_loopw [4, 5, 6, 7, 17] (fun _ _ _ _ i wr => ∃ k : Nat, k ≤ r ∧ i = .int .i64 k ∧ Own 24 (Own 3 IntV) (Iv w.heap.size w1.heap.size) wr (.slice (some ⟨G, 0, none⟩) c cap) (trTo m r c k 0) ∧ Below w.heap.size w wr ∧ w1.heap.size ≤ wr.heap.size) (fun _ _ _ _ i _ => r - (intOf i).toNat)
  case atStart => exact ⟨0, Nat.zero_le _, rfl, Hown.out, hbel, Nat.le_refl _⟩
  case round =>
    clear Hown hbel
    obtain ⟨k, hk, rfl, hown, hbel, hsz⟩ := hrel
    by_cases hlt : k < r
    · obtain ⟨hrow, hrl, hrb⟩ := hsh.row hlt
      obtain ⟨row, hrow00⟩ : ∃ row, row = m.getD k [] := ⟨_, rfl⟩
      rw [← hrow00] at hrow hrl hrb
      obtain ⟨u, hck, hu⟩ := Sl.at Hv.out hrow
      have hu : Ints w u row := hu
      obtain ⟨br, offr, cpr, rfl, hbr, hat⟩ := hu.inv_ne (by omega)
      rw [← hbel.cell (p := ⟨b, off + k, none⟩) hb] at hck
      rw [hrl] at hck hu
      have Hown := Lib.hid hown
      have Hrow := Lib.hid hrow
      have Hrl := Lib.hid hrl
      have Hu := Lib.hid hu
      clear hown hrow hrl hu hrow00
      have hdec : decide ((k : Int) < (r : Int)) = true := by simp; omega
      go_wp2
      obtain ⟨wo, hwo⟩ : ∃ wo : World, wo = wr := ⟨_, rfl⟩
      clear hck
      go_loopw [6, 7, 24] (fun _ _ i wr => ∃ j : Nat, j ≤ c ∧ i = .int .i64 j ∧ Own 24 (Own 3 IntV) (Iv w.heap.size w1.heap.size) wr (.slice (some ⟨G, 0, none⟩) c cap) (trTo m r c k j) ∧ Below w.heap.size w wr ∧ w1.heap.size ≤ wr.heap.size) (fun _ _ i _ => c - (intOf i).toNat)
      case atStart => exact ⟨0, Nat.zero_le _, rfl, Hown.out, hbel, hsz⟩
      case round =>
        clear Hown hbel hsz hwo
        obtain ⟨j, hj, rfl, hown, hbel, hsz⟩ := hrel
        by_cases hltj : j < c
        · obtain ⟨z, hz⟩ : ∃ z, row[j]? = some z := ⟨_, List.getElem?_eq_getElem (by rw [Hrl.out]; exact hltj)⟩
          have hzb := hrb z (List.mem_of_getElem? hz)
          have hcz := Ints.at Hu.out hz
          rw [← hbel.cell (p := ⟨br, offr + j, none⟩) hbr] at hcz
          have hq := trTo_row (m := m) (r := r) (c := c) (y := k) hltj
          obtain ⟨q, cq, hcell, -, hSq, hqG, hcq, hx, -, hset⟩ := own_grid_cell hown hq (by simp; omega)
          have hql : ((List.range r).map fun i => if i < k ∨ (i = k ∧ j < j) then (m.getD i []).getD j 0 else 0).length = r := by simp
          rw [hql] at hcell hcq hx
          obtain ⟨⟨o, hco⟩, hfo⟩ := hx k hlt
          have hnew := hset wr (fun _ _ => rfl) k z (by rw [hql]; exact hlt) (I64.small (by omega) (by omega))
          rw [trTo_set hltj hlt Hrow.out hz hq] at hnew
          have Hnew := Lib.hid hnew
          have hqs := hSq.1
          clear hown hz hq hx hset hql hnew
          go_wp2
          go_roundw
          case rel => exact ⟨j + 1, by omega, by go_num, Hnew.out, hbel.setCell hqs _, by rw [size_setCell]; exact hsz⟩
          case measure => simp [intOf]; omega
        · obtain rfl : j = c := by omega
          rw [trTo_next] at hown
          have Hown := Lib.hid hown
          clear hown
          go_wp2
          go_roundw
          case rel => exact ⟨k + 1, by omega, by go_num, Hown.out, hbel, hsz⟩
          case measure => simp [intOf]; omega
    · have Hown := Lib.hid hown
      clear hown
      go_wp2
      go_ret
      obtain rfl : k = r := by omega
      refine ⟨_, rfl, ?_, hbel⟩
      rw [← trTo_all m k c Hml.out Hhead.out]
      exact (rOwn (rOwn rIntV)).mono (fun b hb => ⟨hb.1, Nat.lt_of_lt_of_le hb.2 hsz⟩) Hown.out
set_option maxRecDepth 100000 in
set_option maxHeartbeats 1600000 in
theorem l14Pass_c (v v2 : Value) (R m : List (List Int)) (w : World) (hv : Grid w v R) (hv2 : Grid w v2 m) (hl : m.length ≤ R.length) (h5 : m.length ≤ 5) : Calls Tryd.prog 153 #[v, v2] w fun e w' => ∃ v', e = .returned (.tuple #[v', .bool (passOk R m)]) ∧ Own 24 (Own 3 IntV) (Iv w.heap.size w'.heap.size) w' v' (passD R m) ∧ Below w.heap.size w w' := by
  have Hv := Lib.hid hv
  have Hv2 := Lib.hid hv2
  obtain ⟨a, cap, rfl, -, hle, -⟩ := hv
  obtain ⟨a2, cap2, rfl, -, hle2, -⟩ := hv2
  go_enter Tryd.func153, Tryd.ntmps153
  go_wp2
  go_loopw [6, 14] (fun v i wr => ∃ k : Nat, k ≤ m.length ∧ i = .int .i64 k ∧ Hid (∀ y, y < k → (sl R m y).isSome = true) ∧ Own 24 (Own 3 IntV) (Iv w.heap.size wr.heap.size) wr v (passTo R m k) ∧ Below w.heap.size w wr) (fun _ i _ => m.length - (intOf i).toNat)
  case atStart => exact ⟨0, Nat.zero_le _, rfl, fun y hy => by omega, own_lit0 _ _ _ (rOwn rIntV), Below.pureAlloc _ _⟩
  case round =>
    obtain ⟨k, hk, rfl, Hall, hown, hbel⟩ := hrel
    obtain ⟨wo, rfl⟩ : ∃ wo : World, wo = wr := ⟨_, rfl⟩
    have hBs := hbel.size
    by_cases hlt : k < m.length
    · have hltR : k < R.length := by omega
      obtain ⟨b, off, cpr, he, hb, -⟩ := Hv.out.inv_ne (by omega)
      obtain ⟨rfl, -⟩ : a = some ⟨b, off, none⟩ ∧ cap = cpr := by simpa using he
      obtain ⟨b2, off2, cpr2, he2, hb2, -⟩ := Hv2.out.inv_ne (by omega)
      obtain ⟨rfl, -⟩ : a2 = some ⟨b2, off2, none⟩ ∧ cap2 = cpr2 := by simpa using he2
      obtain ⟨u, hck, hu⟩ := Sl.at Hv.out (gD_at [] hltR)
      obtain ⟨u2, hck2, hu2⟩ := Sl.at Hv2.out (gD_at [] hlt)
      have hu : Ints w u (R.getD k []) := hu
      have hu2 : Ints w u2 (m.getD k []) := hu2
      rw [← hbel.cell (p := ⟨b, off + k, none⟩) hb] at hck
      rw [← hbel.cell (p := ⟨b2, off2 + k, none⟩) hb2] at hck2
      have Hu := Lib.hid (hu.keep hbel)
      have Hu2 := Lib.hid (hu2.keep hbel)
      obtain ⟨p1, p2, rfl, -⟩ := hu
      obtain ⟨q1, q2, rfl, -⟩ := hu2
      obtain ⟨x1, hx1⟩ : ∃ x, x = R.getD k [] := ⟨_, rfl⟩
      obtain ⟨x2, hx2⟩ : ∃ x, x = m.getD k [] := ⟨_, rfl⟩
      have Hsl := Lib.hid (show sl R m k = solveLine x1 x2 from by rw [hx1, hx2]; rfl)
      rw [← hx1] at hck Hu
      rw [← hx2] at hck2 Hu2
      have hkl : (passTo R m k).length < 1099511627776 := by rw [passTo_len]; omega
      have Hst := Lib.hid (passTo_succ R m k)
      have Hown := Lib.hid hown
      clear hown he he2 hx1 hx2
      go_wp2_with (fail)
      refine (SolveLine_s2 _ _ _ _ _ Hu.out Hu2.out).mono ?_
      rintro e w1 ⟨v1, rfl, o1, b1⟩
      have hs1 : wo.heap.size ≤ w1.heap.size := b1.size
      obtain ⟨r1, r2, r3, rfl⟩ := o1.shape
      have Ho1 := Lib.hid o1
      clear o1
      cases hsol : (solveLine x1 x2).isSome
      · have Hf := Lib.hid (show passOk R m = false from by
          rw [← Bool.not_eq_true]
          intro h
          unfold passOk at h
          have := List.all_eq_true.1 h k (List.mem_range.2 hlt)
          rw [Hsl.out, hsol] at this
          cases this)
        have hb1 := hbel.trans_pure b1 (Nat.le_refl _)
        clear hsol
        go_wp2
        rw [Hf.out]
        go_ret2
        exact ⟨_, rfl, by rw [passD_no Hf.out]; exact Own.nil _ _ _ _, hb1⟩
      · have Hsol := Lib.hid hsol
        clear hsol
        go_wp2_with (first | (at_builtin; (refine wpList_appR rfl _ _ 23 rfl (rOwn rIntV) 24 Tryd.underlying23 infoInts rfl (by decide) w.heap.size wo.heap.size hBs hs1 rfl rfl (by exact Own.keep (rOwn rIntV) Hown.out b1 (Nat.le_refl _)) (by exact Ho1.out) hkl ?_); intro v2 w2 hown2 hbel2 _) | fail)
        have hb2 := (hbel.trans (b1.mono hBs)).trans hbel2
        have Hown2 := Lib.hid hown2
        clear hown2
        go_wp2
        go_roundw
        case rel =>
          refine ⟨k + 1, by omega, by go_num, fun y hy => ?_, by rw [Hst.out, Hsl.out]; exact Hown2.out, hb2⟩
          by_cases hyk : y < k
          · exact Hall.out y hyk
          · obtain rfl : y = k := by omega
            rw [Hsl.out]; exact Hsol.out
        case measure => simp [intOf]; omega
    · have hkm : k = m.length := by omega
      have Hf := Lib.hid (show passOk R m = true from by
        unfold passOk
        rw [List.all_eq_true]
        intro y hy
        exact Hall.out y (by rw [hkm]; exact List.mem_range.1 hy))
      have Hv := Lib.hid (show passTo R m k = passV R m from by rw [hkm]; rfl)
      have Hown := Lib.hid hown
      clear hown hkm
      go_wp2
      rw [Hf.out]
      go_ret2
      exact ⟨_, rfl, by rw [passD_yes Hf.out, ← Hv.out]; exact Hown.out, hbel⟩
end Go.Proofs.YtliejhmlcdjpcaaDoor

namespace Go.Proofs.YtliejhmlcdjpcaaDoor
open Go.RowKit

theorem setT_row {m : List (List Int)} {y x : Nat} {v : Int} (hy : y < m.length) (i : Nat) : (setC m y x v).getD i [] = if i = y then (m.getD y []).set x v else m.getD i [] := by
  unfold setC
  by_cases hi : i = y
  · subst hi; rw [if_pos rfl, gD_self hy]
  · rw [if_neg hi, gD_ne (by omega)]
theorem at2_setT {m : List (List Int)} {r c y x : Nat} (h : TRect r c m) (hy : y < r) (hx : x < c) (v : Int) (i j : Nat) : at2 (setC m y x v) i j = if i = y ∧ j = x then v else at2 m i j := by
  unfold at2
  rw [setT_row (by rw [h.1]; exact hy)]
  obtain ⟨-, hl, -⟩ := h.row hy
  by_cases hi : i = y
  · subst hi
    rw [if_pos rfl]
    by_cases hj : j = x
    · subst hj; rw [if_pos ⟨rfl, rfl⟩, gD_self (by omega)]
    · rw [if_neg (fun h => hj h.2), gD_ne (by omega)]
  · rw [if_neg hi, if_neg (fun h => hi h.1)]
theorem TRect.setC {m : List (List Int)} {r c y x : Nat} (h : TRect r c m) (hy : y < r) {v : Int} (h0 : -1 ≤ v) (h1 : v ≤ 1) : TRect r c (setC m y x v) := by
  obtain ⟨-, hl, hb⟩ := h.row hy
  refine ⟨by unfold Go.Proofs.YtliejhmlcdjpcaaDoor.setC; rw [List.length_set]; exact h.1, fun row hrow => ?_⟩
  unfold Go.Proofs.YtliejhmlcdjpcaaDoor.setC at hrow
  rcases List.mem_or_eq_of_mem_set hrow with h2 | h2
  · exact h.2 row h2
  · subst h2
    refine ⟨by rw [List.length_set]; exact hl, fun z hz => ?_⟩
    rcases List.mem_or_eq_of_mem_set hz with h3 | h3
    · exact hb z h3
    · subst h3; exact ⟨h0, h1⟩
/-- -1 before the cell (y, x), 0 from there on -/
def Filled (r c y x : Nat) (g : List (List Int)) : Prop := TRect r c g ∧ ∀ i j, i < r → j < c → at2 g i j = if i < y ∨ (i = y ∧ j < x) then -1 else 0
theorem filled_zeros (r c : Nat) : Filled r c 0 0 (zeros r c) := by
  refine ⟨⟨by simp [zeros], fun row hrow => ?_⟩, fun i j _ _ => by rw [at2_zeros, if_neg (by omega)]⟩
  have := List.eq_of_mem_replicate hrow
  subst this
  exact ⟨by simp, fun x hx => by have := List.eq_of_mem_replicate hx; omega⟩
theorem Filled.step {r c y x : Nat} {g : List (List Int)} (h : Filled r c y x g) (hy : y < r) (hx : x < c) : Filled r c y (x + 1) (g.set y ((g.getD y []).set x (-1))) := by
  refine ⟨h.1.setC hy (by decide) (by decide), fun i j hi hj => ?_⟩
  have := at2_setT h.1 hy hx (-1) i j
  unfold setC at this
  rw [this, h.2 i j hi hj]
  by_cases he : i = y ∧ j = x
  · rw [if_pos he, if_pos (by omega)]
  · rw [if_neg he]
    by_cases h1 : i < y ∨ (i = y ∧ j < x)
    · rw [if_pos h1, if_pos (by omega)]
    · rw [if_neg h1, if_neg (by omega)]
theorem Filled.next {r c y : Nat} {g : List (List Int)} (h : Filled r c y c g) : Filled r c (y + 1) 0 g := by
  refine ⟨h.1, fun i j hi hj => ?_⟩
  rw [h.2 i j hi hj]
  by_cases h1 : i < y ∨ (i = y ∧ j < c)
  · rw [if_pos h1, if_pos (by omega)]
  · rw [if_neg h1, if_neg (by omega)]
theorem Filled.done {r c : Nat} {g : List (List Int)} (h : Filled r c r 0 g) : g = openGrid r c := by
  refine h.1.ext (openGrid_rect r c) fun i j hi hj => ?_
  rw [h.2 i j hi hj, if_pos (.inl hi)]
  unfold at2 openGrid
  rw [gD_some (l := List.replicate r _) (x := List.replicate c (-1)) (by rw [List.getElem?_replicate, if_pos hi])]
  exact (gD_some (by rw [List.getElem?_replicate, if_pos hj])).symm
theorem dloop_step {R C m n : List (List Int)} {r c k : Nat} (h1 : 1 ≤ r) (h2 : 1 ≤ c) (hm : TRect r c m) (hk : unk m ≤ k) (hs : dstep R C m = some n) (hne : n ≠ m) : ∃ k', k' < k ∧ unk n ≤ k' ∧ dloop R C k m = dloop R C k' n ∧ TRect r c n := by
  have hl := dstep_less h1 h2 hm hs hne
  cases k with
  | zero => omega
  | succ k =>
    refine ⟨k, Nat.lt_succ_self _, by omega, ?_, (dstep_ref h1 h2 hm hs).1⟩
    rw [dloop, hs]
    simp only
    rw [if_neg hne]
theorem dloop_stop {R C m : List (List Int)} {k : Nat} (hs : dstep R C m = some m) : dloop R C k m = some m := by
  cases k <;> (rw [dloop, hs]; simp)
theorem dloop_none {R C m : List (List Int)} {k : Nat} (hs : dstep R C m = none) : dloop R C k m = none := by
  cases k <;> rw [dloop, hs]
theorem dstep_no1 {R C m : List (List Int)} (h : passOk R m = false) : dstep R C m = none := by unfold dstep; rw [h]; rfl
theorem dstep_no2 {R C m : List (List Int)} (h : passOk R m = true) (h2 : passOk C (tr (passV R m)) = false) : dstep R C m = none := by unfold dstep; rw [h, h2]; rfl
theorem dstep_yes {R C m : List (List Int)} (h : passOk R m = true) (h2 : passOk C (tr (passV R m)) = true) : dstep R C m = some (tr (passV C (tr (passV R m)))) := by unfold dstep; rw [h, h2]; rfl
theorem deduce_no {R C : List (List Int)} (h : puzzleOk R C = false) : deduce R C = none := by unfold deduce; rw [h]; rfl
theorem deduce_yes {R C : List (List Int)} (h : puzzleOk R C = true) : deduce R C = dloop R C (R.length * C.length) (openGrid R.length C.length) := by unfold deduce; rw [h]; rfl
theorem puzzleOk_bd {R C : List (List Int)} (h : puzzleOk R C = true) : 1 ≤ R.length ∧ R.length ≤ 5 ∧ 1 ≤ C.length ∧ C.length ≤ 5 := by
  unfold puzzleOk at h
  simp only [Bool.and_eq_true, inR_iff] at h
  omega
end Go.Proofs.YtliejhmlcdjpcaaDoor

namespace Go.Proofs.YtliejhmlcdjpcaaDoor
open Go.RowKit

theorem optSome {α : Type} {D : Option α} {d : α} (h : D = some d) : D.isSome = true := by rw [h]; rfl
theorem optNone {α : Type} {D : Option α} (h : D = none) : D.isSome = false := by rw [h]; rfl
set_option maxRecDepth 100000 in
set_option maxHeartbeats 4000000 in
theorem Deduce_s (a b : Value) (R C : List (List Int)) (w : World) (h1 : Grid w a R) (h2 : Grid w b C) :
    Calls Tryd.prog 120 #[.agg #[a, b]] w fun e w' => ∃ v', e = .returned (.tuple #[v', .bool (deduce R C).isSome]) ∧ Own 24 (Own 3 IntV) (Iv w.heap.size w'.heap.size) w' v' ((deduce R C).getD []) ∧ Below w.heap.size w w' := by
  obtain ⟨aa, ca, rfl, -⟩ := id h1
  obtain ⟨ab, cb, rfl, -⟩ := id h2
  obtain ⟨D, hD⟩ : ∃ D, D = deduce R C := ⟨_, rfl⟩
  rw [← hD]
  obtain ⟨W1, hW1⟩ : ∃ W1, W1 = w.alloc (.cells #[.slice aa R.length ca, .slice ab C.length cb] 56) := ⟨_, rfl⟩
  have bW1 : Below w.heap.size w W1 := by rw [hW1]; exact Below.pureAlloc _ _
  have zW1 : W1.heap.size = w.heap.size + 1 := by rw [hW1]; simp
  have kB : Blk W1 w.heap.size #[.slice aa R.length ca, .slice ab C.length cb] 56 := by rw [hW1]; exact Blk.new _ _ _
  have G1 := Lib.hid (h1.keep bW1)
  have G2 := Lib.hid (h2.keep bW1)
  have HbW1 := Lib.hid bW1
  have HkB := Lib.hid kB
  have HzW1 := Lib.hid zW1
  clear h1 h2 bW1 zW1 kB
  cases hok : puzzleOk R C
  · have Hn := Lib.hid (optNone (hD.trans (deduce_no hok)))
    have Hn2 := Lib.hid (show D.getD [] = [] from by rw [hD, deduce_no hok]; rfl)
    have Hok := Lib.hid hok
    clear hok hD
    go_enter Tryd.func120, Tryd.ntmps120
    subst hW1
    go_wp2_with (fail)
    refine (PuzzleOk_s _ _ _ _ _ G1.out G2.out).mono ?_
    rintro e w2 ⟨rfl, hw2⟩
    have b2 := HbW1.out.trans_pure (show Below _ _ w2 from by rw [hw2]; exact Below.pureAlloc _ _) (Nat.le_refl _)
    rw [Hok.out]
    clear hw2
    go_wp2
    rw [Hn.out, Hn2.out]
    go_ret2
    exact ⟨_, rfl, Own.nil _ _ _ _, b2⟩
  have HD := Lib.hid (hD.trans (deduce_yes hok))
  obtain ⟨hr1, hr5, hc1, hc5⟩ := puzzleOk_bd hok
  have Hok := Lib.hid hok
  clear hok hD
  go_enter Tryd.func120, Tryd.ntmps120
  subst hW1
  go_wp2_with (fail)
  refine (PuzzleOk_s _ _ _ _ _ G1.out G2.out).mono ?_
  rintro e w2 ⟨rfl, hw2⟩
  have b2 : Below (w.alloc (.cells #[.slice aa R.length ca, .slice ab C.length cb] 56)).heap.size (w.alloc (.cells #[.slice aa R.length ca, .slice ab C.length cb] 56)) w2 := by rw [hw2]; exact Below.pureAlloc _ _
  rw [Hok.out]
  clear hw2
  have HbW2 := Lib.hid (HbW1.out.trans_pure b2 (Nat.le_refl _))
  have HkB2 := Lib.hid (HkB.out.keep b2)
  have HG1 := Lib.hid (G1.out.keep b2)
  have HG2 := Lib.hid (G2.out.keep b2)
  have hlow : w.heap.size < w2.heap.size := by have := b2.size; rw [HzW1.out] at this; omega
  clear G1 G2 HbW1 HkB HzW1 b2
  have k0 : w2.cell? ⟨w.heap.size, 0, none⟩ = some (.slice aa R.length ca) := HkB2.out.cell 0
  have k1 : w2.cell? ⟨w.heap.size, 1, none⟩ = some (.slice ab C.length cb) := HkB2.out.cell 1
  go_wp2_with (fail)
  refine (l02Empty_c R.length C.length _ (by omega) (by omega)).mono ?_
  rintro e w3 ⟨v3, rfl, o3, b3⟩
  obtain ⟨G, cap, rfl, hG, hcapG, hGs, -⟩ := o3.inv_ne (by simp [zeros]; omega)
  have hzl : (zeros R.length C.length).length = R.length := by simp [zeros]
  rw [hzl] at o3 hcapG ⊢
  have Ho3 := Lib.hid o3
  have Hb3 := Lib.hid b3
  have s3 : w2.heap.size ≤ w3.heap.size := b3.size
  clear o3 b3 hzl k0 k1
  go_wp2
  go_loopw [24] (fun i wr => ∃ (k : Nat) (g : List (List Int)), k ≤ R.length ∧ i = .int .i64 k ∧ Hid (Filled R.length C.length k 0 g) ∧ Own 24 (Own 3 IntV) (Iv w2.heap.size w3.heap.size) wr (.slice (some ⟨G, 0, none⟩) R.length cap) g ∧ Below w2.heap.size w2 wr ∧ w3.heap.size ≤ wr.heap.size) (fun i _ => R.length - (intOf i).toNat)
  case atStart => exact ⟨0, _, Nat.zero_le _, rfl, filled_zeros _ _, Ho3.out, Hb3.out, Nat.le_refl _⟩
  case round =>
    clear Ho3 Hb3
    obtain ⟨k, g, hk, rfl, Hg, hown, hbel, hsz⟩ := hrel
    obtain ⟨wo, rfl⟩ : ∃ wo : World, wo = wr := ⟨_, rfl⟩
    by_cases hlt : k < R.length
    · obtain ⟨hrow, hrl, -⟩ := Hg.out.1.row hlt
      obtain ⟨q, cq, hcell, -, hSq, hqG, hcq, hx, -, hset⟩ := own_grid_cell hown hrow (by omega)
      rw [hrl] at hcell
      have Hown := Lib.hid hown
      have hdk : decide ((k : Int) < (R.length : Int)) = true := by simp; omega
      have Hbel := Lib.hid hbel
      clear hown hrow hx hset hbel
      go_wp2
      clear hcell
      go_loopw [32] (fun i wr => ∃ (j : Nat) (g : List (List Int)), j ≤ C.length ∧ i = .int .i64 j ∧ Hid (Filled R.length C.length k j g) ∧ Own 24 (Own 3 IntV) (Iv w2.heap.size w3.heap.size) wr (.slice (some ⟨G, 0, none⟩) R.length cap) g ∧ Below w2.heap.size w2 wr ∧ w3.heap.size ≤ wr.heap.size) (fun i _ => C.length - (intOf i).toNat)
      case atStart => exact ⟨0, g, Nat.zero_le _, rfl, Hg, Hown.out, Hbel.out, hsz⟩
      case round =>
        clear Hown Hbel hsz hrl Hg
        obtain ⟨j, g', hj, rfl, Hg, hown, hbel, hsz⟩ := hrel
        obtain ⟨wi, rfl⟩ : ∃ wi : World, wi = wr := ⟨_, rfl⟩
        by_cases hltj : j < C.length
        · obtain ⟨hrow, hrl, -⟩ := Hg.out.1.row hlt
          obtain ⟨q, cq, hcell, -, hSq, hqG, hcq, hx, -, hset⟩ := own_grid_cell hown hrow (by omega)
          obtain ⟨⟨o, hco⟩, hfo⟩ := hx j (by omega)
          have Hnew := Lib.hid (hset wi (fun _ _ => rfl) j (-1) (by omega) (I64.small (by decide) (by decide)))
          have Hg2 := Lib.hid (Hg.out.step hlt hltj)
          have Hb2 := Lib.hid (hbel.setCell (p := ⟨q, j, none⟩) hSq.1 (.int .i64 (-1)))
          rw [hrl] at hcell
          have hdj : decide ((j : Int) < (C.length : Int)) = true := by simp; omega
          clear hown hrow hrl hx hset hbel hcq
          go_wp2
          go_roundw
          case rel => exact ⟨j + 1, _, by omega, by go_num, Hg2, Hnew.out, Hb2.out, by rw [size_setCell]; exact hsz⟩
          case measure => simp [intOf]; omega
        · have hdj : decide ((j : Int) < (C.length : Int)) = false := by simp; omega
          have hje : j = C.length := by omega
          have Hg2 := Lib.hid (show Filled R.length C.length (k + 1) 0 g' from by have := Hg.out; rw [hje] at this; exact this.next)
          have Hown := Lib.hid hown
          clear hown hje
          go_wp2
          go_roundw
          case rel => exact ⟨k + 1, g', by omega, by go_num, Hg2, Hown.out, hbel, hsz⟩
          case measure => simp [intOf]; omega
    · have hke : k = R.length := by omega
      have hg : g = openGrid R.length C.length := by have := Hg.out; rw [hke] at this; exact this.done
      have Hown := Lib.hid (show Own 24 (Own 3 IntV) (Iv w2.heap.size wo.heap.size) wo (.slice (some ⟨G, 0, none⟩) R.length cap) (openGrid R.length C.length) from by
        rw [← hg]; exact (rOwn (rOwn rIntV)).mono (fun b hb => ⟨hb.1, Nat.lt_of_lt_of_le hb.2 hsz⟩) hown)
      have Hbel := Lib.hid hbel
      have hdk : decide ((k : Int) < (R.length : Int)) = false := by simp; omega
      clear hown hbel hg Hg hke
      go_wp2
      go_loopg [4] (R.length * C.length) (fun gk s4 wr => ∃ m : List (List Int), Hid (TRect R.length C.length m) ∧ Hid (unk m ≤ gk) ∧ Hid (D = dloop R C gk m) ∧ Own 24 (Own 3 IntV) (Iv w2.heap.size wr.heap.size) wr s4 m ∧ Below w2.heap.size w2 wr)
      case atStart => exact ⟨_, openGrid_rect _ _, Nat.le_of_eq (unk_open _ _), HD.out, Hown.out, Hbel.out⟩
      case round =>
        clear Hown Hbel HD
        obtain ⟨m, Hm, Hu, HD, hown, hbel⟩ := hrel
        obtain ⟨wi, rfl⟩ : ∃ wi : World, wi = wr := ⟨_, rfl⟩
        have hml : m.length ≤ R.length := Nat.le_of_eq Hm.out.1
        have hml2 : R.length ≤ m.length := Nat.le_of_eq Hm.out.1.symm
        have hml5 : m.length ≤ 5 := by omega
        obtain ⟨g4, cap4, rfl, -⟩ := hown.inv_ne (by omega)
        have Hown := Lib.hid hown
        have Hbel := Lib.hid hbel
        have HkB := Lib.hid (HkB2.out.keep hbel)
        have hsi : w2.heap.size ≤ wi.heap.size := hbel.size
        have k0 : wi.cell? ⟨w.heap.size, 0, none⟩ = some (.slice aa R.length ca) := HkB.out.cell 0
        clear hown hbel
        go_wp2_with (fail)
        refine (l14Pass_c _ _ R m _ (HG1.out.keep Hbel.out) Hown.out.grid hml hml5).mono ?_
        rintro e w4 ⟨v4, rfl, o4, b4⟩
        obtain ⟨p1, p2, p3, rfl⟩ := o4.shape
        have Hb4 := Lib.hid b4
        have hs4 : wi.heap.size ≤ w4.heap.size := b4.size
        have HkB4 := Lib.hid (HkB.out.keep b4)
        have Ho4 := Lib.hid o4
        have Hbel4 := Lib.hid (Hbel.out.trans_pure b4 (Nat.le_refl _))
        clear o4 b4 k0
        cases hp : passOk R m
        · have Hn := Lib.hid (show D = none from by rw [HD.out]; exact dloop_none (dstep_no1 hp))
          have bf := HbW2.out.trans_pure Hbel4.out (Nat.le_refl _)
          clear hp
          go_wp2
          rw [Hn.out]
          go_ret2
          exact ⟨_, rfl, Own.nil _ _ _ _, bf⟩
        obtain ⟨A, hA⟩ : ∃ A, A = passV R m := ⟨_, rfl⟩
        have hAr := (pass_ref Hm.out hp).1
        have ho4 := Ho4.out
        rw [passD_yes hp, ← hA] at ho4
        rw [← hA] at hAr
        have Ho4 := Lib.hid ho4
        have HAr := Lib.hid hAr
        have Hp := Lib.hid hp
        have HA := Lib.hid hA
        have HtA := Lib.hid (hAr.tr (by omega))
        have hAt : (tr A).length = C.length := HtA.out.1
        have hal : A.length = R.length := hAr.1
        obtain ⟨g5, cap5, he5, -⟩ := ho4.inv_ne (by omega)
        have hk1 : w4.cell? ⟨w.heap.size, 1, none⟩ = some (.slice ab C.length cb) := HkB4.out.cell 1
        have htl : (tr A).length ≤ C.length := Nat.le_of_eq hAt
        have ht5 : (tr A).length ≤ 5 := by omega
        clear ho4 hAr hA he5 hAt hal
        go_upto_region 16 with (fail)
        go_cut [9, 10] (fun s9 s10 wx => ∃ v9, s9 = v9 ∧ s10 = .bool (passOk C (tr A)) ∧ Hid (Own 24 (Own 3 IntV) (Iv w4.heap.size wx.heap.size) wx v9 (passD C (tr A))) ∧ Hid (Below w4.heap.size w4 wx))
        case first =>
          go_region_with (first | (go_at_call 154; refine (l14Turn_c _ A R.length C.length _ (by exact Ho4.out.grid) HAr.out (by omega) hr5 (by omega) hc5).mono ?_; rintro e w5 ⟨v5, rfl, o5, b5⟩; obtain ⟨r1, r2, r3, rfl⟩ := o5.shape; have B5 : Below w4.heap.size w4 w5 := ⟨b5.os, b5.tape, b5.output, b5.size, b5.block⟩; have hk5 := (HkB4.out.keep B5).cell 1; have HG5 := Lib.hid ((HG2.out.keep Hbel4.out).keep B5)) | (go_at_call 153; refine (l14Pass_c _ _ C (tr A) _ (by exact HG5.out) (by exact o5.grid) htl ht5).mono ?_; rintro e w6 ⟨v6, rfl, o6, b6⟩; obtain ⟨q1, q2, q3, rfl⟩ := o6.shape))
          all_goals go_wp2_with (fail)
          all_goals go_meet
          all_goals
            refine ⟨_, rfl, rfl, ?_, ?_⟩
            · have e5 := B5.size
              exact (rOwn (rOwn rIntV)).mono (fun b hb => ⟨Nat.le_trans e5 hb.1, hb.2⟩) o6
            · exact B5.trans_pure ⟨b6.os, b6.tape, b6.output, b6.size, b6.block⟩ (Nat.le_refl _)
        case rest =>
          obtain ⟨v9, rfl, rfl, Ho9, Hb9⟩ := hcut
          have hs9 : w4.heap.size ≤ wc.heap.size := Hb9.out.size
          have Hbel9 := Lib.hid (Hbel4.out.trans_pure Hb9.out (Nat.le_refl _))
          cases hp2 : passOk C (tr A)
          · have Hn := Lib.hid (show D = none from by rw [HD.out]; exact dloop_none (dstep_no2 Hp.out (by rw [← HA.out]; exact hp2)))
            have bf := HbW2.out.trans_pure Hbel9.out (Nat.le_refl _)
            clear hp2
            go_wp2
            rw [Hn.out]
            go_ret2
            exact ⟨_, rfl, Own.nil _ _ _ _, bf⟩
          obtain ⟨B, hB⟩ : ∃ B, B = passV C (tr A) := ⟨_, rfl⟩
          have hBr := (pass_ref HtA.out hp2).1
          have ho9 := Ho9.out
          rw [passD_yes hp2, ← hB] at ho9
          rw [← hB] at hBr
          have Hs := Lib.hid (show dstep R C m = some (tr B) from by rw [hB, HA.out]; exact dstep_yes Hp.out (by rw [← HA.out]; exact hp2))
          have HBr := Lib.hid hBr
          have HG9 := Lib.hid ho9.grid
          obtain ⟨g9, cap9, rfl, -⟩ := ho9.inv_ne (by have := hBr.1; omega)
          have Hown9 := Lib.hid (Own.keep (rOwn rIntV) (Own.keep (rOwn rIntV) Hown.out Hb4.out (Nat.le_refl _)) Hb9.out hs4)
          clear hp2 hB hBr ho9 Ho9
          go_wp2_with (fail)
          refine (l14Turn_c _ B C.length R.length _ HG9.out HBr.out (by omega) hc5 (by omega) hr5).mono ?_
          rintro e w10 ⟨v10, rfl, o10, b10⟩
          have htB : (tr B).length = R.length := (HBr.out.tr (by omega)).1
          obtain ⟨g10, cap10, rfl, -⟩ := o10.inv_ne (by omega)
          have Hbel10 := Lib.hid (Hbel9.out.trans_pure b10 (Nat.le_refl _))
          have Hown10 := Lib.hid (Own.keep (rOwn rIntV) Hown9.out b10 (Nat.le_trans hs4 hs9))
          have hs10 : wc.heap.size ≤ w10.heap.size := b10.size
          have Ho10 := Lib.hid o10
          have HtB := Lib.hid htB
          clear o10 b10 htB
          go_wp2_with (fail)
          refine (SameImage_s_c _ _ (tr B) m _ Ho10.out.grid Hown10.out.grid).mono ?_
          rintro e w11 ⟨rfl, b11⟩
          have hs11 : w10.heap.size ≤ w11.heap.size := b11.size
          have Hbel11 := Lib.hid (Hbel10.out.trans_pure b11 (Nat.le_refl _))
          by_cases he : tr B = m
          · have Hn := Lib.hid (show D = some m from by rw [HD.out]; exact dloop_stop (by rw [Hs.out, he]))
            have Hown11 := Lib.hid (Own.keep (rOwn rIntV) Hown10.out b11 (by omega))
            rw [decide_eq_true he]
            have bf := HbW2.out.trans_pure Hbel11.out (Nat.le_refl _)
            clear he b11
            go_wp2
            rw [Hn.out]
            go_ret2
            exact ⟨_, rfl, (rOwn (rOwn rIntV)).mono (fun b hb => ⟨by have := hb.1; omega, by have := hb.2; omega⟩) Hown11.out, bf⟩
          · obtain ⟨k', hk', hu', hd', ht'⟩ := dloop_step (by omega) (by omega) Hm.out Hu.out Hs.out he
            have Hu' := Lib.hid hu'
            have Hd' := Lib.hid (HD.out.trans hd')
            have Ht' := Lib.hid ht'
            have Ho11 := Lib.hid (Own.keep (rOwn rIntV) Ho10.out b11 (Nat.le_refl _))
            rw [decide_eq_false he]
            clear he hd' hu' ht' b11
            go_wp2
            go_roundg k'
            case measure => exact hk'
            case rel => exact ⟨tr B, Ht', Hu', Hd', (rOwn (rOwn rIntV)).mono (fun b hb => ⟨by have := hb.1; omega, by have := hb.2; omega⟩) Ho11.out, Hbel11.out⟩
end Go.Proofs.YtliejhmlcdjpcaaDoor

/- Plain: what the deduction finds holds in every solution. -/
import Derived.Test.YtlmjpmdkifoekaaDoorS4
import Derived.Test.YtlmjpmdkifoekaaDoorD6
import Derived.Test.YtlmjpmdkifoekaaDoorC22
namespace Go.Proofs.YtlmjpmdkifoekaaDoor
open Go.RowKit

/-- a solved line says nothing false of a line -/
def Says (n : Nat) (o l : List Int) : Prop := o.length = n ∧ ∀ i, i < n → o.getD i 0 = -1 ∨ o.getD i 0 = l.getD i 0
theorem merge_at {o l : List Int} {i : Nat} (h1 : i < o.length) (h2 : i < l.length) : (mergeL o l).getD i 0 = mergeAt (o.getD i 0) (l.getD i 0) := by
  unfold mergeL
  simp only [List.getD_eq_getElem?_getD]
  rw [List.getElem?_zipWith, List.getElem?_eq_getElem h1, List.getElem?_eq_getElem h2]; rfl
theorem Says.keep {n : Nat} {o l k : List Int} (h : Says n o l) (hk : k.length = n) : Says n (mergeL o k) l := by
  refine ⟨by rw [mergeL_len, h.1, hk, Nat.min_self], fun i hi => ?_⟩
  rw [merge_at (by rw [h.1]; exact hi) (by rw [hk]; exact hi)]
  unfold mergeAt
  split
  · exact h.2 i hi
  · exact .inl rfl
theorem says_merge {n : Nat} {o l : List Int} (ho : o.length = n) (hl : l.length = n) : Says n (mergeL o l) l := by
  refine ⟨by rw [mergeL_len, ho, hl, Nat.min_self], fun i hi => ?_⟩
  rw [merge_at (by rw [ho]; exact hi) (by rw [hl]; exact hi)]
  unfold mergeAt
  split
  · rename_i e; exact .inr e
  · exact .inl rfl
theorem fold_keep {n : Nat} {st l : List Int} : ∀ (L : List (List Int)) (o : List Int), (∀ k ∈ L, k.length = n) → Says n o l → ∃ o', L.foldl (solveStep st) (some o) = some o' ∧ Says n o' l
  | [], o, _, h => ⟨o, rfl, h⟩
  | k :: L, o, hL, h => by
    rw [List.foldl_cons]
    unfold solveStep
    split
    · exact fold_keep L _ (fun x hx => hL x (by simp [hx])) (h.keep (hL k (by simp)))
    · exact fold_keep L _ (fun x hx => hL x (by simp [hx])) h
theorem fold_some {n : Nat} {st l : List Int} (ha : agrees st l = true) (hl : l.length = n) : ∀ (L : List (List Int)) (acc : Option (List Int)), (∀ k ∈ L, k.length = n) → (∀ o, acc = some o → o.length = n) → l ∈ L → ∃ o', L.foldl (solveStep st) acc = some o' ∧ Says n o' l
  | [], _, _, _, h => by simp at h
  | k :: L, acc, hL, hacc, h => by
    rw [List.foldl_cons]
    by_cases e : l = k
    · subst e
      cases acc with
      | none =>
        rw [show solveStep st none l = some l from by unfold solveStep; rw [if_pos ha]]
        exact fold_keep L _ (fun x hx => hL x (by simp [hx])) ⟨hl, fun i _ => .inr rfl⟩
      | some o =>
        rw [show solveStep st (some o) l = some (mergeL o l) from by unfold solveStep; rw [if_pos ha]]
        exact fold_keep L _ (fun x hx => hL x (by simp [hx])) (says_merge (hacc o rfl) hl)
    · refine fold_some ha hl L _ (fun x hx => hL x (by simp [hx])) (fun o ho => ?_) ((List.mem_cons.1 h).resolve_left e)
      unfold solveStep at ho
      split at ho
      · have hk := hL k (by simp)
        cases acc with
        | none => rw [← Option.some.inj ho]; exact hk
        | some o1 => rw [← Option.some.inj ho]; simp only; rw [mergeL_len, hacc o1 rfl, hk, Nat.min_self]
      · exact hacc o ho
theorem solve_sound {rs st l : List Int} (hok : stateOk st = true) (hl : l ∈ linesFor rs st.length) (ha : ∀ i, i < st.length → st.getD i 0 = -1 ∨ st.getD i 0 = l.getD i 0) : ∃ o, solveLine rs st = some o ∧ Says st.length o l := by
  have hlen : l.length = st.length := (linesTo_mem hl).1
  unfold solveLine solveTo
  rw [if_pos hok, List.take_length]
  refine fold_some ?_ hlen _ none (fun k hk => (linesTo_mem hk).1) (fun o ho => by cases ho) hl
  unfold agrees agreesTo
  rw [List.all_eq_true]
  intro i hi
  have hi := List.mem_range.1 hi
  unfold agreeAt
  rcases ha i (by omega) with h | h
  · rw [h]; rfl
  · rw [h]; simp
theorem Shape.trect {r c : Nat} {g : List (List Int)} (h : Shape r c g) : TRect r c g := ⟨h.1, fun row hr => ⟨(h.2 row hr).1, fun x hx => by have := (h.2 row hr).2 x hx; omega⟩⟩
/-- a state says nothing false of an image -/
def Agr (r c : Nat) (m g : List (List Int)) : Prop := TRect r c m ∧ ∀ y x, y < r → x < c → at2 m y x = -1 ∨ at2 m y x = at2 g y x
/-- the rows of an image have the given runs -/
def RowsAre (r c : Nat) (R g : List (List Int)) : Prop := ∀ y, y < r → g.getD y [] ∈ linesFor (R.getD y []) c
theorem pass_sound {R m g : List (List Int)} {r c : Nat} (hc1 : 1 ≤ c) (hc5 : c ≤ 5) (hR : RowsAre r c R g) (h : Agr r c m g) : passOk R m = true ∧ Agr r c (passV R m) g := by
  have key : ∀ y, y < r → ∃ o, sl R m y = some o ∧ Says c o (g.getD y []) := fun y hy => by
    obtain ⟨-, h2, h3⟩ := h.1.row hy
    have hst : stateOk (m.getD y []) = true := by
      unfold stateOk
      rw [Bool.and_eq_true, List.all_eq_true, h2]
      exact ⟨inR_t (by omega) (by omega), fun x hx => inR_t (h3 x hx).1 (h3 x hx).2⟩
    obtain ⟨o, ho, hs⟩ := solve_sound (rs := R.getD y []) (l := g.getD y []) hst (by rw [h2]; exact hR y hy) (fun i hi => h.2 y i hy (by rw [← h2]; exact hi))
    exact ⟨o, ho, by rw [h2] at hs; exact hs⟩
  have hok : passOk R m = true := passOk_yes fun y hy => by
    obtain ⟨o, ho, -⟩ := key y (by rw [← h.1.1]; exact hy)
    rw [ho]; rfl
  refine ⟨hok, (pass_ref h.1 hok).1, fun y x hy hx => ?_⟩
  obtain ⟨o, ho, hs⟩ := key y hy
  have e : at2 (passV R m) y x = o.getD x 0 := by
    unfold at2 passV
    rw [List.getD_eq_getElem?_getD (l := passTo R m m.length), passTo_at (by rw [h.1.1]; exact hy), ho]; rfl
  rw [e]
  exact hs.2 x hx
theorem Agr.tr {r c : Nat} {m g : List (List Int)} (h : Agr r c m g) (hg : Shape r c g) (h1 : 1 ≤ r) : Agr c r (tr m) (tr g) := by
  refine ⟨h.1.tr h1, fun y x hy hx => ?_⟩
  rw [tr_at2 h.1 h1 hx hy, tr_at2 hg.trect h1 hx hy]
  exact h.2 x y hx hy
theorem dstep_sound {R C m g : List (List Int)} {r c : Nat} (hr1 : 1 ≤ r) (hr5 : r ≤ 5) (hc1 : 1 ≤ c) (hc5 : c ≤ 5) (hg : Shape r c g) (hR : RowsAre r c R g) (hC : RowsAre c r C (tr g)) (h : Agr r c m g) : ∃ n, dstep R C m = some n ∧ Agr r c n g := by
  obtain ⟨h1, h2⟩ := pass_sound hc1 hc5 hR h
  obtain ⟨h3, h4⟩ := pass_sound hr1 hr5 hC (h2.tr hg hr1)
  have h5 := h4.tr (hg.tr hr1) hc1
  rw [tr_tr hg hr1 hc1] at h5
  exact ⟨_, dstep_yes h1 h3, h5⟩
theorem dloop_sound {R C g : List (List Int)} {r c : Nat} (hr1 : 1 ≤ r) (hr5 : r ≤ 5) (hc1 : 1 ≤ c) (hc5 : c ≤ 5) (hg : Shape r c g) (hR : RowsAre r c R g) (hC : RowsAre c r C (tr g)) : ∀ (K k : Nat) (m : List (List Int)), k ≤ K → unk m ≤ k → Agr r c m g → ∃ d, dloop R C k m = some d ∧ Agr r c d g := by
  intro K
  induction K with
  | zero =>
    intro k m hkK hk h
    obtain ⟨n, hn, hA⟩ := dstep_sound hr1 hr5 hc1 hc5 hg hR hC h
    by_cases e : n = m
    · subst e; exact ⟨n, dloop_stop hn, h⟩
    · obtain ⟨k', hk', -⟩ := dloop_step hr1 hc1 h.1 hk hn e
      omega
  | succ K ih =>
    intro k m hkK hk h
    obtain ⟨n, hn, hA⟩ := dstep_sound hr1 hr5 hc1 hc5 hg hR hC h
    by_cases e : n = m
    · subst e; exact ⟨n, dloop_stop hn, h⟩
    · obtain ⟨k', hk', hu, he, -⟩ := dloop_step hr1 hc1 h.1 hk hn e
      rw [he]
      exact ih k' n (by omega) hu hA
theorem agr_open {r c : Nat} (g : List (List Int)) : Agr r c (openGrid r c) g := by
  refine ⟨openGrid_rect r c, fun y x hy hx => .inl ?_⟩
  unfold at2 openGrid
  have e : (List.replicate r (List.replicate c (-1 : Int))).getD y [] = List.replicate c (-1) := by
    rw [List.getD_eq_getElem?_getD, List.getElem?_replicate, if_pos hy]; rfl
  rw [e, List.getD_eq_getElem?_getD, List.getElem?_replicate, if_pos hx]; rfl
theorem deduce_sound {R C g : List (List Int)} (hok : puzzleOk R C = true) (hg : Shape R.length C.length g) (hR : RowsAre R.length C.length R g) (hC : RowsAre C.length R.length C (tr g)) : ∃ d, deduce R C = some d ∧ Agr R.length C.length d g := by
  obtain ⟨h1, h2, h3, h4⟩ := puzzleOk_bd hok
  rw [deduce_yes hok]
  exact dloop_sound h1 h2 h3 h4 hg hR hC _ _ _ (Nat.le_refl _) (by rw [unk_open]; exact Nat.le_refl _) (agr_open g)
/-! ### the solutions -/
theorem solves_iff {R C g : List (List Int)} : ∀ (f : Nat) (rows : List (List Int)), g ∈ solves R C f rows ↔ ∃ T, g = rows ++ T ∧ T.length = f ∧ (∀ i, i < f → T.getD i [] ∈ linesFor (R.getD (rows.length + i) []) C.length) ∧ pzCols g = C
  | 0, rows => by
    unfold solves
    constructor
    · intro h
      split at h
      · rename_i e
        rw [List.mem_singleton] at h
        exact ⟨[], by simp [h], rfl, fun i hi => by omega, by rw [h]; exact e⟩
      · cases h
    · rintro ⟨T, rfl, hT, -, hC⟩
      rw [List.length_eq_zero_iff.1 hT, List.append_nil] at hC ⊢
      rw [if_pos hC]; simp
  | f + 1, rows => by
    unfold solves
    rw [List.mem_flatMap]
    constructor
    · rintro ⟨l, hl, h⟩
      obtain ⟨T, hg, hT, hi, hC⟩ := (solves_iff f (rows ++ [l])).1 h
      refine ⟨l :: T, by rw [hg]; simp, by simp [hT], fun i hif => ?_, hC⟩
      cases i with
      | zero => simpa using hl
      | succ i =>
        have := hi i (by omega)
        rw [List.length_append, List.length_singleton] at this
        rw [show rows.length + (i + 1) = rows.length + 1 + i from by omega]
        simpa using this
    · rintro ⟨T, hg, hT, hi, hC⟩
      cases T with
      | nil => simp at hT
      | cons l T =>
        refine ⟨l, by simpa using hi 0 (by omega), (solves_iff f (rows ++ [l])).2 ⟨T, by rw [hg]; simp, by simpa using hT, fun i hif => ?_, hC⟩⟩
        have := hi (i + 1) (by omega)
        rw [List.length_append, List.length_singleton, show rows.length + 1 + i = rows.length + (i + 1) from by omega]
        simpa using this
theorem lessL_first : ∀ {a b : List Int}, a.length = b.length → lessL a b = true → ∃ x, x < a.length ∧ (∀ j, j < x → a.getD j 0 = b.getD j 0) ∧ a.getD x 0 < b.getD x 0
  | [], [], _, h => by simp [lessL] at h
  | [], _ :: _, hl, _ => by simp at hl
  | _ :: _, [], hl, _ => by simp at hl
  | p :: a, q :: b, hl, h => by
    unfold lessL at h
    by_cases e : p = q
    · subst e
      rw [if_neg (by simp)] at h
      obtain ⟨x, h1, h2, h3⟩ := lessL_first (by simpa using hl) h
      refine ⟨x + 1, by simpa using h1, fun j hj => ?_, by simpa using h3⟩
      cases j with
      | zero => rfl
      | succ j => simpa using h2 j (by omega)
    · rw [if_pos e, decide_eq_true_eq] at h
      exact ⟨0, by simp, fun j hj => by omega, by simpa using h⟩
theorem solves_sorted {R C : List (List Int)} : ∀ (f : Nat) (rows : List (List Int)), (solves R C f rows).Pairwise (GLt (rows.length + f) C.length)
  | 0, rows => by
    unfold solves
    split
    · exact List.pairwise_singleton _ _
    · exact List.Pairwise.nil
  | f + 1, rows => by
    unfold solves
    rw [List.pairwise_flatMap]
    refine ⟨fun l _ => ?_, ?_⟩
    · have := solves_sorted (R := R) (C := C) f (rows ++ [l])
      rw [List.length_append, List.length_singleton, show rows.length + 1 + f = rows.length + (f + 1) from by omega] at this
      exact this
    · refine List.Pairwise.imp_of_mem ?_ (linesFor_up (R.getD rows.length []) C.length)
      intro a b ha hb hab g hg h hh
      obtain ⟨T, rfl, -⟩ := (solves_iff f (rows ++ [a])).1 hg
      obtain ⟨U, rfl, -⟩ := (solves_iff f (rows ++ [b])).1 hh
      have hal := (linesTo_mem ha).1
      have hbl := (linesTo_mem hb).1
      obtain ⟨x, h1, h2, h3⟩ := lessL_first (by rw [hal, hbl]) hab
      have row : ∀ (l : List Int) (T : List (List Int)) (i : Nat), i ≤ rows.length → (rows ++ [l] ++ T).getD i [] = if i < rows.length then rows.getD i [] else l := fun l T i hi => by
        rw [List.append_assoc]
        simp only [List.getD_eq_getElem?_getD]
        split
        · rename_i hlt
          rw [List.getElem?_append_left hlt]
        · obtain rfl : i = rows.length := by omega
          rw [List.getElem?_append_right (Nat.le_refl _), Nat.sub_self]; rfl
      refine ⟨rows.length, x, by omega, by omega, fun i j hij => ?_, ?_⟩
      · unfold at2
        rw [row a T i (by omega), row b U i (by omega)]
        split
        · rfl
        · exact h2 j (by omega)
      · unfold at2
        rw [row a T _ (Nat.le_refl _), row b U _ (Nat.le_refl _), if_neg (Nat.lt_irrefl _), if_neg (Nat.lt_irrefl _)]
        exact h3
theorem runs_fact : ∀ n : Nat, n < 6 → ∀ key : Nat, key < 2 ^ n → fits n (runsOf (bitsLine n key)) = true := by decide +kernel
theorem runs_fit {n : Nat} (h : n ≤ 5) {l : List Int} (hl : l.length = n) (hb : ∀ x ∈ l, 0 ≤ x ∧ x ≤ 1) : fits n (runsOf l) = true := by
  obtain ⟨h1, h2⟩ := line_key l hb
  rw [hl] at h1 h2
  have := runs_fact n (by omega) (keyOfLine l) h1
  rwa [h2] at this
structure DedOk (r c : Nat) (m R C : List (List Int)) (d : List (List Int)) : Prop where
  rl : R.length = r
  cl : C.length = c
  ok : puzzleOk R C = true
  shape : ∀ g ∈ solutions R C, Shape r c g
  mem : m ∈ solutions R C
  sorted : (solutions R C).Pairwise (GLt r c)
  ded : deduce R C = some d
  rect : TRect r c d
  agr : ∀ g ∈ solutions R C, ∀ y x, y < r → x < c → at2 d y x = -1 ∨ at2 d y x = at2 g y x
  one : (∀ y x, y < r → x < c → at2 d y x ≠ -1) → (solutions R C).length = 1
theorem ded_ok {r c : Nat} {m : List (List Int)} (hs : Shape r c m) (hr1 : 1 ≤ r) (hr5 : r ≤ 5) (hc1 : 1 ≤ c) (hc5 : c ≤ 5) : ∃ d, DedOk r c m (pzRows m) (pzCols m) d := by
  have hio := hs.ok hr1 hr5 hc1 hc5
  obtain ⟨R, hR⟩ : ∃ R, R = pzRows m := ⟨_, rfl⟩
  obtain ⟨C, hC⟩ : ∃ C, C = pzCols m := ⟨_, rfl⟩
  have eR : R = m.map runsOf := by rw [hR]; unfold pzRows; rw [if_pos hio]
  have eC : C = (tr m).map runsOf := by rw [hC]; unfold pzCols; rw [if_pos hio]
  have hst := hs.tr hr1
  have hRl : R.length = r := by rw [eR, List.length_map, hs.1]
  have hCl : C.length = c := by rw [eC, List.length_map, hst.1]
  have hok : puzzleOk R C = true := by
    unfold puzzleOk
    simp only [Bool.and_eq_true, List.all_eq_true]
    refine ⟨⟨⟨inR_t (by omega) (by omega), inR_t (by omega) (by omega)⟩, fun x hx => ?_⟩, fun x hx => ?_⟩
    · rw [eR] at hx
      obtain ⟨l, hl, rfl⟩ := List.mem_map.1 hx
      rw [hCl]
      exact runs_fit hc5 (hs.2 l hl).1 (hs.2 l hl).2
    · rw [eC] at hx
      obtain ⟨l, hl, rfl⟩ := List.mem_map.1 hx
      rw [hRl]
      exact runs_fit hr5 (hst.2 l hl).1 (hst.2 l hl).2
  have hrow : ∀ {a b : Nat} {g : List (List Int)}, Shape a b g → RowsAre a b (g.map runsOf) g := fun {a b g} hg y hy => by
    have hm : g.getD y [] ∈ g := by
      rw [List.getD_eq_getElem?_getD, List.getElem?_eq_getElem (by rw [hg.1]; exact hy)]
      exact List.getElem_mem _
    have e : (g.map runsOf).getD y [] = runsOf (g.getD y []) := by
      simp only [List.getD_eq_getElem?_getD]
      rw [List.getElem?_map, List.getElem?_eq_getElem (by rw [hg.1]; exact hy)]; rfl
    rw [e]
    exact mem_linesFor (hg.2 _ hm).1 (hg.2 _ hm).2 rfl
  have hsh : ∀ g ∈ solutions R C, Shape r c g := fun g hg => by
    have := (solutions_shape g hg).1
    rwa [hRl, hCl] at this
  have hsol : ∀ g, g ∈ solutions R C ↔ ∃ T, g = [] ++ T ∧ T.length = R.length ∧ (∀ i, i < R.length → T.getD i [] ∈ linesFor (R.getD (([] : List (List Int)).length + i) []) C.length) ∧ pzCols g = C := fun g => by
    rw [solutions_yes hok]; exact solves_iff R.length []
  have hmem : m ∈ solutions R C := (hsol m).2 ⟨m, by simp, by rw [hRl, hs.1], fun i hi => by
    rw [List.length_nil, Nat.zero_add, hCl, eR]
    exact hrow hs i (by omega), hC.symm⟩
  have hsound : ∀ g ∈ solutions R C, ∃ d, deduce R C = some d ∧ Agr r c d g := fun g hg => by
    have hgs := hsh g hg
    obtain ⟨T, hT, -, h2, h3⟩ := (hsol g).1 hg
    rw [List.nil_append] at hT
    subst hT
    have e3 : C = (tr g).map runsOf := by rw [← h3]; unfold pzCols; rw [if_pos (hgs.ok hr1 hr5 hc1 hc5)]
    have := deduce_sound hok (g := g) (by rw [hRl, hCl]; exact hgs) (fun y hy => by
      have := h2 y hy
      rwa [List.length_nil, Nat.zero_add] at this) (by rw [hRl, hCl, e3]; exact hrow (hgs.tr hr1))
    rwa [hRl, hCl] at this
  obtain ⟨d, hd, hA⟩ := hsound m hmem
  have hagr : ∀ g ∈ solutions R C, ∀ y x, y < r → x < c → at2 d y x = -1 ∨ at2 d y x = at2 g y x := fun g hg => by
    obtain ⟨d', h1, h2⟩ := hsound g hg
    rw [hd] at h1
    rw [Option.some.inj h1]; exact h2.2
  have hsort : (solutions R C).Pairwise (GLt r c) := by
    rw [solutions_yes hok]
    have := solves_sorted (R := R) (C := C) R.length []
    rw [List.length_nil, Nat.zero_add, hCl] at this
    rw [hRl] at this ⊢
    exact this
  rw [← hR, ← hC]
  refine ⟨d, hRl, hCl, hok, hsh, hmem, hsort, hd, hA.1, hagr, fun hall => ?_⟩
  have heq : ∀ g ∈ solutions R C, g = m := fun g hg => (hsh g hg).ext hs fun y x hy hx => by
    rcases hagr g hg y x hy hx with h | h
    · exact absurd h (hall y x hy hx)
    · rcases hagr m hmem y x hy hx with h' | h'
      · exact absurd h' (hall y x hy hx)
      · exact h.symm.trans h'
  obtain ⟨S, hS⟩ : ∃ S, S = solutions R C := ⟨_, rfl⟩
  rw [← hS] at heq hsort hmem ⊢
  cases S with
  | nil => cases hmem
  | cons a S =>
    cases S with
    | nil => rfl
    | cons b S =>
      exfalso
      have h1 := (List.pairwise_cons.1 hsort).1 b (by simp)
      rw [heq a (by simp), heq b (by simp)] at h1
      obtain ⟨y, x, -, -, -, h⟩ := h1
      omega
end Go.Proofs.YtlmjpmdkifoekaaDoor

/- Texts: parts joined and split again. Plain. -/
import Derived.Test.YtningnjdafhgkaaDoorF8
namespace Go.Proofs.YtningnjdafhgkaaDoor

theorem head_uniq {b : UInt8} {x y s t : List UInt8} (hx : b ∉ x) (hy : b ∉ y) (hs : s = [] ∨ ∃ s', s = b :: s') (ht : t = [] ∨ ∃ t', t = b :: t') (h : x ++ s = y ++ t) : x = y ∧ s = t := by
  induction x generalizing y with
  | nil =>
    cases y with
    | nil => exact ⟨rfl, by simpa using h⟩
    | cons c y =>
      rcases hs with rfl | ⟨s', rfl⟩
      · simp at h
      · simp at h; obtain ⟨rfl, -⟩ := h; exact absurd (List.mem_cons_self ..) hy
  | cons c x ih =>
    cases y with
    | nil =>
      rcases ht with rfl | ⟨t', rfl⟩
      · simp at h
      · simp at h; obtain ⟨rfl, -⟩ := h; exact absurd (List.mem_cons_self ..) hx
    | cons d y =>
      simp at h
      obtain ⟨rfl, h⟩ := h
      obtain ⟨h1, h2⟩ := ih (fun hm => hx (List.mem_cons_of_mem _ hm)) (fun hm => hy (List.mem_cons_of_mem _ hm)) h
      exact ⟨by rw [h1], h2⟩
theorem tail_form (b : UInt8) (r : List (List UInt8)) : Lib.joinTail [b] r = [] ∨ ∃ s', Lib.joinTail [b] r = b :: s' := by
  cases r with
  | nil => exact .inl rfl
  | cons y r => exact .inr ⟨y ++ Lib.joinTail [b] r, by simp [Lib.joinTail]⟩
theorem tail_inj (b : UInt8) : ∀ (xs ys : List (List UInt8)), (∀ x ∈ xs, b ∉ x) → (∀ y ∈ ys, b ∉ y) → Lib.joinTail [b] xs = Lib.joinTail [b] ys → xs = ys := by
  intro xs
  induction xs with
  | nil =>
    intro ys _ _ h
    cases ys with
    | nil => rfl
    | cons y r => simp [Lib.joinTail] at h
  | cons x r ih =>
    intro ys h1 h2 h
    cases ys with
    | nil => simp [Lib.joinTail] at h
    | cons y r' =>
      have e1 : Lib.joinTail [b] (x :: r) = b :: (x ++ Lib.joinTail [b] r) := by simp [Lib.joinTail]
      have e2 : Lib.joinTail [b] (y :: r') = b :: (y ++ Lib.joinTail [b] r') := by simp [Lib.joinTail]
      rw [e1, e2] at h
      injection h with _ h
      obtain ⟨h3, h4⟩ := head_uniq (h1 x (by simp)) (h2 y (by simp)) (tail_form b r) (tail_form b r') h
      rw [h3, ih r' (fun z hz => h1 z (by simp [hz])) (fun z hz => h2 z (by simp [hz])) h4]
theorem joinB_inj {b : UInt8} {xs ys : List ByteArray} (hx : xs ≠ []) (hy : ys ≠ []) (h1 : ∀ p ∈ xs, b ∉ p.data.toList) (h2 : ∀ p ∈ ys, b ∉ p.data.toList) (h : joinB ⟨#[b]⟩ xs = joinB ⟨#[b]⟩ ys) : xs = ys := by
  cases xs with
  | nil => exact absurd rfl hx
  | cons x r =>
    cases ys with
    | nil => exact absurd rfl hy
    | cons y r' =>
      have h3 := congrArg (fun z : ByteArray => z.data.toList) h
      unfold joinB at h3
      simp only [List.map_cons] at h3
      rw [Lib.join_cons, Lib.join_cons] at h3
      obtain ⟨h4, h5⟩ := head_uniq (h1 x (by simp)) (h2 y (by simp)) (tail_form b _) (tail_form b _) h3
      have h6 := tail_inj b _ _ (fun z hz => by obtain ⟨p, hp, rfl⟩ := List.mem_map.1 hz; exact h1 p (by simp [hp])) (fun z hz => by obtain ⟨p, hp, rfl⟩ := List.mem_map.1 hz; exact h2 p (by simp [hp])) h5
      have h7 : r = r' := by
        clear h h1 h2 h3 h4 h5 hx hy
        induction r generalizing r' with
        | nil => cases r' with
          | nil => rfl
          | cons a l => simp at h6
        | cons a l ih => cases r' with
          | nil => simp at h6
          | cons c l' =>
            simp only [List.map_cons, List.cons.injEq] at h6
            have h8 := ih l' h6.2
            rw [ba_ext h6.1, h8]
      rw [ba_ext h4, h7]
theorem split_join {b : UInt8} {xs : List ByteArray} (hx : xs ≠ []) (h1 : ∀ p ∈ xs, b ∉ p.data.toList) : splitB (joinB ⟨#[b]⟩ xs) b = xs := by
  apply joinB_inj (b := b)
  · intro e; have := splitB_pos (joinB ⟨#[b]⟩ xs) b; rw [e] at this; simp at this
  · exact hx
  · exact fun p hp hm => (splitB_parts _ _ p hp b hm).1 rfl
  · exact h1
  · exact splitB_join _ _
/-- an image is read off its text -/
theorem parse_format {m : List (List Int)} (h : imageOk m = true) : parseOk (formatImage m) = true ∧ parseImg (formatImage m) = m := by
  obtain ⟨r, c, h1, h2, h3, h4, hs⟩ := imageOk_shape h
  have hf : formatImage m = signsOf m := by unfold formatImage; rw [if_pos h]
  have hsp : splitB (signsOf m) 47 = m.map signRow := by
    unfold signsOf
    refine split_join ?_ ?_
    · intro e
      have := congrArg List.length e
      rw [List.length_map, hs.1] at this
      simp at this; omega
    · intro p hp hm
      obtain ⟨row, hrow, rfl⟩ := List.mem_map.1 hp
      rw [signRow_list] at hm
      obtain ⟨x, hx, hx2⟩ := List.mem_map.1 hm
      unfold signB at hx2
      split at hx2
      · exact absurd hx2 (by decide)
      · split at hx2 <;> exact absurd hx2 (by decide)
  have hp : parsed (signsOf m) = m := by
    unfold parsed
    rw [hsp, List.map_map]
    have e : ∀ row ∈ m, (rowB ∘ signRow) row = id row := by
      intro row hrow
      show rowB (signRow row) = row
      unfold rowB
      rw [signRow_list, List.map_map]
      have e2 : ∀ x ∈ row, (cellB ∘ signB) x = id x := by
        intro x hx
        have := (hs.2 row hrow).2 x hx
        have h5 : x = 0 ∨ x = 1 := by omega
        rcases h5 with rfl | rfl <;> rfl
      exact (List.map_congr_left e2).trans (List.map_id _)
    exact (List.map_congr_left e).trans (List.map_id _)
  have hok : parseOk (signsOf m) = true := by
    rw [parseOk_s, hp, h, hf]; simp
  rw [hf]
  exact ⟨hok, by unfold parseImg; rw [hok, hp]; rfl⟩
theorem fmt_no_comma (n : Int) : (44 : UInt8) ∉ (fmtInt n).data.toList := by
  intro hm
  have hm : (44 : UInt8) ∈ Go.Lib.itoa n := hm
  have hd := (decDigits_fact n.natAbs).2.1
  rw [List.all_eq_true] at hd
  rcases Int.lt_or_le n 0 with h | h
  · rw [(itoa_head n).1 h] at hm
    rcases List.mem_cons.1 hm with h2 | h2
    · exact absurd h2 (by decide)
    · exact absurd (hd _ h2) (by decide)
  · rw [(itoa_head n).2 h] at hm
    exact absurd (hd _ hm) (by decide)
theorem parse_fmt {n : Int} (h : I64 n) : parseYes (fmtInt n) = true ∧ parseVal (fmtInt n) = n := by
  have := parse_yes (parseI_some (s := fmtInt n) (n := n) ⟨h.out, rfl⟩)
  exact ⟨this.2, this.1⟩
/-- sums are read off their text -/
theorem sums_format {l : List Int} (hne : l ≠ []) (h : Ints64 l) : sumsYes (sumsText l) = true ∧ sumsVal (sumsText l) = l := by
  have ht : sumsText l = joinB ⟨#[44]⟩ (l.map fmtInt) := by unfold sumsText intsText; rw [if_neg hne]
  have hsp : splitB (sumsText l) 44 = l.map fmtInt := by
    rw [ht]
    refine split_join ?_ ?_
    · intro e; exact hne (List.map_eq_nil_iff.1 e)
    · intro p hp
      obtain ⟨n, -, rfl⟩ := List.mem_map.1 hp
      exact fmt_no_comma n
  have hall : (splitB (sumsText l) 44).all parseYes = true := by
    rw [hsp, List.all_eq_true]
    intro p hp
    obtain ⟨n, hn, rfl⟩ := List.mem_map.1 hp
    exact (parse_fmt (h n hn)).1
  have hnd : sumsText l ≠ ⟨#[45]⟩ := by
    intro e
    rw [e] at hall
    have h2 : splitB (⟨#[45]⟩ : ByteArray) 44 = [⟨#[45]⟩] := by
      rw [e] at hsp
      have h3 := splitB_join (⟨#[45]⟩ : ByteArray) 44
      have h4 := splitB_len (⟨#[45]⟩ : ByteArray) 44
      have h5 : joinB ⟨#[44]⟩ [(⟨#[45]⟩ : ByteArray)] = ⟨#[45]⟩ := joinB_one _ _
      refine joinB_inj (b := 44) ?_ (by simp) ?_ ?_ (h3.trans h5.symm)
      · intro e2; have := splitB_pos (⟨#[45]⟩ : ByteArray) 44; rw [e2] at this; simp at this
      · exact fun p hp hm => (splitB_parts _ _ p hp 44 hm).1 rfl
      · intro p hp; simp at hp; subst hp; decide
    rw [h2] at hall
    simp at hall
    unfold parseYes at hall
    rw [dash_split] at hall
    cases hall
  have hv : sumsParts (sumsText l) = l := by
    unfold sumsParts
    rw [hsp, List.map_map]
    have e : ∀ n ∈ l, (parseVal ∘ fmtInt) n = id n := fun n hn => (parse_fmt (h n hn)).2
    exact (List.map_congr_left e).trans (List.map_id _)
  refine ⟨by unfold sumsYes; rw [hall]; simp, ?_⟩
  unfold sumsVal
  rw [if_neg hnd, if_pos hall, hv]
end Go.Proofs.YtningnjdafhgkaaDoor

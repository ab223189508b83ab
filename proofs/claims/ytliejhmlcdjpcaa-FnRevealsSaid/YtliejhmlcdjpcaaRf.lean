/- Plain: the free cells are enough. -/
import Derived.Test.YtliejhmlcdjpcaaRv5
import Derived.Test.YtliejhmlcdjpcaaSw4
namespace Go.Proofs.Ytliejhmlcdjpcaa
open Go.RowKit

def negPos (l : List Int) : List Nat := (List.range l.length).filter fun n => decide (l.getD n 0 < 0)
theorem negPos_snoc (l : List Int) (x : Int) : negPos (l ++ [x]) = negPos l ++ if x < 0 then [l.length] else [] := by
  unfold negPos
  rw [List.length_append, List.length_singleton, List.range_succ, List.filter_append]
  congr 1
  · refine List.filter_congr fun n hn => ?_
    have hn := List.mem_range.1 hn
    simp only [List.getD_eq_getElem?_getD]
    rw [List.getElem?_append_left hn]
  · have e : (l ++ [x]).getD l.length 0 = x := by simp [List.getD_eq_getElem?_getD]
    by_cases hx : x < 0
    · rw [List.filter_cons_of_pos (by rw [e, decide_eq_true_eq]; exact hx), if_pos hx]; rfl
    · rw [List.filter_cons_of_neg (by rw [e, decide_eq_true_eq]; exact hx), if_neg hx]; rfl
theorem negPos_take (l : List Int) : ∀ k, k ≤ l.length → (negPos (l.take k)).length = ((l.take k).filter fun x => decide (x < 0)).length
  | 0, _ => by simp [negPos]
  | k + 1, h => by
    have hk : k < l.length := by omega
    rw [List.take_succ_eq_append_getElem hk, negPos_snoc, List.length_append, negPos_take l k (by omega), List.filter_append, List.length_append]
    by_cases hx : l[k] < 0
    · rw [if_pos hx, List.filter_cons_of_pos (by rw [decide_eq_true_eq]; exact hx)]; rfl
    · rw [if_neg hx, List.filter_cons_of_neg (by rw [decide_eq_true_eq]; exact hx)]; rfl
theorem negPos_len (l : List Int) : (negPos l).length = (l.filter fun x => decide (x < 0)).length := by
  have h := negPos_take l l.length (Nat.le_refl _)
  rwa [List.take_length] at h
theorem flat_len {c : Nat} : ∀ {F : List (List Int)}, (∀ l ∈ F, l.length = c) → F.flatten.length = F.length * c
  | [], _ => by simp
  | l :: F, h => by
    rw [List.flatten_cons, List.length_append, flat_len fun k hk => h k (by simp [hk]), h l (by simp), List.length_cons, Nat.succ_mul]; omega
theorem flat_at {c : Nat} (hc : 1 ≤ c) : ∀ {F : List (List Int)}, (∀ l ∈ F, l.length = c) → ∀ (y x : Nat) (l : List Int), F[y]? = some l → x < c → F.flatten[y * c + x]? = l[x]?
  | [], _, y, x, l, h, _ => by simp at h
  | k :: F, hF, 0, x, l, h, hx => by
    simp at h
    subst h
    rw [List.flatten_cons, Nat.zero_mul, Nat.zero_add, List.getElem?_append_left (by rw [hF k (by simp)]; exact hx)]
  | k :: F, hF, y + 1, x, l, h, hx => by
    have hk := hF k (by simp)
    have h2 : F[y]? = some l := by simpa using h
    rw [List.flatten_cons, List.getElem?_append_right (by rw [hk, Nat.succ_mul]; omega), hk, show (y + 1) * c + x - c = y * c + x from by rw [Nat.succ_mul]; omega]
    exact flat_at hc (fun k hk => hF k (by simp [hk])) y x l h2 hx
theorem flat_negs : ∀ F : List (List Int), (F.flatten.filter fun x => decide (x < 0)).length = negs F
  | [] => rfl
  | l :: F => by
    rw [List.flatten_cons, List.filter_append, List.length_append, flat_negs F]
    simp [negs, negRow]
theorem fixedOf_at2 {r c : Nat} {m : List (List Int)} (hs : Shape r c m) (hr1 : 1 ≤ r) (hr5 : r ≤ 5) (hc1 : 1 ≤ c) (hc5 : c ≤ 5) {y : Nat} (hy : y < r) : ∃ l, (fixedOf (rowSumsOf m) (colSumsOf m))[y]? = some l ∧ l.length = c ∧ ∀ x, x < c → ∃ f, l[x]? = some f ∧ (f < 0 ↔ Reach r c m (fromOf r m y x) (toOf r m y x)) := by
  have hS := sums_of_image hs hr1 hr5 hc1 hc5
  have hrl := (rowSumsOf_wf hs hr1 hr5 hc1 hc5).1
  have hcl := (colSumsOf_wf hs hr1 hr5 hc1 hc5).1
  have hok : sumsOk (rowSumsOf m) (colSumsOf m) = true := sumsOk_of (by omega) (by omega) (by omega) (by omega) (by rw [hrl, hcl]; exact hS)
  have hex : existsB (rowSumsOf m) (colSumsOf m) = true := (existsB_iff hok).2 ⟨m, by rw [hrl, hcl]; exact hS⟩
  have hmem : ∀ g, g ∈ imgsOf (rowSumsOf m) (colSumsOf m) ↔ Sums (rowSumsOf m) (colSumsOf m) r c g := fun g => by
    rw [imgsOf_ok hok, allImgs_mem hok, hrl, hcl]
  have hm := (hmem m).2 hS
  obtain ⟨L, hL⟩ : ∃ L, L = imgsOf (rowSumsOf m) (colSumsOf m) := ⟨_, rfl⟩
  rw [← hL] at hm hmem
  have hh : L.headD [] ∈ L := by
    cases L with
    | nil => cases hm
    | cons a l => simp
  have hF : fixedOf (rowSumsOf m) (colSumsOf m) = imgFn r c fun i j => if ∀ g ∈ L, at2 g i j = at2 m i j then at2 m i j else -1 := by
    unfold fixedOf
    rw [if_pos hex, hrl, hcl, ← hL]
    unfold fixG
    refine imgFn_congr fun i j _ _ => ?_
    by_cases h : ∀ g ∈ L, at2 g i j = at2 (L.headD []) i j
    · rw [if_pos h, if_pos fun g hg => (h g hg).trans (h m hm).symm, h m hm]
    · rw [if_neg h, if_neg fun h' => h fun g hg => (h' g hg).trans (h' _ hh).symm]
  rw [hF]
  refine ⟨_, imgFn_row (c := c) (fun i j => if ∀ g ∈ L, at2 g i j = at2 m i j then at2 m i j else -1) hy, by simp, fun x hx => ⟨if ∀ g ∈ L, at2 g y x = at2 m y x then at2 m y x else -1, ?_, ?_⟩⟩
  · rw [List.getElem?_map, List.getElem?_range hx]; rfl
  · rw [← free_reach hs hr1 hr5 hc1 hc5 hy hx]
    have hb := at2_bits hs y x
    constructor
    · intro hlt
      apply Classical.byContradiction
      intro hn
      rw [if_pos fun g hg => Classical.byContradiction fun hne => hn ⟨g, (hmem g).1 hg, hne⟩] at hlt
      omega
    · rintro ⟨g, hg, hne⟩
      rw [if_neg fun h => hne (h g ((hmem g).2 hg))]
      omega

theorem filter_one {α : Type} {p : α → Bool} {m : α} : ∀ {L : List α}, L.Pairwise (fun a b => a ≠ b) → m ∈ L → p m = true → (∀ g ∈ L, p g = true → g = m) → (L.filter p).length = 1
  | [], _, h, _, _ => by simp at h
  | a :: L, hp, hm, hpm, hall => by
    rw [List.pairwise_cons] at hp
    by_cases e : a = m
    · subst e
      rw [List.filter_cons_of_pos hpm, List.length_cons]
      have : L.filter p = [] := by
        rw [List.filter_eq_nil_iff]
        intro g hg h
        exact hp.1 g hg (hall g (by simp [hg]) h).symm
      rw [this]; rfl
    · have hpa : ¬ p a = true := fun h => e (hall a (by simp) h)
      rw [List.filter_cons_of_neg hpa]
      exact filter_one hp.2 ((List.mem_cons.1 hm).resolve_left fun h => e h.symm) hpm fun g hg h => hall g (by simp [hg]) h
theorem free_enough {r c : Nat} {m : List (List Int)} (hs : Shape r c m) (hr1 : 1 ≤ r) (hr5 : r ≤ 5) (hc1 : 1 ≤ c) (hc5 : c ≤ 5) : ∃ l, Rising (r * c) l ∧ enoughB c (allImgs (rowSumsOf m) (colSumsOf m)) m l = true ∧ l.length = negs (fixedOf (rowSumsOf m) (colSumsOf m)) := by
  obtain ⟨F, hF⟩ : ∃ F, F = fixedOf (rowSumsOf m) (colSumsOf m) := ⟨_, rfl⟩
  have hlen : F.length = r := by rw [hF]; exact (fix_ok hs hr1 hr5 hc1 hc5).len
  have hat : ∀ y, y < r → ∃ l, F[y]? = some l ∧ l.length = c ∧ ∀ x, x < c → ∃ f, l[x]? = some f ∧ (f < 0 ↔ Reach r c m (fromOf r m y x) (toOf r m y x)) := fun y hy => by rw [hF]; exact fixedOf_at2 hs hr1 hr5 hc1 hc5 hy
  have hrow : ∀ l ∈ F, l.length = c := fun l hl => by
    obtain ⟨y, hy⟩ := List.getElem?_of_mem hl
    obtain ⟨l', h1, h2, -⟩ := hat y (by rw [← hlen]; exact (List.getElem?_eq_some_iff.1 hy).1)
    rw [hy] at h1
    rw [Option.some.inj h1]; exact h2
  have hfl : F.flatten.length = r * c := by rw [flat_len hrow, hlen]
  have hI := imgsOk hs hr1 hr5 hc1 hc5
  refine ⟨(negPos F.flatten).map fun i : Nat => (i : Int), ⟨?_, fun x hx => ?_⟩, ?_, ?_⟩
  · rw [List.pairwise_map]
    exact ((range_lt F.flatten.length).filter _).imp fun h => by omega
  · obtain ⟨i, hi, rfl⟩ := List.mem_map.1 hx
    have := List.mem_range.1 (List.mem_filter.1 hi).1
    omega
  · unfold enoughB
    rw [decide_eq_true_eq]
    have hall : ∀ g ∈ allImgs (rowSumsOf m) (colSumsOf m), agreesB c m g ((negPos F.flatten).map fun i : Nat => (i : Int)) = true → g = m := by
      intro g hg ha
      refine Classical.byContradiction fun hne => ?_
      obtain ⟨n, hn, hd⟩ := cell_diff hc1 (hI.shape g hg) hs hne
      have hy : n / c < r := Nat.div_lt_of_lt_mul (by rw [Nat.mul_comm]; exact hn)
      have hx : n % c < c := Nat.mod_lt _ (by omega)
      obtain ⟨l, hl, hlc, hlx⟩ := hat (n / c) hy
      obtain ⟨f, hf, hfr⟩ := hlx (n % c) hx
      have hfn := flat_at hc1 hrow (n / c) (n % c) l hl hx
      rw [show n / c * c + n % c = n from by rw [Nat.mul_comm]; exact Nat.div_add_mod n c, hf] at hfn
      have hreach : f < 0 := hfr.2 ((free_reach hs hr1 hr5 hc1 hc5 hy hx).1 ⟨g, (hI.mem g).1 hg, by simpa [cellN] using hd⟩)
      have hmem : n ∈ negPos F.flatten := List.mem_filter.2 ⟨List.mem_range.2 (by rw [hfl]; exact hn), by rw [decide_eq_true_eq, List.getD_eq_getElem?_getD, hfn]; exact hreach⟩
      unfold agreesB at ha
      have := List.all_eq_true.1 ha (n : Int) (List.mem_map.2 ⟨n, hmem, rfl⟩)
      rw [decide_eq_true_eq] at this
      exact hd this
    exact filter_one (p := fun h => agreesB c m h ((negPos F.flatten).map fun i : Nat => (i : Int))) hI.nd hI.self (agreesB_self c m _) hall
  · rw [List.length_map, negPos_len, flat_negs, hF]
end Go.Proofs.Ytliejhmlcdjpcaa

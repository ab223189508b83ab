/- The free cells of an image (plain); contracts: IsUnique, IsFixed, FreeCells. -/
import Derived.Test.YtliejhmlcdjpcaaSw3
import Derived.Test.YtliejhmlcdjpcaaKeyL
import Derived.Test.YtliejhmlcdjpcaaK2
namespace Go.Proofs.Ytliejhmlcdjpcaa
open Go.RowKit


/-- the free cells of a row, of a grid -/
def negRow (l : List Int) : Nat := (l.filter fun x => decide (x < 0)).length
def negs (F : List (List Int)) : Nat := (F.map negRow).sum
theorem negRow_take {l : List Int} {k : Nat} {x : Int} (h : l[k]? = some x) : negRow (l.take (k + 1)) = negRow (l.take k) + if x < 0 then 1 else 0 := by
  unfold negRow
  rw [List.take_add_one, h, Option.toList_some, List.filter_append, List.length_append]
  by_cases hx : x < 0 <;> simp [hx]
theorem negRow_le (l : List Int) : negRow l ≤ l.length := List.length_filter_le _ _
theorem negs_take {F : List (List Int)} {k : Nat} {l : List Int} (h : F[k]? = some l) : negs (F.take (k + 1)) = negs (F.take k) + negRow l := by
  unfold negs
  rw [List.take_add_one, h, Option.toList_some, List.map_append, List.sum_append]; simp
theorem negRow_zero {l : List Int} : negRow l = 0 ↔ ∀ x ∈ l, 0 ≤ x := by
  unfold negRow
  rw [List.length_eq_zero_iff, List.filter_eq_nil_iff]
  constructor
  · intro h x hx; have := h x hx; simp at this; exact this
  · intro h x hx; have := h x hx; simp; exact this
theorem negs_zero {F : List (List Int)} : negs F = 0 ↔ ∀ l ∈ F, ∀ x ∈ l, 0 ≤ x := by
  induction F with
  | nil => simp [negs]
  | cons l F ih =>
    have e : negs (l :: F) = negRow l + negs F := by simp [negs]
    rw [e]
    constructor
    · intro h k hk
      rcases List.mem_cons.1 hk with rfl | hk
      · exact negRow_zero.1 (by omega)
      · exact ih.1 (by omega) k hk
    · intro h
      have h1 := negRow_zero.2 (h l (by simp))
      have h2 := ih.2 fun k hk => h k (by simp [hk])
      omega

structure FixOk (r c : Nat) (m F : List (List Int)) : Prop where
  len : F.length = r
  row : ∀ y, y < r → ∃ l, F[y]? = some l ∧ l.length = c ∧ ∀ x, x < c → ∃ f, l[x]? = some f ∧ (f = -1 ∨ f = at2 m y x)
  zero : negs F = 0 ↔ switchesOf r c m = []
  text : 0 < (signsOf F).size

theorem signs_pos {F : List (List Int)} {c : Nat} (hF : F ≠ []) (hc : 1 ≤ c) (hl : ∀ l ∈ F, l.length = c) : 0 < (signsOf F).size := by
  obtain ⟨G, x, rfl⟩ : ∃ G x, F = G ++ [x] := ⟨F.dropLast, F.getLast hF, (List.dropLast_concat_getLast hF).symm⟩
  have hx := hl x (by simp)
  unfold signsOf
  rw [List.map_append]
  by_cases hG : G.map signRow = []
  · rw [hG]
    simp only [List.map_cons, List.map_nil, List.nil_append]
    rw [joinB_one, signRow_size]; omega
  · simp only [List.map_cons, List.map_nil]
    rw [joinB_snoc _ _ hG, ByteArray.size_append, signRow_size]; omega

theorem fix_ok {r c : Nat} {m : List (List Int)} (hs : Shape r c m) (hr1 : 1 ≤ r) (hr5 : r ≤ 5) (hc1 : 1 ≤ c) (hc5 : c ≤ 5) : FixOk r c m (fixedOf (rowSumsOf m) (colSumsOf m)) := by
  have hS := sums_of_image hs hr1 hr5 hc1 hc5
  have hrl := (rowSumsOf_wf hs hr1 hr5 hc1 hc5).1
  have hcl := (colSumsOf_wf hs hr1 hr5 hc1 hc5).1
  have hok : sumsOk (rowSumsOf m) (colSumsOf m) = true := sumsOk_of (by omega) (by omega) (by omega) (by omega) (by rw [hrl, hcl]; exact hS)
  have hex : existsB (rowSumsOf m) (colSumsOf m) = true := (existsB_iff hok).2 ⟨m, by rw [hrl, hcl]; exact hS⟩
  have hmem : ∀ g, g ∈ imgsOf (rowSumsOf m) (colSumsOf m) ↔ Sums (rowSumsOf m) (colSumsOf m) r c g := fun g => by
    rw [imgsOf_ok hok, allImgs_mem hok, hrl, hcl]
  have hm := (hmem m).2 hS
  obtain ⟨L, hL⟩ : ∃ L, L = imgsOf (rowSumsOf m) (colSumsOf m) := ⟨_, rfl⟩
  rw [← hL] at hm hmem
  have hh : L.headD [] ∈ L := by
    cases L with
    | nil => cases hm
    | cons a l => simp
  have hF : fixedOf (rowSumsOf m) (colSumsOf m) = imgFn r c fun i j => if ∀ g ∈ L, at2 g i j = at2 m i j then at2 m i j else -1 := by
    unfold fixedOf
    rw [if_pos hex, hrl, hcl, ← hL]
    unfold fixG
    refine imgFn_congr fun i j _ _ => ?_
    by_cases h : ∀ g ∈ L, at2 g i j = at2 (L.headD []) i j
    · rw [if_pos h, if_pos fun g hg => (h g hg).trans (h m hm).symm, h m hm]
    · rw [if_neg h, if_neg fun h' => h fun g hg => (h' g hg).trans (h' _ hh).symm]
  rw [hF]
  have hrow := fun y (hy : y < r) => imgFn_row (c := c) (fun i j => if ∀ g ∈ L, at2 g i j = at2 m i j then at2 m i j else -1) hy
  refine ⟨imgFn_len _ _ _, fun y hy => ⟨_, hrow y hy, by simp, fun x hx => ⟨if ∀ g ∈ L, at2 g y x = at2 m y x then at2 m y x else -1, ?_, ?_⟩⟩, ?_, ?_⟩
  · rw [List.getElem?_map, List.getElem?_range hx]; rfl
  · split
    · exact .inr rfl
    · exact .inl rfl
  · rw [negs_zero]
    have hu := unique_iff hS
    constructor
    · intro h
      have hall : ∀ g, Sums (rowSumsOf m) (colSumsOf m) r c g → g = m := fun g hg => by
        refine hg.1.ext hs fun i j hi hj => ?_
        have h1 := h _ (List.mem_of_getElem? (hrow i hi)) _ (List.mem_map.2 ⟨j, List.mem_range.2 hj, rfl⟩)
        split at h1
        · rename_i h2; exact h2 g ((hmem g).2 hg)
        · omega
      have := hu.1 hall
      rw [List.eq_nil_iff_forall_not_mem]
      exact fun s hs' => this s (switchesOf_mem.1 hs')
    · intro h l hl x hx
      have hall := hu.2 fun s hs' => by
        have := switchesOf_mem.2 hs'
        rw [h] at this; cases this
      unfold imgFn at hl
      obtain ⟨i, hi, rfl⟩ := List.mem_map.1 hl
      obtain ⟨j, hj, rfl⟩ := List.mem_map.1 hx
      dsimp only
      rw [if_pos fun g hg => by rw [hall g ((hmem g).1 hg)]]
      exact (at2_bits hs i j).1
  · refine signs_pos (c := c) (fun e => ?_) hc1 fun l hl => ?_
    · have := imgFn_len r c (fun i j => if ∀ g ∈ L, at2 g i j = at2 m i j then at2 m i j else -1)
      rw [e] at this; simp at this; omega
    · unfold imgFn at hl
      obtain ⟨i, hi, rfl⟩ := List.mem_map.1 hl
      simp
theorem IsUnique_i (v : Value) (m : List (List Int)) (r c : Nat) (w : World) (hv : Grid w v m) (hs : Shape r c m) (hr1 : 1 ≤ r) (hr5 : r ≤ 5) (hc1 : 1 ≤ c) (hc5 : c ≤ 5) : Calls Try.prog 13 #[v] w fun e w' => e = .returned (.bool (decide (switchesOf r c m = []))) ∧ Below w.heap.size w w' := by
  have Hv := Lib.hid hv
  have Hok := Lib.hid (hs.ok hr1 hr5 hc1 hc5)
  obtain ⟨a, cap, rfl, -⟩ := hv
  go_enter Try.func13, Try.ntmps13
  go_wp2_with (fail)
  refine (ImageOk_i _ _ _ Hv.out).mono ?_
  rintro e w' ⟨rfl, rfl⟩
  rw [Hok.out]
  go_wp2_with (fail)
  refine (SwitchesOf_i _ m r c _ Hv.out hs hr1 hr5 hc1 hc5).mono ?_
  rintro e w1 ⟨v1, rfl, o1, b1⟩
  obtain ⟨a1, c1, rfl⟩ := o1.shape
  obtain ⟨l, hl⟩ : ∃ l, l = switchesOf r c m := ⟨_, rfl⟩
  rw [← hl]
  clear o1
  cases l with
  | nil =>
    have He := Lib.hid (show true = decide (switchesOf r c m = []) from by rw [← hl]; rfl)
    clear hl
    go_wp2
    go_ret
    exact ⟨retB He.out, b1⟩
  | cons s l =>
    have hd : (((s :: l).length : Int) == 0) = false := by rw [beq_eq_false_iff_ne, List.length_cons]; omega
    obtain ⟨n, hn⟩ : ∃ n, n = (s :: l).length := ⟨_, rfl⟩
    rw [← hn] at hd ⊢
    have He := Lib.hid (show false = decide (switchesOf r c m = []) from by rw [← hl]; simp)
    clear hn hl
    go_wp2
    go_ret
    exact ⟨retB He.out, b1⟩

set_option maxHeartbeats 1000000 in
theorem FreeCells_i (v : Value) (m : List (List Int)) (r c : Nat) (w : World) (hv : Grid w v m) (hs : Shape r c m) (hr1 : 1 ≤ r) (hr5 : r ≤ 5) (hc1 : 1 ≤ c) (hc5 : c ≤ 5) : Calls Try.prog 11 #[v] w fun e w' => e = .returned (.int .i64 (negs (fixedOf (rowSumsOf m) (colSumsOf m)))) ∧ Below w.heap.size w w' := by
  have Hv := Lib.hid hv
  have Hok := Lib.hid (hs.ok hr1 hr5 hc1 hc5)
  have hfix := fix_ok hs hr1 hr5 hc1 hc5
  obtain ⟨F, hF⟩ : ∃ F, F = fixedOf (rowSumsOf m) (colSumsOf m) := ⟨_, rfl⟩
  rw [← hF] at hfix ⊢
  have HF := Lib.hid hF; clear hF
  have Hfix := Lib.hid hfix; clear hfix
  obtain ⟨a, cap, rfl, -⟩ := hv
  go_enter Try.func11, Try.ntmps11
  go_wp2_with (fail)
  refine (ImageOk_i _ _ _ Hv.out).mono ?_
  rintro e w' ⟨rfl, rfl⟩
  rw [Hok.out]
  go_wp2_with (fail)
  refine (RowSums_i _ _ _ Hv.out).mono ?_
  rintro e w1 ⟨v1, rfl, o1, b1⟩
  have Ho1 := Lib.hid o1.ints; clear o1
  go_wp2_with (fail)
  refine (ColSums_i _ _ _ (Hv.out.keep b1)).mono ?_
  rintro e w2 ⟨v2, rfl, o2, b2⟩
  go_wp2_with (fail)
  refine (FixedCells_i _ _ _ _ _ (Ho1.out.keep b2) o2.ints).mono ?_
  rintro e w3 ⟨v3, rfl, o3, b3⟩
  rw [← HF.out] at o3
  have bb : Below w.heap.size w w3 := b1.trans_pure (b2.trans_pure b3 (Nat.le_refl _)) (Nat.le_refl _)
  obtain ⟨g, gc, rfl, -, -, hgl, -⟩ := o3.inv_ne (by rw [Hfix.out.len]; omega)
  have Hg := Lib.hid o3.grid
  have hFl := Hfix.out.len
  rw [hFl] at Hg ⊢
  clear o2 o3 hFl
  go_wp2
  go_loopw [3, 5, 7, 17] (fun n _ _ i wr => ∃ k : Nat, k ≤ r ∧ i = .int .i64 k ∧ n = .int .i64 (negs (F.take k)) ∧ negs (F.take k) ≤ 5 * k ∧ w3 = wr) (fun _ _ _ i _ => r - (intOf i).toNat)
  case atStart => exact ⟨0, Nat.zero_le _, rfl, by simp [negs], by simp [negs], rfl⟩
  case round =>
    obtain ⟨k, hk, rfl, rfl, hn, rfl⟩ := hrel
    by_cases hlt : k < r
    · obtain ⟨l, hl, hll, hlc⟩ := Hfix.out.row k hlt
      obtain ⟨u, hck, hu⟩ := Sl.at Hg.out hl
      have hu : Ints w3 u l := hu
      obtain ⟨br, offr, cpr, rfl, hbr, -⟩ := hu.inv_ne (by omega)
      rw [Nat.zero_add] at hck
      have Hu := Lib.hid hu
      have Hl := Lib.hid hl
      have Hll := Lib.hid hll
      rw [hll] at hck
      clear hu hl hlc
      obtain ⟨N, hN⟩ : ∃ N, N = negs (F.take k) := ⟨_, rfl⟩
      rw [← hN] at hn ⊢
      go_wp2
      go_loopw [3, 7, 23] (fun n _ i wr => ∃ x : Nat, x ≤ c ∧ i = .int .i64 x ∧ n = .int .i64 ((N + negRow (l.take x) : Nat) : Int) ∧ negRow (l.take x) ≤ x ∧ w3 = wr) (fun _ _ i _ => c - (intOf i).toNat)
      case atStart => exact ⟨0, Nat.zero_le _, rfl, by simp [negRow], by simp [negRow], rfl⟩
      case round =>
        obtain ⟨x, hx, rfl, rfl, hnx, rfl⟩ := hrel
        by_cases hlt2 : x < c
        · obtain ⟨z, hz⟩ : ∃ z, l[x]? = some z := ⟨_, List.getElem?_eq_getElem (by have := Hll.out; omega)⟩
          have hcz := Ints.at Hu.out hz
          have Hn := Lib.hid (negRow_take hz)
          clear hz
          obtain ⟨N2, hN2⟩ : ∃ N2, N2 = negRow (l.take x) := ⟨_, rfl⟩
          rw [← hN2] at hnx ⊢ Hn
          clear hN2
          by_cases hz0 : z < 0
          · have hzd : decide (z < 0) = true := by simpa using hz0
            go_wp2
            go_roundw
            case rel => exact ⟨x + 1, by omega, by go_num, by rw [Hn.out, if_pos hz0]; go_num, by rw [Hn.out, if_pos hz0]; omega, trivial⟩
            case measure => simp [intOf]; omega
          · have hzd : decide (z < 0) = false := by simpa using hz0
            go_wp2
            go_roundw
            case rel => exact ⟨x + 1, by omega, by go_num, by rw [Hn.out, if_neg hz0, Nat.add_zero], by rw [Hn.out, if_neg hz0]; omega, trivial⟩
            case measure => simp [intOf]; omega
        · obtain rfl : x = c := by omega
          have hlast : l.take x = l := List.take_of_length_le (Nat.le_of_eq Hll.out)
          rw [hlast] at hnx ⊢
          have Hs := Lib.hid (negs_take Hl.out)
          go_wp2
          go_roundw
          case rel => exact ⟨k + 1, by omega, by go_num, by rw [Hs.out, ← hN], by rw [Hs.out, ← hN]; omega, trivial⟩
          case measure => simp [intOf]; omega
    · obtain rfl : k = r := by omega
      rw [List.take_of_length_le (Nat.le_of_eq Hfix.out.len)] at hn ⊢
      go_wp2
      go_ret
      exact ⟨rfl, bb⟩
end Go.Proofs.Ytliejhmlcdjpcaa

/- Contracts: l12Search, LeastReveal of the reference. -/
import Derived.Test.YtekgnpdchpdfiaaRs2
import Derived.Test.YtekgnpdchpdfiaaRv5
namespace Go.Proofs.Ytekgnpdchpdfiaa
open Go.RowKit

theorem searchR_at {f : List Int → Bool} {N size first k : Nat} {cells : List Int} {W : List Int} (h1 : first ≤ k) (h2 : k < N) (hs : searchR f N size (cells ++ [(k : Int)]) (k + 1) = some W) (hn : ∀ j, first ≤ j → j < k → searchR f N size (cells ++ [(j : Int)]) (j + 1) = none) : searchR f N (size + 1) cells first = some W := by
  rw [searchR]
  have hsp := @findSome_spec (List Int) (N - first) (fun k => searchR f N size (cells ++ [((first + k : Nat) : Int)]) (first + k + 1))
  have e1 : first + (k - first) = k := by omega
  cases hb : (List.range (N - first)).findSome? (fun k => searchR f N size (cells ++ [((first + k : Nat) : Int)]) (first + k + 1)) with
  | none =>
    have := hsp.2 hb (k - first) (by omega)
    simp only [e1] at this
    rw [hs] at this; cases this
  | some b =>
    obtain ⟨k', hk', hs', hn'⟩ := hsp.1 b hb
    by_cases hlt : k - first < k'
    · have := hn' (k - first) hlt
      simp only [e1] at this
      rw [hs] at this; cases this
    · by_cases he : k' = k - first
      · subst he
        simp only [e1] at hs'
        rw [← hs', hs]
      · have := hn (first + k') (by omega) (by omega)
        rw [hs'] at this; cases this
theorem searchR_none {f : List Int → Bool} {N size first : Nat} {cells : List Int} (hn : ∀ j, first ≤ j → j < N → searchR f N size (cells ++ [(j : Int)]) (j + 1) = none) : searchR f N (size + 1) cells first = none := by
  rw [searchR, List.findSome?_eq_none_iff]
  intro k hk
  exact hn (first + k) (by omega) (by have := List.mem_range.1 hk; omega)
theorem leastR_at {f : List Int → Bool} {N k : Nat} {W : List Int} (hk : k ≤ N) (hs : searchR f N k [] 0 = some W) (hn : ∀ j, j < k → searchR f N j [] 0 = none) : leastR f N = some W := by
  unfold leastR
  have hsp := @findSome_spec (List Int) (N + 1) (fun size => searchR f N size [] 0)
  cases hb : (List.range (N + 1)).findSome? (fun size => searchR f N size [] 0) with
  | none =>
    have := hsp.2 hb k (by omega)
    rw [hs] at this; cases this
  | some b =>
    obtain ⟨k', hk', hs', hn'⟩ := hsp.1 b hb
    by_cases hlt : k < k'
    · have := hn' k hlt
      rw [hs] at this; cases this
    · by_cases he : k' = k
      · subst he
        rw [← hs', hs]
      · have := hn k' (by omega)
        rw [hs'] at this; cases this
theorem leastR_none {f : List Int → Bool} {N : Nat} (hn : ∀ j, j < N + 1 → searchR f N j [] 0 = none) : leastR f N = none := by
  unfold leastR
  rw [List.findSome?_eq_none_iff]
  intro k hk
  exact hn k (List.mem_range.1 hk)
theorem leastR_of {r c : Nat} {m : List (List Int)} (h : Shape r c m) (h1 : 1 ≤ r) (h2 : r ≤ 5) (h3 : 1 ≤ c) (h4 : c ≤ 5) : leastR (enoughB c (allImgs (rowSumsOf m) (colSumsOf m)) m) (r * c) = some (leastOf r c m) := by
  obtain ⟨-, hl⟩ := leastOf_spec h h1 h2 h3 h4
  obtain ⟨W, hW, hL⟩ := leastR_spec (f := enoughB c (allImgs (rowSumsOf m) (colSumsOf m)) m) (N := r * c) ⟨_, hl.1⟩
  rw [hW, hL.eq hl]
set_option maxRecDepth 100000 in
set_option maxHeartbeats 2000000 in
theorem l12Search_c (v v2 : Value) (L : List (List (List Int))) (m : List (List Int)) (r c : Nat) (hs : Shape r c m) (hL : ∀ g ∈ L, Shape r c g) (hbig : L.length ≤ 1073741824) (hr1 : 1 ≤ r) (hr5 : r ≤ 5) (hc1 : 1 ≤ c) (hc5 : c ≤ 5) (lo : Nat) : ∀ (size first : Nat) (cells : List Int) (v3 : Value) (w : World) (a b : Int), a = (first : Nat) → b = (size : Nat) → Grids w v L → Grid w v2 m → lo ≤ w.heap.size → Own 3 IntV (Iv lo w.heap.size) w v3 cells → (∀ n ∈ cells, 0 ≤ n ∧ n < ((r * c : Nat) : Int)) → first ≤ r * c → cells.length + size ≤ 100 →
    Calls Try.prog 67 #[v, v2, v3, .int .i64 a, .int .i64 b] w fun e w' => ∃ v', e = .returned (.tuple #[v', .bool (searchR (enoughB c L m) (r * c) size cells first).isSome]) ∧ (∀ W, searchR (enoughB c L m) (r * c) size cells first = some W → Own 3 IntV (Iv lo w'.heap.size) w' v' W) ∧ Below w.heap.size w w' := by
  have HLs := Lib.hid hL
  have hN25 : r * c ≤ 25 := Nat.mul_le_mul hr5 hc5
  have Hmul := Lib.hid (show (r : Int) * (c : Int) = ((r * c : Nat) : Int) from by rw [Int.natCast_mul])
  clear hL
  intro size
  induction size with
  | zero =>
    intro first cells v3 w a b ha hb hv hv2 hlo ho hcb hf hcs
    have hb0 : b = 0 := by omega
    clear hb
    subst hb0 ha
    have Hv := Lib.hid hv
    have Hv2 := Lib.hid hv2
    have Ho := Lib.hid ho
    have Hcb := Lib.hid hcb
    obtain ⟨al, capl, rfl, -⟩ := hv
    obtain ⟨am, capm, rfl, -⟩ := hv2
    obtain ⟨p1, p2, p3, rfl⟩ := ho.shape
    clear ho hcb
    go_enter Try.func67, Try.ntmps67
    go_wp2_with (fail)
    refine (l12Count_c _ _ _ L m cells r c _ Hv.out Hv2.out Ho.out.ints hs HLs.out hbig hr1 hr5 hc1 hc5 Hcb.out (by omega)).mono ?_
    rintro e w4 ⟨rfl, b4⟩
    have He := Lib.hid (show searchR (enoughB c L m) (r * c) 0 cells first = if cntA c L m cells = 1 then some cells else none from by rw [searchR]; unfold enoughB; simp)
    obtain ⟨K, hK⟩ : ∃ K, K = cntA c L m cells := ⟨_, rfl⟩
    rw [← hK] at He ⊢
    have Hb4 := Lib.hid b4
    have Ho4 := Lib.hid (Own.grow rIntV Ho.out (Nat.le_refl _) b4)
    clear hK b4
    by_cases h1 : K = 1
    · obtain rfl := h1
      go_wp2
      refine bodyPost_ret (v := .tuple #[.slice p1 p2 p3, .bool true]) (by simp [results, Try.results67, go_sem]) rfl ?_
      refine ⟨_, by rw [He.out]; rfl, fun W hW => ?_, Hb4.out⟩
      rw [He.out] at hW
      simp only [if_true] at hW
      obtain rfl := Option.some.inj hW
      exact Ho4.out
    · have hd : ((K : Int) == 1) = false := by rw [beq_eq_false_iff_ne]; omega
      have hd2 : ¬ (K : Int) = 1 := by omega
      have He2 := Lib.hid (show searchR (enoughB c L m) (r * c) 0 cells first = none from by rw [He.out, if_neg h1])
      clear He
      go_wp2
      refine bodyPost_ret (v := .tuple #[.slice p1 p2 p3, .bool false]) (by simp [results, Try.results67, go_sem]) rfl ?_
      refine ⟨_, by rw [He2.out]; rfl, fun W hW => ?_, Hb4.out⟩
      rw [He2.out] at hW; cases hW
  | succ size ih =>
    intro first cells v3 w a b ha hb hv hv2 hlo ho hcb hf hcs
    have hbs : 1 ≤ b ∧ b ≤ 100 := by omega
    have Hb1 := Lib.hid (show b - 1 = (size : Nat) from by omega)
    clear hb
    subst ha
    have Hv := Lib.hid hv
    have Hv2 := Lib.hid hv2
    have Hv3 := Lib.hid ho.ints
    have Hcb := Lib.hid hcb
    have hcl : cells.length ≤ 99 := by omega
    have hcs2 : cells.length + 1 + size ≤ 100 := by omega
    obtain ⟨f, hfe⟩ : ∃ f, f = enoughB c L m := ⟨_, rfl⟩
    obtain ⟨S, hS⟩ : ∃ S, S = searchR f (r * c) (size + 1) cells first := ⟨_, rfl⟩
    have Hih := Lib.hid ih
    rw [← hfe] at Hih ⊢
    rw [← hS]
    have HSs := Lib.hid (show ∀ k W, first ≤ k → k < r * c → searchR f (r * c) size (cells ++ [(k : Int)]) (k + 1) = some W → (∀ j, first ≤ j → j < k → searchR f (r * c) size (cells ++ [(j : Int)]) (j + 1) = none) → S = some W from fun k W h1 h2 h3 h4 => by rw [hS]; exact searchR_at h1 h2 h3 h4)
    have HSn := Lib.hid (show (∀ j, first ≤ j → j < r * c → searchR f (r * c) size (cells ++ [(j : Int)]) (j + 1) = none) → S = none from fun h => by rw [hS]; exact searchR_none h)
    clear ih hS hfe hcs
    obtain ⟨al, capl, rfl, -⟩ := hv
    obtain ⟨bm, offm, cpm, rfl, hbm, hmc⟩ := hv2.cells hs hr1 hc1
    obtain ⟨b0, o0, c0, hc0, hb0, -⟩ := hmc 0 (by omega)
    rw [Nat.add_zero] at hc0
    have Hc0 := Lib.hid hc0
    obtain ⟨p1, p2, p3, rfl⟩ := ho.shape
    obtain rfl : p2 = cells.length := Ints.len ho.ints
    clear ho hcb hv2 hmc hc0
    go_enter Try.func67, Try.ntmps67
    have hd0 : (b == 0) = false := by rw [beq_eq_false_iff_ne]; omega
    have hd1 : ¬ b = 0 := by omega
    go_wp2
    go_loopw [12, 13, 14] (fun kv _ _ wr => ∃ k : Nat, first ≤ k ∧ k ≤ r * c ∧ kv = .int .i64 k ∧ Hid (∀ j, first ≤ j → j < k → searchR f (r * c) size (cells ++ [(j : Int)]) (j + 1) = none) ∧ Hid (Below w.heap.size w wr)) (fun kv _ _ _ => r * c - (intOf kv).toNat)
    case atStart => exact ⟨first, Nat.le_refl _, hf, rfl, fun j h1 h2 => absurd h2 (by omega), Below.refl _ _⟩
    case round =>
      obtain ⟨k, hfk, hk, rfl, Hn, Hb⟩ := hrel
      obtain ⟨wo, rfl⟩ : ∃ wo : World, wo = wr := ⟨_, rfl⟩
      have hc0 := (Hb.out.cell (p := ⟨bm, offm, none⟩) hbm).trans Hc0.out
      by_cases hlt : k < r * c
      · have hdk : (k : Int) < (r : Int) * (c : Int) := by rw [Hmul.out]; omega
        have hkI : I64 (k : Int) := I64.small (by omega) (by omega)
        have Hu := Lib.hid ((Hv3.out.keep Hb.out).keep (Below.pureAlloc wo (.cells #[] 3)))
        have Hlit := Lib.hid (own_lit0 wo 3 wo.heap.size rIntV)
        have hz : (wo.alloc (.cells #[] 3)).heap.size = wo.heap.size + 1 := by simp
        have Hz := Lib.hid hz
        have hl0 : ([] : List Int).length + cells.length ≤ 1099511627776 := by simp; omega
        have hl1 : ([] ++ cells : List Int).length < 1099511627776 := by simp; omega
        clear hz
        go_wp2_with (first
          | (at_builtin; (refine wpList_appI rfl _ _ 41 rfl 3 Try.underlying41 infoInt rfl (Iv wo.heap.size (wo.alloc (.cells #[] 3)).heap.size) rfl rfl (by exact Hlit.out) (by exact Hu.out) hl0 ?_; intro v2 w2 hown2 honly2 _; obtain ⟨q1, q2, q3, rfl⟩ := hown2.shape; have hb2 : Below wo.heap.size wo w2 := (Below.pureAlloc wo (.cells #[] 3)).trans (Only.below honly2 (by rw [Hz.out]; omega) (fun b hb => (Hlit.out.ownBlock' b hb).1)); have hM : wo.heap.size ≤ w2.heap.size := hb2.size; have Hel := Lib.hid ((rOwn rIntV).mono (S' := Iv wo.heap.size w2.heap.size) (fun b hb => hb.elim (fun h => ⟨h.1, by have h1 := h.2; have h2 := honly2.size; rw [Hz.out] at h1 h2; omega⟩) (fun h => ⟨by have h1 := h.1; rw [Hz.out] at h1; omega, h.2⟩)) hown2); have HB2 := Lib.hid hb2; clear hown2 honly2 hb2))
          | (at_builtin; (refine wpList_appR rfl _ _ 41 rfl rIntV 3 Try.underlying41 infoInt rfl (by decide) wo.heap.size w2.heap.size hM (Nat.le_refl _) rfl rfl (by exact Hel.out) (by exact ⟨rfl, hkI⟩) hl1 ?_); intro v3 w3 hown3 hbel3 _; rw [List.nil_append] at hown3; have Ho3 := Lib.hid hown3; have HB3 := Lib.hid hbel3; clear hown3 hbel3)
          | fail)
        have Hb3 := Lib.hid (Hb.out.trans_pure (HB2.out.trans HB3.out) (Nat.le_refl _))
        have hcl3 : (cells ++ [(k : Int)]).length + size ≤ 100 := by rw [List.length_append, List.length_singleton]; omega
        have hcb3 : ∀ n ∈ cells ++ [(k : Int)], 0 ≤ n ∧ n < ((r * c : Nat) : Int) := fun n hn => by
          rcases List.mem_append.1 hn with hn | hn
          · exact Hcb.out n hn
          · rw [List.mem_singleton] at hn; omega
        have hlo3 : lo ≤ w3.heap.size := Nat.le_trans hlo Hb3.out.size
        have hlow : lo ≤ wo.heap.size := Nat.le_trans hlo Hb.out.size
        refine (Hih.out (k + 1) (cells ++ [(k : Int)]) _ _ _ _ (by omega) Hb1.out (Hv.out.keep Hb3.out) (Hv2.out.keep Hb3.out) hlo3 ((rOwn rIntV).mono (fun b hb => ⟨Nat.le_trans hlow hb.1, hb.2⟩) Ho3.out) hcb3 (by omega) hcl3).mono ?_
        rintro e w4 ⟨v4, rfl, h4, b4⟩
        have Hb4 := Lib.hid (Hb3.out.trans_pure b4 (Nat.le_refl _))
        have H4 := Lib.hid h4
        clear h4 b4 hcl3 hcb3 hc0
        cases hR : searchR f (r * c) size (cells ++ [(k : Int)]) (k + 1) with
        | none =>
          have Hn2 := Lib.hid (show ∀ j, first ≤ j → j < k + 1 → searchR f (r * c) size (cells ++ [(j : Int)]) (j + 1) = none from fun j h1 h2 => by
            by_cases e : j = k
            · rw [e]; exact hR
            · exact Hn.out j h1 (by omega))
          clear hR H4 Hn
          rw [Option.isSome_none]
          go_wp2
          go_roundw
          case rel => exact ⟨k + 1, by omega, by omega, by go_num, Hn2, Hb4⟩
          case measure => simp [intOf]; omega
        | some W =>
          have HSW := Lib.hid (HSs.out k W hfk hlt hR Hn.out)
          have Ho4 := Lib.hid (H4.out W hR)
          clear hR H4 Hn
          rw [Option.isSome_some]
          obtain ⟨y1, y2, y3, rfl⟩ := Ho4.out.shape
          go_wp2
          refine bodyPost_ret (v := .tuple #[.slice y1 y2 y3, .bool true]) (by simp [results, Try.results67, go_sem]) rfl ?_
          refine ⟨_, by rw [HSW.out]; rfl, fun W' hW => ?_, Hb4.out⟩
          rw [HSW.out] at hW
          obtain rfl := Option.some.inj hW
          exact Ho4.out
      · obtain rfl : k = r * c := by omega
        have hdk : ¬ (((r * c : Nat) : Int) < (r : Int) * (c : Int)) := by rw [Hmul.out]; omega
        have HSN := Lib.hid (HSn.out fun j h1 h2 => Hn.out j h1 h2)
        obtain ⟨K, hK⟩ : ∃ K, K = r * c := ⟨_, rfl⟩
        rw [← hK] at hdk ⊢
        clear hK Hn
        go_wp2
        refine bodyPost_ret (v := .tuple #[.slice none 0 0, .bool false]) (by simp [results, Try.results67, go_sem]) rfl ?_
        refine ⟨_, by rw [HSN.out]; rfl, fun W hW => ?_, Hb.out⟩
        rw [HSN.out] at hW; cases hW
set_option maxRecDepth 100000 in
set_option maxHeartbeats 2000000 in
theorem LeastReveal_s (v : Value) (m : List (List Int)) (r c : Nat) (w : World) (hv : Grid w v m) (hs : Shape r c m) (hr1 : 1 ≤ r) (hr3 : r ≤ 3) (hc1 : 1 ≤ c) (hc4 : c ≤ 4) : Calls Try.prog 26 #[v] w fun e w' => ∃ v', e = .returned (.tuple #[v', .bool true]) ∧ Own 3 IntV (Iv w.heap.size w'.heap.size) w' v' (leastOf r c m) ∧ Below w.heap.size w w' := by
  have hr5 : r ≤ 5 := by omega
  have hc5 : c ≤ 5 := by omega
  have hI := imgsOk hs hr1 hr5 hc1 hc5
  have hle := leastR_of hs hr1 hr5 hc1 hc5
  obtain ⟨W, hW⟩ : ∃ W, W = leastOf r c m := ⟨_, rfl⟩
  obtain ⟨L, hL⟩ : ∃ L, L = allImgs (rowSumsOf m) (colSumsOf m) := ⟨_, rfl⟩
  rw [← hL] at hI hle
  rw [← hW] at hle ⊢
  have HI := Lib.hid hI
  have hbig := hI.big
  have hN0 : 0 < L.length := List.length_pos_of_mem hI.self
  have hN12 : r * c ≤ 12 := Nat.mul_le_mul hr3 hc4
  have Hmul := Lib.hid (show (r : Int) * (c : Int) = ((r * c : Nat) : Int) from by rw [Int.natCast_mul])
  have Hok := Lib.hid (hs.ok hr1 hr5 hc1 hc5)
  have Hv := Lib.hid hv
  have HL := Lib.hid hL
  obtain ⟨f, hf⟩ : ∃ f, f = enoughB c L m := ⟨_, rfl⟩
  rw [← hf] at hle
  have Hf := Lib.hid hf
  have Hle := Lib.hid hle
  obtain ⟨b, off, cp, rfl, hb, hmc⟩ := hv.cells hs hr1 hc1
  obtain ⟨b0, o0, c0, hc0, hb0, -⟩ := hmc 0 (by omega)
  rw [Nat.add_zero] at hc0
  have Hc0 := Lib.hid hc0
  clear hI hW hL hle hf hv hmc
  go_enter Try.func26, Try.ntmps26
  go_wp2_with (fail)
  refine (ImageOk_s _ _ _ Hv.out).mono ?_
  rintro e w' ⟨rfl, rfl⟩
  rw [Hok.out]
  go_wp2_with (fail)
  refine (RowSums_s _ _ _ Hv.out).mono ?_
  rintro e w2 ⟨v2, rfl, o2, b2⟩
  have Ho2 := Lib.hid o2.ints; clear o2
  go_wp2_with (fail)
  refine (ColSums_s _ _ _ (Hv.out.keep b2)).mono ?_
  rintro e w3 ⟨v3, rfl, o3, b3⟩
  go_wp2_with (fail)
  refine (AllImages_s _ _ _ _ _ (Ho2.out.keep b3) o3.ints).mono ?_
  rintro e w4 ⟨v4, rfl, o4, b4⟩
  rw [HI.out.ok]
  rw [show imgsOf (rowSumsOf m) (colSumsOf m) = L from by unfold imgsOf; rw [HI.out.ok, HL.out]; rfl] at o4
  have b14 := b2.trans_pure (b3.trans_pure b4 (Nat.le_refl _)) (Nat.le_refl _)
  obtain ⟨gl, gc, rfl, -, -, hgl, -⟩ := o4.inv_ne hN0
  have Hg := Lib.hid o4.grids
  have hs4 := b14.size
  clear o3 o4 hc0
  go_wp2
  go_loopw [6, 7, 8] (fun kv _ _ wr => ∃ k : Nat, k ≤ r * c + 1 ∧ kv = .int .i64 k ∧ Hid (∀ j, j < k → searchR f (r * c) j [] 0 = none) ∧ Hid (Below w4.heap.size w4 wr)) (fun kv _ _ _ => r * c + 1 - (intOf kv).toNat)
  case atStart => exact ⟨0, Nat.zero_le _, rfl, fun j h => absurd h (by omega), Below.refl _ _⟩
  case round =>
    obtain ⟨k, hk, rfl, Hn, Hb⟩ := hrel
    obtain ⟨wo, rfl⟩ : ∃ wo : World, wo = wr := ⟨_, rfl⟩
    have hbw := b14.trans_pure Hb.out (Nat.le_refl _)
    have hc0 := (hbw.cell (p := ⟨b, off, none⟩) hb).trans Hc0.out
    by_cases hlt : k ≤ r * c
    · have hdk : (k : Int) ≤ (r : Int) * (c : Int) := by rw [Hmul.out]; omega
      have Hlit := Lib.hid (own_lit0 wo 3 w.heap.size rIntV hbw.size)
      have Hb1 := Lib.hid (hbw.trans_pure (Below.pureAlloc wo (.cells #[] 3)) (Nat.le_refl _))
      have Hb2 := Lib.hid (Hb.out.trans_pure (Below.pureAlloc wo (.cells #[] 3)) (Nat.le_refl _))
      go_wp2_with (fail)
      refine (l12Search_c _ _ L m r c hs HI.out.shape hbig hr1 hr5 hc1 hc5 w.heap.size k 0 [] _ _ _ _ (by rfl) (by rfl) (Hg.out.keep Hb2.out) (Hv.out.keep Hb1.out) Hb1.out.size Hlit.out (fun n hn => by cases hn) (Nat.zero_le _) (by simp; omega)).mono ?_
      rintro e w5 ⟨v5, rfl, h5, b5⟩
      rw [← Hf.out] at h5 ⊢
      have Hb5 := Lib.hid (Hb1.out.trans_pure b5 (Nat.le_refl _))
      have H45 := Lib.hid (Hb2.out.trans_pure b5 (Nat.le_refl _))
      have H5 := Lib.hid h5
      clear h5 b5 hc0 hbw
      cases hR : searchR f (r * c) k [] 0 with
      | none =>
        have Hn2 := Lib.hid (show ∀ j, j < k + 1 → searchR f (r * c) j [] 0 = none from fun j h => by
          by_cases e : j = k
          · rw [e]; exact hR
          · exact Hn.out j (by omega))
        clear hR H5 Hn
        rw [Option.isSome_none]
        go_wp2
        go_roundw
        case rel => exact ⟨k + 1, by omega, by go_num, Hn2, H45⟩
        case measure => simp [intOf]; omega
      | some X =>
        have HX := Lib.hid (show W = X from by
          have := leastR_at hlt hR Hn.out
          rw [Hle.out] at this
          exact Option.some.inj this)
        have Ho5 := Lib.hid (H5.out X hR)
        clear hR H5 Hn
        rw [Option.isSome_some]
        obtain ⟨y1, y2, y3, rfl⟩ := Ho5.out.shape
        go_wp2
        refine bodyPost_ret (v := .tuple #[.slice y1 y2 y3, .bool true]) (by simp [results, Try.results26, go_sem]) rfl ?_
        exact ⟨_, rfl, by rw [HX.out]; exact Ho5.out, Hb5.out⟩
    · exfalso
      obtain rfl : k = r * c + 1 := by omega
      have := leastR_none Hn.out
      rw [Hle.out] at this
      cases this
theorem LeastReveal_s2 (v : Value) (m : List (List Int)) (w : World) (hv : Grid w v m) : Calls Try.prog 26 #[v] w fun e w' => ∃ v', e = .returned (.tuple #[v', .bool (leastRv m).isSome]) ∧ Own 3 IntV (Iv w.heap.size w'.heap.size) w' v' ((leastRv m).getD []) ∧ Below w.heap.size w w' := by
  cases hok : imageOk m
  · have Hr := Lib.hid (show leastRv m = none from by simp [leastRv, hok])
    have Hok := Lib.hid hok; clear hok
    obtain ⟨a, cap, rfl, -⟩ := id hv
    go_enter Try.func26, Try.ntmps26
    go_wp2_with (fail)
    refine (ImageOk_s _ _ _ hv).mono ?_
    rintro e w' ⟨rfl, rfl⟩
    rw [Hok.out]
    go_wp2
    refine bodyPost_ret (v := .tuple #[.slice none 0 0, .bool false]) (by simp [results, Try.results26, go_sem]) rfl ?_
    exact ⟨_, by rw [Hr.out]; rfl, by rw [Hr.out]; exact Own.nil _ _ _ _, Below.refl _ _⟩
  · obtain ⟨r, c, hr1, hr5, hc1, hc5, hsh⟩ := imageOk_shape hok
    by_cases hb : r ≤ 3 ∧ c ≤ 4
    · rw [leastRv_ok hsh hr1 hok hb.1 hb.2]
      exact LeastReveal_s v m r c w hv hsh hr1 hb.1 hc1 hb.2
    · have Hr := Lib.hid (leastRv_big hsh hr1 hb)
      have Hok := Lib.hid hok; clear hok
      have Hv := Lib.hid hv
      obtain ⟨b, off, cp, rfl, hb, hmc⟩ := hv.cells hsh hr1 hc1
      obtain ⟨b0, o0, c0, hc0, hb0, -⟩ := hmc 0 (by omega)
      rw [Nat.add_zero] at hc0
      clear hmc
      go_enter Try.func26, Try.ntmps26
      go_wp2_with (fail)
      refine (ImageOk_s _ _ _ Hv.out).mono ?_
      rintro e w' ⟨rfl, rfl⟩
      rw [Hok.out]
      by_cases h3 : r ≤ 3
      · go_wp2
        refine bodyPost_ret (v := .tuple #[.slice none 0 0, .bool false]) (by simp [results, Try.results26, go_sem]) rfl ?_
        exact ⟨_, by rw [Hr.out]; rfl, by rw [Hr.out]; exact Own.nil _ _ _ _, Below.refl _ _⟩
      · go_wp2
        refine bodyPost_ret (v := .tuple #[.slice none 0 0, .bool false]) (by simp [results, Try.results26, go_sem]) rfl ?_
        exact ⟨_, by rw [Hr.out]; rfl, by rw [Hr.out]; exact Own.nil _ _ _ _, Below.refl _ _⟩
end Go.Proofs.Ytekgnpdchpdfiaa

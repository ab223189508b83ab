/- Contracts: l12Next, l12Insert, GreedyReveal of the reference. -/
import Derived.Test.YtekgnpdchpdfiaaRs1
namespace Go.Proofs.Ytekgnpdchpdfiaa
open Go.RowKit

/-- the state of the search for the next cell -/
def NextSt (f : Nat → Nat) (k : Nat) (b fw : Int) : Prop := (k = 0 ∧ b = -1 ∧ fw = 0) ∨ (1 ≤ k ∧ b = (argmin f k : Nat) ∧ fw = (f (argmin f k) : Nat))
theorem NextSt.take {f : Nat → Nat} {k : Nat} {b fw : Int} (h : NextSt f k b fw) (hlt : b < 0 ∨ (f k : Int) < fw) : NextSt f (k + 1) k (f k) := by
  rcases h with ⟨rfl, -, -⟩ | ⟨h1, rfl, rfl⟩
  · exact .inr ⟨by omega, by rw [argmin_one], by rw [argmin_one]⟩
  · have e : argmin f (k + 1) = k := by rw [argmin_step h1, if_pos (by omega)]
    exact .inr ⟨by omega, by rw [e], by rw [e]⟩
theorem NextSt.pass {f : Nat → Nat} {k : Nat} {b fw : Int} (h : NextSt f k b fw) (h0 : ¬ b < 0) (hlt : ¬ (f k : Int) < fw) : NextSt f (k + 1) b fw := by
  rcases h with ⟨rfl, rfl, rfl⟩ | ⟨h1, h2, rfl⟩
  · omega
  · have e : argmin f (k + 1) = argmin f k := by rw [argmin_step h1, if_neg (by omega)]
    exact .inr ⟨by omega, by rw [e, h2], by rw [e]⟩
theorem NextSt.bd {f : Nat → Nat} {len k : Nat} {b fw : Int} (hf : ∀ i, f i ≤ len) (h : NextSt f k b fw) : -1 ≤ b ∧ b ≤ k ∧ 0 ≤ fw ∧ fw ≤ len := by
  rcases h with ⟨rfl, rfl, rfl⟩ | ⟨h1, rfl, rfl⟩
  · omega
  · have := (argmin_spec f k h1).1
    have := hf (argmin f k)
    omega
theorem snoc_bd {N : Nat} {cells : List Int} {k : Nat} (h : Rising N cells) (hk : k < N) : ∀ n ∈ cells ++ [(k : Int)], 0 ≤ n ∧ n < (N : Int) := fun n hn => by
  rcases List.mem_append.1 hn with hn | hn
  · exact h.2 n hn
  · rw [List.mem_singleton] at hn; omega
set_option maxRecDepth 100000 in
set_option maxHeartbeats 2000000 in
theorem l12Next_c (v v2 v3 : Value) (L : List (List (List Int))) (m : List (List Int)) (cells : List Int) (r c : Nat) (w : World) (hv : Grids w v L) (hv2 : Grid w v2 m) (hv3 : Ints w v3 cells) (hs : Shape r c m) (hL : ∀ g ∈ L, Shape r c g) (hbig : L.length ≤ 1073741824) (hr1 : 1 ≤ r) (hr5 : r ≤ 5) (hc1 : 1 ≤ c) (hc5 : c ≤ 5) (hris : Rising (r * c) cells) : Calls Try.prog 84 #[v, v2, v3] w fun e w' => e = .returned (.int .i64 (nextCell c (r * c) L m cells)) ∧ Below w.heap.size w w' := by
  have Hv := Lib.hid hv
  have Hv2 := Lib.hid hv2
  have Hv3 := Lib.hid hv3
  have HLs := Lib.hid hL
  have Hris := Lib.hid hris
  have hN25 : r * c ≤ 25 := Nat.mul_le_mul hr5 hc5
  have hrc1 : 1 ≤ r * c := Nat.mul_pos hr1 hc1
  have hcl := rising_le hris
  obtain ⟨a, cap, rfl, -⟩ := hv
  obtain ⟨b, off, cp, rfl, hb, hmc⟩ := hv2.cells hs hr1 hc1
  obtain ⟨b0, o0, c0, hc0, hb0, -⟩ := hmc 0 (by omega)
  rw [Nat.add_zero] at hc0
  have Hc0 := Lib.hid hc0
  obtain ⟨a3, cap3, rfl, -⟩ := hv3
  have Hmul := Lib.hid (show (r : Int) * (c : Int) = ((r * c : Nat) : Int) from by rw [Int.natCast_mul])
  obtain ⟨f, hf⟩ : ∃ f : Nat → Nat, f = fun k : Nat => cntA c L m (cells ++ [(k : Int)]) := ⟨_, rfl⟩
  have Hfe := Lib.hid (show ∀ k, f k = cntA c L m (cells ++ [(k : Int)]) from fun k => by rw [hf])
  have Hfl := Lib.hid (show ∀ i, f i ≤ L.length from fun i => by rw [hf]; exact cntA_le _ _ _ _)
  have Hnc := Lib.hid (show nextCell c (r * c) L m cells = argmin f (r * c) from by rw [hf]; rfl)
  clear hL hmc hc0 hf hris hv2
  go_enter Try.func84, Try.ntmps84
  go_wp2
  go_loopw [7, 8, 9, 10] (fun bv fv i _ wr => ∃ (k : Nat) (bi fi : Int), k ≤ r * c ∧ i = .int .i64 k ∧ bv = .int .i64 bi ∧ fv = .int .i64 fi ∧ Hid (NextSt f k bi fi) ∧ Hid (Below w.heap.size w wr)) (fun _ _ i _ _ => r * c - (intOf i).toNat)
  case atStart => exact ⟨0, -1, 0, Nat.zero_le _, rfl, rfl, rfl, .inl ⟨rfl, rfl, rfl⟩, Below.refl _ _⟩
  case round =>
    obtain ⟨k, bi, fi, hk, rfl, rfl, rfl, Hst, Hb⟩ := hrel
    obtain ⟨wo, rfl⟩ : ∃ wo : World, wo = wr := ⟨_, rfl⟩
    have hc0 := (Hb.out.cell (p := ⟨b, off, none⟩) hb).trans Hc0.out
    obtain ⟨hb1, hb2, hb3, hb4⟩ := Hst.out.bd Hfl.out
    by_cases hlt : k < r * c
    · have hdk : (k : Int) < (r : Int) * (c : Int) := by rw [Hmul.out]; omega
      have hkI : I64 (k : Int) := I64.small (by omega) (by omega)
      have Hu := Lib.hid ((Hv3.out.keep Hb.out).keep (Below.pureAlloc wo (.cells #[] 3)))
      have Hlit := Lib.hid (own_lit0 wo 3 wo.heap.size rIntV)
      have hz : (wo.alloc (.cells #[] 3)).heap.size = wo.heap.size + 1 := by simp
      have Hz := Lib.hid hz
      have hl0 : ([] : List Int).length + cells.length ≤ 1099511627776 := by simp; omega
      have hl1 : ([] ++ cells : List Int).length < 1099511627776 := by simp; omega
      clear hz
      go_wp2_with (first
        | (at_builtin; (refine wpList_appI rfl _ _ 41 rfl 3 Try.underlying41 infoInt rfl (Iv wo.heap.size (wo.alloc (.cells #[] 3)).heap.size) rfl rfl (by exact Hlit.out) (by exact Hu.out) hl0 ?_; intro v2 w2 hown2 honly2 _; obtain ⟨q1, q2, q3, rfl⟩ := hown2.shape; have hb2 : Below wo.heap.size wo w2 := (Below.pureAlloc wo (.cells #[] 3)).trans (Only.below honly2 (by rw [Hz.out]; omega) (fun b hb => (Hlit.out.ownBlock' b hb).1)); have hM : wo.heap.size ≤ w2.heap.size := hb2.size; have Hel := Lib.hid ((rOwn rIntV).mono (S' := Iv wo.heap.size w2.heap.size) (fun b hb => hb.elim (fun h => ⟨h.1, by have h1 := h.2; have h2 := honly2.size; rw [Hz.out] at h1 h2; omega⟩) (fun h => ⟨by have h1 := h.1; rw [Hz.out] at h1; omega, h.2⟩)) hown2); have HB2 := Lib.hid hb2; clear hown2 honly2 hb2))
        | (at_builtin; (refine wpList_appR rfl _ _ 41 rfl rIntV 3 Try.underlying41 infoInt rfl (by decide) wo.heap.size w2.heap.size hM (Nat.le_refl _) rfl rfl (by exact Hel.out) (by exact ⟨rfl, hkI⟩) hl1 ?_); intro v3 w3 hown3 hbel3 _; rw [List.nil_append] at hown3; have Ho3 := Lib.hid hown3.ints; have HB3 := Lib.hid hbel3; clear hown3 hbel3)
        | fail)
      have Hb3 := Lib.hid (Hb.out.trans_pure (HB2.out.trans HB3.out) (Nat.le_refl _))
      have hcl3 : (cells ++ [(k : Int)]).length ≤ 1000 := by rw [List.length_append, List.length_singleton]; omega
      have Hcb3 := Lib.hid (snoc_bd Hris.out hlt)
      refine (l12Count_c _ _ _ L m (cells ++ [(k : Int)]) r c _ (Hv.out.keep Hb3.out) (Hv2.out.keep Hb3.out) Ho3.out hs HLs.out hbig hr1 hr5 hc1 hc5 Hcb3.out hcl3).mono ?_
      rintro e w4 ⟨rfl, b4⟩
      rw [← Hfe.out]
      have hfk := Hfl.out k
      have Hb4 := Lib.hid (Hb3.out.trans_pure b4 (Nat.le_refl _))
      obtain ⟨C, hC⟩ : ∃ C, C = f k := ⟨_, rfl⟩
      rw [← hC] at hfk ⊢
      have HC := Lib.hid hC
      clear hC hcl3 hc0
      by_cases h0 : bi < 0
      · have hd0 : decide (bi < 0) = true := decide_eq_true h0
        have Hs2 := Lib.hid (Hst.out.take (.inl h0))
        rw [← HC.out] at Hs2
        go_wp2
        go_roundw
        case rel => exact ⟨k + 1, k, C, by omega, by go_num, rfl, rfl, Hs2, Hb4⟩
        case measure => simp [intOf]; omega
      · have hd0 : decide (bi < 0) = false := decide_eq_false h0
        by_cases h1 : (C : Int) < fi
        · have hd1 : decide ((C : Int) < fi) = true := decide_eq_true h1
          have Hs2 := Lib.hid (Hst.out.take (.inr (by rw [← HC.out]; exact h1)))
          rw [← HC.out] at Hs2
          go_wp2
          go_roundw
          case rel => exact ⟨k + 1, k, C, by omega, by go_num, rfl, rfl, Hs2, Hb4⟩
          case measure => simp [intOf]; omega
        · have hd1 : decide ((C : Int) < fi) = false := decide_eq_false h1
          have Hs2 := Lib.hid (Hst.out.pass h0 (by rw [← HC.out]; exact h1))
          go_wp2
          go_roundw
          case rel => exact ⟨k + 1, bi, fi, by omega, by go_num, rfl, rfl, Hs2, Hb4⟩
          case measure => simp [intOf]; omega
    · obtain rfl : k = r * c := by omega
      have hdk : ¬ (((r * c : Nat) : Int) < (r : Int) * (c : Int)) := by rw [Hmul.out]; omega
      have Hfin := Lib.hid (show bi = (nextCell c (r * c) L m cells : Nat) from by
        rcases Hst.out with ⟨h, -⟩ | ⟨-, h, -⟩
        · omega
        · rw [h, Hnc.out])
      obtain ⟨K, hK⟩ : ∃ K, K = r * c := ⟨_, rfl⟩
      rw [← hK] at hdk ⊢
      clear hK
      go_wp2
      go_ret
      exact ⟨retI Hfin.out, Hb.out⟩
set_option maxRecDepth 100000 in
set_option maxHeartbeats 2000000 in
theorem l12Insert_c (v : Value) (l : List Int) (n : Int) (w : World) (hv : Ints w v l) (hn : I64 n) (hl : l.length ≤ 1000) : Calls Try.prog 83 #[v, .int .i64 n] w (New 3 IntV w (insS n l)) := by
  have Hv := Lib.hid hv
  obtain ⟨a, cap, rfl, -⟩ := hv
  go_enter Try.func83, Try.ntmps83
  go_wp2
  go_loopw [5, 6, 8, 12] (fun ov dv _ i wr => ∃ (k : Nat) (out : List Int) (d : Bool), k ≤ l.length ∧ i = .int .i64 k ∧ dv = .bool d ∧ Hid (Own 3 IntV (Iv w.heap.size wr.heap.size) wr ov out) ∧ Hid (InsSt n (l.take k) out d) ∧ Hid (Below w.heap.size w wr)) (fun _ _ _ i _ => l.length - (intOf i).toNat)
  case atStart => exact ⟨0, [], false, Nat.zero_le _, rfl, rfl, own_lit0 _ _ _ rIntV, .inl ⟨rfl, rfl, fun x hx => by cases hx⟩, Below.pureAlloc _ _⟩
  case round =>
    obtain ⟨k, out, d, hk, rfl, rfl, Ho, Hi, Hb⟩ := hrel
    obtain ⟨wo, rfl⟩ : ∃ wo : World, wo = wr := ⟨_, rfl⟩
    have hBs := Hb.out.size
    have hol := Hi.out.len
    rw [List.length_take] at hol
    have hol2 : out.length < 1099511627776 := by omega
    obtain ⟨p1, p2, p3, rfl⟩ := Ho.out.shape
    by_cases hlt : k < l.length
    · obtain ⟨x, hx⟩ : ∃ x, l[k]? = some x := ⟨_, List.getElem?_eq_getElem hlt⟩
      obtain ⟨b, off, cpr, he, hb, -⟩ := Hv.out.inv_ne (by omega)
      obtain ⟨rfl, -⟩ : a = some ⟨b, off, none⟩ ∧ cap = cpr := by simpa using he
      obtain ⟨u, hu, rfl, hxI⟩ := Sl.at Hv.out hx
      have hcx := (Hb.out.cell (p := ⟨b, off + k, none⟩) hb).trans hu
      have Htk := Lib.hid (show l.take (k + 1) = l.take k ++ [x] from by rw [List.take_add_one, hx]; rfl)
      clear hx he hu
      cases d
      · by_cases hnx : n < x
        · have hd : decide (x > n) = true := decide_eq_true hnx
          have Hi2 := Lib.hid (Hi.out.put hnx)
          rw [← Htk.out] at Hi2
          clear Hi
          go_wp2_with (first
            | (at_builtin; (refine wpList_appR (w0 := wo) (u := .int .i64 n) rfl _ _ 41 rfl rIntV 3 Try.underlying41 infoInt rfl (by decide) w.heap.size wo.heap.size hBs (Nat.le_refl _) rfl rfl (by exact Ho.out) (by exact ⟨rfl, hn⟩) hol2 ?_); intro v3 w3 o3 b3 _; obtain ⟨q3, hq3⟩ : ∃ q3, q3 = out ++ [n] := ⟨_, rfl⟩; rw [← hq3] at o3; have Hq3 := Lib.hid hq3; have hl3 : q3.length < 1099511627776 := (by rw [hq3]; simp; omega); obtain ⟨g1, g2, g3, rfl⟩ := o3.shape; have Ho3 := Lib.hid o3; have Hb3 := Lib.hid (Hb.out.trans b3); have hB3 := Hb3.out.size; clear hq3 o3 b3)
            | (at_builtin; (refine wpList_appR (w0 := w3) (u := .int .i64 x) rfl _ _ 41 rfl rIntV 3 Try.underlying41 infoInt rfl (by decide) w.heap.size w3.heap.size hB3 (Nat.le_refl _) rfl rfl (by exact Ho3.out) (by exact ⟨rfl, hxI⟩) hl3 ?_); intro v4 w4 o4 b4 _)
            | fail)
          exact ⟨⟨k + 1, _, true, by omega, by go_num, rfl, Lib.hid o4, Lib.hid (by rw [Hq3.out]; exact Hi2.out), Lib.hid (Hb3.out.trans b4)⟩, by simp [intOf]; omega⟩
        · have hd : decide (x > n) = false := decide_eq_false hnx
          have Hi2 := Lib.hid (Hi.out.skip hnx)
          rw [← Htk.out] at Hi2
          clear Hi
          go_wp2_with (first
            | (at_builtin; (refine wpList_appR (w0 := wo) (u := .int .i64 x) rfl _ _ 41 rfl rIntV 3 Try.underlying41 infoInt rfl (by decide) w.heap.size wo.heap.size hBs (Nat.le_refl _) rfl rfl (by exact Ho.out) (by exact ⟨rfl, hxI⟩) hol2 ?_); intro v4 w4 o4 b4 _)
            | fail)
          exact ⟨⟨k + 1, _, false, by omega, by go_num, rfl, Lib.hid o4, Hi2, Lib.hid (Hb.out.trans b4)⟩, by simp [intOf]; omega⟩
      · have Hi2 := Lib.hid (Hi.out.more (x := x))
        rw [← Htk.out] at Hi2
        clear Hi
        go_wp2_with (first
          | (at_builtin; (refine wpList_appR (w0 := wo) (u := .int .i64 x) rfl _ _ 41 rfl rIntV 3 Try.underlying41 infoInt rfl (by decide) w.heap.size wo.heap.size hBs (Nat.le_refl _) rfl rfl (by exact Ho.out) (by exact ⟨rfl, hxI⟩) hol2 ?_); intro v4 w4 o4 b4 _)
          | fail)
        exact ⟨⟨k + 1, _, true, by omega, by go_num, rfl, Lib.hid o4, Hi2, Lib.hid (Hb.out.trans b4)⟩, by simp [intOf]; omega⟩
    · obtain rfl : k = l.length := by omega
      rw [List.take_length] at Hi
      cases d
      · have Hfin := Lib.hid Hi.out.end
        go_wp2_with (first
          | (at_builtin; (refine wpList_appR (w0 := wo) (u := .int .i64 n) rfl _ _ 41 rfl rIntV 3 Try.underlying41 infoInt rfl (by decide) w.heap.size wo.heap.size hBs (Nat.le_refl _) rfl rfl (by exact Ho.out) (by exact ⟨rfl, hn⟩) hol2 ?_); intro v4 w4 o4 b4 _; obtain ⟨g1, g2, g3, rfl⟩ := o4.shape; have Ho4 := Lib.hid o4; have Hb4 := Lib.hid (Hb.out.trans b4); clear o4 b4)
          | fail)
        go_ret
        exact ⟨_, rfl, by rw [Hfin.out]; exact Ho4.out, Hb4.out⟩
      · have Hfin := Lib.hid (show insS n l = out from by
          rcases Hi.out with ⟨h, -⟩ | ⟨-, h, -⟩
          · cases h
          · exact h.symm)
        go_wp2
        go_ret
        exact ⟨_, rfl, by rw [Hfin.out]; exact Ho.out, Hb.out⟩
set_option maxRecDepth 100000 in
set_option maxHeartbeats 2000000 in
theorem GreedyReveal_s (v : Value) (m : List (List Int)) (r c : Nat) (w : World) (hv : Grid w v m) (hs : Shape r c m) (hr1 : 1 ≤ r) (hr5 : r ≤ 5) (hc1 : 1 ≤ c) (hc5 : c ≤ 5) : Calls Try.prog 44 #[v] w fun e w' => ∃ v', e = .returned (.tuple #[v', .bool true]) ∧ Own 3 IntV (Iv w.heap.size w'.heap.size) w' v' (greedyOf r c m) ∧ Below w.heap.size w w' := by
  have hI := imgsOk hs hr1 hr5 hc1 hc5
  obtain ⟨W, hW⟩ : ∃ W, W = greedyOf r c m := ⟨_, rfl⟩
  obtain ⟨L, hL⟩ : ∃ L, L = allImgs (rowSumsOf m) (colSumsOf m) := ⟨_, rfl⟩
  have hW2 : W = greedy c (r * c) L m L.length [] := by rw [hW, hL]; rfl
  have hcn : cntA c L m [] ≤ L.length := List.length_filter_le _ _
  rw [← hL] at hI
  rw [← hW]
  have HI := Lib.hid hI
  have hbig := hI.big
  have hN0 : 0 < L.length := List.length_pos_of_mem hI.self
  have hN25 : r * c ≤ 25 := Nat.mul_le_mul hr5 hc5
  have Hok := Lib.hid (hs.ok hr1 hr5 hc1 hc5)
  have Hv := Lib.hid hv
  have HL := Lib.hid hL
  obtain ⟨a, cap, rfl, -⟩ := hv
  have HW2 := Lib.hid hW2
  have Hcn0 := Lib.hid hcn
  clear hI hW hL hW2 hcn
  go_enter Try.func44, Try.ntmps44
  go_wp2_with (fail)
  refine (ImageOk_s _ _ _ Hv.out).mono ?_
  rintro e w' ⟨rfl, rfl⟩
  rw [Hok.out]
  go_wp2_with (fail)
  refine (RowSums_s _ _ _ Hv.out).mono ?_
  rintro e w2 ⟨v2, rfl, o2, b2⟩
  have Ho2 := Lib.hid o2.ints; clear o2
  go_wp2_with (fail)
  refine (ColSums_s _ _ _ (Hv.out.keep b2)).mono ?_
  rintro e w3 ⟨v3, rfl, o3, b3⟩
  go_wp2_with (fail)
  refine (AllImages_s _ _ _ _ _ (Ho2.out.keep b3) o3.ints).mono ?_
  rintro e w4 ⟨v4, rfl, o4, b4⟩
  rw [HI.out.ok]
  rw [show imgsOf (rowSumsOf m) (colSumsOf m) = L from by unfold imgsOf; rw [HI.out.ok, HL.out]; rfl] at o4
  have b14 := b2.trans_pure (b3.trans_pure b4 (Nat.le_refl _)) (Nat.le_refl _)
  obtain ⟨gl, gc, rfl, -, -, hgl, -⟩ := o4.inv_ne hN0
  have Hg := Lib.hid o4.grids
  have St0 := Lib.hid (show GSt w.heap.size r c m L W w (w4.alloc (.cells #[] 3)) (.slice (some ⟨w4.heap.size, 0, none⟩) 0 0) [] L.length from ⟨own_lit0 w4 3 w.heap.size rIntV (b14.size), rising_nil _, by have := Hcn0.out; omega, HW2.out, b14.trans_pure (Below.pureAlloc _ _) (Nat.le_refl _)⟩)
  have H4 := Lib.hid (Below.pureAlloc w4 (.cells #[] 3))
  clear o3 o4
  go_wp2
  go_loopw [6] (fun ov wr => ∃ (cells : List Int) (f : Nat), Hid (GSt w.heap.size r c m L W w wr ov cells f) ∧ Hid (Below w4.heap.size w4 wr)) (fun ov _ => 26 - lenOf ov)
  case atStart => exact ⟨[], L.length, St0, H4⟩
  case round =>
    clear St0 H4
    obtain ⟨cells, f, St, H4⟩ := hrel
    obtain ⟨N, hN⟩ : ∃ N, N = cntA c L m cells := ⟨_, rfl⟩
    have HN := Lib.hid hN
    have hpos : 1 ≤ N := by rw [hN]; exact cntA_pos HI.out.self cells
    have hNL : N ≤ L.length := by rw [hN]; exact cntA_le _ _ _ _
    have hNf : N ≤ f + 1 := by rw [hN]; exact St.out.cnt
    have hcl := rising_le St.out.ris
    have hcl3 : cells.length ≤ 1000 := by omega
    have Hci := Lib.hid St.out.own.ints
    obtain ⟨p1, p2, p3, rfl⟩ := St.out.own.shape
    obtain rfl : p2 = cells.length := Ints.len St.out.own.ints
    clear hN
    go_wp2_with (fail)
    refine (l12Count_c _ _ _ L m cells r c _ (Hg.out.keep H4.out) (Hv.out.keep St.out.bel) Hci.out hs HI.out.shape hbig hr1 hr5 hc1 hc5 St.out.ris.2 hcl3).mono ?_
    rintro e w5 ⟨rfl, b5⟩
    rw [← HN.out]
    by_cases h1 : N = 1
    · have Hfin := Lib.hid (show W = cells from by rw [St.out.eq, greedy_done (by rw [← HN.out]; omega)])
      have Hown := Lib.hid (Own.grow rIntV St.out.own (Nat.le_refl _) b5)
      have bbf := St.out.bel.trans_pure b5 (Nat.le_refl _)
      have hd : decide ((N : Int) > 1) = false := decide_eq_false (by omega)
      have hd2 : decide ((1 : Int) < (N : Int)) = false := decide_eq_false (by omega)
      clear h1
      go_wp2
      refine bodyPost_ret (v := .tuple #[.slice p1 cells.length p3, .bool true]) (by simp [results, Try.results44, go_sem]) rfl ?_
      exact ⟨_, rfl, by rw [Hfin.out]; exact Hown.out, bbf⟩
    · have hns := next_spec hr1 hc1 HI.out.nd HI.out.shape HI.out.self St.out.ris (by rw [← HN.out]; omega)
      have hd : decide ((N : Int) > 1) = true := decide_eq_true (by omega)
      have hd2 : decide ((1 : Int) < (N : Int)) = true := decide_eq_true (by omega)
      obtain ⟨f', rfl⟩ : ∃ f', f = f' + 1 := ⟨f - 1, by omega⟩
      have Heq := Lib.hid (show W = greedy c (r * c) L m f' (insS (nextCell c (r * c) L m cells) cells) from by rw [St.out.eq, greedy_step (by rw [← HN.out]; omega)])
      obtain ⟨X, hX⟩ : ∃ X, X = nextCell c (r * c) L m cells := ⟨_, rfl⟩
      rw [← hX] at hns Heq
      have HX := Lib.hid hX
      have hXb := hns.1
      have Hri := Lib.hid hns.2.2.2.1
      have Hcn := Lib.hid (show cntA c L m (insS X cells) ≤ f' + 1 from by have := hns.2.2.2.2; rw [← HN.out] at this; omega)
      have Hil := Lib.hid (show (insS (X : Int) cells).length = cells.length + 1 from by rw [(insS_perm (X : Int) cells).length_eq]; simp)
      clear hX hns h1
      have Hci1 := Lib.hid (Hci.out.keep b5)
      have Hb5 := Lib.hid (St.out.bel.trans_pure b5 (Nat.le_refl _))
      have H45 := Lib.hid (H4.out.trans_pure b5 (Nat.le_refl _))
      go_wp2_with (fail)
      refine (l12Next_c _ _ _ L m cells r c _ (Hg.out.keep H45.out) (Hv.out.keep Hb5.out) Hci1.out hs HI.out.shape hbig hr1 hr5 hc1 hc5 St.out.ris).mono ?_
      rintro e w6 ⟨rfl, b6⟩
      rw [← HX.out]
      have hXI : I64 (X : Int) := I64.small (by omega) (by omega)
      go_wp2_with (fail)
      refine (l12Insert_c _ cells _ _ (Hci1.out.keep b6) hXI hcl3).mono ?_
      rintro e w7 ⟨v7, rfl, o7, b7⟩
      have Hb6 := Lib.hid (Hb5.out.trans_pure b6 (Nat.le_refl _))
      have hs6 := Hb6.out.size
      have Hb7 := Lib.hid (Hb6.out.trans_pure b7 (Nat.le_refl _))
      have H47 := Lib.hid (H45.out.trans_pure (b6.trans_pure b7 (Nat.le_refl _)) (Nat.le_refl _))
      obtain ⟨y1, y2, y3, rfl⟩ := o7.shape
      obtain rfl : y2 = (insS (X : Int) cells).length := Ints.len o7.ints
      have St7 := Lib.hid (show GSt w.heap.size r c m L W w w7 (.slice y1 (insS (X : Int) cells).length y3) (insS X cells) f' from ⟨(rOwn rIntV).mono (fun b hb => ⟨Nat.le_trans hs6 hb.1, hb.2⟩) o7, Hri.out, Hcn.out, Heq.out, Hb7.out⟩)
      clear o7
      go_wp2
      go_roundw
      case rel => exact ⟨_, f', St7, H47⟩
      case measure => have := Hil.out; simp [lenOf]; omega
theorem GreedyReveal_s2 (v : Value) (m : List (List Int)) (w : World) (hv : Grid w v m) : Calls Try.prog 44 #[v] w fun e w' => ∃ v', e = .returned (.tuple #[v', .bool (greedyR m).isSome]) ∧ Own 3 IntV (Iv w.heap.size w'.heap.size) w' v' ((greedyR m).getD []) ∧ Below w.heap.size w w' := by
  cases hok : imageOk m
  · have Hr := Lib.hid (show greedyR m = none from by simp [greedyR, hok])
    have Hok := Lib.hid hok; clear hok
    obtain ⟨a, cap, rfl, -⟩ := id hv
    go_enter Try.func44, Try.ntmps44
    go_wp2_with (fail)
    refine (ImageOk_s _ _ _ hv).mono ?_
    rintro e w' ⟨rfl, rfl⟩
    rw [Hok.out]
    go_wp2
    refine bodyPost_ret (v := .tuple #[.slice none 0 0, .bool false]) (by simp [results, Try.results44, go_sem]) rfl ?_
    exact ⟨_, by rw [Hr.out]; rfl, by rw [Hr.out]; exact Own.nil _ _ _ _, Below.refl _ _⟩
  · obtain ⟨r, c, hr1, hr5, hc1, hc5, hsh⟩ := imageOk_shape hok
    rw [greedyR_ok hsh hr1 hr5 hc1 hc5]
    exact GreedyReveal_s v m r c w hv hsh hr1 hr5 hc1 hc5
end Go.Proofs.Ytekgnpdchpdfiaa

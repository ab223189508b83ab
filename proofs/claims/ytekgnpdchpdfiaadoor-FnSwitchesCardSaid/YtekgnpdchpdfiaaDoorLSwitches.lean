/- FnSwitches: the walk of the law. -/
import Derived.Test.YtekgnpdchpdfiaaDoorW3
import Derived.Test.YtekgnpdchpdfiaaDoorW4
import Derived.Test.YtekgnpdchpdfiaaDoorC9
namespace Go.Proofs.YtekgnpdchpdfiaaDoor
open Go.RowKit

theorem imageLine_pos {r c : Nat} {m : List (List Int)} (_ : Shape r c m) (_ : 1 ≤ r) (_ : r ≤ 5) (_ : 1 ≤ c) (_ : c ≤ 5) : 0 < (imageLineOf r c m).size := by
  have e1 : (⟨#[32, 114, 111, 119, 115, 32]⟩ : ByteArray).size = 6 := rfl
  unfold imageLineOf
  split <;> simp only [ba_append_size, e1] <;> omega
set_option maxRecDepth 100000 in
set_option maxHeartbeats 3200000 in
theorem FnSwitches_w {v : Value} {bs : List Int} {w : World} (hv : Bytes w v bs) (ht : Tab w) :
    Calls Tryd.prog 3 #[v] w fun e w' => e = .returned (.bool true) ∧ Below w.heap.size w w' := by
  obtain ⟨a, cap, rfl, -, -, -, -⟩ := id hv
  rcases Nat.lt_or_ge 1048576 bs.length with h1 | h1
  · go_enter Tryd.func3, Tryd.ntmps3
    go_wp2
    go_ret
    exact ⟨rfl, Below.refl _ _⟩
  have hd0 : decide ((1048576 : Int) < (bs.length : Int)) = false := by simp; omega
  have HT := Lib.hid ht
  clear ht
  go_enter Tryd.func3, Tryd.ntmps3
  go_wp2_with (fail)
  refine (MakeImage_c _ bs 0 4 w hv (by decide) (by decide) (by decide)).mono ?_
  rintro e w1 ⟨v1, m, r, c, rfl, ⟨hr1, hr4⟩, ⟨hc1, hc4⟩, hsh, hown1, bb1⟩
  have hr5 : r ≤ 5 := by omega
  have hc5 : c ≤ 5 := by omega
  obtain ⟨p, off, cp, rfl, hp, -⟩ := hown1.grid.cells hsh hr1 hc1
  have Hm := Lib.hid hown1.grid
  have Hok := Lib.hid (hsh.ok hr1 hr5 hc1 hc5)
  have hS := sums_of_image hsh hr1 hr5 hc1 hc5
  have hrl := (rowSumsOf_wf hsh hr1 hr5 hc1 hc5).1
  have hcl := (colSumsOf_wf hsh hr1 hr5 hc1 hc5).1
  have Hsok := Lib.hid (show sumsOk (rowSumsOf m) (colSumsOf m) = true from sumsOk_of (by omega) (by omega) (by omega) (by omega) (by rw [hrl, hcl]; exact hS))
  have Hone := Lib.hid (images_one hsh hr1 hr5 hc1 hc5)
  have Hmem := Lib.hid (fun s => (switchesOf_mem (r := r) (c := c) (g := m) (s := s)).1)
  have Hrl := Lib.hid hrl
  have Hcl := Lib.hid hcl
  have HS := Lib.hid hS
  clear hown1 hS hrl hcl
  go_wp2_with (fail)
  refine (SwitchesOf_i _ m r c _ Hm.out hsh hr1 hr5 hc1 hc5).mono ?_
  rintro e w2 ⟨v2, rfl, o2, b2⟩
  obtain ⟨l, hl⟩ : ∃ l, l = switchesOf r c m := ⟨_, rfl⟩
  have hl36 := switchesOf_len4 (r := r) (c := c) (by omega) (by omega) m
  rw [← hl] at o2 Hone Hmem hl36
  obtain ⟨N, hN⟩ : ∃ N, N = (allImgs (rowSumsOf m) (colSumsOf m)).length := ⟨_, rfl⟩
  rw [← hN] at Hone
  have HN := Lib.hid hN
  have Hl := Lib.hid hl
  have Ho2 := Lib.hid o2
  obtain ⟨z, hz⟩ : ∃ z, ((l.length : Int) == 0) = z := ⟨_, rfl⟩
  have Hz1 := Lib.hid (show decide (l = []) = z from by rw [← hz, Bool.eq_iff_iff, decide_eq_true_eq, beq_iff_eq, ← List.length_eq_zero_iff]; omega)
  have hz2 : ((N : Int) == 1) = z := by rw [← Hz1.out, Bool.eq_iff_iff, decide_eq_true_eq, beq_iff_eq, ← Hone.out]; omega
  obtain ⟨a2, c2, rfl⟩ := o2.shape
  have Hm2 := Lib.hid (Hm.out.keep b2)
  have bb2 := bb1.trans_pure b2 (Nat.le_refl _)
  have Hzz := Lib.hid (And.intro hz hz2)
  clear hl hN o2 hz hz2
  go_wp2_with (fail)
  refine (ImageOk_i _ _ _ Hm2.out).mono ?_
  rintro e w' ⟨rfl, rfl⟩
  rw [Hok.out]
  go_wp2_with (fail)
  refine (IsUnique_i _ m r c _ Hm2.out hsh hr1 hr5 hc1 hc5).mono ?_
  rintro e w3 ⟨rfl, b3⟩
  rw [← Hl.out, Hz1.out]
  have bb3 := bb2.trans_pure b3 (Nat.le_refl _)
  have hz := Hzz.out.1
  go_wp2_with (fail)
  refine (IsUnique_i _ m r c _ (Hm2.out.keep b3) hsh hr1 hr5 hc1 hc5).mono ?_
  rintro e w4 ⟨rfl, b4⟩
  rw [← Hl.out, Hz1.out]
  have b24 := b3.trans_pure b4 (Nat.le_refl _)
  clear hz
  go_wp2_with (fail)
  refine (RowSums_i _ _ _ (Hm2.out.keep b24)).mono ?_
  rintro e w5 ⟨v5, rfl, o5, b5⟩
  have Ho5 := Lib.hid o5.ints
  clear o5
  go_wp2_with (fail)
  refine (ColSums_i _ _ _ ((Hm2.out.keep b24).keep b5)).mono ?_
  rintro e w6 ⟨v6, rfl, o6, b6⟩
  go_wp2_with (fail)
  refine (CountImages_i _ _ _ _ _ (Ho5.out.keep b6) o6.ints Hsok.out).mono ?_
  rintro e w7 ⟨rfl, b7⟩
  rw [← HN.out]
  have b27 := b24.trans_pure (b5.trans_pure (b6.trans_pure b7 (Nat.le_refl _)) (Nat.le_refl _)) (Nat.le_refl _)
  have bb7 := bb2.trans_pure b27 (Nat.le_refl _)
  have Hm7 := Lib.hid (Hm2.out.keep b27)
  have Ho7 := Lib.hid (Ho2.out.keep b27)
  have hz2 := Hzz.out.2
  have HT7 := Lib.hid (HT.out.keep bb7)
  clear o6
  go_wp2
  clear hz2
  go_loopw [6, 7, 8, 9, 10, 42] (fun _ _ _ _ _ i wr => ∃ k : Nat, k ≤ l.length ∧ i = .int .i64 k ∧ Hid (Below w7.heap.size w7 wr)) (fun _ _ _ _ _ i _ => l.length - (intOf i).toNat)
  case atStart => exact ⟨0, Nat.zero_le _, rfl, Below.refl _ _⟩
  case round =>
    obtain ⟨k, hk, rfl, Hb⟩ := hrel
    by_cases hlt : k < l.length
    · obtain ⟨gl, cl, he, hgl1, hgl2, hcl2, hcells⟩ := Ho7.out.at (by omega)
      obtain ⟨rfl, -⟩ : a2 = some ⟨gl, 0, none⟩ ∧ c2 = cl := by simpa using he
      obtain ⟨s, hs⟩ : ∃ s, l[k]? = some s := ⟨_, List.getElem?_eq_getElem hlt⟩
      have hok := Hmem.out s (List.mem_of_getElem? hs)
      have c0 := (Hb.out.cell (p := ⟨gl, k * 4 + 0, none⟩) hgl2).trans (hcells k s hs 0 (.int .i64 s.1) rfl)
      have c1 := (Hb.out.cell (p := ⟨gl, k * 4 + 1, none⟩) hgl2).trans (hcells k s hs 1 (.int .i64 s.2.1) rfl)
      have c2 := (Hb.out.cell (p := ⟨gl, k * 4 + 2, none⟩) hgl2).trans (hcells k s hs 2 (.int .i64 s.2.2.1) rfl)
      have c3 := (Hb.out.cell (p := ⟨gl, k * 4 + 3, none⟩) hgl2).trans (hcells k s hs 3 (.int .i64 s.2.2.2) rfl)
      rw [Nat.add_zero] at c0
      have Hk := Lib.hid (Blk.new wr (swC s).toArray 32)
      have Hb1 := Lib.hid (Below.pureAlloc wr (.cells (swC s).toArray 32))
      have HMw := Lib.hid (show ∀ w', Below wr.heap.size wr w' → Grid w' (.slice (some ⟨p, off, none⟩) r cp) m from fun w' hb => Hm7.out.keep (Hb.out.trans_pure hb (Nat.le_refl _)))
      have hsx := applyS_shape hsh hok
      have Hokx := Lib.hid (applyS_ok hsh hok)
      have Htw := Lib.hid (applyS_twice hsh hok)
      have Hsu := Lib.hid (sums_lists (applyS_sums HS.out hok) Hrl.out Hcl.out hr1 hr5 hc1 hc5)
      have Hd4 := Lib.hid (distG_switch hsh hok)
      have Hsok2 := Lib.hid (show swOkB r c m s.y1 s.y2 s.x1 s.x2 = true from by rw [swOkB_nat]; exact decide_eq_true hok)
      have Hko := Lib.hid hok
      clear hcells hs he hok
      go_wp2_with (fail)
      refine (ApplySwitch_t _ m r c s _ (HMw.out _ Hb1.out) hsh hr1 hr5 hc1 hc5 Hko.out).mono ?_
      rintro e u1 ⟨x1, rfl, q1, d1⟩
      have e1 : Below wr.heap.size wr u1 := Hb1.out.trans_pure d1 (Nat.le_refl _)
      have Hx1 := Lib.hid q1.grid
      have Hk1 := Lib.hid (Hk.out.keep d1)
      obtain ⟨xa, xn, xc, rfl⟩ := q1.shape
      have k0 : u1.cell? ⟨wr.heap.size, 0, none⟩ = some (.int .i64 s.1) := Hk1.out.cell 0
      have k1 : u1.cell? ⟨wr.heap.size, 1, none⟩ = some (.int .i64 s.2.1) := Hk1.out.cell 1
      have k2 : u1.cell? ⟨wr.heap.size, 2, none⟩ = some (.int .i64 s.2.2.1) := Hk1.out.cell 2
      have k3 : u1.cell? ⟨wr.heap.size, 3, none⟩ = some (.int .i64 s.2.2.2) := Hk1.out.cell 3
      clear q1 c0 c1 c2 c3
      go_wp2_with (fail)
      refine (ApplySwitch_t _ (applyS m s) r c s _ Hx1.out hsx hr1 hr5 hc1 hc5 Hokx.out).mono ?_
      rintro e u2 ⟨y1, rfl, q2, d2⟩
      rw [Htw.out] at q2
      have e2 : Below wr.heap.size wr u2 := e1.trans_pure d2 (Nat.le_refl _)
      have Hx2 := Lib.hid (Hx1.out.keep d2)
      have Hy2 := Lib.hid q2.grid
      have Hk2 := Lib.hid (Hk1.out.keep d2)
      obtain ⟨ya, yn, yc, rfl⟩ := q2.shape
      clear k0 k1 k2 k3 q2
      have k0 : u2.cell? ⟨wr.heap.size, 0, none⟩ = some (.int .i64 s.1) := Hk2.out.cell 0
      have k1 : u2.cell? ⟨wr.heap.size, 1, none⟩ = some (.int .i64 s.2.1) := Hk2.out.cell 1
      have k2 : u2.cell? ⟨wr.heap.size, 2, none⟩ = some (.int .i64 s.2.2.1) := Hk2.out.cell 2
      have k3 : u2.cell? ⟨wr.heap.size, 3, none⟩ = some (.int .i64 s.2.2.2) := Hk2.out.cell 3
      go_wp2_with (fail)
      refine (SwitchOk_i _ m r c s.y1 s.y2 s.x1 s.x2 _ (HMw.out _ e2) hsh hr1 hr5 hc1 hc5).mono ?_
      rintro e u3 ⟨rfl, d3⟩
      rw [Hsok2.out]
      have e3 : Below wr.heap.size wr u3 := e2.trans_pure d3 (Nat.le_refl _)
      clear k0 k1 k2 k3
      go_wp2_with (fail)
      refine (SameSums_t _ _ (applyS m s) m r c _ (Hx2.out.keep d3) (HMw.out _ e3) hsx hsh hr1 hr5 hc1 hc5 Hsu.out.1 Hsu.out.2).mono ?_
      rintro e u4 ⟨rfl, d4⟩
      have e4 : Below wr.heap.size wr u4 := e3.trans_pure d4 (Nat.le_refl _)
      go_wp2_with (fail)
      refine (DistanceOf_i _ _ (applyS m s) m r c _ ((Hx2.out.keep d3).keep d4) (HMw.out _ e4) hsx hsh hr1 hr5 hc1 hc5).mono ?_
      rintro e u5 ⟨rfl, d5⟩
      rw [Hd4.out]
      have e5 : Below wr.heap.size wr u5 := e4.trans_pure d5 (Nat.le_refl _)
      have d35 := d3.trans_pure (d4.trans_pure d5 (Nat.le_refl _)) (Nat.le_refl _)
      go_wp2_with (fail)
      refine (alike_c _ _ m m _ (Hy2.out.keep d35) (HMw.out _ e5)).mono ?_
      rintro e u6 ⟨rfl, d6⟩
      rw [decide_eq_true (rfl : m = m)]
      have Hb6 := Lib.hid (Hb.out.trans_pure (e5.trans_pure d6 (Nat.le_refl _)) (Nat.le_refl _))
      go_wp2
      go_roundw
      case rel => exact ⟨k + 1, by omega, by go_num, Hb6⟩
      case measure => simp [intOf]; omega
    · obtain rfl : k = l.length := by omega
      have Htx := Lib.hid (imageLine_pos hsh hr1 hr5 hc1 hc5)
      go_wp2_with (fail)
      refine (ImageLine_i _ m r c _ (Hm7.out.keep Hb.out) hsh hr1 hr5 hc1 hc5 (HT7.out.keep Hb.out)).mono ?_
      rintro e u1 ⟨rfl, d1⟩
      have bbf := bb7.trans_pure (Hb.out.trans_pure d1 (Nat.le_refl _)) (Nat.le_refl _)
      obtain ⟨T, hT⟩ : ∃ T, T = imageLineOf r c m := ⟨_, rfl⟩
      rw [← hT] at Htx ⊢
      clear hT
      have hT2 : T.toList.isEmpty = false := by
        rw [ByteArray.toList_eq, List.isEmpty_eq_false_iff]
        intro e
        have h := Htx.out
        have h2 := congrArg List.length e
        rw [Array.length_toList, List.length_nil] at h2
        have h3 : T.size = T.data.size := rfl
        omega
      go_wp2
      go_ret
      exact ⟨rfl, bbf⟩
end Go.Proofs.YtekgnpdchpdfiaaDoor

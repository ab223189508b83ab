/- Contracts: a drawn number out of a list, a drawn mask. -/
import Derived.Test.YtlmjpmdkifoekaaDoorMk
import Derived.Test.YtlmjpmdkifoekaaDoorDraw2
import Derived.Test.YtlmjpmdkifoekaaDoorC12
import Derived.Test.YtlmjpmdkifoekaaDoorKeyL
namespace Go.Proofs.YtlmjpmdkifoekaaDoor
open Go.RowKit

set_option maxHeartbeats 800000 in
theorem l01Pick_c (B g : Nat) (v : Value) (l : List Int) (w : World) (h : Cur B w g) (hv : Ints w v l) (hl1 : 1 ≤ l.length) (hl2 : l.length ≤ 256) (hg : ∀ b off n c, v = .slice (some ⟨b, off, none⟩) n c → b ≠ g) : Calls Tryd.prog 48 #[.pointer (some ⟨g, 0, none⟩), v] w (Drew B g w fun n => n ∈ l) := by
  have Hv := Lib.hid hv
  obtain ⟨b, off, c, rfl, hb, -⟩ := hv.inv_ne hl1
  have hbg := hg _ _ _ _ rfl
  clear hg
  go_enter Tryd.func48, Tryd.ntmps48
  go_wp2_with (fail)
  refine (l01Below_c B g _ _ h (by omega) (by omega)).mono ?_
  rintro e w1 ⟨n, ⟨hn0, hn1⟩, rfl, hcur1, ho1, hz1⟩
  obtain ⟨k, rfl⟩ := Int.eq_ofNat_of_zero_le hn0
  have hk : k < l.length := by omega
  have hck := (ho1.cell (p := ⟨b, off + k, none⟩) hb hbg).trans (Ints.at Hv.out (gD_at 0 hk))
  have Hmem := Lib.hid (List.mem_of_getElem? (gD_at (0 : Int) hk))
  obtain ⟨x, hx⟩ : ∃ x, x = l.getD k 0 := ⟨_, rfl⟩
  rw [← hx] at hck Hmem
  have Hz1 := Lib.hid hz1
  clear hx hz1
  go_wp2
  go_ret
  exact ⟨x, Hmem.out, rfl, hcur1, ho1, Hz1.out⟩
/-- the rows of an owned list of lists, as every world has them in which only the block g has changed -/
def RowsOnly (w : World) (g b off r c : Nat) (m : List (List Int)) : Prop := ∀ y, y < r → ∃ br offr cpr, ∀ w', Only (fun b => b = g) w w' → w'.cell? ⟨b, off + y, none⟩ = some (.slice (some ⟨br, offr, none⟩) c cpr) ∧ ∀ x, x < c → w'.cell? ⟨br, offr + x, none⟩ = some (.int .i64 (at2 m y x))
theorem rows_only {E E' : TypeId} {w : World} {g lo hi r c : Nat} {v : Value} {m : List (List Int)} (h : Own E (Own E' IntV) (Iv lo hi) w v m) (hg : g < lo) (hhi : hi ≤ w.heap.size) (hs : TRect r c m) (hr : 1 ≤ r) (hc : 1 ≤ c) : ∃ b off cp, v = .slice (some ⟨b, off, none⟩) r cp ∧ RowsOnly w g b off r c m := by
  have hsl : Sl (Sl IntV) (Iv lo hi) w v m := h.sl (fun S w u x hx => hx.sl (fun _ _ _ _ h => h) rIntV) (rSl rIntV)
  obtain ⟨a, cap, rfl, -, -, -, hc'⟩ := hsl
  obtain ⟨b, off, rfl, hb, hcc⟩ := hc' (by rw [hs.1]; omega)
  refine ⟨b, off, cap, by rw [hs.1], fun y hy => ?_⟩
  obtain ⟨hrow, hrl, -⟩ := hs.row hy
  obtain ⟨u, hu, a2, cap2, rfl, -, -, -, hc2⟩ := hcc y _ hrow
  obtain ⟨b2, off2, rfl, hb2, hcc2⟩ := hc2 (by rw [hrl]; omega)
  refine ⟨b2, off2, cap2, fun w' ho => ⟨by rw [ho.cell (p := ⟨b, off + y, none⟩) (by have := hb.2; show b < _; omega) (by have := hb.1; show ¬ b = g; omega), hu, hrl], fun x hx => ?_⟩⟩
  obtain ⟨u2, hu2, rfl, -⟩ := hcc2 x _ (gD_at 0 (l := m.getD y []) (by omega))
  rw [ho.cell (p := ⟨b2, off2 + x, none⟩) (by have := hb2.2; show b2 < _; omega) (by have := hb2.1; show ¬ b2 = g; omega), hu2]
  rfl
def MRow (c : Nat) (row : List Int) : Prop := row.length = c ∧ ∀ x ∈ row, -1 ≤ x ∧ x ≤ 1
theorem mrow_snoc {j : Nat} {row : List Int} {z : Int} (h : MRow j row) (hz : -1 ≤ z ∧ z ≤ 1) : MRow (j + 1) (row ++ [z]) := by
  refine ⟨by rw [List.length_append, h.1]; rfl, fun x hx => ?_⟩
  rcases List.mem_append.1 hx with h1 | h1
  · exact h.2 x h1
  · rw [List.mem_singleton] at h1; subst h1; exact hz
theorem rect_snoc {k c : Nat} {m : List (List Int)} {row : List Int} (h : TRect k c m) (hr : MRow c row) : TRect (k + 1) c (m ++ [row]) := by
  refine ⟨by rw [List.length_append, h.1]; rfl, fun x hx => ?_⟩
  rcases List.mem_append.1 hx with h1 | h1
  · exact h.2 x h1
  · rw [List.mem_singleton] at h1; subst h1; exact hr
theorem infoRowM : (Tryd.prog.info? 24).map (fun i => (i.zero, i.size, i.bytes)) = some (some (.slice none 0 0), 1, 24) := by kernel_rfl
theorem lit6 (w : World) (x : Int) (hx : 0 ≤ x ∧ x ≤ 1) (w' : World) (hw : Below (w.alloc (.cells #[.int .i64 (-1), .int .i64 (-1), .int .i64 x, .int .i64 x, .int .i64 (1 - x), .int .i64 (-1)] 3)).heap.size (w.alloc (.cells #[.int .i64 (-1), .int .i64 (-1), .int .i64 x, .int .i64 x, .int .i64 (1 - x), .int .i64 (-1)] 3)) w') : Ints w' (.slice (some ⟨w.heap.size, 0, none⟩) 6 6) [-1, -1, x, x, 1 - x, -1] := by
  have hB := (Blk.new w #[.int .i64 (-1), .int .i64 (-1), .int .i64 x, .int .i64 x, .int .i64 (1 - x), .int .i64 (-1)] 3).keep hw
  refine ⟨_, 6, rfl, by simp, by simp, fun h => by simp at h, fun _ => ⟨w.heap.size, 0, rfl, hB.lt, fun k z hk => ?_⟩⟩
  have hc := hB.cell k
  rw [Nat.zero_add, hc]
  match k, hk with
  | 0, hk => simp at hk; subst hk; exact ⟨_, rfl, rfl, I64.small (by omega) (by omega)⟩
  | 1, hk => simp at hk; subst hk; exact ⟨_, rfl, rfl, I64.small (by omega) (by omega)⟩
  | 2, hk => simp at hk; subst hk; exact ⟨_, rfl, rfl, I64.small (by omega) (by omega)⟩
  | 3, hk => simp at hk; subst hk; exact ⟨_, rfl, rfl, I64.small (by omega) (by omega)⟩
  | 4, hk => simp at hk; subst hk; exact ⟨_, rfl, rfl, I64.small (by omega) (by omega)⟩
  | 5, hk => simp at hk; subst hk; exact ⟨_, rfl, rfl, I64.small (by omega) (by omega)⟩
  | n + 6, hk => simp at hk
set_option maxRecDepth 100000 in
set_option maxHeartbeats 2000000 in
theorem MakeMask_c (v : Value) (bs : List Int) (w : World) (hv : Bytes w v bs) : Calls Tryd.prog 8 #[v] w fun e w' => ∃ (vm vx vy : Value) (q m : List (List Int)) (r c : Nat), e = .returned (.tuple #[vm, vx, vy]) ∧ (1 ≤ r ∧ r ≤ 4) ∧ (1 ≤ c ∧ c ≤ 4) ∧ Shape r c m ∧ TRect r c q ∧ Grid w' vm q ∧ Ints w' vx (rowSumsOf m) ∧ Ints w' vy (colSumsOf m) ∧ Below w.heap.size w w' := by
  go_enter Tryd.func8, Tryd.ntmps8
  go_wp2_with (fail)
  refine (l01New_c v bs _ hv).mono ?_
  rintro e w1 ⟨g, rfl, hg, hcur, hbel, hsz⟩
  have Hg := Lib.hid hg
  have hg1 : g < w1.heap.size := by omega
  have hgB : w.heap.size ≤ g := by omega
  clear hsz hg
  go_wp2_with (fail)
  refine (l02Draw_c w.heap.size g 4 _ hcur (by decide) (by decide)).mono ?_
  rintro e w2 ⟨v2, m, r, c, rfl, ⟨hr1, hr4⟩, ⟨hc1, hc4⟩, hsh, hm, hcur2, ho2⟩
  have hs12 := ho2.size
  obtain ⟨b, off, cp, rfl, hrows⟩ := rows_only hm hg1 (Nat.le_refl _) hsh.trectM hr1 hc1
  have Hrows := Lib.hid hrows
  have Hm := Lib.hid hm
  have HB2 := Lib.hid (show Below w.heap.size w w2 from hbel.trans (ho2.below (by omega) fun b hb => by subst hb; exact hgB))
  have Hq0 := Lib.hid (own_lit0 (R := Own 3 IntV) w2 24 w2.heap.size (rOwn rIntV))
  have Hc0 := Lib.hid (hcur2.keep (Below.pureAlloc w2 (.cells #[] 24)))
  have Ho0 := Lib.hid ((Only.refl (fun b => b = g) w2).alloc (.cells #[] 24))
  have hcb : ∀ y x, 0 ≤ at2 m y x ∧ at2 m y x ≤ 1 := at2_bits hsh
  have Hcb := Lib.hid hcb
  clear hrows hm hbel ho2 hcur hcur2 hcb
  go_wp2
  go_loopw [7, 9, 10, 12, 20] (fun mv _ _ _ i wr => ∃ (k : Nat) (q : List (List Int)), k ≤ r ∧ i = .int .i64 k ∧ Hid (TRect k c q) ∧ Hid (Own 24 (Own 3 IntV) (Iv w2.heap.size wr.heap.size) wr mv q) ∧ Hid (Cur w.heap.size wr g) ∧ Hid (Only (fun b => b = g) w2 wr)) (fun _ _ _ _ i _ => r - (intOf i).toNat)
  case atStart => exact ⟨0, [], Nat.zero_le _, rfl, Lib.hid ⟨rfl, fun _ h => by simp at h⟩, Hq0, Hc0, Ho0⟩
  case round =>
    clear Hq0 Hc0 Ho0
    obtain ⟨k, q, hk, rfl, Hq, Hown, Hcur, Ho⟩ := hrel
    obtain ⟨wo, rfl⟩ : ∃ wo : World, wo = wr := ⟨_, rfl⟩
    obtain ⟨p1, p2, p3, rfl⟩ := Hown.out.shape
    have hs2 := Ho.out.size
    by_cases hlt : k < r
    · obtain ⟨br, orr, cr, hrow⟩ := Hrows.out k hlt
      have e1 := (hrow _ Ho.out).1
      have Hrow := Lib.hid hrow
      have Hr0 := Lib.hid (own_lit0 (R := IntV) wo 3 wo.heap.size rIntV)
      have Hc0 := Lib.hid (Hcur.out.keep (Below.pureAlloc wo (.cells #[] 3)))
      have Ho0 := Lib.hid ((Only.refl (fun b => b = g) wo).alloc (.cells #[] 3))
      clear hrow
      go_wp2
      go_loopw [10, 12, 27] (fun rv _ i wr => ∃ (j : Nat) (row : List Int), j ≤ c ∧ i = .int .i64 j ∧ Hid (MRow j row) ∧ Hid (Own 3 IntV (Iv wo.heap.size wr.heap.size) wr rv row) ∧ Hid (Cur w.heap.size wr g) ∧ Hid (Only (fun b => b = g) wo wr)) (fun _ _ i _ => c - (intOf i).toNat)
      case atStart => exact ⟨0, [], Nat.zero_le _, rfl, Lib.hid ⟨rfl, fun _ h => by simp at h⟩, Hr0, Hc0, Ho0⟩
      case round =>
        clear e1 Hr0 Hc0 Ho0 Hcur
        obtain ⟨j, row, hj, rfl, Hrw, Hro, Hcur, Ho3⟩ := hrel
        obtain ⟨wi, rfl⟩ : ∃ wi : World, wi = wr := ⟨_, rfl⟩
        obtain ⟨y1, y2, y3, rfl⟩ := Hro.out.shape
        have hs3 := Ho3.out.size
        by_cases hltj : j < c
        · have Ho2i := Lib.hid (show Only (fun b => b = g) w2 wi from Ho.out.trans' (Ho3.out.mono fun b hb _ => .inl hb))
          have e2 := (Hrow.out _ Ho2i.out).2 j hltj
          have hx01 := Hcb.out k j
          obtain ⟨x, hx⟩ : ∃ x, x = at2 m k j := ⟨_, rfl⟩
          rw [← hx] at e2 hx01
          have hgi : g < wi.heap.size := by omega
          have hrl := Hrw.out.1
          have Hl6 := Lib.hid (lit6 wi x hx01 _ (Below.refl _ _))
          have Hc6 := Lib.hid (Hcur.out.keep (Below.pureAlloc wi (.cells #[.int .i64 (-1), .int .i64 (-1), .int .i64 x, .int .i64 x, .int .i64 (1 - x), .int .i64 (-1)] 3)))
          have Ho6 := Lib.hid (Ho3.out.alloc (.cells #[.int .i64 (-1), .int .i64 (-1), .int .i64 x, .int .i64 x, .int .i64 (1 - x), .int .i64 (-1)] 3))
          have Hp6 := Lib.hid (Below.pureAlloc wi (.cells #[.int .i64 (-1), .int .i64 (-1), .int .i64 x, .int .i64 x, .int .i64 (1 - x), .int .i64 (-1)] 3))
          have hsub : 1 - x = 1 - x := rfl
          clear hx hsub
          go_wp2_with (fail)
          refine (l01Pick_c w.heap.size g _ [-1, -1, x, x, 1 - x, -1] _ (by exact Hc6.out) (by exact Hl6.out) (by simp) (by simp) (fun b off n c h => by simp only [Value.slice.injEq, Option.some.injEq, Addr.mk.injEq] at h; omega)).mono ?_
          rintro e w6 ⟨z, hz, rfl, hcur6, ho6, hz6⟩
          have hzb : -1 ≤ z ∧ z ≤ 1 := by
            simp only [List.mem_cons, List.not_mem_nil, or_false] at hz
            omega
          have Hz6 := Lib.hid hz6
          have HO6 := Lib.hid (show Only (fun b => b = g) wo w6 from Ho6.out.trans' (ho6.mono fun b hb _ => .inl hb))
          have hs6 : wi.heap.size + 1 = w6.heap.size := by rw [← Hz6.out]; simp
          have HR6 := Lib.hid (show Own 3 IntV (Iv wo.heap.size w6.heap.size) w6 (.slice y1 y2 y3) row from (rOwn rIntV).mono (fun b hb => ⟨hb.1, by have := hb.2; omega⟩) (Own.only rIntV (Own.keep rIntV Hro.out Hp6.out (Nat.le_refl _)) ho6 (fun b hb => by have := hb.2; simp; omega) (fun b hb e => by have := hb.1; have e : b = g := e; omega)))
          have hI : I64 z := I64.small (by omega) (by omega)
          have hrl2 : row.length < 1099511627776 := by omega
          have hwo6 : wo.heap.size ≤ w6.heap.size := by omega
          have Hcur6 := Lib.hid hcur6
          clear hz hz6 ho6 hcur6 hs6
          go_wp2_with (first
            | (at_builtin; (refine wpList_appR (w0 := w6) (u := .int .i64 z) rfl _ _ 24 rfl rIntV 3 Tryd.underlying24 infoInt rfl (by decide) wo.heap.size w6.heap.size hwo6 (Nat.le_refl _) rfl rfl (by exact HR6.out) (by exact ⟨rfl, hI⟩) hrl2 ?_); intro v7 w7 o7 b7 ho7)
            | fail)
          have Hrw2 := Lib.hid (mrow_snoc Hrw.out hzb)
          have Ho7 := Lib.hid (show Only (fun b => b = g) wo w7 from HO6.out.trans' ((Only.of_below b7).mono fun b hb _ => .inr hb))
          have Hc7 := Lib.hid (Hcur6.out.only (Only.of_below b7) (fun h => by have h : wo.heap.size ≤ g := h; omega) (fun b hb => by have hb : wo.heap.size ≤ b := hb; omega))
          exact ⟨⟨j + 1, _, by omega, by go_num, Hrw2, Lib.hid o7, Hc7, Ho7⟩, by simp [intOf]; omega⟩
        · obtain rfl : j = c := by omega
          have HQ := Lib.hid (Own.only (rOwn rIntV) Hown.out Ho3.out (fun b hb => hb.2) (fun b hb e => by have := hb.1; have e : b = g := e; omega))
          have hql := Hq.out.1
          have hql2 : q.length < 1099511627776 := by omega
          have hsw : w2.heap.size ≤ wo.heap.size := hs2
          go_wp2_with (first
            | (at_builtin; (refine wpList_appR (w0 := wi) (u := .slice y1 y2 y3) rfl _ _ 23 rfl (rOwn rIntV) 24 Tryd.underlying23 infoRowM rfl (by decide) w2.heap.size wo.heap.size hsw hs3 rfl rfl (by exact HQ.out) (by exact Hro.out) hql2 ?_); intro v7 w7 o7 b7 ho7)
            | fail)
          have Hq2 := Lib.hid (rect_snoc Hq.out Hrw.out)
          have Ho2i := Lib.hid (show Only (fun b => b = g) w2 wi from Ho.out.trans' (Ho3.out.mono fun b hb _ => .inl hb))
          have Ho7 := Lib.hid (show Only (fun b => b = g) w2 w7 from Ho2i.out.trans' ((Only.of_below b7).mono fun b hb _ => .inr hb))
          have Hc7 := Lib.hid (Hcur.out.only (Only.of_below b7) (fun h => by have h : w2.heap.size ≤ g := h; omega) (fun b hb => by have hb : w2.heap.size ≤ b := hb; omega))
          exact ⟨⟨k + 1, _, by omega, by go_num, Hq2, Lib.hid o7, Hc7, Ho7⟩, by simp [intOf]; omega⟩
    · obtain rfl : k = r := by omega
      have HM := Lib.hid (show Grid wo _ m from (Own.only (rOwn rIntV) Hm.out Ho.out (fun b hb => hb.2) (fun b hb e => by have := hb.1; have e : b = g := e; omega)).grid)
      have HQ := Lib.hid Hown.out.grid
      have HBo := Lib.hid (show Below w.heap.size w wo from HB2.out.trans (Ho.out.below HB2.out.size fun b hb => by have hb : b = g := hb; omega))
      go_wp2_with (fail)
      refine (RowSums_s _ _ _ HM.out).mono ?_
      rintro e w3 ⟨v3, rfl, o3, b3⟩
      obtain ⟨x1, x2, x3, rfl⟩ := o3.shape
      have Ho3 := Lib.hid o3.ints
      clear o3
      go_wp2_with (fail)
      refine (ColSums_s _ _ _ (HM.out.keep b3)).mono ?_
      rintro e w4 ⟨v4, rfl, o4, b4⟩
      obtain ⟨z1, z2, z3, rfl⟩ := o4.shape
      have Ho4 := Lib.hid o4.ints
      have b34 := b3.trans_pure b4 (Nat.le_refl _)
      have bbf := HBo.out.trans_pure b34 (Nat.le_refl _)
      clear o4
      go_wp2
      refine bodyPost_ret (v := .tuple #[.slice p1 p2 p3, .slice x1 x2 x3, .slice z1 z2 z3]) (by simp [results, Tryd.results8, go_sem]) rfl ?_
      exact ⟨_, _, _, q, m, k, c, rfl, ⟨by omega, by omega⟩, ⟨by omega, by omega⟩, hsh, Hq.out, HQ.out.keep b34, Ho3.out.keep b4, Ho4.out, bbf⟩
end Go.Proofs.YtlmjpmdkifoekaaDoor

/- Contracts: pieces of images. -/
import Derived.Test.YtodaiaigmjaaoaaC28
import Derived.Test.YtodaiaigmjaaoaaDraw2
import Derived.Test.YtodaiaigmjaaoaaBlk
import Derived.Laws.EntriesVeiled
namespace Go.Proofs.Ytodaiaigmjaaoaa
open Go.RowKit

theorem sumL_cons (a : Int) (l : List Int) : sumL (a :: l) = a + sumL l := by
  have h : ∀ (l : List Int) (b : Int), l.foldl (· + ·) b = b + l.foldl (· + ·) 0 := by
    intro l
    induction l with
    | nil => intro b; simp
    | cons c l ih => intro b; rw [List.foldl_cons, List.foldl_cons, ih, ih (0 + c)]; omega
  show (a :: l).foldl (· + ·) 0 = a + l.foldl (· + ·) 0
  rw [List.foldl_cons, h]; omega
theorem sumL_set {l : List Int} {k : Nat} {x : Int} (h : l[k]? = some x) (v : Int) : sumL (l.set k v) = sumL l - x + v := by
  induction l generalizing k with
  | nil => simp at h
  | cons a l ih =>
    cases k with
    | zero => simp at h; subst h; rw [List.set_cons_zero, sumL_cons, sumL_cons]; omega
    | succ k => rw [List.set_cons_succ, sumL_cons, sumL_cons, ih (by simpa using h)]; omega
theorem ones_set {m : List (List Int)} {y : Nat} {row : List Int} (h : m[y]? = some row) (row' : List Int) : ones (m.set y row') = ones m - sumL row + sumL row' := by
  unfold ones
  rw [List.map_set]
  exact sumL_set (by rw [List.getElem?_map, h]; rfl) _
abbrev GridSl (G r cap : Nat) : Value := .slice (some ⟨G, 0, none⟩) r cap
/-- where the walk over an image's pieces stands: the image l lies in its rows, which stay where they are -/
structure PSt (lo hi r c G cap Bl Bw : Nat) (F : Value) (tl tw : TypeId) (Q C : Nat → Nat) (w : World) (l : List (List Int)) : Prop where
  sh : Shape r c l
  own : Own 33 (Own 3 IntV) (Iv lo hi) w (GridSl G r cap) l
  bl : Blk w Bl #[GridSl G r cap] tl
  bw : Blk w Bw #[F] tw
  hh : hi ≤ w.heap.size
  hl : hi ≤ Bl
  hw : hi ≤ Bw
  rows : ∀ k, k < r → w.cell? ⟨G, k, none⟩ = some (.slice (some ⟨Q k, 0, none⟩) c (C k))
theorem PSt.set {lo hi r c G cap Bl Bw : Nat} {F : Value} {tl tw : TypeId} {Q C : Nat → Nat} {w : World} {l : List (List Int)} (h : PSt lo hi r c G cap Bl Bw F tl tw Q C w l) {y x : Nat} {row : List Int} (hy : l[y]? = some row) (hx : x < c) :
    (∃ o, w.cell? ⟨Q y, x, none⟩ = some (.int .i64 o) ∧ row[x]? = some o) ∧ w.frozen? ⟨Q y, x, none⟩ = false ∧ lo ≤ Q y ∧ Q y < hi ∧
    PSt lo hi r c G cap Bl Bw F tl tw Q C (w.setCell ⟨Q y, x, none⟩ (.int .i64 0)) (l.set y (row.set x 0)) := by
  have hyr : y < r := by have := (List.getElem?_eq_some_iff.1 hy).1; rw [h.sh.1] at this; exact this
  have hrl := (h.sh.2 row (List.mem_of_getElem? hy)).1
  obtain ⟨q, cq, hcell, hG, hq, hqG, hcq, hxs, hrd, hset⟩ := own_grid_cell h.own hy (by omega)
  have hQ := h.rows y hyr
  rw [hcell] at hQ
  have e := Option.some.inj hQ
  have e2 : q = Q y := by injection e with e1 e3 e4; injection e1 with e5; injection e5
  subst e2
  obtain ⟨⟨o, ho⟩, hfo⟩ := hxs x (by omega)
  obtain ⟨o', ho'⟩ : ∃ o', row[x]? = some o' := ⟨_, List.getElem?_eq_getElem (by omega)⟩
  have ho2 := hrd x o' ho'
  refine ⟨⟨o', ho2, ho'⟩, hfo, hq.1, hq.2, ⟨h.sh.set hy (by decide) (by decide), hset w (fun _ _ => rfl) x 0 (by omega) (I64.small (by decide) (by decide)), ?_, ?_, ?_, h.hl, h.hw, fun k hk => ?_⟩⟩
  · exact h.bl.set_ne (by have := h.hl; have := hq.2; omega) _
  · exact h.bw.set_ne (by have := h.hw; have := hq.2; omega) _
  · rw [size_setCell]; exact h.hh
  · rw [World.cell?_of_block (w := w) (a := ⟨G, k, none⟩) (Below.heap_setCell w ⟨Q y, x, none⟩ (.int .i64 0) G (by simpa using fun e => hqG e.symm))]
    exact h.rows k hk
def WipeRes (lo hi r c G cap Bl Bw : Nat) (F : Value) (tl tw : TypeId) (Q C : Nat → Nat) (w : World) (l : List (List Int)) (y x : Int) (e : Ending) (w' : World) : Prop :=
  e = .returned (.tuple #[]) ∧ ∃ l', PSt lo hi r c G cap Bl Bw F tl tw Q C w' l' ∧ Only (Iv lo hi) w w' ∧ ones l' ≤ ones l ∧ (cellOf l r c y x = 1 → ones l' < ones l)
set_option maxHeartbeats 800000 in
theorem wipe_c (lo hi r c G cap Bl Bw : Nat) (F : Value) (tl tw : TypeId) (Q C : Nat → Nat) (hF : F = .func (.func 86) #[] #[.pointer (some ⟨Bl, 0, none⟩), .pointer (some ⟨Bw, 0, none⟩)]) (hr1 : 1 ≤ r) (hr5 : r ≤ 5) (hc1 : 1 ≤ c) (hc5 : c ≤ 5) (N : Nat) :
    ∀ (l : List (List Int)) (y x : Int) (w : World), PSt lo hi r c G cap Bl Bw F tl tw Q C w l → -1 ≤ y → y ≤ 5 → -1 ≤ x → x ≤ 5 → ones l ≤ N →
      Calls Try.prog 86 #[.int .i64 y, .int .i64 x, .pointer (some ⟨Bl, 0, none⟩), .pointer (some ⟨Bw, 0, none⟩)] w (WipeRes lo hi r c G cap Bl Bw F tl tw Q C w l y x) := by
  induction N with
  | zero =>
    intro l y x w hst y0 y1 x0 x1 hN
    have Hst := Lib.hid hst
    have c0 : w.cell? ⟨Bl, 0, none⟩ = some (GridSl G r cap) := hst.bl.cell 0
    have h1 : ¬ cellOf l r c y x = 1 := by
      intro h1
      have hin : inB r c y x = true := by
        cases h : inB r c y x
        · simp [cellOf, h] at h1
        · rfl
      have h2 := hin
      unfold inB at h2
      rw [Bool.and_eq_true, inR_iff, inR_iff] at h2
      obtain ⟨⟨ya, yb⟩, xa, xb⟩ := h2
      obtain ⟨row, hrow, hrl, hrb⟩ := hst.sh.row (y := y.toNat) (by omega)
      obtain ⟨o, hro⟩ : ∃ o, row[x.toNat]? = some o := ⟨_, List.getElem?_eq_getElem (by omega)⟩
      have ho1 : o = 1 := by
        have : cellOf l r c y x = o := by
          unfold cellOf
          rw [if_pos hin, List.getD_eq_getElem?_getD, List.getD_eq_getElem?_getD, hrow]
          simp [hro]
        rw [← this]; exact h1
      have hon : ones (l.set y.toNat (row.set x.toNat 0)) = ones l - 1 := by
        rw [ones_set hrow, sumL_set hro]; omega
      have hb := (ones_bd (hst.sh.set hrow (y := y.toNat) (x := x.toNat) (n := 0) (by decide) (by decide)) r).1
      rw [List.take_of_length_le (by rw [List.length_set, hst.sh.1]; exact Nat.le_refl _)] at hb
      omega
    have hne : (cellOf l r c y x == 1) = false := by simpa using h1
    have H1 := Lib.hid h1
    clear h1
    go_enter Try.func86, Try.ntmps86
    go_wp2_with (fail)
    refine (CellAt_c _ l r c _ _ w Hst.out.own.grid Hst.out.sh hr1 hr5 hc1 hc5).mono ?_
    rintro e w' ⟨rfl, rfl⟩
    go_wp2
    refine bodyPost_ret (v := .tuple #[]) (by simp [results, Try.results86, go_sem]) rfl ⟨rfl, l, Hst.out, Only.refl _ _, Int.le_refl _, fun h => absurd h H1.out⟩
  | succ N ih =>
    intro l y x w hst y0 y1 x0 x1 hN
    have IH := Lib.hid ih
    have Hst := Lib.hid hst
    clear ih
    have c0 : w.cell? ⟨Bl, 0, none⟩ = some (GridSl G r cap) := hst.bl.cell 0
    by_cases h1 : cellOf l r c y x = 1
    · have hin : inB r c y x = true := by
        cases h : inB r c y x
        · simp [cellOf, h] at h1
        · rfl
      have h2 := hin
      unfold inB at h2
      rw [Bool.and_eq_true, inR_iff, inR_iff] at h2
      obtain ⟨⟨ya, yb⟩, xa, xb⟩ := h2
      obtain ⟨yn, rfl⟩ : ∃ n : Nat, y = n := ⟨y.toNat, by omega⟩
      obtain ⟨xn, rfl⟩ : ∃ n : Nat, x = n := ⟨x.toNat, by omega⟩
      obtain ⟨row, hrow, hrl, hrb⟩ := hst.sh.row (y := yn) (by omega)
      obtain ⟨⟨o, hco, hro⟩, hfo, hqlo, hqhi, hst1⟩ := hst.set hrow (x := xn) (by omega)
      have hcell := hst.rows yn (by omega)
      have ho1 : o = 1 := by
        have : cellOf l r c yn xn = o := by
          unfold cellOf
          rw [if_pos hin, Int.toNat_natCast, Int.toNat_natCast, List.getD_eq_getElem?_getD, List.getD_eq_getElem?_getD, hrow]
          simp [hro]
        rw [← this]; exact h1
      have hon : ones (l.set yn (row.set xn 0)) = ones l - 1 := by
        rw [ones_set hrow, sumL_set hro]; omega
      obtain ⟨l1, hl1⟩ : ∃ l1, l1 = l.set yn (row.set xn 0) := ⟨_, rfl⟩
      rw [← hl1] at hst1 hon
      have Hon := Lib.hid hon
      have Hst1 := Lib.hid hst1
      have H1 := Lib.hid h1
      have hN1 : ones l1 ≤ N := by omega
      have hyr : yn < r := by omega
      have hxc : xn < c := by omega
      have hz : Only (Iv lo hi) w (w.setCell ⟨Q yn, xn, none⟩ (.int .i64 0)) := (Only.refl _ w).setCell (.inl ⟨hqlo, hqhi⟩) _
      have Hz := Lib.hid hz
      subst hF
      clear hst hst1 hrow hrl hrb hro hl1 hon h1 ho1 hin hz
      go_enter Try.func86, Try.ntmps86
      go_wp2_with (fail)
      refine (CellAt_c _ l r c _ _ w Hst.out.own.grid Hst.out.sh hr1 hr5 hc1 hc5).mono ?_
      rintro e w' ⟨rfl, rfl⟩
      rw [H1.out]
      obtain ⟨w1, hw1⟩ : ∃ w1, w1 = w.setCell ⟨Q yn, xn, none⟩ (.int .i64 0) := ⟨_, rfl⟩
      have d1 : (w.setCell ⟨Q yn, xn, none⟩ (.int .i64 0)).cell? ⟨Bw, 0, none⟩ = some (.func (.func 86) #[] #[.pointer (some ⟨Bl, 0, none⟩), .pointer (some ⟨Bw, 0, none⟩)]) := Hst1.out.bw.cell 0
      go_wp2_with (fail)
      refine (IH.out l1 _ _ _ Hst1.out (by omega) (by omega) (by omega) (by omega) hN1).mono ?_
      rintro e w2 ⟨rfl, l2, st2, on2, le2, -⟩
      have Hst2 := Lib.hid st2
      have Hz2 := Lib.hid (Hz.out.trans' (on2.mono fun b hb _ => .inl hb))
      have hN2 : ones l2 ≤ N := by omega
      have d2 : w2.cell? ⟨Bw, 0, none⟩ = some (.func (.func 86) #[] #[.pointer (some ⟨Bl, 0, none⟩), .pointer (some ⟨Bw, 0, none⟩)]) := st2.bw.cell 0
      clear st2 on2 d1 c0 hcell hco hfo
      go_wp2_with (fail)
      refine (IH.out l2 _ _ _ Hst2.out (by omega) (by omega) (by omega) (by omega) hN2).mono ?_
      rintro e w3 ⟨rfl, l3, st3, on3, le3, -⟩
      have Hst3 := Lib.hid st3
      have Hz3 := Lib.hid (Hz2.out.trans' (on3.mono fun b hb _ => .inl hb))
      have hN3 : ones l3 ≤ N := by omega
      have d3 : w3.cell? ⟨Bw, 0, none⟩ = some (.func (.func 86) #[] #[.pointer (some ⟨Bl, 0, none⟩), .pointer (some ⟨Bw, 0, none⟩)]) := st3.bw.cell 0
      clear st3 on3 d2
      go_wp2_with (fail)
      refine (IH.out l3 _ _ _ Hst3.out (by omega) (by omega) (by omega) (by omega) hN3).mono ?_
      rintro e w4 ⟨rfl, l4, st4, on4, le4, -⟩
      have Hst4 := Lib.hid st4
      have Hz4 := Lib.hid (Hz3.out.trans' (on4.mono fun b hb _ => .inl hb))
      have hN4 : ones l4 ≤ N := by omega
      have d4 : w4.cell? ⟨Bw, 0, none⟩ = some (.func (.func 86) #[] #[.pointer (some ⟨Bl, 0, none⟩), .pointer (some ⟨Bw, 0, none⟩)]) := st4.bw.cell 0
      clear st4 on4 d3
      go_wp2_with (fail)
      refine (IH.out l4 _ _ _ Hst4.out (by omega) (by omega) (by omega) (by omega) hN4).mono ?_
      rintro e w5 ⟨rfl, l5, st5, on5, le5, -⟩
      have Hst5 := Lib.hid st5
      have Hz5 := Lib.hid (Hz4.out.trans' (on5.mono fun b hb _ => .inl hb))
      have hon := Hon.out
      clear st5 on5 d4
      go_wp2
      refine bodyPost_ret (v := .tuple #[]) (by simp [results, Try.results86, go_sem]) rfl ⟨rfl, l5, Hst5.out, Hz5.out, by omega, fun _ => by omega⟩
    · have hne : (cellOf l r c y x == 1) = false := by simpa using h1
      have H1 := Lib.hid h1
      have c0' := c0
      clear h1
      go_enter Try.func86, Try.ntmps86
      go_wp2_with (fail)
      refine (CellAt_c _ l r c _ _ w Hst.out.own.grid Hst.out.sh hr1 hr5 hc1 hc5).mono ?_
      rintro e w' ⟨rfl, rfl⟩
      go_wp2
      refine bodyPost_ret (v := .tuple #[]) (by simp [results, Try.results86, go_sem]) rfl ⟨rfl, l, Hst.out, Only.refl _ _, Int.le_refl _, fun h => absurd h H1.out⟩
set_option maxHeartbeats 1600000 in
theorem CountPieces_c (v : Value) (m : List (List Int)) (r c : Nat) (w : World) (hv : Grid w v m) (hs : Shape r c m) (hr1 : 1 ≤ r) (hr5 : r ≤ 5) (hc1 : 1 ≤ c) (hc5 : c ≤ 5) : Calls Try.prog 47 #[v] w fun e w' => (∃ n, e = .returned (.int .i64 n) ∧ n ≤ ones m) ∧ Below w.heap.size w w' := by
  have Hv := Lib.hid hv
  have Hok := Lib.hid (hs.ok hr1 hr5 hc1 hc5)
  have hml := hs.1
  have Hrl := Lib.hid (show ∀ x ∈ m, x.length ≤ 1048576 from fun x hx => by have := (hs.2 x hx).1; omega)
  have hob := (ones_bd hs r).2
  rw [List.take_of_length_le (by omega)] at hob
  have hrc : r * c ≤ 25 := Nat.mul_le_mul hr5 hc5
  have hob2 : ones m ≤ 25 := by omega
  obtain ⟨a, cap0, rfl, -⟩ := hv
  rw [hml] at Hv ⊢
  clear hob hrc
  go_enter Try.func47, Try.ntmps47
  go_wp2_with (fail)
  refine (ImageOk_i _ _ _ Hv.out).mono ?_
  rintro e w' ⟨rfl, rfl⟩
  rw [Hok.out]
  go_wp2_with (fail)
  refine (copyGrid_c _ _ _ Hv.out (by omega) Hrl.out).mono ?_
  rintro e w1 ⟨v1, rfl, o1, b1⟩
  obtain ⟨G, cap, rfl, hG, hcapG, hGs, -⟩ := o1.inv_ne (by omega)
  rw [hml] at o1 hcapG ⊢
  have hs1 := b1.size
  -- the closure's boxes
  obtain ⟨F, hF⟩ : ∃ F : Value, F = .func (.func 86) #[] #[.pointer (some ⟨w1.heap.size, 0, none⟩), .pointer (some ⟨w1.heap.size + 1, 0, none⟩)] := ⟨_, rfl⟩
  obtain ⟨w2, hw2⟩ : ∃ w2, w2 = (w1.alloc (.cells #[GridSl G r cap] 22)).alloc (.cells #[F] 80) := ⟨_, rfl⟩
  have b2 : Below w1.heap.size w1 w2 := by rw [hw2]; exact ((Below.refl _ _).alloc (Nat.le_refl _) _).alloc (by simp) _
  have hz2 : w2.heap.size = w1.heap.size + 2 := by rw [hw2]; simp
  have hrows : ∀ k : Nat, ∃ p : Nat × Nat, k < r → w1.cell? ⟨G, k, none⟩ = some (.slice (some ⟨p.1, 0, none⟩) c p.2) := by
    intro k
    by_cases hk : k < r
    · obtain ⟨row, hrow, hrl, -⟩ := hs.row (y := k) hk
      obtain ⟨q, cq, hcell, -⟩ := own_grid_cell o1 hrow (by omega)
      rw [hrl] at hcell
      exact ⟨(q, cq), fun _ => hcell⟩
    · exact ⟨(0, 0), fun h => absurd h hk⟩
  obtain ⟨QC, hQC⟩ := Classical.skolem.1 hrows
  have hst : PSt w.heap.size w1.heap.size r c G cap w1.heap.size (w1.heap.size + 1) F 22 80 (fun k => (QC k).1) (fun k => (QC k).2) w2 m := by
    refine ⟨hs, Own.keep (rOwn rIntV) o1 b2 (Nat.le_refl _), ?_, ?_, by omega, Nat.le_refl _, by omega, fun k hk => ?_⟩
    · rw [hw2]; exact (Blk.new w1 _ _).keep (Below.pureAlloc _ _)
    · rw [hw2]
      have := Blk.new (w1.alloc (.cells #[GridSl G r cap] 22)) #[F] 80
      simpa using this
    · rw [b2.cell (p := ⟨G, k, none⟩) hGs]; exact hQC k hk
  have bw2 := b1.trans_pure b2 (Nat.le_refl _)
  have Hst := Lib.hid hst
  have HF := Lib.hid hF
  have hlow : w.heap.size ≤ w1.heap.size := hs1
  clear hst hrows hQC o1 b1 b2 hml
  subst hF
  subst hw2
  go_wp2
  go_loopw [5, 6, 7, 8, 9, 18] (fun nv _ _ _ _ i wr => ∃ (k : Nat) (n : Int) (l : List (List Int)), k ≤ r ∧ i = .int .i64 k ∧ nv = .int .i64 n ∧ 0 ≤ n ∧ n + ones l ≤ ones m ∧ 0 ≤ ones l ∧ Below w.heap.size w wr ∧
    PSt w.heap.size w1.heap.size r c G cap w1.heap.size (w1.heap.size + 1) (.func (.func 86) #[] #[.pointer (some ⟨w1.heap.size, 0, none⟩), .pointer (some ⟨w1.heap.size + 1, 0, none⟩)]) 22 80 (fun k => (QC k).1) (fun k => (QC k).2) wr l) (fun _ _ _ _ _ i _ => r - (intOf i).toNat)
  case atStart =>
    have hob := (ones_bd hs r).1
    rw [List.take_of_length_le (by rw [hs.1]; exact Nat.le_refl _)] at hob
    exact ⟨0, 0, m, Nat.zero_le _, rfl, rfl, by decide, by omega, hob, bw2, Hst.out⟩
  case round =>
    obtain ⟨k, n, l, hk, rfl, rfl, hn0, hn1, hol, hbel, hst⟩ := hrel
    obtain ⟨wo, rfl⟩ : ∃ wo : World, wo = wr := ⟨_, rfl⟩
    have Hso := Lib.hid hst
    by_cases hlt : k < r
    · have hcell := hst.rows k hlt
      have hdk : decide ((k : Int) < (r : Int)) = true := by simp; omega
      clear hst Hst
      go_wp2
      clear hcell
      go_loopw [5, 8, 9, 25] (fun nv _ _ i wr => ∃ (j : Nat) (n : Int) (l : List (List Int)), j ≤ c ∧ i = .int .i64 j ∧ nv = .int .i64 n ∧ 0 ≤ n ∧ n + ones l ≤ ones m ∧ 0 ≤ ones l ∧ Below w.heap.size w wr ∧
        PSt w.heap.size w1.heap.size r c G cap w1.heap.size (w1.heap.size + 1) (.func (.func 86) #[] #[.pointer (some ⟨w1.heap.size, 0, none⟩), .pointer (some ⟨w1.heap.size + 1, 0, none⟩)]) 22 80 (fun k => (QC k).1) (fun k => (QC k).2) wr l) (fun _ _ _ i _ => c - (intOf i).toNat)
      case atStart => exact ⟨0, n, l, Nat.zero_le _, rfl, rfl, hn0, hn1, hol, hbel, Hso.out⟩
      case round =>
        clear Hso hn0 hn1 hol hbel
        obtain ⟨j, n', l', hj, rfl, rfl, hn0, hn1, hol, hbel, hst⟩ := hrel
        obtain ⟨wi, rfl⟩ : ∃ wi : World, wi = wr := ⟨_, rfl⟩
        have Hsi := Lib.hid hst
        by_cases hltj : j < c
        · obtain ⟨row, hrow, hrl, hrb⟩ := hst.sh.row (y := k) hlt
          obtain ⟨⟨o, hco, hro⟩, -⟩ := hst.set hrow (x := j) hltj
          have d1 : wi.cell? ⟨w1.heap.size + 1, 0, none⟩ = some (.func (.func 86) #[] #[.pointer (some ⟨w1.heap.size, 0, none⟩), .pointer (some ⟨w1.heap.size + 1, 0, none⟩)]) := hst.bw.cell 0
          by_cases h1 : o = 1
          · have Hc1 := Lib.hid (show cellOf l' r c k j = 1 from by
              unfold cellOf
              rw [if_pos (by simp [inB, inR]; omega), Int.toNat_natCast, Int.toNat_natCast, List.getD_eq_getElem?_getD, List.getD_eq_getElem?_getD, hrow]
              simp [hro, h1])
            subst h1
            clear hst hrow hro hrl hrb
            go_wp2_with (fail)
            refine (wipe_c _ _ r c G cap _ _ _ _ _ _ _ rfl hr1 hr5 hc1 hc5 (ones l').toNat l' k j wi Hsi.out (by omega) (by omega) (by omega) (by omega) (by omega)).mono ?_
            rintro e w3 ⟨rfl, l3, st3, on3, le3, lt3⟩
            have hlt3 := lt3 Hc1.out
            have hob := (ones_bd st3.sh r).1
            rw [List.take_of_length_le (by rw [st3.sh.1]; exact Nat.le_refl _)] at hob
            have Hst3 := Lib.hid st3
            have hb3 : Below w.heap.size w w3 := hbel.trans (on3.below hbel.size (fun b hb => hb.1))
            clear st3 on3 lt3
            go_wp2
            go_roundw
            case rel => exact ⟨j + 1, n' + 1, l3, by omega, by go_num, by go_num, by omega, by omega, hob, hb3, Hst3.out⟩
            case measure => simp [intOf]; omega
          · have hne : (o == 1) = false := by simpa using h1
            clear hst hrow hro hrl hrb h1
            go_wp2
            go_roundw
            case rel => exact ⟨j + 1, n', l', by omega, by go_num, rfl, hn0, hn1, hol, hbel, Hsi.out⟩
            case measure => simp [intOf]; omega
        · have hdj : decide ((j : Int) < (c : Int)) = false := by simp; omega
          clear hst
          go_wp2
          go_roundw
          case rel => exact ⟨k + 1, n', l', by omega, by go_num, rfl, hn0, hn1, hol, hbel, Hsi.out⟩
          case measure => simp [intOf]; omega
    · have hdk : decide ((k : Int) < (r : Int)) = false := by simp; omega
      clear hst
      go_wp2
      go_ret
      exact ⟨⟨n, rfl, by omega⟩, hbel⟩
end Go.Proofs.Ytodaiaigmjaaoaa

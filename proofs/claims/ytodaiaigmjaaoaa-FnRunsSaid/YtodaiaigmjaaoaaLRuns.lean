/- FnRuns: the walk of the law. -/
import Derived.Test.YtodaiaigmjaaoaaC22
import Derived.Test.YtodaiaigmjaaoaaC13
namespace Go.Proofs.Ytodaiaigmjaaoaa
open Go.RowKit

set_option maxRecDepth 100000 in
set_option maxHeartbeats 1600000 in
theorem FnRuns_w {v : Value} {bs : List Int} {w : World} (hv : Bytes w v bs) :
    Calls Try.prog 4 #[v] w fun e w' => e = .returned (.bool true) ∧ Below w.heap.size w w' := by
  obtain ⟨a, cap, rfl, -, -, -, -⟩ := id hv
  rcases Nat.lt_or_ge 1048576 bs.length with h1 | h1
  · go_enter Try.func4, Try.ntmps4
    go_wp2
    go_ret
    exact ⟨rfl, Below.refl _ _⟩
  have hd0 : decide ((1048576 : Int) < (bs.length : Int)) = false := by simp; omega
  go_enter Try.func4, Try.ntmps4
  go_wp2_with (fail)
  refine (MakeImage_c _ bs 0 5 w hv (by decide) (by decide) (by decide)).mono ?_
  rintro e w1 ⟨v1, m, r, c, rfl, ⟨hr1, hr2⟩, ⟨hc1, hc2⟩, hsh, hown1, hbel1⟩
  obtain ⟨line, hline, hll, hlb⟩ := hsh.row (y := 0) (by omega)
  obtain ⟨g, cap1, rfl, hg, hcap1, hgs, -⟩ := hown1.inv_ne (by rw [hsh.1]; omega)
  have hgrid := hown1.grid
  rw [hsh.1] at hcap1 hown1 hgrid ⊢
  obtain ⟨q, cq, hcell, -, hq, -, hcq, -⟩ := own_grid_cell hown1 hline (by omega)
  have hlineR : Ints w1 (.slice (some ⟨q, 0, none⟩) line.length cq) line := by
    obtain ⟨-, -, -, -, T, u, hu, hr, hT, -⟩ := hown1.focus (rOwn rIntV) hline
    rw [hcell] at hu
    obtain rfl := Option.some.inj hu
    exact hr.ints
  have hok := hsh.ok hr1 hr2 hc1 hc2
  have hrow : rowSumsOf m = m.map sumL := by unfold rowSumsOf; rw [if_pos hok]
  have hs0 : (rowSumsOf m)[0]? = some (sumL line) := by rw [hrow, List.getElem?_map, hline]; rfl
  have hsl : (rowSumsOf m).length = r := by rw [hrow, List.length_map, hsh.1]
  have hrt := runs_total hlb
  have hmem := mem_linesFor (n := c) (rs := runsOf line) hll hlb rfl
  have hrl := runsOf_len line
  have hsm : Small (runsOf line) := by
    refine ⟨by omega, fun x hx => ?_⟩
    have := runs_bd line x hx
    omega
  have Hsm := Lib.hid hsm
  rw [hll] at hcell hlineR hcq hrl
  have hgs1 := hq.2
  have Hgrid := Lib.hid hgrid
  have HlineR := Lib.hid hlineR
  have Hs0 := Lib.hid hs0
  have Hsl := Lib.hid hsl
  have Hrt := Lib.hid hrt
  have Hmem := Lib.hid hmem
  have Hll := Lib.hid hll
  clear hsh hown1 hline hlb hlineR hok hrow hs0 hsl hrt hmem hll hgrid hsm
  go_wp2_with (fail)
  refine (RunsOf_i _ _ _ HlineR.out (by rw [Hll.out]; omega)).mono ?_
  rintro e w2 ⟨v2, rfl, o2, b2⟩
  have s2 : w1.heap.size ≤ w2.heap.size := b2.size
  go_wp2_with (fail)
  refine (RowSums_i _ _ _ (Hgrid.out.keep b2)).mono ?_
  rintro e w3 ⟨v3, rfl, o3, b3⟩
  have s3 : w2.heap.size ≤ w3.heap.size := b3.size
  have bb3 := b2.trans_pure b3 (Nat.le_refl _)
  replace o2 := Own.keep rIntV o2 b3 (Nat.le_refl _)
  have hcell3 := (bb3.cell (p := ⟨g, 0, none⟩) hgs).trans hcell
  go_wp2_with (fail)
  refine (LinesFor_i _ _ c _ o2.ints (by omega) (by omega)).mono ?_
  rintro e w4 ⟨v4, rfl, o4, b4⟩
  have s4 : w3.heap.size ≤ w4.heap.size := b4.size
  have bb4 := bb3.trans_pure b4 (Nat.le_refl _)
  replace o2 := Own.keep rIntV o2 b4 (by omega)
  replace o3 := Own.keep rIntV o3 b4 (Nat.le_refl _)
  have hcell4 := (bb4.cell (p := ⟨g, 0, none⟩) hgs).trans hcell
  obtain ⟨L, hL⟩ : ∃ L, L = linesFor (runsOf line) c := ⟨_, rfl⟩
  rw [← hL] at o4
  have hg4 : g < w4.heap.size := by omega
  have hLl : L.length ≤ 32 := by rw [hL]; exact Nat.le_trans (linesTo_len _ _ _) (pow_le32 hc2)
  have Hrun := Lib.hid (fun x (hx : x ∈ L) => linesFor_runs (rs := runsOf line) (n := c) (by rw [← hL]; exact hx))
  have Hlen := Lib.hid (fun x (hx : x ∈ L) => (linesTo_mem (n := c) (k := 2 ^ c) (rs := runsOf line) (l := x) (by rw [hL] at hx; exact hx)).1)
  have Hup := Lib.hid (fun (k : Nat) (x y : List Int) (hx : L[k]? = some x) (hy : L[k + 1]? = some y) => linesFor_less (rs := runsOf line) (n := c) (by rw [← hL]; exact hx) (by rw [← hL]; exact hy))
  have HmemL : Hid (line ∈ L) := Lib.hid (by rw [hL]; exact Hmem.out)
  have HL4 := Lib.hid o4.grid
  obtain ⟨p4, n4, q4, rfl⟩ := o4.shape
  obtain rfl := Grid.len HL4.out
  have Ho2 := Lib.hid o2
  have Ho3 := Lib.hid o3
  obtain ⟨a2, n2, c2, rfl⟩ := o2.shape
  clear hL o2 o3 o4 Hmem hcell3
  go_wp2
  go_loopw [7, 8, 9, 29] (fun fd _ _ i wr => ∃ k : Nat, k ≤ L.length ∧ i = .int .i64 k ∧ fd = .bool ((L.take k).any fun x => decide (x = line)) ∧ Below w4.heap.size w4 wr) (fun _ _ _ i _ => L.length - (intOf i).toNat)
  case atStart => exact ⟨0, Nat.zero_le _, rfl, rfl, Below.refl _ _⟩
  case round =>
    obtain ⟨k, hk, rfl, rfl, hbel⟩ := hrel
    by_cases hlt : k < L.length
    · obtain ⟨x, hx⟩ : ∃ x, L[k]? = some x := ⟨_, List.getElem?_eq_getElem hlt⟩
      obtain ⟨b, off, cpr, he, hb, -⟩ := HL4.out.inv_ne (by omega)
      obtain ⟨rfl, -⟩ : p4 = some ⟨b, off, none⟩ ∧ q4 = cpr := by simpa using he
      obtain ⟨u, hck, hu⟩ := Sl.at HL4.out hx
      have hu : Ints w4 u x := hu
      rw [← hbel.cell (p := ⟨b, off + k, none⟩) hb] at hck
      have hxm := List.mem_of_getElem? hx
      have hxl := Hlen.out x hxm
      have hxr := Hrun.out x hxm
      obtain ⟨ax, cx, rfl, -⟩ := id hu
      rw [hxl] at hck hu
      have hxl5 : x.length ≤ 1048576 := by omega
      have hux := hu.keep hbel
      have Hst := Lib.hid (any_take_step (fun x => decide (x = line)) hx)
      have hprev : k ≤ 0 ∨ (0 < k ∧ ∃ (y : List Int) (u : Value), wr.cell? ⟨b, off + (k - 1), none⟩ = some u ∧ Ints w4 u y ∧ lessL y x = true) := by
        by_cases hk0 : k = 0
        · exact .inl (by omega)
        · obtain ⟨y, hy⟩ : ∃ y, L[k - 1]? = some y := ⟨_, List.getElem?_eq_getElem (by omega)⟩
          obtain ⟨uy, hcy, huy⟩ := Sl.at HL4.out hy
          rw [← hbel.cell (p := ⟨b, off + (k - 1), none⟩) hb] at hcy
          exact .inr ⟨by omega, y, uy, hcy, huy, Hup.out (k - 1) y x hy (by rw [show k - 1 + 1 = k from by omega]; exact hx)⟩
      have Hxr := Lib.hid hxr
      have hcellr := (hbel.cell (p := ⟨g, 0, none⟩) hg4).trans hcell4
      have hbel14 := bb4.trans_pure hbel (Nat.le_refl _)
      have hlr := HlineR.out.keep hbel14
      have Ho2r := Lib.hid (Ho2.out.ints.keep hbel)
      have Hux := Lib.hid hux
      have Hu := Lib.hid hu
      have Hlr := Lib.hid hlr
      clear hx he hxm hxl hxr hu hux hlr hcell hcell4
      go_wp2_with (fail)
      refine (RunsOf_i _ _ _ Hux.out hxl5).mono ?_
      rintro e w5 ⟨v5, rfl, o5, b5⟩
      have s5 : wr.heap.size ≤ w5.heap.size := b5.size
      have b45 := hbel.trans_pure b5 (Nat.le_refl _)
      have hs4r : w4.heap.size ≤ wr.heap.size := hbel.size
      go_wp2_with (fail)
      refine (same_q _ _ _ _ _ o5.ints (Ho2r.out.keep b5)).mono ?_
      rintro e w6 ⟨he6, n6, rfl⟩
      rw [Hxr.out] at he6
      simp only [decide_true] at he6
      subst he6
      have b46 : Below w4.heap.size w4 (w5.drewN n6) := below_drewN b45 n6
      obtain ⟨w6, hw6⟩ : ∃ w6, w6 = w5.drewN n6 := ⟨_, rfl⟩
      rw [← hw6] at b46 ⊢
      have br6 : Below wr.heap.size wr w6 := by rw [hw6]; exact below_drewN b5 n6
      clear hw6
      have hcell6 := (b46.cell (p := ⟨g, 0, none⟩) hg4).trans ((hbel.cell (p := ⟨g, 0, none⟩) hg4).symm.trans hcellr)
      have b16 := bb4.trans_pure b46 (Nat.le_refl _)
      have hbr : b < wr.heap.size := by omega
      have hprev6 : k ≤ 0 ∨ (0 < k ∧ ∃ (y : List Int) (u : Value), w6.cell? ⟨b, off + (k - 1), none⟩ = some u ∧ Ints w6 u y ∧ lessL y x = true) := by
        rcases hprev with h | ⟨h, y, u, h1, h2, h3⟩
        · exact .inl h
        · exact .inr ⟨h, y, u, (br6.cell (p := ⟨b, off + (k - 1), none⟩) hbr).trans h1, h2.keep b46, h3⟩
      have Hu6 := Lib.hid (Hu.out.keep b46)
      have Hl6 := Lib.hid (HlineR.out.keep b16)
      have Hll2 := Hll
      clear hprev hck hcellr
      rcases hprev6 with h0 | ⟨h0, y, uy, hcy, huy, hly⟩
      · have hk0 : decide ((0 : Int) < (k : Int)) = false := by simp; omega
        cases hf : ((L.take k).any fun x => decide (x = line))
        · have Hf := Lib.hid hf; clear hf
          go_wp2_with (fail)
          refine (same_q _ _ _ _ _ Hu6.out Hl6.out).mono ?_
          rintro e w7 ⟨rfl, n7, rfl⟩
          go_wp2
          go_roundw
          case rel => exact ⟨k + 1, by omega, by go_num, by rw [Hst.out, Hf.out]; simp, below_drewN b46 _⟩
          case measure => simp [intOf]; omega
        · have Hf := Lib.hid hf; clear hf
          go_wp2
          go_roundw
          case rel => exact ⟨k + 1, by omega, by go_num, by rw [Hst.out, Hf.out]; simp, b46⟩
          case measure => simp [intOf]; omega
      · have hk0 : decide ((0 : Int) < (k : Int)) = true := by simp; omega
        have Hly := Lib.hid hly
        have Huy := Lib.hid huy
        clear hly huy
        cases hf : ((L.take k).any fun x => decide (x = line))
        · have Hf := Lib.hid hf; clear hf
          go_wp2_with (fail)
          refine (less_c _ _ _ _ _ Huy.out Hu6.out).mono ?_
          rintro e w7 ⟨rfl, rfl⟩
          rw [Hly.out]
          go_wp2_with (fail)
          refine (same_q _ _ _ _ _ Hu6.out Hl6.out).mono ?_
          rintro e w7 ⟨rfl, n7, rfl⟩
          go_wp2
          go_roundw
          case rel => exact ⟨k + 1, by omega, by go_num, by rw [Hst.out, Hf.out]; simp, below_drewN b46 _⟩
          case measure => simp [intOf]; omega
        · have Hf := Lib.hid hf; clear hf
          go_wp2_with (fail)
          refine (less_c _ _ _ _ _ Huy.out Hu6.out).mono ?_
          rintro e w7 ⟨rfl, rfl⟩
          rw [Hly.out]
          go_wp2
          go_roundw
          case rel => exact ⟨k + 1, by omega, by go_num, by rw [Hst.out, Hf.out]; simp, b46⟩
          case measure => simp [intOf]; omega
    · have hany : ((L.take k).any fun x => decide (x = line)) = true := by
        rw [List.take_of_length_le (by omega), List.any_eq_true]
        exact ⟨line, HmemL.out, by simp⟩
      rw [hany]
      obtain ⟨gs, cs, rfl, hgs3, -, hgss, -⟩ := Ho3.out.inv_ne (by rw [Hsl.out]; omega)
      rw [Hsl.out] at Ho3 ⊢
      have hc0 := (Ho3.out.ints_cell Hs0.out).1
      have hc0r := (hbel.cell (p := ⟨gs, 0, none⟩) hgss).trans hc0
      have hbel14 := bb4.trans_pure hbel (Nat.le_refl _)
      have hb0 := hbel1.trans_pure hbel14 (Nat.le_refl _)
      have Ho2r := Lib.hid (Ho2.out.ints.keep hbel)
      obtain rfl := Ints.len Ho2r.out
      have hd : ∀ m, Calls Try.prog 24 #[.slice a2 (runsOf line).length c2] (wr.drewN m) fun e w'' => e = .returned (.int .i64 (sumL line)) ∧ ∃ q, w'' = (wr.drewN m).drewN q := fun m => by
        have := total_c _ _ (wr.drewN m) Ho2r.out Hsm.out
        rw [Hrt.out] at this
        refine this.mono ?_
        rintro e w'' ⟨h1, rfl⟩
        exact ⟨h1, 0, rfl⟩
      have Hd := Lib.hid hd
      clear hd hany hc0 hcell hcell4
      go_wp2
      go_quiet ((go_at_call 24; exact Calls.quiet_of (Hd.out _)))
      go_wp2
      go_ret
      exact ⟨by simp, below_drewN hb0 _⟩
end Go.Proofs.Ytodaiaigmjaaoaa

/- FnTexts: the walk of the law. -/
import Derived.Test.YtningnjdafhgkaaDoorTextSplit
import Derived.Test.YtningnjdafhgkaaDoorC9
import Derived.Test.YtningnjdafhgkaaDoorC12
import Derived.Test.YtningnjdafhgkaaDoorDraw2
namespace Go.Proofs.YtningnjdafhgkaaDoor
open Go.RowKit

set_option maxRecDepth 100000 in
set_option maxHeartbeats 1600000 in
theorem FnTexts_w {v : Value} {bs : List Int} {w : World} (hv : Bytes w v bs) (ht : TabE w) :
    Calls Tryd.prog 4 #[v] w fun e w' => e = .returned (.bool true) ∧ Below w.heap.size w w' := by
  obtain ⟨a, cap, rfl, -, -, -, -⟩ := id hv
  rcases Nat.lt_or_ge 1048576 bs.length with h1 | h1
  · go_enter Tryd.func4, Tryd.ntmps4
    go_wp2
    go_ret
    exact ⟨rfl, Below.refl _ _⟩
  have hd0 : decide ((1048576 : Int) < (bs.length : Int)) = false := by simp; omega
  go_enter Tryd.func4, Tryd.ntmps4
  go_wp2_with (fail)
  refine (MakeImage_c _ bs 0 5 w hv (by decide) (by decide) (by decide)).mono ?_
  rintro e w1 ⟨v1, m, r, c, rfl, ⟨hr1, hr2⟩, ⟨hc1, hc2⟩, hsh, hown1, hbel1⟩
  have hok := hsh.ok hr1 hr2 hc1 hc2
  have hrow : rowSumsOf m = m.map sumL := by unfold rowSumsOf; rw [if_pos hok]
  have hsl : (rowSumsOf m).length = m.length := by rw [hrow, List.length_map]
  have hml5 : m.length ≤ 5 := by have := hsh.1; omega
  have hgrid := hown1.grid
  obtain ⟨p1, p2, p3, rfl⟩ := hown1.shape
  have hp2 := hgrid.len
  subst hp2
  obtain ⟨f1, f2⟩ := parse_format hok
  have hfs : (formatImage m).size ≤ 1048576 := by
    have h2 := (imageOk_trits hok).bulk
    have h3 := joinB_size ⟨#[47]⟩ (m.map signRow)
    unfold formatImage signsOf
    rw [if_pos hok]; omega
  have Hgrid := Lib.hid hgrid
  have Hok := Lib.hid hok
  have Hf1 := Lib.hid f1
  have Hf2 := Lib.hid f2
  have T1 := Lib.hid (ht.keep hbel1)
  have hne : rowSumsOf m ≠ [] := by
    intro e
    rw [e] at hsl
    have := hsh.1
    simp at hsl; omega
  have Hne := Lib.hid hne
  have Hsl := Lib.hid hsl
  clear hown1 hgrid hok f1 f2 ht hrow hsl hne hsh
  go_wp2_with (fail)
  refine (RowSums_i _ _ _ Hgrid.out).mono ?_
  rintro e w2 ⟨v2, rfl, o2, b2⟩
  have h64 := ints_64 o2.ints
  obtain ⟨g1, g2⟩ := sums_format Hne.out h64
  have hss : (sumsText (rowSumsOf m)).size ≤ 1048576 := by have := sumsText_size h64; rw [Hsl.out] at this; omega
  have hrl : (rowSumsOf m).length ≤ 2097152 := by rw [Hsl.out]; omega
  have Hg1 := Lib.hid g1
  have Hg2 := Lib.hid g2
  have Ho2 := Lib.hid o2.ints
  obtain ⟨q1, q2, q3, rfl⟩ := o2.shape
  have hq2 := o2.ints.len
  rw [Hsl.out] at hq2
  subst hq2
  clear o2 g1 g2 h64
  go_wp2_with (fail)
  refine (FormatImage_i _ _ _ (Hgrid.out.keep b2)).mono ?_
  rintro e w3 ⟨rfl, b3⟩
  have bb3 := b2.trans_pure b3 (Nat.le_refl _)
  go_wp2_with (fail)
  refine (ParseImage_i _ _ hfs).mono ?_
  rintro e w4 ⟨v4, rfl, o4, b4⟩
  rw [Hf1.out]
  rw [Hf2.out] at o4
  have bb4 := bb3.trans_pure b4 (Nat.le_refl _)
  have b24 := b3.trans_pure b4 (Nat.le_refl _)
  have Ho4 := Lib.hid o4.grid
  clear o4
  go_wp2_with (fail)
  refine (FormatSums_i _ _ _ (Ho2.out.keep b24) hrl (T1.out.keep bb4).1).mono ?_
  rintro e w5 ⟨rfl, b5⟩
  have bb5 := bb4.trans_pure b5 (Nat.le_refl _)
  go_wp2_with (fail)
  refine (ParseSums_i _ _ hss (T1.out.keep bb5)).mono ?_
  rintro e w6 ⟨v6, rfl, o6, b6⟩
  rw [Hg1.out]
  rw [Hg2.out] at o6
  have bb6 := bb5.trans_pure b6 (Nat.le_refl _)
  have b46 := b5.trans_pure b6 (Nat.le_refl _)
  have b26 := b24.trans_pure b46 (Nat.le_refl _)
  have Ho6 := Lib.hid o6.ints
  clear o6
  go_wp2_with (fail)
  refine (ImageOk_i _ _ _ (Hgrid.out.keep bb6)).mono ?_
  rintro e w' ⟨rfl, rfl⟩
  rw [Hok.out]
  go_wp2_with (fail)
  refine (alike_c _ _ _ _ _ (Ho4.out.keep b46) (Hgrid.out.keep bb6)).mono ?_
  rintro e w7 ⟨rfl, b7⟩
  rw [decide_eq_true (rfl : m = m)]
  have bb7 := bb6.trans_pure b7 (Nat.le_refl _)
  go_wp2_with (fail)
  refine (same_q _ _ _ _ _ (Ho6.out.keep b7) (Ho2.out.keep (b26.trans_pure b7 (Nat.le_refl _)))).mono ?_
  rintro e w8 ⟨rfl, n8, rfl⟩
  have b8 := below_drewN (Below.refl w7.heap.size w7) n8
  rw [decide_eq_true (rfl : rowSumsOf m = rowSumsOf m)]
  have bbf := hbel1.trans_pure (bb7.trans_pure b8 (Nat.le_refl _)) (Nat.le_refl _)
  go_wp2
  go_ret
  exact ⟨rfl, bbf⟩
end Go.Proofs.YtningnjdafhgkaaDoor

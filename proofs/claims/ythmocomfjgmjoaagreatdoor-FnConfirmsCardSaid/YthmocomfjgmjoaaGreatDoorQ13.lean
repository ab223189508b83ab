/- Contracts and plain laws that the claims on sessions use. No condition of their own. -/
import Derived.Test.YthmocomfjgmjoaaGreatDoorQ12
import Derived.Test.YthmocomfjgmjoaaGreatDoorQ06
import Derived.Test.YthmocomfjgmjoaaGreatDoorQ02
set_option maxHeartbeats 4000000
set_option maxRecDepth 100000
namespace Go.Proofs.YthmocomfjgmjoaaGreatDoor
def rowMix (R m : List (List Int)) (k : Nat) : List (List Int) := passTo R m k ++ m.drop k
theorem rowMix_zero (R m : List (List Int)) : rowMix R m 0 = m := by simp [rowMix, passTo]
theorem rowMix_at {R m : List (List Int)} {k : Nat} (h : k < m.length) : (rowMix R m k)[k]? = some (m.getD k []) := by
  unfold rowMix
  rw [List.getElem?_append_right (by rw [passTo_len]; exact Nat.le_refl _), passTo_len, Nat.sub_self, List.getElem?_drop, Nat.add_zero]
  exact gD_at [] h
theorem rowMix_set {R m : List (List Int)} {k : Nat} (h : k < m.length) : (rowMix R m k).set k ((sl R m k).getD []) = rowMix R m (k + 1) := by
  unfold rowMix
  rw [List.set_append_right _ _ (by rw [passTo_len]; exact Nat.le_refl _), passTo_len, Nat.sub_self, List.drop_eq_getElem_cons h, List.set_cons_zero, passTo_succ]
  simp
theorem rowMix_all {R m : List (List Int)} {k : Nat} (h : k = m.length) : rowMix R m k = passV R m := by
  subst h; unfold rowMix passV; simp
def colv (C A : List (List Int)) (j i : Nat) : Int := ((sl C (tr A) j).getD []).getD i 0
def ColMix (C A : List (List Int)) (r c x k : Nat) (g : List (List Int)) : Prop := TRect r c g ∧ ∀ i j, i < r → j < c → at2 g i j = if j < x ∨ (j = x ∧ i < k) then colv C A j i else at2 A i j
theorem colMix_zero {C A : List (List Int)} {r c : Nat} (h : TRect r c A) : ColMix C A r c 0 0 A := ⟨h, fun i j _ _ => by rw [if_neg (by omega)]⟩
theorem ColMix.step {C A g : List (List Int)} {r c x k : Nat} (h : ColMix C A r c x k g) (hk : k < r) (hx : x < c) {v : Int} (hv : v = colv C A x k) (h0 : -1 ≤ v) (h1 : v ≤ 1) : ColMix C A r c x (k + 1) (g.set k ((g.getD k []).set x v)) := by
  refine ⟨h.1.setC hk h0 h1, fun i j hi hj => ?_⟩
  have := at2_setT h.1 hk hx v i j
  unfold setC at this
  rw [this, h.2 i j hi hj]
  by_cases he : i = k ∧ j = x
  · rw [if_pos he, if_pos (by omega), hv, he.1, he.2]
  · rw [if_neg he]
    by_cases h1 : j < x ∨ (j = x ∧ i < k)
    · rw [if_pos h1, if_pos (by omega)]
    · rw [if_neg h1, if_neg (by omega)]
theorem ColMix.next {C A g : List (List Int)} {r c x : Nat} (h : ColMix C A r c x r g) : ColMix C A r c (x + 1) 0 g := by
  refine ⟨h.1, fun i j hi hj => ?_⟩
  rw [h.2 i j hi hj]
  by_cases h1 : j < x ∨ (j = x ∧ i < r)
  · rw [if_pos h1, if_pos (by omega)]
  · rw [if_neg h1, if_neg (by omega)]
theorem ColMix.done {C A g : List (List Int)} {r c : Nat} (h1 : 1 ≤ r) (h2 : 1 ≤ c) (hA : TRect r c A) (h : ColMix C A r c c 0 g) (hok : passOk C (tr A) = true) : g = tr (passV C (tr A)) := by
  have hT := hA.tr h1
  have hB := (pass_ref hT hok).1
  refine h.1.ext (hB.tr h2) fun i j hi hj => ?_
  rw [h.2 i j hi hj, if_pos (.inl hj), tr_at2 hB h2 hj hi]
  unfold at2 colv passV
  rw [gD_some (passTo_at (by rw [hT.1]; exact hj))]
theorem col_at {A : List (List Int)} {r c x i : Nat} (h : TRect r c A) (h1 : 1 ≤ r) (hx : x < c) (hi : i < r) : ((tr A).getD x [])[i]? = some (at2 A i x) := by
  obtain ⟨-, hl, -⟩ := (h.tr h1).row hx
  rw [← tr_at2 h h1 hi hx]
  unfold at2
  exact gD_at 0 (by omega)
theorem colv_bd {C A : List (List Int)} {x : Nat} {o : List Int} (h : sl C (tr A) x = some o) (k : Nat) : -1 ≤ colv C A x k ∧ colv C A x k ≤ 1 := by
  unfold colv
  rw [h, Option.getD_some]
  by_cases hk : k < o.length
  · exact (solve_ref h).2.1 _ (List.mem_of_getElem? (gD_at 0 hk))
  · rw [gD_none (by omega)]; decide
def Gap (lo p q hi : Nat) : Bk := fun b => (lo ≤ b ∧ b < hi) ∧ ¬ (p ≤ b ∧ b < q)
theorem gap_mono {lo p q hi hi' : Nat} (h : hi ≤ hi') : ∀ b, Gap lo p q hi b → Gap lo p q hi' b := fun _ hb => ⟨⟨hb.1.1, Nat.lt_of_lt_of_le hb.1.2 h⟩, hb.2⟩
theorem passOk_no {R m : List (List Int)} {k : Nat} (hk : k < m.length) (h : (sl R m k).isSome = false) : passOk R m = false := by
  rw [← Bool.not_eq_true]
  intro hp
  unfold passOk at hp
  have := List.all_eq_true.1 hp k (List.mem_range.2 hk)
  rw [h] at this
  cases this
theorem passOk_yes {R m : List (List Int)} (h : ∀ y, y < m.length → (sl R m y).isSome = true) : passOk R m = true := by
  unfold passOk
  rw [List.all_eq_true]
  exact fun y hy => h y (List.mem_range.1 hy)
end Go.Proofs.YthmocomfjgmjoaaGreatDoor
namespace Go.Proofs.YthmocomfjgmjoaaGreatDoor
open Go.RowKit
theorem optNoneI {α : Type} {D : Option α} (h : D = none) : D.isSome = false := by rw [h]; rfl
theorem Deduce_i (a b : Value) (R C : List (List Int)) (w : World) (h1 : Grid w a R) (h2 : Grid w b C) (hlx : ∀ r ∈ R, r.length ≤ 1048576) (hly : ∀ r ∈ C, r.length ≤ 1048576) :
    Calls Tryz.prog 180 #[.agg #[a, b]] w fun e w' => ∃ v', e = .returned (.tuple #[v', .bool (deduce R C).isSome]) ∧ Own 32 (Own 3 IntV) (Iv w.heap.size w'.heap.size) w' v' ((deduce R C).getD []) ∧ Below w.heap.size w w' := by
  obtain ⟨aa, ca, rfl, -⟩ := id h1
  obtain ⟨ab, cb, rfl, -⟩ := id h2
  obtain ⟨D, hD⟩ : ∃ D, D = deduce R C := ⟨_, rfl⟩
  have Hlx := Lib.hid hlx
  have Hly := Lib.hid hly
  clear hlx hly
  rw [← hD]
  obtain ⟨W1, hW1⟩ : ∃ W1, W1 = w.alloc (.cells #[.slice aa R.length ca, .slice ab C.length cb] 85) := ⟨_, rfl⟩
  have bW1 : Below w.heap.size w W1 := by rw [hW1]; exact Below.pureAlloc _ _
  have zW1 : W1.heap.size = w.heap.size + 1 := by rw [hW1]; simp
  have kB : Blk W1 w.heap.size #[.slice aa R.length ca, .slice ab C.length cb] 85 := by rw [hW1]; exact Blk.new _ _ _
  have G1 := Lib.hid (h1.keep bW1)
  have G2 := Lib.hid (h2.keep bW1)
  have HbW1 := Lib.hid bW1
  have HkB := Lib.hid kB
  have HzW1 := Lib.hid zW1
  clear h1 h2 bW1 zW1 kB
  cases hok : puzzleOk R C
  · have Hn := Lib.hid (optNoneI (hD.trans (deduce_no hok)))
    have Hn2 := Lib.hid (show D.getD [] = [] from by rw [hD, deduce_no hok]; rfl)
    have Hok := Lib.hid hok
    clear hok hD
    go_enter Tryz.func180, Tryz.ntmps180
    subst hW1
    go_wp2_with (fail)
    refine (PuzzleOk_i _ _ _ _ _ G1.out G2.out Hlx.out Hly.out).mono ?_
    rintro e w2 ⟨rfl, hw2⟩
    have b2 := HbW1.out.trans_pure (show Below _ _ w2 from by rw [hw2]; exact Below.pureAlloc _ _) (Nat.le_refl _)
    rw [Hok.out]
    clear hw2
    go_wp2
    rw [Hn.out, Hn2.out]
    go_ret2
    exact ⟨_, rfl, Own.nil _ _ _ _, b2⟩
  have HD := Lib.hid (hD.trans (deduce_yes hok))
  obtain ⟨hr1, hr5, hc1, hc5⟩ := puzzleOk_bd hok
  have Hok := Lib.hid hok
  clear hok hD
  go_enter Tryz.func180, Tryz.ntmps180
  subst hW1
  go_wp2_with (fail)
  refine (PuzzleOk_i _ _ _ _ _ G1.out G2.out Hlx.out Hly.out).mono ?_
  rintro e w2 ⟨rfl, hw2⟩
  have b2 : Below (w.alloc (.cells #[.slice aa R.length ca, .slice ab C.length cb] 85)).heap.size (w.alloc (.cells #[.slice aa R.length ca, .slice ab C.length cb] 85)) w2 := by rw [hw2]; exact Below.pureAlloc _ _
  rw [Hok.out]
  clear hw2
  have HbW2 := Lib.hid (HbW1.out.trans_pure b2 (Nat.le_refl _))
  have HkB2 := Lib.hid (HkB.out.keep b2)
  have HG1 := Lib.hid (G1.out.keep b2)
  have HG2 := Lib.hid (G2.out.keep b2)
  have hlow : w.heap.size < w2.heap.size := by have := b2.size; rw [HzW1.out] at this; omega
  clear G1 G2 HbW1 HkB HzW1 b2
  have k0 : w2.cell? ⟨w.heap.size, 0, none⟩ = some (.slice aa R.length ca) := HkB2.out.cell 0
  have k1 : w2.cell? ⟨w.heap.size, 1, none⟩ = some (.slice ab C.length cb) := HkB2.out.cell 1
  go_wp2_with (fail)
  refine (newGrid_c R.length C.length _ (by omega) (by omega)).mono ?_
  rintro e w3 ⟨v3, rfl, o3, b3⟩
  obtain ⟨G, cap, rfl, hG, hcapG, hGs, -⟩ := o3.inv_ne (by simp [zeros]; omega)
  have hzl : (zeros R.length C.length).length = R.length := by simp [zeros]
  rw [hzl] at o3 hcapG ⊢
  have Ho3 := Lib.hid o3
  have Hb3 := Lib.hid b3
  have s3 : w2.heap.size ≤ w3.heap.size := b3.size
  clear o3 b3 hzl k0 k1
  go_wp2
  go_loopw [32] (fun i wr => ∃ (k : Nat) (g : List (List Int)), k ≤ R.length ∧ i = .int .i64 k ∧ Hid (Filled R.length C.length k 0 g) ∧ Own 32 (Own 3 IntV) (Iv w2.heap.size w3.heap.size) wr (.slice (some ⟨G, 0, none⟩) R.length cap) g ∧ Below w2.heap.size w2 wr ∧ w3.heap.size ≤ wr.heap.size) (fun i _ => R.length - (intOf i).toNat)
  case atStart => exact ⟨0, _, Nat.zero_le _, rfl, filled_zeros _ _, Ho3.out, Hb3.out, Nat.le_refl _⟩
  case round =>
    clear Ho3 Hb3
    obtain ⟨k, g, hk, rfl, Hg, hown, hbel, hsz⟩ := hrel
    obtain ⟨wo, rfl⟩ : ∃ wo : World, wo = wr := ⟨_, rfl⟩
    by_cases hlt : k < R.length
    · obtain ⟨hrow, hrl, -⟩ := Hg.out.1.row hlt
      obtain ⟨q, cq, hcell, -, hSq, hqG, hcq, hx, -, hset⟩ := own_grid_cell hown hrow (by omega)
      rw [hrl] at hcell
      have Hown := Lib.hid hown
      have hdk : decide ((k : Int) < (R.length : Int)) = true := by simp; omega
      have Hbel := Lib.hid hbel
      have Hcell := Lib.hid hcell
      clear hown hrow hx hset hbel
      go_wp2
      clear hcell
      go_loopw [38] (fun i wr => ∃ (j : Nat) (g : List (List Int)), j ≤ C.length ∧ i = .int .i64 j ∧ Hid (Filled R.length C.length k j g) ∧ Own 32 (Own 3 IntV) (Iv w2.heap.size w3.heap.size) wr (.slice (some ⟨G, 0, none⟩) R.length cap) g ∧ Below w2.heap.size w2 wr ∧ w3.heap.size ≤ wr.heap.size ∧ wr.cell? ⟨G, k, none⟩ = some (.slice (some ⟨q, 0, none⟩) C.length cq)) (fun i _ => C.length - (intOf i).toNat)
      case atStart => exact ⟨0, g, Nat.zero_le _, rfl, Hg, Hown.out, Hbel.out, hsz, Hcell.out⟩
      case round =>
        clear Hown Hbel hsz hrl Hg
        obtain ⟨j, g', hj, rfl, Hg, hown, hbel, hsz, hcq0⟩ := hrel
        obtain ⟨wi, rfl⟩ : ∃ wi : World, wi = wr := ⟨_, rfl⟩
        by_cases hltj : j < C.length
        · obtain ⟨hrow, hrl, -⟩ := Hg.out.1.row hlt
          obtain ⟨q', cq', hcell, -, hSq, hqG, hcq, hx, -, hset⟩ := own_grid_cell hown hrow (by omega)
          obtain rfl : q' = q := by rw [hrl, hcq0] at hcell; injection hcell with e1; injection e1 with e2; injection e2 with e3; injection e3 with e4; exact e4.symm
          obtain ⟨⟨o, hco⟩, hfo⟩ := hx j (by omega)
          have Hnew := Lib.hid (hset wi (fun _ _ => rfl) j (-1) (by omega) (I64.small (by decide) (by decide)))
          have Hg2 := Lib.hid (Hg.out.step hlt hltj)
          have Hb2 := Lib.hid (hbel.setCell (p := ⟨q', j, none⟩) hSq.1 (.int .i64 (-1)))
          have hcq1 : (wi.setCell ⟨q', j, none⟩ (.int .i64 (-1))).cell? ⟨G, k, none⟩ = some (.slice (some ⟨q', 0, none⟩) C.length cq) := by
            rw [World.cell?_of_block (w := wi) (a := ⟨G, k, none⟩) (Below.heap_setCell wi ⟨q', j, none⟩ (.int .i64 (-1)) G (by simpa using fun e => hqG e.symm))]
            exact hcq0
          have Hcq1 := Lib.hid hcq1
          have hdj : decide ((j : Int) < (C.length : Int)) = true := by simp; omega
          clear hown hrow hrl hx hset hbel hcq hcell hcq0 hcq1
          go_wp2
          go_roundw
          case rel => exact ⟨j + 1, _, by omega, by go_num, Hg2, Hnew.out, Hb2.out, by rw [size_setCell]; exact hsz, Hcq1.out⟩
          case measure => simp [intOf]; omega
        · have hdj : decide ((j : Int) < (C.length : Int)) = false := by simp; omega
          have hje : j = C.length := by omega
          have Hg2 := Lib.hid (show Filled R.length C.length (k + 1) 0 g' from by have := Hg.out; rw [hje] at this; exact this.next)
          have Hown := Lib.hid hown
          clear hown hje
          go_wp2
          go_roundw
          case rel => exact ⟨k + 1, g', by omega, by go_num, Hg2, Hown.out, hbel, hsz⟩
          case measure => simp [intOf]; omega
    · have hke : k = R.length := by omega
      have hg : g = openGrid R.length C.length := by have := Hg.out; rw [hke] at this; exact this.done
      have Hown := Lib.hid (show Own 32 (Own 3 IntV) (Iv w2.heap.size wo.heap.size) wo (.slice (some ⟨G, 0, none⟩) R.length cap) (openGrid R.length C.length) from by
        rw [← hg]; exact (rOwn (rOwn rIntV)).mono (fun b hb => ⟨hb.1, Nat.lt_of_lt_of_le hb.2 hsz⟩) hown)
      have Hbel := Lib.hid hbel
      have hdk : decide ((k : Int) < (R.length : Int)) = false := by simp; omega
      clear hown hbel hg Hg hke
      go_wp2
      go_loopg [8] (R.length * C.length) (fun gk _ wr => ∃ m : List (List Int), Hid (TRect R.length C.length m) ∧ Hid (unk m ≤ gk) ∧ Hid (D = dloop R C gk m) ∧ Own 32 (Own 3 IntV) (Iv w2.heap.size wr.heap.size) wr (.slice (some ⟨G, 0, none⟩) R.length cap) m ∧ Below w2.heap.size w2 wr)
      case atStart => exact ⟨_, openGrid_rect _ _, Nat.le_of_eq (unk_open _ _), HD.out, Hown.out, Hbel.out⟩
      case round =>
        clear Hown Hbel HD
        obtain ⟨m, Hm, Hu, HD, hown, hbel⟩ := hrel
        obtain ⟨wi, rfl⟩ : ∃ wi : World, wi = wr := ⟨_, rfl⟩
        have hml : m.length ≤ R.length := Nat.le_of_eq Hm.out.1
        have hml2 : R.length ≤ m.length := Nat.le_of_eq Hm.out.1.symm
        have hml5 : m.length ≤ 1048576 := by omega
        have Hmr := Lib.hid (show ∀ x ∈ m, x.length ≤ 1048576 from fun x hx => by have := (Hm.out.2 x hx).1; omega)
        have Hown := Lib.hid hown
        have Hbel := Lib.hid hbel
        have hsi : w2.heap.size ≤ wi.heap.size := hbel.size
        clear hown hbel
        go_wp2_with (fail)
        refine (copyGrid_c _ m _ Hown.out.grid hml5 Hmr.out).mono ?_
        rintro e wb ⟨v8, rfl, o8, b8⟩
        obtain ⟨p1, p2, p3, rfl⟩ := o8.shape
        have hs8 : wi.heap.size ≤ wb.heap.size := b8.size
        have HkB := Lib.hid ((HkB2.out.keep Hbel.out).keep b8)
        have Hbel8 := Lib.hid (Hbel.out.trans_pure b8 (Nat.le_refl _))
        have Ho8 := Lib.hid o8
        have Hown8 := Lib.hid (show Own 32 (Own 3 IntV) (Gap w2.heap.size wi.heap.size wb.heap.size wb.heap.size) wb (.slice (some ⟨G, 0, none⟩) R.length cap) (rowMix R m 0) from by
          rw [rowMix_zero]
          exact (rOwn (rOwn rIntV)).mono (fun b hb => ⟨⟨hb.1, Nat.lt_of_lt_of_le hb.2 hs8⟩, fun h => by have := hb.2; omega⟩) (Own.keep (rOwn rIntV) Hown.out b8 (Nat.le_refl _)))
        have k0 : wb.cell? ⟨w.heap.size, 0, none⟩ = some (.slice aa R.length ca) := HkB.out.cell 0
        clear o8 b8
        go_wp2
        clear k0
        go_loopw [51] (fun i wr => ∃ k : Nat, k ≤ R.length ∧ i = .int .i64 k ∧ Hid (∀ y, y < k → (sl R m y).isSome = true) ∧ Own 32 (Own 3 IntV) (Gap w2.heap.size wi.heap.size wb.heap.size wr.heap.size) wr (.slice (some ⟨G, 0, none⟩) R.length cap) (rowMix R m k) ∧ Own 32 (Own 3 IntV) (Iv wi.heap.size wb.heap.size) wr (.slice p1 p2 p3) m ∧ Below w2.heap.size w2 wr ∧ wb.heap.size ≤ wr.heap.size) (fun i _ => R.length - (intOf i).toNat)
        case atStart => exact ⟨0, Nat.zero_le _, rfl, fun y hy => by omega, Hown8.out, Ho8.out, Hbel8.out, Nat.le_refl _⟩
        case round =>
          clear Hown8 Ho8 Hbel8
          obtain ⟨k, hk, rfl, Hall, hown, hcop, hbel, hsz⟩ := hrel
          obtain ⟨wo, rfl⟩ : ∃ wo : World, wo = wr := ⟨_, rfl⟩
          by_cases hlt : k < R.length
          · obtain ⟨b, off, cpr, he, hb, -⟩ := HG1.out.inv_ne (by omega)
            obtain ⟨rfl, -⟩ : aa = some ⟨b, off, none⟩ ∧ ca = cpr := by simpa using he
            obtain ⟨u, hck, hu⟩ := Sl.at HG1.out (gD_at [] hlt)
            have hu : Ints w2 u (R.getD k []) := hu
            have Hu1 := Lib.hid (hu.keep hbel)
            rw [← hbel.cell (p := ⟨b, off + k, none⟩) hb] at hck
            obtain ⟨q1, q2, rfl, -⟩ := hu
            have hat : (rowMix R m k)[k]? = some (m.getD k []) := rowMix_at (by omega)
            obtain ⟨hGg, -, -, -, T, u2, hck2, hr2, -⟩ := hown.focus (rOwn rIntV) hat
            have Hu2 := Lib.hid hr2.ints
            obtain ⟨r1, r2, r3, rfl⟩ := hr2.shape
            obtain ⟨x1, hx1⟩ : ∃ x, x = R.getD k [] := ⟨_, rfl⟩
            obtain ⟨x2, hx2⟩ : ∃ x, x = m.getD k [] := ⟨_, rfl⟩
            have Hsl := Lib.hid (show sl R m k = solveLine x1 x2 from by rw [hx1, hx2]; rfl)
            rw [← hx1] at hck Hu1
            rw [← hx2] at Hu2
            have Hown := Lib.hid hown
            have Hcop := Lib.hid hcop
            have Hbel := Lib.hid hbel
            have hdk : decide ((k : Int) < (R.length : Int)) = true := by simp; omega
            have HGg := Lib.hid hGg
            clear hown hcop hbel he hat hr2 hx1 hx2 hGg
            go_wp2_with (fail)
            refine (SolveLine_i2 _ _ _ _ _ Hu1.out Hu2.out).mono ?_
            rintro e w1 ⟨v1, rfl, o1, b1⟩
            obtain ⟨s1, s2, s3, rfl⟩ := o1.shape
            have hs1 : wo.heap.size ≤ w1.heap.size := b1.size
            have Ho1 := Lib.hid o1
            have Hbel1 := Lib.hid (Hbel.out.trans_pure b1 (Nat.le_refl _))
            have Hb1 := Lib.hid b1
            clear o1 b1 hck hck2
            cases hsol : (solveLine x1 x2).isSome
            · have Hn := Lib.hid (show D = none from by rw [HD.out]; exact dloop_none (dstep_no1 (passOk_no (k := k) (by omega) (by rw [Hsl.out]; exact hsol))))
              have bf := HbW2.out.trans_pure Hbel1.out (Nat.le_refl _)
              clear hsol
              go_wp2
              rw [Hn.out]
              go_ret2
              exact ⟨_, rfl, Own.nil _ _ _ _, bf⟩
            · have hown1 : Own 32 (Own 3 IntV) (Gap w2.heap.size wi.heap.size wb.heap.size wo.heap.size) w1 (.slice (some ⟨G, 0, none⟩) R.length cap) (rowMix R m k) := (rOwn (rOwn rIntV)).same (sameOn_below Hb1.out fun b hb => hb.1.2) Hown.out
              obtain ⟨-, -, -, hf, T1, u3, hcell, -, -, hupd, -⟩ := hown1.focus (rOwn rIntV) (rowMix_at (by omega))
              have hnew := hupd (.slice s1 s2 s3) ((solveLine x1 x2).getD []) (Iv wo.heap.size w1.heap.size) (Gap w2.heap.size wi.heap.size wb.heap.size w1.heap.size) Ho1.out (fun b hb => ⟨⟨⟨by have h1 := Hbel.out.size; have := hb.1; omega, hb.2⟩, fun h => by have := hb.1; omega⟩, fun h => by have h1 := HGg.out.1.2; have := hb.1; omega⟩)
                (fun b h1 h2 => by have := h1.1; have := h2.1.2; omega) (gap_mono hs1)
              rw [← Hsl.out, rowMix_set (by omega)] at hnew
              have Hnew := Lib.hid hnew
              have hcop1 : Own 32 (Own 3 IntV) (Iv wi.heap.size wb.heap.size) w1 (.slice p1 p2 p3) m := Own.keep (rOwn rIntV) Hcop.out Hb1.out hsz
              have Hcop2 := Lib.hid (show Own 32 (Own 3 IntV) (Iv wi.heap.size wb.heap.size) (w1.setCell ⟨G, k, none⟩ (.slice s1 s2 s3)) (.slice p1 p2 p3) m from (rOwn (rOwn rIntV)).same (fun b hb => Below.heap_setCell w1 _ _ b (by show b ≠ G; exact fun h => HGg.out.2 (h ▸ hb))) hcop1)
              have Hbel2 := Lib.hid (Hbel1.out.setCell (p := ⟨G, k, none⟩) HGg.out.1.1 (.slice s1 s2 s3))
              have Hsol := Lib.hid hsol
              obtain ⟨y1, y2, y3, rfl⟩ : ∃ a b c, u3 = .slice a b c := by
                have h1 := hown1.focus (rOwn rIntV) (rowMix_at (R := R) (m := m) (k := k) (by omega))
                obtain ⟨-, -, -, -, T2, u4, hc4, hr4, -⟩ := h1
                rw [hcell] at hc4
                obtain rfl := Option.some.inj hc4
                exact hr4.shape
              clear hown1 hupd hnew hcop1 hsol
              go_wp2
              go_roundw
              case rel =>
                refine ⟨k + 1, by omega, by go_num, fun y hy => ?_, by rw [size_setCell]; exact Hnew.out, Hcop2.out, Hbel2.out, by rw [size_setCell]; omega⟩
                by_cases hyk : y < k
                · exact Hall.out y hyk
                · obtain rfl : y = k := by omega
                  rw [Hsl.out]; exact Hsol.out
              case measure => simp [intOf]; omega
          · have hke : k = m.length := by omega
            obtain ⟨A, hA⟩ : ∃ A, A = passV R m := ⟨_, rfl⟩
            have hp : passOk R m = true := passOk_yes fun y hy => Hall.out y (by omega)
            have hAr := (pass_ref Hm.out hp).1
            rw [rowMix_all hke, ← hA] at hown
            rw [← hA] at hAr
            have HAr := Lib.hid hAr
            have HA := Lib.hid hA
            have Hp := Lib.hid hp
            have Hown := Lib.hid hown
            have Hcop := Lib.hid hcop
            have Hbel := Lib.hid hbel
            have hdk : decide ((k : Int) < (R.length : Int)) = false := by simp; omega
            have k1 : wo.cell? ⟨w.heap.size, 1, none⟩ = some (.slice ab C.length cb) := (HkB2.out.keep hbel).cell 1
            clear hown hcop hbel hA hp hAr hke Hall HkB
            go_wp2
            clear k1
            go_loopw [75] (fun i wr => ∃ (x : Nat) (g : List (List Int)), x ≤ C.length ∧ i = .int .i64 x ∧ Hid (ColMix C A R.length C.length x 0 g) ∧ Hid (∀ j, j < x → (sl C (tr A) j).isSome = true) ∧ Own 32 (Own 3 IntV) (Gap w2.heap.size wi.heap.size wb.heap.size wr.heap.size) wr (.slice (some ⟨G, 0, none⟩) R.length cap) g ∧ Own 32 (Own 3 IntV) (Iv wi.heap.size wb.heap.size) wr (.slice p1 p2 p3) m ∧ Below w2.heap.size w2 wr ∧ wb.heap.size ≤ wr.heap.size) (fun i _ => C.length - (intOf i).toNat)
            case atStart => exact ⟨0, A, Nat.zero_le _, rfl, colMix_zero HAr.out, fun j hj => by omega, Hown.out, Hcop.out, Hbel.out, hsz⟩
            case round =>
              clear Hown Hcop Hbel hsz
              obtain ⟨x, g, hx, rfl, Hg, Hall, hown, hcop, hbel, hsz⟩ := hrel
              obtain ⟨wx, rfl⟩ : ∃ wx : World, wx = wr := ⟨_, rfl⟩
              have Hown := Lib.hid hown
              have Hcop := Lib.hid hcop
              have Hbel := Lib.hid hbel
              have hHT := Lib.hid (HAr.out.tr (by omega))
              by_cases hltx : x < C.length
              · obtain ⟨bc, offc, cpr, he, hbc, -⟩ := HG2.out.inv_ne (by omega)
                obtain ⟨rfl, -⟩ : ab = some ⟨bc, offc, none⟩ ∧ cb = cpr := by simpa using he
                obtain ⟨uc, hcc, huc⟩ := Sl.at HG2.out (gD_at [] hltx)
                have huc : Ints w2 uc (C.getD x []) := huc
                have Huc := Lib.hid (huc.keep hbel)
                rw [← hbel.cell (p := ⟨bc, offc + x, none⟩) hbc] at hcc
                obtain ⟨q1, q2, rfl, -⟩ := huc
                obtain ⟨x1, hx1⟩ : ∃ z, z = C.getD x [] := ⟨_, rfl⟩
                rw [← hx1] at hcc Huc
                obtain ⟨x2, hx2⟩ : ∃ z, z = (tr A).getD x [] := ⟨_, rfl⟩
                have Hsl := Lib.hid (show sl C (tr A) x = solveLine x1 x2 from by rw [hx1, hx2]; rfl)
                have hx2l : x2.length = R.length := by rw [hx2]; exact (hHT.out.row hltx).2.1
                have Hx2l := Lib.hid hx2l
                have Hx2 := Lib.hid hx2
                have hdx : decide ((x : Int) < (C.length : Int)) = true := by simp; omega
                clear hown hcop hbel he hx1 hx2 hx2l
                go_wp2
                clear hcc
                go_loopw [15, 82] (fun v i wr => ∃ k : Nat, k ≤ R.length ∧ i = .int .i64 k ∧ Own 3 IntV (Iv wx.heap.size wr.heap.size) wr v (x2.take k) ∧ Below wx.heap.size wx wr) (fun _ i _ => R.length - (intOf i).toNat)
                case atStart => exact ⟨0, Nat.zero_le _, rfl, by simpa using Own.nil _ _ _ _, Below.refl _ _⟩
                case round =>
                  obtain ⟨k, hk, rfl, hcol, hbx⟩ := hrel
                  obtain ⟨wk, rfl⟩ : ∃ wk : World, wk = wr := ⟨_, rfl⟩
                  have hBs := hbx.size
                  have hownk : Own 32 (Own 3 IntV) (Gap w2.heap.size wi.heap.size wb.heap.size wx.heap.size) wk (.slice (some ⟨G, 0, none⟩) R.length cap) g := (rOwn (rOwn rIntV)).same (sameOn_below hbx fun b hb => hb.1.2) Hown.out
                  have Hownk := Lib.hid hownk
                  have Hcol := Lib.hid hcol
                  have Hbx := Lib.hid hbx
                  obtain ⟨c1, c2, c3, rfl⟩ := hcol.shape
                  by_cases hltk : k < R.length
                  · obtain ⟨hrow, hrl, -⟩ := Hg.out.1.row hltk
                    obtain ⟨q, cq, hcell, -, hSq, hqG, hcq, hxs, hrd, -⟩ := own_grid_cell hownk hrow (by omega)
                    rw [hrl] at hcell
                    obtain ⟨z, hz⟩ : ∃ z, z = at2 A k x := ⟨_, rfl⟩
                    have hzz : at2 g k x = z := by rw [Hg.out.2 k x hltk hltx, if_neg (by omega), hz]
                    have hcz : wk.cell? ⟨q, x, none⟩ = some (.int .i64 z) := hrd x z (by rw [← hzz]; exact gD_at 0 (by omega))
                    have hzb : I64 z := by
                      obtain ⟨-, hl, hb⟩ := HAr.out.row hltk
                      have := hb z (by rw [hz]; exact List.mem_of_getElem? (gD_at 0 (by omega)))
                      exact I64.small (by omega) (by omega)
                    have Hst := Lib.hid (show x2.take (k + 1) = x2.take k ++ [z] from by
                      rw [List.take_add_one, Hx2.out, col_at HAr.out (by omega) hltx hltk, hz]; rfl)
                    have hkl : (x2.take k).length < 1099511627776 := by rw [List.length_take]; omega
                    have hdk : decide ((k : Int) < (R.length : Int)) = true := by simp; omega
                    have Hzb := Lib.hid hzb
                    clear hcol hbx hownk hrow hrl hxs hrd hz hzz hzb hcq
                    go_wp2_with (first | (at_builtin; (refine wpList_appR rfl _ _ 32 rfl rIntV 3 Tryz.underlying32 infoInt rfl (by decide) wx.heap.size wk.heap.size hBs (Nat.le_refl _) rfl rfl (by exact Hcol.out) (by exact ⟨rfl, Hzb.out⟩) hkl ?_); intro v2 w6 hown6 hbel6 _) | fail)
                    have Hown6 := Lib.hid hown6
                    have Hb6 := Lib.hid (Hbx.out.trans hbel6)
                    clear hown6 hbel6 hcell hcz
                    go_wp2
                    go_roundw
                    case rel => exact ⟨k + 1, by omega, by go_num, by rw [Hst.out]; exact Hown6.out, Hb6.out⟩
                    case measure => simp [intOf]; omega
                  · have hke : k = R.length := by omega
                    have Hcol2 := Lib.hid (show Own 3 IntV (Iv wx.heap.size wk.heap.size) wk (.slice c1 c2 c3) x2 from by
                      have h := hcol
                      rw [List.take_of_length_le (by rw [Hx2l.out]; omega)] at h
                      exact h)
                    have Hbelk := Lib.hid (Hbel.out.trans_pure hbx (Nat.le_refl _))
                    have hdk : decide ((k : Int) < (R.length : Int)) = false := by simp; omega
                    clear hcol hbx hownk hke
                    go_wp2_with (fail)
                    refine (SolveLine_i2 _ _ _ _ _ (Huc.out.keep Hbx.out) Hcol2.out.ints).mono ?_
                    rintro e w5 ⟨v5, rfl, o5, b5⟩
                    obtain ⟨s1, s2, s3, rfl⟩ := o5.shape
                    have hs5 : wk.heap.size ≤ w5.heap.size := b5.size
                    have Ho5 := Lib.hid o5
                    have Hb5 := Lib.hid b5
                    have Hbel5 := Lib.hid (Hbelk.out.trans_pure b5 (Nat.le_refl _))
                    clear o5 b5
                    cases hsol : (solveLine x1 x2).isSome
                    · have Hn := Lib.hid (show D = none from by rw [HD.out]; exact dloop_none (dstep_no2 Hp.out (by rw [← HA.out]; exact passOk_no (k := x) (by rw [hHT.out.1]; exact hltx) (by rw [Hsl.out]; exact hsol))))
                      have bf := HbW2.out.trans_pure Hbel5.out (Nat.le_refl _)
                      clear hsol
                      go_wp2
                      rw [Hn.out]
                      go_ret2
                      exact ⟨_, rfl, Own.nil _ _ _ _, bf⟩
                    · obtain ⟨o, ho⟩ := Option.isSome_iff_exists.1 hsol
                      have hslo : sl C (tr A) x = some o := Hsl.out.trans ho
                      have hol : o.length = R.length := by have := (solve_ref ho).1; rw [this, Hx2l.out]
                      have ho5 := Ho5.out
                      rw [ho, Option.getD_some] at ho5
                      obtain ⟨gL, cL, heL, hgL, -⟩ := ho5.inv_ne (by omega)
                      simp only [Value.slice.injEq] at heL
                      obtain ⟨rfl, rfl, rfl⟩ := heL
                      rw [hol] at ho5
                      have hownk5 : Own 32 (Own 3 IntV) (Gap w2.heap.size wi.heap.size wb.heap.size wx.heap.size) w5 (.slice (some ⟨G, 0, none⟩) R.length cap) g := (rOwn (rOwn rIntV)).same (sameOn_below Hb5.out fun b hb => Nat.lt_of_lt_of_le hb.1.2 hBs) Hownk.out
                      have hcop5 : Own 32 (Own 3 IntV) (Iv wi.heap.size wb.heap.size) w5 (.slice p1 p2 p3) m := Own.keep (rOwn rIntV) (Own.keep (rOwn rIntV) Hcop.out Hbx.out hsz) Hb5.out (Nat.le_trans hsz hBs)
                      have Hownk5 := Lib.hid hownk5
                      have Hcop5 := Lib.hid hcop5
                      have HoL := Lib.hid ho5
                      have Hslo := Lib.hid hslo
                      have hol1 : o.length ≤ R.length := by omega
                      have hol2 : R.length ≤ o.length := by omega
                      have Hsolv := Lib.hid hsol
                      clear ho ho5 hownk5 hcop5 hslo Ho5 hsol hdk
                      rw [hol]
                      clear hol
                      go_wp2
                      go_loopw [106] (fun i wr => ∃ (k : Nat) (g' : List (List Int)), k ≤ R.length ∧ i = .int .i64 k ∧ Hid (ColMix C A R.length C.length x k g') ∧ Own 32 (Own 3 IntV) (Gap w2.heap.size wi.heap.size wb.heap.size wx.heap.size) wr (.slice (some ⟨G, 0, none⟩) R.length cap) g' ∧ Own 32 (Own 3 IntV) (Iv wi.heap.size wb.heap.size) wr (.slice p1 p2 p3) m ∧ Own 3 IntV (Iv wk.heap.size w5.heap.size) wr (.slice (some ⟨gL, 0, none⟩) R.length s3) o ∧ Below w2.heap.size w2 wr ∧ w5.heap.size ≤ wr.heap.size) (fun i _ => R.length - (intOf i).toNat)
                      case atStart => exact ⟨0, g, Nat.zero_le _, rfl, Hg, Hownk5.out, Hcop5.out, HoL.out, Hbel5.out, Nat.le_refl _⟩
                      case round =>
                        clear Hownk5 Hcop5 HoL Hbel5
                        obtain ⟨k, g', hk, rfl, Hg', hown', hcop', hol', hbel', hsz'⟩ := hrel
                        obtain ⟨wl, rfl⟩ : ∃ wl : World, wl = wr := ⟨_, rfl⟩
                        by_cases hltk : k < R.length
                        · obtain ⟨hrow, hrl, -⟩ := Hg'.out.1.row hltk
                          obtain ⟨q, cq, hcell, hGS, hSq, hqG, hcq, hxs, -, hset⟩ := own_grid_cell hown' hrow (by omega)
                          obtain ⟨⟨o0, hco⟩, hfo⟩ := hxs x (by omega)
                          obtain ⟨v, hv⟩ : ∃ v, v = o.getD k 0 := ⟨_, rfl⟩
                          have hok : o[k]? = some v := by rw [hv]; exact gD_at 0 (by omega)
                          obtain ⟨hcl, -, hI⟩ := hol'.ints_cell hok
                          have hvc : v = colv C A x k := by unfold colv; rw [Hslo.out, hv]; rfl
                          have hvb := colv_bd Hslo.out k
                          rw [← hvc] at hvb
                          have Hnew := Lib.hid (hset wl (fun _ _ => rfl) x v (by omega) hI)
                          have Hg2 := Lib.hid (Hg'.out.step hltk hltx hvc hvb.1 hvb.2)
                          have Hb2 := Lib.hid (hbel'.setCell (p := ⟨q, x, none⟩) hSq.1.1 (.int .i64 v))
                          have Hc2 := Lib.hid (show Own 32 (Own 3 IntV) (Iv wi.heap.size wb.heap.size) (wl.setCell ⟨q, x, none⟩ (.int .i64 v)) (.slice p1 p2 p3) m from (rOwn (rOwn rIntV)).same (fun b hb => Below.heap_setCell wl _ _ b (by show b ≠ q; exact fun h => hSq.2 (h ▸ hb))) hcop')
                          have Ho2 := Lib.hid (show Own 3 IntV (Iv wk.heap.size w5.heap.size) (wl.setCell ⟨q, x, none⟩ (.int .i64 v)) (.slice (some ⟨gL, 0, none⟩) R.length s3) o from (rOwn rIntV).same (fun b hb => Below.heap_setCell wl _ _ b (by show b ≠ q; have h1 := hSq.1.2; have h2 := hb.1; omega)) hol')
                          rw [hrl] at hcell
                          have hdk : decide ((k : Int) < (R.length : Int)) = true := by simp; omega
                          clear hown' hcop' hol' hbel' hrow hrl hxs hset hv hok hvc hvb hcq Hg' hI
                          go_wp2
                          go_region
                          all_goals go_wp2
                          all_goals go_roundw
                          all_goals first
                            | (case measure => simp [intOf]; omega)
                            | (case rel => exact ⟨k + 1, _, by omega, by go_num, Hg2, by exact Hnew.out, by exact Hc2.out, by exact Ho2.out, by first | exact Hb2.out | exact Hb2.out.drew | exact Hb2.out.drewN 1 | exact ⟨Hb2.out.os, Hb2.out.tape, Hb2.out.output, Hb2.out.size, Hb2.out.block⟩, by first | (rw [size_setCell]; exact hsz') | exact hsz' | (simp; exact hsz')⟩)
                        · have hke : k = R.length := by omega
                          have Hg2 := Lib.hid (show ColMix C A R.length C.length (x + 1) 0 g' from by have := Hg'.out; rw [hke] at this; exact this.next)
                          have hdk : decide ((k : Int) < (R.length : Int)) = false := by simp; omega
                          have hxl : wx.heap.size ≤ wl.heap.size := by omega
                          have Hown' := Lib.hid ((rOwn (rOwn rIntV)).mono (gap_mono hxl) hown')
                          have Hcop' := Lib.hid hcop'
                          have Hbel' := Lib.hid hbel'
                          clear hown' hcop' hol' hbel' hke
                          go_wp2
                          go_roundw
                          case rel =>
                            refine ⟨x + 1, g', by omega, by go_num, Hg2, fun j hj => ?_, Hown'.out, Hcop'.out, Hbel'.out, by omega⟩
                            by_cases hjx : j < x
                            · exact Hall.out j hjx
                            · obtain rfl : j = x := by omega
                              rw [Hslo.out]; rfl
                          case measure => simp [intOf]; omega
              · have hxe : x = C.length := by omega
                have hp2 : passOk C (tr A) = true := passOk_yes fun j hj => Hall.out j (by rw [hHT.out.1] at hj; omega)
                have hgn : g = tr (passV C (tr A)) := by have := Hg.out; rw [hxe] at this; exact this.done (by omega) (by omega) HAr.out hp2
                have Hs := Lib.hid (show dstep R C m = some g from by rw [hgn, HA.out]; exact dstep_yes Hp.out (by rw [← HA.out]; exact hp2))
                have hdx : decide ((x : Int) < (C.length : Int)) = false := by simp; omega
                clear hown hcop hbel hxe hp2 hgn
                go_wp2_with (fail)
                refine (SameImage_i_c _ _ m g _ Hcop.out.grid Hown.out.grid).mono ?_
                rintro e w11 ⟨rfl, b11⟩
                have hs11 : wx.heap.size ≤ w11.heap.size := b11.size
                have Hbel11 := Lib.hid (Hbel.out.trans_pure b11 (Nat.le_refl _))
                have Hown11 := Lib.hid (show Own 32 (Own 3 IntV) (Iv w2.heap.size w11.heap.size) w11 (.slice (some ⟨G, 0, none⟩) R.length cap) g from (rOwn (rOwn rIntV)).mono (fun b hb => ⟨hb.1.1, Nat.lt_of_lt_of_le hb.1.2 hs11⟩) ((rOwn (rOwn rIntV)).same (sameOn_below b11 fun b hb => hb.1.2) Hown.out))
                by_cases he : m = g
                · have Hn := Lib.hid (show D = some g from by rw [HD.out, ← he]; exact dloop_stop (by rw [Hs.out, ← he]))
                  rw [decide_eq_true he]
                  have bf := HbW2.out.trans_pure Hbel11.out (Nat.le_refl _)
                  clear he b11
                  go_wp2
                  rw [Hn.out]
                  go_ret2
                  exact ⟨_, rfl, (rOwn (rOwn rIntV)).mono (fun b hb => ⟨by have := hb.1; omega, by have := hb.2; omega⟩) Hown11.out, bf⟩
                · obtain ⟨k', hk', hu', hd', ht'⟩ := dloop_step (by omega) (by omega) Hm.out Hu.out Hs.out (fun h => he h.symm)
                  have Hu' := Lib.hid hu'
                  have Hd' := Lib.hid (HD.out.trans hd')
                  have Ht' := Lib.hid ht'
                  rw [decide_eq_false he]
                  clear he hd' hu' ht' b11
                  go_wp2
                  go_roundg k'
                  case measure => exact hk'
                  case rel => exact ⟨g, Ht', Hu', Hd', Hown11.out, Hbel11.out⟩
def isLogical (R C : List (List Int)) : Bool := match deduce R C with | none => false | some m => imageOk m
theorem IsLogical_i (a b : Value) (R C : List (List Int)) (w : World) (h1 : Grid w a R) (h2 : Grid w b C) (hlx : ∀ r ∈ R, r.length ≤ 1048576) (hly : ∀ r ∈ C, r.length ≤ 1048576) :
    Calls Tryz.prog 118 #[.agg #[a, b]] w fun e w' => e = .returned (.bool (isLogical R C)) ∧ Below w.heap.size w w' := by
  have Hlx := Lib.hid hlx
  have Hly := Lib.hid hly
  obtain ⟨aa, ca, rfl, -⟩ := id h1
  obtain ⟨ab, cb, rfl, -⟩ := id h2
  obtain ⟨W1, hW1⟩ : ∃ W1, W1 = w.alloc (.cells #[.slice aa R.length ca, .slice ab C.length cb] 85) := ⟨_, rfl⟩
  have bW1 : Below w.heap.size w W1 := by rw [hW1]; exact Below.pureAlloc _ _
  have G1 := Lib.hid (h1.keep bW1)
  have G2 := Lib.hid (h2.keep bW1)
  have HbW1 := Lib.hid bW1
  clear h1 h2 hlx hly bW1
  go_enter Tryz.func118, Tryz.ntmps118
  subst hW1
  go_wp2_with (fail)
  refine (Deduce_i _ _ R C _ G1.out G2.out Hlx.out Hly.out).mono ?_
  rintro e w2 ⟨v2, rfl, o2, b2⟩
  obtain ⟨p1, p2, p3, rfl⟩ := o2.shape
  have Hb2 := Lib.hid (HbW1.out.trans_pure b2 (Nat.le_refl _))
  have Hg2 := Lib.hid o2.grid
  clear o2 b2
  cases hd : deduce R C with
  | none =>
    have Hr := Lib.hid (show isLogical R C = false from by unfold isLogical; rw [hd])
    clear hd
    go_wp2
    go_ret
    exact ⟨retB Hr.out.symm, Hb2.out⟩
  | some m =>
    have Hr := Lib.hid (show isLogical R C = imageOk m from by unfold isLogical; rw [hd])
    have hg := Hg2.out
    rw [hd] at hg
    have Hg := Lib.hid (show Grid w2 (.slice p1 p2 p3) m from hg)
    clear hd hg
    go_wp2_with (fail)
    refine (ImageOk_i _ _ _ Hg.out).mono ?_
    rintro e w' ⟨rfl, rfl⟩
    go_wp2
    go_ret
    exact ⟨retB Hr.out.symm, Hb2.out⟩
end Go.Proofs.YthmocomfjgmjoaaGreatDoor

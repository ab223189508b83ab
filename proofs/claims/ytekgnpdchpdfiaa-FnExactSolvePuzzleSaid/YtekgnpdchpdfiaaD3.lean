/- Contracts: the reference's Deduce: the walk. -/
import Derived.Test.YtekgnpdchpdfiaaD2
namespace Go.Proofs.Ytekgnpdchpdfiaa
open Go.RowKit

theorem optSome {α : Type} {D : Option α} {d : α} (h : D = some d) : D.isSome = true := by rw [h]; rfl
theorem optNone {α : Type} {D : Option α} (h : D = none) : D.isSome = false := by rw [h]; rfl
set_option maxRecDepth 100000 in
set_option maxHeartbeats 4000000 in
theorem Deduce_s (a b : Value) (R C : List (List Int)) (w : World) (h1 : Grid w a R) (h2 : Grid w b C) :
    Calls Try.prog 10 #[.agg #[a, b]] w fun e w' => ∃ v', e = .returned (.tuple #[v', .bool (deduce R C).isSome]) ∧ Own 41 (Own 3 IntV) (Iv w.heap.size w'.heap.size) w' v' ((deduce R C).getD []) ∧ Below w.heap.size w w' := by
  obtain ⟨aa, ca, rfl, -⟩ := id h1
  obtain ⟨ab, cb, rfl, -⟩ := id h2
  obtain ⟨D, hD⟩ : ∃ D, D = deduce R C := ⟨_, rfl⟩
  rw [← hD]
  obtain ⟨W1, hW1⟩ : ∃ W1, W1 = w.alloc (.cells #[.slice aa R.length ca, .slice ab C.length cb] 28) := ⟨_, rfl⟩
  have bW1 : Below w.heap.size w W1 := by rw [hW1]; exact Below.pureAlloc _ _
  have zW1 : W1.heap.size = w.heap.size + 1 := by rw [hW1]; simp
  have kB : Blk W1 w.heap.size #[.slice aa R.length ca, .slice ab C.length cb] 28 := by rw [hW1]; exact Blk.new _ _ _
  have G1 := Lib.hid (h1.keep bW1)
  have G2 := Lib.hid (h2.keep bW1)
  have HbW1 := Lib.hid bW1
  have HkB := Lib.hid kB
  have HzW1 := Lib.hid zW1
  clear h1 h2 bW1 zW1 kB
  cases hok : puzzleOk R C
  · have Hn := Lib.hid (optNone (hD.trans (deduce_no hok)))
    have Hn2 := Lib.hid (show D.getD [] = [] from by rw [hD, deduce_no hok]; rfl)
    have Hok := Lib.hid hok
    clear hok hD
    go_enter Try.func10, Try.ntmps10
    subst hW1
    go_wp2_with (fail)
    refine (PuzzleOk_s _ _ _ _ _ G1.out G2.out).mono ?_
    rintro e w2 ⟨rfl, hw2⟩
    have b2 := HbW1.out.trans_pure (show Below _ _ w2 from by rw [hw2]; exact Below.pureAlloc _ _) (Nat.le_refl _)
    rw [Hok.out]
    clear hw2
    go_wp2
    rw [Hn.out, Hn2.out]
    go_ret2
    exact ⟨_, rfl, Own.nil _ _ _ _, b2⟩
  have HD := Lib.hid (hD.trans (deduce_yes hok))
  obtain ⟨hr1, hr5, hc1, hc5⟩ := puzzleOk_bd hok
  have Hok := Lib.hid hok
  clear hok hD
  go_enter Try.func10, Try.ntmps10
  subst hW1
  go_wp2_with (fail)
  refine (PuzzleOk_s _ _ _ _ _ G1.out G2.out).mono ?_
  rintro e w2 ⟨rfl, hw2⟩
  have b2 : Below (w.alloc (.cells #[.slice aa R.length ca, .slice ab C.length cb] 28)).heap.size (w.alloc (.cells #[.slice aa R.length ca, .slice ab C.length cb] 28)) w2 := by rw [hw2]; exact Below.pureAlloc _ _
  rw [Hok.out]
  clear hw2
  have HbW2 := Lib.hid (HbW1.out.trans_pure b2 (Nat.le_refl _))
  have HkB2 := Lib.hid (HkB.out.keep b2)
  have HG1 := Lib.hid (G1.out.keep b2)
  have HG2 := Lib.hid (G2.out.keep b2)
  have hlow : w.heap.size < w2.heap.size := by have := b2.size; rw [HzW1.out] at this; omega
  clear G1 G2 HbW1 HkB HzW1 b2
  have k0 : w2.cell? ⟨w.heap.size, 0, none⟩ = some (.slice aa R.length ca) := HkB2.out.cell 0
  have k1 : w2.cell? ⟨w.heap.size, 1, none⟩ = some (.slice ab C.length cb) := HkB2.out.cell 1
  go_wp2_with (fail)
  refine (l02Empty_c R.length C.length _ (by omega) (by omega)).mono ?_
  rintro e w3 ⟨v3, rfl, o3, b3⟩
  obtain ⟨G, cap, rfl, hG, hcapG, hGs, -⟩ := o3.inv_ne (by simp [zeros]; omega)
  have hzl : (zeros R.length C.length).length = R.length := by simp [zeros]
  rw [hzl] at o3 hcapG ⊢
  have Ho3 := Lib.hid o3
  have Hb3 := Lib.hid b3
  have s3 : w2.heap.size ≤ w3.heap.size := b3.size
  clear o3 b3 hzl k0 k1
  go_wp2
  go_loopw [24] (fun i wr => ∃ (k : Nat) (g : List (List Int)), k ≤ R.length ∧ i = .int .i64 k ∧ Hid (Filled R.length C.length k 0 g) ∧ Own 41 (Own 3 IntV) (Iv w2.heap.size w3.heap.size) wr (.slice (some ⟨G, 0, none⟩) R.length cap) g ∧ Below w2.heap.size w2 wr ∧ w3.heap.size ≤ wr.heap.size) (fun i _ => R.length - (intOf i).toNat)
  case atStart => exact ⟨0, _, Nat.zero_le _, rfl, filled_zeros _ _, Ho3.out, Hb3.out, Nat.le_refl _⟩
  case round =>
    clear Ho3 Hb3
    obtain ⟨k, g, hk, rfl, Hg, hown, hbel, hsz⟩ := hrel
    obtain ⟨wo, rfl⟩ : ∃ wo : World, wo = wr := ⟨_, rfl⟩
    by_cases hlt : k < R.length
    · obtain ⟨hrow, hrl, -⟩ := Hg.out.1.row hlt
      obtain ⟨q, cq, hcell, -, hSq, hqG, hcq, hx, -, hset⟩ := own_grid_cell hown hrow (by omega)
      rw [hrl] at hcell
      have Hown := Lib.hid hown
      have hdk : decide ((k : Int) < (R.length : Int)) = true := by simp; omega
      have Hbel := Lib.hid hbel
      clear hown hrow hx hset hbel
      go_wp2
      clear hcell
      go_loopw [32] (fun i wr => ∃ (j : Nat) (g : List (List Int)), j ≤ C.length ∧ i = .int .i64 j ∧ Hid (Filled R.length C.length k j g) ∧ Own 41 (Own 3 IntV) (Iv w2.heap.size w3.heap.size) wr (.slice (some ⟨G, 0, none⟩) R.length cap) g ∧ Below w2.heap.size w2 wr ∧ w3.heap.size ≤ wr.heap.size) (fun i _ => C.length - (intOf i).toNat)
      case atStart => exact ⟨0, g, Nat.zero_le _, rfl, Hg, Hown.out, Hbel.out, hsz⟩
      case round =>
        clear Hown Hbel hsz hrl Hg
        obtain ⟨j, g', hj, rfl, Hg, hown, hbel, hsz⟩ := hrel
        obtain ⟨wi, rfl⟩ : ∃ wi : World, wi = wr := ⟨_, rfl⟩
        by_cases hltj : j < C.length
        · obtain ⟨hrow, hrl, -⟩ := Hg.out.1.row hlt
          obtain ⟨q, cq, hcell, -, hSq, hqG, hcq, hx, -, hset⟩ := own_grid_cell hown hrow (by omega)
          obtain ⟨⟨o, hco⟩, hfo⟩ := hx j (by omega)
          have Hnew := Lib.hid (hset wi (fun _ _ => rfl) j (-1) (by omega) (I64.small (by decide) (by decide)))
          have Hg2 := Lib.hid (Hg.out.step hlt hltj)
          have Hb2 := Lib.hid (hbel.setCell (p := ⟨q, j, none⟩) hSq.1 (.int .i64 (-1)))
          rw [hrl] at hcell
          have hdj : decide ((j : Int) < (C.length : Int)) = true := by simp; omega
          clear hown hrow hrl hx hset hbel hcq
          go_wp2
          go_roundw
          case rel => exact ⟨j + 1, _, by omega, by go_num, Hg2, Hnew.out, Hb2.out, by rw [size_setCell]; exact hsz⟩
          case measure => simp [intOf]; omega
        · have hdj : decide ((j : Int) < (C.length : Int)) = false := by simp; omega
          have hje : j = C.length := by omega
          have Hg2 := Lib.hid (show Filled R.length C.length (k + 1) 0 g' from by have := Hg.out; rw [hje] at this; exact this.next)
          have Hown := Lib.hid hown
          clear hown hje
          go_wp2
          go_roundw
          case rel => exact ⟨k + 1, g', by omega, by go_num, Hg2, Hown.out, hbel, hsz⟩
          case measure => simp [intOf]; omega
    · have hke : k = R.length := by omega
      have hg : g = openGrid R.length C.length := by have := Hg.out; rw [hke] at this; exact this.done
      have Hown := Lib.hid (show Own 41 (Own 3 IntV) (Iv w2.heap.size wo.heap.size) wo (.slice (some ⟨G, 0, none⟩) R.length cap) (openGrid R.length C.length) from by
        rw [← hg]; exact (rOwn (rOwn rIntV)).mono (fun b hb => ⟨hb.1, Nat.lt_of_lt_of_le hb.2 hsz⟩) hown)
      have Hbel := Lib.hid hbel
      have hdk : decide ((k : Int) < (R.length : Int)) = false := by simp; omega
      clear hown hbel hg Hg hke
      go_wp2
      go_loopg [4] (R.length * C.length) (fun gk s4 wr => ∃ m : List (List Int), Hid (TRect R.length C.length m) ∧ Hid (unk m ≤ gk) ∧ Hid (D = dloop R C gk m) ∧ Own 41 (Own 3 IntV) (Iv w2.heap.size wr.heap.size) wr s4 m ∧ Below w2.heap.size w2 wr)
      case atStart => exact ⟨_, openGrid_rect _ _, Nat.le_of_eq (unk_open _ _), HD.out, Hown.out, Hbel.out⟩
      case round =>
        clear Hown Hbel HD
        obtain ⟨m, Hm, Hu, HD, hown, hbel⟩ := hrel
        obtain ⟨wi, rfl⟩ : ∃ wi : World, wi = wr := ⟨_, rfl⟩
        have hml : m.length ≤ R.length := Nat.le_of_eq Hm.out.1
        have hml2 : R.length ≤ m.length := Nat.le_of_eq Hm.out.1.symm
        have hml5 : m.length ≤ 5 := by omega
        obtain ⟨g4, cap4, rfl, -⟩ := hown.inv_ne (by omega)
        have Hown := Lib.hid hown
        have Hbel := Lib.hid hbel
        have HkB := Lib.hid (HkB2.out.keep hbel)
        have hsi : w2.heap.size ≤ wi.heap.size := hbel.size
        have k0 : wi.cell? ⟨w.heap.size, 0, none⟩ = some (.slice aa R.length ca) := HkB.out.cell 0
        clear hown hbel
        go_wp2_with (fail)
        refine (l14Pass_c _ _ R m _ (HG1.out.keep Hbel.out) Hown.out.grid hml hml5).mono ?_
        rintro e w4 ⟨v4, rfl, o4, b4⟩
        obtain ⟨p1, p2, p3, rfl⟩ := o4.shape
        have Hb4 := Lib.hid b4
        have hs4 : wi.heap.size ≤ w4.heap.size := b4.size
        have HkB4 := Lib.hid (HkB.out.keep b4)
        have Ho4 := Lib.hid o4
        have Hbel4 := Lib.hid (Hbel.out.trans_pure b4 (Nat.le_refl _))
        clear o4 b4 k0
        cases hp : passOk R m
        · have Hn := Lib.hid (show D = none from by rw [HD.out]; exact dloop_none (dstep_no1 hp))
          have bf := HbW2.out.trans_pure Hbel4.out (Nat.le_refl _)
          clear hp
          go_wp2
          rw [Hn.out]
          go_ret2
          exact ⟨_, rfl, Own.nil _ _ _ _, bf⟩
        obtain ⟨A, hA⟩ : ∃ A, A = passV R m := ⟨_, rfl⟩
        have hAr := (pass_ref Hm.out hp).1
        have ho4 := Ho4.out
        rw [passD_yes hp, ← hA] at ho4
        rw [← hA] at hAr
        have Ho4 := Lib.hid ho4
        have HAr := Lib.hid hAr
        have Hp := Lib.hid hp
        have HA := Lib.hid hA
        have HtA := Lib.hid (hAr.tr (by omega))
        have hAt : (tr A).length = C.length := HtA.out.1
        have hal : A.length = R.length := hAr.1
        obtain ⟨g5, cap5, he5, -⟩ := ho4.inv_ne (by omega)
        have hk1 : w4.cell? ⟨w.heap.size, 1, none⟩ = some (.slice ab C.length cb) := HkB4.out.cell 1
        have htl : (tr A).length ≤ C.length := Nat.le_of_eq hAt
        have ht5 : (tr A).length ≤ 5 := by omega
        clear ho4 hAr hA he5 hAt hal
        go_upto_region 16 with (fail)
        go_cut [9, 10] (fun s9 s10 wx => ∃ v9, s9 = v9 ∧ s10 = .bool (passOk C (tr A)) ∧ Hid (Own 41 (Own 3 IntV) (Iv w4.heap.size wx.heap.size) wx v9 (passD C (tr A))) ∧ Hid (Below w4.heap.size w4 wx))
        case first =>
          go_region_with (first | (go_at_call 49; refine (l14Turn_c _ A R.length C.length _ (by exact Ho4.out.grid) HAr.out (by omega) hr5 (by omega) hc5).mono ?_; rintro e w5 ⟨v5, rfl, o5, b5⟩; obtain ⟨r1, r2, r3, rfl⟩ := o5.shape; have B5 : Below w4.heap.size w4 w5 := ⟨b5.os, b5.tape, b5.output, b5.size, b5.block⟩; have hk5 := (HkB4.out.keep B5).cell 1; have HG5 := Lib.hid ((HG2.out.keep Hbel4.out).keep B5)) | (go_at_call 48; refine (l14Pass_c _ _ C (tr A) _ (by exact HG5.out) (by exact o5.grid) htl ht5).mono ?_; rintro e w6 ⟨v6, rfl, o6, b6⟩; obtain ⟨q1, q2, q3, rfl⟩ := o6.shape))
          all_goals go_wp2_with (fail)
          all_goals go_meet
          all_goals
            refine ⟨_, rfl, rfl, ?_, ?_⟩
            · have e5 := B5.size
              exact (rOwn (rOwn rIntV)).mono (fun b hb => ⟨Nat.le_trans e5 hb.1, hb.2⟩) o6
            · exact B5.trans_pure ⟨b6.os, b6.tape, b6.output, b6.size, b6.block⟩ (Nat.le_refl _)
        case rest =>
          obtain ⟨v9, rfl, rfl, Ho9, Hb9⟩ := hcut
          have hs9 : w4.heap.size ≤ wc.heap.size := Hb9.out.size
          have Hbel9 := Lib.hid (Hbel4.out.trans_pure Hb9.out (Nat.le_refl _))
          cases hp2 : passOk C (tr A)
          · have Hn := Lib.hid (show D = none from by rw [HD.out]; exact dloop_none (dstep_no2 Hp.out (by rw [← HA.out]; exact hp2)))
            have bf := HbW2.out.trans_pure Hbel9.out (Nat.le_refl _)
            clear hp2
            go_wp2
            rw [Hn.out]
            go_ret2
            exact ⟨_, rfl, Own.nil _ _ _ _, bf⟩
          obtain ⟨B, hB⟩ : ∃ B, B = passV C (tr A) := ⟨_, rfl⟩
          have hBr := (pass_ref HtA.out hp2).1
          have ho9 := Ho9.out
          rw [passD_yes hp2, ← hB] at ho9
          rw [← hB] at hBr
          have Hs := Lib.hid (show dstep R C m = some (tr B) from by rw [hB, HA.out]; exact dstep_yes Hp.out (by rw [← HA.out]; exact hp2))
          have HBr := Lib.hid hBr
          have HG9 := Lib.hid ho9.grid
          obtain ⟨g9, cap9, rfl, -⟩ := ho9.inv_ne (by have := hBr.1; omega)
          have Hown9 := Lib.hid (Own.keep (rOwn rIntV) (Own.keep (rOwn rIntV) Hown.out Hb4.out (Nat.le_refl _)) Hb9.out hs4)
          clear hp2 hB hBr ho9 Ho9
          go_wp2_with (fail)
          refine (l14Turn_c _ B C.length R.length _ HG9.out HBr.out (by omega) hc5 (by omega) hr5).mono ?_
          rintro e w10 ⟨v10, rfl, o10, b10⟩
          have htB : (tr B).length = R.length := (HBr.out.tr (by omega)).1
          obtain ⟨g10, cap10, rfl, -⟩ := o10.inv_ne (by omega)
          have Hbel10 := Lib.hid (Hbel9.out.trans_pure b10 (Nat.le_refl _))
          have Hown10 := Lib.hid (Own.keep (rOwn rIntV) Hown9.out b10 (Nat.le_trans hs4 hs9))
          have hs10 : wc.heap.size ≤ w10.heap.size := b10.size
          have Ho10 := Lib.hid o10
          have HtB := Lib.hid htB
          clear o10 b10 htB
          go_wp2_with (fail)
          refine (SameImage_s_c _ _ (tr B) m _ Ho10.out.grid Hown10.out.grid).mono ?_
          rintro e w11 ⟨rfl, b11⟩
          have hs11 : w10.heap.size ≤ w11.heap.size := b11.size
          have Hbel11 := Lib.hid (Hbel10.out.trans_pure b11 (Nat.le_refl _))
          by_cases he : tr B = m
          · have Hn := Lib.hid (show D = some m from by rw [HD.out]; exact dloop_stop (by rw [Hs.out, he]))
            have Hown11 := Lib.hid (Own.keep (rOwn rIntV) Hown10.out b11 (by omega))
            rw [decide_eq_true he]
            have bf := HbW2.out.trans_pure Hbel11.out (Nat.le_refl _)
            clear he b11
            go_wp2
            rw [Hn.out]
            go_ret2
            exact ⟨_, rfl, (rOwn (rOwn rIntV)).mono (fun b hb => ⟨by have := hb.1; omega, by have := hb.2; omega⟩) Hown11.out, bf⟩
          · obtain ⟨k', hk', hu', hd', ht'⟩ := dloop_step (by omega) (by omega) Hm.out Hu.out Hs.out he
            have Hu' := Lib.hid hu'
            have Hd' := Lib.hid (HD.out.trans hd')
            have Ht' := Lib.hid ht'
            have Ho11 := Lib.hid (Own.keep (rOwn rIntV) Ho10.out b11 (Nat.le_refl _))
            rw [decide_eq_false he]
            clear he hd' hu' ht' b11
            go_wp2
            go_roundg k'
            case measure => exact hk'
            case rel => exact ⟨tr B, Ht', Hu', Hd', (rOwn (rOwn rIntV)).mono (fun b hb => ⟨by have := hb.1; omega, by have := hb.2; omega⟩) Ho11.out, Hbel11.out⟩
end Go.Proofs.Ytekgnpdchpdfiaa

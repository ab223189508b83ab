/- Contracts: AllImages of the program, whole. -/
import Derived.Test.YtliejhmlcdjpcaaE2
namespace Go.Proofs.Ytliejhmlcdjpcaa
open Go.RowKit

def imgsOf (xs ys : List Int) : List (List (List Int)) := if sumsOk xs ys then allImgs xs ys else []
set_option maxRecDepth 100000 in
set_option maxHeartbeats 4000000 in
theorem AllImages_i (v v2 : Value) (xs ys : List Int) (w : World) (hv : Ints w v xs) (hv2 : Ints w v2 ys) : Calls Try.prog 23 #[v, v2] w fun e w' => ∃ vo, e = .returned (.tuple #[vo, .bool (sumsOk xs ys)]) ∧ Own 23 (Own 25 (Own 3 IntV)) (Iv w.heap.size w'.heap.size) w' vo (imgsOf xs ys) ∧ Below w.heap.size w w' := by
  have Hv := Lib.hid hv
  have Hv2 := Lib.hid hv2
  obtain ⟨a, cap, rfl, -⟩ := hv
  obtain ⟨a2, cap2, rfl, -⟩ := hv2
  obtain ⟨W1, hW1⟩ : ∃ W1, W1 = (w.alloc (.cells #[.slice a xs.length cap] 25)).alloc (.cells #[.slice a2 ys.length cap2] 25) := ⟨_, rfl⟩
  have bW1 : Below w.heap.size w W1 := by rw [hW1]; exact ((Below.refl _ _).alloc (Nat.le_refl _) _).alloc (by simp) _
  have zW1 : W1.heap.size = w.heap.size + 2 := by rw [hW1]; simp
  have kr : Blk W1 w.heap.size #[.slice a xs.length cap] 25 := by rw [hW1]; exact (Blk.new w _ _).keep (Below.pureAlloc _ _)
  have kc : Blk W1 (w.heap.size + 1) #[.slice a2 ys.length cap2] 25 := by
    rw [hW1]
    have := Blk.new (w.alloc (.cells #[.slice a xs.length cap] 25)) #[.slice a2 ys.length cap2] 25
    simpa using this
  have HbW1 := Lib.hid bW1
  have Hkr := Lib.hid kr
  have Hkc := Lib.hid kc
  have HzW1 := Lib.hid zW1
  clear bW1 zW1 kr kc
  cases hok : sumsOk xs ys
  · have Hok := Lib.hid hok
    have Hr := Lib.hid (show imgsOf xs ys = [] from by unfold imgsOf; rw [hok]; rfl)
    clear hok
    go_enter Try.func23, Try.ntmps23
    subst hW1
    go_wp2_with (fail)
    refine (SumsOk_i _ _ _ _ _ (Hv.out.keep HbW1.out) (Hv2.out.keep HbW1.out)).mono ?_
    rintro e w' ⟨rfl, rfl⟩
    rw [Hok.out]
    go_wp2
    go_ret2
    exact ⟨_, rfl, by rw [Hr.out]; exact Own.nil _ _ _ _, HbW1.out⟩
  · have Hr := Lib.hid (show imgsOf xs ys = allImgs xs ys from by unfold imgsOf; rw [hok]; rfl)
    obtain ⟨hr1, hr5, hc1, hc5, hx5, -, -⟩ := sumsOk_bd hok
    have hinv := pinv0 hok
    have Hinv := Lib.hid hinv
    have Hok := Lib.hid hok
    clear hok hinv
    go_enter Try.func23, Try.ntmps23
    subst hW1
    go_wp2_with (fail)
    refine (SumsOk_i _ _ _ _ _ (Hv.out.keep HbW1.out) (Hv2.out.keep HbW1.out)).mono ?_
    rintro e w' ⟨rfl, rfl⟩
    rw [Hok.out]
    go_wp2_with (fail)
    refine (newGrid_c xs.length ys.length _ (by omega) (by omega)).mono ?_
    rintro e w3 ⟨v3, rfl, o3, b3⟩
    obtain ⟨G, cap3, rfl, hG, hcapG, hGs, -⟩ := o3.inv_ne (by simp [zeros]; omega)
    have hzl : (zeros xs.length ys.length).length = xs.length := by simp [zeros]
    rw [hzl] at o3 hcapG ⊢
    have s3 := b3.size
    have Hb3 := Lib.hid b3
    have Ho3 := Lib.hid o3
    have Hs3 := Lib.hid s3
    have HG := Lib.hid hG
    clear hzl o3 b3 s3 hG
    have B3 : Below w.heap.size w w3 := (HbW1.out.alloc HbW1.out.size _).trans_pure Hb3.out (Nat.le_refl _)
    have HB3 := Lib.hid B3
    have hc3 := (B3.cell (p := ⟨w.heap.size + 1, 0, none⟩))
    have z3 : w.heap.size + 3 ≤ w3.heap.size := by have := Hs3.out; simp at this; omega
    have kc4 : (w3.alloc (.cells #[.slice (some ⟨G, 0, none⟩) xs.length cap3] 23)).cell? ⟨w.heap.size + 1, 0, none⟩ = some (.slice a2 ys.length cap2) := (((Hkc.out.keep (Below.pureAlloc _ _)).keep Hb3.out).keep (Below.pureAlloc _ _)).cell 0
    clear B3 hc3
    go_wp2_with (fail)
    refine (copyInts_c _ ys _ ((Hv2.out.keep HB3.out).keep (Below.pureAlloc _ _)) (by omega)).mono ?_
    rintro e w5 ⟨v5, rfl, o5, b5⟩
    obtain ⟨L, cap5, rfl, hL, hcapL, hLs, -⟩ := o5.inv_ne (by omega)
    have Hb5 := Lib.hid b5
    have Ho5 := Lib.hid o5
    have Hs5 := Lib.hid b5.size
    clear o5 b5
    obtain ⟨F, hF⟩ : ∃ F : Value, F = (.func (.func 53) #[] #[.pointer (some ⟨w.heap.size + 1, 0, none⟩), .pointer (some ⟨w.heap.size, 0, none⟩), .pointer (some ⟨w.heap.size + 1 + 1, 0, none⟩), .pointer (some ⟨w3.heap.size, 0, none⟩), .pointer (some ⟨w5.heap.size, 0, none⟩), .pointer (some ⟨w5.heap.size + 1, 0, none⟩)]) := ⟨_, rfl⟩
    obtain ⟨W4, hW4⟩ : ∃ W4, W4 = w3.alloc (.cells #[.slice (some ⟨G, 0, none⟩) xs.length cap3] 23) := ⟨_, rfl⟩
    obtain ⟨W6, hW6⟩ : ∃ W6, W6 = (w5.alloc (.cells #[.slice (some ⟨L, 0, none⟩) ys.length cap5] 25)).alloc (.cells #[F] 66) := ⟨_, rfl⟩
    rw [← hW4] at Hb5 Ho5 Hs5
    have z4 : W4.heap.size = w3.heap.size + 1 := by rw [hW4]; simp
    have z6 : W6.heap.size = w5.heap.size + 2 := by rw [hW6]; simp
    have z5 : W4.heap.size ≤ w5.heap.size := Hs5.out
    have b34 : Below w3.heap.size w3 W4 := by rw [hW4]; exact Below.pureAlloc _ _
    have b56 : Below w5.heap.size w5 W6 := by rw [hW6]; exact ((Below.refl _ _).alloc (Nat.le_refl _) _).alloc (by simp) _
    have b36 : Below w3.heap.size w3 W6 := (b34.trans_pure Hb5.out (Nat.le_refl _)).trans_pure b56 (Nat.le_refl _)
    have bw6 : Below w.heap.size w W6 := HB3.out.trans_pure b36 (Nat.le_refl _)
    have k3 : ∀ {g : Nat} {cs : Array Value} {t : TypeId}, Blk w3 g cs t → Blk W6 g cs t := fun h => h.keep b36
    have kbo : Blk w3 (w.heap.size + 1 + 1) #[.slice none 0 0] 41 := by
      have h0 := Blk.new ((w.alloc (.cells #[.slice a xs.length cap] 25)).alloc (.cells #[.slice a2 ys.length cap2] 25)) #[.slice none 0 0] 41
      have h1 := h0.keep Hb3.out
      rw [HzW1.out] at h1
      exact h1
    have hll : ys.length ≤ 5 := hc5
    have hst : ASt w.heap.size w.heap.size (w.heap.size + 1) (w.heap.size + 1 + 1) (w.heap.size + 3) w3.heap.size w3.heap.size (w3.heap.size + 1) w5.heap.size w5.heap.size (w5.heap.size + 1) (w5.heap.size + 2) xs.length ys.length G cap3 L cap5 F (.slice a xs.length cap) (.slice a2 ys.length cap2)
        (fun k => match w3.cell? ⟨G, k, none⟩ with | some (.slice (some p) _ _) => p.block | _ => 0) (fun k => match w3.cell? ⟨G, k, none⟩ with | some (.slice _ _ q) => q | _ => 0) w W6 ys (zeros xs.length ys.length) [] := by
      refine ⟨bw6, k3 ((Hkr.out.keep (Below.pureAlloc _ _)).keep Hb3.out), k3 ((Hkc.out.keep (Below.pureAlloc _ _)).keep Hb3.out), ?_, ?_, ?_, ⟨_, k3 kbo, Own.nil _ _ _ _⟩, shape_zeros _ _, ?_, ?_, rfl, fun k hk => ?_, by omega⟩
      · have h1 : Blk W4 w3.heap.size #[.slice (some ⟨G, 0, none⟩) xs.length cap3] 23 := by rw [hW4]; exact Blk.new _ _ _
        exact (h1.keep Hb5.out).keep b56
      · rw [hW6]; exact (Blk.new w5 _ _).keep (Below.pureAlloc _ _)
      · rw [hW6]
        have := Blk.new (w5.alloc (.cells #[.slice (some ⟨L, 0, none⟩) ys.length cap5] 25)) #[F] 66
        simpa using this
      · exact (rOwn (rOwn rIntV)).mono (fun b hb => ⟨by have := hb.1; simp at this; omega, hb.2⟩) (Own.keep (rOwn rIntV) Ho3.out b36 (Nat.le_refl _))
      · exact (rOwn rIntV).mono (fun b hb => ⟨by have := hb.1; omega, hb.2⟩) (Own.keep rIntV Ho5.out b56 (Nat.le_refl _))
      · have hrow := at2_row (shape_zeros xs.length ys.length) hk
        obtain ⟨q, cq, hcell, -⟩ := own_grid_cell Ho3.out hrow.1 (by rw [hrow.2]; omega)
        rw [hrow.2] at hcell
        rw [b36.cell (p := ⟨G, k, none⟩) hGs, hcell]
    have wf : AWf w.heap.size w.heap.size (w.heap.size + 1) (w.heap.size + 1 + 1) (w.heap.size + 3) w3.heap.size w3.heap.size (w3.heap.size + 1) w5.heap.size w5.heap.size (w5.heap.size + 1) (w5.heap.size + 2) := by
      refine ⟨?_, ?_, ?_, ?_, ?_, ?_, ?_, ?_, ?_, ?_, ?_⟩ <;> omega
    obtain ⟨Q, hQ⟩ : ∃ Q : Nat → Nat, Q = (fun k => match w3.cell? ⟨G, k, none⟩ with | some (.slice (some p) _ _) => p.block | _ => 0) := ⟨_, rfl⟩
    obtain ⟨C, hC⟩ : ∃ C : Nat → Nat, C = (fun k => match w3.cell? ⟨G, k, none⟩ with | some (.slice _ _ q) => q | _ => 0) := ⟨_, rfl⟩
    rw [← hQ, ← hC] at hst
    have hput : ∀ wx, ASt w.heap.size w.heap.size (w.heap.size + 1) (w.heap.size + 1 + 1) (w.heap.size + 3) w3.heap.size w3.heap.size (w3.heap.size + 1) w5.heap.size w5.heap.size (w5.heap.size + 1) (w5.heap.size + 2) xs.length ys.length G cap3 L cap5 F (.slice a xs.length cap) (.slice a2 ys.length cap2) Q C w wx ys (zeros xs.length ys.length) [] →
        Calls Try.prog 53 #[.int .i64 0, .int .i64 0, .int .i64 (xs.getD 0 0), .pointer (some ⟨w.heap.size + 1, 0, none⟩), .pointer (some ⟨w.heap.size, 0, none⟩), .pointer (some ⟨w.heap.size + 1 + 1, 0, none⟩), .pointer (some ⟨w3.heap.size, 0, none⟩), .pointer (some ⟨w5.heap.size, 0, none⟩), .pointer (some ⟨w5.heap.size + 1, 0, none⟩)] wx
          fun e w' => e = .returned (.tuple #[]) ∧ ASt w.heap.size w.heap.size (w.heap.size + 1) (w.heap.size + 1 + 1) (w.heap.size + 3) w3.heap.size w3.heap.size (w3.heap.size + 1) w5.heap.size w5.heap.size (w5.heap.size + 1) (w5.heap.size + 2) xs.length ys.length G cap3 L cap5 F (.slice a xs.length cap) (.slice a2 ys.length cap2) Q C w w' ys (zeros xs.length ys.length) (allImgs xs ys) := by
      intro wx hwx
      have hpw : xs.length * (ys.length + 1) ≤ 30 := Nat.mul_le_mul hr5 (by omega : ys.length + 1 ≤ 6)
      have hp2 : 2 ^ (xs.length * (ys.length + 1)) ≤ 2 ^ 30 := Nat.pow_le_pow_right (by decide) hpw
      exact put_c wf hF (Nat.le_refl _) (Nat.le_refl _) Hv.out Hv2.out hr5 hc1 hc5 (fun i => ⟨(hx5 i).1, by have := (hx5 i).2; omega⟩) (xs.length * (ys.length + 1)) 0 0 (xs.getD 0 0) ys (zeros xs.length ys.length) [] wx hwx Hinv.out (by omega) (by omega) (by omega) (by simp; omega)
    obtain ⟨ba, off, cpr, he, hba, -⟩ := Hv.out.inv_ne (by omega)
    obtain ⟨rfl, -⟩ : a = some ⟨ba, off, none⟩ ∧ cap = cpr := by simpa using he
    have hc0 := Ints.at Hv.out (gD_at 0 (by omega) : xs[0]? = some (xs.getD 0 0))
    rw [← bw6.cell (p := ⟨ba, off + 0, none⟩) hba] at hc0
    obtain ⟨n0, hn0⟩ : ∃ n0, n0 = xs.getD 0 0 := ⟨_, rfl⟩
    rw [← hn0, Nat.add_zero] at hc0
    rw [← hn0] at hput
    have c6r : W6.cell? ⟨w.heap.size, 0, none⟩ = some (.slice (some ⟨ba, off, none⟩) xs.length cap) := hst.br.cell 0
    have c6p : W6.cell? ⟨w5.heap.size + 1, 0, none⟩ = some F := hst.bp.cell 0
    have Hst := Lib.hid hst
    have Hput := Lib.hid hput
    have hxp : 0 < xs.length := by omega
    have hlow : w.heap.size ≤ w5.heap.size := by omega
    clear hst hput he k3 kbo b34 b56 b36 bw6 z4 z5 z6 hQ hC wf hn0 Hinv kc4 hba hcapG hcapL hL hGs hLs
    subst hF
    subst hW6
    go_wp2_with (fail)
    go_region_with (go_at_call 53; refine (Hput.out _ (by first | exact Hst.out | exact Hst.out.drewN 1 | exact Hst.out.drewN 2)).mono ?_; rintro e w7 ⟨rfl, st7⟩; obtain ⟨vo, hbo, hoo⟩ := st7.bo; have c7 := hbo.cell 0)
    all_goals have Hoo := Lib.hid hoo
    all_goals have Hbase := Lib.hid st7.base
    all_goals clear st7 hbo hoo
    all_goals go_wp2
    all_goals go_ret2
    all_goals
      refine ⟨vo, rfl, ?_, Hbase.out⟩
      rw [Hr.out]
      exact (rOwn (rOwn (rOwn rIntV))).mono (fun b hb => ⟨by have h1 := hb.1; omega, hb.2⟩) Hoo.out
end Go.Proofs.Ytliejhmlcdjpcaa

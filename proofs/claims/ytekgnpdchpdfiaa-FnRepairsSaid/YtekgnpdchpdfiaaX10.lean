/- Contracts: MakeWrong. -/
import Derived.Test.YtekgnpdchpdfiaaX9
import Derived.Test.YtekgnpdchpdfiaaApp1
import Derived.Test.YtekgnpdchpdfiaaBlk
namespace Go.Proofs.Ytekgnpdchpdfiaa
open Go.RowKit

set_option maxHeartbeats 1000000 in
theorem MakeWrong_c (v : Value) (bs : List Int) (w : World) (hv : Bytes w v bs) : Calls Try.prog 32 #[v] w fun e w' => ∃ (va vb : Value) (xs ys : List Int), e = .returned (.tuple #[va, vb]) ∧ (1 ≤ xs.length ∧ xs.length ≤ 3) ∧ (1 ≤ ys.length ∧ ys.length ≤ 2) ∧ (∀ x ∈ xs, 0 ≤ x ∧ x ≤ ys.length) ∧ (∀ y ∈ ys, 0 ≤ y ∧ y ≤ xs.length) ∧ Ints w' va xs ∧ Ints w' vb ys ∧ Below w.heap.size w w' := by
  go_enter Try.func32, Try.ntmps32
  go_wp2_with (fail)
  refine (l01New_c v bs _ hv).mono ?_
  rintro e w1 ⟨g, rfl, rfl, hcur, hbel, hsz⟩
  have Hsz := Lib.hid hsz
  clear hsz
  go_wp2_with (fail)
  refine (l01Below_c w.heap.size w.heap.size 3 _ hcur (by decide) (by decide)).mono ?_
  rintro e w2 ⟨r', ⟨hr0, hr1⟩, rfl, hcur2, ho2, hz2⟩
  have Hz2 := Lib.hid hz2; clear hz2
  go_wp2_with (fail)
  refine (l01Below_c w.heap.size w.heap.size 2 _ hcur2 (by decide) (by decide)).mono ?_
  rintro e w3 ⟨c', ⟨hc0, hc1⟩, rfl, hcur3, ho3, hz3⟩
  have Hz3 := Lib.hid hz3; clear hz3
  obtain ⟨r, hr⟩ : ∃ r : Nat, (r : Int) = 1 + r' := ⟨(1 + r').toNat, by omega⟩
  obtain ⟨c, hc⟩ : ∃ c : Nat, (c : Int) = 1 + c' := ⟨(1 + c').toNat, by omega⟩
  have hr3 : 1 ≤ r ∧ r ≤ 3 := by omega
  have hc2 : 1 ≤ c ∧ c ≤ 2 := by omega
  have hz31 : w3.heap.size = w.heap.size + 1 := by rw [← Hz3.out, ← Hz2.out, Hsz.out]
  have hb3 : Below w.heap.size w w3 := (hbel.trans (ho2.below (by rw [Hsz.out]; omega) fun b hb => by subst hb; exact Nat.le_refl _)).trans (ho3.below (by rw [← Hz2.out, Hsz.out]; omega) fun b hb => by subst hb; exact Nat.le_refl _)
  -- the two lists
  obtain ⟨w5, hw5⟩ : ∃ w5, w5 = (w3.alloc (.cells #[] 3)).alloc (.cells #[] 3) := ⟨_, rfl⟩
  have hz5 : w5.heap.size = w.heap.size + 3 := by rw [hw5]; simp; omega
  have hb5 : Below w.heap.size w w5 := by rw [hw5]; exact (hb3.alloc (by omega) _).alloc (by simp; omega) _
  have hp5 : Below w3.heap.size w3 w5 := by rw [hw5]; exact ((Below.refl _ _).alloc (Nat.le_refl _) _).alloc (by simp) _
  have hcur5 := hcur3.keep hp5
  have hoa : Own 3 IntV (fun b => b = w.heap.size + 1) w5 (.slice (some ⟨w.heap.size + 1, 0, none⟩) 0 0) [] := by
    have h := own_lit0 w3 3 w3.heap.size rIntV
    rw [hz31] at h
    rw [hw5]
    exact (rOwn rIntV).same (fun b hb => Below.heap_alloc _ _ _ (by simp; omega)) ((rOwn rIntV).mono (fun b hb => by have h1 := hb.1; have h2 := hb.2; simp at h2; omega) h)
  have hob : Own 3 IntV (fun b => b = w.heap.size + 2) w5 (.slice (some ⟨w.heap.size + 2, 0, none⟩) 0 0) [] := by
    have h := own_lit0 (w3.alloc (.cells #[] 3)) 3 (w3.alloc (.cells #[] 3)).heap.size rIntV
    have hz : (w3.alloc (.cells #[] 3)).heap.size = w.heap.size + 2 := by simp; omega
    rw [hz] at h
    rw [hw5]
    exact (rOwn rIntV).mono (fun b hb => by have h1 := hb.1; have h2 := hb.2; simp at h2; omega) h
  have Hw5 := Lib.hid hw5
  have Hoa := Lib.hid hoa
  have Hob := Lib.hid hob
  have Hhr := Lib.hid hr
  have Hhc := Lib.hid hc
  have hr9 : r' ≤ 2 := by omega
  have hc9 : c' ≤ 1 := by omega
  clear hoa hob hp5 hcur hbel hcur2 hcur3 ho2 ho3 hb3 hr hc
  go_wp2
  subst hw5
  go_loopw [7, 9] (fun va i wr => ∃ (k : Nat) (xs : List Int) (S : Bk), k ≤ r ∧ i = .int .i64 k ∧ xs.length = k ∧ (∀ x ∈ xs, 0 ≤ x ∧ x ≤ c) ∧ Hid (Own 3 IntV S wr va xs) ∧ Hid (∀ b, S b → (b = w.heap.size + 1 ∨ w.heap.size + 3 ≤ b) ∧ b < wr.heap.size) ∧ Hid (Own 3 IntV (fun b => b = w.heap.size + 2) wr (.slice (some ⟨w.heap.size + 2, 0, none⟩) 0 0) []) ∧ Hid (Cur w.heap.size wr w.heap.size) ∧ Hid (Below w.heap.size w wr) ∧ w.heap.size + 3 ≤ wr.heap.size) (fun _ i _ => r - (intOf i).toNat)
  case atStart => exact ⟨0, [], _, Nat.zero_le _, rfl, rfl, by simp, Hoa, fun b hb => ⟨.inl hb, by have hb : b = w.heap.size + 1 := hb; omega⟩, Hob, hcur5, hb5, by omega⟩
  case round =>
    clear Hoa Hob hcur5 hb5
    obtain ⟨k, xs, S, hk, rfl, hxl, hxb, Hown, HS, Hob, Hcur, Hbel, hsz⟩ := hrel
    obtain ⟨wo, rfl⟩ : ∃ wo : World, wo = wr := ⟨_, rfl⟩
    obtain ⟨p1, p2, p3, rfl⟩ := Hown.out.shape
    have Hxb := Lib.hid hxb
    clear hxb
    by_cases hlt : k < r
    · have hd : decide ((k : Int) < 1 + r') = true := by rw [decide_eq_true_eq]; have := Hhr.out; omega
      have hkl : xs.length < 1099511627776 := by omega
      go_wp2_with (fail)
      refine (l01Below_c w.heap.size w.heap.size _ _ Hcur.out (by omega) (by omega)).mono ?_
      rintro e w6 ⟨z, ⟨hz0, hz1⟩, rfl, hcur6, ho6, hz6⟩
      have Hz6 := Lib.hid hz6
      have HO6 := Lib.hid ho6
      have Hcur6 := Lib.hid hcur6
      have hI : I64 z := I64.small (by omega) (by omega)
      have Hk := Lib.hid (Blk.new w6 #[.int .i64 z] 3)
      have Hbx := Lib.hid (Below.pureAlloc w6 (.cells #[.int .i64 z] 3))
      have HoX := Lib.hid ((rOwn rIntV).same (sameOn_below Hbx.out fun b hb => by rw [← Hz6.out]; exact (HS.out b hb).2) ((rOwn rIntV).same (fun b hb => HO6.out.block b (HS.out b hb).2 (fun e => by have := (HS.out b hb).1; have e : b = w.heap.size := e; omega)) Hown.out))
      have hzx : (w6.alloc (.cells #[.int .i64 z] 3)).heap.size = wo.heap.size + 1 := by rw [Hz6.out]; simp
      have Hzx := Lib.hid hzx
      clear hz6 ho6 hcur6 hzx
      go_wp2_with (first | (at_builtin; (refine wpList_app1g (w := w6.alloc (.cells #[.int .i64 z] 3)) (v := .slice p1 p2 p3) (u := .int .i64 z) (x := z) (gb := w6.heap.size) (c := 1) rfl _ _ 41 rfl rIntV 3 Try.underlying41 infoInt rfl (by decide) S (fun _ => False) rfl rfl (by exact Hk.out.cell 0) (by exact HoX.out) (by exact ⟨rfl, hI⟩) (fun _ _ h => h) (fun b hb => by have := (HS.out b hb).2; have := Hzx.out; omega) (fun _ h => h.elim) hkl ?_); intro v7 w7 hown7 honly7) | fail)
      have Hown7 := Lib.hid hown7
      have hs7 := honly7.size
      rw [Hzx.out] at hs7
      have HB7 := Lib.hid (show Below w.heap.size w w7 from ((Hbel.out.trans (HO6.out.below Hbel.out.size fun b hb => by have hb : b = w.heap.size := hb; omega)).trans (Hbx.out.mono (by rw [← Hz6.out]; exact Hbel.out.size))).trans (honly7.below (by rw [Hzx.out]; have := Hbel.out.size; omega) fun b hb => by have := (HS.out b (Hown.out.ownBlock' b hb)).1; omega))
      have hkeep : ∀ b, b < wo.heap.size → b ≠ w.heap.size → ¬ S b → w7.heap[b]? = wo.heap[b]? := fun b h1 h2 h3 => (honly7.block b (by rw [Hzx.out]; omega) (fun hb => h3 (Hown.out.ownBlock' b hb))).trans ((Hbx.out.block b (by rw [← Hz6.out]; exact h1)).trans (HO6.out.block b h1 h2))
      have Hob7 := Lib.hid ((rOwn rIntV).same (fun b hb => hkeep b (by have hb : b = w.heap.size + 2 := hb; omega) (by have hb : b = w.heap.size + 2 := hb; omega) (fun hs => by have := (HS.out b hs).1; have hb : b = w.heap.size + 2 := hb; omega)) Hob.out)
      have Hcur7 := Lib.hid ((Hcur6.out.keep Hbx.out).only honly7 (fun hb => by have := (HS.out _ (Hown.out.ownBlock' _ hb)).1; omega) (fun b hb => by have := (HS.out _ (Hown.out.ownBlock' _ hb)).1; omega))
      have Hxb7 := Lib.hid (show ∀ x ∈ xs ++ [z], 0 ≤ x ∧ x ≤ c from fun x hx => by
        rcases List.mem_append.1 hx with h | h
        · exact Hxb.out x h
        · rw [List.mem_singleton] at h; subst h; have := Hhc.out; omega)
      clear hown7 honly7 hkeep
      go_wp2
      go_roundw
      case rel => exact ⟨k + 1, xs ++ [z], fun b => (S b ∨ False ∨ (w6.alloc (.cells #[.int .i64 z] 3)).heap.size ≤ b) ∧ b < w7.heap.size, by omega, by go_num, by rw [List.length_append, hxl]; rfl, Hxb7.out, Hown7, fun b hb => ⟨hb.1.elim (fun h => (HS.out b h).1) (fun h => h.elim (fun h => h.elim) (fun h => .inr (by have := Hzx.out; omega))), hb.2⟩, Hob7, Hcur7, HB7, by omega⟩
      case measure => simp [intOf]; have := Hhr.out; omega
    · have hd : decide ((k : Int) < 1 + r') = false := by rw [decide_eq_false_iff_not]; have := Hhr.out; omega
      have hkr : xs.length = r := by omega
      go_wp2
      go_loopw [8, 10] (fun vb i wr => ∃ (j : Nat) (ys : List Int) (T : Bk), j ≤ c ∧ i = .int .i64 j ∧ ys.length = j ∧ (∀ y ∈ ys, 0 ≤ y ∧ y ≤ r) ∧ Hid (Own 3 IntV T wr vb ys) ∧ Hid (∀ b, T b → (b = w.heap.size + 2 ∨ wo.heap.size ≤ b) ∧ b < wr.heap.size) ∧ Hid (Own 3 IntV S wr (.slice p1 p2 p3) xs) ∧ Hid (Cur w.heap.size wr w.heap.size) ∧ Hid (Below w.heap.size w wr) ∧ wo.heap.size ≤ wr.heap.size) (fun _ i _ => c - (intOf i).toNat)
      case atStart => exact ⟨0, [], _, Nat.zero_le _, rfl, rfl, by simp, Hob, fun b hb => ⟨.inl hb, by have hb : b = w.heap.size + 2 := hb; omega⟩, Hown, Hcur, Hbel, Nat.le_refl _⟩
      case round =>
        clear Hob Hown Hcur Hbel
        obtain ⟨j, ys, T, hj, rfl, hyl, hyb, Hown, HT, Hoa, Hcur, Hbel, hsz2⟩ := hrel
        obtain ⟨wi, rfl⟩ : ∃ wi : World, wi = wr := ⟨_, rfl⟩
        obtain ⟨q1, q2, q3, rfl⟩ := Hown.out.shape
        have Hyb := Lib.hid hyb
        clear hyb
        by_cases hltj : j < c
        · have hdj : decide ((j : Int) < 1 + c') = true := by rw [decide_eq_true_eq]; have := Hhc.out; omega
          have hkl : ys.length < 1099511627776 := by omega
          go_wp2_with (fail)
          refine (l01Below_c w.heap.size w.heap.size _ _ Hcur.out (by omega) (by omega)).mono ?_
          rintro e w6 ⟨z, ⟨hz0, hz1⟩, rfl, hcur6, ho6, hz6⟩
          have Hz6 := Lib.hid hz6
          have HO6 := Lib.hid ho6
          have Hcur6 := Lib.hid hcur6
          have hI : I64 z := I64.small (by omega) (by omega)
          have Hk := Lib.hid (Blk.new w6 #[.int .i64 z] 3)
          have Hbx := Lib.hid (Below.pureAlloc w6 (.cells #[.int .i64 z] 3))
          have HoX := Lib.hid ((rOwn rIntV).same (sameOn_below Hbx.out fun b hb => by rw [← Hz6.out]; exact (HT.out b hb).2) ((rOwn rIntV).same (fun b hb => HO6.out.block b (HT.out b hb).2 (fun e => by have := (HT.out b hb).1; have e : b = w.heap.size := e; omega)) Hown.out))
          have hzx : (w6.alloc (.cells #[.int .i64 z] 3)).heap.size = wi.heap.size + 1 := by rw [Hz6.out]; simp
          have Hzx := Lib.hid hzx
          clear hz6 ho6 hcur6 hzx
          go_wp2_with (first | (at_builtin; (refine wpList_app1g (w := w6.alloc (.cells #[.int .i64 z] 3)) (v := .slice q1 q2 q3) (u := .int .i64 z) (x := z) (gb := w6.heap.size) (c := 1) rfl _ _ 41 rfl rIntV 3 Try.underlying41 infoInt rfl (by decide) T (fun _ => False) rfl rfl (by exact Hk.out.cell 0) (by exact HoX.out) (by exact ⟨rfl, hI⟩) (fun _ _ h => h) (fun b hb => by have := (HT.out b hb).2; have := Hzx.out; omega) (fun _ h => h.elim) hkl ?_); intro v7 w7 hown7 honly7) | fail)
          have Hown7 := Lib.hid hown7
          have hs7 := honly7.size
          rw [Hzx.out] at hs7
          have HB7 := Lib.hid (show Below w.heap.size w w7 from ((Hbel.out.trans (HO6.out.below Hbel.out.size fun b hb => by have hb : b = w.heap.size := hb; omega)).trans (Hbx.out.mono (by rw [← Hz6.out]; exact Hbel.out.size))).trans (honly7.below (by rw [Hzx.out]; have := Hbel.out.size; omega) fun b hb => by have := (HT.out b (Hown.out.ownBlock' b hb)).1; omega))
          have hkeep : ∀ b, b < wi.heap.size → b ≠ w.heap.size → ¬ T b → w7.heap[b]? = wi.heap[b]? := fun b h1 h2 h3 => (honly7.block b (by rw [Hzx.out]; omega) (fun hb => h3 (Hown.out.ownBlock' b hb))).trans ((Hbx.out.block b (by rw [← Hz6.out]; exact h1)).trans (HO6.out.block b h1 h2))
          have Hoa7 := Lib.hid ((rOwn rIntV).same (fun b hb => hkeep b (by have := (HS.out b hb).2; omega) (by have := (HS.out b hb).1; omega) (fun ht => by have := (HT.out b ht).1; have := HS.out b hb; omega)) Hoa.out)
          have Hcur7 := Lib.hid ((Hcur6.out.keep Hbx.out).only honly7 (fun hb => by have := (HT.out _ (Hown.out.ownBlock' _ hb)).1; omega) (fun b hb => by have := (HT.out _ (Hown.out.ownBlock' _ hb)).1; omega))
          have Hyb7 := Lib.hid (show ∀ y ∈ ys ++ [z], 0 ≤ y ∧ y ≤ r from fun x hx => by
            rcases List.mem_append.1 hx with h | h
            · exact Hyb.out x h
            · rw [List.mem_singleton] at h; subst h; have := Hhr.out; omega)
          clear hown7 honly7 hkeep
          go_wp2
          go_roundw
          case rel => exact ⟨j + 1, ys ++ [z], fun b => (T b ∨ False ∨ (w6.alloc (.cells #[.int .i64 z] 3)).heap.size ≤ b) ∧ b < w7.heap.size, by omega, by go_num, by rw [List.length_append, hyl]; rfl, Hyb7.out, Hown7, fun b hb => ⟨hb.1.elim (fun h => (HT.out b h).1) (fun h => h.elim (fun h => h.elim) (fun h => .inr (by have := Hzx.out; omega))), hb.2⟩, Hoa7, Hcur7, HB7, by omega⟩
          case measure => simp [intOf]; have := Hhc.out; omega
        · have hdj : decide ((j : Int) < 1 + c') = false := by rw [decide_eq_false_iff_not]; have := Hhc.out; omega
          have hyc : ys.length = c := by omega
          go_wp2
          go_ret2
          exact ⟨_, _, xs, ys, rfl, ⟨by omega, by omega⟩, ⟨by omega, by omega⟩, fun x hx => by rw [hyc]; exact Hxb.out x hx, fun y hy => by rw [hkr]; exact Hyb.out y hy, Hoa.out.ints, Hown.out.ints, Hbel.out⟩
end Go.Proofs.Ytekgnpdchpdfiaa

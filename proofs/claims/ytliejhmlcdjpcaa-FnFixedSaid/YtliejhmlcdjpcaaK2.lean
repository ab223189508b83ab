/- Contracts: FixedLine. -/
import Derived.Test.YtliejhmlcdjpcaaK1
import Derived.Test.YtliejhmlcdjpcaaT3
namespace Go.Proofs.Ytliejhmlcdjpcaa
open Go.RowKit

theorem fixedOf_trits (xs ys : List Int) : Trits (fixedOf xs ys) := by
  unfold fixedOf
  cases h : existsB xs ys
  · exact ⟨by simp, by simp⟩
  · rw [if_pos rfl]
    have hok := existsB_ok h
    obtain ⟨-, x5, -, y5, -⟩ := sumsOk_bd hok
    refine ⟨by rw [fixG, imgFn_len]; exact x5, fun row hr => ?_⟩
    unfold fixG imgFn at hr
    obtain ⟨i, hi, rfl⟩ := List.mem_map.1 hr
    refine ⟨by simpa using y5, fun z hz => ?_⟩
    obtain ⟨j, hj, rfl⟩ := List.mem_map.1 hz
    have hb : 0 ≤ at2 ((imgsOf xs ys).headD []) i j ∧ at2 ((imgsOf xs ys).headD []) i j ≤ 1 := by
      obtain ⟨g0, hg0⟩ : ∃ g0, (imgsOf xs ys)[0]? = some g0 := ⟨_, List.getElem?_eq_getElem (List.length_pos_iff.2 (imgsOf_some h))⟩
      rw [headD_of hg0]
      exact at2_bits (imgsOf_shape g0 (List.mem_of_getElem? hg0)).1 i j
    dsimp only
    split <;> omega
def fixedText (xs ys : List Int) : ByteArray := signsOf (fixedOf xs ys)
set_option maxHeartbeats 400000 in
theorem FixedLine_i (v v2 : Value) (xs ys : List Int) (w : World) (hv : Ints w v xs) (hv2 : Ints w v2 ys) : Calls Try.prog 18 #[v, v2] w fun e w' => e = .returned (.string (fixedText xs ys)) ∧ Below w.heap.size w w' := by
  have Hv := Lib.hid hv
  have Hv2 := Lib.hid hv2
  obtain ⟨a, cap, rfl, -⟩ := hv
  obtain ⟨a2, cap2, rfl, -⟩ := hv2
  go_enter Try.func18, Try.ntmps18
  go_wp2_with (fail)
  refine (FixedCells_i _ _ _ _ _ Hv.out Hv2.out).mono ?_
  rintro e w1 ⟨v1, rfl, o1, b1⟩
  have Hg := Lib.hid o1.grid
  obtain ⟨p1, p2, p3, rfl⟩ := o1.shape
  clear o1
  go_wp2_with (fail)
  refine (signs_c _ _ _ Hg.out (fixedOf_trits xs ys)).mono ?_
  rintro e w2 ⟨rfl, b2⟩
  have hb := b1.trans_pure b2 (Nat.le_refl _)
  have Hr := Lib.hid (show fixedText xs ys = signsOf (fixedOf xs ys) from rfl)
  rw [← Hr.out]
  go_wp2
  go_ret
  exact ⟨rfl, hb⟩
theorem sgn_z : sgn 0 = ⟨#[46]⟩ := rfl
theorem sgn_o : sgn 1 = ⟨#[35]⟩ := rfl
theorem sgn_q {x : Int} (h0 : x ≠ 0) (h1 : x ≠ 1) : sgn x = ⟨#[63]⟩ := by unfold sgn; rw [if_neg h0, if_neg h1]
set_option maxRecDepth 100000 in
set_option maxHeartbeats 1000000 in
theorem FixedLine_s (v v2 : Value) (xs ys : List Int) (w : World) (hv : Ints w v xs) (hv2 : Ints w v2 ys) : Calls Try.prog 19 #[v, v2] w fun e w' => e = .returned (.string (fixedText xs ys)) ∧ Below w.heap.size w w' := by
  have Hv := Lib.hid hv
  have Hv2 := Lib.hid hv2
  obtain ⟨a, cap, rfl, -⟩ := hv
  obtain ⟨a2, cap2, rfl, -⟩ := hv2
  have Hb0 := Lib.hid (Below.pureAlloc w (.cells #[] 9))
  have Ho0 := Lib.hid (own_lit0 w 9 w.heap.size rStrV)
  have hz0 : (w.alloc (.cells #[] 9)).heap.size = w.heap.size + 1 := by simp
  have Hz0 := Lib.hid hz0
  have Hr := Lib.hid (show fixedText xs ys = joinB ⟨#[47]⟩ ((fixedOf xs ys).map signRow) from rfl)
  have hm := fixedOf_trits xs ys
  obtain ⟨m, hmm⟩ : ∃ m, m = fixedOf xs ys := ⟨_, rfl⟩
  rw [← hmm] at Hr hm
  have Hmm := Lib.hid hmm
  have hm5 := hm.1
  clear hz0 hmm
  go_enter Try.func19, Try.ntmps19
  go_wp2_with (fail)
  refine (FixedCells_s _ _ xs ys _ (Hv.out.keep Hb0.out) (Hv2.out.keep Hb0.out)).mono ?_
  rintro e w1 ⟨v1, rfl, o1, b1⟩
  rw [← Hmm.out] at o1
  have hs1 := b1.size
  rw [Hz0.out] at o1 hs1
  have HG := Lib.hid (o1.sl (R' := Sl IntV) (fun _ _ _ _ h => h.sl (fun _ _ _ _ h => h) rIntV) (rSl rIntV))
  obtain ⟨am, cm, rfl, -⟩ := id HG.out
  have Ho1 := Lib.hid ((rOwn rStrV).same (sameOn_below b1 fun b hb => hb.2) Ho0.out)
  have Hbb := Lib.hid (Hb0.out.trans_pure b1 (Nat.le_refl _))
  clear o1
  go_wp2
  go_loopw [5, 7, 8, 10, 16] (fun v _ _ _ i wr => ∃ k : Nat, k ≤ m.length ∧ i = .int .i64 k ∧ ∃ S, Hid (Own 9 StrV S wr v ((m.take k).map signRow)) ∧ Hid (∀ b, S b → (b = w.heap.size ∨ w1.heap.size ≤ b) ∧ b < wr.heap.size) ∧ Hid (Only (fun b => b = w.heap.size) w1 wr)) (fun _ _ _ _ i _ => m.length - (intOf i).toNat)
  case atStart => exact ⟨0, Nat.zero_le _, rfl, Iv w.heap.size (w.alloc (.cells #[] 9)).heap.size, by rw [List.take_zero, List.map_nil]; exact Ho1.out, fun b hb => ⟨.inl (by have h1 := hb.1; have h2 := hb.2; rw [Hz0.out] at h2; omega), by have h2 := hb.2; rw [Hz0.out] at h2; omega⟩, Only.refl _ _⟩
  case round =>
    obtain ⟨k, hk, rfl, S, Hown, HS, Honly⟩ := hrel
    obtain ⟨wo, rfl⟩ : ∃ wo : World, wo = wr := ⟨_, rfl⟩
    have hBs := Honly.out.size
    have HGo := Lib.hid ((rSl (rSl rIntV)).same (fun b hb => Honly.out.block b hb.2 (fun e => by have := hb.1; omega)) HG.out)
    by_cases hlt : k < m.length
    · obtain ⟨row, hrow⟩ : ∃ row, m[k]? = some row := ⟨_, List.getElem?_eq_getElem hlt⟩
      obtain ⟨b, off, cpr, he, hb, -⟩ := HGo.out.inv_ne (by omega)
      obtain ⟨rfl, -⟩ : am = some ⟨b, off, none⟩ ∧ cm = cpr := by simpa using he
      obtain ⟨u, hck, hu⟩ := Sl.at HGo.out hrow
      obtain ⟨ar, cpr, rfl, -⟩ := id hu
      obtain ⟨hrl, hrb⟩ := hm.2 row (List.mem_of_getElem? hrow)
      have Hst := Lib.hid (map_sign_take hrow)
      have Hu := Lib.hid (show Ints wo (.slice ar row.length cpr) row from (rSl rIntV).rd hu)
      have hkl : ((m.take k).map signRow).length < 1099511627776 := by simp; omega
      have hdk : decide ((k : Int) < (m.length : Int)) = true := by simp; omega
      obtain ⟨p1, p2, p3, rfl⟩ := Hown.out.shape
      clear hrow hu he
      go_wp2
      clear hck
      go_loop [8, 10, 22] (fun s _ i => ∃ j : Nat, j ≤ row.length ∧ i = .int .i64 j ∧ s = .string (signRow (row.take j))) (fun _ _ i => row.length - (intOf i).toNat)
      case atStart => exact ⟨0, Nat.zero_le _, rfl, rfl⟩
      case round =>
        obtain ⟨j, hj, rfl, rfl⟩ := hrel
        obtain ⟨t, ht⟩ : ∃ t, t = signRow (row.take j) := ⟨_, rfl⟩
        rw [← ht]
        have hts : t.size ≤ 5 := by rw [ht, signRow_size, List.length_take]; omega
        have Ht := Lib.hid ht
        clear ht
        by_cases hltj : j < row.length
        · obtain ⟨x, hx⟩ : ∃ x, row[j]? = some x := ⟨_, List.getElem?_eq_getElem hltj⟩
          obtain ⟨br, offr, cpr2, he2, hbr, -⟩ := Hu.out.inv_ne (by omega)
          obtain ⟨rfl, -⟩ : ar = some ⟨br, offr, none⟩ ∧ cpr = cpr2 := by simpa using he2
          have hcx := Ints.at Hu.out hx
          have Hs := Lib.hid (show signRow (row.take (j + 1)) = t ++ sgn x from by rw [signRow_take hx, ← Ht.out])
          clear hx he2
          by_cases h0 : x = 0
          · subst h0
            have Hg := Lib.hid sgn_z
            go_wp2
            go_round
            case rel => exact ⟨j + 1, by omega, by go_num, by rw [Hs.out, Hg.out]⟩
            case measure => simp [intOf]; omega
          by_cases h1 : x = 1
          · subst h1
            have Hg := Lib.hid sgn_o
            go_wp2
            go_round
            case rel => exact ⟨j + 1, by omega, by go_num, by rw [Hs.out, Hg.out]⟩
            case measure => simp [intOf]; omega
          · have Hg := Lib.hid (sgn_q h0 h1)
            have hn0 : (x == 0) = false := by simpa using h0
            have hn1 : (x == 1) = false := by simpa using h1
            clear h0 h1
            go_wp2
            go_round
            case rel => exact ⟨j + 1, by omega, by go_num, by rw [Hs.out, Hg.out]⟩
            case measure => simp [intOf]; omega
        · have Hf := Lib.hid (show t = signRow row from by rw [Ht.out, List.take_of_length_le (by omega)])
          have hx : t.size ≤ 9223372036854775807 := by omega
          have Hk := Lib.hid (Blk.new wo #[.string t] 9)
          have Hbx := Lib.hid (Below.pureAlloc wo (.cells #[.string t] 9))
          have HoX := Lib.hid ((rOwn rStrV).same (sameOn_below Hbx.out fun b hb => (HS.out b hb).2) Hown.out)
          have hzx : (wo.alloc (.cells #[.string t] 9)).heap.size = wo.heap.size + 1 := by simp
          have Hzx := Lib.hid hzx
          clear hzx
          go_wp2_with (first | (at_builtin; (refine wpList_app1g (w := wo.alloc (.cells #[.string t] 9)) (v := .slice p1 p2 p3) (u := .string t) (x := t) (gb := wo.heap.size) (c := 1) rfl _ _ 46 rfl rStrV 9 Try.underlying46 infoStr rfl (by decide) S (fun _ => False) rfl rfl (by exact Hk.out.cell 0) (by exact HoX.out) (by exact ⟨rfl, hx⟩) (fun _ _ h => h) (fun b hb => by have := (HS.out b hb).2; have := Hzx.out; omega) (fun _ h => h.elim) hkl ?_); intro v2 w2 hown2 honly2; obtain ⟨t1, t2, t3, rfl⟩ := hown2.shape) | fail)
          have Hown2 := Lib.hid hown2
          have HO := Lib.hid ((Honly.out.trans' (Only.of_pure Hbx.out _)).trans' (honly2.mono fun b hb _ => (HS.out b (Hown.out.ownBlock' b hb)).1))
          clear hown2 honly2
          go_wp2
          go_roundw
          case rel => exact ⟨k + 1, by omega, by go_num, fun b => (S b ∨ False ∨ (wo.alloc (.cells #[.string t] 9)).heap.size ≤ b) ∧ b < w2.heap.size, by rw [Hst.out, ← Hf.out]; exact Hown2.out, fun b hb => ⟨hb.1.elim (fun h => (HS.out b h).1) (fun h => h.elim (fun h => h.elim) (fun h => .inr (by have := Hzx.out; omega))), hb.2⟩, HO.out⟩
          case measure => simp [intOf]; omega
    · have hfin := Hown.out
      rw [List.take_of_length_le (by omega)] at hfin
      have Hst := Lib.hid (show Strs wo _ (m.map signRow) from (rSl rStrV).rd (hfin.sl (fun _ _ _ _ h => h) rStrV))
      have Hbk := Lib.hid hm.bulk
      obtain ⟨p1, p2, p3, rfl⟩ := Hown.out.shape
      have hbel : Below w.heap.size w wo := Hbb.out.trans (Honly.out.below (by omega) fun b hb => by have hb : b = w.heap.size := hb; omega)
      clear hfin
      go_wp2_with (fail)
      refine (Join_s _ _ _ _ Hst.out (by have := Hbk.out; omega)).mono ?_
      rintro e w2 ⟨rfl, rfl⟩
      go_wp2
      go_ret
      exact ⟨retS Hr.out.symm, hbel⟩
end Go.Proofs.Ytliejhmlcdjpcaa

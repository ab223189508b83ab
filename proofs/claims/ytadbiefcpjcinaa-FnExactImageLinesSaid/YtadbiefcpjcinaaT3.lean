/- Contracts: texts: FormatImage, ParseImage. -/
import Derived.Test.YtadbiefcpjcinaaT2
namespace Go.Proofs.Ytadbiefcpjcinaa
open Go.RowKit

def formatImage (m : List (List Int)) : ByteArray := if imageOk m then signsOf m else ByteArray.empty
theorem FormatImage_i (v : Value) (m : List (List Int)) (w : World) (hv : Grid w v m) : Calls Try.prog 75 #[v] w fun e w' => e = .returned (.string (formatImage m)) ∧ Below w.heap.size w w' := by
  cases hok : imageOk m
  · have Hr := Lib.hid (show formatImage m = ByteArray.empty from by simp [formatImage, hok])
    have Hok := Lib.hid hok; clear hok
    go_enter Try.func75, Try.ntmps75
    go_wp2_with (fail)
    refine (ImageOk_i _ _ _ hv).mono ?_
    rintro e w' ⟨rfl, rfl⟩
    rw [Hok.out]
    go_wp2
    go_ret
    exact ⟨retS Hr.out.symm, Below.refl _ _⟩
  · have Hr := Lib.hid (show formatImage m = signsOf m from by simp [formatImage, hok])
    have ht := imageOk_trits hok
    have Hok := Lib.hid hok; clear hok
    go_enter Try.func75, Try.ntmps75
    go_wp2_with (fail)
    refine (ImageOk_i _ _ _ hv).mono ?_
    rintro e w' ⟨rfl, rfl⟩
    rw [Hok.out]
    go_wp2_with (fail)
    refine (signs_c _ _ _ hv ht).mono ?_
    rintro e w' ⟨rfl, hb⟩
    go_wp2
    go_ret
    exact ⟨retS Hr.out.symm, hb⟩
theorem sgn01 {c : Int} (h0 : 0 ≤ c) (h1 : c ≤ 1) : (c = 1 → sgn c = ⟨#[35]⟩) ∧ (c ≠ 1 → sgn c = ⟨#[46]⟩) := by
  refine ⟨fun h => by subst h; rfl, fun h => ?_⟩
  have : c = 0 := by omega
  subst this; rfl
set_option maxRecDepth 100000 in
set_option maxHeartbeats 400000 in
theorem FormatImage_s (v : Value) (m : List (List Int)) (w : World) (hv : Grid w v m) : Calls Try.prog 74 #[v] w fun e w' => e = .returned (.string (formatImage m)) ∧ Below w.heap.size w w' := by
  have Hv := Lib.hid hv
  obtain ⟨a, cap0, rfl, -⟩ := hv
  cases hok : imageOk m
  · have Hr := Lib.hid (show formatImage m = ByteArray.empty from by simp [formatImage, hok])
    have Hok := Lib.hid hok; clear hok
    go_enter Try.func74, Try.ntmps74
    go_wp2_with (fail)
    refine (ImageOk_s _ _ _ Hv.out).mono ?_
    rintro e w' ⟨rfl, rfl⟩
    rw [Hok.out]
    go_wp2
    go_ret
    exact ⟨retS Hr.out.symm, Below.refl _ _⟩
  have Hr := Lib.hid (show formatImage m = signsOf m from by simp [formatImage, hok])
  have hm := imageOk_trits hok
  obtain ⟨r, c, hr1, hr5, hc1, hc5, hsh⟩ := imageOk_shape hok
  have hm5 := hm.1
  have Hok := Lib.hid hok; clear hok
  go_enter Try.func74, Try.ntmps74
  go_wp2_with (fail)
  refine (ImageOk_s _ _ _ Hv.out).mono ?_
  rintro e w' ⟨rfl, rfl⟩
  rw [Hok.out]
  go_wp2
  go_loopw [3, 5, 6, 8, 15] (fun v _ _ _ i wr => ∃ k : Nat, k ≤ m.length ∧ i = .int .i64 k ∧ Own 9 StrV (Iv w.heap.size wr.heap.size) wr v ((m.take k).map signRow) ∧ Below w.heap.size w wr) (fun _ _ _ _ i _ => m.length - (intOf i).toNat)
  case atStart => exact ⟨0, Nat.zero_le _, rfl, own_lit0 _ _ _ rStrV, Below.pureAlloc _ _⟩
  case round =>
    obtain ⟨k, hk, rfl, hown, hbel⟩ := hrel
    obtain ⟨wo, rfl⟩ : ∃ wo : World, wo = wr := ⟨_, rfl⟩
    have hBs := hbel.size
    by_cases hlt : k < m.length
    · obtain ⟨row, hrow⟩ : ∃ row, m[k]? = some row := ⟨_, List.getElem?_eq_getElem hlt⟩
      obtain ⟨b, off, cpr, he, hb, -⟩ := Hv.out.inv_ne (by omega)
      obtain ⟨rfl, -⟩ : a = some ⟨b, off, none⟩ ∧ cap0 = cpr := by simpa using he
      obtain ⟨u, hck, hu⟩ := Sl.at Hv.out hrow
      have hu : Ints w u row := hu
      obtain ⟨ar, cpr, rfl, -⟩ := id hu
      rw [← hbel.cell (p := ⟨b, off + k, none⟩) hb] at hck
      obtain ⟨hrl, -⟩ := hm.2 row (List.mem_of_getElem? hrow)
      have hrb := (hsh.2 row (List.mem_of_getElem? hrow)).2
      have Hst := Lib.hid (map_sign_take hrow)
      have Hu := Lib.hid (hu.keep hbel)
      have hkl : ((m.take k).map signRow).length < 1099511627776 := by simp; omega
      have hdk : decide ((k : Int) < (m.length : Int)) = true := by simp; omega
      obtain ⟨p1, p2, p3, rfl⟩ := hown.shape
      have Hown := Lib.hid hown
      clear hrow hu hown he
      go_wp2
      clear hck
      go_loop [6, 8, 21] (fun s _ i => ∃ j : Nat, j ≤ row.length ∧ i = .int .i64 j ∧ s = .string (signRow (row.take j))) (fun _ _ i => row.length - (intOf i).toNat)
      case atStart => exact ⟨0, Nat.zero_le _, rfl, rfl⟩
      case round =>
        obtain ⟨j, hj, rfl, rfl⟩ := hrel
        obtain ⟨t, ht⟩ : ∃ t, t = signRow (row.take j) := ⟨_, rfl⟩
        rw [← ht]
        have hts : t.size ≤ 5 := by rw [ht, signRow_size, List.length_take]; omega
        have Ht := Lib.hid ht
        clear ht
        by_cases hltj : j < row.length
        · obtain ⟨x, hx⟩ : ∃ x, row[j]? = some x := ⟨_, List.getElem?_eq_getElem hltj⟩
          obtain ⟨br, offr, cpr2, he2, hbr, -⟩ := Hu.out.inv_ne (by omega)
          obtain ⟨rfl, -⟩ : ar = some ⟨br, offr, none⟩ ∧ cpr = cpr2 := by simpa using he2
          have hcx := Ints.at Hu.out hx
          obtain ⟨hx0, hx1⟩ := hrb x (List.mem_of_getElem? hx)
          have hsg := sgn01 hx0 hx1
          have Hs := Lib.hid (show signRow (row.take (j + 1)) = t ++ sgn x from by rw [signRow_take hx, ← Ht.out])
          clear hx he2
          by_cases h1 : x = 1
          · have Hg := Lib.hid (hsg.1 h1)
            subst h1
            clear hsg
            go_wp2
            go_round
            case rel => exact ⟨j + 1, by omega, by go_num, by rw [Hs.out, Hg.out]⟩
            case measure => simp [intOf]; omega
          · have Hg := Lib.hid (hsg.2 h1)
            have hne : (x == 1) = false := by simpa using h1
            clear hsg
            go_wp2
            go_round
            case rel => exact ⟨j + 1, by omega, by go_num, by rw [Hs.out, Hg.out]⟩
            case measure => simp [intOf]; omega
        · have Hf := Lib.hid (show t = signRow row from by rw [Ht.out, List.take_of_length_le (by omega)])
          have hx : t.size ≤ 9223372036854775807 := by omega
          go_wp2_with (first | (at_builtin; (refine wpList_appR rfl _ _ 51 rfl rStrV 9 Try.underlying51 infoStr rfl (by decide) w.heap.size wo.heap.size hBs (Nat.le_refl _) rfl rfl (by exact Hown.out) (by exact ⟨rfl, hx⟩) hkl ?_); intro v2 w2 hown2 hbel2 _) | fail)
          have hb2 := hbel.trans hbel2
          have Hown2 := Lib.hid hown2
          clear hown2
          go_wp2
          go_roundw
          case rel => exact ⟨k + 1, by omega, by go_num, by rw [Hst.out, ← Hf.out]; exact Hown2.out, hb2⟩
          case measure => simp [intOf]; omega
    · have hfin := hown
      rw [List.take_of_length_le (by omega)] at hfin
      have hst : Strs wo _ (m.map signRow) := (rSl rStrV).rd (hfin.sl (fun _ _ _ _ h => h) rStrV)
      have Hst := Lib.hid hst
      have Hbk := Lib.hid hm.bulk
      obtain ⟨p1, p2, p3, rfl⟩ := hown.shape
      clear hown hfin hst
      go_wp2_with (fail)
      refine (Join_s _ _ _ _ Hst.out (by have := Hbk.out; omega)).mono ?_
      rintro e w2 ⟨rfl, rfl⟩
      go_wp2
      go_ret
      exact ⟨retS Hr.out.symm, hbel⟩
end Go.Proofs.Ytadbiefcpjcinaa

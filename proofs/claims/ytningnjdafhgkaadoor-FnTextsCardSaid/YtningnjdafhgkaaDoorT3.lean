/- Contracts: texts: Join, signs, FormatImage. Contracts: texts: FormatImage, ParseImage. -/
import Derived.Test.YtningnjdafhgkaaDoorT1
import Derived.Test.YtningnjdafhgkaaDoorShelf
import Derived.Test.YtningnjdafhgkaaDoorC12
namespace Go.Proofs.YtningnjdafhgkaaDoor
open Go.RowKit

theorem retS {b b' : ByteArray} (h : b = b') : Ending.returned (.string b) = Ending.returned (.string b') := by rw [h]
set_option maxHeartbeats 400000 in
theorem Join_s (v : Value) (xs : List ByteArray) (sep : ByteArray) (w : World) (hv : Strs w v xs) (hb : bulkB sep xs ≤ 1099511627776) : Calls Tryd.prog 43 #[v, .string sep] w fun e w' => e = .returned (.string (joinB sep xs)) ∧ w = w' := by
  obtain ⟨a, cap, rfl, hcap, hle, -, hc⟩ := hv
  go_enter Tryd.func43, Tryd.ntmps43
  go_wp2
  go_loop [5, 6, 7, 10] (fun s _ _ i => ∃ k : Nat, k ≤ xs.length ∧ i = .int .i64 k ∧ s = .string (joinB sep (xs.take k))) (fun _ _ _ i => xs.length - (intOf i).toNat)
  case atStart => exact ⟨0, Nat.zero_le _, rfl, rfl⟩
  case round =>
    obtain ⟨k, hk, rfl, rfl⟩ := hrel
    obtain ⟨t, ht⟩ : ∃ t, t = joinB sep (xs.take k) := ⟨_, rfl⟩
    rw [← ht]
    have hts : t.size ≤ 1099511627776 := by
      have h1 := joinB_size sep (xs.take k)
      have h2 := bulkB_take_le sep xs k
      rw [ht]; omega
    have Ht := Lib.hid ht
    clear ht
    by_cases hlt : k < xs.length
    · obtain ⟨b, off, rfl, -, hc'⟩ := hc (by omega)
      obtain ⟨x, hx⟩ : ∃ x, xs[k]? = some x := ⟨_, List.getElem?_eq_getElem hlt⟩
      obtain ⟨u, hck, rfl, -⟩ := hc' k x hx
      have Hs := Lib.hid (joinB_take (sep := sep) hx)
      have hxs : x.size + sep.size + t.size ≤ 1099511627776 := by
        have h1 := joinB_size sep (xs.take k)
        have h2 := bulkB_take_le sep xs (k + 1)
        have h3 := bulkB_append sep (xs.take k) [x]
        rw [show xs.take k ++ [x] = xs.take (k + 1) from by rw [List.take_add_one, hx]; rfl] at h3
        simp only [bulkB] at h3
        rw [← Ht.out] at h1
        omega
      clear hx hc hc'
      by_cases h0 : k = 0
      · subst h0
        have ht0 : t = ByteArray.empty := by rw [Ht.out]; rfl
        subst ht0
        rw [Nat.add_zero] at hck
        go_wp2
        go_round
        case rel => exact ⟨1, by omega, by go_num, by rw [Hs.out]; rfl⟩
        case measure => simp [intOf]; omega
      · have hk0 : decide ((0 : Int) < (k : Int)) = true := by simp; omega
        have Hs2 := Lib.hid (show joinB sep (xs.take (k + 1)) = t ++ sep ++ x from by rw [Hs.out, if_neg h0, ← Ht.out])
        go_wp2
        go_round
        case rel => exact ⟨k + 1, by omega, by go_num, by rw [Hs2.out]⟩
        case measure => simp [intOf]; omega
    · have Hf := Lib.hid (show t = joinB sep xs from by rw [Ht.out, List.take_of_length_le (by omega)])
      go_wp2
      go_ret
      exact ⟨retS Hf.out, rfl⟩
theorem Join_i (v : Value) (xs : List ByteArray) (sep : ByteArray) (w : World) (hv : Strs w v xs) (hb : bulkB sep xs ≤ 1099511627776) (hl : xs.length ≤ 1099511627776) : Calls Tryd.prog 27 #[v, .string sep] w fun e w' => e = .returned (.string (joinB sep xs)) ∧ Below w.heap.size w w' := by
  have hj := joinB_size sep xs
  have hlen : (Lib.join (xs.map (·.data.toList)) sep.data.toList).length ≤ 140737488355328 := by
    have : (joinB sep xs).size = (Lib.join (xs.map (·.data.toList)) sep.data.toList).length := by simp [joinB, ba_size]
    omega
  by_cases h0 : xs = []
  · subst h0
    obtain ⟨a, cap, rfl, -⟩ := hv
    go_enter Tryd.func27, Tryd.ntmps27
    go_wp2_with (first | (go_at_call 40; refine (Tryd.strings_Join_none _ _ _ _).mono ?_; rintro e w' ⟨rfl, rfl⟩))
    go_ret
    exact ⟨rfl, Below.refl _ _⟩
  · have hpos : 0 < xs.length := List.length_pos_iff.2 h0
    obtain ⟨b, off, c, rfl, hbl, hcp⟩ := hv.inv_ne hpos
    have hcells : ∀ (j : Nat) x, xs[j]? = some x → w.cell? ⟨b, off + j, none⟩ = some (.string x) := by
      intro j x hx
      obtain ⟨u, hu, rfl, -⟩ := Sl.at hv hx
      exact hu
    have Hc := Lib.hid hcells
    have Hlen := Lib.hid hlen
    clear hcells hv hlen hj
    go_enter Tryd.func27, Tryd.ntmps27
    go_wp2_with (first | (go_at_call 40; refine (Tryd.strings_Join _ _ _ _ _ _ Hc.out hbl (by omega) hcp Hlen.out).mono ?_; rintro e w' ⟨rfl, hbel⟩))
    go_ret
    exact ⟨rfl, hbel⟩

theorem sgn_i {c : Int} (h0 : -1 ≤ c) (h1 : c ≤ 1) : (⟨#[63, 46, 35]⟩ : ByteArray).extract (c + 1).toNat (c + 2).toNat = sgn c := by
  have : c = -1 ∨ c = 0 ∨ c = 1 := by omega
  rcases this with rfl | rfl | rfl <;> rfl
/-- cells from -1 to 1, no row longer than 1048576, no more than 1048576 rows -/
def Trits (m : List (List Int)) : Prop := m.length ≤ 5 ∧ ∀ r ∈ m, r.length ≤ 5 ∧ ∀ x ∈ r, -1 ≤ x ∧ x ≤ 1
theorem Trits.bulk {m : List (List Int)} (h : Trits m) : bulkB ⟨#[47]⟩ (m.map signRow) ≤ 30 := by
  have h1 := bulkB_le ⟨#[47]⟩ (xs := m.map signRow) (m := 5) (fun x hx => by
    obtain ⟨r, hr, rfl⟩ := List.mem_map.1 hx
    rw [signRow_size]; exact (h.2 r hr).1)
  have h2 : (⟨#[47]⟩ : ByteArray).size = 1 := rfl
  rw [List.length_map, h2] at h1
  have := h.1
  omega
theorem imageOk_trits {m : List (List Int)} (h : imageOk m = true) : Trits m := by
  obtain ⟨r, c, h1, h2, h3, h4, hs⟩ := imageOk_shape h
  refine ⟨by rw [hs.1]; exact h2, fun row hr => ⟨by rw [(hs.2 row hr).1]; exact h4, fun x hx => ?_⟩⟩
  have := (hs.2 row hr).2 x hx
  omega
theorem map_sign_take {m : List (List Int)} {k : Nat} {r : List Int} (h : m[k]? = some r) : (m.take (k + 1)).map signRow = (m.take k).map signRow ++ [signRow r] := by
  rw [List.take_add_one, h]; simp
set_option maxRecDepth 100000 in
set_option maxHeartbeats 400000 in
theorem signs_c (v : Value) (m : List (List Int)) (w : World) (hv : Grid w v m) (hm : Trits m) : Calls Tryd.prog 26 #[v, .string ⟨#[63, 46, 35]⟩] w fun e w' => e = .returned (.string (signsOf m)) ∧ Below w.heap.size w w' := by
  have Hv := Lib.hid hv
  obtain ⟨a, cap0, rfl, -⟩ := hv
  have hm5 := hm.1
  go_enter Tryd.func26, Tryd.ntmps26
  go_wp2
  go_loopw [5, 7, 8, 10, 13] (fun v _ _ _ i wr => ∃ k : Nat, k ≤ m.length ∧ i = .int .i64 k ∧ Own 9 StrV (Iv w.heap.size wr.heap.size) wr v ((m.take k).map signRow) ∧ Below w.heap.size w wr) (fun _ _ _ _ i _ => m.length - (intOf i).toNat)
  case atStart => exact ⟨0, Nat.zero_le _, rfl, Own.nil _ _ _ _, Below.refl _ _⟩
  case round =>
    obtain ⟨k, hk, rfl, hown, hbel⟩ := hrel
    obtain ⟨wo, rfl⟩ : ∃ wo : World, wo = wr := ⟨_, rfl⟩
    have hBs := hbel.size
    by_cases hlt : k < m.length
    · obtain ⟨row, hrow⟩ : ∃ row, m[k]? = some row := ⟨_, List.getElem?_eq_getElem hlt⟩
      obtain ⟨b, off, cpr, he, hb, -⟩ := Hv.out.inv_ne (by omega)
      obtain ⟨rfl, -⟩ : a = some ⟨b, off, none⟩ ∧ cap0 = cpr := by simpa using he
      obtain ⟨u, hck, hu⟩ := Sl.at Hv.out hrow
      have hu : Ints w u row := hu
      obtain ⟨ar, cpr, rfl, -⟩ := id hu
      rw [← hbel.cell (p := ⟨b, off + k, none⟩) hb] at hck
      obtain ⟨hrl, hrb⟩ := hm.2 row (List.mem_of_getElem? hrow)
      have Hst := Lib.hid (map_sign_take hrow)
      have Hu := Lib.hid (hu.keep hbel)
      have hkl : ((m.take k).map signRow).length < 1099511627776 := by simp; omega
      have hdk : decide ((k : Int) < (m.length : Int)) = true := by simp; omega
      obtain ⟨p1, p2, p3, rfl⟩ := hown.shape
      have Hown := Lib.hid hown
      clear hrow hu hown he
      go_wp2
      clear hck
      go_loop [8, 10, 19] (fun s _ i => ∃ j : Nat, j ≤ row.length ∧ i = .int .i64 j ∧ s = .string (signRow (row.take j))) (fun _ _ i => row.length - (intOf i).toNat)
      case atStart => exact ⟨0, Nat.zero_le _, rfl, rfl⟩
      case round =>
        obtain ⟨j, hj, rfl, rfl⟩ := hrel
        obtain ⟨t, ht⟩ : ∃ t, t = signRow (row.take j) := ⟨_, rfl⟩
        rw [← ht]
        have hts : t.size ≤ 5 := by rw [ht, signRow_size, List.length_take]; omega
        have Ht := Lib.hid ht
        clear ht
        by_cases hltj : j < row.length
        · obtain ⟨x, hx⟩ : ∃ x, row[j]? = some x := ⟨_, List.getElem?_eq_getElem hltj⟩
          obtain ⟨br, offr, cpr2, he2, hbr, -⟩ := Hu.out.inv_ne (by omega)
          obtain ⟨rfl, -⟩ : ar = some ⟨br, offr, none⟩ ∧ cpr = cpr2 := by simpa using he2
          have hcx := Ints.at Hu.out hx
          obtain ⟨hx0, hx1⟩ := hrb x (List.mem_of_getElem? hx)
          have Hs := Lib.hid (show signRow (row.take (j + 1)) = t ++ (⟨#[63, 46, 35]⟩ : ByteArray).extract (x + 1).toNat (x + 2).toNat from by rw [signRow_take hx, ← Ht.out, sgn_i hx0 hx1])
          clear hx he2
          go_wp2
          go_round
          case rel => exact ⟨j + 1, by omega, by go_num, by rw [Hs.out]⟩
          case measure => simp [intOf]; omega
        · have Hf := Lib.hid (show t = signRow row from by rw [Ht.out, List.take_of_length_le (by omega)])
          have hx : t.size ≤ 9223372036854775807 := by omega
          go_wp2_with (first | (at_builtin; (refine wpList_appR rfl _ _ 39 rfl rStrV 9 Tryd.underlying39 infoStr rfl (by decide) w.heap.size wo.heap.size hBs (Nat.le_refl _) rfl rfl (by exact Hown.out) (by exact ⟨rfl, hx⟩) hkl ?_); intro v2 w2 hown2 hbel2 _) | fail)
          have hb2 := hbel.trans hbel2
          have Hown2 := Lib.hid hown2
          clear hown2
          go_wp2
          go_roundw
          case rel => exact ⟨k + 1, by omega, by go_num, by rw [Hst.out, ← Hf.out]; exact Hown2.out, hb2⟩
          case measure => simp [intOf]; omega
    · have hfin := hown
      rw [List.take_of_length_le (by omega)] at hfin
      have hst : Strs wo _ (m.map signRow) := (rSl rStrV).rd (hfin.sl (fun _ _ _ _ h => h) rStrV)
      have Hst := Lib.hid hst
      have Hbk := Lib.hid hm.bulk
      obtain ⟨p1, p2, p3, rfl⟩ := hown.shape
      clear hown hfin hst
      go_wp2_with (fail)
      refine (Join_i _ _ _ _ Hst.out (by have := Hbk.out; omega) (by simp; omega)).mono ?_
      rintro e w2 ⟨rfl, hb2⟩
      have hb3 := hbel.trans (hb2.mono hBs)
      go_wp2
      go_ret
      exact ⟨rfl, hb3⟩
end Go.Proofs.YtningnjdafhgkaaDoor

namespace Go.Proofs.YtningnjdafhgkaaDoor
open Go.RowKit

def formatImage (m : List (List Int)) : ByteArray := if imageOk m then signsOf m else ByteArray.empty
theorem FormatImage_i (v : Value) (m : List (List Int)) (w : World) (hv : Grid w v m) : Calls Tryd.prog 13 #[v] w fun e w' => e = .returned (.string (formatImage m)) ∧ Below w.heap.size w w' := by
  cases hok : imageOk m
  · have Hr := Lib.hid (show formatImage m = ByteArray.empty from by simp [formatImage, hok])
    have Hok := Lib.hid hok; clear hok
    go_enter Tryd.func13, Tryd.ntmps13
    go_wp2_with (fail)
    refine (ImageOk_i _ _ _ hv).mono ?_
    rintro e w' ⟨rfl, rfl⟩
    rw [Hok.out]
    go_wp2
    go_ret
    exact ⟨retS Hr.out.symm, Below.refl _ _⟩
  · have Hr := Lib.hid (show formatImage m = signsOf m from by simp [formatImage, hok])
    have ht := imageOk_trits hok
    have Hok := Lib.hid hok; clear hok
    go_enter Tryd.func13, Tryd.ntmps13
    go_wp2_with (fail)
    refine (ImageOk_i _ _ _ hv).mono ?_
    rintro e w' ⟨rfl, rfl⟩
    rw [Hok.out]
    go_wp2_with (fail)
    refine (signs_c _ _ _ hv ht).mono ?_
    rintro e w' ⟨rfl, hb⟩
    go_wp2
    go_ret
    exact ⟨retS Hr.out.symm, hb⟩
theorem sgn01 {c : Int} (h0 : 0 ≤ c) (h1 : c ≤ 1) : (c = 1 → sgn c = ⟨#[35]⟩) ∧ (c ≠ 1 → sgn c = ⟨#[46]⟩) := by
  refine ⟨fun h => by subst h; rfl, fun h => ?_⟩
  have : c = 0 := by omega
  subst this; rfl
end Go.Proofs.YtningnjdafhgkaaDoor

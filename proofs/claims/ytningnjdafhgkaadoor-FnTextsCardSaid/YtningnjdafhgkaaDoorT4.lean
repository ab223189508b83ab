/- Contracts: texts: ParseImage. -/
import Derived.Test.YtningnjdafhgkaaDoorT3
import Derived.Test.YtningnjdafhgkaaDoorC24
namespace Go.Proofs.YtningnjdafhgkaaDoor
open Go.RowKit

def parsed (s : ByteArray) : List (List Int) := (splitB s 47).map rowB
def parseOk (s : ByteArray) : Bool := (splitB s 47).all plainB && imageOk (parsed s)
def parseImg (s : ByteArray) : List (List Int) := if parseOk s then parsed s else []
def ParseRes (w : World) (s : ByteArray) (e : Ending) (w' : World) : Prop :=
  ∃ v', e = .returned (.tuple #[v', .bool (parseOk s)]) ∧ Own 22 (Own 3 IntV) (Iv w.heap.size w'.heap.size) w' v' (parseImg s) ∧ Below w.heap.size w w'
theorem parseImg_bd (s : ByteArray) : (parseImg s).length ≤ 5 ∧ cells (parseImg s) ≤ 25 := by
  unfold parseImg
  cases h : parseOk s
  · simp [cells]
  · have h2 : imageOk (parsed s) = true := by unfold parseOk at h; rw [Bool.and_eq_true] at h; exact h.2
    obtain ⟨r, c, h1, h2, h3, h4, hs⟩ := imageOk_shape h2
    refine ⟨by simp only [if_true]; rw [hs.1]; exact h2, ?_⟩
    simp only [if_true]
    unfold cells
    have h5 : ∀ x ∈ ((parsed s).map List.length), x ≤ 5 := by
      intro x hx
      obtain ⟨r', hr, rfl⟩ := List.mem_map.1 hx
      rw [(hs.2 r' hr).1]; exact h4
    have := sum_le_of5 h5
    rw [List.length_map, hs.1] at this
    omega
theorem parseOk_s (s : ByteArray) : parseOk s = (imageOk (parsed s) && decide (formatImage (parsed s) = s)) := by
  unfold parseOk formatImage
  cases h : imageOk (parsed s)
  · simp
  · simp only [if_true, Bool.and_true, Bool.true_and]
    have := signs_split s
    unfold parsed
    cases h2 : (splitB s 47).all plainB
    · rw [h2] at this; simp at this; simp [this]
    · rw [h2] at this; simp at this; simp [this]
theorem rowB_take {s : ByteArray} {k : Nat} {b : UInt8} (h : s.data.toList[k]? = some b) : (rowB s).take (k + 1) = (rowB s).take k ++ [cellB b] := by
  unfold rowB
  rw [List.take_add_one, List.getElem?_map, h]; rfl
theorem plain_bad {s : ByteArray} {k : Nat} {b : UInt8} (h : s.data.toList[k]? = some b) (h1 : b ≠ 35) (h2 : b ≠ 46) : plainB s = false := by
  unfold plainB
  rw [List.all_eq_false]
  exact ⟨b, List.mem_of_getElem? h, by simp [h1, h2]⟩
theorem plain_step {s : ByteArray} {k : Nat} {b : UInt8} (h : s.data.toList[k]? = some b) (h1 : b = 35 ∨ b = 46) (hp : (s.data.toList.take k).all (fun b => b == 35 || b == 46) = true) : (s.data.toList.take (k + 1)).all (fun b => b == 35 || b == 46) = true := by
  rw [List.take_add_one, h, List.all_append, hp]
  rcases h1 with rfl | rfl <;> rfl
theorem map_rowB_take {ps : List ByteArray} {k : Nat} {p : ByteArray} (h : ps[k]? = some p) : (ps.take (k + 1)).map rowB = (ps.take k).map rowB ++ [rowB p] := by
  rw [List.take_add_one, h]; simp
theorem u8_eq {a b : UInt8} (h : a = b) : ((a.toNat : Int) == (b.toNat : Int)) = true := by rw [h]; simp
theorem u8_ne {a b : UInt8} (h : a ≠ b) : ((a.toNat : Int) == (b.toNat : Int)) = false := by
  rw [beq_eq_false_iff_ne]; intro e; exact h (UInt8.toNat_inj.1 (by omega))

theorem ba_toList_inj {a b : ByteArray} (h : a.toList = b.toList) : a = b := ba_ext (by rw [ByteArray.toList_eq, ByteArray.toList_eq] at h; exact h)
theorem ba_neq {a b : ByteArray} (h : a ≠ b) : (a.toList == b.toList) = false := by rw [beq_eq_false_iff_ne]; exact fun e => h (ba_toList_inj e)
theorem rowB_full (q : ByteArray) : (rowB q).take q.size = rowB q := List.take_of_length_le (by rw [ba_size]; exact Nat.le_of_eq (List.length_map _))
def SpOut (lo mid hi : Nat) : Bk := fun b => (b = lo ∨ mid ≤ b) ∧ b < hi
/-- and nil where there is no image -/
def ParseResN (w : World) (s : ByteArray) (e : Ending) (w' : World) : Prop := ParseRes w s e w' ∧ (parseOk s = false → e = .returned (.tuple #[.slice none 0 0, .bool false]))
set_option maxRecDepth 100000 in
set_option maxHeartbeats 800000 in
theorem ParseImage_in (s : ByteArray) (w : World) (hs : s.size ≤ 1048576) : Calls Tryd.prog 12 #[.string s] w (ParseResN w s) := by
  go_enter Tryd.func12, Tryd.ntmps12
  go_wp2_with (fail)
  refine (SplitAny_i _ _ _ hs).mono ?_
  rintro e w1 ⟨v1, rfl, own1, bel1⟩
  have hps := splitB_len s 47
  have hsz := splitB_part_size s 47
  obtain ⟨ps, hpe⟩ : ∃ ps, ps = splitB s 47 := ⟨_, rfl⟩
  have Hpe := Lib.hid hpe
  rw [← hpe] at own1 hps hsz
  have hst : Strs w1 v1 ps := (rSl rStrV).rd (own1.sl (fun _ _ _ _ h => h) rStrV)
  have Hv := Lib.hid hst
  have hB1 := bel1.size
  have Hsz := Lib.hid hsz
  obtain ⟨a, cap0, rfl, -⟩ := hst
  clear hpe own1 hsz
  go_wp2
  go_loopw [4, 6, 7, 8, 12] (fun v _ _ _ i wr => ∃ k : Nat, k ≤ ps.length ∧ i = .int .i64 k ∧ (ps.take k).all plainB = true ∧ Own 22 (Own 3 IntV) (Iv w1.heap.size wr.heap.size) wr v ((ps.take k).map rowB) ∧ Below w1.heap.size w1 wr) (fun _ _ _ _ i _ => ps.length - (intOf i).toNat)
  case atStart => exact ⟨0, Nat.zero_le _, rfl, rfl, Own.nil _ _ _ _, Below.refl _ _⟩
  case round =>
    obtain ⟨k, hk, rfl, hall, hown, hbel1⟩ := hrel
    obtain ⟨wo, rfl⟩ : ∃ wo : World, wo = wr := ⟨_, rfl⟩
    have hbel := bel1.trans (hbel1.mono hB1)
    have hBs := hbel1.size
    have hBw := hbel.size
    have Hall := Lib.hid hall; clear hall
    by_cases hlt : k < ps.length
    · obtain ⟨q, hq⟩ : ∃ q, ps[k]? = some q := ⟨_, List.getElem?_eq_getElem hlt⟩
      obtain ⟨b, off, cpr, he, hb, -⟩ := Hv.out.inv_ne (by omega)
      obtain ⟨rfl, -⟩ : a = some ⟨b, off, none⟩ ∧ cap0 = cpr := by simpa using he
      obtain ⟨u, hck, rfl, -⟩ := Sl.at Hv.out hq
      rw [← hbel1.cell (p := ⟨b, off + k, none⟩) hb] at hck
      have hqs : q.size ≤ 1048576 := by have := Hsz.out q (List.mem_of_getElem? hq); omega
      have Hst := Lib.hid (map_rowB_take hq)
      have Has := Lib.hid (all_take_step plainB hq)
      have Hq := Lib.hid hq
      have hkl : ((ps.take k).map rowB).length < 1099511627776 := by simp; omega
      have hdk : decide ((k : Int) < (ps.length : Int)) = true := by simp; omega
      obtain ⟨p1, p2, p3, rfl⟩ := hown.shape
      have Hown := Lib.hid hown
      clear hq hown he
      go_wp2
      clear hck
      go_loopw [7, 8] (fun v i wr => ∃ j : Nat, j ≤ q.size ∧ i = .int .i64 j ∧ (q.data.toList.take j).all (fun b => b == 35 || b == 46) = true ∧ Own 3 IntV (Iv wo.heap.size wr.heap.size) wr v ((rowB q).take j) ∧ Below wo.heap.size wo wr) (fun _ i _ => q.size - (intOf i).toNat)
      case atStart => exact ⟨0, Nat.zero_le _, rfl, rfl, Own.nil _ _ _ _, Below.refl _ _⟩
      case round =>
        obtain ⟨j, hj, rfl, hpl, hown3, hbel3⟩ := hrel
        obtain ⟨wi, rfl⟩ : ∃ wi : World, wi = wr := ⟨_, rfl⟩
        have hB3 := hbel3.size
        have Hpl := Lib.hid hpl; clear hpl
        obtain ⟨r1, r2, r3, rfl⟩ := hown3.shape
        have Hown3 := Lib.hid hown3
        have hjl : ((rowB q).take j).length < 1099511627776 := by rw [List.length_take]; omega
        clear hown3
        by_cases hltj : j < q.size
        · have hat := ba_at hltj
          have Hr := Lib.hid (rowB_take hat)
          have Hat := Lib.hid hat
          clear hat
          by_cases h35 : q[j] = 35
          · have Hcell := Lib.hid (show cellB q[j] = 1 from by rw [h35]; rfl)
            have Hpn := Lib.hid (plain_step Hat.out (.inl h35) Hpl.out)
            have heq : ((q[j].toNat : Int) == 35) = true := u8_eq h35
            clear h35
            go_wp2_with (first | (at_builtin; (refine wpList_appR rfl _ _ 22 rfl rIntV 3 Tryd.underlying22 infoInt rfl (by decide) wo.heap.size wi.heap.size hB3 (Nat.le_refl _) rfl rfl (by exact Hown3.out) (by exact ⟨rfl, I64.small (by decide) (by decide)⟩) hjl ?_); intro v4 w4 hown4 hbel4 _) | fail)
            have hb4 := hbel3.trans hbel4
            have Hown4 := Lib.hid hown4
            clear hown4
            go_wp2
            go_roundw
            case rel => exact ⟨j + 1, by omega, by go_num, Hpn.out, by rw [Hr.out, Hcell.out]; exact Hown4.out, hb4⟩
            case measure => simp [intOf]; omega
          · by_cases h46 : q[j] = 46
            · have Hcell := Lib.hid (show cellB q[j] = 0 from by rw [h46]; rfl)
              have Hpn := Lib.hid (plain_step Hat.out (.inr h46) Hpl.out)
              have heq : ((q[j].toNat : Int) == 35) = false := u8_ne h35
              have heq2 : ((q[j].toNat : Int) == 46) = true := u8_eq h46
              clear h46 h35
              go_wp2_with (first | (at_builtin; (refine wpList_appR rfl _ _ 22 rfl rIntV 3 Tryd.underlying22 infoInt rfl (by decide) wo.heap.size wi.heap.size hB3 (Nat.le_refl _) rfl rfl (by exact Hown3.out) (by exact ⟨rfl, I64.small (by decide) (by decide)⟩) hjl ?_); intro v4 w4 hown4 hbel4 _) | fail)
              have hb4 := hbel3.trans hbel4
              have Hown4 := Lib.hid hown4
              clear hown4
              go_wp2
              go_roundw
              case rel => exact ⟨j + 1, by omega, by go_num, Hpn.out, by rw [Hr.out, Hcell.out]; exact Hown4.out, hb4⟩
              case measure => simp [intOf]; omega
            · have heq : ((q[j].toNat : Int) == 35) = false := u8_ne h35
              have heq2 : ((q[j].toNat : Int) == 46) = false := u8_ne h46
              have hbad : (splitB s 47).all plainB = false := by rw [← Hpe.out]; exact all_of_take _ Hq.out (plain_bad Hat.out h35 h46)
              have Hok := Lib.hid (show parseOk s = false from by unfold parseOk; rw [hbad]; rfl)
              have Him := Lib.hid (show parseImg s = [] from by unfold parseImg; rw [Hok.out]; rfl)
              clear h35 h46 hbad
              go_wp2
              have hbf := hbel.trans (hbel3.mono hBw)
              refine bodyPost_ret (v := .tuple #[.slice none 0 0, .bool false]) (by simp [results, Tryd.results12, go_sem]) rfl ⟨⟨_, by rw [Hok.out], by rw [Him.out]; exact Own.nil _ _ _ _, hbf⟩, fun _ => rfl⟩
        · obtain rfl : j = q.size := by omega
          have Hpq := Lib.hid (show plainB q = true from by have := Hpl.out; rw [List.take_of_length_le (Nat.le_of_eq (ba_size q).symm)] at this; exact this)
          have Hrq := Lib.hid (rowB_full q)
          have hbo := hbel1.trans (hbel3.mono hBs)
          go_wp2_with (first | (at_builtin; (refine wpList_appR rfl _ _ 29 rfl (rOwn rIntV) 22 Tryd.underlying29 infoInts rfl (by decide) w1.heap.size wo.heap.size hBs hB3 rfl rfl (by exact Own.keep (rOwn rIntV) Hown.out hbel3 (Nat.le_refl _)) (by exact Hown3.out) hkl ?_); intro v2 w2 hown2 hbel2 _) | fail)
          have hb2 := hbo.trans hbel2
          have Hown2 := Lib.hid hown2
          clear hown2
          go_wp2
          go_roundw
          case rel => exact ⟨k + 1, by omega, by go_num, by rw [Has.out, Hall.out, Hpq.out]; rfl, by rw [Hst.out, ← Hrq.out]; exact Hown2.out, hb2⟩
          case measure => simp [intOf]; omega
    · have Hpa := Lib.hid (show (splitB s 47).all plainB = true from by rw [← Hpe.out]; exact all_done Hall.out (by omega))
      have hfin := hown
      rw [List.take_of_length_le (by omega)] at hfin
      have hpe2 : ps.map rowB = parsed s := by rw [Hpe.out]; rfl
      rw [hpe2] at hfin
      have Hg := Lib.hid (hfin.grid)
      have Hfin := Lib.hid ((rOwn (rOwn rIntV)).mono (S' := Iv w.heap.size wo.heap.size) (fun b hb => ⟨by have := hb.1; omega, hb.2⟩) hfin)
      obtain ⟨p1, p2, p3, rfl⟩ := hown.shape
      clear hown hfin hpe2
      cases hok : imageOk (parsed s)
      · have Hok := Lib.hid hok
        have Hpo := Lib.hid (show parseOk s = false from by unfold parseOk; rw [Hok.out]; simp)
        have Him := Lib.hid (show parseImg s = [] from by unfold parseImg; rw [Hpo.out]; rfl)
        clear hok
        go_wp2_with (fail)
        refine (ImageOk_i _ _ _ Hg.out).mono ?_
        rintro e w' ⟨rfl, rfl⟩
        rw [Hok.out]
        go_wp2
        refine bodyPost_ret (v := .tuple #[.slice none 0 0, .bool false]) (by simp [results, Tryd.results12, go_sem]) rfl ⟨⟨_, by rw [Hpo.out], by rw [Him.out]; exact Own.nil _ _ _ _, hbel⟩, fun _ => rfl⟩
      · have Hok := Lib.hid hok
        have Hpo := Lib.hid (show parseOk s = true from by unfold parseOk; rw [Hok.out, Hpa.out]; rfl)
        have Him := Lib.hid (show parseImg s = parsed s from by unfold parseImg; rw [Hpo.out]; rfl)
        clear hok
        go_wp2_with (fail)
        refine (ImageOk_i _ _ _ Hg.out).mono ?_
        rintro e w' ⟨rfl, rfl⟩
        rw [Hok.out]
        go_wp2
        refine bodyPost_ret (v := .tuple #[.slice p1 p2 p3, .bool true]) (by simp [results, Tryd.results12, go_sem]) rfl ⟨⟨_, by rw [Hpo.out], by rw [Him.out]; exact Hfin.out, hbel⟩, fun hz => by rw [Hpo.out] at hz; cases hz⟩
theorem ParseImage_i (s : ByteArray) (w : World) (hs : s.size ≤ 1048576) : Calls Tryd.prog 12 #[.string s] w (ParseRes w s) := (ParseImage_in s w hs).mono fun _ _ h => h.1
end Go.Proofs.YtningnjdafhgkaaDoor

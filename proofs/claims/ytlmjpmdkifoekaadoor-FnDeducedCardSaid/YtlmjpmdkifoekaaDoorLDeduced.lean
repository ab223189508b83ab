/- FnDeduced: the walk of the law. -/
import Derived.Test.YtlmjpmdkifoekaaDoorDedL
import Derived.Test.YtlmjpmdkifoekaaDoorW3
import Derived.Test.YtlmjpmdkifoekaaDoorW6
import Derived.Test.YtlmjpmdkifoekaaDoorC9
namespace Go.Proofs.YtlmjpmdkifoekaaDoor
open Go.RowKit

theorem puzzleHead_pos (S : List (List (List Int))) : 0 < (puzzleHead S).size := by
  have e1 : (⟨#[32, 115, 111, 108, 117, 116, 105, 111, 110, 115]⟩ : ByteArray).size = 10 := rfl
  unfold puzzleHead
  cases S with
  | nil => simp only [ba_append_size, e1]; omega
  | cons x l => simp only [ba_append_size, e1]; omega
theorem puzzleLine_pos {R C : List (List Int)} (h : puzzleOk R C = true) : 0 < (puzzleLineOf R C).size := by
  have := puzzleHead_pos (solutions R C)
  unfold puzzleLineOf
  rw [if_pos h]
  split
  · rw [ba_append_size]; omega
  · exact this
/-- some cell is open -/
def OpenC (r c : Nat) (d : List (List Int)) : Prop := ∃ y x, y < r ∧ x < c ∧ at2 d y x = -1
/-- the rows of a list of lists, as every later world has them -/
def RowsAt (w : World) (b off r c : Nat) (m : List (List Int)) : Prop := ∀ y, y < r → ∃ br offr cpr, (∀ w', Below w.heap.size w w' → w'.cell? ⟨b, off + y, none⟩ = some (.slice (some ⟨br, offr, none⟩) c cpr)) ∧ ∀ x, x < c → ∀ w', Below w.heap.size w w' → w'.cell? ⟨br, offr + x, none⟩ = some (.int .i64 (at2 m y x))
theorem Grid.rowsT {w : World} {v : Value} {m : List (List Int)} {r c : Nat} (h : Grid w v m) (hs : TRect r c m) (hr : 1 ≤ r) (hc : 1 ≤ c) : ∃ b off cp, v = .slice (some ⟨b, off, none⟩) r cp ∧ b < w.heap.size ∧ RowsAt w b off r c m := by
  have hml := hs.1
  obtain ⟨b, off, cp, rfl, hb, -⟩ := h.inv_ne (by omega)
  refine ⟨b, off, cp, by rw [hml], hb, fun y hy => ?_⟩
  obtain ⟨hrow, hrl, -⟩ := hs.row hy
  obtain ⟨u, hck, hu⟩ := Sl.at h hrow
  have hu : Ints w u (m.getD y []) := hu
  obtain ⟨br, offr, cpr, rfl, hbr, -⟩ := hu.inv_ne (by omega)
  refine ⟨br, offr, cpr, fun w' hw => by rw [hw.cell (p := ⟨b, off + y, none⟩) hb, hck, hrl], fun x hx w' hw => ?_⟩
  obtain ⟨z, hz⟩ : ∃ z, (m.getD y [])[x]? = some z := ⟨_, List.getElem?_eq_getElem (by omega)⟩
  rw [hw.cell (p := ⟨br, offr + x, none⟩) hbr, Ints.at hu hz]
  unfold at2
  rw [List.getD_eq_getElem?_getD (l := m.getD y []), hz]; rfl
theorem RowsAt.keep {w w2 : World} {b off r c : Nat} {m : List (List Int)} (h : RowsAt w b off r c m) (hb : Below w.heap.size w w2) : RowsAt w2 b off r c m := fun y hy => by
  obtain ⟨br, offr, cpr, h1, h2⟩ := h y hy
  exact ⟨br, offr, cpr, fun w' hw => h1 w' (hb.trans_pure hw (Nat.le_refl _)), fun x hx w' hw => h2 x hx w' (hb.trans_pure hw (Nat.le_refl _))⟩
theorem logical_open {r c : Nat} {m R C d : List (List Int)} (h : DedOk r c m R C d) (hr1 : 1 ≤ r) (hr5 : r ≤ 5) (hc1 : 1 ≤ c) (hc5 : c ≤ 5) : (isLogical R C = true ↔ ¬ OpenC r c d) := by
  have e : isLogical R C = imageOk d := by unfold isLogical; rw [h.ded]
  rw [e, rect_image h.rect hr1 hr5 hc1 hc5, List.all_eq_true]
  constructor
  · rintro ha ⟨y, x, hy, hx, hd⟩
    obtain ⟨hrow, hrl, -⟩ := h.rect.row hy
    have h1 := ha _ (List.mem_of_getElem? hrow)
    rw [Bool.not_eq_true', ← Bool.not_eq_true] at h1
    refine h1 (List.any_eq_true.2 ⟨_, List.mem_of_getElem? (gD_at 0 (l := d.getD y []) (i := x) (by omega)), ?_⟩)
    rw [beq_iff_eq]
    exact hd
  · intro hn row hrow
    rw [Bool.not_eq_true', ← Bool.not_eq_true]
    intro ha
    obtain ⟨z, hz, hz1⟩ := List.any_eq_true.1 ha
    rw [beq_iff_eq] at hz1
    obtain ⟨y, hy, rfl⟩ := List.getElem_of_mem hrow
    obtain ⟨x, hx, rfl⟩ := List.getElem_of_mem hz
    refine hn ⟨y, x, by rw [← h.rect.1]; exact hy, by rw [← (h.rect.2 _ hrow).1]; exact hx, ?_⟩
    unfold at2
    rw [List.getD_eq_getElem?_getD (l := d), List.getElem?_eq_getElem hy, Option.getD_some, List.getD_eq_getElem?_getD, List.getElem?_eq_getElem hx]
    exact hz1
theorem ba_ne_nil {T : ByteArray} (h : 0 < T.size) : T.toList.isEmpty = false := by
  rw [ByteArray.toList_eq, List.isEmpty_eq_false_iff]
  intro e
  have h2 := congrArg List.length e
  rw [Array.length_toList, List.length_nil] at h2
  have h3 : T.size = T.data.size := rfl
  omega
theorem pz_rows {r c : Nat} {m : List (List Int)} (hs : Shape r c m) (h1 : 1 ≤ r) (h5 : r ≤ 5) (hc1 : 1 ≤ c) (hc5 : c ≤ 5) : (∀ x ∈ pzRows m, x.length ≤ 1048576) ∧ (∀ x ∈ pzCols m, x.length ≤ 1048576) := by
  have hio := hs.ok h1 h5 hc1 hc5
  unfold pzRows pzCols
  rw [if_pos hio, if_pos hio]
  constructor
  · intro x hx
    obtain ⟨l, hl, rfl⟩ := List.mem_map.1 hx
    have := runsOf_len l
    have := (hs.2 l hl).1
    omega
  · intro x hx
    obtain ⟨l, hl, rfl⟩ := List.mem_map.1 hx
    have := runsOf_len l
    have := ((hs.tr h1).2 l hl).1
    omega
set_option maxRecDepth 100000 in
set_option maxHeartbeats 3200000 in
theorem FnDeduced_w {v : Value} {bs : List Int} {w : World} (hv : Bytes w v bs) (ht : Tab w) :
    Calls Tryd.prog 4 #[v] w fun e w' => e = .returned (.bool true) ∧ Below w.heap.size w w' := by
  obtain ⟨a, cap, rfl, -, -, -, -⟩ := id hv
  rcases Nat.lt_or_ge 1048576 bs.length with h1 | h1
  · go_enter Tryd.func4, Tryd.ntmps4
    go_wp2
    go_ret
    exact ⟨rfl, Below.refl _ _⟩
  have hd0 : decide ((1048576 : Int) < (bs.length : Int)) = false := by simp; omega
  have HT := Lib.hid ht
  clear ht
  go_enter Tryd.func4, Tryd.ntmps4
  go_wp2_with (fail)
  refine (MakeImage_c _ bs 0 4 w hv (by decide) (by decide) (by decide)).mono ?_
  rintro e w1 ⟨v1, m, r, c, rfl, ⟨hr1, hr4⟩, ⟨hc1, hc4⟩, hsh, hown1, bb1⟩
  have hr5 : r ≤ 5 := by omega
  have hc5 : c ≤ 5 := by omega
  obtain ⟨p, off, cp, rfl, hp, -⟩ := hown1.grid.cells hsh hr1 hc1
  have Hm := Lib.hid hown1.grid
  have Hok := Lib.hid (hsh.ok hr1 hr5 hc1 hc5)
  obtain ⟨d, hD⟩ := ded_ok hsh hr1 hr5 hc1 hc5
  obtain ⟨hlR, hlC⟩ := pz_rows hsh hr1 hr5 hc1 hc5
  obtain ⟨R, hR⟩ : ∃ R, R = pzRows m := ⟨_, rfl⟩
  obtain ⟨C, hC⟩ : ∃ C, C = pzCols m := ⟨_, rfl⟩
  rw [← hR, ← hC] at hD
  rw [← hR] at hlR
  rw [← hC] at hlC
  have HD := Lib.hid hD
  have HlR := Lib.hid hlR
  have HlC := Lib.hid hlC
  have HR := Lib.hid hR
  have HC := Lib.hid hC
  obtain ⟨S, hS⟩ : ∃ S, S = solutions R C := ⟨_, rfl⟩
  have hNS : S.length ≤ 7776 := by rw [hS]; exact solutions_len R C
  have hS0 : 0 < S.length := by rw [hS]; exact List.length_pos_of_mem hD.mem
  have HS := Lib.hid hS
  clear hown1 hD hlR hlC hR hC hS
  go_wp2_with (fail)
  refine (PuzzleOf_i _ m _ Hm.out).mono ?_
  rintro e w2 ⟨va, vb, rfl, opz, b2⟩
  rw [Hok.out]
  obtain ⟨M, -, -, oa, ob⟩ := opz
  rw [← HR.out] at oa
  rw [← HC.out] at ob
  have b3 := Below.pureAlloc w2 (.cells #[va, vb] 42)
  have Hbk := Lib.hid (Blk.new w2 #[va, vb] 42)
  have Ga := Lib.hid (oa.grid.keep b3)
  have Gb := Lib.hid (ob.grid.keep b3)
  obtain ⟨a1, a2, a3, rfl⟩ := oa.shape
  obtain ⟨q1, q2, q3, rfl⟩ := ob.shape
  have c0 := Hbk.out.cell 0
  have c1 := Hbk.out.cell 1
  have hb13 := b2.trans_pure b3 (Nat.le_refl _)
  clear oa ob
  go_wp2_with (fail)
  refine (SolvePuzzle_i _ _ R C _ Ga.out Gb.out HlR.out HlC.out).mono ?_
  rintro e w4 ⟨v4, rfl, o4, b4⟩
  rw [HD.out.ok]
  rw [← HS.out] at o4
  obtain ⟨gs, cs, rfl, -, -, hgs, -⟩ := o4.inv_ne hS0
  have G4 := Lib.hid o4.grids
  have c0 := (Hbk.out.keep b4).cell 0
  have c1 := (Hbk.out.keep b4).cell 1
  clear o4
  go_wp2_with (fail)
  refine (Deduce_i _ _ R C _ (Ga.out.keep b4) (Gb.out.keep b4) HlR.out HlC.out).mono ?_
  rintro e w5 ⟨v5, rfl, o5, b5⟩
  rw [HD.out.ded] at o5 ⊢
  rw [Option.getD_some] at o5
  rw [Option.isSome_some]
  obtain ⟨gd, od, cd, rfl, hgd, hR5⟩ := o5.grid.rowsT HD.out.rect hr1 hc1
  have HR5 := Lib.hid hR5
  have b45 := b4.trans_pure b5 (Nat.le_refl _)
  have c0 := (Hbk.out.keep b45).cell 0
  have c1 := (Hbk.out.keep b45).cell 1
  have hNd : ((S.length : Int) == 0) = false := by rw [beq_eq_false_iff_ne]; omega
  have hNd2 : ¬ (S.length : Int) = 0 := by omega
  clear o5 hR5
  go_wp2_with (fail)
  refine (PuzzleOk_i _ _ R C _ (Ga.out.keep b45) (Gb.out.keep b45) HlR.out HlC.out).mono ?_
  rintro e w6 ⟨rfl, hw6⟩
  rw [HD.out.ok]
  have b6 : Below w5.heap.size w5 w6 := by rw [hw6]; exact Below.pureAlloc _ _
  clear hw6
  have b36 := b45.trans_pure b6 (Nat.le_refl _)
  have bb6 := bb1.trans_pure (hb13.trans_pure b36 (Nat.le_refl _)) (Nat.le_refl _)
  have Hm6 := Lib.hid (Hm.out.keep (hb13.trans_pure b36 (Nat.le_refl _)))
  have GS := Lib.hid (G4.out.keep (b5.trans_pure b6 (Nat.le_refl _)))
  have Hdrow := Lib.hid (HR5.out.keep b6)
  have Hbk6 := Lib.hid (Hbk.out.keep b36)
  have Ga6 := Lib.hid (Ga.out.keep b36)
  have Gb6 := Lib.hid (Gb.out.keep b36)
  have HT6 := Lib.hid (HT.out.keep bb6)
  obtain ⟨N, hN⟩ : ∃ N, N = S.length := ⟨_, rfl⟩
  rw [← hN] at hS0 hNS hNd hNd2 ⊢
  have HN := Lib.hid hN
  clear hN
  go_wp2
  go_loopw [10, 11, 12, 13, 14, 15, 16, 17, 67] (fun fv ov _ _ _ _ _ _ i wr => ∃ (k : Nat) (f o : Bool), k ≤ N ∧ i = .int .i64 k ∧ fv = .bool f ∧ ov = .bool o ∧ Hid (f = decide (m ∈ S.take k)) ∧ Hid ((o = true → OpenC r c d) ∧ (0 < k → OpenC r c d → o = true)) ∧ Hid (Below w6.heap.size w6 wr)) (fun _ _ _ _ _ _ _ _ i _ => N - (intOf i).toNat)
  case atStart => exact ⟨0, false, false, Nat.zero_le _, rfl, rfl, rfl, Lib.hid (by simp), Lib.hid ⟨fun h => (by cases h), fun h => (by omega)⟩, Lib.hid (Below.refl _ _)⟩
  case round =>
    obtain ⟨k, f, o, hk, rfl, rfl, rfl, Hf, Ho, Hb⟩ := hrel
    obtain ⟨wo, rfl⟩ : ∃ wo : World, wo = wr := ⟨_, rfl⟩
    by_cases hlt : k < N
    · obtain ⟨x, hx⟩ : ∃ x, S[k]? = some x := ⟨_, List.getElem?_eq_getElem (by rw [← HN.out]; exact hlt)⟩
      have hxm : x ∈ solutions R C := by rw [← HS.out]; exact List.mem_of_getElem? hx
      have hxs := HD.out.shape x hxm
      have Hagr := Lib.hid (HD.out.agr x hxm)
      obtain ⟨u, hck, hu⟩ := Sl.at GS.out hx
      have hgx : Grid w6 u x := hu
      obtain ⟨bx, ofx, cpx, rfl, hbx, hxr⟩ := hgx.rowsT hxs.trect hr1 hc1
      have Hxrow := Lib.hid hxr
      have HU := Lib.hid (show ∀ w', Below w6.heap.size w6 w' → Grid w' _ x from fun w' hb => hgx.keep hb)
      rw [Nat.zero_add] at hck
      have hgs6 : gs < w6.heap.size := Nat.lt_of_lt_of_le hgs (b5.trans_pure b6 (Nat.le_refl _)).size
      have hck' := (Hb.out.cell (p := ⟨gs, k, none⟩) hgs6).trans hck
      have Hck := Lib.hid hck
      have Htk := Lib.hid (show decide (m ∈ S.take (k + 1)) = (decide (m ∈ S.take k) || decide (x = m)) from by
        rw [List.take_add_one, hx]
        simp only [Option.toList_some, List.mem_append, List.mem_singleton, Bool.decide_or]
        congr 1
        exact decide_eq_decide.2 eq_comm)
      have Hx := Lib.hid hx
      clear hx hxm hgx hu hxr hck
      by_cases hk0 : 0 < k
      · obtain ⟨q, hq⟩ : ∃ q, S[k - 1]? = some q := ⟨_, List.getElem?_eq_getElem (by rw [← HN.out]; omega)⟩
        have hqs := HD.out.shape q (by rw [← HS.out]; exact List.mem_of_getElem? hq)
        obtain ⟨uq, hcq, huq⟩ := Sl.at GS.out hq
        have hgq : Grid w6 uq q := huq
        obtain ⟨bq, ofq, cpq, rfl, hbq, -⟩ := hgq.rowsT hqs.trect hr1 hc1
        rw [Nat.zero_add] at hcq
        have hcq' := (Hb.out.cell (p := ⟨gs, k - 1, none⟩) hgs6).trans hcq
        have Hgt := Lib.hid (show GLt r c q x from by
          have hpw := HD.out.sorted
          rw [← HS.out, List.pairwise_iff_getElem] at hpw
          obtain ⟨h1, h2⟩ := List.getElem?_eq_some_iff.1 hq
          obtain ⟨h3, h4⟩ := List.getElem?_eq_some_iff.1 Hx.out
          have := hpw (k - 1) k h1 h3 (by omega)
          rw [h2, h4] at this
          exact this)
        have Hgq := Lib.hid hgq
        have hkd : decide ((0 : Int) < (k : Int)) = true := by rw [decide_eq_true_eq]; omega
        clear hq huq hgq hcq
        go_wp2_with (fail)
        refine (before_t _ _ _ _ r c _ (Hgq.out.keep Hb.out) (HU.out _ Hb.out) hqs hxs hr1 hr5 Hgt.out).mono ?_
        rintro e wb ⟨rfl, b7⟩
        have Hwb := Lib.hid (Hb.out.trans_pure b7 (Nat.le_refl _))
        go_wp2
        go_loopw [11, 14, 15, 16, 17, 93] (fun ov _ _ _ _ i wr => ∃ (y : Nat) (o2 : Bool), y ≤ r ∧ i = .int .i64 y ∧ ov = .bool o2 ∧ Hid ((o2 = true → OpenC r c d) ∧ (∀ i j, i < y → j < c → at2 d i j = -1 → o2 = true)) ∧ Hid (Below wb.heap.size wb wr)) (fun _ _ _ _ _ i _ => r - (intOf i).toNat)
        case atStart => exact ⟨0, o, Nat.zero_le _, rfl, rfl, Lib.hid ⟨Ho.out.1, fun i j h => absurd h (Nat.not_lt_zero _)⟩, Lib.hid (Below.refl _ _)⟩
        case round =>
          obtain ⟨y, o2, hy, rfl, rfl, Ho2, Hb2⟩ := hrel
          obtain ⟨wo2, rfl⟩ : ∃ wo2 : World, wo2 = wr := ⟨_, rfl⟩
          have Hbb := Lib.hid (Hwb.out.trans_pure Hb2.out (Nat.le_refl _))
          by_cases hyr : y < r
          · obtain ⟨bd, odd, cd2, hdc, hdx⟩ := Hdrow.out y hyr
            obtain ⟨br, orr, cr2, hrc, hrx⟩ := Hxrow.out y hyr
            have e1 := hdc wo2 Hbb.out
            have e2 := hrc wo2 Hbb.out
            have HDc := Lib.hid hdc
            have HDx := Lib.hid hdx
            have HRx := Lib.hid hrx
            clear hdc hrc hdx hrx
            go_wp2
            go_loopw [11, 16, 17, 108] (fun ov _ _ i wr => ∃ (x : Nat) (o3 : Bool), x ≤ c ∧ i = .int .i64 x ∧ ov = .bool o3 ∧ Hid ((o3 = true → OpenC r c d) ∧ (∀ i j, (i < y ∨ i = y ∧ j < x) → j < c → at2 d i j = -1 → o3 = true)) ∧ Hid (Below wo2.heap.size wo2 wr)) (fun _ _ _ i _ => c - (intOf i).toNat)
            case atStart => exact ⟨0, o2, Nat.zero_le _, rfl, rfl, Lib.hid ⟨Ho2.out.1, fun i j h => Ho2.out.2 i j (by omega)⟩, Lib.hid (Below.refl _ _)⟩
            case round =>
              clear e1 e2
              obtain ⟨z, o3, hz, rfl, rfl, Ho3, Hb3⟩ := hrel
              obtain ⟨wo3, rfl⟩ : ∃ wo3 : World, wo3 = wr := ⟨_, rfl⟩
              have Hbb3 := Lib.hid (Hbb.out.trans_pure Hb3.out (Nat.le_refl _))
              by_cases hzc : z < c
              · have e1 := HDc.out wo3 Hbb3.out
                have e2 := HDx.out z hzc wo3 Hbb3.out
                have e3 := HRx.out z hzc wo3 Hbb3.out
                have hag := Hagr.out y z hyr hzc
                have Hr3 := Lib.hid (show (((o3 || at2 d y z == -1) = true) → OpenC r c d) ∧ (∀ i j, (i < y ∨ i = y ∧ j < z + 1) → j < c → at2 d i j = -1 → (o3 || at2 d y z == -1) = true) from by
                  refine ⟨fun h => ?_, fun i j h1 h2 h3 => ?_⟩
                  · rcases Bool.or_eq_true _ _ ▸ h with h | h
                    · exact Ho3.out.1 h
                    · exact ⟨y, z, hyr, hzc, by simpa using h⟩
                  · by_cases h : i < y ∨ i = y ∧ j < z
                    · rw [Ho3.out.2 i j h h2 h3, Bool.true_or]
                    · obtain ⟨rfl, rfl⟩ : i = y ∧ j = z := by omega
                      rw [h3]; simp)
                have Hb4 := Lib.hid Hb3.out
                obtain ⟨D, hD⟩ : ∃ D, at2 d y z = D := ⟨_, rfl⟩
                obtain ⟨X, hX⟩ : ∃ X, at2 x y z = X := ⟨_, rfl⟩
                rw [hD] at e2 hag Hr3
                rw [hX] at e3 hag
                clear hD hX Hb3 Ho3
                by_cases hD1 : D = -1
                · subst hD1
                  clear hag
                  cases o3
                  · go_wp2
                    go_roundw
                    case rel => exact ⟨z + 1, _, by omega, by go_num, rfl, Hr3, Hb4⟩
                    case measure => simp [intOf]; omega
                  · go_wp2
                    go_roundw
                    case rel => exact ⟨z + 1, _, by omega, by go_num, rfl, Hr3, Hb4⟩
                    case measure => simp [intOf]; omega
                · obtain rfl : D = X := hag.resolve_left hD1
                  have hD2 : (D == -1) = false := by rw [beq_eq_false_iff_ne]; exact hD1
                  rw [hD2, Bool.or_false] at Hr3
                  clear hag
                  cases o3
                  · go_wp2
                    go_roundw
                    case rel => exact ⟨z + 1, _, by omega, by go_num, rfl, Hr3, Hb4⟩
                    case measure => simp [intOf]; omega
                  · go_wp2
                    go_roundw
                    case rel => exact ⟨z + 1, _, by omega, by go_num, rfl, Hr3, Hb4⟩
                    case measure => simp [intOf]; omega
              · obtain rfl : z = c := by omega
                have Hr2 := Lib.hid (show (o3 = true → OpenC r z d) ∧ (∀ i j, i < y + 1 → j < z → at2 d i j = -1 → o3 = true) from ⟨Ho3.out.1, fun i j h1 h2 => Ho3.out.2 i j (by omega) h2⟩)
                have Hb4 := Lib.hid (Hb2.out.trans_pure Hb3.out (Nat.le_refl _))
                go_wp2
                go_roundw
                case rel => exact ⟨y + 1, o3, by omega, by go_num, rfl, Hr2, Hb4⟩
                case measure => simp [intOf]; omega
          · obtain rfl : y = r := by omega
            have Hon := Lib.hid (show (o2 = true → OpenC y c d) ∧ (0 < k + 1 → OpenC y c d → o2 = true) from ⟨Ho2.out.1, fun _ ⟨i, j, h1, h2, h3⟩ => Ho2.out.2 i j h1 h2 h3⟩)
            cases f
            · go_wp2_with (fail)
              refine (alike_c _ _ _ _ _ (HU.out _ Hbb.out) (Hm6.out.keep Hbb.out)).mono ?_
              rintro e u2 ⟨rfl, d2⟩
              have Hfn := Lib.hid (show decide (x = m) = decide (m ∈ S.take (k + 1)) from by rw [Htk.out, ← Hf.out]; rfl)
              have Hbn := Lib.hid (Hbb.out.trans_pure d2 (Nat.le_refl _))
              go_wp2
              go_roundw
              case rel => exact ⟨k + 1, _, o2, by omega, by go_num, rfl, rfl, Hfn, Hon, Hbn⟩
              case measure => simp [intOf]; omega
            · have Hfn := Lib.hid (show true = decide (m ∈ S.take (k + 1)) from by rw [Htk.out, ← Hf.out]; rfl)
              go_wp2
              go_roundw
              case rel => exact ⟨k + 1, _, o2, by omega, by go_num, rfl, rfl, Hfn, Hon, Hbb⟩
              case measure => simp [intOf]; omega
      · have hkd : decide ((0 : Int) < (k : Int)) = false := by rw [decide_eq_false_iff_not]; omega
        have hkd2 : ¬ (0 : Int) < (k : Int) := by omega
        have Hwb := Lib.hid Hb.out
        obtain ⟨wb, rfl⟩ : ∃ wb : World, wb = wo := ⟨_, rfl⟩
        go_wp2
        go_loopw [11, 14, 15, 16, 17, 93] (fun ov _ _ _ _ i wr => ∃ (y : Nat) (o2 : Bool), y ≤ r ∧ i = .int .i64 y ∧ ov = .bool o2 ∧ Hid ((o2 = true → OpenC r c d) ∧ (∀ i j, i < y → j < c → at2 d i j = -1 → o2 = true)) ∧ Hid (Below wb.heap.size wb wr)) (fun _ _ _ _ _ i _ => r - (intOf i).toNat)
        case atStart => exact ⟨0, o, Nat.zero_le _, rfl, rfl, Lib.hid ⟨Ho.out.1, fun i j h => absurd h (Nat.not_lt_zero _)⟩, Lib.hid (Below.refl _ _)⟩
        case round =>
          obtain ⟨y, o2, hy, rfl, rfl, Ho2, Hb2⟩ := hrel
          obtain ⟨wo2, rfl⟩ : ∃ wo2 : World, wo2 = wr := ⟨_, rfl⟩
          have Hbb := Lib.hid (Hwb.out.trans_pure Hb2.out (Nat.le_refl _))
          by_cases hyr : y < r
          · obtain ⟨bd, odd, cd2, hdc, hdx⟩ := Hdrow.out y hyr
            obtain ⟨br, orr, cr2, hrc, hrx⟩ := Hxrow.out y hyr
            have e1 := hdc wo2 Hbb.out
            have e2 := hrc wo2 Hbb.out
            have HDc := Lib.hid hdc
            have HDx := Lib.hid hdx
            have HRx := Lib.hid hrx
            clear hdc hrc hdx hrx
            go_wp2
            go_loopw [11, 16, 17, 108] (fun ov _ _ i wr => ∃ (x : Nat) (o3 : Bool), x ≤ c ∧ i = .int .i64 x ∧ ov = .bool o3 ∧ Hid ((o3 = true → OpenC r c d) ∧ (∀ i j, (i < y ∨ i = y ∧ j < x) → j < c → at2 d i j = -1 → o3 = true)) ∧ Hid (Below wo2.heap.size wo2 wr)) (fun _ _ _ i _ => c - (intOf i).toNat)
            case atStart => exact ⟨0, o2, Nat.zero_le _, rfl, rfl, Lib.hid ⟨Ho2.out.1, fun i j h => Ho2.out.2 i j (by omega)⟩, Lib.hid (Below.refl _ _)⟩
            case round =>
              clear e1 e2
              obtain ⟨z, o3, hz, rfl, rfl, Ho3, Hb3⟩ := hrel
              obtain ⟨wo3, rfl⟩ : ∃ wo3 : World, wo3 = wr := ⟨_, rfl⟩
              have Hbb3 := Lib.hid (Hbb.out.trans_pure Hb3.out (Nat.le_refl _))
              by_cases hzc : z < c
              · have e1 := HDc.out wo3 Hbb3.out
                have e2 := HDx.out z hzc wo3 Hbb3.out
                have e3 := HRx.out z hzc wo3 Hbb3.out
                have hag := Hagr.out y z hyr hzc
                have Hr3 := Lib.hid (show (((o3 || at2 d y z == -1) = true) → OpenC r c d) ∧ (∀ i j, (i < y ∨ i = y ∧ j < z + 1) → j < c → at2 d i j = -1 → (o3 || at2 d y z == -1) = true) from by
                  refine ⟨fun h => ?_, fun i j h1 h2 h3 => ?_⟩
                  · rcases Bool.or_eq_true _ _ ▸ h with h | h
                    · exact Ho3.out.1 h
                    · exact ⟨y, z, hyr, hzc, by simpa using h⟩
                  · by_cases h : i < y ∨ i = y ∧ j < z
                    · rw [Ho3.out.2 i j h h2 h3, Bool.true_or]
                    · obtain ⟨rfl, rfl⟩ : i = y ∧ j = z := by omega
                      rw [h3]; simp)
                have Hb4 := Lib.hid Hb3.out
                obtain ⟨D, hD⟩ : ∃ D, at2 d y z = D := ⟨_, rfl⟩
                obtain ⟨X, hX⟩ : ∃ X, at2 x y z = X := ⟨_, rfl⟩
                rw [hD] at e2 hag Hr3
                rw [hX] at e3 hag
                clear hD hX Hb3 Ho3
                by_cases hD1 : D = -1
                · subst hD1
                  clear hag
                  cases o3
                  · go_wp2
                    go_roundw
                    case rel => exact ⟨z + 1, _, by omega, by go_num, rfl, Hr3, Hb4⟩
                    case measure => simp [intOf]; omega
                  · go_wp2
                    go_roundw
                    case rel => exact ⟨z + 1, _, by omega, by go_num, rfl, Hr3, Hb4⟩
                    case measure => simp [intOf]; omega
                · obtain rfl : D = X := hag.resolve_left hD1
                  have hD2 : (D == -1) = false := by rw [beq_eq_false_iff_ne]; exact hD1
                  rw [hD2, Bool.or_false] at Hr3
                  clear hag
                  cases o3
                  · go_wp2
                    go_roundw
                    case rel => exact ⟨z + 1, _, by omega, by go_num, rfl, Hr3, Hb4⟩
                    case measure => simp [intOf]; omega
                  · go_wp2
                    go_roundw
                    case rel => exact ⟨z + 1, _, by omega, by go_num, rfl, Hr3, Hb4⟩
                    case measure => simp [intOf]; omega
              · obtain rfl : z = c := by omega
                have Hr2 := Lib.hid (show (o3 = true → OpenC r z d) ∧ (∀ i j, i < y + 1 → j < z → at2 d i j = -1 → o3 = true) from ⟨Ho3.out.1, fun i j h1 h2 => Ho3.out.2 i j (by omega) h2⟩)
                have Hb4 := Lib.hid (Hb2.out.trans_pure Hb3.out (Nat.le_refl _))
                go_wp2
                go_roundw
                case rel => exact ⟨y + 1, o3, by omega, by go_num, rfl, Hr2, Hb4⟩
                case measure => simp [intOf]; omega
          · obtain rfl : y = r := by omega
            have Hon := Lib.hid (show (o2 = true → OpenC y c d) ∧ (0 < k + 1 → OpenC y c d → o2 = true) from ⟨Ho2.out.1, fun _ ⟨i, j, h1, h2, h3⟩ => Ho2.out.2 i j h1 h2 h3⟩)
            cases f
            · go_wp2_with (fail)
              refine (alike_c _ _ _ _ _ (HU.out _ Hbb.out) (Hm6.out.keep Hbb.out)).mono ?_
              rintro e u2 ⟨rfl, d2⟩
              have Hfn := Lib.hid (show decide (x = m) = decide (m ∈ S.take (k + 1)) from by rw [Htk.out, ← Hf.out]; rfl)
              have Hbn := Lib.hid (Hbb.out.trans_pure d2 (Nat.le_refl _))
              go_wp2
              go_roundw
              case rel => exact ⟨k + 1, _, o2, by omega, by go_num, rfl, rfl, Hfn, Hon, Hbn⟩
              case measure => simp [intOf]; omega
            · have Hfn := Lib.hid (show true = decide (m ∈ S.take (k + 1)) from by rw [Htk.out, ← Hf.out]; rfl)
              go_wp2
              go_roundw
              case rel => exact ⟨k + 1, _, o2, by omega, by go_num, rfl, rfl, Hfn, Hon, Hbb⟩
              case measure => simp [intOf]; omega
    · obtain rfl : k = N := by omega
      have Hmem := Lib.hid (show true = f from by
        rw [Hf.out, HN.out, List.take_length, HS.out, eq_comm, decide_eq_true_eq]
        exact HD.out.mem)
      have Hopn := Lib.hid (show o = true ↔ OpenC r c d from ⟨Ho.out.1, Ho.out.2 hS0⟩)
      have hlog := logical_open HD.out hr1 hr5 hc1 hc5
      have hpos := puzzleLine_pos HD.out.ok
      have k0 := (Hbk6.out.keep Hb.out).cell 0
      have k1 := (Hbk6.out.keep Hb.out).cell 1
      obtain ⟨LG, hLG⟩ : ∃ LG, isLogical R C = LG := ⟨_, rfl⟩
      have Hlg := Lib.hid (show LG = !o from by
        rw [hLG] at hlog
        have := Hopn.out
        cases o <;> cases LG <;> simp_all)
      have Hone := Lib.hid (show o = false → k = 1 from fun h => by
        rw [HN.out, HS.out]
        refine HD.out.one fun y x hy hx e => ?_
        have := Hopn.out.2 ⟨y, x, hy, hx, e⟩
        rw [h] at this
        cases this)
      obtain rfl := Hmem.out
      have HLG := Lib.hid hLG
      clear hlog hLG
      go_wp2_with (fail)
      refine (IsLogical_i _ _ R C _ (Ga6.out.keep Hb.out) (Gb6.out.keep Hb.out) HlR.out HlC.out).mono ?_
      rintro e u1 ⟨rfl, d1⟩
      rw [HLG.out, Hlg.out]
      have Hb1 := Lib.hid (Hb.out.trans_pure d1 (Nat.le_refl _))
      have k0 := (Hbk6.out.keep Hb1.out).cell 0
      have k1 := (Hbk6.out.keep Hb1.out).cell 1
      obtain ⟨T, hT⟩ : ∃ T, T = puzzleLineOf R C := ⟨_, rfl⟩
      rw [← hT] at hpos
      have hT2 := ba_ne_nil hpos
      have HT2 := Lib.hid hT
      clear hT
      cases o
      · have hk1 := Hone.out rfl
        subst hk1
        go_wp2_with (fail)
        refine (PuzzleLine_i _ _ R C _ (Ga6.out.keep Hb1.out) (Gb6.out.keep Hb1.out) HlR.out HlC.out (HT6.out.keep Hb1.out)).mono ?_
        rintro e u2 ⟨rfl, d2⟩
        rw [← HT2.out]
        have bbf := bb6.trans_pure (Hb1.out.trans_pure d2 (Nat.le_refl _)) (Nat.le_refl _)
        go_wp2
        go_ret
        exact ⟨rfl, bbf⟩
      · go_wp2_with (fail)
        refine (PuzzleLine_i _ _ R C _ (Ga6.out.keep Hb1.out) (Gb6.out.keep Hb1.out) HlR.out HlC.out (HT6.out.keep Hb1.out)).mono ?_
        rintro e u2 ⟨rfl, d2⟩
        rw [← HT2.out]
        have bbf := bb6.trans_pure (Hb1.out.trans_pure d2 (Nat.le_refl _)) (Nat.le_refl _)
        go_wp2
        go_ret
        exact ⟨rfl, bbf⟩
end Go.Proofs.YtlmjpmdkifoekaaDoor

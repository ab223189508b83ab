/- FnLines: the walk of the law. -/
import Derived.Test.YtkjfpdfledbinaaC7
import Derived.Test.YtkjfpdfledbinaaLinesLaw
namespace Go.Proofs.Ytkjfpdfledbinaa
open Go.RowKit

set_option maxRecDepth 100000 in
set_option maxHeartbeats 1000000 in
theorem FnLines_w {v : Value} {bs : List Int} {w : World} (hv : Bytes w v bs) :
    Calls Try.prog 7 #[v] w fun e w' => e = .returned (.bool true) ∧ Below w.heap.size w w' := by
  obtain ⟨a, cap, rfl, -, -, -, -⟩ := id hv
  rcases Nat.lt_or_ge 1048576 bs.length with h1 | h1
  · go_enter Try.func7, Try.ntmps7
    go_wp2
    go_ret
    exact ⟨rfl, Below.refl _ _⟩
  have hd0 : decide ((1048576 : Int) < (bs.length : Int)) = false := by simp; omega
  go_enter Try.func7, Try.ntmps7
  go_wp2_with (fail)
  refine (MakeImage_c _ bs 0 5 w hv (by decide) (by decide) (by decide)).mono ?_
  rintro e w1 ⟨v1, m, r, c, rfl, ⟨hr1, hr2⟩, ⟨hc1, hc2⟩, hsh, hown1, hbel1⟩
  obtain ⟨line, hline, hll, hlb⟩ := hsh.row (y := 0) (by omega)
  obtain ⟨g, cap1, rfl, -, hcap1, -, -⟩ := hown1.inv_ne (by rw [hsh.1]; omega)
  rw [hsh.1] at hcap1 hown1 ⊢
  obtain ⟨q, cq, hcell, -, hq, -, hcq, -⟩ := own_grid_cell hown1 hline (by omega)
  have hlineR : Ints w1 (.slice (some ⟨q, 0, none⟩) line.length cq) line := by
    obtain ⟨-, -, -, -, T, u, hu, hr, hT, -⟩ := hown1.focus (rOwn rIntV) hline
    rw [hcell] at hu
    obtain rfl := Option.some.inj hu
    exact hr.ints
  obtain ⟨n, hn⟩ : ∃ n, n = line.length := ⟨_, rfl⟩
  rw [← hn] at hcell hlineR hcq hll
  have Hn := Lib.hid hn
  have hn5 : n ≤ 5 := by omega
  have hn1 : 1 ≤ n := by omega
  have hw1 := hbel1.size
  have Hlb := Lib.hid hlb
  have HlineR := Lib.hid hlineR
  clear hn hll hsh hown1 hline hlb hlineR
  go_wp2
  go_loopw [5, 6, 7, 29] (fun v5 _ _ i wr => ∃ (k : Nat) (st : List Int), k ≤ n ∧ i = .int .i64 k ∧ HidOf (line.take k) st ∧ Own 3 IntV (Iv w1.heap.size wr.heap.size) wr v5 st ∧ Below w1.heap.size w1 wr) (fun _ _ _ i _ => n - (intOf i).toNat)
  case atStart => exact ⟨0, [], Nat.zero_le _, rfl, ⟨rfl, fun j x c h => by simp at h⟩, own_lit0 _ _ _ rIntV, Below.pureAlloc _ _⟩
  case round =>
    obtain ⟨k, st, hk, rfl, hst, hown, hbel⟩ := hrel
    have hBs := hbel.size
    by_cases hlt : k < n
    · obtain ⟨x, hx⟩ : ∃ x, line[k]? = some x := ⟨_, List.getElem?_eq_getElem (by rw [← Hn.out]; exact hlt)⟩
      obtain ⟨hx0, hx1⟩ := Hlb.out x (List.mem_of_getElem? hx)
      have hck := (HlineR.out.keep hbel).at0 hx
      have hstl : st.length < 1099511627776 := by rw [hst.1, List.length_take]; omega
      have Hs1 := Lib.hid (hidOf_snoc hst hx (.inl rfl))
      have Hs2 := Lib.hid (hidOf_snoc (y := -1) hst hx (.inr rfl))
      have Hown := Lib.hid hown
      have hb1 : Below w.heap.size w wr := hbel1.trans_pure hbel (Nat.le_refl _)
      clear hst hx hown
      go_wp2_with (fail)
      rw [show (40 : Int) + (k : Int) = ((40 + k : Nat) : Int) from by omega]
      refine (MakeNum_c _ bs (40 + k) _ (Rd.keep hv (rSl rByteV) hb1) (by omega)).mono ?_
      rintro e w2 ⟨z, ⟨hz0, hz1⟩, rfl, hbel2⟩
      have s2 := hbel2.size
      have hb2 := hbel.trans_pure hbel2 (Nat.le_refl _)
      have Hown2 := Lib.hid (Own.grow rIntV Hown.out (Nat.le_refl _) hbel2)
      have hB2 : w1.heap.size ≤ w2.heap.size := by omega
      clear Hown
      by_cases hz3 : z % 3 = 0
      · have hd : (z % 3 == 0) = true := by simp [hz3]
        clear hz3
        go_wp2_with (first | (at_builtin; refine wpList_appR rfl _ _ 22 rfl rIntV 3 Try.underlying22 infoInt rfl (by decide) w1.heap.size w2.heap.size hB2 (Nat.le_refl _) rfl rfl (by exact Hown2.out) ⟨rfl, I64.small (by omega) (by omega)⟩ hstl ?_; intro v3 w3 hown3 hbel3 _))
        have hb3 := hb2.trans hbel3
        have Hown3 := Lib.hid hown3
        clear hown3
        go_wp2
        go_roundw
        case rel => exact ⟨k + 1, _, by omega, by go_num, Hs1.out, Hown3.out, hb3⟩
        case measure => simp [intOf]; omega
      · have hd : (z % 3 == 0) = false := by simp [hz3]
        clear hz3
        go_wp2_with (first | (at_builtin; refine wpList_appR rfl _ _ 22 rfl rIntV 3 Try.underlying22 infoInt rfl (by decide) w1.heap.size w2.heap.size hB2 (Nat.le_refl _) rfl rfl (by exact Hown2.out) ⟨rfl, I64.small (by decide) (by decide)⟩ hstl ?_; intro v3 w3 hown3 hbel3 _))
        have hb3 := hb2.trans hbel3
        have Hown3 := Lib.hid hown3
        clear hown3
        go_wp2
        go_roundw
        case rel => exact ⟨k + 1, _, by omega, by go_num, Hs2.out, Hown3.out, hb3⟩
        case measure => simp [intOf]; omega
    · have hkn : k = line.length := by have := Hn.out; omega
      rw [hkn, List.take_length] at hst
      have hok := hidOf_ok hst (by rw [← Hn.out]; omega) (by rw [← Hn.out]; omega) Hlb.out
      have hag := hidOf_agrees hst
      have hstl : st.length = n := by rw [hst.1]; exact Hn.out.symm
      obtain ⟨gs, cs, rfl, -, hcs, hgs, -⟩ := hown.inv_ne (by omega)
      rw [hstl] at hcs hown ⊢
      have hmemL := mem_linesFor (n := n) (rs := runsOf line) Hn.out.symm Hlb.out rfl
      have hLall : ∀ l ∈ linesFor (runsOf line) n, l.length = n ∧ ∀ x ∈ l, 0 ≤ x ∧ x ≤ 1 := fun l hl => linesTo_mem hl
      obtain ⟨o, ho⟩ := solved_some (st := st) (by omega) hLall hmemL hag
      have hsol : solveLine (runsOf line) st = some o := by unfold solveLine; rw [hok, if_pos rfl, hstl]; exact ho
      have hrl := runsOf_len line
      have hrl5 : (runsOf line).length ≤ 5 := by have := Hn.out; omega
      have hlr := HlineR.out.keep hbel
      have hll5 : line.length ≤ 5 := by have := Hn.out; omega
      have Hsol := Lib.hid hsol
      have Ho := Lib.hid ho
      have Hstl := Lib.hid hstl
      have Hst := Lib.hid hst
      have HLall := Lib.hid hLall
      have HmemL := Lib.hid hmemL
      clear hkn hst hok hag hstl hmemL hLall ho hsol hrl
      go_wp2_with (fail)
      refine (RunsOf_i _ _ _ hlr (by omega)).mono ?_
      rintro e w2 ⟨v2, rfl, hown2, hbel2⟩
      have s2 := hbel2.size
      have hb2 := hbel.trans_pure hbel2 (by omega)
      have hstO := Own.keep rIntV hown hbel2 (Nat.le_refl _)
      go_wp2_with (fail)
      refine (SolveLine_i _ _ _ _ _ hown2.ints hstO.ints).mono ?_
      rintro e w3 ⟨hbel3, h3⟩
      rw [Hsol.out] at h3
      obtain ⟨v3, rfl, hown3⟩ := h3
      have s3 := hbel3.size
      have hb3 := hb2.trans_pure hbel3 (by omega)
      have hol := (solved_says (st := st) HLall.out (i := 0) (by omega) _ (Nat.le_refl _))
      rw [Ho.out] at hol
      have hol1 := hol.1
      obtain ⟨g3, c3, rfl, -, hc3, hg3, -⟩ := hown3.inv_ne (by omega)
      rw [hol1] at hc3
      have HoR := Lib.hid hown3.ints
      rw [hol1] at HoR ⊢
      have Hol := Lib.hid hol1
      have HstR := Lib.hid (hstO.ints.keep hbel3)
      have hlr3 := HlineR.out.keep hb3
      clear hol hol1 hown3 hstO hown2 hown hlr
      go_wp2_with (fail)
      refine (RunsOf_i _ _ _ hlr3 (by omega)).mono ?_
      rintro e w4 ⟨v4, rfl, hown4, hbel4⟩
      have s4 := hbel4.size
      have hb4 := hb3.trans_pure hbel4 (by omega)
      go_wp2_with (fail)
      refine (LinesFor_i _ _ n _ hown4.ints (by omega) (by omega)).mono ?_
      rintro e w5 ⟨v5, rfl, hown5, hbel5⟩
      have s5 := hbel5.size
      have hb5 := hb4.trans_pure hbel5 (by omega)
      have hneL : 0 < (linesFor (runsOf line) n).length := List.length_pos_of_mem HmemL.out
      obtain ⟨L, hL⟩ : ∃ L, L = linesFor (runsOf line) n := ⟨_, rfl⟩
      rw [← hL] at hown5 hneL
      obtain ⟨g5, c5, rfl, -, hc5, hg5, -⟩ := hown5.inv_ne hneL
      have HLR := Lib.hid hown5.grid
      have HL := Lib.hid hL
      have hL32 : L.length ≤ 32 := by rw [hL]; exact Nat.le_trans (linesTo_len _ _ _) (pow_le32 hn5)
      have HoR5 := Lib.hid ((HoR.out.keep hbel4).keep hbel5)
      have HlR5 := Lib.hid (HlineR.out.keep hb5)
      have HstR5 := Lib.hid ((HstR.out.keep hbel4).keep hbel5)
      have hbw5 : Below w.heap.size w w5 := hbel1.trans_pure hb5 (Nat.le_refl _)
      have Hbw5 := Lib.hid hbw5
      clear hL hown5 hown4 hlr3 HoR HstR HlineR hbw5 hb5 hb4 hb3 hb2 hbel5 hbel4 hbel3 hbel2 hbel hbel1
      go_wp2_with (fail)
      clear hq hBs hcell
      go_loopw [11, 12, 13, 15, 16, 17, 71] (fun _ _ _ _ _ _ i wr => ∃ i' : Nat, i' ≤ n ∧ i = .int .i64 i' ∧ ∃ q, wr = w5.drewN q) (fun _ _ _ _ _ _ i _ => n - (intOf i).toNat)
      case atStart => exact ⟨0, Nat.zero_le _, rfl, 0, rfl⟩
      case round =>
        obtain ⟨i, hi, rfl, dq, rfl⟩ := hrel
        by_cases hlti : i < n
        · obtain ⟨a, ha⟩ : ∃ a, o[i]? = some a := ⟨_, List.getElem?_eq_getElem (by rw [Hol.out]; exact hlti)⟩
          have hca := HoR5.out.at0 ha
          have hsays := solved_says (st := st) HLall.out hlti _ (Nat.le_refl _)
          rw [Ho.out] at hsays
          have hsays2 := hsays.2
          rw [show o.getD i 0 = a from by simp [List.getD, ha], ← HL.out] at hsays2
          have Hsays := Lib.hid hsays2
          clear hsays hsays2 ha
          go_wp2
          go_loopw [12, 13, 15, 16, 17, 76] (fun b wh _ _ _ kk wr => ∃ k : Nat, k ≤ L.length ∧ kk = .int .i64 k ∧ b = .bool (anyCell L st 1 i k) ∧ wh = .bool (anyCell L st 0 i k) ∧ ∃ q, wr = w5.drewN q) (fun _ _ _ _ _ kk _ => L.length - (intOf kk).toNat)
          case atStart => exact ⟨0, Nat.zero_le _, rfl, rfl, rfl, _, rfl⟩
          case round =>
            obtain ⟨k, hk, rfl, rfl, rfl, dq2, rfl⟩ := hrel
            by_cases hltk : k < L.length
            · obtain ⟨lk, hlk⟩ : ∃ l, L[k]? = some l := ⟨_, List.getElem?_eq_getElem hltk⟩
              obtain ⟨hlkl, hlkb⟩ := HLall.out lk (by rw [← HL.out]; exact List.mem_of_getElem? hlk)
              obtain ⟨uk, huk, hukR⟩ := HLR.out.at0 hlk
              obtain ⟨qk, ok, ck, rfl, -, hck⟩ := Sl.inv_ne hukR (by omega)
              rw [hlkl] at huk hck hukR
              have Hs1 := Lib.hid (anyCell_succ (st := st) (c := 1) (i := i) hlk)
              have Hs0 := Lib.hid (anyCell_succ (st := st) (c := 0) (i := i) hlk)
              obtain ⟨xi, hxi⟩ : ∃ x, lk[i]? = some x := ⟨_, List.getElem?_eq_getElem (by rw [hlkl]; exact hlti)⟩
              have hcxi := hukR.at hxi
              have hxi2 := hlkb xi (List.mem_of_getElem? hxi)
              obtain ⟨hxi0, hxi1⟩ := hxi2
              have Hgd := Lib.hid (show lk.getD i 0 = xi from by simp [List.getD, hxi])
              have HukR := Lib.hid hukR
              have Hlkl := Lib.hid hlkl
              have hdk : decide ((k : Int) < (L.length : Int)) = true := by simp; omega
              clear hlk hukR hxi hlkl hlkb
              go_wp2
              go_loopw [16, 17, 87] (fun gd _ jj wr => ∃ j : Nat, j ≤ n ∧ jj = .int .i64 j ∧ gd = .bool (agreesTo st lk j) ∧ ∃ q, wr = w5.drewN q) (fun _ _ jj _ => n - (intOf jj).toNat)
              case atStart => exact ⟨0, Nat.zero_le _, rfl, rfl, _, rfl⟩
              case round =>
                obtain ⟨j, hj, rfl, rfl, dq3, rfl⟩ := hrel
                by_cases hltj : j < n
                · obtain ⟨x, hx⟩ : ∃ x, st[j]? = some x := ⟨_, List.getElem?_eq_getElem (by rw [Hstl.out]; exact hltj)⟩
                  obtain ⟨cj, hcj⟩ : ∃ x, lk[j]? = some x := ⟨_, List.getElem?_eq_getElem (by rw [Hlkl.out]; exact hltj)⟩
                  have hcx := HstR5.out.at0 hx
                  have hcc := HukR.out.at hcj
                  have Hs := Lib.hid (agreesTo_succ st lk j)
                  have He := Lib.hid (agreeAt_eq hx hcj)
                  have hxv := hidOf_vals Hst.out Hlb.out hx
                  clear hx hcj
                  cases hag : agreesTo st lk j
                  · have Hag := Lib.hid hag
                    go_wp2
                    go_quiet (fail)
                    go_wp2
                    go_roundw
                    case rel => exact ⟨j + 1, by omega, by go_num, by rw [Hs.out, Hag.out]; rfl, _, rfl⟩
                    case measure => simp [intOf]; omega
                  · have Hag := Lib.hid hag
                    by_cases hx0 : x = -1
                    · subst hx0
                      clear hxv
                      go_wp2
                      go_quiet (fail)
                      go_wp2
                      go_roundw
                      case rel => exact ⟨j + 1, by omega, by go_num, by rw [Hs.out, Hag.out, He.out]; rfl, _, rfl⟩
                      case measure => simp [intOf]; omega
                    · have hd1 : (x == -1) = false := by simpa using hx0
                      have Hd := Lib.hid (show decide (x < 0) = false from by simp; omega)
                      clear hxv hx0
                      go_wp2
                      go_quiet (fail)
                      go_wp2
                      go_roundw
                      case rel => exact ⟨j + 1, by omega, by go_num, by rw [Hs.out, Hag.out, He.out, Hd.out]; simp, _, rfl⟩
                      case measure => simp [intOf]; omega
                · have Hjn := Lib.hid (show agrees st lk = agreesTo st lk j from by unfold agrees; rw [Hlkl.out]; congr 1; omega)
                  obtain ⟨gd, hgd⟩ : ∃ gd, gd = agreesTo st lk j := ⟨_, rfl⟩
                  rw [← hgd]
                  have HG := Lib.hid (show agrees st lk = gd from by rw [Hjn.out, hgd])
                  obtain ⟨B, hB⟩ : ∃ B, B = anyCell L st 1 i k := ⟨_, rfl⟩
                  obtain ⟨W, hW⟩ : ∃ W, W = anyCell L st 0 i k := ⟨_, rfl⟩
                  rw [← hB, ← hW]
                  have HB := Lib.hid hB
                  have HW := Lib.hid hW
                  clear hgd hB hW
                  cases gd <;> cases B <;> cases W
                  all_goals
                    go_wp2
                    go_roundw
                    case rel => exact ⟨k + 1, by omega, by go_num, by rw [Hs1.out, ← HB.out, HG.out, Hgd.out]; rfl, by rw [Hs0.out, ← HW.out, HG.out, Hgd.out]; rfl, _, rfl⟩
                    case measure => simp [intOf]; omega
            · have hkL : k = L.length := by omega
              subst hkL
              rcases Hsays.out with ⟨rfl, hB, hW⟩ | ⟨rfl, hW, hB⟩ | ⟨rfl, hB, hW⟩
              all_goals
                rw [hB, hW]
                clear hB hW
                go_wp2
                go_roundw
                case rel => exact ⟨i + 1, by omega, by go_num, _, rfl⟩
                case measure => simp [intOf]; omega
        · go_wp2
          go_ret
          exact ⟨retB (by simp), below_drewN Hbw5.out _⟩
end Go.Proofs.Ytkjfpdfledbinaa

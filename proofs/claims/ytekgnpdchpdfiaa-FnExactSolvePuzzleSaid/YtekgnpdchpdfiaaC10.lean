/- Contracts: the reference's SolveLine. -/
import Derived.Test.YtekgnpdchpdfiaaC9
namespace Go.Proofs.Ytekgnpdchpdfiaa
open Go.RowKit

theorem retTB {v : Value} {b b' : Bool} (h : b = b') : Ending.returned (.tuple #[v, .bool b]) = Ending.returned (.tuple #[v, .bool b']) := by rw [h]
theorem agrees_false {st line : List Int} {k : Nat} (hk : k < line.length) (h : agreeAt st line k = false) : agrees st line = false := by
  unfold agrees agreesTo
  rw [List.all_eq_false]
  exact ⟨k, by simpa using hk, by simp [h]⟩
theorem inR_vals {x : Int} (h : inR (-1) 1 x = true) : x = -1 ∨ x = 0 ∨ x = 1 := by rw [inR_iff] at h; omega

theorem l14Agrees_c (v v2 : Value) (line st : List Int) (w : World) (hv : Ints w v line) (hv2 : Ints w v2 st) (hl : st.length = line.length) (hs : st.all (inR (-1) 1) = true) : Calls Try.prog 118 #[v, v2] w fun e w' => e = .returned (.bool (agrees st line)) ∧ w = w' := by
  obtain ⟨a, cap, rfl, hcap, hle, -, hc⟩ := hv
  obtain ⟨a2, cap2, rfl, hcap2, hle2, -, hc2⟩ := hv2
  have Hl := Lib.hid hl
  have Hs := Lib.hid hs
  have hl1 : st.length ≤ line.length := by omega
  have hl2 : line.length ≤ st.length := by omega
  clear hl hs
  go_enter Try.func118, Try.ntmps118
  go_wp2
  go_loop [5, 6, 9] (fun _ _ i => ∃ k : Nat, k ≤ st.length ∧ i = .int .i64 k ∧ agreesTo st line k = true) (fun _ _ i => st.length - (intOf i).toNat)
  case atStart => exact ⟨0, Nat.zero_le _, rfl, rfl⟩
  case round =>
    obtain ⟨k, hk, rfl, hag⟩ := hrel
    have Hag := Lib.hid hag; clear hag
    by_cases hlt : k < st.length
    · obtain ⟨b, off, rfl, hb, hc'⟩ := hc (by omega)
      obtain ⟨y, hy⟩ : ∃ y, line[k]? = some y := ⟨_, List.getElem?_eq_getElem (by omega)⟩
      obtain ⟨u, hck, rfl, -⟩ := hc' k y hy
      obtain ⟨b2, off2, rfl, hb2, hc2'⟩ := hc2 (by omega)
      obtain ⟨x, hx⟩ : ∃ x, st[k]? = some x := ⟨_, List.getElem?_eq_getElem hlt⟩
      obtain ⟨u2, hck2, rfl, -⟩ := hc2' k x hx
      have hxv := inR_vals (List.all_eq_true.1 Hs.out x (List.mem_of_getElem? hx))
      have hlt2 : k < line.length := by omega
      have He := Lib.hid (agreeAt_eq hx hy)
      have Hsu := Lib.hid (agreesTo_succ st line k)
      clear hc hc' hc2 hc2' hx hy
      by_cases hx1 : x = -1
      · subst hx1
        clear hxv
        go_wp2
        go_round
        case rel => exact ⟨k + 1, by omega, by go_num, by rw [Hsu.out, Hag.out, He.out]; rfl⟩
        case measure => simp [intOf]; omega
      · have hx0 : decide (x < 0) = false := by simp; omega
        have Hx0 := Lib.hid hx0
        by_cases hxy : x = y
        · subst hxy
          have hne : (x == -1) = false := by simpa using hx1
          clear hxv hx0
          go_wp2
          go_round
          case rel => exact ⟨k + 1, by omega, by go_num, by rw [Hsu.out, Hag.out, He.out, Hx0.out]; simp⟩
          case measure => simp [intOf]; omega
        · have hne : (x == -1) = false := by simpa using hx1
          have hne2 : (x == y) = false := by simpa using hxy
          have Hne2 := Lib.hid hne2
          have Hf := Lib.hid (agrees_false hlt2 (by rw [He.out, Hx0.out, hne2]; rfl))
          clear hxv hx0 hxy
          go_wp2
          go_ret
          exact ⟨retB Hf.out.symm, rfl⟩
    · have Hf := Lib.hid (show agrees st line = true from by unfold agrees; rw [show line.length = k from by omega]; exact Hag.out)
      go_wp2
      go_ret
      exact ⟨retB Hf.out.symm, rfl⟩
theorem solveRes2 {w w' : World} {r : Option (List Int)} {e : Ending} (h : SolveRes w r e w') : ∃ v', e = .returned (.tuple #[v', .bool r.isSome]) ∧ Own 3 IntV (Iv w.heap.size w'.heap.size) w' v' (r.getD []) ∧ Below w.heap.size w w' := by
  obtain ⟨h1, h2⟩ := h
  cases r with
  | none => exact ⟨_, h2, Own.nil _ _ _ _, h1⟩
  | some o => obtain ⟨v', e, ho⟩ := h2; exact ⟨v', e, ho, h1⟩
theorem SolveLine_i2 (v v2 : Value) (rs st : List Int) (w : World) (hv : Ints w v rs) (hv2 : Ints w v2 st) : Calls Try.prog 54 #[v, v2] w fun e w' => ∃ v', e = .returned (.tuple #[v', .bool (solveLine rs st).isSome]) ∧ Own 3 IntV (Iv w.heap.size w'.heap.size) w' v' ((solveLine rs st).getD []) ∧ Below w.heap.size w w' :=
  (SolveLine_i v v2 rs st w hv hv2).mono fun _ _ h => solveRes2 h
theorem solveLine_len (rs st : List Int) : ((solveLine rs st).getD []).length ≤ 5 := by
  cases h : solveLine rs st with
  | none => simp
  | some o =>
    unfold solveLine at h
    split at h
    · rename_i hok
      unfold stateOk at hok
      rw [Bool.and_eq_true, inR_iff] at hok
      have := (solveTo_wf _ (Nat.le_refl _) o h).1
      simp; omega
    · cases h

def SolveOut (w w1 wr : World) : Bk := fun b => (b = w.heap.size ∨ w1.heap.size ≤ b) ∧ b < wr.heap.size

set_option maxRecDepth 100000 in
set_option maxHeartbeats 1600000 in
theorem SolveLine_s2 (v v2 : Value) (rs st : List Int) (w : World) (hv : Ints w v rs) (hv2 : Ints w v2 st) : Calls Try.prog 90 #[v, v2] w fun e w' => ∃ v', e = .returned (.tuple #[v', .bool (solveLine rs st).isSome]) ∧ Own 3 IntV (Iv w.heap.size w'.heap.size) w' v' ((solveLine rs st).getD []) ∧ Below w.heap.size w w' := by
  obtain ⟨a2, cap2, rfl, hcap2, hle2, -, hc2⟩ := id hv2
  cases hin : inR 1 5 st.length
  · have Hr := Lib.hid (show solveLine rs st = none from by simp [solveLine, stateOk, hin])
    go_enter Try.func90, Try.ntmps90
    go_wp2_with (first | (go_at_call 103; refine (l01In_c _ _ _ _).mono ?_; rintro e w' ⟨rfl, rfl⟩))
    go_ret2
    rw [Hr.out]
    exact ⟨_, rfl, Own.nil _ _ _ _, Below.refl _ _⟩
  have hb := inR_iff.1 hin
  have hn1 : 1 ≤ st.length := by omega
  have hn2 : st.length ≤ 5 := by omega
  clear hb
  go_enter Try.func90, Try.ntmps90
  go_wp2_with (first | (go_at_call 103; refine (l01In_c _ _ _ _).mono ?_; rintro e w' ⟨rfl, rfl⟩))
  have Hin := Lib.hid hin
  clear hin
  go_loop [7, 19] (fun _ i => ∃ k : Nat, k ≤ st.length ∧ i = .int .i64 k ∧ (st.take k).all (inR (-1) 1) = true) (fun _ i => st.length - (intOf i).toNat)
  case atStart => exact ⟨0, Nat.zero_le _, rfl, rfl⟩
  case round =>
    obtain ⟨k, hk, rfl, hall⟩ := hrel
    have Hall := Lib.hid hall; clear hall
    by_cases hlt : k < st.length
    · obtain ⟨b, off, rfl, -, hc'⟩ := hc2 (by omega)
      obtain ⟨x, hx⟩ : ∃ x, st[k]? = some x := ⟨_, List.getElem?_eq_getElem hlt⟩
      obtain ⟨u, hck, rfl, -⟩ := hc' k x hx
      have Hs := Lib.hid (all_take_step (inR (-1) 1) hx)
      have Hx := Lib.hid hx; clear hx hc2 hc'
      cases hin : inR (-1) 1 x
      · have Hf := Lib.hid (all_of_take _ Hx.out hin)
        have Hr := Lib.hid (show solveLine rs st = none from by simp [solveLine, stateOk, Hf.out])
        go_wp2_with (first | (go_at_call 103; refine (l01In_c _ _ _ _).mono ?_; rintro e w' ⟨rfl, rfl⟩))
        go_ret2
        rw [Hr.out]
        exact ⟨_, rfl, Own.nil _ _ _ _, Below.refl _ _⟩
      · have Hinx := Lib.hid hin
        go_wp2_with (first | (go_at_call 103; refine (l01In_c _ _ _ _).mono ?_; rintro e w' ⟨rfl, rfl⟩))
        go_round
        case rel => exact ⟨k + 1, by omega, by go_num, by rw [Hs.out, Hall.out, Hinx.out]; rfl⟩
        case measure => simp [intOf]; omega
    · have Hal := Lib.hid (all_done Hall.out (by omega))
      have hok : stateOk st = true := by simp [stateOk, Hin.out, Hal.out]
      have Hr := Lib.hid (show solveLine rs st = solveTo (linesFor rs st.length) st (linesFor rs st.length).length from by simp [solveLine, hok])
      obtain ⟨L, hL⟩ : ∃ L, L = linesFor rs st.length := ⟨_, rfl⟩
      rw [← hL] at Hr
      have hmem : ∀ l ∈ L, l.length = st.length ∧ ∀ x ∈ l, 0 ≤ x ∧ x ≤ 1 := fun l hl => linesTo_mem (by rw [hL] at hl; exact hl)
      have hLl : L.length ≤ 32 := by rw [hL]; exact Nat.le_trans (linesTo_len _ _ _) (pow_le32 hn2)
      have hwl : Below w.heap.size w (w.alloc (.cells #[] 3)) := Below.pureAlloc _ _
      have hcall := LinesFor_s v rs st.length _ (hv.keep hwl) hn1 hn2
      rw [← hL] at hcall
      have Hwf := Lib.hid (fun k hk o ho => solveTo_wf (n := st.length) (rs := rs) (st := st) k hk o ho)
      rw [← hL] at Hwf
      have Hmem := Lib.hid hmem
      have Hcall := Lib.hid hcall
      clear hL hmem hcall hok Hall
      go_wp2_with (fail)
      refine Hcall.out.mono ?_
      rintro e w1 ⟨v1, rfl, hownL, hbel1⟩
      have hs1 := hbel1.size
      have hs1' : w.heap.size + 1 ≤ w1.heap.size := by simpa using hs1
      have hbw1 : Below w.heap.size w w1 := hwl.trans_pure hbel1 (Nat.le_refl _)
      have hnil : Own 3 IntV (SolveOut w w1 w1) w1 (.slice (some ⟨w.heap.size, 0, none⟩) 0 0) [] := by
        have h0 := own_lit0 (R := IntV) w 3 w.heap.size rIntV
        have h1 := Own.keep rIntV h0 hbel1 (Nat.le_refl _)
        exact (rOwn rIntV).mono (fun b hb => by
          have h1 := hb.1
          have h2 := hb.2
          simp at h2
          exact ⟨.inl (by omega), by omega⟩) h1
      have hLs : ∀ b, Iv (w.alloc (.cells #[] 3)).heap.size w1.heap.size b → w.heap.size < b ∧ b < w1.heap.size := fun b hb => ⟨by have := hb.1; simp at this; omega, hb.2⟩
      obtain ⟨SL, hSL⟩ : ∃ SL : Bk, SL = Iv (w.alloc (.cells #[] 3)).heap.size w1.heap.size := ⟨_, rfl⟩
      rw [← hSL] at hownL hLs
      clear hSL hs1 hwl
      have HLs := Lib.hid hLs
      clear hLs
      rcases hownL.inv with ⟨rfl, hLnil⟩ | ⟨g, cap, rfl, hg, hcap, hgs, -⟩
      · have hr0 : solveLine rs st = none := by rw [Hr.out, hLnil]; rfl
        have Hr0 := Lib.hid hr0
        have Hnil := Lib.hid hnil
        clear hLnil hr0 hownL hnil
        go_wp2
        refine wp_loop_rounds 1 ?_
        rw [rounds_succ]
        go_wp2
        go_ret2
        rw [Hr0.out]
        exact ⟨_, rfl, (rOwn rIntV).mono (fun b hb => ⟨by rcases hb.1 with h | h <;> omega, hb.2⟩) Hnil.out, hbw1⟩
      · have Hnil := Lib.hid hnil
        have HownL := Lib.hid hownL
        clear hnil hownL
        go_wp2
        go_loopw [8, 10, 11, 12, 33] (fun v8 _ _ _ i wr => ∃ k : Nat, k ≤ L.length ∧ i = .int .i64 k ∧ Own 3 IntV (SolveOut w w1 wr) wr v8 ((solveTo L st k).getD []) ∧ Own 41 (Own 3 IntV) SL wr (.slice (some ⟨g, 0, none⟩) L.length cap) L ∧ Below w.heap.size w wr ∧ w1.heap.size ≤ wr.heap.size) (fun _ _ _ _ i _ => L.length - (intOf i).toNat)
        case atStart => exact ⟨0, Nat.zero_le _, rfl, Hnil.out, HownL.out, hbw1, Nat.le_refl _⟩
        case round =>
          clear Hnil HownL hbw1
          obtain ⟨k, hk, rfl, hout, hownL, hbel, hsz⟩ := hrel
          obtain ⟨wo, rfl⟩ : ∃ wo : World, wo = wr := ⟨_, rfl⟩
          by_cases hlt : k < L.length
          · obtain ⟨line, hline⟩ : ∃ l, L[k]? = some l := ⟨_, List.getElem?_eq_getElem hlt⟩
            obtain ⟨hll, hlb⟩ := Hmem.out line (List.mem_of_getElem? hline)
            obtain ⟨-, -, -, -, T, u, hcell, hr, hT, -⟩ := hownL.focus (rOwn rIntV) hline
            have hlR : Ints wo u line := hr.ints
            have hrS : Own 3 IntV SL wo u line := (rOwn rIntV).mono (fun b hb => (hT b hb).1) hr
            obtain ⟨q, cq, rfl, hqS, hcq, -, -⟩ := hrS.inv_ne (by omega)
            rw [hll] at hcell hlR hrS hcq
            have hqL := HLs.out q hqS
            have hqc : ∀ (x : Nat) (o : Int), line[x]? = some o → wo.cell? ⟨q, x, none⟩ = some (.int .i64 o) := fun x o h => hlR.at0 h
            have Hsol := Lib.hid (solveTo_succ (st := st) hline)
            have hagc := l14Agrees_c _ _ line st wo hlR (hv2.keep hbel) hll.symm Hal.out
            have Hagc := Lib.hid hagc
            have Hqc := Lib.hid hqc
            have HrS := Lib.hid hrS
            have HlR := Lib.hid hlR
            have Hll := Lib.hid hll
            have Hout := Lib.hid hout
            have HownL := Lib.hid hownL
            have hwg : w.heap.size ≤ wo.heap.size := hbel.size
            clear hline hlb hr hT hlR hrS hqc hagc hll hout hownL
            go_wp2_with (fail)
            refine Hagc.out.mono ?_
            rintro e w' ⟨rfl, rfl⟩
            cases hag : agrees st line
            · have Hst := Lib.hid (show solveTo L st (k + 1) = solveTo L st k from by rw [Hsol.out]; simp [solveStep, hag])
              go_wp2
              go_roundw
              case rel => exact ⟨k + 1, by omega, by go_num, by rw [Hst.out]; exact Hout.out, HownL.out, hbel, hsz⟩
              case measure => simp [intOf]; omega
            · have hstep : solveTo L st (k + 1) = some (match solveTo L st k with | none => line | some o => mergeL o line) := by
                rw [Hsol.out]; unfold solveStep; rw [hag]; rfl
              clear hag
              cases hacc : solveTo L st k with
              | none =>
                have hout := Hout.out
                rw [hacc] at hstep hout
                have Hstep := Lib.hid hstep
                have hl0 : ([] : List Int).length + line.length ≤ 1099511627776 := by rw [Hll.out]; simp; omega
                obtain ⟨y1, y2, y3, rfl⟩ := hout.shape
                have hz : y2 = 0 := hout.ints.len
                subst hz
                have Hout2 := Lib.hid hout
                clear hstep hout hacc
                go_wp2_with (first | (at_builtin; refine wpList_appI rfl _ _ 41 rfl 3 Try.underlying41 infoInt rfl (SolveOut w w1 wo) rfl rfl (by exact Hout2.out) (by exact HlR.out) hl0 ?_; intro v7 w7 hown7 honly7 _))
                have hown7' : Own 3 IntV (SolveOut w w1 w7) w7 v7 line := by
                  have h := (rOwn rIntV).mono (S' := SolveOut w w1 w7) (fun b hb => by
                    rcases hb with hb | hb
                    · exact ⟨hb.1, Nat.lt_of_lt_of_le hb.2 honly7.size⟩
                    · exact ⟨.inr (by omega), hb.2⟩) hown7
                  simpa using h
                have hdis : ∀ b, SL b → ¬ ((Value.slice y1 0 y3).ownBlock = some b) := fun b hb he => by
                  have h1 := HLs.out b hb
                  have h2 := Own.ownBlock' Hout2.out b he
                  rcases h2.1 with h3 | h3 <;> omega
                have hSLlt : ∀ b, SL b → b < wo.heap.size := fun b hb => by have := HLs.out b hb; omega
                have hownL7 := Own.only (rOwn rIntV) HownL.out honly7 hSLlt hdis
                have hr7 := Own.only rIntV HrS.out honly7 hSLlt hdis
                have hlR7 := hr7.ints
                obtain ⟨q7, c7, rfl, -, hc7, -, -⟩ := hown7'.inv_ne (by rw [Hll.out]; omega)
                have h7R := hown7'.ints
                rw [Hll.out] at hc7 h7R hown7' ⊢
                have hbel7 : Below w.heap.size w w7 := hbel.trans (honly7.below hwg fun b hb => by have h2 := Own.ownBlock' Hout2.out b hb; rcases h2.1 with h3 | h3 <;> omega)
                have hsz7 : w1.heap.size ≤ w7.heap.size := Nat.le_trans hsz honly7.size
                have Hown7 := Lib.hid hown7'
                have HownL7 := Lib.hid hownL7
                have H7R := Lib.hid h7R
                have HlR7 := Lib.hid hlR7
                clear hown7 hown7' hdis hSLlt hownL7 hr7 h7R hlR7 honly7
                go_wp2
                go_loop [11, 12, 49] (fun _ _ i => ∃ j : Nat, j ≤ st.length ∧ i = .int .i64 j) (fun _ _ i => st.length - (intOf i).toNat)
                case atStart => exact ⟨0, Nat.zero_le _, rfl⟩
                case round =>
                  obtain ⟨i, hi, rfl⟩ := hrel
                  by_cases hlt3 : i < st.length
                  · obtain ⟨c, hc⟩ : ∃ c, line[i]? = some c := ⟨_, List.getElem?_eq_getElem (by rw [Hll.out]; exact hlt3)⟩
                    have hcc := HlR7.out.at0 hc
                    have hco := H7R.out.at0 hc
                    clear hc
                    go_wp2
                    go_round
                    case rel => exact ⟨i + 1, by omega, by go_num⟩
                    case measure => simp [intOf]; omega
                  · go_wp2
                    go_roundw
                    case rel => exact ⟨k + 1, by omega, by go_num, by rw [Hstep.out]; exact Hown7.out, HownL7.out, hbel7, hsz7⟩
                    case measure => simp [intOf]; omega
              | some o =>
                have hout := Hout.out
                rw [hacc] at hstep hout
                obtain ⟨hol, -⟩ := Hwf.out _ (by omega) o hacc
                have hout : Own 3 IntV (SolveOut w w1 wo) wo u8 o := hout
                obtain ⟨q7, c7, rfl, hq7, hc7, -, -⟩ := hout.inv_ne (by omega)
                rw [hol] at hc7 hout
                have hnz : ((o.length : Int) == 0) = false := by rw [beq_eq_false_iff_ne]; omega
                rw [hol] at hnz ⊢
                have hq7L : ∀ b, SL b → b ≠ q7 := fun b hb e => by
                  have h1 := HLs.out b hb
                  rcases hq7.1 with h3 | h3 <;> omega
                have hq7B : w.heap.size ≤ q7 := by rcases hq7.1 with h3 | h3 <;> omega
                have hoo : o.length = line.length := by rw [hol, Hll.out]
                have hout0 : Own 3 IntV (SolveOut w w1 wo) wo (.slice (some ⟨q7, 0, none⟩) st.length c7) (mergeTo o line 0) := by rw [mergeTo_zero]; exact hout
                have Hstep := Lib.hid hstep
                have Hout0 := Lib.hid hout0
                have Hol := Lib.hid hol
                have Hoo := Lib.hid hoo
                have Hq7L := Lib.hid hq7L
                clear hstep hacc hol hout hoo hout0 Hout hq7L
                go_wp2
                go_loopw [11, 12, 49] (fun _ _ i wr => ∃ j : Nat, j ≤ st.length ∧ i = .int .i64 j ∧ Own 3 IntV (SolveOut w w1 wo) wr (.slice (some ⟨q7, 0, none⟩) st.length c7) (mergeTo o line j) ∧ Own 41 (Own 3 IntV) SL wr (.slice (some ⟨g, 0, none⟩) L.length cap) L ∧ Own 3 IntV SL wr (.slice (some ⟨q, 0, none⟩) st.length cq) line ∧ Below w.heap.size w wr ∧ wr.heap.size = wo.heap.size) (fun _ _ i _ => st.length - (intOf i).toNat)
                case atStart => exact ⟨0, Nat.zero_le _, rfl, Hout0.out, HownL.out, HrS.out, hbel, rfl⟩
                case round =>
                  clear Hout0 HownL HrS hbel
                  obtain ⟨i, hi, rfl, hownM, hownL, hrS, hbel, hszr⟩ := hrel
                  have Hszr := Lib.hid hszr
                  by_cases hlt3 : i < st.length
                  · obtain ⟨c, hc⟩ : ∃ c, line[i]? = some c := ⟨_, List.getElem?_eq_getElem (by rw [Hll.out]; exact hlt3)⟩
                    obtain ⟨a, ha⟩ : ∃ a, o[i]? = some a := ⟨_, List.getElem?_eq_getElem (by rw [Hol.out]; exact hlt3)⟩
                    have hml := mergeTo_len Hoo.out i
                    have hma := mergeTo_at Hoo.out ha
                    have hcc := hrS.ints.at0 hc
                    obtain ⟨hca, hfa, -⟩ := hownM.ints_cell hma
                    by_cases hac : a = c
                    · subst hac
                      have Hsame := Lib.hid (mergeTo_same Hoo.out ha hc)
                      have HownM := Lib.hid hownM
                      have HownL := Lib.hid hownL
                      have HrS := Lib.hid hrS
                      clear hc ha hma hownM hownL hrS hml hszr
                      go_wp2
                      go_roundw
                      case rel => exact ⟨i + 1, by omega, by go_num, by rw [Hsame.out]; exact HownM.out, HownL.out, HrS.out, hbel, Hszr.out⟩
                      case measure => simp [intOf]; omega
                    · have hne : (a == c) = false := by simpa using hac
                      have hsucc := mergeTo_succ Hoo.out ha hc
                      rw [show mergeAt a c = -1 from by simp [mergeAt, hac]] at hsucc
                      have hnew := hownM.setInt (k := i) (c := -1) (by rw [hml, Hol.out]; exact hlt3) (I64.small (by decide) (by decide))
                      rw [← hsucc] at hnew
                      have hsame : SameOn SL wr (wr.setCell ⟨q7, i, none⟩ (.int .i64 (-1))) := fun b hb => Below.heap_setCell wr _ _ b (Hq7L.out b hb)
                      have hownL2 := (rOwn (rOwn rIntV)).same hsame hownL
                      have hrS2 := (rOwn rIntV).same hsame hrS
                      have Hnew := Lib.hid hnew
                      have HownL := Lib.hid hownL2
                      have HrS := Lib.hid hrS2
                      clear hc ha hma hownM hownL hrS hml hsucc hnew hsame hownL2 hrS2 hszr
                      go_wp2
                      go_roundw
                      case rel => exact ⟨i + 1, by omega, by go_num, Hnew.out, HownL.out, HrS.out, hbel.setCell hq7B _, by rw [size_setCell, Hszr.out]⟩
                      case measure => simp [intOf]; omega
                  · have hin' : i = line.length := by have := Hll.out; omega
                    have HownM := Lib.hid (show Own 3 IntV (SolveOut w w1 wr) wr (.slice (some ⟨q7, 0, none⟩) st.length c7) (mergeL o line) from by
                      rw [← mergeTo_all Hoo.out, ← hin']
                      exact (rOwn rIntV).mono (fun b hb => ⟨hb.1, by rw [hszr]; exact hb.2⟩) hownM)
                    have HownL := Lib.hid hownL
                    have hszw : w1.heap.size ≤ wr.heap.size := by omega
                    clear hownM hin' hownL hrS hszr
                    go_wp2
                    go_roundw
                    case rel => exact ⟨k + 1, by omega, by go_num, by rw [Hstep.out]; exact HownM.out, HownL.out, hbel, hszw⟩
                    case measure => simp [intOf]; omega
          · have hkL : k = L.length := by omega
            subst hkL
            have hfin : Own 3 IntV (Iv w.heap.size wo.heap.size) wo u8 ((solveLine rs st).getD []) := by
              rw [Hr.out]
              exact (rOwn rIntV).mono (fun b hb => ⟨by rcases hb.1 with h | h <;> omega, hb.2⟩) hout
            obtain ⟨y1, y2, y3, rfl⟩ := hout.shape
            have hyl := hout.ints.len
            cases hacc : solveTo L st L.length with
            | none =>
              rw [hacc] at hyl
              have hy0 : y2 = 0 := hyl
              subst hy0
              have Hr2 := Lib.hid (show (solveLine rs st).isSome = false from by rw [Hr.out, hacc]; rfl)
              have Hfin := Lib.hid hfin
              clear hout hownL hyl hacc hfin
              go_wp2
              go_ret2
              rw [Hr2.out]
              exact ⟨_, rfl, Hfin.out, hbel⟩
            | some o =>
              rw [hacc] at hyl
              have hyl : y2 = o.length := hyl
              obtain ⟨hol, -⟩ := Hwf.out _ (Nat.le_refl _) o hacc
              have hpos : 0 < y2 := by omega
              have Hr2 := Lib.hid (show (solveLine rs st).isSome = true from by rw [Hr.out, hacc]; rfl)
              have Hfin := Lib.hid hfin
              have hd : decide ((0 : Int) < (y2 : Int)) = true := by simp; omega
              have hol1 : 1 ≤ o.length := by omega
              clear hout hownL hyl hacc hfin hol
              go_wp2
              go_ret2
              rw [Hr2.out]
              exact ⟨_, retTB (by simp; omega), Hfin.out, hbel⟩
end Go.Proofs.Ytekgnpdchpdfiaa

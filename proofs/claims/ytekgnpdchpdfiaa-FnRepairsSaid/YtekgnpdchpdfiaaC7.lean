/- Contract: SolveLine. -/
import Derived.Test.YtekgnpdchpdfiaaC6
import Derived.Lib.SliceRun
namespace Go.Proofs.Ytekgnpdchpdfiaa
open Go.RowKit

/-- what SolveLine returns: a new line and true, or nil and false -/
def SolveRes (w : World) (r : Option (List Int)) (e : Ending) (w' : World) : Prop :=
  Below w.heap.size w w' ∧ match r with
  | none => e = .returned (.tuple #[.slice none 0 0, .bool false])
  | some o => ∃ v', e = .returned (.tuple #[v', .bool true]) ∧ Own 3 IntV (Iv w.heap.size w'.heap.size) w' v' o

theorem Own.set_self {α : Type} {E : TypeId} {R : RepT α} {S : Bk} {w : World} {v : Value} {xs : List α} {k : Nat} {x : α} (h : Own E R S w v xs) (hk : xs[k]? = some x) : Own E R S w v (xs.set k x) := by
  obtain ⟨h1, h2⟩ := List.getElem?_eq_some_iff.1 hk
  have : xs.set k x = xs := by rw [← h2]; exact List.set_getElem_self h1
  rwa [this]

/-- where the state of the search lies -/
def SolveAt (S : Bk) (L : List (List Int)) (g cap : Nat) (wr : World) (v6 : Value) (acc : Option (List Int)) (k : Nat) : Prop :=
  match acc with
  | none => v6 = .slice none 0 0 ∧ Own 41 (Own 3 IntV) S wr (.slice (some ⟨g, 0, none⟩) L.length cap) L
  | some o => ∃ k0, k0 < k ∧ Own 41 (Own 3 IntV) S wr (.slice (some ⟨g, 0, none⟩) L.length cap) (L.set k0 o) ∧ wr.cell? ⟨g, k0, none⟩ = some v6

set_option maxHeartbeats 1600000 in
theorem SolveLine_i (v v2 : Value) (rs st : List Int) (w : World) (hv : Ints w v rs) (hv2 : Ints w v2 st) : Calls Try.prog 54 #[v, v2] w (SolveRes w (solveLine rs st)) := by
  obtain ⟨a2, cap2, rfl, hcap2, hle2, -, hc2⟩ := id hv2
  cases hok : stateOk st
  · have Hr := Lib.hid (show solveLine rs st = none from by simp [solveLine, hok])
    have hok' := hok
    unfold stateOk at hok'
    cases hin : inR 1 5 st.length
    · go_enter Try.func54, Try.ntmps54
      go_wp2_with (first | (go_at_call 74; refine (within_c _ _ _ _).mono ?_; rintro e w' ⟨rfl, rfl⟩))
      go_ret2
      rw [Hr.out]
      exact ⟨Below.refl _ _, rfl⟩
    · have hal : st.all (inR (-1) 1) = false := by simpa [hin] using hok'
      go_enter Try.func54, Try.ntmps54
      go_wp2_with (first | (go_at_call 74; refine (within_c _ _ _ _).mono ?_; rintro e w' ⟨rfl, rfl⟩) | (go_at_call 75; refine (allWithin_c _ _ _ _ _ hv2).mono ?_; rintro e w' ⟨rfl, rfl⟩))
      go_ret2
      rw [Hr.out]
      exact ⟨Below.refl _ _, rfl⟩
  have Hr := Lib.hid (show solveLine rs st = solveTo (linesFor rs st.length) st (linesFor rs st.length).length from by simp [solveLine, hok])
  have hok' := hok
  unfold stateOk at hok'
  rw [Bool.and_eq_true] at hok'
  obtain ⟨hin, hal⟩ := hok'
  have hb := inR_iff.1 hin
  have hn1 : 1 ≤ st.length := by omega
  have hn2 : st.length ≤ 5 := by omega
  clear hb hok
  obtain ⟨L, hL⟩ : ∃ L, L = linesFor rs st.length := ⟨_, rfl⟩
  rw [← hL] at Hr
  have hmem : ∀ l ∈ L, l.length = st.length ∧ ∀ x ∈ l, 0 ≤ x ∧ x ≤ 1 := fun l hl => linesTo_mem (by rw [hL] at hl; exact hl)
  have hLl : L.length ≤ 32 := by rw [hL]; exact Nat.le_trans (linesTo_len _ _ _) (pow_le32 hn2)
  have hcall := LinesFor_i v rs st.length w hv hn1 hn2
  rw [← hL] at hcall
  have Hwf := Lib.hid (fun k hk o ho => solveTo_wf (n := st.length) (rs := rs) (st := st) k hk o ho)
  rw [← hL] at Hwf
  have Hmem := Lib.hid hmem
  have Hcall := Lib.hid hcall
  clear hL hmem hcall
  have heqn := fun (w : World) (a : Option Addr) (n c n' c' : Nat) => Lib.run_eql_slice_nil (P := Try.prog) w 41 3 a n c n' c' Try.underlying41
  have hneq := fun (w : World) (a : Option Addr) (n c n' c' : Nat) => run_neq_slice_nil_any (P := Try.prog) w 41 3 a n c n' c' Try.underlying41
  go_enter Try.func54, Try.ntmps54
  go_wp2_with (first | (go_at_call 74; refine (within_c _ _ _ _).mono ?_; rintro e w' ⟨rfl, rfl⟩) | (go_at_call 75; refine (allWithin_c _ _ _ _ _ hv2).mono ?_; rintro e w' ⟨rfl, rfl⟩))
  refine Hcall.out.mono ?_
  rintro e w1 ⟨v1, rfl, hown, hbel⟩
  have Hin := Lib.hid hin
  have Hal := Lib.hid hal
  have hB1 := hbel.size
  clear hin hal
  rcases hown.inv with ⟨rfl, hLnil⟩ | ⟨g, cap, rfl, hg, hcap, hgs, -⟩
  · have hr0 : solveLine rs st = none := by rw [Hr.out, hLnil]; rfl
    have Hr0 := Lib.hid hr0
    clear hLnil hr0 hown
    go_wp2
    refine wp_loop_rounds 1 ?_
    rw [rounds_succ]
    go_wp2
    go_ret2
    rw [Hr0.out]
    exact ⟨hbel, rfl⟩
  have hS : ∀ b, Iv w.heap.size w1.heap.size b → b < w1.heap.size := fun b hb => hb.2
  have Hown := Lib.hid hown
  have HS := Lib.hid hS
  clear hown hS
  go_wp2
  go_loopw [6, 8, 9, 10, 11, 12, 13, 28] (fun v6 _ _ _ _ _ _ i wr => ∃ k : Nat, k ≤ L.length ∧ i = .int .i64 k ∧ SolveAt (Iv w.heap.size w1.heap.size) L g cap wr v6 (solveTo L st k) k ∧ Below w.heap.size w wr ∧ wr.heap.size = w1.heap.size) (fun _ _ _ _ _ _ _ i _ => L.length - (intOf i).toNat)
  case atStart => exact ⟨0, Nat.zero_le _, rfl, ⟨rfl, Hown.out⟩, hbel, rfl⟩
  case round =>
    clear Hown hbel
    obtain ⟨k, hk, rfl, hat, hbel, hsz⟩ := hrel
    have Hsz := Lib.hid hsz; clear hsz
    by_cases hlt : k < L.length
    · obtain ⟨line, hline⟩ : ∃ l, L[k]? = some l := ⟨_, List.getElem?_eq_getElem hlt⟩
      obtain ⟨hll, hlb⟩ := Hmem.out line (List.mem_of_getElem? hline)
      -- the grid as it stands
      obtain ⟨Lc, hown, hLc, hLcl⟩ : ∃ Lc, Own 41 (Own 3 IntV) (Iv w.heap.size w1.heap.size) wr (.slice (some ⟨g, 0, none⟩) L.length cap) Lc ∧ Lc[k]? = some line ∧ Lc.length = L.length := by
        unfold SolveAt at hat
        cases hacc : solveTo L st k with
        | none => rw [hacc] at hat; exact ⟨L, hat.2, hline, rfl⟩
        | some o =>
          rw [hacc] at hat
          obtain ⟨k0, hk0, ho, _⟩ := hat
          exact ⟨_, ho, by rw [List.getElem?_set_ne (by omega)]; exact hline, by simp⟩
      obtain ⟨q, cq, hcell, -, hq, hqg, hcq, -, hqc, -⟩ := own_grid_cell hown hLc (by omega)
      rw [hll] at hcell hcq
      obtain ⟨b, off, rfl, hb, hc'⟩ := hc2 (by omega)
      have hbr : ∀ j x, st[j]? = some x → wr.cell? ⟨b, off + j, none⟩ = some (.int .i64 x) := fun j x hx => by
        obtain ⟨u, hu, rfl, -⟩ := hc' j x hx
        rw [hbel.cell (p := ⟨b, off + j, none⟩) hb, hu]
      have Hbr := Lib.hid hbr
      have Hqc := Lib.hid hqc
      have Hline := Lib.hid hline
      have Hll := Lib.hid hll
      have Hat := Lib.hid hat
      have Hown := Lib.hid hown
      have HLc := Lib.hid hLc
      have hdec : decide ((k : Int) < (L.length : Int)) = true := by simp; omega
      clear hc2 hc' hbr hqc hline hll hat hown hLc hLcl hlb
      go_wp2
      go_loop [9, 10, 11, 34] (fun a _ _ i => ∃ j : Nat, j ≤ st.length ∧ i = .int .i64 j ∧ a = .bool (agreesTo st line j)) (fun _ _ _ i => st.length - (intOf i).toNat)
      case atStart => exact ⟨0, Nat.zero_le _, rfl, rfl⟩
      case round =>
        obtain ⟨j, hj, rfl, rfl⟩ := hrel
        by_cases hlt2 : j < st.length
        · obtain ⟨x, hx⟩ : ∃ x, st[j]? = some x := ⟨_, List.getElem?_eq_getElem hlt2⟩
          obtain ⟨c, hc⟩ : ∃ c, line[j]? = some c := ⟨_, List.getElem?_eq_getElem (by rw [Hll.out]; exact hlt2)⟩
          have hcx := Hbr.out j x hx
          have hcc := Hqc.out j c hc
          have Hs := Lib.hid (agreesTo_succ st line j)
          have He := Lib.hid (agreeAt_eq hx hc)
          have hgx : st[j]?.getD 0 = x := by rw [hx]; rfl
          clear hx hc hgx
          cases hag : agreesTo st line j
          · have Hag := Lib.hid hag
            go_wp2
            go_round
            case rel => exact ⟨j + 1, by omega, by go_num, by rw [Hs.out, Hag.out]; rfl⟩
            case measure => simp [intOf]; omega
          · have Hag := Lib.hid hag
            by_cases hx0 : x < 0
            · go_wp2
              go_round
              case rel => exact ⟨j + 1, by omega, by go_num, by rw [Hs.out, Hag.out, He.out]; simp [hx0]⟩
              case measure => simp [intOf]; omega
            · have hd : decide (x < 0) = false := by simp; omega
              have Hd := Lib.hid hd
              go_wp2
              go_round
              case rel => exact ⟨j + 1, by omega, by go_num, by rw [Hs.out, Hag.out, He.out, Hd.out]; simp⟩
              case measure => simp [intOf]; omega
        · have hjn : j = line.length := by have := Hll.out; omega
          have Hjn := Lib.hid hjn
          clear hjn
          have Hsol := Lib.hid (solveTo_succ (st := st) Hline.out)
          cases hag : agreesTo st line j
          · have Hag := Lib.hid (show solveTo L st (k + 1) = solveTo L st k from by rw [Hsol.out]; simp [solveStep, agrees, ← Hjn.out, hag])
            go_wp2
            go_roundw
            case rel =>
              refine ⟨k + 1, by omega, by go_num, ?_, hbel, Hsz.out⟩
              rw [Hag.out]
              have h := Hat.out
              unfold SolveAt at h ⊢
              split
              · rename_i e; rw [e] at h; exact h
              · rename_i o e; rw [e] at h
                obtain ⟨k0, h1, h2⟩ := h
                exact ⟨k0, by omega, h2⟩
            case measure => simp [intOf]; omega
          · have hstep : solveTo L st (k + 1) = some (match solveTo L st k with | none => line | some o => mergeL o line) := by
              rw [Hsol.out]; unfold solveStep agrees; rw [← Hjn.out, hag]; rfl
            clear hag
            cases hacc : solveTo L st k with
            | none =>
              have hat := Hat.out
              rw [hacc] at hstep hat
              obtain ⟨rfl, hownL⟩ := hat
              have Hstep := Lib.hid hstep
              have HownL := Lib.hid hownL
              clear hstep hownL hacc
              go_wp2
              go_loop [12, 13, 63] (fun _ _ i => ∃ j : Nat, j ≤ st.length ∧ i = .int .i64 j) (fun _ _ i => st.length - (intOf i).toNat)
              case atStart => exact ⟨0, Nat.zero_le _, rfl⟩
              case round =>
                obtain ⟨i, hi, rfl⟩ := hrel
                by_cases hlt3 : i < st.length
                · obtain ⟨c, hc⟩ : ∃ c, line[i]? = some c := ⟨_, List.getElem?_eq_getElem (by rw [Hll.out]; exact hlt3)⟩
                  have hcc := Hqc.out i c hc
                  clear hc
                  go_wp2
                  go_round
                  case rel => exact ⟨i + 1, by omega, by go_num⟩
                  case measure => simp [intOf]; omega
                · go_wp2
                  go_roundw
                  case rel =>
                    refine ⟨k + 1, by omega, by go_num, ?_, hbel, Hsz.out⟩
                    rw [Hstep.out]
                    exact ⟨k, Nat.lt_succ_self k, HownL.out.set_self Hline.out, hcell⟩
                  case measure => simp [intOf]; omega
            | some o =>
              have hat := Hat.out
              rw [hacc] at hstep hat
              obtain ⟨k0, hk0, hownL, hcell0⟩ := hat
              obtain ⟨hol, -⟩ := Hwf.out _ (by omega) o hacc
              have hk0' : (L.set k0 o)[k0]? = some o := by rw [List.getElem?_set_self (by omega)]
              obtain ⟨q0, cq0, hc0, -⟩ := own_grid_cell hownL hk0' (by omega)
              rw [hol] at hc0
              obtain rfl : u6 = .slice (some ⟨q0, 0, none⟩) st.length cq0 := by rw [hcell0] at hc0; exact Option.some.inj hc0
              obtain ⟨wo, rfl⟩ : ∃ wo : World, wo = wr := ⟨_, rfl⟩
              have hown0 : Own 41 (Own 3 IntV) (Iv w.heap.size w1.heap.size) wo (.slice (some ⟨g, 0, none⟩) L.length cap) (L.set k0 (mergeTo o line 0)) := by rw [mergeTo_zero]; exact hownL
              have hoo : o.length = line.length := by rw [hol, Hll.out]
              have Hstep := Lib.hid hstep
              have Hown0 := Lib.hid hown0
              have Hol := Lib.hid hol
              have Hoo := Lib.hid hoo
              have Hc0 := Lib.hid hc0
              have Hcell := Lib.hid hcell
              clear hstep hownL hown0 hacc hk0' hol hoo hc0 hcell0 hcell
              go_wp2
              go_loopw [12, 13, 63] (fun _ _ i wr => ∃ j : Nat, j ≤ st.length ∧ i = .int .i64 j ∧ Own 41 (Own 3 IntV) (Iv w.heap.size w1.heap.size) wr (.slice (some ⟨g, 0, none⟩) L.length cap) (L.set k0 (mergeTo o line j)) ∧ wr.cell? ⟨g, k0, none⟩ = some (.slice (some ⟨q0, 0, none⟩) st.length cq0) ∧ wr.cell? ⟨g, k, none⟩ = some (.slice (some ⟨q, 0, none⟩) st.length cq) ∧ Below w.heap.size w wr ∧ wr.heap.size = w1.heap.size) (fun _ _ i _ => st.length - (intOf i).toNat)
              case atStart => exact ⟨0, Nat.zero_le _, rfl, Hown0.out, Hc0.out, Hcell.out, hbel, Hsz.out⟩
              case round =>
                clear Hown0 Hc0 Hcell hbel Hsz
                obtain ⟨i, hi, rfl, hownM, hc0, hck, hbel, hsz⟩ := hrel
                have Hsz := Lib.hid hsz
                clear hsz
                by_cases hlt3 : i < st.length
                · obtain ⟨c, hc⟩ : ∃ c, line[i]? = some c := ⟨_, List.getElem?_eq_getElem (by rw [Hll.out]; exact hlt3)⟩
                  obtain ⟨a, ha⟩ : ∃ a, o[i]? = some a := ⟨_, List.getElem?_eq_getElem (by rw [Hol.out]; exact hlt3)⟩
                  have hml := mergeTo_len Hoo.out i
                  have hma := mergeTo_at Hoo.out ha
                  have hk0' : (L.set k0 (mergeTo o line i))[k0]? = some (mergeTo o line i) := by rw [List.getElem?_set_self (by omega)]
                  have hkk : (L.set k0 (mergeTo o line i))[k]? = some line := by rw [List.getElem?_set_ne (by omega)]; exact Hline.out
                  obtain ⟨q0', cq0', hc0', hgS, hq0S, hq0g, hcq0, hfree, hval, hset⟩ := own_grid_cell hownM hk0' (by rw [hml, Hol.out]; omega)
                  rw [hml, Hol.out] at hc0' hcq0 hfree
                  obtain ⟨rfl, rfl⟩ : q0 = q0' ∧ cq0 = cq0' := by rw [hc0] at hc0'; simpa using hc0'
                  obtain ⟨q', cq', hck', -, hqS', hqg', -, -, hval', -⟩ := own_grid_cell hownM hkk (by rw [Hll.out]; omega)
                  rw [Hll.out] at hck'
                  obtain ⟨rfl, rfl⟩ : q = q' ∧ cq = cq' := by rw [hck] at hck'; simpa using hck'
                  have hca := hval i a hma
                  have hcc := hval' i c hc
                  obtain ⟨-, hfa⟩ := hfree i hlt3
                  have hwB : w.heap.size ≤ q0 := hq0S.1
                  by_cases hac : a = c
                  · subst hac
                    have Hsame := Lib.hid (mergeTo_same Hoo.out ha hc)
                    have HownM := Lib.hid hownM
                    clear hc ha hma hk0' hkk hc0' hck' hval hval' hset hfree hownM hml
                    go_wp2
                    go_roundw
                    case rel => exact ⟨i + 1, by omega, by go_num, by rw [Hsame.out]; exact HownM.out, hc0, hck, hbel, Hsz.out⟩
                    case measure => simp [intOf]; omega
                  · have hne : (a == c) = false := by simpa using hac
                    have hsucc := mergeTo_succ Hoo.out ha hc
                    rw [show mergeAt a c = -1 from by simp [mergeAt, hac]] at hsucc
                    have hnew := hset wr (fun _ _ => rfl) i (-1) (by rw [hml, Hol.out]; exact hlt3) (I64.small (by decide) (by decide))
                    rw [List.set_set, ← hsucc] at hnew
                    have Hnew := Lib.hid hnew
                    have hc0n : (wr.setCell ⟨q0, i, none⟩ (.int .i64 (-1))).cell? ⟨g, k0, none⟩ = some (.slice (some ⟨q0, 0, none⟩) st.length cq0) := by
                      rw [World.cell?_of_block (w := wr) (Below.heap_setCell wr _ _ g (fun e => hq0g e.symm))]; exact hc0
                    have hckn : (wr.setCell ⟨q0, i, none⟩ (.int .i64 (-1))).cell? ⟨g, k, none⟩ = some (.slice (some ⟨q, 0, none⟩) st.length cq) := by
                      rw [World.cell?_of_block (w := wr) (Below.heap_setCell wr _ _ g (fun e => hq0g e.symm))]; exact hck
                    have Hc0n := Lib.hid hc0n
                    have Hckn := Lib.hid hckn
                    have Hac := Lib.hid hac
                    clear hc ha hma hk0' hkk hc0' hck' hval hval' hset hfree hownM hml hsucc hnew hc0n hckn hac
                    go_wp2
                    go_roundw
                    case rel => exact ⟨i + 1, by omega, by go_num, Hnew.out, Hc0n.out, Hckn.out, hbel.setCell hwB _, by rw [size_setCell, Hsz.out]⟩
                    case measure => simp [intOf]; omega
                · have hin' : i = line.length := by have := Hll.out; omega
                  have HownM := Lib.hid (show Own 41 (Own 3 IntV) (Iv w.heap.size w1.heap.size) wr (.slice (some ⟨g, 0, none⟩) L.length cap) (L.set k0 (mergeL o line)) from by rw [← mergeTo_all Hoo.out, ← hin']; exact hownM)
                  have Hc0 := Lib.hid hc0
                  clear hownM hin' hc0 hck
                  go_wp2
                  go_roundw
                  case rel =>
                    refine ⟨k + 1, by omega, by go_num, ?_, hbel, Hsz.out⟩
                    rw [Hstep.out]
                    exact ⟨k0, by omega, HownM.out, Hc0.out⟩
                  case measure => simp [intOf]; omega
    · have hkL : k = L.length := by omega
      subst hkL
      cases hacc : solveTo L st L.length with
      | none =>
        rw [hacc] at hat
        obtain ⟨rfl, -⟩ := hat
        have Hacc := Lib.hid hacc
        clear hacc
        go_wp2
        go_ret2
        rw [Hr.out, Hacc.out]
        exact ⟨hbel, rfl⟩
      | some o =>
        rw [hacc] at hat
        obtain ⟨k0, hk0, hown, hcell⟩ := hat
        have hk0' : (L.set k0 o)[k0]? = some o := by rw [List.getElem?_set_self hk0]
        obtain ⟨ho1, ho2⟩ := Hwf.out _ (Nat.le_refl _) o hacc
        obtain ⟨-, -, -, -, T, u, hu, hr, hT, -⟩ := hown.focus (rOwn rIntV) hk0'
        obtain rfl : u = u6 := by rw [hcell] at hu; exact (Option.some.inj hu).symm
        obtain ⟨q, cq, rfl, -⟩ := hr.inv_ne (by omega)
        have Hacc := Lib.hid hacc
        have Hr' := Lib.hid hr
        have HT := Lib.hid hT
        clear hacc hown hcell hk0' hr hT hu ho1 ho2
        go_wp2
        go_ret2
        rw [Hr.out, Hacc.out]
        exact ⟨hbel, _, rfl, (rOwn rIntV).mono (fun b hb => by rw [Hsz.out]; exact (HT.out b hb).1) Hr'.out⟩
end Go.Proofs.Ytekgnpdchpdfiaa

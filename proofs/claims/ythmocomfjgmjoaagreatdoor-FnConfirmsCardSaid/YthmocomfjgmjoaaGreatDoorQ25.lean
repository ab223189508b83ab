/- Contracts and plain laws that the claims on sessions use. No condition of their own. -/
import Derived.Test.YthmocomfjgmjoaaGreatDoorQ09
import Derived.Test.YthmocomfjgmjoaaGreatDoorQ03
import Derived.Deep.RegionWith
import Derived.Deep.RegionLaw
import Derived.IntWalk
set_option maxHeartbeats 4000000
set_option maxRecDepth 100000
namespace Go.Proofs.YthmocomfjgmjoaaGreatDoor
open Go.RowKit
abbrev DirV (dx dy : Int) : Value := .agg #[.int .i64 dx, .int .i64 dy]
theorem dir_cases {dx dy : Int} (h1 : inR 0 3 dx = true) (h2 : inR (-3) 3 dy = true) : (dx = 0 ∨ dx = 1 ∨ dx = 2 ∨ dx = 3) ∧ (dy = -3 ∨ dy = -2 ∨ dy = -1 ∨ dy = 0 ∨ dy = 1 ∨ dy = 2 ∨ dy = 3) := by
  rw [inR_iff] at h1 h2
  omega
theorem DirectionOk_i (dx dy : Int) (w : World) : Calls Tryz.prog 100 #[DirV dx dy] w fun e w' => e = .returned (.bool (dirOkB dx dy)) ∧ Below w.heap.size w w' := by
  have Hb := Lib.hid (Below.pureAlloc w (.cells #[.int .i64 dx, .int .i64 dy] 73))
  cases h1 : inR 0 3 dx
  · have Hr := Lib.hid (show dirOkB dx dy = false from by simp [dirOkB, h1])
    have H1 := Lib.hid h1; clear h1
    go_enter Tryz.func100, Tryz.ntmps100
    go_wp2_with (fail)
    refine (within_c _ _ _ _).mono ?_
    rintro e w' ⟨rfl, rfl⟩
    rw [H1.out]
    go_wp2
    go_ret
    exact ⟨retB Hr.out.symm, Hb.out⟩
  cases h2 : inR (-3) 3 dy
  · have Hr := Lib.hid (show dirOkB dx dy = false from by simp [dirOkB, h2])
    have H1 := Lib.hid h1; clear h1
    have H2 := Lib.hid h2; clear h2
    go_enter Tryz.func100, Tryz.ntmps100
    go_wp2_with (fail)
    refine (within_c _ _ _ _).mono ?_
    rintro e w' ⟨rfl, rfl⟩
    rw [H1.out]
    go_wp2_with (fail)
    refine (within_c _ _ _ _).mono ?_
    rintro e w' ⟨rfl, rfl⟩
    rw [H2.out]
    go_wp2
    go_ret
    exact ⟨retB Hr.out.symm, Hb.out⟩
  obtain ⟨e1, e2⟩ := dir_cases h1 h2
  clear h1 h2
  rcases e1 with rfl | rfl | rfl | rfl <;> rcases e2 with rfl | rfl | rfl | rfl | rfl | rfl | rfl
  all_goals
    go_enter Tryz.func100, Tryz.ntmps100
    go_wp2_with (fail)
    refine (within_c _ _ _ _).mono ?_
    rintro e w' ⟨rfl, rfl⟩
    rw [show ∀ x, inR 0 3 x = inR 0 3 x from fun _ => rfl]
    simp only [show inR 0 3 0 = true from rfl, show inR 0 3 1 = true from rfl, show inR 0 3 2 = true from rfl, show inR 0 3 3 = true from rfl]
    go_wp2_with (fail)
    refine (within_c _ _ _ _).mono ?_
    rintro e w' ⟨rfl, rfl⟩
    simp only [show inR (-3) 3 (-3) = true from rfl, show inR (-3) 3 (-2) = true from rfl, show inR (-3) 3 (-1) = true from rfl, show inR (-3) 3 0 = true from rfl, show inR (-3) 3 1 = true from rfl, show inR (-3) 3 2 = true from rfl, show inR (-3) 3 3 = true from rfl]
    go_wp2
    first
      | (go_ret; exact ⟨rfl, Hb.out⟩)
      | (refine wp_loop_rounds 3 ?_; rw [rounds_succ]; go_wp2; first | (go_ret; exact ⟨rfl, Hb.out⟩) | (rw [rounds_succ]; go_wp2; first | (go_ret; exact ⟨rfl, Hb.out⟩) | (rw [rounds_succ]; go_wp2; go_ret; exact ⟨rfl, Hb.out⟩)))
theorem mul_bd1 {a y : Int} (h0 : 0 ≤ a) (h3 : a ≤ 3) (hy0 : 0 ≤ y) (hy : y ≤ 4) : 0 ≤ a * y ∧ a * y ≤ 12 := by
  have e1 : a = 0 ∨ a = 1 ∨ a = 2 ∨ a = 3 := by omega
  rcases e1 with rfl | rfl | rfl | rfl <;> omega
theorem mul_bd2 {a y : Int} (h0 : -3 ≤ a) (h3 : a ≤ 3) (hy0 : 0 ≤ y) (hy : y ≤ 4) : -12 ≤ a * y ∧ a * y ≤ 12 := by
  have e1 : a = -3 ∨ a = -2 ∨ a = -1 ∨ a = 0 ∨ a = 1 ∨ a = 2 ∨ a = 3 := by omega
  rcases e1 with rfl | rfl | rfl | rfl | rfl | rfl | rfl <;> omega
structure LnBd (c : Nat) (dx dy y x : Int) : Prop where
  d : dirOkB dx dy = true
  c1 : 1 ≤ c
  c5 : c ≤ 5
  y0 : 0 ≤ y
  y4 : y ≤ 4
  x0 : 0 ≤ x
  x4 : x ≤ 4
theorem lineOf_c (c : Nat) (dx dy y x : Int) (w : World) (h : LnBd c dx dy y x) : Calls Tryz.prog 164 #[.int .i64 c, DirV dx dy, .int .i64 y, .int .i64 x] w fun e w' => e = .returned (.int .i64 (lnOf c dx dy y x)) ∧ Below w.heap.size w w' := by
  have Hb := Lib.hid (Below.pureAlloc w (.cells #[.int .i64 dx, .int .i64 dy] 73))
  obtain ⟨d1, d2, d3, d4⟩ := dirOkB_bd h.d
  obtain ⟨-, hc1, hc5, hy0, hy4, hx0, hx4⟩ := h
  obtain ⟨p1, p2⟩ := mul_bd1 d1 d2 hy0 hy4
  obtain ⟨q1, q2⟩ := mul_bd2 d3 d4 hx0 hx4
  obtain ⟨r1, r2⟩ := mul_bd2 (y := (c : Int) - 1) d3 d4 (by omega) (by omega)
  have Hr := Lib.hid (show lnOf c dx dy y x = dx * y - dy * x + max 0 (dy * ((c : Int) - 1)) from rfl)
  go_enter Tryz.func164, Tryz.ntmps164
  go_wp2
  all_goals go_ret
  all_goals exact ⟨retI (by rw [Hr.out]; omega), Hb.out⟩
theorem linesOk_c (r c : Nat) (dx dy : Int) (w : World) (hr1 : 1 ≤ r) (hr5 : r ≤ 5) (hc1 : 1 ≤ c) (hc5 : c ≤ 5) : Calls Tryz.prog 228 #[.int .i64 r, .int .i64 c, DirV dx dy] w fun e w' => e = .returned (.bool (dirOkB dx dy)) ∧ Below w.heap.size w w' := by
  have Hb := Lib.hid (Below.pureAlloc w (.cells #[.int .i64 dx, .int .i64 dy] 73))
  have H1 := Lib.hid (show inR 1 5 (r : Int) = true from inR_t (by omega) (by omega))
  have H2 := Lib.hid (show inR 1 5 (c : Int) = true from inR_t (by omega) (by omega))
  go_enter Tryz.func228, Tryz.ntmps228
  go_wp2_with (fail)
  refine (within_c _ _ _ _).mono ?_
  rintro e w' ⟨rfl, rfl⟩
  rw [H1.out]
  go_wp2_with (fail)
  refine (within_c _ _ _ _).mono ?_
  rintro e w' ⟨rfl, rfl⟩
  rw [H2.out]
  go_wp2_with (fail)
  refine (DirectionOk_i _ _ _).mono ?_
  rintro e w2 ⟨rfl, b2⟩
  go_wp2
  go_ret
  exact ⟨rfl, Hb.out.trans_pure b2 (Nat.le_refl _)⟩
theorem mk_run {α : Type} {P : Program} (w : World) (t E : TypeId) {z : Value} {bytes : Nat} (ht : P.underlying t = some (.slice E)) (hinfo : (P.info? E).map (fun i => (i.zero, i.size, i.bytes)) = some (some z, 1, bytes)) (hzs : z.cells = #[z]) (hb64 : bytes ≤ 64) {R : RepT α} (x : α) (hx : R (fun _ => False) w z x) (hR : Rep R)
    (n : Nat) (hn : n ≤ 1099511627776) :
    ∃ w', (Instr.makeSlice t (.int .i64 (n : Int)) (.int .i64 (n : Int))).run P w = .ok (.slice (some ⟨w.heap.size, 0, none⟩) n n) w' ∧ Own E R (fun b => b = w.heap.size) w' (.slice (some ⟨w.heap.size, 0, none⟩) n n) (List.replicate n x) ∧ Below w.heap.size w w' ∧ w'.heap.size = w.heap.size + 1 := by
  obtain ⟨i, hi, hz, hsize, hby⟩ := info_parts hinfo
  have hr := run_make (P := P) w t E i z ht hi hz .i64 .i64 n n (by omega) (Int.le_refl _) (by
    subst hby
    have h : i.bytes * n ≤ 64 * 1099511627776 := Nat.mul_le_mul hb64 hn
    have h' : ((i.bytes * n : Nat) : Int) ≤ 281474976710656 := by omega
    rwa [Int.natCast_mul] at h') (by omega)
  simp only [Int.toNat_natCast] at hr
  refine ⟨_, hr, ?_, Below.pureAlloc w _, by simp⟩
  refine .inr ⟨w.heap.size, madeCells z.cells (n * i.size), by simp [size_madeCells, hsize], rfl, ?_, by simp [size_madeCells, hsize], by simp [size_madeCells, hsize, maxLen]; omega, by simp; omega, fun _ _ => False, fun _ _ h => h.elim, fun _ _ _ h => h.elim, ?_⟩
  · exact heap_alloc_new w _
  · intro k y hk
    have hkn : k < n := by
      have := (List.getElem?_eq_some_iff.1 hk).1
      simpa using this
    have : y = x := by
      rw [List.getElem?_replicate, if_pos hkn] at hk; exact (Option.some.inj hk).symm
    subst this
    refine ⟨z, by simp [madeCells, hsize, hzs, hkn, Nat.mod_one], hR.same (fun _ h => h.elim) hx⟩
theorem below_undrewL {w w2 : World} (h : Below w.drew.heap.size w.drew w2) : Below w.heap.size w w2 := ⟨h.os, h.tape, h.output, h.size, h.block⟩
theorem Upto.mono {a b : Int} {l : List Int} (h : Upto a l) (hab : a ≤ b) : Upto b l := fun v hv => ⟨(h v hv).1, by have := (h v hv).2; omega⟩
theorem lnRow_len (m : List (List Int)) (c : Nat) (dx dy : Int) (y : Nat) : ∀ (k : Nat) (l : List Int), (lnRow m c dx dy y k l).length = l.length
  | 0, _ => rfl
  | k + 1, l => by rw [lnRow, lnRow_len m c dx dy y k, addAt_len]
theorem lnAll_len (m : List (List Int)) (r c : Nat) (dx dy : Int) : ∀ (k : Nat) (l : List Int), (lnAll m r c dx dy k l).length = l.length
  | 0, _ => rfl
  | k + 1, l => by rw [lnAll, lnAll_len m r c dx dy k, lnRow_len]
theorem lineSums_ok {m : List (List Int)} {r c : Nat} {dx dy : Int} (hs : Shape r c m) (hr : 1 ≤ r) (h : imageOk m = true) (hd : dirOkB dx dy = true) : lineSums m dx dy = lnAll m r c dx dy r (List.replicate (nLn r c dx dy).toNat 0) := by
  obtain ⟨e1, e2⟩ := shape_dims hs hr
  unfold lineSums
  rw [if_pos ⟨h, hd⟩, e1, e2]
theorem lineSums_no {m : List (List Int)} {dx dy : Int} (h : ¬ (imageOk m = true ∧ dirOkB dx dy = true)) : lineSums m dx dy = [] := by
  unfold lineSums
  rw [if_neg h]
def LsRes (w : World) (l : List Int) (e : Ending) (w' : World) : Prop := ∃ v, e = .returned v ∧ Own 3 IntV (Iv w.heap.size w'.heap.size) w' v l ∧ Below w.heap.size w w' ∧ ((v = .slice none 0 0 ∧ l = []) ∨ (∃ g c, v = .slice (some ⟨g, 0, none⟩) l.length c ∧ 0 < l.length))
theorem CountLines_i (r c : Nat) (dx dy : Int) (w : World) (hd : dirOkB dx dy = true) (hr1 : 1 ≤ r) (hr5 : r ≤ 5) (hc1 : 1 ≤ c) (hc5 : c ≤ 5) : Calls Tryz.prog 163 #[.int .i64 r, .int .i64 c, DirV dx dy] w fun e w' => e = .returned (.int .i64 (nLn r c dx dy)) ∧ Below w.heap.size w w' := by
  have hBx := Lib.hid (Blk.new w #[.int .i64 dx, .int .i64 dy] 73)
  have hbb := Lib.hid (Below.pureAlloc w (.cells #[.int .i64 dx, .int .i64 dy] 73))
  have hd4 := dirOkB_bd hd
  have hn := nLn_range hd4 hr1 hr5 hc1 hc5
  have hA := lnOf_range (r := r) (c := c) hd4 (y := (r : Int) - 1) (x := 0) (by omega) (by omega) (by omega) (by omega)
  have hB := lnOf_range (r := r) (c := c) hd4 (y := (r : Int) - 1) (x := (c : Int) - 1) (by omega) (by omega) (by omega) (by omega)
  have hA1 : 0 ≤ lnOf c dx dy ((r : Int) - 1) 0 := hA.1
  have hA2 : lnOf c dx dy ((r : Int) - 1) 0 ≤ 25 := by omega
  have hB1 : 0 ≤ lnOf c dx dy ((r : Int) - 1) ((c : Int) - 1) := hB.1
  have hB2 : lnOf c dx dy ((r : Int) - 1) ((c : Int) - 1) ≤ 25 := by omega
  have Hr := Lib.hid (show nLn r c dx dy = max (lnOf c dx dy ((r : Int) - 1) 0) (lnOf c dx dy ((r : Int) - 1) ((c : Int) - 1)) + 1 from rfl)
  have Hd := Lib.hid hd
  clear hd hd4 hn hA hB
  go_enter Tryz.func163, Tryz.ntmps163
  go_wp2_with (fail)
  refine (linesOk_c r c dx dy _ hr1 hr5 hc1 hc5).mono ?_
  rintro e w1 ⟨rfl, b1⟩
  rw [Hd.out]
  have hBx1 : Blk w1 w.heap.size #[.int .i64 dx, .int .i64 dy] 73 := hBx.out.keep b1
  replace hBx := Lib.hid (show Blk w1.drew w.heap.size #[.int .i64 dx, .int .i64 dy] 73 from hBx1)
  replace hbb := Lib.hid (hbb.out.trans_pure b1 (Nat.le_refl _)).drew
  have c0 : w1.cell? ⟨w.heap.size, 0, none⟩ = some (.int .i64 dx) := hBx.out.cell 0
  have c1 : w1.cell? ⟨w.heap.size, 1, none⟩ = some (.int .i64 dy) := hBx.out.cell 1
  have hw1 : IntKind.i64.wrap ((r : Int) - 1) = (r : Int) - 1 := IntWalk.i64_in _ (by omega)
  have hw2 : IntKind.i64.wrap ((c : Int) - 1) = (c : Int) - 1 := IntWalk.i64_in _ (by omega)
  have hw3 : IntKind.i64.wrap (lnOf c dx dy ((r : Int) - 1) 0 + 1) = lnOf c dx dy ((r : Int) - 1) 0 + 1 := IntWalk.i64_in _ (by omega)
  have hw4 : IntKind.i64.wrap (lnOf c dx dy ((r : Int) - 1) ((c : Int) - 1) + 1) = lnOf c dx dy ((r : Int) - 1) ((c : Int) - 1) + 1 := IntWalk.i64_in _ (by omega)
  clear b1 hBx1
  go_wp2
  go_region_with (go_at_call 164; refine (lineOf_c c dx dy _ _ _ ?_).mono ?_; exact ⟨Hd.out, hc1, hc5, by omega, by omega, by omega, by omega⟩; rintro e w2 ⟨rfl, hb2⟩; replace hBx := Lib.hid (hBx.out.keep hb2); replace hbb := Lib.hid (hbb.out.trans_pure hb2 (Nat.le_refl _)); have c0 : w2.cell? ⟨w.heap.size, 0, none⟩ = some (.int .i64 dx) := hBx.out.cell 0; have c1 : w2.cell? ⟨w.heap.size, 1, none⟩ = some (.int .i64 dy) := hBx.out.cell 1)
  all_goals clear hw1 hw2 hw3 hw4
  all_goals go_wp2
  all_goals go_ret
  all_goals exact ⟨retI (by rw [Hr.out, IntKind.wrap_i64]; omega), hbb.out⟩
theorem sumsOn_c (v : Value) (m : List (List Int)) (r c : Nat) (dx dy : Int) (w : World) (hv : Grid w v m) (hs : Shape r c m) (hr1 : 1 ≤ r) (hr5 : r ≤ 5) (hc1 : 1 ≤ c) (hc5 : c ≤ 5) (hd : dirOkB dx dy = true) :
    Calls Tryz.prog 101 #[v, DirV dx dy] w (LsRes w (lnAll m r c dx dy r (List.replicate (nLn r c dx dy).toNat 0))) := by
  have hd4 := dirOkB_bd hd
  have hn := nLn_range hd4 hr1 hr5 hc1 hc5
  obtain ⟨N, hN⟩ : ∃ N : Nat, nLn r c dx dy = N := ⟨(nLn r c dx dy).toNat, by omega⟩
  obtain ⟨F, hF⟩ : ∃ F, F = lnAll m r c dx dy r (List.replicate (nLn r c dx dy).toNat 0) := ⟨_, rfl⟩
  have hFl : F.length = N := by rw [hF, lnAll_len, List.length_replicate, hN]; rfl
  rw [← hF]
  have HF := Lib.hid (show lnAll m r c dx dy r (List.replicate N 0) = F from by rw [hF, hN]; rfl)
  have HFl := Lib.hid hFl
  have HN := Lib.hid hN
  have hN1 : 1 ≤ N := by omega
  have hr0 : 0 < r := by omega
  have hN25 : N ≤ 25 := by omega
  obtain ⟨b, off, cp, rfl, hb, hcl⟩ := hv.cells hs hr1 hc1
  have Hcl := Lib.hid hcl
  obtain ⟨b0, o0, c0', hrow0, hb0, -⟩ := hcl 0 (by omega)
  rw [Nat.add_zero] at hrow0
  obtain ⟨W1, hW1⟩ : ∃ W1, W1 = w.alloc (.cells #[.int .i64 dx, .int .i64 dy] 73) := ⟨_, rfl⟩
  have hB1 : Blk W1 w.heap.size #[.int .i64 dx, .int .i64 dy] 73 := by rw [hW1]; exact Blk.new _ _ _
  have hbb1 : Below w.heap.size w W1 := by rw [hW1]; exact Below.pureAlloc _ _
  have hrow1 := (hbb1.cell (p := ⟨b, off, none⟩) hb).trans hrow0
  have c0 : W1.cell? ⟨w.heap.size, 0, none⟩ = some (.int .i64 dx) := hB1.cell 0
  have c1 : W1.cell? ⟨w.heap.size, 1, none⟩ = some (.int .i64 dy) := hB1.cell 1
  have HBx := Lib.hid hB1
  have Hbb := Lib.hid hbb1
  have Hd := Lib.hid hd
  clear hcl hF hFl hN hn hB1 hbb1 hd hrow0
  go_enter Tryz.func101, Tryz.ntmps101
  go_wp2
  rw [← hW1]
  clear hW1
  go_region_with (go_at_call 163; refine (CountLines_i r c dx dy _ Hd.out hr1 hr5 hc1 hc5).mono ?_; rintro e w2 ⟨rfl, b2⟩; rw [HN.out]; obtain ⟨w3, hmk, o3, b3, z3⟩ := mk_run (P := Tryz.prog) w2 32 3 Tryz.underlying32 infoInt rfl (by decide) (R := IntV) 0 ⟨rfl, I64.small (by decide) (by decide)⟩ rIntV N (by omega))
  all_goals
    have hb3 : Below w.heap.size w w3 := (Hbb.out.trans_pure (by first | exact b2 | exact below_undrewL b2) (Nat.le_refl _)).trans_pure b3 (Nat.le_refl _)
    have HB3 : Hid (Blk w3 w.heap.size #[.int .i64 dx, .int .i64 dy] 73) := Lib.hid ((HBx.out.keep (by first | exact b2 | exact below_undrewL b2)).keep b3)
    have hDlow : w.heap.size < w2.heap.size := Nat.lt_of_lt_of_le HBx.out.lt (Below.size (by first | exact b2 | exact below_undrewL b2 : Below W1.heap.size W1 w2))
    have hDsz : w2.heap.size < w3.heap.size := by omega
    have Ho3 := Lib.hid o3
    have Hb3 := Lib.hid hb3
    clear b2 b3 o3 hmk z3 hb3 c0 c1 hrow1
    go_wp2
    go_loopw [6, 7, 8, 9, 21] (fun _ _ _ _ i wr => ∃ (k : Nat) (l : List Int), k ≤ r ∧ i = .int .i64 k ∧ Hid (lnAll m r c dx dy (r - k) l = F) ∧ Hid (l.length = N) ∧ Hid (Upto ((5 * k : Nat) : Int) l) ∧ Hid (Own 3 IntV (fun b => b = w2.heap.size) wr (.slice (some ⟨w2.heap.size, 0, none⟩) N N) l) ∧ Hid (Blk wr w.heap.size #[.int .i64 dx, .int .i64 dy] 73) ∧ Hid (Below w.heap.size w wr) ∧ w2.heap.size < wr.heap.size) (fun _ _ _ _ i _ => r - (intOf i).toNat)
    case atStart => exact ⟨0, List.replicate N 0, Nat.zero_le _, rfl, HF, Lib.hid (by simp), Lib.hid (fun v hv => by rw [List.mem_replicate] at hv; omega), Ho3, HB3, Hb3, hDsz⟩
    case round =>
      clear Ho3 HB3 Hb3 hDsz
      obtain ⟨k, l, hk, rfl, Hl, Hln, Hup, Ho, HB, Hb, hDs⟩ := hrel
      by_cases hlt : k < r
      · obtain ⟨br, offr, cpr, hrow, hbr, hrx⟩ := Hcl.out k hlt
        have hrow' := (Hb.out.cell (p := ⟨b, off + k, none⟩) hb).trans hrow
        have Hrx := Lib.hid hrx
        have Hl2 := Lib.hid (show lnAll m r c dx dy (r - (k + 1)) (lnRow m c dx dy k c l) = F from by rw [← lnAll_step hlt]; exact Hl.out)
        have hdk : decide ((k : Int) < (r : Int)) = true := by simp; omega
        clear hrow hrx
        go_wp2
        clear hrow'
        go_loopw [8, 9, 28] (fun _ _ i wr => ∃ (x : Nat) (l : List Int), x ≤ c ∧ i = .int .i64 x ∧ Hid (lnAll m r c dx dy (r - (k + 1)) (lnRow m c dx dy k (c - x) l) = F) ∧ Hid (l.length = N) ∧ Hid (Upto ((5 * k + x : Nat) : Int) l) ∧ Hid (Own 3 IntV (fun b => b = w2.heap.size) wr (.slice (some ⟨w2.heap.size, 0, none⟩) N N) l) ∧ Hid (Blk wr w.heap.size #[.int .i64 dx, .int .i64 dy] 73) ∧ Hid (Below w.heap.size w wr) ∧ w2.heap.size < wr.heap.size) (fun _ _ i _ => c - (intOf i).toNat)
        case atStart => exact ⟨0, l, Nat.zero_le _, rfl, Lib.hid (by rw [Nat.sub_zero]; exact Hl2.out), Hln, Hup, Ho, HB, Hb, hDs⟩
        case round =>
          clear Hl Hl2 Hln Hup Ho HB Hb hDs
          obtain ⟨x, l, hx, rfl, Hl, Hln, Hup, Ho, HB, Hb, hDs⟩ := hrel
          by_cases hlt2 : x < c
          · have hcell := (Hb.out.cell (p := ⟨br, offr + x, none⟩) hbr).trans (Hrx.out x hlt2)
            have hbit := at2_bits hs k x
            have hrng := lnOf_range (r := r) (c := c) hd4 (y := (k : Int)) (x := (x : Int)) (by omega) (by omega) (by omega) (by omega)
            obtain ⟨z, hz⟩ : ∃ z, z = at2 m k x := ⟨_, rfl⟩
            rw [← hz] at hcell hbit
            obtain ⟨K, hK⟩ : ∃ K : Nat, lnOf c dx dy k x = K := ⟨(lnOf c dx dy k x).toNat, by omega⟩
            have hKN : K < N := by have := HN.out; omega
            have Hl3 := Lib.hid (show lnAll m r c dx dy (r - (k + 1)) (lnRow m c dx dy k (c - (x + 1)) (addAt l K z)) = F from by
              have h := Hl.out
              rw [lnRow_step hlt2, hK, ← hz] at h
              exact h)
            have HK := Lib.hid hK
            have hat : l[K]? = some (l.getD K 0) := gD_at 0 (by rw [Hln.out]; exact hKN)
            have hvb := Hup.out _ (List.mem_of_getElem? hat)
            have Hup2 := Lib.hid (show Upto ((5 * k + (x + 1) : Nat) : Int) (addAt l K z) from by
              have h := Hup.out.add (k := K) (v := z) (by rw [Hln.out]; exact hKN) hbit.1 hbit.2
              have e : ((5 * k + x : Nat) : Int) + 1 = ((5 * k + (x + 1) : Nat) : Int) := by omega
              rwa [e] at h)
            have Hln2 := Lib.hid (show (addAt l K z).length = N from by rw [addAt_len]; exact Hln.out)
            obtain ⟨u, hu⟩ : ∃ u, u = l.getD K 0 := ⟨_, rfl⟩
            rw [← hu] at hat hvb
            have Hadd := Lib.hid (show l.set K (u + z) = addAt l K z from by rw [hu]; rfl)
            have hz0 := hbit.1
            have hz1 := hbit.2
            have hu0 := hvb.1
            have hu1 : u ≤ 50 := by omega
            have c0 : wr.cell? ⟨w.heap.size, 0, none⟩ = some (.int .i64 dx) := HB.out.cell 0
            have c1 : wr.cell? ⟨w.heap.size, 1, none⟩ = some (.int .i64 dy) := HB.out.cell 1
            have Hat := Lib.hid hat
            clear hz hK hbit hvb hrng hu hat
            go_wp2_with (fail)
            refine (lineOf_c c dx dy k x _ ⟨Hd.out, hc1, hc5, by omega, by omega, by omega, by omega⟩).mono ?_
            rintro e w5 ⟨rfl, b5⟩
            rw [HK.out]
            have o5 := (rOwn rIntV).same (sameOn_below b5 fun b hb => by have : b = w2.heap.size := hb; omega) Ho.out
            obtain ⟨e1, e2, -⟩ := o5.ints_cell Hat.out
            have o6 := o5.setInt (k := K) (by rw [Hln.out]; exact hKN) (c := u + z) (I64.small (by omega) (by omega))
            rw [Hadd.out] at o6
            have Ho6 := Lib.hid o6
            have HB6 := Lib.hid ((HB.out.keep b5).set_ne (g' := w2.heap.size) (j := K) (by omega) (.int .i64 (u + z)))
            have Hb6 := Lib.hid ((Hb.out.trans_pure b5 (Nat.le_refl _)).setCell (p := ⟨w2.heap.size, K, none⟩) (by show w.heap.size ≤ w2.heap.size; omega) (.int .i64 (u + z)))
            have hs5 := b5.size
            clear o5 o6 b5 c0 c1 hcell
            go_wp2
            go_roundw
            case rel => exact ⟨x + 1, addAt l K z, by omega, by go_num, Hl3, Hln2, Hup2, Ho6, HB6, Hb6, by rw [size_setCell]; omega⟩
            case measure => simp [intOf]; omega
          · obtain rfl : x = c := by omega
            have Hl3 := Lib.hid (show lnAll m r x dx dy (r - (k + 1)) l = F from by
              have h := Hl.out
              rw [Nat.sub_self] at h
              exact h)
            have Hup2 := Lib.hid (show Upto ((5 * (k + 1) : Nat) : Int) l from Hup.out.mono (by omega))
            go_wp2
            go_roundw
            case rel => exact ⟨k + 1, l, by omega, by go_num, Hl3, Hln, Hup2, Ho, HB, Hb, hDs⟩
            case measure => simp [intOf]; omega
      · obtain rfl : k = r := by omega
        have Hfin := Lib.hid (show l = F from by
          have h := Hl.out
          rw [Nat.sub_self] at h
          exact h)
        go_wp2
        go_ret
        refine ⟨.slice (some ⟨w2.heap.size, 0, none⟩) N N, rfl, ?_, Hb.out, .inr ⟨w2.heap.size, N, by rw [HFl.out], by rw [HFl.out]; omega⟩⟩
        rw [← Hfin.out]
        exact (rOwn rIntV).mono (fun b hb => ⟨by have : b = w2.heap.size := hb; omega, by have : b = w2.heap.size := hb; omega⟩) Ho.out
theorem LineSums_i (v : Value) (m : List (List Int)) (dx dy : Int) (w : World) (hv : Grid w v m) : Calls Tryz.prog 42 #[v, DirV dx dy] w (LsRes w (lineSums m dx dy)) := by
  have hb0 := Below.pureAlloc w (.cells #[.int .i64 dx, .int .i64 dy] 73)
  have Hv := Lib.hid (hv.keep hb0)
  have Hb0 := Lib.hid hb0
  have HBx := Lib.hid (Blk.new w #[.int .i64 dx, .int .i64 dy] 73)
  obtain ⟨a, cap0, rfl, -⟩ := id hv
  clear hb0
  cases hok : imageOk m
  · have Hr := Lib.hid (lineSums_no (m := m) (dx := dx) (dy := dy) (by rw [hok]; simp))
    have Hok := Lib.hid hok
    clear hok
    go_enter Tryz.func42, Tryz.ntmps42
    go_wp2_with (fail)
    refine (ImageOk_i _ _ _ Hv.out).mono ?_
    rintro e w' ⟨rfl, rfl⟩
    rw [Hok.out]
    go_wp2
    go_ret
    exact ⟨_, rfl, by rw [Hr.out]; exact Own.nil _ _ _ _, Hb0.out, .inl ⟨rfl, Hr.out⟩⟩
  obtain ⟨r, c, hr1, hr5, hc1, hc5, hs⟩ := imageOk_shape hok
  have Hok := Lib.hid hok
  cases hd : dirOkB dx dy
  · have Hr := Lib.hid (lineSums_no (m := m) (dx := dx) (dy := dy) (by rw [hd]; simp))
    have Hd := Lib.hid hd
    clear hok hd
    go_enter Tryz.func42, Tryz.ntmps42
    go_wp2_with (fail)
    refine (ImageOk_i _ _ _ Hv.out).mono ?_
    rintro e w' ⟨rfl, rfl⟩
    rw [Hok.out]
    go_wp2_with (fail)
    refine (DirectionOk_i _ _ _).mono ?_
    rintro e w2 ⟨rfl, b2⟩
    rw [Hd.out]
    go_wp2
    go_ret
    exact ⟨_, rfl, by rw [Hr.out]; exact Own.nil _ _ _ _, Hb0.out.trans_pure b2 (Nat.le_refl _), .inl ⟨rfl, Hr.out⟩⟩
  · rw [lineSums_ok hs hr1 hok hd]
    have Hd := Lib.hid hd
    clear hok hd
    go_enter Tryz.func42, Tryz.ntmps42
    go_wp2_with (fail)
    refine (ImageOk_i _ _ _ Hv.out).mono ?_
    rintro e w' ⟨rfl, rfl⟩
    rw [Hok.out]
    go_wp2_with (fail)
    refine (DirectionOk_i _ _ _).mono ?_
    rintro e w2 ⟨rfl, b2⟩
    rw [Hd.out]
    have HB2 := Lib.hid (HBx.out.keep b2)
    have c0 : w2.cell? ⟨w.heap.size, 0, none⟩ = some (.int .i64 dx) := HB2.out.cell 0
    have c1 : w2.cell? ⟨w.heap.size, 1, none⟩ = some (.int .i64 dy) := HB2.out.cell 1
    have Hb2 := Lib.hid (Hb0.out.trans_pure b2 (Nat.le_refl _))
    have Hv2 := Lib.hid (Hv.out.keep b2)
    clear b2
    go_wp2_with (fail)
    refine (sumsOn_c _ m r c dx dy _ Hv2.out hs hr1 hr5 hc1 hc5 Hd.out).mono ?_
    rintro e w3 ⟨v3, rfl, o3, b3, h3⟩
    obtain ⟨t1, t2, t3, rfl⟩ := o3.shape
    have Ho3 := Lib.hid ((rOwn rIntV).mono (S' := Iv w.heap.size w3.heap.size) (fun b hb => ⟨by have := hb.1; have := Hb2.out.size; omega, hb.2⟩) o3)
    have Hb3 := Lib.hid (Hb2.out.trans_pure b3 (Nat.le_refl _))
    have H3 := Lib.hid h3
    clear o3 b3 h3
    go_wp2
    go_ret
    exact ⟨_, rfl, Ho3.out, Hb3.out, H3.out⟩
end Go.Proofs.YthmocomfjgmjoaaGreatDoor

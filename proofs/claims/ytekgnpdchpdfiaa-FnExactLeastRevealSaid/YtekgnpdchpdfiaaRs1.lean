/- Contracts: the images that agree (reference): l12Agrees, l12Count, l12Next, l12Insert. -/
import Derived.Test.YtekgnpdchpdfiaaRv3
import Derived.Test.YtekgnpdchpdfiaaX7
namespace Go.Proofs.Ytekgnpdchpdfiaa
open Go.RowKit

theorem insS_none {n : Int} : ∀ {p : List Int}, (∀ x ∈ p, ¬ n < x) → insS n p = p ++ [n]
  | [], _ => rfl
  | x :: p, h => by
    unfold insS
    rw [if_neg (h x (by simp)), insS_none (fun y hy => h y (by simp [hy]))]; rfl
theorem insS_first {n x : Int} : ∀ {p : List Int}, (∀ x ∈ p, ¬ n < x) → n < x → insS n (p ++ [x]) = p ++ [n] ++ [x]
  | [], _, hx => by simp [insS, hx]
  | y :: p, h, hx => by
    rw [List.cons_append]
    unfold insS
    rw [if_neg (h y (by simp)), insS_first (fun z hz => h z (by simp [hz])) hx]; simp
theorem insS_later {n x : Int} : ∀ {p : List Int}, (∃ y ∈ p, n < y) → insS n (p ++ [x]) = insS n p ++ [x]
  | [], h => by obtain ⟨y, hy, -⟩ := h; cases hy
  | y :: p, h => by
    rw [List.cons_append]
    unfold insS
    by_cases hy : n < y
    · rw [if_pos hy, if_pos hy]; simp
    · rw [if_neg hy, if_neg hy, insS_later (p := p) (by
        obtain ⟨z, hz, hlt⟩ := h
        rcases List.mem_cons.1 hz with rfl | hz
        · exact absurd hlt hy
        · exact ⟨z, hz, hlt⟩)]; simp
/-- what the insertion has after some numbers -/
def InsSt (n : Int) (p out : List Int) (done : Bool) : Prop := (done = false ∧ out = p ∧ ∀ x ∈ p, ¬ n < x) ∨ (done = true ∧ out = insS n p ∧ ∃ x ∈ p, n < x)
theorem InsSt.end {n : Int} {p out : List Int} (h : InsSt n p out false) : insS n p = out ++ [n] := by
  rcases h with ⟨-, h1, h2⟩ | ⟨h, -⟩
  · rw [h1, insS_none h2]
  · cases h
theorem InsSt.len {n : Int} {p out : List Int} {d : Bool} (h : InsSt n p out d) : out.length ≤ p.length + 1 := by
  rcases h with ⟨-, h1, -⟩ | ⟨-, h1, -⟩
  · rw [h1]; omega
  · rw [h1, (insS_perm n p).length_eq]; simp
theorem InsSt.put {n x : Int} {p out : List Int} (h : InsSt n p out false) (hx : n < x) : InsSt n (p ++ [x]) (out ++ [n] ++ [x]) true := by
  rcases h with ⟨-, h1, h2⟩ | ⟨h, -⟩
  · exact .inr ⟨rfl, by rw [h1, insS_first h2 hx], x, by simp, hx⟩
  · cases h
theorem InsSt.skip {n x : Int} {p out : List Int} (h : InsSt n p out false) (hx : ¬ n < x) : InsSt n (p ++ [x]) (out ++ [x]) false := by
  rcases h with ⟨-, h1, h2⟩ | ⟨h, -⟩
  · refine .inl ⟨rfl, by rw [h1], fun y hy => ?_⟩
    rcases List.mem_append.1 hy with hy | hy
    · exact h2 y hy
    · rw [List.mem_singleton] at hy; rw [hy]; exact hx
  · cases h
theorem InsSt.more {n x : Int} {p out : List Int} (h : InsSt n p out true) : InsSt n (p ++ [x]) (out ++ [x]) true := by
  rcases h with ⟨h, -⟩ | ⟨-, h1, y, hy, hlt⟩
  · cases h
  · exact .inr ⟨rfl, by rw [h1, insS_later ⟨y, hy, hlt⟩], y, List.mem_append_left _ hy, hlt⟩
theorem cntA_take {c : Nat} {L : List (List (List Int))} {m : List (List Int)} {cells : List Int} {k : Nat} {x : List (List Int)} (h : L[k]? = some x) : cntA c (L.take (k + 1)) m cells = cntA c (L.take k) m cells + if agreesB c m x cells then 1 else 0 := by
  unfold cntA
  rw [agreeing_take h, List.length_append]
  split <;> rfl
theorem cntA_le (c : Nat) (L : List (List (List Int))) (m : List (List Int)) (cells : List Int) : cntA c L m cells ≤ L.length := List.length_filter_le _ _
set_option maxRecDepth 100000 in
set_option maxHeartbeats 4000000 in
theorem l12Agrees_c (v v2 v3 : Value) (m x : List (List Int)) (cells : List Int) (r c : Nat) (w : World) (hv : Grid w v m) (hv2 : Grid w v2 x) (hv3 : Ints w v3 cells) (hs : Shape r c m) (hsx : Shape r c x) (hr1 : 1 ≤ r) (hr5 : r ≤ 5) (hc1 : 1 ≤ c) (hc5 : c ≤ 5) (hcb : ∀ n ∈ cells, 0 ≤ n ∧ n < ((r * c : Nat) : Int)) (hcl : cells.length ≤ 1000) : Calls Try.prog 114 #[v, v2, v3] w fun e w' => e = .returned (.bool (agreesB c m x cells)) ∧ Below w.heap.size w w' := by
  obtain ⟨b, off, cp, rfl, hb, hmc⟩ := hv.cells hs hr1 hc1
  obtain ⟨b2, off2, cp2, rfl, hb2, hxc⟩ := hv2.cells hsx hr1 hc1
  obtain ⟨b0, o0, c0, hc0, hb0, -⟩ := hmc 0 (by omega)
  rw [Nat.add_zero] at hc0
  have Hmc := Lib.hid hmc
  have Hxc := Lib.hid hxc
  have Hc0 := Lib.hid hc0
  have Hv3 := Lib.hid hv3
  have Hcb := Lib.hid hcb
  obtain ⟨a3, cap3, rfl, -⟩ := hv3
  clear hmc hxc hc0 hv hv2 hcb
  go_enter Try.func114, Try.ntmps114
  go_wp2
  go_loopw [8, 11] (fun _ i wr => ∃ j : Nat, j ≤ cells.length ∧ i = .int .i64 j ∧ Hid (agreesB c m x (cells.take j) = true) ∧ Hid (Below w.heap.size w wr)) (fun _ i _ => cells.length - (intOf i).toNat)
  case atStart => exact ⟨0, Nat.zero_le _, rfl, rfl, Below.refl _ _⟩
  case round =>
    obtain ⟨j, hj, rfl, Hag, Hb⟩ := hrel
    by_cases hlt : j < cells.length
    · obtain ⟨n0, hn0⟩ : ∃ n, cells[j]? = some n := ⟨_, List.getElem?_eq_getElem hlt⟩
      have hnb := Hcb.out n0 (List.mem_of_getElem? hn0)
      obtain ⟨n, rfl⟩ : ∃ n : Nat, n0 = n := ⟨n0.toNat, by omega⟩
      have hnN : n < r * c := by omega
      have hky : n / c < r := by rw [Nat.div_lt_iff_lt_mul (by omega)]; exact hnN
      have hkx : n % c < c := Nat.mod_lt _ (by omega)
      have Hst := Lib.hid (agreesB_take (c := c) (m := m) (x := x) hn0)
      have Hall := Lib.hid (show ∀ z, agreesB c m x (cells.take (j + 1)) = z → z = false → agreesB c m x cells = false from fun z hz hf => by
        rw [hf] at hz
        unfold agreesB at hz ⊢
        rw [List.all_eq_false] at hz ⊢
        obtain ⟨y, hy, hyn⟩ := hz
        exact ⟨y, List.mem_of_mem_take hy, hyn⟩)
      obtain ⟨bc, offc, cpc, hec, hbc, -⟩ := Hv3.out.inv_ne (by omega)
      obtain ⟨rfl, -⟩ : a3 = some ⟨bc, offc, none⟩ ∧ cap3 = cpc := by simpa using hec
      have hcn := (Hb.out.cell (p := ⟨bc, offc + j, none⟩) hbc).trans (Ints.at Hv3.out hn0)
      obtain ⟨q1, f1, p1, m1, hq1, m2⟩ := Hmc.out (n / c) hky
      obtain ⟨q2, f2, p2, x1, hq2, x2⟩ := Hxc.out (n / c) hky
      have m0 := (Hb.out.cell (p := ⟨b, off, none⟩) hb).trans Hc0.out
      have m1 := (Hb.out.cell (p := ⟨b, off + n / c, none⟩) hb).trans m1
      have m2 := (Hb.out.cell (p := ⟨q1, f1 + n % c, none⟩) hq1).trans (m2 (n % c) hkx)
      have x1 := (Hb.out.cell (p := ⟨b2, off2 + n / c, none⟩) hb2).trans x1
      have x2 := (Hb.out.cell (p := ⟨q2, f2 + n % c, none⟩) hq2).trans (x2 (n % c) hkx)
      have hi1 : (0 : Int) ≤ (n : Int) / (c : Int) := Int.ediv_nonneg (by omega) (by omega)
      have hi2 : (n : Int) / (c : Int) < (r : Int) := by rw [← Int.natCast_ediv]; omega
      have hi3 : (0 : Int) ≤ (n : Int) % (c : Int) := Int.emod_nonneg _ (by omega)
      have hi4 : (n : Int) % (c : Int) < (c : Int) := Int.emod_lt_of_pos _ (by omega)
      obtain ⟨z1, hz1⟩ : ∃ z, z = at2 x (n / c) (n % c) := ⟨_, rfl⟩
      obtain ⟨z2, hz2⟩ : ∃ z, z = at2 m (n / c) (n % c) := ⟨_, rfl⟩
      rw [← hz1] at x2 Hst
      rw [← hz2] at m2 Hst
      clear hz1 hz2 hn0 hnb hec
      by_cases hz : z1 = z2
      · have hze : (z2 != z1) = false := by simp [hz]
        have Hs2 := Lib.hid (show agreesB c m x (cells.take (j + 1)) = true from by rw [Hst.out, Hag.out, decide_eq_true hz]; rfl)
        clear hz
        go_wp2
        go_region
        all_goals
          go_wp2
          go_roundw
          case rel => exact ⟨j + 1, by omega, by go_num, Hs2, Lib.hid Hb.out.drew⟩
          case measure => simp [intOf]; omega
      · have hze : (z2 != z1) = true := by rw [bne_iff_ne]; exact fun e => hz e.symm
        have Hf := Lib.hid (Hall.out _ Hst.out (by rw [Hag.out, decide_eq_false hz]; rfl))
        clear hz
        go_wp2
        go_region
        all_goals
          go_wp2
          go_ret
          exact ⟨retB Hf.out.symm, Hb.out.drew⟩
    · obtain rfl : j = cells.length := by omega
      rw [List.take_length] at Hag
      go_wp2
      go_ret
      exact ⟨retB Hag.out.symm, Hb.out⟩
set_option maxRecDepth 100000 in
set_option maxHeartbeats 1000000 in
theorem l12Count_c (v v2 v3 : Value) (L : List (List (List Int))) (m : List (List Int)) (cells : List Int) (r c : Nat) (w : World) (hv : Grids w v L) (hv2 : Grid w v2 m) (hv3 : Ints w v3 cells) (hs : Shape r c m) (hL : ∀ g ∈ L, Shape r c g) (hbig : L.length ≤ 1073741824) (hr1 : 1 ≤ r) (hr5 : r ≤ 5) (hc1 : 1 ≤ c) (hc5 : c ≤ 5) (hcb : ∀ n ∈ cells, 0 ≤ n ∧ n < ((r * c : Nat) : Int)) (hcl : cells.length ≤ 1000) : Calls Try.prog 82 #[v, v2, v3] w fun e w' => e = .returned (.int .i64 (cntA c L m cells)) ∧ Below w.heap.size w w' := by
  have Hv := Lib.hid hv
  have Hv2 := Lib.hid hv2
  have Hv3 := Lib.hid hv3
  have HLs := Lib.hid hL
  have Hcb := Lib.hid hcb
  obtain ⟨a, cap, rfl, -⟩ := id hv
  obtain ⟨a2, cap2, rfl, -⟩ := hv2
  obtain ⟨a3, cap3, rfl, -⟩ := hv3
  obtain ⟨N, hN⟩ : ∃ N, N = L.length := ⟨_, rfl⟩
  rw [← hN] at Hv hbig ⊢
  have HN := Lib.hid hN
  clear hL hcb hv hN
  go_enter Try.func82, Try.ntmps82
  go_wp2
  go_loopw [7, 9, 12] (fun n _ i wr => ∃ k : Nat, k ≤ N ∧ i = .int .i64 k ∧ n = .int .i64 (cntA c (L.take k) m cells) ∧ Hid (Below w.heap.size w wr)) (fun _ _ i _ => N - (intOf i).toNat)
  case atStart => exact ⟨0, Nat.zero_le _, rfl, by simp [cntA, agreeing], Below.refl _ _⟩
  case round =>
    obtain ⟨k, hk, rfl, rfl, Hb⟩ := hrel
    have hcn := cntA_le c (L.take k) m cells
    rw [List.length_take] at hcn
    obtain ⟨C, hC⟩ : ∃ C, C = cntA c (L.take k) m cells := ⟨_, rfl⟩
    rw [← hC] at hcn ⊢
    have HC := Lib.hid hC
    clear hC
    by_cases hlt : k < N
    · obtain ⟨x, hx⟩ : ∃ x, L[k]? = some x := ⟨_, List.getElem?_eq_getElem (by rw [← HN.out]; exact hlt)⟩
      have hxs := HLs.out x (List.mem_of_getElem? hx)
      obtain ⟨bl, ol, cl, he, hbl, -⟩ := Hv.out.inv_ne (by rw [← HN.out]; omega)
      obtain ⟨rfl, -⟩ : a = some ⟨bl, ol, none⟩ ∧ cap = cl := by
        simp only [Value.slice.injEq] at he
        exact ⟨he.1, he.2.2⟩
      obtain ⟨u, hck, hu⟩ := Sl.at Hv.out hx
      have Hu := Lib.hid (show Grid w u x from hu)
      obtain ⟨ua, uc, rfl, -⟩ := hu
      have hck := (Hb.out.cell (p := ⟨bl, ol + k, none⟩) hbl).trans hck
      have Hst := Lib.hid (cntA_take (c := c) (m := m) (cells := cells) hx)
      rw [← HC.out] at Hst
      clear hx he
      go_wp2_with (fail)
      refine (l12Agrees_c _ _ _ m x cells r c _ (Hv2.out.keep Hb.out) (Hu.out.keep Hb.out) (Hv3.out.keep Hb.out) hs hxs hr1 hr5 hc1 hc5 Hcb.out hcl).mono ?_
      rintro e w1 ⟨rfl, b1⟩
      have Hb1 := Lib.hid (Hb.out.trans_pure b1 (Nat.le_refl _))
      obtain ⟨ag, hag⟩ : ∃ ag, ag = agreesB c m x cells := ⟨_, rfl⟩
      rw [← hag] at Hst ⊢
      clear hag
      cases ag
      · have Hs2 := Lib.hid (show cntA c (L.take (k + 1)) m cells = C from by rw [Hst.out]; rfl)
        go_wp2
        go_roundw
        case rel => exact ⟨k + 1, by omega, by go_num, by rw [Hs2.out], Hb1⟩
        case measure => simp [intOf]; omega
      · have Hs2 := Lib.hid (show cntA c (L.take (k + 1)) m cells = C + 1 from by rw [Hst.out]; rfl)
        go_wp2
        go_roundw
        case rel => exact ⟨k + 1, by omega, by go_num, by rw [Hs2.out]; go_num, Hb1⟩
        case measure => simp [intOf]; omega
    · obtain rfl : k = N := by omega
      have Hfin := Lib.hid (show (C : Int) = (cntA c L m cells : Nat) from by rw [HC.out, List.take_of_length_le (by rw [← HN.out]; exact Nat.le_refl _)])
      go_wp2
      go_ret
      exact ⟨retI Hfin.out, Hb.out⟩
end Go.Proofs.Ytekgnpdchpdfiaa
